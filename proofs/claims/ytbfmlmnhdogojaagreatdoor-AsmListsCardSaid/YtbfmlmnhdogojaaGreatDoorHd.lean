/- Listing: contract. -/
import Derived.Test.YtbfmlmnhdogojaaGreatDoorHa
import Derived.Test.YtbfmlmnhdogojaaGreatDoorFo
import Derived.Test.YtbfmlmnhdogojaaGreatDoorEn
import Derived.RangeFuncLeaves
import Derived.Test.YtbfmlmnhdogojaaGreatDoorGk
import Derived.Laws.BytesArg
namespace Go.Proofs.YtbfmlmnhdogojaaGreatDoor
open Go.RowKit Go.Shelf
attribute [local go_sem] Oper.semAt_some

/-- What has been written behind some parts. -/
def doneL (xs : List Int) : Nat → List UInt8
  | 0 => []
  | k + 1 => doneL xs k ++ (match xs.drop (4 * k) with
    | a :: b :: c :: d :: _ => (lineW (wordI a b c d)).data.toList ++ [10]
    | [] => []
    | l => restL l)
/-- What stays on the way. -/
structure JG (w : World) (xs : List Int) (Bs Bn S R : Nat) (r : Loop) (c : Nat) (A : Option Addr) (W : World) : Prop where
  lp : W.heap[S + 1]? = some (.loop r)
  dfr : W.heap[S]? = some (.deferred (some []))
  bs : Cells W Bs 24 #[.slice A xs.length c]
  bn : Cells W Bn 3 #[.int .i64 4]
  low : Below w.heap.size w W
  hR : R ≤ W.heap.size
/-- The listing on the way. -/
def JL (w : World) (xs : List Int) (Bs Bn S R : Nat) (r : Loop) (c : Nat) (A : Option Addr) (k : Nat) (W : World) : Prop := JG w xs Bs Bn S R r c A W ∧ ∃ v, BldO W R w.heap.size v (doneL xs k)
theorem drop_cons {α : Type} {l : List α} {i : Nat} {x : α} (h : l[i]? = some x) : l.drop i = x :: l.drop (i + 1) := by
  have hl := (List.getElem?_eq_some_iff.1 h).1
  rw [List.drop_eq_getElem_cons hl]
  rw [List.getElem?_eq_getElem hl] at h
  rw [Option.some.inj h]
theorem textB_size {op a b n : Int} (h : mayL op a b n = true) : (textB op a b n).size ≤ 200 := by
  obtain ⟨hop, ha, hb, hn⟩ := may_bounds h
  have h1 := join_len (u := usesL op) ha hb hn
  have h2 := name_size hop
  unfold textB
  split
  · omega
  · rw [ByteArray.size_append, ByteArray.size_append]
    have e1 : (ByteArray.mk (Lib.join ((txL (usesL op) a b n 3).map (·.data.toList)) [44, 32]).toArray).size = (Lib.join ((txL (usesL op) a b n 3).map (·.data.toList)) [44, 32]).length := by simp [ByteArray.size]
    have e2 : (ByteArray.mk #[32]).size = 1 := rfl
    omega
theorem lineW_size {x : Int} (h0 : 0 ≤ x) (h1 : x < 4294967296) : (lineW x).size ≤ 200 := by
  unfold lineW
  split
  · exact textB_size (by assumption)
  · rw [ByteArray.size_append]
    have := itoaB_size (n := x) (by omega) (by omega)
    have e2 : (ByteArray.mk #[119, 111, 114, 100, 32]).size = 5 := rfl
    omega
theorem restL_len : ∀ (l : List Int), (∀ x ∈ l, 0 ≤ x ∧ x < 256) → (restL l).length ≤ 5 + 21 * l.length := fun l h => by
  have key : ∀ l : List Int, (∀ x ∈ l, 0 ≤ x ∧ x < 256) → (l.flatMap (fun x => (32 : UInt8) :: (itoaB x).data.toList)).length ≤ 21 * l.length := by
    intro l
    induction l with
    | nil => intro _; simp
    | cons a l ih =>
      intro h
      have h1 := itoaB_size (n := a) (by have := h a (by simp); omega) (by have := h a (by simp); omega)
      have h2 := ih (fun x hx => h x (by simp [hx]))
      have h3 : (itoaB a).data.toList.length = (itoaB a).size := rfl
      rw [List.flatMap_cons, List.length_append, List.length_cons, List.length_cons, h3]
      omega
  have := key l h
  unfold restL
  simp only [List.length_append, List.length_cons, List.length_nil]
  omega
theorem flat_len : ∀ l : List Int, (∀ x ∈ l, 0 ≤ x ∧ x < 256) → (l.flatMap (fun x => (32 : UInt8) :: (itoaB x).data.toList)).length ≤ 21 * l.length
  | [], _ => by simp
  | a :: l, h => by
    have h1 := itoaB_size (n := a) (by have := h a (by simp); omega) (by have := h a (by simp); omega)
    have h2 := flat_len l (fun x hx => h x (by simp [hx]))
    have h3 : (itoaB a).data.toList.length = (itoaB a).size := rfl
    rw [List.flatMap_cons, List.length_append, List.length_cons, List.length_cons, h3]
    omega
theorem doneL_len {xs : List Int} (hx : ∀ x ∈ xs, 0 ≤ x ∧ x < 256) : ∀ k : Nat, (doneL xs k).length ≤ 300 * k
  | 0 => Nat.le_refl _
  | k + 1 => by
    have ih := doneL_len hx k
    have hd : ∀ x ∈ xs.drop (4 * k), 0 ≤ x ∧ x < 256 := fun x h => hx x (List.mem_of_mem_drop h)
    unfold doneL
    rw [List.length_append]
    split
    · rename_i a b c d l e
      rw [e] at hd
      have h0 := hd a (by simp)
      have h1 := hd b (by simp)
      have h2 := hd c (by simp)
      have h3 := hd d (by simp)
      have := lineW_size (x := wordI a b c d) (by unfold wordI; omega) (by unfold wordI; omega)
      have e2 : (lineW (wordI a b c d)).data.toList.length = (lineW (wordI a b c d)).size := rfl
      rw [List.length_append, e2]
      simp only [List.length_cons, List.length_nil]
      omega
    · simp; omega
    · rename_i l h1 h2
      have hl : (xs.drop (4 * k)).length ≤ 3 := by
        match hm : xs.drop (4 * k) with
        | [] => simp
        | [a] => simp
        | [a, b] => simp
        | [a, b, c] => simp
        | a :: b :: c :: d :: l => exact absurd hm (by first | exact h1 a b c d l | exact h2 a b c d l)
      have := restL_len _ hd
      omega
theorem doneL_step (xs : List Int) : ∀ (n k : Nat), xs.length ≤ 4 * k + n → doneL xs k ++ listL (xs.drop (4 * k)) = doneL xs (k + 1) ++ listL (xs.drop (4 * (k + 1))) := fun n k _ => by
  have hd : xs.drop (4 * (k + 1)) = (xs.drop (4 * k)).drop 4 := by rw [List.drop_drop]; rfl
  rw [hd]
  show _ = (doneL xs k ++ _) ++ _
  rw [List.append_assoc]
  congr 1
  match xs.drop (4 * k) with
  | [] => rfl
  | [a] => simp [listL]
  | [a, b] => simp [listL]
  | [a, b, c] => simp [listL]
  | a :: b :: c :: d :: l => simp [listL]
theorem doneL_eq (xs : List Int) : ∀ k : Nat, listL xs = doneL xs k ++ listL (xs.drop (4 * k))
  | 0 => by simp [doneL]
  | k + 1 => by rw [doneL_eq xs k]; exact doneL_step xs xs.length k (by omega)
theorem doneL_all (xs : List Int) (k : Nat) (h : xs.length ≤ 4 * k) : doneL xs k = listL xs := by
  rw [doneL_eq xs k, List.drop_of_length_le h]
  simp [listL]
theorem or_low (i : Nat) (x y : Int) (hx0 : 0 ≤ x) (hx : x < 2 ^ i) (hy0 : 0 ≤ y) (hy : y % 2 ^ i = 0) (hy1 : y < 4294967296) (hi : (2 : Int) ^ i ≤ 4294967296) : bits .or .u32 x y = x + y := by
  have c : bits .or .u32 x y = bits .or .u32 y x := by
    unfold bits
    simp only [BitVec.or_comm]
  rw [c, or_u32 i y x hy0 hy hy1 hx0 hx (by omega)]
  omega
theorem word_of {a b c d : Int} (ha : 0 ≤ a ∧ a < 256) (hb : 0 ≤ b ∧ b < 256) (hc : 0 ≤ c ∧ c < 256) (hd : 0 ≤ d ∧ d < 256) :
    bits .or .u32 a (b * 256) = a + 256 * b ∧ bits .or .u32 (a + 256 * b) (c * 65536) = a + 256 * b + 65536 * c ∧ bits .or .u32 (a + 256 * b + 65536 * c) (d * 16777216) = wordI a b c d := by
  refine ⟨?_, ?_, ?_⟩
  · rw [or_low 8 a (b * 256) (by omega) (by omega) (by omega) (by omega) (by omega) (by omega)]; omega
  · rw [or_low 16 (a + 256 * b) (c * 65536) (by omega) (by omega) (by omega) (by omega) (by omega) (by omega)]; omega
  · rw [or_low 24 (a + 256 * b + 65536 * c) (d * 16777216) (by omega) (by omega) (by omega) (by omega) (by omega) (by omega)]; unfold wordI; omega
section
variable {w W W' : World} {xs : List Int} {Bs Bn S R c k : Nat} {r : Loop} {A : Option Addr}
/-- The order of the blocks. -/
structure OL (w : World) (Bs Bn S R : Nat) : Prop where
  o1 : w.heap.size < Bs ∧ Bs < Bn ∧ Bn < S ∧ S + 1 < R
theorem JG.kept (h : JG w xs Bs Bn S R r c A W) (o : OL w Bs Bn S R) (kk : KeptBut (fun q => q = w.heap.size ∨ R ≤ q) W W') : JG w xs Bs Bn S R r c A W' := by
  obtain ⟨h1, h2, h4, h5, h6, h7⟩ := h
  obtain ⟨o1, o2, o3, o4⟩ := o.o1
  exact ⟨(kk.block _ (by omega) (by omega)).trans h1, (kk.block _ (by omega) (by omega)).trans h2, kk.cells h4 (by omega), kk.cells h5 (by omega), h6.trans (kk.below (fun q e => by omega) h6.size), Nat.le_trans h7 kk.size⟩
theorem JG.below (h : JG w xs Bs Bn S R r c A W) (o : OL w Bs Bn S R) (b : Below W.heap.size W W') : JG w xs Bs Bn S R r c A W' := h.kept o (KeptBut.of_below _ b)
theorem JL.put (h : JL w xs Bs Bn S R r c A k W) (o : OL w Bs Bn S R) (rb : Loop) : JL w xs Bs Bn S R rb c A k (W.putObj (S + 1) (.loop rb)) := by
  obtain ⟨⟨h1, h2, h4, h5, h6, h7⟩, v, h3⟩ := h
  obtain ⟨o1, o2, o3, o4⟩ := o.o1
  have kk : KeptBut (fun q => q = S + 1) W (W.putObj (S + 1) (.loop rb)) := ⟨rfl, rfl, rfl, by simp, fun q _ hq => World.putObj_heap_other hq⟩
  exact ⟨⟨World.putObj_heap_same (Array.getElem?_eq_some_iff.1 h1).1, (World.putObj_heap_other (by omega)).trans h2, kk.cells h4 (by omega), kk.cells h5 (by omega), h6.trans (kk.below (fun q e => by omega) h6.size), by simpa using h7⟩, v, h3.kept kk (by omega) (fun q e => by have := (h3.row.lt q e).1; omega)⟩
theorem JL.drew (h : JL w xs Bs Bn S R r c A k W) : JL w xs Bs Bn S R r c A k W.drew := by
  obtain ⟨⟨h1, h2, h4, h5, h6, h7⟩, v, h3⟩ := h
  exact ⟨⟨h1, h2, h4, h5, h6.drew, h7⟩, v, h3.below (Below.refl W.heap.size W).drew⟩
theorem startL (c : Nat) (A : Option Addr) (e : W = ((w.alloc (.cells #[.pointer none, .slice none 0 0] 56)).alloc (.cells #[.slice A xs.length c] 24)).alloc (.cells #[.int .i64 4] 3)) (r : Loop) :
    OL w (w.heap.size + 1) (w.heap.size + 2) (w.heap.size + 3) (w.heap.size + 5) ∧ W.heap.size = w.heap.size + 3 ∧ JL w xs (w.heap.size + 1) (w.heap.size + 2) (w.heap.size + 3) (w.heap.size + 5) r c A 0 ((W.alloc (.deferred (some []))).alloc (.loop r)) := by
  subst e
  obtain ⟨n0, n1, n2, b0, s3⟩ := cells3 w #[.pointer none, .slice none 0 0] #[.slice A xs.length c] #[.int .i64 4] 56 24 3
  generalize ((w.alloc _).alloc _).alloc _ = W3 at *
  have hd := World.alloc_heap_new W3 (.deferred (some []))
  have hl := World.alloc_heap_new (W3.alloc (.deferred (some []))) (.loop r)
  have hd2 : ((W3.alloc (.deferred (some []))).alloc (.loop r)).heap[W3.heap.size]? = _ := (Below.heap_alloc _ _ _ (by rw [World.size_alloc]; omega)).trans hd
  rw [World.size_alloc] at hl
  have d1 := (Below.refl _ W3).alloc (Nat.le_refl _) (.deferred (some []))
  have d2 := d1.alloc d1.size (.loop r)
  have sz : ((W3.alloc (.deferred (some []))).alloc (.loop r)).heap.size = w.heap.size + 5 := by rw [World.size_alloc, World.size_alloc, s3]
  generalize (W3.alloc (.deferred (some []))).alloc (.loop r) = W5 at *
  rw [s3] at hl hd2
  exact ⟨⟨by omega⟩, s3, ⟨hl, hd2, n1.below d2 n1.lt, n2.below d2 n2.lt, b0.trans (d2.mono b0.size), by omega⟩, .slice none 0 0, .inl (n0.below d2 n0.lt), World.ownsRow_nil _ _ _ _, by simp [Value.ownBlock], fun _ => rfl⟩
end
end Go.Proofs.YtbfmlmnhdogojaaGreatDoor
namespace Go.Proofs.YtbfmlmnhdogojaaGreatDoor
open Go.RowKit Go.Shelf
attribute [local go_sem] Oper.semAt_some

set_option maxRecDepth 100000 in
set_option maxHeartbeats 4000000 in
theorem cListing {xs : List Int} {A : Option Addr} {c : Nat} {w : World} (hG : Gl w) (hr0 : Rd w w.heap.size .u8 A xs) (hx8 : ∀ x ∈ xs, 0 ≤ x ∧ x < 256) (hL : xs.length ≤ 65536) (hcap : xs.length ≤ c) :
    Calls Tryz.prog 13 #[.slice A xs.length c] w fun e w' => e = .returned (.tuple #[.string ⟨(listL xs).toArray⟩, .int .i64 0]) ∧ Below w.heap.size w w' := by
  have HG := Lib.hid hG
  have HX := Lib.hid hx8
  have HR := Lib.hid hr0
  have HA : 0 < xs.length → ∃ g off, A = some ⟨g, off, none⟩ := fun h => by obtain ⟨g, off, e, _⟩ := hr0.some_ h; exact ⟨g, off, e⟩
  have HAA := Lib.hid HA
  clear hG hx8 hr0 HA
  rw [← callsIn_wide (n := 1)]
  refine callsIn_of_wp_marks Tryz.func13 rfl trivial ?_
  simp only [Tryz.ntmps13, List.size_toArray, List.length_cons, List.length_nil, Nat.reduceAdd, Nat.reduceSub, Array.replicate_succ, Array.replicate_zero, List.push_toArray, List.append_toArray, List.nil_append, List.cons_append]
  gi_wp2_with fail
  refine ⟨trivial, (callsIn_wide.2 (cChunk _ _ _ _)).mono ?_⟩
  rintro e W3 ⟨rfl, hW⟩
  have START := Lib.hid (fun r => startL (xs := xs) c A hW.symm r)
  simp only [World.size_alloc]
  clear hW
  gi_wp2_with fail
  refine it_range rfl (enters_of Tryz.func53 (by kernel_rfl) rfl) ?_
  intro fn r hr
  obtain ⟨o, s3, jl⟩ := START.out r
  rw [s3] at hr ⊢
  generalize (W3.alloc _).alloc _ = W5 at *
  simp only [Nat.add_assoc, Nat.reduceAdd] at hr ⊢
  have hl9 : w.heap.size + 4 = w.heap.size + 3 + 1 := rfl
  rw [hl9]
  clear START s3 hl9
  generalize w.heap.size + 1 = Bs at *
  generalize w.heap.size + 2 = Bn at *
  generalize w.heap.size + 3 = S at *
  generalize w.heap.size + 5 = R at *
  have hO := Lib.hid o
  refine (cParts A xs.length c HAA.out hL hcap (S + 1) Bs Bn (JL w xs Bs Bn S R r c A) ?hJ ?hD ?hY W5 jl).mono ?_
  case hJ => exact fun k W h => ⟨(h.1.bs.cell 0).trans rfl, (h.1.bn.cell 0).trans rfl⟩
  case hD => exact fun k W h => h.drew
  case hY =>
    clear jl o
    rintro k W g off jl hk rfl
    refine it_round (r := r) jl.1.lp (by rw [hr]) (by rw [hr]; rfl) ?_
    have ha' := congrArg Loop.assign hr
    have hb' := congrArg Loop.body hr
    have ht' := congrArg Loop.tmps hr
    have hps := congrArg Loop.params hr
    simp only at ha' hb' ht' hps
    intro rb hrb
    have hbk := it_back hrb (by rw [hr]) (by rw [hr])
    have HB := Lib.hid hbk
    clear hr hbk hrb
    rw [ha', hb', ht', hps]
    clear ha' hb' ht' hps
    have l6 := jl.1.lp
    have j6 := jl.put hO.out rb
    clear jl
    gi_wp2
    refine ⟨_, rfl, l6, ?_⟩
    generalize World.putObj _ _ _ = W6 at *
    have hrd := HR.out.below j6.1.low (Nat.le_refl _)
    have HJ := Lib.hid j6
    have HRD := Lib.hid hrd
    clear j6 l6 hrd
    by_cases hfull : 4 ≤ xs.length - 4 * k
    · rw [Nat.min_eq_left hfull]
      obtain ⟨x0, e0⟩ : ∃ x, xs[4 * k]? = some x := ⟨_, List.getElem?_eq_getElem (by omega)⟩
      obtain ⟨x1, e1⟩ : ∃ x, xs[4 * k + 1]? = some x := ⟨_, List.getElem?_eq_getElem (by omega)⟩
      obtain ⟨x2, e2⟩ : ∃ x, xs[4 * k + 2]? = some x := ⟨_, List.getElem?_eq_getElem (by omega)⟩
      obtain ⟨x3, e3⟩ : ∃ x, xs[4 * k + 3]? = some x := ⟨_, List.getElem?_eq_getElem (by omega)⟩
      have q0 : W6.drew.cell? ⟨g, off + 4 * k, none⟩ = some (.int .u8 x0) := HRD.out.cell g off rfl _ x0 e0
      have q1 : W6.drew.cell? ⟨g, off + 4 * k + 1, none⟩ = some (.int .u8 x1) := HRD.out.cell g off rfl _ x1 e1
      have q2 : W6.drew.cell? ⟨g, off + 4 * k + 2, none⟩ = some (.int .u8 x2) := HRD.out.cell g off rfl _ x2 e2
      have q3 : W6.drew.cell? ⟨g, off + 4 * k + 3, none⟩ = some (.int .u8 x3) := HRD.out.cell g off rfl _ x3 e3
      have b0 := HX.out x0 (List.mem_of_getElem? e0)
      have b1 := HX.out x1 (List.mem_of_getElem? e1)
      have b2 := HX.out x2 (List.mem_of_getElem? e2)
      have b3 := HX.out x3 (List.mem_of_getElem? e3)
      obtain ⟨w1, w2, w3⟩ := word_of b0 b1 b2 b3
      have hwr : 0 ≤ wordI x0 x1 x2 x3 ∧ wordI x0 x1 x2 x3 < 4294967296 := by unfold wordI; omega
      have hdone : doneL xs (k + 1) = doneL xs k ++ ((lineW (wordI x0 x1 x2 x3)).data.toList ++ [10]) := by
        have hd : xs.drop (4 * k) = x0 :: x1 :: x2 :: x3 :: xs.drop (4 * k + 4) := by
          rw [drop_cons e0, drop_cons e1, drop_cons e2, drop_cons e3]
        show doneL xs k ++ _ = _
        rw [hd]
      obtain ⟨u, hu⟩ : ∃ u : Nat, wordI x0 x1 x2 x3 = u := ⟨(wordI x0 x1 x2 x3).toNat, by omega⟩
      rw [hu] at w3 hwr hdone
      have HD := Lib.hid hdone
      clear hdone hu
      have m1 : x1 * 256 % 4294967296 = x1 * 256 := by omega
      have m2 : x2 * 65536 % 4294967296 = x2 * 65536 := by omega
      have m3 : x3 * 16777216 % 4294967296 = x3 * 16777216 := by omega
      gi_wp2_with fail
      refine wpIn_region_still (Free.round _) (by kernel_rfl) (by rintro ⟨_, _, h⟩; exact h) (by kernel_rfl) (by kernel_rfl) ?_
      repeat still_step
      try refine wpStill_nil ?_
      have hword : bits .or .u32 (bits .or .u32 (bits .or .u32 (IntKind.u32.wrap x0) (IntKind.u32.wrap (IntKind.u32.wrap x1 * 256))) (IntKind.u32.wrap (IntKind.u32.wrap x2 * 65536))) (IntKind.u32.wrap (IntKind.u32.wrap x3 * 16777216)) = (u : Int) := by
        have n0 : IntKind.u32.wrap x0 = x0 := by rw [IntKind.wrap_u32]; omega
        have n1 : IntKind.u32.wrap (IntKind.u32.wrap x1 * 256) = x1 * 256 := by rw [IntKind.wrap_u32, IntKind.wrap_u32]; omega
        have n2 : IntKind.u32.wrap (IntKind.u32.wrap x2 * 65536) = x2 * 65536 := by rw [IntKind.wrap_u32, IntKind.wrap_u32]; omega
        have n3 : IntKind.u32.wrap (IntKind.u32.wrap x3 * 16777216) = x3 * 16777216 := by rw [IntKind.wrap_u32, IntKind.wrap_u32]; omega
        rw [n0, n1, n2, n3, w1, w2, w3]
      rw [hword]
      change Exit.then _ _ .normal _ W6.drew
      have J7 := Lib.hid HJ.out.drew
      clear q0 q1 q2 q3 e0 e1 e2 e3 w1 w2 w3 m1 m2 m3 b0 b1 b2 b3 hword HJ HRD
      generalize W6.drew = W7 at *
      have hu0 : u < 4294967296 := by omega
      have hz := itoaB_size (n := (u : Int)) (by omega) (by omega)
      have hu64 : IntKind.u64.wrap (u : Int) = u := by rw [IntKind.wrap_u64]; omega
      clear hwr
      have G7 := Lib.hid (HG.out.b J7.out.1.low)
      gi_wp2_with fail
      refine ⟨trivial, rfl, (Free.round _).calls ((cFormatU (u := u) (by omega) G7.out.tb).mono ?_)⟩
      rintro e W8 ⟨rfl, hb⟩
      have J8 := Lib.hid (J7.out.1.below hO.out hb)
      obtain ⟨v7, bd⟩ := J7.out.2
      have B8 := Lib.hid (bd.below hb)
      clear hb bd J7 G7
      cases hok : okL u with
      | true =>
        have hdec := cDecode_in (x := (u : Int)) hok (by omega) (by omega) W8
        have htx : lineW (u : Int) = textB (dOp u) (dA u) (dB u) (dN u) := by unfold lineW; rw [if_pos hok]
        have HDEC := Lib.hid hdec
        have HTX := Lib.hid htx
        have HMAY := Lib.hid (show mayL (dOp (u : Int)) (dA u) (dB u) (dN u) = true from hok)
        clear hdec htx hok
        gi_wp2_with fail
        refine ⟨trivial, rfl, (Free.round _).calls (HDEC.out.mono ?_)⟩
        rintro e W9 ⟨rfl, hb⟩
        have J9 := Lib.hid (J8.out.below hO.out hb)
        have B9 := Lib.hid (B8.out.below hb)
        have hI := Cells.new W9 69 (instA (dOp u) (dA u) (dB u) (dN u))
        have i0 := (hI.cell 0).trans (show _ = some (Value.int .i64 (dOp u)) from rfl)
        have i1 := (hI.cell 1).trans (show _ = some (Value.int .i64 (dA u)) from rfl)
        have i2 := (hI.cell 2).trans (show _ = some (Value.int .i64 (dB u)) from rfl)
        have i3 := (hI.cell 3).trans (show _ = some (Value.int .i64 (dN u)) from rfl)
        have hb10 := (Below.refl _ W9).alloc (Nat.le_refl _) (.cells (instA (dOp u) (dA u) (dB u) (dN u)) 69)
        have J10 := Lib.hid (J9.out.below hO.out hb10)
        have B10 := Lib.hid (B9.out.below hb10)
        clear hb hb10 hI J8 B8 J9 B9 HDEC
        gi_wp2_with fail
        generalize World.alloc _ _ = W10 at *
        refine ⟨trivial, rfl, (Free.round _).calls ((cText_in HMAY.out (HG.out.b J10.out.low).tb).mono ?_)⟩
        rintro e W11 ⟨rfl, hb⟩
        have hts := textB_size HMAY.out
        rw [← HTX.out] at hts ⊢
        have J11 := Lib.hid (J10.out.below hO.out hb)
        have B11 := Lib.hid (B10.out.below hb)
        clear hb J10 B10 i0 i1 i2 i3
        have hdl := doneL_len HX.out k
        have hlen : (doneL xs k).length + (lineW (u : Int) ++ ⟨#[10]⟩).size ≤ 140737488355328 := by
          rw [ByteArray.size_append]
          have e2 : (ByteArray.mk #[10]).size = 1 := rfl
          omega
        have HWR := Lib.hid (cWrite (s := lineW (u : Int) ++ ⟨#[10]⟩) B11.out hlen (by rw [ByteArray.size_append]; have e2 : (ByteArray.mk #[10]).size = 1 := rfl; omega) J11.out.hR (by have := hO.out.o1; omega))
        clear hlen
        gi_wp2_with fail
        refine ⟨trivial, rfl, (Free.round _).calls (HWR.out.mono ?_)⟩
        rintro e W12 ⟨rfl, v', bd, kk⟩
        have e12 : doneL xs k ++ (lineW (u : Int) ++ ⟨#[10]⟩).data.toList = doneL xs (k + 1) := by
          rw [HD.out]; simp
        rw [e12] at bd
        have HF := Lib.hid (And.intro (J11.out.kept hO.out kk) bd)
        clear bd kk e12 HWR
        gi_wp2
        obtain ⟨jg, bd⟩ := HF.out
        refine ⟨jg.lp, rfl, ?_⟩
        rw [HB.out]
        exact JL.put ⟨jg, v', bd⟩ hO.out r
      | false =>
        have hdec := cDecode_out (x := (u : Int)) hok (by omega) (by omega) W8
        have htx : lineW (u : Int) = ⟨#[119, 111, 114, 100, 32]⟩ ++ itoaB u := by unfold lineW; rw [if_neg (by rw [hok]; simp)]
        have HDEC := Lib.hid hdec
        have HTX := Lib.hid htx
        clear hdec htx hok
        gi_wp2_with fail
        refine ⟨trivial, rfl, (Free.round _).calls (HDEC.out.mono ?_)⟩
        rintro e W9 ⟨rfl, hb⟩
        have J9 := Lib.hid (J8.out.below hO.out hb)
        have B9 := Lib.hid (B8.out.below hb)
        have hb10 := (Below.refl _ W9).alloc (Nat.le_refl _) (.cells (instA 0 0 0 0) 69)
        have J10 := Lib.hid (J9.out.below hO.out hb10)
        have B10 := Lib.hid (B9.out.below hb10)
        have hts := lineW_size (x := (u : Int)) (by omega) (by omega)
        rw [← HTX.out]
        clear hb hb10 J8 B8 J9 B9 HDEC hz
        gi_wp2_with fail
        generalize World.alloc _ _ = W10 at *
        have hdl := doneL_len HX.out k
        have hlen : (doneL xs k).length + (lineW (u : Int) ++ ⟨#[10]⟩).size ≤ 140737488355328 := by
          rw [ByteArray.size_append]
          have e2 : (ByteArray.mk #[10]).size = 1 := rfl
          omega
        have HWR := Lib.hid (cWrite (s := lineW (u : Int) ++ ⟨#[10]⟩) B10.out hlen (by rw [ByteArray.size_append]; have e2 : (ByteArray.mk #[10]).size = 1 := rfl; omega) J10.out.hR (by have := hO.out.o1; omega))
        clear hlen
        refine ⟨trivial, rfl, (Free.round _).calls (HWR.out.mono ?_)⟩
        rintro e W12 ⟨rfl, v', bd, kk⟩
        have e12 : doneL xs k ++ (lineW (u : Int) ++ ⟨#[10]⟩).data.toList = doneL xs (k + 1) := by
          rw [HD.out]; simp
        rw [e12] at bd
        have HF := Lib.hid (And.intro (J10.out.kept hO.out kk) bd)
        clear bd kk e12 HWR
        gi_wp2
        obtain ⟨jg, bd⟩ := HF.out
        refine ⟨jg.lp, rfl, ?_⟩
        rw [HB.out]
        exact JL.put ⟨jg, v', bd⟩ hO.out r
    · rw [Nat.min_eq_right (by omega)]
      obtain ⟨m, hm⟩ : ∃ m, m = xs.length - 4 * k := ⟨_, rfl⟩
      rw [← hm]
      have hm4 : m < 4 := by omega
      have hm0 : 0 < m := by omega
      have hdl0 : (xs.drop (4 * k)).length = m := by rw [List.length_drop]; omega
      obtain ⟨ys, hys⟩ : ∃ ys, ys = xs.drop (4 * k) := ⟨_, rfl⟩
      rw [← hys] at hdl0
      have hy8 : ∀ x ∈ ys, 0 ≤ x ∧ x < 256 := fun x hx => HX.out x (List.mem_of_mem_drop (by rw [← hys]; exact hx))
      have hdone : doneL xs (k + 1) = doneL xs k ++ restL ys := by
        show doneL xs k ++ _ = _
        rw [← hys]
        match ys, hdl0 with
        | [], h => simp at h; omega
        | [a], _ => rfl
        | [a, b], _ => rfl
        | [a, b, c], _ => rfl
        | a :: b :: c :: d :: l, h => simp at h; omega
      have HD := Lib.hid hdone
      have hget : ∀ j y, ys[j]? = some y → xs[4 * k + j]? = some y := fun j y h => by rw [hys, List.getElem?_drop] at h; exact h
      have HGET := Lib.hid hget
      have HY8 := Lib.hid hy8
      have hdl := doneL_len HX.out k
      have hlen : (doneL xs k).length + (ByteArray.mk #[98, 121, 116, 101]).size ≤ 140737488355328 := by
        have e2 : (ByteArray.mk #[98, 121, 116, 101]).size = 4 := rfl
        omega
      obtain ⟨v7, bd⟩ := HJ.out.2
      have HWR := Lib.hid (cWrite (s := ⟨#[98, 121, 116, 101]⟩) bd hlen (by decide) HJ.out.1.hR (by have := hO.out.o1; omega))
      have hlt4 : (m : Int) < 4 := by omega
      clear hdone hget hy8 hlen bd hm hfull hys
      gi_wp2_with fail
      refine ⟨trivial, rfl, (Free.round _).calls (HWR.out.mono ?_)⟩
      rintro e W8 ⟨rfl, v8, bd, kk⟩
      have J8 := Lib.hid (And.intro (HJ.out.1.kept hO.out kk) bd)
      clear bd kk HWR HJ
      gi_wp2_with fail
      gi_loopw [24] (fun i wr => ∃ (j : Nat) (v : Value), j ≤ m ∧ i = .int .i64 j ∧ JG w xs Bs Bn S R rb c (some ⟨g, off, none⟩) wr ∧ BldO wr R w.heap.size v (doneL xs k ++ [98, 121, 116, 101] ++ (ys.take j).flatMap (fun x => 32 :: (itoaB x).data.toList))) (fun i _ => m - (intOf i).toNat)
      case atStart => exact ⟨0, v8, by omega, rfl, J8.out.1, by simpa using J8.out.2⟩
      case round =>
        clear J8
        obtain ⟨j, v, hj, rfl, jg, bd⟩ := hrel
        have hbl : (doneL xs k ++ [98, 121, 116, 101] ++ (ys.take j).flatMap (fun x => (32 : UInt8) :: (itoaB x).data.toList)).length ≤ 300 * k + 4 + 21 * m := by
          have := flat_len (ys.take j) (fun x hx => HY8.out x (List.mem_of_mem_take hx))
          rw [List.length_take] at this
          simp only [List.length_append, List.length_cons, List.length_nil]
          omega
        by_cases hjm : j < m
        · obtain ⟨y, hy⟩ : ∃ y, ys[j]? = some y := ⟨_, List.getElem?_eq_getElem (by omega)⟩
          have hb8 := HY8.out y (List.mem_of_getElem? hy)
          have q0 : wr.cell? ⟨g, off + 4 * k + j, none⟩ = some (.int .u8 y) := by
            have := (HR.out.below jg.low (Nat.le_refl _)).cell g off rfl _ y (HGET.out j y hy)
            rw [← Nat.add_assoc] at this
            exact this
          have hwy : IntKind.i64.wrap y = y := by rw [IntKind.wrap_i64]; omega
          have hz := itoaB_size (n := y) (by omega) (by omega)
          have HIT := Lib.hid (cItoa (n := y) (by omega) (by omega) (HG.out.b jg.low).tb)
          have J := Lib.hid (And.intro jg bd)
          have HTK := Lib.hid (show (ys.take (j + 1)).flatMap (fun x => (32 : UInt8) :: (itoaB x).data.toList) = (ys.take j).flatMap (fun x => (32 : UInt8) :: (itoaB x).data.toList) ++ (32 :: (itoaB y).data.toList) by rw [List.take_add_one, hy]; simp)
          clear jg bd hy hb8
          gi_wp2_with fail
          refine ⟨trivial, rfl, (Free.round _).calls (HIT.out.mono ?_)⟩
          rintro e W9 ⟨rfl, hb⟩
          have J9 := Lib.hid (And.intro (J.out.1.below hO.out hb) (J.out.2.below hb))
          have hlen : (doneL xs k ++ [98, 121, 116, 101] ++ (ys.take j).flatMap (fun x => (32 : UInt8) :: (itoaB x).data.toList)).length + (⟨#[32]⟩ ++ itoaB y).size ≤ 140737488355328 := by
            rw [ByteArray.size_append]
            have e2 : (ByteArray.mk #[32]).size = 1 := rfl
            omega
          have HWR := Lib.hid (cWrite (s := ⟨#[32]⟩ ++ itoaB y) J9.out.2 hlen (by rw [ByteArray.size_append]; have e2 : (ByteArray.mk #[32]).size = 1 := rfl; omega) J9.out.1.hR (by have := hO.out.o1; omega))
          clear hlen hb HIT J q0
          gi_wp2_with fail
          refine ⟨trivial, rfl, (Free.round _).calls (HWR.out.mono ?_)⟩
          rintro e W10 ⟨rfl, v10, bd, kk⟩
          have e10 : doneL xs k ++ [98, 121, 116, 101] ++ (ys.take j).flatMap (fun x => (32 : UInt8) :: (itoaB x).data.toList) ++ (⟨#[32]⟩ ++ itoaB y : ByteArray).data.toList = doneL xs k ++ [98, 121, 116, 101] ++ (ys.take (j + 1)).flatMap (fun x => (32 : UInt8) :: (itoaB x).data.toList) := by
            rw [HTK.out]; simp
          rw [e10] at bd
          have HF := Lib.hid (And.intro (J9.out.1.kept hO.out kk) bd)
          clear bd kk e10 HWR J9
          gi_wp2
          refine ⟨⟨j + 1, v10, by omega, by go_num, HF.out.1, HF.out.2⟩, ?_⟩
          simp [intOf]; omega
        · obtain rfl : j = m := by omega
          have e9 : ys.take j = ys := List.take_of_length_le (by omega)
          rw [e9] at bd hbl
          have hlen : (doneL xs k ++ [98, 121, 116, 101] ++ ys.flatMap (fun x => (32 : UInt8) :: (itoaB x).data.toList)).length + (ByteArray.mk #[10]).size ≤ 140737488355328 := by
            have e2 : (ByteArray.mk #[10]).size = 1 := rfl
            omega
          have HWR := Lib.hid (cWrite (s := ⟨#[10]⟩) bd hlen (by decide) jg.hR (by have := hO.out.o1; omega))
          have J := Lib.hid jg
          clear hlen bd jg
          gi_wp2_with fail
          refine ⟨trivial, rfl, (Free.round _).calls (HWR.out.mono ?_)⟩
          rintro e W10 ⟨rfl, v10, bd, kk⟩
          have e10 : doneL xs k ++ [98, 121, 116, 101] ++ ys.flatMap (fun x => (32 : UInt8) :: (itoaB x).data.toList) ++ (ByteArray.mk #[10]).data.toList = doneL xs (k + 1) := by
            rw [HD.out]; unfold restL; simp
          rw [e10] at bd
          have HF := Lib.hid (And.intro (J.out.kept hO.out kk) bd)
          clear bd kk e10 HWR J
          gi_wp2
          obtain ⟨jg, bd⟩ := HF.out
          refine ⟨jg.lp, rfl, ?_⟩
          rw [HB.out]
          exact JL.put ⟨jg, v10, bd⟩ hO.out r
  rintro e W' ⟨rfl, k, hk1, hk2, jl⟩
  refine ⟨_, r, rfl, jl.1.lp, by rw [hr]; simp, ?_⟩
  have hp : r.pending = none := by rw [hr]
  simp only [hp]
  have j6 := jl.put hO.out { r with state := .exhausted }
  simp only [hp] at j6
  clear jl hp hr
  generalize World.putObj _ _ _ = W6 at *
  have hdone : doneL xs k = listL xs := doneL_all xs k hk1
  obtain ⟨jg, v, bd⟩ := j6
  rw [hdone] at bd
  have HBS := Lib.hid (cString bd)
  have J := Lib.hid jg
  clear bd jg hdone
  gi_wp2_with fail
  refine ⟨trivial, (callsIn_wide.2 HBS.out).mono ?_⟩
  rintro e W7 ⟨rfl, kk⟩
  have D7 : W7.heap[S]? = some (.deferred (some [])) := (kk.block S (by have := J.out.hR; have := hO.out.o1; omega) (by have := hO.out.o1; omega)).trans J.out.dfr
  have b7 : Below w.heap.size w W7 := J.out.low.trans (kk.below (n := w.heap.size) (fun q e => by have := hO.out.o1; omega) J.out.low.size)
  have HF := Lib.hid (And.intro D7 b7)
  clear kk D7 b7 HBS J
  gi_wp2
  obtain ⟨D7, b7⟩ := HF.out
  refine ⟨by simp, .inl ⟨_, _, rfl, run_takeDeferred D7, ?_⟩⟩
  exact ⟨.tuple #[.string ⟨(listL xs).toArray⟩, .int .i64 0], by simp [results, Tryz.results13], rfl, b7.grown (grownBy_putObj' _ _ _) b7.size (fun k e => by cases e; have := hO.out.o1; omega)⟩
end Go.Proofs.YtbfmlmnhdogojaaGreatDoor
namespace Go.Proofs.YtbfmlmnhdogojaaGreatDoor
open Go.RowKit Go.Shelf

theorem rd_news {W : World} {B : Nat} {a : Addr} {l : List Int} (hr : Rd W B .u8 (some a) l) : ∀ j u, (l.map (Value.int .u8))[j]? = some u → W.cell? (a.add j) = some u := by
  intro j u hu
  rw [List.getElem?_map] at hu
  obtain ⟨y, hy, rfl⟩ := Option.map_eq_some_iff.1 hu
  obtain ⟨g, off, e, _⟩ := hr.some_ (by have := (List.getElem?_eq_some_iff.1 hy).1; omega)
  cases e
  rw [addr_add]
  exact hr.cell g off rfl j y hy
theorem conv_rd {W : World} {B : Nat} {A : Option Addr} {l : List Int} {c : Nat} (hr : Rd W B .u8 A l) (h0 : 0 < l.length) : (convert 24 9 (.slice A l.length c)).run Tryz.prog W = .ok (.string (strOfNums l)) W := by
  obtain ⟨g, off, rfl, _⟩ := hr.some_ h0
  refine run_convert_bytes_arg W 24 5 Tryz.underlying24 Tryz.underlying5 g off l.length c l rfl (fun i hi => ?_) 9 Tryz.underlying9
  rw [hr.cell g off rfl i _ (List.getElem?_eq_getElem hi)]
  simp [List.getD, List.getElem?_eq_getElem hi]
theorem conv_any {W : World} {B : Nat} {A : Option Addr} {l : List Int} {c : Nat} (hr : Rd W B .u8 A l) : (convert 24 9 (.slice A l.length c)).run Tryz.prog W = .ok (.string (strOfNums l)) W := by
  rcases Nat.eq_zero_or_pos l.length with h | h
  · obtain rfl := List.eq_nil_of_length_eq_zero h
    cases A with
    | none => exact run_convert_bytes_nil W 24 5 Tryz.underlying24 Tryz.underlying5 0 c 9 Tryz.underlying9
    | some a =>
      have hl : (loadCells a 0).run Tryz.prog W = .ok (([] : List Int).map (Value.int .u8)).toArray W := by
        simpa using run_loadCells_list (P := Tryz.prog) W a ([] : List Value) (fun j v h => by simp at h)
      exact (run_convert_bytes_string W 24 9 5 (some a) 0 c Tryz.underlying24 Tryz.underlying5 Tryz.underlying9).trans (run_bytesToString W a 0 c [] hl)
  · exact conv_rd hr h
end Go.Proofs.YtbfmlmnhdogojaaGreatDoor
