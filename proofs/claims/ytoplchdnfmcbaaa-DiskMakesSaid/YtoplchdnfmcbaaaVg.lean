/- Which disks there are: the walk (under way). -/
import Derived.Test.YtoplchdnfmcbaaaVf
import Derived.Laws.AppendOwnNone
namespace Go.Proofs.Ytoplchdnfmcbaaa
open Go.ChangeShapes Go.WideShapes Go.ChangeAt Go.RowKit Go.Shelf Go.Deep

/-- A guarded make of a slice. -/
theorem wpList_make_full_g {P : Program} (w : World) {ops : Array Oper} {rest : List Oper} {o : Oper} {a : Act} {Q : Exit → Act → World → Prop}
    (hw : Region.wanted o (yielded ops a.tmps) = true) (l c : Operand) (t : TypeId) (hop : o.op = Op.makeSlice t l c)
    (base : Nat) (e : TypeId) (i : TypeInfo) (z : Value) (size : Nat) (h1 : P.underlying t = some (.slice e)) (h2 : P.info? e = some i) (h3 : i.zero = some z) (h4 : i.size = size)
    (kl kc : IntKind) (L C : Int) (n : Nat) (hl : a.eval l = .int kl L) (hc : a.eval c = .int kc C) (hL : L = (n : Int)) (hC : C = (n : Int)) (b2 : i.bytes * n ≤ 281474976710656) (b3 : n ≤ maxLen) (b4 : base ≤ w.heap.size)
    (hK : ∀ w', w'.ownsRow base e size (.slice (some ⟨w.heap.size, 0, none⟩) n n) n (madeCells z.cells (n * size)).toList → w.grownBy w' none → wpList P ops Q rest (a.put o.dst (.slice (some ⟨w.heap.size, 0, none⟩) n n)) w') :
    wpList P ops Q (o :: rest) a w := by
  refine wpList_step fun K hK' => ?_
  rw [if_pos hw]
  obtain ⟨w', hrun, r1, r2⟩ := run_make_full (P := P) w base t e i z size h1 h2 h3 h4 kl kc n b2 b3 b4
  subst hL
  subst hC
  unfold Oper.wp
  simp [execOp, hop, hl, hc, hrun, Result.andThen]
  exact hK' _ _ (hK w' r1 r2)
theorem vs_ints (l : List Int) : ∀ v ∈ l.map (Value.int .u8) ++ [Value.int .u8 77], ∃ x, v = Value.int .u8 x := by
  intro v hv
  rcases List.mem_append.1 hv with h | h
  · obtain ⟨x, _, rfl⟩ := List.mem_map.1 h; exact ⟨x, rfl⟩
  · simp at h; exact ⟨_, h⟩
theorem rep_zeros (n : Nat) : Rep (List.replicate (64 * n) 0) n (secL []) := by
  refine ⟨by rw [List.length_replicate]; omega, fun j hj => ?_⟩
  obtain ⟨j, rfl⟩ := Int.eq_ofNat_of_zero_le hj.1
  simp only [cutL, secL, List.lookup, Option.getD_none, zeros, List.drop_replicate, List.take_replicate]
  congr 1; simp; omega
theorem own_cap {w : World} {base : Nat} {e : TypeId} {g n cap : Nat} {xs : List Value} (h : w.ownsRow base e 1 (.slice (some ⟨g, 0, none⟩) n cap) n xs) : n ≤ cap := by
  rcases h.2 with ⟨h1, _⟩ | ⟨g', cap', cur, h1, _, _, h2, _⟩
  · simp at h1
  · simp at h1; omega
set_option maxRecDepth 100000 in
set_option maxHeartbeats 4000000 in
theorem makes_gi {w : World} {A : Option Addr} {l : List Int} {c N n : Nat} (s1 : 1 ≤ n) (s2 : n ≤ 32) (hl : l.length = 64 * N) (h1 : 1 ≤ N) (h2 : N ≤ 32) (hc : l.length ≤ c) (hr : Rd w w.heap.size .u8 A l) (hsec : ∀ x ∈ l, 0 ≤ x ∧ x < 256) :
    Calls Try.prog 7 #[.int .i64 n, .slice A l.length c] w fun e w' => e = .returned (.bool true) ∧ Below w.heap.size w w' := by
  obtain ⟨i0, hi0, hz0, hz1, hz2⟩ := info_parts info5
  obtain ⟨g, off, rfl, hg⟩ := hr.some_ (by omega)
  have hle : (l.length : Int) ≤ 2048 := by omega
  have hpos : 0 < l.length := by omega
  have HL := Lib.hid hl
  clear hl
  go_enter Try.func7, Try.ntmps7
  go_wp2_with fail
  refine (c22 n (by omega) (by omega) w).mono ?_
  rintro e W1 ⟨rfl, hb1, hd1⟩
  have hs1 := hb1.size
  have hdl : w.heap.size + 1 < W1.heap.size := hd1.hd.lt
  have hr1 := hr.below hb1 (Nat.le_refl _)
  have hown0 : (W1.alloc (.cells #[] 5)).ownsRow W1.heap.size 5 1 (.slice (some ⟨W1.heap.size, 0, none⟩) 0 0) 0 [] := World.ownsRow_lit (base := W1.heap.size) (size := 1) (e := 5) W1 #[] 0 (Nat.le_refl _) (by simp [maxLen]) rfl
  have hnews : ∀ j u, (l.map (Value.int .u8))[j]? = some u → (W1.alloc (.cells #[] 5)).cell? ((⟨g, off, none⟩ : Addr).add j) = some u := by
    intro j u hu
    rw [List.getElem?_map] at hu
    obtain ⟨y, hy, rfl⟩ := Option.map_eq_some_iff.1 hu
    have := (hr1.keep (W' := W1.alloc (.cells #[] 5)) (fun g hg => Below.heap_alloc _ _ _ (by omega))).cell g off rfl j y hy
    rw [addr_add]; exact this
  have HD1 := Lib.hid hd1
  have HB1 := Lib.hid hb1
  clear hd1 hr1 hb1
  go_wp2_with (first
    | (at_builtin
       refine wpList_append_own_at _ rfl (.tmp 20) (.tmp 21) _ rfl W1.heap.size 5 i0 _ 1 1 Try.underlying25 hi0 hz0 hz1 hz2 rfl (by omega) (.slice (some ⟨W1.heap.size, 0, none⟩) 0 0) 0 [] rfl
         hown0 ⟨g, off, none⟩ l.length c (l.map (Value.int .u8)) rfl (by simp) hnews (by simp [Value.oneCell']) (by simp only [maxLen]; omega) (by omega) (by simp) ?_
       intro v1 w1 hown1 hg1 hnil1 hat1
       rw [Nat.zero_add, List.nil_append] at hown1
       obtain ⟨g1, cap1, rfl, hg1b, hg1l⟩ := hown1.form (by omega)
       have hB2 := Lib.hid (((Below.refl _ W1).alloc (Nat.le_refl _) _).grown hg1 (by simp) (fun b e => by simp [Value.ownBlock] at e; omega))
       have hs2 := hB2.out.size
       clear hg1 hnil1 hat1 hown0 hnews)
    | (at_builtin
       refine wpList_append_own_at _ rfl (.tmp 22) (.tmp 23) _ rfl W1.heap.size 5 i0 _ 1 1 Try.underlying25 hi0 hz0 hz1 hz2 rfl (by omega) (.slice (some ⟨g1, 0, none⟩) l.length cap1) l.length (l.map (Value.int .u8)) rfl
         (hown1.alloc _) ⟨w1.heap.size, 0, none⟩ 1 1 [.int .u8 77] rfl rfl (cell_one_new _ _ _) (by simp [Value.oneCell']) (by simp only [maxLen]; omega) (by omega) (by simp; omega) ?_
       intro v2 w2 hown2 hg2 hnil2 hat2
       obtain ⟨g2, cap2, rfl, hg2b, hg2l⟩ := hown2.form (by omega)
       have hB3 := Lib.hid ((hB2.out.alloc hs2 _).grown hg2 (by simp; omega) (fun b e => by simp [Value.ownBlock] at e; omega))
       have hs3 := hB3.out.size
       have hcp := own_cap hown2
       clear hg2 hnil2 hat2))
  have HB3 := Lib.hid (HB1.out.trans (hB3.out.mono hs1))
  have HD3 := Lib.hid (HD1.out.of_below hB3.out HD1.out.hd.lt HD1.out.hm.lt)
  have hlx : (l.map (Value.int .u8) ++ [Value.int .u8 77]).length = l.length + 1 := by simp
  have hrm : Rd w2 w2.heap.size .u8 (some ⟨g2, 0, none⟩) l := ⟨fun _ => ⟨g2, 0, rfl, hg2l⟩, fun g' off' e i x hx => by
    simp at e
    obtain ⟨rfl, rfl⟩ := e
    have hi : i < l.length := (List.getElem?_eq_some_iff.1 hx).1
    rw [Nat.zero_add, hown2.cellAt i (by omega), List.getElem?_append_left (by simpa using hi)]
    simp [hx]⟩
  have c77 : w2.cell? ⟨g2, l.length, none⟩ = some (.int .u8 77) := by
    rw [hown2.cellAt l.length (by omega), List.getElem?_append_right (by simp)]
    simp
  have H14 := Lib.hid (c14 HL.out h1 h2 (show l.length ≤ cap2 by omega) hrm hsec)
  have HRM := Lib.hid hrm
  have HOW := Lib.hid hown2
  have HC77 := Lib.hid c77
  clear hown1 hown2 hrm c77 hB2 hB3 HB1 HD1 hlx hg1b hg1l
  go_wp2_with fail
  refine H14.out.mono ?_
  rintro e W4 ⟨m, rfl, hb4, hd4, hrep4⟩
  have HB4 := Lib.hid (HB3.out.trans (hb4.mono HB3.out.size))
  have HD4 := Lib.hid (HD3.out.below hb4)
  have cvm := conv_rd (c := cap2) (HRM.out.below hb4 (Nat.le_refl _)) hpos
  have cvb := conv_rd (c := c) (hr.below HB4.out (Nat.le_refl _)) hpos
  have c77 := (hb4.cell (p := ⟨g2, l.length, none⟩) hg2l).trans HC77.out
  have how : W4.ownsRow W1.heap.size 5 1 (.slice (some ⟨g2, 0, none⟩) (l.length + 1) cap2) (l.length + 1) (l.map (Value.int .u8) ++ [Value.int .u8 77]) := own_below HOW.out hb4
  have HO4 := Lib.hid how
  have HE4 := Lib.hid (And.intro hd4 hrep4)
  have hcp' : (l.length : Int) + 1 ≤ cap2 := by omega
  have H25 := Lib.hid (fun W => c25_good HL.out h1 h2 W)
  clear H14 HRM HOW HC77 HB3 HD3 hb4 how hd4 hrep4
  generalize strOfNums l = T at *
  go_wp2_with (first
    | (go_at_call 13; refine (c13 _ _).mono ?_; rintro e w' ⟨rfl, rfl⟩)
    | (go_at_call 25; refine (H25.out _).mono ?_; rintro e w' ⟨rfl, rfl⟩))
  clear cvm cvb c77 hcp'
  go_loopw [10] (fun i wr => ∃ k : Nat, k ≤ l.length ∧ i = .int .i64 k ∧ ∃ vs : List Value, (∀ v ∈ vs, ∃ x, v = Value.int .u8 x) ∧ wr.ownsRow W1.heap.size 5 1 (.slice (some ⟨g2, 0, none⟩) (l.length + 1) cap2) (l.length + 1) vs ∧ IsDisk wr (w.heap.size + 1) w.heap.size n [] ∧ IsDisk wr (w2.heap.size + 1) w2.heap.size N m ∧ Below w.heap.size w wr) (fun i _ => l.length - (intOf i).toNat)
  case atStart => exact ⟨0, Nat.zero_le _, rfl, _, vs_ints l, HO4.out, HD4.out, HE4.out.1, HB4.out⟩
  case round =>
    clear HO4 HD4 HB4
    obtain ⟨k, hk, rfl, vs, hvs, how, d1, d2, hb⟩ := hrel
    by_cases hlt : k < l.length
    · have hvl : vs.length = l.length + 1 := by have := how.1; omega
      obtain ⟨v, hv⟩ : ∃ v, vs[k]? = some v := ⟨_, List.getElem?_eq_getElem (by omega)⟩
      obtain ⟨x, rfl⟩ := hvs v (List.mem_of_getElem? hv)
      have cx : wr.cell? ⟨g2, k, none⟩ = some (.int .u8 x) := (how.cellAt k (by omega)).trans hv
      have fx := how.frozenAt k
      have HX := Lib.hid (And.intro how (And.intro d1 (And.intro d2 (And.intro hb hvs))))
      clear how d1 d2 hb hvs hv hvl
      go_wp2
      go_roundw
      case rel =>
        obtain ⟨how, d1, d2, hb, hvs⟩ := HX.out
        exact ⟨k + 1, by omega, by go_num, _, (fun v hv => (List.mem_or_eq_of_mem_set hv).elim (hvs v) fun e => ⟨_, e⟩), (how.stored k _).1, d1.keep (Below.heap_setCell _ _ _ _ (by show w.heap.size + 1 ≠ g2; omega)) (Below.heap_setCell _ _ _ _ (by show w.heap.size ≠ g2; omega)), d2.keep (Below.heap_setCell _ _ _ _ (by show w2.heap.size + 1 ≠ g2; omega)) (Below.heap_setCell _ _ _ _ (by show w2.heap.size ≠ g2; omega)), hb.setCell (by show w.heap.size ≤ g2; omega) _⟩
      case measure => simp [intOf]; omega
    · obtain rfl : k = l.length := by omega
      have H16 := Lib.hid (c16 (c := c) d2 HE4.out.2 ((hr.below hb (Nat.le_refl _)).up hb.size))
      have HD := Lib.hid d1
      have HB := Lib.hid hb
      clear how d1 d2 hb hvs
      go_wp2_with (first
        | (go_at_call 13; refine (c13 _ _).mono ?_; rintro e w' ⟨rfl, rfl⟩))
      refine H16.out.mono ?_
      rintro e W5 ⟨rfl, hb5⟩
      have HB5 := Lib.hid (HB.out.trans (hb5.mono HB.out.size))
      have HD5 := Lib.hid (HD.out.below hb5)
      have hsz5 := HB5.out.size
      clear hb5 H16 HB HD
      have hn0 : ¬ ((n : Int) < 1) := by omega
      have hn1 : ¬ (32 < (n : Int)) := by omega
      have hm64 : IntKind.i64.wrap (64 * (n : Int)) = 64 * n := by rw [IntKind.wrap_i64]; omega
      go_wp2_with (first
        | (go_at_call 13; refine (c13 _ _).mono ?_; rintro e w' ⟨rfl, rfl⟩)
        | (at_make
           refine wpList_make_full_g _ (by first | rfl | (simp [Region.wanted, yielded]; done)) (.tmp 118) (.tmp 118) 25 rfl w.heap.size 5 i0 _ 1 Try.underlying25 hi0 hz0 hz1 .i64 .i64 _ _ (64 * n) rfl rfl (by omega) (by omega) (by rw [hz2]; omega) (by simp only [maxLen]; omega) hsz5 ?_
           intro W6 ho6 hg6))
      rw [zerosN] at ho6
      have hl6 : (List.replicate (64 * n) (0 : Int)).length = 64 * n := List.length_replicate
      have hd6 := HD5.out.keep (hg6.block _ HD5.out.hd.lt (by simp)) (hg6.block _ HD5.out.hm.lt (by simp))
      have hr6 : Rd W6 W6.heap.size .u8 (some ⟨W5.heap.size, 0, none⟩) (List.replicate (64 * n) 0) := Rd.of_own (base := w.heap.size) (e := 5) (cap := 64 * n) (by rw [hl6]; exact ho6)
      have h16 := c16 (c := 64 * n) hd6 (rep_zeros n) hr6
      rw [hl6] at h16
      have HB6 := Lib.hid (HB5.out.grown hg6 hsz5 (by simp))
      have H16 := Lib.hid h16
      clear ho6 hl6 hd6 hr6 h16 hg6
      refine H16.out.mono ?_
      rintro e W7 ⟨rfl, hb7⟩
      have HB7 := Lib.hid (HB6.out.trans (hb7.mono HB6.out.size))
      clear hb7
      go_wp2_with fail
      refine (c9 _).mono ?_
      rintro e W8 ⟨rfl, hb9⟩
      have HB9 := Lib.hid (HB7.out.trans (hb9.mono HB7.out.size))
      clear hb9
      go_wp2
      go_ret
      exact ⟨rfl, HB9.out⟩
end Go.Proofs.Ytoplchdnfmcbaaa
