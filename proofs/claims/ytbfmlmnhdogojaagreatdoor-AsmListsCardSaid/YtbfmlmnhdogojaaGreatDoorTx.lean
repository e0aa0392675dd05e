/- The isa: Text's small functions: contracts. -/
import Derived.Test.YtbfmlmnhdogojaaGreatDoorEn
import Derived.Test.YtbfmlmnhdogojaaGreatDoorShelf
import Derived.Shelf.SlSorted.Search
import Derived.Test.YtbfmlmnhdogojaaGreatDoorBase
import Derived.Deep.Slices
import Derived.Deep.AppendLies
import Derived.Deep.Onto
import Derived.Laws.OwnMore
import Derived.Handy
import Derived.WalkLawsBesides
namespace Go.Proofs.YtbfmlmnhdogojaaGreatDoor
open Go.RowKit Go.Shelf

/-- The library's table of powers of ten stands as its text lays it. -/
def Tb (W : World) : Prop := Lib.TabIs Tryz.prog W "internal/strconv.uint64pow10" .u64 Lib.pow10Tab
theorem Tb.below {w w' : World} {n : Nat} (h : Tb w) (hb : Below n w w') (hn : 0 < n) : Tb w' := by
  have hgn : Tryz.prog.globalNamed "internal/strconv.uint64pow10" = some 0 := by kernel_rfl
  unfold Tb Lib.TabIs World.var? at h ⊢
  rw [hgn] at h ⊢
  simp only [Option.bind_some] at h ⊢
  rw [hb.block 0 hn]; exact h
theorem Tb.pos {w : World} (h : Tb w) : 0 < w.heap.size := by
  have hgn : Tryz.prog.globalNamed "internal/strconv.uint64pow10" = some 0 := by kernel_rfl
  unfold Tb Lib.TabIs World.var? at h
  rw [hgn] at h
  simp only [Option.bind_some] at h
  rcases Nat.lt_or_ge 0 w.heap.size with h' | h'
  · exact h'
  · rw [Array.getElem?_eq_none h'] at h; cases h
theorem Tb.b {w w' : World} (h : Tb w) (hb : Below w.heap.size w w') : Tb w' := h.below hb h.pos
/-- A number's numeral. -/
def itoaB (n : Int) : ByteArray := ⟨(Lib.itoa n).toArray⟩
theorem decDigits_len : ∀ (k : Nat) (u : Nat), u < 10 ^ (k + 1) → (Lib.decDigits u).length ≤ k + 1
  | 0, u, h => by rw [Lib.decDigits, dif_pos (by simpa using h)]; simp
  | k + 1, u, h => by
    rw [Lib.decDigits]
    split
    · simp
    · have : u / 10 < 10 ^ (k + 1) := by rw [Nat.pow_succ] at h; omega
      have := decDigits_len k (u / 10) this
      simp; omega
theorem itoa_len {n : Int} (h0 : -9223372036854775808 ≤ n) (h1 : n ≤ 9223372036854775807) : (Lib.itoa n).length ≤ 20 := by
  unfold Lib.itoa
  split
  · have := decDigits_len 18 n.natAbs (by omega)
    simp; omega
  · have := decDigits_len 18 n.toNat (by omega)
    omega
theorem itoaB_size {n : Int} (h0 : -9223372036854775808 ≤ n) (h1 : n ≤ 9223372036854775807) : (itoaB n).size ≤ 20 := by
  have := itoa_len h0 h1
  simpa [itoaB, ByteArray.size] using this
theorem cItoa {n : Int} (h0 : -9223372036854775808 ≤ n) (h1 : n ≤ 9223372036854775807) {w : World} (ht : Tb w) : Calls Tryz.prog 32 #[.int .i64 n] w fun e w' => e = .returned (.string (itoaB n)) ∧ Below w.heap.size w w' := by
  refine (Tryz.strconv_Itoa n h0 h1 w ht).mono ?_
  rintro e w' ⟨rfl, k, os, rfl⟩
  exact ⟨rfl, below_grown_sl _ _ _ _ (Nat.le_refl _)⟩
theorem cReg (a : Int) (w : World) : Calls Tryz.prog 59 #[.int .i64 a] w fun e w' => e = .returned (.func (.func 60) #[] #[.pointer (some ⟨w.heap.size, 0, none⟩)]) ∧ w.alloc (.cells #[.int .i64 a] 3) = w' := by
  go_enter Tryz.func59, Tryz.ntmps59
  go_wp2
  go_ret
  exact ⟨rfl, rfl⟩
/-- A register's name. -/
def regB (n : Int) : ByteArray := ⟨((114 : UInt8) :: Lib.itoa n).toArray⟩
theorem reg_eq (a : Int) : regB a = ⟨#[114]⟩ ++ itoaB a := by
  apply ByteArray.ext
  simp [regB, itoaB]
theorem regB_size {n : Int} (h0 : -9223372036854775808 ≤ n) (h1 : n ≤ 9223372036854775807) : (regB n).size ≤ 21 := by
  have := itoa_len h0 h1
  simp [regB, ByteArray.size]; omega
theorem cReg1 {a : Int} (h0 : 0 ≤ a) (h1 : a ≤ 9223372036854775807) {w : World} {B : Nat} (hc : Cells w B 3 #[.int .i64 a]) (ht : Tb w) : Calls Tryz.prog 60 #[.pointer (some ⟨B, 0, none⟩)] w fun e w' => e = .returned (.string (regB a)) ∧ Below w.heap.size w w' := by
  have c0 := (hc.cell 0).trans (show _ = some (Value.int .i64 a) from rfl)
  go_enter Tryz.func60, Tryz.ntmps60
  go_wp2_with fail
  refine (cItoa (by omega) h1 ht).mono ?_
  rintro e w' ⟨rfl, hb⟩
  have hz := itoaB_size (n := a) (by omega) (by omega)
  go_wp2
  go_ret
  exact ⟨by rw [reg_eq]; rfl, hb⟩
theorem cImm1 {op a b n : Int} (hn : -32768 ≤ n ∧ n ≤ 32767) {w : World} {B : Nat} (hc : Cells w B 69 (instA op a b n)) (ht : Tb w) : Calls Tryz.prog 61 #[.pointer (some ⟨B, 0, none⟩)] w fun e w' => e = .returned (.string (itoaB n)) ∧ Below w.heap.size w w' := by
  have c0 := (hc.cell 3).trans (show _ = some (Value.int .i64 n) from rfl)
  go_enter Tryz.func61, Tryz.ntmps61
  go_wp2_with fail
  refine (cItoa (by omega) (by omega) ht).mono ?_
  rintro e w' ⟨rfl, hb⟩
  go_wp2
  go_ret
  exact ⟨rfl, hb⟩
/-- What a string ahead of another one makes. -/
theorem cText_out {op a b n : Int} (h : mayL op a b n = false) (w : World) : Calls Tryz.prog 35 #[.agg (instA op a b n)] w fun e w' => e = .returned (.tuple #[.string ⟨#[]⟩, .int .i64 2]) ∧ Below w.heap.size w w' := by
  obtain ⟨K1, Hb, hs⟩ := cells1 w (instA op a b n) 69
  have i0 := (K1.cell 0).trans (show _ = some (Value.int .i64 op) from rfl)
  have i1 := (K1.cell 1).trans (show _ = some (Value.int .i64 a) from rfl)
  have i2 := (K1.cell 2).trans (show _ = some (Value.int .i64 b) from rfl)
  have i3 := (K1.cell 3).trans (show _ = some (Value.int .i64 n) from rfl)
  have H := Lib.hid h
  clear h
  go_enter Tryz.func35, Tryz.ntmps35
  go_wp2_with fail
  refine (cMay _ _ _ _ _).mono ?_
  rw [H.out]
  rintro e W2 ⟨rfl, hb2⟩
  have B2 := Hb.trans (hb2.mono Hb.size)
  go_wp2
  go_ret2
  exact ⟨rfl, B2⟩
end Go.Proofs.YtbfmlmnhdogojaaGreatDoor
namespace Go.Proofs.YtbfmlmnhdogojaaGreatDoor
open Go.ChangeShapes Go.WideShapes Go.ChangeAt Go.RowKit Go.Shelf Go.Deep

/-- The slice at A reads the numbers l, out of a block below B. -/
structure Rd (W : World) (B : Nat) (k : IntKind) (A : Option Addr) (l : List Int) : Prop where
  some_ : 0 < l.length → ∃ g off, A = some ⟨g, off, none⟩ ∧ g < B
  cell : ∀ g off, A = some ⟨g, off, none⟩ → ∀ i x, l[i]? = some x → W.cell? ⟨g, off + i, none⟩ = some (.int k x)
theorem Rd.keep {W W' : World} {B : Nat} {k : IntKind} {A : Option Addr} {l : List Int} (h : Rd W B k A l) (hb : ∀ g, g < B → W'.heap[g]? = W.heap[g]?) : Rd W' B k A l :=
  ⟨h.some_, fun g off e i x hx => by
    obtain ⟨g', off', e', hlt⟩ := h.some_ (by have := (List.getElem?_eq_some_iff.1 hx).1; omega)
    have : g' = g := by rw [e] at e'; simp at e'; exact e'.1.symm
    subst this
    exact (World.cell?_of_block (hb _ hlt)).trans (h.cell _ off e i x hx)⟩
theorem Rd.below {W W' : World} {B n : Nat} {k : IntKind} {A : Option Addr} {l : List Int} (h : Rd W B k A l) (hb : Below n W W') (hn : B ≤ n) : Rd W' B k A l :=
  h.keep fun g hg => hb.block g (by omega)
theorem Rd.up {W : World} {B B' : Nat} {k : IntKind} {A : Option Addr} {l : List Int} (h : Rd W B k A l) (hn : B ≤ B') : Rd W B' k A l :=
  ⟨fun h0 => by obtain ⟨g, off, e, hlt⟩ := h.some_ h0; exact ⟨g, off, e, by omega⟩, h.cell⟩

theorem addr_add (g off j : Nat) : (⟨g, off, none⟩ : Addr).add j = ⟨g, off + j, none⟩ := by unfold Addr.add; split <;> simp_all
theorem Rd.of_own {W : World} {base : Nat} {e : TypeId} {g cap : Nat} {k : IntKind} {l : List Int} (h : W.ownsRow base e 1 (.slice (some ⟨g, 0, none⟩) l.length cap) l.length (l.map (Value.int k))) : Rd W W.heap.size k (some ⟨g, 0, none⟩) l :=
  ⟨fun _ => ⟨g, 0, rfl, (h.lt g rfl).2⟩, fun g' off e i x hx => by
    simp at e
    obtain ⟨rfl, rfl⟩ := e
    have hi : i < l.length := (List.getElem?_eq_some_iff.1 hx).1
    rw [Nat.zero_add, h.cellAt i (by omega)]
    simp [hx]⟩
theorem cells_get {W : World} {B : Nat} {t : TypeId} {l : List Int} {k : IntKind} (h : Cells W B t (intsA k l)) {j : Nat} (hj : j < l.length) : W.cell? ⟨B, j, none⟩ = some (.int k l[j]) :=
  (h.cell j).trans (intsA_get (List.getElem?_eq_getElem hj))
theorem intsA_set (k : IntKind) (l : List Int) (j : Nat) (x : Int) : (intsA k l).setIfInBounds j (.int k x) = intsA k (l.set j x) := by
  simp [intsA, List.map_set]

section
variable {H : Type} {enc : TypeId × Value → H} {P : Program} {w : World} {base : Nat} {spare : Nat → Bool} {held : Bool} {fuel : Nat}
/-- The cells of an array of whole numbers. -/
theorem cells_ints {t e : TypeId} {n : Nat} {k : IntKind} {cs : List Value} {x : DataW H × List MemPlace} (ht : P.underlying t = some (.array n e)) (hc : P.cellsOf e = 1) (hct : P.cellsOf t = n) (he : P.underlying e = some (.int k))
    (h : DataW.trod enc P w base spare held fuel t cs = some x) : ∃ l : List Int, cs = l.map (Value.int k) ∧ l.length = n ∧ ∀ x ∈ l, (Lit.int k x).wf = true := by
  obtain ⟨xs, m, _, _, hlen, hxs, hel⟩ := DataW.trod_array ht h
  have hall : ∀ v ∈ cs, ∃ a : Int, v = .int k a ∧ (Lit.int k a).wf = true := by
    intro v hv
    obtain ⟨i, hi, rfl⟩ := List.getElem_of_mem hv
    have hin : i < n := by rw [← hct, ← hlen]; exact hi
    have h1 := hel i hin
    rw [hc, Nat.mul_one, List.drop_eq_getElem_cons hi, List.take_succ_cons, List.take_zero, List.getElem?_eq_getElem (by omega)] at h1
    obtain ⟨a, e1, _, w1⟩ := DataW.trod_int he h1
    simp at e1
    exact ⟨a, e1, w1⟩
  have : ∀ L : List Value, (∀ v ∈ L, ∃ a : Int, v = .int k a ∧ (Lit.int k a).wf = true) → ∃ l : List Int, L = l.map (Value.int k) ∧ ∀ x ∈ l, (Lit.int k x).wf = true := by
    intro L
    induction L with
    | nil => exact fun _ => ⟨[], rfl, by simp⟩
    | cons v L ih =>
      intro hL
      obtain ⟨a, rfl, wa⟩ := hL v (by simp)
      obtain ⟨l, rfl, hl⟩ := ih (fun v hv => hL v (by simp [hv]))
      exact ⟨a :: l, rfl, by simpa using ⟨wa, hl⟩⟩
  obtain ⟨l, e1, hl⟩ := this _ hall
  exact ⟨l, e1, by rw [← hct, ← hlen, e1, List.length_map], hl⟩
/-- A slice, opened: the cells of each element below its length. -/
theorem open_elems {t e : TypeId} {r : Reach} {b0 : Nat} {v : Value} {d : DataW H} {ps : List MemPlace} (ht : P.underlying t = some (.slice e)) (hpos : 0 < P.cellsOf e) (hv : Value.okWide P w r b0 t v) (h : DataW.Trod enc P w base spare held t v d ps) :
    ∃ A len cap, v = .slice A len cap ∧ len ≤ cap ∧ cap ≤ maxLen ∧ (0 < len → ∃ g off, A = some ⟨g, off, none⟩ ∧ g < w.heap.size) ∧ (∀ g off, A = some ⟨g, off, none⟩ → ∀ i, i < len → ∃ cs n x, cs.length = P.cellsOf e ∧
      (∀ j, j < P.cellsOf e → w.cell? ⟨g, off + i * P.cellsOf e + j, none⟩ = cs[j]?) ∧ DataW.trod enc P w base spare held n e cs = some x) := by
  obtain ⟨A, len, cap, rfl⟩ := okWide_slice ht hv
  obtain ⟨fuel, hf⟩ := h
  have hf' : DataW.trod enc P w base spare held fuel t [.slice A len cap] = some (d, ps) := hf
  rcases open_slice ht hf' with ⟨h1, _⟩ | ⟨a, len', cap', m, n, D, Pl, h1, hb, hl, hm, hmm, _, hx⟩
  · simp at h1
    obtain ⟨rfl, rfl, rfl⟩ := h1
    exact ⟨none, 0, 0, rfl, Nat.le_refl _, by simp [maxLen], by omega, by simp⟩
  · simp at h1
    obtain ⟨rfl, rfl, rfl⟩ := h1
    have hlm : len ≤ m := by rw [hmm]; split <;> omega
    refine ⟨some a, len, cap, rfl, hl, hm, fun h0 => ?_, fun g off e i hi => ?_⟩
    · obtain ⟨cs, h2, h3⟩ := hx 0 (by omega)
      obtain ⟨_, hlen, hc⟩ := World.cells?_some h2
      have h4 := hc 0 hpos
      rw [List.getElem?_eq_getElem (by omega)] at h4
      have h5 := World.cell?_spot h4
      obtain ⟨g, off, spot⟩ := a
      have hsp : spot = none := by simpa [Addr.add] using h5
      subst hsp
      rw [addr_add, addr_add] at h4
      refine ⟨g, off, rfl, ?_⟩
      unfold World.cell? at h4
      cases ho : w.heap[g]? with
      | none => simp [ho] at h4
      | some o => exact (Array.getElem?_eq_some_iff.1 ho).1
    · simp at e
      subst e
      obtain ⟨cs, h2, h3⟩ := hx i (by omega)
      obtain ⟨_, hlen, hc⟩ := World.cells?_some h2
      refine ⟨cs, n, _, hlen, fun j hj => ?_, h3⟩
      have h4 := hc j hj
      rw [addr_add, addr_add] at h4
      exact h4
theorem choose_list {α : Type} {p : Nat → α → Prop} : ∀ (n : Nat), (∀ i, i < n → ∃ x, p i x) → ∃ l : List α, l.length = n ∧ ∀ i x, l[i]? = some x → p i x
  | 0, _ => ⟨[], rfl, by simp⟩
  | n + 1, h => by
    obtain ⟨l, h1, h2⟩ := choose_list n (fun i hi => h i (by omega))
    obtain ⟨x, hx⟩ := h n (by omega)
    refine ⟨l ++ [x], by simp [h1], fun i y hy => ?_⟩
    by_cases e : i < n
    · rw [List.getElem?_append_left (by omega)] at hy; exact h2 i y hy
    · have : i = n := by have := (List.getElem?_eq_some_iff.1 hy).1; simp at this; omega
      subst this
      rw [List.getElem?_append_right (by omega), h1] at hy
      simp at hy; subst hy; exact hx
/-- A slice of whole numbers. -/
theorem open_ints {t e : TypeId} {r : Reach} {b0 : Nat} {k : IntKind} {v : Value} {d : DataW H} {ps : List MemPlace} (ht : P.underlying t = some (.slice e)) (hc : P.cellsOf e = 1) (he : P.underlying e = some (.int k)) (hv : Value.okWide P w r b0 t v) (h : DataW.Trod enc P w base spare held t v d ps) :
    ∃ (A : Option Addr) (l : List Int) (cap : Nat), v = .slice A l.length cap ∧ l.length ≤ cap ∧ cap ≤ maxLen ∧ Rd w w.heap.size k A l ∧ ∀ x ∈ l, (Lit.int k x).wf = true := by
  obtain ⟨A, len, cap, rfl, h1, h2, h3, h4⟩ := open_elems ht (by omega) hv h
  have : ∀ i, i < len → ∃ x : Int, (∀ g off, A = some ⟨g, off, none⟩ → w.cell? ⟨g, off + i, none⟩ = some (.int k x)) ∧ (Lit.int k x).wf = true := by
    intro i hi
    obtain ⟨g, off, rfl, _⟩ := h3 (by omega)
    obtain ⟨cs, n, x, hl, hcell, htr⟩ := h4 g off rfl i hi
    obtain ⟨a, e1, _, w1⟩ := DataW.trod_int he htr
    subst e1
    refine ⟨a, fun g' off' e => ?_, w1⟩
    simp at e
    obtain ⟨rfl, rfl⟩ := e
    have := hcell 0 (by omega)
    rw [hc] at this
    simpa using this
  obtain ⟨l, hl, hp⟩ := choose_list len this
  subst hl
  refine ⟨A, l, cap, rfl, h1, h2, ⟨h3, fun g off e i x hx => (hp i x hx).1 g off e⟩, fun x hx => ?_⟩
  obtain ⟨i, hi⟩ := List.getElem?_of_mem hx
  exact (hp i x hi).2
end
end Go.Proofs.YtbfmlmnhdogojaaGreatDoor
namespace Go.Proofs.YtbfmlmnhdogojaaGreatDoor
open Go.RowKit Go.Shelf

/-- All blocks but those of S are as they were. -/
structure KeptBut (S : Nat → Prop) (W W' : World) : Prop where
  os : W'.os = W.os
  tape : W'.tape = W.tape
  output : W'.output = W.output
  size : W.heap.size ≤ W'.heap.size
  block : ∀ k, k < W.heap.size → ¬ S k → W'.heap[k]? = W.heap[k]?
section
variable {S : Nat → Prop} {W W' W'' : World}
theorem KeptBut.refl (S : Nat → Prop) (W : World) : KeptBut S W W := ⟨rfl, rfl, rfl, Nat.le_refl _, fun _ _ _ => rfl⟩
theorem KeptBut.trans (h : KeptBut S W W') (k : KeptBut S W' W'') : KeptBut S W W'' :=
  ⟨k.os.trans h.os, k.tape.trans h.tape, k.output.trans h.output, Nat.le_trans h.size k.size, fun i hi hs => (k.block i (Nat.lt_of_lt_of_le hi h.size) hs).trans (h.block i hi hs)⟩
theorem KeptBut.mono {S' : Nat → Prop} (h : KeptBut S W W') (hs : ∀ k, k < W.heap.size → S k → S' k) : KeptBut S' W W' :=
  ⟨h.os, h.tape, h.output, h.size, fun k hk hn => h.block k hk (fun q => hn (hs k hk q))⟩
theorem KeptBut.of_below (S : Nat → Prop) (h : Below W.heap.size W W') : KeptBut S W W' := ⟨h.os, h.tape, h.output, h.size, fun k hk _ => h.block k hk⟩
theorem KeptBut.of_grown {row : Option Nat} (h : W.grownBy W' row) (hr : ∀ k, row = some k → S k) : KeptBut S W W' :=
  ⟨h.os, h.tape, h.output, h.size, fun k hk hn => h.block k hk (fun e => hn (hr k e.symm))⟩
theorem KeptBut.set {p : Nat} (hp : S p) (j : Nat) (v : Value) : KeptBut S W (W.setCell ⟨p, j, none⟩ v) :=
  ⟨rfl, rfl, rfl, by simp [World.setCell], fun k _ hn => Below.heap_setCell W ⟨p, j, none⟩ v k (fun e => hn (e ▸ hp))⟩
theorem KeptBut.below {n : Nat} (h : KeptBut S W W') (hs : ∀ k, S k → n ≤ k) (hn : n ≤ W.heap.size) : Below n W W' :=
  ⟨h.os, h.tape, h.output, h.size, fun k hk => h.block k (by omega) (fun q => by have := hs k q; omega)⟩
theorem KeptBut.cells {k : Nat} {t : TypeId} {c : Array Value} (h : KeptBut S W W') (hc : Cells W k t c) (hn : ¬ S k) : Cells W' k t c := (h.block k hc.lt hn).trans hc
theorem KeptBut.row {base : Nat} {e : TypeId} {size n : Nat} {v : Value} {xs : List Value} (h : KeptBut S W W') (hr : W.ownsRow base e size v n xs) (hn : ∀ k, v.ownBlock = some k → ¬ S k) : W'.ownsRow base e size v n xs := by
  refine ⟨hr.1, ?_⟩
  rcases hr.2 with h0 | ⟨g, cap, cur, rfl, hg, hgg, rest⟩
  · exact .inl h0
  · exact .inr ⟨g, cap, cur, rfl, hg, (h.block g (Array.getElem?_eq_some_iff.1 hgg).1 (hn g rfl)).trans hgg, rest⟩
end
theorem own_base {W : World} {base base' : Nat} {e : TypeId} {size n : Nat} {v : Value} {xs : List Value} (h : W.ownsRow base e size v n xs) (hb : base' ≤ base) : W.ownsRow base' e size v n xs := by
  refine ⟨h.1, ?_⟩
  rcases h.2 with h0 | ⟨g, cap, cur, hv, hg, rest⟩
  · exact .inl h0
  · exact .inr ⟨g, cap, cur, hv, by omega, rest⟩
theorem own_slice {W : World} {base : Nat} {e : TypeId} {size n : Nat} {v : Value} {xs : List Value} (h : W.ownsRow base e size v n xs) : ∃ A c, v = .slice A n c := by
  rcases h.2 with ⟨h1, h0⟩ | ⟨g, cap, cur, hv, _⟩
  · subst h1; exact ⟨none, 0, by rw [h0]⟩
  · exact ⟨_, _, hv⟩
/-- What is to be filled in: its line, its place, where its instruction lies, which name. -/
structure HoleV where
  line : Int
  place : Int
  inst : Option Nat
  name : ByteArray
def HoleV.cells (h : HoleV) : List Value := [.int .i64 h.line, .int .i64 h.place, .pointer (h.inst.map fun b => ⟨b, 0, none⟩), .string h.name]
def namesV (ns : List (ByteArray × Int)) : List Value := ns.flatMap fun p => [.string p.1, .int .i64 p.2]
def holesV (hs : List HoleV) : List Value := hs.flatMap HoleV.cells
/-- The program lies in W: its block, and its rows from R on. -/
structure PS (W : World) (R pb : Nat) (vb vn vh : Value) (line : Int) (bs : List Int) (ns : List (ByteArray × Int)) (hs : List HoleV) : Prop where
  c : Cells W pb 82 #[.int .i64 line, vb, vn, vh]
  b : W.ownsRow R 5 1 vb bs.length (bs.map (Value.int .u8))
  n : W.ownsRow R 44 2 vn ns.length (namesV ns)
  h : W.ownsRow R 89 4 vh hs.length (holesV hs)
  bn : ∀ k, vb.ownBlock = some k → vn.ownBlock ≠ some k
  bh : ∀ k, vb.ownBlock = some k → vh.ownBlock ≠ some k
  nh : ∀ k, vn.ownBlock = some k → vh.ownBlock ≠ some k
  hp : pb < R
/-- Its blocks. -/
def POwn (pb : Nat) (vb vn vh : Value) (k : Nat) : Prop := k = pb ∨ vb.ownBlock = some k ∨ vn.ownBlock = some k ∨ vh.ownBlock = some k
section
variable {W W' : World} {R pb : Nat} {vb vn vh : Value} {line : Int} {bs : List Int} {ns : List (ByteArray × Int)} {hs : List HoleV}
theorem PS.below (h : PS W R pb vb vn vh line bs ns hs) (hb : Below W.heap.size W W') : PS W' R pb vb vn vh line bs ns hs :=
  have k := KeptBut.of_below (fun _ => False) hb
  ⟨k.cells h.c id, k.row h.b (fun _ _ => id), k.row h.n (fun _ _ => id), k.row h.h (fun _ _ => id), h.bn, h.bh, h.nh, h.hp⟩
theorem PS.kept {S : Nat → Prop} (h : PS W R pb vb vn vh line bs ns hs) (k : KeptBut S W W') (hn : ∀ q, POwn pb vb vn vh q → ¬ S q) : PS W' R pb vb vn vh line bs ns hs :=
  ⟨k.cells h.c (hn _ (.inl rfl)), k.row h.b (fun q e => hn q (.inr (.inl e))), k.row h.n (fun q e => hn q (.inr (.inr (.inl e)))), k.row h.h (fun q e => hn q (.inr (.inr (.inr e)))), h.bn, h.bh, h.nh, h.hp⟩
theorem PS.lt (h : PS W R pb vb vn vh line bs ns hs) {k : Nat} (hk : POwn pb vb vn vh k) : k < W.heap.size := by
  rcases hk with rfl | e | e | e
  · exact h.c.lt
  · exact (h.b.lt k e).2
  · exact (h.n.lt k e).2
  · exact (h.h.lt k e).2
end
theorem own_set {W : World} {base : Nat} {e : TypeId} {size n : Nat} {v : Value} {B : Nat} {xs : List Value} (h : W.ownsRow base e size v n xs) (hB : ∀ g, v.ownBlock = some g → g ≠ B) (j : Nat) (u : Value) : (W.setCell ⟨B, j, none⟩ u).ownsRow base e size v n xs :=
  (KeptBut.set (S := fun k => k = B) rfl j u).row h hB
theorem PS.np {W : World} {R pb : Nat} {vb vn vh : Value} {line : Int} {bs : List Int} {ns : List (ByteArray × Int)} {hs : List HoleV} (h : PS W R pb vb vn vh line bs ns hs) : ∀ k, vb.ownBlock = some k ∨ vn.ownBlock = some k ∨ vh.ownBlock = some k → k ≠ pb := by
  rintro k (e | e | e) rfl
  · have := (h.b.lt k e).1; have := h.hp; omega
  · have := (h.n.lt k e).1; have := h.hp; omega
  · have := (h.h.lt k e).1; have := h.hp; omega
/-- Bytes laid behind, and their row's new place kept. -/
theorem PS.putB {W w1 : World} {R pb : Nat} {vb vn vh : Value} {line : Int} {bs xs : List Int} {ns : List (ByteArray × Int)} {hs : List HoleV} (h : PS W R pb vb vn vh line bs ns hs) {g n cap : Nat} (hn : n = bs.length + xs.length)
    (hown : w1.ownsRow R 5 1 (.slice (some ⟨g, 0, none⟩) n cap) n (bs.map (Value.int .u8) ++ xs.map (Value.int .u8))) (hgrow : W.grownBy w1 vb.ownBlock) (hat : vb.ownBlock = some g ∨ g = W.heap.size) :
    ∃ vb', .slice (some ⟨g, 0, none⟩) n cap = vb' ∧ PS (w1.setCell ⟨pb, 1, none⟩ vb') R pb vb' vn vh line (bs ++ xs) ns hs ∧ KeptBut (fun k => k = pb ∨ vb.ownBlock = some k) W (w1.setCell ⟨pb, 1, none⟩ vb') ∧ ∀ k, vb'.ownBlock = some k → vb.ownBlock = some k ∨ W.heap.size ≤ k := by
  have kg := KeptBut.of_grown (S := fun k => vb.ownBlock = some k) hgrow (fun k e => e)
  have hg : ∀ k, (Value.slice (some ⟨g, 0, none⟩) n cap).ownBlock = some k → vb.ownBlock = some k ∨ W.heap.size ≤ k := fun k e => by
    simp [Value.ownBlock] at e
    subst e
    rcases hat with e | e
    · exact .inl e
    · exact .inr (by omega)
  have hgp : g ≠ pb := by
    rcases hat with e | e
    · exact h.np g (.inl e)
    · have := h.c.lt; omega
  have hnl := fun k (e : vn.ownBlock = some k) => (h.n.lt k e).2
  have hhl := fun k (e : vh.ownBlock = some k) => (h.h.lt k e).2
  have ks := KeptBut.set (W := w1) (S := fun k => k = pb) rfl 1 (.slice (some ⟨g, 0, none⟩) n cap)
  refine ⟨_, rfl, ⟨(kg.cells h.c fun e => h.np pb (.inl e) rfl).set 1 _, ?_, ?_, ?_, ?_, ?_, h.nh, h.hp⟩, (kg.mono fun k _ e => .inr e).trans (ks.mono fun k _ e => .inl e), hg⟩
  · rw [List.length_append, List.map_append, ← hn]
    exact own_set hown (fun k e => by simp [Value.ownBlock] at e; omega) _ _
  · exact own_set (kg.row h.n fun k e q => h.bn k q e) (fun k e => h.np k (.inr (.inl e))) _ _
  · exact own_set (kg.row h.h fun k e q => h.bh k q e) (fun k e => h.np k (.inr (.inr e))) _ _
  · intro k e q
    rcases hg k e with e | e
    · exact h.bn k e q
    · have := hnl k q; omega
  · intro k e q
    rcases hg k e with e | e
    · exact h.bh k e q
    · have := hhl k q; omega
theorem cMust (p : Value) (e : Int) (w : World) : Calls Tryz.prog 69 #[p, .bool true, .int .i64 e] w fun e w' => e = .returned (.tuple #[]) ∧ w = w' := by
  go_enter Tryz.func69, Tryz.ntmps69
  go_wp2
  go_end0
  exact ⟨rfl, rfl⟩
theorem info_u8 : (Tryz.prog.info? 5).map (fun i => (i.zero, i.size, i.bytes)) = some (some (.int .u8 0), 1, 1) := by kernel_rfl
section
variable {W : World} {R pb : Nat} {vb vn vh : Value} {line : Int} {bs : List Int} {ns : List (ByteArray × Int)} {hs : List HoleV}
set_option maxRecDepth 100000 in
set_option maxHeartbeats 1000000 in
theorem cPut (h : PS W R pb vb vn vh line bs ns hs) {A : Option Addr} {xs : List Int} {c : Nat} (hr : Rd W W.heap.size .u8 A xs) (hx : 0 < xs.length) (hlen : bs.length + xs.length ≤ 2048) (hR : R ≤ W.heap.size) :
    Calls Tryz.prog 99 #[.pointer (some ⟨pb, 0, none⟩), .slice A xs.length c] W fun e W' => e = .returned (.tuple #[]) ∧ ∃ vb', PS W' R pb vb' vn vh line (bs ++ xs) ns hs ∧ KeptBut (fun k => k = pb ∨ vb.ownBlock = some k) W W' ∧ ∀ k, vb'.ownBlock = some k → vb.ownBlock = some k ∨ W.heap.size ≤ k := by
  obtain ⟨i0, hi0, hz0, hz1, hz2⟩ := info_parts info_u8
  obtain ⟨g, off, rfl, hg⟩ := hr.some_ hx
  obtain ⟨Ab, cb, rfl⟩ := own_slice h.b
  have q1 := (h.c.cell 1).trans (show _ = some (Value.slice Ab bs.length cb) from rfl)
  have f1 := h.c.frozen 1
  have hle : ((bs.length : Int) + xs.length) ≤ 2048 := by omega
  have hnews : ∀ j u, (xs.map (Value.int .u8))[j]? = some u → W.cell? ((⟨g, off, none⟩ : Addr).add j) = some u := fun j u hu => by
    rw [List.getElem?_map] at hu
    cases hxj : xs[j]? with
    | none => rw [hxj] at hu; cases hu
    | some y =>
      rw [hxj] at hu
      rw [addr_add]
      exact (hr.cell _ _ rfl j y hxj).trans (by simpa using hu)
  have HN := Lib.hid hnews
  have H := Lib.hid h
  clear hnews h hr
  go_enter Tryz.func99, Tryz.ntmps99
  go_wp2_with fail
  refine (cMust _ _ _).mono ?_
  rintro e w' ⟨rfl, rfl⟩
  have hpb := H.out.np pb
  go_wp2_with (first
    | (at_builtin
       refine wpList_append_lies _ rfl _ _ 24 rfl R 5 i0 (.int .u8 0) 1 1 Tryz.underlying24 hi0 hz0 hz1 hz2 rfl (by decide) (.slice Ab bs.length cb) _ _ rfl H.out.b ⟨g, off, none⟩ xs.length c (xs.map (Value.int .u8)) rfl (by simp) HN.out (by simp [Value.oneCell']) hx (by simp only [maxLen]; omega) (by omega) hR _ rfl ?_
       intro g' cap' w1 hown hgrow hat hlt
       have c1 := (KeptBut.of_grown (S := fun k => (Value.slice Ab bs.length cb).ownBlock = some k) hgrow (fun k e => e)).cells H.out.c (fun e => hpb (.inl e) rfl)
       have q1 := c1.cell 1
       have f1 := c1.frozen 1
       simp at q1
       have HF := Lib.hid (H.out.putB (xs := xs) rfl hown hgrow hat)
       clear c1 hown hgrow hat hlt))
  go_end0
  obtain ⟨vb', e, h1, h2, h3⟩ := HF.out
  rw [e]
  exact ⟨rfl, vb', h1, h2, h3⟩
end
end Go.Proofs.YtbfmlmnhdogojaaGreatDoor
namespace Go.Proofs.YtbfmlmnhdogojaaGreatDoor
open Go.RowKit Go.Shelf

/-- The library's variables stand as they are laid. -/
structure Gl (W : World) : Prop where
  tb : Tb W
  ml : ∃ m, W.cell? ⟨1, 0, none⟩ = some (.int .i64 m)
  es : ∃ tp p, W.var? Tryz.prog "strconv.ErrSyntax" = some #[.iface tp p]
  er : ∃ tp p, W.var? Tryz.prog "strconv.ErrRange" = some #[.iface tp p]
  sz : 8 ≤ W.heap.size
theorem var_same {W W' : World} {nm : String} {g : Nat} (hg : Tryz.prog.globalNamed nm = some g) (hb : W'.heap[g]? = W.heap[g]?) : W'.var? Tryz.prog nm = W.var? Tryz.prog nm := by
  unfold World.var?
  rw [hg]
  simp only [Option.bind_some]
  rw [hb]
theorem Gl.kept {S : Nat → Prop} {W W' : World} (h : Gl W) (k : KeptBut S W W') (hS : ∀ q, q < 8 → ¬ S q) : Gl W' := by
  have hb : ∀ q, q < 8 → W'.heap[q]? = W.heap[q]? := fun q hq => k.block q (by have := h.sz; omega) (hS q hq)
  obtain ⟨m, hm⟩ := h.ml
  obtain ⟨tp, p, hs⟩ := h.es
  obtain ⟨tp', p', hr⟩ := h.er
  refine ⟨?_, ⟨m, (World.cell?_of_block (hb 1 (by omega))).trans hm⟩, ⟨tp, p, (var_same (g := 6) (by kernel_rfl) (hb 6 (by omega))).trans hs⟩, ⟨tp', p', (var_same (g := 7) (by kernel_rfl) (hb 7 (by omega))).trans hr⟩, by have := h.sz; have := k.size; omega⟩
  have ht := h.tb
  unfold Tb Lib.TabIs at ht ⊢
  rw [var_same (W := W) (g := 0) (by kernel_rfl) (hb 0 (by omega))]
  exact ht
theorem Gl.below {W W' : World} {n : Nat} (h : Gl W) (hb : Below n W W') (hn : 8 ≤ n) (_hs : n ≤ W.heap.size) : Gl W' :=
  h.kept (S := fun k => n ≤ k) ⟨hb.os, hb.tape, hb.output, hb.size, fun k _ hk => hb.block k (by omega)⟩ (fun q hq => by omega)
theorem Gl.b {W W' : World} (h : Gl W) (hb : Below W.heap.size W W') : Gl W' := h.below hb h.sz (Nat.le_refl _)
/-- The number that is read, and whether it may stand. -/
def numV (s : ByteArray) : Int := match Lib.parseIntB 64 s.data.toList with
  | .ok v => v
  | .syntax => 0
  | .range => Lib.intSat 64 s.data.toList
def numB (s : ByteArray) (lo hi : Int) : Bool := match Lib.parseIntB 64 s.data.toList with
  | .ok v => ((itoaB v).toList == s.toList) && (decide (lo ≤ v) && decide (v ≤ hi))
  | _ => false
theorem parse_bounds {l : List UInt8} {v : Int} (h : Lib.parseIntB 64 l = .ok v) : -9223372036854775808 ≤ v ∧ v ≤ 9223372036854775807 := by
  unfold Lib.parseIntB at h
  split at h
  · cases h
  · simp only at h
    split at h
    · cases h
    · cases h
    · split at h
      · cases h
      · split at h
        · cases h
        · rename_i h1 h2
          injection h with h
          split at h <;> simp_all <;> omega
end Go.Proofs.YtbfmlmnhdogojaaGreatDoor
namespace Go.Proofs.YtbfmlmnhdogojaaGreatDoor
open Go.RowKit Go.Shelf

/-- The words of a line. -/
def wordsL (s : ByteArray) : List ByteArray := Lib.splitB ⟨#[32]⟩ 0 (Lib.countB s ⟨#[32]⟩) s
/-- The words from k on are left; g holds them all, q what is left. -/
structure WS (W : World) (g q : Nat) (ws : List ByteArray) (k : Nat) : Prop where
  all : Cells W g 9 (ws.map Value.string).toArray
  left : ∃ a n, n + k = ws.length ∧ Cells W q 49 #[.slice a n n] ∧ (0 < n → a = some ⟨g, k, none⟩)
section
variable {W W' : World} {g q : Nat} {ws : List ByteArray} {k : Nat}
theorem WS.kept {S : Nat → Prop} (h : WS W g q ws k) (hk : KeptBut S W W') (h1 : ¬ S g) (h2 : ¬ S q) : WS W' g q ws k := by
  obtain ⟨h3, a, n, h4, h5, h6⟩ := h
  exact ⟨hk.cells h3 h1, a, n, h4, hk.cells h5 h2, h6⟩
end
theorem cWords {s : ByteArray} {w : World} (hG : Gl w) (hs : s.size < 4294967281) (hn : (wordsL s).length = Lib.countB s ⟨#[32]⟩ + 1) : Calls Tryz.prog 117 #[.string s] w fun e w' => e = .returned (.func (.func 128) #[] #[.pointer (some ⟨w.heap.size + 1, 0, none⟩)]) ∧ WS w' w.heap.size (w.heap.size + 1) (wordsL s) 0 ∧ Below w.heap.size w w' := by
  obtain ⟨m, hm⟩ := hG.ml
  have H := Lib.hid (Tryz.strings_Split s ⟨#[32]⟩ m w hs hm (by decide))
  have hN := Lib.hid hn
  clear hn
  go_enter Tryz.func117, Tryz.ntmps117
  go_wp2_with fail
  refine H.out.mono ?_
  rintro e w' ⟨rfl, rfl⟩
  go_wp2
  go_ret
  have hw := hN.out
  have k0 := Cells.new w 9 ((Lib.splitB ⟨#[32]⟩ 0 (Lib.countB s ⟨#[32]⟩) s).map Value.string).toArray
  have b0 := (Below.refl _ w).alloc (Nat.le_refl _) (.cells ((Lib.splitB ⟨#[32]⟩ 0 (Lib.countB s ⟨#[32]⟩) s).map Value.string).toArray 9)
  have k1 := Cells.new (w.alloc (.cells ((Lib.splitB ⟨#[32]⟩ 0 (Lib.countB s ⟨#[32]⟩) s).map Value.string).toArray 9)) 49 #[.slice (some ⟨w.heap.size, 0, none⟩) (Lib.countB s ⟨#[32]⟩ + 1) (Lib.countB s ⟨#[32]⟩ + 1)]
  rw [World.size_alloc] at k1
  exact ⟨rfl, ⟨k0.alloc _, _, _, hw.symm, k1, fun _ => rfl⟩, b0.alloc b0.size _⟩
set_option maxHeartbeats 1000000 in
theorem cNext {g q : Nat} {ws : List ByteArray} {k : Nat} {x : ByteArray} {w : World} (h : WS w g q ws k) (hx : ws[k]? = some x) : Calls Tryz.prog 128 #[.pointer (some ⟨q, 0, none⟩)] w fun e w' => e = .returned (.tuple #[.string x, .bool true]) ∧ WS w' g q ws (k + 1) ∧ KeptBut (fun b => b = q) w w' := by
  obtain ⟨hall, a, n, hn, hq, ha⟩ := h
  have hlt : k < ws.length := (List.getElem?_eq_some_iff.1 hx).1
  obtain ⟨m, rfl⟩ : ∃ m, n = m + 1 := ⟨n - 1, by omega⟩
  obtain rfl := ha (by omega)
  have q0 := (hq.cell 0).trans (show _ = some (Value.slice (some ⟨g, k, none⟩) (m + 1) (m + 1)) from rfl)
  have f0 := hq.frozen 0
  have cx : w.cell? ⟨g, k, none⟩ = some (.string x) := by
    rw [hall.cell k, List.getElem?_toArray, List.getElem?_map, hx]; rfl
  have HQ := Lib.hid (And.intro hall hq)
  have HN := Lib.hid hn
  clear hall hq hn ha
  rcases Nat.eq_zero_or_pos m with rfl | hm0
  all_goals
    go_enter Tryz.func128, Tryz.ntmps128
    go_wp2
    go_ret2
    obtain ⟨hall, hq⟩ := HQ.out
    have hgq : g ≠ q := by
      rintro rfl
      have e := hall.symm.trans hq
      simp at e
    refine ⟨rfl, ⟨hall.other _ hgq, _, _, ?_, hq.set 0 _, fun h0 => ?_⟩, KeptBut.set (S := fun b => b = q) rfl 0 _⟩
    · have := HN.out; omega
    · first | rfl | (exfalso; omega)
theorem cNext_end {g q : Nat} {ws : List ByteArray} {w : World} (h : WS w g q ws ws.length) : Calls Tryz.prog 128 #[.pointer (some ⟨q, 0, none⟩)] w fun e w' => e = .returned (.tuple #[.string ⟨#[]⟩, .bool false]) ∧ w = w' := by
  obtain ⟨hall, a, n, hn, hq, ha⟩ := h
  obtain rfl : n = 0 := by omega
  have q0 := (hq.cell 0).trans (show _ = some (Value.slice a 0 0) from rfl)
  clear hall hq hn ha
  go_enter Tryz.func128, Tryz.ntmps128
  go_wp2
  go_ret2
  exact ⟨rfl, rfl⟩
end Go.Proofs.YtbfmlmnhdogojaaGreatDoor
