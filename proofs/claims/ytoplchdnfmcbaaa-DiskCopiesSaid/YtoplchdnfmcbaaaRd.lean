/- Slices of whole numbers: what they read; arguments of such types, opened. -/
import Derived.Test.YtoplchdnfmcbaaaBase
import Derived.Deep.Slices
import Derived.Deep.AppendLies
import Derived.Deep.Onto
import Derived.Laws.OwnMore
namespace Go.Proofs.Ytoplchdnfmcbaaa
open Go.ChangeShapes Go.WideShapes Go.ChangeAt Go.RowKit Go.Shelf Go.Deep

/-- The slice at A reads the numbers l, out of a block below B. -/
structure Rd (W : World) (B : Nat) (k : IntKind) (A : Option Addr) (l : List Int) : Prop where
  some_ : 0 < l.length → ∃ g off, A = some ⟨g, off, none⟩ ∧ g < B
  cell : ∀ g off, A = some ⟨g, off, none⟩ → ∀ i x, l[i]? = some x → W.cell? ⟨g, off + i, none⟩ = some (.int k x)
theorem Rd.keep {W W' : World} {B : Nat} {k : IntKind} {A : Option Addr} {l : List Int} (h : Rd W B k A l) (hb : ∀ g, g < B → W'.heap[g]? = W.heap[g]?) : Rd W' B k A l :=
  ⟨h.some_, fun g off e i x hx => by
    obtain ⟨g', off', e', hlt⟩ := h.some_ (by have := (List.getElem?_eq_some_iff.1 hx).1; omega)
    have : g' = g := by rw [e] at e'; simp at e'; exact e'.1.symm
    subst this
    exact (World.cell?_of_block (hb _ hlt)).trans (h.cell _ off e i x hx)⟩
theorem Rd.below {W W' : World} {B n : Nat} {k : IntKind} {A : Option Addr} {l : List Int} (h : Rd W B k A l) (hb : Below n W W') (hn : B ≤ n) : Rd W' B k A l :=
  h.keep fun g hg => hb.block g (by omega)
theorem Rd.up {W : World} {B B' : Nat} {k : IntKind} {A : Option Addr} {l : List Int} (h : Rd W B k A l) (hn : B ≤ B') : Rd W B' k A l :=
  ⟨fun h0 => by obtain ⟨g, off, e, hlt⟩ := h.some_ h0; exact ⟨g, off, e, by omega⟩, h.cell⟩

theorem addr_add (g off j : Nat) : (⟨g, off, none⟩ : Addr).add j = ⟨g, off + j, none⟩ := by unfold Addr.add; split <;> simp_all
theorem Rd.of_own {W : World} {base : Nat} {e : TypeId} {g cap : Nat} {k : IntKind} {l : List Int} (h : W.ownsRow base e 1 (.slice (some ⟨g, 0, none⟩) l.length cap) l.length (l.map (Value.int k))) : Rd W W.heap.size k (some ⟨g, 0, none⟩) l :=
  ⟨fun _ => ⟨g, 0, rfl, (h.lt g rfl).2⟩, fun g' off e i x hx => by
    simp at e
    obtain ⟨rfl, rfl⟩ := e
    have hi : i < l.length := (List.getElem?_eq_some_iff.1 hx).1
    rw [Nat.zero_add, h.cellAt i (by omega)]
    simp [hx]⟩
theorem cells_get {W : World} {B : Nat} {t : TypeId} {l : List Int} {k : IntKind} (h : Cells W B t (intsA k l)) {j : Nat} (hj : j < l.length) : W.cell? ⟨B, j, none⟩ = some (.int k l[j]) :=
  (h.cell j).trans (intsA_get (List.getElem?_eq_getElem hj))
theorem intsA_set (k : IntKind) (l : List Int) (j : Nat) (x : Int) : (intsA k l).setIfInBounds j (.int k x) = intsA k (l.set j x) := by
  simp [intsA, List.map_set]

section
variable {H : Type} {enc : TypeId × Value → H} {P : Program} {w : World} {base : Nat} {spare : Nat → Bool} {held : Bool} {fuel : Nat}
/-- The cells of an array of whole numbers. -/
theorem cells_ints {t e : TypeId} {n : Nat} {k : IntKind} {cs : List Value} {x : DataW H × List MemPlace} (ht : P.underlying t = some (.array n e)) (hc : P.cellsOf e = 1) (hct : P.cellsOf t = n) (he : P.underlying e = some (.int k))
    (h : DataW.trod enc P w base spare held fuel t cs = some x) : ∃ l : List Int, cs = l.map (Value.int k) ∧ l.length = n ∧ ∀ x ∈ l, (Lit.int k x).wf = true := by
  obtain ⟨xs, m, _, _, hlen, hxs, hel⟩ := DataW.trod_array ht h
  have hall : ∀ v ∈ cs, ∃ a : Int, v = .int k a ∧ (Lit.int k a).wf = true := by
    intro v hv
    obtain ⟨i, hi, rfl⟩ := List.getElem_of_mem hv
    have hin : i < n := by rw [← hct, ← hlen]; exact hi
    have h1 := hel i hin
    rw [hc, Nat.mul_one, List.drop_eq_getElem_cons hi, List.take_succ_cons, List.take_zero, List.getElem?_eq_getElem (by omega)] at h1
    obtain ⟨a, e1, _, w1⟩ := DataW.trod_int he h1
    simp at e1
    exact ⟨a, e1, w1⟩
  have : ∀ L : List Value, (∀ v ∈ L, ∃ a : Int, v = .int k a ∧ (Lit.int k a).wf = true) → ∃ l : List Int, L = l.map (Value.int k) ∧ ∀ x ∈ l, (Lit.int k x).wf = true := by
    intro L
    induction L with
    | nil => exact fun _ => ⟨[], rfl, by simp⟩
    | cons v L ih =>
      intro hL
      obtain ⟨a, rfl, wa⟩ := hL v (by simp)
      obtain ⟨l, rfl, hl⟩ := ih (fun v hv => hL v (by simp [hv]))
      exact ⟨a :: l, rfl, by simpa using ⟨wa, hl⟩⟩
  obtain ⟨l, e1, hl⟩ := this _ hall
  exact ⟨l, e1, by rw [← hct, ← hlen, e1, List.length_map], hl⟩
/-- A slice, opened: the cells of each element below its length. -/
theorem open_elems {t e : TypeId} {r : Reach} {b0 : Nat} {v : Value} {d : DataW H} {ps : List MemPlace} (ht : P.underlying t = some (.slice e)) (hpos : 0 < P.cellsOf e) (hv : Value.okWide P w r b0 t v) (h : DataW.Trod enc P w base spare held t v d ps) :
    ∃ A len cap, v = .slice A len cap ∧ len ≤ cap ∧ cap ≤ maxLen ∧ (0 < len → ∃ g off, A = some ⟨g, off, none⟩ ∧ g < w.heap.size) ∧ (∀ g off, A = some ⟨g, off, none⟩ → ∀ i, i < len → ∃ cs n x, cs.length = P.cellsOf e ∧
      (∀ j, j < P.cellsOf e → w.cell? ⟨g, off + i * P.cellsOf e + j, none⟩ = cs[j]?) ∧ DataW.trod enc P w base spare held n e cs = some x) := by
  obtain ⟨A, len, cap, rfl⟩ := okWide_slice ht hv
  obtain ⟨fuel, hf⟩ := h
  have hf' : DataW.trod enc P w base spare held fuel t [.slice A len cap] = some (d, ps) := hf
  rcases open_slice ht hf' with ⟨h1, _⟩ | ⟨a, len', cap', m, n, D, Pl, h1, hb, hl, hm, hmm, _, hx⟩
  · simp at h1
    obtain ⟨rfl, rfl, rfl⟩ := h1
    exact ⟨none, 0, 0, rfl, Nat.le_refl _, by simp [maxLen], by omega, by simp⟩
  · simp at h1
    obtain ⟨rfl, rfl, rfl⟩ := h1
    have hlm : len ≤ m := by rw [hmm]; split <;> omega
    refine ⟨some a, len, cap, rfl, hl, hm, fun h0 => ?_, fun g off e i hi => ?_⟩
    · obtain ⟨cs, h2, h3⟩ := hx 0 (by omega)
      obtain ⟨_, hlen, hc⟩ := World.cells?_some h2
      have h4 := hc 0 hpos
      rw [List.getElem?_eq_getElem (by omega)] at h4
      have h5 := World.cell?_spot h4
      obtain ⟨g, off, spot⟩ := a
      have hsp : spot = none := by simpa [Addr.add] using h5
      subst hsp
      rw [addr_add, addr_add] at h4
      refine ⟨g, off, rfl, ?_⟩
      unfold World.cell? at h4
      cases ho : w.heap[g]? with
      | none => simp [ho] at h4
      | some o => exact (Array.getElem?_eq_some_iff.1 ho).1
    · simp at e
      subst e
      obtain ⟨cs, h2, h3⟩ := hx i (by omega)
      obtain ⟨_, hlen, hc⟩ := World.cells?_some h2
      refine ⟨cs, n, _, hlen, fun j hj => ?_, h3⟩
      have h4 := hc j hj
      rw [addr_add, addr_add] at h4
      exact h4
theorem choose_list {α : Type} {p : Nat → α → Prop} : ∀ (n : Nat), (∀ i, i < n → ∃ x, p i x) → ∃ l : List α, l.length = n ∧ ∀ i x, l[i]? = some x → p i x
  | 0, _ => ⟨[], rfl, by simp⟩
  | n + 1, h => by
    obtain ⟨l, h1, h2⟩ := choose_list n (fun i hi => h i (by omega))
    obtain ⟨x, hx⟩ := h n (by omega)
    refine ⟨l ++ [x], by simp [h1], fun i y hy => ?_⟩
    by_cases e : i < n
    · rw [List.getElem?_append_left (by omega)] at hy; exact h2 i y hy
    · have : i = n := by have := (List.getElem?_eq_some_iff.1 hy).1; simp at this; omega
      subst this
      rw [List.getElem?_append_right (by omega), h1] at hy
      simp at hy; subst hy; exact hx
/-- A slice of whole numbers. -/
theorem open_ints {t e : TypeId} {r : Reach} {b0 : Nat} {k : IntKind} {v : Value} {d : DataW H} {ps : List MemPlace} (ht : P.underlying t = some (.slice e)) (hc : P.cellsOf e = 1) (he : P.underlying e = some (.int k)) (hv : Value.okWide P w r b0 t v) (h : DataW.Trod enc P w base spare held t v d ps) :
    ∃ (A : Option Addr) (l : List Int) (cap : Nat), v = .slice A l.length cap ∧ l.length ≤ cap ∧ cap ≤ maxLen ∧ Rd w w.heap.size k A l ∧ ∀ x ∈ l, (Lit.int k x).wf = true := by
  obtain ⟨A, len, cap, rfl, h1, h2, h3, h4⟩ := open_elems ht (by omega) hv h
  have : ∀ i, i < len → ∃ x : Int, (∀ g off, A = some ⟨g, off, none⟩ → w.cell? ⟨g, off + i, none⟩ = some (.int k x)) ∧ (Lit.int k x).wf = true := by
    intro i hi
    obtain ⟨g, off, rfl, _⟩ := h3 (by omega)
    obtain ⟨cs, n, x, hl, hcell, htr⟩ := h4 g off rfl i hi
    obtain ⟨a, e1, _, w1⟩ := DataW.trod_int he htr
    subst e1
    refine ⟨a, fun g' off' e => ?_, w1⟩
    simp at e
    obtain ⟨rfl, rfl⟩ := e
    have := hcell 0 (by omega)
    rw [hc] at this
    simpa using this
  obtain ⟨l, hl, hp⟩ := choose_list len this
  subst hl
  refine ⟨A, l, cap, rfl, h1, h2, ⟨h3, fun g off e i x hx => (hp i x hx).1 g off e⟩, fun x hx => ?_⟩
  obtain ⟨i, hi⟩ := List.getElem?_of_mem hx
  exact (hp i x hi).2
end
end Go.Proofs.Ytoplchdnfmcbaaa
