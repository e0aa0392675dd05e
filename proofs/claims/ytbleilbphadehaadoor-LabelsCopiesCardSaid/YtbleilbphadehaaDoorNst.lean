/- Slices of steps: what they read; arguments of such types, opened. -/
import Derived.Test.YtbleilbphadehaaDoorNf
import Derived.ChangeSame
namespace Go.Proofs.YtbleilbphadehaaDoor
open Go.ChangeShapes Go.WideShapes Go.ChangeAt Go.RowKit Go.Shelf

/-- A step: its kind, two numbers, a set. -/
def stepA (k a b x : Int) : Array Value := #[.int .i64 k, .int .i64 a, .int .i64 b, .int .u32 x]
abbrev St4 := Int × Int × Int × Int
/-- The slice at A reads the steps l, out of a block below B. -/
structure RdS (W : World) (B : Nat) (A : Option Addr) (l : List St4) : Prop where
  some_ : 0 < l.length → ∃ g off, A = some ⟨g, off, none⟩ ∧ g < B
  cell : ∀ g off, A = some ⟨g, off, none⟩ → ∀ i k a b x, l[i]? = some (k, a, b, x) → W.cell? ⟨g, off + i * 4, none⟩ = some (.int .i64 k) ∧ W.cell? ⟨g, off + i * 4 + 1, none⟩ = some (.int .i64 a) ∧ W.cell? ⟨g, off + i * 4 + 2, none⟩ = some (.int .i64 b) ∧ W.cell? ⟨g, off + i * 4 + 3, none⟩ = some (.int .u32 x)
theorem RdS.keep {W W' : World} {B : Nat} {A : Option Addr} {l : List St4} (h : RdS W B A l) (hb : ∀ g, g < B → W'.heap[g]? = W.heap[g]?) : RdS W' B A l :=
  ⟨h.some_, fun g off e i k a b x hx => by
    obtain ⟨g', off', e', hlt⟩ := h.some_ (by have := (List.getElem?_eq_some_iff.1 hx).1; omega)
    have : g' = g := by rw [e] at e'; simp at e'; exact e'.1.symm
    subst this
    obtain ⟨h1, h2, h3, h4⟩ := h.cell _ off e i k a b x hx
    exact ⟨(World.cell?_of_block (hb _ hlt)).trans h1, (World.cell?_of_block (hb _ hlt)).trans h2, (World.cell?_of_block (hb _ hlt)).trans h3, (World.cell?_of_block (hb _ hlt)).trans h4⟩⟩
theorem RdS.below {W W' : World} {B n : Nat} {A : Option Addr} {l : List St4} (h : RdS W B A l) (hb : Below n W W') (hn : B ≤ n) : RdS W' B A l :=
  h.keep fun g hg => hb.block g (by omega)
def okS (s : St4) : Prop := 0 ≤ s.2.2.2 ∧ s.2.2.2 < 4294967296
section
variable {H : Type} {enc : TypeId × Value → H} {w : World} {base : Nat} {spare : Nat → Bool} {held : Bool} {fuel : Nat}
set_option maxRecDepth 100000 in
theorem step_of {cs : List Value} {x : DataW H × List MemPlace} (h : DataW.trod enc Tryd.prog w base spare held fuel 45 cs = some x) : ∃ k a b x : Int, cs = [.int .i64 k, .int .i64 a, .int .i64 b, .int .u32 x] ∧ 0 ≤ x ∧ x < 4294967296 := by
  obtain ⟨xs, m, _, rfl, hl, hlen, hf⟩ := DataW.trod_struct Tryd.underlying45 h
  have hc : Tryd.prog.cellsOf 45 = 4 := by kernel_rfl
  have hu : Tryd.prog.cellsOf 28 = 1 := by kernel_rfl
  have hint : Tryd.prog.cellsOf 3 = 1 := by kernel_rfl
  rw [hc] at hl
  obtain ⟨c0, c1, c2, c3, rfl⟩ : ∃ c0 c1 c2 c3, cs = [c0, c1, c2, c3] := by
    match cs, hl with
    | [c0, c1, c2, c3], _ => exact ⟨c0, c1, c2, c3, rfl⟩
  obtain ⟨y0, y1, y2, y3, rfl⟩ : ∃ y0 y1 y2 y3, xs = [y0, y1, y2, y3] := by
    match xs, hlen with
    | [y0, y1, y2, y3], _ => exact ⟨y0, y1, y2, y3, rfl⟩
  have e0 : DataW.trod enc Tryd.prog w base spare held m 3 (List.take (Tryd.prog.cellsOf 3) [c0, c1, c2, c3]) = some y0 := hf 0 _ rfl
  have e1 : DataW.trod enc Tryd.prog w base spare held m 3 (List.take (Tryd.prog.cellsOf 3) [c1, c2, c3]) = some y1 := hf 1 _ rfl
  have e2 : DataW.trod enc Tryd.prog w base spare held m 3 (List.take (Tryd.prog.cellsOf 3) [c2, c3]) = some y2 := hf 2 _ rfl
  have e3 : DataW.trod enc Tryd.prog w base spare held m 28 (List.take (Tryd.prog.cellsOf 28) [c3]) = some y3 := hf 3 _ rfl
  rw [hu] at e3
  rw [hint] at e0 e1 e2
  simp only [List.take_succ_cons, List.take_zero] at e0 e1 e2 e3
  obtain ⟨a0, q0, _, _⟩ := DataW.trod_int Tryd.underlying3 e0
  obtain ⟨a1, q1, _, _⟩ := DataW.trod_int Tryd.underlying3 e1
  obtain ⟨a2, q2, _, _⟩ := DataW.trod_int Tryd.underlying3 e2
  obtain ⟨a3, q3, _, w3⟩ := DataW.trod_int Tryd.underlying28 e3
  simp at q0 q1 q2 q3
  subst q0 q1 q2 q3
  have := bounds_u32 w3
  exact ⟨a0, a1, a2, a3, rfl, by omega, by omega⟩
set_option maxRecDepth 100000 in
theorem open_step {r : Reach} {b0 : Nat} {v : Value} {d : DataW H} {ps : List MemPlace} (hv : Value.okWide Tryd.prog w r b0 45 v) (h : DataW.Trod enc Tryd.prog w base spare held 45 v d ps) :
    ∃ k a b x : Int, v = .agg (stepA k a b x) ∧ 0 ≤ x ∧ x < 4294967296 := by
  simp only [Value.okWide, Tryd.underlying45] at hv
  obtain ⟨cs, rfl, _⟩ := hv
  obtain ⟨fuel, hf⟩ := h
  obtain ⟨k, a, b, x, e, hx⟩ := step_of (show DataW.trod enc Tryd.prog w base spare held fuel 45 cs.toList = some (d, ps) from hf)
  refine ⟨k, a, b, x, ?_, hx⟩
  have : cs = stepA k a b x := by rw [← Array.toArray_toList (xs := cs), e]; rfl
  rw [this]
set_option maxRecDepth 100000 in
theorem open_steps {r : Reach} {b0 : Nat} {v : Value} {d : DataW H} {ps : List MemPlace} (hv : Value.okWide Tryd.prog w r b0 43 v) (h : DataW.Trod enc Tryd.prog w base spare held 43 v d ps) :
    ∃ (A : Option Addr) (l : List St4) (cap : Nat), v = .slice A l.length cap ∧ l.length ≤ cap ∧ cap ≤ maxLen ∧ RdS w w.heap.size A l ∧ ∀ s ∈ l, okS s := by
  have hc : Tryd.prog.cellsOf 45 = 4 := by kernel_rfl
  obtain ⟨A, len, cap, rfl, h1, h2, h3, h4⟩ := open_elems Tryd.underlying43 (by rw [hc]; omega) hv h
  rw [hc] at h4
  have : ∀ i, i < len → ∃ x : St4, (∀ g off, A = some ⟨g, off, none⟩ → w.cell? ⟨g, off + i * 4, none⟩ = some (.int .i64 x.1) ∧ w.cell? ⟨g, off + i * 4 + 1, none⟩ = some (.int .i64 x.2.1) ∧ w.cell? ⟨g, off + i * 4 + 2, none⟩ = some (.int .i64 x.2.2.1) ∧ w.cell? ⟨g, off + i * 4 + 3, none⟩ = some (.int .u32 x.2.2.2)) ∧ okS x := by
    intro i hi
    obtain ⟨g, off, rfl, _⟩ := h3 (by omega)
    obtain ⟨cs, n, x, hl, hcell, htr⟩ := h4 g off rfl i hi
    obtain ⟨k, a, b, y, rfl, hy⟩ := step_of htr
    refine ⟨(k, a, b, y), fun g' off' e => ?_, hy⟩
    simp at e
    obtain ⟨rfl, rfl⟩ := e
    exact ⟨by simpa using hcell 0 (by omega), by simpa using hcell 1 (by omega), by simpa using hcell 2 (by omega), by simpa using hcell 3 (by omega)⟩
  obtain ⟨l, hl, hp⟩ := choose_list len this
  subst hl
  refine ⟨A, l, cap, rfl, h1, h2, ⟨h3, fun g off e i k a b x hx => (hp i (k, a, b, x) hx).1 g off e⟩, fun s hs => ?_⟩
  obtain ⟨i, hi⟩ := List.getElem?_of_mem hs
  exact (hp i s hi).2
end
end Go.Proofs.YtbleilbphadehaaDoor
