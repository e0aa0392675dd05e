/- Slices of instructions: what they read; arguments of such types, opened. -/
import Derived.Test.YtfdmmgkhlgefbaaDoorRd
import Derived.Test.YtfdmmgkhlgefbaaDoorIs2
import Derived.ChangeSame
namespace Go.Proofs.YtfdmmgkhlgefbaaDoor
open Go.ChangeShapes Go.WideShapes Go.ChangeAt Go.RowKit Go.Shelf

/-- The slice at A reads the instructions l, out of a block below B. -/
structure RdI (W : World) (B : Nat) (A : Option Addr) (l : List (Int × Int × Int × Int)) : Prop where
  some_ : 0 < l.length → ∃ g off, A = some ⟨g, off, none⟩ ∧ g < B
  cell : ∀ g off, A = some ⟨g, off, none⟩ → ∀ i op a b n, l[i]? = some (op, a, b, n) → W.cell? ⟨g, off + i * 4, none⟩ = some (.int .i64 op) ∧ W.cell? ⟨g, off + i * 4 + 1, none⟩ = some (.int .i64 a) ∧ W.cell? ⟨g, off + i * 4 + 2, none⟩ = some (.int .i64 b) ∧ W.cell? ⟨g, off + i * 4 + 3, none⟩ = some (.int .i64 n)
theorem RdI.keep {W W' : World} {B : Nat} {A : Option Addr} {l : List (Int × Int × Int × Int)} (h : RdI W B A l) (hb : ∀ g, g < B → W'.heap[g]? = W.heap[g]?) : RdI W' B A l :=
  ⟨h.some_, fun g off e i op a b n hx => by
    obtain ⟨g', off', e', hlt⟩ := h.some_ (by have := (List.getElem?_eq_some_iff.1 hx).1; omega)
    have : g' = g := by rw [e] at e'; simp at e'; exact e'.1.symm
    subst this
    obtain ⟨h1, h2, h3, h4⟩ := h.cell _ off e i op a b n hx
    exact ⟨(World.cell?_of_block (hb _ hlt)).trans h1, (World.cell?_of_block (hb _ hlt)).trans h2, (World.cell?_of_block (hb _ hlt)).trans h3, (World.cell?_of_block (hb _ hlt)).trans h4⟩⟩
theorem RdI.below {W W' : World} {B n : Nat} {A : Option Addr} {l : List (Int × Int × Int × Int)} (h : RdI W B A l) (hb : Below n W W') (hn : B ≤ n) : RdI W' B A l :=
  h.keep fun g hg => hb.block g (by omega)
section
variable {H : Type} {enc : TypeId × Value → H} {w : World} {base : Nat} {spare : Nat → Bool} {held : Bool} {fuel : Nat}
theorem inst_of {cs : List Value} {x : DataW H × List MemPlace} (h : DataW.trod enc Tryd.prog w base spare held fuel 26 cs = some x) : ∃ op a b n : Int, cs = [.int .i64 op, .int .i64 a, .int .i64 b, .int .i64 n] := by
  obtain ⟨xs, m, _, rfl, hl, hlen, hf⟩ := DataW.trod_struct Tryd.underlying26 h
  have hc : Tryd.prog.cellsOf 26 = 4 := by kernel_rfl
  have hop : Tryd.prog.cellsOf 24 = 1 := by kernel_rfl
  have hint : Tryd.prog.cellsOf 3 = 1 := by kernel_rfl
  rw [hc] at hl
  obtain ⟨c0, c1, c2, c3, rfl⟩ : ∃ c0 c1 c2 c3, cs = [c0, c1, c2, c3] := by
    match cs, hl with
    | [c0, c1, c2, c3], _ => exact ⟨c0, c1, c2, c3, rfl⟩
  obtain ⟨y0, y1, y2, y3, rfl⟩ : ∃ y0 y1 y2 y3, xs = [y0, y1, y2, y3] := by
    match xs, hlen with
    | [y0, y1, y2, y3], _ => exact ⟨y0, y1, y2, y3, rfl⟩
  have e0 : DataW.trod enc Tryd.prog w base spare held m 24 (List.take (Tryd.prog.cellsOf 24) [c0, c1, c2, c3]) = some y0 := hf 0 _ rfl
  have e1 : DataW.trod enc Tryd.prog w base spare held m 3 (List.take (Tryd.prog.cellsOf 3) [c1, c2, c3]) = some y1 := hf 1 _ rfl
  have e2 : DataW.trod enc Tryd.prog w base spare held m 3 (List.take (Tryd.prog.cellsOf 3) [c2, c3]) = some y2 := hf 2 _ rfl
  have e3 : DataW.trod enc Tryd.prog w base spare held m 3 (List.take (Tryd.prog.cellsOf 3) [c3]) = some y3 := hf 3 _ rfl
  rw [hop] at e0
  rw [hint] at e1 e2 e3
  simp only [List.take_succ_cons, List.take_zero] at e0 e1 e2 e3
  obtain ⟨a0, q0, _, _⟩ := DataW.trod_int Tryd.underlying24 e0
  obtain ⟨a1, q1, _, _⟩ := DataW.trod_int Tryd.underlying3 e1
  obtain ⟨a2, q2, _, _⟩ := DataW.trod_int Tryd.underlying3 e2
  obtain ⟨a3, q3, _, _⟩ := DataW.trod_int Tryd.underlying3 e3
  simp at q0 q1 q2 q3
  subst q0 q1 q2 q3
  exact ⟨a0, a1, a2, a3, rfl⟩
theorem open_inst {r : Reach} {b0 : Nat} {v : Value} {d : DataW H} {ps : List MemPlace} (hv : Value.okWide Tryd.prog w r b0 26 v) (h : DataW.Trod enc Tryd.prog w base spare held 26 v d ps) :
    ∃ op a b n : Int, v = .agg (instA op a b n) ∧ True := by
  simp only [Value.okWide, Tryd.underlying26] at hv
  obtain ⟨cs, rfl, _⟩ := hv
  obtain ⟨fuel, hf⟩ := h
  obtain ⟨op, a, b, n, e⟩ := inst_of (show DataW.trod enc Tryd.prog w base spare held fuel 26 cs.toList = some (d, ps) from hf)
  refine ⟨op, a, b, n, ?_, trivial⟩
  have : cs = instA op a b n := by rw [← Array.toArray_toList (xs := cs), e]
  rw [this]
theorem open_insts {r : Reach} {b0 : Nat} {v : Value} {d : DataW H} {ps : List MemPlace} (hv : Value.okWide Tryd.prog w r b0 34 v) (h : DataW.Trod enc Tryd.prog w base spare held 34 v d ps) :
    ∃ (A : Option Addr) (l : List (Int × Int × Int × Int)) (cap : Nat), v = .slice A l.length cap ∧ l.length ≤ cap ∧ cap ≤ maxLen ∧ RdI w w.heap.size A l ∧ True := by
  have hc : Tryd.prog.cellsOf 26 = 4 := by kernel_rfl
  obtain ⟨A, len, cap, rfl, h1, h2, h3, h4⟩ := open_elems Tryd.underlying34 (by rw [hc]; omega) hv h
  rw [hc] at h4
  have : ∀ i, i < len → ∃ x : Int × Int × Int × Int, ∀ g off, A = some ⟨g, off, none⟩ → w.cell? ⟨g, off + i * 4, none⟩ = some (.int .i64 x.1) ∧ w.cell? ⟨g, off + i * 4 + 1, none⟩ = some (.int .i64 x.2.1) ∧ w.cell? ⟨g, off + i * 4 + 2, none⟩ = some (.int .i64 x.2.2.1) ∧ w.cell? ⟨g, off + i * 4 + 3, none⟩ = some (.int .i64 x.2.2.2) := by
    intro i hi
    obtain ⟨g, off, rfl, _⟩ := h3 (by omega)
    obtain ⟨cs, n, x, hl, hcell, htr⟩ := h4 g off rfl i hi
    obtain ⟨op, a, b, n, rfl⟩ := inst_of htr
    refine ⟨(op, a, b, n), fun g' off' e => ?_⟩
    simp at e
    obtain ⟨rfl, rfl⟩ := e
    exact ⟨by simpa using hcell 0 (by omega), by simpa using hcell 1 (by omega), by simpa using hcell 2 (by omega), by simpa using hcell 3 (by omega)⟩
  obtain ⟨l, hl, hp⟩ := choose_list len this
  subst hl
  exact ⟨A, l, cap, rfl, h1, h2, ⟨h3, fun g off e i op a b n hx => hp i (op, a, b, n) hx g off e⟩, trivial⟩
end
end Go.Proofs.YtfdmmgkhlgefbaaDoor
