/- Arguments of the types api.State and Told, opened. -/
import Derived.Test.YtmpnlhfnemidpaaRd
import Derived.Test.YtmpnlhfnemidpaaSt
import Derived.ChangeSame
import Derived.Test.YtmpnlhfnemidpaaTc
namespace Go.Proofs.Ytmpnlhfnemidpaa
open Go.ChangeShapes Go.WideShapes Go.ChangeAt Go.RowKit Go.Shelf
section
variable {H : Type} {enc : TypeId × Value → H} {w : World} {base : Nat} {spare : Nat → Bool} {held : Bool} {fuel : Nat}
theorem u32_of_wf {x : Int} (h : (Lit.int .u32 x).wf = true) : u32? x := by have := bounds_u32 h; exact ⟨by omega, by omega⟩
set_option maxRecDepth 100000 in
theorem state_of {cs : List Value} {x : DataW H × List MemPlace} (h : DataW.trod enc Try.prog w base spare held fuel 25 cs = some x) : ∃ s : St, cs = stL s ∧ s.ok := by
  obtain ⟨xs, m, _, rfl, hl, hlen, hf⟩ := DataW.trod_struct Try.underlying25 h
  have hc : Try.prog.cellsOf 25 = 16 := by kernel_rfl
  have hr : Try.prog.cellsOf 23 = 8 := by kernel_rfl
  have hu : Try.prog.cellsOf 22 = 1 := by kernel_rfl
  have hb : Try.prog.cellsOf 4 = 1 := by kernel_rfl
  rw [hc] at hl
  obtain ⟨c0, c1, c2, c3, c4, c5, c6, c7, c8, c9, c10, c11, c12, c13, c14, c15, rfl⟩ : ∃ c0 c1 c2 c3 c4 c5 c6 c7 c8 c9 c10 c11 c12 c13 c14 c15, cs = [c0, c1, c2, c3, c4, c5, c6, c7, c8, c9, c10, c11, c12, c13, c14, c15] := by
    match cs, hl with
    | [c0, c1, c2, c3, c4, c5, c6, c7, c8, c9, c10, c11, c12, c13, c14, c15], _ => exact ⟨c0, c1, c2, c3, c4, c5, c6, c7, c8, c9, c10, c11, c12, c13, c14, c15, rfl⟩
  obtain ⟨y0, y1, y2, y3, y4, y5, y6, y7, y8, rfl⟩ : ∃ y0 y1 y2 y3 y4 y5 y6 y7 y8, xs = [y0, y1, y2, y3, y4, y5, y6, y7, y8] := by
    match xs, hlen with
    | [y0, y1, y2, y3, y4, y5, y6, y7, y8], _ => exact ⟨y0, y1, y2, y3, y4, y5, y6, y7, y8, rfl⟩
  have e0 : DataW.trod enc Try.prog w base spare held m 23 (List.take (Try.prog.cellsOf 23) [c0, c1, c2, c3, c4, c5, c6, c7, c8, c9, c10, c11, c12, c13, c14, c15]) = some y0 := hf 0 _ rfl
  have e1 : DataW.trod enc Try.prog w base spare held m 22 (List.take (Try.prog.cellsOf 22) [c8, c9, c10, c11, c12, c13, c14, c15]) = some y1 := hf 1 _ rfl
  have e2 : DataW.trod enc Try.prog w base spare held m 22 (List.take (Try.prog.cellsOf 22) [c9, c10, c11, c12, c13, c14, c15]) = some y2 := hf 2 _ rfl
  have e3 : DataW.trod enc Try.prog w base spare held m 22 (List.take (Try.prog.cellsOf 22) [c10, c11, c12, c13, c14, c15]) = some y3 := hf 3 _ rfl
  have e4 : DataW.trod enc Try.prog w base spare held m 22 (List.take (Try.prog.cellsOf 22) [c11, c12, c13, c14, c15]) = some y4 := hf 4 _ rfl
  have e5 : DataW.trod enc Try.prog w base spare held m 22 (List.take (Try.prog.cellsOf 22) [c12, c13, c14, c15]) = some y5 := hf 5 _ rfl
  have e6 : DataW.trod enc Try.prog w base spare held m 4 (List.take (Try.prog.cellsOf 4) [c13, c14, c15]) = some y6 := hf 6 _ rfl
  have e7 : DataW.trod enc Try.prog w base spare held m 4 (List.take (Try.prog.cellsOf 4) [c14, c15]) = some y7 := hf 7 _ rfl
  have e8 : DataW.trod enc Try.prog w base spare held m 4 (List.take (Try.prog.cellsOf 4) [c15]) = some y8 := hf 8 _ rfl
  rw [hr] at e0
  rw [hu] at e1 e2 e3 e4 e5
  rw [hb] at e6 e7 e8
  simp only [List.take_succ_cons, List.take_zero] at e0 e1 e2 e3 e4 e5 e6 e7 e8
  obtain ⟨l, q0, hl8, hwf⟩ := cells_ints Try.underlying23 hu hr Try.underlying22 e0
  obtain ⟨a1, q1, _, w1⟩ := DataW.trod_int Try.underlying22 e1
  obtain ⟨a2, q2, _, w2⟩ := DataW.trod_int Try.underlying22 e2
  obtain ⟨a3, q3, _, w3⟩ := DataW.trod_int Try.underlying22 e3
  obtain ⟨a4, q4, _, w4⟩ := DataW.trod_int Try.underlying22 e4
  obtain ⟨a5, q5, _, w5⟩ := DataW.trod_int Try.underlying22 e5
  obtain ⟨a6, q6, _⟩ := DataW.trod_bool Try.underlying4 e6
  obtain ⟨a7, q7, _⟩ := DataW.trod_bool Try.underlying4 e7
  obtain ⟨a8, q8, _⟩ := DataW.trod_bool Try.underlying4 e8
  simp only [List.cons.injEq, and_true] at q1 q2 q3 q4 q5 q6 q7 q8
  subst q1 q2 q3 q4 q5 q6 q7 q8
  refine ⟨⟨l, a1, a2, a3, a4, a5, a6, a7, a8⟩, ?_, hl8, fun x hx => u32_of_wf (hwf x hx), u32_of_wf w1, u32_of_wf w2, u32_of_wf w3, u32_of_wf w4, u32_of_wf w5⟩
  unfold stL
  rw [← q0]
  rfl
set_option maxRecDepth 100000 in
theorem open_state {r : Reach} {b0 : Nat} {v : Value} {d : DataW H} {ps : List MemPlace} (hv : Value.okWide Try.prog w r b0 25 v) (h : DataW.Trod enc Try.prog w base spare held 25 v d ps) :
    ∃ s : St, v = .agg (stA s) ∧ s.ok := by
  simp only [Value.okWide, Try.underlying25] at hv
  obtain ⟨cs, rfl, _⟩ := hv
  obtain ⟨fuel, hf⟩ := h
  obtain ⟨s, e, hs⟩ := state_of (show DataW.trod enc Try.prog w base spare held fuel 25 cs.toList = some (d, ps) from hf)
  refine ⟨s, ?_, hs⟩
  have : cs = stA s := by rw [← Array.toArray_toList (xs := cs), e]; rfl
  rw [this]
end
theorem Try.laidOut : laidOutB Try.prog = true := by kernel_rfl
theorem Try.own : ownKnob Try.prog.godebug = none := by kernel_rfl
end Go.Proofs.Ytmpnlhfnemidpaa
namespace Go.Proofs.Ytmpnlhfnemidpaa
open Go.ChangeShapes Go.WideShapes Go.ChangeAt Go.RowKit Go.Shelf

/-- The slice at A reads the pairs l, out of a block below B. -/
structure RdP (W : World) (B : Nat) (A : Option Addr) (l : List (Int × Int)) : Prop where
  some_ : 0 < l.length → ∃ g off, A = some ⟨g, off, none⟩ ∧ g < B
  cell : ∀ g off, A = some ⟨g, off, none⟩ → ∀ i x y, l[i]? = some (x, y) → W.cell? ⟨g, off + i * 2, none⟩ = some (.int .u32 x) ∧ W.cell? ⟨g, off + i * 2 + 1, none⟩ = some (.int .u32 y)
theorem RdP.keep {W W' : World} {B : Nat} {A : Option Addr} {l : List (Int × Int)} (h : RdP W B A l) (hb : ∀ g, g < B → W'.heap[g]? = W.heap[g]?) : RdP W' B A l :=
  ⟨h.some_, fun g off e i x y hx => by
    obtain ⟨g', off', e', hlt⟩ := h.some_ (by have := (List.getElem?_eq_some_iff.1 hx).1; omega)
    have : g' = g := by rw [e] at e'; simp at e'; exact e'.1.symm
    subst this
    obtain ⟨h1, h2⟩ := h.cell _ off e i x y hx
    exact ⟨(World.cell?_of_block (hb _ hlt)).trans h1, (World.cell?_of_block (hb _ hlt)).trans h2⟩⟩
theorem RdP.below {W W' : World} {B n : Nat} {A : Option Addr} {l : List (Int × Int)} (h : RdP W B A l) (hb : Below n W W') (hn : B ≤ n) : RdP W' B A l :=
  h.keep fun g hg => hb.block g (by omega)
section
variable {H : Type} {enc : TypeId × Value → H} {w : World} {base : Nat} {spare : Nat → Bool} {held : Bool} {fuel : Nat}
set_option maxRecDepth 100000 in
theorem told_of {cs : List Value} {x : DataW H × List MemPlace} (h : DataW.trod enc Try.prog w base spare held fuel 34 cs = some x) : ∃ a b : Int, cs = [.int .u32 a, .int .u32 b] ∧ u32? a ∧ u32? b := by
  obtain ⟨xs, m, _, rfl, hl, hlen, hf⟩ := DataW.trod_struct Try.underlying34 h
  have hc : Try.prog.cellsOf 34 = 2 := by kernel_rfl
  have hint : Try.prog.cellsOf 22 = 1 := by kernel_rfl
  rw [hc] at hl
  obtain ⟨c0, c1, rfl⟩ : ∃ c0 c1, cs = [c0, c1] := by
    match cs, hl with
    | [c0, c1], _ => exact ⟨c0, c1, rfl⟩
  obtain ⟨y0, y1, rfl⟩ : ∃ y0 y1, xs = [y0, y1] := by
    match xs, hlen with
    | [y0, y1], _ => exact ⟨y0, y1, rfl⟩
  have e0 : DataW.trod enc Try.prog w base spare held m 22 (List.take (Try.prog.cellsOf 22) [c0, c1]) = some y0 := hf 0 _ rfl
  have e1 : DataW.trod enc Try.prog w base spare held m 22 (List.take (Try.prog.cellsOf 22) [c1]) = some y1 := hf 1 _ rfl
  rw [hint] at e0 e1
  simp only [List.take_succ_cons, List.take_zero] at e0 e1
  obtain ⟨a0, q0, _, w0⟩ := DataW.trod_int Try.underlying22 e0
  obtain ⟨a1, q1, _, w1⟩ := DataW.trod_int Try.underlying22 e1
  simp at q0 q1
  subst q0 q1
  exact ⟨a0, a1, rfl, u32_of_wf w0, u32_of_wf w1⟩
set_option maxRecDepth 100000 in
theorem open_told {r : Reach} {b0 : Nat} {v : Value} {d : DataW H} {ps : List MemPlace} (hv : Value.okWide Try.prog w r b0 34 v) (h : DataW.Trod enc Try.prog w base spare held 34 v d ps) :
    ∃ a b : Int, v = .agg #[.int .u32 a, .int .u32 b] ∧ u32? a ∧ u32? b := by
  simp only [Value.okWide, Try.underlying34] at hv
  obtain ⟨cs, rfl, _⟩ := hv
  obtain ⟨fuel, hf⟩ := h
  obtain ⟨a, b, e, ha, hb⟩ := told_of (show DataW.trod enc Try.prog w base spare held fuel 34 cs.toList = some (d, ps) from hf)
  refine ⟨a, b, ?_, ha, hb⟩
  have : cs = #[.int .u32 a, .int .u32 b] := by rw [← Array.toArray_toList (xs := cs), e]
  rw [this]
set_option maxRecDepth 100000 in
theorem open_tolds {r : Reach} {b0 : Nat} {v : Value} {d : DataW H} {ps : List MemPlace} (hv : Value.okWide Try.prog w r b0 31 v) (h : DataW.Trod enc Try.prog w base spare held 31 v d ps) :
    ∃ (A : Option Addr) (l : List (Int × Int)) (cap : Nat), v = .slice A l.length cap ∧ l.length ≤ cap ∧ cap ≤ maxLen ∧ RdP w w.heap.size A l ∧ ∀ p ∈ l, u32? p.1 ∧ u32? p.2 := by
  have hc : Try.prog.cellsOf 34 = 2 := by kernel_rfl
  obtain ⟨A, len, cap, rfl, h1, h2, h3, h4⟩ := open_elems Try.underlying31 (by rw [hc]; omega) hv h
  rw [hc] at h4
  have : ∀ i, i < len → ∃ x : Int × Int, (∀ g off, A = some ⟨g, off, none⟩ → w.cell? ⟨g, off + i * 2, none⟩ = some (.int .u32 x.1) ∧ w.cell? ⟨g, off + i * 2 + 1, none⟩ = some (.int .u32 x.2)) ∧ u32? x.1 ∧ u32? x.2 := by
    intro i hi
    obtain ⟨g, off, rfl, _⟩ := h3 (by omega)
    obtain ⟨cs, n, x, hl, hcell, htr⟩ := h4 g off rfl i hi
    obtain ⟨a, b, rfl, ha, hb⟩ := told_of htr
    refine ⟨(a, b), fun g' off' e => ?_, ha, hb⟩
    simp at e
    obtain ⟨rfl, rfl⟩ := e
    exact ⟨by simpa using hcell 0 (by omega), by simpa using hcell 1 (by omega)⟩
  obtain ⟨l, hl, hp⟩ := choose_list len this
  subst hl
  refine ⟨A, l, cap, rfl, h1, h2, ⟨h3, fun g off e i x y hx => (hp i (x, y) hx).1 g off e⟩, fun p hm => ?_⟩
  obtain ⟨i, hi⟩ := List.getElem?_of_mem hm
  exact (hp i p hi).2
end
end Go.Proofs.Ytmpnlhfnemidpaa
