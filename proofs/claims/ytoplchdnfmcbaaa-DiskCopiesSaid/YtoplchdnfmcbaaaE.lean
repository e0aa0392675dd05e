/- The rows' frame of the disk's laws; a script opened. -/
import Derived.Test.YtoplchdnfmcbaaaD
namespace Go.Proofs.Ytoplchdnfmcbaaa
open Go.ChangeShapes Go.WideShapes Go.ChangeAt Go.RowKit Go.Shelf Go.Deep

theorem Try.laidOut : laidOutB Try.prog = true := by kernel_rfl
theorem Try.own : ownKnob Try.prog.godebug = none := by kernel_rfl
section
variable {H : Type} {enc : TypeId × Value → H} {w : World} {base : Nat} {spare : Nat → Bool} {held : Bool} {fuel : Nat}
theorem fields37 : ∃ f0 f1 : Field, Try.prog.underlying 37 = some (.struct #[f0, f1]) ∧ f0.offset = 0 ∧ f0.type = 3 ∧ f1.offset = 1 ∧ f1.type = 28 := by
  refine ⟨_, _, Try.underlying37, rfl, rfl, rfl, rfl⟩
theorem sec_of_wf {l : List Int} (h : l.length = 64) (hl : ∀ x ∈ l, (Lit.int .u8 x).wf = true) : IsSec l := ⟨h, fun x hx => by have := bounds_u8 (hl x hx); omega⟩
/-- An act's cells. -/
theorem open_act {cs : List Value} {x : DataW H × List MemPlace} (h : DataW.trod enc Try.prog w base spare held fuel 37 cs = some x) :
    ∃ (n : Int) (l : List Int), cs = .int .i64 n :: l.map (Value.int .u8) ∧ IsSec l ∧ (Lit.int .i64 n).wf = true := by
  obtain ⟨f0, f1, hu, o0, t0, o1, t1⟩ := fields37
  obtain ⟨xs, m, _, _, hlen, hxs, hf⟩ := DataW.trod_struct hu h
  have hc37 : Try.prog.cellsOf 37 = 65 := by kernel_rfl
  have hc28 : Try.prog.cellsOf 28 = 64 := by kernel_rfl
  have hc3 : Try.prog.cellsOf 3 = 1 := by kernel_rfl
  rw [hc37] at hlen
  have hxs' : xs.length = 2 := hxs
  have g0 := hf 0 f0 rfl
  have g1 := hf 1 f1 rfl
  rw [o0, t0, hc3, List.drop_zero, List.getElem?_eq_getElem (by omega)] at g0
  rw [o1, t1, hc28, List.getElem?_eq_getElem (by omega)] at g1
  obtain ⟨n, e0, _, w0⟩ := DataW.trod_int Try.underlying3 g0
  obtain ⟨l, e1, hl, wl⟩ := cells_ints Try.underlying28 (by kernel_rfl) hc28 Try.underlying5 g1
  refine ⟨n, l, ?_, sec_of_wf hl wl, w0⟩
  rw [← List.take_append_drop 1 cs, e0, ← e1, List.take_of_length_le (l := cs.drop 1) (by rw [List.length_drop]; omega)]
  rfl
/-- A script. -/
theorem open_scr {r : Reach} {b0 : Nat} {v : Value} {d : DataW H} {ps : List MemPlace} (hv : Value.okWide Try.prog w r b0 22 v) (h : DataW.Trod enc Try.prog w base spare held 22 v d ps) :
    ∃ (A : Option Addr) (s : List (Int × List Int)) (cap : Nat), v = .slice A s.length cap ∧ s.length ≤ cap ∧ cap ≤ maxLen ∧ Scr w w.heap.size A s := by
  have hc37 : Try.prog.cellsOf 37 = 65 := by kernel_rfl
  obtain ⟨A, len, cap, rfl, h1, h2, h3, h4⟩ := open_elems Try.underlying22 (by rw [hc37]; omega) hv h
  rw [hc37] at h4
  have : ∀ i, i < len → ∃ x : Int × List Int, ∀ g off, A = some ⟨g, off, none⟩ → IsSec x.2 ∧ w.cell? ⟨g, off + i * 65, none⟩ = some (.int .i64 x.1) ∧ w.rangeAt g (off + i * 65 + 1) (x.2.map (Value.int .u8)) := by
    intro i hi
    obtain ⟨g, off, rfl, _⟩ := h3 (by omega)
    obtain ⟨cs, n, x, hl, hcell, htr⟩ := h4 g off rfl i hi
    obtain ⟨n, l, rfl, hs, _⟩ := open_act htr
    refine ⟨(n, l), fun g' off' e => ?_⟩
    simp at e
    obtain ⟨rfl, rfl⟩ := e
    refine ⟨hs, by simpa using hcell 0 (by omega), fun j v hv => ?_⟩
    have hj : j < 64 := by have := (List.getElem?_eq_some_iff.1 hv).1; rw [List.length_map, hs.1] at this; exact this
    have := hcell (1 + j) (by omega)
    rw [show 1 + j = j + 1 by omega, List.getElem?_cons_succ] at this
    rw [show off + i * 65 + 1 + j = off + i * 65 + (j + 1) by omega, this]; exact hv
  obtain ⟨s, hl, hp⟩ := choose_list len this
  subst hl
  exact ⟨A, s, cap, rfl, h1, h2, ⟨h3, fun g off e i n x hx => hp i (n, x) hx g off e⟩⟩
end
end Go.Proofs.Ytoplchdnfmcbaaa
