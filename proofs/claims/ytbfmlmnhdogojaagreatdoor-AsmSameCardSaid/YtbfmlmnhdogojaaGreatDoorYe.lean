/- Images that come in, opened. -/
import Derived.Test.YtbfmlmnhdogojaaGreatDoorYb
import Derived.Test.YtbfmlmnhdogojaaGreatDoorTx
import Derived.ChangeSame
import Derived.ChangeMaps5
namespace Go.Proofs.YtbfmlmnhdogojaaGreatDoor
open Go.ChangeShapes Go.WideShapes Go.ChangeAt Go.RowKit Go.Shelf

section
variable {H : Type} {enc : TypeId × Value → H} {w : World} {base : Nat} {spare : Nat → Bool} {held : Bool} {fuel : Nat}
set_option maxRecDepth 100000 in
theorem sym_of {cs : List Value} {x : DataW H × List MemPlace} (h : DataW.trod enc Tryz.prog w base spare held fuel 44 cs = some x) : ∃ (s : ByteArray) (n : Int), cs = [.string s, .int .i64 n] := by
  obtain ⟨xs, m, _, rfl, hl, hlen, hf⟩ := DataW.trod_struct Tryz.underlying44 h
  have hc : Tryz.prog.cellsOf 44 = 2 := by kernel_rfl
  have hstr : Tryz.prog.cellsOf 9 = 1 := by kernel_rfl
  have hint : Tryz.prog.cellsOf 3 = 1 := by kernel_rfl
  rw [hc] at hl
  obtain ⟨c0, c1, rfl⟩ : ∃ c0 c1, cs = [c0, c1] := by
    match cs, hl with
    | [c0, c1], _ => exact ⟨c0, c1, rfl⟩
  obtain ⟨y0, y1, rfl⟩ : ∃ y0 y1, xs = [y0, y1] := by
    match xs, hlen with
    | [y0, y1], _ => exact ⟨y0, y1, rfl⟩
  have e0 : DataW.trod enc Tryz.prog w base spare held m 9 (List.take (Tryz.prog.cellsOf 9) [c0, c1]) = some y0 := hf 0 _ rfl
  have e1 : DataW.trod enc Tryz.prog w base spare held m 3 (List.take (Tryz.prog.cellsOf 3) [c1]) = some y1 := hf 1 _ rfl
  rw [hstr] at e0
  rw [hint] at e1
  simp only [List.take_succ_cons, List.take_zero] at e0 e1
  obtain ⟨a0, q0, _, _⟩ := DataW.trod_string Tryz.underlying9 e0
  obtain ⟨a1, q1, _, _⟩ := DataW.trod_int Tryz.underlying3 e1
  simp at q0 q1
  subst q0 q1
  exact ⟨a0, a1, rfl⟩
set_option maxRecDepth 100000 in
theorem open_syms {r : Reach} {b0 : Nat} {v : Value} {d : DataW H} {ps : List MemPlace} (hv : Value.okWide Tryz.prog w r b0 31 v) (h : DataW.Trod enc Tryz.prog w base spare held 31 v d ps) :
    ∃ (A : Option Addr) (l : List (ByteArray × Int)) (cap : Nat), v = .slice A l.length cap ∧ l.length ≤ cap ∧ cap ≤ maxLen ∧ RdN w w.heap.size A l := by
  have hc : Tryz.prog.cellsOf 44 = 2 := by kernel_rfl
  obtain ⟨A, len, cap, rfl, h1, h2, h3, h4⟩ := open_elems Tryz.underlying31 (by rw [hc]; omega) hv h
  rw [hc] at h4
  have : ∀ i, i < len → ∃ x : ByteArray × Int, ∀ g off, A = some ⟨g, off, none⟩ → w.cell? ⟨g, off + i * 2, none⟩ = some (.string x.1) ∧ w.cell? ⟨g, off + i * 2 + 1, none⟩ = some (.int .i64 x.2) := by
    intro i hi
    obtain ⟨g, off, rfl, _⟩ := h3 (by omega)
    obtain ⟨cs, n, x, hl, hcell, htr⟩ := h4 g off rfl i hi
    obtain ⟨s, y, rfl⟩ := sym_of htr
    refine ⟨(s, y), fun g' off' e => ?_⟩
    simp at e
    obtain ⟨rfl, rfl⟩ := e
    exact ⟨hcell 0 (by omega), hcell 1 (by omega)⟩
  obtain ⟨l, hl, hp⟩ := choose_list len this
  subst hl
  exact ⟨A, l, cap, rfl, h1, h2, ⟨h3, fun g off e i x y hx => hp i (x, y) hx g off e⟩⟩
set_option maxRecDepth 100000 in
theorem open_image {r : Reach} {b0 : Nat} {v : Value} {d : DataW H} {ps : List MemPlace} (hv : Value.okWide Tryz.prog w r b0 33 v) (h : DataW.Trod enc Tryz.prog w base spare held 33 v d ps) :
    ∃ (A B : Option Addr) (L : List Int) (N : List (ByteArray × Int)) (c e : Nat), v = .agg #[.slice A L.length c, .slice B N.length e] ∧ (L.length ≤ c ∧ c ≤ maxLen ∧ Rd w w.heap.size .u8 A L ∧ ∀ x ∈ L, (Lit.int .u8 x).wf = true) ∧ N.length ≤ e ∧ e ≤ maxLen ∧ RdN w w.heap.size B N := by
  simp only [Value.okWide, Tryz.underlying33] at hv
  obtain ⟨cs, rfl, hsz, hok⟩ := hv
  obtain ⟨fuel, hf⟩ := h
  obtain ⟨xs, m, _, hd, hl, hlen, hf⟩ := DataW.trod_struct Tryz.underlying33 (show DataW.trod enc Tryz.prog w base spare held fuel 33 cs.toList = some (d, ps) from hf)
  have hc : Tryz.prog.cellsOf 33 = 2 := by kernel_rfl
  have h24 : Tryz.prog.cellsOf 24 = 1 := by kernel_rfl
  have h31 : Tryz.prog.cellsOf 31 = 1 := by kernel_rfl
  rw [hc] at hl
  obtain ⟨c0, c1, e⟩ : ∃ c0 c1, cs.toList = [c0, c1] := by
    match cs.toList, hl with
    | [c0, c1], _ => exact ⟨c0, c1, rfl⟩
  obtain ⟨y0, y1, rfl⟩ : ∃ y0 y1, xs = [y0, y1] := by
    match xs, hlen with
    | [y0, y1], _ => exact ⟨y0, y1, rfl⟩
  rw [e] at hf
  have e0 : DataW.trod enc Tryz.prog w base spare held m 24 (List.take (Tryz.prog.cellsOf 24) [c0, c1]) = some y0 := hf 0 _ rfl
  have e1 : DataW.trod enc Tryz.prog w base spare held m 31 (List.take (Tryz.prog.cellsOf 31) [c1]) = some y1 := hf 1 _ rfl
  rw [h24] at e0
  rw [h31] at e1
  simp only [List.take_succ_cons, List.take_zero] at e0 e1
  obtain rfl : cs = #[c0, c1] := by rw [← Array.toArray_toList (xs := cs), e]
  obtain ⟨ts, hts, hn, hall⟩ := hok
  have hcl : Tryz.prog.cellTypes Tryz.prog.depth 33 = some [24, 31] := by kernel_rfl
  rw [hcl] at hts
  cases hts
  obtain ⟨u0, hu0, k0⟩ := hall 0 c0 rfl
  obtain ⟨u1, hu1, k1⟩ := hall 1 c1 rfl
  obtain rfl : 24 = u0 := by simpa using hu0
  obtain rfl : 31 = u1 := by simpa using hu1
  have k0' : Value.okWide Tryz.prog w r b0 24 c0 := by simp only [Value.okWide, Tryz.underlying24]; exact k0
  have k1' : Value.okWide Tryz.prog w r b0 31 c1 := by simp only [Value.okWide, Tryz.underlying31]; exact k1
  obtain ⟨A0, l0, p0, rfl⟩ := okWide_slice Tryz.underlying24 k0'
  obtain ⟨A1, l1, p1, rfl⟩ := okWide_slice Tryz.underlying31 k1'
  obtain ⟨A, L, c, ea, i1, i2, i3, i4⟩ := open_ints Tryz.underlying24 (by kernel_rfl) Tryz.underlying5 k0' (show DataW.Trod enc Tryz.prog w base spare held 24 (.slice A0 l0 p0) y0.1 y0.2 from ⟨m, e0⟩)
  obtain ⟨B, N, e, eb, j1, j2, j3⟩ := open_syms k1' (show DataW.Trod enc Tryz.prog w base spare held 31 (.slice A1 l1 p1) y1.1 y1.2 from ⟨m, e1⟩)
  exact ⟨A, B, L, N, c, e, by rw [ea, eb], ⟨i1, i2, i3, i4⟩, j1, j2, j3⟩
end
end Go.Proofs.YtbfmlmnhdogojaaGreatDoor
