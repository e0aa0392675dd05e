/- The document's SamePlaces, of equal lists. -/
import Derived.Test.YtmpnlhfnemidpaaTc
import Derived.BigRegion
import Derived.RegionTactic
import Derived.LoopTactic
import Derived.Deep.DeepCutAuto
namespace Go.Proofs.Ytmpnlhfnemidpaa
open Go.RowKit Go.Shelf
theorem plsL_get : ∀ {ps : List (Int × Int)} {k : Nat} (h : k < ps.length), (plsL ps)[k * 2]? = some (.int .i64 ps[k].1) ∧ (plsL ps)[k * 2 + 1]? = some (.int .i64 ps[k].2)
  | p :: ps, 0, _ => ⟨rfl, rfl⟩
  | p :: ps, k + 1, h => by
    have ih := plsL_get (ps := ps) (k := k) (by simpa using h)
    rw [show (k + 1) * 2 = k * 2 + 2 by omega]
    exact ih
theorem FromAt.form {W : World} {v : Value} {ps : List (Int × Int)} (h : FromAt W v ps) : ∃ ao c, v = .slice ao ps.length c ∧ (0 < ps.length → ∃ g, ao = some ⟨g, 0, none⟩ ∧ Cells W g 49 (plsL ps).toArray) := by
  rcases h with ⟨rfl, rfl⟩ | ⟨g, rfl, hc⟩
  · exact ⟨none, 0, rfl, fun h => absurd h (by decide)⟩
  · exact ⟨_, _, rfl, fun _ => ⟨g, rfl, hc⟩⟩
set_option maxRecDepth 100000 in
set_option maxHeartbeats 1000000 in
theorem rSamePlaces {w : World} {va vb : Value} {ps : List (Int × Int)} (ha : FromAt w va ps) (hb : FromAt w vb ps) (hl : ps.length < 1000) : Calls Try.prog 64 #[va, vb] w fun e w' => e = .returned (.bool true) ∧ Below w.heap.size w w' := by
  obtain ⟨ao, ca, rfl, hga⟩ := ha.form
  obtain ⟨bo, cb, rfl, hgb⟩ := hb.form
  clear ha hb
  go_enter Try.func64, Try.ntmps64
  go_wp2_with fail
  go_loopw [5] (fun i wr => ∃ k : Nat, k ≤ ps.length ∧ i = .int .i64 k ∧ Below w.heap.size w wr) (fun i _ => ps.length - (intOf i).toNat)
  case atStart => exact ⟨0, Nat.zero_le _, rfl, Below.refl _ _⟩
  case round =>
    obtain ⟨k, hk, rfl, hbl⟩ := hrel
    by_cases hlt : k < ps.length
    · obtain ⟨g, rfl, hca⟩ := hga (by omega)
      obtain ⟨g', rfl, hcb⟩ := hgb (by omega)
      have ga := hca.below hbl hca.lt
      have gb := hcb.below hbl hcb.lt
      obtain ⟨p0, p1⟩ := plsL_get hlt
      have a0 := (ga.cell (k * 2)).trans ((List.getElem?_toArray ..).trans p0)
      have a1 := (ga.cell (k * 2 + 1)).trans ((List.getElem?_toArray ..).trans p1)
      have b0 := (gb.cell (k * 2)).trans ((List.getElem?_toArray ..).trans p0)
      have b1 := (gb.cell (k * 2 + 1)).trans ((List.getElem?_toArray ..).trans p1)
      clear hga hgb hca hcb ga gb p0 p1
      generalize ps[k].1 = x at *
      generalize ps[k].2 = y at *
      have hk0 : (0 : Int) ≤ (k : Int) := by omega
      have hk1 : (k : Int) < (ps.length : Int) := by omega
      have HB := Lib.hid (Below.drew hbl)
      clear hbl
      go_upto_region 6 with (fail)
      go_region
      go_wp2_with fail
      exact ⟨⟨k + 1, by omega, by go_num, HB.out⟩, by simp [intOf]; omega⟩
    · go_wp2_with fail
      go_ret
      exact ⟨rfl, hbl⟩
end Go.Proofs.Ytmpnlhfnemidpaa
namespace Go.Proofs.Ytmpnlhfnemidpaa
open Go.RowKit Go.Shelf
set_option maxRecDepth 100000 in
theorem rRegp (n : Int) (w : World) : Calls Try.prog 65 #[.int .i64 n] w fun e w' => e = .returned (plV 1 n) ∧ Below w.heap.size w w' := by
  have hip := info_place
  go_enter Try.func65, Try.ntmps65
  go_wp2_with fail
  exact bodyPost_ret (results_cell_row rfl _ _ w.heap.size 49 _ (0, 0) _ rfl (Cells.new w _ _) Try.underlying49 rfl hip) rfl ⟨rfl, (Below.refl _ w).alloc (Nat.le_refl _) _⟩

set_option maxRecDepth 100000 in
theorem rOnly (k : Int) (w : World) : Calls Try.prog 68 #[.int .i64 k] w fun e w' => e = .returned (plV k 0) ∧ Below w.heap.size w w' := by
  have hip := info_place
  go_enter Try.func68, Try.ntmps68
  go_wp2_with fail
  exact bodyPost_ret (results_cell_row rfl _ _ w.heap.size 49 _ (0, 0) _ rfl (Cells.new w _ _) Try.underlying49 rfl hip) rfl ⟨rfl, (Below.refl _ w).alloc (Nat.le_refl _) _⟩

theorem info_touch3 : (Try.prog.info? 83).map (·.size) = some 3 := by kernel_rfl
set_option maxRecDepth 100000 in
theorem rMove (k n : Int) (ao : Option Addr) (l c : Nat) (w : World) : Calls Try.prog 69 #[plV k n, .slice ao l c] w fun e w' => e = .returned (.agg #[.int .i64 k, .int .i64 n, .slice ao l c]) ∧ Below w.heap.size w w' := by
  have hip := info_touch3
  go_enter Try.func69, Try.ntmps69
  go_wp2_with fail
  obtain ⟨_, K2, Hb, _⟩ := cells2 w #[.int .i64 k, .int .i64 n] #[.int .i64 k, .int .i64 n, .slice ao l c] 49 83
  exact bodyPost_ret (results_cell_row rfl _ _ (w.heap.size + 1) 83 _ (0, 0) _ rfl K2 Try.underlying83 rfl hip) rfl ⟨rfl, Hb⟩
set_option maxRecDepth 100000 in
theorem rDecide (ao : Option Addr) (l c : Nat) (w : World) : Calls Try.prog 66 #[.slice ao l c] w fun e w' => e = .returned (.agg #[.int .i64 0, .int .i64 0, .slice ao l c]) ∧ Below w.heap.size w w' := by
  have hip := info_touch3
  go_enter Try.func66, Try.ntmps66
  go_wp2_with fail
  exact bodyPost_ret (results_cell_row rfl _ _ w.heap.size 83 _ (0, 0) _ rfl (Cells.new w _ _) Try.underlying83 rfl hip) rfl ⟨rfl, (Below.refl _ w).alloc (Nat.le_refl _) _⟩
end Go.Proofs.Ytmpnlhfnemidpaa
