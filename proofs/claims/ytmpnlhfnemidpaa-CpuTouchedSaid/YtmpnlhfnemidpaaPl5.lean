/- Plan and the document's Plan: whole contracts. -/
import Derived.Test.YtmpnlhfnemidpaaPc0
import Derived.Test.YtmpnlhfnemidpaaPc2
import Derived.Test.YtmpnlhfnemidpaaPr0
import Derived.Test.YtmpnlhfnemidpaaPr2
namespace Go.Proofs.Ytmpnlhfnemidpaa
open Go.RowKit Go.Shelf
set_option maxRecDepth 100000 in
set_option maxHeartbeats 4000000 in
theorem cPlan_bad {s : St} (hs : s.ok) {x : Int} (hok : okL x = false) (h0 : 0 ≤ x) (h1 : x < 4294967296) (w : World) :
    Calls Try.prog 17 #[.agg (stA s), .int .u32 x] w fun e w' => e = .returned (.agg (wtA (trapW 1))) ∧ Below w.heap.size w w' := by
  obtain ⟨K1, K2, Hb, hsz⟩ := cells2 w (stA s) (wtA ⟨0, 0, 0, 0, 0, 0⟩) 25 42
  go_enter Try.func17, Try.ntmps17
  go_wp2_with fail
  generalize (w.alloc _).alloc _ = W at *
  refine (cDecode_out hok h0 h1 W).mono ?_
  rintro e W1 ⟨rfl, hb1⟩
  clear hok h0 h1
  go_wp2_with fail
  obtain ⟨K3, hb3, s3⟩ := cells1 W1 (instA 0 0 0 0) 54
  unfold instA at K3 hb3 s3
  generalize W1.alloc _ = W2 at *
  have HB1 := Hb.trans (hb1.mono Hb.size)
  have HB2 := HB1.trans (hb3.mono HB1.size)
  have l1 := hb1.size
  have A2 : StAt W2 w.heap.size s := ⟨(K1.below hb1 K1.lt).below hb3 (by omega), hs.len⟩
  have W2w : Cells W2 (w.heap.size + 1) 42 (wtA ⟨0, 0, 0, 0, 0, 0⟩) := (K2.below hb1 K2.lt).below hb3 (by omega)
  have i0 := (K3.cell 0).trans (show _ = some (Value.int .i64 0) from rfl)
  have i1 := (K3.cell 1).trans (show _ = some (Value.int .i64 0) from rfl)
  have i2 := (K3.cell 2).trans (show _ = some (Value.int .i64 0) from rfl)
  have i3 := (K3.cell 3).trans (show _ = some (Value.int .i64 0) from rfl)
  have r1 := A2.reg (k := 0) (by decide)
  have r2 := A2.reg (k := 0) (by decide)
  have rz := hs.reg 0
  rw [show ((0 : Nat) : Int) = 0 from rfl] at r1 r2
  obtain ⟨av, hav⟩ : ∃ av, reg s 0 = av := ⟨_, rfl⟩
  rw [hav] at r1 r2 rz
  clear hav
  refine wp_region_still_lit (by kernel_rfl) (by kernel_rfl) ?_
  repeat still_step
  refine wpStill_nil ?_
  change Exit.then _ _ .normal _ W2.drew
  clear r1 r2
  have J0 : W2.drew.cell? ⟨W1.heap.size, 0, none⟩ = some (.int .i64 0) := i0
  have J1 : W2.drew.cell? ⟨W1.heap.size, 1, none⟩ = some (.int .i64 0) := i1
  have J2 : W2.drew.cell? ⟨W1.heap.size, 2, none⟩ = some (.int .i64 0) := i2
  have J3 : W2.drew.cell? ⟨W1.heap.size, 3, none⟩ = some (.int .i64 0) := i3
  have A3 : StAt W2.drew w.heap.size s := ⟨A2.row, hs.len⟩
  have HB3 : Below w.heap.size w W2.drew := HB2.drew
  have K3d : Cells W2.drew W1.heap.size 54 #[.int .i64 0, .int .i64 0, .int .i64 0, .int .i64 0] := K3
  have Ww : Cells W2.drew (w.heap.size + 1) 42 (wtA ⟨0, 0, 0, 0, 0, 0⟩) := W2w
  clear i0 i1 i2 i3 A2 HB2 K3 W2w hb3 s3 K1 K2 Hb hsz hb1 HB1 l1
  generalize W2.drew = W3 at *
  go_wp2_with fail
  refine (cImm (op := 0) (a := 0) (b := 0) (n := 0) (by decide) W3).mono ?_
  rintro e W4 ⟨rfl, hb4⟩
  have A4 := A3.below hb4 A3.lt
  have K4 := K3d.below hb4 K3d.lt
  have Ww4 := Ww.below hb4 Ww.lt
  have HB4 := HB3.trans (hb4.mono HB3.size)
  clear A3 K3d Ww HB3 hb4 J0 J1 J2 J3
  go_wp2_with fail
  refine (cAdd _ _ _).mono ?_
  rintro e w' ⟨rfl, rfl⟩
  have J0 := (K4.cell 0).trans (show _ = some (Value.int .i64 0) from rfl)
  have J1 := (K4.cell 1).trans (show _ = some (Value.int .i64 0) from rfl)
  have J2 := (K4.cell 2).trans (show _ = some (Value.int .i64 0) from rfl)
  have J3 := (K4.cell 3).trans (show _ = some (Value.int .i64 0) from rfl)
  have _a1 := StAt.pc A4
  have _a2 := StAt.epc A4
  have _a3 := StAt.cause A4
  have _a4 := StAt.vec A4
  have _a5 := StAt.table A4
  have _a6 := StAt.sup A4
  have _a7 := StAt.prev A4
  have _a8 := StAt.en A4
  have _f1 := StAt.fz A4 8
  have _f2 := StAt.fz A4 9
  have _f3 := StAt.fz A4 10
  have _f4 := StAt.fz A4 11
  have _f5 := StAt.fz A4 12
  have _f6 := StAt.fz A4 13
  have _f7 := StAt.fz A4 14
  have _f8 := StAt.fz A4 15
  have _c0 := (Cells.cell Ww4 0).trans (show _ = some (Value.int .i64 0) from rfl)
  have _c1 := (Cells.cell Ww4 1).trans (show _ = some (Value.int .u32 0) from rfl)
  have _c2 := (Cells.cell Ww4 2).trans (show _ = some (Value.int .u32 0) from rfl)
  have _c3 := (Cells.cell Ww4 3).trans (show _ = some (Value.int .i64 0) from rfl)
  have _c4 := (Cells.cell Ww4 4).trans (show _ = some (Value.int .i64 0) from rfl)
  have _c5 := (Cells.cell Ww4 5).trans (show _ = some (Value.int .u32 0) from rfl)
  have _g0 := Cells.frozen Ww4 0
  have _g1 := Cells.frozen Ww4 1
  have _g2 := Cells.frozen Ww4 2
  have _g3 := Cells.frozen Ww4 3
  have _g4 := Cells.frozen Ww4 4
  have _g5 := Cells.frozen Ww4 5
  have hi : (Try.prog.info? 42).map (·.size) = some 6 := by kernel_rfl
  go_wp2_with (go_at_call 33; refine (cPlan1 _ _).mono ?_; rintro e W5 ⟨rfl, hb5⟩; have Ww5 := Ww4.below hb5 Ww4.lt; have HB5 := HB4.trans (hb5.mono HB4.size); obtain ⟨d0, d1, d2, d3, d4, d5, g0, g1, g2, g3, g4, g5⟩ := wantF Ww5)
  exact bodyPost_ret (results_cell_row rfl _ _ (w.heap.size + 1) 42 (wtA ⟨_, _, _, _, _, _⟩) (0, 0) _ rfl (setW_heap Ww5 _ _ _ _ _ _) Try.underlying42 rfl (hiW _)) rfl ⟨rfl, setW_below HB5 (by omega) _ _ _ _ _ _⟩
set_option maxRecDepth 100000 in
set_option maxHeartbeats 4000000 in
theorem rPlan_bad {s : St} (_hs : s.ok) {x : Int} (hok : okL x = false) (h0 : 0 ≤ x) (h1 : x < 4294967296) (w : World) :
    Calls Try.prog 29 #[.agg (stA s), .int .u32 x] w fun e w' => e = .returned (.agg (wtA (trapW 1))) ∧ Below w.heap.size w w' := by
  obtain ⟨K1, K2, Hb, hsz⟩ := cells2 w (stA s) (wtA ⟨0, 0, 0, 0, 0, 0⟩) 25 42
  go_enter Try.func29, Try.ntmps29
  go_wp2_with fail
  generalize (w.alloc _).alloc _ = W at *
  refine (rDecode_out hok h0 h1 W).mono ?_
  rintro e W1 ⟨rfl, hb1⟩
  have Ww4 := (K2.below hb1 K2.lt).alloc (.cells (instA 0 0 0 0) 54)
  have l1 := hb1.size
  have hs1 := Hb.size
  have HB4 := (Hb.trans (hb1.mono Hb.size)).alloc (by omega) (.cells (instA 0 0 0 0) 54)
  obtain ⟨d0, d1, d2, d3, d4, d5, g0, g1, g2, g3, g4, g5⟩ := wantF Ww4
  go_wp2_with fail
  exact bodyPost_ret (results_cell_row rfl _ _ (w.heap.size + 1) 42 (wtA ⟨_, _, _, _, _, _⟩) (0, 0) _ rfl (setW_heap Ww4 _ _ _ _ _ _) Try.underlying42 rfl (hiW _)) rfl ⟨rfl, setW_below HB4 (by omega) _ _ _ _ _ _⟩
theorem cPlan {s : St} (hs : s.ok) {x : Int} (h0 : 0 ≤ x) (h1 : x < 4294967296) (w : World) :
    Calls Try.prog 17 #[.agg (stA s), .int .u32 x] w fun e w' => e = .returned (.agg (wtA (planL s x))) ∧ Below w.heap.size w w' := by
  cases hok : okL x
  · have h := cPlan_bad hs hok h0 h1 w
    rw [show planL s x = trapW 1 by unfold planL; rw [hok]; rfl]
    exact h
  · obtain ⟨bop, ⟨a0, a1⟩, ⟨b0, b1⟩, bn⟩ := ok_bounds hok
    have hv : planL s x = planW (dOp x) (reg s (dA x)) (reg s (dB x)) (atL s x) (dN x) s.sup := by unfold planL; rw [hok]; rfl
    obtain ⟨ka, e2⟩ := Int.eq_ofNat_of_zero_le a0
    obtain ⟨kb, e3⟩ := Int.eq_ofNat_of_zero_le b0
    have hc : (dOp x = 1 ∨ dOp x = 2 ∨ dOp x = 3 ∨ dOp x = 4 ∨ dOp x = 5 ∨ dOp x = 6 ∨ dOp x = 7) ∨ (dOp x = 8 ∨ dOp x = 9 ∨ dOp x = 10 ∨ dOp x = 11 ∨ dOp x = 12 ∨ dOp x = 13 ∨ dOp x = 14) ∨ (dOp x = 15 ∨ dOp x = 16 ∨ dOp x = 17 ∨ dOp x = 18 ∨ dOp x = 19 ∨ dOp x = 20 ∨ dOp x = 21) ∨ (dOp x = 22 ∨ dOp x = 23 ∨ dOp x = 24 ∨ dOp x = 25 ∨ dOp x = 26 ∨ dOp x = 27 ∨ dOp x = 28) := by omega
    rcases hc with h | h | h | h
    · exact cPlan0 hs hok h0 h1 h (by omega) (by omega) bn rfl e2 e3 rfl (hs.reg _) (hs.reg _) rfl rfl rfl (by rw [hv]; unfold atL; rw [e2, e3]) w
    · exact cPlan1g hs hok h0 h1 h (by omega) (by omega) bn rfl e2 e3 rfl (hs.reg _) (hs.reg _) rfl rfl rfl (by rw [hv]; unfold atL; rw [e2, e3]) w
    · exact cPlan2 hs hok h0 h1 h (by omega) (by omega) bn rfl e2 e3 rfl (hs.reg _) (hs.reg _) rfl rfl rfl (by rw [hv]; unfold atL; rw [e2, e3]) w
    · exact cPlan3 hs hok h0 h1 h (by omega) (by omega) bn rfl e2 e3 rfl (hs.reg _) (hs.reg _) rfl rfl rfl (by rw [hv]; unfold atL; rw [e2, e3]) w
theorem rPlan {s : St} (hs : s.ok) {x : Int} (h0 : 0 ≤ x) (h1 : x < 4294967296) (w : World) :
    Calls Try.prog 29 #[.agg (stA s), .int .u32 x] w fun e w' => e = .returned (.agg (wtA (planL s x))) ∧ Below w.heap.size w w' := by
  cases hok : okL x
  · have h := rPlan_bad hs hok h0 h1 w
    rw [show planL s x = trapW 1 by unfold planL; rw [hok]; rfl]
    exact h
  · obtain ⟨bop, ⟨a0, a1⟩, ⟨b0, b1⟩, bn⟩ := ok_bounds hok
    have hv : planL s x = planW (dOp x) (reg s (dA x)) (reg s (dB x)) (atL s x) (dN x) s.sup := by unfold planL; rw [hok]; rfl
    obtain ⟨ka, e2⟩ := Int.eq_ofNat_of_zero_le a0
    obtain ⟨kb, e3⟩ := Int.eq_ofNat_of_zero_le b0
    have hc : (dOp x = 1 ∨ dOp x = 2 ∨ dOp x = 3 ∨ dOp x = 4 ∨ dOp x = 5 ∨ dOp x = 6 ∨ dOp x = 7) ∨ (dOp x = 8 ∨ dOp x = 9 ∨ dOp x = 10 ∨ dOp x = 11 ∨ dOp x = 12 ∨ dOp x = 13 ∨ dOp x = 14) ∨ (dOp x = 15 ∨ dOp x = 16 ∨ dOp x = 17 ∨ dOp x = 18 ∨ dOp x = 19 ∨ dOp x = 20 ∨ dOp x = 21) ∨ (dOp x = 22 ∨ dOp x = 23 ∨ dOp x = 24 ∨ dOp x = 25 ∨ dOp x = 26 ∨ dOp x = 27 ∨ dOp x = 28) := by omega
    rcases hc with h | h | h | h
    · exact rPlan0 hs hok h0 h1 h (by omega) (by omega) bn rfl e2 e3 rfl (hs.reg _) (hs.reg _) rfl rfl rfl (by rw [hv]; unfold atL; rw [e2, e3]) w
    · exact rPlan1 hs hok h0 h1 h (by omega) (by omega) bn rfl e2 e3 rfl (hs.reg _) (hs.reg _) rfl rfl rfl (by rw [hv]; unfold atL; rw [e2, e3]) w
    · exact rPlan2 hs hok h0 h1 h (by omega) (by omega) bn rfl e2 e3 rfl (hs.reg _) (hs.reg _) rfl rfl rfl (by rw [hv]; unfold atL; rw [e2, e3]) w
    · exact rPlan3 hs hok h0 h1 h (by omega) (by omega) bn rfl e2 e3 rfl (hs.reg _) (hs.reg _) rfl rfl rfl (by rw [hv]; unfold atL; rw [e2, e3]) w
end Go.Proofs.Ytmpnlhfnemidpaa
