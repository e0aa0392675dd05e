/- rPlan, Ops 1 to 7. -/
import Derived.Test.YtmpnlhfnemidpaaPl
namespace Go.Proofs.Ytmpnlhfnemidpaa
open Go.RowKit Go.Shelf
set_option maxRecDepth 100000 in
set_option maxHeartbeats 4000000 in
theorem rPlan0 {s : St} (hs : s.ok) {x : Int} (hok : okL x = true) (h0 : 0 ≤ x) (h1 : x < 4294967296) {op n : Int} {ka kb : Nat} (bop : op = 1 ∨ op = 2 ∨ op = 3 ∨ op = 4 ∨ op = 5 ∨ op = 6 ∨ op = 7) (hka : ka < 8) (hkb : kb < 8) (bn : -32768 ≤ n ∧ n ≤ 32767) (e1 : dOp x = op) (e2 : dA x = ka) (e3 : dB x = kb) (e4 : dN x = n)
    {av bv at_ : Int} (ra : u32? av) (rb : u32? bv) (ea : reg s ka = av) (eb : reg s kb = bv) (hat : at_ = (bv + immL n) % 4294967296) {v : Wt} (hv : v = planW op av bv at_ n s.sup) (w : World) :
    Calls Try.prog 29 #[.agg (stA s), .int .u32 x] w fun e w' => e = .returned (.agg (wtA v)) ∧ Below w.heap.size w w' := by
  have HV := Lib.hid hv
  have ra1 : 0 ≤ av := ra.1
  have ra2 : av < 4294967296 := ra.2
  have rb1 : 0 ≤ bv := rb.1
  have rb2 : bv < 4294967296 := rb.2
  clear hv
  have hrb := rb
  clear hrb
  obtain ⟨K1, K2, Hb, hsz⟩ := cells2 w (stA s) (wtA ⟨0, 0, 0, 0, 0, 0⟩) 25 42
  go_enter Try.func29, Try.ntmps29
  go_wp2_with fail
  generalize (w.alloc _).alloc _ = W at *
  refine (rDecode_in hok h0 h1 W).mono ?_
  rintro e W1 ⟨rfl, hb1⟩
  rw [e1, e2, e3, e4]
  clear hok h0 h1 e1 e2 e3 e4
  obtain ⟨K3, hb3, s3⟩ := cells1 W1 (instA op ka kb n) 54
  obtain ⟨W2, eW2⟩ : ∃ W2, W1.alloc (.cells #[.int .i64 op, .int .i64 ka, .int .i64 kb, .int .i64 n] 54) = W2 := ⟨_, rfl⟩
  unfold instA at K3 hb3 s3
  rw [eW2] at K3 hb3 s3
  have HB1 := Hb.trans (hb1.mono Hb.size)
  have HB2 := HB1.trans (hb3.mono HB1.size)
  have l1 := hb1.size
  have A2 : StAt W2 w.heap.size s := ⟨(K1.below hb1 K1.lt).below hb3 (by omega), hs.len⟩
  have W2w : Cells W2 (w.heap.size + 1) 42 (wtA ⟨0, 0, 0, 0, 0, 0⟩) := (K2.below hb1 K2.lt).below hb3 (by omega)
  have i0 := (K3.cell 0).trans (show _ = some (Value.int .i64 op) from rfl)
  have i1 := (K3.cell 1).trans (show _ = some (Value.int .i64 ka) from rfl)
  have i2 := (K3.cell 2).trans (show _ = some (Value.int .i64 kb) from rfl)
  have i3 := (K3.cell 3).trans (show _ = some (Value.int .i64 n) from rfl)
  have r1 := A2.reg (k := ka) hka
  have r2 := A2.reg (k := kb) hkb
  rw [ea] at r1
  rw [eb] at r2
  clear ea eb
  go_wp2_with fail
  have x1 : (0 : Int) ≤ (ka : Int) := by omega
  have x2 : (ka : Int) < 8 := by omega
  have x3 : (0 : Int) ≤ (kb : Int) := by omega
  have x4 : (kb : Int) < 8 := by omega
  refine wp_region_still_lit (by kernel_rfl) (by kernel_rfl) ?_
  repeat still_step
  refine wpStill_nil ?_
  change Exit.then _ _ .normal _ W2.drew
  clear x1 x2 x3 x4 r1 r2 eW2
  have J0 : W2.drew.cell? ⟨W1.heap.size, 0, none⟩ = some (.int .i64 op) := i0
  have J1 : W2.drew.cell? ⟨W1.heap.size, 1, none⟩ = some (.int .i64 ka) := i1
  have J2 : W2.drew.cell? ⟨W1.heap.size, 2, none⟩ = some (.int .i64 kb) := i2
  have J3 : W2.drew.cell? ⟨W1.heap.size, 3, none⟩ = some (.int .i64 n) := i3
  have A3 : StAt W2.drew w.heap.size s := ⟨A2.row, hs.len⟩
  have HB3 : Below w.heap.size w W2.drew := HB2.drew
  have K3d : Cells W2.drew W1.heap.size 54 #[.int .i64 op, .int .i64 ka, .int .i64 kb, .int .i64 n] := K3
  have Ww : Cells W2.drew (w.heap.size + 1) 42 (wtA ⟨0, 0, 0, 0, 0, 0⟩) := W2w
  clear i0 i1 i2 i3 A2 HB2 K3 W2w hb3 s3 K1 K2 Hb hsz hb1 HB1 l1
  generalize W2.drew = W3 at *
  go_wp2_with fail
  refine (rImm bn W3).mono ?_
  rintro e W4 ⟨rfl, hb4⟩
  have A4 := A3.below hb4 A3.lt
  have K4 := K3d.below hb4 K3d.lt
  have Ww4 := Ww.below hb4 Ww.lt
  have HB4 := HB3.trans (hb4.mono HB3.size)
  clear A3 K3d Ww HB3 hb4 J0 J1 J2 J3
  go_wp2_with fail
  refine (rAdd _ _ _ rb1 rb2 (by unfold immL; omega) (by unfold immL; omega)).mono ?_
  rw [← hat]
  rintro e w' ⟨rfl, rfl⟩
  have J0 := (K4.cell 0).trans (show _ = some (Value.int .i64 op) from rfl)
  have J1 := (K4.cell 1).trans (show _ = some (Value.int .i64 ka) from rfl)
  have J2 := (K4.cell 2).trans (show _ = some (Value.int .i64 kb) from rfl)
  have J3 := (K4.cell 3).trans (show _ = some (Value.int .i64 n) from rfl)
  have bat : 0 ≤ at_ ∧ at_ < 4294967296 := by omega
  clear hat
  have _a1 := StAt.pc A4
  have _a2 := StAt.epc A4
  have _a3 := StAt.cause A4
  have _a4 := StAt.vec A4
  have _a5 := StAt.table A4
  have _a6 := StAt.sup A4
  have _a7 := StAt.prev A4
  have _a8 := StAt.en A4
  have _f1 := StAt.fz A4 8
  have _f2 := StAt.fz A4 9
  have _f3 := StAt.fz A4 10
  have _f4 := StAt.fz A4 11
  have _f5 := StAt.fz A4 12
  have _f6 := StAt.fz A4 13
  have _f7 := StAt.fz A4 14
  have _f8 := StAt.fz A4 15
  have _c0 := (Cells.cell Ww4 0).trans (show _ = some (Value.int .i64 0) from rfl)
  have _c1 := (Cells.cell Ww4 1).trans (show _ = some (Value.int .u32 0) from rfl)
  have _c2 := (Cells.cell Ww4 2).trans (show _ = some (Value.int .u32 0) from rfl)
  have _c3 := (Cells.cell Ww4 3).trans (show _ = some (Value.int .i64 0) from rfl)
  have _c4 := (Cells.cell Ww4 4).trans (show _ = some (Value.int .i64 0) from rfl)
  have _c5 := (Cells.cell Ww4 5).trans (show _ = some (Value.int .u32 0) from rfl)
  have _g0 := Cells.frozen Ww4 0
  have _g1 := Cells.frozen Ww4 1
  have _g2 := Cells.frozen Ww4 2
  have _g3 := Cells.frozen Ww4 3
  have _g4 := Cells.frozen Ww4 4
  have _g5 := Cells.frozen Ww4 5
  have mask : bits .and .u32 av 255 = av % 256 := bits_mask .u32 32 (by decide) (fun n h h' => by rw [IntKind.wrap_u32]; omega) 8 (by decide) _ ra.1 ra.2
  have hi : (Try.prog.info? 42).map (·.size) = some 6 := by kernel_rfl
  rcases bop with rfl | rfl | rfl | rfl | rfl | rfl | rfl
  · cases hsup : s.sup
    · rw [hsup] at _a6
      go_wp2_with fail
      refine bodyPost_ret (results_cell_row rfl _ _ (w.heap.size + 1) 42 (wtA ⟨_, _, _, _, _, _⟩) (0, 0) _ rfl (setW_heap Ww4 _ _ _ _ _ _) Try.underlying42 rfl (hiW _)) rfl ⟨?_, setW_below HB4 (by omega) _ _ _ _ _ _⟩
      (rw [HV.out, pw1, hsup, if_pos rfl]); try rfl
    · rw [hsup] at _a6
      go_wp2_with fail
      refine bodyPost_ret (results_cell_row rfl _ _ (w.heap.size + 1) 42 (wtA ⟨_, _, _, _, _, _⟩) (0, 0) _ rfl (setW_heap Ww4 _ _ _ _ _ _) Try.underlying42 rfl (hiW _)) rfl ⟨?_, setW_below HB4 (by omega) _ _ _ _ _ _⟩
      (rw [HV.out, pw1, hsup, if_neg (by simp)]); try rfl
  · skip
    go_wp2_with fail
    refine bodyPost_ret (results_cell_row rfl _ _ (w.heap.size + 1) 42 (wtA ⟨_, _, _, _, _, _⟩) (0, 0) _ rfl (setW_heap Ww4 _ _ _ _ _ _) Try.underlying42 rfl (hiW _)) rfl ⟨?_, setW_below HB4 (by omega) _ _ _ _ _ _⟩
    (rw [HV.out, pw2]); try rfl
  · skip
    go_wp2_with fail
    refine bodyPost_ret (results_cell_row rfl _ _ (w.heap.size + 1) 42 (wtA ⟨_, _, _, _, _, _⟩) (0, 0) _ rfl (setW_heap Ww4 _ _ _ _ _ _) Try.underlying42 rfl (hiW _)) rfl ⟨?_, setW_below HB4 (by omega) _ _ _ _ _ _⟩
    (rw [HV.out, pw3]); try rfl
  · skip
    go_wp2_with fail
    refine bodyPost_ret (results_cell_row rfl _ _ (w.heap.size + 1) 42 (wtA ⟨_, _, _, _, _, _⟩) (0, 0) _ rfl (setW_heap Ww4 _ _ _ _ _ _) Try.underlying42 rfl (hiW _)) rfl ⟨?_, setW_below HB4 (by omega) _ _ _ _ _ _⟩
    (rw [HV.out, pw4]); try rfl
  · skip
    go_wp2_with fail
    refine bodyPost_ret (results_cell_row rfl _ _ (w.heap.size + 1) 42 (wtA ⟨_, _, _, _, _, _⟩) (0, 0) _ rfl (setW_heap Ww4 _ _ _ _ _ _) Try.underlying42 rfl (hiW _)) rfl ⟨?_, setW_below HB4 (by omega) _ _ _ _ _ _⟩
    (rw [HV.out, pw5]); try rfl
  · skip
    go_wp2_with fail
    refine bodyPost_ret (results_cell_row rfl _ _ (w.heap.size + 1) 42 (wtA ⟨_, _, _, _, _, _⟩) (0, 0) _ rfl (setW_heap Ww4 _ _ _ _ _ _) Try.underlying42 rfl (hiW _)) rfl ⟨?_, setW_below HB4 (by omega) _ _ _ _ _ _⟩
    (rw [HV.out, pw6]); try rfl
  · skip
    go_wp2_with fail
    refine bodyPost_ret (results_cell_row rfl _ _ (w.heap.size + 1) 42 (wtA ⟨_, _, _, _, _, _⟩) (0, 0) _ rfl (setW_heap Ww4 _ _ _ _ _ _) Try.underlying42 rfl (hiW _)) rfl ⟨?_, setW_below HB4 (by omega) _ _ _ _ _ _⟩
    (rw [HV.out, pw7]); try rfl
end Go.Proofs.Ytmpnlhfnemidpaa
namespace Go.Proofs.Ytmpnlhfnemidpaa
open Go.RowKit Go.Shelf
set_option maxRecDepth 100000 in
set_option maxHeartbeats 4000000 in
theorem rPlan1 {s : St} (hs : s.ok) {x : Int} (hok : okL x = true) (h0 : 0 ≤ x) (h1 : x < 4294967296) {op n : Int} {ka kb : Nat} (bop : op = 8 ∨ op = 9 ∨ op = 10 ∨ op = 11 ∨ op = 12 ∨ op = 13 ∨ op = 14) (hka : ka < 8) (hkb : kb < 8) (bn : -32768 ≤ n ∧ n ≤ 32767) (e1 : dOp x = op) (e2 : dA x = ka) (e3 : dB x = kb) (e4 : dN x = n)
    {av bv at_ : Int} (ra : u32? av) (rb : u32? bv) (ea : reg s ka = av) (eb : reg s kb = bv) (hat : at_ = (bv + immL n) % 4294967296) {v : Wt} (hv : v = planW op av bv at_ n s.sup) (w : World) :
    Calls Try.prog 29 #[.agg (stA s), .int .u32 x] w fun e w' => e = .returned (.agg (wtA v)) ∧ Below w.heap.size w w' := by
  have HV := Lib.hid hv
  have ra1 : 0 ≤ av := ra.1
  have ra2 : av < 4294967296 := ra.2
  have rb1 : 0 ≤ bv := rb.1
  have rb2 : bv < 4294967296 := rb.2
  clear hv
  have hrb := rb
  clear hrb
  obtain ⟨K1, K2, Hb, hsz⟩ := cells2 w (stA s) (wtA ⟨0, 0, 0, 0, 0, 0⟩) 25 42
  go_enter Try.func29, Try.ntmps29
  go_wp2_with fail
  generalize (w.alloc _).alloc _ = W at *
  refine (rDecode_in hok h0 h1 W).mono ?_
  rintro e W1 ⟨rfl, hb1⟩
  rw [e1, e2, e3, e4]
  clear hok h0 h1 e1 e2 e3 e4
  obtain ⟨K3, hb3, s3⟩ := cells1 W1 (instA op ka kb n) 54
  obtain ⟨W2, eW2⟩ : ∃ W2, W1.alloc (.cells #[.int .i64 op, .int .i64 ka, .int .i64 kb, .int .i64 n] 54) = W2 := ⟨_, rfl⟩
  unfold instA at K3 hb3 s3
  rw [eW2] at K3 hb3 s3
  have HB1 := Hb.trans (hb1.mono Hb.size)
  have HB2 := HB1.trans (hb3.mono HB1.size)
  have l1 := hb1.size
  have A2 : StAt W2 w.heap.size s := ⟨(K1.below hb1 K1.lt).below hb3 (by omega), hs.len⟩
  have W2w : Cells W2 (w.heap.size + 1) 42 (wtA ⟨0, 0, 0, 0, 0, 0⟩) := (K2.below hb1 K2.lt).below hb3 (by omega)
  have i0 := (K3.cell 0).trans (show _ = some (Value.int .i64 op) from rfl)
  have i1 := (K3.cell 1).trans (show _ = some (Value.int .i64 ka) from rfl)
  have i2 := (K3.cell 2).trans (show _ = some (Value.int .i64 kb) from rfl)
  have i3 := (K3.cell 3).trans (show _ = some (Value.int .i64 n) from rfl)
  have r1 := A2.reg (k := ka) hka
  have r2 := A2.reg (k := kb) hkb
  rw [ea] at r1
  rw [eb] at r2
  clear ea eb
  go_wp2_with fail
  have x1 : (0 : Int) ≤ (ka : Int) := by omega
  have x2 : (ka : Int) < 8 := by omega
  have x3 : (0 : Int) ≤ (kb : Int) := by omega
  have x4 : (kb : Int) < 8 := by omega
  refine wp_region_still_lit (by kernel_rfl) (by kernel_rfl) ?_
  repeat still_step
  refine wpStill_nil ?_
  change Exit.then _ _ .normal _ W2.drew
  clear x1 x2 x3 x4 r1 r2 eW2
  have J0 : W2.drew.cell? ⟨W1.heap.size, 0, none⟩ = some (.int .i64 op) := i0
  have J1 : W2.drew.cell? ⟨W1.heap.size, 1, none⟩ = some (.int .i64 ka) := i1
  have J2 : W2.drew.cell? ⟨W1.heap.size, 2, none⟩ = some (.int .i64 kb) := i2
  have J3 : W2.drew.cell? ⟨W1.heap.size, 3, none⟩ = some (.int .i64 n) := i3
  have A3 : StAt W2.drew w.heap.size s := ⟨A2.row, hs.len⟩
  have HB3 : Below w.heap.size w W2.drew := HB2.drew
  have K3d : Cells W2.drew W1.heap.size 54 #[.int .i64 op, .int .i64 ka, .int .i64 kb, .int .i64 n] := K3
  have Ww : Cells W2.drew (w.heap.size + 1) 42 (wtA ⟨0, 0, 0, 0, 0, 0⟩) := W2w
  clear i0 i1 i2 i3 A2 HB2 K3 W2w hb3 s3 K1 K2 Hb hsz hb1 HB1 l1
  generalize W2.drew = W3 at *
  go_wp2_with fail
  refine (rImm bn W3).mono ?_
  rintro e W4 ⟨rfl, hb4⟩
  have A4 := A3.below hb4 A3.lt
  have K4 := K3d.below hb4 K3d.lt
  have Ww4 := Ww.below hb4 Ww.lt
  have HB4 := HB3.trans (hb4.mono HB3.size)
  clear A3 K3d Ww HB3 hb4 J0 J1 J2 J3
  go_wp2_with fail
  refine (rAdd _ _ _ rb1 rb2 (by unfold immL; omega) (by unfold immL; omega)).mono ?_
  rw [← hat]
  rintro e w' ⟨rfl, rfl⟩
  have J0 := (K4.cell 0).trans (show _ = some (Value.int .i64 op) from rfl)
  have J1 := (K4.cell 1).trans (show _ = some (Value.int .i64 ka) from rfl)
  have J2 := (K4.cell 2).trans (show _ = some (Value.int .i64 kb) from rfl)
  have J3 := (K4.cell 3).trans (show _ = some (Value.int .i64 n) from rfl)
  have bat : 0 ≤ at_ ∧ at_ < 4294967296 := by omega
  clear hat
  have _a1 := StAt.pc A4
  have _a2 := StAt.epc A4
  have _a3 := StAt.cause A4
  have _a4 := StAt.vec A4
  have _a5 := StAt.table A4
  have _a6 := StAt.sup A4
  have _a7 := StAt.prev A4
  have _a8 := StAt.en A4
  have _f1 := StAt.fz A4 8
  have _f2 := StAt.fz A4 9
  have _f3 := StAt.fz A4 10
  have _f4 := StAt.fz A4 11
  have _f5 := StAt.fz A4 12
  have _f6 := StAt.fz A4 13
  have _f7 := StAt.fz A4 14
  have _f8 := StAt.fz A4 15
  have _c0 := (Cells.cell Ww4 0).trans (show _ = some (Value.int .i64 0) from rfl)
  have _c1 := (Cells.cell Ww4 1).trans (show _ = some (Value.int .u32 0) from rfl)
  have _c2 := (Cells.cell Ww4 2).trans (show _ = some (Value.int .u32 0) from rfl)
  have _c3 := (Cells.cell Ww4 3).trans (show _ = some (Value.int .i64 0) from rfl)
  have _c4 := (Cells.cell Ww4 4).trans (show _ = some (Value.int .i64 0) from rfl)
  have _c5 := (Cells.cell Ww4 5).trans (show _ = some (Value.int .u32 0) from rfl)
  have _g0 := Cells.frozen Ww4 0
  have _g1 := Cells.frozen Ww4 1
  have _g2 := Cells.frozen Ww4 2
  have _g3 := Cells.frozen Ww4 3
  have _g4 := Cells.frozen Ww4 4
  have _g5 := Cells.frozen Ww4 5
  have mask : bits .and .u32 av 255 = av % 256 := bits_mask .u32 32 (by decide) (fun n h h' => by rw [IntKind.wrap_u32]; omega) 8 (by decide) _ ra.1 ra.2
  have hi : (Try.prog.info? 42).map (·.size) = some 6 := by kernel_rfl
  rcases bop with rfl | rfl | rfl | rfl | rfl | rfl | rfl
  · skip
    go_wp2_with fail
    refine bodyPost_ret (results_cell_row rfl _ _ (w.heap.size + 1) 42 (wtA ⟨_, _, _, _, _, _⟩) (0, 0) _ rfl (setW_heap Ww4 _ _ _ _ _ _) Try.underlying42 rfl (hiW _)) rfl ⟨?_, setW_below HB4 (by omega) _ _ _ _ _ _⟩
    (rw [HV.out, pw8]); try rfl
  · skip
    go_wp2_with fail
    refine bodyPost_ret (results_cell_row rfl _ _ (w.heap.size + 1) 42 (wtA ⟨_, _, _, _, _, _⟩) (0, 0) _ rfl (setW_heap Ww4 _ _ _ _ _ _) Try.underlying42 rfl (hiW _)) rfl ⟨?_, setW_below HB4 (by omega) _ _ _ _ _ _⟩
    (rw [HV.out, pw9]); try rfl
  · skip
    go_wp2_with fail
    refine bodyPost_ret (results_cell_row rfl _ _ (w.heap.size + 1) 42 (wtA ⟨_, _, _, _, _, _⟩) (0, 0) _ rfl (setW_heap Ww4 _ _ _ _ _ _) Try.underlying42 rfl (hiW _)) rfl ⟨?_, setW_below HB4 (by omega) _ _ _ _ _ _⟩
    (rw [HV.out, pw10]); try rfl
  · skip
    go_wp2_with fail
    refine bodyPost_ret (results_cell_row rfl _ _ (w.heap.size + 1) 42 (wtA ⟨_, _, _, _, _, _⟩) (0, 0) _ rfl (setW_heap Ww4 _ _ _ _ _ _) Try.underlying42 rfl (hiW _)) rfl ⟨?_, setW_below HB4 (by omega) _ _ _ _ _ _⟩
    (rw [HV.out, pw11]); try rfl
  · skip
    go_wp2_with fail
    refine bodyPost_ret (results_cell_row rfl _ _ (w.heap.size + 1) 42 (wtA ⟨_, _, _, _, _, _⟩) (0, 0) _ rfl (setW_heap Ww4 _ _ _ _ _ _) Try.underlying42 rfl (hiW _)) rfl ⟨?_, setW_below HB4 (by omega) _ _ _ _ _ _⟩
    (rw [HV.out, pw12]); try rfl
  · by_cases hA : at_ % 4 = 0
    · have hd : (at_ % 4 != 0) = false := by rw [hA]; rfl
      go_wp2_with fail
      refine bodyPost_ret (results_cell_row rfl _ _ (w.heap.size + 1) 42 (wtA ⟨_, _, _, _, _, _⟩) (0, 0) _ rfl (setW_heap Ww4 _ _ _ _ _ _) Try.underlying42 rfl (hiW _)) rfl ⟨?_, setW_below HB4 (by omega) _ _ _ _ _ _⟩
      (rw [HV.out, pw13, if_neg (by simp [hA])]); try rfl
    · have hd : (at_ % 4 != 0) = true := by rw [bne_iff_ne]; exact hA
      go_wp2_with fail
      refine bodyPost_ret (results_cell_row rfl _ _ (w.heap.size + 1) 42 (wtA ⟨_, _, _, _, _, _⟩) (0, 0) _ rfl (setW_heap Ww4 _ _ _ _ _ _) Try.underlying42 rfl (hiW _)) rfl ⟨?_, setW_below HB4 (by omega) _ _ _ _ _ _⟩
      (rw [HV.out, pw13, if_pos hA]); try rfl
  · by_cases hA : at_ % 4 = 0
    · have hd : (at_ % 4 != 0) = false := by rw [hA]; rfl
      go_wp2_with fail
      refine bodyPost_ret (results_cell_row rfl _ _ (w.heap.size + 1) 42 (wtA ⟨_, _, _, _, _, _⟩) (0, 0) _ rfl (setW_heap Ww4 _ _ _ _ _ _) Try.underlying42 rfl (hiW _)) rfl ⟨?_, setW_below HB4 (by omega) _ _ _ _ _ _⟩
      (rw [HV.out, pw14, if_neg (by simp [hA])]); try rfl
    · have hd : (at_ % 4 != 0) = true := by rw [bne_iff_ne]; exact hA
      go_wp2_with fail
      refine bodyPost_ret (results_cell_row rfl _ _ (w.heap.size + 1) 42 (wtA ⟨_, _, _, _, _, _⟩) (0, 0) _ rfl (setW_heap Ww4 _ _ _ _ _ _) Try.underlying42 rfl (hiW _)) rfl ⟨?_, setW_below HB4 (by omega) _ _ _ _ _ _⟩
      (rw [HV.out, pw14, if_pos hA]); try rfl
end Go.Proofs.Ytmpnlhfnemidpaa
