/- The document's Done, of set: contracts. -/
import Derived.Test.YtmpnlhfnemidpaaBw
namespace Go.Proofs.Ytmpnlhfnemidpaa
open Go.RowKit Go.Shelf
set_option maxRecDepth 100000 in
set_option maxHeartbeats 1000000 in
theorem rDone27_0 {s : St} (hs : s.ok) {x : Int} (hok : okL x = true) (h0 : 0 ≤ x) (h1 : x < 4294967296) {ka kb : Nat} (hka : ka < 8) (hkb : kb < 8) (bn : -32768 ≤ (0 : Int) ∧ (0 : Int) ≤ 32767) (e1 : dOp x = 27) (e2 : dA x = ka) (e3 : dB x = kb) (e4 : dN x = 0)
    {av bv : Int} (ra : u32? av) (rb : u32? bv) (ea : reg s ka = av) (eb : reg s kb = bv) {pk : Wt} (hpl : planL s x = pk) (hk : (pk.kind == 1) = false) {told : Int} (w : World) :
    Calls Try.prog 30 #[.agg (stA s), .int .u32 x, .int .u32 told] w fun e w' => e = .returned (.agg (stA { s with pc := (s.pc + 4) % 4294967296, epc := av })) ∧ Below w.heap.size w w' := by
  have hall := And.intro bn (And.intro ra rb)
  clear hall
  have hpc := hs.pc
  obtain ⟨pc0, pc1⟩ := hpc
  obtain ⟨K1, K2, Hb, hsz⟩ := cells2 w (stA s) (stA zst) 25 25
  have hz := zst_lit
  have hi := hi25 hs.len
  have hP := fun W => rPlan hs h0 h1 W
  rw [hpl] at hP
  clear hpl
  have HP := Lib.hid hP
  clear hP
  go_enter Try.func30, Try.ntmps30
  go_upto_region 1 with (fail)
  generalize (w.alloc _).alloc _ = W at *
  clear hz
  have A : StAt W w.heap.size s := ⟨K1, hs.len⟩
  have A' : W.heap[w.heap.size]? = some (.cells (stA s) 25 (0, 0)) := A.row
  go_wp2_with (with_reducible refine wpList_load_row rfl 25 (.tmp 3) rfl w.heap.size rfl 25 (stA s) (0, 0) _ A' Try.underlying25 rfl hi ?_)
  refine (HP.out W).mono ?_
  rintro e W1 ⟨rfl, hb1⟩
  obtain ⟨KP, hbp, sp⟩ := cells1 W1 (wtA pk) 42
  have B1 := Hb.trans (hb1.mono Hb.size)
  have A1 := A.below hb1 A.lt
  have K21 := K2.below hb1 K2.lt
  go_wp2_with fail
  unfold wtA at KP hbp
  generalize W1.alloc _ = W2 at *
  clear KP
  refine (rDecode_in hok h0 h1 W2).mono ?_
  rintro e W3 ⟨rfl, hb3⟩
  rw [e1, e2, e3, e4]
  clear hok h0 h1 e1 e2 e3 e4
  have B2 := B1.trans (hbp.mono B1.size)
  have A2 := A1.below hbp A1.lt
  have K22 := K21.below hbp K21.lt
  have A3 := A2.below hb3 A2.lt
  have K23 := K22.below hb3 K22.lt
  have B3 := B2.trans (hb3.mono B2.size)
  obtain ⟨Ki, hbi, si⟩ := cells1 W3 (instA 27 ka kb 0) 54
  have A4 := A3.below hbi A3.lt
  have K24 := K23.below hbi K23.lt
  have B4 := B3.trans (hbi.mono B3.size)
  have l3 := K23.lt
  clear A A' A1 A2 A3 K1 K2 K21 K22 K23 B1 B2 B3 hb1 hb3 hbp hbi Hb hsz sp si
  unfold instA at Ki A4 K24 B4
  obtain ⟨W4, eW4⟩ : ∃ W4, W3.alloc (.cells #[.int .i64 27, .int .i64 ka, .int .i64 kb, .int .i64 0] 54) = W4 := ⟨_, rfl⟩
  rw [eW4] at Ki A4 K24 B4
  have i0 := (Ki.cell 0).trans (show _ = some (Value.int .i64 27) from rfl)
  have i1 := (Ki.cell 1).trans (show _ = some (Value.int .i64 ka) from rfl)
  have i2 := (Ki.cell 2).trans (show _ = some (Value.int .i64 kb) from rfl)
  have r1 := A4.reg (k := ka) hka
  have r2 := A4.reg (k := kb) hkb
  rw [ea] at r1
  rw [eb] at r2
  have HW := Lib.hid eW4
  clear eW4
  go_upto_region 6 with (fail)
  rw [HW.out]
  have x1 : (0 : Int) ≤ (ka : Int) := by omega
  have x2 : (ka : Int) < 8 := by omega
  have x3 : (0 : Int) ≤ (kb : Int) := by omega
  have x4 : (kb : Int) < 8 := by omega
  refine wp_region_still_lit (by kernel_rfl) (by kernel_rfl) ?_
  repeat still_step
  refine wpStill_nil ?_
  change Exit.then _ _ .normal _ W4.drew
  clear x1 x2 x3 x4 r1 r2 HW i0 i1 i2
  have A5 : StAt W4.drew w.heap.size s := ⟨A4.row, hs.len⟩
  have B5 : Below w.heap.size w W4.drew := B4.drew
  have Ki5 : Cells W4.drew W3.heap.size 54 (instA 27 ka kb 0) := Ki
  have K25 : Cells W4.drew (w.heap.size + 1) 25 (stA zst) := K24
  clear A4 B4 Ki K24
  generalize W4.drew = W5 at *
  have A5' : W5.heap[w.heap.size]? = some (.cells (stA s) 25 (0, 0)) := A5.row
  obtain ⟨Tz, W6, e6, Ko, hb6, s6⟩ := row_own W5 25 (stA zst) (stA s) (by rw [stA_size hs.len]; rfl)
  have A6 := A5.below hb6 A5.lt
  have O6 : StAt W6 W5.heap.size s := ⟨Ko, hs.len⟩
  have p8 := A6.pc
  have o8 := O6.pc
  have f8 := O6.fz 8
  have hz := zst_lit
  go_wp2_with (first
    | (with_reducible refine wpList_load_row rfl 25 (.tmp 3) rfl w.heap.size rfl 25 (stA s) (0, 0) _ A5' Try.underlying25 rfl hi ?_)
    | (with_reducible refine wpList_store_mid rfl 25 (.tmp 13) (.tmp 42) rfl W5.heap.size 0 (stA s) rfl rfl Tz hi (stA_one _) ?_))
  clear hz
  refine (rAdd _ _ _ pc0 pc1 (by omega) (by omega)).mono ?_
  rintro e w' ⟨rfl, rfl⟩
  have D7 : DnAt w (W6.setCell ⟨W5.heap.size, 8, none⟩ (.int .u32 ((s.pc + 4) % 4294967296))) W3.heap.size W5.heap.size s { s with pc := (s.pc + 4) % 4294967296 } 27 ka kb 0 :=
    ⟨A6.other _ (by have := A5.lt; simp; omega), (K25.below hb6 K25.lt).other _ (by have := K25.lt; simp; omega), (Ki5.below hb6 Ki5.lt).other _ (by have := Ki5.lt; simp; omega), O6.set_pc _, (B5.trans (hb6.mono B5.size)).setCell (p := ⟨W5.heap.size, 8, none⟩) B5.size _, by omega, Ki5.lt⟩
  clear A6 p8 hb6 s6 Tz e6 A5 A5' B5 Ki5 K25
  go_upto_region 9 with (fail)
  clear O6 o8 f8 Ko
  generalize World.setCell _ _ _ = W7 at *
  have i3 := (D7.i.cell 3).trans (show _ = some (Value.int .i64 0) from rfl)
  have oc := D7.o.epc
  have of := D7.o.fz 9
  go_upto_region 38 with (fail)
  have D10 := D7.setO (D7.o.set_epc av)
  clear D7 i3 oc of
  generalize World.setCell _ _ _ = W10 at *
  have o0 : W10.heap[W5.heap.size]? = some (.cells (stA { s with pc := (s.pc + 4) % 4294967296, epc := av }) 25 (0, 0)) := D10.o.row
  have T6 : W10.there (w.heap.size + 1) 0 (stA { s with pc := (s.pc + 4) % 4294967296, epc := av }).size := by rw [stA_size D10.o.len]; exact D10.res.there
  have hi0 := hi25 D10.o.len
  have o5 := D10.res.setAll (stA { s with pc := (s.pc + 4) % 4294967296, epc := av }).toList (by rw [Array.length_toList, stA_size D10.o.len]; rfl)
  rw [Array.toArray_toList] at o5
  have hlow := D10.low
  go_wp2_with (first
    | (with_reducible refine wpList_load_row rfl 25 (.tmp 13) rfl W5.heap.size rfl 25 (stA { s with pc := (s.pc + 4) % 4294967296, epc := av }) (0, 0) _ o0 Try.underlying25 rfl hi0 ?_)
    | (with_reducible refine wpList_store_mid rfl 25 (.tmp 6) (.tmp 209) rfl (w.heap.size + 1) 0 (stA { s with pc := (s.pc + 4) % 4294967296, epc := av }) rfl rfl T6 hi0 (stA_one _) ?_)
    | exact bodyPost_ret (results_cell_row rfl _ _ (w.heap.size + 1) 25 (stA { s with pc := (s.pc + 4) % 4294967296, epc := av }) (0, 0) _ rfl o5 Try.underlying25 rfl hi0) rfl ⟨rfl, below_setCells _ 0 hlow (by omega)⟩)
set_option maxRecDepth 100000 in
set_option maxHeartbeats 1000000 in
theorem rDone27_1 {s : St} (hs : s.ok) {x : Int} (hok : okL x = true) (h0 : 0 ≤ x) (h1 : x < 4294967296) {ka kb : Nat} (hka : ka < 8) (hkb : kb < 8) (bn : -32768 ≤ (1 : Int) ∧ (1 : Int) ≤ 32767) (e1 : dOp x = 27) (e2 : dA x = ka) (e3 : dB x = kb) (e4 : dN x = 1)
    {av bv : Int} (ra : u32? av) (rb : u32? bv) (ea : reg s ka = av) (eb : reg s kb = bv) {pk : Wt} (hpl : planL s x = pk) (hk : (pk.kind == 1) = false) {told : Int} (w : World) :
    Calls Try.prog 30 #[.agg (stA s), .int .u32 x, .int .u32 told] w fun e w' => e = .returned (.agg (stA { s with pc := (s.pc + 4) % 4294967296, cause := av })) ∧ Below w.heap.size w w' := by
  have hall := And.intro bn (And.intro ra rb)
  clear hall
  have hpc := hs.pc
  obtain ⟨pc0, pc1⟩ := hpc
  obtain ⟨K1, K2, Hb, hsz⟩ := cells2 w (stA s) (stA zst) 25 25
  have hz := zst_lit
  have hi := hi25 hs.len
  have hP := fun W => rPlan hs h0 h1 W
  rw [hpl] at hP
  clear hpl
  have HP := Lib.hid hP
  clear hP
  go_enter Try.func30, Try.ntmps30
  go_upto_region 1 with (fail)
  generalize (w.alloc _).alloc _ = W at *
  clear hz
  have A : StAt W w.heap.size s := ⟨K1, hs.len⟩
  have A' : W.heap[w.heap.size]? = some (.cells (stA s) 25 (0, 0)) := A.row
  go_wp2_with (with_reducible refine wpList_load_row rfl 25 (.tmp 3) rfl w.heap.size rfl 25 (stA s) (0, 0) _ A' Try.underlying25 rfl hi ?_)
  refine (HP.out W).mono ?_
  rintro e W1 ⟨rfl, hb1⟩
  obtain ⟨KP, hbp, sp⟩ := cells1 W1 (wtA pk) 42
  have B1 := Hb.trans (hb1.mono Hb.size)
  have A1 := A.below hb1 A.lt
  have K21 := K2.below hb1 K2.lt
  go_wp2_with fail
  unfold wtA at KP hbp
  generalize W1.alloc _ = W2 at *
  clear KP
  refine (rDecode_in hok h0 h1 W2).mono ?_
  rintro e W3 ⟨rfl, hb3⟩
  rw [e1, e2, e3, e4]
  clear hok h0 h1 e1 e2 e3 e4
  have B2 := B1.trans (hbp.mono B1.size)
  have A2 := A1.below hbp A1.lt
  have K22 := K21.below hbp K21.lt
  have A3 := A2.below hb3 A2.lt
  have K23 := K22.below hb3 K22.lt
  have B3 := B2.trans (hb3.mono B2.size)
  obtain ⟨Ki, hbi, si⟩ := cells1 W3 (instA 27 ka kb 1) 54
  have A4 := A3.below hbi A3.lt
  have K24 := K23.below hbi K23.lt
  have B4 := B3.trans (hbi.mono B3.size)
  have l3 := K23.lt
  clear A A' A1 A2 A3 K1 K2 K21 K22 K23 B1 B2 B3 hb1 hb3 hbp hbi Hb hsz sp si
  unfold instA at Ki A4 K24 B4
  obtain ⟨W4, eW4⟩ : ∃ W4, W3.alloc (.cells #[.int .i64 27, .int .i64 ka, .int .i64 kb, .int .i64 1] 54) = W4 := ⟨_, rfl⟩
  rw [eW4] at Ki A4 K24 B4
  have i0 := (Ki.cell 0).trans (show _ = some (Value.int .i64 27) from rfl)
  have i1 := (Ki.cell 1).trans (show _ = some (Value.int .i64 ka) from rfl)
  have i2 := (Ki.cell 2).trans (show _ = some (Value.int .i64 kb) from rfl)
  have r1 := A4.reg (k := ka) hka
  have r2 := A4.reg (k := kb) hkb
  rw [ea] at r1
  rw [eb] at r2
  have HW := Lib.hid eW4
  clear eW4
  go_upto_region 6 with (fail)
  rw [HW.out]
  have x1 : (0 : Int) ≤ (ka : Int) := by omega
  have x2 : (ka : Int) < 8 := by omega
  have x3 : (0 : Int) ≤ (kb : Int) := by omega
  have x4 : (kb : Int) < 8 := by omega
  refine wp_region_still_lit (by kernel_rfl) (by kernel_rfl) ?_
  repeat still_step
  refine wpStill_nil ?_
  change Exit.then _ _ .normal _ W4.drew
  clear x1 x2 x3 x4 r1 r2 HW i0 i1 i2
  have A5 : StAt W4.drew w.heap.size s := ⟨A4.row, hs.len⟩
  have B5 : Below w.heap.size w W4.drew := B4.drew
  have Ki5 : Cells W4.drew W3.heap.size 54 (instA 27 ka kb 1) := Ki
  have K25 : Cells W4.drew (w.heap.size + 1) 25 (stA zst) := K24
  clear A4 B4 Ki K24
  generalize W4.drew = W5 at *
  have A5' : W5.heap[w.heap.size]? = some (.cells (stA s) 25 (0, 0)) := A5.row
  obtain ⟨Tz, W6, e6, Ko, hb6, s6⟩ := row_own W5 25 (stA zst) (stA s) (by rw [stA_size hs.len]; rfl)
  have A6 := A5.below hb6 A5.lt
  have O6 : StAt W6 W5.heap.size s := ⟨Ko, hs.len⟩
  have p8 := A6.pc
  have o8 := O6.pc
  have f8 := O6.fz 8
  have hz := zst_lit
  go_wp2_with (first
    | (with_reducible refine wpList_load_row rfl 25 (.tmp 3) rfl w.heap.size rfl 25 (stA s) (0, 0) _ A5' Try.underlying25 rfl hi ?_)
    | (with_reducible refine wpList_store_mid rfl 25 (.tmp 13) (.tmp 42) rfl W5.heap.size 0 (stA s) rfl rfl Tz hi (stA_one _) ?_))
  clear hz
  refine (rAdd _ _ _ pc0 pc1 (by omega) (by omega)).mono ?_
  rintro e w' ⟨rfl, rfl⟩
  have D7 : DnAt w (W6.setCell ⟨W5.heap.size, 8, none⟩ (.int .u32 ((s.pc + 4) % 4294967296))) W3.heap.size W5.heap.size s { s with pc := (s.pc + 4) % 4294967296 } 27 ka kb 1 :=
    ⟨A6.other _ (by have := A5.lt; simp; omega), (K25.below hb6 K25.lt).other _ (by have := K25.lt; simp; omega), (Ki5.below hb6 Ki5.lt).other _ (by have := Ki5.lt; simp; omega), O6.set_pc _, (B5.trans (hb6.mono B5.size)).setCell (p := ⟨W5.heap.size, 8, none⟩) B5.size _, by omega, Ki5.lt⟩
  clear A6 p8 hb6 s6 Tz e6 A5 A5' B5 Ki5 K25
  go_upto_region 9 with (fail)
  clear O6 o8 f8 Ko
  generalize World.setCell _ _ _ = W7 at *
  have i3 := (D7.i.cell 3).trans (show _ = some (Value.int .i64 1) from rfl)
  have oc := D7.o.cause
  have of := D7.o.fz 10
  go_upto_region 38 with (fail)
  have D10 := D7.setO (D7.o.set_cause av)
  clear D7 i3 oc of
  generalize World.setCell _ _ _ = W10 at *
  have o0 : W10.heap[W5.heap.size]? = some (.cells (stA { s with pc := (s.pc + 4) % 4294967296, cause := av }) 25 (0, 0)) := D10.o.row
  have T6 : W10.there (w.heap.size + 1) 0 (stA { s with pc := (s.pc + 4) % 4294967296, cause := av }).size := by rw [stA_size D10.o.len]; exact D10.res.there
  have hi0 := hi25 D10.o.len
  have o5 := D10.res.setAll (stA { s with pc := (s.pc + 4) % 4294967296, cause := av }).toList (by rw [Array.length_toList, stA_size D10.o.len]; rfl)
  rw [Array.toArray_toList] at o5
  have hlow := D10.low
  go_wp2_with (first
    | (with_reducible refine wpList_load_row rfl 25 (.tmp 13) rfl W5.heap.size rfl 25 (stA { s with pc := (s.pc + 4) % 4294967296, cause := av }) (0, 0) _ o0 Try.underlying25 rfl hi0 ?_)
    | (with_reducible refine wpList_store_mid rfl 25 (.tmp 6) (.tmp 209) rfl (w.heap.size + 1) 0 (stA { s with pc := (s.pc + 4) % 4294967296, cause := av }) rfl rfl T6 hi0 (stA_one _) ?_)
    | exact bodyPost_ret (results_cell_row rfl _ _ (w.heap.size + 1) 25 (stA { s with pc := (s.pc + 4) % 4294967296, cause := av }) (0, 0) _ rfl o5 Try.underlying25 rfl hi0) rfl ⟨rfl, below_setCells _ 0 hlow (by omega)⟩)
set_option maxRecDepth 100000 in
set_option maxHeartbeats 1000000 in
theorem rDone27_2 {s : St} (hs : s.ok) {x : Int} (hok : okL x = true) (h0 : 0 ≤ x) (h1 : x < 4294967296) {ka kb : Nat} (hka : ka < 8) (hkb : kb < 8) (bn : -32768 ≤ (2 : Int) ∧ (2 : Int) ≤ 32767) (e1 : dOp x = 27) (e2 : dA x = ka) (e3 : dB x = kb) (e4 : dN x = 2)
    {av bv : Int} (ra : u32? av) (rb : u32? bv) (ea : reg s ka = av) (eb : reg s kb = bv) {pk : Wt} (hpl : planL s x = pk) (hk : (pk.kind == 1) = false) {told : Int} (w : World) :
    Calls Try.prog 30 #[.agg (stA s), .int .u32 x, .int .u32 told] w fun e w' => e = .returned (.agg (stA { s with pc := (s.pc + 4) % 4294967296, vec := av })) ∧ Below w.heap.size w w' := by
  have hall := And.intro bn (And.intro ra rb)
  clear hall
  have hpc := hs.pc
  obtain ⟨pc0, pc1⟩ := hpc
  obtain ⟨K1, K2, Hb, hsz⟩ := cells2 w (stA s) (stA zst) 25 25
  have hz := zst_lit
  have hi := hi25 hs.len
  have hP := fun W => rPlan hs h0 h1 W
  rw [hpl] at hP
  clear hpl
  have HP := Lib.hid hP
  clear hP
  go_enter Try.func30, Try.ntmps30
  go_upto_region 1 with (fail)
  generalize (w.alloc _).alloc _ = W at *
  clear hz
  have A : StAt W w.heap.size s := ⟨K1, hs.len⟩
  have A' : W.heap[w.heap.size]? = some (.cells (stA s) 25 (0, 0)) := A.row
  go_wp2_with (with_reducible refine wpList_load_row rfl 25 (.tmp 3) rfl w.heap.size rfl 25 (stA s) (0, 0) _ A' Try.underlying25 rfl hi ?_)
  refine (HP.out W).mono ?_
  rintro e W1 ⟨rfl, hb1⟩
  obtain ⟨KP, hbp, sp⟩ := cells1 W1 (wtA pk) 42
  have B1 := Hb.trans (hb1.mono Hb.size)
  have A1 := A.below hb1 A.lt
  have K21 := K2.below hb1 K2.lt
  go_wp2_with fail
  unfold wtA at KP hbp
  generalize W1.alloc _ = W2 at *
  clear KP
  refine (rDecode_in hok h0 h1 W2).mono ?_
  rintro e W3 ⟨rfl, hb3⟩
  rw [e1, e2, e3, e4]
  clear hok h0 h1 e1 e2 e3 e4
  have B2 := B1.trans (hbp.mono B1.size)
  have A2 := A1.below hbp A1.lt
  have K22 := K21.below hbp K21.lt
  have A3 := A2.below hb3 A2.lt
  have K23 := K22.below hb3 K22.lt
  have B3 := B2.trans (hb3.mono B2.size)
  obtain ⟨Ki, hbi, si⟩ := cells1 W3 (instA 27 ka kb 2) 54
  have A4 := A3.below hbi A3.lt
  have K24 := K23.below hbi K23.lt
  have B4 := B3.trans (hbi.mono B3.size)
  have l3 := K23.lt
  clear A A' A1 A2 A3 K1 K2 K21 K22 K23 B1 B2 B3 hb1 hb3 hbp hbi Hb hsz sp si
  unfold instA at Ki A4 K24 B4
  obtain ⟨W4, eW4⟩ : ∃ W4, W3.alloc (.cells #[.int .i64 27, .int .i64 ka, .int .i64 kb, .int .i64 2] 54) = W4 := ⟨_, rfl⟩
  rw [eW4] at Ki A4 K24 B4
  have i0 := (Ki.cell 0).trans (show _ = some (Value.int .i64 27) from rfl)
  have i1 := (Ki.cell 1).trans (show _ = some (Value.int .i64 ka) from rfl)
  have i2 := (Ki.cell 2).trans (show _ = some (Value.int .i64 kb) from rfl)
  have r1 := A4.reg (k := ka) hka
  have r2 := A4.reg (k := kb) hkb
  rw [ea] at r1
  rw [eb] at r2
  have HW := Lib.hid eW4
  clear eW4
  go_upto_region 6 with (fail)
  rw [HW.out]
  have x1 : (0 : Int) ≤ (ka : Int) := by omega
  have x2 : (ka : Int) < 8 := by omega
  have x3 : (0 : Int) ≤ (kb : Int) := by omega
  have x4 : (kb : Int) < 8 := by omega
  refine wp_region_still_lit (by kernel_rfl) (by kernel_rfl) ?_
  repeat still_step
  refine wpStill_nil ?_
  change Exit.then _ _ .normal _ W4.drew
  clear x1 x2 x3 x4 r1 r2 HW i0 i1 i2
  have A5 : StAt W4.drew w.heap.size s := ⟨A4.row, hs.len⟩
  have B5 : Below w.heap.size w W4.drew := B4.drew
  have Ki5 : Cells W4.drew W3.heap.size 54 (instA 27 ka kb 2) := Ki
  have K25 : Cells W4.drew (w.heap.size + 1) 25 (stA zst) := K24
  clear A4 B4 Ki K24
  generalize W4.drew = W5 at *
  have A5' : W5.heap[w.heap.size]? = some (.cells (stA s) 25 (0, 0)) := A5.row
  obtain ⟨Tz, W6, e6, Ko, hb6, s6⟩ := row_own W5 25 (stA zst) (stA s) (by rw [stA_size hs.len]; rfl)
  have A6 := A5.below hb6 A5.lt
  have O6 : StAt W6 W5.heap.size s := ⟨Ko, hs.len⟩
  have p8 := A6.pc
  have o8 := O6.pc
  have f8 := O6.fz 8
  have hz := zst_lit
  go_wp2_with (first
    | (with_reducible refine wpList_load_row rfl 25 (.tmp 3) rfl w.heap.size rfl 25 (stA s) (0, 0) _ A5' Try.underlying25 rfl hi ?_)
    | (with_reducible refine wpList_store_mid rfl 25 (.tmp 13) (.tmp 42) rfl W5.heap.size 0 (stA s) rfl rfl Tz hi (stA_one _) ?_))
  clear hz
  refine (rAdd _ _ _ pc0 pc1 (by omega) (by omega)).mono ?_
  rintro e w' ⟨rfl, rfl⟩
  have D7 : DnAt w (W6.setCell ⟨W5.heap.size, 8, none⟩ (.int .u32 ((s.pc + 4) % 4294967296))) W3.heap.size W5.heap.size s { s with pc := (s.pc + 4) % 4294967296 } 27 ka kb 2 :=
    ⟨A6.other _ (by have := A5.lt; simp; omega), (K25.below hb6 K25.lt).other _ (by have := K25.lt; simp; omega), (Ki5.below hb6 Ki5.lt).other _ (by have := Ki5.lt; simp; omega), O6.set_pc _, (B5.trans (hb6.mono B5.size)).setCell (p := ⟨W5.heap.size, 8, none⟩) B5.size _, by omega, Ki5.lt⟩
  clear A6 p8 hb6 s6 Tz e6 A5 A5' B5 Ki5 K25
  go_upto_region 9 with (fail)
  clear O6 o8 f8 Ko
  generalize World.setCell _ _ _ = W7 at *
  have i3 := (D7.i.cell 3).trans (show _ = some (Value.int .i64 2) from rfl)
  have oc := D7.o.vec
  have of := D7.o.fz 11
  go_upto_region 38 with (fail)
  have D10 := D7.setO (D7.o.set_vec av)
  clear D7 i3 oc of
  generalize World.setCell _ _ _ = W10 at *
  have o0 : W10.heap[W5.heap.size]? = some (.cells (stA { s with pc := (s.pc + 4) % 4294967296, vec := av }) 25 (0, 0)) := D10.o.row
  have T6 : W10.there (w.heap.size + 1) 0 (stA { s with pc := (s.pc + 4) % 4294967296, vec := av }).size := by rw [stA_size D10.o.len]; exact D10.res.there
  have hi0 := hi25 D10.o.len
  have o5 := D10.res.setAll (stA { s with pc := (s.pc + 4) % 4294967296, vec := av }).toList (by rw [Array.length_toList, stA_size D10.o.len]; rfl)
  rw [Array.toArray_toList] at o5
  have hlow := D10.low
  go_wp2_with (first
    | (with_reducible refine wpList_load_row rfl 25 (.tmp 13) rfl W5.heap.size rfl 25 (stA { s with pc := (s.pc + 4) % 4294967296, vec := av }) (0, 0) _ o0 Try.underlying25 rfl hi0 ?_)
    | (with_reducible refine wpList_store_mid rfl 25 (.tmp 6) (.tmp 209) rfl (w.heap.size + 1) 0 (stA { s with pc := (s.pc + 4) % 4294967296, vec := av }) rfl rfl T6 hi0 (stA_one _) ?_)
    | exact bodyPost_ret (results_cell_row rfl _ _ (w.heap.size + 1) 25 (stA { s with pc := (s.pc + 4) % 4294967296, vec := av }) (0, 0) _ rfl o5 Try.underlying25 rfl hi0) rfl ⟨rfl, below_setCells _ 0 hlow (by omega)⟩)
set_option maxRecDepth 100000 in
set_option maxHeartbeats 1000000 in
theorem rDone27_3 {s : St} (hs : s.ok) {x : Int} (hok : okL x = true) (h0 : 0 ≤ x) (h1 : x < 4294967296) {ka kb : Nat} (hka : ka < 8) (hkb : kb < 8) (bn : -32768 ≤ (3 : Int) ∧ (3 : Int) ≤ 32767) (e1 : dOp x = 27) (e2 : dA x = ka) (e3 : dB x = kb) (e4 : dN x = 3)
    {av bv : Int} (ra : u32? av) (rb : u32? bv) (ea : reg s ka = av) (eb : reg s kb = bv) {pk : Wt} (hpl : planL s x = pk) (hk : (pk.kind == 1) = false) {told : Int} (w : World) :
    Calls Try.prog 30 #[.agg (stA s), .int .u32 x, .int .u32 told] w fun e w' => e = .returned (.agg (stA { s with pc := (s.pc + 4) % 4294967296, table := av })) ∧ Below w.heap.size w w' := by
  have hall := And.intro bn (And.intro ra rb)
  clear hall
  have hpc := hs.pc
  obtain ⟨pc0, pc1⟩ := hpc
  obtain ⟨K1, K2, Hb, hsz⟩ := cells2 w (stA s) (stA zst) 25 25
  have hz := zst_lit
  have hi := hi25 hs.len
  have hP := fun W => rPlan hs h0 h1 W
  rw [hpl] at hP
  clear hpl
  have HP := Lib.hid hP
  clear hP
  go_enter Try.func30, Try.ntmps30
  go_upto_region 1 with (fail)
  generalize (w.alloc _).alloc _ = W at *
  clear hz
  have A : StAt W w.heap.size s := ⟨K1, hs.len⟩
  have A' : W.heap[w.heap.size]? = some (.cells (stA s) 25 (0, 0)) := A.row
  go_wp2_with (with_reducible refine wpList_load_row rfl 25 (.tmp 3) rfl w.heap.size rfl 25 (stA s) (0, 0) _ A' Try.underlying25 rfl hi ?_)
  refine (HP.out W).mono ?_
  rintro e W1 ⟨rfl, hb1⟩
  obtain ⟨KP, hbp, sp⟩ := cells1 W1 (wtA pk) 42
  have B1 := Hb.trans (hb1.mono Hb.size)
  have A1 := A.below hb1 A.lt
  have K21 := K2.below hb1 K2.lt
  go_wp2_with fail
  unfold wtA at KP hbp
  generalize W1.alloc _ = W2 at *
  clear KP
  refine (rDecode_in hok h0 h1 W2).mono ?_
  rintro e W3 ⟨rfl, hb3⟩
  rw [e1, e2, e3, e4]
  clear hok h0 h1 e1 e2 e3 e4
  have B2 := B1.trans (hbp.mono B1.size)
  have A2 := A1.below hbp A1.lt
  have K22 := K21.below hbp K21.lt
  have A3 := A2.below hb3 A2.lt
  have K23 := K22.below hb3 K22.lt
  have B3 := B2.trans (hb3.mono B2.size)
  obtain ⟨Ki, hbi, si⟩ := cells1 W3 (instA 27 ka kb 3) 54
  have A4 := A3.below hbi A3.lt
  have K24 := K23.below hbi K23.lt
  have B4 := B3.trans (hbi.mono B3.size)
  have l3 := K23.lt
  clear A A' A1 A2 A3 K1 K2 K21 K22 K23 B1 B2 B3 hb1 hb3 hbp hbi Hb hsz sp si
  unfold instA at Ki A4 K24 B4
  obtain ⟨W4, eW4⟩ : ∃ W4, W3.alloc (.cells #[.int .i64 27, .int .i64 ka, .int .i64 kb, .int .i64 3] 54) = W4 := ⟨_, rfl⟩
  rw [eW4] at Ki A4 K24 B4
  have i0 := (Ki.cell 0).trans (show _ = some (Value.int .i64 27) from rfl)
  have i1 := (Ki.cell 1).trans (show _ = some (Value.int .i64 ka) from rfl)
  have i2 := (Ki.cell 2).trans (show _ = some (Value.int .i64 kb) from rfl)
  have r1 := A4.reg (k := ka) hka
  have r2 := A4.reg (k := kb) hkb
  rw [ea] at r1
  rw [eb] at r2
  have HW := Lib.hid eW4
  clear eW4
  go_upto_region 6 with (fail)
  rw [HW.out]
  have x1 : (0 : Int) ≤ (ka : Int) := by omega
  have x2 : (ka : Int) < 8 := by omega
  have x3 : (0 : Int) ≤ (kb : Int) := by omega
  have x4 : (kb : Int) < 8 := by omega
  refine wp_region_still_lit (by kernel_rfl) (by kernel_rfl) ?_
  repeat still_step
  refine wpStill_nil ?_
  change Exit.then _ _ .normal _ W4.drew
  clear x1 x2 x3 x4 r1 r2 HW i0 i1 i2
  have A5 : StAt W4.drew w.heap.size s := ⟨A4.row, hs.len⟩
  have B5 : Below w.heap.size w W4.drew := B4.drew
  have Ki5 : Cells W4.drew W3.heap.size 54 (instA 27 ka kb 3) := Ki
  have K25 : Cells W4.drew (w.heap.size + 1) 25 (stA zst) := K24
  clear A4 B4 Ki K24
  generalize W4.drew = W5 at *
  have A5' : W5.heap[w.heap.size]? = some (.cells (stA s) 25 (0, 0)) := A5.row
  obtain ⟨Tz, W6, e6, Ko, hb6, s6⟩ := row_own W5 25 (stA zst) (stA s) (by rw [stA_size hs.len]; rfl)
  have A6 := A5.below hb6 A5.lt
  have O6 : StAt W6 W5.heap.size s := ⟨Ko, hs.len⟩
  have p8 := A6.pc
  have o8 := O6.pc
  have f8 := O6.fz 8
  have hz := zst_lit
  go_wp2_with (first
    | (with_reducible refine wpList_load_row rfl 25 (.tmp 3) rfl w.heap.size rfl 25 (stA s) (0, 0) _ A5' Try.underlying25 rfl hi ?_)
    | (with_reducible refine wpList_store_mid rfl 25 (.tmp 13) (.tmp 42) rfl W5.heap.size 0 (stA s) rfl rfl Tz hi (stA_one _) ?_))
  clear hz
  refine (rAdd _ _ _ pc0 pc1 (by omega) (by omega)).mono ?_
  rintro e w' ⟨rfl, rfl⟩
  have D7 : DnAt w (W6.setCell ⟨W5.heap.size, 8, none⟩ (.int .u32 ((s.pc + 4) % 4294967296))) W3.heap.size W5.heap.size s { s with pc := (s.pc + 4) % 4294967296 } 27 ka kb 3 :=
    ⟨A6.other _ (by have := A5.lt; simp; omega), (K25.below hb6 K25.lt).other _ (by have := K25.lt; simp; omega), (Ki5.below hb6 Ki5.lt).other _ (by have := Ki5.lt; simp; omega), O6.set_pc _, (B5.trans (hb6.mono B5.size)).setCell (p := ⟨W5.heap.size, 8, none⟩) B5.size _, by omega, Ki5.lt⟩
  clear A6 p8 hb6 s6 Tz e6 A5 A5' B5 Ki5 K25
  go_upto_region 9 with (fail)
  clear O6 o8 f8 Ko
  generalize World.setCell _ _ _ = W7 at *
  have i3 := (D7.i.cell 3).trans (show _ = some (Value.int .i64 3) from rfl)
  have oc := D7.o.table
  have of := D7.o.fz 12
  go_upto_region 38 with (fail)
  have D10 := D7.setO (D7.o.set_table av)
  clear D7 i3 oc of
  generalize World.setCell _ _ _ = W10 at *
  have o0 : W10.heap[W5.heap.size]? = some (.cells (stA { s with pc := (s.pc + 4) % 4294967296, table := av }) 25 (0, 0)) := D10.o.row
  have T6 : W10.there (w.heap.size + 1) 0 (stA { s with pc := (s.pc + 4) % 4294967296, table := av }).size := by rw [stA_size D10.o.len]; exact D10.res.there
  have hi0 := hi25 D10.o.len
  have o5 := D10.res.setAll (stA { s with pc := (s.pc + 4) % 4294967296, table := av }).toList (by rw [Array.length_toList, stA_size D10.o.len]; rfl)
  rw [Array.toArray_toList] at o5
  have hlow := D10.low
  go_wp2_with (first
    | (with_reducible refine wpList_load_row rfl 25 (.tmp 13) rfl W5.heap.size rfl 25 (stA { s with pc := (s.pc + 4) % 4294967296, table := av }) (0, 0) _ o0 Try.underlying25 rfl hi0 ?_)
    | (with_reducible refine wpList_store_mid rfl 25 (.tmp 6) (.tmp 209) rfl (w.heap.size + 1) 0 (stA { s with pc := (s.pc + 4) % 4294967296, table := av }) rfl rfl T6 hi0 (stA_one _) ?_)
    | exact bodyPost_ret (results_cell_row rfl _ _ (w.heap.size + 1) 25 (stA { s with pc := (s.pc + 4) % 4294967296, table := av }) (0, 0) _ rfl o5 Try.underlying25 rfl hi0) rfl ⟨rfl, below_setCells _ 0 hlow (by omega)⟩)
set_option maxRecDepth 100000 in
set_option maxHeartbeats 1000000 in
theorem rDone27_4 {s : St} (hs : s.ok) {x : Int} (hok : okL x = true) (h0 : 0 ≤ x) (h1 : x < 4294967296) {ka kb : Nat} (hka : ka < 8) (hkb : kb < 8) (bn : -32768 ≤ (4 : Int) ∧ (4 : Int) ≤ 32767) (e1 : dOp x = 27) (e2 : dA x = ka) (e3 : dB x = kb) (e4 : dN x = 4)
    {av bv : Int} (ra : u32? av) (rb : u32? bv) (ea : reg s ka = av) (eb : reg s kb = bv) {pk : Wt} (hpl : planL s x = pk) (hk : (pk.kind == 1) = false) {told : Int} (w : World) :
    Calls Try.prog 30 #[.agg (stA s), .int .u32 x, .int .u32 told] w fun e w' => e = .returned (.agg (stA { s with pc := (s.pc + 4) % 4294967296, prev := (av / 2 % 2 == 1), en := (av / 4 % 2 == 1) })) ∧ Below w.heap.size w w' := by
  have hall := And.intro bn (And.intro ra rb)
  clear hall
  have hpc := hs.pc
  obtain ⟨pc0, pc1⟩ := hpc
  obtain ⟨K1, K2, Hb, hsz⟩ := cells2 w (stA s) (stA zst) 25 25
  have hz := zst_lit
  have hi := hi25 hs.len
  have hP := fun W => rPlan hs h0 h1 W
  rw [hpl] at hP
  clear hpl
  have HP := Lib.hid hP
  clear hP
  go_enter Try.func30, Try.ntmps30
  go_upto_region 1 with (fail)
  generalize (w.alloc _).alloc _ = W at *
  clear hz
  have A : StAt W w.heap.size s := ⟨K1, hs.len⟩
  have A' : W.heap[w.heap.size]? = some (.cells (stA s) 25 (0, 0)) := A.row
  go_wp2_with (with_reducible refine wpList_load_row rfl 25 (.tmp 3) rfl w.heap.size rfl 25 (stA s) (0, 0) _ A' Try.underlying25 rfl hi ?_)
  refine (HP.out W).mono ?_
  rintro e W1 ⟨rfl, hb1⟩
  obtain ⟨KP, hbp, sp⟩ := cells1 W1 (wtA pk) 42
  have B1 := Hb.trans (hb1.mono Hb.size)
  have A1 := A.below hb1 A.lt
  have K21 := K2.below hb1 K2.lt
  go_wp2_with fail
  unfold wtA at KP hbp
  generalize W1.alloc _ = W2 at *
  clear KP
  refine (rDecode_in hok h0 h1 W2).mono ?_
  rintro e W3 ⟨rfl, hb3⟩
  rw [e1, e2, e3, e4]
  clear hok h0 h1 e1 e2 e3 e4
  have B2 := B1.trans (hbp.mono B1.size)
  have A2 := A1.below hbp A1.lt
  have K22 := K21.below hbp K21.lt
  have A3 := A2.below hb3 A2.lt
  have K23 := K22.below hb3 K22.lt
  have B3 := B2.trans (hb3.mono B2.size)
  obtain ⟨Ki, hbi, si⟩ := cells1 W3 (instA 27 ka kb 4) 54
  have A4 := A3.below hbi A3.lt
  have K24 := K23.below hbi K23.lt
  have B4 := B3.trans (hbi.mono B3.size)
  have l3 := K23.lt
  clear A A' A1 A2 A3 K1 K2 K21 K22 K23 B1 B2 B3 hb1 hb3 hbp hbi Hb hsz sp si
  unfold instA at Ki A4 K24 B4
  obtain ⟨W4, eW4⟩ : ∃ W4, W3.alloc (.cells #[.int .i64 27, .int .i64 ka, .int .i64 kb, .int .i64 4] 54) = W4 := ⟨_, rfl⟩
  rw [eW4] at Ki A4 K24 B4
  have i0 := (Ki.cell 0).trans (show _ = some (Value.int .i64 27) from rfl)
  have i1 := (Ki.cell 1).trans (show _ = some (Value.int .i64 ka) from rfl)
  have i2 := (Ki.cell 2).trans (show _ = some (Value.int .i64 kb) from rfl)
  have r1 := A4.reg (k := ka) hka
  have r2 := A4.reg (k := kb) hkb
  rw [ea] at r1
  rw [eb] at r2
  have HW := Lib.hid eW4
  clear eW4
  go_upto_region 6 with (fail)
  rw [HW.out]
  have x1 : (0 : Int) ≤ (ka : Int) := by omega
  have x2 : (ka : Int) < 8 := by omega
  have x3 : (0 : Int) ≤ (kb : Int) := by omega
  have x4 : (kb : Int) < 8 := by omega
  refine wp_region_still_lit (by kernel_rfl) (by kernel_rfl) ?_
  repeat still_step
  refine wpStill_nil ?_
  change Exit.then _ _ .normal _ W4.drew
  clear x1 x2 x3 x4 r1 r2 HW i0 i1 i2
  have A5 : StAt W4.drew w.heap.size s := ⟨A4.row, hs.len⟩
  have B5 : Below w.heap.size w W4.drew := B4.drew
  have Ki5 : Cells W4.drew W3.heap.size 54 (instA 27 ka kb 4) := Ki
  have K25 : Cells W4.drew (w.heap.size + 1) 25 (stA zst) := K24
  clear A4 B4 Ki K24
  generalize W4.drew = W5 at *
  have A5' : W5.heap[w.heap.size]? = some (.cells (stA s) 25 (0, 0)) := A5.row
  obtain ⟨Tz, W6, e6, Ko, hb6, s6⟩ := row_own W5 25 (stA zst) (stA s) (by rw [stA_size hs.len]; rfl)
  have A6 := A5.below hb6 A5.lt
  have O6 : StAt W6 W5.heap.size s := ⟨Ko, hs.len⟩
  have p8 := A6.pc
  have o8 := O6.pc
  have f8 := O6.fz 8
  have hz := zst_lit
  go_wp2_with (first
    | (with_reducible refine wpList_load_row rfl 25 (.tmp 3) rfl w.heap.size rfl 25 (stA s) (0, 0) _ A5' Try.underlying25 rfl hi ?_)
    | (with_reducible refine wpList_store_mid rfl 25 (.tmp 13) (.tmp 42) rfl W5.heap.size 0 (stA s) rfl rfl Tz hi (stA_one _) ?_))
  clear hz
  refine (rAdd _ _ _ pc0 pc1 (by omega) (by omega)).mono ?_
  rintro e w' ⟨rfl, rfl⟩
  have D7 : DnAt w (W6.setCell ⟨W5.heap.size, 8, none⟩ (.int .u32 ((s.pc + 4) % 4294967296))) W3.heap.size W5.heap.size s { s with pc := (s.pc + 4) % 4294967296 } 27 ka kb 4 :=
    ⟨A6.other _ (by have := A5.lt; simp; omega), (K25.below hb6 K25.lt).other _ (by have := K25.lt; simp; omega), (Ki5.below hb6 Ki5.lt).other _ (by have := Ki5.lt; simp; omega), O6.set_pc _, (B5.trans (hb6.mono B5.size)).setCell (p := ⟨W5.heap.size, 8, none⟩) B5.size _, by omega, Ki5.lt⟩
  clear A6 p8 hb6 s6 Tz e6 A5 A5' B5 Ki5 K25
  go_upto_region 9 with (fail)
  clear O6 o8 f8 Ko
  generalize World.setCell _ _ _ = W7 at *
  have i3 := (D7.i.cell 3).trans (show _ = some (Value.int .i64 4) from rfl)
  have ra0 := ra.1
  have ra1 := ra.2
  have oc := D7.o.prev
  have of := D7.o.fz 14
  have oc2 := D7.o.en
  have of2 := D7.o.fz 15
  go_upto_region 38 with (fail)
  have D9 := D7.setO (D7.o.set_prev (av / 2 % 2 == 1))
  have D10 := D9.setO (D9.o.set_en (av / 4 % 2 == 1))
  clear D7 D9 i3 oc of oc2 of2
  generalize World.setCell _ _ _ = W10 at *
  have o0 : W10.heap[W5.heap.size]? = some (.cells (stA { s with pc := (s.pc + 4) % 4294967296, prev := (av / 2 % 2 == 1), en := (av / 4 % 2 == 1) }) 25 (0, 0)) := D10.o.row
  have T6 : W10.there (w.heap.size + 1) 0 (stA { s with pc := (s.pc + 4) % 4294967296, prev := (av / 2 % 2 == 1), en := (av / 4 % 2 == 1) }).size := by rw [stA_size D10.o.len]; exact D10.res.there
  have hi0 := hi25 D10.o.len
  have o5 := D10.res.setAll (stA { s with pc := (s.pc + 4) % 4294967296, prev := (av / 2 % 2 == 1), en := (av / 4 % 2 == 1) }).toList (by rw [Array.length_toList, stA_size D10.o.len]; rfl)
  rw [Array.toArray_toList] at o5
  have hlow := D10.low
  go_wp2_with (first
    | (with_reducible refine wpList_load_row rfl 25 (.tmp 13) rfl W5.heap.size rfl 25 (stA { s with pc := (s.pc + 4) % 4294967296, prev := (av / 2 % 2 == 1), en := (av / 4 % 2 == 1) }) (0, 0) _ o0 Try.underlying25 rfl hi0 ?_)
    | (with_reducible refine wpList_store_mid rfl 25 (.tmp 6) (.tmp 209) rfl (w.heap.size + 1) 0 (stA { s with pc := (s.pc + 4) % 4294967296, prev := (av / 2 % 2 == 1), en := (av / 4 % 2 == 1) }) rfl rfl T6 hi0 (stA_one _) ?_)
    | exact bodyPost_ret (results_cell_row rfl _ _ (w.heap.size + 1) 25 (stA { s with pc := (s.pc + 4) % 4294967296, prev := (av / 2 % 2 == 1), en := (av / 4 % 2 == 1) }) (0, 0) _ rfl o5 Try.underlying25 rfl hi0) rfl ⟨rfl, below_setCells _ 0 hlow (by omega)⟩)
set_option maxRecDepth 100000 in
set_option maxHeartbeats 1000000 in
theorem rDone27_5 {s : St} (hs : s.ok) {x : Int} (hok : okL x = true) (h0 : 0 ≤ x) (h1 : x < 4294967296) {ka kb : Nat} (hka : ka < 8) (hkb : kb < 8) (bn : -32768 ≤ (5 : Int) ∧ (5 : Int) ≤ 32767) (e1 : dOp x = 27) (e2 : dA x = ka) (e3 : dB x = kb) (e4 : dN x = 5)
    {av bv : Int} (ra : u32? av) (rb : u32? bv) (ea : reg s ka = av) (eb : reg s kb = bv) {pk : Wt} (hpl : planL s x = pk) (hk : (pk.kind == 1) = false) {told : Int} (w : World) :
    Calls Try.prog 30 #[.agg (stA s), .int .u32 x, .int .u32 told] w fun e w' => e = .returned (.agg (stA { s with pc := (s.pc + 4) % 4294967296 })) ∧ Below w.heap.size w w' := by
  have hall := And.intro bn (And.intro ra rb)
  clear hall
  have hpc := hs.pc
  obtain ⟨pc0, pc1⟩ := hpc
  obtain ⟨K1, K2, Hb, hsz⟩ := cells2 w (stA s) (stA zst) 25 25
  have hz := zst_lit
  have hi := hi25 hs.len
  have hP := fun W => rPlan hs h0 h1 W
  rw [hpl] at hP
  clear hpl
  have HP := Lib.hid hP
  clear hP
  go_enter Try.func30, Try.ntmps30
  go_upto_region 1 with (fail)
  generalize (w.alloc _).alloc _ = W at *
  clear hz
  have A : StAt W w.heap.size s := ⟨K1, hs.len⟩
  have A' : W.heap[w.heap.size]? = some (.cells (stA s) 25 (0, 0)) := A.row
  go_wp2_with (with_reducible refine wpList_load_row rfl 25 (.tmp 3) rfl w.heap.size rfl 25 (stA s) (0, 0) _ A' Try.underlying25 rfl hi ?_)
  refine (HP.out W).mono ?_
  rintro e W1 ⟨rfl, hb1⟩
  obtain ⟨KP, hbp, sp⟩ := cells1 W1 (wtA pk) 42
  have B1 := Hb.trans (hb1.mono Hb.size)
  have A1 := A.below hb1 A.lt
  have K21 := K2.below hb1 K2.lt
  go_wp2_with fail
  unfold wtA at KP hbp
  generalize W1.alloc _ = W2 at *
  clear KP
  refine (rDecode_in hok h0 h1 W2).mono ?_
  rintro e W3 ⟨rfl, hb3⟩
  rw [e1, e2, e3, e4]
  clear hok h0 h1 e1 e2 e3 e4
  have B2 := B1.trans (hbp.mono B1.size)
  have A2 := A1.below hbp A1.lt
  have K22 := K21.below hbp K21.lt
  have A3 := A2.below hb3 A2.lt
  have K23 := K22.below hb3 K22.lt
  have B3 := B2.trans (hb3.mono B2.size)
  obtain ⟨Ki, hbi, si⟩ := cells1 W3 (instA 27 ka kb 5) 54
  have A4 := A3.below hbi A3.lt
  have K24 := K23.below hbi K23.lt
  have B4 := B3.trans (hbi.mono B3.size)
  have l3 := K23.lt
  clear A A' A1 A2 A3 K1 K2 K21 K22 K23 B1 B2 B3 hb1 hb3 hbp hbi Hb hsz sp si
  unfold instA at Ki A4 K24 B4
  obtain ⟨W4, eW4⟩ : ∃ W4, W3.alloc (.cells #[.int .i64 27, .int .i64 ka, .int .i64 kb, .int .i64 5] 54) = W4 := ⟨_, rfl⟩
  rw [eW4] at Ki A4 K24 B4
  have i0 := (Ki.cell 0).trans (show _ = some (Value.int .i64 27) from rfl)
  have i1 := (Ki.cell 1).trans (show _ = some (Value.int .i64 ka) from rfl)
  have i2 := (Ki.cell 2).trans (show _ = some (Value.int .i64 kb) from rfl)
  have r1 := A4.reg (k := ka) hka
  have r2 := A4.reg (k := kb) hkb
  rw [ea] at r1
  rw [eb] at r2
  have HW := Lib.hid eW4
  clear eW4
  go_upto_region 6 with (fail)
  rw [HW.out]
  have x1 : (0 : Int) ≤ (ka : Int) := by omega
  have x2 : (ka : Int) < 8 := by omega
  have x3 : (0 : Int) ≤ (kb : Int) := by omega
  have x4 : (kb : Int) < 8 := by omega
  refine wp_region_still_lit (by kernel_rfl) (by kernel_rfl) ?_
  repeat still_step
  refine wpStill_nil ?_
  change Exit.then _ _ .normal _ W4.drew
  clear x1 x2 x3 x4 r1 r2 HW i0 i1 i2
  have A5 : StAt W4.drew w.heap.size s := ⟨A4.row, hs.len⟩
  have B5 : Below w.heap.size w W4.drew := B4.drew
  have Ki5 : Cells W4.drew W3.heap.size 54 (instA 27 ka kb 5) := Ki
  have K25 : Cells W4.drew (w.heap.size + 1) 25 (stA zst) := K24
  clear A4 B4 Ki K24
  generalize W4.drew = W5 at *
  have A5' : W5.heap[w.heap.size]? = some (.cells (stA s) 25 (0, 0)) := A5.row
  obtain ⟨Tz, W6, e6, Ko, hb6, s6⟩ := row_own W5 25 (stA zst) (stA s) (by rw [stA_size hs.len]; rfl)
  have A6 := A5.below hb6 A5.lt
  have O6 : StAt W6 W5.heap.size s := ⟨Ko, hs.len⟩
  have p8 := A6.pc
  have o8 := O6.pc
  have f8 := O6.fz 8
  have hz := zst_lit
  go_wp2_with (first
    | (with_reducible refine wpList_load_row rfl 25 (.tmp 3) rfl w.heap.size rfl 25 (stA s) (0, 0) _ A5' Try.underlying25 rfl hi ?_)
    | (with_reducible refine wpList_store_mid rfl 25 (.tmp 13) (.tmp 42) rfl W5.heap.size 0 (stA s) rfl rfl Tz hi (stA_one _) ?_))
  clear hz
  refine (rAdd _ _ _ pc0 pc1 (by omega) (by omega)).mono ?_
  rintro e w' ⟨rfl, rfl⟩
  have D7 : DnAt w (W6.setCell ⟨W5.heap.size, 8, none⟩ (.int .u32 ((s.pc + 4) % 4294967296))) W3.heap.size W5.heap.size s { s with pc := (s.pc + 4) % 4294967296 } 27 ka kb 5 :=
    ⟨A6.other _ (by have := A5.lt; simp; omega), (K25.below hb6 K25.lt).other _ (by have := K25.lt; simp; omega), (Ki5.below hb6 Ki5.lt).other _ (by have := Ki5.lt; simp; omega), O6.set_pc _, (B5.trans (hb6.mono B5.size)).setCell (p := ⟨W5.heap.size, 8, none⟩) B5.size _, by omega, Ki5.lt⟩
  clear A6 p8 hb6 s6 Tz e6 A5 A5' B5 Ki5 K25
  go_upto_region 9 with (fail)
  clear O6 o8 f8 Ko
  generalize World.setCell _ _ _ = W7 at *
  have i3 := (D7.i.cell 3).trans (show _ = some (Value.int .i64 5) from rfl)
  go_upto_region 38 with (fail)
  have D := D7
  clear i3
  generalize W7 = W10 at *
  have o0 : W10.heap[W5.heap.size]? = some (.cells (stA { s with pc := (s.pc + 4) % 4294967296 }) 25 (0, 0)) := D.o.row
  have T6 : W10.there (w.heap.size + 1) 0 (stA { s with pc := (s.pc + 4) % 4294967296 }).size := by rw [stA_size D.o.len]; exact D.res.there
  have hi0 := hi25 D.o.len
  have o5 := D.res.setAll (stA { s with pc := (s.pc + 4) % 4294967296 }).toList (by rw [Array.length_toList, stA_size D.o.len]; rfl)
  rw [Array.toArray_toList] at o5
  have hlow := D.low
  go_wp2_with (first
    | (with_reducible refine wpList_load_row rfl 25 (.tmp 13) rfl W5.heap.size rfl 25 (stA { s with pc := (s.pc + 4) % 4294967296 }) (0, 0) _ o0 Try.underlying25 rfl hi0 ?_)
    | (with_reducible refine wpList_store_mid rfl 25 (.tmp 6) (.tmp 209) rfl (w.heap.size + 1) 0 (stA { s with pc := (s.pc + 4) % 4294967296 }) rfl rfl T6 hi0 (stA_one _) ?_)
    | exact bodyPost_ret (results_cell_row rfl _ _ (w.heap.size + 1) 25 (stA { s with pc := (s.pc + 4) % 4294967296 }) (0, 0) _ rfl o5 Try.underlying25 rfl hi0) rfl ⟨rfl, below_setCells _ 0 hlow (by omega)⟩)
end Go.Proofs.Ytmpnlhfnemidpaa
