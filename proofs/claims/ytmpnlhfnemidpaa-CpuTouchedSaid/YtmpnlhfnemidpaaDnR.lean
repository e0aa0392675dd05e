/- The cpu's Done, of the Ops that make no number: contracts. -/
import Derived.Test.YtmpnlhfnemidpaaDn
import Derived.Test.YtmpnlhfnemidpaaPl5
namespace Go.Proofs.Ytmpnlhfnemidpaa
open Go.RowKit Go.Shelf
set_option maxRecDepth 100000 in
set_option maxHeartbeats 1000000 in
theorem cDone1 {s : St} (hs : s.ok) {x : Int} (hok : okL x = true) (h0 : 0 ≤ x) (h1 : x < 4294967296) {n : Int} {ka kb : Nat} (hka : ka < 8) (hkb : kb < 8) (bn : -32768 ≤ n ∧ n ≤ 32767) (e1 : dOp x = 1) (e2 : dA x = ka) (e3 : dB x = kb) (e4 : dN x = n)
    {av bv : Int} (ra : u32? av) (rb : u32? bv) (ea : reg s ka = av) (eb : reg s kb = bv) {pk : Wt} (hpl : planL s x = pk) (hk : (pk.kind == 1) = false) {told : Int}  (w : World) :
    Calls Try.prog 12 #[.agg (stA s), .int .u32 x, .int .u32 told] w fun e w' => e = .returned (.agg (stA { s with pc := (s.pc + 4) % 4294967296 })) ∧ Below w.heap.size w w' := by
  have hall := And.intro bn (And.intro ra rb)
  clear hall
  obtain ⟨K1, K2, Hb, hsz⟩ := cells2 w (stA s) (stA zst) 25 25
  have hz := zst_lit
  have hi := hi25 hs.len
  have hP := fun W => cPlan hs h0 h1 W
  rw [hpl] at hP
  clear hpl
  have HP := Lib.hid hP
  clear hP
  go_enter Try.func12, Try.ntmps12
  go_upto_region 1 with (fail)
  generalize (w.alloc _).alloc _ = W at *
  clear hz
  have A : StAt W w.heap.size s := ⟨K1, hs.len⟩
  have A' : W.heap[w.heap.size]? = some (.cells (stA s) 25 (0, 0)) := A.row
  go_wp2_with (with_reducible refine wpList_load_row rfl 25 (.tmp 3) rfl w.heap.size rfl 25 (stA s) (0, 0) _ A' Try.underlying25 rfl hi ?_)
  refine (HP.out W).mono ?_
  rintro e W1 ⟨rfl, hb1⟩
  obtain ⟨KP, hbp, sp⟩ := cells1 W1 (wtA pk) 42
  have B1 := Hb.trans (hb1.mono Hb.size)
  have A1 := A.below hb1 A.lt
  have K21 := K2.below hb1 K2.lt
  go_wp2_with fail
  unfold wtA at KP hbp
  generalize W1.alloc _ = W2 at *
  clear KP
  refine (cDecode_in hok h0 h1 W2).mono ?_
  rintro e W3 ⟨rfl, hb3⟩
  rw [e1, e2, e3, e4]
  clear hok h0 h1 e1 e2 e3 e4
  have B2 := B1.trans (hbp.mono B1.size)
  have A2 := A1.below hbp A1.lt
  have K22 := K21.below hbp K21.lt
  have A3 := A2.below hb3 A2.lt
  have K23 := K22.below hb3 K22.lt
  have B3 := B2.trans (hb3.mono B2.size)
  obtain ⟨Ki, hbi, si⟩ := cells1 W3 (instA 1 ka kb n) 54
  have A4 := A3.below hbi A3.lt
  have K24 := K23.below hbi K23.lt
  have B4 := B3.trans (hbi.mono B3.size)
  have l3 := K23.lt
  clear A A' A1 A2 A3 K1 K2 K21 K22 K23 B1 B2 B3 hb1 hb3 hbp hbi Hb hsz sp si
  unfold instA at Ki A4 K24 B4
  obtain ⟨W4, eW4⟩ : ∃ W4, W3.alloc (.cells #[.int .i64 1, .int .i64 ka, .int .i64 kb, .int .i64 n] 54) = W4 := ⟨_, rfl⟩
  rw [eW4] at Ki A4 K24 B4
  have i1 := (Ki.cell 1).trans (show _ = some (Value.int .i64 ka) from rfl)
  have i2 := (Ki.cell 2).trans (show _ = some (Value.int .i64 kb) from rfl)
  have r1 := A4.reg (k := ka) hka
  have r2 := A4.reg (k := kb) hkb
  rw [ea] at r1
  rw [eb] at r2
  go_wp2_with fail
  have x1 : (0 : Int) ≤ (ka : Int) := by omega
  have x2 : (ka : Int) < 8 := by omega
  have x3 : (0 : Int) ≤ (kb : Int) := by omega
  have x4 : (kb : Int) < 8 := by omega
  refine wp_region_still_lit (by kernel_rfl) (by kernel_rfl) ?_
  repeat still_step
  refine wpStill_nil ?_
  change Exit.then _ _ .normal _ W4.drew
  clear x1 x2 x3 x4 r1 r2 eW4 i1 i2
  have A5 : StAt W4.drew w.heap.size s := ⟨A4.row, hs.len⟩
  have B5 : Below w.heap.size w W4.drew := B4.drew
  have Ki5 : Cells W4.drew W3.heap.size 54 (instA 1 ka kb n) := Ki
  have K25 : Cells W4.drew (w.heap.size + 1) 25 (stA zst) := K24
  clear A4 B4 Ki K24
  generalize W4.drew = W5 at *
  have A5' : W5.heap[w.heap.size]? = some (.cells (stA s) 25 (0, 0)) := A5.row
  obtain ⟨Tz, W6, e6, Ko, hb6, s6⟩ := row_own W5 25 (stA zst) (stA s) (by rw [stA_size hs.len]; rfl)
  have A6 := A5.below hb6 A5.lt
  have O6 : StAt W6 W5.heap.size s := ⟨Ko, hs.len⟩
  have p8 := A6.pc
  have o8 := O6.pc
  have f8 := O6.fz 8
  have hz := zst_lit
  go_wp2_with (first
    | (with_reducible refine wpList_load_row rfl 25 (.tmp 3) rfl w.heap.size rfl 25 (stA s) (0, 0) _ A5' Try.underlying25 rfl hi ?_)
    | (with_reducible refine wpList_store_mid rfl 25 (.tmp 12) (.tmp 40) rfl W5.heap.size 0 (stA s) rfl rfl Tz hi (stA_one _) ?_))
  clear hz
  refine (cAdd _ _ _).mono ?_
  rintro e w' ⟨rfl, rfl⟩
  have D7 : DnAt w (W6.setCell ⟨W5.heap.size, 8, none⟩ (.int .u32 ((s.pc + 4) % 4294967296))) W3.heap.size W5.heap.size s { s with pc := (s.pc + 4) % 4294967296 } 1 ka kb n :=
    ⟨A6.other _ (by have := A5.lt; simp; omega), (K25.below hb6 K25.lt).other _ (by have := K25.lt; simp; omega), (Ki5.below hb6 Ki5.lt).other _ (by have := Ki5.lt; simp; omega), O6.set_pc _, (B5.trans (hb6.mono B5.size)).setCell (p := ⟨W5.heap.size, 8, none⟩) B5.size _, by omega, Ki5.lt⟩
  clear A6 p8 hb6 s6 Tz e6 A5 A5' B5 Ki5 K25
  go_wp2_with fail
  clear O6 o8 f8 Ko
  generalize World.setCell _ _ _ = W7 at *
  have hno := Lib.hid (show ¬ (2 ≤ (1 : Int) ∧ (1 : Int) ≤ 12) by decide)
  have i0 := (D7.i.cell 0).trans (show _ = some (Value.int .i64 1) from rfl)
  have hgi := D7.i.lt
  have D7d : DnAt w W7.drew W3.heap.size W5.heap.size s { s with pc := (s.pc + 4) % 4294967296 } 1 ka kb n := D7.below (Below.refl _ W7).drew
  go_region_held3 (fun w' => w'.cell? ⟨W3.heap.size, 0, none⟩ = some (.int .i64 1))
    (first | exact i0 | exact (hM.low.cell (p := ⟨W3.heap.size, 0, none⟩) hgi).trans i0)
    ((go_at_call 22; refine (cMakes _).mono ?_; rintro e Wm ⟨rfl, hM⟩; have hlk : (Instr.lookup 60 (.map (some W7.heap.size)) (.int .i64 1) true).run Try.prog Wm = .ok (.tuple #[.nilFunc, .bool false]) Wm := mk_look_no hM hno.out))
  have D8 := D7d.below hM.low
  clear i0 D7 D7d hlk hM
  have i0 := (D8.i.cell 0).trans (show _ = some (Value.int .i64 1) from rfl)
  have i1 := (D8.i.cell 1).trans (show _ = some (Value.int .i64 ka) from rfl)
  have i2 := (D8.i.cell 2).trans (show _ = some (Value.int .i64 kb) from rfl)
  have i3 := (D8.i.cell 3).trans (show _ = some (Value.int .i64 n) from rfl)
  have x1 : (0 : Int) ≤ (ka : Int) := by omega
  have x2 : (ka : Int) < 8 := by omega
  go_upto_region 14 with (go_at_call 24; refine (cTaken_no (by decide) _ _ _).mono ?_; rintro e w' ⟨rfl, rfl⟩)
  have D := D8
  generalize Wm = W10 at *
  clear i0 i1 i2 i3
  go_upto_region 30 with (fail)
  have o0 : W10.heap[W5.heap.size]? = some (.cells (stA { s with pc := (s.pc + 4) % 4294967296 }) 25 (0, 0)) := D.o.row
  have T6 : W10.there (w.heap.size + 1) 0 (stA { s with pc := (s.pc + 4) % 4294967296 }).size := by rw [stA_size D.o.len]; exact D.res.there
  have hi0 := hi25 D.o.len
  have o5 := D.res.setAll (stA { s with pc := (s.pc + 4) % 4294967296 }).toList (by rw [Array.length_toList, stA_size D.o.len]; rfl)
  rw [Array.toArray_toList] at o5
  have hlow := D.low
  go_wp2_with (first
    | (with_reducible refine wpList_load_row rfl 25 (.tmp 12) rfl W5.heap.size rfl 25 (stA { s with pc := (s.pc + 4) % 4294967296 }) (0, 0) _ o0 Try.underlying25 rfl hi0 ?_)
    | (with_reducible refine wpList_store_mid rfl 25 (.tmp 6) (.tmp 133) rfl (w.heap.size + 1) 0 (stA { s with pc := (s.pc + 4) % 4294967296 }) rfl rfl T6 hi0 (stA_one _) ?_)
    | exact bodyPost_ret (results_cell_row rfl _ _ (w.heap.size + 1) 25 (stA { s with pc := (s.pc + 4) % 4294967296 }) (0, 0) _ rfl o5 Try.underlying25 rfl hi0) rfl ⟨rfl, below_setCells _ 0 hlow (by omega)⟩)
set_option maxRecDepth 100000 in
set_option maxHeartbeats 1000000 in
theorem cDone14 {s : St} (hs : s.ok) {x : Int} (hok : okL x = true) (h0 : 0 ≤ x) (h1 : x < 4294967296) {n : Int} {ka kb : Nat} (hka : ka < 8) (hkb : kb < 8) (bn : -32768 ≤ n ∧ n ≤ 32767) (e1 : dOp x = 14) (e2 : dA x = ka) (e3 : dB x = kb) (e4 : dN x = n)
    {av bv : Int} (ra : u32? av) (rb : u32? bv) (ea : reg s ka = av) (eb : reg s kb = bv) {pk : Wt} (hpl : planL s x = pk) (hk : (pk.kind == 1) = false) {told : Int}  (w : World) :
    Calls Try.prog 12 #[.agg (stA s), .int .u32 x, .int .u32 told] w fun e w' => e = .returned (.agg (stA { s with pc := (s.pc + 4) % 4294967296 })) ∧ Below w.heap.size w w' := by
  have hall := And.intro bn (And.intro ra rb)
  clear hall
  obtain ⟨K1, K2, Hb, hsz⟩ := cells2 w (stA s) (stA zst) 25 25
  have hz := zst_lit
  have hi := hi25 hs.len
  have hP := fun W => cPlan hs h0 h1 W
  rw [hpl] at hP
  clear hpl
  have HP := Lib.hid hP
  clear hP
  go_enter Try.func12, Try.ntmps12
  go_upto_region 1 with (fail)
  generalize (w.alloc _).alloc _ = W at *
  clear hz
  have A : StAt W w.heap.size s := ⟨K1, hs.len⟩
  have A' : W.heap[w.heap.size]? = some (.cells (stA s) 25 (0, 0)) := A.row
  go_wp2_with (with_reducible refine wpList_load_row rfl 25 (.tmp 3) rfl w.heap.size rfl 25 (stA s) (0, 0) _ A' Try.underlying25 rfl hi ?_)
  refine (HP.out W).mono ?_
  rintro e W1 ⟨rfl, hb1⟩
  obtain ⟨KP, hbp, sp⟩ := cells1 W1 (wtA pk) 42
  have B1 := Hb.trans (hb1.mono Hb.size)
  have A1 := A.below hb1 A.lt
  have K21 := K2.below hb1 K2.lt
  go_wp2_with fail
  unfold wtA at KP hbp
  generalize W1.alloc _ = W2 at *
  clear KP
  refine (cDecode_in hok h0 h1 W2).mono ?_
  rintro e W3 ⟨rfl, hb3⟩
  rw [e1, e2, e3, e4]
  clear hok h0 h1 e1 e2 e3 e4
  have B2 := B1.trans (hbp.mono B1.size)
  have A2 := A1.below hbp A1.lt
  have K22 := K21.below hbp K21.lt
  have A3 := A2.below hb3 A2.lt
  have K23 := K22.below hb3 K22.lt
  have B3 := B2.trans (hb3.mono B2.size)
  obtain ⟨Ki, hbi, si⟩ := cells1 W3 (instA 14 ka kb n) 54
  have A4 := A3.below hbi A3.lt
  have K24 := K23.below hbi K23.lt
  have B4 := B3.trans (hbi.mono B3.size)
  have l3 := K23.lt
  clear A A' A1 A2 A3 K1 K2 K21 K22 K23 B1 B2 B3 hb1 hb3 hbp hbi Hb hsz sp si
  unfold instA at Ki A4 K24 B4
  obtain ⟨W4, eW4⟩ : ∃ W4, W3.alloc (.cells #[.int .i64 14, .int .i64 ka, .int .i64 kb, .int .i64 n] 54) = W4 := ⟨_, rfl⟩
  rw [eW4] at Ki A4 K24 B4
  have i1 := (Ki.cell 1).trans (show _ = some (Value.int .i64 ka) from rfl)
  have i2 := (Ki.cell 2).trans (show _ = some (Value.int .i64 kb) from rfl)
  have r1 := A4.reg (k := ka) hka
  have r2 := A4.reg (k := kb) hkb
  rw [ea] at r1
  rw [eb] at r2
  go_wp2_with fail
  have x1 : (0 : Int) ≤ (ka : Int) := by omega
  have x2 : (ka : Int) < 8 := by omega
  have x3 : (0 : Int) ≤ (kb : Int) := by omega
  have x4 : (kb : Int) < 8 := by omega
  refine wp_region_still_lit (by kernel_rfl) (by kernel_rfl) ?_
  repeat still_step
  refine wpStill_nil ?_
  change Exit.then _ _ .normal _ W4.drew
  clear x1 x2 x3 x4 r1 r2 eW4 i1 i2
  have A5 : StAt W4.drew w.heap.size s := ⟨A4.row, hs.len⟩
  have B5 : Below w.heap.size w W4.drew := B4.drew
  have Ki5 : Cells W4.drew W3.heap.size 54 (instA 14 ka kb n) := Ki
  have K25 : Cells W4.drew (w.heap.size + 1) 25 (stA zst) := K24
  clear A4 B4 Ki K24
  generalize W4.drew = W5 at *
  have A5' : W5.heap[w.heap.size]? = some (.cells (stA s) 25 (0, 0)) := A5.row
  obtain ⟨Tz, W6, e6, Ko, hb6, s6⟩ := row_own W5 25 (stA zst) (stA s) (by rw [stA_size hs.len]; rfl)
  have A6 := A5.below hb6 A5.lt
  have O6 : StAt W6 W5.heap.size s := ⟨Ko, hs.len⟩
  have p8 := A6.pc
  have o8 := O6.pc
  have f8 := O6.fz 8
  have hz := zst_lit
  go_wp2_with (first
    | (with_reducible refine wpList_load_row rfl 25 (.tmp 3) rfl w.heap.size rfl 25 (stA s) (0, 0) _ A5' Try.underlying25 rfl hi ?_)
    | (with_reducible refine wpList_store_mid rfl 25 (.tmp 12) (.tmp 40) rfl W5.heap.size 0 (stA s) rfl rfl Tz hi (stA_one _) ?_))
  clear hz
  refine (cAdd _ _ _).mono ?_
  rintro e w' ⟨rfl, rfl⟩
  have D7 : DnAt w (W6.setCell ⟨W5.heap.size, 8, none⟩ (.int .u32 ((s.pc + 4) % 4294967296))) W3.heap.size W5.heap.size s { s with pc := (s.pc + 4) % 4294967296 } 14 ka kb n :=
    ⟨A6.other _ (by have := A5.lt; simp; omega), (K25.below hb6 K25.lt).other _ (by have := K25.lt; simp; omega), (Ki5.below hb6 Ki5.lt).other _ (by have := Ki5.lt; simp; omega), O6.set_pc _, (B5.trans (hb6.mono B5.size)).setCell (p := ⟨W5.heap.size, 8, none⟩) B5.size _, by omega, Ki5.lt⟩
  clear A6 p8 hb6 s6 Tz e6 A5 A5' B5 Ki5 K25
  go_wp2_with fail
  clear O6 o8 f8 Ko
  generalize World.setCell _ _ _ = W7 at *
  have hno := Lib.hid (show ¬ (2 ≤ (14 : Int) ∧ (14 : Int) ≤ 12) by decide)
  have i0 := (D7.i.cell 0).trans (show _ = some (Value.int .i64 14) from rfl)
  have hgi := D7.i.lt
  have D7d : DnAt w W7.drew W3.heap.size W5.heap.size s { s with pc := (s.pc + 4) % 4294967296 } 14 ka kb n := D7.below (Below.refl _ W7).drew
  go_region_held3 (fun w' => w'.cell? ⟨W3.heap.size, 0, none⟩ = some (.int .i64 14))
    (first | exact i0 | exact (hM.low.cell (p := ⟨W3.heap.size, 0, none⟩) hgi).trans i0)
    ((go_at_call 22; refine (cMakes _).mono ?_; rintro e Wm ⟨rfl, hM⟩; have hlk : (Instr.lookup 60 (.map (some W7.heap.size)) (.int .i64 14) true).run Try.prog Wm = .ok (.tuple #[.nilFunc, .bool false]) Wm := mk_look_no hM hno.out))
  have D8 := D7d.below hM.low
  clear i0 D7 D7d hlk hM
  have i0 := (D8.i.cell 0).trans (show _ = some (Value.int .i64 14) from rfl)
  have i1 := (D8.i.cell 1).trans (show _ = some (Value.int .i64 ka) from rfl)
  have i2 := (D8.i.cell 2).trans (show _ = some (Value.int .i64 kb) from rfl)
  have i3 := (D8.i.cell 3).trans (show _ = some (Value.int .i64 n) from rfl)
  have x1 : (0 : Int) ≤ (ka : Int) := by omega
  have x2 : (ka : Int) < 8 := by omega
  go_upto_region 14 with (go_at_call 24; refine (cTaken_no (by decide) _ _ _).mono ?_; rintro e w' ⟨rfl, rfl⟩)
  have D := D8
  generalize Wm = W10 at *
  clear i0 i1 i2 i3
  go_upto_region 30 with (fail)
  have o0 : W10.heap[W5.heap.size]? = some (.cells (stA { s with pc := (s.pc + 4) % 4294967296 }) 25 (0, 0)) := D.o.row
  have T6 : W10.there (w.heap.size + 1) 0 (stA { s with pc := (s.pc + 4) % 4294967296 }).size := by rw [stA_size D.o.len]; exact D.res.there
  have hi0 := hi25 D.o.len
  have o5 := D.res.setAll (stA { s with pc := (s.pc + 4) % 4294967296 }).toList (by rw [Array.length_toList, stA_size D.o.len]; rfl)
  rw [Array.toArray_toList] at o5
  have hlow := D.low
  go_wp2_with (first
    | (with_reducible refine wpList_load_row rfl 25 (.tmp 12) rfl W5.heap.size rfl 25 (stA { s with pc := (s.pc + 4) % 4294967296 }) (0, 0) _ o0 Try.underlying25 rfl hi0 ?_)
    | (with_reducible refine wpList_store_mid rfl 25 (.tmp 6) (.tmp 133) rfl (w.heap.size + 1) 0 (stA { s with pc := (s.pc + 4) % 4294967296 }) rfl rfl T6 hi0 (stA_one _) ?_)
    | exact bodyPost_ret (results_cell_row rfl _ _ (w.heap.size + 1) 25 (stA { s with pc := (s.pc + 4) % 4294967296 }) (0, 0) _ rfl o5 Try.underlying25 rfl hi0) rfl ⟨rfl, below_setCells _ 0 hlow (by omega)⟩)
set_option maxRecDepth 100000 in
set_option maxHeartbeats 1000000 in
theorem cDone16 {s : St} (hs : s.ok) {x : Int} (hok : okL x = true) (h0 : 0 ≤ x) (h1 : x < 4294967296) {n : Int} {ka kb : Nat} (hka : ka < 8) (hkb : kb < 8) (bn : -32768 ≤ n ∧ n ≤ 32767) (e1 : dOp x = 16) (e2 : dA x = ka) (e3 : dB x = kb) (e4 : dN x = n)
    {av bv : Int} (ra : u32? av) (rb : u32? bv) (ea : reg s ka = av) (eb : reg s kb = bv) {pk : Wt} (hpl : planL s x = pk) (hk : (pk.kind == 1) = false) {told : Int}  (w : World) :
    Calls Try.prog 12 #[.agg (stA s), .int .u32 x, .int .u32 told] w fun e w' => e = .returned (.agg (stA { s with pc := (s.pc + 4) % 4294967296 })) ∧ Below w.heap.size w w' := by
  have hall := And.intro bn (And.intro ra rb)
  clear hall
  obtain ⟨K1, K2, Hb, hsz⟩ := cells2 w (stA s) (stA zst) 25 25
  have hz := zst_lit
  have hi := hi25 hs.len
  have hP := fun W => cPlan hs h0 h1 W
  rw [hpl] at hP
  clear hpl
  have HP := Lib.hid hP
  clear hP
  go_enter Try.func12, Try.ntmps12
  go_upto_region 1 with (fail)
  generalize (w.alloc _).alloc _ = W at *
  clear hz
  have A : StAt W w.heap.size s := ⟨K1, hs.len⟩
  have A' : W.heap[w.heap.size]? = some (.cells (stA s) 25 (0, 0)) := A.row
  go_wp2_with (with_reducible refine wpList_load_row rfl 25 (.tmp 3) rfl w.heap.size rfl 25 (stA s) (0, 0) _ A' Try.underlying25 rfl hi ?_)
  refine (HP.out W).mono ?_
  rintro e W1 ⟨rfl, hb1⟩
  obtain ⟨KP, hbp, sp⟩ := cells1 W1 (wtA pk) 42
  have B1 := Hb.trans (hb1.mono Hb.size)
  have A1 := A.below hb1 A.lt
  have K21 := K2.below hb1 K2.lt
  go_wp2_with fail
  unfold wtA at KP hbp
  generalize W1.alloc _ = W2 at *
  clear KP
  refine (cDecode_in hok h0 h1 W2).mono ?_
  rintro e W3 ⟨rfl, hb3⟩
  rw [e1, e2, e3, e4]
  clear hok h0 h1 e1 e2 e3 e4
  have B2 := B1.trans (hbp.mono B1.size)
  have A2 := A1.below hbp A1.lt
  have K22 := K21.below hbp K21.lt
  have A3 := A2.below hb3 A2.lt
  have K23 := K22.below hb3 K22.lt
  have B3 := B2.trans (hb3.mono B2.size)
  obtain ⟨Ki, hbi, si⟩ := cells1 W3 (instA 16 ka kb n) 54
  have A4 := A3.below hbi A3.lt
  have K24 := K23.below hbi K23.lt
  have B4 := B3.trans (hbi.mono B3.size)
  have l3 := K23.lt
  clear A A' A1 A2 A3 K1 K2 K21 K22 K23 B1 B2 B3 hb1 hb3 hbp hbi Hb hsz sp si
  unfold instA at Ki A4 K24 B4
  obtain ⟨W4, eW4⟩ : ∃ W4, W3.alloc (.cells #[.int .i64 16, .int .i64 ka, .int .i64 kb, .int .i64 n] 54) = W4 := ⟨_, rfl⟩
  rw [eW4] at Ki A4 K24 B4
  have i1 := (Ki.cell 1).trans (show _ = some (Value.int .i64 ka) from rfl)
  have i2 := (Ki.cell 2).trans (show _ = some (Value.int .i64 kb) from rfl)
  have r1 := A4.reg (k := ka) hka
  have r2 := A4.reg (k := kb) hkb
  rw [ea] at r1
  rw [eb] at r2
  go_wp2_with fail
  have x1 : (0 : Int) ≤ (ka : Int) := by omega
  have x2 : (ka : Int) < 8 := by omega
  have x3 : (0 : Int) ≤ (kb : Int) := by omega
  have x4 : (kb : Int) < 8 := by omega
  refine wp_region_still_lit (by kernel_rfl) (by kernel_rfl) ?_
  repeat still_step
  refine wpStill_nil ?_
  change Exit.then _ _ .normal _ W4.drew
  clear x1 x2 x3 x4 r1 r2 eW4 i1 i2
  have A5 : StAt W4.drew w.heap.size s := ⟨A4.row, hs.len⟩
  have B5 : Below w.heap.size w W4.drew := B4.drew
  have Ki5 : Cells W4.drew W3.heap.size 54 (instA 16 ka kb n) := Ki
  have K25 : Cells W4.drew (w.heap.size + 1) 25 (stA zst) := K24
  clear A4 B4 Ki K24
  generalize W4.drew = W5 at *
  have A5' : W5.heap[w.heap.size]? = some (.cells (stA s) 25 (0, 0)) := A5.row
  obtain ⟨Tz, W6, e6, Ko, hb6, s6⟩ := row_own W5 25 (stA zst) (stA s) (by rw [stA_size hs.len]; rfl)
  have A6 := A5.below hb6 A5.lt
  have O6 : StAt W6 W5.heap.size s := ⟨Ko, hs.len⟩
  have p8 := A6.pc
  have o8 := O6.pc
  have f8 := O6.fz 8
  have hz := zst_lit
  go_wp2_with (first
    | (with_reducible refine wpList_load_row rfl 25 (.tmp 3) rfl w.heap.size rfl 25 (stA s) (0, 0) _ A5' Try.underlying25 rfl hi ?_)
    | (with_reducible refine wpList_store_mid rfl 25 (.tmp 12) (.tmp 40) rfl W5.heap.size 0 (stA s) rfl rfl Tz hi (stA_one _) ?_))
  clear hz
  refine (cAdd _ _ _).mono ?_
  rintro e w' ⟨rfl, rfl⟩
  have D7 : DnAt w (W6.setCell ⟨W5.heap.size, 8, none⟩ (.int .u32 ((s.pc + 4) % 4294967296))) W3.heap.size W5.heap.size s { s with pc := (s.pc + 4) % 4294967296 } 16 ka kb n :=
    ⟨A6.other _ (by have := A5.lt; simp; omega), (K25.below hb6 K25.lt).other _ (by have := K25.lt; simp; omega), (Ki5.below hb6 Ki5.lt).other _ (by have := Ki5.lt; simp; omega), O6.set_pc _, (B5.trans (hb6.mono B5.size)).setCell (p := ⟨W5.heap.size, 8, none⟩) B5.size _, by omega, Ki5.lt⟩
  clear A6 p8 hb6 s6 Tz e6 A5 A5' B5 Ki5 K25
  go_wp2_with fail
  clear O6 o8 f8 Ko
  generalize World.setCell _ _ _ = W7 at *
  have hno := Lib.hid (show ¬ (2 ≤ (16 : Int) ∧ (16 : Int) ≤ 12) by decide)
  have i0 := (D7.i.cell 0).trans (show _ = some (Value.int .i64 16) from rfl)
  have hgi := D7.i.lt
  have D7d : DnAt w W7.drew W3.heap.size W5.heap.size s { s with pc := (s.pc + 4) % 4294967296 } 16 ka kb n := D7.below (Below.refl _ W7).drew
  go_region_held3 (fun w' => w'.cell? ⟨W3.heap.size, 0, none⟩ = some (.int .i64 16))
    (first | exact i0 | exact (hM.low.cell (p := ⟨W3.heap.size, 0, none⟩) hgi).trans i0)
    ((go_at_call 22; refine (cMakes _).mono ?_; rintro e Wm ⟨rfl, hM⟩; have hlk : (Instr.lookup 60 (.map (some W7.heap.size)) (.int .i64 16) true).run Try.prog Wm = .ok (.tuple #[.nilFunc, .bool false]) Wm := mk_look_no hM hno.out))
  have D8 := D7d.below hM.low
  clear i0 D7 D7d hlk hM
  have i0 := (D8.i.cell 0).trans (show _ = some (Value.int .i64 16) from rfl)
  have i1 := (D8.i.cell 1).trans (show _ = some (Value.int .i64 ka) from rfl)
  have i2 := (D8.i.cell 2).trans (show _ = some (Value.int .i64 kb) from rfl)
  have i3 := (D8.i.cell 3).trans (show _ = some (Value.int .i64 n) from rfl)
  have x1 : (0 : Int) ≤ (ka : Int) := by omega
  have x2 : (ka : Int) < 8 := by omega
  go_upto_region 14 with (go_at_call 24; refine (cTaken_no (by decide) _ _ _).mono ?_; rintro e w' ⟨rfl, rfl⟩)
  have D := D8
  generalize Wm = W10 at *
  clear i0 i1 i2 i3
  go_upto_region 30 with (fail)
  have o0 : W10.heap[W5.heap.size]? = some (.cells (stA { s with pc := (s.pc + 4) % 4294967296 }) 25 (0, 0)) := D.o.row
  have T6 : W10.there (w.heap.size + 1) 0 (stA { s with pc := (s.pc + 4) % 4294967296 }).size := by rw [stA_size D.o.len]; exact D.res.there
  have hi0 := hi25 D.o.len
  have o5 := D.res.setAll (stA { s with pc := (s.pc + 4) % 4294967296 }).toList (by rw [Array.length_toList, stA_size D.o.len]; rfl)
  rw [Array.toArray_toList] at o5
  have hlow := D.low
  go_wp2_with (first
    | (with_reducible refine wpList_load_row rfl 25 (.tmp 12) rfl W5.heap.size rfl 25 (stA { s with pc := (s.pc + 4) % 4294967296 }) (0, 0) _ o0 Try.underlying25 rfl hi0 ?_)
    | (with_reducible refine wpList_store_mid rfl 25 (.tmp 6) (.tmp 133) rfl (w.heap.size + 1) 0 (stA { s with pc := (s.pc + 4) % 4294967296 }) rfl rfl T6 hi0 (stA_one _) ?_)
    | exact bodyPost_ret (results_cell_row rfl _ _ (w.heap.size + 1) 25 (stA { s with pc := (s.pc + 4) % 4294967296 }) (0, 0) _ rfl o5 Try.underlying25 rfl hi0) rfl ⟨rfl, below_setCells _ 0 hlow (by omega)⟩)
set_option maxRecDepth 100000 in
set_option maxHeartbeats 1000000 in
theorem cDone23 {s : St} (hs : s.ok) {x : Int} (hok : okL x = true) (h0 : 0 ≤ x) (h1 : x < 4294967296) {n : Int} {ka kb : Nat} (hka : ka < 8) (hkb : kb < 8) (bn : -32768 ≤ n ∧ n ≤ 32767) (e1 : dOp x = 23) (e2 : dA x = ka) (e3 : dB x = kb) (e4 : dN x = n)
    {av bv : Int} (ra : u32? av) (rb : u32? bv) (ea : reg s ka = av) (eb : reg s kb = bv) {pk : Wt} (hpl : planL s x = pk) (hk : (pk.kind == 1) = false) {told : Int}  (w : World) :
    Calls Try.prog 12 #[.agg (stA s), .int .u32 x, .int .u32 told] w fun e w' => e = .returned (.agg (stA { s with pc := (s.pc + 4) % 4294967296 })) ∧ Below w.heap.size w w' := by
  have hall := And.intro bn (And.intro ra rb)
  clear hall
  obtain ⟨K1, K2, Hb, hsz⟩ := cells2 w (stA s) (stA zst) 25 25
  have hz := zst_lit
  have hi := hi25 hs.len
  have hP := fun W => cPlan hs h0 h1 W
  rw [hpl] at hP
  clear hpl
  have HP := Lib.hid hP
  clear hP
  go_enter Try.func12, Try.ntmps12
  go_upto_region 1 with (fail)
  generalize (w.alloc _).alloc _ = W at *
  clear hz
  have A : StAt W w.heap.size s := ⟨K1, hs.len⟩
  have A' : W.heap[w.heap.size]? = some (.cells (stA s) 25 (0, 0)) := A.row
  go_wp2_with (with_reducible refine wpList_load_row rfl 25 (.tmp 3) rfl w.heap.size rfl 25 (stA s) (0, 0) _ A' Try.underlying25 rfl hi ?_)
  refine (HP.out W).mono ?_
  rintro e W1 ⟨rfl, hb1⟩
  obtain ⟨KP, hbp, sp⟩ := cells1 W1 (wtA pk) 42
  have B1 := Hb.trans (hb1.mono Hb.size)
  have A1 := A.below hb1 A.lt
  have K21 := K2.below hb1 K2.lt
  go_wp2_with fail
  unfold wtA at KP hbp
  generalize W1.alloc _ = W2 at *
  clear KP
  refine (cDecode_in hok h0 h1 W2).mono ?_
  rintro e W3 ⟨rfl, hb3⟩
  rw [e1, e2, e3, e4]
  clear hok h0 h1 e1 e2 e3 e4
  have B2 := B1.trans (hbp.mono B1.size)
  have A2 := A1.below hbp A1.lt
  have K22 := K21.below hbp K21.lt
  have A3 := A2.below hb3 A2.lt
  have K23 := K22.below hb3 K22.lt
  have B3 := B2.trans (hb3.mono B2.size)
  obtain ⟨Ki, hbi, si⟩ := cells1 W3 (instA 23 ka kb n) 54
  have A4 := A3.below hbi A3.lt
  have K24 := K23.below hbi K23.lt
  have B4 := B3.trans (hbi.mono B3.size)
  have l3 := K23.lt
  clear A A' A1 A2 A3 K1 K2 K21 K22 K23 B1 B2 B3 hb1 hb3 hbp hbi Hb hsz sp si
  unfold instA at Ki A4 K24 B4
  obtain ⟨W4, eW4⟩ : ∃ W4, W3.alloc (.cells #[.int .i64 23, .int .i64 ka, .int .i64 kb, .int .i64 n] 54) = W4 := ⟨_, rfl⟩
  rw [eW4] at Ki A4 K24 B4
  have i1 := (Ki.cell 1).trans (show _ = some (Value.int .i64 ka) from rfl)
  have i2 := (Ki.cell 2).trans (show _ = some (Value.int .i64 kb) from rfl)
  have r1 := A4.reg (k := ka) hka
  have r2 := A4.reg (k := kb) hkb
  rw [ea] at r1
  rw [eb] at r2
  go_wp2_with fail
  have x1 : (0 : Int) ≤ (ka : Int) := by omega
  have x2 : (ka : Int) < 8 := by omega
  have x3 : (0 : Int) ≤ (kb : Int) := by omega
  have x4 : (kb : Int) < 8 := by omega
  refine wp_region_still_lit (by kernel_rfl) (by kernel_rfl) ?_
  repeat still_step
  refine wpStill_nil ?_
  change Exit.then _ _ .normal _ W4.drew
  clear x1 x2 x3 x4 r1 r2 eW4 i1 i2
  have A5 : StAt W4.drew w.heap.size s := ⟨A4.row, hs.len⟩
  have B5 : Below w.heap.size w W4.drew := B4.drew
  have Ki5 : Cells W4.drew W3.heap.size 54 (instA 23 ka kb n) := Ki
  have K25 : Cells W4.drew (w.heap.size + 1) 25 (stA zst) := K24
  clear A4 B4 Ki K24
  generalize W4.drew = W5 at *
  have A5' : W5.heap[w.heap.size]? = some (.cells (stA s) 25 (0, 0)) := A5.row
  obtain ⟨Tz, W6, e6, Ko, hb6, s6⟩ := row_own W5 25 (stA zst) (stA s) (by rw [stA_size hs.len]; rfl)
  have A6 := A5.below hb6 A5.lt
  have O6 : StAt W6 W5.heap.size s := ⟨Ko, hs.len⟩
  have p8 := A6.pc
  have o8 := O6.pc
  have f8 := O6.fz 8
  have hz := zst_lit
  go_wp2_with (first
    | (with_reducible refine wpList_load_row rfl 25 (.tmp 3) rfl w.heap.size rfl 25 (stA s) (0, 0) _ A5' Try.underlying25 rfl hi ?_)
    | (with_reducible refine wpList_store_mid rfl 25 (.tmp 12) (.tmp 40) rfl W5.heap.size 0 (stA s) rfl rfl Tz hi (stA_one _) ?_))
  clear hz
  refine (cAdd _ _ _).mono ?_
  rintro e w' ⟨rfl, rfl⟩
  have D7 : DnAt w (W6.setCell ⟨W5.heap.size, 8, none⟩ (.int .u32 ((s.pc + 4) % 4294967296))) W3.heap.size W5.heap.size s { s with pc := (s.pc + 4) % 4294967296 } 23 ka kb n :=
    ⟨A6.other _ (by have := A5.lt; simp; omega), (K25.below hb6 K25.lt).other _ (by have := K25.lt; simp; omega), (Ki5.below hb6 Ki5.lt).other _ (by have := Ki5.lt; simp; omega), O6.set_pc _, (B5.trans (hb6.mono B5.size)).setCell (p := ⟨W5.heap.size, 8, none⟩) B5.size _, by omega, Ki5.lt⟩
  clear A6 p8 hb6 s6 Tz e6 A5 A5' B5 Ki5 K25
  go_wp2_with fail
  clear O6 o8 f8 Ko
  generalize World.setCell _ _ _ = W7 at *
  have hno := Lib.hid (show ¬ (2 ≤ (23 : Int) ∧ (23 : Int) ≤ 12) by decide)
  have i0 := (D7.i.cell 0).trans (show _ = some (Value.int .i64 23) from rfl)
  have hgi := D7.i.lt
  have D7d : DnAt w W7.drew W3.heap.size W5.heap.size s { s with pc := (s.pc + 4) % 4294967296 } 23 ka kb n := D7.below (Below.refl _ W7).drew
  go_region_held3 (fun w' => w'.cell? ⟨W3.heap.size, 0, none⟩ = some (.int .i64 23))
    (first | exact i0 | exact (hM.low.cell (p := ⟨W3.heap.size, 0, none⟩) hgi).trans i0)
    ((go_at_call 22; refine (cMakes _).mono ?_; rintro e Wm ⟨rfl, hM⟩; have hlk : (Instr.lookup 60 (.map (some W7.heap.size)) (.int .i64 23) true).run Try.prog Wm = .ok (.tuple #[.nilFunc, .bool false]) Wm := mk_look_no hM hno.out))
  have D8 := D7d.below hM.low
  clear i0 D7 D7d hlk hM
  have i0 := (D8.i.cell 0).trans (show _ = some (Value.int .i64 23) from rfl)
  have i1 := (D8.i.cell 1).trans (show _ = some (Value.int .i64 ka) from rfl)
  have i2 := (D8.i.cell 2).trans (show _ = some (Value.int .i64 kb) from rfl)
  have i3 := (D8.i.cell 3).trans (show _ = some (Value.int .i64 n) from rfl)
  have x1 : (0 : Int) ≤ (ka : Int) := by omega
  have x2 : (ka : Int) < 8 := by omega
  go_upto_region 14 with (go_at_call 24; refine (cTaken_no (by decide) _ _ _).mono ?_; rintro e w' ⟨rfl, rfl⟩)
  have D := D8
  generalize Wm = W10 at *
  clear i0 i1 i2 i3
  go_upto_region 30 with (fail)
  have o0 : W10.heap[W5.heap.size]? = some (.cells (stA { s with pc := (s.pc + 4) % 4294967296 }) 25 (0, 0)) := D.o.row
  have T6 : W10.there (w.heap.size + 1) 0 (stA { s with pc := (s.pc + 4) % 4294967296 }).size := by rw [stA_size D.o.len]; exact D.res.there
  have hi0 := hi25 D.o.len
  have o5 := D.res.setAll (stA { s with pc := (s.pc + 4) % 4294967296 }).toList (by rw [Array.length_toList, stA_size D.o.len]; rfl)
  rw [Array.toArray_toList] at o5
  have hlow := D.low
  go_wp2_with (first
    | (with_reducible refine wpList_load_row rfl 25 (.tmp 12) rfl W5.heap.size rfl 25 (stA { s with pc := (s.pc + 4) % 4294967296 }) (0, 0) _ o0 Try.underlying25 rfl hi0 ?_)
    | (with_reducible refine wpList_store_mid rfl 25 (.tmp 6) (.tmp 133) rfl (w.heap.size + 1) 0 (stA { s with pc := (s.pc + 4) % 4294967296 }) rfl rfl T6 hi0 (stA_one _) ?_)
    | exact bodyPost_ret (results_cell_row rfl _ _ (w.heap.size + 1) 25 (stA { s with pc := (s.pc + 4) % 4294967296 }) (0, 0) _ rfl o5 Try.underlying25 rfl hi0) rfl ⟨rfl, below_setCells _ 0 hlow (by omega)⟩)
set_option maxRecDepth 100000 in
set_option maxHeartbeats 1000000 in
theorem cDone28 {s : St} (hs : s.ok) {x : Int} (hok : okL x = true) (h0 : 0 ≤ x) (h1 : x < 4294967296) {n : Int} {ka kb : Nat} (hka : ka < 8) (hkb : kb < 8) (bn : -32768 ≤ n ∧ n ≤ 32767) (e1 : dOp x = 28) (e2 : dA x = ka) (e3 : dB x = kb) (e4 : dN x = n)
    {av bv : Int} (ra : u32? av) (rb : u32? bv) (ea : reg s ka = av) (eb : reg s kb = bv) {pk : Wt} (hpl : planL s x = pk) (hk : (pk.kind == 1) = false) {told : Int}  (w : World) :
    Calls Try.prog 12 #[.agg (stA s), .int .u32 x, .int .u32 told] w fun e w' => e = .returned (.agg (stA { s with pc := (s.pc + 4) % 4294967296 })) ∧ Below w.heap.size w w' := by
  have hall := And.intro bn (And.intro ra rb)
  clear hall
  obtain ⟨K1, K2, Hb, hsz⟩ := cells2 w (stA s) (stA zst) 25 25
  have hz := zst_lit
  have hi := hi25 hs.len
  have hP := fun W => cPlan hs h0 h1 W
  rw [hpl] at hP
  clear hpl
  have HP := Lib.hid hP
  clear hP
  go_enter Try.func12, Try.ntmps12
  go_upto_region 1 with (fail)
  generalize (w.alloc _).alloc _ = W at *
  clear hz
  have A : StAt W w.heap.size s := ⟨K1, hs.len⟩
  have A' : W.heap[w.heap.size]? = some (.cells (stA s) 25 (0, 0)) := A.row
  go_wp2_with (with_reducible refine wpList_load_row rfl 25 (.tmp 3) rfl w.heap.size rfl 25 (stA s) (0, 0) _ A' Try.underlying25 rfl hi ?_)
  refine (HP.out W).mono ?_
  rintro e W1 ⟨rfl, hb1⟩
  obtain ⟨KP, hbp, sp⟩ := cells1 W1 (wtA pk) 42
  have B1 := Hb.trans (hb1.mono Hb.size)
  have A1 := A.below hb1 A.lt
  have K21 := K2.below hb1 K2.lt
  go_wp2_with fail
  unfold wtA at KP hbp
  generalize W1.alloc _ = W2 at *
  clear KP
  refine (cDecode_in hok h0 h1 W2).mono ?_
  rintro e W3 ⟨rfl, hb3⟩
  rw [e1, e2, e3, e4]
  clear hok h0 h1 e1 e2 e3 e4
  have B2 := B1.trans (hbp.mono B1.size)
  have A2 := A1.below hbp A1.lt
  have K22 := K21.below hbp K21.lt
  have A3 := A2.below hb3 A2.lt
  have K23 := K22.below hb3 K22.lt
  have B3 := B2.trans (hb3.mono B2.size)
  obtain ⟨Ki, hbi, si⟩ := cells1 W3 (instA 28 ka kb n) 54
  have A4 := A3.below hbi A3.lt
  have K24 := K23.below hbi K23.lt
  have B4 := B3.trans (hbi.mono B3.size)
  have l3 := K23.lt
  clear A A' A1 A2 A3 K1 K2 K21 K22 K23 B1 B2 B3 hb1 hb3 hbp hbi Hb hsz sp si
  unfold instA at Ki A4 K24 B4
  obtain ⟨W4, eW4⟩ : ∃ W4, W3.alloc (.cells #[.int .i64 28, .int .i64 ka, .int .i64 kb, .int .i64 n] 54) = W4 := ⟨_, rfl⟩
  rw [eW4] at Ki A4 K24 B4
  have i1 := (Ki.cell 1).trans (show _ = some (Value.int .i64 ka) from rfl)
  have i2 := (Ki.cell 2).trans (show _ = some (Value.int .i64 kb) from rfl)
  have r1 := A4.reg (k := ka) hka
  have r2 := A4.reg (k := kb) hkb
  rw [ea] at r1
  rw [eb] at r2
  go_wp2_with fail
  have x1 : (0 : Int) ≤ (ka : Int) := by omega
  have x2 : (ka : Int) < 8 := by omega
  have x3 : (0 : Int) ≤ (kb : Int) := by omega
  have x4 : (kb : Int) < 8 := by omega
  refine wp_region_still_lit (by kernel_rfl) (by kernel_rfl) ?_
  repeat still_step
  refine wpStill_nil ?_
  change Exit.then _ _ .normal _ W4.drew
  clear x1 x2 x3 x4 r1 r2 eW4 i1 i2
  have A5 : StAt W4.drew w.heap.size s := ⟨A4.row, hs.len⟩
  have B5 : Below w.heap.size w W4.drew := B4.drew
  have Ki5 : Cells W4.drew W3.heap.size 54 (instA 28 ka kb n) := Ki
  have K25 : Cells W4.drew (w.heap.size + 1) 25 (stA zst) := K24
  clear A4 B4 Ki K24
  generalize W4.drew = W5 at *
  have A5' : W5.heap[w.heap.size]? = some (.cells (stA s) 25 (0, 0)) := A5.row
  obtain ⟨Tz, W6, e6, Ko, hb6, s6⟩ := row_own W5 25 (stA zst) (stA s) (by rw [stA_size hs.len]; rfl)
  have A6 := A5.below hb6 A5.lt
  have O6 : StAt W6 W5.heap.size s := ⟨Ko, hs.len⟩
  have p8 := A6.pc
  have o8 := O6.pc
  have f8 := O6.fz 8
  have hz := zst_lit
  go_wp2_with (first
    | (with_reducible refine wpList_load_row rfl 25 (.tmp 3) rfl w.heap.size rfl 25 (stA s) (0, 0) _ A5' Try.underlying25 rfl hi ?_)
    | (with_reducible refine wpList_store_mid rfl 25 (.tmp 12) (.tmp 40) rfl W5.heap.size 0 (stA s) rfl rfl Tz hi (stA_one _) ?_))
  clear hz
  refine (cAdd _ _ _).mono ?_
  rintro e w' ⟨rfl, rfl⟩
  have D7 : DnAt w (W6.setCell ⟨W5.heap.size, 8, none⟩ (.int .u32 ((s.pc + 4) % 4294967296))) W3.heap.size W5.heap.size s { s with pc := (s.pc + 4) % 4294967296 } 28 ka kb n :=
    ⟨A6.other _ (by have := A5.lt; simp; omega), (K25.below hb6 K25.lt).other _ (by have := K25.lt; simp; omega), (Ki5.below hb6 Ki5.lt).other _ (by have := Ki5.lt; simp; omega), O6.set_pc _, (B5.trans (hb6.mono B5.size)).setCell (p := ⟨W5.heap.size, 8, none⟩) B5.size _, by omega, Ki5.lt⟩
  clear A6 p8 hb6 s6 Tz e6 A5 A5' B5 Ki5 K25
  go_wp2_with fail
  clear O6 o8 f8 Ko
  generalize World.setCell _ _ _ = W7 at *
  have hno := Lib.hid (show ¬ (2 ≤ (28 : Int) ∧ (28 : Int) ≤ 12) by decide)
  have i0 := (D7.i.cell 0).trans (show _ = some (Value.int .i64 28) from rfl)
  have hgi := D7.i.lt
  have D7d : DnAt w W7.drew W3.heap.size W5.heap.size s { s with pc := (s.pc + 4) % 4294967296 } 28 ka kb n := D7.below (Below.refl _ W7).drew
  go_region_held3 (fun w' => w'.cell? ⟨W3.heap.size, 0, none⟩ = some (.int .i64 28))
    (first | exact i0 | exact (hM.low.cell (p := ⟨W3.heap.size, 0, none⟩) hgi).trans i0)
    ((go_at_call 22; refine (cMakes _).mono ?_; rintro e Wm ⟨rfl, hM⟩; have hlk : (Instr.lookup 60 (.map (some W7.heap.size)) (.int .i64 28) true).run Try.prog Wm = .ok (.tuple #[.nilFunc, .bool false]) Wm := mk_look_no hM hno.out))
  have D8 := D7d.below hM.low
  clear i0 D7 D7d hlk hM
  have i0 := (D8.i.cell 0).trans (show _ = some (Value.int .i64 28) from rfl)
  have i1 := (D8.i.cell 1).trans (show _ = some (Value.int .i64 ka) from rfl)
  have i2 := (D8.i.cell 2).trans (show _ = some (Value.int .i64 kb) from rfl)
  have i3 := (D8.i.cell 3).trans (show _ = some (Value.int .i64 n) from rfl)
  have x1 : (0 : Int) ≤ (ka : Int) := by omega
  have x2 : (ka : Int) < 8 := by omega
  go_upto_region 14 with (go_at_call 24; refine (cTaken_no (by decide) _ _ _).mono ?_; rintro e w' ⟨rfl, rfl⟩)
  have D := D8
  generalize Wm = W10 at *
  clear i0 i1 i2 i3
  go_upto_region 30 with (fail)
  have o0 : W10.heap[W5.heap.size]? = some (.cells (stA { s with pc := (s.pc + 4) % 4294967296 }) 25 (0, 0)) := D.o.row
  have T6 : W10.there (w.heap.size + 1) 0 (stA { s with pc := (s.pc + 4) % 4294967296 }).size := by rw [stA_size D.o.len]; exact D.res.there
  have hi0 := hi25 D.o.len
  have o5 := D.res.setAll (stA { s with pc := (s.pc + 4) % 4294967296 }).toList (by rw [Array.length_toList, stA_size D.o.len]; rfl)
  rw [Array.toArray_toList] at o5
  have hlow := D.low
  go_wp2_with (first
    | (with_reducible refine wpList_load_row rfl 25 (.tmp 12) rfl W5.heap.size rfl 25 (stA { s with pc := (s.pc + 4) % 4294967296 }) (0, 0) _ o0 Try.underlying25 rfl hi0 ?_)
    | (with_reducible refine wpList_store_mid rfl 25 (.tmp 6) (.tmp 133) rfl (w.heap.size + 1) 0 (stA { s with pc := (s.pc + 4) % 4294967296 }) rfl rfl T6 hi0 (stA_one _) ?_)
    | exact bodyPost_ret (results_cell_row rfl _ _ (w.heap.size + 1) 25 (stA { s with pc := (s.pc + 4) % 4294967296 }) (0, 0) _ rfl o5 Try.underlying25 rfl hi0) rfl ⟨rfl, below_setCells _ 0 hlow (by omega)⟩)
set_option maxRecDepth 100000 in
set_option maxHeartbeats 1000000 in
theorem cDone17n {s : St} (hs : s.ok) {x : Int} (hok : okL x = true) (h0 : 0 ≤ x) (h1 : x < 4294967296) {n : Int} {ka kb : Nat} (hka : ka < 8) (hkb : kb < 8) (bn : -32768 ≤ n ∧ n ≤ 32767) (e1 : dOp x = 17) (e2 : dA x = ka) (e3 : dB x = kb) (e4 : dN x = n)
    {av bv : Int} (ra : u32? av) (rb : u32? bv) (ea : reg s ka = av) (eb : reg s kb = bv) {pk : Wt} (hpl : planL s x = pk) (hk : (pk.kind == 1) = false) {told : Int} (ht : ((av == bv) = false)) (w : World) :
    Calls Try.prog 12 #[.agg (stA s), .int .u32 x, .int .u32 told] w fun e w' => e = .returned (.agg (stA { s with pc := (s.pc + 4) % 4294967296 })) ∧ Below w.heap.size w w' := by
  have hall := And.intro bn (And.intro ra rb)
  clear hall
  obtain ⟨K1, K2, Hb, hsz⟩ := cells2 w (stA s) (stA zst) 25 25
  have hz := zst_lit
  have hi := hi25 hs.len
  have hP := fun W => cPlan hs h0 h1 W
  rw [hpl] at hP
  clear hpl
  have HP := Lib.hid hP
  clear hP
  go_enter Try.func12, Try.ntmps12
  go_upto_region 1 with (fail)
  generalize (w.alloc _).alloc _ = W at *
  clear hz
  have A : StAt W w.heap.size s := ⟨K1, hs.len⟩
  have A' : W.heap[w.heap.size]? = some (.cells (stA s) 25 (0, 0)) := A.row
  go_wp2_with (with_reducible refine wpList_load_row rfl 25 (.tmp 3) rfl w.heap.size rfl 25 (stA s) (0, 0) _ A' Try.underlying25 rfl hi ?_)
  refine (HP.out W).mono ?_
  rintro e W1 ⟨rfl, hb1⟩
  obtain ⟨KP, hbp, sp⟩ := cells1 W1 (wtA pk) 42
  have B1 := Hb.trans (hb1.mono Hb.size)
  have A1 := A.below hb1 A.lt
  have K21 := K2.below hb1 K2.lt
  go_wp2_with fail
  unfold wtA at KP hbp
  generalize W1.alloc _ = W2 at *
  clear KP
  refine (cDecode_in hok h0 h1 W2).mono ?_
  rintro e W3 ⟨rfl, hb3⟩
  rw [e1, e2, e3, e4]
  clear hok h0 h1 e1 e2 e3 e4
  have B2 := B1.trans (hbp.mono B1.size)
  have A2 := A1.below hbp A1.lt
  have K22 := K21.below hbp K21.lt
  have A3 := A2.below hb3 A2.lt
  have K23 := K22.below hb3 K22.lt
  have B3 := B2.trans (hb3.mono B2.size)
  obtain ⟨Ki, hbi, si⟩ := cells1 W3 (instA 17 ka kb n) 54
  have A4 := A3.below hbi A3.lt
  have K24 := K23.below hbi K23.lt
  have B4 := B3.trans (hbi.mono B3.size)
  have l3 := K23.lt
  clear A A' A1 A2 A3 K1 K2 K21 K22 K23 B1 B2 B3 hb1 hb3 hbp hbi Hb hsz sp si
  unfold instA at Ki A4 K24 B4
  obtain ⟨W4, eW4⟩ : ∃ W4, W3.alloc (.cells #[.int .i64 17, .int .i64 ka, .int .i64 kb, .int .i64 n] 54) = W4 := ⟨_, rfl⟩
  rw [eW4] at Ki A4 K24 B4
  have i1 := (Ki.cell 1).trans (show _ = some (Value.int .i64 ka) from rfl)
  have i2 := (Ki.cell 2).trans (show _ = some (Value.int .i64 kb) from rfl)
  have r1 := A4.reg (k := ka) hka
  have r2 := A4.reg (k := kb) hkb
  rw [ea] at r1
  rw [eb] at r2
  go_wp2_with fail
  have x1 : (0 : Int) ≤ (ka : Int) := by omega
  have x2 : (ka : Int) < 8 := by omega
  have x3 : (0 : Int) ≤ (kb : Int) := by omega
  have x4 : (kb : Int) < 8 := by omega
  refine wp_region_still_lit (by kernel_rfl) (by kernel_rfl) ?_
  repeat still_step
  refine wpStill_nil ?_
  change Exit.then _ _ .normal _ W4.drew
  clear x1 x2 x3 x4 r1 r2 eW4 i1 i2
  have A5 : StAt W4.drew w.heap.size s := ⟨A4.row, hs.len⟩
  have B5 : Below w.heap.size w W4.drew := B4.drew
  have Ki5 : Cells W4.drew W3.heap.size 54 (instA 17 ka kb n) := Ki
  have K25 : Cells W4.drew (w.heap.size + 1) 25 (stA zst) := K24
  clear A4 B4 Ki K24
  generalize W4.drew = W5 at *
  have A5' : W5.heap[w.heap.size]? = some (.cells (stA s) 25 (0, 0)) := A5.row
  obtain ⟨Tz, W6, e6, Ko, hb6, s6⟩ := row_own W5 25 (stA zst) (stA s) (by rw [stA_size hs.len]; rfl)
  have A6 := A5.below hb6 A5.lt
  have O6 : StAt W6 W5.heap.size s := ⟨Ko, hs.len⟩
  have p8 := A6.pc
  have o8 := O6.pc
  have f8 := O6.fz 8
  have hz := zst_lit
  go_wp2_with (first
    | (with_reducible refine wpList_load_row rfl 25 (.tmp 3) rfl w.heap.size rfl 25 (stA s) (0, 0) _ A5' Try.underlying25 rfl hi ?_)
    | (with_reducible refine wpList_store_mid rfl 25 (.tmp 12) (.tmp 40) rfl W5.heap.size 0 (stA s) rfl rfl Tz hi (stA_one _) ?_))
  clear hz
  refine (cAdd _ _ _).mono ?_
  rintro e w' ⟨rfl, rfl⟩
  have D7 : DnAt w (W6.setCell ⟨W5.heap.size, 8, none⟩ (.int .u32 ((s.pc + 4) % 4294967296))) W3.heap.size W5.heap.size s { s with pc := (s.pc + 4) % 4294967296 } 17 ka kb n :=
    ⟨A6.other _ (by have := A5.lt; simp; omega), (K25.below hb6 K25.lt).other _ (by have := K25.lt; simp; omega), (Ki5.below hb6 Ki5.lt).other _ (by have := Ki5.lt; simp; omega), O6.set_pc _, (B5.trans (hb6.mono B5.size)).setCell (p := ⟨W5.heap.size, 8, none⟩) B5.size _, by omega, Ki5.lt⟩
  clear A6 p8 hb6 s6 Tz e6 A5 A5' B5 Ki5 K25
  go_wp2_with fail
  clear O6 o8 f8 Ko
  generalize World.setCell _ _ _ = W7 at *
  have hno := Lib.hid (show ¬ (2 ≤ (17 : Int) ∧ (17 : Int) ≤ 12) by decide)
  have i0 := (D7.i.cell 0).trans (show _ = some (Value.int .i64 17) from rfl)
  have hgi := D7.i.lt
  have D7d : DnAt w W7.drew W3.heap.size W5.heap.size s { s with pc := (s.pc + 4) % 4294967296 } 17 ka kb n := D7.below (Below.refl _ W7).drew
  go_region_held3 (fun w' => w'.cell? ⟨W3.heap.size, 0, none⟩ = some (.int .i64 17))
    (first | exact i0 | exact (hM.low.cell (p := ⟨W3.heap.size, 0, none⟩) hgi).trans i0)
    ((go_at_call 22; refine (cMakes _).mono ?_; rintro e Wm ⟨rfl, hM⟩; have hlk : (Instr.lookup 60 (.map (some W7.heap.size)) (.int .i64 17) true).run Try.prog Wm = .ok (.tuple #[.nilFunc, .bool false]) Wm := mk_look_no hM hno.out))
  have D8 := D7d.below hM.low
  clear i0 D7 D7d hlk hM
  have i0 := (D8.i.cell 0).trans (show _ = some (Value.int .i64 17) from rfl)
  have i1 := (D8.i.cell 1).trans (show _ = some (Value.int .i64 ka) from rfl)
  have i2 := (D8.i.cell 2).trans (show _ = some (Value.int .i64 kb) from rfl)
  have i3 := (D8.i.cell 3).trans (show _ = some (Value.int .i64 n) from rfl)
  have x1 : (0 : Int) ≤ (ka : Int) := by omega
  have x2 : (ka : Int) < 8 := by omega
  have hT := cTaken17 av bv
  rw [ht] at hT
  have HT := Lib.hid hT
  clear hT
  go_upto_region 14 with (go_at_call 24; refine (HT.out _).mono ?_; rintro e w' ⟨rfl, rfl⟩)
  have D := D8
  generalize Wm = W10 at *
  clear i0 i1 i2 i3
  go_upto_region 30 with (fail)
  have o0 : W10.heap[W5.heap.size]? = some (.cells (stA { s with pc := (s.pc + 4) % 4294967296 }) 25 (0, 0)) := D.o.row
  have T6 : W10.there (w.heap.size + 1) 0 (stA { s with pc := (s.pc + 4) % 4294967296 }).size := by rw [stA_size D.o.len]; exact D.res.there
  have hi0 := hi25 D.o.len
  have o5 := D.res.setAll (stA { s with pc := (s.pc + 4) % 4294967296 }).toList (by rw [Array.length_toList, stA_size D.o.len]; rfl)
  rw [Array.toArray_toList] at o5
  have hlow := D.low
  go_wp2_with (first
    | (with_reducible refine wpList_load_row rfl 25 (.tmp 12) rfl W5.heap.size rfl 25 (stA { s with pc := (s.pc + 4) % 4294967296 }) (0, 0) _ o0 Try.underlying25 rfl hi0 ?_)
    | (with_reducible refine wpList_store_mid rfl 25 (.tmp 6) (.tmp 133) rfl (w.heap.size + 1) 0 (stA { s with pc := (s.pc + 4) % 4294967296 }) rfl rfl T6 hi0 (stA_one _) ?_)
    | exact bodyPost_ret (results_cell_row rfl _ _ (w.heap.size + 1) 25 (stA { s with pc := (s.pc + 4) % 4294967296 }) (0, 0) _ rfl o5 Try.underlying25 rfl hi0) rfl ⟨rfl, below_setCells _ 0 hlow (by omega)⟩)
set_option maxRecDepth 100000 in
set_option maxHeartbeats 1000000 in
theorem cDone17y {s : St} (hs : s.ok) {x : Int} (hok : okL x = true) (h0 : 0 ≤ x) (h1 : x < 4294967296) {n : Int} {ka kb : Nat} (hka : ka < 8) (hkb : kb < 8) (bn : -32768 ≤ n ∧ n ≤ 32767) (e1 : dOp x = 17) (e2 : dA x = ka) (e3 : dB x = kb) (e4 : dN x = n)
    {av bv : Int} (ra : u32? av) (rb : u32? bv) (ea : reg s ka = av) (eb : reg s kb = bv) {pk : Wt} (hpl : planL s x = pk) (hk : (pk.kind == 1) = false) {told : Int} (ht : ((av == bv) = true)) (w : World) :
    Calls Try.prog 12 #[.agg (stA s), .int .u32 x, .int .u32 told] w fun e w' => e = .returned (.agg (stA { s with pc := (s.pc + 4 * immL n) % 4294967296 })) ∧ Below w.heap.size w w' := by
  have hall := And.intro bn (And.intro ra rb)
  clear hall
  obtain ⟨K1, K2, Hb, hsz⟩ := cells2 w (stA s) (stA zst) 25 25
  have hz := zst_lit
  have hi := hi25 hs.len
  have hP := fun W => cPlan hs h0 h1 W
  rw [hpl] at hP
  clear hpl
  have HP := Lib.hid hP
  clear hP
  go_enter Try.func12, Try.ntmps12
  go_upto_region 1 with (fail)
  generalize (w.alloc _).alloc _ = W at *
  clear hz
  have A : StAt W w.heap.size s := ⟨K1, hs.len⟩
  have A' : W.heap[w.heap.size]? = some (.cells (stA s) 25 (0, 0)) := A.row
  go_wp2_with (with_reducible refine wpList_load_row rfl 25 (.tmp 3) rfl w.heap.size rfl 25 (stA s) (0, 0) _ A' Try.underlying25 rfl hi ?_)
  refine (HP.out W).mono ?_
  rintro e W1 ⟨rfl, hb1⟩
  obtain ⟨KP, hbp, sp⟩ := cells1 W1 (wtA pk) 42
  have B1 := Hb.trans (hb1.mono Hb.size)
  have A1 := A.below hb1 A.lt
  have K21 := K2.below hb1 K2.lt
  go_wp2_with fail
  unfold wtA at KP hbp
  generalize W1.alloc _ = W2 at *
  clear KP
  refine (cDecode_in hok h0 h1 W2).mono ?_
  rintro e W3 ⟨rfl, hb3⟩
  rw [e1, e2, e3, e4]
  clear hok h0 h1 e1 e2 e3 e4
  have B2 := B1.trans (hbp.mono B1.size)
  have A2 := A1.below hbp A1.lt
  have K22 := K21.below hbp K21.lt
  have A3 := A2.below hb3 A2.lt
  have K23 := K22.below hb3 K22.lt
  have B3 := B2.trans (hb3.mono B2.size)
  obtain ⟨Ki, hbi, si⟩ := cells1 W3 (instA 17 ka kb n) 54
  have A4 := A3.below hbi A3.lt
  have K24 := K23.below hbi K23.lt
  have B4 := B3.trans (hbi.mono B3.size)
  have l3 := K23.lt
  clear A A' A1 A2 A3 K1 K2 K21 K22 K23 B1 B2 B3 hb1 hb3 hbp hbi Hb hsz sp si
  unfold instA at Ki A4 K24 B4
  obtain ⟨W4, eW4⟩ : ∃ W4, W3.alloc (.cells #[.int .i64 17, .int .i64 ka, .int .i64 kb, .int .i64 n] 54) = W4 := ⟨_, rfl⟩
  rw [eW4] at Ki A4 K24 B4
  have i1 := (Ki.cell 1).trans (show _ = some (Value.int .i64 ka) from rfl)
  have i2 := (Ki.cell 2).trans (show _ = some (Value.int .i64 kb) from rfl)
  have r1 := A4.reg (k := ka) hka
  have r2 := A4.reg (k := kb) hkb
  rw [ea] at r1
  rw [eb] at r2
  go_wp2_with fail
  have x1 : (0 : Int) ≤ (ka : Int) := by omega
  have x2 : (ka : Int) < 8 := by omega
  have x3 : (0 : Int) ≤ (kb : Int) := by omega
  have x4 : (kb : Int) < 8 := by omega
  refine wp_region_still_lit (by kernel_rfl) (by kernel_rfl) ?_
  repeat still_step
  refine wpStill_nil ?_
  change Exit.then _ _ .normal _ W4.drew
  clear x1 x2 x3 x4 r1 r2 eW4 i1 i2
  have A5 : StAt W4.drew w.heap.size s := ⟨A4.row, hs.len⟩
  have B5 : Below w.heap.size w W4.drew := B4.drew
  have Ki5 : Cells W4.drew W3.heap.size 54 (instA 17 ka kb n) := Ki
  have K25 : Cells W4.drew (w.heap.size + 1) 25 (stA zst) := K24
  clear A4 B4 Ki K24
  generalize W4.drew = W5 at *
  have A5' : W5.heap[w.heap.size]? = some (.cells (stA s) 25 (0, 0)) := A5.row
  obtain ⟨Tz, W6, e6, Ko, hb6, s6⟩ := row_own W5 25 (stA zst) (stA s) (by rw [stA_size hs.len]; rfl)
  have A6 := A5.below hb6 A5.lt
  have O6 : StAt W6 W5.heap.size s := ⟨Ko, hs.len⟩
  have p8 := A6.pc
  have o8 := O6.pc
  have f8 := O6.fz 8
  have hz := zst_lit
  go_wp2_with (first
    | (with_reducible refine wpList_load_row rfl 25 (.tmp 3) rfl w.heap.size rfl 25 (stA s) (0, 0) _ A5' Try.underlying25 rfl hi ?_)
    | (with_reducible refine wpList_store_mid rfl 25 (.tmp 12) (.tmp 40) rfl W5.heap.size 0 (stA s) rfl rfl Tz hi (stA_one _) ?_))
  clear hz
  refine (cAdd _ _ _).mono ?_
  rintro e w' ⟨rfl, rfl⟩
  have D7 : DnAt w (W6.setCell ⟨W5.heap.size, 8, none⟩ (.int .u32 ((s.pc + 4) % 4294967296))) W3.heap.size W5.heap.size s { s with pc := (s.pc + 4) % 4294967296 } 17 ka kb n :=
    ⟨A6.other _ (by have := A5.lt; simp; omega), (K25.below hb6 K25.lt).other _ (by have := K25.lt; simp; omega), (Ki5.below hb6 Ki5.lt).other _ (by have := Ki5.lt; simp; omega), O6.set_pc _, (B5.trans (hb6.mono B5.size)).setCell (p := ⟨W5.heap.size, 8, none⟩) B5.size _, by omega, Ki5.lt⟩
  clear A6 p8 hb6 s6 Tz e6 A5 A5' B5 Ki5 K25
  go_wp2_with fail
  clear O6 o8 f8 Ko
  generalize World.setCell _ _ _ = W7 at *
  have hno := Lib.hid (show ¬ (2 ≤ (17 : Int) ∧ (17 : Int) ≤ 12) by decide)
  have i0 := (D7.i.cell 0).trans (show _ = some (Value.int .i64 17) from rfl)
  have hgi := D7.i.lt
  have D7d : DnAt w W7.drew W3.heap.size W5.heap.size s { s with pc := (s.pc + 4) % 4294967296 } 17 ka kb n := D7.below (Below.refl _ W7).drew
  go_region_held3 (fun w' => w'.cell? ⟨W3.heap.size, 0, none⟩ = some (.int .i64 17))
    (first | exact i0 | exact (hM.low.cell (p := ⟨W3.heap.size, 0, none⟩) hgi).trans i0)
    ((go_at_call 22; refine (cMakes _).mono ?_; rintro e Wm ⟨rfl, hM⟩; have hlk : (Instr.lookup 60 (.map (some W7.heap.size)) (.int .i64 17) true).run Try.prog Wm = .ok (.tuple #[.nilFunc, .bool false]) Wm := mk_look_no hM hno.out))
  have D8 := D7d.below hM.low
  clear i0 D7 D7d hlk hM
  have i0 := (D8.i.cell 0).trans (show _ = some (Value.int .i64 17) from rfl)
  have i1 := (D8.i.cell 1).trans (show _ = some (Value.int .i64 ka) from rfl)
  have i2 := (D8.i.cell 2).trans (show _ = some (Value.int .i64 kb) from rfl)
  have i3 := (D8.i.cell 3).trans (show _ = some (Value.int .i64 n) from rfl)
  have x1 : (0 : Int) ≤ (ka : Int) := by omega
  have x2 : (ka : Int) < 8 := by omega
  have hT := cTaken17 av bv
  rw [ht] at hT
  have HT := Lib.hid hT
  clear hT
  go_upto_region 13 with (go_at_call 24; refine (HT.out _).mono ?_; rintro e w' ⟨rfl, rfl⟩)
  have D8d : DnAt w Wm.drew W3.heap.size W5.heap.size s { s with pc := (s.pc + 4) % 4294967296 } 17 ka kb n := D8.below (Below.refl _ Wm).drew
  go_region_held3 (fun w' => w'.cell? ⟨W3.heap.size, 0, none⟩ = some (.int .i64 17) ∧ w'.cell? ⟨W3.heap.size, 1, none⟩ = some (.int .i64 ka) ∧ w'.cell? ⟨W3.heap.size, 2, none⟩ = some (.int .i64 kb) ∧ w'.cell? ⟨W3.heap.size, 3, none⟩ = some (.int .i64 n) ∧ w'.cell? ⟨w.heap.size, 8, none⟩ = some (.int .u32 s.pc))
    (first | exact D8d.ics | exact D9.ics | exact (D9.setO (D9.o.set_pc _)).ics)
    (first
      | (go_at_call 23; refine (cImm bn _).mono ?_; rintro e W9 ⟨rfl, hb9⟩; have D9 := D8d.below hb9; have oc := D9.o.pc; have of := D9.o.fz 8)
      | (go_at_call 25; refine (cMul _ _ _).mono ?_; rintro e w' ⟨rfl, rfl⟩)
      | (go_at_call 21; refine (cAdd _ _ _).mono ?_; rintro e w' ⟨rfl, rfl⟩))
  have D10 := D9.setO (D9.o.set_pc ((s.pc + 4 * immL n) % 4294967296))
  clear D9 D8 D8d i0 i1 i2 i3 oc of hb9
  have i0 := (D10.i.cell 0).trans (show _ = some (Value.int .i64 17) from rfl)
  go_upto_region 14 with (fail)
  generalize World.setCell _ _ _ = W10 at *
  go_upto_region 30 with (fail)
  have o0 : W10.heap[W5.heap.size]? = some (.cells (stA { s with pc := (s.pc + 4 * immL n) % 4294967296 }) 25 (0, 0)) := D10.o.row
  have T6 : W10.there (w.heap.size + 1) 0 (stA { s with pc := (s.pc + 4 * immL n) % 4294967296 }).size := by rw [stA_size D10.o.len]; exact D10.res.there
  have hi0 := hi25 D10.o.len
  have o5 := D10.res.setAll (stA { s with pc := (s.pc + 4 * immL n) % 4294967296 }).toList (by rw [Array.length_toList, stA_size D10.o.len]; rfl)
  rw [Array.toArray_toList] at o5
  have hlow := D10.low
  go_wp2_with (first
    | (with_reducible refine wpList_load_row rfl 25 (.tmp 12) rfl W5.heap.size rfl 25 (stA { s with pc := (s.pc + 4 * immL n) % 4294967296 }) (0, 0) _ o0 Try.underlying25 rfl hi0 ?_)
    | (with_reducible refine wpList_store_mid rfl 25 (.tmp 6) (.tmp 133) rfl (w.heap.size + 1) 0 (stA { s with pc := (s.pc + 4 * immL n) % 4294967296 }) rfl rfl T6 hi0 (stA_one _) ?_)
    | exact bodyPost_ret (results_cell_row rfl _ _ (w.heap.size + 1) 25 (stA { s with pc := (s.pc + 4 * immL n) % 4294967296 }) (0, 0) _ rfl o5 Try.underlying25 rfl hi0) rfl ⟨rfl, below_setCells _ 0 hlow (by omega)⟩)
set_option maxRecDepth 100000 in
set_option maxHeartbeats 1000000 in
theorem cDone18n {s : St} (hs : s.ok) {x : Int} (hok : okL x = true) (h0 : 0 ≤ x) (h1 : x < 4294967296) {n : Int} {ka kb : Nat} (hka : ka < 8) (hkb : kb < 8) (bn : -32768 ≤ n ∧ n ≤ 32767) (e1 : dOp x = 18) (e2 : dA x = ka) (e3 : dB x = kb) (e4 : dN x = n)
    {av bv : Int} (ra : u32? av) (rb : u32? bv) (ea : reg s ka = av) (eb : reg s kb = bv) {pk : Wt} (hpl : planL s x = pk) (hk : (pk.kind == 1) = false) {told : Int} (ht : ((av != bv) = false)) (w : World) :
    Calls Try.prog 12 #[.agg (stA s), .int .u32 x, .int .u32 told] w fun e w' => e = .returned (.agg (stA { s with pc := (s.pc + 4) % 4294967296 })) ∧ Below w.heap.size w w' := by
  have hall := And.intro bn (And.intro ra rb)
  clear hall
  obtain ⟨K1, K2, Hb, hsz⟩ := cells2 w (stA s) (stA zst) 25 25
  have hz := zst_lit
  have hi := hi25 hs.len
  have hP := fun W => cPlan hs h0 h1 W
  rw [hpl] at hP
  clear hpl
  have HP := Lib.hid hP
  clear hP
  go_enter Try.func12, Try.ntmps12
  go_upto_region 1 with (fail)
  generalize (w.alloc _).alloc _ = W at *
  clear hz
  have A : StAt W w.heap.size s := ⟨K1, hs.len⟩
  have A' : W.heap[w.heap.size]? = some (.cells (stA s) 25 (0, 0)) := A.row
  go_wp2_with (with_reducible refine wpList_load_row rfl 25 (.tmp 3) rfl w.heap.size rfl 25 (stA s) (0, 0) _ A' Try.underlying25 rfl hi ?_)
  refine (HP.out W).mono ?_
  rintro e W1 ⟨rfl, hb1⟩
  obtain ⟨KP, hbp, sp⟩ := cells1 W1 (wtA pk) 42
  have B1 := Hb.trans (hb1.mono Hb.size)
  have A1 := A.below hb1 A.lt
  have K21 := K2.below hb1 K2.lt
  go_wp2_with fail
  unfold wtA at KP hbp
  generalize W1.alloc _ = W2 at *
  clear KP
  refine (cDecode_in hok h0 h1 W2).mono ?_
  rintro e W3 ⟨rfl, hb3⟩
  rw [e1, e2, e3, e4]
  clear hok h0 h1 e1 e2 e3 e4
  have B2 := B1.trans (hbp.mono B1.size)
  have A2 := A1.below hbp A1.lt
  have K22 := K21.below hbp K21.lt
  have A3 := A2.below hb3 A2.lt
  have K23 := K22.below hb3 K22.lt
  have B3 := B2.trans (hb3.mono B2.size)
  obtain ⟨Ki, hbi, si⟩ := cells1 W3 (instA 18 ka kb n) 54
  have A4 := A3.below hbi A3.lt
  have K24 := K23.below hbi K23.lt
  have B4 := B3.trans (hbi.mono B3.size)
  have l3 := K23.lt
  clear A A' A1 A2 A3 K1 K2 K21 K22 K23 B1 B2 B3 hb1 hb3 hbp hbi Hb hsz sp si
  unfold instA at Ki A4 K24 B4
  obtain ⟨W4, eW4⟩ : ∃ W4, W3.alloc (.cells #[.int .i64 18, .int .i64 ka, .int .i64 kb, .int .i64 n] 54) = W4 := ⟨_, rfl⟩
  rw [eW4] at Ki A4 K24 B4
  have i1 := (Ki.cell 1).trans (show _ = some (Value.int .i64 ka) from rfl)
  have i2 := (Ki.cell 2).trans (show _ = some (Value.int .i64 kb) from rfl)
  have r1 := A4.reg (k := ka) hka
  have r2 := A4.reg (k := kb) hkb
  rw [ea] at r1
  rw [eb] at r2
  go_wp2_with fail
  have x1 : (0 : Int) ≤ (ka : Int) := by omega
  have x2 : (ka : Int) < 8 := by omega
  have x3 : (0 : Int) ≤ (kb : Int) := by omega
  have x4 : (kb : Int) < 8 := by omega
  refine wp_region_still_lit (by kernel_rfl) (by kernel_rfl) ?_
  repeat still_step
  refine wpStill_nil ?_
  change Exit.then _ _ .normal _ W4.drew
  clear x1 x2 x3 x4 r1 r2 eW4 i1 i2
  have A5 : StAt W4.drew w.heap.size s := ⟨A4.row, hs.len⟩
  have B5 : Below w.heap.size w W4.drew := B4.drew
  have Ki5 : Cells W4.drew W3.heap.size 54 (instA 18 ka kb n) := Ki
  have K25 : Cells W4.drew (w.heap.size + 1) 25 (stA zst) := K24
  clear A4 B4 Ki K24
  generalize W4.drew = W5 at *
  have A5' : W5.heap[w.heap.size]? = some (.cells (stA s) 25 (0, 0)) := A5.row
  obtain ⟨Tz, W6, e6, Ko, hb6, s6⟩ := row_own W5 25 (stA zst) (stA s) (by rw [stA_size hs.len]; rfl)
  have A6 := A5.below hb6 A5.lt
  have O6 : StAt W6 W5.heap.size s := ⟨Ko, hs.len⟩
  have p8 := A6.pc
  have o8 := O6.pc
  have f8 := O6.fz 8
  have hz := zst_lit
  go_wp2_with (first
    | (with_reducible refine wpList_load_row rfl 25 (.tmp 3) rfl w.heap.size rfl 25 (stA s) (0, 0) _ A5' Try.underlying25 rfl hi ?_)
    | (with_reducible refine wpList_store_mid rfl 25 (.tmp 12) (.tmp 40) rfl W5.heap.size 0 (stA s) rfl rfl Tz hi (stA_one _) ?_))
  clear hz
  refine (cAdd _ _ _).mono ?_
  rintro e w' ⟨rfl, rfl⟩
  have D7 : DnAt w (W6.setCell ⟨W5.heap.size, 8, none⟩ (.int .u32 ((s.pc + 4) % 4294967296))) W3.heap.size W5.heap.size s { s with pc := (s.pc + 4) % 4294967296 } 18 ka kb n :=
    ⟨A6.other _ (by have := A5.lt; simp; omega), (K25.below hb6 K25.lt).other _ (by have := K25.lt; simp; omega), (Ki5.below hb6 Ki5.lt).other _ (by have := Ki5.lt; simp; omega), O6.set_pc _, (B5.trans (hb6.mono B5.size)).setCell (p := ⟨W5.heap.size, 8, none⟩) B5.size _, by omega, Ki5.lt⟩
  clear A6 p8 hb6 s6 Tz e6 A5 A5' B5 Ki5 K25
  go_wp2_with fail
  clear O6 o8 f8 Ko
  generalize World.setCell _ _ _ = W7 at *
  have hno := Lib.hid (show ¬ (2 ≤ (18 : Int) ∧ (18 : Int) ≤ 12) by decide)
  have i0 := (D7.i.cell 0).trans (show _ = some (Value.int .i64 18) from rfl)
  have hgi := D7.i.lt
  have D7d : DnAt w W7.drew W3.heap.size W5.heap.size s { s with pc := (s.pc + 4) % 4294967296 } 18 ka kb n := D7.below (Below.refl _ W7).drew
  go_region_held3 (fun w' => w'.cell? ⟨W3.heap.size, 0, none⟩ = some (.int .i64 18))
    (first | exact i0 | exact (hM.low.cell (p := ⟨W3.heap.size, 0, none⟩) hgi).trans i0)
    ((go_at_call 22; refine (cMakes _).mono ?_; rintro e Wm ⟨rfl, hM⟩; have hlk : (Instr.lookup 60 (.map (some W7.heap.size)) (.int .i64 18) true).run Try.prog Wm = .ok (.tuple #[.nilFunc, .bool false]) Wm := mk_look_no hM hno.out))
  have D8 := D7d.below hM.low
  clear i0 D7 D7d hlk hM
  have i0 := (D8.i.cell 0).trans (show _ = some (Value.int .i64 18) from rfl)
  have i1 := (D8.i.cell 1).trans (show _ = some (Value.int .i64 ka) from rfl)
  have i2 := (D8.i.cell 2).trans (show _ = some (Value.int .i64 kb) from rfl)
  have i3 := (D8.i.cell 3).trans (show _ = some (Value.int .i64 n) from rfl)
  have x1 : (0 : Int) ≤ (ka : Int) := by omega
  have x2 : (ka : Int) < 8 := by omega
  have hT := cTaken18 av bv
  rw [ht] at hT
  have HT := Lib.hid hT
  clear hT
  go_upto_region 14 with (go_at_call 24; refine (HT.out _).mono ?_; rintro e w' ⟨rfl, rfl⟩)
  have D := D8
  generalize Wm = W10 at *
  clear i0 i1 i2 i3
  go_upto_region 30 with (fail)
  have o0 : W10.heap[W5.heap.size]? = some (.cells (stA { s with pc := (s.pc + 4) % 4294967296 }) 25 (0, 0)) := D.o.row
  have T6 : W10.there (w.heap.size + 1) 0 (stA { s with pc := (s.pc + 4) % 4294967296 }).size := by rw [stA_size D.o.len]; exact D.res.there
  have hi0 := hi25 D.o.len
  have o5 := D.res.setAll (stA { s with pc := (s.pc + 4) % 4294967296 }).toList (by rw [Array.length_toList, stA_size D.o.len]; rfl)
  rw [Array.toArray_toList] at o5
  have hlow := D.low
  go_wp2_with (first
    | (with_reducible refine wpList_load_row rfl 25 (.tmp 12) rfl W5.heap.size rfl 25 (stA { s with pc := (s.pc + 4) % 4294967296 }) (0, 0) _ o0 Try.underlying25 rfl hi0 ?_)
    | (with_reducible refine wpList_store_mid rfl 25 (.tmp 6) (.tmp 133) rfl (w.heap.size + 1) 0 (stA { s with pc := (s.pc + 4) % 4294967296 }) rfl rfl T6 hi0 (stA_one _) ?_)
    | exact bodyPost_ret (results_cell_row rfl _ _ (w.heap.size + 1) 25 (stA { s with pc := (s.pc + 4) % 4294967296 }) (0, 0) _ rfl o5 Try.underlying25 rfl hi0) rfl ⟨rfl, below_setCells _ 0 hlow (by omega)⟩)
set_option maxRecDepth 100000 in
set_option maxHeartbeats 1000000 in
theorem cDone18y {s : St} (hs : s.ok) {x : Int} (hok : okL x = true) (h0 : 0 ≤ x) (h1 : x < 4294967296) {n : Int} {ka kb : Nat} (hka : ka < 8) (hkb : kb < 8) (bn : -32768 ≤ n ∧ n ≤ 32767) (e1 : dOp x = 18) (e2 : dA x = ka) (e3 : dB x = kb) (e4 : dN x = n)
    {av bv : Int} (ra : u32? av) (rb : u32? bv) (ea : reg s ka = av) (eb : reg s kb = bv) {pk : Wt} (hpl : planL s x = pk) (hk : (pk.kind == 1) = false) {told : Int} (ht : ((av != bv) = true)) (w : World) :
    Calls Try.prog 12 #[.agg (stA s), .int .u32 x, .int .u32 told] w fun e w' => e = .returned (.agg (stA { s with pc := (s.pc + 4 * immL n) % 4294967296 })) ∧ Below w.heap.size w w' := by
  have hall := And.intro bn (And.intro ra rb)
  clear hall
  obtain ⟨K1, K2, Hb, hsz⟩ := cells2 w (stA s) (stA zst) 25 25
  have hz := zst_lit
  have hi := hi25 hs.len
  have hP := fun W => cPlan hs h0 h1 W
  rw [hpl] at hP
  clear hpl
  have HP := Lib.hid hP
  clear hP
  go_enter Try.func12, Try.ntmps12
  go_upto_region 1 with (fail)
  generalize (w.alloc _).alloc _ = W at *
  clear hz
  have A : StAt W w.heap.size s := ⟨K1, hs.len⟩
  have A' : W.heap[w.heap.size]? = some (.cells (stA s) 25 (0, 0)) := A.row
  go_wp2_with (with_reducible refine wpList_load_row rfl 25 (.tmp 3) rfl w.heap.size rfl 25 (stA s) (0, 0) _ A' Try.underlying25 rfl hi ?_)
  refine (HP.out W).mono ?_
  rintro e W1 ⟨rfl, hb1⟩
  obtain ⟨KP, hbp, sp⟩ := cells1 W1 (wtA pk) 42
  have B1 := Hb.trans (hb1.mono Hb.size)
  have A1 := A.below hb1 A.lt
  have K21 := K2.below hb1 K2.lt
  go_wp2_with fail
  unfold wtA at KP hbp
  generalize W1.alloc _ = W2 at *
  clear KP
  refine (cDecode_in hok h0 h1 W2).mono ?_
  rintro e W3 ⟨rfl, hb3⟩
  rw [e1, e2, e3, e4]
  clear hok h0 h1 e1 e2 e3 e4
  have B2 := B1.trans (hbp.mono B1.size)
  have A2 := A1.below hbp A1.lt
  have K22 := K21.below hbp K21.lt
  have A3 := A2.below hb3 A2.lt
  have K23 := K22.below hb3 K22.lt
  have B3 := B2.trans (hb3.mono B2.size)
  obtain ⟨Ki, hbi, si⟩ := cells1 W3 (instA 18 ka kb n) 54
  have A4 := A3.below hbi A3.lt
  have K24 := K23.below hbi K23.lt
  have B4 := B3.trans (hbi.mono B3.size)
  have l3 := K23.lt
  clear A A' A1 A2 A3 K1 K2 K21 K22 K23 B1 B2 B3 hb1 hb3 hbp hbi Hb hsz sp si
  unfold instA at Ki A4 K24 B4
  obtain ⟨W4, eW4⟩ : ∃ W4, W3.alloc (.cells #[.int .i64 18, .int .i64 ka, .int .i64 kb, .int .i64 n] 54) = W4 := ⟨_, rfl⟩
  rw [eW4] at Ki A4 K24 B4
  have i1 := (Ki.cell 1).trans (show _ = some (Value.int .i64 ka) from rfl)
  have i2 := (Ki.cell 2).trans (show _ = some (Value.int .i64 kb) from rfl)
  have r1 := A4.reg (k := ka) hka
  have r2 := A4.reg (k := kb) hkb
  rw [ea] at r1
  rw [eb] at r2
  go_wp2_with fail
  have x1 : (0 : Int) ≤ (ka : Int) := by omega
  have x2 : (ka : Int) < 8 := by omega
  have x3 : (0 : Int) ≤ (kb : Int) := by omega
  have x4 : (kb : Int) < 8 := by omega
  refine wp_region_still_lit (by kernel_rfl) (by kernel_rfl) ?_
  repeat still_step
  refine wpStill_nil ?_
  change Exit.then _ _ .normal _ W4.drew
  clear x1 x2 x3 x4 r1 r2 eW4 i1 i2
  have A5 : StAt W4.drew w.heap.size s := ⟨A4.row, hs.len⟩
  have B5 : Below w.heap.size w W4.drew := B4.drew
  have Ki5 : Cells W4.drew W3.heap.size 54 (instA 18 ka kb n) := Ki
  have K25 : Cells W4.drew (w.heap.size + 1) 25 (stA zst) := K24
  clear A4 B4 Ki K24
  generalize W4.drew = W5 at *
  have A5' : W5.heap[w.heap.size]? = some (.cells (stA s) 25 (0, 0)) := A5.row
  obtain ⟨Tz, W6, e6, Ko, hb6, s6⟩ := row_own W5 25 (stA zst) (stA s) (by rw [stA_size hs.len]; rfl)
  have A6 := A5.below hb6 A5.lt
  have O6 : StAt W6 W5.heap.size s := ⟨Ko, hs.len⟩
  have p8 := A6.pc
  have o8 := O6.pc
  have f8 := O6.fz 8
  have hz := zst_lit
  go_wp2_with (first
    | (with_reducible refine wpList_load_row rfl 25 (.tmp 3) rfl w.heap.size rfl 25 (stA s) (0, 0) _ A5' Try.underlying25 rfl hi ?_)
    | (with_reducible refine wpList_store_mid rfl 25 (.tmp 12) (.tmp 40) rfl W5.heap.size 0 (stA s) rfl rfl Tz hi (stA_one _) ?_))
  clear hz
  refine (cAdd _ _ _).mono ?_
  rintro e w' ⟨rfl, rfl⟩
  have D7 : DnAt w (W6.setCell ⟨W5.heap.size, 8, none⟩ (.int .u32 ((s.pc + 4) % 4294967296))) W3.heap.size W5.heap.size s { s with pc := (s.pc + 4) % 4294967296 } 18 ka kb n :=
    ⟨A6.other _ (by have := A5.lt; simp; omega), (K25.below hb6 K25.lt).other _ (by have := K25.lt; simp; omega), (Ki5.below hb6 Ki5.lt).other _ (by have := Ki5.lt; simp; omega), O6.set_pc _, (B5.trans (hb6.mono B5.size)).setCell (p := ⟨W5.heap.size, 8, none⟩) B5.size _, by omega, Ki5.lt⟩
  clear A6 p8 hb6 s6 Tz e6 A5 A5' B5 Ki5 K25
  go_wp2_with fail
  clear O6 o8 f8 Ko
  generalize World.setCell _ _ _ = W7 at *
  have hno := Lib.hid (show ¬ (2 ≤ (18 : Int) ∧ (18 : Int) ≤ 12) by decide)
  have i0 := (D7.i.cell 0).trans (show _ = some (Value.int .i64 18) from rfl)
  have hgi := D7.i.lt
  have D7d : DnAt w W7.drew W3.heap.size W5.heap.size s { s with pc := (s.pc + 4) % 4294967296 } 18 ka kb n := D7.below (Below.refl _ W7).drew
  go_region_held3 (fun w' => w'.cell? ⟨W3.heap.size, 0, none⟩ = some (.int .i64 18))
    (first | exact i0 | exact (hM.low.cell (p := ⟨W3.heap.size, 0, none⟩) hgi).trans i0)
    ((go_at_call 22; refine (cMakes _).mono ?_; rintro e Wm ⟨rfl, hM⟩; have hlk : (Instr.lookup 60 (.map (some W7.heap.size)) (.int .i64 18) true).run Try.prog Wm = .ok (.tuple #[.nilFunc, .bool false]) Wm := mk_look_no hM hno.out))
  have D8 := D7d.below hM.low
  clear i0 D7 D7d hlk hM
  have i0 := (D8.i.cell 0).trans (show _ = some (Value.int .i64 18) from rfl)
  have i1 := (D8.i.cell 1).trans (show _ = some (Value.int .i64 ka) from rfl)
  have i2 := (D8.i.cell 2).trans (show _ = some (Value.int .i64 kb) from rfl)
  have i3 := (D8.i.cell 3).trans (show _ = some (Value.int .i64 n) from rfl)
  have x1 : (0 : Int) ≤ (ka : Int) := by omega
  have x2 : (ka : Int) < 8 := by omega
  have hT := cTaken18 av bv
  rw [ht] at hT
  have HT := Lib.hid hT
  clear hT
  go_upto_region 13 with (go_at_call 24; refine (HT.out _).mono ?_; rintro e w' ⟨rfl, rfl⟩)
  have D8d : DnAt w Wm.drew W3.heap.size W5.heap.size s { s with pc := (s.pc + 4) % 4294967296 } 18 ka kb n := D8.below (Below.refl _ Wm).drew
  go_region_held3 (fun w' => w'.cell? ⟨W3.heap.size, 0, none⟩ = some (.int .i64 18) ∧ w'.cell? ⟨W3.heap.size, 1, none⟩ = some (.int .i64 ka) ∧ w'.cell? ⟨W3.heap.size, 2, none⟩ = some (.int .i64 kb) ∧ w'.cell? ⟨W3.heap.size, 3, none⟩ = some (.int .i64 n) ∧ w'.cell? ⟨w.heap.size, 8, none⟩ = some (.int .u32 s.pc))
    (first | exact D8d.ics | exact D9.ics | exact (D9.setO (D9.o.set_pc _)).ics)
    (first
      | (go_at_call 23; refine (cImm bn _).mono ?_; rintro e W9 ⟨rfl, hb9⟩; have D9 := D8d.below hb9; have oc := D9.o.pc; have of := D9.o.fz 8)
      | (go_at_call 25; refine (cMul _ _ _).mono ?_; rintro e w' ⟨rfl, rfl⟩)
      | (go_at_call 21; refine (cAdd _ _ _).mono ?_; rintro e w' ⟨rfl, rfl⟩))
  have D10 := D9.setO (D9.o.set_pc ((s.pc + 4 * immL n) % 4294967296))
  clear D9 D8 D8d i0 i1 i2 i3 oc of hb9
  have i0 := (D10.i.cell 0).trans (show _ = some (Value.int .i64 18) from rfl)
  go_upto_region 14 with (fail)
  generalize World.setCell _ _ _ = W10 at *
  go_upto_region 30 with (fail)
  have o0 : W10.heap[W5.heap.size]? = some (.cells (stA { s with pc := (s.pc + 4 * immL n) % 4294967296 }) 25 (0, 0)) := D10.o.row
  have T6 : W10.there (w.heap.size + 1) 0 (stA { s with pc := (s.pc + 4 * immL n) % 4294967296 }).size := by rw [stA_size D10.o.len]; exact D10.res.there
  have hi0 := hi25 D10.o.len
  have o5 := D10.res.setAll (stA { s with pc := (s.pc + 4 * immL n) % 4294967296 }).toList (by rw [Array.length_toList, stA_size D10.o.len]; rfl)
  rw [Array.toArray_toList] at o5
  have hlow := D10.low
  go_wp2_with (first
    | (with_reducible refine wpList_load_row rfl 25 (.tmp 12) rfl W5.heap.size rfl 25 (stA { s with pc := (s.pc + 4 * immL n) % 4294967296 }) (0, 0) _ o0 Try.underlying25 rfl hi0 ?_)
    | (with_reducible refine wpList_store_mid rfl 25 (.tmp 6) (.tmp 133) rfl (w.heap.size + 1) 0 (stA { s with pc := (s.pc + 4 * immL n) % 4294967296 }) rfl rfl T6 hi0 (stA_one _) ?_)
    | exact bodyPost_ret (results_cell_row rfl _ _ (w.heap.size + 1) 25 (stA { s with pc := (s.pc + 4 * immL n) % 4294967296 }) (0, 0) _ rfl o5 Try.underlying25 rfl hi0) rfl ⟨rfl, below_setCells _ 0 hlow (by omega)⟩)
set_option maxRecDepth 100000 in
set_option maxHeartbeats 1000000 in
theorem cDone19n {s : St} (hs : s.ok) {x : Int} (hok : okL x = true) (h0 : 0 ≤ x) (h1 : x < 4294967296) {n : Int} {ka kb : Nat} (hka : ka < 8) (hkb : kb < 8) (bn : -32768 ≤ n ∧ n ≤ 32767) (e1 : dOp x = 19) (e2 : dA x = ka) (e3 : dB x = kb) (e4 : dN x = n)
    {av bv : Int} (ra : u32? av) (rb : u32? bv) (ea : reg s ka = av) (eb : reg s kb = bv) {pk : Wt} (hpl : planL s x = pk) (hk : (pk.kind == 1) = false) {told : Int} (ht : ((decide (wrap32 av < wrap32 bv)) = false)) (w : World) :
    Calls Try.prog 12 #[.agg (stA s), .int .u32 x, .int .u32 told] w fun e w' => e = .returned (.agg (stA { s with pc := (s.pc + 4) % 4294967296 })) ∧ Below w.heap.size w w' := by
  have hall := And.intro bn (And.intro ra rb)
  clear hall
  obtain ⟨K1, K2, Hb, hsz⟩ := cells2 w (stA s) (stA zst) 25 25
  have hz := zst_lit
  have hi := hi25 hs.len
  have hP := fun W => cPlan hs h0 h1 W
  rw [hpl] at hP
  clear hpl
  have HP := Lib.hid hP
  clear hP
  go_enter Try.func12, Try.ntmps12
  go_upto_region 1 with (fail)
  generalize (w.alloc _).alloc _ = W at *
  clear hz
  have A : StAt W w.heap.size s := ⟨K1, hs.len⟩
  have A' : W.heap[w.heap.size]? = some (.cells (stA s) 25 (0, 0)) := A.row
  go_wp2_with (with_reducible refine wpList_load_row rfl 25 (.tmp 3) rfl w.heap.size rfl 25 (stA s) (0, 0) _ A' Try.underlying25 rfl hi ?_)
  refine (HP.out W).mono ?_
  rintro e W1 ⟨rfl, hb1⟩
  obtain ⟨KP, hbp, sp⟩ := cells1 W1 (wtA pk) 42
  have B1 := Hb.trans (hb1.mono Hb.size)
  have A1 := A.below hb1 A.lt
  have K21 := K2.below hb1 K2.lt
  go_wp2_with fail
  unfold wtA at KP hbp
  generalize W1.alloc _ = W2 at *
  clear KP
  refine (cDecode_in hok h0 h1 W2).mono ?_
  rintro e W3 ⟨rfl, hb3⟩
  rw [e1, e2, e3, e4]
  clear hok h0 h1 e1 e2 e3 e4
  have B2 := B1.trans (hbp.mono B1.size)
  have A2 := A1.below hbp A1.lt
  have K22 := K21.below hbp K21.lt
  have A3 := A2.below hb3 A2.lt
  have K23 := K22.below hb3 K22.lt
  have B3 := B2.trans (hb3.mono B2.size)
  obtain ⟨Ki, hbi, si⟩ := cells1 W3 (instA 19 ka kb n) 54
  have A4 := A3.below hbi A3.lt
  have K24 := K23.below hbi K23.lt
  have B4 := B3.trans (hbi.mono B3.size)
  have l3 := K23.lt
  clear A A' A1 A2 A3 K1 K2 K21 K22 K23 B1 B2 B3 hb1 hb3 hbp hbi Hb hsz sp si
  unfold instA at Ki A4 K24 B4
  obtain ⟨W4, eW4⟩ : ∃ W4, W3.alloc (.cells #[.int .i64 19, .int .i64 ka, .int .i64 kb, .int .i64 n] 54) = W4 := ⟨_, rfl⟩
  rw [eW4] at Ki A4 K24 B4
  have i1 := (Ki.cell 1).trans (show _ = some (Value.int .i64 ka) from rfl)
  have i2 := (Ki.cell 2).trans (show _ = some (Value.int .i64 kb) from rfl)
  have r1 := A4.reg (k := ka) hka
  have r2 := A4.reg (k := kb) hkb
  rw [ea] at r1
  rw [eb] at r2
  go_wp2_with fail
  have x1 : (0 : Int) ≤ (ka : Int) := by omega
  have x2 : (ka : Int) < 8 := by omega
  have x3 : (0 : Int) ≤ (kb : Int) := by omega
  have x4 : (kb : Int) < 8 := by omega
  refine wp_region_still_lit (by kernel_rfl) (by kernel_rfl) ?_
  repeat still_step
  refine wpStill_nil ?_
  change Exit.then _ _ .normal _ W4.drew
  clear x1 x2 x3 x4 r1 r2 eW4 i1 i2
  have A5 : StAt W4.drew w.heap.size s := ⟨A4.row, hs.len⟩
  have B5 : Below w.heap.size w W4.drew := B4.drew
  have Ki5 : Cells W4.drew W3.heap.size 54 (instA 19 ka kb n) := Ki
  have K25 : Cells W4.drew (w.heap.size + 1) 25 (stA zst) := K24
  clear A4 B4 Ki K24
  generalize W4.drew = W5 at *
  have A5' : W5.heap[w.heap.size]? = some (.cells (stA s) 25 (0, 0)) := A5.row
  obtain ⟨Tz, W6, e6, Ko, hb6, s6⟩ := row_own W5 25 (stA zst) (stA s) (by rw [stA_size hs.len]; rfl)
  have A6 := A5.below hb6 A5.lt
  have O6 : StAt W6 W5.heap.size s := ⟨Ko, hs.len⟩
  have p8 := A6.pc
  have o8 := O6.pc
  have f8 := O6.fz 8
  have hz := zst_lit
  go_wp2_with (first
    | (with_reducible refine wpList_load_row rfl 25 (.tmp 3) rfl w.heap.size rfl 25 (stA s) (0, 0) _ A5' Try.underlying25 rfl hi ?_)
    | (with_reducible refine wpList_store_mid rfl 25 (.tmp 12) (.tmp 40) rfl W5.heap.size 0 (stA s) rfl rfl Tz hi (stA_one _) ?_))
  clear hz
  refine (cAdd _ _ _).mono ?_
  rintro e w' ⟨rfl, rfl⟩
  have D7 : DnAt w (W6.setCell ⟨W5.heap.size, 8, none⟩ (.int .u32 ((s.pc + 4) % 4294967296))) W3.heap.size W5.heap.size s { s with pc := (s.pc + 4) % 4294967296 } 19 ka kb n :=
    ⟨A6.other _ (by have := A5.lt; simp; omega), (K25.below hb6 K25.lt).other _ (by have := K25.lt; simp; omega), (Ki5.below hb6 Ki5.lt).other _ (by have := Ki5.lt; simp; omega), O6.set_pc _, (B5.trans (hb6.mono B5.size)).setCell (p := ⟨W5.heap.size, 8, none⟩) B5.size _, by omega, Ki5.lt⟩
  clear A6 p8 hb6 s6 Tz e6 A5 A5' B5 Ki5 K25
  go_wp2_with fail
  clear O6 o8 f8 Ko
  generalize World.setCell _ _ _ = W7 at *
  have hno := Lib.hid (show ¬ (2 ≤ (19 : Int) ∧ (19 : Int) ≤ 12) by decide)
  have i0 := (D7.i.cell 0).trans (show _ = some (Value.int .i64 19) from rfl)
  have hgi := D7.i.lt
  have D7d : DnAt w W7.drew W3.heap.size W5.heap.size s { s with pc := (s.pc + 4) % 4294967296 } 19 ka kb n := D7.below (Below.refl _ W7).drew
  go_region_held3 (fun w' => w'.cell? ⟨W3.heap.size, 0, none⟩ = some (.int .i64 19))
    (first | exact i0 | exact (hM.low.cell (p := ⟨W3.heap.size, 0, none⟩) hgi).trans i0)
    ((go_at_call 22; refine (cMakes _).mono ?_; rintro e Wm ⟨rfl, hM⟩; have hlk : (Instr.lookup 60 (.map (some W7.heap.size)) (.int .i64 19) true).run Try.prog Wm = .ok (.tuple #[.nilFunc, .bool false]) Wm := mk_look_no hM hno.out))
  have D8 := D7d.below hM.low
  clear i0 D7 D7d hlk hM
  have i0 := (D8.i.cell 0).trans (show _ = some (Value.int .i64 19) from rfl)
  have i1 := (D8.i.cell 1).trans (show _ = some (Value.int .i64 ka) from rfl)
  have i2 := (D8.i.cell 2).trans (show _ = some (Value.int .i64 kb) from rfl)
  have i3 := (D8.i.cell 3).trans (show _ = some (Value.int .i64 n) from rfl)
  have x1 : (0 : Int) ≤ (ka : Int) := by omega
  have x2 : (ka : Int) < 8 := by omega
  have hT := cTaken19 av bv
  rw [ht] at hT
  have HT := Lib.hid hT
  clear hT
  go_upto_region 14 with (go_at_call 24; refine (HT.out _).mono ?_; rintro e w' ⟨rfl, rfl⟩)
  have D := D8
  generalize Wm = W10 at *
  clear i0 i1 i2 i3
  go_upto_region 30 with (fail)
  have o0 : W10.heap[W5.heap.size]? = some (.cells (stA { s with pc := (s.pc + 4) % 4294967296 }) 25 (0, 0)) := D.o.row
  have T6 : W10.there (w.heap.size + 1) 0 (stA { s with pc := (s.pc + 4) % 4294967296 }).size := by rw [stA_size D.o.len]; exact D.res.there
  have hi0 := hi25 D.o.len
  have o5 := D.res.setAll (stA { s with pc := (s.pc + 4) % 4294967296 }).toList (by rw [Array.length_toList, stA_size D.o.len]; rfl)
  rw [Array.toArray_toList] at o5
  have hlow := D.low
  go_wp2_with (first
    | (with_reducible refine wpList_load_row rfl 25 (.tmp 12) rfl W5.heap.size rfl 25 (stA { s with pc := (s.pc + 4) % 4294967296 }) (0, 0) _ o0 Try.underlying25 rfl hi0 ?_)
    | (with_reducible refine wpList_store_mid rfl 25 (.tmp 6) (.tmp 133) rfl (w.heap.size + 1) 0 (stA { s with pc := (s.pc + 4) % 4294967296 }) rfl rfl T6 hi0 (stA_one _) ?_)
    | exact bodyPost_ret (results_cell_row rfl _ _ (w.heap.size + 1) 25 (stA { s with pc := (s.pc + 4) % 4294967296 }) (0, 0) _ rfl o5 Try.underlying25 rfl hi0) rfl ⟨rfl, below_setCells _ 0 hlow (by omega)⟩)
set_option maxRecDepth 100000 in
set_option maxHeartbeats 1000000 in
theorem cDone19y {s : St} (hs : s.ok) {x : Int} (hok : okL x = true) (h0 : 0 ≤ x) (h1 : x < 4294967296) {n : Int} {ka kb : Nat} (hka : ka < 8) (hkb : kb < 8) (bn : -32768 ≤ n ∧ n ≤ 32767) (e1 : dOp x = 19) (e2 : dA x = ka) (e3 : dB x = kb) (e4 : dN x = n)
    {av bv : Int} (ra : u32? av) (rb : u32? bv) (ea : reg s ka = av) (eb : reg s kb = bv) {pk : Wt} (hpl : planL s x = pk) (hk : (pk.kind == 1) = false) {told : Int} (ht : ((decide (wrap32 av < wrap32 bv)) = true)) (w : World) :
    Calls Try.prog 12 #[.agg (stA s), .int .u32 x, .int .u32 told] w fun e w' => e = .returned (.agg (stA { s with pc := (s.pc + 4 * immL n) % 4294967296 })) ∧ Below w.heap.size w w' := by
  have hall := And.intro bn (And.intro ra rb)
  clear hall
  obtain ⟨K1, K2, Hb, hsz⟩ := cells2 w (stA s) (stA zst) 25 25
  have hz := zst_lit
  have hi := hi25 hs.len
  have hP := fun W => cPlan hs h0 h1 W
  rw [hpl] at hP
  clear hpl
  have HP := Lib.hid hP
  clear hP
  go_enter Try.func12, Try.ntmps12
  go_upto_region 1 with (fail)
  generalize (w.alloc _).alloc _ = W at *
  clear hz
  have A : StAt W w.heap.size s := ⟨K1, hs.len⟩
  have A' : W.heap[w.heap.size]? = some (.cells (stA s) 25 (0, 0)) := A.row
  go_wp2_with (with_reducible refine wpList_load_row rfl 25 (.tmp 3) rfl w.heap.size rfl 25 (stA s) (0, 0) _ A' Try.underlying25 rfl hi ?_)
  refine (HP.out W).mono ?_
  rintro e W1 ⟨rfl, hb1⟩
  obtain ⟨KP, hbp, sp⟩ := cells1 W1 (wtA pk) 42
  have B1 := Hb.trans (hb1.mono Hb.size)
  have A1 := A.below hb1 A.lt
  have K21 := K2.below hb1 K2.lt
  go_wp2_with fail
  unfold wtA at KP hbp
  generalize W1.alloc _ = W2 at *
  clear KP
  refine (cDecode_in hok h0 h1 W2).mono ?_
  rintro e W3 ⟨rfl, hb3⟩
  rw [e1, e2, e3, e4]
  clear hok h0 h1 e1 e2 e3 e4
  have B2 := B1.trans (hbp.mono B1.size)
  have A2 := A1.below hbp A1.lt
  have K22 := K21.below hbp K21.lt
  have A3 := A2.below hb3 A2.lt
  have K23 := K22.below hb3 K22.lt
  have B3 := B2.trans (hb3.mono B2.size)
  obtain ⟨Ki, hbi, si⟩ := cells1 W3 (instA 19 ka kb n) 54
  have A4 := A3.below hbi A3.lt
  have K24 := K23.below hbi K23.lt
  have B4 := B3.trans (hbi.mono B3.size)
  have l3 := K23.lt
  clear A A' A1 A2 A3 K1 K2 K21 K22 K23 B1 B2 B3 hb1 hb3 hbp hbi Hb hsz sp si
  unfold instA at Ki A4 K24 B4
  obtain ⟨W4, eW4⟩ : ∃ W4, W3.alloc (.cells #[.int .i64 19, .int .i64 ka, .int .i64 kb, .int .i64 n] 54) = W4 := ⟨_, rfl⟩
  rw [eW4] at Ki A4 K24 B4
  have i1 := (Ki.cell 1).trans (show _ = some (Value.int .i64 ka) from rfl)
  have i2 := (Ki.cell 2).trans (show _ = some (Value.int .i64 kb) from rfl)
  have r1 := A4.reg (k := ka) hka
  have r2 := A4.reg (k := kb) hkb
  rw [ea] at r1
  rw [eb] at r2
  go_wp2_with fail
  have x1 : (0 : Int) ≤ (ka : Int) := by omega
  have x2 : (ka : Int) < 8 := by omega
  have x3 : (0 : Int) ≤ (kb : Int) := by omega
  have x4 : (kb : Int) < 8 := by omega
  refine wp_region_still_lit (by kernel_rfl) (by kernel_rfl) ?_
  repeat still_step
  refine wpStill_nil ?_
  change Exit.then _ _ .normal _ W4.drew
  clear x1 x2 x3 x4 r1 r2 eW4 i1 i2
  have A5 : StAt W4.drew w.heap.size s := ⟨A4.row, hs.len⟩
  have B5 : Below w.heap.size w W4.drew := B4.drew
  have Ki5 : Cells W4.drew W3.heap.size 54 (instA 19 ka kb n) := Ki
  have K25 : Cells W4.drew (w.heap.size + 1) 25 (stA zst) := K24
  clear A4 B4 Ki K24
  generalize W4.drew = W5 at *
  have A5' : W5.heap[w.heap.size]? = some (.cells (stA s) 25 (0, 0)) := A5.row
  obtain ⟨Tz, W6, e6, Ko, hb6, s6⟩ := row_own W5 25 (stA zst) (stA s) (by rw [stA_size hs.len]; rfl)
  have A6 := A5.below hb6 A5.lt
  have O6 : StAt W6 W5.heap.size s := ⟨Ko, hs.len⟩
  have p8 := A6.pc
  have o8 := O6.pc
  have f8 := O6.fz 8
  have hz := zst_lit
  go_wp2_with (first
    | (with_reducible refine wpList_load_row rfl 25 (.tmp 3) rfl w.heap.size rfl 25 (stA s) (0, 0) _ A5' Try.underlying25 rfl hi ?_)
    | (with_reducible refine wpList_store_mid rfl 25 (.tmp 12) (.tmp 40) rfl W5.heap.size 0 (stA s) rfl rfl Tz hi (stA_one _) ?_))
  clear hz
  refine (cAdd _ _ _).mono ?_
  rintro e w' ⟨rfl, rfl⟩
  have D7 : DnAt w (W6.setCell ⟨W5.heap.size, 8, none⟩ (.int .u32 ((s.pc + 4) % 4294967296))) W3.heap.size W5.heap.size s { s with pc := (s.pc + 4) % 4294967296 } 19 ka kb n :=
    ⟨A6.other _ (by have := A5.lt; simp; omega), (K25.below hb6 K25.lt).other _ (by have := K25.lt; simp; omega), (Ki5.below hb6 Ki5.lt).other _ (by have := Ki5.lt; simp; omega), O6.set_pc _, (B5.trans (hb6.mono B5.size)).setCell (p := ⟨W5.heap.size, 8, none⟩) B5.size _, by omega, Ki5.lt⟩
  clear A6 p8 hb6 s6 Tz e6 A5 A5' B5 Ki5 K25
  go_wp2_with fail
  clear O6 o8 f8 Ko
  generalize World.setCell _ _ _ = W7 at *
  have hno := Lib.hid (show ¬ (2 ≤ (19 : Int) ∧ (19 : Int) ≤ 12) by decide)
  have i0 := (D7.i.cell 0).trans (show _ = some (Value.int .i64 19) from rfl)
  have hgi := D7.i.lt
  have D7d : DnAt w W7.drew W3.heap.size W5.heap.size s { s with pc := (s.pc + 4) % 4294967296 } 19 ka kb n := D7.below (Below.refl _ W7).drew
  go_region_held3 (fun w' => w'.cell? ⟨W3.heap.size, 0, none⟩ = some (.int .i64 19))
    (first | exact i0 | exact (hM.low.cell (p := ⟨W3.heap.size, 0, none⟩) hgi).trans i0)
    ((go_at_call 22; refine (cMakes _).mono ?_; rintro e Wm ⟨rfl, hM⟩; have hlk : (Instr.lookup 60 (.map (some W7.heap.size)) (.int .i64 19) true).run Try.prog Wm = .ok (.tuple #[.nilFunc, .bool false]) Wm := mk_look_no hM hno.out))
  have D8 := D7d.below hM.low
  clear i0 D7 D7d hlk hM
  have i0 := (D8.i.cell 0).trans (show _ = some (Value.int .i64 19) from rfl)
  have i1 := (D8.i.cell 1).trans (show _ = some (Value.int .i64 ka) from rfl)
  have i2 := (D8.i.cell 2).trans (show _ = some (Value.int .i64 kb) from rfl)
  have i3 := (D8.i.cell 3).trans (show _ = some (Value.int .i64 n) from rfl)
  have x1 : (0 : Int) ≤ (ka : Int) := by omega
  have x2 : (ka : Int) < 8 := by omega
  have hT := cTaken19 av bv
  rw [ht] at hT
  have HT := Lib.hid hT
  clear hT
  go_upto_region 13 with (go_at_call 24; refine (HT.out _).mono ?_; rintro e w' ⟨rfl, rfl⟩)
  have D8d : DnAt w Wm.drew W3.heap.size W5.heap.size s { s with pc := (s.pc + 4) % 4294967296 } 19 ka kb n := D8.below (Below.refl _ Wm).drew
  go_region_held3 (fun w' => w'.cell? ⟨W3.heap.size, 0, none⟩ = some (.int .i64 19) ∧ w'.cell? ⟨W3.heap.size, 1, none⟩ = some (.int .i64 ka) ∧ w'.cell? ⟨W3.heap.size, 2, none⟩ = some (.int .i64 kb) ∧ w'.cell? ⟨W3.heap.size, 3, none⟩ = some (.int .i64 n) ∧ w'.cell? ⟨w.heap.size, 8, none⟩ = some (.int .u32 s.pc))
    (first | exact D8d.ics | exact D9.ics | exact (D9.setO (D9.o.set_pc _)).ics)
    (first
      | (go_at_call 23; refine (cImm bn _).mono ?_; rintro e W9 ⟨rfl, hb9⟩; have D9 := D8d.below hb9; have oc := D9.o.pc; have of := D9.o.fz 8)
      | (go_at_call 25; refine (cMul _ _ _).mono ?_; rintro e w' ⟨rfl, rfl⟩)
      | (go_at_call 21; refine (cAdd _ _ _).mono ?_; rintro e w' ⟨rfl, rfl⟩))
  have D10 := D9.setO (D9.o.set_pc ((s.pc + 4 * immL n) % 4294967296))
  clear D9 D8 D8d i0 i1 i2 i3 oc of hb9
  have i0 := (D10.i.cell 0).trans (show _ = some (Value.int .i64 19) from rfl)
  go_upto_region 14 with (fail)
  generalize World.setCell _ _ _ = W10 at *
  go_upto_region 30 with (fail)
  have o0 : W10.heap[W5.heap.size]? = some (.cells (stA { s with pc := (s.pc + 4 * immL n) % 4294967296 }) 25 (0, 0)) := D10.o.row
  have T6 : W10.there (w.heap.size + 1) 0 (stA { s with pc := (s.pc + 4 * immL n) % 4294967296 }).size := by rw [stA_size D10.o.len]; exact D10.res.there
  have hi0 := hi25 D10.o.len
  have o5 := D10.res.setAll (stA { s with pc := (s.pc + 4 * immL n) % 4294967296 }).toList (by rw [Array.length_toList, stA_size D10.o.len]; rfl)
  rw [Array.toArray_toList] at o5
  have hlow := D10.low
  go_wp2_with (first
    | (with_reducible refine wpList_load_row rfl 25 (.tmp 12) rfl W5.heap.size rfl 25 (stA { s with pc := (s.pc + 4 * immL n) % 4294967296 }) (0, 0) _ o0 Try.underlying25 rfl hi0 ?_)
    | (with_reducible refine wpList_store_mid rfl 25 (.tmp 6) (.tmp 133) rfl (w.heap.size + 1) 0 (stA { s with pc := (s.pc + 4 * immL n) % 4294967296 }) rfl rfl T6 hi0 (stA_one _) ?_)
    | exact bodyPost_ret (results_cell_row rfl _ _ (w.heap.size + 1) 25 (stA { s with pc := (s.pc + 4 * immL n) % 4294967296 }) (0, 0) _ rfl o5 Try.underlying25 rfl hi0) rfl ⟨rfl, below_setCells _ 0 hlow (by omega)⟩)
end Go.Proofs.Ytmpnlhfnemidpaa
