/- The cpu's Done, of loads, jumps, get, set, back: contracts. -/
import Derived.Test.YtmpnlhfnemidpaaDn
import Derived.Test.YtmpnlhfnemidpaaPl5
import Derived.BigRegion
import Derived.RegionTactic
namespace Go.Proofs.Ytmpnlhfnemidpaa
open Go.RowKit Go.Shelf
set_option maxRecDepth 100000 in
set_option maxHeartbeats 1000000 in
theorem cDone26 {s : St} (hs : s.ok) {x : Int} (hok : okL x = true) (h0 : 0 ≤ x) (h1 : x < 4294967296) {n : Int} {ka kb : Nat} (hka : ka < 8) (hkb : kb < 8) (bn : -32768 ≤ n ∧ n ≤ 32767) (e1 : dOp x = 26) (e2 : dA x = ka) (e3 : dB x = kb) (e4 : dN x = n)
    {av bv : Int} (ra : u32? av) (rb : u32? bv) (ea : reg s ka = av) (eb : reg s kb = bv) {pk : Wt} (hpl : planL s x = pk) (hk : (pk.kind == 1) = false) {told : Int} (hn5 : 0 ≤ n ∧ n ≤ 5) (w : World) :
    Calls Try.prog 12 #[.agg (stA s), .int .u32 x, .int .u32 told] w fun e w' => e = .returned (.agg (stA { s with pc := (s.pc + 4) % 4294967296, regs := s.regs.set ka (gotL s n) })) ∧ Below w.heap.size w w' := by
  have hall := And.intro bn (And.intro ra rb)
  clear hall
  obtain ⟨K1, K2, Hb, hsz⟩ := cells2 w (stA s) (stA zst) 25 25
  have hz := zst_lit
  have hi := hi25 hs.len
  have hP := fun W => cPlan hs h0 h1 W
  rw [hpl] at hP
  clear hpl
  have HP := Lib.hid hP
  clear hP
  go_enter Try.func12, Try.ntmps12
  go_upto_region 1 with (fail)
  generalize (w.alloc _).alloc _ = W at *
  clear hz
  have A : StAt W w.heap.size s := ⟨K1, hs.len⟩
  have A' : W.heap[w.heap.size]? = some (.cells (stA s) 25 (0, 0)) := A.row
  go_wp2_with (with_reducible refine wpList_load_row rfl 25 (.tmp 3) rfl w.heap.size rfl 25 (stA s) (0, 0) _ A' Try.underlying25 rfl hi ?_)
  refine (HP.out W).mono ?_
  rintro e W1 ⟨rfl, hb1⟩
  obtain ⟨KP, hbp, sp⟩ := cells1 W1 (wtA pk) 42
  have B1 := Hb.trans (hb1.mono Hb.size)
  have A1 := A.below hb1 A.lt
  have K21 := K2.below hb1 K2.lt
  go_wp2_with fail
  unfold wtA at KP hbp
  generalize W1.alloc _ = W2 at *
  clear KP
  refine (cDecode_in hok h0 h1 W2).mono ?_
  rintro e W3 ⟨rfl, hb3⟩
  rw [e1, e2, e3, e4]
  clear hok h0 h1 e1 e2 e3 e4
  have B2 := B1.trans (hbp.mono B1.size)
  have A2 := A1.below hbp A1.lt
  have K22 := K21.below hbp K21.lt
  have A3 := A2.below hb3 A2.lt
  have K23 := K22.below hb3 K22.lt
  have B3 := B2.trans (hb3.mono B2.size)
  obtain ⟨Ki, hbi, si⟩ := cells1 W3 (instA 26 ka kb n) 54
  have A4 := A3.below hbi A3.lt
  have K24 := K23.below hbi K23.lt
  have B4 := B3.trans (hbi.mono B3.size)
  have l3 := K23.lt
  clear A A' A1 A2 A3 K1 K2 K21 K22 K23 B1 B2 B3 hb1 hb3 hbp hbi Hb hsz sp si
  unfold instA at Ki A4 K24 B4
  obtain ⟨W4, eW4⟩ : ∃ W4, W3.alloc (.cells #[.int .i64 26, .int .i64 ka, .int .i64 kb, .int .i64 n] 54) = W4 := ⟨_, rfl⟩
  rw [eW4] at Ki A4 K24 B4
  have i1 := (Ki.cell 1).trans (show _ = some (Value.int .i64 ka) from rfl)
  have i2 := (Ki.cell 2).trans (show _ = some (Value.int .i64 kb) from rfl)
  have r1 := A4.reg (k := ka) hka
  have r2 := A4.reg (k := kb) hkb
  rw [ea] at r1
  rw [eb] at r2
  go_wp2_with fail
  have x1 : (0 : Int) ≤ (ka : Int) := by omega
  have x2 : (ka : Int) < 8 := by omega
  have x3 : (0 : Int) ≤ (kb : Int) := by omega
  have x4 : (kb : Int) < 8 := by omega
  refine wp_region_still_lit (by kernel_rfl) (by kernel_rfl) ?_
  repeat still_step
  refine wpStill_nil ?_
  change Exit.then _ _ .normal _ W4.drew
  clear x1 x2 x3 x4 r1 r2 eW4 i1 i2
  have A5 : StAt W4.drew w.heap.size s := ⟨A4.row, hs.len⟩
  have B5 : Below w.heap.size w W4.drew := B4.drew
  have Ki5 : Cells W4.drew W3.heap.size 54 (instA 26 ka kb n) := Ki
  have K25 : Cells W4.drew (w.heap.size + 1) 25 (stA zst) := K24
  clear A4 B4 Ki K24
  generalize W4.drew = W5 at *
  have A5' : W5.heap[w.heap.size]? = some (.cells (stA s) 25 (0, 0)) := A5.row
  obtain ⟨Tz, W6, e6, Ko, hb6, s6⟩ := row_own W5 25 (stA zst) (stA s) (by rw [stA_size hs.len]; rfl)
  have A6 := A5.below hb6 A5.lt
  have O6 : StAt W6 W5.heap.size s := ⟨Ko, hs.len⟩
  have p8 := A6.pc
  have o8 := O6.pc
  have f8 := O6.fz 8
  have hz := zst_lit
  go_wp2_with (first
    | (with_reducible refine wpList_load_row rfl 25 (.tmp 3) rfl w.heap.size rfl 25 (stA s) (0, 0) _ A5' Try.underlying25 rfl hi ?_)
    | (with_reducible refine wpList_store_mid rfl 25 (.tmp 12) (.tmp 40) rfl W5.heap.size 0 (stA s) rfl rfl Tz hi (stA_one _) ?_))
  clear hz
  refine (cAdd _ _ _).mono ?_
  rintro e w' ⟨rfl, rfl⟩
  have D7 : DnAt w (W6.setCell ⟨W5.heap.size, 8, none⟩ (.int .u32 ((s.pc + 4) % 4294967296))) W3.heap.size W5.heap.size s { s with pc := (s.pc + 4) % 4294967296 } 26 ka kb n :=
    ⟨A6.other _ (by have := A5.lt; simp; omega), (K25.below hb6 K25.lt).other _ (by have := K25.lt; simp; omega), (Ki5.below hb6 Ki5.lt).other _ (by have := Ki5.lt; simp; omega), O6.set_pc _, (B5.trans (hb6.mono B5.size)).setCell (p := ⟨W5.heap.size, 8, none⟩) B5.size _, by omega, Ki5.lt⟩
  clear A6 p8 hb6 s6 Tz e6 A5 A5' B5 Ki5 K25
  go_wp2_with fail
  clear O6 o8 f8 Ko
  generalize World.setCell _ _ _ = W7 at *
  have hno := Lib.hid (show ¬ (2 ≤ (26 : Int) ∧ (26 : Int) ≤ 12) by decide)
  have i0 := (D7.i.cell 0).trans (show _ = some (Value.int .i64 26) from rfl)
  have hgi := D7.i.lt
  have D7d : DnAt w W7.drew W3.heap.size W5.heap.size s { s with pc := (s.pc + 4) % 4294967296 } 26 ka kb n := D7.below (Below.refl _ W7).drew
  go_region_held3 (fun w' => w'.cell? ⟨W3.heap.size, 0, none⟩ = some (.int .i64 26))
    (first | exact i0 | exact (hM.low.cell (p := ⟨W3.heap.size, 0, none⟩) hgi).trans i0)
    ((go_at_call 22; refine (cMakes _).mono ?_; rintro e Wm ⟨rfl, hM⟩; have hlk : (Instr.lookup 60 (.map (some W7.heap.size)) (.int .i64 26) true).run Try.prog Wm = .ok (.tuple #[.nilFunc, .bool false]) Wm := mk_look_no hM hno.out))
  have D8 := D7d.below hM.low
  clear i0 D7 D7d hlk hM
  have i0 := (D8.i.cell 0).trans (show _ = some (Value.int .i64 26) from rfl)
  have i1 := (D8.i.cell 1).trans (show _ = some (Value.int .i64 ka) from rfl)
  have i2 := (D8.i.cell 2).trans (show _ = some (Value.int .i64 kb) from rfl)
  have i3 := (D8.i.cell 3).trans (show _ = some (Value.int .i64 n) from rfl)
  have x1 : (0 : Int) ≤ (ka : Int) := by omega
  have x2 : (ka : Int) < 8 := by omega
  go_upto_region 14 with (go_at_call 24; refine (cTaken_no (by decide) _ _ _).mono ?_; rintro e w' ⟨rfl, rfl⟩)
  go_upto_region 27 with (fail)
  have Dd : DnAt w Wm.drew W3.heap.size W5.heap.size s _ 26 ka kb n := D8.below (Below.refl _ Wm).drew
  have hG := fun W => cGot hs.len hn5 W
  rw [stA_lit hs.len] at hG
  have HG := Lib.hid hG
  clear hG
  go_region_held3 (fun w' => w'.cell? ⟨W3.heap.size, 0, none⟩ = some (.int .i64 26) ∧ w'.cell? ⟨W3.heap.size, 1, none⟩ = some (.int .i64 ka) ∧ w'.cell? ⟨W3.heap.size, 2, none⟩ = some (.int .i64 kb) ∧ w'.cell? ⟨W3.heap.size, 3, none⟩ = some (.int .i64 n) ∧ w'.cell? ⟨w.heap.size, 0, none⟩ = some (.int .u32 (reg s 0)) ∧ w'.cell? ⟨w.heap.size, 1, none⟩ = some (.int .u32 (reg s 1)) ∧ w'.cell? ⟨w.heap.size, 2, none⟩ = some (.int .u32 (reg s 2)) ∧ w'.cell? ⟨w.heap.size, 3, none⟩ = some (.int .u32 (reg s 3)) ∧ w'.cell? ⟨w.heap.size, 4, none⟩ = some (.int .u32 (reg s 4)) ∧ w'.cell? ⟨w.heap.size, 5, none⟩ = some (.int .u32 (reg s 5)) ∧ w'.cell? ⟨w.heap.size, 6, none⟩ = some (.int .u32 (reg s 6)) ∧ w'.cell? ⟨w.heap.size, 7, none⟩ = some (.int .u32 (reg s 7)) ∧ w'.cell? ⟨w.heap.size, 8, none⟩ = some (.int .u32 s.pc) ∧ w'.cell? ⟨w.heap.size, 9, none⟩ = some (.int .u32 s.epc) ∧ w'.cell? ⟨w.heap.size, 10, none⟩ = some (.int .u32 s.cause) ∧ w'.cell? ⟨w.heap.size, 11, none⟩ = some (.int .u32 s.vec) ∧ w'.cell? ⟨w.heap.size, 12, none⟩ = some (.int .u32 s.table) ∧ w'.cell? ⟨w.heap.size, 13, none⟩ = some (.bool s.sup) ∧ w'.cell? ⟨w.heap.size, 14, none⟩ = some (.bool s.prev) ∧ w'.cell? ⟨w.heap.size, 15, none⟩ = some (.bool s.en))
    (first | exact dnI20 Dd | exact dnI20 D9 | exact dnI20 (D9.setO (D9.o.set_reg hka _)))
    ((go_at_call 26; refine (HG.out _).mono ?_; rintro e W9 ⟨rfl, hb9⟩; have D9 := Dd.below hb9; have oc := D9.o.reg hka; have of := D9.o.fz ka))
  have D12 := D9.setO (D9.o.set_reg hka (gotL s n))
  clear Dd D9 oc of D8 hb9
  go_upto_region 30 with (fail)
  generalize World.setCell _ _ _ = W10 at *
  have o0 : W10.heap[W5.heap.size]? = some (.cells (stA { s with pc := (s.pc + 4) % 4294967296, regs := s.regs.set ka (gotL s n) }) 25 (0, 0)) := D12.o.row
  have T6 : W10.there (w.heap.size + 1) 0 (stA { s with pc := (s.pc + 4) % 4294967296, regs := s.regs.set ka (gotL s n) }).size := by rw [stA_size D12.o.len]; exact D12.res.there
  have hi0 := hi25 D12.o.len
  have o5 := D12.res.setAll (stA { s with pc := (s.pc + 4) % 4294967296, regs := s.regs.set ka (gotL s n) }).toList (by rw [Array.length_toList, stA_size D12.o.len]; rfl)
  rw [Array.toArray_toList] at o5
  have hlow := D12.low
  go_wp2_with (first
    | (with_reducible refine wpList_load_row rfl 25 (.tmp 12) rfl W5.heap.size rfl 25 (stA { s with pc := (s.pc + 4) % 4294967296, regs := s.regs.set ka (gotL s n) }) (0, 0) _ o0 Try.underlying25 rfl hi0 ?_)
    | (with_reducible refine wpList_store_mid rfl 25 (.tmp 6) (.tmp 133) rfl (w.heap.size + 1) 0 (stA { s with pc := (s.pc + 4) % 4294967296, regs := s.regs.set ka (gotL s n) }) rfl rfl T6 hi0 (stA_one _) ?_)
    | exact bodyPost_ret (results_cell_row rfl _ _ (w.heap.size + 1) 25 (stA { s with pc := (s.pc + 4) % 4294967296, regs := s.regs.set ka (gotL s n) }) (0, 0) _ rfl o5 Try.underlying25 rfl hi0) rfl ⟨rfl, below_setCells _ 0 hlow (by omega)⟩)
end Go.Proofs.Ytmpnlhfnemidpaa
namespace Go.Proofs.Ytmpnlhfnemidpaa
open Go.RowKit Go.Shelf
set_option maxRecDepth 100000 in
set_option maxHeartbeats 1000000 in
theorem cDone25 {s : St} (hs : s.ok) {x : Int} (hok : okL x = true) (h0 : 0 ≤ x) (h1 : x < 4294967296) {n : Int} {ka kb : Nat} (hka : ka < 8) (hkb : kb < 8) (bn : -32768 ≤ n ∧ n ≤ 32767) (e1 : dOp x = 25) (e2 : dA x = ka) (e3 : dB x = kb) (e4 : dN x = n)
    {av bv : Int} (ra : u32? av) (rb : u32? bv) (ea : reg s ka = av) (eb : reg s kb = bv) {pk : Wt} (hpl : planL s x = pk) (hk : (pk.kind == 1) = false) {told : Int}  (w : World) :
    Calls Try.prog 12 #[.agg (stA s), .int .u32 x, .int .u32 told] w fun e w' => e = .returned (.agg (stA { s with pc := s.epc, sup := s.prev, en := true })) ∧ Below w.heap.size w w' := by
  have hall := And.intro bn (And.intro ra rb)
  clear hall
  obtain ⟨K1, K2, Hb, hsz⟩ := cells2 w (stA s) (stA zst) 25 25
  have hz := zst_lit
  have hi := hi25 hs.len
  have hP := fun W => cPlan hs h0 h1 W
  rw [hpl] at hP
  clear hpl
  have HP := Lib.hid hP
  clear hP
  go_enter Try.func12, Try.ntmps12
  go_upto_region 1 with (fail)
  generalize (w.alloc _).alloc _ = W at *
  clear hz
  have A : StAt W w.heap.size s := ⟨K1, hs.len⟩
  have A' : W.heap[w.heap.size]? = some (.cells (stA s) 25 (0, 0)) := A.row
  go_wp2_with (with_reducible refine wpList_load_row rfl 25 (.tmp 3) rfl w.heap.size rfl 25 (stA s) (0, 0) _ A' Try.underlying25 rfl hi ?_)
  refine (HP.out W).mono ?_
  rintro e W1 ⟨rfl, hb1⟩
  obtain ⟨KP, hbp, sp⟩ := cells1 W1 (wtA pk) 42
  have B1 := Hb.trans (hb1.mono Hb.size)
  have A1 := A.below hb1 A.lt
  have K21 := K2.below hb1 K2.lt
  go_wp2_with fail
  unfold wtA at KP hbp
  generalize W1.alloc _ = W2 at *
  clear KP
  refine (cDecode_in hok h0 h1 W2).mono ?_
  rintro e W3 ⟨rfl, hb3⟩
  rw [e1, e2, e3, e4]
  clear hok h0 h1 e1 e2 e3 e4
  have B2 := B1.trans (hbp.mono B1.size)
  have A2 := A1.below hbp A1.lt
  have K22 := K21.below hbp K21.lt
  have A3 := A2.below hb3 A2.lt
  have K23 := K22.below hb3 K22.lt
  have B3 := B2.trans (hb3.mono B2.size)
  obtain ⟨Ki, hbi, si⟩ := cells1 W3 (instA 25 ka kb n) 54
  have A4 := A3.below hbi A3.lt
  have K24 := K23.below hbi K23.lt
  have B4 := B3.trans (hbi.mono B3.size)
  have l3 := K23.lt
  clear A A' A1 A2 A3 K1 K2 K21 K22 K23 B1 B2 B3 hb1 hb3 hbp hbi Hb hsz sp si
  unfold instA at Ki A4 K24 B4
  obtain ⟨W4, eW4⟩ : ∃ W4, W3.alloc (.cells #[.int .i64 25, .int .i64 ka, .int .i64 kb, .int .i64 n] 54) = W4 := ⟨_, rfl⟩
  rw [eW4] at Ki A4 K24 B4
  have i1 := (Ki.cell 1).trans (show _ = some (Value.int .i64 ka) from rfl)
  have i2 := (Ki.cell 2).trans (show _ = some (Value.int .i64 kb) from rfl)
  have r1 := A4.reg (k := ka) hka
  have r2 := A4.reg (k := kb) hkb
  rw [ea] at r1
  rw [eb] at r2
  go_wp2_with fail
  have x1 : (0 : Int) ≤ (ka : Int) := by omega
  have x2 : (ka : Int) < 8 := by omega
  have x3 : (0 : Int) ≤ (kb : Int) := by omega
  have x4 : (kb : Int) < 8 := by omega
  refine wp_region_still_lit (by kernel_rfl) (by kernel_rfl) ?_
  repeat still_step
  refine wpStill_nil ?_
  change Exit.then _ _ .normal _ W4.drew
  clear x1 x2 x3 x4 r1 r2 eW4 i1 i2
  have A5 : StAt W4.drew w.heap.size s := ⟨A4.row, hs.len⟩
  have B5 : Below w.heap.size w W4.drew := B4.drew
  have Ki5 : Cells W4.drew W3.heap.size 54 (instA 25 ka kb n) := Ki
  have K25 : Cells W4.drew (w.heap.size + 1) 25 (stA zst) := K24
  clear A4 B4 Ki K24
  generalize W4.drew = W5 at *
  have A5' : W5.heap[w.heap.size]? = some (.cells (stA s) 25 (0, 0)) := A5.row
  obtain ⟨Tz, W6, e6, Ko, hb6, s6⟩ := row_own W5 25 (stA zst) (stA s) (by rw [stA_size hs.len]; rfl)
  have A6 := A5.below hb6 A5.lt
  have O6 : StAt W6 W5.heap.size s := ⟨Ko, hs.len⟩
  have p8 := A6.pc
  have o8 := O6.pc
  have f8 := O6.fz 8
  have hz := zst_lit
  go_wp2_with (first
    | (with_reducible refine wpList_load_row rfl 25 (.tmp 3) rfl w.heap.size rfl 25 (stA s) (0, 0) _ A5' Try.underlying25 rfl hi ?_)
    | (with_reducible refine wpList_store_mid rfl 25 (.tmp 12) (.tmp 40) rfl W5.heap.size 0 (stA s) rfl rfl Tz hi (stA_one _) ?_))
  clear hz
  refine (cAdd _ _ _).mono ?_
  rintro e w' ⟨rfl, rfl⟩
  have D7 : DnAt w (W6.setCell ⟨W5.heap.size, 8, none⟩ (.int .u32 ((s.pc + 4) % 4294967296))) W3.heap.size W5.heap.size s { s with pc := (s.pc + 4) % 4294967296 } 25 ka kb n :=
    ⟨A6.other _ (by have := A5.lt; simp; omega), (K25.below hb6 K25.lt).other _ (by have := K25.lt; simp; omega), (Ki5.below hb6 Ki5.lt).other _ (by have := Ki5.lt; simp; omega), O6.set_pc _, (B5.trans (hb6.mono B5.size)).setCell (p := ⟨W5.heap.size, 8, none⟩) B5.size _, by omega, Ki5.lt⟩
  clear A6 p8 hb6 s6 Tz e6 A5 A5' B5 Ki5 K25
  go_wp2_with fail
  clear O6 o8 f8 Ko
  generalize World.setCell _ _ _ = W7 at *
  have hno := Lib.hid (show ¬ (2 ≤ (25 : Int) ∧ (25 : Int) ≤ 12) by decide)
  have i0 := (D7.i.cell 0).trans (show _ = some (Value.int .i64 25) from rfl)
  have hgi := D7.i.lt
  have D7d : DnAt w W7.drew W3.heap.size W5.heap.size s { s with pc := (s.pc + 4) % 4294967296 } 25 ka kb n := D7.below (Below.refl _ W7).drew
  go_region_held3 (fun w' => w'.cell? ⟨W3.heap.size, 0, none⟩ = some (.int .i64 25))
    (first | exact i0 | exact (hM.low.cell (p := ⟨W3.heap.size, 0, none⟩) hgi).trans i0)
    ((go_at_call 22; refine (cMakes _).mono ?_; rintro e Wm ⟨rfl, hM⟩; have hlk : (Instr.lookup 60 (.map (some W7.heap.size)) (.int .i64 25) true).run Try.prog Wm = .ok (.tuple #[.nilFunc, .bool false]) Wm := mk_look_no hM hno.out))
  have D8 := D7d.below hM.low
  clear i0 D7 D7d hlk hM
  have i0 := (D8.i.cell 0).trans (show _ = some (Value.int .i64 25) from rfl)
  have i1 := (D8.i.cell 1).trans (show _ = some (Value.int .i64 ka) from rfl)
  have i2 := (D8.i.cell 2).trans (show _ = some (Value.int .i64 kb) from rfl)
  have i3 := (D8.i.cell 3).trans (show _ = some (Value.int .i64 n) from rfl)
  have x1 : (0 : Int) ≤ (ka : Int) := by omega
  have x2 : (ka : Int) < 8 := by omega
  go_upto_region 14 with (go_at_call 24; refine (cTaken_no (by decide) _ _ _).mono ?_; rintro e w' ⟨rfl, rfl⟩)
  go_upto_region 29 with (fail)
  have Dd : DnAt w Wm.drew W3.heap.size W5.heap.size s _ 25 ka kb n := D8.below (Below.refl _ Wm).drew
  have a1 := D8.s.prev
  have a2 := D8.s.epc
  have c1 := D8.o.sup
  have c2 := D8.o.en
  have c3 := D8.o.pc
  have f1 := D8.o.fz 13
  have f2 := D8.o.fz 15
  have f3 := D8.o.fz 8
  have hne : ¬ W5.heap.size = w.heap.size := by have := D8.hi; have := D8.ho; omega
  go_region
  have D12 : DnAt w (((Wm.setCell ⟨W5.heap.size, 13, none⟩ (.bool s.prev)).setCell ⟨W5.heap.size, 15, none⟩ (.bool true)).setCell ⟨W5.heap.size, 8, none⟩ (.int .u32 s.epc)).drew W3.heap.size W5.heap.size s _ 25 ka kb n := (((D8.setO (D8.o.set_sup s.prev)).setO ((D8.setO (D8.o.set_sup s.prev)).o.set_en true)).setO (((D8.setO (D8.o.set_sup s.prev)).setO ((D8.setO (D8.o.set_sup s.prev)).o.set_en true)).o.set_pc s.epc)).below (Below.refl _ _).drew
  clear D8 Dd a1 a2 c1 c2 c3 f1 f2 f3 i0 i1 i2 i3
  go_upto_region 30 with (fail)
  generalize World.drew _ = W10 at *
  have o0 : W10.heap[W5.heap.size]? = some (.cells (stA { s with pc := s.epc, sup := s.prev, en := true }) 25 (0, 0)) := D12.o.row
  have T6 : W10.there (w.heap.size + 1) 0 (stA { s with pc := s.epc, sup := s.prev, en := true }).size := by rw [stA_size D12.o.len]; exact D12.res.there
  have hi0 := hi25 D12.o.len
  have o5 := D12.res.setAll (stA { s with pc := s.epc, sup := s.prev, en := true }).toList (by rw [Array.length_toList, stA_size D12.o.len]; rfl)
  rw [Array.toArray_toList] at o5
  have hlow := D12.low
  go_wp2_with (first
    | (with_reducible refine wpList_load_row rfl 25 (.tmp 12) rfl W5.heap.size rfl 25 (stA { s with pc := s.epc, sup := s.prev, en := true }) (0, 0) _ o0 Try.underlying25 rfl hi0 ?_)
    | (with_reducible refine wpList_store_mid rfl 25 (.tmp 6) (.tmp 133) rfl (w.heap.size + 1) 0 (stA { s with pc := s.epc, sup := s.prev, en := true }) rfl rfl T6 hi0 (stA_one _) ?_)
    | exact bodyPost_ret (results_cell_row rfl _ _ (w.heap.size + 1) 25 (stA { s with pc := s.epc, sup := s.prev, en := true }) (0, 0) _ rfl o5 Try.underlying25 rfl hi0) rfl ⟨rfl, below_setCells _ 0 hlow (by omega)⟩)
end Go.Proofs.Ytmpnlhfnemidpaa
namespace Go.Proofs.Ytmpnlhfnemidpaa
open Go.RowKit Go.Shelf
set_option maxRecDepth 100000 in
set_option maxHeartbeats 1000000 in
theorem cDone_trap {s : St} (hs : s.ok) {x : Int} (h0 : 0 ≤ x) (h1 : x < 4294967296) {pk : Wt} (hpl : planL s x = pk) (hk : (pk.kind == 1) = true) {told : Int} (w : World) :
    Calls Try.prog 12 #[.agg (stA s), .int .u32 x, .int .u32 told] w fun e w' => e = .returned (.agg (stA (trapL s pk.cause))) ∧ Below w.heap.size w w' := by
  obtain ⟨K1, K2, Hb, hsz⟩ := cells2 w (stA s) (stA zst) 25 25
  have hz := zst_lit
  have hi := hi25 hs.len
  have hP := fun W => cPlan hs h0 h1 W
  rw [hpl] at hP
  clear hpl h0 h1
  have HP := Lib.hid hP
  clear hP
  go_enter Try.func12, Try.ntmps12
  go_upto_region 1 with (fail)
  generalize (w.alloc _).alloc _ = W at *
  clear hz
  have A : StAt W w.heap.size s := ⟨K1, hs.len⟩
  have A' : W.heap[w.heap.size]? = some (.cells (stA s) 25 (0, 0)) := A.row
  go_wp2_with (with_reducible refine wpList_load_row rfl 25 (.tmp 3) rfl w.heap.size rfl 25 (stA s) (0, 0) _ A' Try.underlying25 rfl hi ?_)
  refine (HP.out W).mono ?_
  rintro e W1 ⟨rfl, hb1⟩
  obtain ⟨KP, hbp, sp⟩ := cells1 W1 (wtA pk) 42
  have B1 := Hb.trans (hb1.mono Hb.size)
  have A1 := A.below hb1 A.lt
  have K21 := K2.below hb1 K2.lt
  have B2 := B1.trans (hbp.mono B1.size)
  have A2 := A1.below hbp A1.lt
  have K22 := K21.below hbp K21.lt
  clear A A' A1 K1 K2 K21 B1 hb1 Hb hsz
  unfold wtA at KP hbp A2 K22 B2
  obtain ⟨W2, eW2⟩ : ∃ W2, W1.alloc (.cells #[.int .i64 pk.kind, .int .u32 pk.cause, .int .u32 pk.addr, .int .i64 pk.width, .int .i64 pk.port, .int .u32 pk.value] 42) = W2 := ⟨_, rfl⟩
  rw [eW2] at KP hbp A2 K22 B2
  have c0 := (KP.cell 0).trans (show _ = some (Value.int .i64 pk.kind) from rfl)
  have c1 := (KP.cell 1).trans (show _ = some (Value.int .u32 pk.cause) from rfl)
  have A2' : W2.heap[w.heap.size]? = some (.cells (stA s) 25 (0, 0)) := A2.row
  go_wp2_with (first
    | (with_reducible refine wpList_load_row rfl 25 (.tmp 3) rfl w.heap.size rfl 25 (stA s) (0, 0) _ A2' Try.underlying25 rfl hi ?_))
  refine (cTrap hs.len _ W2).mono ?_
  rintro e W3 ⟨rfl, hb3⟩
  have K23 := K22.below hb3 K22.lt
  have B3 := B2.trans (hb3.mono B2.size)
  have hl : (trapL s pk.cause).regs.length = 8 := hs.len
  have T6 : W3.there (w.heap.size + 1) 0 (stA (trapL s pk.cause)).size := by rw [stA_size hl]; exact K23.there
  have hi0 := hi25 hl
  have o5 := K23.setAll (stA (trapL s pk.cause)).toList (by rw [Array.length_toList, stA_size hl]; rfl)
  rw [Array.toArray_toList] at o5
  clear A2 A2' KP c0 c1 K22 B2 hb3 eW2
  go_wp2_with (first
    | (with_reducible refine wpList_store_mid rfl 25 (.tmp 6) (.tmp 24) rfl (w.heap.size + 1) 0 (stA (trapL s pk.cause)) rfl rfl T6 hi0 (stA_one _) ?_)
    | exact bodyPost_ret (results_cell_row rfl _ _ (w.heap.size + 1) 25 (stA (trapL s pk.cause)) (0, 0) _ rfl o5 Try.underlying25 rfl hi0) rfl ⟨rfl, below_setCells _ 0 B3 (by omega)⟩)
end Go.Proofs.Ytmpnlhfnemidpaa
