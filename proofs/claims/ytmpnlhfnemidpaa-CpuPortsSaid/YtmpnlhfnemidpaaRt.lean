/- The document's Trap. -/
import Derived.Test.YtmpnlhfnemidpaaSt
import Derived.BigRegion
import Derived.RegionTactic
import Derived.Deep.RegionHeld3
import Derived.Deep.DeepCutAuto
import Derived.Test.YtmpnlhfnemidpaaBw
namespace Go.Proofs.Ytmpnlhfnemidpaa
open Go.RowKit Go.Shelf
theorem trS_set {W : World} {B C j : Nat} {p q r v : Value} (h : W.cell? ⟨B, 8, none⟩ = some p ∧ W.cell? ⟨B, 13, none⟩ = some q ∧ W.cell? ⟨B, 11, none⟩ = some r) (hne : ¬ B = C) : (W.setCell ⟨C, j, none⟩ v).cell? ⟨B, 8, none⟩ = some p ∧ (W.setCell ⟨C, j, none⟩ v).cell? ⟨B, 13, none⟩ = some q ∧ (W.setCell ⟨C, j, none⟩ v).cell? ⟨B, 11, none⟩ = some r := by
  have hb : (W.setCell ⟨C, j, none⟩ v).heap[B]? = W.heap[B]? := Below.heap_setCell W ⟨C, j, none⟩ v B hne
  exact ⟨(World.cell?_of_block hb).trans h.1, (World.cell?_of_block hb).trans h.2.1, (World.cell?_of_block hb).trans h.2.2⟩
theorem StAt.drew {W : World} {B : Nat} {s : St} (h : StAt W B s) : StAt W.drew B s := ⟨h.row, h.len⟩
theorem Cells.drew {W : World} {B : Nat} {t : TypeId} {c : Array Value} (h : Cells W B t c) : Cells W.drew B t c := h
theorem trS_drew {W : World} {B : Nat} {p q r : Value} (h : W.cell? ⟨B, 8, none⟩ = some p ∧ W.cell? ⟨B, 13, none⟩ = some q ∧ W.cell? ⟨B, 11, none⟩ = some r) : W.drew.cell? ⟨B, 8, none⟩ = some p ∧ W.drew.cell? ⟨B, 13, none⟩ = some q ∧ W.drew.cell? ⟨B, 11, none⟩ = some r := h
set_option maxRecDepth 100000 in
set_option maxHeartbeats 1000000 in
theorem rTrap {s : St} (hs : s.regs.length = 8) (cause : Int) (w : World) : Calls Try.prog 60 #[.agg (stA s), .int .u32 cause] w fun e w' => e = .returned (.agg (stA (trapL s cause))) ∧ Below w.heap.size w w' := by
  have hz := zst_lit
  have hi0 := hi25 hs
  obtain ⟨K1, K2, Hb, hsz⟩ := cells2 w (stA s) (stA zst) 25 25
  go_enter Try.func60, Try.ntmps60
  go_upto_region 1 with (fail)
  generalize (w.alloc _).alloc _ = W at *
  have HS := Lib.hid hsz
  clear hsz
  have A : StAt W w.heap.size s := ⟨K1, hs⟩
  have A' : W.heap[w.heap.size]? = some (.cells (stA s) 25 (0, 0)) := A.row
  obtain ⟨Tz, W2, e2, K3, hb2, s2⟩ := row_own W 25 (stA zst) (stA s) (by rw [stA_size hs]; rfl)
  go_upto_region 2 with (first
    | (with_reducible refine wpList_load_row rfl 25 (.tmp 2) rfl w.heap.size rfl 25 (stA s) (0, 0) _ A' Try.underlying25 rfl hi0 ?_)
    | (with_reducible refine wpList_store_mid rfl 25 (.tmp 5) (.tmp 6) rfl W.heap.size 0 (stA s) rfl rfl Tz hi0 (stA_one _) ?_))
  (try rw [e2])
  have A2 : StAt W2 w.heap.size s := A.below hb2 A.lt
  have R2 : Cells W2 (w.heap.size + 1) 25 (stA zst) := K2.below hb2 K2.lt
  have O2 : StAt W2 W.heap.size s := ⟨K3, hs⟩
  have B2 := Hb.trans (hb2.mono Hb.size)
  have hsz' : W.heap.size = w.heap.size + 2 := HS.out
  clear hz A A' K1 K2 K3 Hb hb2 s2 e2 Tz hi0
  have a1 := A2.pc
  have a2 := A2.sup
  have a3 := A2.vec
  have a4 := O2.epc
  have a5 := O2.cause
  have a6 := O2.prev
  have a7 := O2.en
  have a8 := O2.pc
  have a9 := O2.sup
  have f8 := O2.fz 8
  have f9 := O2.fz 9
  have f10 := O2.fz 10
  have f13 := O2.fz 13
  have f14 := O2.fz 14
  have f15 := O2.fz 15
  have hlt := A2.lt
  have hne : ¬ W.heap.size = w.heap.size := by omega
  have hne' : ¬ w.heap.size = W.heap.size := by omega
  have HN := Lib.hid (show ¬ w.heap.size + 1 = W.heap.size by omega)
  have HL := Lib.hid (show w.heap.size ≤ W.heap.size by omega)
  clear hsz' HS
  have S0 : W2.cell? ⟨w.heap.size, 8, none⟩ = some (.int .u32 s.pc) ∧ W2.cell? ⟨w.heap.size, 13, none⟩ = some (.bool s.sup) ∧ W2.cell? ⟨w.heap.size, 11, none⟩ = some (.int .u32 s.vec) := ⟨a1, a2, a3⟩
  go_region_held3 (fun w' => w'.cell? ⟨w.heap.size, 8, none⟩ = some (.int .u32 s.pc) ∧ w'.cell? ⟨w.heap.size, 13, none⟩ = some (.bool s.sup) ∧ w'.cell? ⟨w.heap.size, 11, none⟩ = some (.int .u32 s.vec))
    (((repeat (first | (with_reducible refine trS_set ?_ hne') | (with_reducible refine trS_drew ?_))); with_reducible exact S0))
    (fail)
  have hne2 : ¬ w.heap.size + 1 = W.heap.size := HN.out
  have A6 : StAt (((((((W2.setCell ⟨W.heap.size, 9, none⟩ (.int .u32 s.pc)).setCell ⟨W.heap.size, 10, none⟩ (.int .u32 cause)).setCell ⟨W.heap.size, 14, none⟩ (.bool s.sup)).setCell ⟨W.heap.size, 13, none⟩ (.bool true)).setCell ⟨W.heap.size, 15, none⟩ (.bool false)).setCell ⟨W.heap.size, 8, none⟩ (.int .u32 s.vec)).drew) W.heap.size (trapL s cause) := ((((((O2.set_epc s.pc).set_cause cause).set_prev s.sup).set_sup true).set_en false).set_pc s.vec).drew
  have K6 : Cells (((((((W2.setCell ⟨W.heap.size, 9, none⟩ (.int .u32 s.pc)).setCell ⟨W.heap.size, 10, none⟩ (.int .u32 cause)).setCell ⟨W.heap.size, 14, none⟩ (.bool s.sup)).setCell ⟨W.heap.size, 13, none⟩ (.bool true)).setCell ⟨W.heap.size, 15, none⟩ (.bool false)).setCell ⟨W.heap.size, 8, none⟩ (.int .u32 s.vec)).drew) (w.heap.size + 1) 25 (stA zst) := ((((((R2.other (a := ⟨W.heap.size, 9, none⟩) (.int .u32 s.pc) hne2).other (a := ⟨W.heap.size, 10, none⟩) (.int .u32 cause) hne2).other (a := ⟨W.heap.size, 14, none⟩) (.bool s.sup) hne2).other (a := ⟨W.heap.size, 13, none⟩) (.bool true) hne2).other (a := ⟨W.heap.size, 15, none⟩) (.bool false) hne2).other (a := ⟨W.heap.size, 8, none⟩) (.int .u32 s.vec) hne2).drew
  have B6 : Below w.heap.size w (((((((W2.setCell ⟨W.heap.size, 9, none⟩ (.int .u32 s.pc)).setCell ⟨W.heap.size, 10, none⟩ (.int .u32 cause)).setCell ⟨W.heap.size, 14, none⟩ (.bool s.sup)).setCell ⟨W.heap.size, 13, none⟩ (.bool true)).setCell ⟨W.heap.size, 15, none⟩ (.bool false)).setCell ⟨W.heap.size, 8, none⟩ (.int .u32 s.vec)).drew) := ((((((B2.setCell (p := ⟨W.heap.size, 9, none⟩) HL.out (.int .u32 s.pc)).setCell (p := ⟨W.heap.size, 10, none⟩) HL.out (.int .u32 cause)).setCell (p := ⟨W.heap.size, 14, none⟩) HL.out (.bool s.sup)).setCell (p := ⟨W.heap.size, 13, none⟩) HL.out (.bool true)).setCell
    (p := ⟨W.heap.size, 15, none⟩) HL.out (.bool false)).setCell (p := ⟨W.heap.size, 8, none⟩) HL.out (.int .u32 s.vec)).drew
  generalize World.drew _ = W6 at *
  clear A2 R2 O2 B2 a1 a2 a3 a4 a5 a6 a7 a8 a9 f8 f9 f10 f13 f14 f15 S0 hlt hne hne' hne2 HN HL
  have A6' : W6.heap[W.heap.size]? = some (.cells (stA (trapL s cause)) 25 (0, 0)) := A6.row
  have T6 : W6.there (w.heap.size + 1) 0 (stA (trapL s cause)).size := by rw [stA_size A6.len]; exact K6.there
  have hi := hi25 A6.len
  have o5 := K6.setAll (stA (trapL s cause)).toList (by rw [Array.length_toList, stA_size A6.len]; rfl)
  rw [Array.toArray_toList] at o5
  go_wp2_with (first
    | (with_reducible refine wpList_load_row rfl 25 (.tmp 5) rfl W.heap.size rfl 25 (stA (trapL s cause)) (0, 0) _ A6' Try.underlying25 rfl hi ?_)
    | (with_reducible refine wpList_store_mid rfl 25 (.tmp 4) (.tmp 20) rfl (w.heap.size + 1) 0 (stA (trapL s cause)) rfl rfl T6 hi (stA_one _) ?_)
    | exact bodyPost_ret (results_cell_row rfl _ _ (w.heap.size + 1) 25 (stA (trapL s cause)) (0, 0) _ rfl o5 Try.underlying25 rfl hi) rfl ⟨rfl, below_setCells _ 0 B6 (by omega)⟩)
end Go.Proofs.Ytmpnlhfnemidpaa
namespace Go.Proofs.Ytmpnlhfnemidpaa
open Go.RowKit Go.Shelf
set_option maxRecDepth 100000 in
set_option maxHeartbeats 1000000 in
theorem rDone25 {s : St} (hs : s.ok) {x : Int} (hok : okL x = true) (h0 : 0 ≤ x) (h1 : x < 4294967296) {n : Int} {ka kb : Nat} (hka : ka < 8) (hkb : kb < 8) (bn : -32768 ≤ n ∧ n ≤ 32767) (e1 : dOp x = 25) (e2 : dA x = ka) (e3 : dB x = kb) (e4 : dN x = n)
    {av bv : Int} (ra : u32? av) (rb : u32? bv) (ea : reg s ka = av) (eb : reg s kb = bv) {pk : Wt} (hpl : planL s x = pk) (hk : (pk.kind == 1) = false) {told : Int} (w : World) :
    Calls Try.prog 30 #[.agg (stA s), .int .u32 x, .int .u32 told] w fun e w' => e = .returned (.agg (stA { s with pc := s.epc, sup := s.prev, en := true })) ∧ Below w.heap.size w w' := by
  have hall := And.intro bn (And.intro ra rb)
  clear hall
  have hpc := hs.pc
  obtain ⟨pc0, pc1⟩ := hpc
  obtain ⟨K1, K2, Hb, hsz⟩ := cells2 w (stA s) (stA zst) 25 25
  have hz := zst_lit
  have hi := hi25 hs.len
  have hP := fun W => rPlan hs h0 h1 W
  rw [hpl] at hP
  clear hpl
  have HP := Lib.hid hP
  clear hP
  go_enter Try.func30, Try.ntmps30
  go_upto_region 1 with (fail)
  generalize (w.alloc _).alloc _ = W at *
  clear hz
  have A : StAt W w.heap.size s := ⟨K1, hs.len⟩
  have A' : W.heap[w.heap.size]? = some (.cells (stA s) 25 (0, 0)) := A.row
  go_wp2_with (with_reducible refine wpList_load_row rfl 25 (.tmp 3) rfl w.heap.size rfl 25 (stA s) (0, 0) _ A' Try.underlying25 rfl hi ?_)
  refine (HP.out W).mono ?_
  rintro e W1 ⟨rfl, hb1⟩
  obtain ⟨KP, hbp, sp⟩ := cells1 W1 (wtA pk) 42
  have B1 := Hb.trans (hb1.mono Hb.size)
  have A1 := A.below hb1 A.lt
  have K21 := K2.below hb1 K2.lt
  go_wp2_with fail
  unfold wtA at KP hbp
  generalize W1.alloc _ = W2 at *
  clear KP
  refine (rDecode_in hok h0 h1 W2).mono ?_
  rintro e W3 ⟨rfl, hb3⟩
  rw [e1, e2, e3, e4]
  clear hok h0 h1 e1 e2 e3 e4
  have B2 := B1.trans (hbp.mono B1.size)
  have A2 := A1.below hbp A1.lt
  have K22 := K21.below hbp K21.lt
  have A3 := A2.below hb3 A2.lt
  have K23 := K22.below hb3 K22.lt
  have B3 := B2.trans (hb3.mono B2.size)
  obtain ⟨Ki, hbi, si⟩ := cells1 W3 (instA 25 ka kb n) 54
  have A4 := A3.below hbi A3.lt
  have K24 := K23.below hbi K23.lt
  have B4 := B3.trans (hbi.mono B3.size)
  have l3 := K23.lt
  clear A A' A1 A2 A3 K1 K2 K21 K22 K23 B1 B2 B3 hb1 hb3 hbp hbi Hb hsz sp si
  unfold instA at Ki A4 K24 B4
  obtain ⟨W4, eW4⟩ : ∃ W4, W3.alloc (.cells #[.int .i64 25, .int .i64 ka, .int .i64 kb, .int .i64 n] 54) = W4 := ⟨_, rfl⟩
  rw [eW4] at Ki A4 K24 B4
  have i0 := (Ki.cell 0).trans (show _ = some (Value.int .i64 25) from rfl)
  have i1 := (Ki.cell 1).trans (show _ = some (Value.int .i64 ka) from rfl)
  have i2 := (Ki.cell 2).trans (show _ = some (Value.int .i64 kb) from rfl)
  have r1 := A4.reg (k := ka) hka
  have r2 := A4.reg (k := kb) hkb
  rw [ea] at r1
  rw [eb] at r2
  go_upto_region 6 with (fail)
  have x1 : (0 : Int) ≤ (ka : Int) := by omega
  have x2 : (ka : Int) < 8 := by omega
  have x3 : (0 : Int) ≤ (kb : Int) := by omega
  have x4 : (kb : Int) < 8 := by omega
  refine wp_region_still_lit (by kernel_rfl) (by kernel_rfl) ?_
  repeat still_step
  refine wpStill_nil ?_
  change Exit.then _ _ .normal _ W4.drew
  clear x1 x2 x3 x4 r1 r2 eW4 i0 i1 i2
  have A5 : StAt W4.drew w.heap.size s := ⟨A4.row, hs.len⟩
  have B5 : Below w.heap.size w W4.drew := B4.drew
  have Ki5 : Cells W4.drew W3.heap.size 54 (instA 25 ka kb n) := Ki
  have K25 : Cells W4.drew (w.heap.size + 1) 25 (stA zst) := K24
  clear A4 B4 Ki K24
  generalize W4.drew = W5 at *
  have A5' : W5.heap[w.heap.size]? = some (.cells (stA s) 25 (0, 0)) := A5.row
  obtain ⟨Tz, W6, e6, Ko, hb6, s6⟩ := row_own W5 25 (stA zst) (stA s) (by rw [stA_size hs.len]; rfl)
  have A6 := A5.below hb6 A5.lt
  have O6 : StAt W6 W5.heap.size s := ⟨Ko, hs.len⟩
  have p8 := A6.pc
  have o8 := O6.pc
  have f8 := O6.fz 8
  have hz := zst_lit
  go_wp2_with (first
    | (with_reducible refine wpList_load_row rfl 25 (.tmp 3) rfl w.heap.size rfl 25 (stA s) (0, 0) _ A5' Try.underlying25 rfl hi ?_)
    | (with_reducible refine wpList_store_mid rfl 25 (.tmp 13) (.tmp 42) rfl W5.heap.size 0 (stA s) rfl rfl Tz hi (stA_one _) ?_))
  clear hz
  refine (rAdd _ _ _ pc0 pc1 (by omega) (by omega)).mono ?_
  rintro e w' ⟨rfl, rfl⟩
  have D7 : DnAt w (W6.setCell ⟨W5.heap.size, 8, none⟩ (.int .u32 ((s.pc + 4) % 4294967296))) W3.heap.size W5.heap.size s { s with pc := (s.pc + 4) % 4294967296 } 25 ka kb n :=
    ⟨A6.other _ (by have := A5.lt; simp; omega), (K25.below hb6 K25.lt).other _ (by have := K25.lt; simp; omega), (Ki5.below hb6 Ki5.lt).other _ (by have := Ki5.lt; simp; omega), O6.set_pc _, (B5.trans (hb6.mono B5.size)).setCell (p := ⟨W5.heap.size, 8, none⟩) B5.size _, by omega, Ki5.lt⟩
  clear A6 p8 hb6 s6 Tz e6 A5 A5' B5 Ki5 K25
  go_upto_region 9 with (fail)
  clear O6 o8 f8 Ko
  generalize World.setCell _ _ _ = W7 at *
  go_upto_region 37 with (fail)
  have a1 := D7.s.prev
  have a2 := D7.s.epc
  have c1 := D7.o.sup
  have c2 := D7.o.en
  have c3 := D7.o.pc
  have f1 := D7.o.fz 13
  have f2 := D7.o.fz 15
  have f3 := D7.o.fz 8
  have hne : ¬ W5.heap.size = w.heap.size := by have := D7.hi; have := D7.ho; omega
  go_region
  have D12 : DnAt w (((W7.setCell ⟨W5.heap.size, 13, none⟩ (.bool s.prev)).setCell ⟨W5.heap.size, 15, none⟩ (.bool true)).setCell ⟨W5.heap.size, 8, none⟩ (.int .u32 s.epc)).drew W3.heap.size W5.heap.size s _ 25 ka kb n := (((D7.setO (D7.o.set_sup s.prev)).setO ((D7.setO (D7.o.set_sup s.prev)).o.set_en true)).setO (((D7.setO (D7.o.set_sup s.prev)).setO ((D7.setO (D7.o.set_sup s.prev)).o.set_en true)).o.set_pc s.epc)).below (Below.refl _ _).drew
  clear D7 a1 a2 c1 c2 c3 f1 f2 f3
  go_upto_region 38 with (fail)
  generalize World.drew _ = W10 at *
  have o0 : W10.heap[W5.heap.size]? = some (.cells (stA { s with pc := s.epc, sup := s.prev, en := true }) 25 (0, 0)) := D12.o.row
  have T6 : W10.there (w.heap.size + 1) 0 (stA { s with pc := s.epc, sup := s.prev, en := true }).size := by rw [stA_size D12.o.len]; exact D12.res.there
  have hi0 := hi25 D12.o.len
  have o5 := D12.res.setAll (stA { s with pc := s.epc, sup := s.prev, en := true }).toList (by rw [Array.length_toList, stA_size D12.o.len]; rfl)
  rw [Array.toArray_toList] at o5
  have hlow := D12.low
  go_wp2_with (first
    | (with_reducible refine wpList_load_row rfl 25 (.tmp 13) rfl W5.heap.size rfl 25 (stA { s with pc := s.epc, sup := s.prev, en := true }) (0, 0) _ o0 Try.underlying25 rfl hi0 ?_)
    | (with_reducible refine wpList_store_mid rfl 25 (.tmp 6) (.tmp 209) rfl (w.heap.size + 1) 0 (stA { s with pc := s.epc, sup := s.prev, en := true }) rfl rfl T6 hi0 (stA_one _) ?_)
    | exact bodyPost_ret (results_cell_row rfl _ _ (w.heap.size + 1) 25 (stA { s with pc := s.epc, sup := s.prev, en := true }) (0, 0) _ rfl o5 Try.underlying25 rfl hi0) rfl ⟨rfl, below_setCells _ 0 hlow (by omega)⟩)
end Go.Proofs.Ytmpnlhfnemidpaa
namespace Go.Proofs.Ytmpnlhfnemidpaa
open Go.RowKit Go.Shelf
set_option maxRecDepth 100000 in
set_option maxHeartbeats 1000000 in
theorem rDone_trap {s : St} (hs : s.ok) {x : Int} (h0 : 0 ≤ x) (h1 : x < 4294967296) {pk : Wt} (hpl : planL s x = pk) (hk : (pk.kind == 1) = true) {told : Int} (w : World) :
    Calls Try.prog 30 #[.agg (stA s), .int .u32 x, .int .u32 told] w fun e w' => e = .returned (.agg (stA (trapL s pk.cause))) ∧ Below w.heap.size w w' := by
  obtain ⟨K1, K2, Hb, hsz⟩ := cells2 w (stA s) (stA zst) 25 25
  have hz := zst_lit
  have hi := hi25 hs.len
  have hP := fun W => rPlan hs h0 h1 W
  rw [hpl] at hP
  clear hpl h0 h1
  have HP := Lib.hid hP
  clear hP
  go_enter Try.func30, Try.ntmps30
  go_upto_region 1 with (fail)
  generalize (w.alloc _).alloc _ = W at *
  clear hz
  have A : StAt W w.heap.size s := ⟨K1, hs.len⟩
  have A' : W.heap[w.heap.size]? = some (.cells (stA s) 25 (0, 0)) := A.row
  go_wp2_with (with_reducible refine wpList_load_row rfl 25 (.tmp 3) rfl w.heap.size rfl 25 (stA s) (0, 0) _ A' Try.underlying25 rfl hi ?_)
  refine (HP.out W).mono ?_
  rintro e W1 ⟨rfl, hb1⟩
  obtain ⟨KP, hbp, sp⟩ := cells1 W1 (wtA pk) 42
  have B1 := Hb.trans (hb1.mono Hb.size)
  have A1 := A.below hb1 A.lt
  have K21 := K2.below hb1 K2.lt
  have B2 := B1.trans (hbp.mono B1.size)
  have A2 := A1.below hbp A1.lt
  have K22 := K21.below hbp K21.lt
  clear A A' A1 K1 K2 K21 B1 hb1 Hb hsz
  unfold wtA at KP hbp A2 K22 B2
  obtain ⟨W2, eW2⟩ : ∃ W2, W1.alloc (.cells #[.int .i64 pk.kind, .int .u32 pk.cause, .int .u32 pk.addr, .int .i64 pk.width, .int .i64 pk.port, .int .u32 pk.value] 42) = W2 := ⟨_, rfl⟩
  rw [eW2] at KP hbp A2 K22 B2
  have c0 := (KP.cell 0).trans (show _ = some (Value.int .i64 pk.kind) from rfl)
  have c1 := (KP.cell 1).trans (show _ = some (Value.int .u32 pk.cause) from rfl)
  have A2' : W2.heap[w.heap.size]? = some (.cells (stA s) 25 (0, 0)) := A2.row
  go_wp2_with (first
    | (with_reducible refine wpList_load_row rfl 25 (.tmp 3) rfl w.heap.size rfl 25 (stA s) (0, 0) _ A2' Try.underlying25 rfl hi ?_))
  refine (rTrap hs.len _ W2).mono ?_
  rintro e W3 ⟨rfl, hb3⟩
  have K23 := K22.below hb3 K22.lt
  have B3 := B2.trans (hb3.mono B2.size)
  have hl : (trapL s pk.cause).regs.length = 8 := hs.len
  have T6 : W3.there (w.heap.size + 1) 0 (stA (trapL s pk.cause)).size := by rw [stA_size hl]; exact K23.there
  have hi0 := hi25 hl
  have o5 := K23.setAll (stA (trapL s pk.cause)).toList (by rw [Array.length_toList, stA_size hl]; rfl)
  rw [Array.toArray_toList] at o5
  clear A2 A2' KP c0 c1 K22 B2 hb3 eW2
  go_wp2_with (first
    | (with_reducible refine wpList_store_mid rfl 25 (.tmp 6) (.tmp 24) rfl (w.heap.size + 1) 0 (stA (trapL s pk.cause)) rfl rfl T6 hi0 (stA_one _) ?_)
    | exact bodyPost_ret (results_cell_row rfl _ _ (w.heap.size + 1) 25 (stA (trapL s pk.cause)) (0, 0) _ rfl o5 Try.underlying25 rfl hi0) rfl ⟨rfl, below_setCells _ 0 B3 (by omega)⟩)
end Go.Proofs.Ytmpnlhfnemidpaa
