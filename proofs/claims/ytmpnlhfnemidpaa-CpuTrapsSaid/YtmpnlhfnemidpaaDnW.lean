/- The cpu's Done, of a trap. -/
import Derived.Test.YtmpnlhfnemidpaaDn1
import Derived.Test.YtmpnlhfnemidpaaPl5
namespace Go.Proofs.Ytmpnlhfnemidpaa
open Go.RowKit Go.Shelf
set_option maxRecDepth 100000 in
set_option maxHeartbeats 1000000 in
theorem cDone_trap {s : St} (hs : s.ok) {x : Int} (h0 : 0 ≤ x) (h1 : x < 4294967296) {pk : Wt} (hpl : planL s x = pk) (hk : (pk.kind == 1) = true) {told : Int} (w : World) :
    Calls Try.prog 12 #[.agg (stA s), .int .u32 x, .int .u32 told] w fun e w' => e = .returned (.agg (stA (trapL s pk.cause))) ∧ Below w.heap.size w w' := by
  obtain ⟨K1, K2, Hb, hsz⟩ := cells2 w (stA s) (stA zst) 25 25
  have hz := zst_lit
  have hi := hi25 hs.len
  have hP := fun W => cPlan hs h0 h1 W
  rw [hpl] at hP
  clear hpl h0 h1
  have HP := Lib.hid hP
  clear hP
  go_enter Try.func12, Try.ntmps12
  go_upto_region 1 with (fail)
  generalize (w.alloc _).alloc _ = W at *
  clear hz
  have A : StAt W w.heap.size s := ⟨K1, hs.len⟩
  have A' : W.heap[w.heap.size]? = some (.cells (stA s) 25 (0, 0)) := A.row
  go_wp2_with (with_reducible refine wpList_load_row rfl 25 (.tmp 3) rfl w.heap.size rfl 25 (stA s) (0, 0) _ A' Try.underlying25 rfl hi ?_)
  refine (HP.out W).mono ?_
  rintro e W1 ⟨rfl, hb1⟩
  obtain ⟨KP, hbp, sp⟩ := cells1 W1 (wtA pk) 42
  have B1 := Hb.trans (hb1.mono Hb.size)
  have A1 := A.below hb1 A.lt
  have K21 := K2.below hb1 K2.lt
  have B2 := B1.trans (hbp.mono B1.size)
  have A2 := A1.below hbp A1.lt
  have K22 := K21.below hbp K21.lt
  clear A A' A1 K1 K2 K21 B1 hb1 Hb hsz
  unfold wtA at KP hbp A2 K22 B2
  obtain ⟨W2, eW2⟩ : ∃ W2, W1.alloc (.cells #[.int .i64 pk.kind, .int .u32 pk.cause, .int .u32 pk.addr, .int .i64 pk.width, .int .i64 pk.port, .int .u32 pk.value] 42) = W2 := ⟨_, rfl⟩
  rw [eW2] at KP hbp A2 K22 B2
  have c0 := (KP.cell 0).trans (show _ = some (Value.int .i64 pk.kind) from rfl)
  have c1 := (KP.cell 1).trans (show _ = some (Value.int .u32 pk.cause) from rfl)
  have A2' : W2.heap[w.heap.size]? = some (.cells (stA s) 25 (0, 0)) := A2.row
  go_wp2_with (first
    | (with_reducible refine wpList_load_row rfl 25 (.tmp 3) rfl w.heap.size rfl 25 (stA s) (0, 0) _ A2' Try.underlying25 rfl hi ?_))
  refine (cTrap hs.len _ W2).mono ?_
  rintro e W3 ⟨rfl, hb3⟩
  have K23 := K22.below hb3 K22.lt
  have B3 := B2.trans (hb3.mono B2.size)
  have hl : (trapL s pk.cause).regs.length = 8 := hs.len
  have T6 : W3.there (w.heap.size + 1) 0 (stA (trapL s pk.cause)).size := by rw [stA_size hl]; exact K23.there
  have hi0 := hi25 hl
  have o5 := K23.setAll (stA (trapL s pk.cause)).toList (by rw [Array.length_toList, stA_size hl]; rfl)
  rw [Array.toArray_toList] at o5
  clear A2 A2' KP c0 c1 K22 B2 hb3 eW2
  go_wp2_with (first
    | (with_reducible refine wpList_store_mid rfl 25 (.tmp 6) (.tmp 24) rfl (w.heap.size + 1) 0 (stA (trapL s pk.cause)) rfl rfl T6 hi0 (stA_one _) ?_)
    | exact bodyPost_ret (results_cell_row rfl _ _ (w.heap.size + 1) 25 (stA (trapL s pk.cause)) (0, 0) _ rfl o5 Try.underlying25 rfl hi0) rfl ⟨rfl, below_setCells _ 0 B3 (by omega)⟩)
end Go.Proofs.Ytmpnlhfnemidpaa
