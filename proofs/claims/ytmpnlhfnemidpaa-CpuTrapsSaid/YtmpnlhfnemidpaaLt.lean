/- The law CpuTraps: the walk. -/
import Derived.Test.YtmpnlhfnemidpaaKn
import Derived.Test.YtmpnlhfnemidpaaOp

namespace Go.Proofs.Ytmpnlhfnemidpaa
open Go.RowKit Go.Shelf
theorem info_u32s : (Try.prog.info? 23).map (·.size) = some 8 := by kernel_rfl
theorem StAt.range {W : World} {B : Nat} {s : St} (h : StAt W B s) : W.rangeAt B 0 (s.regs.map (Value.int .u32)) := by
  intro j v hv
  rw [Nat.zero_add, h.row.cell]
  have hj : j < s.regs.length := by
    rcases Nat.lt_or_ge j s.regs.length with h | h
    · exact h
    · rw [List.getElem?_eq_none (by simpa using h)] at hv; cases hv
  rw [stA_reg hj]
  rw [List.getElem?_map, List.getElem?_eq_getElem hj] at hv
  exact hv
theorem neq_regs (l : List Int) (hl : l.length = 8) (w : World) : (binOp .neq 23 (.agg (l.map (Value.int .u32)).toArray) (.agg (l.map (Value.int .u32)).toArray)).run Try.prog w = .ok (.bool false) w := by
  obtain ⟨i, hi, _⟩ := Option.map_eq_some_iff.1 (show (Try.prog.info? 22).map (·.size) = some 1 by kernel_rfl)
  refine (run_neq_ints w Try.underlying23 hi (by kernel_rfl) Try.underlying22 (by kernel_rfl) l l hl hl).trans ?_
  simp
theorem eql_regs (l : List Int) (hl : l.length = 8) (w : World) : (binOp .eql 23 (.agg (l.map (Value.int .u32)).toArray) (.agg (l.map (Value.int .u32)).toArray)).run Try.prog w = .ok (.bool true) w := by
  obtain ⟨i, hi, _⟩ := Option.map_eq_some_iff.1 (show (Try.prog.info? 22).map (·.size) = some 1 by kernel_rfl)
  refine (run_eql_ints w Try.underlying23 hi (by kernel_rfl) Try.underlying22 (by kernel_rfl) l l hl hl).trans ?_
  simp
theorem trapL_ok {s : St} (hs : s.ok) {c : Int} (hc : u32? c) : (trapL s c).ok := ⟨hs.len, hs.regs, hs.vec, hs.pc, hc, hs.vec, hs.table⟩
theorem back_done {s : St} (c : Int) : doneL (trapL s c) 419430400 0 = { trapL s c with pc := s.pc, sup := s.sup, en := true } := by
  have h1 : dOp 419430400 = 25 := by decide +kernel
  have h2 : okL 419430400 = true := by decide +kernel
  have hp : planL (trapL s c) 419430400 = ⟨0, 0, 0, 0, 0, 0⟩ := by
    unfold planL planW
    rw [if_pos h2, h1]
    simp [trapL]
  unfold doneL
  rw [hp, if_neg (by decide), h1]
  simp [doneW, trapL]
theorem wpQuiet_true {P : Program} {ops : Array Oper} {C : World → Prop} {Q : Act → Prop} {a : Act} {o : Oper} {rest : List Oper} (hw : Region.wanted o (yielded ops a.tmps) = true) (h : ∀ K : Act → Prop, (∀ a, wpQuiet P ops C Q rest a → K a) → o.quiet P a C K) : wpQuiet P ops C Q (o :: rest) a :=
  wpQuiet_step fun K hK => by rw [if_pos hw]; exact h K hK
theorem Since.range {W : World} {b o : Nat} {cs : List Value} (h : W.rangeAt b o cs) (x : Since W) : x.val.rangeAt b o cs := fun j v hv => Since.cell (h j v hv) x
def backL (s : St) (c : Int) : St := { trapL s c with pc := s.pc, sup := s.sup, en := true }
theorem cDone_back {s : St} (hs : s.ok) {c : Int} (hc : u32? c) (w : World) : Calls Try.prog 12 #[.agg (stA (trapL s c)), .int .u32 419430400, .int .u32 0] w fun e w' => e = .returned (.agg (stA (backL s c))) ∧ Below w.heap.size w w' := by
  have h := cDone (trapL_ok hs hc) (x := 419430400) (told := 0) (by decide) (by decide) ⟨by decide, by decide⟩ w
  rw [back_done] at h
  exact h
set_option maxRecDepth 100000 in
set_option maxHeartbeats 4000000 in
theorem cCpuTraps {s : St} (hs : s.ok) {c : Int} (hc : u32? c) (w : World) : Calls Try.prog 3 #[.agg (stA s), .int .u32 c] w fun e w' => e = .returned (.bool true) ∧ Below w.heap.size w w' := by
  have hl := hs.len
  have hi := hi25 hs.len
  have hit := hi25 (s := trapL s c) hs.len
  have hi8 : (Try.prog.info? 23).map (·.size) = some (s.regs.map (Value.int .u32)).length := by rw [List.length_map, hl]; exact info_u32s
  have hneq := neq_regs s.regs hl
  have hz := zst_lit
  obtain ⟨K1, Hb, hsz⟩ := cells1 w (stA s) 25
  go_enter Try.func3, Try.ntmps3
  go_upto_region 1 with (fail)
  generalize w.alloc _ = W at *
  have A : StAt W w.heap.size s := ⟨K1, hs.len⟩
  have A' : W.heap[w.heap.size]? = some (.cells (stA s) 25 (0, 0)) := A.row
  go_upto_region 2 with (first
    | (with_reducible refine wpList_load_row rfl 25 (.tmp 2) rfl w.heap.size rfl 25 (stA s) (0, 0) _ A' Try.underlying25 rfl hi ?_)
    | (go_at_call 11; refine (cTrap hs.len c _).mono ?_; rintro e w1 ⟨rfl, hb1⟩; obtain ⟨Tz, W2, e2, K2, hb2, s2⟩ := row_own w1 25 (stA zst) (stA (trapL s c)) (by rw [stA_size (s := trapL s c) hs.len]; rfl))
    | (with_reducible refine wpList_store_mid rfl 25 (.tmp 5) (.tmp 9) rfl w1.heap.size 0 (stA (trapL s c)) rfl rfl Tz hit (stA_one _) ?_))
  clear hz
  rw [e2]
  have A2 : StAt W2 w.heap.size s := (A.below hb1 A.lt).below hb2 (A.below hb1 A.lt).lt
  have T2 : StAt W2 w1.heap.size (trapL s c) := ⟨K2, hs.len⟩
  have B2 := Hb.trans ((hb1.mono Hb.size).trans (hb2.mono (Hb.trans (hb1.mono Hb.size)).size))
  clear A A' hb1 K1 hb2 s2 e2 Tz K2 Hb hsz
  have r1 := A2.range
  have r2 : W2.rangeAt w1.heap.size 0 (s.regs.map (Value.int .u32)) := T2.range
  have a1 := A2.pc
  have a2 := A2.vec
  have a3 := A2.table
  have a4 := A2.sup
  have t1 : W2.cell? ⟨w1.heap.size, 9, none⟩ = some (.int .u32 s.pc) := T2.epc
  have t2 : W2.cell? ⟨w1.heap.size, 10, none⟩ = some (.int .u32 c) := T2.cause
  have t3 : W2.cell? ⟨w1.heap.size, 8, none⟩ = some (.int .u32 s.vec) := T2.pc
  have t4 : W2.cell? ⟨w1.heap.size, 11, none⟩ = some (.int .u32 s.vec) := T2.vec
  have t5 : W2.cell? ⟨w1.heap.size, 12, none⟩ = some (.int .u32 s.table) := T2.table
  have t6 : W2.cell? ⟨w1.heap.size, 13, none⟩ = some (.bool true) := T2.sup
  have t7 : W2.cell? ⟨w1.heap.size, 15, none⟩ = some (.bool false) := T2.en
  have t8 : W2.cell? ⟨w1.heap.size, 14, none⟩ = some (.bool s.sup) := T2.prev
  go_upto_region 4 with (first
    | (with_reducible refine wpList_load_mid rfl 23 (.tmp 10) rfl w1.heap.size 0 rfl (s.regs.map (Value.int .u32)) _ r2 Try.underlying23 rfl hi8 ?_)
    | (with_reducible refine wpList_load_mid rfl 23 (.tmp 12) rfl w.heap.size 0 rfl (s.regs.map (Value.int .u32)) _ r1 Try.underlying23 rfl hi8 ?_))
  have T2' : W2.heap[w1.heap.size]? = some (.cells (stA (trapL s c)) 25 (0, 0)) := T2.row
  have hib := hi25 (s := backL s c) hs.len
  have hz := zst_lit
  clear r1 r2 a1 a2 a3 a4 t1 t2 t3 t4 t5 t6 t7 t8 hneq
  go_upto_region 5 with (first
    | (with_reducible refine wpList_load_row rfl 25 (.tmp 5) rfl w1.heap.size rfl 25 (stA (trapL s c)) (0, 0) _ T2' Try.underlying25 rfl hit ?_)
    | (go_at_call 12; refine (cDone_back hs hc _).mono ?_; rintro e w3 ⟨rfl, hb3⟩; obtain ⟨Ty, W4, e4, K4, hb4, s4⟩ := row_own w3 25 (stA zst) (stA (backL s c)) (by rw [stA_size (s := backL s c) hs.len]; rfl))
    | (with_reducible refine wpList_store_mid rfl 25 (.tmp 6) (.tmp 66) rfl w3.heap.size 0 (stA (backL s c)) rfl rfl Ty hib (stA_one _) ?_))
  clear hz
  rw [e4]
  have A4 : StAt W4 w.heap.size s := (A2.below hb3 A2.lt).below hb4 (A2.below hb3 A2.lt).lt
  have T4 : StAt W4 w1.heap.size (trapL s c) := (T2.below hb3 T2.lt).below hb4 (T2.below hb3 T2.lt).lt
  have D4 : StAt W4 w3.heap.size (backL s c) := ⟨K4, hs.len⟩
  have B4 := B2.trans ((hb3.mono B2.size).trans (hb4.mono (B2.trans (hb3.mono B2.size)).size))
  clear A2 T2 T2' B2 hb3 hb4 s4 e4 Ty K4
  have r1 := Lib.hid (show W4.rangeAt w.heap.size 0 (s.regs.map (Value.int .u32)) from A4.range)
  have r2 := Lib.hid (show W4.rangeAt w3.heap.size 0 (s.regs.map (Value.int .u32)) from D4.range)
  have q1 := Lib.hid A4.row
  have q2 := Lib.hid T4.row
  have a1 := fun x : Since W4 => x.cell A4.pc
  have a4 := fun x : Since W4 => x.cell A4.sup
  have d1 := fun x : Since W4 => x.cell (show W4.cell? ⟨w3.heap.size, 8, none⟩ = some (.int .u32 s.pc) from D4.pc)
  have d2 := fun x : Since W4 => x.cell (show W4.cell? ⟨w3.heap.size, 13, none⟩ = some (.bool s.sup) from D4.sup)
  have d3 := fun x : Since W4 => x.cell (show W4.cell? ⟨w3.heap.size, 15, none⟩ = some (.bool true) from D4.en)
  have heql := eql_regs s.regs hl
  refine wp_region_since (by kernel_rfl) (by kernel_rfl) ?_
  simp only [Act.put]
  iterate 18 (go_big_quiet_step (fail))
  refine wpQuiet_true ?_ (fun K hK => ?_)
  · simp [Region.wanted, yielded]
  refine quiet_of_run (fun x => exec_load_mid 23 (.tmp 84) rfl w3.heap.size 0 rfl (s.regs.map (Value.int .u32)) _ (Since.range r2.out x) Try.underlying23 rfl hi8) ?_
  refine hK _ ?_
  clear hK K
  simp only [Act.put, List.setIfInBounds_toArray, List.set_cons_zero, List.set_cons_succ]
  iterate 1 (go_big_quiet_step (fail))
  refine wpQuiet_true ?_ (fun K hK => ?_)
  · simp [Region.wanted, yielded]
  refine quiet_of_run (fun x => exec_load_mid 23 (.tmp 86) rfl w.heap.size 0 rfl (s.regs.map (Value.int .u32)) _ (Since.range r1.out x) Try.underlying23 rfl hi8) ?_
  refine hK _ ?_
  clear hK K
  simp only [Act.put, List.setIfInBounds_toArray, List.set_cons_zero, List.set_cons_succ]
  iterate 3 (go_big_quiet_step (fail))
  refine wpQuiet_true ?_ (fun K hK => ?_)
  · simp [Region.wanted, yielded]
  refine quiet_of_run (fun x => exec_load_row 25 (.tmp 5) rfl w1.heap.size rfl 25 (stA (trapL s c)) _ (Since.cells q2.out x) Try.underlying25 rfl hit) ?_
  refine hK _ ?_
  clear hK K
  simp only [Act.put, List.setIfInBounds_toArray, List.set_cons_zero, List.set_cons_succ]
  go_big_quiet_step ((go_at_call 13; exact Since.of (cStatus (s := trapL s c) hs.len _)))
  refine wpQuiet_true ?_ (fun K hK => ?_)
  · simp [Region.wanted, yielded]
  refine quiet_of_run (fun x => exec_load_row 25 (.tmp 5) rfl w1.heap.size rfl 25 (stA (trapL s c)) _ (Since.cells q2.out x) Try.underlying25 rfl hit) ?_
  refine hK _ ?_
  clear hK K
  simp only [Act.put, List.setIfInBounds_toArray, List.set_cons_zero, List.set_cons_succ]
  go_big_quiet_step ((go_at_call 14; exact Since.of (rStatus (s := trapL s c) hs.len _)))
  iterate 3 (go_big_quiet_step (fail))
  refine wpQuiet_true ?_ (fun K hK => ?_)
  · simp [Region.wanted, yielded]
  refine quiet_of_run (fun x => exec_load_row 25 (.tmp 2) rfl w.heap.size rfl 25 (stA s) _ (Since.cells q1.out x) Try.underlying25 rfl hi) ?_
  refine hK _ ?_
  clear hK K
  simp only [Act.put, List.setIfInBounds_toArray, List.set_cons_zero, List.set_cons_succ]
  go_big_quiet_step ((go_at_call 13; exact Since.of (cStatus (s := s) hs.len _)))
  refine wpQuiet_true ?_ (fun K hK => ?_)
  · simp [Region.wanted, yielded]
  refine quiet_of_run (fun x => exec_load_row 25 (.tmp 2) rfl w.heap.size rfl 25 (stA s) _ (Since.cells q1.out x) Try.underlying25 rfl hi) ?_
  refine hK _ ?_
  clear hK K
  simp only [Act.put, List.setIfInBounds_toArray, List.set_cons_zero, List.set_cons_succ]
  go_big_quiet_step ((go_at_call 14; exact Since.of (rStatus (s := s) hs.len _)))
  iterate 3 (go_big_quiet_step (fail))
  go_big_quiet_step ((go_at_call 15; exact Since.of (cKnown _)))
  iterate 2 (go_big_quiet_step (fail))
  refine wpQuiet_nil ?_
  rintro _ ⟨x, rfl⟩
  go_wp2
  go_ret
  exact ⟨rfl, B4.trans (x.low.mono B4.size)⟩
end Go.Proofs.Ytmpnlhfnemidpaa
