/- The cpu's Done: the world while an instruction is done; got, put. -/
import Derived.Test.YtmpnlhfnemidpaaMk
import Derived.Test.YtmpnlhfnemidpaaSt
import Derived.Deep.RegionHeld3
import Derived.Deep.MidRow
namespace Go.Proofs.Ytmpnlhfnemidpaa
open Go.RowKit Go.Shelf

/-- The world while an instruction is done: the state, the result's place, the instruction, the state behind it so far. -/
structure DnAt (w W : World) (Bi Bo : Nat) (s o : St) (op ka kb n : Int) : Prop where
  s : StAt W w.heap.size s
  res : Cells W (w.heap.size + 1) 25 (stA zst)
  i : Cells W Bi 54 (instA op ka kb n)
  o : StAt W Bo o
  low : Below w.heap.size w W
  hi : w.heap.size + 1 < Bi
  ho : Bi < Bo
theorem DnAt.below {w W W' : World} {Bi Bo : Nat} {s o : St} {op ka kb n : Int} (h : DnAt w W Bi Bo s o op ka kb n) (hb : Below W.heap.size W W') : DnAt w W' Bi Bo s o op ka kb n :=
  ⟨h.s.below hb h.s.lt, h.res.below hb h.res.lt, h.i.below hb h.i.lt, h.o.below hb h.o.lt, h.low.trans (hb.mono h.low.size), h.hi, h.ho⟩
theorem DnAt.setO {w W : World} {Bi Bo : Nat} {s o o' : St} {op ka kb n : Int} (h : DnAt w W Bi Bo s o op ka kb n) {j : Nat} {v : Value} (ho : StAt (W.setCell ⟨Bo, j, none⟩ v) Bo o') : DnAt w (W.setCell ⟨Bo, j, none⟩ v) Bi Bo s o' op ka kb n :=
  ⟨h.s.other v (by have := h.hi; have := h.ho; simp; omega), h.res.other v (by have := h.hi; have := h.ho; simp; omega), h.i.other v (by have := h.ho; simp; omega), ho, h.low.setCell (p := ⟨Bo, j, none⟩) (by have := h.hi; have := h.ho; simp; omega) v, h.hi, h.ho⟩
theorem DnAt.ic {w W : World} {Bi Bo : Nat} {s o : St} {op ka kb n : Int} (h : DnAt w W Bi Bo s o op ka kb n) : W.cell? ⟨Bi, 0, none⟩ = some (.int .i64 op) ∧ W.cell? ⟨Bi, 1, none⟩ = some (.int .i64 ka) ∧ W.cell? ⟨Bi, 2, none⟩ = some (.int .i64 kb) ∧ W.cell? ⟨Bi, 3, none⟩ = some (.int .i64 n) :=
  ⟨h.i.cell 0, h.i.cell 1, h.i.cell 2, h.i.cell 3⟩
theorem zero_fn (W : World) : (zeroValue 58).run Try.prog W = .ok .nilFunc W := by kernel_rfl
theorem mk_look {w W : World} (hM : MkAt w W (mkL w.heap.size) mkF) (op : Int) : (Instr.lookup 60 (.map (some w.heap.size)) (.int .i64 op) true).run Try.prog W = .ok (.tuple #[((mkL w.heap.size).lookup op).getD .nilFunc, .bool ((mkL w.heap.size).lookup op).isSome]) W :=
  run_lookup_ints_ok hM.m Try.underlying60 Try.underlying52 (zero_fn W) op
theorem mk_look_no {w W : World} (hM : MkAt w W (mkL w.heap.size) mkF) {op : Int} (h : ¬ (2 ≤ op ∧ op ≤ 12)) : (Instr.lookup 60 (.map (some w.heap.size)) (.int .i64 op) true).run Try.prog W = .ok (.tuple #[.nilFunc, .bool false]) W := by
  have hl : (mkL w.heap.size).lookup op = none := by
    have q : ∀ k : Int, 2 ≤ k → k ≤ 12 → (op == k) = false := fun k h1 h2 => beq_eq_false_iff_ne.2 (by omega)
    simp [mkL, List.range_succ, List.lookup, q 2, q 3, q 4, q 5, q 6, q 7, q 8, q 9, q 10, q 11, q 12]
  have := mk_look hM op
  rw [hl] at this
  exact this
theorem DnAt.ics {w W : World} {Bi Bo : Nat} {s o : St} {op ka kb n : Int} (h : DnAt w W Bi Bo s o op ka kb n) : W.cell? ⟨Bi, 0, none⟩ = some (.int .i64 op) ∧ W.cell? ⟨Bi, 1, none⟩ = some (.int .i64 ka) ∧ W.cell? ⟨Bi, 2, none⟩ = some (.int .i64 kb) ∧ W.cell? ⟨Bi, 3, none⟩ = some (.int .i64 n) ∧ W.cell? ⟨w.heap.size, 8, none⟩ = some (.int .u32 s.pc) :=
  ⟨h.i.cell 0, h.i.cell 1, h.i.cell 2, h.i.cell 3, h.s.pc⟩
def gotL (s : St) (n : Int) : Int := if n = 0 then s.epc else if n = 1 then s.cause else if n = 2 then s.vec else if n = 3 then s.table else if n = 4 then statusL s else s.pc
def putL (o : St) (n a : Int) : St := if n = 0 then { o with epc := a } else if n = 1 then { o with cause := a } else if n = 2 then { o with vec := a } else if n = 3 then { o with table := a } else if n = 4 then { o with prev := (a / 2 % 2 != 0), en := (a / 4 % 2 != 0) } else o
theorem ix6_0 (x0 x1 x2 x3 x4 x5 : Int) (w : World) : (Instr.index 88 (.agg #[.int .u32 x0, .int .u32 x1, .int .u32 x2, .int .u32 x3, .int .u32 x4, .int .u32 x5]) (.int .i64 0)).run Try.prog w = .ok (.int .u32 x0) w := by kernel_rfl
theorem ix6_1 (x0 x1 x2 x3 x4 x5 : Int) (w : World) : (Instr.index 88 (.agg #[.int .u32 x0, .int .u32 x1, .int .u32 x2, .int .u32 x3, .int .u32 x4, .int .u32 x5]) (.int .i64 1)).run Try.prog w = .ok (.int .u32 x1) w := by kernel_rfl
theorem ix6_2 (x0 x1 x2 x3 x4 x5 : Int) (w : World) : (Instr.index 88 (.agg #[.int .u32 x0, .int .u32 x1, .int .u32 x2, .int .u32 x3, .int .u32 x4, .int .u32 x5]) (.int .i64 2)).run Try.prog w = .ok (.int .u32 x2) w := by kernel_rfl
theorem ix6_3 (x0 x1 x2 x3 x4 x5 : Int) (w : World) : (Instr.index 88 (.agg #[.int .u32 x0, .int .u32 x1, .int .u32 x2, .int .u32 x3, .int .u32 x4, .int .u32 x5]) (.int .i64 3)).run Try.prog w = .ok (.int .u32 x3) w := by kernel_rfl
theorem ix6_4 (x0 x1 x2 x3 x4 x5 : Int) (w : World) : (Instr.index 88 (.agg #[.int .u32 x0, .int .u32 x1, .int .u32 x2, .int .u32 x3, .int .u32 x4, .int .u32 x5]) (.int .i64 4)).run Try.prog w = .ok (.int .u32 x4) w := by kernel_rfl
theorem ix6_5 (x0 x1 x2 x3 x4 x5 : Int) (w : World) : (Instr.index 88 (.agg #[.int .u32 x0, .int .u32 x1, .int .u32 x2, .int .u32 x3, .int .u32 x4, .int .u32 x5]) (.int .i64 5)).run Try.prog w = .ok (.int .u32 x5) w := by kernel_rfl
theorem ip4_0 (p0 p1 p2 p3 : Addr) (w : World) : (Instr.index 90 (.agg #[.pointer (some p0), .pointer (some p1), .pointer (some p2), .pointer (some p3)]) (.int .i64 0)).run Try.prog w = .ok (.pointer (some p0)) w := by kernel_rfl
theorem ip4_1 (p0 p1 p2 p3 : Addr) (w : World) : (Instr.index 90 (.agg #[.pointer (some p0), .pointer (some p1), .pointer (some p2), .pointer (some p3)]) (.int .i64 1)).run Try.prog w = .ok (.pointer (some p1)) w := by kernel_rfl
theorem ip4_2 (p0 p1 p2 p3 : Addr) (w : World) : (Instr.index 90 (.agg #[.pointer (some p0), .pointer (some p1), .pointer (some p2), .pointer (some p3)]) (.int .i64 2)).run Try.prog w = .ok (.pointer (some p2)) w := by kernel_rfl
theorem ip4_3 (p0 p1 p2 p3 : Addr) (w : World) : (Instr.index 90 (.agg #[.pointer (some p0), .pointer (some p1), .pointer (some p2), .pointer (some p3)]) (.int .i64 3)).run Try.prog w = .ok (.pointer (some p3)) w := by kernel_rfl
set_option maxRecDepth 100000 in
theorem cGot {s : St} (hs : s.regs.length = 8) {n : Int} (hn : 0 ≤ n ∧ n ≤ 5) (w : World) : Calls Try.prog 26 #[.agg (stA s), .int .i64 n] w fun e w' => e = .returned (.int .u32 (gotL s n)) ∧ Below w.heap.size w w' := by
  obtain ⟨K1, Hb, hsz⟩ := cells1 w (stA s) 25
  have HM : ∀ x : Int, x = gotL s n → Ending.returned (.int .u32 x) = .returned (.int .u32 (gotL s n)) := by rintro x rfl; rfl
  have hg := Lib.hid (show gotL s n = if n = 0 then s.epc else if n = 1 then s.cause else if n = 2 then s.vec else if n = 3 then s.table else if n = 4 then statusL s else s.pc from rfl)
  generalize gotL s n = gv at *
  rcases (show n = 0 ∨ n = 1 ∨ n = 2 ∨ n = 3 ∨ n = 4 ∨ n = 5 by omega) with rfl | rfl | rfl | rfl | rfl | rfl
  all_goals
    go_enter Try.func26, Try.ntmps26
    go_wp2_with fail
    generalize w.alloc _ = W at *
    have A : StAt W w.heap.size s := ⟨K1, hs⟩
    have q1 := fun x : Since W => x.cell A.epc
    have q2 := fun x : Since W => x.cell A.cause
    have q3 := fun x : Since W => x.cell A.vec
    have q4 := fun x : Since W => x.cell A.table
    have q5 := fun x : Since W => x.cell A.pc
    have rr := Lib.hid (fun x : Since W => (Since.cells A.row x))
    have v0 := ix6_0
    have v1 := ix6_1
    have v2 := ix6_2
    have v3 := ix6_3
    have v4 := ix6_4
    have v5 := ix6_5
    have hi := hi25 hs
    refine wp_region_since (by kernel_rfl) (by kernel_rfl) ?_
    repeat (first
      | (refine wpQuiet_plain rfl (fun K hK => ?_); refine quiet_of_run (fun x => exec_load_row 25 (.tmp 2) rfl w.heap.size rfl 25 (stA s) _ (rr.out x) Try.underlying25 rfl hi) ?_; refine hK _ ?_; clear hK K; simp only [Act.put, List.setIfInBounds_toArray, List.set_cons_zero, List.set_cons_succ])
      | go_big_quiet_step (first | (go_at_call 13; exact Since.of (cStatus hs _))))
    refine wpQuiet_nil ?_
    rintro _ ⟨x, rfl⟩
    go_wp2
    go_ret
    exact ⟨HM _ hg.out.symm, Hb.trans (x.low.mono Hb.size)⟩
theorem and1_u32 (n : Int) (h0 : 0 ≤ n) (h1 : n < 4294967296) : bits .and .u32 n 1 = n % 2 :=
  bits_mask .u32 32 (by decide) (fun n h h' => by rw [IntKind.wrap_u32]; omega) 1 (by decide) n h0 h1
set_option maxRecDepth 100000 in
theorem cPut0 {o : St} (hs : o.regs.length = 8) (a : Int) (w : World) : Calls Try.prog 27 #[.agg (stA o), .int .i64 0, .int .u32 a] w fun e w' => e = .returned (.agg (stA { o with epc := a })) ∧ Below w.heap.size w w' := by
  obtain ⟨K1, K2, Hb, hsz⟩ := cells2 w (stA o) (stA zst) 25 25
  have hz := zst_lit
  go_enter Try.func27, Try.ntmps27
  go_upto_region 1 with (fail)
  generalize (w.alloc _).alloc _ = W at *
  clear hz
  have A : StAt W w.heap.size o := ⟨K1, hs⟩
  have q1 := A.epc
  have q2 := A.cause
  have q3 := A.vec
  have q4 := A.table
  have q5 := A.prev
  have q6 := A.en
  have f1 := A.fz 9
  have f2 := A.fz 10
  have f3 := A.fz 11
  have f4 := A.fz 12
  have f5 := A.fz 14
  have f6 := A.fz 15
  have ip := ip4_0
  go_upto_region 3 with (fail)
  have O6 : StAt _ w.heap.size { o with epc := a } := A.set_epc a
  have R6 := K2.other (a := ⟨w.heap.size, 9, none⟩) (.int .u32 a) (by simp)
  have B6 := Hb.setCell (p := ⟨w.heap.size, 9, none⟩) (Nat.le_refl _) (.int .u32 a)
  generalize World.setCell _ _ _ = W6 at *
  clear q1 q2 q3 q4 q5 q6 f1 f2 f3 f4 f5 f6 A K1 K2 Hb
  have T6 : W6.there (w.heap.size + 1) 0 (stA { o with epc := a }).size := by rw [stA_size O6.len]; exact R6.there
  have o0 : W6.heap[w.heap.size]? = some (.cells (stA { o with epc := a }) 25 (0, 0)) := O6.row
  have hi0 := hi25 O6.len
  have o5 := R6.setAll (stA { o with epc := a }).toList (by rw [Array.length_toList, stA_size O6.len]; rfl)
  rw [Array.toArray_toList] at o5
  go_wp2_with (first
    | (with_reducible refine wpList_load_row rfl 25 (.tmp 3) rfl w.heap.size rfl 25 (stA { o with epc := a }) (0, 0) _ o0 Try.underlying25 rfl hi0 ?_)
    | (with_reducible refine wpList_store_mid rfl 25 (.tmp 6) (.tmp 30) rfl (w.heap.size + 1) 0 (stA { o with epc := a }) rfl rfl T6 hi0 (stA_one _) ?_)
    | exact bodyPost_ret (results_cell_row rfl _ _ (w.heap.size + 1) 25 (stA { o with epc := a }) (0, 0) _ rfl o5 Try.underlying25 rfl hi0) rfl ⟨rfl, below_setCells _ 0 B6 (by omega)⟩)
set_option maxRecDepth 100000 in
theorem cPut1 {o : St} (hs : o.regs.length = 8) (a : Int) (w : World) : Calls Try.prog 27 #[.agg (stA o), .int .i64 1, .int .u32 a] w fun e w' => e = .returned (.agg (stA { o with cause := a })) ∧ Below w.heap.size w w' := by
  obtain ⟨K1, K2, Hb, hsz⟩ := cells2 w (stA o) (stA zst) 25 25
  have hz := zst_lit
  go_enter Try.func27, Try.ntmps27
  go_upto_region 1 with (fail)
  generalize (w.alloc _).alloc _ = W at *
  clear hz
  have A : StAt W w.heap.size o := ⟨K1, hs⟩
  have q1 := A.epc
  have q2 := A.cause
  have q3 := A.vec
  have q4 := A.table
  have q5 := A.prev
  have q6 := A.en
  have f1 := A.fz 9
  have f2 := A.fz 10
  have f3 := A.fz 11
  have f4 := A.fz 12
  have f5 := A.fz 14
  have f6 := A.fz 15
  have ip := ip4_1
  go_upto_region 3 with (fail)
  have O6 : StAt _ w.heap.size { o with cause := a } := A.set_cause a
  have R6 := K2.other (a := ⟨w.heap.size, 10, none⟩) (.int .u32 a) (by simp)
  have B6 := Hb.setCell (p := ⟨w.heap.size, 10, none⟩) (Nat.le_refl _) (.int .u32 a)
  generalize World.setCell _ _ _ = W6 at *
  clear q1 q2 q3 q4 q5 q6 f1 f2 f3 f4 f5 f6 A K1 K2 Hb
  have T6 : W6.there (w.heap.size + 1) 0 (stA { o with cause := a }).size := by rw [stA_size O6.len]; exact R6.there
  have o0 : W6.heap[w.heap.size]? = some (.cells (stA { o with cause := a }) 25 (0, 0)) := O6.row
  have hi0 := hi25 O6.len
  have o5 := R6.setAll (stA { o with cause := a }).toList (by rw [Array.length_toList, stA_size O6.len]; rfl)
  rw [Array.toArray_toList] at o5
  go_wp2_with (first
    | (with_reducible refine wpList_load_row rfl 25 (.tmp 3) rfl w.heap.size rfl 25 (stA { o with cause := a }) (0, 0) _ o0 Try.underlying25 rfl hi0 ?_)
    | (with_reducible refine wpList_store_mid rfl 25 (.tmp 6) (.tmp 30) rfl (w.heap.size + 1) 0 (stA { o with cause := a }) rfl rfl T6 hi0 (stA_one _) ?_)
    | exact bodyPost_ret (results_cell_row rfl _ _ (w.heap.size + 1) 25 (stA { o with cause := a }) (0, 0) _ rfl o5 Try.underlying25 rfl hi0) rfl ⟨rfl, below_setCells _ 0 B6 (by omega)⟩)
set_option maxRecDepth 100000 in
theorem cPut2 {o : St} (hs : o.regs.length = 8) (a : Int) (w : World) : Calls Try.prog 27 #[.agg (stA o), .int .i64 2, .int .u32 a] w fun e w' => e = .returned (.agg (stA { o with vec := a })) ∧ Below w.heap.size w w' := by
  obtain ⟨K1, K2, Hb, hsz⟩ := cells2 w (stA o) (stA zst) 25 25
  have hz := zst_lit
  go_enter Try.func27, Try.ntmps27
  go_upto_region 1 with (fail)
  generalize (w.alloc _).alloc _ = W at *
  clear hz
  have A : StAt W w.heap.size o := ⟨K1, hs⟩
  have q1 := A.epc
  have q2 := A.cause
  have q3 := A.vec
  have q4 := A.table
  have q5 := A.prev
  have q6 := A.en
  have f1 := A.fz 9
  have f2 := A.fz 10
  have f3 := A.fz 11
  have f4 := A.fz 12
  have f5 := A.fz 14
  have f6 := A.fz 15
  have ip := ip4_2
  go_upto_region 3 with (fail)
  have O6 : StAt _ w.heap.size { o with vec := a } := A.set_vec a
  have R6 := K2.other (a := ⟨w.heap.size, 11, none⟩) (.int .u32 a) (by simp)
  have B6 := Hb.setCell (p := ⟨w.heap.size, 11, none⟩) (Nat.le_refl _) (.int .u32 a)
  generalize World.setCell _ _ _ = W6 at *
  clear q1 q2 q3 q4 q5 q6 f1 f2 f3 f4 f5 f6 A K1 K2 Hb
  have T6 : W6.there (w.heap.size + 1) 0 (stA { o with vec := a }).size := by rw [stA_size O6.len]; exact R6.there
  have o0 : W6.heap[w.heap.size]? = some (.cells (stA { o with vec := a }) 25 (0, 0)) := O6.row
  have hi0 := hi25 O6.len
  have o5 := R6.setAll (stA { o with vec := a }).toList (by rw [Array.length_toList, stA_size O6.len]; rfl)
  rw [Array.toArray_toList] at o5
  go_wp2_with (first
    | (with_reducible refine wpList_load_row rfl 25 (.tmp 3) rfl w.heap.size rfl 25 (stA { o with vec := a }) (0, 0) _ o0 Try.underlying25 rfl hi0 ?_)
    | (with_reducible refine wpList_store_mid rfl 25 (.tmp 6) (.tmp 30) rfl (w.heap.size + 1) 0 (stA { o with vec := a }) rfl rfl T6 hi0 (stA_one _) ?_)
    | exact bodyPost_ret (results_cell_row rfl _ _ (w.heap.size + 1) 25 (stA { o with vec := a }) (0, 0) _ rfl o5 Try.underlying25 rfl hi0) rfl ⟨rfl, below_setCells _ 0 B6 (by omega)⟩)
set_option maxRecDepth 100000 in
theorem cPut3 {o : St} (hs : o.regs.length = 8) (a : Int) (w : World) : Calls Try.prog 27 #[.agg (stA o), .int .i64 3, .int .u32 a] w fun e w' => e = .returned (.agg (stA { o with table := a })) ∧ Below w.heap.size w w' := by
  obtain ⟨K1, K2, Hb, hsz⟩ := cells2 w (stA o) (stA zst) 25 25
  have hz := zst_lit
  go_enter Try.func27, Try.ntmps27
  go_upto_region 1 with (fail)
  generalize (w.alloc _).alloc _ = W at *
  clear hz
  have A : StAt W w.heap.size o := ⟨K1, hs⟩
  have q1 := A.epc
  have q2 := A.cause
  have q3 := A.vec
  have q4 := A.table
  have q5 := A.prev
  have q6 := A.en
  have f1 := A.fz 9
  have f2 := A.fz 10
  have f3 := A.fz 11
  have f4 := A.fz 12
  have f5 := A.fz 14
  have f6 := A.fz 15
  have ip := ip4_3
  go_upto_region 3 with (fail)
  have O6 : StAt _ w.heap.size { o with table := a } := A.set_table a
  have R6 := K2.other (a := ⟨w.heap.size, 12, none⟩) (.int .u32 a) (by simp)
  have B6 := Hb.setCell (p := ⟨w.heap.size, 12, none⟩) (Nat.le_refl _) (.int .u32 a)
  generalize World.setCell _ _ _ = W6 at *
  clear q1 q2 q3 q4 q5 q6 f1 f2 f3 f4 f5 f6 A K1 K2 Hb
  have T6 : W6.there (w.heap.size + 1) 0 (stA { o with table := a }).size := by rw [stA_size O6.len]; exact R6.there
  have o0 : W6.heap[w.heap.size]? = some (.cells (stA { o with table := a }) 25 (0, 0)) := O6.row
  have hi0 := hi25 O6.len
  have o5 := R6.setAll (stA { o with table := a }).toList (by rw [Array.length_toList, stA_size O6.len]; rfl)
  rw [Array.toArray_toList] at o5
  go_wp2_with (first
    | (with_reducible refine wpList_load_row rfl 25 (.tmp 3) rfl w.heap.size rfl 25 (stA { o with table := a }) (0, 0) _ o0 Try.underlying25 rfl hi0 ?_)
    | (with_reducible refine wpList_store_mid rfl 25 (.tmp 6) (.tmp 30) rfl (w.heap.size + 1) 0 (stA { o with table := a }) rfl rfl T6 hi0 (stA_one _) ?_)
    | exact bodyPost_ret (results_cell_row rfl _ _ (w.heap.size + 1) 25 (stA { o with table := a }) (0, 0) _ rfl o5 Try.underlying25 rfl hi0) rfl ⟨rfl, below_setCells _ 0 B6 (by omega)⟩)
set_option maxRecDepth 100000 in
theorem cPut4 {o : St} (hs : o.regs.length = 8) {a : Int} (ha : u32? a) (w : World) : Calls Try.prog 27 #[.agg (stA o), .int .i64 4, .int .u32 a] w fun e w' => e = .returned (.agg (stA { o with prev := (a / 2 % 2 != 0), en := (a / 4 % 2 != 0) })) ∧ Below w.heap.size w w' := by
  have a0 := ha.1
  have a1 := ha.2
  have m1 := and1_u32 (a / 2) (by omega) (by omega)
  have m2 := and1_u32 (a / 4) (by omega) (by omega)
  obtain ⟨K1, K2, Hb, hsz⟩ := cells2 w (stA o) (stA zst) 25 25
  have hz := zst_lit
  go_enter Try.func27, Try.ntmps27
  go_upto_region 1 with (fail)
  generalize (w.alloc _).alloc _ = W at *
  clear hz
  have A : StAt W w.heap.size o := ⟨K1, hs⟩
  have q1 := A.epc
  have q2 := A.cause
  have q3 := A.vec
  have q4 := A.table
  have q5 := A.prev
  have q6 := A.en
  have f1 := A.fz 9
  have f2 := A.fz 10
  have f3 := A.fz 11
  have f4 := A.fz 12
  have f5 := A.fz 14
  have f6 := A.fz 15
  go_upto_region 5 with (fail)
  have O6 : StAt _ w.heap.size { o with prev := (a / 2 % 2 != 0), en := (a / 4 % 2 != 0) } := (A.set_prev (a / 2 % 2 != 0)).set_en (a / 4 % 2 != 0)
  have R6 := (K2.other (a := ⟨w.heap.size, 14, none⟩) (.bool (a / 2 % 2 != 0)) (by simp)).other (a := ⟨w.heap.size, 15, none⟩) (.bool (a / 4 % 2 != 0)) (by simp)
  have B6 := (Hb.setCell (p := ⟨w.heap.size, 14, none⟩) (Nat.le_refl _) (.bool (a / 2 % 2 != 0))).setCell (p := ⟨w.heap.size, 15, none⟩) (Nat.le_refl _) (.bool (a / 4 % 2 != 0))
  generalize World.setCell _ _ _ = W6 at *
  clear q1 q2 q3 q4 q5 q6 f1 f2 f3 f4 f5 f6 A K1 K2 Hb
  have T6 : W6.there (w.heap.size + 1) 0 (stA { o with prev := (a / 2 % 2 != 0), en := (a / 4 % 2 != 0) }).size := by rw [stA_size O6.len]; exact R6.there
  have o0 : W6.heap[w.heap.size]? = some (.cells (stA { o with prev := (a / 2 % 2 != 0), en := (a / 4 % 2 != 0) }) 25 (0, 0)) := O6.row
  have hi0 := hi25 O6.len
  have o5 := R6.setAll (stA { o with prev := (a / 2 % 2 != 0), en := (a / 4 % 2 != 0) }).toList (by rw [Array.length_toList, stA_size O6.len]; rfl)
  rw [Array.toArray_toList] at o5
  go_wp2_with (first
    | (with_reducible refine wpList_load_row rfl 25 (.tmp 3) rfl w.heap.size rfl 25 (stA { o with prev := (a / 2 % 2 != 0), en := (a / 4 % 2 != 0) }) (0, 0) _ o0 Try.underlying25 rfl hi0 ?_)
    | (with_reducible refine wpList_store_mid rfl 25 (.tmp 6) (.tmp 30) rfl (w.heap.size + 1) 0 (stA { o with prev := (a / 2 % 2 != 0), en := (a / 4 % 2 != 0) }) rfl rfl T6 hi0 (stA_one _) ?_)
    | exact bodyPost_ret (results_cell_row rfl _ _ (w.heap.size + 1) 25 (stA { o with prev := (a / 2 % 2 != 0), en := (a / 4 % 2 != 0) }) (0, 0) _ rfl o5 Try.underlying25 rfl hi0) rfl ⟨rfl, below_setCells _ 0 B6 (by omega)⟩)
set_option maxRecDepth 100000 in
theorem cPut5 {o : St} (hs : o.regs.length = 8) (a : Int) (w : World) : Calls Try.prog 27 #[.agg (stA o), .int .i64 5, .int .u32 a] w fun e w' => e = .returned (.agg (stA o)) ∧ Below w.heap.size w w' := by
  obtain ⟨K1, K2, Hb, hsz⟩ := cells2 w (stA o) (stA zst) 25 25
  have hz := zst_lit
  go_enter Try.func27, Try.ntmps27
  go_upto_region 1 with (fail)
  generalize (w.alloc _).alloc _ = W at *
  clear hz
  have A : StAt W w.heap.size o := ⟨K1, hs⟩
  have q1 := A.epc
  have q2 := A.cause
  have q3 := A.vec
  have q4 := A.table
  have q5 := A.prev
  have q6 := A.en
  have f1 := A.fz 9
  have f2 := A.fz 10
  have f3 := A.fz 11
  have f4 := A.fz 12
  have f5 := A.fz 14
  have f6 := A.fz 15
  go_upto_region 5 with (fail)
  have O6 := A
  have R6 := K2
  have B6 := Hb
  generalize W = W6 at *
  clear q1 q2 q3 q4 q5 q6 f1 f2 f3 f4 f5 f6 A K1 K2 Hb
  have T6 : W6.there (w.heap.size + 1) 0 (stA o).size := by rw [stA_size O6.len]; exact R6.there
  have o0 : W6.heap[w.heap.size]? = some (.cells (stA o) 25 (0, 0)) := O6.row
  have hi0 := hi25 O6.len
  have o5 := R6.setAll (stA o).toList (by rw [Array.length_toList, stA_size O6.len]; rfl)
  rw [Array.toArray_toList] at o5
  go_wp2_with (first
    | (with_reducible refine wpList_load_row rfl 25 (.tmp 3) rfl w.heap.size rfl 25 (stA o) (0, 0) _ o0 Try.underlying25 rfl hi0 ?_)
    | (with_reducible refine wpList_store_mid rfl 25 (.tmp 6) (.tmp 30) rfl (w.heap.size + 1) 0 (stA o) rfl rfl T6 hi0 (stA_one _) ?_)
    | exact bodyPost_ret (results_cell_row rfl _ _ (w.heap.size + 1) 25 (stA o) (0, 0) _ rfl o5 Try.underlying25 rfl hi0) rfl ⟨rfl, below_setCells _ 0 B6 (by omega)⟩)
end Go.Proofs.Ytmpnlhfnemidpaa
namespace Go.Proofs.Ytmpnlhfnemidpaa
open Go.RowKit Go.Shelf
theorem stA_lit {s : St} (h : s.regs.length = 8) : stA s = #[.int .u32 (reg s 0), .int .u32 (reg s 1), .int .u32 (reg s 2), .int .u32 (reg s 3), .int .u32 (reg s 4), .int .u32 (reg s 5), .int .u32 (reg s 6), .int .u32 (reg s 7), .int .u32 s.pc, .int .u32 s.epc, .int .u32 s.cause, .int .u32 s.vec, .int .u32 s.table, .bool s.sup, .bool s.prev, .bool s.en] := by
  obtain ⟨regs, pc, epc, cause, vec, table, sup, prev, en⟩ := s
  match regs, h with
  | [r0, r1, r2, r3, r4, r5, r6, r7], _ => rfl
theorem stAll {W : World} {B : Nat} {s : St} (h : StAt W B s) : W.cell? ⟨B, 0, none⟩ = some (.int .u32 (reg s 0)) ∧ W.cell? ⟨B, 1, none⟩ = some (.int .u32 (reg s 1)) ∧ W.cell? ⟨B, 2, none⟩ = some (.int .u32 (reg s 2)) ∧ W.cell? ⟨B, 3, none⟩ = some (.int .u32 (reg s 3)) ∧ W.cell? ⟨B, 4, none⟩ = some (.int .u32 (reg s 4)) ∧ W.cell? ⟨B, 5, none⟩ = some (.int .u32 (reg s 5)) ∧ W.cell? ⟨B, 6, none⟩ = some (.int .u32 (reg s 6)) ∧ W.cell? ⟨B, 7, none⟩ = some (.int .u32 (reg s 7)) ∧ W.cell? ⟨B, 8, none⟩ = some (.int .u32 s.pc) ∧ W.cell? ⟨B, 9, none⟩ = some (.int .u32 s.epc) ∧ W.cell? ⟨B, 10, none⟩ = some (.int .u32 s.cause) ∧ W.cell? ⟨B, 11, none⟩ = some (.int .u32 s.vec) ∧ W.cell? ⟨B, 12, none⟩ = some (.int .u32 s.table) ∧ W.cell? ⟨B, 13, none⟩ = some (.bool s.sup) ∧ W.cell? ⟨B, 14, none⟩ = some (.bool s.prev) ∧ W.cell? ⟨B, 15, none⟩ = some (.bool s.en) :=
  ⟨h.reg (k := 0) (by decide), h.reg (k := 1) (by decide), h.reg (k := 2) (by decide), h.reg (k := 3) (by decide), h.reg (k := 4) (by decide), h.reg (k := 5) (by decide), h.reg (k := 6) (by decide), h.reg (k := 7) (by decide), h.pc, h.epc, h.cause, h.vec, h.table, h.sup, h.prev, h.en⟩
theorem dnI20 {w W : World} {Bi Bo : Nat} {s o : St} {op ka kb n : Int} (h : DnAt w W Bi Bo s o op ka kb n) : W.cell? ⟨Bi, 0, none⟩ = some (.int .i64 op) ∧ W.cell? ⟨Bi, 1, none⟩ = some (.int .i64 ka) ∧ W.cell? ⟨Bi, 2, none⟩ = some (.int .i64 kb) ∧ W.cell? ⟨Bi, 3, none⟩ = some (.int .i64 n) ∧ W.cell? ⟨w.heap.size, 0, none⟩ = some (.int .u32 (reg s 0)) ∧ W.cell? ⟨w.heap.size, 1, none⟩ = some (.int .u32 (reg s 1)) ∧ W.cell? ⟨w.heap.size, 2, none⟩ = some (.int .u32 (reg s 2)) ∧ W.cell? ⟨w.heap.size, 3, none⟩ = some (.int .u32 (reg s 3)) ∧ W.cell? ⟨w.heap.size, 4, none⟩ = some (.int .u32 (reg s 4)) ∧ W.cell? ⟨w.heap.size, 5, none⟩ = some (.int .u32 (reg s 5)) ∧ W.cell? ⟨w.heap.size, 6, none⟩ = some (.int .u32 (reg s 6)) ∧ W.cell? ⟨w.heap.size, 7, none⟩ = some (.int .u32 (reg s 7)) ∧ W.cell? ⟨w.heap.size, 8, none⟩ = some (.int .u32 s.pc) ∧ W.cell? ⟨w.heap.size, 9, none⟩ = some (.int .u32 s.epc) ∧ W.cell? ⟨w.heap.size, 10, none⟩ = some (.int .u32 s.cause) ∧ W.cell? ⟨w.heap.size, 11, none⟩ = some (.int .u32 s.vec) ∧ W.cell? ⟨w.heap.size, 12, none⟩ = some (.int .u32 s.table) ∧ W.cell? ⟨w.heap.size, 13, none⟩ = some (.bool s.sup) ∧ W.cell? ⟨w.heap.size, 14, none⟩ = some (.bool s.prev) ∧ W.cell? ⟨w.heap.size, 15, none⟩ = some (.bool s.en) :=
  ⟨h.i.cell 0, h.i.cell 1, h.i.cell 2, h.i.cell 3, stAll h.s⟩
end Go.Proofs.Ytmpnlhfnemidpaa
