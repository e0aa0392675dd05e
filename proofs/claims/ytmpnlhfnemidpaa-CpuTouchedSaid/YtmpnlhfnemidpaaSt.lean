/- The cpu's state, as a value; Trap, Status, imm, high and the document's: contracts. -/
import Derived.Test.YtmpnlhfnemidpaaIs4
import Derived.Test.YtmpnlhfnemidpaaWo
import Derived.BigRegion
import Derived.RegionTactic
namespace Go.Proofs.Ytmpnlhfnemidpaa
open Go.RowKit Go.Shelf

structure St where
  regs : List Int
  pc : Int
  epc : Int
  cause : Int
  vec : Int
  table : Int
  sup : Bool
  prev : Bool
  en : Bool
def u32? (x : Int) : Prop := 0 ≤ x ∧ x < 4294967296
structure St.ok (s : St) : Prop where
  len : s.regs.length = 8
  regs : ∀ x ∈ s.regs, u32? x
  pc : u32? s.pc
  epc : u32? s.epc
  cause : u32? s.cause
  vec : u32? s.vec
  table : u32? s.table
def stL (s : St) : List Value := s.regs.map (Value.int .u32) ++ [.int .u32 s.pc, .int .u32 s.epc, .int .u32 s.cause, .int .u32 s.vec, .int .u32 s.table, .bool s.sup, .bool s.prev, .bool s.en]
def stA (s : St) : Array Value := (stL s).toArray
theorem stA_size {s : St} (h : s.regs.length = 8) : (stA s).size = 16 := by simp [stA, stL, h]
theorem stA_one (s : St) : (stA s).all (·.oneCell') = true := by simp [stA, stL, Value.oneCell']
theorem stA_hi {s : St} (h : s.regs.length = 8) (j : Nat) : (stA s)[8 + j]? = [Value.int .u32 s.pc, .int .u32 s.epc, .int .u32 s.cause, .int .u32 s.vec, .int .u32 s.table, .bool s.sup, .bool s.prev, .bool s.en][j]? := by
  simp only [stA, stL, List.getElem?_toArray]
  rw [List.getElem?_append_right (by simp [h])]
  simp [h]
theorem stA_reg {s : St} {k : Nat} (hk : k < s.regs.length) : (stA s)[k]? = some (.int .u32 s.regs[k]) := by
  simp only [stA, stL, List.getElem?_toArray]
  rw [List.getElem?_append_left (by simpa using hk)]
  simp
theorem stA_set_reg {s : St} {k : Nat} (hk : k < s.regs.length) (v : Int) : (stA s).setIfInBounds k (.int .u32 v) = stA { s with regs := s.regs.set k v } := by
  simp only [stA, stL, List.setIfInBounds_toArray]
  rw [List.set_append_left _ _ (by simpa using hk), ← List.map_set]
theorem stA_set_hi {s : St} (h : s.regs.length = 8) (j : Nat) (v : Value) : (stA s).setIfInBounds (8 + j) v = (s.regs.map (Value.int .u32) ++ [Value.int .u32 s.pc, .int .u32 s.epc, .int .u32 s.cause, .int .u32 s.vec, .int .u32 s.table, .bool s.sup, .bool s.prev, .bool s.en].set j v).toArray := by
  simp only [stA, stL, List.setIfInBounds_toArray]
  rw [List.set_append_right _ _ (by simp [h])]
  simp [h]
theorem set_pc {s : St} (h : s.regs.length = 8) (v : Int) : (stA s).setIfInBounds 8 (.int .u32 v) = stA { s with pc := v } := stA_set_hi h 0 _
theorem set_epc {s : St} (h : s.regs.length = 8) (v : Int) : (stA s).setIfInBounds 9 (.int .u32 v) = stA { s with epc := v } := stA_set_hi h 1 _
theorem set_cause {s : St} (h : s.regs.length = 8) (v : Int) : (stA s).setIfInBounds 10 (.int .u32 v) = stA { s with cause := v } := stA_set_hi h 2 _
theorem set_vec {s : St} (h : s.regs.length = 8) (v : Int) : (stA s).setIfInBounds 11 (.int .u32 v) = stA { s with vec := v } := stA_set_hi h 3 _
theorem set_table {s : St} (h : s.regs.length = 8) (v : Int) : (stA s).setIfInBounds 12 (.int .u32 v) = stA { s with table := v } := stA_set_hi h 4 _
theorem set_sup {s : St} (h : s.regs.length = 8) (v : Bool) : (stA s).setIfInBounds 13 (.bool v) = stA { s with sup := v } := stA_set_hi h 5 _
theorem set_prev {s : St} (h : s.regs.length = 8) (v : Bool) : (stA s).setIfInBounds 14 (.bool v) = stA { s with prev := v } := stA_set_hi h 6 _
theorem set_en {s : St} (h : s.regs.length = 8) (v : Bool) : (stA s).setIfInBounds 15 (.bool v) = stA { s with en := v } := stA_set_hi h 7 _
theorem hi25 {s : St} (h : s.regs.length = 8) : (Try.prog.info? 25).map (·.size) = some (stA s).size := by rw [stA_size h]; kernel_rfl
/-- The cells of a state in memory. -/
structure StAt (W : World) (B : Nat) (s : St) : Prop where
  row : Cells W B 25 (stA s)
  len : s.regs.length = 8
theorem StAt.pc {W : World} {B : Nat} {s : St} (h : StAt W B s) : W.cell? ⟨B, 8, none⟩ = some (.int .u32 s.pc) := (h.row.cell 8).trans (stA_hi h.len 0)
theorem StAt.epc {W : World} {B : Nat} {s : St} (h : StAt W B s) : W.cell? ⟨B, 9, none⟩ = some (.int .u32 s.epc) := (h.row.cell 9).trans (stA_hi h.len 1)
theorem StAt.cause {W : World} {B : Nat} {s : St} (h : StAt W B s) : W.cell? ⟨B, 10, none⟩ = some (.int .u32 s.cause) := (h.row.cell 10).trans (stA_hi h.len 2)
theorem StAt.vec {W : World} {B : Nat} {s : St} (h : StAt W B s) : W.cell? ⟨B, 11, none⟩ = some (.int .u32 s.vec) := (h.row.cell 11).trans (stA_hi h.len 3)
theorem StAt.table {W : World} {B : Nat} {s : St} (h : StAt W B s) : W.cell? ⟨B, 12, none⟩ = some (.int .u32 s.table) := (h.row.cell 12).trans (stA_hi h.len 4)
theorem StAt.sup {W : World} {B : Nat} {s : St} (h : StAt W B s) : W.cell? ⟨B, 13, none⟩ = some (.bool s.sup) := (h.row.cell 13).trans (stA_hi h.len 5)
theorem StAt.prev {W : World} {B : Nat} {s : St} (h : StAt W B s) : W.cell? ⟨B, 14, none⟩ = some (.bool s.prev) := (h.row.cell 14).trans (stA_hi h.len 6)
theorem StAt.en {W : World} {B : Nat} {s : St} (h : StAt W B s) : W.cell? ⟨B, 15, none⟩ = some (.bool s.en) := (h.row.cell 15).trans (stA_hi h.len 7)
theorem StAt.fz {W : World} {B : Nat} {s : St} (h : StAt W B s) (j : Nat) : W.frozen? ⟨B, j, none⟩ = false := h.row.frozen j
theorem StAt.set_pc {W : World} {B : Nat} {s : St} (h : StAt W B s) (v : Int) : StAt (W.setCell ⟨B, 8, none⟩ (.int .u32 v)) B { s with pc := v } := ⟨by rw [← Ytmpnlhfnemidpaa.set_pc h.len]; exact h.row.set 8 _, h.len⟩
theorem StAt.set_epc {W : World} {B : Nat} {s : St} (h : StAt W B s) (v : Int) : StAt (W.setCell ⟨B, 9, none⟩ (.int .u32 v)) B { s with epc := v } := ⟨by rw [← Ytmpnlhfnemidpaa.set_epc h.len]; exact h.row.set 9 _, h.len⟩
theorem StAt.set_cause {W : World} {B : Nat} {s : St} (h : StAt W B s) (v : Int) : StAt (W.setCell ⟨B, 10, none⟩ (.int .u32 v)) B { s with cause := v } := ⟨by rw [← Ytmpnlhfnemidpaa.set_cause h.len]; exact h.row.set 10 _, h.len⟩
theorem StAt.set_vec {W : World} {B : Nat} {s : St} (h : StAt W B s) (v : Int) : StAt (W.setCell ⟨B, 11, none⟩ (.int .u32 v)) B { s with vec := v } := ⟨by rw [← Ytmpnlhfnemidpaa.set_vec h.len]; exact h.row.set 11 _, h.len⟩
theorem StAt.set_table {W : World} {B : Nat} {s : St} (h : StAt W B s) (v : Int) : StAt (W.setCell ⟨B, 12, none⟩ (.int .u32 v)) B { s with table := v } := ⟨by rw [← Ytmpnlhfnemidpaa.set_table h.len]; exact h.row.set 12 _, h.len⟩
theorem StAt.set_sup {W : World} {B : Nat} {s : St} (h : StAt W B s) (v : Bool) : StAt (W.setCell ⟨B, 13, none⟩ (.bool v)) B { s with sup := v } := ⟨by rw [← Ytmpnlhfnemidpaa.set_sup h.len]; exact h.row.set 13 _, h.len⟩
theorem StAt.set_prev {W : World} {B : Nat} {s : St} (h : StAt W B s) (v : Bool) : StAt (W.setCell ⟨B, 14, none⟩ (.bool v)) B { s with prev := v } := ⟨by rw [← Ytmpnlhfnemidpaa.set_prev h.len]; exact h.row.set 14 _, h.len⟩
theorem StAt.set_en {W : World} {B : Nat} {s : St} (h : StAt W B s) (v : Bool) : StAt (W.setCell ⟨B, 15, none⟩ (.bool v)) B { s with en := v } := ⟨by rw [← Ytmpnlhfnemidpaa.set_en h.len]; exact h.row.set 15 _, h.len⟩
theorem StAt.set_reg {W : World} {B : Nat} {s : St} (h : StAt W B s) {k : Nat} (hk : k < 8) (v : Int) : StAt (W.setCell ⟨B, k, none⟩ (.int .u32 v)) B { s with regs := s.regs.set k v } := ⟨by rw [← stA_set_reg (by rw [h.len]; exact hk)]; exact h.row.set k _, by simpa using h.len⟩
theorem StAt.other {W : World} {B : Nat} {s : St} (h : StAt W B s) {a : Addr} (v : Value) (hne : B ≠ a.block) : StAt (W.setCell a v) B s := ⟨h.row.other v hne, h.len⟩
theorem StAt.below {W W' : World} {B n : Nat} {s : St} (h : StAt W B s) (hb : Below n W W') (hn : B < n) : StAt W' B s := ⟨h.row.below hb hn, h.len⟩
theorem StAt.lt {W : World} {B : Nat} {s : St} (h : StAt W B s) : B < W.heap.size := h.row.lt
/-- A state's zero. -/
def zst : St := ⟨List.replicate 8 0, 0, 0, 0, 0, 0, false, false, false⟩
theorem zst_lit : ((.int .u32 0 :: .int .u32 0 :: .int .u32 0 :: .int .u32 0 :: .int .u32 0 :: .int .u32 0 :: .int .u32 0 :: .int .u32 0 :: .int .u32 0 :: .int .u32 0 :: .int .u32 0 :: .int .u32 0 :: .int .u32 0 :: .bool false :: .bool false :: .bool false :: [] : List Value).toArray) = stA zst := rfl

/-! ### Trap -/
def trapL (s : St) (cause : Int) : St := { s with epc := s.pc, cause := cause, prev := s.sup, sup := true, en := false, pc := s.vec }
set_option maxRecDepth 100000 in
theorem cTrap {s : St} (hs : s.regs.length = 8) (cause : Int) (w : World) : Calls Try.prog 11 #[.agg (stA s), .int .u32 cause] w fun e w' => e = .returned (.agg (stA (trapL s cause))) ∧ Below w.heap.size w w' := by
  have hz := zst_lit
  obtain ⟨K1, K2, Hb, hsz⟩ := cells2 w (stA s) (stA zst) 25 25
  go_enter Try.func11, Try.ntmps11
  go_upto_region 1 with (fail)
  generalize (w.alloc _).alloc _ = W at *
  have A : StAt W w.heap.size s := ⟨K1, hs⟩
  have a1 := A.pc
  have a2 := A.sup
  have a3 := A.vec
  have a4 := A.epc
  have a5 := A.cause
  have a6 := A.prev
  have a7 := A.en
  have f8 := A.fz 8
  have f9 := A.fz 9
  have f10 := A.fz 10
  have f13 := A.fz 13
  have f14 := A.fz 14
  have f15 := A.fz 15
  go_upto_region 2 with (fail)
  have A6 : StAt _ w.heap.size (trapL s cause) := (((((A.set_epc s.pc).set_cause cause).set_prev s.sup).set_sup true).set_en false).set_pc s.vec
  have K6 := (((((K2.other (a := ⟨w.heap.size, 9, none⟩) (.int .u32 s.pc) (by simp)).other (a := ⟨w.heap.size, 10, none⟩) (.int .u32 cause) (by simp)).other (a := ⟨w.heap.size, 14, none⟩) (.bool s.sup) (by simp)).other (a := ⟨w.heap.size, 13, none⟩) (.bool true) (by simp)).other
    (a := ⟨w.heap.size, 15, none⟩) (.bool false) (by simp)).other (a := ⟨w.heap.size, 8, none⟩) (.int .u32 s.vec) (by simp)
  have B6 := (((((Hb.setCell (p := ⟨w.heap.size, 9, none⟩) (Nat.le_refl _) (.int .u32 s.pc)).setCell (p := ⟨w.heap.size, 10, none⟩) (Nat.le_refl _) (.int .u32 cause)).setCell (p := ⟨w.heap.size, 14, none⟩) (Nat.le_refl _) (.bool s.sup)).setCell (p := ⟨w.heap.size, 13, none⟩) (Nat.le_refl _) (.bool true)).setCell
    (p := ⟨w.heap.size, 15, none⟩) (Nat.le_refl _) (.bool false)).setCell (p := ⟨w.heap.size, 8, none⟩) (Nat.le_refl _) (.int .u32 s.vec)
  generalize World.setCell _ _ _ = W6 at *
  clear A K1 K2 Hb hsz a1 a2 a3 a4 a5 a6 a7 f8 f9 f10 f13 f14 f15 hz
  have A6' : W6.heap[w.heap.size]? = some (.cells (stA (trapL s cause)) 25 (0, 0)) := A6.row
  have T6 : W6.there (w.heap.size + 1) 0 (stA (trapL s cause)).size := by rw [stA_size A6.len]; exact K6.there
  have hi := hi25 A6.len
  have o5 := K6.setAll (stA (trapL s cause)).toList (by rw [Array.length_toList, stA_size A6.len]; rfl)
  rw [Array.toArray_toList] at o5
  go_wp2_with (first
    | (with_reducible refine wpList_load_row rfl 25 (.tmp 2) rfl w.heap.size rfl 25 (stA (trapL s cause)) (0, 0) _ A6' Try.underlying25 rfl hi ?_)
    | (with_reducible refine wpList_store_mid rfl 25 (.tmp 4) (.tmp 18) rfl (w.heap.size + 1) 0 (stA (trapL s cause)) rfl rfl T6 hi (stA_one _) ?_)
    | exact bodyPost_ret (results_cell_row rfl _ _ (w.heap.size + 1) 25 (stA (trapL s cause)) (0, 0) _ rfl o5 Try.underlying25 rfl hi) rfl ⟨rfl, below_setCells _ 0 B6 (by omega)⟩)
end Go.Proofs.Ytmpnlhfnemidpaa
namespace Go.Proofs.Ytmpnlhfnemidpaa
open Go.RowKit Go.Shelf

/-! ### Status -/
def statusL (s : St) : Int := (if s.sup then 1 else 0) + (if s.prev then 2 else 0) + (if s.en then 4 else 0)
theorem cStatus {s : St} (hs : s.regs.length = 8) (w : World) : Calls Try.prog 13 #[.agg (stA s)] w fun e w' => e = .returned (.int .u32 (statusL s)) ∧ Below w.heap.size w w' := by
  obtain ⟨K1, Hb, hsz⟩ := cells1 w (stA s) 25
  have A : StAt _ w.heap.size s := ⟨K1, hs⟩
  have o1 : bits .or .u32 0 1 = 1 := by decide +kernel
  have o2 : bits .or .u32 0 2 = 2 := by decide +kernel
  have o3 : bits .or .u32 1 2 = 3 := by decide +kernel
  have o4 : bits .or .u32 0 4 = 4 := by decide +kernel
  have o5 : bits .or .u32 1 4 = 5 := by decide +kernel
  have o6 : bits .or .u32 2 4 = 6 := by decide +kernel
  have o7 : bits .or .u32 3 4 = 7 := by decide +kernel
  have a6 := A.sup
  have a7 := A.prev
  have a8 := A.en
  have i0 : ∀ (x y z : Bool) w, (Instr.index 66 (.agg #[.bool x, .bool y, .bool z]) (.int .i64 0)).run Try.prog w = .ok (.bool x) w := fun _ _ _ _ => by kernel_rfl
  have i1 : ∀ (x y z : Bool) w, (Instr.index 66 (.agg #[.bool x, .bool y, .bool z]) (.int .i64 1)).run Try.prog w = .ok (.bool y) w := fun _ _ _ _ => by kernel_rfl
  have i2 : ∀ (x y z : Bool) w, (Instr.index 66 (.agg #[.bool x, .bool y, .bool z]) (.int .i64 2)).run Try.prog w = .ok (.bool z) w := fun _ _ _ _ => by kernel_rfl
  have HM : ∀ x : Int, x = statusL s → Ending.returned (.int .u32 x) = .returned (.int .u32 (statusL s)) := by rintro x rfl; rfl
  cases h1 : s.sup
  all_goals cases h2 : s.prev
  all_goals cases h3 : s.en
  all_goals
    rw [h1] at a6
    rw [h2] at a7
    rw [h3] at a8
    have H1 := Lib.hid h1
    have H2 := Lib.hid h2
    have H3 := Lib.hid h3
    clear h1 h2 h3
    go_enter Try.func13, Try.ntmps13
    go_wp2
    go_rounds 4
    go_ret
    exact ⟨HM _ (by unfold statusL; rw [H1.out, H2.out, H3.out]; rfl), Hb⟩
theorem rStatus {s : St} (hs : s.regs.length = 8) (w : World) : Calls Try.prog 14 #[.agg (stA s)] w fun e w' => e = .returned (.int .u32 (statusL s)) ∧ Below w.heap.size w w' := by
  obtain ⟨K1, Hb, hsz⟩ := cells1 w (stA s) 25
  have A : StAt _ w.heap.size s := ⟨K1, hs⟩
  have a6 := A.sup
  have a7 := A.prev
  have a8 := A.en
  have HM : ∀ x : Int, x = statusL s → Ending.returned (.int .u32 x) = .returned (.int .u32 (statusL s)) := by rintro x rfl; rfl
  cases h1 : s.sup
  all_goals cases h2 : s.prev
  all_goals cases h3 : s.en
  all_goals
    rw [h1] at a6
    rw [h2] at a7
    rw [h3] at a8
    have H1 := Lib.hid h1
    have H2 := Lib.hid h2
    have H3 := Lib.hid h3
    clear h1 h2 h3
    go_enter Try.func14, Try.ntmps14
    go_wp2
    go_ret
    exact ⟨HM _ (by unfold statusL; rw [H1.out, H2.out, H3.out]; rfl), Hb⟩
/-! ### Imm, as a word -/
def immL (n : Int) : Int := n % 4294967296
theorem cImm {op a b n : Int} (hn : -32768 ≤ n ∧ n ≤ 32767) (w : World) : Calls Try.prog 23 #[.agg (instA op a b n)] w fun e w' => e = .returned (.int .u32 (immL n)) ∧ Below w.heap.size w w' := by
  obtain ⟨K1, Hb, hsz⟩ := cells1 w (instA op a b n) 54
  have i3 := (K1.cell 3).trans (show _ = some (Value.int .i64 n) from rfl)
  have HM : ∀ x : Int, x = immL n → Ending.returned (.int .u32 x) = .returned (.int .u32 (immL n)) := by rintro x rfl; rfl
  by_cases h : n < 0
  all_goals
    go_enter Try.func23, Try.ntmps23
    go_wp2_with (go_at_call 47; refine (cSub _ _ _).mono ?_; rintro e w' ⟨rfl, rfl⟩)
    go_ret
    exact ⟨HM _ (by unfold immL; omega), Hb⟩
theorem rImm {op a b n : Int} (hn : -32768 ≤ n ∧ n ≤ 32767) (w : World) : Calls Try.prog 59 #[.agg (instA op a b n)] w fun e w' => e = .returned (.int .u32 (immL n)) ∧ Below w.heap.size w w' := by
  obtain ⟨K1, Hb, hsz⟩ := cells1 w (instA op a b n) 54
  have i3 := (K1.cell 3).trans (show _ = some (Value.int .i64 n) from rfl)
  have HM : ∀ x : Int, x = immL n → Ending.returned (.int .u32 x) = .returned (.int .u32 (immL n)) := by rintro x rfl; rfl
  by_cases h : n < 0
  all_goals
    go_enter Try.func59, Try.ntmps59
    go_wp2_with (go_at_call 76; refine (rSub _ _ _ (by omega) (by omega) (by omega) (by omega)).mono ?_; rintro e w' ⟨rfl, rfl⟩)
    go_ret
    exact ⟨HM _ (by unfold immL; omega), Hb⟩
def highL (op : Int) : Bool := decide (op = 1 ∨ op = 22 ∨ op = 23 ∨ op = 25 ∨ op = 26 ∨ op = 27 ∨ op = 28)
theorem cHigh {op : Int} (h : 1 ≤ op ∧ op ≤ 28) (w : World) : Calls Try.prog 34 #[.int .i64 op] w fun e w' => e = .returned (.bool (highL op)) ∧ w = w' := by
  have HM : ∀ x : Bool, x = highL op → Ending.returned (.bool x) = .returned (.bool (highL op)) := by rintro x rfl; rfl
  rcases cases28 h with rfl | rfl | rfl | rfl | rfl | rfl | rfl | rfl | rfl | rfl | rfl | rfl | rfl | rfl | rfl | rfl | rfl | rfl | rfl | rfl | rfl | rfl | rfl | rfl | rfl | rfl | rfl | rfl
  all_goals
    clear h
    go_enter Try.func34, Try.ntmps34
    go_wp2
    go_ret
    exact ⟨HM _ (by decide +kernel), rfl⟩
end Go.Proofs.Ytmpnlhfnemidpaa
