/- The cpu's Plan, and the document's: contracts. -/
import Derived.Test.YtmpnlhfnemidpaaSt
import Derived.StillTactics
namespace Go.Proofs.Ytmpnlhfnemidpaa
open Go.RowKit Go.Shelf

/-- What a word wants. -/
structure Wt where
  kind : Int
  cause : Int
  addr : Int
  width : Int
  port : Int
  value : Int
abbrev wtA (x : Wt) : Array Value := #[.int .i64 x.kind, .int .u32 x.cause, .int .u32 x.addr, .int .i64 x.width, .int .i64 x.port, .int .u32 x.value]
def reg (s : St) (k : Int) : Int := s.regs.getD k.toNat 0
def trapW (c : Int) : Wt := ⟨1, c, 0, 0, 0, 0⟩
/-- .. of an instruction that is one. -/
def planW (op a b at_ n : Int) (sup : Bool) : Wt :=
  if highL op = true ∧ sup = false then trapW 2
  else if op = 24 then trapW 8
  else if ((op = 13 ∨ op = 14) ∧ at_ % 4 ≠ 0) ∨ (op = 21 ∧ b % 4 ≠ 0) then trapW 6
  else if (op = 26 ∨ op = 27) ∧ (n < 0 ∨ 5 < n) then trapW 1
  else if op = 13 then ⟨2, 0, at_, 4, 0, 0⟩
  else if op = 15 then ⟨2, 0, at_, 1, 0, 0⟩
  else if op = 14 then ⟨3, 0, at_, 4, 0, a⟩
  else if op = 16 then ⟨3, 0, at_, 1, 0, a % 256⟩
  else if op = 22 then ⟨4, 0, 0, 0, n, 0⟩
  else if op = 23 then ⟨5, 0, 0, 0, n, a⟩
  else if op = 1 then ⟨6, 0, 0, 0, 0, 0⟩
  else if op = 28 then ⟨7, 0, 0, 0, 0, 0⟩
  else ⟨0, 0, 0, 0, 0, 0⟩
def atL (s : St) (x : Int) : Int := (reg s (dB x) + immL (dN x)) % 4294967296
def planL (s : St) (x : Int) : Wt :=
  if okL x then planW (dOp x) (reg s (dA x)) (reg s (dB x)) (atL s x) (dN x) s.sup else trapW 1
theorem ok_bounds {x : Int} (h : okL x = true) : (1 ≤ dOp x ∧ dOp x ≤ 28) ∧ (0 ≤ dA x ∧ dA x ≤ 7) ∧ (0 ≤ dB x ∧ dB x ≤ 7) ∧ (-32768 ≤ dN x ∧ dN x ≤ 32767) := by
  unfold okL mayL within at h
  simp only [Bool.and_eq_true, Bool.or_eq_true, decide_eq_true_eq] at h
  obtain ⟨⟨⟨h1, h2⟩, h3⟩, h4⟩ := h
  exact ⟨h1, by omega, by omega, by omega⟩
theorem StAt.reg {W : World} {B : Nat} {s : St} (h : StAt W B s) {k : Nat} (hk : k < 8) : W.cell? ⟨B, k, none⟩ = some (.int .u32 (Ytmpnlhfnemidpaa.reg s k)) := by
  rw [h.row.cell, stA_reg (by rw [h.len]; exact hk)]
  unfold Ytmpnlhfnemidpaa.reg
  rw [List.getD_eq_getElem?_getD, Int.toNat_natCast, List.getElem?_eq_getElem (by rw [h.len]; exact hk)]; rfl
theorem St.ok.reg {s : St} (h : s.ok) (k : Int) : u32? (Ytmpnlhfnemidpaa.reg s k) := by
  unfold Ytmpnlhfnemidpaa.reg
  rw [List.getD_eq_getElem?_getD]
  cases hh : s.regs[k.toNat]? with
  | none => exact ⟨by decide, by decide⟩
  | some x => exact h.regs x (List.mem_of_getElem? hh)
theorem hl1 : highL 1 = true := by decide +kernel
theorem hl2 : highL 2 = false := by decide +kernel
theorem hl3 : highL 3 = false := by decide +kernel
theorem hl4 : highL 4 = false := by decide +kernel
theorem hl5 : highL 5 = false := by decide +kernel
theorem hl6 : highL 6 = false := by decide +kernel
theorem hl7 : highL 7 = false := by decide +kernel
theorem hl8 : highL 8 = false := by decide +kernel
theorem hl9 : highL 9 = false := by decide +kernel
theorem hl10 : highL 10 = false := by decide +kernel
theorem hl11 : highL 11 = false := by decide +kernel
theorem hl12 : highL 12 = false := by decide +kernel
theorem hl13 : highL 13 = false := by decide +kernel
theorem hl14 : highL 14 = false := by decide +kernel
theorem hl15 : highL 15 = false := by decide +kernel
theorem hl16 : highL 16 = false := by decide +kernel
theorem hl17 : highL 17 = false := by decide +kernel
theorem hl18 : highL 18 = false := by decide +kernel
theorem hl19 : highL 19 = false := by decide +kernel
theorem hl20 : highL 20 = false := by decide +kernel
theorem hl21 : highL 21 = false := by decide +kernel
theorem hl22 : highL 22 = true := by decide +kernel
theorem hl23 : highL 23 = true := by decide +kernel
theorem hl24 : highL 24 = false := by decide +kernel
theorem hl25 : highL 25 = true := by decide +kernel
theorem hl26 : highL 26 = true := by decide +kernel
theorem hl27 : highL 27 = true := by decide +kernel
theorem hl28 : highL 28 = true := by decide +kernel
theorem pw1 (a b at_ n : Int) (sup : Bool) : planW 1 a b at_ n sup = if sup = false then trapW 2 else ⟨6, 0, 0, 0, 0, 0⟩ := by simp [planW, hl1]
theorem pw2 (a b at_ n : Int) (sup : Bool) : planW 2 a b at_ n sup = ⟨0, 0, 0, 0, 0, 0⟩ := by simp [planW, hl2]
theorem pw3 (a b at_ n : Int) (sup : Bool) : planW 3 a b at_ n sup = ⟨0, 0, 0, 0, 0, 0⟩ := by simp [planW, hl3]
theorem pw4 (a b at_ n : Int) (sup : Bool) : planW 4 a b at_ n sup = ⟨0, 0, 0, 0, 0, 0⟩ := by simp [planW, hl4]
theorem pw5 (a b at_ n : Int) (sup : Bool) : planW 5 a b at_ n sup = ⟨0, 0, 0, 0, 0, 0⟩ := by simp [planW, hl5]
theorem pw6 (a b at_ n : Int) (sup : Bool) : planW 6 a b at_ n sup = ⟨0, 0, 0, 0, 0, 0⟩ := by simp [planW, hl6]
theorem pw7 (a b at_ n : Int) (sup : Bool) : planW 7 a b at_ n sup = ⟨0, 0, 0, 0, 0, 0⟩ := by simp [planW, hl7]
theorem pw8 (a b at_ n : Int) (sup : Bool) : planW 8 a b at_ n sup = ⟨0, 0, 0, 0, 0, 0⟩ := by simp [planW, hl8]
theorem pw9 (a b at_ n : Int) (sup : Bool) : planW 9 a b at_ n sup = ⟨0, 0, 0, 0, 0, 0⟩ := by simp [planW, hl9]
theorem pw10 (a b at_ n : Int) (sup : Bool) : planW 10 a b at_ n sup = ⟨0, 0, 0, 0, 0, 0⟩ := by simp [planW, hl10]
theorem pw11 (a b at_ n : Int) (sup : Bool) : planW 11 a b at_ n sup = ⟨0, 0, 0, 0, 0, 0⟩ := by simp [planW, hl11]
theorem pw12 (a b at_ n : Int) (sup : Bool) : planW 12 a b at_ n sup = ⟨0, 0, 0, 0, 0, 0⟩ := by simp [planW, hl12]
theorem pw13 (a b at_ n : Int) (sup : Bool) : planW 13 a b at_ n sup = if at_ % 4 ≠ 0 then trapW 6 else ⟨2, 0, at_, 4, 0, 0⟩ := by simp [planW, hl13]
theorem pw14 (a b at_ n : Int) (sup : Bool) : planW 14 a b at_ n sup = if at_ % 4 ≠ 0 then trapW 6 else ⟨3, 0, at_, 4, 0, a⟩ := by simp [planW, hl14]
theorem pw15 (a b at_ n : Int) (sup : Bool) : planW 15 a b at_ n sup = ⟨2, 0, at_, 1, 0, 0⟩ := by simp [planW, hl15]
theorem pw16 (a b at_ n : Int) (sup : Bool) : planW 16 a b at_ n sup = ⟨3, 0, at_, 1, 0, a % 256⟩ := by simp [planW, hl16]
theorem pw17 (a b at_ n : Int) (sup : Bool) : planW 17 a b at_ n sup = ⟨0, 0, 0, 0, 0, 0⟩ := by simp [planW, hl17]
theorem pw18 (a b at_ n : Int) (sup : Bool) : planW 18 a b at_ n sup = ⟨0, 0, 0, 0, 0, 0⟩ := by simp [planW, hl18]
theorem pw19 (a b at_ n : Int) (sup : Bool) : planW 19 a b at_ n sup = ⟨0, 0, 0, 0, 0, 0⟩ := by simp [planW, hl19]
theorem pw20 (a b at_ n : Int) (sup : Bool) : planW 20 a b at_ n sup = ⟨0, 0, 0, 0, 0, 0⟩ := by simp [planW, hl20]
theorem pw21 (a b at_ n : Int) (sup : Bool) : planW 21 a b at_ n sup = if b % 4 ≠ 0 then trapW 6 else ⟨0, 0, 0, 0, 0, 0⟩ := by simp [planW, hl21]
theorem pw22 (a b at_ n : Int) (sup : Bool) : planW 22 a b at_ n sup = if sup = false then trapW 2 else ⟨4, 0, 0, 0, n, 0⟩ := by simp [planW, hl22]
theorem pw23 (a b at_ n : Int) (sup : Bool) : planW 23 a b at_ n sup = if sup = false then trapW 2 else ⟨5, 0, 0, 0, n, a⟩ := by simp [planW, hl23]
theorem pw24 (a b at_ n : Int) (sup : Bool) : planW 24 a b at_ n sup = trapW 8 := by simp [planW, hl24]
theorem pw25 (a b at_ n : Int) (sup : Bool) : planW 25 a b at_ n sup = if sup = false then trapW 2 else ⟨0, 0, 0, 0, 0, 0⟩ := by simp [planW, hl25]
theorem pw26 (a b at_ n : Int) (sup : Bool) : planW 26 a b at_ n sup = if sup = false then trapW 2 else if n < 0 ∨ 5 < n then trapW 1 else ⟨0, 0, 0, 0, 0, 0⟩ := by simp [planW, hl26]
theorem pw27 (a b at_ n : Int) (sup : Bool) : planW 27 a b at_ n sup = if sup = false then trapW 2 else if n < 0 ∨ 5 < n then trapW 1 else ⟨0, 0, 0, 0, 0, 0⟩ := by simp [planW, hl27]
theorem pw28 (a b at_ n : Int) (sup : Bool) : planW 28 a b at_ n sup = if sup = false then trapW 2 else ⟨7, 0, 0, 0, 0, 0⟩ := by simp [planW, hl28]
theorem cPlan1 (c : Int) (w : World) : Calls Try.prog 33 #[.int .u32 c] w fun e w' => e = .returned (.agg (wtA (trapW c))) ∧ Below w.heap.size w w' := by
  have K0 : Cells (w.alloc (.cells #[.int .i64 1, .int .u32 c, .int .u32 0, .int .i64 0, .int .i64 0, .int .u32 0] 42)) w.heap.size 42 #[.int .i64 1, .int .u32 c, .int .u32 0, .int .i64 0, .int .i64 0, .int .u32 0] := Cells.new _ _ _
  have B0 : Below w.heap.size w (w.alloc (.cells #[.int .i64 1, .int .u32 c, .int .u32 0, .int .i64 0, .int .i64 0, .int .u32 0] 42)) := (Below.refl _ _).alloc (Nat.le_refl _) _
  have hi : (Try.prog.info? 42).map (·.size) = some 6 := by kernel_rfl
  go_enter Try.func33, Try.ntmps33
  go_wp2
  exact bodyPost_ret (results_cell_row rfl _ _ w.heap.size 42 _ (0, 0) _ rfl K0 Try.underlying42 rfl hi) rfl ⟨rfl, B0⟩
theorem setW_heap {W : World} {B : Nat} {z : Wt} (h : Cells W B 42 (wtA z)) (k c a d p v : Int) : ((((((W.setCell ⟨B, 0, none⟩ (.int .i64 k)).setCell ⟨B, 1, none⟩ (.int .u32 c)).setCell ⟨B, 2, none⟩ (.int .u32 a)).setCell ⟨B, 3, none⟩ (.int .i64 d)).setCell ⟨B, 4, none⟩ (.int .i64 p)).setCell ⟨B, 5, none⟩ (.int .u32 v)).heap[B]? = some (.cells (wtA ⟨k, c, a, d, p, v⟩) 42 (0, 0)) :=
  Cells.set (Cells.set (Cells.set (Cells.set (Cells.set (Cells.set h 0 _) 1 _) 2 _) 3 _) 4 _) 5 _
theorem setW_below {W w : World} {n B : Nat} (h : Below n w W) (hB : n ≤ B) (k c a d p v : Int) : Below n w ((((((W.setCell ⟨B, 0, none⟩ (.int .i64 k)).setCell ⟨B, 1, none⟩ (.int .u32 c)).setCell ⟨B, 2, none⟩ (.int .u32 a)).setCell ⟨B, 3, none⟩ (.int .i64 d)).setCell ⟨B, 4, none⟩ (.int .i64 p)).setCell ⟨B, 5, none⟩ (.int .u32 v)) :=
  Below.setCell (Below.setCell (Below.setCell (Below.setCell (Below.setCell (Below.setCell h hB _) hB _) hB _) hB _) hB _) hB _
theorem hiW (z : Wt) : (Try.prog.info? 42).map (·.size) = some (wtA z).size := by
  show _ = some 6
  kernel_rfl
theorem wantF {W : World} {B : Nat} (h : Cells W B 42 (wtA ⟨0, 0, 0, 0, 0, 0⟩)) : W.cell? ⟨B, 0, none⟩ = some (.int .i64 0) ∧ W.cell? ⟨B, 1, none⟩ = some (.int .u32 0) ∧ W.cell? ⟨B, 2, none⟩ = some (.int .u32 0) ∧ W.cell? ⟨B, 3, none⟩ = some (.int .i64 0) ∧ W.cell? ⟨B, 4, none⟩ = some (.int .i64 0) ∧ W.cell? ⟨B, 5, none⟩ = some (.int .u32 0) ∧
    W.frozen? ⟨B, 0, none⟩ = false ∧ W.frozen? ⟨B, 1, none⟩ = false ∧ W.frozen? ⟨B, 2, none⟩ = false ∧ W.frozen? ⟨B, 3, none⟩ = false ∧ W.frozen? ⟨B, 4, none⟩ = false ∧ W.frozen? ⟨B, 5, none⟩ = false :=
  ⟨h.cell 0, h.cell 1, h.cell 2, h.cell 3, h.cell 4, h.cell 5, h.frozen 0, h.frozen 1, h.frozen 2, h.frozen 3, h.frozen 4, h.frozen 5⟩
end Go.Proofs.Ytmpnlhfnemidpaa
