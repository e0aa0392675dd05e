/- The cpu's Status, imm, high, taken, got, put, and the document's: contracts. -/
import Derived.Test.YtmpnlhfnemidpaaSt
namespace Go.Proofs.Ytmpnlhfnemidpaa
open Go.RowKit Go.Shelf

/-! ### Status -/
def statusL (s : St) : Int := (if s.sup then 1 else 0) + (if s.prev then 2 else 0) + (if s.en then 4 else 0)
theorem cStatus {s : St} (hs : s.regs.length = 8) (w : World) : Calls Try.prog 13 #[.agg (stA s)] w fun e w' => e = .returned (.int .u32 (statusL s)) ∧ Below w.heap.size w w' := by
  obtain ⟨K1, Hb, hsz⟩ := cells1 w (stA s) 25
  have A : StAt _ w.heap.size s := ⟨K1, hs⟩
  have o1 : bits .or .u32 0 1 = 1 := by decide +kernel
  have o2 : bits .or .u32 0 2 = 2 := by decide +kernel
  have o3 : bits .or .u32 1 2 = 3 := by decide +kernel
  have o4 : bits .or .u32 0 4 = 4 := by decide +kernel
  have o5 : bits .or .u32 1 4 = 5 := by decide +kernel
  have o6 : bits .or .u32 2 4 = 6 := by decide +kernel
  have o7 : bits .or .u32 3 4 = 7 := by decide +kernel
  have a6 := A.sup
  have a7 := A.prev
  have a8 := A.en
  have i0 : ∀ (x y z : Bool) w, (Instr.index 66 (.agg #[.bool x, .bool y, .bool z]) (.int .i64 0)).run Try.prog w = .ok (.bool x) w := fun _ _ _ _ => by kernel_rfl
  have i1 : ∀ (x y z : Bool) w, (Instr.index 66 (.agg #[.bool x, .bool y, .bool z]) (.int .i64 1)).run Try.prog w = .ok (.bool y) w := fun _ _ _ _ => by kernel_rfl
  have i2 : ∀ (x y z : Bool) w, (Instr.index 66 (.agg #[.bool x, .bool y, .bool z]) (.int .i64 2)).run Try.prog w = .ok (.bool z) w := fun _ _ _ _ => by kernel_rfl
  have HM : ∀ x : Int, x = statusL s → Ending.returned (.int .u32 x) = .returned (.int .u32 (statusL s)) := by rintro x rfl; rfl
  cases h1 : s.sup
  all_goals cases h2 : s.prev
  all_goals cases h3 : s.en
  all_goals
    rw [h1] at a6
    rw [h2] at a7
    rw [h3] at a8
    have H1 := Lib.hid h1
    have H2 := Lib.hid h2
    have H3 := Lib.hid h3
    clear h1 h2 h3
    go_enter Try.func13, Try.ntmps13
    go_wp2
    go_rounds 4
    go_ret
    exact ⟨HM _ (by unfold statusL; rw [H1.out, H2.out, H3.out]; rfl), Hb⟩
theorem rStatus {s : St} (hs : s.regs.length = 8) (w : World) : Calls Try.prog 14 #[.agg (stA s)] w fun e w' => e = .returned (.int .u32 (statusL s)) ∧ Below w.heap.size w w' := by
  obtain ⟨K1, Hb, hsz⟩ := cells1 w (stA s) 25
  have A : StAt _ w.heap.size s := ⟨K1, hs⟩
  have a6 := A.sup
  have a7 := A.prev
  have a8 := A.en
  have HM : ∀ x : Int, x = statusL s → Ending.returned (.int .u32 x) = .returned (.int .u32 (statusL s)) := by rintro x rfl; rfl
  cases h1 : s.sup
  all_goals cases h2 : s.prev
  all_goals cases h3 : s.en
  all_goals
    rw [h1] at a6
    rw [h2] at a7
    rw [h3] at a8
    have H1 := Lib.hid h1
    have H2 := Lib.hid h2
    have H3 := Lib.hid h3
    clear h1 h2 h3
    go_enter Try.func14, Try.ntmps14
    go_wp2
    go_ret
    exact ⟨HM _ (by unfold statusL; rw [H1.out, H2.out, H3.out]; rfl), Hb⟩
/-! ### Imm, as a word -/
def immL (n : Int) : Int := n % 4294967296
theorem cImm {op a b n : Int} (hn : -32768 ≤ n ∧ n ≤ 32767) (w : World) : Calls Try.prog 23 #[.agg (instA op a b n)] w fun e w' => e = .returned (.int .u32 (immL n)) ∧ Below w.heap.size w w' := by
  obtain ⟨K1, Hb, hsz⟩ := cells1 w (instA op a b n) 54
  have i3 := (K1.cell 3).trans (show _ = some (Value.int .i64 n) from rfl)
  have HM : ∀ x : Int, x = immL n → Ending.returned (.int .u32 x) = .returned (.int .u32 (immL n)) := by rintro x rfl; rfl
  by_cases h : n < 0
  all_goals
    go_enter Try.func23, Try.ntmps23
    go_wp2_with (go_at_call 47; refine (cSub _ _ _).mono ?_; rintro e w' ⟨rfl, rfl⟩)
    go_ret
    exact ⟨HM _ (by unfold immL; omega), Hb⟩
theorem rImm {op a b n : Int} (hn : -32768 ≤ n ∧ n ≤ 32767) (w : World) : Calls Try.prog 59 #[.agg (instA op a b n)] w fun e w' => e = .returned (.int .u32 (immL n)) ∧ Below w.heap.size w w' := by
  obtain ⟨K1, Hb, hsz⟩ := cells1 w (instA op a b n) 54
  have i3 := (K1.cell 3).trans (show _ = some (Value.int .i64 n) from rfl)
  have HM : ∀ x : Int, x = immL n → Ending.returned (.int .u32 x) = .returned (.int .u32 (immL n)) := by rintro x rfl; rfl
  by_cases h : n < 0
  all_goals
    go_enter Try.func59, Try.ntmps59
    go_wp2_with (go_at_call 76; refine (rSub _ _ _ (by omega) (by omega) (by omega) (by omega)).mono ?_; rintro e w' ⟨rfl, rfl⟩)
    go_ret
    exact ⟨HM _ (by unfold immL; omega), Hb⟩
def highL (op : Int) : Bool := decide (op = 1 ∨ op = 22 ∨ op = 23 ∨ op = 25 ∨ op = 26 ∨ op = 27 ∨ op = 28)
theorem cHigh {op : Int} (h : 1 ≤ op ∧ op ≤ 28) (w : World) : Calls Try.prog 34 #[.int .i64 op] w fun e w' => e = .returned (.bool (highL op)) ∧ w = w' := by
  have HM : ∀ x : Bool, x = highL op → Ending.returned (.bool x) = .returned (.bool (highL op)) := by rintro x rfl; rfl
  rcases cases28 h with rfl | rfl | rfl | rfl | rfl | rfl | rfl | rfl | rfl | rfl | rfl | rfl | rfl | rfl | rfl | rfl | rfl | rfl | rfl | rfl | rfl | rfl | rfl | rfl | rfl | rfl | rfl | rfl
  all_goals
    clear h
    go_enter Try.func34, Try.ntmps34
    go_wp2
    go_ret
    exact ⟨HM _ (by decide +kernel), rfl⟩
end Go.Proofs.Ytmpnlhfnemidpaa
