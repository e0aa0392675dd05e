/- The isa: of, may, Decode: contracts. -/
import Derived.Test.YtmpnlhfnemidpaaIs
namespace Go.Proofs.Ytmpnlhfnemidpaa
open Go.RowKit Go.Shelf

/-! ### What may be -/
def hasU (u flag : Int) : Bool := decide (u / flag % 2 = 1)
def within (u flag n lo hi : Int) : Bool := decide (n = 0) || (hasU u flag && decide (lo ≤ n) && decide (n ≤ hi))
def mayL (op a b n : Int) : Bool := decide (1 ≤ op ∧ op ≤ 28) && within (usesL op) 1 a 0 7 && within (usesL op) 2 b 0 7 && within (usesL op) 4 n (-32768) 32767
theorem uses4 {op : Int} (h : 1 ≤ op ∧ op ≤ 28) : usesL op = 0 ∨ usesL op = 3 ∨ usesL op = 5 ∨ usesL op = 7 := by
  rcases cases28 h with rfl | rfl | rfl | rfl | rfl | rfl | rfl | rfl | rfl | rfl | rfl | rfl | rfl | rfl | rfl | rfl | rfl | rfl | rfl | rfl | rfl | rfl | rfl | rfl | rfl | rfl | rfl | rfl <;> decide +kernel
theorem and_flag (u flag : Int) (hu : u = 0 ∨ u = 3 ∨ u = 5 ∨ u = 7) (hf : flag = 1 ∨ flag = 2 ∨ flag = 4) : bits .and .i64 u flag = if hasU u flag then flag else 0 := by
  rcases hu with rfl | rfl | rfl | rfl <;> rcases hf with rfl | rfl | rfl <;> decide +kernel
theorem cOf {op : Int} (h : 1 ≤ op ∧ op ≤ 28) (w : World) : Calls Try.prog 70 #[.int .i64 op] w fun e w' => e = .returned (.tuple #[.agg #[.string (nameL op), .int .i64 (usesL op)], .bool true]) ∧ Below w.heap.size w w' := by
  obtain ⟨K1, Hb, hs⟩ := cells1 w #[.string ⟨#[]⟩, .int .i64 0] 99
  have hx := fun W => index_rows h W
  have c0 := K1.cell 0
  have c1 := K1.cell 1
  have f0 := K1.frozen 0
  have f1 := K1.frozen 1
  simp at c0 c1
  go_enter Try.func70, Try.ntmps70
  go_wp2_with fail
  generalize w.alloc _ = W at *
  refine (cRows W).mono ?_
  rintro e W2 ⟨rfl, hb2⟩
  have K2 := K1.below hb2 K1.lt
  have c0 := K2.cell 0
  have c1 := K2.cell 1
  have f0 := K2.frozen 0
  have f1 := K2.frozen 1
  simp at c0 c1
  have B2 := Hb.trans (hb2.mono Hb.size)
  have o5 := (K2.set 0 (.string (nameL op))).set 1 (.int .i64 (usesL op))
  have hi : (Try.prog.info? 99).map (·.size) = some 2 := by kernel_rfl
  go_wp2
  exact bodyPost_ret (res_row_tmp rfl _ _ w.heap.size 99 _ _ rfl o5 Try.underlying99 rfl hi) rfl ⟨rfl, (B2.setCell (Nat.le_refl _) _).setCell (Nat.le_refl _) _⟩
theorem cOf_out {op : Int} (h : ¬ (1 ≤ op ∧ op ≤ 28)) (w : World) : Calls Try.prog 70 #[.int .i64 op] w fun e w' => e = .returned (.tuple #[.agg #[.string ⟨#[]⟩, .int .i64 0], .bool false]) ∧ Below w.heap.size w w' := by
  obtain ⟨K1, Hb, hs⟩ := cells1 w #[.string ⟨#[]⟩, .int .i64 0] 99
  have c0 := K1.cell 0
  have c1 := K1.cell 1
  have f0 := K1.frozen 0
  have f1 := K1.frozen 1
  simp at c0 c1
  have hi : (Try.prog.info? 99).map (·.size) = some 2 := by kernel_rfl
  by_cases h1 : op < 1
  all_goals
    have h2 : 1 ≤ op → 28 < op := by omega
    try (have h3 := h2 (by omega))
    clear h2 h
    go_enter Try.func70, Try.ntmps70
    go_wp2
    exact bodyPost_ret (res_row_tmp rfl _ _ w.heap.size 99 _ _ rfl K1 Try.underlying99 rfl hi) rfl ⟨rfl, Hb⟩
theorem cWithin {u flag n lo hi : Int} (hu : u = 0 ∨ u = 3 ∨ u = 5 ∨ u = 7) (hf : flag = 1 ∨ flag = 2 ∨ flag = 4) {B : Nat} {s : Value} {w : World} (hc : Cells w B 99 #[s, .int .i64 u]) :
    Calls Try.prog 71 #[.int .i64 flag, .int .i64 n, .int .i64 lo, .int .i64 hi, .pointer (some ⟨B, 0, none⟩)] w fun e w' => e = .returned (.bool (within u flag n lo hi)) ∧ w = w' := by
  have hb := and_flag u flag hu hf
  have c1 := hc.cell 1
  simp at c1
  have hf0 : ¬ flag = 0 := by omega
  have e2 : (flag != 0) = true := by simpa using hf0
  unfold within
  by_cases h1 : n = 0
  · go_enter Try.func71, Try.ntmps71
    go_wp2
    go_ret
    exact ⟨ret_bool (by first | rfl | simp [h1]), rfl⟩
  · have e1 : (n == 0) = false := by simpa using h1
    have E1 := Lib.hid e1
    have E2 := Lib.hid e2
    clear e1 e2
    by_cases h2 : hasU u flag = true
    · rw [if_pos h2] at hb
      by_cases h3 : lo ≤ n
      · go_enter Try.func71, Try.ntmps71
        go_wp2
        go_ret
        refine ⟨ret_bool ?_, rfl⟩
        first | rfl | (rw [E1.out]; try rw [E2.out]) | skip
        first | rfl | (simp [h1, h2, h3]; done) | (simp [h1, h2]; omega)
      · go_enter Try.func71, Try.ntmps71
        go_wp2
        go_ret
        refine ⟨ret_bool ?_, rfl⟩
        first | rfl | (rw [E1.out]; try rw [E2.out]) | skip
        first | rfl | (simp [*]; done) | (simp [*]; omega)
    · rw [if_neg h2] at hb
      go_enter Try.func71, Try.ntmps71
      go_wp2
      go_ret
      exact ⟨ret_bool (by first | rfl | simp [h1, h2]), rfl⟩
/-- An instruction, as a value. -/
abbrev instA (op a b n : Int) : Array Value := #[.int .i64 op, .int .i64 a, .int .i64 b, .int .i64 n]
set_option maxHeartbeats 4000000 in
theorem cMay (op a b n : Int) (w : World) : Calls Try.prog 42 #[.agg (instA op a b n)] w fun e w' => e = .returned (.bool (mayL op a b n)) ∧ Below w.heap.size w w' := by
  obtain ⟨K1, Hb, hs⟩ := cells1 w (instA op a b n) 54
  have i0 := (K1.cell 0).trans (show _ = some (Value.int .i64 op) from rfl)
  have i1 := (K1.cell 1).trans (show _ = some (Value.int .i64 a) from rfl)
  have i2 := (K1.cell 2).trans (show _ = some (Value.int .i64 b) from rfl)
  have i3 := (K1.cell 3).trans (show _ = some (Value.int .i64 n) from rfl)
  by_cases h : 1 ≤ op ∧ op ≤ 28
  · go_enter Try.func42, Try.ntmps42
    go_wp2_with fail
    generalize w.alloc _ = W at *
    refine (cOf h W).mono ?_
    rintro e W2 ⟨rfl, hb2⟩
    have hu := uses4 h
    obtain ⟨K3, hb3, s3⟩ := cells1 W2 #[.string (nameL op), .int .i64 (usesL op)] 99
    have HB := Hb.trans (hb2.mono Hb.size)
    have i0 : (W2.alloc (.cells #[.string (nameL op), .int .i64 (usesL op)] 99)).cell? ⟨w.heap.size, 0, none⟩ = _ := (hb3.cell (p := ⟨w.heap.size, 0, none⟩) (by have := K1.lt; have := hb2.size; simp; omega)).trans ((hb2.cell (p := ⟨w.heap.size, 0, none⟩) K1.lt).trans i0)
    have i1 : (W2.alloc (.cells #[.string (nameL op), .int .i64 (usesL op)] 99)).cell? ⟨w.heap.size, 1, none⟩ = _ := (hb3.cell (p := ⟨w.heap.size, 1, none⟩) (by have := K1.lt; have := hb2.size; simp; omega)).trans ((hb2.cell (p := ⟨w.heap.size, 1, none⟩) K1.lt).trans i1)
    have i2 : (W2.alloc (.cells #[.string (nameL op), .int .i64 (usesL op)] 99)).cell? ⟨w.heap.size, 2, none⟩ = _ := (hb3.cell (p := ⟨w.heap.size, 2, none⟩) (by have := K1.lt; have := hb2.size; simp; omega)).trans ((hb2.cell (p := ⟨w.heap.size, 2, none⟩) K1.lt).trans i2)
    have i3 : (W2.alloc (.cells #[.string (nameL op), .int .i64 (usesL op)] 99)).cell? ⟨w.heap.size, 3, none⟩ = _ := (hb3.cell (p := ⟨w.heap.size, 3, none⟩) (by have := K1.lt; have := hb2.size; simp; omega)).trans ((hb2.cell (p := ⟨w.heap.size, 3, none⟩) K1.lt).trans i3)
    obtain ⟨W3, e3⟩ : ∃ W3, W2.alloc (.cells #[.string (nameL op), .int .i64 (usesL op)] 99) = W3 := ⟨_, rfl⟩
    rw [e3] at i0 i1 i2 i3 K3 hb3
    have B3 := HB.trans (hb3.mono HB.size)
    clear s3 hs
    cases w1 : within (usesL op) 1 a 0 7
    all_goals cases w2 : within (usesL op) 2 b 0 7
    all_goals cases w4 : within (usesL op) 4 n (-32768) 32767
    all_goals
      go_wp2_with (first
        | (go_at_call 71; refine (cWithin hu (by omega) K3).mono ?_; (first | rw [w1] | rw [w2] | rw [w4]); rintro e w' ⟨rfl, rfl⟩))
      go_ret
      refine ⟨ret_bool ?_, B3⟩
      unfold mayL
      rw [decide_eq_true h, w1, w2, w4]; rfl
  · go_enter Try.func42, Try.ntmps42
    go_wp2_with fail
    generalize w.alloc _ = W at *
    refine (cOf_out h W).mono ?_
    rintro e W2 ⟨rfl, hb2⟩
    go_wp2
    go_ret
    have HB := Hb.trans (hb2.mono Hb.size)
    refine ⟨ret_bool ?_, HB.alloc HB.size _⟩
    unfold mayL
    rw [decide_eq_false h]; rfl
end Go.Proofs.Ytmpnlhfnemidpaa
