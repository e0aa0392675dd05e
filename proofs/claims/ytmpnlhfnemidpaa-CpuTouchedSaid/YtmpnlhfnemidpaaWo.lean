/- The contracts of the small functions of words and of its reference: what each returns, the world as it was. -/
import Derived.Test.YtmpnlhfnemidpaaBase
import Derived.Handy
namespace Go.Proofs.Ytmpnlhfnemidpaa
open Go.RowKit

/-! ### Plain arithmetic -/
theorem and31 (n : Int) (h0 : 0 ≤ n) (h1 : n < 4294967296) : bits .and .u32 n 31 = n % 32 :=
  bits_mask .u32 32 (by decide) (fun n h h' => by rw [IntKind.wrap_u32]; omega) 5 (by decide) n h0 h1
theorem and3 (n : Int) (h0 : 0 ≤ n) (h1 : n < 4294967296) : bits .and .u32 n 3 = n % 4 :=
  bits_mask .u32 32 (by decide) (fun n h h' => by rw [IntKind.wrap_u32]; omega) 2 (by decide) n h0 h1
theorem mod_eq_tmod (x : Int) : (if x.tmod 4294967296 < 0 then x.tmod 4294967296 + 4294967296 else x.tmod 4294967296) = x % 4294967296 := by
  rw [Int.tmod_eq_emod]; split <;> split <;> omega
theorem mul_split (a b : Int) (_h0 : 0 ≤ a) (_h1 : a < 4294967296) (_h2 : 0 ≤ b) (_h3 : b < 4294967296) :
    (a * (b % 65536) + a * (b / 65536) % 65536 * 65536) % 4294967296 = a * b % 4294967296 := by
  have e : a * b = a * (b % 65536) + a * (b / 65536) * 65536 := by
    rw [Int.mul_assoc, ← Int.mul_add]; congr 1; omega
  rw [e]
  generalize a * (b % 65536) = x
  generalize a * (b / 65536) = y
  omega
theorem sgn32 (a : Int) (h0 : 0 ≤ a) (h1 : a < 4294967296) : wrap32 a = if a < 2147483648 then a else a - 4294967296 := by
  unfold wrap32; split <;> omega
theorem pow_le31 (k : Nat) (h : k ≤ 31) : (1 : Int) ≤ 2 ^ k ∧ (2 : Int) ^ k ≤ 2147483648 := by
  have : (2 : Nat) ^ k ≤ 2 ^ 31 := Nat.pow_le_pow_right (by decide) h
  have h1 : 1 ≤ (2 : Nat) ^ k := Nat.one_le_two_pow
  have e : ((2 ^ k : Nat) : Int) = (2 : Int) ^ k := by norm_cast
  omega

/-- What Shl tells. -/
def shlZ (a n : Int) : Int := a * 2 ^ (n % 32).toNat % 4294967296
/-- What Shr tells. -/
def shrZ (a n : Int) : Int := a / 2 ^ (n % 32).toNat
/-- What Sar tells. -/
def sarZ (a n : Int) : Int := wrap32 a / 2 ^ (n % 32).toNat % 4294967296

/-- A return's value, off its slot. -/
theorem ret_u32 {a b : Int} (h : a = b) : Ending.returned (.int .u32 a) = .returned (.int .u32 b) := by rw [h]

theorem rWord (x : Int) (w : World) (_h0 : -9223372036854775808 ≤ x) (_h1 : x ≤ 9223372036854775807) :
    Calls Try.prog 75 #[.int .i64 x] w fun e w' => e = .returned (.int .u32 (x % 4294967296)) ∧ w = w' := by
  have ht := mod_eq_tmod x
  have hb : -4294967296 < x.tmod 4294967296 ∧ x.tmod 4294967296 < 4294967296 := by rw [Int.tmod_eq_emod]; split <;> omega
  have HT := Lib.hid ht
  clear ht
  go_enter Try.func75, Try.ntmps75
  go_wp2
  all_goals
    go_ret
    refine ⟨ret_u32 ?_, rfl⟩
    have ht := HT.out
    try unfold wrap64
    split at ht <;> omega
theorem cShl (a n : Int) (w : World) (h0 : 0 ≤ n) (h1 : n < 4294967296) :
    Calls Try.prog 52 #[.int .u32 a, .int .u32 n] w fun e w' => e = .returned (.int .u32 (shlZ a n)) ∧ w = w' := by
  have hb := and31 n h0 h1
  go_enter Try.func52, Try.ntmps52
  go_wp2
  go_ret
  exact ⟨rfl, rfl⟩
theorem cDown (a n : Int) (w : World) (h0 : 0 ≤ n) (h1 : n < 4294967296) :
    Calls Try.prog 72 #[.int .u32 a, .int .u32 n] w fun e w' => e = .returned (.int .u32 (shrZ a n)) ∧ w = w' := by
  have hb := and31 n h0 h1
  go_enter Try.func72, Try.ntmps72
  go_wp2
  go_ret
  exact ⟨rfl, rfl⟩
theorem cShr (a n : Int) (w : World) (h0 : 0 ≤ n) (h1 : n < 4294967296) :
    Calls Try.prog 54 #[.int .u32 a, .int .u32 n] w fun e w' => e = .returned (.int .u32 (shrZ a n)) ∧ w = w' := by
  go_enter Try.func54, Try.ntmps54
  go_wp2_with (go_at_call 72; refine (cDown _ _ _ (by omega) (by omega)).mono ?_; rintro e w' ⟨rfl, rfl⟩)
  go_ret
  exact ⟨rfl, rfl⟩
theorem cAdd (a b : Int) (w : World) :
    Calls Try.prog 21 #[.int .u32 a, .int .u32 b] w fun e w' => e = .returned (.int .u32 ((a + b) % 4294967296)) ∧ w = w' := by
  go_enter Try.func21, Try.ntmps21
  go_wp2
  go_ret
  exact ⟨rfl, rfl⟩
theorem cSub (a b : Int) (w : World) :
    Calls Try.prog 47 #[.int .u32 a, .int .u32 b] w fun e w' => e = .returned (.int .u32 ((a - b) % 4294967296)) ∧ w = w' := by
  go_enter Try.func47, Try.ntmps47
  go_wp2
  go_ret
  exact ⟨rfl, rfl⟩
theorem cMul (a b : Int) (w : World) :
    Calls Try.prog 25 #[.int .u32 a, .int .u32 b] w fun e w' => e = .returned (.int .u32 (a * b % 4294967296)) ∧ w = w' := by
  go_enter Try.func25, Try.ntmps25
  go_wp2
  go_ret
  exact ⟨rfl, rfl⟩
theorem cLess (a b : Int) (w : World) :
    Calls Try.prog 56 #[.int .u32 a, .int .u32 b] w fun e w' => e = .returned (.bool (decide (wrap32 a < wrap32 b))) ∧ w = w' := by
  go_enter Try.func56, Try.ntmps56
  go_wp2
  go_ret
  exact ⟨rfl, rfl⟩
theorem rSign (a : Int) (w : World) (h0 : 0 ≤ a) (h1 : a < 4294967296) :
    Calls Try.prog 61 #[.int .u32 a] w fun e w' => e = .returned (.int .i64 (wrap32 a)) ∧ w = w' := by
  go_enter Try.func61, Try.ntmps61
  go_wp2
  all_goals
    go_ret
    refine ⟨?_, rfl⟩
    show Ending.returned (.int .i64 _) = .returned (.int .i64 _)
    congr 2
    rw [sgn32 a h0 h1]
    split <;> omega
theorem rAdd (a b : Int) (w : World) (h0 : 0 ≤ a) (h1 : a < 4294967296) (h2 : 0 ≤ b) (h3 : b < 4294967296) :
    Calls Try.prog 58 #[.int .u32 a, .int .u32 b] w fun e w' => e = .returned (.int .u32 ((a + b) % 4294967296)) ∧ w = w' := by
  go_enter Try.func58, Try.ntmps58
  go_wp2_with (go_at_call 75; refine (rWord _ _ (by omega) (by omega)).mono ?_; rintro e w' ⟨rfl, rfl⟩)
  go_ret
  exact ⟨rfl, rfl⟩
theorem rSub (a b : Int) (w : World) (h0 : 0 ≤ a) (h1 : a < 4294967296) (h2 : 0 ≤ b) (h3 : b < 4294967296) :
    Calls Try.prog 76 #[.int .u32 a, .int .u32 b] w fun e w' => e = .returned (.int .u32 ((a - b) % 4294967296)) ∧ w = w' := by
  go_enter Try.func76, Try.ntmps76
  go_wp2_with (go_at_call 75; refine (rWord _ _ (by omega) (by omega)).mono ?_; rintro e w' ⟨rfl, rfl⟩)
  go_ret
  exact ⟨rfl, rfl⟩
theorem rMul (a b : Int) (w : World) (h0 : 0 ≤ a) (h1 : a < 4294967296) (h2 : 0 ≤ b) (h3 : b < 4294967296) :
    Calls Try.prog 62 #[.int .u32 a, .int .u32 b] w fun e w' => e = .returned (.int .u32 (a * b % 4294967296)) ∧ w = w' := by
  have hm := mul_split a b h0 h1 h2 h3
  have b1 : 0 ≤ a * (b % 65536) ∧ a * (b % 65536) ≤ 281474976710656 := ⟨Int.mul_nonneg h0 (by omega), by
    have : a * (b % 65536) ≤ 4294967296 * 65536 := Int.mul_le_mul (by omega) (by omega) (by omega) (by omega)
    omega⟩
  have b2 : 0 ≤ a * (b / 65536) ∧ a * (b / 65536) ≤ 281474976710656 := ⟨Int.mul_nonneg h0 (by omega), by
    have : a * (b / 65536) ≤ 4294967296 * 65536 := Int.mul_le_mul (by omega) (by omega) (by omega) (by omega)
    omega⟩
  have HM := Lib.hid hm
  clear hm
  go_enter Try.func62, Try.ntmps62
  go_wp2_with (go_at_call 75; refine (rWord _ _ (by omega) (by omega)).mono ?_; rintro e w' ⟨rfl, rfl⟩)
  go_ret
  exact ⟨ret_u32 HM.out, rfl⟩
/-! ### The reference's loops -/
theorem dbl_step (a : Int) (k : Nat) : (a * 2 ^ k % 4294967296) * 2 % 4294967296 = a * 2 ^ (k + 1) % 4294967296 := by
  rw [Int.pow_succ, ← Int.mul_assoc]; generalize a * 2 ^ k = x; omega
theorem rShl (a n : Int) (w : World) (h0 : 0 ≤ a) (h1 : a < 4294967296) (h2 : 0 ≤ n) (h3 : n < 4294967296) :
    Calls Try.prog 78 #[.int .u32 a, .int .u32 n] w fun e w' => e = .returned (.int .u32 (shlZ a n)) ∧ w = w' := by
  go_enter Try.func78, Try.ntmps78
  go_wp2
  go_loop [0, 5] (fun x i => ∃ k : Nat, (k : Int) ≤ n % 32 ∧ i = .int .u32 k ∧ x = .int .u32 (a * 2 ^ k % 4294967296)) (fun _ i => 32 - (intOf i).toNat)
  case atStart => exact ⟨0, by omega, rfl, by simp; omega⟩
  case round =>
    obtain ⟨k, hk, rfl, rfl⟩ := hrel
    have hb : 0 ≤ a * 2 ^ k % 4294967296 ∧ a * 2 ^ k % 4294967296 < 4294967296 := by omega
    by_cases hlt : (k : Int) < n % 32
    · go_wp2_with (go_at_call 75; refine (rWord _ _ (by omega) (by omega)).mono ?_; rintro e w' ⟨rfl, rfl⟩)
      go_round
      case rel => exact ⟨k + 1, by omega, by go_num, by rw [dbl_step]⟩
      case measure => simp [intOf]; omega
    · go_wp2_with fail
      go_ret
      obtain rfl : k = (n % 32).toNat := by omega
      exact ⟨rfl, rfl⟩
theorem half_step (a : Int) (k : Nat) : a / 2 ^ k / 2 = a / 2 ^ (k + 1) := by
  rw [Int.pow_succ, Int.ediv_ediv_of_nonneg (Int.le_of_lt (Int.pow_pos (by decide)))]
theorem rShr (a n : Int) (w : World) (h0 : 0 ≤ a) (h1 : a < 4294967296) (h2 : 0 ≤ n) (h3 : n < 4294967296) :
    Calls Try.prog 79 #[.int .u32 a, .int .u32 n] w fun e w' => e = .returned (.int .u32 (shrZ a n)) ∧ w = w' := by
  go_enter Try.func79, Try.ntmps79
  go_wp2
  go_loop [0, 5] (fun x i => ∃ k : Nat, (k : Int) ≤ n % 32 ∧ i = .int .u32 k ∧ x = .int .u32 (a / 2 ^ k)) (fun _ i => 32 - (intOf i).toNat)
  case atStart => exact ⟨0, by omega, rfl, by simp⟩
  case round =>
    obtain ⟨k, hk, rfl, rfl⟩ := hrel
    have hb : 0 ≤ a / 2 ^ k ∧ a / 2 ^ k < 4294967296 := ⟨Int.ediv_nonneg h0 (Int.le_of_lt (Int.pow_pos (by decide))), by
      have := Int.ediv_le_self (a := a) (2 ^ k) h0; omega⟩
    by_cases hlt : (k : Int) < n % 32
    · go_wp2_with fail
      go_round
      case rel => exact ⟨k + 1, by omega, by go_num, by rw [← half_step]⟩
      case measure => simp [intOf]; omega
    · go_wp2_with fail
      go_ret
      obtain rfl : k = (n % 32).toNat := by omega
      exact ⟨rfl, rfl⟩
end Go.Proofs.Ytmpnlhfnemidpaa
