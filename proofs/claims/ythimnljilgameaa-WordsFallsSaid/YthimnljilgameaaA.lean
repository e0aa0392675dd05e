/- The contracts of the small functions of words and of its reference: what each returns, the world as it was. -/
import Derived.Test.YthimnljilgameaaProg
import Derived.WalkKit
import Derived.Handy
import Derived.Lib.Hide
namespace Go.Proofs.Ythimnljilgameaa
open Go.RowKit

/-! ### Plain arithmetic -/
theorem and31 (n : Int) (h0 : 0 ≤ n) (h1 : n < 4294967296) : bits .and .u32 n 31 = n % 32 :=
  bits_mask .u32 32 (by decide) (fun n h h' => by rw [IntKind.wrap_u32]; omega) 5 (by decide) n h0 h1
theorem and3 (n : Int) (h0 : 0 ≤ n) (h1 : n < 4294967296) : bits .and .u32 n 3 = n % 4 :=
  bits_mask .u32 32 (by decide) (fun n h h' => by rw [IntKind.wrap_u32]; omega) 2 (by decide) n h0 h1
theorem mod_eq_tmod (x : Int) : (if x.tmod 4294967296 < 0 then x.tmod 4294967296 + 4294967296 else x.tmod 4294967296) = x % 4294967296 := by
  rw [Int.tmod_eq_emod]; split <;> split <;> omega
theorem mul_split (a b : Int) (h0 : 0 ≤ a) (h1 : a < 4294967296) (h2 : 0 ≤ b) (h3 : b < 4294967296) :
    (a * (b % 65536) + a * (b / 65536) % 65536 * 65536) % 4294967296 = a * b % 4294967296 := by
  have e : a * b = a * (b % 65536) + a * (b / 65536) * 65536 := by
    rw [Int.mul_assoc, ← Int.mul_add]; congr 1; omega
  rw [e]
  generalize a * (b % 65536) = x
  generalize a * (b / 65536) = y
  omega
theorem sgn32 (a : Int) (h0 : 0 ≤ a) (h1 : a < 4294967296) : wrap32 a = if a < 2147483648 then a else a - 4294967296 := by
  unfold wrap32; split <;> omega
theorem pow_le31 (k : Nat) (h : k ≤ 31) : (1 : Int) ≤ 2 ^ k ∧ (2 : Int) ^ k ≤ 2147483648 := by
  have : (2 : Nat) ^ k ≤ 2 ^ 31 := Nat.pow_le_pow_right (by decide) h
  have h1 : 1 ≤ (2 : Nat) ^ k := Nat.one_le_two_pow
  have e : ((2 ^ k : Nat) : Int) = (2 : Int) ^ k := by norm_cast
  omega

/-- What Shl tells. -/
def shlZ (a n : Int) : Int := a * 2 ^ (n % 32).toNat % 4294967296
/-- What Shr tells. -/
def shrZ (a n : Int) : Int := a / 2 ^ (n % 32).toNat
/-- What Sar tells. -/
def sarZ (a n : Int) : Int := wrap32 a / 2 ^ (n % 32).toNat % 4294967296

/-- A return's value, off its slot. -/
theorem ret_u32 {a b : Int} (h : a = b) : Ending.returned (.int .u32 a) = .returned (.int .u32 b) := by rw [h]
theorem ret_bool {a b : Bool} (h : a = b) : Ending.returned (.bool a) = .returned (.bool b) := by rw [h]

theorem c35 (x : Int) (w : World) (h0 : -9223372036854775808 ≤ x) (h1 : x ≤ 9223372036854775807) :
    Calls Try.prog 35 #[.int .i64 x] w fun e w' => e = .returned (.int .u32 (x % 4294967296)) ∧ w = w' := by
  have ht := mod_eq_tmod x
  have hb : -4294967296 < x.tmod 4294967296 ∧ x.tmod 4294967296 < 4294967296 := by rw [Int.tmod_eq_emod]; split <;> omega
  have HT := Lib.hid ht
  clear ht
  go_enter Try.func35, Try.ntmps35
  go_wp2
  all_goals
    go_ret
    refine ⟨ret_u32 ?_, rfl⟩
    have ht := HT.out
    try unfold wrap64
    split at ht <;> omega
theorem c10 (a n : Int) (w : World) (h0 : 0 ≤ n) (h1 : n < 4294967296) :
    Calls Try.prog 10 #[.int .u32 a, .int .u32 n] w fun e w' => e = .returned (.int .u32 (shlZ a n)) ∧ w = w' := by
  have hb := and31 n h0 h1
  go_enter Try.func10, Try.ntmps10
  go_wp2
  go_ret
  exact ⟨rfl, rfl⟩
theorem c36 (a n : Int) (w : World) (h0 : 0 ≤ n) (h1 : n < 4294967296) :
    Calls Try.prog 36 #[.int .u32 a, .int .u32 n] w fun e w' => e = .returned (.int .u32 (shrZ a n)) ∧ w = w' := by
  have hb := and31 n h0 h1
  go_enter Try.func36, Try.ntmps36
  go_wp2
  go_ret
  exact ⟨rfl, rfl⟩
theorem c13 (a n : Int) (w : World) (h0 : 0 ≤ n) (h1 : n < 4294967296) :
    Calls Try.prog 13 #[.int .u32 a, .int .u32 n] w fun e w' => e = .returned (.int .u32 (shrZ a n)) ∧ w = w' := by
  go_enter Try.func13, Try.ntmps13
  go_wp2_with (go_at_call 36; refine (c36 _ _ _ (by omega) (by omega)).mono ?_; rintro e w' ⟨rfl, rfl⟩)
  go_ret
  exact ⟨rfl, rfl⟩
theorem c37 (a n : Int) (w : World) (h0 : 0 ≤ n) (h1 : n < 4294967296) :
    Calls Try.prog 37 #[.int .i32 a, .int .u32 n] w fun e w' => e = .returned (.int .i32 (shrZ a n)) ∧ w = w' := by
  have hb := and31 n h0 h1
  go_enter Try.func37, Try.ntmps37
  go_wp2
  go_ret
  exact ⟨rfl, rfl⟩
theorem c15 (a n : Int) (w : World) (h0 : 0 ≤ n) (h1 : n < 4294967296) :
    Calls Try.prog 15 #[.int .u32 a, .int .u32 n] w fun e w' => e = .returned (.int .u32 (sarZ a n)) ∧ w = w' := by
  go_enter Try.func15, Try.ntmps15
  go_wp2_with (go_at_call 37; refine (c37 _ _ _ (by omega) (by omega)).mono ?_; rintro e w' ⟨rfl, rfl⟩)
  go_ret
  exact ⟨rfl, rfl⟩
theorem c19 (a b : Int) (w : World) :
    Calls Try.prog 19 #[.int .u32 a, .int .u32 b] w fun e w' => e = .returned (.int .u32 ((a + b) % 4294967296)) ∧ w = w' := by
  go_enter Try.func19, Try.ntmps19
  go_wp2
  go_ret
  exact ⟨rfl, rfl⟩
theorem c21 (a b : Int) (w : World) :
    Calls Try.prog 21 #[.int .u32 a, .int .u32 b] w fun e w' => e = .returned (.int .u32 ((a - b) % 4294967296)) ∧ w = w' := by
  go_enter Try.func21, Try.ntmps21
  go_wp2
  go_ret
  exact ⟨rfl, rfl⟩
theorem c17 (a b : Int) (w : World) :
    Calls Try.prog 17 #[.int .u32 a, .int .u32 b] w fun e w' => e = .returned (.int .u32 (a * b % 4294967296)) ∧ w = w' := by
  go_enter Try.func17, Try.ntmps17
  go_wp2
  go_ret
  exact ⟨rfl, rfl⟩
theorem c23 (a b : Int) (w : World) :
    Calls Try.prog 23 #[.int .u32 a, .int .u32 b] w fun e w' => e = .returned (.bool (decide (wrap32 a < wrap32 b))) ∧ w = w' := by
  go_enter Try.func23, Try.ntmps23
  go_wp2
  go_ret
  exact ⟨rfl, rfl⟩
theorem c25 (a b : Int) (w : World) :
    Calls Try.prog 25 #[.int .u32 a, .int .u32 b] w fun e w' => e = .returned (.bool (decide (a < b))) ∧ w = w' := by
  go_enter Try.func25, Try.ntmps25
  go_wp2
  go_ret
  exact ⟨rfl, rfl⟩
theorem c26 (a b : Int) (w : World) :
    Calls Try.prog 26 #[.int .u32 a, .int .u32 b] w fun e w' => e = .returned (.bool (decide (a < b))) ∧ w = w' := by
  go_enter Try.func26, Try.ntmps26
  go_wp2
  go_ret
  exact ⟨rfl, rfl⟩
theorem c27 (a : Int) (w : World) :
    Calls Try.prog 27 #[.int .u32 a] w fun e w' => e = .returned (.int .i64 (wrap32 a)) ∧ w = w' := by
  have hb : -2147483648 ≤ wrap32 a ∧ wrap32 a ≤ 2147483647 := by unfold wrap32; omega
  go_enter Try.func27, Try.ntmps27
  go_wp2
  go_ret
  exact ⟨rfl, rfl⟩
theorem c28 (a : Int) (w : World) (h0 : 0 ≤ a) (h1 : a < 4294967296) :
    Calls Try.prog 28 #[.int .u32 a] w fun e w' => e = .returned (.int .i64 (wrap32 a)) ∧ w = w' := by
  go_enter Try.func28, Try.ntmps28
  go_wp2
  all_goals
    go_ret
    refine ⟨?_, rfl⟩
    show Ending.returned (.int .i64 _) = .returned (.int .i64 _)
    congr 2
    rw [sgn32 a h0 h1]
    split <;> omega
theorem c24 (a b : Int) (w : World) (h0 : 0 ≤ a) (h1 : a < 4294967296) (h2 : 0 ≤ b) (h3 : b < 4294967296) :
    Calls Try.prog 24 #[.int .u32 a, .int .u32 b] w fun e w' => e = .returned (.bool (decide (wrap32 a < wrap32 b))) ∧ w = w' := by
  go_enter Try.func24, Try.ntmps24
  go_wp2_with (go_at_call 28; refine (c28 _ _ (by omega) (by omega)).mono ?_; rintro e w' ⟨rfl, rfl⟩)
  go_ret
  exact ⟨rfl, rfl⟩
theorem c20 (a b : Int) (w : World) (h0 : 0 ≤ a) (h1 : a < 4294967296) (h2 : 0 ≤ b) (h3 : b < 4294967296) :
    Calls Try.prog 20 #[.int .u32 a, .int .u32 b] w fun e w' => e = .returned (.int .u32 ((a + b) % 4294967296)) ∧ w = w' := by
  go_enter Try.func20, Try.ntmps20
  go_wp2_with (go_at_call 35; refine (c35 _ _ (by omega) (by omega)).mono ?_; rintro e w' ⟨rfl, rfl⟩)
  go_ret
  exact ⟨rfl, rfl⟩
theorem c22 (a b : Int) (w : World) (h0 : 0 ≤ a) (h1 : a < 4294967296) (h2 : 0 ≤ b) (h3 : b < 4294967296) :
    Calls Try.prog 22 #[.int .u32 a, .int .u32 b] w fun e w' => e = .returned (.int .u32 ((a - b) % 4294967296)) ∧ w = w' := by
  go_enter Try.func22, Try.ntmps22
  go_wp2_with (go_at_call 35; refine (c35 _ _ (by omega) (by omega)).mono ?_; rintro e w' ⟨rfl, rfl⟩)
  go_ret
  exact ⟨rfl, rfl⟩
theorem c18 (a b : Int) (w : World) (h0 : 0 ≤ a) (h1 : a < 4294967296) (h2 : 0 ≤ b) (h3 : b < 4294967296) :
    Calls Try.prog 18 #[.int .u32 a, .int .u32 b] w fun e w' => e = .returned (.int .u32 (a * b % 4294967296)) ∧ w = w' := by
  have hm := mul_split a b h0 h1 h2 h3
  have b1 : 0 ≤ a * (b % 65536) ∧ a * (b % 65536) ≤ 281474976710656 := ⟨Int.mul_nonneg h0 (by omega), by
    have : a * (b % 65536) ≤ 4294967296 * 65536 := Int.mul_le_mul (by omega) (by omega) (by omega) (by omega)
    omega⟩
  have b2 : 0 ≤ a * (b / 65536) ∧ a * (b / 65536) ≤ 281474976710656 := ⟨Int.mul_nonneg h0 (by omega), by
    have : a * (b / 65536) ≤ 4294967296 * 65536 := Int.mul_le_mul (by omega) (by omega) (by omega) (by omega)
    omega⟩
  have HM := Lib.hid hm
  clear hm
  go_enter Try.func18, Try.ntmps18
  go_wp2_with (go_at_call 35; refine (c35 _ _ (by omega) (by omega)).mono ?_; rintro e w' ⟨rfl, rfl⟩)
  go_ret
  exact ⟨ret_u32 HM.out, rfl⟩
/-! ### The reference's loops -/
theorem dbl_step (a : Int) (k : Nat) : (a * 2 ^ k % 4294967296) * 2 % 4294967296 = a * 2 ^ (k + 1) % 4294967296 := by
  rw [Int.pow_succ, ← Int.mul_assoc]; generalize a * 2 ^ k = x; omega
theorem c11 (a n : Int) (w : World) (h0 : 0 ≤ a) (h1 : a < 4294967296) (h2 : 0 ≤ n) (h3 : n < 4294967296) :
    Calls Try.prog 11 #[.int .u32 a, .int .u32 n] w fun e w' => e = .returned (.int .u32 (shlZ a n)) ∧ w = w' := by
  go_enter Try.func11, Try.ntmps11
  go_wp2
  go_loop [0, 5] (fun x i => ∃ k : Nat, (k : Int) ≤ n % 32 ∧ i = .int .u32 k ∧ x = .int .u32 (a * 2 ^ k % 4294967296)) (fun _ i => 32 - (intOf i).toNat)
  case atStart => exact ⟨0, by omega, rfl, by simp; omega⟩
  case round =>
    obtain ⟨k, hk, rfl, rfl⟩ := hrel
    have hb : 0 ≤ a * 2 ^ k % 4294967296 ∧ a * 2 ^ k % 4294967296 < 4294967296 := by omega
    by_cases hlt : (k : Int) < n % 32
    · go_wp2_with (go_at_call 35; refine (c35 _ _ (by omega) (by omega)).mono ?_; rintro e w' ⟨rfl, rfl⟩)
      go_round
      case rel => exact ⟨k + 1, by omega, by go_num, by rw [dbl_step]⟩
      case measure => simp [intOf]; omega
    · go_wp2_with fail
      go_ret
      obtain rfl : k = (n % 32).toNat := by omega
      exact ⟨rfl, rfl⟩
theorem half_step (a : Int) (k : Nat) : a / 2 ^ k / 2 = a / 2 ^ (k + 1) := by
  rw [Int.pow_succ, Int.ediv_ediv_of_nonneg (Int.le_of_lt (Int.pow_pos (by decide)))]
theorem c14 (a n : Int) (w : World) (h0 : 0 ≤ a) (h1 : a < 4294967296) (h2 : 0 ≤ n) (h3 : n < 4294967296) :
    Calls Try.prog 14 #[.int .u32 a, .int .u32 n] w fun e w' => e = .returned (.int .u32 (shrZ a n)) ∧ w = w' := by
  go_enter Try.func14, Try.ntmps14
  go_wp2
  go_loop [0, 5] (fun x i => ∃ k : Nat, (k : Int) ≤ n % 32 ∧ i = .int .u32 k ∧ x = .int .u32 (a / 2 ^ k)) (fun _ i => 32 - (intOf i).toNat)
  case atStart => exact ⟨0, by omega, rfl, by simp⟩
  case round =>
    obtain ⟨k, hk, rfl, rfl⟩ := hrel
    have hb : 0 ≤ a / 2 ^ k ∧ a / 2 ^ k < 4294967296 := ⟨Int.ediv_nonneg h0 (Int.le_of_lt (Int.pow_pos (by decide))), by
      have := Int.ediv_le_self (a := a) (2 ^ k) h0; omega⟩
    by_cases hlt : (k : Int) < n % 32
    · go_wp2_with fail
      go_round
      case rel => exact ⟨k + 1, by omega, by go_num, by rw [← half_step]⟩
      case measure => simp [intOf]; omega
    · go_wp2_with fail
      go_ret
      obtain rfl : k = (n % 32).toNat := by omega
      exact ⟨rfl, rfl⟩
theorem sar_step (s : Int) (h0 : -2147483648 ≤ s) (h1 : s < 2147483648) (h : Int) (hh : h = if s < 0 then 1 else 0) :
    s % 4294967296 / 2 + h * 2147483648 = s / 2 % 4294967296 := by subst hh; split <;> omega
theorem sar_bd (a : Int) (k : Nat) (h0 : -2147483648 ≤ a) (h1 : a < 2147483648) : (-2147483648 ≤ a / 2 ^ k ∧ a / 2 ^ k < 2147483648) ∧ (a / 2 ^ k < 0 ↔ a < 0) := by
  have hp : (0 : Int) < 2 ^ k := Int.pow_pos (by decide)
  have hn : a / 2 ^ k < 0 ↔ a < 0 := by rw [Int.ediv_lt_iff_lt_mul hp, Int.zero_mul]
  refine ⟨?_, hn⟩
  by_cases h : a < 0
  · have h3 := hn.2 h
    refine ⟨?_, by omega⟩
    rw [Int.le_ediv_iff_mul_le hp]
    have : (1 : Int) ≤ 2 ^ k := by omega
    generalize (2 : Int) ^ k = p at *
    omega
  · have := Int.ediv_le_self (a := a) (2 ^ k) (by omega)
    have := Int.ediv_nonneg (a := a) (b := 2 ^ k) (by omega) (by omega)
    omega
theorem c16 (a n : Int) (w : World) (h0 : 0 ≤ a) (h1 : a < 4294967296) (h2 : 0 ≤ n) (h3 : n < 4294967296) :
    Calls Try.prog 16 #[.int .u32 a, .int .u32 n] w fun e w' => e = .returned (.int .u32 (sarZ a n)) ∧ w = w' := by
  have hs := sgn32 a h0 h1
  have hw : -2147483648 ≤ wrap32 a ∧ wrap32 a < 2147483648 := by unfold wrap32; omega
  have e0 : wrap32 a % 4294967296 = a := by rw [hs]; split <;> omega
  have eh : a / 2147483648 = if wrap32 a < 0 then 1 else 0 := by rw [hs]; split <;> split <;> omega
  have bh : 0 ≤ a / 2147483648 ∧ a / 2147483648 ≤ 1 := by omega
  have E0 := Lib.hid e0
  have EH := Lib.hid eh
  clear hs e0 eh
  generalize hsa : wrap32 a = s at *
  have HS := Lib.hid hsa
  clear hsa
  go_enter Try.func16, Try.ntmps16
  go_wp2
  go_loop [0, 6] (fun x i => ∃ k : Nat, (k : Int) ≤ n % 32 ∧ i = .int .u32 k ∧ x = .int .u32 (s / 2 ^ k % 4294967296)) (fun _ i => 32 - (intOf i).toNat)
  case atStart => exact ⟨0, by omega, rfl, by simp [E0.out]⟩
  case round =>
    obtain ⟨k, hk, rfl, rfl⟩ := hrel
    have hb := sar_bd s k hw.1 hw.2
    have hst := sar_step (s / 2 ^ k) hb.1.1 hb.1.2 _ rfl
    rw [half_step] at hst
    have HST := Lib.hid hst
    have hb2 := hb.2
    have HB := Lib.hid hb2
    clear hst hb hb2
    by_cases hlt : (k : Int) < n % 32
    · go_wp2_with fail
      go_round
      case rel =>
        refine ⟨k + 1, by omega, by go_num, ?_⟩
        congr 1
        rw [← HST.out, EH.out]
        have := HB.out
        split <;> split <;> omega
      case measure => simp [intOf]; omega
    · go_wp2_with fail
      go_ret
      obtain rfl : k = (n % 32).toNat := by omega
      exact ⟨by rw [← HS.out]; rfl, rfl⟩
end Go.Proofs.Ythimnljilgameaa
