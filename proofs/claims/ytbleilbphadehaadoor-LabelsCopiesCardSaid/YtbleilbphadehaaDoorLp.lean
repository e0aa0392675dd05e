/- Sets of labels as numbers: plain laws. -/
import Derived.WalkKit
namespace Go.Proofs.YtbleilbphadehaaDoor

/-- The number's lowest bits, one more. -/
theorem mod_next (n k : Nat) : n % 2 ^ (k + 1) = n % 2 ^ k + if n.testBit k then 2 ^ k else 0 := by
  rw [Nat.mod_pow_succ, Nat.testBit_eq_decide_div_mod_eq]
  rcases (show n / 2 ^ k % 2 = 0 ∨ n / 2 ^ k % 2 = 1 by omega) with h | h <;> simp [h]
theorem or_lt16 {a b : Nat} (ha : a < 65536) (hb : b < 65536) : a ||| b < 65536 := Nat.or_lt_two_pow (n := 16) ha hb
/-- The labels of a set below a number. -/
def labsL (a : Nat) : Nat → List Int
  | 0 => []
  | k + 1 => labsL a k ++ if a.testBit k then [(k : Int)] else []
theorem labsL_len (a : Nat) : ∀ k, (labsL a k).length ≤ k
  | 0 => Nat.le_refl _
  | k + 1 => by
    have := labsL_len a k
    unfold labsL
    rw [List.length_append]
    split <;> simp <;> omega
theorem labsL_mem (a : Nat) : ∀ k, ∀ x ∈ labsL a k, 0 ≤ x ∧ x < k
  | 0, x, h => by simp [labsL] at h
  | k + 1, x, h => by
    unfold labsL at h
    rw [List.mem_append] at h
    rcases h with h | h
    · have := labsL_mem a k x h; omega
    · split at h
      · simp at h; omega
      · cases h
/-- Bit: halved n times, is it odd? -/
theorem half_pow (a : Nat) : ∀ k : Nat, a / 2 ^ k / 2 = a / 2 ^ (k + 1) := fun k => by rw [Nat.div_div_eq_div_mul, Nat.pow_succ]
theorem bit_test (a k : Nat) : decide (a / 2 ^ k % 2 = 1) = a.testBit k := (Nat.testBit_eq_decide_div_mod_eq).symm
theorem or_and_self (a b : Nat) : (a ||| b) &&& a = a := by
  apply Nat.eq_of_testBit_eq; intro i; simp [Nat.testBit_and, Nat.testBit_or]
  intro h; exact Or.inl h
theorem or_and_self' (a b : Nat) : (a ||| b) &&& b = b := by
  apply Nat.eq_of_testBit_eq; intro i; simp [Nat.testBit_and, Nat.testBit_or]
  intro h; exact Or.inr h
end Go.Proofs.YtbleilbphadehaaDoor
