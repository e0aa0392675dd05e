/- Bytes, words of bytes, one byte: the contracts. -/
import Derived.Test.YthimnljilgameaaB
import Derived.Test.YthimnljilgameaaArr
namespace Go.Proofs.Ythimnljilgameaa
open Go.RowKit Go.Shelf

/-- A word's bytes. -/
def bytesZ (a : Int) : Array Value := #[.int .u8 (a % 256), .int .u8 (a / 256 % 256), .int .u8 (a / 65536 % 256), .int .u8 (a / 16777216 % 256)]
theorem outA_four (a : Int) : outA a 4 = bytesZ a := by simp [outA, bytesZ]

theorem c29b (a : Int) (h0 : 0 ≤ a) (h1 : a < 4294967296) (w : World) : Calls Try.prog 29 #[.int .u32 a] w fun e w' => e = .returned (.agg (bytesZ a)) ∧ Below w.heap.size w w' := by
  rw [← outA_four]; exact c29 a h0 h1 w
theorem div256 (a : Int) : a / 256 / 256 = a / 65536 ∧ a / 256 / 256 / 256 = a / 16777216 := by omega
theorem c30 (a : Int) (h0 : 0 ≤ a) (h1 : a < 4294967296) (w : World) :
    Calls Try.prog 30 #[.int .u32 a] w fun e w' => e = .returned (.agg (bytesZ a)) ∧ Below w.heap.size w w' := by
  go_enter Try.func30, Try.ntmps30
  go_wp2
  go_rounds 5
  refine bodyPost_ret (v := .agg (bytesZ a)) ?_ rfl ⟨rfl, ?_⟩
  · simp only [bytesZ, ← (div256 a).2, ← (div256 a).1]; simp [results, Try.results30, go_sem]
  · go_grown
theorem or_join (i : Nat) (x y : Int) (hx0 : 0 ≤ x) (hx : x < 2 ^ i) (hy0 : 0 ≤ y) (hy : y % 2 ^ i = 0) (hy1 : y < 4294967296) (hi : (2 : Int) ^ i ≤ 4294967296) : bits .or .u32 x y = x + y := by
  have h := bits_join .u32 32 (by decide) (fun n h h' => by rw [IntKind.wrap_u32]; omega) i y x hy0 hy hy1 hx0 hx (by omega)
  have c : bits .or .u32 x y = bits .or .u32 y x := by
    simp only [bits]; rw [BitVec.or_comm]
  rw [c, h]; omega
theorem or_four (a b c d : Int) (h0 : 0 ≤ a ∧ a < 256) (h1 : 0 ≤ b ∧ b < 256) (h2 : 0 ≤ c ∧ c < 256) (h3 : 0 ≤ d ∧ d < 256) :
    bits .or .u32 (bits .or .u32 (bits .or .u32 (bits .or .u32 0 a) (b * 256)) (c * 65536)) (d * 16777216) = a + b * 256 + c * 65536 + d * 16777216 := by
  rw [or_join 0 0 a (by omega) (by omega) (by omega) (by omega) (by omega) (by omega), Int.zero_add, or_join 8 a (b * 256) (by omega) (by omega) (by omega) (by omega) (by omega) (by omega),
    or_join 16 _ (c * 65536) (by omega) (by omega) (by omega) (by omega) (by omega) (by omega), or_join 24 _ (d * 16777216) (by omega) (by omega) (by omega) (by omega) (by omega) (by omega)]
theorem c31 (a b c d : Int) (h0 : 0 ≤ a ∧ a < 256) (h1 : 0 ≤ b ∧ b < 256) (h2 : 0 ≤ c ∧ c < 256) (h3 : 0 ≤ d ∧ d < 256) (w : World) :
    Calls Try.prog 31 #[.agg #[.int .u8 a, .int .u8 b, .int .u8 c, .int .u8 d]] w fun e w' => e = .returned (.int .u32 (a + b * 256 + c * 65536 + d * 16777216)) ∧ Below w.heap.size w w' := by
  have i0 : ∀ w, (Instr.index 28 (.agg #[.int .u8 a, .int .u8 b, .int .u8 c, .int .u8 d]) (.int .i64 0)).run Try.prog w = .ok (.int .u8 a) w := fun _ => by kernel_rfl
  have i1 : ∀ w, (Instr.index 28 (.agg #[.int .u8 a, .int .u8 b, .int .u8 c, .int .u8 d]) (.int .i64 1)).run Try.prog w = .ok (.int .u8 b) w := fun _ => by kernel_rfl
  have i2 : ∀ w, (Instr.index 28 (.agg #[.int .u8 a, .int .u8 b, .int .u8 c, .int .u8 d]) (.int .i64 2)).run Try.prog w = .ok (.int .u8 c) w := fun _ => by kernel_rfl
  have i3 : ∀ w, (Instr.index 28 (.agg #[.int .u8 a, .int .u8 b, .int .u8 c, .int .u8 d]) (.int .i64 3)).run Try.prog w = .ok (.int .u8 d) w := fun _ => by kernel_rfl
  go_enter Try.func31, Try.ntmps31
  go_wp2
  go_rounds 5
  go_ret
  exact ⟨ret_u32 (or_four a b c d h0 h1 h2 h3), by go_grown⟩
theorem c32 (a b c d : Int) (h0 : 0 ≤ a ∧ a < 256) (h1 : 0 ≤ b ∧ b < 256) (h2 : 0 ≤ c ∧ c < 256) (h3 : 0 ≤ d ∧ d < 256) (w : World) :
    Calls Try.prog 32 #[.agg #[.int .u8 a, .int .u8 b, .int .u8 c, .int .u8 d]] w fun e w' => e = .returned (.int .u32 (a + b * 256 + c * 65536 + d * 16777216)) ∧ Below w.heap.size w w' := by
  go_enter Try.func32, Try.ntmps32
  go_wp2
  go_rounds 5
  go_ret
  exact ⟨ret_u32 (by omega), by go_grown⟩
/-- A word's n-th byte. -/
def byteZ (a n : Int) : Int := a / 2 ^ (8 * (n % 4)).toNat % 256
theorem c33 (a n : Int) (h0 : 0 ≤ a) (h1 : a < 4294967296) (h2 : 0 ≤ n) (h3 : n < 4294967296) (w : World) :
    Calls Try.prog 33 #[.int .u32 a, .int .u32 n] w fun e w' => e = .returned (.int .u8 (byteZ a n)) ∧ w = w' := by
  have hb := and3 n h2 h3
  go_enter Try.func33, Try.ntmps33
  go_wp2
  go_ret
  exact ⟨rfl, rfl⟩
theorem ret_u8 {a b : Int} (h : a = b) : Ending.returned (.int .u8 a) = .returned (.int .u8 b) := by rw [h]
theorem c34 (a n : Int) (h0 : 0 ≤ a) (h1 : a < 4294967296) (h2 : 0 ≤ n) (h3 : n < 4294967296) (w : World) :
    Calls Try.prog 34 #[.int .u32 a, .int .u32 n] w fun e w' => e = .returned (.int .u8 (byteZ a n)) ∧ Below w.heap.size w w' := by
  have i0 : ∀ w, (Instr.index 28 (.agg (bytesZ a)) (.int .i64 0)).run Try.prog w = .ok (.int .u8 (a % 256)) w := fun _ => by kernel_rfl
  have i1 : ∀ w, (Instr.index 28 (.agg (bytesZ a)) (.int .i64 1)).run Try.prog w = .ok (.int .u8 (a / 256 % 256)) w := fun _ => by kernel_rfl
  have i2 : ∀ w, (Instr.index 28 (.agg (bytesZ a)) (.int .i64 2)).run Try.prog w = .ok (.int .u8 (a / 65536 % 256)) w := fun _ => by kernel_rfl
  have i3 : ∀ w, (Instr.index 28 (.agg (bytesZ a)) (.int .i64 3)).run Try.prog w = .ok (.int .u8 (a / 16777216 % 256)) w := fun _ => by kernel_rfl
  obtain hn | hn | hn | hn : n % 4 = 0 ∨ n % 4 = 1 ∨ n % 4 = 2 ∨ n % 4 = 3 := by omega
  all_goals
    have HN := Lib.hid hn
    go_enter Try.func34, Try.ntmps34
    go_wp2_with (go_at_call 30; refine (c30 _ h0 h1 _).mono ?_; rintro e w' ⟨rfl, hb⟩)
    go_ret
    exact ⟨ret_u8 (by rw [byteZ, HN.out]; simp), hb⟩
/-- Two arrays of four bytes, by ==. -/
theorem eql28 (a b c d a' b' c' d' : Int) (w : World) :
    (Op.equalIn 10000 28 (.agg #[.int .u8 a, .int .u8 b, .int .u8 c, .int .u8 d]) (.agg #[.int .u8 a', .int .u8 b', .int .u8 c', .int .u8 d'])).run Try.prog w = .ok (decide ([a, b, c, d] = [a', b', c', d'])) w :=
  match h : Try.prog.info? 5 with
  | some _ => run_equalIn_ints w 9998 Try.underlying28 h (by kernel_rfl) Try.underlying5 (by kernel_rfl) [a, b, c, d] [a', b', c', d'] rfl rfl
  | none => absurd (show (Try.prog.info? 5).isSome = true by kernel_rfl) (by rw [h]; decide)
theorem c12 (w : World) : Calls Try.prog 12 #[] w fun e w' => e = .returned (.bool true) ∧ Below w.heap.size w w' := by
  have e1 : sarZ 2147483648 31 = 4294967295 := by decide +kernel
  have e2 : shlZ 1 33 = 2 := by decide +kernel
  have e3 : bytesZ 258 = #[.int .u8 2, .int .u8 1, .int .u8 0, .int .u8 0] := rfl
  have e4 : wrap32 2147483648 = -2147483648 := by decide +kernel
  have e5 : wrap32 0 = 0 := by decide +kernel
  have q := eql28 2 1 0 0 2 1 0 0
  go_enter Try.func12, Try.ntmps12
  go_wp2_with (first
    | (go_at_call 19; refine (c19 _ _ _).mono ?_; rintro e w' ⟨rfl, rfl⟩)
    | (go_at_call 10; refine (c10 _ _ _ (by omega) (by omega)).mono ?_; rintro e w' ⟨rfl, rfl⟩)
    | (go_at_call 15; refine (c15 _ _ _ (by omega) (by omega)).mono ?_; rintro e w' ⟨rfl, rfl⟩)
    | (go_at_call 23; refine (c23 _ _ _).mono ?_; rintro e w' ⟨rfl, rfl⟩)
    | (go_at_call 29; refine (c29 _ (by omega) (by omega) _).mono ?_; rintro e w' ⟨rfl, hb⟩; rw [outA_four, e3]))
  go_ret
  exact ⟨rfl, hb⟩
end Go.Proofs.Ythimnljilgameaa
