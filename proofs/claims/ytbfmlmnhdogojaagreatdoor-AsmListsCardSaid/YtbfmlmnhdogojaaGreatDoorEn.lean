/- The isa: Encode, and the document's: contracts. -/
import Derived.Test.YtbfmlmnhdogojaaGreatDoorIs3
import Derived.Lib.EndianBits
namespace Go.Proofs.YtbfmlmnhdogojaaGreatDoor
open Go.RowKit Go.Shelf

def encL (op a b n : Int) : Int := op * 16777216 + a * 1048576 + b * 65536 + n % 65536
theorem and65535_i64 (n : Int) : bits .and .i64 n 65535 = n % 65536 := by
  have h : (BitVec.ofInt 64 n &&& BitVec.ofInt 64 65535).toNat = (n % 65536).toNat := by
    rw [BitVec.toNat_and, BitVec.toNat_ofInt, BitVec.toNat_ofInt]
    rw [show ((65535 : Int) % (2 ^ 64 : Nat)).toNat = 2 ^ 16 - 1 from rfl, Nat.and_two_pow_sub_one_eq_mod]
    omega
  show IntKind.i64.wrap ((BitVec.ofInt 64 n &&& BitVec.ofInt 64 65535).toNat : Nat) = _
  rw [h, IntKind.wrap_i64]
  omega
theorem or_u32 (i : Nat) (x y : Int) (h0 : 0 ≤ x) (hx : x % 2 ^ i = 0) (h1 : x < 4294967296) (h2 : 0 ≤ y) (h3 : y < 2 ^ i) (h4 : y < 4294967296) : bits .or .u32 x y = x + y :=
  bits_join .u32 32 (by decide) (fun n h h' => by rw [IntKind.wrap_u32]; omega) i x y h0 hx h1 h2 h3 h4
theorem may_bounds {op a b n : Int} (h : mayL op a b n = true) : (1 ≤ op ∧ op ≤ 28) ∧ (0 ≤ a ∧ a ≤ 7) ∧ (0 ≤ b ∧ b ≤ 7) ∧ (-32768 ≤ n ∧ n ≤ 32767) := by
  unfold mayL within at h
  simp only [Bool.and_eq_true, Bool.or_eq_true, decide_eq_true_eq] at h
  obtain ⟨⟨⟨h1, h2⟩, h3⟩, h4⟩ := h
  exact ⟨h1, by omega, by omega, by omega⟩
theorem cEncode_out {op a b n : Int} (h : mayL op a b n = false) (w : World) : Calls Tryz.prog 75 #[.agg (instA op a b n)] w fun e w' => e = .returned (.tuple #[.int .u32 0, .int .i64 2]) ∧ Below w.heap.size w w' := by
  obtain ⟨K1, Hb, hs⟩ := cells1 w (instA op a b n) 69
  have i0 := (K1.cell 0).trans (show _ = some (Value.int .i64 op) from rfl)
  have i1 := (K1.cell 1).trans (show _ = some (Value.int .i64 a) from rfl)
  have i2 := (K1.cell 2).trans (show _ = some (Value.int .i64 b) from rfl)
  have i3 := (K1.cell 3).trans (show _ = some (Value.int .i64 n) from rfl)
  have H := Lib.hid h
  clear h
  go_enter Tryz.func75, Tryz.ntmps75
  go_wp2_with fail
  refine (cMay _ _ _ _ _).mono ?_
  rw [H.out]
  rintro e W2 ⟨rfl, hb2⟩
  have B2 := Hb.trans (hb2.mono Hb.size)
  go_wp2
  go_ret2
  exact ⟨rfl, B2⟩
theorem cEncode_in {op a b n : Int} (h : mayL op a b n = true) (w : World) : Calls Tryz.prog 75 #[.agg (instA op a b n)] w fun e w' => e = .returned (.tuple #[.int .u32 (encL op a b n), .int .i64 0]) ∧ Below w.heap.size w w' := by
  obtain ⟨K1, Hb, hs⟩ := cells1 w (instA op a b n) 69
  have i0 := (K1.cell 0).trans (show _ = some (Value.int .i64 op) from rfl)
  have i1 := (K1.cell 1).trans (show _ = some (Value.int .i64 a) from rfl)
  have i2 := (K1.cell 2).trans (show _ = some (Value.int .i64 b) from rfl)
  have i3 := (K1.cell 3).trans (show _ = some (Value.int .i64 n) from rfl)
  obtain ⟨⟨o1, o2⟩, ⟨a1, a2⟩, ⟨b1, b2⟩, ⟨n1, n2⟩⟩ := may_bounds h
  have H := Lib.hid h
  clear h
  go_enter Tryz.func75, Tryz.ntmps75
  go_wp2_with fail
  refine (cMay _ _ _ _ _).mono ?_
  rw [H.out]
  rintro e W2 ⟨rfl, hb2⟩
  have B2 := Hb.trans (hb2.mono Hb.size)
  have K2 := K1.below hb2 K1.lt
  have i0 := (K2.cell 0).trans (show _ = some (Value.int .i64 op) from rfl)
  have i1 := (K2.cell 1).trans (show _ = some (Value.int .i64 a) from rfl)
  have i2 := (K2.cell 2).trans (show _ = some (Value.int .i64 b) from rfl)
  have i3 := (K2.cell 3).trans (show _ = some (Value.int .i64 n) from rfl)
  have m3 := and65535_i64 n
  go_wp2
  go_ret2
  refine ⟨?_, B2⟩
  rw [or_u32 24 (op * 16777216) (a * 1048576) (by omega) (by omega) (by omega) (by omega) (by omega) (by omega)]
  rw [or_u32 20 (op * 16777216 + a * 1048576) (b * 65536) (by omega) (by omega) (by omega) (by omega) (by omega) (by omega)]
  rw [or_u32 16 (op * 16777216 + a * 1048576 + b * 65536) (n % 65536) (by omega) (by omega) (by omega) (by omega) (by omega) (by omega)]
  rfl
theorem rEncode {op a b n : Int} (h : mayL op a b n = true) (w : World) : Calls Tryz.prog 82 #[.agg (instA op a b n)] w fun e w' => e = .returned (.int .u32 (encL op a b n)) ∧ Below w.heap.size w w' := by
  obtain ⟨K1, Hb, hs⟩ := cells1 w (instA op a b n) 69
  have i0 := (K1.cell 0).trans (show _ = some (Value.int .i64 op) from rfl)
  have i1 := (K1.cell 1).trans (show _ = some (Value.int .i64 a) from rfl)
  have i2 := (K1.cell 2).trans (show _ = some (Value.int .i64 b) from rfl)
  have i3 := (K1.cell 3).trans (show _ = some (Value.int .i64 n) from rfl)
  obtain ⟨⟨o1, o2⟩, ⟨a1, a2⟩, ⟨b1, b2⟩, ⟨n1, n2⟩⟩ := may_bounds h
  clear h
  have HM : ∀ x : Int, x = encL op a b n → Ending.returned (.int .u32 x) = .returned (.int .u32 (encL op a b n)) := by rintro x rfl; rfl
  by_cases hn : n < 0
  all_goals
    go_enter Tryz.func82, Tryz.ntmps82
    go_wp2
    go_ret
    exact ⟨HM _ (by unfold encL; omega), Hb⟩
end Go.Proofs.YtbfmlmnhdogojaaGreatDoor
