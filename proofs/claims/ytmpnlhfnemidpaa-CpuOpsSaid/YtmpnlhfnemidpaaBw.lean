/- The document's bitwise: and, or, xor by digits. -/
import Derived.Test.YtmpnlhfnemidpaaBase
import Derived.BigRegion
import Derived.RegionTactic
import Derived.LoopTactic
import Derived.Deep.DeepCutAuto
import Derived.Test.YtmpnlhfnemidpaaMk
import Derived.Test.YtmpnlhfnemidpaaDn
import Derived.Test.YtmpnlhfnemidpaaPl5
namespace Go.Proofs.Ytmpnlhfnemidpaa
open Go.RowKit Go.Shelf
def bwN (op : Int) (a b : Nat) : Nat := if op = 7 then a &&& b else if op = 8 then a ||| b else a ^^^ b
theorem ofInt32 (a : Nat) (h : a < 4294967296) : (BitVec.ofInt 32 (a : Int)).toNat = a := by
  rw [BitVec.ofInt_natCast, BitVec.toNat_ofNat]; exact Nat.mod_eq_of_lt (by omega)
theorem bits_and32 (a b : Nat) (ha : a < 4294967296) (hb : b < 4294967296) : bits .and .u32 (a : Int) (b : Int) = ((a &&& b : Nat) : Int) := by
  have hx : a &&& b < 2 ^ 32 := Nat.and_lt_two_pow _ (by omega)
  show IntKind.u32.wrap ((BitVec.ofInt 32 (a : Int) &&& BitVec.ofInt 32 (b : Int)).toNat : Int) = _
  rw [BitVec.toNat_and, ofInt32 a ha, ofInt32 b hb, IntKind.wrap_u32]
  omega
theorem bits_or32 (a b : Nat) (ha : a < 4294967296) (hb : b < 4294967296) : bits .or .u32 (a : Int) (b : Int) = ((a ||| b : Nat) : Int) := by
  have hx : a ||| b < 2 ^ 32 := Nat.or_lt_two_pow (by omega) (by omega)
  show IntKind.u32.wrap ((BitVec.ofInt 32 (a : Int) ||| BitVec.ofInt 32 (b : Int)).toNat : Int) = _
  rw [BitVec.toNat_or, ofInt32 a ha, ofInt32 b hb, IntKind.wrap_u32]
  omega
theorem bits_xor32 (a b : Nat) (ha : a < 4294967296) (hb : b < 4294967296) : bits .xor .u32 (a : Int) (b : Int) = ((a ^^^ b : Nat) : Int) := by
  have hx : a ^^^ b < 2 ^ 32 := Nat.xor_lt_two_pow (by omega) (by omega)
  show IntKind.u32.wrap ((BitVec.ofInt 32 (a : Int) ^^^ BitVec.ofInt 32 (b : Int)).toNat : Int) = _
  rw [BitVec.toNat_xor, ofInt32 a ha, ofInt32 b hb, IntKind.wrap_u32]
  omega
theorem digit (x i : Nat) : x / 2 ^ i % 2 = if x.testBit i then 1 else 0 := by
  rw [Nat.testBit_eq_decide_div_mod_eq]
  by_cases h : x / 2 ^ i % 2 = 1
  · simp [h]
  · simp [h]; omega
theorem bw_digit {op : Int} (hop : op = 7 ∨ op = 8 ∨ op = 9) (a b i : Nat) : bwN op a b / 2 ^ i % 2 =
    if (op = 7 ∧ a / 2 ^ i % 2 + b / 2 ^ i % 2 = 2) ∨ (op = 8 ∧ a / 2 ^ i % 2 + b / 2 ^ i % 2 > 0) ∨ (op = 9 ∧ a / 2 ^ i % 2 ≠ b / 2 ^ i % 2) then 1 else 0 := by
  rw [digit, digit, digit]
  unfold bwN
  rcases hop with rfl | rfl | rfl
  · rw [if_pos rfl, Nat.testBit_and]
    cases a.testBit i <;> cases b.testBit i <;> simp
  · simp only [show ¬ ((8 : Int) = 7) by decide, if_false, if_true, Nat.testBit_or]
    cases a.testBit i <;> cases b.testBit i <;> simp
  · simp only [show ¬ ((9 : Int) = 7) by decide, show ¬ ((9 : Int) = 8) by decide, if_false, Nat.testBit_xor]
    cases a.testBit i <;> cases b.testBit i <;> simp
theorem mod_step (x i : Nat) : x % 2 ^ (i + 1) = x % 2 ^ i + 2 ^ i * (x / 2 ^ i % 2) := by
  rw [Nat.pow_succ, Nat.mod_mul]
theorem bwN_lt {op : Int} {a b : Nat} (ha : a < 4294967296) (hb : b < 4294967296) : bwN op a b < 2 ^ 32 := by
  unfold bwN
  split
  · exact Nat.and_lt_two_pow _ (by omega)
  · split
    · exact Nat.or_lt_two_pow (by omega) (by omega)
    · exact Nat.xor_lt_two_pow (by omega) (by omega)
def pw (i : Nat) : Nat := 2 ^ (if i < 32 then i else 31)
theorem pw_lt (i : Nat) : pw i < 4294967296 := by
  have h : (if i < 32 then i else 31) ≤ 31 := by split <;> omega
  exact Nat.lt_of_le_of_lt (Nat.pow_le_pow_right (by decide) h) (by decide)
theorem pw_pos (i : Nat) : 0 < pw i := Nat.pow_pos (by decide)
set_option maxRecDepth 100000 in
set_option maxHeartbeats 1000000 in
theorem rBitwise {op : Int} (hop : op = 7 ∨ op = 8 ∨ op = 9) {a b : Nat} (ha : a < 4294967296) (hb : b < 4294967296) (w : World) : Calls Try.prog 77 #[.int .u32 a, .int .u32 b, .int .i64 op] w fun e w' => e = .returned (.int .u32 (bwN op a b)) ∧ Below w.heap.size w w' := by
  go_enter Try.func77, Try.ntmps77
  go_wp2_with fail
  go_loopw [7, 8, 9] (fun x p i wr => ∃ k : Nat, k ≤ 32 ∧ i = .int .i64 k ∧ p = .int .u32 (pw k : Nat) ∧ x = .int .u32 (bwN op a b % 2 ^ k : Nat) ∧ Below w.heap.size w wr) (fun _ _ i _ => 32 - (intOf i).toNat)
  case atStart => exact ⟨0, by omega, rfl, rfl, by simp [Nat.mod_one], Below.refl _ _⟩
  case round =>
    obtain ⟨k, hk, rfl, rfl, rfl, hbl⟩ := hrel
    have hp0 := pw_pos k
    have hp1 := pw_lt k
    by_cases hlt : k < 32
    · go_upto_region 6 with (fail)
      have hpz : ¬ ((pw k : Nat) : Int) = 0 := by omega
      have hpz' : ¬ pw k = 0 := by omega
      have hda : a / pw k < 4294967296 := Nat.lt_of_le_of_lt (Nat.div_le_self _ _) ha
      have hdb : b / pw k < 4294967296 := Nat.lt_of_le_of_lt (Nat.div_le_self _ _) hb
      go_region
      have e10 : ((a : Int) / ((pw k : Nat) : Int) % 4294967296 % 2) = ((a / pw k % 2 : Nat) : Int) := by
        rw [← Int.natCast_ediv]; omega
      have e11 : ((b : Int) / ((pw k : Nat) : Int) % 4294967296 % 2) = ((b / pw k % 2 : Nat) : Int) := by
        rw [← Int.natCast_ediv]; omega
      rw [e10, e11]
      have hpk : pw k = 2 ^ k := by unfold pw; rw [if_pos hlt]
      have hst : bwN op a b % 2 ^ (k + 1) = bwN op a b % 2 ^ k + pw k * (if (op = 7 ∧ a / pw k % 2 + b / pw k % 2 = 2) ∨ (op = 8 ∧ a / pw k % 2 + b / pw k % 2 > 0) ∨ (op = 9 ∧ a / pw k % 2 ≠ b / pw k % 2) then 1 else 0) := by
        rw [mod_step, bw_digit hop, hpk]
      have hmp : bwN op a b % 2 ^ k < pw k := by rw [hpk]; exact Nat.mod_lt _ (Nat.pow_pos (by decide))
      have hq : pw (k + 1) = if k < 31 then pw k * 2 else pw k := by
        by_cases h : k < 31
        · rw [if_pos h, hpk]; unfold pw; rw [if_pos (by omega), Nat.pow_succ]
        · obtain rfl : k = 31 := by omega
          rfl
      have hp31 : pw k ≤ 2147483648 := by
        rw [hpk]; exact Nat.le_trans (Nat.pow_le_pow_right (by decide) (show k ≤ 31 by omega)) (by decide)
      have HP := Lib.hid (show k < 31 → pw k ≤ 1073741824 from fun h => by
        rw [hpk]; exact Nat.le_trans (Nat.pow_le_pow_right (by decide) (show k ≤ 30 by omega)) (by decide))
      have HST := Lib.hid hst
      have HQ := Lib.hid hq
      have HB := Lib.hid (Below.drew hbl)
      have d1 : a / pw k % 2 = 0 ∨ a / pw k % 2 = 1 := by omega
      have d2 : b / pw k % 2 = 0 ∨ b / pw k % 2 = 1 := by omega
      clear hst hq hbl e10 e11 hda hdb hp1 hpk hpz hpz'
      generalize hm : bwN op a b % 2 ^ k = m at *
      clear hm
      generalize a / pw k % 2 = da at *
      generalize b / pw k % 2 = db at *
      generalize pw k = p at *
      generalize wr.drew = W at *
      rcases hop with rfl | rfl | rfl <;> rcases d1 with rfl | rfl <;> rcases d2 with rfl | rfl <;> by_cases h31 : k < 31
      all_goals
        go_wp2_with fail
        go_round
        case measure => simp [intOf]; omega
        case rel =>
          have h1 := HST.out
          have h2 := HQ.out
          have h3 := HP.out
          simp at h1
          simp [h31] at h2
          refine ⟨k + 1, by omega, by go_num, ?_, ?_, HB.out⟩
          · congr 1; omega
          · congr 1; omega
    · go_wp2_with fail
      go_ret
      obtain rfl : k = 32 := by omega
      rw [Nat.mod_eq_of_lt (bwN_lt ha hb)]
      exact ⟨rfl, hbl⟩
end Go.Proofs.Ytmpnlhfnemidpaa
namespace Go.Proofs.Ytmpnlhfnemidpaa
open Go.RowKit Go.Shelf
theorem rBit {op : Int} (hop : op = 7 ∨ op = 8 ∨ op = 9) {a b : Int} (n : Int) (ra : u32? a) (rb : u32? b) (w : World) : Calls Try.prog 77 #[.int .u32 a, .int .u32 b, .int .i64 op] w fun e w' => e = .returned (.int .u32 (makesL op a b n)) ∧ Below w.heap.size w w' := by
  obtain ⟨a0, a1⟩ := ra
  obtain ⟨b0, b1⟩ := rb
  obtain ⟨x, rfl⟩ : ∃ x : Nat, a = x := ⟨_, (Int.toNat_of_nonneg a0).symm⟩
  obtain ⟨y, rfl⟩ : ∃ x : Nat, b = x := ⟨_, (Int.toNat_of_nonneg b0).symm⟩
  have h := rBitwise hop (show x < 4294967296 by omega) (show y < 4294967296 by omega) w
  have he : ((bwN op x y : Nat) : Int) = makesL op x y n := by
    rcases hop with rfl | rfl | rfl
    · exact (bits_and32 x y (by omega) (by omega)).symm
    · exact (bits_or32 x y (by omega) (by omega)).symm
    · exact (bits_xor32 x y (by omega) (by omega)).symm
  rwa [he] at h
set_option maxRecDepth 100000 in
theorem rMakes2 {a b n : Int} (ra : u32? a) (rb : u32? b) (rn : u32? n) (w : World) : Calls Try.prog 63 #[.int .i64 2, .int .u32 a, .int .u32 b, .int .u32 n] w fun e w' => e = .returned (.int .u32 (makesL 2 a b n)) ∧ Below w.heap.size w w' := by
  obtain ⟨a0, a1⟩ := ra
  obtain ⟨b0, b1⟩ := rb
  obtain ⟨n0, n1⟩ := rn
  go_enter Try.func63, Try.ntmps63
  go_wp2_with (go_at_call 62; refine (rMul _ _ _ (by omega) (by omega) (by omega) (by omega)).mono ?_; rintro e w' ⟨rfl, rfl⟩)
  go_ret
  exact ⟨rfl, Below.refl _ _⟩
set_option maxRecDepth 100000 in
theorem rMakes3 {a b n : Int} (ra : u32? a) (rb : u32? b) (rn : u32? n) (w : World) : Calls Try.prog 63 #[.int .i64 3, .int .u32 a, .int .u32 b, .int .u32 n] w fun e w' => e = .returned (.int .u32 (makesL 3 a b n)) ∧ Below w.heap.size w w' := by
  obtain ⟨a0, a1⟩ := ra
  obtain ⟨b0, b1⟩ := rb
  obtain ⟨n0, n1⟩ := rn
  go_enter Try.func63, Try.ntmps63
  go_wp2_with (go_at_call 58; refine (rAdd _ _ _ (by omega) (by omega) (by omega) (by omega)).mono ?_; rintro e w' ⟨rfl, rfl⟩)
  go_ret
  exact ⟨rfl, Below.refl _ _⟩
set_option maxRecDepth 100000 in
theorem rMakes4 {a b n : Int} (ra : u32? a) (rb : u32? b) (rn : u32? n) (w : World) : Calls Try.prog 63 #[.int .i64 4, .int .u32 a, .int .u32 b, .int .u32 n] w fun e w' => e = .returned (.int .u32 (makesL 4 a b n)) ∧ Below w.heap.size w w' := by
  obtain ⟨a0, a1⟩ := ra
  obtain ⟨b0, b1⟩ := rb
  obtain ⟨n0, n1⟩ := rn
  go_enter Try.func63, Try.ntmps63
  go_wp2_with (go_at_call 58; refine (rAdd _ _ _ (by omega) (by omega) (by omega) (by omega)).mono ?_; rintro e w' ⟨rfl, rfl⟩)
  go_ret
  exact ⟨rfl, Below.refl _ _⟩
set_option maxRecDepth 100000 in
theorem rMakes5 {a b n : Int} (ra : u32? a) (rb : u32? b) (rn : u32? n) (w : World) : Calls Try.prog 63 #[.int .i64 5, .int .u32 a, .int .u32 b, .int .u32 n] w fun e w' => e = .returned (.int .u32 (makesL 5 a b n)) ∧ Below w.heap.size w w' := by
  obtain ⟨a0, a1⟩ := ra
  obtain ⟨b0, b1⟩ := rb
  obtain ⟨n0, n1⟩ := rn
  go_enter Try.func63, Try.ntmps63
  go_wp2_with (go_at_call 76; refine (rSub _ _ _ (by omega) (by omega) (by omega) (by omega)).mono ?_; rintro e w' ⟨rfl, rfl⟩)
  go_ret
  exact ⟨rfl, Below.refl _ _⟩
set_option maxRecDepth 100000 in
theorem rMakes6 {a b n : Int} (ra : u32? a) (rb : u32? b) (rn : u32? n) (w : World) : Calls Try.prog 63 #[.int .i64 6, .int .u32 a, .int .u32 b, .int .u32 n] w fun e w' => e = .returned (.int .u32 (makesL 6 a b n)) ∧ Below w.heap.size w w' := by
  obtain ⟨a0, a1⟩ := ra
  obtain ⟨b0, b1⟩ := rb
  obtain ⟨n0, n1⟩ := rn
  go_enter Try.func63, Try.ntmps63
  go_wp2_with (go_at_call 62; refine (rMul _ _ _ (by omega) (by omega) (by omega) (by omega)).mono ?_; rintro e w' ⟨rfl, rfl⟩)
  go_ret
  exact ⟨rfl, Below.refl _ _⟩
set_option maxRecDepth 100000 in
theorem rMakes7 {a b n : Int} (ra : u32? a) (rb : u32? b) (rn : u32? n) (w : World) : Calls Try.prog 63 #[.int .i64 7, .int .u32 a, .int .u32 b, .int .u32 n] w fun e w' => e = .returned (.int .u32 (makesL 7 a b n)) ∧ Below w.heap.size w w' := by
  obtain ⟨a0, a1⟩ := ra
  obtain ⟨b0, b1⟩ := rb
  obtain ⟨n0, n1⟩ := rn
  go_enter Try.func63, Try.ntmps63
  go_wp2_with (go_at_call 77; refine (rBit (by decide) n ⟨a0, a1⟩ ⟨b0, b1⟩ _).mono ?_; rintro e w' ⟨rfl, hb⟩)
  go_ret
  exact ⟨rfl, hb⟩
set_option maxRecDepth 100000 in
theorem rMakes8 {a b n : Int} (ra : u32? a) (rb : u32? b) (rn : u32? n) (w : World) : Calls Try.prog 63 #[.int .i64 8, .int .u32 a, .int .u32 b, .int .u32 n] w fun e w' => e = .returned (.int .u32 (makesL 8 a b n)) ∧ Below w.heap.size w w' := by
  obtain ⟨a0, a1⟩ := ra
  obtain ⟨b0, b1⟩ := rb
  obtain ⟨n0, n1⟩ := rn
  go_enter Try.func63, Try.ntmps63
  go_wp2_with (go_at_call 77; refine (rBit (by decide) n ⟨a0, a1⟩ ⟨b0, b1⟩ _).mono ?_; rintro e w' ⟨rfl, hb⟩)
  go_ret
  exact ⟨rfl, hb⟩
set_option maxRecDepth 100000 in
theorem rMakes9 {a b n : Int} (ra : u32? a) (rb : u32? b) (rn : u32? n) (w : World) : Calls Try.prog 63 #[.int .i64 9, .int .u32 a, .int .u32 b, .int .u32 n] w fun e w' => e = .returned (.int .u32 (makesL 9 a b n)) ∧ Below w.heap.size w w' := by
  obtain ⟨a0, a1⟩ := ra
  obtain ⟨b0, b1⟩ := rb
  obtain ⟨n0, n1⟩ := rn
  go_enter Try.func63, Try.ntmps63
  go_wp2_with (go_at_call 77; refine (rBit (by decide) n ⟨a0, a1⟩ ⟨b0, b1⟩ _).mono ?_; rintro e w' ⟨rfl, hb⟩)
  go_ret
  exact ⟨rfl, hb⟩
set_option maxRecDepth 100000 in
theorem rMakes10 {a b n : Int} (ra : u32? a) (rb : u32? b) (rn : u32? n) (w : World) : Calls Try.prog 63 #[.int .i64 10, .int .u32 a, .int .u32 b, .int .u32 n] w fun e w' => e = .returned (.int .u32 (makesL 10 a b n)) ∧ Below w.heap.size w w' := by
  obtain ⟨a0, a1⟩ := ra
  obtain ⟨b0, b1⟩ := rb
  obtain ⟨n0, n1⟩ := rn
  go_enter Try.func63, Try.ntmps63
  go_wp2_with (go_at_call 78; refine (rShl _ _ _ (by omega) (by omega) (by omega) (by omega)).mono ?_; rintro e w' ⟨rfl, rfl⟩)
  go_ret
  exact ⟨(by simp only [makesL]; simp [shlZ, Int.emod_emod_of_dvd]), Below.refl _ _⟩
set_option maxRecDepth 100000 in
theorem rMakes11 {a b n : Int} (ra : u32? a) (rb : u32? b) (rn : u32? n) (w : World) : Calls Try.prog 63 #[.int .i64 11, .int .u32 a, .int .u32 b, .int .u32 n] w fun e w' => e = .returned (.int .u32 (makesL 11 a b n)) ∧ Below w.heap.size w w' := by
  obtain ⟨a0, a1⟩ := ra
  obtain ⟨b0, b1⟩ := rb
  obtain ⟨n0, n1⟩ := rn
  go_enter Try.func63, Try.ntmps63
  go_wp2_with (go_at_call 79; refine (rShr _ _ _ (by omega) (by omega) (by omega) (by omega)).mono ?_; rintro e w' ⟨rfl, rfl⟩)
  go_ret
  exact ⟨(by simp only [makesL]; simp [shrZ, Int.emod_emod_of_dvd]), Below.refl _ _⟩
set_option maxRecDepth 100000 in
theorem rMakes12 {a b n : Int} (ra : u32? a) (rb : u32? b) (w : World) : Calls Try.prog 63 #[.int .i64 12, .int .u32 a, .int .u32 b, .int .u32 n] w fun e w' => e = .returned (.int .u32 (makesL 12 a b n)) ∧ Below w.heap.size w w' := by
  obtain ⟨a0, a1⟩ := ra
  obtain ⟨b0, b1⟩ := rb
  go_enter Try.func63, Try.ntmps63
  by_cases h : wrap32 a < wrap32 b
  all_goals
    go_wp2_with (go_at_call 61; refine (rSign _ _ (by omega) (by omega)).mono ?_; rintro e w' ⟨rfl, rfl⟩)
    go_ret
    refine ⟨?_, Below.refl _ _⟩
    simp [makesL, h]
theorem rMakes {op a b n : Int} (hop : 2 ≤ op ∧ op ≤ 12) (ra : u32? a) (rb : u32? b) (rn : u32? n) (w : World) : Calls Try.prog 63 #[.int .i64 op, .int .u32 a, .int .u32 b, .int .u32 n] w fun e w' => e = .returned (.int .u32 (makesL op a b n)) ∧ Below w.heap.size w w' := by
  have hc : op = 2 ∨ op = 3 ∨ op = 4 ∨ op = 5 ∨ op = 6 ∨ op = 7 ∨ op = 8 ∨ op = 9 ∨ op = 10 ∨ op = 11 ∨ op = 12 := by omega
  rcases hc with rfl | rfl | rfl | rfl | rfl | rfl | rfl | rfl | rfl | rfl | rfl
  · exact rMakes2 ra rb rn w
  · exact rMakes3 ra rb rn w
  · exact rMakes4 ra rb rn w
  · exact rMakes5 ra rb rn w
  · exact rMakes6 ra rb rn w
  · exact rMakes7 ra rb rn w
  · exact rMakes8 ra rb rn w
  · exact rMakes9 ra rb rn w
  · exact rMakes10 ra rb rn w
  · exact rMakes11 ra rb rn w
  · exact rMakes12 ra rb w
end Go.Proofs.Ytmpnlhfnemidpaa
namespace Go.Proofs.Ytmpnlhfnemidpaa
open Go.RowKit Go.Shelf
theorem immL_u32 (n : Int) : u32? (immL n) := by unfold u32? immL; omega
theorem mod_u32 (n : Int) : u32? (n % 4294967296) := by unfold u32?; omega
theorem DnAt.alloc {w W : World} {Bi Bo : Nat} {s o : St} {op ka kb n : Int} (h : DnAt w W Bi Bo s o op ka kb n) (ob : Obj) : DnAt w (W.alloc ob) Bi Bo s o op ka kb n := h.below ((Below.refl _ W).alloc (Nat.le_refl _) ob)
end Go.Proofs.Ytmpnlhfnemidpaa
