/- The document's functions on sets and tables: Bit, Join, Has, New: contracts. -/
import Derived.Test.YtbleilbphadehaaDoorNd
namespace Go.Proofs.YtbleilbphadehaaDoor
open Go.RowKit Go.Shelf

set_option maxHeartbeats 1000000 in
theorem rBit {a n : Nat} (ha : a < 4294967296) (hn : n ≤ 32) (w : World) : Calls Tryd.prog 30 #[.int .u32 a, .int .i64 n] w fun e w' => e = .returned (.bool (a.testBit n)) ∧ w' = w := by
  go_enter Tryd.func30, Tryd.ntmps30
  go_wp2
  go_loop [0, 5] (fun s i => ∃ k : Nat, k ≤ n ∧ s = .int .u32 ((a / 2 ^ k : Nat) : Int) ∧ i = .int .i64 k) (fun _ i => n - (intOf i).toNat)
  case atStart => exact ⟨0, Nat.zero_le _, by simp, rfl⟩
  case round =>
    obtain ⟨k, hk, rfl, rfl⟩ := hrel
    have hq : a / 2 ^ k ≤ a := Nat.div_le_self _ _
    have H1 := Lib.hid (half_pow a k)
    have H2 := Lib.hid (bit_test a k)
    generalize a / 2 ^ k = q at *
    by_cases hlt : k < n
    · go_wp2
      go_round
      case rel => exact ⟨k + 1, by omega, by rw [← H1.out]; simp, by go_num⟩
      case measure => simp [intOf]; omega
    · obtain rfl : k = n := by omega
      go_wp2
      go_ret
      refine ⟨ret_bool ?_, rfl⟩
      rw [← H2.out]
      by_cases h : q % 2 = 1
      · have : (q : Int) % 2 = 1 := by omega
        simp [h, this]
      · have : ¬ (q : Int) % 2 = 1 := by omega
        simp [h, this]
set_option maxHeartbeats 1000000 in
theorem rJoin {a b : Nat} (ha : a < 65536) (hb : b < 65536) (w : World) : Calls Tryd.prog 18 #[.int .u32 a, .int .u32 b] w fun e w' => e = .returned (.int .u32 ((a ||| b : Nat) : Int)) ∧ w' = w := by
  have hab := or_lt16 ha hb
  go_enter Tryd.func18, Tryd.ntmps18
  go_wp2
  go_loop [5, 6, 7] (fun o p i => ∃ k : Nat, k ≤ 16 ∧ o = .int .u32 (((a ||| b) % 2 ^ k : Nat) : Int) ∧ p = .int .u32 ((2 ^ k : Nat) : Int) ∧ i = .int .i64 k) (fun _ _ i => 16 - (intOf i).toNat)
  case atStart => exact ⟨0, Nat.zero_le _, by simp [Nat.mod_one], rfl, rfl⟩
  case round =>
    obtain ⟨k, hk, rfl, rfl, rfl⟩ := hrel
    have hm : (a ||| b) % 2 ^ k ≤ a ||| b := Nat.mod_le _ _
    have hp : 2 ^ k ≤ 65536 := Nat.pow_le_pow_right (n := 2) (by decide) hk
    have hsum := mod_next (a ||| b) k
    have hsl : (a ||| b) % 2 ^ (k + 1) ≤ a ||| b := Nat.mod_le _ _
    have hpw : 2 ^ (k + 1) = 2 ^ k * 2 := Nat.pow_succ ..
    rw [Nat.testBit_or] at hsum
    by_cases hlt : k < 16
    · cases h1 : a.testBit k
      · cases h2 : b.testBit k
        · rw [h1, h2] at hsum
          have B1 := rBit (a := a) (n := k) (by omega) (by omega) w
          have B2 := rBit (a := b) (n := k) (by omega) (by omega) w
          rw [h1] at B1
          rw [h2] at B2
          have HS := Lib.hid hsum
          have HP := Lib.hid hpw
          clear hsum hpw h1 h2 hsl
          generalize (a ||| b) % 2 ^ k = q at *
          generalize 2 ^ k = p at *
          go_wp2_with fail
          refine B1.mono ?_
          rintro e w' ⟨rfl, rfl⟩
          go_wp2_with fail
          refine B2.mono ?_
          rintro e w' ⟨rfl, rfl⟩
          go_wp2
          go_round
          case rel => exact ⟨k + 1, by omega, by rw [HS.out]; simp, by rw [HP.out]; simp, by go_num⟩
          case measure => simp [intOf]; omega
        · rw [h1, h2] at hsum
          have B1 := rBit (a := a) (n := k) (by omega) (by omega) w
          have B2 := rBit (a := b) (n := k) (by omega) (by omega) w
          rw [h1] at B1
          rw [h2] at B2
          simp only [Bool.false_or, if_true] at hsum
          rw [hsum] at hsl
          have HS := Lib.hid hsum
          have HP := Lib.hid hpw
          clear hsum hpw h1 h2
          generalize (a ||| b) % 2 ^ k = q at *
          generalize 2 ^ k = p at *
          go_wp2_with fail
          refine B1.mono ?_
          rintro e w' ⟨rfl, rfl⟩
          go_wp2_with fail
          refine B2.mono ?_
          rintro e w' ⟨rfl, rfl⟩
          go_wp2
          go_round
          case rel => exact ⟨k + 1, by omega, by rw [HS.out]; simp, by rw [HP.out]; simp, by go_num⟩
          case measure => simp [intOf]; omega
      · rw [h1] at hsum
        have B1 := rBit (a := a) (n := k) (by omega) (by omega) w
        rw [h1] at B1
        simp only [Bool.true_or, if_true] at hsum
        rw [hsum] at hsl
        have HS := Lib.hid hsum
        have HP := Lib.hid hpw
        clear hsum hpw h1
        generalize (a ||| b) % 2 ^ k = q at *
        generalize 2 ^ k = p at *
        go_wp2_with fail
        refine B1.mono ?_
        rintro e w' ⟨rfl, rfl⟩
        go_wp2
        go_round
        case rel => exact ⟨k + 1, by omega, by rw [HS.out]; simp, by rw [HP.out]; simp, by go_num⟩
        case measure => simp [intOf]; omega
    · obtain rfl : k = 16 := by omega
      clear hsum hsl hpw hp
      have HQ := Lib.hid (show (a ||| b) % 2 ^ 16 = a ||| b from Nat.mod_eq_of_lt hab)
      generalize (a ||| b) % 2 ^ 16 = q at *
      go_wp2
      go_ret
      exact ⟨ret_int (by rw [HQ.out]), rfl⟩
/-- What Has of the document tells. -/
def hasR (L : List Int) (x : Int) : Int := match idxL x L 0 with | some n => n | none => -1
theorem idx_step (x : Int) {L : List Int} {k : Nat} {y : Int} (h : L[k]? = some y) : idxL x (L.drop k) k = if x = y then some k else idxL x (L.drop (k + 1)) (k + 1) := by
  have hk := (List.getElem?_eq_some_iff.1 h).1
  rw [List.drop_eq_getElem_cons hk]
  have : L[k] = y := by rw [List.getElem?_eq_getElem hk] at h; exact Option.some.inj h
  rw [this]; rfl
set_option maxHeartbeats 1000000 in
theorem rHas {W : World} {A : Option Addr} {cap : Nat} {most : Int} {L : List Int} (hr : Rd W W.heap.size .u32 A L) (hL : L.length ≤ 65536) (x : Int) : Calls Tryd.prog 36 #[.agg #[.int .i64 most, .slice A L.length cap], .int .u32 x] W fun e w' => e = .returned (.int .i64 (hasR L x)) ∧ Below W.heap.size W w' := by
  obtain ⟨k1, kb, ks⟩ := cells1 W #[.int .i64 most, .slice A L.length cap] 51
  have r2 := hr.below kb (Nat.le_refl _)
  have g1 := (k1.cell 1).trans (show _ = some (Value.slice A L.length cap) from rfl)
  have HB := Lib.hid kb
  clear hr kb ks k1
  go_enter Tryd.func36, Tryd.ntmps36
  go_wp2
  generalize W.alloc _ = W2 at *
  go_loop [5] (fun i => ∃ k : Nat, k ≤ L.length ∧ i = .int .i64 k ∧ Hid (idxL x L 0 = idxL x (L.drop k) k)) (fun i => L.length - (intOf i).toNat)
  case atStart => exact ⟨0, Nat.zero_le _, rfl, Lib.hid (by simp)⟩
  case round =>
    obtain ⟨k, hk, rfl, hi⟩ := hrel
    by_cases hlt : k < L.length
    · obtain ⟨y, hy⟩ : ∃ y, L[k]? = some y := ⟨_, List.getElem?_eq_getElem hlt⟩
      obtain ⟨g, off, rfl, hg⟩ := r2.some_ (by omega)
      have cx := r2.cell g off rfl k y hy
      have HS := Lib.hid (idx_step x hy)
      clear hy
      by_cases hxy : x = y
      · have hq : (y == x) = true := by simp [hxy]
        have HXY := Lib.hid hxy
        clear hxy
        go_wp2
        go_ret
        refine ⟨ret_int ?_, HB.out⟩
        unfold hasR
        rw [hi.out, HS.out, if_pos HXY.out]
      · have hq : (y == x) = false := by simp; exact fun e => hxy e.symm
        have HXY := Lib.hid hxy
        clear hxy
        go_wp2
        go_round
        case rel => exact ⟨k + 1, by omega, by go_num, Lib.hid (by rw [hi.out, HS.out, if_neg HXY.out])⟩
        case measure => simp [intOf]; omega
    · obtain rfl : k = L.length := by omega
      go_wp2
      go_ret
      refine ⟨ret_int ?_, HB.out⟩
      unfold hasR
      rw [hi.out, List.drop_length]; rfl
end Go.Proofs.YtbleilbphadehaaDoor
