/- The isa: Decode, and the document's May and Decode: contracts. -/
import Derived.Test.YtbfmlmnhdogojaaGreatDoorBase
namespace Go.Proofs.YtbfmlmnhdogojaaGreatDoor
open Go.RowKit Go.Shelf

/-! ### Decode -/
def dOp (w : Int) : Int := w / 16777216
def dA (w : Int) : Int := w / 1048576 % 16
def dB (w : Int) : Int := w / 65536 % 16
def dN (w : Int) : Int := if 32767 < w % 65536 then w % 65536 - 65536 else w % 65536
def okL (w : Int) : Bool := mayL (dOp w) (dA w) (dB w) (dN w)
theorem wrap16 (m : Int) (h0 : 0 ≤ m) (h1 : m < 65536) : IntKind.i16.wrap m = if 32767 < m then m - 65536 else m := by
  show (if (true && decide (m % 65536 ≥ 32768)) = true then m % 65536 - 65536 else m % 65536) = _
  rw [Int.emod_eq_of_lt h0 h1]
  by_cases h : m ≥ 32768
  · simp only [h, decide_true, Bool.and_self, if_true]; rw [if_pos (by omega)]
  · simp only [h, decide_false, Bool.and_false, Bool.false_eq_true, if_false]; rw [if_neg (by omega)]
theorem and15 (n : Int) (h0 : 0 ≤ n) (h1 : n < 4294967296) : bits .and .u32 n 15 = n % 16 :=
  bits_mask .u32 32 (by decide) (fun n h h' => by rw [IntKind.wrap_u32]; omega) 4 (by decide) n h0 h1
theorem and65535 (n : Int) (h0 : 0 ≤ n) (h1 : n < 4294967296) : bits .and .u32 n 65535 = n % 65536 :=
  bits_mask .u32 32 (by decide) (fun n h h' => by rw [IntKind.wrap_u32]; omega) 16 (by decide) n h0 h1
set_option maxRecDepth 100000 in
theorem cDecode_out {x : Int} (hok : okL x = false) (h0 : 0 ≤ x) (h1 : x < 4294967296) (w : World) : Calls Tryz.prog 34 #[.int .u32 x] w fun e w' =>
    e = .returned (.tuple #[.agg (instA 0 0 0 0), .bool false]) ∧ Below w.heap.size w w' := by
  have b1 := and15 (x / 1048576) (by omega) (by omega)
  have b2 := and15 (x / 65536) (by omega) (by omega)
  have b3 := and65535 x h0 h1
  have b4 : IntKind.i16.wrap (x % 65536) = dN x := wrap16 _ (by omega) (by omega)
  have hn : -32768 ≤ dN x ∧ dN x ≤ 32767 := by unfold dN; split <;> omega
  have e1 := (show x / 16777216 = dOp x from rfl)
  have hlo : 0 ≤ dOp x ∧ dOp x < 256 := by unfold dOp; omega
  have e2 := (show x / 1048576 % 16 = dA x from rfl)
  have hla : 0 ≤ dA x ∧ dA x < 16 := by unfold dA; omega
  have e3 := (show x / 65536 % 16 = dB x from rfl)
  have hlb : 0 ≤ dB x ∧ dB x < 16 := by unfold dB; omega
  obtain ⟨K1, K2, Hb, hs⟩ := cells2 w (instA 0 0 0 0) (instA (dOp x) (dA x) (dB x) (dN x)) 69 69
  have hi : (Tryz.prog.info? 69).map (·.size) = some 4 := by kernel_rfl
  unfold instA at K1 K2 Hb hs
  obtain ⟨W, eW⟩ : ∃ W, (w.alloc (.cells #[.int .i64 0, .int .i64 0, .int .i64 0, .int .i64 0] 69)).alloc (.cells #[.int .i64 (dOp x), .int .i64 (dA x), .int .i64 (dB x), .int .i64 (dN x)] 69) = W := ⟨_, rfl⟩
  rw [eW] at K1 K2 Hb hs
  have k0 := (K2.cell 0).trans (show _ = some (Value.int .i64 (dOp x)) from rfl)
  have k1 := (K2.cell 1).trans (show _ = some (Value.int .i64 (dA x)) from rfl)
  have k2 := (K2.cell 2).trans (show _ = some (Value.int .i64 (dB x)) from rfl)
  have k3 := (K2.cell 3).trans (show _ = some (Value.int .i64 (dN x)) from rfl)
  go_enter Tryz.func34, Tryz.ntmps34
  go_wp2_with fail
  clear eW e1 e2 e3 b1 b2 b3 b4 k0 k1 k2 k3
  refine (cMay _ _ _ _ W).mono ?_
  have HO : mayL (dOp x) (dA x) (dB x) (dN x) = false := hok
  rw [HO]
  rintro e W2 ⟨rfl, hb2⟩
  clear HO hok
  have B2 := Hb.trans (hb2.mono Hb.size)
  have K1 := K1.below hb2 K1.lt
  have K2 := K2.below hb2 K2.lt
  have K2' : W2.heap[w.heap.size + 1]? = some (.cells (instA (dOp x) (dA x) (dB x) (dN x)) 69 (0, 0)) := K2
  have T1 : W2.there w.heap.size 0 (instA (dOp x) (dA x) (dB x) (dN x)).size := K1.there
  have hi0 : (Tryz.prog.info? 69).map (·.size) = some (instA 0 0 0 0).size := hi
  have hi1 : (Tryz.prog.info? 69).map (·.size) = some (instA (dOp x) (dA x) (dB x) (dN x)).size := hi
  have ha0 : (instA 0 0 0 0).all (·.oneCell') = true := by simp [Value.oneCell']
  have ha1 : (instA (dOp x) (dA x) (dB x) (dN x)).all (·.oneCell') = true := by simp [Value.oneCell']
  have T0 : W2.there w.heap.size 0 (instA 0 0 0 0).size := K1.there
  have o5 : Cells _ _ _ (instA (dOp x) (dA x) (dB x) (dN x)) := K1.setAll [.int .i64 (dOp x), .int .i64 (dA x), .int .i64 (dB x), .int .i64 (dN x)] rfl
  have z5 : Cells _ _ _ (instA 0 0 0 0) := K1.setAll [.int .i64 0, .int .i64 0, .int .i64 0, .int .i64 0] rfl
  go_wp2_with (first
      | (with_reducible refine wpList_store_mid rfl 69 (.tmp 2) (.tmp 24) rfl w.heap.size 0 (instA 0 0 0 0) rfl rfl T0 hi0 ha0 ?_)
      | exact bodyPost_ret (res_row_tmp rfl _ _ w.heap.size 69 _ _ rfl z5 Tryz.underlying69 rfl hi) rfl ⟨rfl, below_setCells _ 0 B2 (Nat.le_refl _)⟩)
set_option maxRecDepth 100000 in
theorem cDecode_in {x : Int} (hok : okL x = true) (h0 : 0 ≤ x) (h1 : x < 4294967296) (w : World) : Calls Tryz.prog 34 #[.int .u32 x] w fun e w' =>
    e = .returned (.tuple #[.agg (instA (dOp x) (dA x) (dB x) (dN x)), .bool true]) ∧ Below w.heap.size w w' := by
  have b1 := and15 (x / 1048576) (by omega) (by omega)
  have b2 := and15 (x / 65536) (by omega) (by omega)
  have b3 := and65535 x h0 h1
  have b4 : IntKind.i16.wrap (x % 65536) = dN x := wrap16 _ (by omega) (by omega)
  have hn : -32768 ≤ dN x ∧ dN x ≤ 32767 := by unfold dN; split <;> omega
  have e1 := (show x / 16777216 = dOp x from rfl)
  have hlo : 0 ≤ dOp x ∧ dOp x < 256 := by unfold dOp; omega
  have e2 := (show x / 1048576 % 16 = dA x from rfl)
  have hla : 0 ≤ dA x ∧ dA x < 16 := by unfold dA; omega
  have e3 := (show x / 65536 % 16 = dB x from rfl)
  have hlb : 0 ≤ dB x ∧ dB x < 16 := by unfold dB; omega
  obtain ⟨K1, K2, Hb, hs⟩ := cells2 w (instA 0 0 0 0) (instA (dOp x) (dA x) (dB x) (dN x)) 69 69
  have hi : (Tryz.prog.info? 69).map (·.size) = some 4 := by kernel_rfl
  unfold instA at K1 K2 Hb hs
  obtain ⟨W, eW⟩ : ∃ W, (w.alloc (.cells #[.int .i64 0, .int .i64 0, .int .i64 0, .int .i64 0] 69)).alloc (.cells #[.int .i64 (dOp x), .int .i64 (dA x), .int .i64 (dB x), .int .i64 (dN x)] 69) = W := ⟨_, rfl⟩
  rw [eW] at K1 K2 Hb hs
  have k0 := (K2.cell 0).trans (show _ = some (Value.int .i64 (dOp x)) from rfl)
  have k1 := (K2.cell 1).trans (show _ = some (Value.int .i64 (dA x)) from rfl)
  have k2 := (K2.cell 2).trans (show _ = some (Value.int .i64 (dB x)) from rfl)
  have k3 := (K2.cell 3).trans (show _ = some (Value.int .i64 (dN x)) from rfl)
  go_enter Tryz.func34, Tryz.ntmps34
  go_wp2_with fail
  clear eW e1 e2 e3 b1 b2 b3 b4 k0 k1 k2 k3
  refine (cMay _ _ _ _ W).mono ?_
  have HO : mayL (dOp x) (dA x) (dB x) (dN x) = true := hok
  rw [HO]
  rintro e W2 ⟨rfl, hb2⟩
  clear HO hok
  have B2 := Hb.trans (hb2.mono Hb.size)
  have K1 := K1.below hb2 K1.lt
  have K2 := K2.below hb2 K2.lt
  have K2' : W2.heap[w.heap.size + 1]? = some (.cells (instA (dOp x) (dA x) (dB x) (dN x)) 69 (0, 0)) := K2
  have T1 : W2.there w.heap.size 0 (instA (dOp x) (dA x) (dB x) (dN x)).size := K1.there
  have hi0 : (Tryz.prog.info? 69).map (·.size) = some (instA 0 0 0 0).size := hi
  have hi1 : (Tryz.prog.info? 69).map (·.size) = some (instA (dOp x) (dA x) (dB x) (dN x)).size := hi
  have ha0 : (instA 0 0 0 0).all (·.oneCell') = true := by simp [Value.oneCell']
  have ha1 : (instA (dOp x) (dA x) (dB x) (dN x)).all (·.oneCell') = true := by simp [Value.oneCell']
  have T0 : W2.there w.heap.size 0 (instA 0 0 0 0).size := K1.there
  have o5 : Cells _ _ _ (instA (dOp x) (dA x) (dB x) (dN x)) := K1.setAll [.int .i64 (dOp x), .int .i64 (dA x), .int .i64 (dB x), .int .i64 (dN x)] rfl
  have z5 : Cells _ _ _ (instA 0 0 0 0) := K1.setAll [.int .i64 0, .int .i64 0, .int .i64 0, .int .i64 0] rfl
  go_wp2_with (first
      | (with_reducible refine wpList_load_row rfl 69 (.tmp 4) rfl (w.heap.size + 1) rfl 69 (instA (dOp x) (dA x) (dB x) (dN x)) (0, 0) _ K2' Tryz.underlying69 rfl hi1 ?_)
      | (with_reducible refine wpList_store_mid rfl 69 (.tmp 2) (.tmp 25) rfl w.heap.size 0 (instA (dOp x) (dA x) (dB x) (dN x)) rfl rfl T1 hi1 ha1 ?_)
      | exact bodyPost_ret (res_row_tmp rfl _ _ w.heap.size 69 _ _ rfl o5 Tryz.underlying69 rfl hi) rfl ⟨rfl, below_setCells _ 0 B2 (Nat.le_refl _)⟩)
end Go.Proofs.YtbfmlmnhdogojaaGreatDoor
namespace Go.Proofs.YtbfmlmnhdogojaaGreatDoor
open Go.RowKit Go.Shelf

theorem names_lit : ((.string ⟨#[]⟩ :: .string ⟨#[104, 97, 108, 116]⟩ :: .string ⟨#[108, 117, 105]⟩ :: .string ⟨#[97, 100, 100, 105]⟩ :: .string ⟨#[97, 100, 100]⟩ :: .string ⟨#[115, 117, 98]⟩ :: .string ⟨#[109, 117, 108]⟩ :: .string ⟨#[97, 110, 100]⟩ :: .string ⟨#[111, 114]⟩ :: .string ⟨#[120, 111, 114]⟩ :: .string ⟨#[115, 104, 108]⟩ :: .string ⟨#[115, 104, 114]⟩ :: .string ⟨#[115, 108, 116]⟩ :: .string ⟨#[108, 119]⟩ :: .string ⟨#[115, 119]⟩ :: .string ⟨#[108, 98]⟩ :: .string ⟨#[115, 98]⟩ :: .string ⟨#[98, 101, 113]⟩ :: .string ⟨#[98, 110, 101]⟩ :: .string ⟨#[98, 108, 116]⟩ :: .string ⟨#[106, 97, 108]⟩ :: .string ⟨#[106, 97, 108, 114]⟩ :: .string ⟨#[105, 110]⟩ :: .string ⟨#[111, 117, 116]⟩ :: .string ⟨#[99, 97, 108, 108]⟩ :: .string ⟨#[98, 97, 99, 107]⟩ :: .string ⟨#[103, 101, 116]⟩ :: .string ⟨#[115, 101, 116]⟩ :: .string ⟨#[102, 108, 117, 115, 104]⟩ :: [] : List Value).toArray) = (nameT.map Value.string).toArray := rfl
theorem rUses {op : Int} (h : 1 ≤ op ∧ op ≤ 28) (w : World) : Calls Tryz.prog 64 #[.int .i64 op] w fun e w' => e = .returned (.tuple #[.bool (hasU (usesL op) 1), .bool (hasU (usesL op) 2), .bool (hasU (usesL op) 4)]) ∧ w = w' := by
  have H : ∀ a b c : Bool, a = hasU (usesL op) 1 → b = hasU (usesL op) 2 → c = hasU (usesL op) 4 → Ending.returned (.tuple #[.bool a, .bool b, .bool c]) = .returned (.tuple #[.bool (hasU (usesL op) 1), .bool (hasU (usesL op) 2), .bool (hasU (usesL op) 4)]) := by
    rintro a b c rfl rfl rfl; rfl
  rcases cases28 h with rfl | rfl | rfl | rfl | rfl | rfl | rfl | rfl | rfl | rfl | rfl | rfl | rfl | rfl | rfl | rfl | rfl | rfl | rfl | rfl | rfl | rfl | rfl | rfl | rfl | rfl | rfl | rfl
  all_goals
    clear h
    go_enter Tryz.func64, Tryz.ntmps64
    go_wp2
    go_ret3
    exact ⟨H _ _ _ (by decide +kernel) (by decide +kernel) (by decide +kernel), rfl⟩
theorem rUses_out {op : Int} (h : ¬ (1 ≤ op ∧ op ≤ 28)) (w : World) : Calls Tryz.prog 64 #[.int .i64 op] w fun e w' => e = .returned (.tuple #[.bool true, .bool true, .bool true]) ∧ w = w' := by
  have H : ∀ a b c : Bool, a = true → b = true → c = true → Ending.returned (.tuple #[.bool a, .bool b, .bool c]) = .returned (.tuple #[.bool true, .bool true, .bool true]) := by
    rintro a b c rfl rfl rfl; rfl
  have n1 : ¬ op = 1 := by omega
  have n2 : ¬ op = 2 := by omega
  have n20 : ¬ op = 20 := by omega
  have n21 : ¬ op = 21 := by omega
  have n22 : ¬ op = 22 := by omega
  have n23 : ¬ op = 23 := by omega
  have n24 : ¬ op = 24 := by omega
  have n25 : ¬ op = 25 := by omega
  have n26 : ¬ op = 26 := by omega
  have n27 : ¬ op = 27 := by omega
  have n28 : ¬ op = 28 := by omega
  by_cases n4 : 4 ≤ op
  all_goals
    have n12 : 4 ≤ op → ¬ op ≤ 12 := by omega
    try (have n13 := n12 (by omega))
    clear n12 h
    go_enter Tryz.func64, Tryz.ntmps64
    go_wp2
    go_ret3
    exact ⟨H _ _ _ (by simp [*]) (by simp [*]) (by simp [*]), rfl⟩
theorem rName {op : Int} (h : 1 ≤ op ∧ op ≤ 28) (w : World) : Calls Tryz.prog 52 #[.int .i64 op] w fun e w' => e = .returned (.string (nameL op)) ∧ Below w.heap.size w w' := by
  have hl := names_lit
  obtain ⟨K, Hb, hs⟩ := cells1 w (nameT.map Value.string).toArray 9
  have hc : (w.alloc (.cells (nameT.map Value.string).toArray 9)).cell? ⟨w.heap.size, op.toNat, none⟩ = some (.string (nameL op)) := by
    rw [K.cell]
    rcases cases28 h with rfl | rfl | rfl | rfl | rfl | rfl | rfl | rfl | rfl | rfl | rfl | rfl | rfl | rfl | rfl | rfl | rfl | rfl | rfl | rfl | rfl | rfl | rfl | rfl | rfl | rfl | rfl | rfl <;> rfl
  have h0 : ¬ op < 1 := by omega
  have h1 : ¬ 29 ≤ op := by omega
  have h2 : op < 29 := by omega
  go_enter Tryz.func52, Tryz.ntmps52
  go_wp2
  go_ret
  exact ⟨rfl, Hb⟩
theorem rName_out {op : Int} (h : ¬ (1 ≤ op ∧ op ≤ 28)) (w : World) : Calls Tryz.prog 52 #[.int .i64 op] w fun e w' => e = .returned (.string ⟨#[]⟩) ∧ Below w.heap.size w w' := by
  have hl := names_lit
  obtain ⟨K, Hb, hs⟩ := cells1 w (nameT.map Value.string).toArray 9
  by_cases h0 : op < 1
  all_goals
    have n12 : 1 ≤ op → 29 ≤ op := by omega
    try (have n13 := n12 (by omega))
    clear n12 h
    go_enter Tryz.func52, Tryz.ntmps52
    go_wp2
    go_ret
    exact ⟨rfl, Hb⟩
end Go.Proofs.YtbfmlmnhdogojaaGreatDoor
namespace Go.Proofs.YtbfmlmnhdogojaaGreatDoor
open Go.RowKit Go.Shelf

theorem name_ne {op : Int} (h : 1 ≤ op ∧ op ≤ 28) : (nameL op).toList.isEmpty = false := by
  rcases cases28 h with rfl | rfl | rfl | rfl | rfl | rfl | rfl | rfl | rfl | rfl | rfl | rfl | rfl | rfl | rfl | rfl | rfl | rfl | rfl | rfl | rfl | rfl | rfl | rfl | rfl | rfl | rfl | rfl <;> decide +kernel
set_option maxHeartbeats 4000000 in
theorem rMay {op a b n : Int} (ha : 0 ≤ a ∧ a < 16) (hb : 0 ≤ b ∧ b < 16) (hn : -32768 ≤ n ∧ n ≤ 32767) (w : World) : Calls Tryz.prog 63 #[.agg (instA op a b n)] w fun e w' => e = .returned (.bool (mayL op a b n)) ∧ Below w.heap.size w w' := by
  obtain ⟨K1, Hb, hs⟩ := cells1 w (instA op a b n) 69
  have i0 := (K1.cell 0).trans (show _ = some (Value.int .i64 op) from rfl)
  by_cases h : 1 ≤ op ∧ op ≤ 28
  · have hne := name_ne h
    go_enter Tryz.func63, Tryz.ntmps63
    go_wp2_with (go_at_call 64; refine (rUses h _).mono ?_; rintro e w' ⟨rfl, rfl⟩)
    refine (rName h _).mono ?_
    rintro e W ⟨rfl, hb2⟩
    generalize w.alloc _ = W1 at *
    have K2 := K1.below hb2 K1.lt
    have B2 := Hb.trans (hb2.mono Hb.size)
    have i1 := (K2.cell 1).trans (show _ = some (Value.int .i64 a) from rfl)
    have i2 := (K2.cell 2).trans (show _ = some (Value.int .i64 b) from rfl)
    have i3 := (K2.cell 3).trans (show _ = some (Value.int .i64 n) from rfl)
    have HM : ∀ x : Bool, x = mayL op a b n → Ending.returned (.bool x) = .returned (.bool (mayL op a b n)) := by rintro x rfl; rfl
    have hm : mayL op a b n = ((decide (a = 0) || hasU (usesL op) 1 && decide (a ≤ 7)) && (decide (b = 0) || hasU (usesL op) 2 && decide (b ≤ 7)) && (decide (n = 0) || hasU (usesL op) 4)) := by
      unfold mayL within
      simp [h.1, h.2, ha.1, hb.1, hn.1, hn.2]
    have HMM := Lib.hid hm
    clear hm h
    generalize nameL op = nm at *
    generalize hasU (usesL op) 1 = u1 at *
    generalize hasU (usesL op) 2 = u2 at *
    generalize hasU (usesL op) 4 = u4 at *
    go_wp2
    all_goals
      go_ret
      refine ⟨HM _ ?_, B2⟩
      rw [HMM.out]
      first | (simp [*]; done) | (by_cases q : n = 0 <;> simp [q] <;> simp_all <;> done) | (by_cases q : n = 0 <;> simp [q] <;> simp_all <;> omega)
  · have h2 : mayL op a b n = false := by unfold mayL; simp only [decide_eq_false h, Bool.false_and]
    have H2 := Lib.hid h2
    clear h2
    have hnm : (⟨#[]⟩ : ByteArray).toList.isEmpty = true := by decide +kernel
    go_enter Tryz.func63, Tryz.ntmps63
    go_wp2_with (go_at_call 64; refine (rUses_out h _).mono ?_; rintro e w' ⟨rfl, rfl⟩)
    refine (rName_out h _).mono ?_
    rintro e W ⟨rfl, hb2⟩
    go_wp2
    go_ret
    rw [H2.out]
    exact ⟨rfl, Hb.trans (hb2.mono Hb.size)⟩
set_option maxRecDepth 100000 in
theorem rDecode_in {x : Int} (hok : okL x = true) (h0 : 0 ≤ x) (h1 : x < 4294967296) (w : World) : Calls Tryz.prog 37 #[.int .u32 x] w fun e w' =>
    e = .returned (.tuple #[.agg (instA (dOp x) (dA x) (dB x) (dN x)), .bool true]) ∧ Below w.heap.size w w' := by
  have hn : -32768 ≤ dN x ∧ dN x ≤ 32767 := by unfold dN; split <;> omega
  have e1 := (show x / 16777216 = dOp x from rfl)
  have hlo : 0 ≤ dOp x ∧ dOp x < 256 := by unfold dOp; omega
  have e2 := (show x / 1048576 % 16 = dA x from rfl)
  have hla : 0 ≤ dA x ∧ dA x < 16 := by unfold dA; omega
  have e3 := (show x / 65536 % 16 = dB x from rfl)
  have hlb : 0 ≤ dB x ∧ dB x < 16 := by unfold dB; omega
  have HN := Lib.hid (show dN x = if 32767 < x % 65536 then x % 65536 - 65536 else x % 65536 from rfl)
  obtain ⟨K1, K2, Hb, hs⟩ := cells2 w (instA 0 0 0 0) (instA (dOp x) (dA x) (dB x) (dN x)) 69 69
  have hi : (Tryz.prog.info? 69).map (·.size) = some 4 := by kernel_rfl
  obtain ⟨W, eW⟩ : ∃ W, (w.alloc (.cells #[.int .i64 0, .int .i64 0, .int .i64 0, .int .i64 0] 69)).alloc (.cells #[.int .i64 (dOp x), .int .i64 (dA x), .int .i64 (dB x), .int .i64 (dN x)] 69) = W := ⟨_, rfl⟩
  unfold instA at K1 K2 Hb hs
  rw [eW] at K1 K2 Hb hs
  have k0 := (K2.cell 0).trans (show _ = some (Value.int .i64 (dOp x)) from rfl)
  have k1 := (K2.cell 1).trans (show _ = some (Value.int .i64 (dA x)) from rfl)
  have k2 := (K2.cell 2).trans (show _ = some (Value.int .i64 (dB x)) from rfl)
  have k3 := (K2.cell 3).trans (show _ = some (Value.int .i64 (dN x)) from rfl)
  by_cases hc : 32767 < x % 65536
  · have e4 : x % 65536 - 65536 = dN x := by rw [HN.out, if_pos hc]
    go_enter Tryz.func37, Tryz.ntmps37
    go_wp2_with fail
    clear eW e1 e2 e3 e4 k0 k1 k2 k3 hc
    refine (rMay hla hlb hn W).mono ?_
    rw [show mayL (dOp x) (dA x) (dB x) (dN x) = true from hok]
    rintro e W2 ⟨rfl, hb2⟩
    clear hok
    have B2 := Hb.trans (hb2.mono Hb.size)
    have K1 := K1.below hb2 K1.lt
    have K2 := K2.below hb2 K2.lt
    have K2' : W2.heap[w.heap.size + 1]? = some (.cells (instA (dOp x) (dA x) (dB x) (dN x)) 69 (0, 0)) := K2
    have T1 : W2.there w.heap.size 0 (instA (dOp x) (dA x) (dB x) (dN x)).size := K1.there
    have hi0 : (Tryz.prog.info? 69).map (·.size) = some (instA 0 0 0 0).size := hi
    have hi1 : (Tryz.prog.info? 69).map (·.size) = some (instA (dOp x) (dA x) (dB x) (dN x)).size := hi
    have ha0 : (instA 0 0 0 0).all (·.oneCell') = true := by simp [Value.oneCell']
    have ha1 : (instA (dOp x) (dA x) (dB x) (dN x)).all (·.oneCell') = true := by simp [Value.oneCell']
    have T0 : W2.there w.heap.size 0 (instA 0 0 0 0).size := K1.there
    have o5 : Cells _ _ _ (instA (dOp x) (dA x) (dB x) (dN x)) := K1.setAll [.int .i64 (dOp x), .int .i64 (dA x), .int .i64 (dB x), .int .i64 (dN x)] rfl
    have z5 : Cells _ _ _ (instA 0 0 0 0) := K1.setAll [.int .i64 0, .int .i64 0, .int .i64 0, .int .i64 0] rfl
    go_wp2_with (first
      | (with_reducible refine wpList_load_row rfl 69 (.tmp 5) rfl (w.heap.size + 1) rfl 69 (instA (dOp x) (dA x) (dB x) (dN x)) (0, 0) _ K2' Tryz.underlying69 rfl hi1 ?_)
      | (with_reducible refine wpList_store_mid rfl 69 (.tmp 2) (.tmp 30) rfl w.heap.size 0 (instA (dOp x) (dA x) (dB x) (dN x)) rfl rfl T1 hi1 ha1 ?_)
      | exact bodyPost_ret (res_row_tmp rfl _ _ w.heap.size 69 _ _ rfl o5 Tryz.underlying69 rfl hi) rfl ⟨rfl, below_setCells _ 0 B2 (Nat.le_refl _)⟩)
  · have e4 : x % 65536 = dN x := by rw [HN.out, if_neg hc]
    have hc' : ¬ 32767 < dN x := by omega
    go_enter Tryz.func37, Tryz.ntmps37
    go_wp2_with fail
    clear eW e1 e2 e3 e4 k0 k1 k2 k3 hc
    refine (rMay hla hlb hn W).mono ?_
    rw [show mayL (dOp x) (dA x) (dB x) (dN x) = true from hok]
    rintro e W2 ⟨rfl, hb2⟩
    clear hok
    have B2 := Hb.trans (hb2.mono Hb.size)
    have K1 := K1.below hb2 K1.lt
    have K2 := K2.below hb2 K2.lt
    have K2' : W2.heap[w.heap.size + 1]? = some (.cells (instA (dOp x) (dA x) (dB x) (dN x)) 69 (0, 0)) := K2
    have T1 : W2.there w.heap.size 0 (instA (dOp x) (dA x) (dB x) (dN x)).size := K1.there
    have hi0 : (Tryz.prog.info? 69).map (·.size) = some (instA 0 0 0 0).size := hi
    have hi1 : (Tryz.prog.info? 69).map (·.size) = some (instA (dOp x) (dA x) (dB x) (dN x)).size := hi
    have ha0 : (instA 0 0 0 0).all (·.oneCell') = true := by simp [Value.oneCell']
    have ha1 : (instA (dOp x) (dA x) (dB x) (dN x)).all (·.oneCell') = true := by simp [Value.oneCell']
    have T0 : W2.there w.heap.size 0 (instA 0 0 0 0).size := K1.there
    have o5 : Cells _ _ _ (instA (dOp x) (dA x) (dB x) (dN x)) := K1.setAll [.int .i64 (dOp x), .int .i64 (dA x), .int .i64 (dB x), .int .i64 (dN x)] rfl
    have z5 : Cells _ _ _ (instA 0 0 0 0) := K1.setAll [.int .i64 0, .int .i64 0, .int .i64 0, .int .i64 0] rfl
    go_wp2_with (first
      | (with_reducible refine wpList_load_row rfl 69 (.tmp 5) rfl (w.heap.size + 1) rfl 69 (instA (dOp x) (dA x) (dB x) (dN x)) (0, 0) _ K2' Tryz.underlying69 rfl hi1 ?_)
      | (with_reducible refine wpList_store_mid rfl 69 (.tmp 2) (.tmp 30) rfl w.heap.size 0 (instA (dOp x) (dA x) (dB x) (dN x)) rfl rfl T1 hi1 ha1 ?_)
      | exact bodyPost_ret (res_row_tmp rfl _ _ w.heap.size 69 _ _ rfl o5 Tryz.underlying69 rfl hi) rfl ⟨rfl, below_setCells _ 0 B2 (Nat.le_refl _)⟩)
set_option maxRecDepth 100000 in
theorem rDecode_out {x : Int} (hok : okL x = false) (h0 : 0 ≤ x) (h1 : x < 4294967296) (w : World) : Calls Tryz.prog 37 #[.int .u32 x] w fun e w' =>
    e = .returned (.tuple #[.agg (instA 0 0 0 0), .bool false]) ∧ Below w.heap.size w w' := by
  have hn : -32768 ≤ dN x ∧ dN x ≤ 32767 := by unfold dN; split <;> omega
  have e1 := (show x / 16777216 = dOp x from rfl)
  have hlo : 0 ≤ dOp x ∧ dOp x < 256 := by unfold dOp; omega
  have e2 := (show x / 1048576 % 16 = dA x from rfl)
  have hla : 0 ≤ dA x ∧ dA x < 16 := by unfold dA; omega
  have e3 := (show x / 65536 % 16 = dB x from rfl)
  have hlb : 0 ≤ dB x ∧ dB x < 16 := by unfold dB; omega
  have HN := Lib.hid (show dN x = if 32767 < x % 65536 then x % 65536 - 65536 else x % 65536 from rfl)
  obtain ⟨K1, K2, Hb, hs⟩ := cells2 w (instA 0 0 0 0) (instA (dOp x) (dA x) (dB x) (dN x)) 69 69
  have hi : (Tryz.prog.info? 69).map (·.size) = some 4 := by kernel_rfl
  obtain ⟨W, eW⟩ : ∃ W, (w.alloc (.cells #[.int .i64 0, .int .i64 0, .int .i64 0, .int .i64 0] 69)).alloc (.cells #[.int .i64 (dOp x), .int .i64 (dA x), .int .i64 (dB x), .int .i64 (dN x)] 69) = W := ⟨_, rfl⟩
  unfold instA at K1 K2 Hb hs
  rw [eW] at K1 K2 Hb hs
  have k0 := (K2.cell 0).trans (show _ = some (Value.int .i64 (dOp x)) from rfl)
  have k1 := (K2.cell 1).trans (show _ = some (Value.int .i64 (dA x)) from rfl)
  have k2 := (K2.cell 2).trans (show _ = some (Value.int .i64 (dB x)) from rfl)
  have k3 := (K2.cell 3).trans (show _ = some (Value.int .i64 (dN x)) from rfl)
  by_cases hc : 32767 < x % 65536
  · have e4 : x % 65536 - 65536 = dN x := by rw [HN.out, if_pos hc]
    go_enter Tryz.func37, Tryz.ntmps37
    go_wp2_with fail
    clear eW e1 e2 e3 e4 k0 k1 k2 k3 hc
    refine (rMay hla hlb hn W).mono ?_
    rw [show mayL (dOp x) (dA x) (dB x) (dN x) = false from hok]
    rintro e W2 ⟨rfl, hb2⟩
    clear hok
    have B2 := Hb.trans (hb2.mono Hb.size)
    have K1 := K1.below hb2 K1.lt
    have K2 := K2.below hb2 K2.lt
    have K2' : W2.heap[w.heap.size + 1]? = some (.cells (instA (dOp x) (dA x) (dB x) (dN x)) 69 (0, 0)) := K2
    have T1 : W2.there w.heap.size 0 (instA (dOp x) (dA x) (dB x) (dN x)).size := K1.there
    have hi0 : (Tryz.prog.info? 69).map (·.size) = some (instA 0 0 0 0).size := hi
    have hi1 : (Tryz.prog.info? 69).map (·.size) = some (instA (dOp x) (dA x) (dB x) (dN x)).size := hi
    have ha0 : (instA 0 0 0 0).all (·.oneCell') = true := by simp [Value.oneCell']
    have ha1 : (instA (dOp x) (dA x) (dB x) (dN x)).all (·.oneCell') = true := by simp [Value.oneCell']
    have T0 : W2.there w.heap.size 0 (instA 0 0 0 0).size := K1.there
    have o5 : Cells _ _ _ (instA (dOp x) (dA x) (dB x) (dN x)) := K1.setAll [.int .i64 (dOp x), .int .i64 (dA x), .int .i64 (dB x), .int .i64 (dN x)] rfl
    have z5 : Cells _ _ _ (instA 0 0 0 0) := K1.setAll [.int .i64 0, .int .i64 0, .int .i64 0, .int .i64 0] rfl
    go_wp2_with (first
      | (with_reducible refine wpList_store_mid rfl 69 (.tmp 2) (.tmp 29) rfl w.heap.size 0 (instA 0 0 0 0) rfl rfl T0 hi0 ha0 ?_)
      | exact bodyPost_ret (res_row_tmp rfl _ _ w.heap.size 69 _ _ rfl z5 Tryz.underlying69 rfl hi) rfl ⟨rfl, below_setCells _ 0 B2 (Nat.le_refl _)⟩)
  · have e4 : x % 65536 = dN x := by rw [HN.out, if_neg hc]
    have hc' : ¬ 32767 < dN x := by omega
    go_enter Tryz.func37, Tryz.ntmps37
    go_wp2_with fail
    clear eW e1 e2 e3 e4 k0 k1 k2 k3 hc
    refine (rMay hla hlb hn W).mono ?_
    rw [show mayL (dOp x) (dA x) (dB x) (dN x) = false from hok]
    rintro e W2 ⟨rfl, hb2⟩
    clear hok
    have B2 := Hb.trans (hb2.mono Hb.size)
    have K1 := K1.below hb2 K1.lt
    have K2 := K2.below hb2 K2.lt
    have K2' : W2.heap[w.heap.size + 1]? = some (.cells (instA (dOp x) (dA x) (dB x) (dN x)) 69 (0, 0)) := K2
    have T1 : W2.there w.heap.size 0 (instA (dOp x) (dA x) (dB x) (dN x)).size := K1.there
    have hi0 : (Tryz.prog.info? 69).map (·.size) = some (instA 0 0 0 0).size := hi
    have hi1 : (Tryz.prog.info? 69).map (·.size) = some (instA (dOp x) (dA x) (dB x) (dN x)).size := hi
    have ha0 : (instA 0 0 0 0).all (·.oneCell') = true := by simp [Value.oneCell']
    have ha1 : (instA (dOp x) (dA x) (dB x) (dN x)).all (·.oneCell') = true := by simp [Value.oneCell']
    have T0 : W2.there w.heap.size 0 (instA 0 0 0 0).size := K1.there
    have o5 : Cells _ _ _ (instA (dOp x) (dA x) (dB x) (dN x)) := K1.setAll [.int .i64 (dOp x), .int .i64 (dA x), .int .i64 (dB x), .int .i64 (dN x)] rfl
    have z5 : Cells _ _ _ (instA 0 0 0 0) := K1.setAll [.int .i64 0, .int .i64 0, .int .i64 0, .int .i64 0] rfl
    go_wp2_with (first
      | (with_reducible refine wpList_store_mid rfl 69 (.tmp 2) (.tmp 29) rfl w.heap.size 0 (instA 0 0 0 0) rfl rfl T0 hi0 ha0 ?_)
      | exact bodyPost_ret (res_row_tmp rfl _ _ w.heap.size 69 _ _ rfl z5 Tryz.underlying69 rfl hi) rfl ⟨rfl, below_setCells _ 0 B2 (Nat.le_refl _)⟩)
end Go.Proofs.YtbfmlmnhdogojaaGreatDoor
