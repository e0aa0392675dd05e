/- The isa: the table of Ops, what may be, Decode, and the document's: contracts. -/
import Derived.Test.YtmpnlhfnemidpaaBase
import Derived.Handy
import Derived.WalkLawsBesides
import Derived.Deep.Cut
namespace Go.Proofs.Ytmpnlhfnemidpaa
open Go.RowKit Go.Shelf

/-! ### The table -/
def nameT : List ByteArray := [⟨#[]⟩, ⟨#[104, 97, 108, 116]⟩, ⟨#[108, 117, 105]⟩, ⟨#[97, 100, 100, 105]⟩, ⟨#[97, 100, 100]⟩, ⟨#[115, 117, 98]⟩, ⟨#[109, 117, 108]⟩, ⟨#[97, 110, 100]⟩, ⟨#[111, 114]⟩, ⟨#[120, 111, 114]⟩, ⟨#[115, 104, 108]⟩, ⟨#[115, 104, 114]⟩, ⟨#[115, 108, 116]⟩, ⟨#[108, 119]⟩, ⟨#[115, 119]⟩, ⟨#[108, 98]⟩, ⟨#[115, 98]⟩, ⟨#[98, 101, 113]⟩, ⟨#[98, 110, 101]⟩, ⟨#[98, 108, 116]⟩, ⟨#[106, 97, 108]⟩, ⟨#[106, 97, 108, 114]⟩, ⟨#[105, 110]⟩, ⟨#[111, 117, 116]⟩, ⟨#[99, 97, 108, 108]⟩, ⟨#[98, 97, 99, 107]⟩, ⟨#[103, 101, 116]⟩, ⟨#[115, 101, 116]⟩, ⟨#[102, 108, 117, 115, 104]⟩]
def usesT : List Int := [0, 0, 5, 7, 3, 3, 3, 3, 3, 3, 3, 3, 3, 7, 7, 7, 7, 7, 7, 7, 5, 3, 5, 5, 0, 0, 5, 5, 0]
def nameL (op : Int) : ByteArray := nameT.getD op.toNat ⟨#[]⟩
def usesL (op : Int) : Int := usesT.getD op.toNat 0
def rowsA : Array Value := ((List.range 29).flatMap fun i => [.string (nameT.getD i ⟨#[]⟩), .int .i64 (usesT.getD i 0)]).toArray
def rowsZ : Array Value := ((List.range 29).flatMap fun _ => [.string ⟨#[]⟩, .int .i64 0]).toArray
theorem rows_lit : ((.string ⟨#[]⟩ :: .int .i64 0 :: .string ⟨#[104, 97, 108, 116]⟩ :: .int .i64 0 :: .string ⟨#[108, 117, 105]⟩ :: .int .i64 5 :: .string ⟨#[97, 100, 100, 105]⟩ :: .int .i64 7 :: .string ⟨#[97, 100, 100]⟩ :: .int .i64 3 :: .string ⟨#[115, 117, 98]⟩ :: .int .i64 3 :: .string ⟨#[109, 117, 108]⟩ :: .int .i64 3 :: .string ⟨#[97, 110, 100]⟩ :: .int .i64 3 :: .string ⟨#[111, 114]⟩ :: .int .i64 3 :: .string ⟨#[120, 111, 114]⟩ :: .int .i64 3 :: .string ⟨#[115, 104, 108]⟩ :: .int .i64 3 :: .string ⟨#[115, 104, 114]⟩ :: .int .i64 3 :: .string ⟨#[115, 108, 116]⟩ :: .int .i64 3 :: .string ⟨#[108, 119]⟩ :: .int .i64 7 :: .string ⟨#[115, 119]⟩ :: .int .i64 7 :: .string ⟨#[108, 98]⟩ :: .int .i64 7 :: .string ⟨#[115, 98]⟩ :: .int .i64 7 :: .string ⟨#[98, 101, 113]⟩ :: .int .i64 7 :: .string ⟨#[98, 110, 101]⟩ :: .int .i64 7 :: .string ⟨#[98, 108, 116]⟩ :: .int .i64 7 :: .string ⟨#[106, 97, 108]⟩ :: .int .i64 5 :: .string ⟨#[106, 97, 108, 114]⟩ :: .int .i64 3 :: .string ⟨#[105, 110]⟩ :: .int .i64 5 :: .string ⟨#[111, 117, 116]⟩ :: .int .i64 5 :: .string ⟨#[99, 97, 108, 108]⟩ :: .int .i64 0 :: .string ⟨#[98, 97, 99, 107]⟩ :: .int .i64 0 :: .string ⟨#[103, 101, 116]⟩ :: .int .i64 5 :: .string ⟨#[115, 101, 116]⟩ :: .int .i64 5 :: .string ⟨#[102, 108, 117, 115, 104]⟩ :: .int .i64 0 :: [] : List Value).toArray) = rowsA := rfl
theorem rows_zero : ((.string ⟨#[]⟩ :: .int .i64 0 :: .string ⟨#[]⟩ :: .int .i64 0 :: .string ⟨#[]⟩ :: .int .i64 0 :: .string ⟨#[]⟩ :: .int .i64 0 :: .string ⟨#[]⟩ :: .int .i64 0 :: .string ⟨#[]⟩ :: .int .i64 0 :: .string ⟨#[]⟩ :: .int .i64 0 :: .string ⟨#[]⟩ :: .int .i64 0 :: .string ⟨#[]⟩ :: .int .i64 0 :: .string ⟨#[]⟩ :: .int .i64 0 :: .string ⟨#[]⟩ :: .int .i64 0 :: .string ⟨#[]⟩ :: .int .i64 0 :: .string ⟨#[]⟩ :: .int .i64 0 :: .string ⟨#[]⟩ :: .int .i64 0 :: .string ⟨#[]⟩ :: .int .i64 0 :: .string ⟨#[]⟩ :: .int .i64 0 :: .string ⟨#[]⟩ :: .int .i64 0 :: .string ⟨#[]⟩ :: .int .i64 0 :: .string ⟨#[]⟩ :: .int .i64 0 :: .string ⟨#[]⟩ :: .int .i64 0 :: .string ⟨#[]⟩ :: .int .i64 0 :: .string ⟨#[]⟩ :: .int .i64 0 :: .string ⟨#[]⟩ :: .int .i64 0 :: .string ⟨#[]⟩ :: .int .i64 0 :: .string ⟨#[]⟩ :: .int .i64 0 :: .string ⟨#[]⟩ :: .int .i64 0 :: .string ⟨#[]⟩ :: .int .i64 0 :: .string ⟨#[]⟩ :: .int .i64 0 :: .string ⟨#[]⟩ :: .int .i64 0 :: [] : List Value).toArray) = rowsZ := rfl
theorem cases28 {op : Int} (h : 1 ≤ op ∧ op ≤ 28) : op = 1 ∨ op = 2 ∨ op = 3 ∨ op = 4 ∨ op = 5 ∨ op = 6 ∨ op = 7 ∨ op = 8 ∨ op = 9 ∨ op = 10 ∨ op = 11 ∨ op = 12 ∨ op = 13 ∨ op = 14 ∨ op = 15 ∨ op = 16 ∨ op = 17 ∨ op = 18 ∨ op = 19 ∨ op = 20 ∨ op = 21 ∨ op = 22 ∨ op = 23 ∨ op = 24 ∨ op = 25 ∨ op = 26 ∨ op = 27 ∨ op = 28 := by omega
theorem index_rows {op : Int} (h : 1 ≤ op ∧ op ≤ 28) (w : World) : (Instr.index 107 (.agg rowsA) (.int .i64 op)).run Try.prog w = .ok (.agg #[.string (nameL op), .int .i64 (usesL op)]) w := by
  rcases cases28 h with rfl | rfl | rfl | rfl | rfl | rfl | rfl | rfl | rfl | rfl | rfl | rfl | rfl | rfl | rfl | rfl | rfl | rfl | rfl | rfl | rfl | rfl | rfl | rfl | rfl | rfl | rfl | rfl <;> kernel_rfl
theorem rows_size : (Try.prog.info? 107).map (·.size) = some rowsA.size := by kernel_rfl
set_option maxRecDepth 100000 in
set_option maxHeartbeats 4000000 in
theorem cRows (w : World) : Calls Try.prog 80 #[] w fun e w' => e = .returned (.agg rowsA) ∧ Below w.heap.size w w' := by
  obtain ⟨K1, Hb, hs⟩ := cells1 w rowsZ 107
  have T1 : (w.alloc (.cells rowsZ 107)).there w.heap.size 0 rowsA.size := K1.there
  have hi := rows_size
  have h1 : rowsA.all (·.oneCell') = true := by decide +kernel
  have o5 := K1.setAll rowsA.toList rfl
  rw [Array.toArray_toList] at o5
  go_enter Try.func80, Try.ntmps80
  have hz := rows_zero
  go_upto_region 1 with (fail)
  clear hz
  generalize w.alloc _ = W at *
  go_wp2_with (first
    | ((with_reducible refine wpList_run rfl 29 rfl (.agg rowsA) ?_ ?_); (focus kernel_rfl); simp only [Act.put, List.setIfInBounds_toArray, List.set_cons_zero, List.set_cons_succ])
    | (with_reducible refine wpList_store_mid rfl 107 (.tmp 0) (.tmp 29) rfl w.heap.size 0 rowsA rfl rfl T1 hi h1 ?_)
    | exact bodyPost_ret (results_cell_row rfl _ _ w.heap.size 107 rowsA (0, 0) _ rfl o5 Try.underlying107 rfl hi) rfl ⟨rfl, below_setCells _ 0 Hb (by omega)⟩)
end Go.Proofs.Ytmpnlhfnemidpaa
namespace Go.Proofs.Ytmpnlhfnemidpaa
open Go.RowKit Go.Shelf

/-! ### What may be -/
def hasU (u flag : Int) : Bool := decide (u / flag % 2 = 1)
def within (u flag n lo hi : Int) : Bool := decide (n = 0) || (hasU u flag && decide (lo ≤ n) && decide (n ≤ hi))
def mayL (op a b n : Int) : Bool := decide (1 ≤ op ∧ op ≤ 28) && within (usesL op) 1 a 0 7 && within (usesL op) 2 b 0 7 && within (usesL op) 4 n (-32768) 32767
theorem uses4 {op : Int} (h : 1 ≤ op ∧ op ≤ 28) : usesL op = 0 ∨ usesL op = 3 ∨ usesL op = 5 ∨ usesL op = 7 := by
  rcases cases28 h with rfl | rfl | rfl | rfl | rfl | rfl | rfl | rfl | rfl | rfl | rfl | rfl | rfl | rfl | rfl | rfl | rfl | rfl | rfl | rfl | rfl | rfl | rfl | rfl | rfl | rfl | rfl | rfl <;> decide +kernel
theorem and_flag (u flag : Int) (hu : u = 0 ∨ u = 3 ∨ u = 5 ∨ u = 7) (hf : flag = 1 ∨ flag = 2 ∨ flag = 4) : bits .and .i64 u flag = if hasU u flag then flag else 0 := by
  rcases hu with rfl | rfl | rfl | rfl <;> rcases hf with rfl | rfl | rfl <;> decide +kernel
theorem cOf {op : Int} (h : 1 ≤ op ∧ op ≤ 28) (w : World) : Calls Try.prog 70 #[.int .i64 op] w fun e w' => e = .returned (.tuple #[.agg #[.string (nameL op), .int .i64 (usesL op)], .bool true]) ∧ Below w.heap.size w w' := by
  obtain ⟨K1, Hb, hs⟩ := cells1 w #[.string ⟨#[]⟩, .int .i64 0] 99
  have hx := fun W => index_rows h W
  have c0 := K1.cell 0
  have c1 := K1.cell 1
  have f0 := K1.frozen 0
  have f1 := K1.frozen 1
  simp at c0 c1
  go_enter Try.func70, Try.ntmps70
  go_wp2_with fail
  generalize w.alloc _ = W at *
  refine (cRows W).mono ?_
  rintro e W2 ⟨rfl, hb2⟩
  have K2 := K1.below hb2 K1.lt
  have c0 := K2.cell 0
  have c1 := K2.cell 1
  have f0 := K2.frozen 0
  have f1 := K2.frozen 1
  simp at c0 c1
  have B2 := Hb.trans (hb2.mono Hb.size)
  have o5 := (K2.set 0 (.string (nameL op))).set 1 (.int .i64 (usesL op))
  have hi : (Try.prog.info? 99).map (·.size) = some 2 := by kernel_rfl
  go_wp2
  exact bodyPost_ret (res_row_tmp rfl _ _ w.heap.size 99 _ _ rfl o5 Try.underlying99 rfl hi) rfl ⟨rfl, (B2.setCell (Nat.le_refl _) _).setCell (Nat.le_refl _) _⟩
theorem cOf_out {op : Int} (h : ¬ (1 ≤ op ∧ op ≤ 28)) (w : World) : Calls Try.prog 70 #[.int .i64 op] w fun e w' => e = .returned (.tuple #[.agg #[.string ⟨#[]⟩, .int .i64 0], .bool false]) ∧ Below w.heap.size w w' := by
  obtain ⟨K1, Hb, hs⟩ := cells1 w #[.string ⟨#[]⟩, .int .i64 0] 99
  have c0 := K1.cell 0
  have c1 := K1.cell 1
  have f0 := K1.frozen 0
  have f1 := K1.frozen 1
  simp at c0 c1
  have hi : (Try.prog.info? 99).map (·.size) = some 2 := by kernel_rfl
  by_cases h1 : op < 1
  all_goals
    have h2 : 1 ≤ op → 28 < op := by omega
    try (have h3 := h2 (by omega))
    clear h2 h
    go_enter Try.func70, Try.ntmps70
    go_wp2
    exact bodyPost_ret (res_row_tmp rfl _ _ w.heap.size 99 _ _ rfl K1 Try.underlying99 rfl hi) rfl ⟨rfl, Hb⟩
theorem cWithin {u flag n lo hi : Int} (hu : u = 0 ∨ u = 3 ∨ u = 5 ∨ u = 7) (hf : flag = 1 ∨ flag = 2 ∨ flag = 4) {B : Nat} {s : Value} {w : World} (hc : Cells w B 99 #[s, .int .i64 u]) :
    Calls Try.prog 71 #[.int .i64 flag, .int .i64 n, .int .i64 lo, .int .i64 hi, .pointer (some ⟨B, 0, none⟩)] w fun e w' => e = .returned (.bool (within u flag n lo hi)) ∧ w = w' := by
  have hb := and_flag u flag hu hf
  have c1 := hc.cell 1
  simp at c1
  have hf0 : ¬ flag = 0 := by omega
  have e2 : (flag != 0) = true := by simpa using hf0
  unfold within
  by_cases h1 : n = 0
  · go_enter Try.func71, Try.ntmps71
    go_wp2
    go_ret
    exact ⟨ret_bool (by first | rfl | simp [h1]), rfl⟩
  · have e1 : (n == 0) = false := by simpa using h1
    have E1 := Lib.hid e1
    have E2 := Lib.hid e2
    clear e1 e2
    by_cases h2 : hasU u flag = true
    · rw [if_pos h2] at hb
      by_cases h3 : lo ≤ n
      · go_enter Try.func71, Try.ntmps71
        go_wp2
        go_ret
        refine ⟨ret_bool ?_, rfl⟩
        first | rfl | (rw [E1.out]; try rw [E2.out]) | skip
        first | rfl | (simp [h1, h2, h3]; done) | (simp [h1, h2]; omega)
      · go_enter Try.func71, Try.ntmps71
        go_wp2
        go_ret
        refine ⟨ret_bool ?_, rfl⟩
        first | rfl | (rw [E1.out]; try rw [E2.out]) | skip
        first | rfl | (simp [*]; done) | (simp [*]; omega)
    · rw [if_neg h2] at hb
      go_enter Try.func71, Try.ntmps71
      go_wp2
      go_ret
      exact ⟨ret_bool (by first | rfl | simp [h1, h2]), rfl⟩
/-- An instruction, as a value. -/
abbrev instA (op a b n : Int) : Array Value := #[.int .i64 op, .int .i64 a, .int .i64 b, .int .i64 n]
set_option maxHeartbeats 4000000 in
theorem cMay (op a b n : Int) (w : World) : Calls Try.prog 42 #[.agg (instA op a b n)] w fun e w' => e = .returned (.bool (mayL op a b n)) ∧ Below w.heap.size w w' := by
  obtain ⟨K1, Hb, hs⟩ := cells1 w (instA op a b n) 54
  have i0 := (K1.cell 0).trans (show _ = some (Value.int .i64 op) from rfl)
  have i1 := (K1.cell 1).trans (show _ = some (Value.int .i64 a) from rfl)
  have i2 := (K1.cell 2).trans (show _ = some (Value.int .i64 b) from rfl)
  have i3 := (K1.cell 3).trans (show _ = some (Value.int .i64 n) from rfl)
  by_cases h : 1 ≤ op ∧ op ≤ 28
  · go_enter Try.func42, Try.ntmps42
    go_wp2_with fail
    generalize w.alloc _ = W at *
    refine (cOf h W).mono ?_
    rintro e W2 ⟨rfl, hb2⟩
    have hu := uses4 h
    obtain ⟨K3, hb3, s3⟩ := cells1 W2 #[.string (nameL op), .int .i64 (usesL op)] 99
    have HB := Hb.trans (hb2.mono Hb.size)
    have i0 : (W2.alloc (.cells #[.string (nameL op), .int .i64 (usesL op)] 99)).cell? ⟨w.heap.size, 0, none⟩ = _ := (hb3.cell (p := ⟨w.heap.size, 0, none⟩) (by have := K1.lt; have := hb2.size; simp; omega)).trans ((hb2.cell (p := ⟨w.heap.size, 0, none⟩) K1.lt).trans i0)
    have i1 : (W2.alloc (.cells #[.string (nameL op), .int .i64 (usesL op)] 99)).cell? ⟨w.heap.size, 1, none⟩ = _ := (hb3.cell (p := ⟨w.heap.size, 1, none⟩) (by have := K1.lt; have := hb2.size; simp; omega)).trans ((hb2.cell (p := ⟨w.heap.size, 1, none⟩) K1.lt).trans i1)
    have i2 : (W2.alloc (.cells #[.string (nameL op), .int .i64 (usesL op)] 99)).cell? ⟨w.heap.size, 2, none⟩ = _ := (hb3.cell (p := ⟨w.heap.size, 2, none⟩) (by have := K1.lt; have := hb2.size; simp; omega)).trans ((hb2.cell (p := ⟨w.heap.size, 2, none⟩) K1.lt).trans i2)
    have i3 : (W2.alloc (.cells #[.string (nameL op), .int .i64 (usesL op)] 99)).cell? ⟨w.heap.size, 3, none⟩ = _ := (hb3.cell (p := ⟨w.heap.size, 3, none⟩) (by have := K1.lt; have := hb2.size; simp; omega)).trans ((hb2.cell (p := ⟨w.heap.size, 3, none⟩) K1.lt).trans i3)
    obtain ⟨W3, e3⟩ : ∃ W3, W2.alloc (.cells #[.string (nameL op), .int .i64 (usesL op)] 99) = W3 := ⟨_, rfl⟩
    rw [e3] at i0 i1 i2 i3 K3 hb3
    have B3 := HB.trans (hb3.mono HB.size)
    clear s3 hs
    cases w1 : within (usesL op) 1 a 0 7
    all_goals cases w2 : within (usesL op) 2 b 0 7
    all_goals cases w4 : within (usesL op) 4 n (-32768) 32767
    all_goals
      go_wp2_with (first
        | (go_at_call 71; refine (cWithin hu (by omega) K3).mono ?_; (first | rw [w1] | rw [w2] | rw [w4]); rintro e w' ⟨rfl, rfl⟩))
      go_ret
      refine ⟨ret_bool ?_, B3⟩
      unfold mayL
      rw [decide_eq_true h, w1, w2, w4]; rfl
  · go_enter Try.func42, Try.ntmps42
    go_wp2_with fail
    generalize w.alloc _ = W at *
    refine (cOf_out h W).mono ?_
    rintro e W2 ⟨rfl, hb2⟩
    go_wp2
    go_ret
    have HB := Hb.trans (hb2.mono Hb.size)
    refine ⟨ret_bool ?_, HB.alloc HB.size _⟩
    unfold mayL
    rw [decide_eq_false h]; rfl
end Go.Proofs.Ytmpnlhfnemidpaa
namespace Go.Proofs.Ytmpnlhfnemidpaa
open Go.RowKit Go.Shelf

/-! ### Decode -/
def dOp (w : Int) : Int := w / 16777216
def dA (w : Int) : Int := w / 1048576 % 16
def dB (w : Int) : Int := w / 65536 % 16
def dN (w : Int) : Int := if 32767 < w % 65536 then w % 65536 - 65536 else w % 65536
def okL (w : Int) : Bool := mayL (dOp w) (dA w) (dB w) (dN w)
theorem wrap16 (m : Int) (h0 : 0 ≤ m) (h1 : m < 65536) : IntKind.i16.wrap m = if 32767 < m then m - 65536 else m := by
  show (if (true && decide (m % 65536 ≥ 32768)) = true then m % 65536 - 65536 else m % 65536) = _
  rw [Int.emod_eq_of_lt h0 h1]
  by_cases h : m ≥ 32768
  · simp only [h, decide_true, Bool.and_self, if_true]; rw [if_pos (by omega)]
  · simp only [h, decide_false, Bool.and_false, Bool.false_eq_true, if_false]; rw [if_neg (by omega)]
theorem and15 (n : Int) (h0 : 0 ≤ n) (h1 : n < 4294967296) : bits .and .u32 n 15 = n % 16 :=
  bits_mask .u32 32 (by decide) (fun n h h' => by rw [IntKind.wrap_u32]; omega) 4 (by decide) n h0 h1
theorem and65535 (n : Int) (h0 : 0 ≤ n) (h1 : n < 4294967296) : bits .and .u32 n 65535 = n % 65536 :=
  bits_mask .u32 32 (by decide) (fun n h h' => by rw [IntKind.wrap_u32]; omega) 16 (by decide) n h0 h1
set_option maxRecDepth 100000 in
theorem cDecode_out {x : Int} (hok : okL x = false) (h0 : 0 ≤ x) (h1 : x < 4294967296) (w : World) : Calls Try.prog 20 #[.int .u32 x] w fun e w' =>
    e = .returned (.tuple #[.agg (instA 0 0 0 0), .bool false]) ∧ Below w.heap.size w w' := by
  have b1 := and15 (x / 1048576) (by omega) (by omega)
  have b2 := and15 (x / 65536) (by omega) (by omega)
  have b3 := and65535 x h0 h1
  have b4 : IntKind.i16.wrap (x % 65536) = dN x := wrap16 _ (by omega) (by omega)
  have hn : -32768 ≤ dN x ∧ dN x ≤ 32767 := by unfold dN; split <;> omega
  have e1 := (show x / 16777216 = dOp x from rfl)
  have hlo : 0 ≤ dOp x ∧ dOp x < 256 := by unfold dOp; omega
  have e2 := (show x / 1048576 % 16 = dA x from rfl)
  have hla : 0 ≤ dA x ∧ dA x < 16 := by unfold dA; omega
  have e3 := (show x / 65536 % 16 = dB x from rfl)
  have hlb : 0 ≤ dB x ∧ dB x < 16 := by unfold dB; omega
  obtain ⟨K1, K2, Hb, hs⟩ := cells2 w (instA 0 0 0 0) (instA (dOp x) (dA x) (dB x) (dN x)) 54 54
  have hi : (Try.prog.info? 54).map (·.size) = some 4 := by kernel_rfl
  unfold instA at K1 K2 Hb hs
  obtain ⟨W, eW⟩ : ∃ W, (w.alloc (.cells #[.int .i64 0, .int .i64 0, .int .i64 0, .int .i64 0] 54)).alloc (.cells #[.int .i64 (dOp x), .int .i64 (dA x), .int .i64 (dB x), .int .i64 (dN x)] 54) = W := ⟨_, rfl⟩
  rw [eW] at K1 K2 Hb hs
  have k0 := (K2.cell 0).trans (show _ = some (Value.int .i64 (dOp x)) from rfl)
  have k1 := (K2.cell 1).trans (show _ = some (Value.int .i64 (dA x)) from rfl)
  have k2 := (K2.cell 2).trans (show _ = some (Value.int .i64 (dB x)) from rfl)
  have k3 := (K2.cell 3).trans (show _ = some (Value.int .i64 (dN x)) from rfl)
  go_enter Try.func20, Try.ntmps20
  go_wp2_with fail
  clear eW e1 e2 e3 b1 b2 b3 b4 k0 k1 k2 k3
  refine (cMay _ _ _ _ W).mono ?_
  have HO : mayL (dOp x) (dA x) (dB x) (dN x) = false := hok
  rw [HO]
  rintro e W2 ⟨rfl, hb2⟩
  clear HO hok
  have B2 := Hb.trans (hb2.mono Hb.size)
  have K1 := K1.below hb2 K1.lt
  have K2 := K2.below hb2 K2.lt
  have K2' : W2.heap[w.heap.size + 1]? = some (.cells (instA (dOp x) (dA x) (dB x) (dN x)) 54 (0, 0)) := K2
  have T1 : W2.there w.heap.size 0 (instA (dOp x) (dA x) (dB x) (dN x)).size := K1.there
  have hi0 : (Try.prog.info? 54).map (·.size) = some (instA 0 0 0 0).size := hi
  have hi1 : (Try.prog.info? 54).map (·.size) = some (instA (dOp x) (dA x) (dB x) (dN x)).size := hi
  have ha0 : (instA 0 0 0 0).all (·.oneCell') = true := by simp [Value.oneCell']
  have ha1 : (instA (dOp x) (dA x) (dB x) (dN x)).all (·.oneCell') = true := by simp [Value.oneCell']
  have T0 : W2.there w.heap.size 0 (instA 0 0 0 0).size := K1.there
  have o5 : Cells _ _ _ (instA (dOp x) (dA x) (dB x) (dN x)) := K1.setAll [.int .i64 (dOp x), .int .i64 (dA x), .int .i64 (dB x), .int .i64 (dN x)] rfl
  have z5 : Cells _ _ _ (instA 0 0 0 0) := K1.setAll [.int .i64 0, .int .i64 0, .int .i64 0, .int .i64 0] rfl
  go_wp2_with (first
      | (with_reducible refine wpList_store_mid rfl 54 (.tmp 2) (.tmp 24) rfl w.heap.size 0 (instA 0 0 0 0) rfl rfl T0 hi0 ha0 ?_)
      | exact bodyPost_ret (res_row_tmp rfl _ _ w.heap.size 54 _ _ rfl z5 Try.underlying54 rfl hi) rfl ⟨rfl, below_setCells _ 0 B2 (Nat.le_refl _)⟩)
set_option maxRecDepth 100000 in
theorem cDecode_in {x : Int} (hok : okL x = true) (h0 : 0 ≤ x) (h1 : x < 4294967296) (w : World) : Calls Try.prog 20 #[.int .u32 x] w fun e w' =>
    e = .returned (.tuple #[.agg (instA (dOp x) (dA x) (dB x) (dN x)), .bool true]) ∧ Below w.heap.size w w' := by
  have b1 := and15 (x / 1048576) (by omega) (by omega)
  have b2 := and15 (x / 65536) (by omega) (by omega)
  have b3 := and65535 x h0 h1
  have b4 : IntKind.i16.wrap (x % 65536) = dN x := wrap16 _ (by omega) (by omega)
  have hn : -32768 ≤ dN x ∧ dN x ≤ 32767 := by unfold dN; split <;> omega
  have e1 := (show x / 16777216 = dOp x from rfl)
  have hlo : 0 ≤ dOp x ∧ dOp x < 256 := by unfold dOp; omega
  have e2 := (show x / 1048576 % 16 = dA x from rfl)
  have hla : 0 ≤ dA x ∧ dA x < 16 := by unfold dA; omega
  have e3 := (show x / 65536 % 16 = dB x from rfl)
  have hlb : 0 ≤ dB x ∧ dB x < 16 := by unfold dB; omega
  obtain ⟨K1, K2, Hb, hs⟩ := cells2 w (instA 0 0 0 0) (instA (dOp x) (dA x) (dB x) (dN x)) 54 54
  have hi : (Try.prog.info? 54).map (·.size) = some 4 := by kernel_rfl
  unfold instA at K1 K2 Hb hs
  obtain ⟨W, eW⟩ : ∃ W, (w.alloc (.cells #[.int .i64 0, .int .i64 0, .int .i64 0, .int .i64 0] 54)).alloc (.cells #[.int .i64 (dOp x), .int .i64 (dA x), .int .i64 (dB x), .int .i64 (dN x)] 54) = W := ⟨_, rfl⟩
  rw [eW] at K1 K2 Hb hs
  have k0 := (K2.cell 0).trans (show _ = some (Value.int .i64 (dOp x)) from rfl)
  have k1 := (K2.cell 1).trans (show _ = some (Value.int .i64 (dA x)) from rfl)
  have k2 := (K2.cell 2).trans (show _ = some (Value.int .i64 (dB x)) from rfl)
  have k3 := (K2.cell 3).trans (show _ = some (Value.int .i64 (dN x)) from rfl)
  go_enter Try.func20, Try.ntmps20
  go_wp2_with fail
  clear eW e1 e2 e3 b1 b2 b3 b4 k0 k1 k2 k3
  refine (cMay _ _ _ _ W).mono ?_
  have HO : mayL (dOp x) (dA x) (dB x) (dN x) = true := hok
  rw [HO]
  rintro e W2 ⟨rfl, hb2⟩
  clear HO hok
  have B2 := Hb.trans (hb2.mono Hb.size)
  have K1 := K1.below hb2 K1.lt
  have K2 := K2.below hb2 K2.lt
  have K2' : W2.heap[w.heap.size + 1]? = some (.cells (instA (dOp x) (dA x) (dB x) (dN x)) 54 (0, 0)) := K2
  have T1 : W2.there w.heap.size 0 (instA (dOp x) (dA x) (dB x) (dN x)).size := K1.there
  have hi0 : (Try.prog.info? 54).map (·.size) = some (instA 0 0 0 0).size := hi
  have hi1 : (Try.prog.info? 54).map (·.size) = some (instA (dOp x) (dA x) (dB x) (dN x)).size := hi
  have ha0 : (instA 0 0 0 0).all (·.oneCell') = true := by simp [Value.oneCell']
  have ha1 : (instA (dOp x) (dA x) (dB x) (dN x)).all (·.oneCell') = true := by simp [Value.oneCell']
  have T0 : W2.there w.heap.size 0 (instA 0 0 0 0).size := K1.there
  have o5 : Cells _ _ _ (instA (dOp x) (dA x) (dB x) (dN x)) := K1.setAll [.int .i64 (dOp x), .int .i64 (dA x), .int .i64 (dB x), .int .i64 (dN x)] rfl
  have z5 : Cells _ _ _ (instA 0 0 0 0) := K1.setAll [.int .i64 0, .int .i64 0, .int .i64 0, .int .i64 0] rfl
  go_wp2_with (first
      | (with_reducible refine wpList_load_row rfl 54 (.tmp 4) rfl (w.heap.size + 1) rfl 54 (instA (dOp x) (dA x) (dB x) (dN x)) (0, 0) _ K2' Try.underlying54 rfl hi1 ?_)
      | (with_reducible refine wpList_store_mid rfl 54 (.tmp 2) (.tmp 25) rfl w.heap.size 0 (instA (dOp x) (dA x) (dB x) (dN x)) rfl rfl T1 hi1 ha1 ?_)
      | exact bodyPost_ret (res_row_tmp rfl _ _ w.heap.size 54 _ _ rfl o5 Try.underlying54 rfl hi) rfl ⟨rfl, below_setCells _ 0 B2 (Nat.le_refl _)⟩)
end Go.Proofs.Ytmpnlhfnemidpaa
