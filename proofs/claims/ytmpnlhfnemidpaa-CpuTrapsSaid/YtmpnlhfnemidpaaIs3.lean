/- The isa: Decode, and the document's May and Decode: contracts. -/
import Derived.Test.YtmpnlhfnemidpaaIs2
namespace Go.Proofs.Ytmpnlhfnemidpaa
open Go.RowKit Go.Shelf

/-! ### Decode -/
def dOp (w : Int) : Int := w / 16777216
def dA (w : Int) : Int := w / 1048576 % 16
def dB (w : Int) : Int := w / 65536 % 16
def dN (w : Int) : Int := if 32767 < w % 65536 then w % 65536 - 65536 else w % 65536
def okL (w : Int) : Bool := mayL (dOp w) (dA w) (dB w) (dN w)
theorem wrap16 (m : Int) (h0 : 0 ≤ m) (h1 : m < 65536) : IntKind.i16.wrap m = if 32767 < m then m - 65536 else m := by
  show (if (true && decide (m % 65536 ≥ 32768)) = true then m % 65536 - 65536 else m % 65536) = _
  rw [Int.emod_eq_of_lt h0 h1]
  by_cases h : m ≥ 32768
  · simp only [h, decide_true, Bool.and_self, if_true]; rw [if_pos (by omega)]
  · simp only [h, decide_false, Bool.and_false, Bool.false_eq_true, if_false]; rw [if_neg (by omega)]
theorem and15 (n : Int) (h0 : 0 ≤ n) (h1 : n < 4294967296) : bits .and .u32 n 15 = n % 16 :=
  bits_mask .u32 32 (by decide) (fun n h h' => by rw [IntKind.wrap_u32]; omega) 4 (by decide) n h0 h1
theorem and65535 (n : Int) (h0 : 0 ≤ n) (h1 : n < 4294967296) : bits .and .u32 n 65535 = n % 65536 :=
  bits_mask .u32 32 (by decide) (fun n h h' => by rw [IntKind.wrap_u32]; omega) 16 (by decide) n h0 h1
set_option maxRecDepth 100000 in
theorem cDecode_out {x : Int} (hok : okL x = false) (h0 : 0 ≤ x) (h1 : x < 4294967296) (w : World) : Calls Try.prog 20 #[.int .u32 x] w fun e w' =>
    e = .returned (.tuple #[.agg (instA 0 0 0 0), .bool false]) ∧ Below w.heap.size w w' := by
  have b1 := and15 (x / 1048576) (by omega) (by omega)
  have b2 := and15 (x / 65536) (by omega) (by omega)
  have b3 := and65535 x h0 h1
  have b4 : IntKind.i16.wrap (x % 65536) = dN x := wrap16 _ (by omega) (by omega)
  have hn : -32768 ≤ dN x ∧ dN x ≤ 32767 := by unfold dN; split <;> omega
  have e1 := (show x / 16777216 = dOp x from rfl)
  have hlo : 0 ≤ dOp x ∧ dOp x < 256 := by unfold dOp; omega
  have e2 := (show x / 1048576 % 16 = dA x from rfl)
  have hla : 0 ≤ dA x ∧ dA x < 16 := by unfold dA; omega
  have e3 := (show x / 65536 % 16 = dB x from rfl)
  have hlb : 0 ≤ dB x ∧ dB x < 16 := by unfold dB; omega
  obtain ⟨K1, K2, Hb, hs⟩ := cells2 w (instA 0 0 0 0) (instA (dOp x) (dA x) (dB x) (dN x)) 54 54
  have hi : (Try.prog.info? 54).map (·.size) = some 4 := by kernel_rfl
  unfold instA at K1 K2 Hb hs
  obtain ⟨W, eW⟩ : ∃ W, (w.alloc (.cells #[.int .i64 0, .int .i64 0, .int .i64 0, .int .i64 0] 54)).alloc (.cells #[.int .i64 (dOp x), .int .i64 (dA x), .int .i64 (dB x), .int .i64 (dN x)] 54) = W := ⟨_, rfl⟩
  rw [eW] at K1 K2 Hb hs
  have k0 := (K2.cell 0).trans (show _ = some (Value.int .i64 (dOp x)) from rfl)
  have k1 := (K2.cell 1).trans (show _ = some (Value.int .i64 (dA x)) from rfl)
  have k2 := (K2.cell 2).trans (show _ = some (Value.int .i64 (dB x)) from rfl)
  have k3 := (K2.cell 3).trans (show _ = some (Value.int .i64 (dN x)) from rfl)
  go_enter Try.func20, Try.ntmps20
  go_wp2_with fail
  clear eW e1 e2 e3 b1 b2 b3 b4 k0 k1 k2 k3
  refine (cMay _ _ _ _ W).mono ?_
  have HO : mayL (dOp x) (dA x) (dB x) (dN x) = false := hok
  rw [HO]
  rintro e W2 ⟨rfl, hb2⟩
  clear HO hok
  have B2 := Hb.trans (hb2.mono Hb.size)
  have K1 := K1.below hb2 K1.lt
  have K2 := K2.below hb2 K2.lt
  have K2' : W2.heap[w.heap.size + 1]? = some (.cells (instA (dOp x) (dA x) (dB x) (dN x)) 54 (0, 0)) := K2
  have T1 : W2.there w.heap.size 0 (instA (dOp x) (dA x) (dB x) (dN x)).size := K1.there
  have hi0 : (Try.prog.info? 54).map (·.size) = some (instA 0 0 0 0).size := hi
  have hi1 : (Try.prog.info? 54).map (·.size) = some (instA (dOp x) (dA x) (dB x) (dN x)).size := hi
  have ha0 : (instA 0 0 0 0).all (·.oneCell') = true := by simp [Value.oneCell']
  have ha1 : (instA (dOp x) (dA x) (dB x) (dN x)).all (·.oneCell') = true := by simp [Value.oneCell']
  have T0 : W2.there w.heap.size 0 (instA 0 0 0 0).size := K1.there
  have o5 : Cells _ _ _ (instA (dOp x) (dA x) (dB x) (dN x)) := K1.setAll [.int .i64 (dOp x), .int .i64 (dA x), .int .i64 (dB x), .int .i64 (dN x)] rfl
  have z5 : Cells _ _ _ (instA 0 0 0 0) := K1.setAll [.int .i64 0, .int .i64 0, .int .i64 0, .int .i64 0] rfl
  go_wp2_with (first
      | (with_reducible refine wpList_store_mid rfl 54 (.tmp 2) (.tmp 24) rfl w.heap.size 0 (instA 0 0 0 0) rfl rfl T0 hi0 ha0 ?_)
      | exact bodyPost_ret (res_row_tmp rfl _ _ w.heap.size 54 _ _ rfl z5 Try.underlying54 rfl hi) rfl ⟨rfl, below_setCells _ 0 B2 (Nat.le_refl _)⟩)
set_option maxRecDepth 100000 in
theorem cDecode_in {x : Int} (hok : okL x = true) (h0 : 0 ≤ x) (h1 : x < 4294967296) (w : World) : Calls Try.prog 20 #[.int .u32 x] w fun e w' =>
    e = .returned (.tuple #[.agg (instA (dOp x) (dA x) (dB x) (dN x)), .bool true]) ∧ Below w.heap.size w w' := by
  have b1 := and15 (x / 1048576) (by omega) (by omega)
  have b2 := and15 (x / 65536) (by omega) (by omega)
  have b3 := and65535 x h0 h1
  have b4 : IntKind.i16.wrap (x % 65536) = dN x := wrap16 _ (by omega) (by omega)
  have hn : -32768 ≤ dN x ∧ dN x ≤ 32767 := by unfold dN; split <;> omega
  have e1 := (show x / 16777216 = dOp x from rfl)
  have hlo : 0 ≤ dOp x ∧ dOp x < 256 := by unfold dOp; omega
  have e2 := (show x / 1048576 % 16 = dA x from rfl)
  have hla : 0 ≤ dA x ∧ dA x < 16 := by unfold dA; omega
  have e3 := (show x / 65536 % 16 = dB x from rfl)
  have hlb : 0 ≤ dB x ∧ dB x < 16 := by unfold dB; omega
  obtain ⟨K1, K2, Hb, hs⟩ := cells2 w (instA 0 0 0 0) (instA (dOp x) (dA x) (dB x) (dN x)) 54 54
  have hi : (Try.prog.info? 54).map (·.size) = some 4 := by kernel_rfl
  unfold instA at K1 K2 Hb hs
  obtain ⟨W, eW⟩ : ∃ W, (w.alloc (.cells #[.int .i64 0, .int .i64 0, .int .i64 0, .int .i64 0] 54)).alloc (.cells #[.int .i64 (dOp x), .int .i64 (dA x), .int .i64 (dB x), .int .i64 (dN x)] 54) = W := ⟨_, rfl⟩
  rw [eW] at K1 K2 Hb hs
  have k0 := (K2.cell 0).trans (show _ = some (Value.int .i64 (dOp x)) from rfl)
  have k1 := (K2.cell 1).trans (show _ = some (Value.int .i64 (dA x)) from rfl)
  have k2 := (K2.cell 2).trans (show _ = some (Value.int .i64 (dB x)) from rfl)
  have k3 := (K2.cell 3).trans (show _ = some (Value.int .i64 (dN x)) from rfl)
  go_enter Try.func20, Try.ntmps20
  go_wp2_with fail
  clear eW e1 e2 e3 b1 b2 b3 b4 k0 k1 k2 k3
  refine (cMay _ _ _ _ W).mono ?_
  have HO : mayL (dOp x) (dA x) (dB x) (dN x) = true := hok
  rw [HO]
  rintro e W2 ⟨rfl, hb2⟩
  clear HO hok
  have B2 := Hb.trans (hb2.mono Hb.size)
  have K1 := K1.below hb2 K1.lt
  have K2 := K2.below hb2 K2.lt
  have K2' : W2.heap[w.heap.size + 1]? = some (.cells (instA (dOp x) (dA x) (dB x) (dN x)) 54 (0, 0)) := K2
  have T1 : W2.there w.heap.size 0 (instA (dOp x) (dA x) (dB x) (dN x)).size := K1.there
  have hi0 : (Try.prog.info? 54).map (·.size) = some (instA 0 0 0 0).size := hi
  have hi1 : (Try.prog.info? 54).map (·.size) = some (instA (dOp x) (dA x) (dB x) (dN x)).size := hi
  have ha0 : (instA 0 0 0 0).all (·.oneCell') = true := by simp [Value.oneCell']
  have ha1 : (instA (dOp x) (dA x) (dB x) (dN x)).all (·.oneCell') = true := by simp [Value.oneCell']
  have T0 : W2.there w.heap.size 0 (instA 0 0 0 0).size := K1.there
  have o5 : Cells _ _ _ (instA (dOp x) (dA x) (dB x) (dN x)) := K1.setAll [.int .i64 (dOp x), .int .i64 (dA x), .int .i64 (dB x), .int .i64 (dN x)] rfl
  have z5 : Cells _ _ _ (instA 0 0 0 0) := K1.setAll [.int .i64 0, .int .i64 0, .int .i64 0, .int .i64 0] rfl
  go_wp2_with (first
      | (with_reducible refine wpList_load_row rfl 54 (.tmp 4) rfl (w.heap.size + 1) rfl 54 (instA (dOp x) (dA x) (dB x) (dN x)) (0, 0) _ K2' Try.underlying54 rfl hi1 ?_)
      | (with_reducible refine wpList_store_mid rfl 54 (.tmp 2) (.tmp 25) rfl w.heap.size 0 (instA (dOp x) (dA x) (dB x) (dN x)) rfl rfl T1 hi1 ha1 ?_)
      | exact bodyPost_ret (res_row_tmp rfl _ _ w.heap.size 54 _ _ rfl o5 Try.underlying54 rfl hi) rfl ⟨rfl, below_setCells _ 0 B2 (Nat.le_refl _)⟩)
end Go.Proofs.Ytmpnlhfnemidpaa
