/- The laws CpuOps, CpuPorts, CpuSums, CpuBranches: the walks. -/
import Derived.Test.YtmpnlhfnemidpaaSn
import Derived.Test.YtmpnlhfnemidpaaKn
import Derived.Test.YtmpnlhfnemidpaaOp
namespace Go.Proofs.Ytmpnlhfnemidpaa
open Go.RowKit Go.Shelf
theorem or_u32 (a b : Int) : u32? (bits .or .u32 a b) := u32_of_wf (wf_bits _ _ _ _)
theorem wrap_u32 (a : Int) : u32? (IntKind.u32.wrap a) := u32_of_wf (wf_wrap _ _)
set_option maxRecDepth 100000 in
set_option maxHeartbeats 4000000 in
theorem cCpuOps {s : St} (hs : s.ok) {r m : Int} (r0 : 0 ≤ r) (r1 : r < 256) (m0 : 0 ≤ m) (m1 : m < 65536) (w : World) : Calls Try.prog 6 #[.agg (stA s), .int .u8 r, .int .u16 m] w fun e w' => e = .returned (.bool true) ∧ Below w.heap.size w w' := by
  obtain ⟨K1, Hb, hsz⟩ := cells1 w (stA s) 25
  have HO := Lib.hid (fun (x t : Int) (hx : u32? x) (ht : u32? t) W => cOne hs hx ht W)
  have h8 := hs.len
  have hi := hi25 hs.len
  clear hs hsz
  go_enter Try.func6, Try.ntmps6
  go_wp2_with fail
  generalize w.alloc _ = W at *
  have AS : StAt W w.heap.size s := ⟨K1, h8⟩
  clear K1
  go_loopw [7] (fun o wr => ∃ k : Nat, k ≤ 30 ∧ o = .int .u32 k ∧ Below W.heap.size W wr) (fun o _ => 30 - (intOf o).toNat)
  case atStart => exact ⟨0, by omega, rfl, Below.refl _ _⟩
  case round =>
    obtain ⟨k, hk, rfl, hb⟩ := hrel
    by_cases hlt : k < 30
    · have AC := (AS.below hb AS.lt).row
      have A' : wr.heap[w.heap.size]? = some (.cells (stA s) 25 (0, 0)) := AC
      have B := hb
      go_wp2_with (first
        | (with_reducible refine wpList_load_row rfl 25 (.tmp 3) rfl w.heap.size rfl 25 (stA s) (0, 0) _ A' Try.underlying25 rfl hi ?_)
        | ((with_reducible refine wpList_row_g 25 (.tmp 3) rfl w.heap.size rfl 25 (stA s) (0, 0) _ A' Try.underlying25 rfl hi ?_ ?_); (focus (simp [Region.wanted, yielded]; done)); simp only [Act.put, List.setIfInBounds_toArray, List.set_cons_zero, List.set_cons_succ])
        | (go_at_call 16; refine (HO.out _ _ (by first | exact or_u32 _ _ | exact wrap_u32 _ | exact ⟨by omega, by omega⟩) (by first | exact or_u32 _ _ | exact wrap_u32 _ | exact ⟨by omega, by omega⟩) _).mono ?_; rintro e w1 ⟨rfl, hb1⟩; clear A'; replace AC := AC.below hb1 AC.lt; have A' : w1.heap[w.heap.size]? = some (.cells (stA s) 25 (0, 0)) := AC; replace B := B.trans (hb1.mono B.size); clear hb1))
      go_roundw
      case rel => exact ⟨k + 1, by omega, by go_num, B⟩
      case measure => simp [intOf]; omega
    · obtain rfl : k = 30 := by omega
      go_wp2_with fail
      refine (cKnown _).mono ?_
      rintro e W1 ⟨rfl, hb1⟩
      go_wp2
      go_ret
      exact ⟨rfl, Hb.trans ((hb.trans (hb1.mono hb.size)).mono Hb.size)⟩
set_option maxRecDepth 100000 in
set_option maxHeartbeats 4000000 in
theorem cCpuPorts {s : St} (hs : s.ok) {r : Int} (r0 : 0 ≤ r) (r1 : r < 256) (w : World) : Calls Try.prog 7 #[.agg (stA s), .int .u8 r] w fun e w' => e = .returned (.bool true) ∧ Below w.heap.size w w' := by
  obtain ⟨K1, Hb, hsz⟩ := cells1 w (stA s) 25
  have HO := Lib.hid (fun (x t : Int) (hx : u32? x) (ht : u32? t) W => cOne hs hx ht W)
  have h8 := hs.len
  have hi := hi25 hs.len
  clear hs hsz
  go_enter Try.func7, Try.ntmps7
  go_wp2_with fail
  generalize w.alloc _ = W at *
  have AS : StAt W w.heap.size s := ⟨K1, h8⟩
  clear K1
  go_loopw [5, 6, 7] (fun o _ _ wr => ∃ k : Nat, 22 ≤ k ∧ k ≤ 28 ∧ o = .int .u32 k ∧ Below W.heap.size W wr) (fun o _ _ _ => 28 - (intOf o).toNat)
  case atStart => exact ⟨22, by omega, by omega, rfl, Below.refl _ _⟩
  case round =>
    obtain ⟨k, hk0, hk, rfl, hb⟩ := hrel
    by_cases hlt : k < 28
    · generalize wr = wo at *
      have hdk : decide ((k : Int) < 28) = true := by simp; omega
      go_wp2_with fail
      go_loopw [6, 7] (fun o _ wr => ∃ j : Nat, j ≤ 15 ∧ o = .int .i64 j ∧ Below W.heap.size W wr) (fun o _ _ => 15 - (intOf o).toNat)
      case atStart => exact ⟨0, by omega, rfl, hb⟩
      case round =>
        obtain ⟨j, hj, rfl, hbj⟩ := hrel
        clear hb
        by_cases hlj : j < 15
        · have AC := (AS.below hbj AS.lt).row
          have A' : wr.heap[w.heap.size]? = some (.cells (stA s) 25 (0, 0)) := AC
          have B := hbj
          go_wp2_with (first
            | (with_reducible refine wpList_load_row rfl 25 (.tmp 2) rfl w.heap.size rfl 25 (stA s) (0, 0) _ A' Try.underlying25 rfl hi ?_)
            | ((with_reducible refine wpList_row_g 25 (.tmp 2) rfl w.heap.size rfl 25 (stA s) (0, 0) _ A' Try.underlying25 rfl hi ?_ ?_); (focus (simp [Region.wanted, yielded]; done)); simp only [Act.put, List.setIfInBounds_toArray, List.set_cons_zero, List.set_cons_succ])
            | (go_at_call 16; refine (HO.out _ _ (by first | exact or_u32 _ _ | exact wrap_u32 _ | exact ⟨by omega, by omega⟩) (by first | exact or_u32 _ _ | exact wrap_u32 _ | exact ⟨by omega, by omega⟩) _).mono ?_; rintro e w1 ⟨rfl, hb1⟩; clear A'; replace AC := AC.below hb1 AC.lt; have A' : w1.heap[w.heap.size]? = some (.cells (stA s) 25 (0, 0)) := AC; replace B := B.trans (hb1.mono B.size); clear hb1))
          go_roundw
          case rel => exact ⟨j + 1, by omega, by go_num, B⟩
          case measure => simp [intOf]; omega
        · obtain rfl : j = 15 := by omega
          go_wp2_with fail
          go_roundw
          case rel => exact ⟨k + 1, by omega, by omega, by go_num, hbj⟩
          case measure => simp [intOf]; omega
    · obtain rfl : k = 28 := by omega
      go_wp2_with fail
      refine (cKnown _).mono ?_
      rintro e W1 ⟨rfl, hb1⟩
      go_wp2
      go_ret
      exact ⟨rfl, Hb.trans ((hb.trans (hb1.mono hb.size)).mono Hb.size)⟩
def sumSt (a b : Int) : St := ⟨[0, a, b, 0, 0, 0, 0, 0], 0, 0, 0, 0, 0, true, false, false⟩
theorem u32_zero : u32? 0 := ⟨by decide, by decide⟩
theorem sumSt_ok {a b : Int} (ha : u32? a) (hb : u32? b) : (sumSt a b).ok := ⟨rfl, by
  intro x hx
  simp only [sumSt, List.mem_cons, List.not_mem_nil, or_false] at hx
  rcases hx with rfl | rfl | rfl | rfl | rfl | rfl | rfl | rfl <;> first | exact ha | exact hb | exact u32_zero, u32_zero, u32_zero, u32_zero, u32_zero, u32_zero⟩
def brSt (a b p : Int) : St := ⟨[0, a, b, a, 0, 0, 0, 0], p, 0, 0, 64, 0, true, false, false⟩
theorem brSt_ok {a b p : Int} (ha : u32? a) (hb : u32? b) (hp : u32? p) : (brSt a b p).ok := ⟨rfl, by
  intro x hx
  simp only [brSt, List.mem_cons, List.not_mem_nil, or_false] at hx
  rcases hx with rfl | rfl | rfl | rfl | rfl | rfl | rfl | rfl <;> first | exact ha | exact hb | exact u32_zero, hp, u32_zero, u32_zero, (show u32? 64 from ⟨by decide, by decide⟩), u32_zero⟩
set_option maxRecDepth 100000 in
set_option maxHeartbeats 4000000 in
theorem cCpuSums {a b m : Int} (ha : u32? a) (hb2 : u32? b) (m0 : 0 ≤ m) (m1 : m < 65536) (w : World) : Calls Try.prog 9 #[.int .u32 a, .int .u32 b, .int .u16 m] w fun e w' => e = .returned (.bool true) ∧ Below w.heap.size w w' := by
  have hs := sumSt_ok ha hb2
  obtain ⟨K1, Hb, hsz⟩ := cells1 w (stA (sumSt a b)) 25
  have HO := Lib.hid (fun (x t : Int) (hx : u32? x) (ht : u32? t) W => cOne hs hx ht W)
  have h8 := hs.len
  have hi := hi25 hs.len
  have hlit : w.alloc (.cells #[.int .u32 0, .int .u32 a, .int .u32 b, .int .u32 0, .int .u32 0, .int .u32 0, .int .u32 0, .int .u32 0, .int .u32 0, .int .u32 0, .int .u32 0, .int .u32 0, .int .u32 0, .bool true, .bool false, .bool false] 25) = w.alloc (.cells (stA (sumSt a b)) 25) := rfl
  have HLIT := Lib.hid hlit
  generalize sumSt a b = s at *
  clear hs hsz ha hb2 hlit
  go_enter Try.func9, Try.ntmps9
  go_wp2_with fail
  rw [HLIT.out]
  clear HLIT
  generalize w.alloc _ = W at *
  have AS : StAt W w.heap.size s := ⟨K1, h8⟩
  clear K1
  go_loopw [8, 9, 10] (fun o _ _ wr => ∃ k : Nat, 2 ≤ k ∧ k ≤ 13 ∧ o = .int .u32 k ∧ Below W.heap.size W wr) (fun o _ _ _ => 13 - (intOf o).toNat)
  case atStart => exact ⟨2, by omega, by omega, rfl, Below.refl _ _⟩
  case round =>
    obtain ⟨k, hk0, hk, rfl, hb⟩ := hrel
    by_cases hlt : k < 13
    · generalize wr = wo at *
      have hdk : decide ((k : Int) < 13) = true := by simp; omega
      go_wp2_with fail
      go_loopw [9, 10] (fun o _ wr => ∃ j : Nat, j ≤ 4 ∧ o = .int .u32 j ∧ Below W.heap.size W wr) (fun o _ _ => 4 - (intOf o).toNat)
      case atStart => exact ⟨0, by omega, rfl, hb⟩
      case round =>
        obtain ⟨j, hj, rfl, hbj⟩ := hrel
        clear hb
        by_cases hlj : j < 4
        · have AC := (AS.below hbj AS.lt).row
          have A' : wr.heap[w.heap.size]? = some (.cells (stA s) 25 (0, 0)) := AC
          have B := hbj
          go_wp2_with (first
            | (with_reducible refine wpList_load_row rfl 25 (.tmp 7) rfl w.heap.size rfl 25 (stA s) (0, 0) _ A' Try.underlying25 rfl hi ?_)
            | ((with_reducible refine wpList_row_g 25 (.tmp 7) rfl w.heap.size rfl 25 (stA s) (0, 0) _ A' Try.underlying25 rfl hi ?_ ?_); (focus (simp [Region.wanted, yielded]; done)); simp only [Act.put, List.setIfInBounds_toArray, List.set_cons_zero, List.set_cons_succ])
            | (go_at_call 16; refine (HO.out _ _ (by first | exact or_u32 _ _ | exact wrap_u32 _ | exact ⟨by omega, by omega⟩) (by first | exact or_u32 _ _ | exact wrap_u32 _ | exact ⟨by omega, by omega⟩) _).mono ?_; rintro e w1 ⟨rfl, hb1⟩; clear A'; replace AC := AC.below hb1 AC.lt; have A' : w1.heap[w.heap.size]? = some (.cells (stA s) 25 (0, 0)) := AC; replace B := B.trans (hb1.mono B.size); clear hb1))
          go_roundw
          case rel => exact ⟨j + 1, by omega, by go_num, B⟩
          case measure => simp [intOf]; omega
        · obtain rfl : j = 4 := by omega
          go_wp2_with fail
          go_roundw
          case rel => exact ⟨k + 1, by omega, by omega, by go_num, hbj⟩
          case measure => simp [intOf]; omega
    · obtain rfl : k = 13 := by omega
      go_wp2_with fail
      refine (cKnown _).mono ?_
      rintro e W1 ⟨rfl, hb1⟩
      go_wp2
      go_ret
      exact ⟨rfl, Hb.trans ((hb.trans (hb1.mono hb.size)).mono Hb.size)⟩
set_option maxRecDepth 100000 in
set_option maxHeartbeats 4000000 in
theorem cCpuBranches {a b x t : Int} (ha : u32? a) (hb2 : u32? b) (hx : u32? x) (ht : u32? t) (w : World) : Calls Try.prog 10 #[.int .u32 a, .int .u32 b, .agg #[.int .u32 x, .int .u32 t]] w fun e w' => e = .returned (.bool true) ∧ Below w.heap.size w w' := by
  have hs := brSt_ok ha hb2 ht
  obtain ⟨KT, K1, Hb, hsz⟩ := cells2 w #[.int .u32 x, .int .u32 t] (stA (brSt a b t)) 34 25
  have HO := Lib.hid (fun (x t : Int) (hx : u32? x) (ht : u32? t) W => cOne hs hx ht W)
  have h8 := hs.len
  have hi := hi25 hs.len
  have hlit : (w.alloc (.cells #[.int .u32 x, .int .u32 t] 34)).alloc (.cells #[.int .u32 0, .int .u32 a, .int .u32 b, .int .u32 a, .int .u32 0, .int .u32 0, .int .u32 0, .int .u32 0, .int .u32 t, .int .u32 0, .int .u32 0, .int .u32 64, .int .u32 0, .bool true, .bool false, .bool false] 25) = (w.alloc (.cells #[.int .u32 x, .int .u32 t] 34)).alloc (.cells (stA (brSt a b t)) 25) := rfl
  have HLIT := Lib.hid hlit
  generalize brSt a b t = s at *
  obtain ⟨x0, x1⟩ := hx
  clear hs hsz ha hb2 hlit
  go_enter Try.func10, Try.ntmps10
  go_wp2_with fail
  rw [HLIT.out]
  clear HLIT
  generalize (w.alloc _).alloc _ = W at *
  have AS : StAt W (w.heap.size + 1) s := ⟨K1, h8⟩
  clear K1
  go_loopw [8, 9, 10] (fun o _ _ wr => ∃ k : Nat, 17 ≤ k ∧ k ≤ 22 ∧ o = .int .u32 k ∧ Below W.heap.size W wr) (fun o _ _ _ => 22 - (intOf o).toNat)
  case atStart => exact ⟨17, by omega, by omega, rfl, Below.refl _ _⟩
  case round =>
    obtain ⟨k, hk0, hk, rfl, hb⟩ := hrel
    by_cases hlt : k < 22
    · generalize wr = wo at *
      have hdk : decide ((k : Int) < 22) = true := by simp; omega
      go_wp2_with fail
      go_loopw [9, 10] (fun o _ wr => ∃ j : Nat, j ≤ 9 ∧ o = .int .u32 j ∧ Below W.heap.size W wr) (fun o _ _ => 9 - (intOf o).toNat)
      case atStart => exact ⟨0, by omega, rfl, hb⟩
      case round =>
        obtain ⟨j, hj, rfl, hbj⟩ := hrel
        clear hb
        by_cases hlj : j < 9
        · have AC := (AS.below hbj AS.lt).row
          have A' : wr.heap[(w.heap.size + 1)]? = some (.cells (stA s) 25 (0, 0)) := AC
          have B := hbj
          have KX := KT.below hbj KT.lt
          have cx := (KX.cell 0).trans (show _ = some (Value.int .u32 x) from rfl)
          go_wp2_with (first
            | (with_reducible refine wpList_load_row rfl 25 (.tmp 7) rfl (w.heap.size + 1) rfl 25 (stA s) (0, 0) _ A' Try.underlying25 rfl hi ?_)
            | ((with_reducible refine wpList_row_g 25 (.tmp 7) rfl (w.heap.size + 1) rfl 25 (stA s) (0, 0) _ A' Try.underlying25 rfl hi ?_ ?_); (focus (simp [Region.wanted, yielded]; done)); simp only [Act.put, List.setIfInBounds_toArray, List.set_cons_zero, List.set_cons_succ])
            | (go_at_call 16; refine (HO.out _ _ (by first | exact or_u32 _ _ | exact wrap_u32 _ | exact ⟨by omega, by omega⟩) (by first | exact or_u32 _ _ | exact wrap_u32 _ | exact ⟨by omega, by omega⟩) _).mono ?_; rintro e w1 ⟨rfl, hb1⟩; clear A'; replace AC := AC.below hb1 AC.lt; have A' : w1.heap[(w.heap.size + 1)]? = some (.cells (stA s) 25 (0, 0)) := AC; replace B := B.trans (hb1.mono B.size); clear cx; replace KX := KX.below hb1 KX.lt; have cx := (KX.cell 0).trans (show _ = some (Value.int .u32 x) from rfl); clear hb1))
          go_roundw
          case rel => exact ⟨j + 1, by omega, by go_num, B⟩
          case measure => simp [intOf]; omega
        · obtain rfl : j = 9 := by omega
          go_wp2_with fail
          go_roundw
          case rel => exact ⟨k + 1, by omega, by omega, by go_num, hbj⟩
          case measure => simp [intOf]; omega
    · obtain rfl : k = 22 := by omega
      go_wp2_with fail
      refine (cKnown _).mono ?_
      rintro e W1 ⟨rfl, hb1⟩
      go_wp2
      go_ret
      exact ⟨rfl, Hb.trans ((hb.trans (hb1.mono hb.size)).mono Hb.size)⟩
end Go.Proofs.Ytmpnlhfnemidpaa
