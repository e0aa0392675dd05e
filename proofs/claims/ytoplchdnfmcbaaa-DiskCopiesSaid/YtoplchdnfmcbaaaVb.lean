/- The document's Used: contract. -/
import Derived.Test.YtoplchdnfmcbaaaVa
import Derived.Maps.AppendAt
namespace Go.Proofs.Ytoplchdnfmcbaaa
open Go.RowKit Go.Shelf

/-- The sectors below k that are not noughts. -/
def usedL (f : Int → List Int) : Nat → List Int
  | 0 => []
  | k + 1 => usedL f k ++ if f k = zeros then [] else [(k : Int)]
theorem usedL_len (f : Int → List Int) : ∀ k, (usedL f k).length ≤ k
  | 0 => Nat.le_refl _
  | k + 1 => by
    have := usedL_len f k
    unfold usedL
    rw [List.length_append]
    split <;> simp <;> omega
theorem usedL_mem {f : Int → List Int} : ∀ {k : Nat} {x : Int}, x ∈ usedL f k ↔ (0 ≤ x ∧ x < k) ∧ f x ≠ zeros
  | 0, x => by simp [usedL]; omega
  | k + 1, x => by
    unfold usedL
    rw [List.mem_append, usedL_mem (k := k)]
    by_cases h : f (k : Int) = zeros
    · rw [if_pos h]
      constructor
      · rintro (h1 | h1)
        · exact ⟨by omega, h1.2⟩
        · cases h1
      · rintro ⟨h1, h2⟩
        refine .inl ⟨?_, h2⟩
        have : x ≠ k := fun e => h2 (e ▸ h)
        omega
    · rw [if_neg h]
      constructor
      · rintro (h1 | h1)
        · exact ⟨by omega, h1.2⟩
        · simp at h1; subst h1; exact ⟨by omega, h⟩
      · rintro ⟨h1, h2⟩
        by_cases e : x = k
        · exact .inr (by simp [e])
        · exact .inl ⟨by omega, h2⟩
theorem usedL_sorted (f : Int → List Int) : ∀ k, (usedL f k).Pairwise (· < ·)
  | 0 => by simp [usedL]
  | k + 1 => by
    unfold usedL
    rw [List.pairwise_append]
    refine ⟨usedL_sorted f k, by split <;> simp, fun a ha b hb => ?_⟩
    have := (usedL_mem.1 ha).1
    split at hb
    · cases hb
    · simp at hb; omega
theorem info3 : (Try.prog.info? 3).map (fun i => (i.zero, i.size, i.bytes)) = some (some (.int .i64 0), 1, 8) := by kernel_rfl
set_option maxRecDepth 100000 in
set_option maxHeartbeats 2000000 in
theorem c21 {w : World} {N : Nat} {f : Int → List Int} {A : Option Addr} {l : List Int} {c : Nat} (hN : N ≤ 32) (hf : ∀ n, (f n).length = 64) (hrep : Rep l N f) (hr : Rd w w.heap.size .u8 A l) : Calls Try.prog 21 #[.slice A l.length c] w fun e w' => ∃ v, e = .returned v ∧ w'.ownsRow w.heap.size 3 1 v (usedL f N).length ((usedL f N).map (Value.int .i64)) ∧ Below w.heap.size w w' := by
  obtain ⟨i0, hi0, hz0, hz1, hz2⟩ := info_parts info3
  have hlen : (l.length : Int) = 64 * N := hrep.1
  have hdiv : (l.length : Int) / 64 = N := by omega
  have hz := zlit
  have HF := Lib.hid hf
  have HR := Lib.hid hrep
  clear hrep hf
  go_enter Try.func21, Try.ntmps21
  go_wp2_with fail
  go_loopw [3, 4] (fun v i wr => ∃ k : Nat, k ≤ N ∧ i = .int .i64 k ∧ wr.ownsRow w.heap.size 3 1 v (usedL f k).length ((usedL f k).map (Value.int .i64)) ∧ Below w.heap.size w wr) (fun _ i _ => N - (intOf i).toNat)
  case atStart => exact ⟨0, Nat.zero_le _, rfl, World.ownsRow_nil _ _ _ _, Below.refl _ _⟩
  case round =>
    obtain ⟨k, hk, rfl, hown, hb⟩ := hrel
    by_cases hlt : k < N
    · have hin : inL l k := (HR.out.inL k).2 ⟨by omega, by omega⟩
      have h12 := c12_in (c := c) (by omega) ((hr.below hb (Nat.le_refl _)).up hb.size) (k : Int) hin
      have hul := usedL_len f k
      rw [HR.out.2 k ⟨by omega, by omega⟩] at h12
      have hx := HF.out k
      have HU := Lib.hid (show usedL f (k + 1) = usedL f k ++ if f k = zeros then [] else [(k : Int)] from rfl)
      generalize f (k : Int) = x at *
      have hi := size28 hx
      simp only [secV] at h12
      have HO := Lib.hid hown
      have HB := Lib.hid hb
      clear hown hb hin
      go_wp2_with fail
      refine h12.mono ?_
      clear h12
      rintro e W1 ⟨rfl, hb1⟩
      obtain ⟨ho1, W2, hW2, c2, b2, s2⟩ := row_own W1 28 (intsA .u8 zeros) (intsA .u8 x) (by rw [intsA_size, intsA_size, hx]; rfl)
      have o1 := own_below HO.out hb1
      have o2 := own_below o1 b2
      have hB2 := (HB.out.trans (hb1.mono HB.out.size)).trans (b2.mono (by have := HB.out.size; have := hb1.size; omega))
      have c2' : W2.heap[W1.heap.size]? = some (.cells (intsA .u8 x) 28 (0, 0)) := c2
      have HB2 := Lib.hid hB2
      have hs2 := hB2.size
      clear o1 hb1 b2 hB2 s2
      by_cases hxz : x = zeros
      · have heq := fun w => (eqSec x zeros hx rfl w).trans (by rw [decide_eq_true hxz])
        rw [if_pos hxz, List.append_nil] at HU
        have HXZ := Lib.hid hxz
        clear hxz
        go_wp2_with (first
          | (with_reducible refine wpList_store_mid rfl 28 (.tmp 5) (.tmp 18) rfl W1.heap.size 0 (intsA .u8 x) rfl rfl ho1 hi (intsA_one _ _) ?_; rw [hW2])
          | (with_reducible refine wpList_load_row rfl 28 (.tmp 5) rfl W1.heap.size rfl 28 (intsA .u8 x) (0, 0) _ c2' Try.underlying28 rfl hi ?_))
        go_roundw
        case rel => exact ⟨k + 1, by omega, by go_num, by rw [HU.out]; exact o2, HB2.out⟩
        case measure => simp [intOf]; omega
      · have heq := fun w => (eqSec x zeros hx rfl w).trans (by rw [decide_eq_false hxz])
        rw [if_neg hxz] at HU
        have HXZ := Lib.hid hxz
        clear hxz
        go_wp2_with (first
          | (with_reducible refine wpList_store_mid rfl 28 (.tmp 5) (.tmp 18) rfl W1.heap.size 0 (intsA .u8 x) rfl rfl ho1 hi (intsA_one _ _) ?_; rw [hW2])
          | (with_reducible refine wpList_load_row rfl 28 (.tmp 5) rfl W1.heap.size rfl 28 (intsA .u8 x) (0, 0) _ c2' Try.underlying28 rfl hi ?_)
          | (at_builtin; refine wpList_append_lies _ rfl _ _ 51 rfl w.heap.size 3 i0 (.int .i64 0) 1 8 Try.underlying51 hi0 hz0 hz1 hz2 rfl (by decide) _ _ _ rfl (o2.alloc _) ⟨W2.heap.size, 0, none⟩ 1 1 [.int .i64 k] rfl rfl (cell_one_new _ _ _) (by simp [Value.oneCell']) (by decide) (by simp only [maxLen]; omega) (by omega) (by simp; omega) _ rfl ?_; intro g' cap' w3 hown' hgrow hat hlt'))
        have hb3 : Below w.heap.size w w3 := (HB2.out.alloc hs2 _).grown hgrow (by simp; omega) (fun b e => (o2.lt b e).1)
        go_roundw
        case rel => exact ⟨k + 1, by omega, by go_num, by rw [HU.out, List.length_append, List.map_append]; exact hown', hb3⟩
        case measure => simp [intOf]; omega
    · obtain rfl : k = N := by omega
      go_wp2_with fail
      go_ret
      exact ⟨_, rfl, hown, hb⟩
end Go.Proofs.Ytoplchdnfmcbaaa
