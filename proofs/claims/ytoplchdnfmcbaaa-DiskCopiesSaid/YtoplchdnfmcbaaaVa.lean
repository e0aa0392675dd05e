/- The bytes of a disk: contract. -/
import Derived.Test.YtoplchdnfmcbaaaG
import Derived.LoopTactic
import Derived.Deep.AppendLies
namespace Go.Proofs.Ytoplchdnfmcbaaa
open Go.RowKit Go.Shelf

/-- The bytes of the first k sectors. -/
def bytesL (f : Int → List Int) : Nat → List Int
  | 0 => []
  | k + 1 => bytesL f k ++ f k
theorem bytesL_len {f : Int → List Int} (hf : ∀ n, (f n).length = 64) : ∀ k, (bytesL f k).length = 64 * k
  | 0 => rfl
  | k + 1 => by rw [bytesL, List.length_append, bytesL_len hf k, hf]; omega
theorem own_below {w w' : World} {base : Nat} {e : TypeId} {size n : Nat} {v : Value} {xs : List Value} (h : w.ownsRow base e size v n xs) (hb : Below w.heap.size w w') : w'.ownsRow base e size v n xs :=
  h.kept (row := none) ⟨hb.os, hb.tape, hb.output, hb.size, fun k hk _ => hb.block k hk⟩ (by cases v.ownBlock <;> simp)
theorem lie64 (x : List Int) (w : World) (c : Nat) (B : Nat) (t : TypeId) (h : Cells w B t (intsA .u8 x)) : ∀ j u, (x.map (Value.int .u8))[j]? = some u → w.cell? ((⟨B, 0, none⟩ : Addr).add j) = some u := fun j u hu => by
  rw [addr_add, Nat.zero_add, h.cell j]
  simpa [intsA] using hu
set_option maxRecDepth 100000 in
set_option maxHeartbeats 2000000 in
theorem c24 {w : World} {db mb N : Nat} {m : List (Int × List Int)} (h : IsDisk w db mb N m) : Calls Try.prog 24 #[.pointer (some ⟨db, 0, none⟩)] w fun e w' => ∃ v, e = .returned v ∧ w'.ownsRow w.heap.size 5 1 v (bytesL (secL m) N).length ((bytesL (secL m) N).map (Value.int .u8)) ∧ Below w.heap.size w w' := by
  obtain ⟨i0, hi0, hz0, hz1, hz2⟩ := info_parts info5
  have hN : N ≤ 32 := by have := h.hi; omega
  have h23 := c23 h
  have hl : ∀ W : World, ∀ n : Int, W.heap[mb]? = w.heap[mb]? → (Instr.lookup 61 (.map (some mb)) (.int .i64 n) false).run Try.prog W = .ok (secV (secL m n)) W := by
    intro W n hW
    rw [run_lookup_ints (h.hm.of_block hW) Try.underlying61 Try.underlying3 (zero28 W) n, lookup_encM]
  have hlen := fun n => (h.good.sec n).1
  have HL := Lib.hid hl
  have HN := Lib.hid hlen
  have HD := Lib.hid h
  have hz := zlit
  clear hl hlen h
  go_enter Try.func24, Try.ntmps24
  go_wp2_with fail
  refine h23.mono ?_
  clear h23
  rintro e w' ⟨rfl, rfl⟩
  go_wp2_with fail
  go_loopw [3, 8] (fun v i wr => ∃ k : Nat, k ≤ N ∧ i = .int .i64 k ∧ wr.ownsRow w.heap.size 5 1 v (bytesL (secL m) k).length ((bytesL (secL m) k).map (Value.int .u8)) ∧ Below w.heap.size w wr) (fun _ i _ => N - (intOf i).toNat)
  case atStart => exact ⟨0, Nat.zero_le _, rfl, World.ownsRow_nil _ _ _ _, Below.refl _ _⟩
  case round =>
    obtain ⟨k, hk, rfl, hown, hb⟩ := hrel
    by_cases hlt : k < N
    · have d := HD.out.below hb
      have q1 := (d.hd.cell 1).trans (show _ = some (Value.map (some mb)) from rfl)
      have hl := HL.out wr k (hb.block _ HD.out.hm.lt)
      have hx := HN.out k
      have HX := Lib.hid (show bytesL (secL m) (k + 1) = bytesL (secL m) k ++ secL m k from rfl)
      have hbl : (bytesL (secL m) k).length ≤ 64 * k := Nat.le_of_eq (bytesL_len HN.out k)
      have HO := Lib.hid hown
      have HBB := Lib.hid hb
      obtain ⟨ho1, W2, hW2, c2, b2, s2⟩ := row_own wr 28 (intsA .u8 zeros) (intsA .u8 (secL m k)) (by rw [intsA_size, intsA_size, hx]; rfl)
      generalize secL m (k : Int) = x at *
      have hi := size28 hx
      simp only [secV] at hl
      have o2 := own_below HO.out b2
      have hs2 : w.heap.size ≤ W2.heap.size := by have := HBB.out.size; omega
      go_wp2_with (first
        | (with_reducible refine wpList_store_mid rfl 28 (.tmp 5) (.tmp 16) rfl wr.heap.size 0 (intsA .u8 x) rfl rfl ho1 hi (intsA_one _ _) ?_; rw [hW2])
        | (at_builtin; refine wpList_append_lies _ rfl _ _ 25 rfl w.heap.size 5 i0 (.int .u8 0) 1 1 Try.underlying25 hi0 hz0 hz1 hz2 rfl (by decide) _ _ _ rfl o2 ⟨wr.heap.size, 0, none⟩ 64 64 (x.map (Value.int .u8)) rfl (by rw [List.length_map, hx]) (lie64 x W2 0 wr.heap.size 28 c2) (by simp [Value.oneCell']) (by decide) (by simp only [maxLen]; omega) (by omega) hs2 _ rfl ?_; intro g' cap' w3 hown' hgrow hat hlt'))
      have hb3 : Below w.heap.size w w3 := (HBB.out.trans (b2.mono HBB.out.size)).grown hgrow hs2 (fun b e => (o2.lt b e).1)
      go_roundw
      case rel => exact ⟨k + 1, by omega, by go_num, by rw [HX.out, List.length_append, List.map_append, hx]; exact hown', hb3⟩
      case measure => simp [intOf]; omega
    · obtain rfl : k = N := by omega
      go_wp2_with fail
      go_ret
      exact ⟨_, rfl, hown, hb⟩
end Go.Proofs.Ytoplchdnfmcbaaa
