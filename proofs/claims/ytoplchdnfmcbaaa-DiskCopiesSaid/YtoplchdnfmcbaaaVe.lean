/- is: contract. -/
import Derived.Test.YtoplchdnfmcbaaaVd
import Derived.Laws.BytesArg
import Derived.Deep.RegionWith
namespace Go.Proofs.Ytoplchdnfmcbaaa
open Go.RowKit Go.Shelf

theorem bytesL_take {f : Int → List Int} {l : List Int} {N : Nat} (h : Rep l N f) : ∀ k, k ≤ N → bytesL f k = l.take (64 * k)
  | 0, _ => by simp [bytesL]
  | k + 1, hk => by
    have h2 := h.2 k ⟨by omega, by omega⟩
    rw [bytesL, bytesL_take h k (by omega), ← h2]
    unfold cutL
    rw [show 64 * (k + 1) = 64 * k + 64 by omega, List.take_add]
    simp
theorem bytesL_rep {f : Int → List Int} {l : List Int} {N : Nat} (h : Rep l N f) : bytesL f N = l := by
  rw [bytesL_take h N (Nat.le_refl _), List.take_of_length_le (by have := h.1; omega)]
theorem conv_rd {W : World} {B : Nat} {A : Option Addr} {l : List Int} {c : Nat} (hr : Rd W B .u8 A l) (h0 : 0 < l.length) : (convert 25 9 (.slice A l.length c)).run Try.prog W = .ok (.string (strOfNums l)) W := by
  obtain ⟨g, off, rfl, _⟩ := hr.some_ h0
  refine run_convert_bytes_arg W 25 5 Try.underlying25 Try.underlying5 g off l.length c l rfl (fun i hi => ?_) 9 Try.underlying9
  rw [hr.cell g off rfl i _ (List.getElem?_eq_getElem hi)]
  simp [List.getD, List.getElem?_eq_getElem hi]
set_option maxRecDepth 100000 in
set_option maxHeartbeats 2000000 in
theorem c16 {w : World} {db mb N : Nat} {m : List (Int × List Int)} (h : IsDisk w db mb N m) {A : Option Addr} {l : List Int} {c : Nat} (hrep : Rep l N (secL m)) (hr : Rd w w.heap.size .u8 A l) :
    Calls Try.prog 16 #[.pointer (some ⟨db, 0, none⟩), .slice A l.length c] w fun e w' => e = .returned (.bool true) ∧ Below w.heap.size w w' := by
  have hN : N ≤ 32 := by have := h.hi; omega
  have hN1 : 1 ≤ N := by have := h.lo; omega
  have hlen : (l.length : Int) = 64 * N := hrep.1
  have hl0 : 0 < l.length := by omega
  have H24 := Lib.hid (fun (W : World) (b : Below w.heap.size w W) => (show Calls Try.prog 24 _ W fun e w' => ∃ A' c', e = .returned (.slice A' l.length c') ∧ (convert 25 9 (.slice A' l.length c')).run Try.prog w' = .ok (.string (strOfNums l)) w' ∧ Below w.heap.size w w' from (c24 (h.below b)).mono (by
    rintro e w' ⟨v, rfl, hown, hb⟩
    rw [bytesL_rep hrep] at hown
    obtain ⟨A', c', rfl⟩ := own_slice hown
    exact ⟨A', c', rfl, conv_rd (Rd.of_ownA hown rfl) hl0, b.trans (hb.mono b.size)⟩)))
  have H23 := Lib.hid (fun (W : World) (b : Below w.heap.size w W) => c23 (h.below b))
  have H21 := Lib.hid (fun (W : World) (b : Below w.heap.size w W) => (show Calls Try.prog 21 #[.slice A l.length c] W fun e w' => ∃ A' c', e = .returned (.slice A' (usedL (secL m) N).length c') ∧ Rd w' w'.heap.size .i64 A' (usedL (secL m) N) ∧ Below w.heap.size w w' from (c21 hN (fun n => (h.good.sec n).1) hrep ((hr.below b (Nat.le_refl _)).up b.size)).mono (by
    rintro e w' ⟨v, rfl, hown, hb⟩
    obtain ⟨A', c', rfl⟩ := own_slice hown
    exact ⟨A', c', rfl, Rd.of_ownA hown rfl, b.trans (hb.mono b.size)⟩)))
  have H30 := Lib.hid (fun (W : World) (b : Below w.heap.size w W) (A' : Option Addr) (c' : Nat) (hw : Rd W W.heap.size .i64 A' (usedL (secL m) N)) => (show Calls Try.prog 30 #[_, .slice A' (usedL (secL m) N).length c'] W fun e w' => e = .returned (.bool true) ∧ Below w.heap.size w w' from (c30 (h.below b) rfl hw).mono (by
    rintro e w' ⟨rfl, hb⟩
    exact ⟨rfl, b.trans (hb.mono b.size)⟩)))
  have HS := Lib.hid (fun (W : World) (b : Below w.heap.size w W) => conv_rd (c := c) (hr.below b (Nat.le_refl _)) hl0)
  have hd1 : IntKind.i64.wrap ((l.length : Int).tdiv 64) = N := by
    rw [hlen]; rw [Int.tdiv_eq_ediv_of_nonneg (by omega), IntKind.wrap_i64]; omega
  have hd2 : (l.length : Int).tdiv 64 = N := by
    rw [hlen]; rw [Int.tdiv_eq_ediv_of_nonneg (by omega)]; omega
  have hd4 : IntKind.i64.wrap (N : Int) = N := by rw [IntKind.wrap_i64]; omega
  have hd3 : (l.length : Int) / 64 = N := by omega
  clear h hrep hr
  generalize strOfNums l = T at *
  generalize usedL (secL m) N = U at *
  have B0 : Below w.heap.size w w.drew := (Below.refl _ w).drew
  have S0 := HS.out _ B0
  go_enter Try.func16, Try.ntmps16
  go_wp2_with fail
  go_region_with (first
      | ((with_reducible refine (H24.out _ (by assumption)).mono ?_); rintro e W1 ⟨A1, c1, rfl, cv1, B1⟩; have cv2 := HS.out _ B1)
      | ((with_reducible refine (H23.out _ (by assumption)).mono ?_); rintro e w' ⟨rfl, rfl⟩)
      | ((with_reducible refine (H21.out _ (by assumption)).mono ?_); rintro e W2 ⟨A2, c2, rfl, R2, B2⟩)
      | ((with_reducible refine (H30.out _ (by assumption) _ _ (by assumption)).mono ?_); rintro e W3 ⟨rfl, B3⟩))
  all_goals
    go_wp2
    go_ret
    exact ⟨rfl, by assumption⟩
end Go.Proofs.Ytoplchdnfmcbaaa
