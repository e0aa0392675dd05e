/- Slices of names and places compared: contract. -/
import Derived.Test.YtbfmlmnhdogojaaGreatDoorYa
namespace Go.Proofs.YtbfmlmnhdogojaaGreatDoor
open Go.RowKit Go.Shelf

theorem RdN.up {W : World} {B B' : Nat} {A : Option Addr} {l : List (ByteArray × Int)} (h : RdN W B A l) (hn : B ≤ B') : RdN W B' A l :=
  ⟨fun hp => by obtain ⟨g, off, e, hg⟩ := h.some_ hp; exact ⟨g, off, e, by omega⟩, h.cell⟩
theorem take_neN {L L' : List (ByteArray × Int)} {k : Nat} {x y : ByteArray × Int} (hx : L[k]? = some x) (hy : L'[k]? = some y) (h : x ≠ y) : L ≠ L' := by
  rintro rfl; rw [hx] at hy; exact h (Option.some.inj hy)
set_option maxRecDepth 100000 in
theorem cEqualN {W : World} {A B : Option Addr} {c d : Nat} {L L' : List (ByteArray × Int)} (hr : RdN W W.heap.size A L) (hr' : RdN W W.heap.size B L') (hL : L.length ≤ 65536) (hL' : L'.length ≤ 65536) : Calls Tryz.prog 48 #[.slice A L.length c, .slice B L'.length d] W fun e w' => e = .returned (.bool (decide (L = L'))) ∧ Below W.heap.size W w' := by
  by_cases hlen : L.length = L'.length
  · go_enter Tryz.func48, Tryz.ntmps48
    have h0 : ((L.length : Int) != (L'.length : Int)) = false := by rw [hlen]; simp
    have HLEN := Lib.hid hlen
    clear hlen
    go_wp2_with fail
    go_loopw [13] (fun i wr => ∃ k : Nat, k ≤ L.length ∧ i = .int .i64 k ∧ (∀ j, j < k → L[j]? = L'[j]?) ∧ Below W.heap.size W wr) (fun i _ => L.length - (intOf i).toNat)
    case atStart => exact ⟨0, Nat.zero_le _, rfl, fun _ h => by omega, Below.refl _ _⟩
    case round =>
      obtain ⟨k, hk, rfl, hsame, hb⟩ := hrel
      by_cases hlt : k < L.length
      · have hlt' : k < L'.length := by rw [← HLEN.out]; exact hlt
        obtain ⟨⟨x, y⟩, hx⟩ : ∃ x, L[k]? = some x := ⟨_, List.getElem?_eq_getElem hlt⟩
        obtain ⟨⟨x', y'⟩, hy⟩ : ∃ y, L'[k]? = some y := ⟨_, List.getElem?_eq_getElem hlt'⟩
        obtain ⟨g, off, rfl, hg⟩ := hr.some_ (by omega)
        obtain ⟨g', off', rfl, hg'⟩ := hr'.some_ (by omega)
        obtain ⟨cx0, cx1⟩ := (hr.below hb (Nat.le_refl _)).cell g off rfl k x y hx
        obtain ⟨cy0, cy1⟩ := (hr'.below hb (Nat.le_refl _)).cell g' off' rfl k x' y' hy
        have HX := Lib.hid hx
        have HY := Lib.hid hy
        have HS := Lib.hid hsame
        clear hx hy hsame h0
        by_cases hxx : x = x'
        · subst hxx
          by_cases hyy : y = y'
          · subst hyy
            go_wp2_with fail
            go_region
            go_wp2
            go_roundw
            case rel => exact ⟨k + 1, by omega, by go_num, fun j hj => by
              rcases Nat.lt_or_ge j k with h | h
              · exact HS.out j h
              · obtain rfl : j = k := by omega
                rw [HX.out, HY.out], hb.drew⟩
            case measure => simp [intOf]; omega
          · have hq : (y == y') = false := by simp [hyy]
            have HXY := Lib.hid hyy
            clear hyy
            go_wp2_with fail
            go_region
            go_wp2
            go_ret
            exact ⟨ret_bool (decide_eq_false (take_neN HX.out HY.out (fun e => HXY.out (by simpa using e)))).symm, hb.drew⟩
        · have hq : (x.toList == x'.toList) = false := by rw [beq_bytes]; exact decide_eq_false hxx
          have HXY := Lib.hid hxx
          clear hxx
          go_wp2_with fail
          go_region
          go_wp2
          go_ret
          exact ⟨ret_bool (decide_eq_false (take_neN HX.out HY.out (fun e => HXY.out (congrArg Prod.fst e)))).symm, hb.drew⟩
      · obtain rfl : k = L.length := by omega
        have HS := Lib.hid hsame
        clear hsame h0
        go_wp2_with fail
        go_ret
        refine ⟨ret_bool (decide_eq_true ?_).symm, hb⟩
        apply List.ext_getElem?
        intro j
        rcases Nat.lt_or_ge j L.length with h | h
        · exact HS.out j h
        · rw [List.getElem?_eq_none h, List.getElem?_eq_none (by rw [← HLEN.out]; exact h)]
  · have h0 : ((L.length : Int) != (L'.length : Int)) = true := by simp; omega
    have HLEN := Lib.hid hlen
    clear hlen
    go_enter Tryz.func48, Tryz.ntmps48
    go_wp2
    go_ret
    exact ⟨ret_bool (decide_eq_false (fun e => HLEN.out (by rw [e]))).symm, Below.refl _ _⟩
end Go.Proofs.YtbfmlmnhdogojaaGreatDoor
