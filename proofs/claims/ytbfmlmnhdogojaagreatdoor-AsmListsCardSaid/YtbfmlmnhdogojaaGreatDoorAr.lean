/- Name: contract. -/
import Derived.Test.YtbfmlmnhdogojaaGreatDoorAo
import Derived.Test.YtbfmlmnhdogojaaGreatDoorShelf
import Derived.Laws.RangeAny
namespace Go.Proofs.YtbfmlmnhdogojaaGreatDoor
open Go.RowKit Go.Shelf

def oddN (n : Nat) : Bool := oddL n
theorem okB_low {b : UInt8} (h : okB b = true) : b.toNat < 128 ∧ oddN b.toNat = false := by
  unfold okB at h
  unfold oddN oddL
  constructor
  · unfold isLet isDig at h
    simp at h
    omega
  · cases h1 : isLet b.toNat <;> cases h2 : isDig b.toNat <;> simp_all
theorem okB_odd {b : UInt8} (h : okB b = false) : oddN b.toNat = true := by
  unfold okB at h
  unfold oddN oddL
  cases h1 : isLet b.toNat <;> cases h2 : isDig b.toNat <;> simp_all
theorem oddN_high {n : Nat} (h : 128 ≤ n) : oddN n = true := by
  unfold oddN oddL isLet isDig
  simp
  omega
theorem idxFrom_good {s : ByteArray} (h : ∀ j (hj : j < s.size), okB (s[j]'hj) = true) : ∀ f pos, Lib.idxFuncFrom oddN true s f pos = -1
  | 0, _ => rfl
  | f + 1, pos => by
    unfold Lib.idxFuncFrom
    by_cases hp : pos < s.size
    · obtain ⟨h1, h2⟩ := okB_low (h pos hp)
      rw [if_pos hp, decode_ascii s pos hp h1, h2]
      simp only [Bool.false_eq_true, if_false]
      exact idxFrom_good h f _
    · rw [if_neg hp]
theorem idxFrom_bad {s : ByteArray} {i : Nat} (hi : i < s.size) (hb : okB (s[i]'hi) = false) : ∀ f pos, pos ≤ i → i - pos < f → 0 ≤ Lib.idxFuncFrom oddN true s f pos
  | 0, _, _, h => by omega
  | f + 1, pos, h1, h2 => by
    have hp : pos < s.size := by omega
    unfold Lib.idxFuncFrom
    rw [if_pos hp]
    cases ho : okB (s[pos]'hp)
    · rcases Nat.lt_or_ge (s[pos]'hp).toNat 128 with hl | hl
      · rw [decode_ascii s pos hp hl, okB_odd ho, if_pos rfl]; omega
      · rw [oddN_high (decode_high s pos hp hl).1, if_pos rfl]; omega
    · obtain ⟨h3, h4⟩ := okB_low ho
      have hne : pos ≠ i := by rintro rfl; rw [ho] at hb; cases hb
      rw [decode_ascii s pos hp h3, h4]
      simp only [Bool.false_eq_true, if_false]
      exact idxFrom_bad hi hb f _ (by omega) (by omega)
theorem idx_good {s : ByteArray} (h : goodB s = true) : Lib.idxFunc oddN true s = -1 := by
  refine idxFrom_good (fun j hj => ?_) _ _
  unfold goodB at h
  exact List.all_eq_true.1 h _ (List.getElem_mem (by rw [size_list]; exact hj))
theorem idx_bad {s : ByteArray} (h : goodB s = false) : 0 ≤ Lib.idxFunc oddN true s := by
  unfold goodB at h
  obtain ⟨b, hb, ho⟩ := List.all_eq_false.1 h
  obtain ⟨i, hi, rfl⟩ := List.getElem_of_mem hb
  exact idxFrom_bad (i := i) (by rw [← size_list]; exact hi) (Bool.eq_false_iff.2 ho) _ _ (Nat.zero_le _) (by rw [size_list] at hi; omega)
theorem kind_contains (s : ByteArray) : Lib.containsS (kindsL.take 4) s = kindB s := by
  have h : Lib.containsS (kindsL.take 4) s = true ↔ kindB s = true := by
    rw [Lib.containsS_iff, show kindsL.take 4 = kindsL from rfl]
    unfold kindB
    rw [List.any_eq_true]
    constructor
    · intro h; exact ⟨s, h, by simp⟩
    · rintro ⟨t, ht, e⟩
      have e := beq_iff_eq.1 e
      rw [ByteArray.toList_eq, ByteArray.toList_eq] at e
      rw [← show t = s from ByteArray.ext (Array.ext' e)]; exact ht
  cases h1 : Lib.containsS (kindsL.take 4) s <;> cases h2 : kindB s <;> simp_all
theorem cIdx (s : ByteArray) (w : World) : Calls Tryz.prog 22 #[.string s, .func (.func 21) #[] #[]] w fun e w' => e = .returned (.int .i64 (Lib.idxFunc oddN true s)) ∧ Below w.heap.size w w' :=
  Tryz.strings_IndexFunc 21 #[] (enters_of Tryz.func21 (by kernel_rfl) rfl) oddN s w (fun W x _ => (cOdd x W).mono (by rintro e w' ⟨rfl, rfl⟩; exact ⟨rfl, 0, rfl⟩))
set_option maxHeartbeats 1000000 in
theorem cNm (s : ByteArray) (w : World) : Calls Tryz.prog 11 #[.string s] w fun e w' => e = .returned (.bool (nameB s)) ∧ Below w.heap.size w w' := by
  match hs : s.data.toList with
  | [] =>
    have hz : s = ⟨#[]⟩ := ByteArray.ext (Array.ext' (by rw [hs]))
    subst hz
    go_enter Tryz.func11, Tryz.ntmps11
    go_wp2
    go_ret
    exact ⟨rfl, Below.refl _ _⟩
  | a :: l =>
    have hsz : s.size = l.length + 1 := by rw [← size_list, hs]; rfl
    have hp : 0 < s.size := by omega
    have e0 := first_of hs hp
    have hem : s.toList.isEmpty = false := by rw [ByteArray.toList_eq, hs]; rfl
    by_cases h16 : l.length < 16
    · cases ha : isLet a.toNat
      · have hN : nameB s = false := by unfold nameB; rw [headB_cons hs, ha]; simp
        rw [hN]
        have hor : (a.toNat : Int) < 97 ∨ (97 ≤ (a.toNat : Int) ∧ 122 < (a.toNat : Int)) := by
          unfold isLet at ha
          simp at ha
          omega
        clear hN hs ha
        rcases hor with h1 | ⟨h1, h2⟩
        all_goals
          go_enter Tryz.func11, Tryz.ntmps11
          go_wp2
          go_ret
          exact ⟨rfl, Below.refl _ _⟩
      · have h1 : 97 ≤ (a.toNat : Int) := by unfold isLet at ha; simp at ha; omega
        have h2 : (a.toNat : Int) ≤ 122 := by unfold isLet at ha; simp at ha; omega
        cases hg : goodB s
        · have hN : nameB s = false := by unfold nameB; rw [hg]; simp
          rw [hN]
          have hi := idx_bad hg
          clear hN hs ha
          go_enter Tryz.func11, Tryz.ntmps11
          go_wp2_with fail
          refine (cIdx _ _).mono ?_
          rintro e W ⟨rfl, hb⟩
          have hkc := kind_contains s
          obtain ⟨kc, kb, ks⟩ := cells1 W #[.string ⟨#[97, 116]⟩, .string ⟨#[119, 111, 114, 100]⟩, .string ⟨#[98, 121, 116, 101]⟩, .string ⟨#[116, 101, 120, 116]⟩] 9
          have HW := Lib.hid hb
          have HB := Lib.hid (hb.trans (kb.mono hb.size))
          have HC := Lib.hid (Tryz.slices_Contains_string W.heap.size 0 4 4 kindsL s (W.alloc (.cells #[.string ⟨#[97, 116]⟩, .string ⟨#[119, 111, 114, 100]⟩, .string ⟨#[98, 121, 116, 101]⟩, .string ⟨#[116, 101, 120, 116]⟩] 9)) (by decide) (by decide) (fun j hj => by
            have hj4 : j < 4 := hj
            rw [Nat.zero_add, kc.cell j]
            match j, hj4 with
            | 0, _ => rfl
            | 1, _ => rfl
            | 2, _ => rfl
            | 3, _ => rfl))
          rw [hkc] at HC
          clear hb kc kb ks hkc
          go_wp2_with fail
          go_ret
          exact ⟨rfl, HW.out⟩
        · have hi := idx_good hg
          by_cases hr : regL s < 0
          · have hr' : ¬ (0 ≤ regL s) := by omega
            cases hk : kindB s
            · cases ho : noOp s
              · have hN : nameB s = false := by unfold nameB; rw [ho]; simp
                rw [hN]
                have HO := Lib.hid (cNumber_so ho)
                clear hN hs ha ho
                go_enter Tryz.func11, Tryz.ntmps11
                go_wp2_with fail
                refine (cIdx _ _).mono ?_
                rintro e W ⟨rfl, hb⟩
                have hkc := kind_contains s
                obtain ⟨kc, kb, ks⟩ := cells1 W #[.string ⟨#[97, 116]⟩, .string ⟨#[119, 111, 114, 100]⟩, .string ⟨#[98, 121, 116, 101]⟩, .string ⟨#[116, 101, 120, 116]⟩] 9
                have HW := Lib.hid hb
                have HB := Lib.hid (hb.trans (kb.mono hb.size))
                have HC := Lib.hid (Tryz.slices_Contains_string W.heap.size 0 4 4 kindsL s (W.alloc (.cells #[.string ⟨#[97, 116]⟩, .string ⟨#[119, 111, 114, 100]⟩, .string ⟨#[98, 121, 116, 101]⟩, .string ⟨#[116, 101, 120, 116]⟩] 9)) (by decide) (by decide) (fun j hj => by
                  have hj4 : j < 4 := hj
                  rw [Nat.zero_add, kc.cell j]
                  match j, hj4 with
                  | 0, _ => rfl
                  | 1, _ => rfl
                  | 2, _ => rfl
                  | 3, _ => rfl))
                rw [hkc] at HC
                clear hb kc kb ks hkc
                rw [hi]
                go_wp2_with fail
                refine (cRegister _ _).mono ?_
                rintro e w' ⟨rfl, rfl⟩
                go_wp2_with fail
                refine HC.out.mono ?_
                rintro e w' ⟨rfl, rfl⟩
                go_wp2_with fail
                refine (HO.out _).mono ?_
                rintro e w' ⟨⟨k, -, -, -, rfl⟩, hb⟩
                have HF := Lib.hid (HB.out.trans (hb.mono HB.out.size))
                clear hb
                go_wp2
                go_ret
                exact ⟨rfl, HF.out⟩
              · have hN : nameB s = true := by unfold nameB; rw [headB_cons hs, ha, hg, hk, ho, decide_eq_true hr, decide_eq_true h16]; rfl
                rw [hN]
                have HO := Lib.hid (cNumber_no ho)
                clear hN hs ha ho
                go_enter Tryz.func11, Tryz.ntmps11
                go_wp2_with fail
                refine (cIdx _ _).mono ?_
                rintro e W ⟨rfl, hb⟩
                have hkc := kind_contains s
                obtain ⟨kc, kb, ks⟩ := cells1 W #[.string ⟨#[97, 116]⟩, .string ⟨#[119, 111, 114, 100]⟩, .string ⟨#[98, 121, 116, 101]⟩, .string ⟨#[116, 101, 120, 116]⟩] 9
                have HW := Lib.hid hb
                have HB := Lib.hid (hb.trans (kb.mono hb.size))
                have HC := Lib.hid (Tryz.slices_Contains_string W.heap.size 0 4 4 kindsL s (W.alloc (.cells #[.string ⟨#[97, 116]⟩, .string ⟨#[119, 111, 114, 100]⟩, .string ⟨#[98, 121, 116, 101]⟩, .string ⟨#[116, 101, 120, 116]⟩] 9)) (by decide) (by decide) (fun j hj => by
                  have hj4 : j < 4 := hj
                  rw [Nat.zero_add, kc.cell j]
                  match j, hj4 with
                  | 0, _ => rfl
                  | 1, _ => rfl
                  | 2, _ => rfl
                  | 3, _ => rfl))
                rw [hkc] at HC
                clear hb kc kb ks hkc
                rw [hi]
                go_wp2_with fail
                refine (cRegister _ _).mono ?_
                rintro e w' ⟨rfl, rfl⟩
                go_wp2_with fail
                refine HC.out.mono ?_
                rintro e w' ⟨rfl, rfl⟩
                go_wp2_with fail
                refine (HO.out _).mono ?_
                rintro e w' ⟨rfl, hb⟩
                have HF := Lib.hid (HB.out.trans (hb.mono HB.out.size))
                clear hb
                go_wp2
                go_ret
                exact ⟨rfl, HF.out⟩
            · have hN : nameB s = false := by unfold nameB; rw [hk]; simp
              rw [hN]
              clear hN hs ha
              go_enter Tryz.func11, Tryz.ntmps11
              go_wp2_with fail
              refine (cIdx _ _).mono ?_
              rintro e W ⟨rfl, hb⟩
              have hkc := kind_contains s
              obtain ⟨kc, kb, ks⟩ := cells1 W #[.string ⟨#[97, 116]⟩, .string ⟨#[119, 111, 114, 100]⟩, .string ⟨#[98, 121, 116, 101]⟩, .string ⟨#[116, 101, 120, 116]⟩] 9
              have HW := Lib.hid hb
              have HB := Lib.hid (hb.trans (kb.mono hb.size))
              have HC := Lib.hid (Tryz.slices_Contains_string W.heap.size 0 4 4 kindsL s (W.alloc (.cells #[.string ⟨#[97, 116]⟩, .string ⟨#[119, 111, 114, 100]⟩, .string ⟨#[98, 121, 116, 101]⟩, .string ⟨#[116, 101, 120, 116]⟩] 9)) (by decide) (by decide) (fun j hj => by
                have hj4 : j < 4 := hj
                rw [Nat.zero_add, kc.cell j]
                match j, hj4 with
                | 0, _ => rfl
                | 1, _ => rfl
                | 2, _ => rfl
                | 3, _ => rfl))
              rw [hkc] at HC
              clear hb kc kb ks hkc
              rw [hi]
              go_wp2_with fail
              refine (cRegister _ _).mono ?_
              rintro e w' ⟨rfl, rfl⟩
              go_wp2_with fail
              refine HC.out.mono ?_
              rintro e w' ⟨rfl, rfl⟩
              go_wp2
              go_ret
              exact ⟨rfl, HB.out⟩
          · have hN : nameB s = false := by unfold nameB; rw [decide_eq_false hr]; simp
            rw [hN]
            have hr' : 0 ≤ regL s := by omega
            clear hN hs ha
            go_enter Tryz.func11, Tryz.ntmps11
            go_wp2_with fail
            refine (cIdx _ _).mono ?_
            rintro e W ⟨rfl, hb⟩
            have hkc := kind_contains s
            obtain ⟨kc, kb, ks⟩ := cells1 W #[.string ⟨#[97, 116]⟩, .string ⟨#[119, 111, 114, 100]⟩, .string ⟨#[98, 121, 116, 101]⟩, .string ⟨#[116, 101, 120, 116]⟩] 9
            have HW := Lib.hid hb
            have HB := Lib.hid (hb.trans (kb.mono hb.size))
            have HC := Lib.hid (Tryz.slices_Contains_string W.heap.size 0 4 4 kindsL s (W.alloc (.cells #[.string ⟨#[97, 116]⟩, .string ⟨#[119, 111, 114, 100]⟩, .string ⟨#[98, 121, 116, 101]⟩, .string ⟨#[116, 101, 120, 116]⟩] 9)) (by decide) (by decide) (fun j hj => by
              have hj4 : j < 4 := hj
              rw [Nat.zero_add, kc.cell j]
              match j, hj4 with
              | 0, _ => rfl
              | 1, _ => rfl
              | 2, _ => rfl
              | 3, _ => rfl))
            rw [hkc] at HC
            clear hb kc kb ks hkc
            rw [hi]
            go_wp2_with fail
            refine (cRegister _ _).mono ?_
            rintro e w' ⟨rfl, rfl⟩
            go_wp2
            go_ret
            exact ⟨rfl, HW.out⟩
    · have hN : nameB s = false := by unfold nameB; rw [headB_cons hs]; simp [h16]
      rw [hN]
      clear hN hs
      go_enter Tryz.func11, Tryz.ntmps11
      go_wp2
      go_ret
      exact ⟨rfl, Below.refl _ _⟩
end Go.Proofs.YtbfmlmnhdogojaaGreatDoor
