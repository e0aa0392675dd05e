/- Which texts are names: what both answer; the document's opOf: contracts. -/
import Derived.Test.YtbfmlmnhdogojaaGreatDoorPe
import Derived.LoopTactic
namespace Go.Proofs.YtbfmlmnhdogojaaGreatDoor
open Go.RowKit Go.Shelf

set_option maxHeartbeats 1000000 in
theorem rOpOf (s : ByteArray) (w : World) : Calls Tryz.prog 27 #[.string s] w fun e w' => Below w.heap.size w w' ∧
    ((∃ k : Nat, 1 ≤ k ∧ k ≤ 28 ∧ (nameL k).toList = s.toList ∧ e = .returned (.int .i64 k)) ∨ (NoneB s 29 ∧ e = .returned (.int .i64 0))) := by
  go_enter Tryz.func27, Tryz.ntmps27
  go_wp2_with fail
  go_loopw [3] (fun i wr => ∃ k : Nat, 1 ≤ k ∧ k ≤ 29 ∧ i = .int .i64 k ∧ NoneB s k ∧ Below w.heap.size w wr) (fun i _ => 29 - (intOf i).toNat)
  case atStart => exact ⟨1, by omega, by omega, rfl, fun j h1 h2 => by omega, Below.refl _ _⟩
  case round =>
    obtain ⟨k, h1, hk, rfl, hnone, hb⟩ := hrel
    have HN := Lib.hid hnone
    clear hnone
    by_cases hlt : k < 29
    · have hn := rName (op := (k : Int)) ⟨by omega, by omega⟩ wr
      obtain ⟨nm, hnm⟩ : ∃ nm, nm = nameL k := ⟨_, rfl⟩
      rw [← hnm] at hn
      have HM := Lib.hid hnm
      clear hnm
      go_wp2_with fail
      refine hn.mono ?_
      clear hn
      rintro e W ⟨rfl, hb2⟩
      have HB := Lib.hid (hb.trans (hb2.mono hb.size))
      clear hb hb2
      cases he : (nm.toList == s.toList)
      · go_wp2_with fail
        go_roundw
        case rel =>
          refine ⟨k + 1, by omega, by omega, by go_num, fun j h1 h2 => ?_, HB.out⟩
          by_cases hj : j = k
          · subst hj; rw [← HM.out]; exact beq_eq_false_iff_ne.1 he
          · exact HN.out j h1 (by omega)
        case measure => simp [intOf]; omega
      · go_wp2_with fail
        go_ret
        exact ⟨HB.out, .inl ⟨k, h1, by omega, by rw [← HM.out]; exact beq_iff_eq.1 he, rfl⟩⟩
    · obtain rfl : k = 29 := by omega
      go_wp2_with fail
      go_ret
      exact ⟨hb, .inr ⟨HN.out, rfl⟩⟩
/-- No Op has that name. -/
def noOp (s : ByteArray) : Bool := (List.range 28).all fun i => !((nameL (((i + 1 : Nat)) : Int)).toList == s.toList)
theorem noOp_iff {s : ByteArray} : noOp s = true ↔ NoneB s 29 := by
  unfold noOp NoneB
  rw [List.all_eq_true]
  constructor
  · intro h j h1 h2 e
    have := h (j - 1) (List.mem_range.2 (by omega))
    rw [show j - 1 + 1 = j by omega, e] at this
    simp at this
  · intro h i hi
    have hi' := List.mem_range.1 hi
    have := h (i + 1) (by omega) (by omega)
    simpa using this
theorem rOpOf_none {s : ByteArray} (h : noOp s = true) (w : World) : Calls Tryz.prog 27 #[.string s] w fun e w' => e = .returned (.int .i64 0) ∧ Below w.heap.size w w' := by
  refine (rOpOf s w).mono ?_
  rintro e w' ⟨hb, ⟨k, h1, h2, he, rfl⟩ | ⟨hn, rfl⟩⟩
  · exact absurd he (noOp_iff.1 h k h1 (by omega))
  · exact ⟨rfl, hb⟩
theorem rOpOf_some {s : ByteArray} (h : noOp s = false) (w : World) : Calls Tryz.prog 27 #[.string s] w fun e w' => (∃ k : Nat, 1 ≤ k ∧ k ≤ 28 ∧ (nameL k).toList = s.toList ∧ e = .returned (.int .i64 k)) ∧ Below w.heap.size w w' := by
  refine (rOpOf s w).mono ?_
  rintro e w' ⟨hb, h' | ⟨hn, rfl⟩⟩
  · exact ⟨h', hb⟩
  · rw [noOp_iff.2 hn] at h; cases h
theorem cNumber_no {s : ByteArray} (h : noOp s = true) (w : World) : Calls Tryz.prog 25 #[.string s] w fun e w' => e = .returned (.tuple #[.int .i64 0, .bool false]) ∧ Below w.heap.size w w' := cNumber_none (noOp_iff.1 h) w
theorem cNumber_so {s : ByteArray} (h : noOp s = false) (w : World) : Calls Tryz.prog 25 #[.string s] w fun e w' => (∃ k : Nat, 1 ≤ k ∧ k ≤ 28 ∧ (nameL k).toList = s.toList ∧ e = .returned (.tuple #[.int .i64 k, .bool true])) ∧ Below w.heap.size w w' := by
  refine (cNumber s w).mono ?_
  rintro e w' ⟨hb, h' | ⟨hn, rfl⟩⟩
  · exact ⟨h', hb⟩
  · rw [noOp_iff.2 hn] at h; cases h
/-- The words that lines begin with. -/
def kindsL : List ByteArray := [⟨#[97, 116]⟩, ⟨#[119, 111, 114, 100]⟩, ⟨#[98, 121, 116, 101]⟩, ⟨#[116, 101, 120, 116]⟩]
def kindB (s : ByteArray) : Bool := kindsL.any fun t => t.toList == s.toList
/-- A name's letters. -/
def okB (b : UInt8) : Bool := isLet b.toNat || isDig b.toNat
def goodB (s : ByteArray) : Bool := s.data.toList.all okB
/-- A name's first letter, and its length. -/
def headB (s : ByteArray) : Bool := match s.data.toList with
  | [] => false
  | a :: l => decide (l.length < 16) && isLet a.toNat
def nameB (s : ByteArray) : Bool := headB s && goodB s && decide (regL s < 0) && !kindB s && noOp s
end Go.Proofs.YtbfmlmnhdogojaaGreatDoor
namespace Go.Proofs.YtbfmlmnhdogojaaGreatDoor
open Go.RowKit Go.Shelf

theorem headB_cons {s : ByteArray} {a : UInt8} {l : List UInt8} (h : s.data.toList = a :: l) : headB s = (decide (l.length < 16) && isLet a.toNat) := by
  unfold headB; rw [h]
theorem first_of {s : ByteArray} {a : UInt8} {l : List UInt8} (h : s.data.toList = a :: l) (hp : 0 < s.size) : s[0]'hp = a := by
  have : s.data.toList[0]? = some a := by rw [h]; rfl
  obtain ⟨h1, h2⟩ := List.getElem?_eq_some_iff.1 this
  rw [← h2]; rfl
theorem kind_cases {s : ByteArray} (h : kindB s = true) : s = ⟨#[97, 116]⟩ ∨ s = ⟨#[119, 111, 114, 100]⟩ ∨ s = ⟨#[98, 121, 116, 101]⟩ ∨ s = ⟨#[116, 101, 120, 116]⟩ := by
  unfold kindB kindsL at h
  have hi : ∀ t : ByteArray, (t.toList == s.toList) = true → s = t := fun t e => by
    have e := beq_iff_eq.1 e
    rw [ByteArray.toList_eq, ByteArray.toList_eq] at e
    exact ByteArray.ext (Array.ext' e.symm)
  simp only [List.any_cons, List.any_nil, Bool.or_false, Bool.or_eq_true] at h
  rcases h with h | h | h | h
  · exact .inl (hi _ h)
  · exact .inr (.inl (hi _ h))
  · exact .inr (.inr (.inl (hi _ h)))
  · exact .inr (.inr (.inr (hi _ h)))
theorem kind_not {s : ByteArray} (h : kindB s = false) : (s.toList == [97, 116]) = false ∧ (s.toList == [119, 111, 114, 100]) = false ∧ (s.toList == [98, 121, 116, 101]) = false ∧ (s.toList == [116, 101, 120, 116]) = false := by
  unfold kindB kindsL at h
  simp only [List.any_cons, List.any_nil, Bool.or_false, Bool.or_eq_false_iff] at h
  obtain ⟨h1, h2, h3, h4⟩ := h
  have hi : ∀ t : ByteArray, (t.toList == s.toList) = false → (s.toList == t.data.toList) = false := fun t e => by
    rw [ByteArray.toList_eq t] at e
    rw [beq_eq_false_iff_ne] at e ⊢; exact fun h => e h.symm
  exact ⟨hi _ h1, hi _ h2, hi _ h3, hi _ h4⟩
theorem byte_of {s : ByteArray} {k : Nat} {b : UInt8} (h : s.data.toList[k]? = some b) (hp : k < s.size) : s[k]'hp = b := by
  obtain ⟨h1, h2⟩ := List.getElem?_eq_some_iff.1 h
  rw [← h2]; rfl
theorem goodB_of {s : ByteArray} (h : ∀ j b, j < s.size → s.data.toList[j]? = some b → okB b = true) : goodB s = true := by
  unfold goodB
  rw [List.all_eq_true]
  intro b hb
  obtain ⟨j, hj⟩ := List.mem_iff_getElem?.1 hb
  exact h j b (by rw [← size_list]; exact (List.getElem?_eq_some_iff.1 hj).1) hj
theorem goodB_not {s : ByteArray} {k : Nat} {b : UInt8} (hb : s.data.toList[k]? = some b) (h : okB b = false) : goodB s = false := by
  unfold goodB
  rw [List.all_eq_false]
  exact ⟨b, List.mem_of_getElem? hb, by rw [h]; simp⟩
set_option maxHeartbeats 1000000 in
theorem rNm (s : ByteArray) (w : World) : Calls Tryz.prog 12 #[.string s] w fun e w' => e = .returned (.bool (nameB s)) ∧ Below w.heap.size w w' := by
  match hs : s.data.toList with
  | [] =>
    have hz : s = ⟨#[]⟩ := ByteArray.ext (Array.ext' (by rw [hs]))
    subst hz
    go_enter Tryz.func12, Tryz.ntmps12
    go_wp2
    go_ret
    exact ⟨rfl, Below.refl _ _⟩
  | a :: l =>
    have hsz : s.size = l.length + 1 := by rw [← size_list, hs]; rfl
    have hp : 0 < s.size := by omega
    have e0 := first_of hs hp
    by_cases h16 : l.length < 16
    · cases ha : isLet a.toNat
      · have hN : nameB s = false := by unfold nameB; rw [headB_cons hs, ha]; simp
        rw [hN]
        clear hN hs
        go_enter Tryz.func12, Tryz.ntmps12
        go_wp2_with fail
        refine (rLetter _ _).mono ?_
        rintro e w' ⟨rfl, rfl⟩
        go_wp2
        go_ret
        exact ⟨rfl, Below.refl _ _⟩
      · cases ho : noOp s
        · have hN : nameB s = false := by unfold nameB; rw [ho]; simp
          rw [hN]
          have HO := Lib.hid (rOpOf_some ho)
          clear hN hs ho
          go_enter Tryz.func12, Tryz.ntmps12
          go_wp2_with fail
          refine (rLetter _ _).mono ?_
          rintro e w' ⟨rfl, rfl⟩
          go_wp2_with fail
          refine (HO.out _).mono ?_
          rintro e W ⟨⟨k, h1, h2, -, rfl⟩, hb⟩
          go_wp2
          go_ret
          exact ⟨rfl, hb⟩
        · have HO := Lib.hid (rOpOf_none ho)
          by_cases hr : regL s < 0
          · cases hk : kindB s
            · obtain ⟨y1, y2, y3, y4⟩ := kind_not hk
              have hr' : ¬ (0 ≤ regL s) := by omega
              have hN : nameB s = goodB s := by unfold nameB; rw [headB_cons hs, ha, ho, hk, decide_eq_true hr, decide_eq_true h16]; simp
              rw [hN]
              have HS := Lib.hid hs
              clear hN hs ho hk hr
              go_enter Tryz.func12, Tryz.ntmps12
              go_wp2_with fail
              refine (rLetter _ _).mono ?_
              rintro e w' ⟨rfl, rfl⟩
              go_wp2_with fail
              refine (HO.out _).mono ?_
              rintro e W ⟨rfl, hb⟩
              have HB := Lib.hid hb
              clear hb
              go_wp2_with fail
              refine (rReg _ _).mono ?_
              rintro e w' ⟨rfl, rfl⟩
              go_wp2_with fail
              have hs16 : s.size ≤ 16 := by omega
              clear y1 y2 y3 y4 hr' HO ha h16 e0 hsz
              go_loopw [3] (fun i wr => ∃ k : Nat, k ≤ s.size ∧ i = .int .i64 k ∧ Hid (∀ j b, j < k → s.data.toList[j]? = some b → okB b = true) ∧ Below w.heap.size w wr) (fun i _ => s.size - (intOf i).toNat)
              case atStart => exact ⟨0, Nat.zero_le _, rfl, Lib.hid fun j b h => by omega, HB.out⟩
              case round =>
                obtain ⟨k, hk, rfl, HG, hb⟩ := hrel
                by_cases hlt : k < s.size
                · obtain ⟨b, hbk⟩ : ∃ b, s.data.toList[k]? = some b := ⟨_, List.getElem?_eq_getElem (by rw [size_list]; exact hlt)⟩
                  have ek := byte_of hbk hlt
                  have HK := Lib.hid hbk
                  clear hbk
                  cases h1 : isLet b.toNat
                  · cases h2 : isDig b.toNat
                    · go_wp2_with fail
                      refine (rLetter _ _).mono ?_
                      rintro e w' ⟨rfl, rfl⟩
                      go_wp2_with fail
                      refine (rDigit _ _).mono ?_
                      rintro e w' ⟨rfl, rfl⟩
                      go_wp2
                      go_ret
                      exact ⟨by rw [goodB_not HK.out (by unfold okB; rw [h1, h2]; rfl)]; rfl, hb⟩
                    · go_wp2_with fail
                      refine (rLetter _ _).mono ?_
                      rintro e w' ⟨rfl, rfl⟩
                      go_wp2_with fail
                      refine (rDigit _ _).mono ?_
                      rintro e w' ⟨rfl, rfl⟩
                      go_wp2
                      go_roundw
                      case rel =>
                        refine ⟨k + 1, by omega, by go_num, Lib.hid fun j c hj hc => ?_, hb⟩
                        rcases Nat.lt_or_ge j k with h | h
                        · exact HG.out j c h hc
                        · obtain rfl : j = k := by omega
                          obtain rfl := Option.some.inj (hc.symm.trans HK.out)
                          unfold okB; rw [h1, h2]; rfl
                      case measure => simp [intOf]; omega
                  · go_wp2_with fail
                    refine (rLetter _ _).mono ?_
                    rintro e w' ⟨rfl, rfl⟩
                    go_wp2
                    go_roundw
                    case rel =>
                      refine ⟨k + 1, by omega, by go_num, Lib.hid fun j c hj hc => ?_, hb⟩
                      rcases Nat.lt_or_ge j k with h | h
                      · exact HG.out j c h hc
                      · obtain rfl : j = k := by omega
                        obtain rfl := Option.some.inj (hc.symm.trans HK.out)
                        unfold okB; rw [h1]; rfl
                    case measure => simp [intOf]; omega
                · obtain rfl : k = s.size := by omega
                  go_wp2_with fail
                  go_ret
                  exact ⟨by rw [goodB_of fun j b hj h => HG.out j b hj h]; rfl, hb⟩
            · have hN : nameB s = false := by unfold nameB; rw [hk]; simp
              rw [hN]
              clear hN hs ho
              have hr' : ¬ (0 ≤ regL s) := by omega
              rcases kind_cases hk with rfl | rfl | rfl | rfl
              all_goals
                clear hk hr
                go_enter Tryz.func12, Tryz.ntmps12
                go_wp2_with fail
                refine (rLetter _ _).mono ?_
                rintro e w' ⟨rfl, rfl⟩
                go_wp2_with fail
                refine (HO.out _).mono ?_
                rintro e W ⟨rfl, hb⟩
                go_wp2_with fail
                refine (rReg _ _).mono ?_
                rintro e w' ⟨rfl, rfl⟩
                go_wp2
                go_ret
                exact ⟨rfl, hb⟩
          · have hN : nameB s = false := by unfold nameB; rw [decide_eq_false hr]; simp
            rw [hN]
            clear hN hs ho
            have hr' : 0 ≤ regL s := by omega
            go_enter Tryz.func12, Tryz.ntmps12
            go_wp2_with fail
            refine (rLetter _ _).mono ?_
            rintro e w' ⟨rfl, rfl⟩
            go_wp2_with fail
            refine (HO.out _).mono ?_
            rintro e W ⟨rfl, hb⟩
            go_wp2_with fail
            refine (rReg _ _).mono ?_
            rintro e w' ⟨rfl, rfl⟩
            go_wp2
            go_ret
            exact ⟨rfl, hb⟩
    · have hN : nameB s = false := by unfold nameB; rw [headB_cons hs]; simp [h16]
      rw [hN]
      clear hN hs
      go_enter Tryz.func12, Tryz.ntmps12
      go_wp2
      go_ret
      exact ⟨rfl, Below.refl _ _⟩
end Go.Proofs.YtbfmlmnhdogojaaGreatDoor
