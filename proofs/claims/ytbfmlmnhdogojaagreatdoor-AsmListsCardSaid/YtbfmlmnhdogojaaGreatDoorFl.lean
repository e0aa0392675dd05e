/- A line, whatever it is: contract. -/
import Derived.Test.YtbfmlmnhdogojaaGreatDoorFj2
namespace Go.Proofs.YtbfmlmnhdogojaaGreatDoor
open Go.RowKit Go.Shelf

theorem find_other {x : ByteArray} (h : kindB x = false) : Instr.findNow .string (.string x) kindsE.toList 0 = some none := by
  unfold kindB kindsL at h
  simp only [List.any_cons, List.any_nil, Bool.or_false, Bool.or_eq_false_iff, beq_eq_false_iff_ne] at h
  obtain ⟨h1, h2, h3, h4⟩ := h
  have ne : ∀ {y : ByteArray}, y.toList ≠ x.toList → x ≠ y := fun h e => h (by rw [e])
  have e1 := ne h1
  have e2 := ne h2
  have e3 := ne h3
  have e4 := ne h4
  have key : ∀ y : ByteArray, x ≠ y → Instr.sameNow .string (.string x) (.string y) = some false := fun y e => by
    have : (x == y) = false := by
      cases x with | mk x => cases y with | mk y =>
      show (x == y) = false
      exact beq_eq_false_iff_ne.2 (fun h => e (by rw [h]))
    simp [Instr.sameNow, this]
  simp only [kindsE, Instr.findNow, key _ e1, key _ e2, key _ e3, key _ e4]
section
variable {W : World} {R pb : Nat} {vb vn vh : Value} {line : Int} {bs : List Int} {ns : List (ByteArray × Int)} {hs : List HoleV} {s a b : ByteArray} {t : StV} {r : Except Int StV} {m : Bool}
set_option maxRecDepth 100000 in
set_option maxHeartbeats 1000000 in
/-- A line of a kind. -/
theorem cDoKX {i : Nat} {f : FuncId} (hG : Gl W) (hp : Plain s) (hcut : Lib.cut s.data.toList [32] = (a.data.toList, b.data.toList, true)) (hfind : Instr.findNow .string (.string a) kindsE.toList 0 = some (some (i, .func (.func f) #[] #[])))
    (eg : ∀ args w, (callFunc f args).run Tryz.prog w = .ok (.enter f args) w)
    (hk : ∀ W4, Below W.heap.size W W4 → Calls Tryz.prog f #[.pointer (some ⟨pb, 0, none⟩), .string b] W4 fun e W' => OutI W4 W' R pb vb vn vh line e r) :
    Calls Tryz.prog 41 #[.pointer (some ⟨pb, 0, none⟩), .string s] W fun e W' => OutI W W' R pb vb vn vh line e r := by
  have HK := Lib.hid hk
  clear hk
  have hne := ne_nil hp.pos
  have hpos := hp.pos
  have hh : ((s[0]'hpos).toNat : Int) ≠ 35 := fun e => hp.hash (UInt8.toNat_inj.1 (by show _ = 35; omega))
  have HC := Lib.hid (cCutS (W := W) hp.low)
  have HM := Lib.hid hp.name
  have HL := Lib.hid hp.low
  have HG := Lib.hid hG
  have HF := Lib.hid hfind
  have HCUT := Lib.hid hcut
  clear hp hG hfind hcut
  go_enter Tryz.func41, Tryz.ntmps41
  go_wp2_with fail
  refine HC.out.mono ?_
  rintro e w' ⟨rfl, rfl⟩
  obtain ⟨m, hm⟩ : ∃ m, m = cutN s := ⟨_, rfl⟩
  rw [← hm] at HM ⊢
  clear hm
  have HW0 := Lib.hid ((Below.refl _ w').alloc (Nat.le_refl _) (.cells #[.string m] 9))
  cases hc : cutC s
  · go_wp2_with fail
    generalize World.alloc _ _ = W1 at *
    have HC2 := Lib.hid (cCutAll (HG.out.b HW0.out) HL.out HCUT.out)
    clear HC HM HL hh
    refine HC2.out.mono ?_
    rintro e W3 ⟨rfl, hb⟩
    have HW3 := Lib.hid (HW0.out.trans (hb.mono HW0.out.size))
    clear hb HW0 HC2
    go_wp2_with fail
    refine (cKinds _).mono ?_
    rintro e W4 ⟨rfl, hK⟩
    have hlk := look_kind hK a HF.out
    have HW4 := Lib.hid (HW3.out.trans (hK.low.mono HW3.out.size))
    clear hK HW3
    go_wp2_with fail
    refine (cMust _ _ _).mono ?_
    rintro e w' ⟨rfl, rfl⟩
    go_wp2_with fail
    have hb4 := HW4.out
    refine (HK.out _ hb4).mono ?_
    rintro e W5 hx
    cases r with
    | ok t' =>
      obtain ⟨rfl, hx⟩ := hx
      have HF := Lib.hid (StI.first hb4 hx)
      clear hb4 hx
      go_wp2
      refine bodyPost_ret (results_none rfl _ _ _) rfl ?_
      exact ⟨rfl, HF.out⟩
    | error er =>
      obtain ⟨rfl, hx⟩ := hx
      exact ⟨rfl, rfl, (KeptBut.of_below _ hb4).trans hx⟩
  · have hq := HM.out hc
    go_wp2_with fail
    refine (cNm m _).mono ?_
    rintro e W2 ⟨rfl, hb⟩
    rw [hq]
    have HW1 := Lib.hid (HW0.out.trans (hb.mono HW0.out.size))
    clear hb HW0
    have HW0 := HW1
    clear HW1
    go_wp2_with fail
    generalize W2 = W1 at *
    have HC2 := Lib.hid (cCutAll (HG.out.b HW0.out) HL.out HCUT.out)
    clear HC HM HL hh
    refine HC2.out.mono ?_
    rintro e W3 ⟨rfl, hb⟩
    have HW3 := Lib.hid (HW0.out.trans (hb.mono HW0.out.size))
    clear hb HW0 HC2
    go_wp2_with fail
    refine (cKinds _).mono ?_
    rintro e W4 ⟨rfl, hK⟩
    have hlk := look_kind hK a HF.out
    have HW4 := Lib.hid (HW3.out.trans (hK.low.mono HW3.out.size))
    clear hK HW3
    go_wp2_with fail
    refine (cMust _ _ _).mono ?_
    rintro e w' ⟨rfl, rfl⟩
    go_wp2_with fail
    have hb4 := HW4.out
    refine (HK.out _ hb4).mono ?_
    rintro e W5 hx
    cases r with
    | ok t' =>
      obtain ⟨rfl, hx⟩ := hx
      have HF := Lib.hid (StI.first hb4 hx)
      clear hb4 hx
      go_wp2
      refine bodyPost_ret (results_none rfl _ _ _) rfl ?_
      exact ⟨rfl, HF.out⟩
    | error er =>
      obtain ⟨rfl, hx⟩ := hx
      exact ⟨rfl, rfl, (KeptBut.of_below _ hb4).trans hx⟩
end
end Go.Proofs.YtbfmlmnhdogojaaGreatDoor
namespace Go.Proofs.YtbfmlmnhdogojaaGreatDoor
open Go.RowKit Go.Shelf

section
variable {W : World} {R pb : Nat} {vb vn vh : Value} {line : Int} {bs : List Int} {ns : List (ByteArray × Int)} {hs : List HoleV} {s a b : ByteArray} {t : StV} {r : Except Int StV} {m : Bool}
set_option maxRecDepth 100000 in
set_option maxHeartbeats 1000000 in
theorem cDoNoMore {i : Nat} {f : FuncId} (hG : Gl W) (h : PS W R pb vb vn vh line bs ns hs) (hp : Plain s) (hcut : Lib.cut s.data.toList [32] = (a.data.toList, b.data.toList, false)) (hfind : Instr.findNow .string (.string a) kindsE.toList 0 = some (some (i, .func (.func f) #[] #[]))) :
    Calls Tryz.prog 41 #[.pointer (some ⟨pb, 0, none⟩), .string s] W fun e W' => e = .panicked (failC line 280) ∧ Below W.heap.size W W' := by
  have HP := Lib.hid h
  clear h
  have hne := ne_nil hp.pos
  have hpos := hp.pos
  have hh : ((s[0]'hpos).toNat : Int) ≠ 35 := fun e => hp.hash (UInt8.toNat_inj.1 (by show _ = 35; omega))
  have HC := Lib.hid (cCutS (W := W) hp.low)
  have HM := Lib.hid hp.name
  have HL := Lib.hid hp.low
  have HG := Lib.hid hG
  have HF := Lib.hid hfind
  have HCUT := Lib.hid hcut
  clear hp hG hfind hcut
  go_enter Tryz.func41, Tryz.ntmps41
  go_wp2_with fail
  refine HC.out.mono ?_
  rintro e w' ⟨rfl, rfl⟩
  obtain ⟨m, hm⟩ : ∃ m, m = cutN s := ⟨_, rfl⟩
  rw [← hm] at HM ⊢
  clear hm
  have HW0 := Lib.hid ((Below.refl _ w').alloc (Nat.le_refl _) (.cells #[.string m] 9))
  cases hc : cutC s
  · go_wp2_with fail
    generalize World.alloc _ _ = W1 at *
    have HC2 := Lib.hid (cCutAll (HG.out.b HW0.out) HL.out HCUT.out)
    clear HC HM HL hh
    refine HC2.out.mono ?_
    rintro e W3 ⟨rfl, hb⟩
    have HW3 := Lib.hid (HW0.out.trans (hb.mono HW0.out.size))
    clear hb HW0 HC2
    go_wp2_with fail
    refine (cKinds _).mono ?_
    rintro e W4 ⟨rfl, hK⟩
    have hlk := look_kind hK a HF.out
    have HW4 := Lib.hid (HW3.out.trans (hK.low.mono HW3.out.size))
    clear hK HW3
    go_wp2_with fail
    refine (cMustNo (HP.out.below HW4.out).c 280).mono ?_
    rintro e w' ⟨rfl, rfl⟩
    exact ⟨rfl, rfl, HW4.out⟩
  · have hq := HM.out hc
    go_wp2_with fail
    refine (cNm m _).mono ?_
    rintro e W2 ⟨rfl, hb⟩
    rw [hq]
    have HW1 := Lib.hid (HW0.out.trans (hb.mono HW0.out.size))
    clear hb HW0
    have HW0 := HW1
    clear HW1
    go_wp2_with fail
    generalize W2 = W1 at *
    have HC2 := Lib.hid (cCutAll (HG.out.b HW0.out) HL.out HCUT.out)
    clear HC HM HL hh
    refine HC2.out.mono ?_
    rintro e W3 ⟨rfl, hb⟩
    have HW3 := Lib.hid (HW0.out.trans (hb.mono HW0.out.size))
    clear hb HW0 HC2
    go_wp2_with fail
    refine (cKinds _).mono ?_
    rintro e W4 ⟨rfl, hK⟩
    have hlk := look_kind hK a HF.out
    have HW4 := Lib.hid (HW3.out.trans (hK.low.mono HW3.out.size))
    clear hK HW3
    go_wp2_with fail
    refine (cMustNo (HP.out.below HW4.out).c 280).mono ?_
    rintro e w' ⟨rfl, rfl⟩
    exact ⟨rfl, rfl, HW4.out⟩
end
end Go.Proofs.YtbfmlmnhdogojaaGreatDoor
namespace Go.Proofs.YtbfmlmnhdogojaaGreatDoor
open Go.RowKit Go.Shelf

section
variable {W : World} {R pb : Nat} {vb vn vh : Value} {line : Int} {bs : List Int} {ns : List (ByteArray × Int)} {hs : List HoleV} {s a b : ByteArray} {t : StV} {r : Except Int StV} {m : Bool}
set_option maxRecDepth 100000 in
set_option maxHeartbeats 1000000 in
theorem cDoIX (hG : Gl W) (hp : Plain s) (hcut : Lib.cut s.data.toList [32] = (a.data.toList, b.data.toList, m)) (hfind : Instr.findNow .string (.string a) kindsE.toList 0 = some none)
    (hk : ∀ W4, Below W.heap.size W W4 → Calls Tryz.prog 72 #[.pointer (some ⟨pb, 0, none⟩), .string s] W4 fun e W' => OutI W4 W' R pb vb vn vh line e r) :
    Calls Tryz.prog 41 #[.pointer (some ⟨pb, 0, none⟩), .string s] W fun e W' => OutI W W' R pb vb vn vh line e r := by
  have HK := Lib.hid hk
  clear hk
  have hne := ne_nil hp.pos
  have hpos := hp.pos
  have hh : ((s[0]'hpos).toNat : Int) ≠ 35 := fun e => hp.hash (UInt8.toNat_inj.1 (by show _ = 35; omega))
  have HC := Lib.hid (cCutS (W := W) hp.low)
  have HM := Lib.hid hp.name
  have HL := Lib.hid hp.low
  have HG := Lib.hid hG
  have HF := Lib.hid hfind
  have HCUT := Lib.hid hcut
  clear hp hG hfind hcut
  go_enter Tryz.func41, Tryz.ntmps41
  go_wp2_with fail
  refine HC.out.mono ?_
  rintro e w' ⟨rfl, rfl⟩
  obtain ⟨m', hm⟩ : ∃ m', m' = cutN s := ⟨_, rfl⟩
  rw [← hm] at HM ⊢
  clear hm
  have HW0 := Lib.hid ((Below.refl _ w').alloc (Nat.le_refl _) (.cells #[.string m'] 9))
  cases hc : cutC s
  · go_wp2_with fail
    generalize World.alloc _ _ = W1 at *
    have HC2 := Lib.hid (cCutAll (HG.out.b HW0.out) HL.out HCUT.out)
    clear HC HM HL hh
    refine HC2.out.mono ?_
    rintro e W3 ⟨rfl, hb⟩
    have HW3 := Lib.hid (HW0.out.trans (hb.mono HW0.out.size))
    clear hb HW0 HC2
    go_wp2_with fail
    refine (cKinds _).mono ?_
    rintro e W4 ⟨rfl, hK⟩
    have hlk := look_kind hK a HF.out
    have HW4 := Lib.hid (HW3.out.trans (hK.low.mono HW3.out.size))
    clear hK HW3
    go_wp2_with fail
    have hb4 := HW4.out
    refine (HK.out _ hb4).mono ?_
    rintro e W5 hx
    cases r with
    | ok t' =>
      obtain ⟨rfl, hx⟩ := hx
      have HF := Lib.hid (StI.first hb4 hx)
      clear hb4 hx
      go_wp2
      go_end0
      exact ⟨rfl, HF.out⟩
    | error er =>
      obtain ⟨rfl, hx⟩ := hx
      exact ⟨rfl, rfl, (KeptBut.of_below _ hb4).trans hx⟩
  · have hq := HM.out hc
    go_wp2_with fail
    refine (cNm m' _).mono ?_
    rintro e W2 ⟨rfl, hb⟩
    rw [hq]
    have HW1 := Lib.hid (HW0.out.trans (hb.mono HW0.out.size))
    clear hb HW0
    have HW0 := HW1
    clear HW1
    go_wp2_with fail
    generalize W2 = W1 at *
    have HC2 := Lib.hid (cCutAll (HG.out.b HW0.out) HL.out HCUT.out)
    clear HC HM HL hh
    refine HC2.out.mono ?_
    rintro e W3 ⟨rfl, hb⟩
    have HW3 := Lib.hid (HW0.out.trans (hb.mono HW0.out.size))
    clear hb HW0 HC2
    go_wp2_with fail
    refine (cKinds _).mono ?_
    rintro e W4 ⟨rfl, hK⟩
    have hlk := look_kind hK a HF.out
    have HW4 := Lib.hid (HW3.out.trans (hK.low.mono HW3.out.size))
    clear hK HW3
    go_wp2_with fail
    have hb4 := HW4.out
    refine (HK.out _ hb4).mono ?_
    rintro e W5 hx
    cases r with
    | ok t' =>
      obtain ⟨rfl, hx⟩ := hx
      have HF := Lib.hid (StI.first hb4 hx)
      clear hb4 hx
      go_wp2
      go_end0
      exact ⟨rfl, HF.out⟩
    | error er =>
      obtain ⟨rfl, hx⟩ := hx
      exact ⟨rfl, rfl, (KeptBut.of_below _ hb4).trans hx⟩
end
end Go.Proofs.YtbfmlmnhdogojaaGreatDoor
