/- What a disk has behind any writes: the walk of the law, and its row. -/
import Derived.Test.YtoplchdnfmcbaaaVe
namespace Go.Proofs.Ytoplchdnfmcbaaa.diskPlays
open Go.ChangeShapes Go.WideShapes Go.ChangeAt Go.RowKit Go.Shelf Go.Deep


set_option maxRecDepth 100000 in
theorem walk {w : World} {A : Option Addr} {s : List (Int × List Int)} {c : Nat} (size : Int) (hs : Scr w w.heap.size A s) (hlen : s.length ≤ c) (hcap : c ≤ maxLen) :
    Calls Try.prog 5 #[.int .i64 size, .slice A s.length c] w fun e w' => e = .returned (.bool true) ∧ Below w.heap.size w w' := by
  simp only [maxLen] at hcap
  by_cases h1 : 1 ≤ size ∧ size ≤ 32 ∧ s.length ≤ 40
  · obtain ⟨h1, h2, h3⟩ := h1
    obtain ⟨size, rfl⟩ := Int.eq_ofNat_of_zero_le (show 0 ≤ size by omega)
    have h1' : ¬ ((size : Int) < 1) := by omega
    have h2' : ¬ (32 < (size : Int)) := by omega
    have h3' : ¬ (40 < (s.length : Int)) := by omega
    go_enter Try.func5, Try.ntmps5
    go_wp2_with fail
    refine (c10 size (by omega) (by omega) hs (by omega)).mono ?_
    rintro e W1 ⟨db, mb, m, A1, l, c1, rfl, hb1, hdb, hmb, hd1, hr1, hrep⟩
    have H16 := Lib.hid (c16 (c := c1) hd1 hrep hr1)
    have HB := Lib.hid hb1
    clear hd1 hr1 hrep hdb hmb hb1
    go_wp2_with fail
    refine H16.out.mono ?_
    rintro e W2 ⟨rfl, hb2⟩
    have HB2 := Lib.hid (HB.out.trans (hb2.mono HB.out.size))
    clear hb2 HB H16
    go_wp2_with fail
    refine (c9 _).mono ?_
    rintro e W3 ⟨rfl, hb9⟩
    have HB3 := Lib.hid (HB2.out.trans (hb9.mono HB2.out.size))
    clear hb9
    go_wp2
    go_ret
    exact ⟨rfl, HB3.out⟩
  · go_enter Try.func5, Try.ntmps5
    go_wp2_with (first
      | (go_at_call 9; refine (c9 _).mono ?_; rintro e w' ⟨rfl, hb9⟩)
      | (go_at_call 10; exfalso; omega))
    all_goals go_ret
    all_goals exact ⟨rfl, hb9⟩

set_option maxRecDepth 100000 in
theorem lifted (os : Os) (started : os.Started) (H : Type) (enc : TypeId × Value → H) :
    ReturnsInHanded {} Try.checked os 5 .any (Rows.diskPlaysSpec.pre6 enc Try.prog Try.f5 Rows.diskPlaysRow.domain false) (Rows.diskPlaysSpec.post enc Try.prog Try.f5 false true false false) := by
  refine returnsInHanded_of_change (C := Try.checked) Try.own started (by kernel_rfl) Try.func5
    (ChangeSpec.witness6 (enc := enc) (C := Try.checked) false ⟨#[], #[.int .i64 0, .slice none 0 0], []⟩ 8 (by kernel_rfl) (by kernel_rfl) (by kernel_rfl) (by kernel_rfl)) ?_
  intro W base args ds gs before hval0 hW hcnd _
  have hval : ∀ (j : Nat) t v, Try.f5.params[j]? = some t → args[j]? = some v → Value.okWide Try.prog W .any base t v := hval0
  have hW' := hW
  obtain ⟨p, q, hA0, hV, rfl, hfz, hnd⟩ := hW
  have hA : DataW.TrodAll enc Try.prog W 0 (fun _ => true) true Try.f5.params.toList args.toList ds p := hA0
  rw [Try.params5] at hA hval
  obtain ⟨v0, vs0, d0, ds0, p0, q0, hargs, rfl, rfl, h0, r0⟩ := trodAll_cons hA
  obtain ⟨v1, vs1, d1, ds1, p1, q1, rfl, rfl, rfl, h1, r1⟩ := trodAll_cons r0
  obtain ⟨rfl, rfl, rfl⟩ := trodAll_nil r1
  obtain rfl : args = #[v0, v1] := by cases args; simp_all
  obtain ⟨rfl, rfl⟩ := trodVars_none hV
  obtain ⟨a0, rfl, rfl, rfl, w0⟩ := open_int Try.underlying3 (hval 0 3 v0 rfl rfl) h0
  obtain ⟨A1, s, c1, rfl, l1, m1, hs⟩ := open_scr (hval 1 22 v1 rfl rfl) h1
  refine (walk a0 hs l1 m1).mono fun e W' ⟨he, hb⟩ => ?_
  subst he
  exact ⟨_, rfl, law_post Try.laidOut rfl (by kernel_rfl) Try.underlying4 (by kernel_rfl) rfl hW' hb⟩

theorem proved : Rows.DiskPlaysSaid :=
  OpenClaim.holds_of_wide 5 Try.f5 rfl rfl rfl rfl rfl rfl rfl ⟨rfl, rfl, rfl, rfl, rfl⟩ rfl rfl rfl rfl rfl (by kernel_rfl) Try.func5 (by kernel_rfl)
    (of_decide_eq_true (by kernel_rfl)) (by unfold Func.isWrapper; first | (rw [if_pos (by decide +kernel)]; kernel_rfl) | (rw [if_neg (by decide +kernel)]; exact ⟨rfl, rfl⟩))
    (fun os started H enc _ => lifted os started H enc)
#print axioms proved
end Go.Proofs.Ytoplchdnfmcbaaa.diskPlays
