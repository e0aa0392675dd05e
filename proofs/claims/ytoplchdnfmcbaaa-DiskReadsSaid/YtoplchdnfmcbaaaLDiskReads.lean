/- What is read of a sector: the walk of the law, and its row. -/
import Derived.Test.YtoplchdnfmcbaaaF
namespace Go.Proofs.Ytoplchdnfmcbaaa.diskReads
open Go.ChangeShapes Go.WideShapes Go.ChangeAt Go.RowKit Go.Shelf Go.Deep


set_option maxRecDepth 100000 in
theorem walk {w : World} {A : Option Addr} {s : List (Int × List Int)} {c : Nat} (size n : Int) (hs : Scr w w.heap.size A s) (hlen : s.length ≤ c) (hcap : c ≤ maxLen) :
    Calls Try.prog 3 #[.int .i64 size, .slice A s.length c, .int .i64 n] w fun e w' => e = .returned (.bool true) ∧ Below w.heap.size w w' := by
  simp only [maxLen] at hcap
  by_cases h1 : 1 ≤ size ∧ size ≤ 32 ∧ s.length ≤ 40
  · obtain ⟨h1, h2, h3⟩ := h1
    obtain ⟨size, rfl⟩ := Int.eq_ofNat_of_zero_le (show 0 ≤ size by omega)
    have h1' : ¬ ((size : Int) < 1) := by omega
    have h2' : ¬ (32 < (size : Int)) := by omega
    have h3' : ¬ (40 < (s.length : Int)) := by omega
    go_enter Try.func3, Try.ntmps3
    go_wp2_with fail
    refine (c10 size (by omega) (by omega) hs (by omega)).mono ?_
    rintro e W1 ⟨db, mb, m, A1, l, c1, rfl, hb1, hdb, hmb, hd1, hr1, hrep⟩
    obtain ⟨x, er, ht⟩ : ∃ x er, Told size m n x er := ⟨_, _, rfl, rfl⟩
    have hx := (ht.sec hd1.good).1
    have hi := size28 hx
    have hz := zlit
    go_wp2_with fail
    refine (c11_all hd1 n x er ht).mono ?_
    rintro e W2 ⟨rfl, hb2⟩
    have hB2 := hb1.trans (hb2.mono hb1.size)
    obtain ⟨T2, W3, e3, k3, hb3, hB3⟩ := own_sec hB2 hx
    have hr3 := ((hr1.below hb2 (Nat.le_refl _)).below hb3 hb2.size).up (Nat.le_trans hb2.size hb3.size)
    have hl3 : l.length < 9223372036854775808 := by have := hrep.1; omega
    go_wp2_with (first
      | (with_reducible refine wpList_store_mid rfl 28 (.tmp 10) (.tmp 37) rfl W2.heap.size 0 (intsA .u8 x) rfl rfl T2 hi (intsA_one _ _) ?_))
    clear e3 T2
    refine (c12_all hl3 hr3 hrep n x er ht).mono ?_
    rintro e W4 ⟨rfl, hb4⟩
    have hB4 := hB3.trans (hb4.mono hB3.size)
    obtain ⟨T4, W5, e5, k5, hb5, hB5⟩ := own_sec hB4 hx
    have k4 := (k3.below hb4 k3.lt).below hb5 (k3.below hb4 k3.lt).lt
    have k4' : W5.heap[W2.heap.size]? = some (.cells (intsA .u8 x) 28 (0, 0)) := k4
    have k5' : W5.heap[W4.heap.size]? = some (.cells (intsA .u8 x) 28 (0, 0)) := k5
    have heq := fun w => (eqSec x x hx hx w).trans (by rw [decide_eq_true rfl])
    go_wp2_with (first
      | (with_reducible refine wpList_store_mid rfl 28 (.tmp 12) (.tmp 43) rfl W4.heap.size 0 (intsA .u8 x) rfl rfl T4 hi (intsA_one _ _) ?_)
      | ((with_reducible refine wpList_load_row_g 28 (.tmp 10) rfl W2.heap.size rfl 28 (intsA .u8 x) (0, 0) _ k4' Try.underlying28 rfl hi ?_ ?_); (focus (simp [Region.wanted, yielded]; done)); simp only [Act.put, List.setIfInBounds_toArray, List.set_cons_zero, List.set_cons_succ])
      | ((with_reducible refine wpList_load_row_g 28 (.tmp 12) rfl W4.heap.size rfl 28 (intsA .u8 x) (0, 0) _ k5' Try.underlying28 rfl hi ?_ ?_); (focus (simp [Region.wanted, yielded]; done)); simp only [Act.put, List.setIfInBounds_toArray, List.set_cons_zero, List.set_cons_succ])
      | (go_at_call 13; refine (c13 _ _).mono ?_; rintro e w' ⟨rfl, rfl⟩)
      | (go_at_call 9; refine (c9 _).mono ?_; rintro e w' ⟨rfl, hb9⟩))
    go_ret
    exact ⟨rfl, hB5.trans (hb9.mono hB5.size)⟩
  · go_enter Try.func3, Try.ntmps3
    go_wp2_with (first
      | (go_at_call 9; refine (c9 _).mono ?_; rintro e w' ⟨rfl, hb9⟩)
      | (go_at_call 10; exfalso; omega))
    all_goals go_ret
    all_goals exact ⟨rfl, hb9⟩

set_option maxRecDepth 100000 in
theorem lifted (os : Os) (started : os.Started) (H : Type) (enc : TypeId × Value → H) :
    ReturnsInHanded {} Try.checked os 3 .any (Rows.diskReadsSpec.pre6 enc Try.prog Try.f3 Rows.diskReadsRow.domain false) (Rows.diskReadsSpec.post enc Try.prog Try.f3 false true false false) := by
  refine returnsInHanded_of_change (C := Try.checked) Try.own started (by kernel_rfl) Try.func3
    (ChangeSpec.witness6 (enc := enc) (C := Try.checked) false ⟨#[], #[.int .i64 0, .slice none 0 0, .int .i64 0], []⟩ 8 (by kernel_rfl) (by kernel_rfl) (by kernel_rfl) (by kernel_rfl)) ?_
  intro W base args ds gs before hval0 hW hcnd _
  have hval : ∀ (j : Nat) t v, Try.f3.params[j]? = some t → args[j]? = some v → Value.okWide Try.prog W .any base t v := hval0
  have hW' := hW
  obtain ⟨p, q, hA0, hV, rfl, hfz, hnd⟩ := hW
  have hA : DataW.TrodAll enc Try.prog W 0 (fun _ => true) true Try.f3.params.toList args.toList ds p := hA0
  rw [Try.params3] at hA hval
  obtain ⟨v0, vs0, d0, ds0, p0, q0, hargs, rfl, rfl, h0, r0⟩ := trodAll_cons hA
  obtain ⟨v1, vs1, d1, ds1, p1, q1, rfl, rfl, rfl, h1, r1⟩ := trodAll_cons r0
  obtain ⟨v2, vs2, d2, ds2, p2, q2, rfl, rfl, rfl, h2, r2⟩ := trodAll_cons r1
  obtain ⟨rfl, rfl, rfl⟩ := trodAll_nil r2
  obtain rfl : args = #[v0, v1, v2] := by cases args; simp_all
  obtain ⟨rfl, rfl⟩ := trodVars_none hV
  obtain ⟨a0, rfl, rfl, rfl, w0⟩ := open_int Try.underlying3 (hval 0 3 v0 rfl rfl) h0
  obtain ⟨A1, s, c1, rfl, l1, m1, hs⟩ := open_scr (hval 1 22 v1 rfl rfl) h1
  obtain ⟨a2, rfl, rfl, rfl, w2⟩ := open_int Try.underlying3 (hval 2 3 v2 rfl rfl) h2
  refine (walk a0 a2 hs l1 m1).mono fun e W' ⟨he, hb⟩ => ?_
  subst he
  exact ⟨_, rfl, law_post Try.laidOut rfl (by kernel_rfl) Try.underlying4 (by kernel_rfl) rfl hW' hb⟩

theorem proved : Rows.DiskReadsSaid :=
  OpenClaim.holds_of_wide 3 Try.f3 rfl rfl rfl rfl rfl rfl rfl ⟨rfl, rfl, rfl, rfl, rfl⟩ rfl rfl rfl rfl rfl (by kernel_rfl) Try.func3 (by kernel_rfl)
    (of_decide_eq_true (by kernel_rfl)) (by unfold Func.isWrapper; first | (rw [if_pos (by decide +kernel)]; kernel_rfl) | (rw [if_neg (by decide +kernel)]; exact ⟨rfl, rfl⟩))
    (fun os started H enc _ => lifted os started H enc)
#print axioms proved
end Go.Proofs.Ytoplchdnfmcbaaa.diskReads
