/- Copies go on apart: for every bound and lists of calls. -/
import Derived.Test.YtbleilbphadehaaDoorNy
namespace Go.Proofs.YtbleilbphadehaaDoor
open Go.RowKit Go.Shelf

set_option maxRecDepth 100000 in
set_option maxHeartbeats 4000000 in
theorem cLabelsCopies {w : World} {most : Int} {A0 A1 : Option Addr} {l0 l1 : List St4} {c0 c1 : Nat} (hr0 : RdS w w.heap.size A0 l0) (hw0 : ∀ s ∈ l0, okS s) (hr1 : RdS w w.heap.size A1 l1) (hw1 : ∀ s ∈ l1, okS s) (hc0 : c0 ≤ maxLen) (hl0 : l0.length ≤ c0) (hc1 : c1 ≤ maxLen) (hl1 : l1.length ≤ c1) :
    Calls Tryd.prog 7 #[.int .i64 most, .slice A0 l0.length c0, .slice A1 l1.length c1] w fun e w' => e = .returned (.bool true) ∧ Below w.heap.size w w' := by
  simp only [maxLen] at hc0 hc1
  have hb0 : (l0.length : Int) ≤ 9223372036854775807 := by omega
  have hb1 : (l1.length : Int) ≤ 9223372036854775807 := by omega
  clear hc0 hl0 hc1 hl1
  by_cases hm : 1 ≤ most ∧ most ≤ 65536
  · obtain ⟨m1, m2⟩ := hm
    cases h61 : decide (60 < wrap64 ((l0.length : Int) + l1.length)) with
    | false => exact cCopies_in m1 m2 hb0 hb1 h61 hr0 hw0 hr1 hw1
    | true =>
      go_enter Tryd.func7, Tryd.ntmps7
      go_wp2_with fail
      refine (cNew (n := most) m1 m2 w).mono ?_
      rintro e W1 ⟨p, mn, mj, sv, rfl, -, b1⟩
      go_wp2_with fail
      refine (cNew (n := most) m1 m2 W1).mono ?_
      rintro e W2 ⟨p2, mn2, mj2, sv2, rfl, -, b2⟩
      have B2 := Lib.hid (b1.trans (b2.mono b1.size))
      clear b1 b2
      go_wp2_with fail
      clear h61
      refine (cKnown _).mono ?_
      rintro e W3 ⟨rfl, hb⟩
      have HF := Lib.hid (B2.out.trans (hb.mono B2.out.size))
      clear hb
      go_wp2
      go_ret
      exact ⟨rfl, HF.out⟩
  · have H := Lib.hid (cNew_bad hm)
    clear hm
    cases h61 : decide (60 < wrap64 ((l0.length : Int) + l1.length))
    all_goals
      go_enter Tryd.func7, Tryd.ntmps7
      go_wp2_with fail
      refine (H.out w).mono ?_
      rintro e w' ⟨rfl, rfl⟩
      go_wp2_with fail
      refine (H.out w').mono ?_
      rintro e w2 ⟨rfl, rfl⟩
      go_wp2_with fail
      clear h61
      refine (cKnown _).mono ?_
      rintro e W3 ⟨rfl, hb⟩
      go_wp2
      go_ret
      exact ⟨rfl, hb⟩
end Go.Proofs.YtbleilbphadehaaDoor
