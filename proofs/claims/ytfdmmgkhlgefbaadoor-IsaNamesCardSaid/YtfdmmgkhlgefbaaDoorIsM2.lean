/- IsaNames: its walk. -/
import Derived.Test.YtfdmmgkhlgefbaaDoorIsM
import Derived.Test.YtfdmmgkhlgefbaaDoorIsL
namespace Go.Proofs.YtfdmmgkhlgefbaaDoor
open Go.RowKit Go.Shelf

set_option maxRecDepth 100000 in
set_option maxHeartbeats 4000000 in
theorem cIsaNames {w : World} {A : Option Addr} {l : List Int} {c : Nat} {A' : Option Addr} {l' : List ByteArray} {c' : Nat} (hl : Rd w w.heap.size .i64 A l) (hlen : l.length ≤ c) (hcap : c ≤ maxLen)
    (hl' : RdS w w.heap.size A' l') (hw' : ∀ s ∈ l', s.size ≤ maxLen) (hlen' : l'.length ≤ c') (hcap' : c' ≤ maxLen) (ht : Tb w) :
    Calls Tryd.prog 8 #[.slice A l.length c, .slice A' l'.length c'] w fun e w' => e = .returned (.bool true) ∧ Below w.heap.size w w' := by
  simp only [maxLen] at hcap hcap'
  by_cases h1 : l.length ≤ 60
  · by_cases h2 : l'.length ≤ 20
    · have h1' : ¬ (60 < (l.length : Int)) := by omega
      have h2' : ¬ (20 < (l'.length : Int)) := by omega
      go_enter Tryd.func8, Tryd.ntmps8
      go_wp2_with fail
      go_loopw [5] (fun i wr => ∃ k : Nat, k ≤ l.length ∧ i = .int .i64 k ∧ Below w.heap.size w wr) (fun i _ => l.length - (intOf i).toNat)
      case atStart => exact ⟨0, Nat.zero_le _, rfl, Below.refl _ _⟩
      case round =>
        obtain ⟨k, hk, rfl, hb⟩ := hrel
        have hl0 := hl.below hb (Nat.le_refl _)
        by_cases hlt : k < l.length
        · obtain ⟨x, hx⟩ : ∃ x, l[k]? = some x := ⟨_, List.getElem?_eq_getElem hlt⟩
          obtain ⟨g, off, rfl, hg⟩ := hl0.some_ (by omega)
          have cx := hl0.cell g off rfl k x hx
          have HX := Lib.hid hx
          clear hx
          have hgw := hb.size
          by_cases ho : 1 ≤ x ∧ x ≤ 28
          · have HO := Lib.hid ho
            have hne := name_ne ho
            clear ho
            have q1 := fun W => cName HO.out W
            have q2 := fun W => rName HO.out W
            have q3 := fun W => cNumber_in HO.out W
            generalize nameL x = nm at *
            have q1 := Lib.hid q1
            have q2 := Lib.hid q2
            have q3 := Lib.hid q3
            go_wp2_with fail
            refine (q1.out _).mono ?_
            rintro e W1 ⟨rfl, hb1⟩
            have hl1 := hl0.below hb1 hgw
            have B1 := hb.trans (hb1.mono hgw)
            have cx := hl1.cell g off rfl k x HX.out
            go_wp2_with fail
            refine (q2.out _).mono ?_
            rintro e W2 ⟨rfl, hb2⟩
            have hl2 := hl1.below hb2 B1.size
            have B2 := B1.trans (hb2.mono B1.size)
            go_wp2_with fail
            refine (q3.out _).mono ?_
            rintro e W3 ⟨rfl, hb3⟩
            have hl3 := hl2.below hb3 B2.size
            have B3 := B2.trans (hb3.mono B2.size)
            have cx := hl3.cell g off rfl k x HX.out
            go_wp2_with fail
            go_roundw
            case rel => exact ⟨k + 1, by omega, by go_num, B3⟩
            case measure => simp [intOf]; omega
          · have HO := Lib.hid ho
            clear ho
            have q3 := fun W => cNumber_none none_empty W
            have q3 := Lib.hid q3
            go_wp2_with fail
            refine (cName_out HO.out _).mono ?_
            rintro e W1 ⟨rfl, hb1⟩
            have hl1 := hl0.below hb1 hgw
            have B1 := hb.trans (hb1.mono hgw)
            have cx := hl1.cell g off rfl k x HX.out
            go_wp2_with fail
            refine (rName_out HO.out _).mono ?_
            rintro e W2 ⟨rfl, hb2⟩
            have hl2 := hl1.below hb2 B1.size
            have B2 := B1.trans (hb2.mono B1.size)
            go_wp2_with fail
            refine (q3.out _).mono ?_
            rintro e W3 ⟨rfl, hb3⟩
            have hl3 := hl2.below hb3 B2.size
            have B3 := B2.trans (hb3.mono B2.size)
            have cx := hl3.cell g off rfl k x HX.out
            go_wp2_with fail
            go_roundw
            case rel => exact ⟨k + 1, by omega, by go_num, B3⟩
            case measure => simp [intOf]; omega
        · obtain rfl : k = l.length := by omega
          go_wp2_with fail
          have hl0' := hl'
          obtain ⟨wo, rfl⟩ : ∃ wo : World, wo = wr := ⟨_, rfl⟩
          go_loopw [11] (fun i wr => ∃ m : Nat, m ≤ l'.length ∧ i = .int .i64 m ∧ Below w.heap.size w wr) (fun i _ => l'.length - (intOf i).toNat)
          case atStart => exact ⟨0, Nat.zero_le _, rfl, hb⟩
          case round =>
            obtain ⟨m, hm, rfl, hbm⟩ := hrel
            have hlm := hl'.below hbm (Nat.le_refl _)
            have Tm := ht.b hbm
            by_cases hmt : m < l'.length
            · obtain ⟨s, hx⟩ : ∃ s, l'[m]? = some s := ⟨_, List.getElem?_eq_getElem hmt⟩
              obtain ⟨g, off, rfl, hg⟩ := hlm.some_ (by omega)
              have cx := hlm.cell g off rfl m s hx
              have hsz := hw' s (List.mem_of_getElem? hx)
              simp only [maxLen] at hsz
              have HX := Lib.hid hx
              clear hx
              have hgm := hbm.size
              by_cases h20 : s.size ≤ 20
              · have h20' : ¬ (20 < (s.size : Int)) := by omega
                by_cases hno : NoneB s 29
                · have HN := Lib.hid hno
                  clear hno
                  go_wp2_with fail
                  refine (cNumber_none HN.out _).mono ?_
                  rintro e W4 ⟨rfl, hb4⟩
                  have B4 := hbm.trans (hb4.mono hgm)
                  have hl4 := hlm.below hb4 hgm
                  have cx := hl4.cell g off rfl m s HX.out
                  have cx := fun x : Since W4 => x.cell cx
                  go_wp2_with fail
                  refine wp_region_since (by kernel_rfl) (by kernel_rfl) ?_
                  repeat (go_big_quiet_step (fail))
                  refine wpQuiet_nil ?_
                  rintro _ ⟨x, rfl⟩
                  have B5 := B4.trans (x.low.mono B4.size)
                  go_wp2_with fail
                  go_loopw [14] (fun i wr => ∃ q : Nat, 1 ≤ q ∧ q ≤ 29 ∧ i = .int .i64 q ∧ Below w.heap.size w wr) (fun i _ => 29 - (intOf i).toNat)
                  case atStart => exact ⟨1, by omega, by omega, rfl, B5⟩
                  case round =>
                    obtain ⟨q, hq, hq', rfl, hbq⟩ := hrel
                    have hlq := hl'.below hbq (Nat.le_refl _)
                    have hgq := hbq.size
                    by_cases hqt : q < 29
                    · have cx := hlq.cell g off rfl m s HX.out
                      have cx := fun x : Since wr => x.cell cx
                      have rn := fun W => rName (op := (q : Int)) ⟨by omega, by omega⟩ W
                      have HQ := Lib.hid (show nameL (q : Int) = nameL (q : Int) from rfl)
                      cases hsame : ((nameL (q : Int)).toList == s.toList)
                      · generalize nameL (q : Int) = nq at *
                        have RN := Lib.hid rn
                        clear rn HQ
                        go_wp2_with fail
                        refine wp_region_since (by kernel_rfl) (by kernel_rfl) ?_
                        repeat (go_big_quiet_step (first | (go_at_call 18; exact Since.of (RN.out _))))
                        refine wpQuiet_nil ?_
                        rintro _ ⟨x, rfl⟩
                        go_wp2
                        go_roundw
                        case rel => exact ⟨q + 1, by omega, by omega, by go_num, hbq.trans (x.low.mono hbq.size)⟩
                        case measure => simp [intOf]; omega
                      · exact absurd (beq_iff_eq.1 hsame) (HN.out q hq (by omega))
                    · obtain rfl : q = 29 := by omega
                      go_wp2_with fail
                      go_roundw
                      case rel => exact ⟨m + 1, by omega, by go_num, hbq⟩
                      case measure => simp [intOf]; omega
                · obtain ⟨j, hj, hje⟩ : ∃ j : Int, (1 ≤ j ∧ j ≤ 28) ∧ (nameL j).toList = s.toList := by
                    unfold NoneB at hno
                    simp only [Classical.not_forall, Classical.not_not] at hno
                    obtain ⟨j, h1, h2, h3⟩ := hno
                    exact ⟨j, ⟨by omega, by omega⟩, h3⟩
                  have hje' : ((nameL j).toList == s.toList) = true := by rw [hje]; exact beq_self_eq_true _
                  have HE := Lib.hid hje
                  have HJ := Lib.hid hj
                  have hj0 : (j != 0) = true := by rw [bne_iff_ne]; omega
                  clear hje hno
                  have rj := fun W => rName HJ.out W
                  have RJ := Lib.hid rj
                  clear rj
                  have nj := fun W => cNumber_yes HJ.out HE.out W
                  have NJ := Lib.hid nj
                  clear nj
                  go_wp2_with fail
                  refine (NJ.out _).mono ?_
                  rintro e W4 ⟨rfl, hb4⟩
                  have B4 := hbm.trans (hb4.mono hgm)
                  have hl4 := hlm.below hb4 hgm
                  have cx := hl4.cell g off rfl m s HX.out
                  have cx := fun x : Since W4 => x.cell cx
                  go_wp2_with fail
                  refine wp_region_since (by kernel_rfl) (by kernel_rfl) ?_
                  repeat (go_big_quiet_step (first | (go_at_call 18; exact Since.of (RJ.out _))))
                  refine wpQuiet_nil ?_
                  rintro _ ⟨x, rfl⟩
                  have B5 := B4.trans (x.low.mono B4.size)
                  go_wp2_with fail
                  go_loopw [14] (fun i wr => ∃ q : Nat, 1 ≤ q ∧ q ≤ 29 ∧ i = .int .i64 q ∧ Below w.heap.size w wr) (fun i _ => 29 - (intOf i).toNat)
                  case atStart => exact ⟨1, by omega, by omega, rfl, B5⟩
                  case round =>
                    obtain ⟨q, hq, hq', rfl, hbq⟩ := hrel
                    have hlq := hl'.below hbq (Nat.le_refl _)
                    have hgq := hbq.size
                    by_cases hqt : q < 29
                    · have cx := hlq.cell g off rfl m s HX.out
                      have cx := fun x : Since wr => x.cell cx
                      have rn := fun W => rName (op := (q : Int)) ⟨by omega, by omega⟩ W
                      have HQ := Lib.hid (show nameL (q : Int) = nameL (q : Int) from rfl)
                      cases hsame : ((nameL (q : Int)).toList == s.toList)
                      · generalize nameL (q : Int) = nq at *
                        have RN := Lib.hid rn
                        clear rn HQ
                        go_wp2_with fail
                        refine wp_region_since (by kernel_rfl) (by kernel_rfl) ?_
                        repeat (go_big_quiet_step (first | (go_at_call 18; exact Since.of (RN.out _))))
                        refine wpQuiet_nil ?_
                        rintro _ ⟨x, rfl⟩
                        go_wp2
                        go_roundw
                        case rel => exact ⟨q + 1, by omega, by omega, by go_num, hbq.trans (x.low.mono hbq.size)⟩
                        case measure => simp [intOf]; omega
                      · have hjq : (q : Int) = j := name_of_toList ⟨by omega, by omega⟩ HJ.out (by rw [beq_iff_eq.1 hsame, HE.out])
                        have hjq' : ((j : Int) != (q : Int)) = false := by rw [hjq]; simp
                        clear hjq
                        generalize nameL (q : Int) = nq at *
                        have RN := Lib.hid rn
                        clear rn HQ
                        go_wp2_with fail
                        refine wp_region_since (by kernel_rfl) (by kernel_rfl) ?_
                        repeat (go_big_quiet_step (first | (go_at_call 18; exact Since.of (RN.out _))))
                        refine wpQuiet_nil ?_
                        rintro _ ⟨x, rfl⟩
                        go_wp2
                        go_roundw
                        case rel => exact ⟨q + 1, by omega, by omega, by go_num, hbq.trans (x.low.mono hbq.size)⟩
                        case measure => simp [intOf]; omega
                    · obtain rfl : q = 29 := by omega
                      go_wp2_with fail
                      go_roundw
                      case rel => exact ⟨m + 1, by omega, by go_num, hbq⟩
                      case measure => simp [intOf]; omega
              · have h20' : 20 < (s.size : Int) := by omega
                go_wp2_with fail
                refine (cKnown Tm).mono ?_
                rintro e W1 ⟨rfl, hb1⟩
                go_wp2
                go_ret
                exact ⟨rfl, hbm.trans (hb1.mono hbm.size)⟩
            · obtain rfl : m = l'.length := by omega
              go_wp2_with fail
              refine (cKnown Tm).mono ?_
              rintro e W1 ⟨rfl, hb1⟩
              go_wp2
              go_ret
              exact ⟨rfl, hbm.trans (hb1.mono hbm.size)⟩
    · have h1' : ¬ (60 < (l.length : Int)) := by omega
      have h2' : 20 < (l'.length : Int) := by omega
      go_enter Tryd.func8, Tryd.ntmps8
      go_wp2_with fail
      refine (cKnown ht).mono ?_
      rintro e W1 ⟨rfl, hb1⟩
      go_wp2
      go_ret
      exact ⟨rfl, hb1⟩
  · have h1' : 60 < (l.length : Int) := by omega
    go_enter Tryd.func8, Tryd.ntmps8
    go_wp2_with fail
    refine (cKnown ht).mono ?_
    rintro e W1 ⟨rfl, hb1⟩
    go_wp2
    go_ret
    exact ⟨rfl, hb1⟩
end Go.Proofs.YtfdmmgkhlgefbaaDoor
