/- Copies go on apart: the walk. -/
import Derived.Test.YtbleilbphadehaaDoorNv
import Derived.Deep.RegionWith
namespace Go.Proofs.YtbleilbphadehaaDoor
open Go.RowKit Go.Shelf

set_option maxRecDepth 100000 in
set_option maxHeartbeats 16000000 in
theorem cCopies_in {w : World} {most : Int} {A0 A1 : Option Addr} {l0 l1 : List St4} {c0 c1 : Nat} (m1 : 1 ≤ most) (m2 : most ≤ 65536) (hb0 : (l0.length : Int) ≤ 9223372036854775807) (hb1 : (l1.length : Int) ≤ 9223372036854775807) (h60 : decide (60 < wrap64 ((l0.length : Int) + l1.length)) = false) (hr0 : RdS w w.heap.size A0 l0) (hw0 : ∀ s ∈ l0, okS s) (hr1 : RdS w w.heap.size A1 l1) (hw1 : ∀ s ∈ l1, okS s) :
    Calls Tryd.prog 7 #[.int .i64 most, .slice A0 l0.length c0, .slice A1 l1.length c1] w fun e w' => e = .returned (.bool true) ∧ Below w.heap.size w w' := by
  go_enter Tryd.func7, Tryd.ntmps7
  go_wp2_with fail
  refine (cNew (n := most) m1 m2 w).mono ?_
  rintro e W1 ⟨p, mn, mj, sv, rfl, t1, b1⟩
  have T1 := Lib.hid t1
  have B1 := Lib.hid b1
  clear t1 b1
  go_wp2_with fail
  refine (cNew (n := most) m1 m2 W1).mono ?_
  rintro e W2 ⟨p2, mn2, mj2, sv2, rfl, t2, b2⟩
  have T2 := Lib.hid t2
  have B2 := Lib.hid b2
  clear t2 b2
  go_wp2_with fail
  clear h60
  refine (rNew W2).mono ?_
  rintro e W3 ⟨A, cap, rfl, an⟩
  unfold rtV
  obtain ⟨kc, kb, ks⟩ := cells1 W3 #[.int .i64 most, .slice A 1 cap] 51
  have hlt : ∀ g off, A = some ⟨g, off, none⟩ → W2.heap.size ≤ g ∧ g < W3.heap.size := fun g off e => by
    obtain ⟨g', off', e', hg⟩ := an.1.some_ (by decide)
    rw [e] at e'; simp at e'
    refine ⟨?_, by omega⟩
    rcases an.2.1 with h | h
    · rw [h] at e; cases e
    · exact h g off e
  have hC : C1 w (W3.alloc (.cells #[.int .i64 most, .slice A 1 cap] 51)) p mn mj sv [0] [] p2 mn2 mj2 sv2 [0] [] most A cap W3.heap.size := by
    have hb := an.2.2.trans (kb.mono an.2.2.size)
    have hsz := B1.out.size
    have hsz2 := B2.out.size
    have hsz3 := an.2.2.size
    have hb1 := B2.out.trans (hb.mono hsz2)
    refine ⟨⟨⟨T1.out.below hb1, TOk.first m1 m2, (an.1.below kb (Nat.le_refl _)).up kb.size, fun g off e q => ?_⟩, kc, fun q => ?_, fun g off e => ?_, B1.out.trans (hb1.mono hsz), by omega⟩, (T2.out.low hsz).below hb, TOk.first m1 m2, fun k q q' => ?_, fun g off e q => ?_, fun q => ?_⟩
    · have := T1.out.blk _ q; have := hlt g off e; omega
    · have := T1.out.blk _ q; omega
    · have := hlt g off e; omega
    · have := T1.out.blk _ q'; have := T2.out.own _ q; omega
    · have := T2.out.blk _ q; have := hlt g off e; omega
    · have := T2.out.blk _ q; omega
  have HC := Lib.hid hC
  clear an kb ks kc hlt hC T1 B1 T2 B2
  go_wp2_with fail
  generalize W3.heap.size = B at *
  generalize World.alloc _ _ = W4 at *
  go_loopw [12] (fun i wr => ∃ k : Nat, k ≤ l0.length ∧ i = .int .i64 k ∧ ∃ mn mj sv J mn2 mj2 sv2 J2 L A cap, C1 w wr p mn mj sv L J p2 mn2 mj2 sv2 L J2 most A cap B) (fun i _ => l0.length - (intOf i).toNat)
  case atStart => exact ⟨0, Nat.zero_le _, rfl, _, _, _, _, _, _, _, _, _, _, _, HC.out⟩
  case round =>
    clear HC
    obtain ⟨k, hk, rfl, mn, mj, sv, J, mn2, mj2, sv2, J2, L, A, cap, hC⟩ := hrel
    by_cases hlt : k < l0.length
    · obtain ⟨⟨kd, a, b, x⟩, hx⟩ : ∃ x, l0[k]? = some x := ⟨_, List.getElem?_eq_getElem hlt⟩
      have hxx := (hw0 _ (List.mem_of_getElem? hx)).1
      obtain ⟨g, off, rfl, hg⟩ := hr0.some_ (by omega)
      have P1 := hC.below (Below.refl _ _).drew
      obtain ⟨x0, x1, x2, x3⟩ := (hr0.below P1.a.low (Nat.le_refl _)).cell g off rfl k kd a b x hx
      have v0 := (P1.a.var.cell 0).trans (show _ = some (Value.int .i64 most) from rfl)
      have v1 := (P1.a.var.cell 1).trans (show _ = some (Value.slice A L.length cap) from rfl)
      have hD := cDoes (cap := cap) (k := kd) (a := a) (b := b) P1.a.pr hxx
      have HP := Lib.hid P1
      have HR := Lib.hid (And.intro hx hxx)
      unfold rtV stepA at hD
      have HD := Lib.hid hD
      clear hD P1 hC hx hxx
      go_wp2_with fail
      go_region_with (first
        | ((with_reducible refine (HD.out).mono ?_); rintro e W5 ⟨A', cap', rfl, d⟩; have lB : Cells W5 B 51 #[.int .i64 most, .slice A L.length cap] := (does_block d HP.out.a.var.lt HP.out.a.nb).trans HP.out.a.var; have u0 := (lB.cell 0).trans (show _ = some (Value.int .i64 most) from rfl); have u1 := (lB.cell 1).trans (show _ = some (Value.slice A L.length cap) from rfl); have f0 := lB.frozen 0; have f1 := lB.frozen 1; have HL := Lib.hid lB; have HDD := Lib.hid d; clear lB d))
      all_goals
        obtain ⟨sv', J', hC5, -⟩ := C1.step1 HP.out HDD.out (k4_end0 (B := B) (.int .i64 most) (.slice A' (stepR most L kd a b x).length cap')) (two_set HL.out)
        generalize World.setCell (World.setCell _ _ _) _ _ = W6 at *
        obtain ⟨hx, hxx⟩ := HR.out
        have P6 := hC5.below (Below.refl _ _).drew
        clear x0 x1 x2 x3 v0 v1 u0 u1 f0 f1 HD hC5 HL HDD HP
        obtain ⟨x0, x1, x2, x3⟩ := (hr0.below P6.a.low (Nat.le_refl _)).cell g off rfl k kd a b x hx
        have v0 := (P6.a.var.cell 0).trans (show _ = some (Value.int .i64 most) from rfl)
        have v1 := (P6.a.var.cell 1).trans (show _ = some (Value.slice A' (stepR most L kd a b x).length cap') from rfl)
        have hD2 := cDoesG (cap := cap') (k := kd) (a := a) (b := b) (x := x) (⟨P6.o, P6.ok2, P6.a.pr.ok, P6.a.pr.r, P6.a2⟩ : PrG W6.drew w.heap.size p2 mn2 mj2 sv2 most L J2 A' (stepR most L kd a b x) J') hxx
        generalize stepR most L kd a b x = L' at *
        unfold rtV stepA at hD2
        have HD2 := Lib.hid hD2
        have HP6 := Lib.hid P6
        clear hD2 P6 hx hxx HR
        go_wp2_with fail
        go_region_with (first
          | ((with_reducible refine (HD2.out).mono ?_); rintro e W7 ⟨A9, cap9, rfl, d⟩; have HDD2 := Lib.hid d; clear d))
        all_goals
          obtain ⟨sv2', J2', hC7⟩ := C1.step2 HP6.out HDD2.out
          have HF := Lib.hid hC7
          clear hC7 HDD2 HP6 HD2
          go_wp2
          go_roundw
          case rel => exact ⟨k + 1, by omega, by go_num, mn, mj, sv', J', mn2, mj2, sv2', J2', _, A', cap', HF.out⟩
          case measure => simp [intOf]; omega
    · obtain rfl : k = l0.length := by omega
      have hpos := hC.a.pr.ok.pos
      have hlen : L.length ≤ 65536 := by have := hC.a.pr.ok.len; omega
      have HC := Lib.hid hC
      have H1 := Lib.hid (cCopy hC.a.pr.t hpos hlen)
      clear hC hr0 hw0
      generalize hwr : wr = V at *
      clear hwr
      go_wp2_with fail
      refine H1.out.mono ?_
      rintro e W5 ⟨pc, mnc, mjc, svc, rfl, tc, b5, -⟩
      have P5 := HC.out.below b5
      have H2 := Lib.hid (show Calls Tryd.prog 27 #[.pointer (some ⟨p, 0, none⟩), .pointer (some ⟨pc, 0, none⟩)] W5 fun e w' => e = .returned (.bool true) ∧ Below W5.heap.size W5 w' from (cSame P5.a.pr.t hpos hlen tc hpos hlen).mono (by rintro e w' ⟨rfl, hb⟩; exact ⟨by simp, hb⟩))
      have HX := Lib.hid (And.intro P5 (And.intro tc b5))
      clear P5 tc b5 H1
      go_wp2_with fail
      refine H2.out.mono ?_
      rintro e W6 ⟨rfl, b6⟩
      have P6 := HX.out.1.below b6
      have H3 := Lib.hid (show Calls Tryd.prog 27 #[.pointer (some ⟨p, 0, none⟩), .pointer (some ⟨p2, 0, none⟩)] W6 fun e w' => e = .returned (.bool true) ∧ Below W6.heap.size W6 w' from (cSame P6.a.pr.t hpos hlen P6.o hpos hlen).mono (by rintro e w' ⟨rfl, hb⟩; exact ⟨by simp, hb⟩))
      have HY := Lib.hid (And.intro P6 b6)
      clear P6 b6 H2
      go_wp2_with fail
      refine H3.out.mono ?_
      rintro e W7 ⟨rfl, b7⟩
      have P7 := HY.out.1.below b7
      obtain ⟨kc, kb, ks⟩ := cells1 W7 #[.int .i64 most, .slice A L.length cap] 51
      have hS : C2 w (W7.alloc (.cells #[.int .i64 most, .slice A L.length cap] 51)) pc mnc mjc svc L J p mn mj sv L J most A cap W7.heap.size A cap B := by
        have tc := HX.out.2.1
        have s5 := HX.out.2.2.size
        have s6 := HY.out.2.size
        have s7 := b7.size
        have tc7 := (tc.below HY.out.2).below b7
        have hA := HC.out.a.pr.lt
        have hv := HC.out.a.var.lt
        have hT := HC.out.a.pr.t.blk
        have hw := HC.out.a.low.size
        have hr7 := (P7.a.pr.r.below kb (Nat.le_refl _)).up kb.size
        refine ⟨⟨⟨⟨(tc7.low hw).below kb, P7.a.pr.ok, hr7, fun g off e q => ?_⟩, kc, fun q => ?_, fun g off e => ?_, P7.a.low.trans (kb.mono P7.a.low.size), P7.a.low.size⟩, P7.a.pr.t.below kb, P7.a.pr.ok, fun k q q' => ?_, P7.a.pr.ap, fun q => ?_⟩, P7.a.var.below kb P7.a.var.lt, hr7, fun q => ?_, fun g off e q => ?_, ?_, fun g off e => ?_⟩
        · have := hA g off e; have := tc.own g q; omega
        · have := tc.blk _ q; omega
        · have := hA g off e; omega
        · have := hT k q; have := tc.own k q'; omega
        · have := hT _ q; omega
        · have := tc.own _ q; omega
        · have := hA g off e; have := tc.own g q; omega
        · omega
        · have := hA g off e; omega
      have v0 := (P7.a.var.cell 0).trans (show _ = some (Value.int .i64 most) from rfl)
      have v1 := (P7.a.var.cell 1).trans (show _ = some (Value.slice A L.length cap) from rfl)
      have HS := Lib.hid hS
      clear kc kb ks hS P7 b7 H3 HY HX HC
      go_wp2_with fail
      clear v0 v1
      generalize W7.heap.size = B2 at *
      generalize World.alloc _ _ = W8 at *
      go_loopw [15] (fun i wr => ∃ k : Nat, k ≤ l1.length ∧ i = .int .i64 k ∧ ∃ mnc mjc svc H JH A2 cap2 M, Hid (H = L ++ M) ∧ C2 w wr pc mnc mjc svc H JH p mn mj sv L J most A2 cap2 B2 A cap B) (fun i _ => l1.length - (intOf i).toNat)
      case atStart => exact ⟨0, Nat.zero_le _, rfl, _, _, _, _, _, _, _, [], Lib.hid (by simp), HS.out⟩
      case round =>
        clear HS
        obtain ⟨k, hk, rfl, mnc, mjc, svc, H, JH, A2, cap2, M, hH, hC⟩ := hrel
        by_cases hlt : k < l1.length
        · obtain ⟨⟨kd, a, b, x⟩, hx⟩ : ∃ x, l1[k]? = some x := ⟨_, List.getElem?_eq_getElem hlt⟩
          have hxx := (hw1 _ (List.mem_of_getElem? hx)).1
          obtain ⟨g, off, rfl, hg⟩ := hr1.some_ (by omega)
          have P1 := hC.below (Below.refl _ _).drew
          obtain ⟨x0, x1, x2, x3⟩ := (hr1.below P1.m.a.low (Nat.le_refl _)).cell g off rfl k kd a b x hx
          have v0 := (P1.m.a.var.cell 0).trans (show _ = some (Value.int .i64 most) from rfl)
          have v1 := (P1.m.a.var.cell 1).trans (show _ = some (Value.slice A2 H.length cap2) from rfl)
          have hD := cDoes (cap := cap2) (k := kd) (a := a) (b := b) P1.m.a.pr hxx
          obtain ⟨M', hM'⟩ := step_more most H kd a b x
          generalize stepR most H kd a b x = H' at *
          have HM := Lib.hid (show H' = L ++ (M ++ M') by rw [hM', hH.out, List.append_assoc])
          have HP := Lib.hid P1
          unfold rtV stepA at hD
          have HD := Lib.hid hD
          clear hD P1 hC hx hxx hM' hH
          go_wp2_with fail
          go_region_with (first
            | ((with_reducible refine (HD.out).mono ?_); rintro e W5 ⟨A', cap', rfl, d⟩; have lB : Cells W5 B2 51 #[.int .i64 most, .slice A2 H.length cap2] := (does_block d HP.out.m.a.var.lt HP.out.m.a.nb).trans HP.out.m.a.var; have u0 := (lB.cell 0).trans (show _ = some (Value.int .i64 most) from rfl); have u1 := (lB.cell 1).trans (show _ = some (Value.slice A2 H.length cap2) from rfl); have f0 := lB.frozen 0; have f1 := lB.frozen 1; have HL := Lib.hid lB; have HDD := Lib.hid d; clear lB d))
          all_goals
            obtain ⟨svc', J', hC5⟩ := C2.step HP.out HDD.out (k4_end0 (B := B2) (.int .i64 most) (.slice A' H'.length cap')) (two_set HL.out)
            generalize World.setCell (World.setCell _ _ _) _ _ = W6 at *
            have HF := Lib.hid hC5
            clear x0 x1 x2 x3 v0 v1 u0 u1 f0 f1 HD hC5 HL HDD HP
            go_wp2
            go_roundw
            case rel => exact ⟨k + 1, by omega, by go_num, mnc, mjc, svc', H', J', A', cap', _, HM, HF.out⟩
            case measure => simp [intOf]; omega
        · obtain rfl : k = l1.length := by omega
          have hpH := hC.m.a.pr.ok.pos
          have hlH : H.length ≤ 65536 := by have := hC.m.a.pr.ok.len; omega
          have HS1 := Lib.hid (fun (W' : World) (hb : Below wr.heap.size wr W') => cSameG (hC.m.o.below hb) hpos hlen ((hC.r.below hb (Nat.le_refl _)).up hb.size) (mo := most) (cap := cap))
          have HS2 := Lib.hid (fun (W' : World) (hb : Below wr.heap.size wr W') => cSameG (hC.m.a.pr.t.below hb) hpH hlH ((hC.m.a.pr.r.below hb (Nat.le_refl _)).up hb.size) (mo := most) (cap := cap2))
          have hS3 := fun (W' : World) (hb : Below wr.heap.size wr W') => cSame (hC.m.o.below hb) hpos hlen (hC.m.a.pr.t.below hb) hpH hlH
          have a0 := fun x : Since wr => x.cell (show wr.cell? ⟨B, 0, none⟩ = some (.int .i64 most) from hC.var.cell 0)
          have a1 := fun x : Since wr => x.cell (show wr.cell? ⟨B, 1, none⟩ = some (.slice A L.length cap) from hC.var.cell 1)
          have b0 := fun x : Since wr => x.cell (show wr.cell? ⟨B2, 0, none⟩ = some (.int .i64 most) from hC.m.a.var.cell 0)
          have b1 := fun x : Since wr => x.cell (show wr.cell? ⟨B2, 1, none⟩ = some (.slice A2 H.length cap2) from hC.m.a.var.cell 1)
          have HLow := Lib.hid hC.m.a.low
          unfold rtV at HS1 HS2
          have hlenH := congrArg List.length hH.out
          rw [List.length_append] at hlenH
          clear hC
          obtain ⟨b, hb⟩ : ∃ b, decide (most = most ∧ L = H) = b := ⟨_, rfl⟩
          have hq : ((H.length : Int) == (L.length : Int)) = b := by
            rw [← hb]
            by_cases hM : M = []
            · have e : H = L := by rw [hH.out, hM, List.append_nil]
              simp [e]
            · have e : ¬ L = H := fun e => hM (by have := congrArg List.length e; exact List.eq_nil_of_length_eq_zero (by omega))
              have : 0 < M.length := List.length_pos_iff.2 hM
              simp [e]; omega
          rw [hb] at hS3
          have HS3 := Lib.hid hS3
          clear hS3 hlenH hH hb
          go_wp2_with fail
          refine wp_region_since (by kernel_rfl) (by kernel_rfl) ?_
          repeat (go_big_quiet_step (first
            | (go_at_call 24; first | with_reducible exact Since.of (HS1.out _ (Since.low _)) | with_reducible exact Since.of (HS2.out _ (Since.low _)))
            | (go_at_call 27; exact Since.of (HS3.out _ (Since.low _)))
            | (go_at_call 9; exact Since.of (cKnown _))))
          refine wpQuiet_nil ?_
          rintro _ ⟨x, rfl⟩
          go_wp2
          go_ret
          exact ⟨ret_bool (by simp), HLow.out.trans (x.low.mono HLow.out.size)⟩
end Go.Proofs.YtbleilbphadehaaDoor
