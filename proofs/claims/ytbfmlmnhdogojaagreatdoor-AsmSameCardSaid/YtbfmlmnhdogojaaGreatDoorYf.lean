/- Which images are the same: contract. -/
import Derived.Test.YtbfmlmnhdogojaaGreatDoorYd
import Derived.Test.YtbfmlmnhdogojaaGreatDoorYe
import Derived.Test.YtbfmlmnhdogojaaGreatDoorWk
import Derived.BigQuiet
namespace Go.Proofs.YtbfmlmnhdogojaaGreatDoor
open Go.RowKit Go.Shelf

theorem wpQuiet_true {P : Program} {ops : Array Oper} {C : World → Prop} {Q : Act → Prop} {a : Act} {o : Oper} {rest : List Oper} (hw : Region.wanted o (yielded ops a.tmps) = true) (h : ∀ K : Act → Prop, (∀ a, wpQuiet P ops C Q rest a → K a) → o.quiet P a C K) : wpQuiet P ops C Q (o :: rest) a :=
  wpQuiet_step fun K hK => by rw [if_pos hw]; exact h K hK
set_option maxRecDepth 100000 in
set_option maxHeartbeats 2000000 in
theorem cAsmSame {w : World} (hG : Gl w) {A A' B B' : Option Addr} {L L' : List Int} {N N' : List (ByteArray × Int)} {c c' d d' : Nat} (hr : Rd w w.heap.size .u8 A L) (hr' : Rd w w.heap.size .u8 A' L') (hn : RdN w w.heap.size B N) (hn' : RdN w w.heap.size B' N') (h8 : ∀ x ∈ L, 0 ≤ x ∧ x < 256) (h8' : ∀ x ∈ L', 0 ≤ x ∧ x < 256) :
    Calls Tryz.prog 9 #[.agg #[.slice A L.length c, .slice B N.length d], .agg #[.slice A' L'.length c', .slice B' N'.length d']] w fun e w' => e = .returned (.bool true) ∧ Below w.heap.size w w' := by
  have b1 := (Below.refl w.heap.size w).alloc (Nat.le_refl _) (.cells #[.slice A L.length c, .slice B N.length d] 33)
  have s1 : (w.alloc (.cells #[.slice A L.length c, .slice B N.length d] 33)).heap.size = w.heap.size + 1 := World.size_alloc _ _
  have b2 : Below w.heap.size w ((w.alloc (.cells #[.slice A L.length c, .slice B N.length d] 33)).alloc (.cells #[.slice A' L'.length c', .slice B' N'.length d'] 33)) := b1.alloc (B := w.heap.size) (by rw [s1]; omega) (.cells #[.slice A' L'.length c', .slice B' N'.length d'] 33)
  have x1 : Cells ((w.alloc (.cells #[.slice A L.length c, .slice B N.length d] 33)).alloc (.cells #[.slice A' L'.length c', .slice B' N'.length d'] 33)) w.heap.size 33 #[.slice A L.length c, .slice B N.length d] := (Cells.new w 33 #[.slice A L.length c, .slice B N.length d]).alloc _
  have x2 : Cells ((w.alloc (.cells #[.slice A L.length c, .slice B N.length d] 33)).alloc (.cells #[.slice A' L'.length c', .slice B' N'.length d'] 33)) (w.heap.size + 1) 33 #[.slice A' L'.length c', .slice B' N'.length d'] := by have := Cells.new (w.alloc (.cells #[.slice A L.length c, .slice B N.length d] 33)) 33 #[.slice A' L'.length c', .slice B' N'.length d']; rwa [s1] at this
  have hG2 : Gl ((w.alloc (.cells #[.slice A L.length c, .slice B N.length d] 33)).alloc (.cells #[.slice A' L'.length c', .slice B' N'.length d'] 33)) := hG.b b2
  have HF := Lib.hid (And.intro b2 (And.intro x1 (And.intro x2 hG2)))
  have HR := Lib.hid (And.intro hr (And.intro hr' (And.intro hn hn')))
  have H8 := Lib.hid (And.intro h8 h8')
  clear b1 b2 x1 x2 hG2 hr hr' hn hn' h8 h8' hG
  go_enter Tryz.func9, Tryz.ntmps9
  by_cases h0 : 3000 < (L.length : Int)
  · have q0 : decide (3000 < (L.length : Int)) = true := decide_eq_true h0
    clear h0
    go_wp2_with fail
    obtain ⟨b2, -, -, hG2⟩ := HF.out
    clear s1
    refine (cWorks hG2).mono ?_
    rintro e W3 ⟨rfl, b3⟩
    have HB := Lib.hid (b2.trans (b3.mono b2.size))
    clear b2 b3 hG2 HF
    go_wp2_with fail
    go_ret
    exact ⟨rfl, HB.out⟩
  · have q0 : decide (3000 < (L.length : Int)) = false := decide_eq_false h0
    have H0 := Lib.hid h0
    clear h0
    by_cases h1 : 3000 < (L'.length : Int)
    · have q1 : decide (3000 < (L'.length : Int)) = true := decide_eq_true h1
      clear h1
      go_wp2_with fail
      obtain ⟨b2, -, -, hG2⟩ := HF.out
      clear s1
      refine (cWorks hG2).mono ?_
      rintro e W3 ⟨rfl, b3⟩
      have HB := Lib.hid (b2.trans (b3.mono b2.size))
      clear b2 b3 hG2 HF
      go_wp2_with fail
      go_ret
      exact ⟨rfl, HB.out⟩
    · have q1 : decide (3000 < (L'.length : Int)) = false := decide_eq_false h1
      have H1 := Lib.hid h1
      clear h1
      by_cases h2 : 100 < (N.length : Int)
      · have q2 : decide (100 < (N.length : Int)) = true := decide_eq_true h2
        clear h2
        go_wp2_with fail
        obtain ⟨b2, -, -, hG2⟩ := HF.out
        clear s1
        refine (cWorks hG2).mono ?_
        rintro e W3 ⟨rfl, b3⟩
        have HB := Lib.hid (b2.trans (b3.mono b2.size))
        clear b2 b3 hG2 HF
        go_wp2_with fail
        go_ret
        exact ⟨rfl, HB.out⟩
      · have q2 : decide (100 < (N.length : Int)) = false := decide_eq_false h2
        have H2 := Lib.hid h2
        clear h2
        by_cases h3 : 100 < (N'.length : Int)
        · have q3 : decide (100 < (N'.length : Int)) = true := decide_eq_true h3
          clear h3
          go_wp2_with fail
          obtain ⟨b2, -, -, hG2⟩ := HF.out
          clear s1
          refine (cWorks hG2).mono ?_
          rintro e W3 ⟨rfl, b3⟩
          have HB := Lib.hid (b2.trans (b3.mono b2.size))
          clear b2 b3 hG2 HF
          go_wp2_with fail
          go_ret
          exact ⟨rfl, HB.out⟩
        · have q3 : decide (100 < (N'.length : Int)) = false := decide_eq_false h3
          have H3 := Lib.hid h3
          clear h3
          go_wp2_with fail
          revert HF
          generalize ((w.alloc (.cells #[.slice A L.length c, .slice B N.length d] 33)).alloc (.cells #[.slice A' L'.length c', .slice B' N'.length d'] 33)) = W2
          intro HF
          obtain ⟨q, hq⟩ : ∃ q, (decide (L = L') && decide (N = N')) = q := ⟨_, rfl⟩
          have HA := Lib.hid (fun (W' : World) (b : Below W2.heap.size W2 W') => (show Calls Tryz.prog 20 #[.agg #[.slice A L.length c, .slice B N.length d], .agg #[.slice A' L'.length c', .slice B' N'.length d']] W' fun e w' => e = .returned (.bool q) ∧ Below W'.heap.size W' w' from hq ▸ cSameA ((HR.out.1.below (HF.out.1.trans (b.mono HF.out.1.size)) (Nat.le_refl _)).up (HF.out.1.trans (b.mono HF.out.1.size)).size) ((HR.out.2.1.below (HF.out.1.trans (b.mono HF.out.1.size)) (Nat.le_refl _)).up (HF.out.1.trans (b.mono HF.out.1.size)).size) ((HR.out.2.2.1.below (HF.out.1.trans (b.mono HF.out.1.size)) (Nat.le_refl _)).up (HF.out.1.trans (b.mono HF.out.1.size)).size) ((HR.out.2.2.2.below (HF.out.1.trans (b.mono HF.out.1.size)) (Nat.le_refl _)).up (HF.out.1.trans (b.mono HF.out.1.size)).size) (by have := H0.out; omega) (by have := H1.out; omega) (by have := H2.out; omega) (by have := H3.out; omega)))
          have HAA := Lib.hid (fun (W' : World) (b : Below W2.heap.size W2 W') => (show Calls Tryz.prog 20 #[.agg #[.slice A L.length c, .slice B N.length d], .agg #[.slice A L.length c, .slice B N.length d]] W' fun e w' => e = .returned (.bool true) ∧ Below W'.heap.size W' w' from (cSameA ((HR.out.1.below (HF.out.1.trans (b.mono HF.out.1.size)) (Nat.le_refl _)).up (HF.out.1.trans (b.mono HF.out.1.size)).size) ((HR.out.1.below (HF.out.1.trans (b.mono HF.out.1.size)) (Nat.le_refl _)).up (HF.out.1.trans (b.mono HF.out.1.size)).size) ((HR.out.2.2.1.below (HF.out.1.trans (b.mono HF.out.1.size)) (Nat.le_refl _)).up (HF.out.1.trans (b.mono HF.out.1.size)).size) ((HR.out.2.2.1.below (HF.out.1.trans (b.mono HF.out.1.size)) (Nat.le_refl _)).up (HF.out.1.trans (b.mono HF.out.1.size)).size) (by have := H0.out; omega) (by have := H0.out; omega) (by have := H2.out; omega) (by have := H2.out; omega)).mono (by rintro e w' ⟨he, h⟩; exact ⟨by rw [he]; simp, h⟩)))
          have HB := Lib.hid (fun (W' : World) (b : Below W2.heap.size W2 W') => (show Calls Tryz.prog 18 #[.agg #[.slice A L.length c, .slice B N.length d], .agg #[.slice A' L'.length c', .slice B' N'.length d']] W' fun e w' => e = .returned (.bool q) ∧ Below W'.heap.size W' w' from hq ▸ rSameA ((HR.out.1.below (HF.out.1.trans (b.mono HF.out.1.size)) (Nat.le_refl _)).up (HF.out.1.trans (b.mono HF.out.1.size)).size) ((HR.out.2.1.below (HF.out.1.trans (b.mono HF.out.1.size)) (Nat.le_refl _)).up (HF.out.1.trans (b.mono HF.out.1.size)).size) ((HR.out.2.2.1.below (HF.out.1.trans (b.mono HF.out.1.size)) (Nat.le_refl _)).up (HF.out.1.trans (b.mono HF.out.1.size)).size) ((HR.out.2.2.2.below (HF.out.1.trans (b.mono HF.out.1.size)) (Nat.le_refl _)).up (HF.out.1.trans (b.mono HF.out.1.size)).size) (by have := H0.out; omega) (by have := H1.out; omega) (by have := H2.out; omega) (by have := H3.out; omega) H8.out.1 H8.out.2))
          have HW := Lib.hid (fun (W' : World) (b : Below W2.heap.size W2 W') => cWorks (HF.out.2.2.2.b b))
          clear hq s1
          have hi : (Tryz.prog.info? 33).map (·.size) = some 2 := by kernel_rfl
          refine wp_region_since (by kernel_rfl) (by kernel_rfl) ?_
          (try simp only [Act.put])
          refine wpQuiet_plain rfl (fun K hK => ?_)
          refine quiet_of_run (fun x => exec_load_row 33 (.tmp 2) rfl w.heap.size rfl 33 #[.slice A L.length c, .slice B N.length d] _ (Since.cells HF.out.2.1 x) Tryz.underlying33 rfl hi) ?_
          refine hK _ ?_
          clear hK K
          simp only [Act.put, List.setIfInBounds_toArray, List.set_cons_zero, List.set_cons_succ]
          refine wpQuiet_plain rfl (fun K hK => ?_)
          refine quiet_of_run (fun x => exec_load_row 33 (.tmp 3) rfl (w.heap.size + 1) rfl 33 #[.slice A' L'.length c', .slice B' N'.length d'] _ (Since.cells HF.out.2.2.1 x) Tryz.underlying33 rfl hi) ?_
          refine hK _ ?_
          clear hK K
          simp only [Act.put, List.setIfInBounds_toArray, List.set_cons_zero, List.set_cons_succ]
          go_big_quiet_step ((go_at_call 20; exact Since.of (HA.out _ (Since.low _))))
          refine wpQuiet_plain rfl (fun K hK => ?_)
          refine quiet_of_run (fun x => exec_load_row 33 (.tmp 2) rfl w.heap.size rfl 33 #[.slice A L.length c, .slice B N.length d] _ (Since.cells HF.out.2.1 x) Tryz.underlying33 rfl hi) ?_
          refine hK _ ?_
          clear hK K
          simp only [Act.put, List.setIfInBounds_toArray, List.set_cons_zero, List.set_cons_succ]
          refine wpQuiet_plain rfl (fun K hK => ?_)
          refine quiet_of_run (fun x => exec_load_row 33 (.tmp 3) rfl (w.heap.size + 1) rfl 33 #[.slice A' L'.length c', .slice B' N'.length d'] _ (Since.cells HF.out.2.2.1 x) Tryz.underlying33 rfl hi) ?_
          refine hK _ ?_
          clear hK K
          simp only [Act.put, List.setIfInBounds_toArray, List.set_cons_zero, List.set_cons_succ]
          go_big_quiet_step ((go_at_call 18; exact Since.of (HB.out _ (Since.low _))))
          iterate 2 (go_big_quiet_step (fail))
          refine wpQuiet_true ?_ (fun K hK => ?_)
          · simp [Region.wanted, yielded]
          refine quiet_of_run (fun x => exec_load_row 33 (.tmp 2) rfl w.heap.size rfl 33 #[.slice A L.length c, .slice B N.length d] _ (Since.cells HF.out.2.1 x) Tryz.underlying33 rfl hi) ?_
          refine hK _ ?_
          clear hK K
          simp only [Act.put, List.setIfInBounds_toArray, List.set_cons_zero, List.set_cons_succ]
          refine wpQuiet_true ?_ (fun K hK => ?_)
          · simp [Region.wanted, yielded]
          refine quiet_of_run (fun x => exec_load_row 33 (.tmp 2) rfl w.heap.size rfl 33 #[.slice A L.length c, .slice B N.length d] _ (Since.cells HF.out.2.1 x) Tryz.underlying33 rfl hi) ?_
          refine hK _ ?_
          clear hK K
          simp only [Act.put, List.setIfInBounds_toArray, List.set_cons_zero, List.set_cons_succ]
          go_big_quiet_step ((go_at_call 20; exact Since.of (HAA.out _ (Since.low _))))
          iterate 2 (go_big_quiet_step (fail))
          go_big_quiet_step ((go_at_call 10; exact Since.of (HW.out _ (Since.low _))))
          iterate 2 (go_big_quiet_step (fail))
          refine wpQuiet_nil ?_
          rintro _ ⟨x, rfl⟩
          have HE := Lib.hid (HF.out.1.trans (x.low.mono HF.out.1.size))
          clear HF HA HAA HB HW HR H8
          go_wp2
          go_ret
          exact ⟨rfl, HE.out⟩
