/- A line that names its place: contract. -/
import Derived.Test.YtbfmlmnhdogojaaGreatDoorKd
import Derived.Deep.RegionHeld3
namespace Go.Proofs.YtbfmlmnhdogojaaGreatDoor
open Go.RowKit Go.Shelf

theorem info_sym : (Tryz.prog.info? 44).map (fun i => (i.zero, i.size, i.bytes)) = some (some (.agg #[.string ⟨#[]⟩, .int .i64 0]), 2, 24) := by kernel_rfl
theorem namesV_append (a b : List (ByteArray × Int)) : namesV (a ++ b) = namesV a ++ namesV b := by simp [namesV]
/-- A name laid behind, and the row's new place kept. -/
theorem PS.putN {W w1 : World} {R pb : Nat} {vb vn vh : Value} {line : Int} {bs : List Int} {ns ls : List (ByteArray × Int)} {hs : List HoleV} (h : PS W R pb vb vn vh line bs ns hs) {g n cap : Nat} (hn : n = ns.length + ls.length)
    (hown : w1.ownsRow R 44 2 (.slice (some ⟨g, 0, none⟩) n cap) n (namesV ns ++ namesV ls)) (hgrow : W.grownBy w1 vn.ownBlock) (hat : vn.ownBlock = some g ∨ g = W.heap.size) :
    Step W (w1.setCell ⟨pb, 2, none⟩ (.slice (some ⟨g, 0, none⟩) n cap)) R pb vb vn vh line bs (ns ++ ls) hs := by
  have kg := KeptBut.of_grown (S := fun k => vn.ownBlock = some k) hgrow (fun k e => e)
  have hg : ∀ k, (Value.slice (some ⟨g, 0, none⟩) n cap).ownBlock = some k → vn.ownBlock = some k ∨ W.heap.size ≤ k := fun k e => by
    simp [Value.ownBlock] at e
    subst e
    rcases hat with e | e
    · exact .inl e
    · exact .inr (by omega)
  have hgp : g ≠ pb := by
    rcases hat with e | e
    · exact h.np g (.inr (.inl e))
    · have := h.c.lt; omega
  have hhl := fun k (e : vh.ownBlock = some k) => (h.h.lt k e).2
  have hbl := fun k (e : vb.ownBlock = some k) => (h.b.lt k e).2
  have ks := KeptBut.set (W := w1) (S := fun k => k = pb) rfl 2 (.slice (some ⟨g, 0, none⟩) n cap)
  refine ⟨vb, _, vh, ⟨(kg.cells h.c fun e => h.np pb (.inr (.inl e)) rfl).set 2 _, ?_, ?_, ?_, ?_, h.bh, ?_, h.hp⟩, (kg.mono fun k _ e => .inr (.inr (.inl e))).trans (ks.mono fun k _ e => .inl e), fun k e => ?_⟩
  · exact own_set (kg.row h.b fun k e q => h.bn k e q) (fun k e => h.np k (.inl e)) _ _
  · rw [List.length_append, namesV_append, ← hn]
    exact own_set hown (fun k e => by simp [Value.ownBlock] at e; omega) _ _
  · exact own_set (kg.row h.h fun k e q => h.nh k q e) (fun k e => h.np k (.inr (.inr e))) _ _
  · intro k e q
    rcases hg k q with q | q
    · exact h.bn k e q
    · have := hbl k e; omega
  · intro k e q
    rcases hg k e with e | e
    · exact h.nh k e q
    · have := hhl k q; omega
  · rcases e with e | e | e | e
    · exact .inl (.inl e)
    · exact .inl (.inr (.inl e))
    · exact (hg k e).imp (fun e => .inr (.inr (.inl e))) id
    · exact .inl (.inr (.inr (.inr e)))
section
variable {W : World} {R pb : Nat} {vb vn vh : Value} {line : Int} {bs : List Int} {ns : List (ByteArray × Int)} {hs : List HoleV} {s : ByteArray}
set_option maxRecDepth 100000 in
set_option maxHeartbeats 1000000 in
theorem cDoN (h : PS W R pb vb vn vh line bs ns hs) (h0 : 0 < s.size) (hl : s.size < 4294967281) (hne0 : s[0]'h0 ≠ 35) (hc : cutC s = true) (hm : nameB (cutN s) = true) (hat : atL (cutN s) ns 0 = -1) (hnl : ns.length ≤ 100000) (hR : R ≤ W.heap.size) :
    Calls Tryz.prog 41 #[.pointer (some ⟨pb, 0, none⟩), .string s] W fun e W' => e = .returned (.tuple #[]) ∧ Step W W' R pb vb vn vh line bs (ns ++ [(cutN s, (bs.length : Int))]) hs := by
  obtain ⟨i0, hi0, hz0, hz1, hz2⟩ := info_parts info_sym
  have hne := ne_nil h0
  have hh : ((s[0]'h0).toNat : Int) ≠ 35 := fun e => hne0 (UInt8.toNat_inj.1 (by show _ = 35; omega))
  have HC := Lib.hid (cCutS (W := W) hl)
  rw [hc] at HC
  have HP := Lib.hid h
  have HR := Lib.hid hR
  have HAT := Lib.hid hat
  clear h hR hc hat hl hne0
  go_enter Tryz.func41, Tryz.ntmps41
  go_wp2_with fail
  refine HC.out.mono ?_
  rintro e w' ⟨rfl, rfl⟩
  have hsz : w'.heap.size < (w'.alloc (.cells #[.string (cutN s)] 9)).heap.size := by rw [World.size_alloc]; omega
  have HW0 := Lib.hid ((Below.refl _ w').alloc (Nat.le_refl _) (.cells #[.string (cutN s)] 9))
  have HN0 := Lib.hid (Cells.new w' 9 #[.string (cutN s)])
  generalize hmm : cutN s = m at *
  have HMM := Lib.hid hmm
  clear hmm
  have q0 := HN0.out.cell 0
  go_wp2_with fail
  generalize World.alloc _ _ = W1 at *
  refine (cNm m _).mono ?_
  rintro e W2 ⟨rfl, hb⟩
  rw [hm]
  have HW2 := Lib.hid (HW0.out.trans (hb.mono HW0.out.size))
  have HN2 := Lib.hid (HN0.out.below hb HN0.out.lt)
  have HP2 := Lib.hid (HP.out.below HW2.out)
  clear hb HW0 HN0 q0 hsz
  obtain ⟨An, cn, rfl⟩ := own_slice HP2.out.n
  obtain ⟨Ab, cb, rfl⟩ := own_slice HP2.out.b
  have q1 := (HP2.out.c.cell 2).trans (show _ = some (Value.slice An ns.length cn) from rfl)
  go_wp2_with fail
  refine (cHasN (c := cn) (enters_of Tryz.func68 (by kernel_rfl) rfl) (cAsk1 HN2.out) (rdn_row HP2.out.n) (by omega)).mono ?_
  rintro e W3 ⟨rfl, hb⟩
  rw [HAT.out]
  have HW3 := Lib.hid (HW2.out.trans (hb.mono HW2.out.size))
  have HN3 := Lib.hid (HN2.out.below hb HN2.out.lt)
  have HP3 := Lib.hid (HP2.out.below hb)
  clear hb HN2 HP2 q1 HW2 HAT
  go_wp2_with fail
  refine (cMust _ _ _).mono ?_
  rintro e w' ⟨rfl, rfl⟩
  have q0 : W3.drew.cell? ⟨w'.heap.size, 0, none⟩ = some (.string m) := (HN3.out.cell 0).trans rfl
  have q1 : W3.drew.cell? ⟨pb, 1, none⟩ = some (.slice Ab bs.length cb) := (HP3.out.c.cell 1).trans rfl
  have q2 : W3.drew.cell? ⟨pb, 2, none⟩ = some (.slice An ns.length cn) := (HP3.out.c.cell 2).trans rfl
  have qa0 : ∀ o, (W3.drew.alloc o).cell? ⟨w'.heap.size, 0, none⟩ = some (.string m) := fun o => ((Cells.alloc (show Cells W3.drew w'.heap.size _ _ from HN3.out) o).cell 0).trans rfl
  have qa1 : ∀ o, (W3.drew.alloc o).cell? ⟨pb, 1, none⟩ = some (.slice Ab bs.length cb) := fun o => ((Cells.alloc (show Cells W3.drew pb _ _ from HP3.out.c) o).cell 1).trans rfl
  have qa2 : ∀ o, (W3.drew.alloc o).cell? ⟨pb, 2, none⟩ = some (.slice An ns.length cn) := fun o => ((Cells.alloc (show Cells W3.drew pb _ _ from HP3.out.c) o).cell 2).trans rfl
  have qd2 : ∀ o, (W3.alloc o).drew.cell? ⟨pb, 2, none⟩ = some (.slice An ns.length cn) := qa2
  have fa : ∀ o, (W3.drew.alloc o).frozen? ⟨pb, 2, none⟩ = false := fun o => (Cells.alloc (show Cells W3.drew pb _ _ from HP3.out.c) o).frozen 2
  have n1 : (Value.slice An ns.length cn).ownBlock ≠ some w'.heap.size := fun e => by have := (HP.out.n.lt _ e).2; omega
  have n2 : (Value.slice An ns.length cn).ownBlock ≠ some pb := fun e => HP3.out.np pb (.inr (.inl e)) rfl
  have hpl := HP3.out.c.lt
  have hml := HN3.out.lt
  have hpc : w'.heap.size ≠ pb := by have := HP.out.c.lt; omega
  go_wp2_with fail
  refine wp_region_noPanic ?_
  refine wp_region_held_drew (S := fun w0 => w0.cell? ⟨w'.heap.size, 0, none⟩ = some (.string m) ∧ w0.cell? ⟨pb, 1, none⟩ = some (.slice Ab bs.length cb)) (by kernel_rfl) ⟨q0, q1⟩ (fun hHeld => ?_)
  refine wpAnyH_take (i := 0) (oi := ⟨some 40, _, _, _, _, _⟩) (v := ?_) rfl (by as_aux_lemma => kernel_rfl) (by as_aux_lemma => kernel_rfl) (by as_aux_lemma => kernel_rfl) (fun _ _ _ h => h) (Or.inl ⟨by kernel_rfl, ?_⟩) (by assumption) ?_
  rotate_left
  · ((intro w0 hw; obtain ⟨c0, c1⟩ := hw; go_simp) <;> with_reducible rfl)
  simp only [Act.put, List.setIfInBounds_toArray, List.set_cons_zero, List.set_cons_succ]
  refine wpAnyH_take (i := 1) (oi := ⟨some 41, _, _, _, _, _⟩) (v := ?_) rfl (by as_aux_lemma => kernel_rfl) (by as_aux_lemma => kernel_rfl) (by as_aux_lemma => kernel_rfl) (fun _ _ _ h => h) (Or.inl ⟨by kernel_rfl, ?_⟩) (by assumption) ?_
  rotate_left
  · ((intro w0 hw; obtain ⟨c0, c1⟩ := hw; go_simp) <;> with_reducible rfl)
  simp only [Act.put, List.setIfInBounds_toArray, List.set_cons_zero, List.set_cons_succ]
  refine wpAnyH_take (i := 2) (oi := ⟨some 42, _, _, _, _, _⟩) (v := ?_) rfl (by as_aux_lemma => kernel_rfl) (by as_aux_lemma => kernel_rfl) (by as_aux_lemma => kernel_rfl) (fun _ _ _ h => h) (Or.inl ⟨by kernel_rfl, ?_⟩) (by assumption) ?_
  rotate_left
  · ((intro w0 hw; obtain ⟨c0, c1⟩ := hw; go_simp) <;> with_reducible rfl)
  simp only [Act.put, List.setIfInBounds_toArray, List.set_cons_zero, List.set_cons_succ]
  refine wpAnyH_take (i := 3) (oi := ⟨some 43, _, _, _, _, _⟩) (v := ?_) rfl (by as_aux_lemma => kernel_rfl) (by as_aux_lemma => kernel_rfl) (by as_aux_lemma => kernel_rfl) (fun _ _ _ h => h) (Or.inl ⟨by kernel_rfl, ?_⟩) (by assumption) ?_
  rotate_left
  · ((intro w0 hw; obtain ⟨c0, c1⟩ := hw; go_simp) <;> with_reducible rfl)
  simp only [Act.put, List.setIfInBounds_toArray, List.set_cons_zero, List.set_cons_succ]
  refine wpAnyH_take (i := 4) (oi := ⟨some 44, _, _, _, _, _⟩) (v := ?_) rfl (by as_aux_lemma => kernel_rfl) (by as_aux_lemma => kernel_rfl) (by as_aux_lemma => kernel_rfl) (fun _ _ _ h => h) (Or.inl ⟨by kernel_rfl, ?_⟩) (by assumption) ?_
  rotate_left
  · ((intro w0 hw; obtain ⟨c0, c1⟩ := hw; go_simp) <;> with_reducible rfl)
  simp only [Act.put, List.setIfInBounds_toArray, List.set_cons_zero, List.set_cons_succ]
  refine wpAnyH_take (i := 6) (oi := ⟨some 46, _, _, _, _, _⟩) (v := ?_) rfl (by as_aux_lemma => kernel_rfl) (by as_aux_lemma => kernel_rfl) (by as_aux_lemma => kernel_rfl) (fun _ _ _ h => h) (Or.inl ⟨by kernel_rfl, ?_⟩) (by assumption) ?_
  rotate_left
  · ((intro w0 hw; obtain ⟨c0, c1⟩ := hw; go_simp) <;> with_reducible rfl)
  simp only [Act.put, List.setIfInBounds_toArray, List.set_cons_zero, List.set_cons_succ]
  refine wpAnyH_take (i := 7) (oi := ⟨some 47, _, _, _, _, _⟩) (v := ?_) rfl (by as_aux_lemma => kernel_rfl) (by as_aux_lemma => kernel_rfl) (by as_aux_lemma => kernel_rfl) (fun _ _ _ h => h) (Or.inl ⟨by kernel_rfl, ?_⟩) (by assumption) ?_
  rotate_left
  · ((intro w0 hw; obtain ⟨c0, c1⟩ := hw; go_simp) <;> with_reducible rfl)
  simp only [Act.put, List.setIfInBounds_toArray, List.set_cons_zero, List.set_cons_succ]
  refine wpAnyH_take (i := 8) (oi := ⟨some 48, _, _, _, _, _⟩) (v := ?_) rfl (by as_aux_lemma => kernel_rfl) (by as_aux_lemma => kernel_rfl) (by as_aux_lemma => kernel_rfl) (fun _ _ _ h => h) (Or.inl ⟨by kernel_rfl, ?_⟩) (by assumption) ?_
  rotate_left
  · ((intro w0 hw; obtain ⟨c0, c1⟩ := hw; go_simp) <;> with_reducible rfl)
  simp only [Act.put, List.setIfInBounds_toArray, List.set_cons_zero, List.set_cons_succ]
  refine wpAnyH_take (i := 9) (oi := ⟨some 49, _, _, _, _, _⟩) (v := ?_) rfl (by as_aux_lemma => kernel_rfl) (by as_aux_lemma => kernel_rfl) (by as_aux_lemma => kernel_rfl) (fun _ _ _ h => h) (Or.inl ⟨by kernel_rfl, ?_⟩) (by assumption) ?_
  rotate_left
  · ((intro w0 hw; obtain ⟨c0, c1⟩ := hw; go_simp) <;> with_reducible rfl)
  simp only [Act.put, List.setIfInBounds_toArray, List.set_cons_zero, List.set_cons_succ]
  refine wpAnyH_take (i := 10) (oi := ⟨some 50, _, _, _, _, _⟩) (v := ?_) rfl (by as_aux_lemma => kernel_rfl) (by as_aux_lemma => kernel_rfl) (by as_aux_lemma => kernel_rfl) (fun _ _ _ h => h) (Or.inl ⟨by kernel_rfl, ?_⟩) (by assumption) ?_
  rotate_left
  · ((intro w0 hw; obtain ⟨c0, c1⟩ := hw; go_simp) <;> with_reducible rfl)
  simp only [Act.put, List.setIfInBounds_toArray, List.set_cons_zero, List.set_cons_succ]
  refine wpAnyH_take (i := 11) (oi := ⟨some 51, _, _, _, _, _⟩) (v := ?_) rfl (by as_aux_lemma => kernel_rfl) (by as_aux_lemma => kernel_rfl) (by as_aux_lemma => kernel_rfl) (fun _ _ _ h => h) (Or.inl ⟨by kernel_rfl, ?_⟩) (by assumption) ?_
  rotate_left
  · ((intro w0 hw; obtain ⟨c0, c1⟩ := hw; go_simp) <;> with_reducible rfl)
  simp only [Act.put, List.setIfInBounds_toArray, List.set_cons_zero, List.set_cons_succ]
  refine wpAnyH_take (i := 12) (oi := ⟨some 52, _, _, _, _, _⟩) (v := ?_) rfl (by as_aux_lemma => kernel_rfl) (by as_aux_lemma => kernel_rfl) (by as_aux_lemma => kernel_rfl) (fun _ _ _ h => h) (Or.inl ⟨by kernel_rfl, ?_⟩) (by assumption) ?_
  rotate_left
  · ((intro w0 hw; obtain ⟨c0, c1⟩ := hw; go_simp) <;> with_reducible rfl)
  simp only [Act.put, List.setIfInBounds_toArray, List.set_cons_zero, List.set_cons_succ]
  refine wpAnyH_take (i := 13) (oi := ⟨some 53, _, _, _, _, _⟩) (v := ?_) rfl (by as_aux_lemma => kernel_rfl) (by as_aux_lemma => kernel_rfl) (by as_aux_lemma => kernel_rfl) (fun _ _ _ h => h) (Or.inl ⟨by kernel_rfl, ?_⟩) (by assumption) ?_
  rotate_left
  · ((intro w0 hw; obtain ⟨c0, c1⟩ := hw; go_simp) <;> with_reducible rfl)
  simp only [Act.put, List.setIfInBounds_toArray, List.set_cons_zero, List.set_cons_succ]
  refine wpAnyH_ready (rs := [5, 14]) (by as_aux_lemma => kernel_rfl) (by simp) ?_
  refine AllReadyH.cons rfl (fun K hK => ?_) (AllReadyH.cons rfl (fun K hK => ?_) AllReadyH.nil)
  · go_simp
    refine hK.out _ _ hHeld (fun hHeld => ?_)
    clear hK K
    (try simp only [Act.put, List.setIfInBounds_toArray, List.set_cons_zero, List.set_cons_succ])
    refine wpAnyH_ready (rs := [14]) (by as_aux_lemma => kernel_rfl) (by simp) ?_
    refine AllReadyH.cons rfl (fun K hK => ?_) AllReadyH.nil
    go_simp
    refine hK.out _ _ ⟨qa0 _, qa1 _⟩ (fun hHeld => ?_)
    clear hK K hHeld
    (try simp only [Act.put, List.setIfInBounds_toArray, List.set_cons_zero, List.set_cons_succ])
    refine wpAnyH_ready (rs := [15]) (by as_aux_lemma => kernel_rfl) (by simp) ?_
    refine AllReadyH.cons rfl (fun K hK => ?_) AllReadyH.nil
    rw [if_pos (by kernel_rfl)]
    refine wp_append_lies _ (.tmp 45) (.tmp 54) 31 rfl R 44 i0 (.agg #[.string ⟨#[]⟩, .int .i64 0]) 2 24 Tryz.underlying31 hi0 hz0 hz1 hz2 rfl (by decide) (.slice An ns.length cn) ns.length (namesV ns) rfl (HP3.out.n.drew.alloc _) ⟨W3.heap.size, 0, none⟩ 1 1 [.string m, .int .i64 bs.length] rfl rfl (cell_lit W3.drew 44 [.string m, .int .i64 bs.length]) (fun x hx => by simp at hx; rcases hx with rfl | rfl <;> rfl) (by decide) (by unfold maxLen; omega) (by omega) (by show R ≤ (W3.alloc _).heap.size; rw [World.size_alloc]; have := HR.out; have := HW3.out.size; omega) (W3.heap.size + 1) (by simp) ?_
    intro g2 cap2 w1 hown hgrow hat hlt
    have y2 : w1.cell? ⟨pb, 2, none⟩ = some (.slice An ns.length cn) := (hgrow.cell_far _ (by simp; omega) (Ne.symm n2)).trans (qa2 _)
    have yz : w1.frozen? ⟨pb, 2, none⟩ = false := (World.frozen?_of_block (hgrow.block pb (by simp; omega) (Ne.symm n2))).trans (fa _)
    have s0 : w1.cell? ⟨w'.heap.size, 0, none⟩ = some (.string m) := (hgrow.cell_far _ (by simp; omega) (Ne.symm n1)).trans (qa0 _)
    have s1 : w1.cell? ⟨pb, 1, none⟩ = some (.slice Ab bs.length cb) := (hgrow.cell_far _ (by simp; omega) (Ne.symm n2)).trans (qa1 _)
    refine hK.out _ _ ⟨s0, s1⟩ (fun hHeld => ?_)
    clear hK K
    (try simp only [Act.put, List.setIfInBounds_toArray])
    refine wpAnyH_take (i := 16) (oi := ⟨some 56, _, _, _, _, _⟩) (v := ?_) rfl (by as_aux_lemma => kernel_rfl) (by as_aux_lemma => kernel_rfl) (by as_aux_lemma => kernel_rfl) (fun _ _ _ h => h) (Or.inl ⟨by kernel_rfl, ?_⟩) (by assumption) ?_
    rotate_left
    · ((intro w0 hw; obtain ⟨c0, c1⟩ := hw; go_simp) <;> with_reducible rfl)
    simp only [Act.put]
    refine wpAnyH_take (i := 17) (oi := ⟨some 57, _, _, _, _, _⟩) (v := ?_) rfl (by as_aux_lemma => kernel_rfl) (by as_aux_lemma => kernel_rfl) (by as_aux_lemma => kernel_rfl) (fun _ _ _ h => h) (Or.inl ⟨by kernel_rfl, ?_⟩) (by assumption) ?_
    rotate_left
    · ((intro w0 hw; obtain ⟨c0, c1⟩ := hw; go_simp) <;> with_reducible rfl)
    simp only [Act.put]
    refine wpAnyH_take (i := 18) (oi := ⟨some 58, _, _, _, _, _⟩) (v := ?_) rfl (by as_aux_lemma => kernel_rfl) (by as_aux_lemma => kernel_rfl) (by as_aux_lemma => kernel_rfl) (fun _ _ _ h => h) (Or.inl ⟨by kernel_rfl, ?_⟩) (by assumption) ?_
    rotate_left
    · ((intro w0 hw; obtain ⟨c0, c1⟩ := hw; go_simp) <;> with_reducible rfl)
    simp only [Act.put]
    have k1 := ((KeptBut.of_grown (S := fun k => (Value.slice An ns.length cn).ownBlock = some k) hgrow (fun _ e => e)).cells (Cells.alloc (show Cells W3.drew pb _ _ from HP3.out.c) _) n2).set 2 (.slice (some ⟨g2, 0, none⟩) (ns.length + 1) cap2)
    refine wpAnyH_ready (rs := [19]) (by as_aux_lemma => kernel_rfl) (by simp) ?_
    refine AllReadyH.cons rfl (fun K hK => ?_) AllReadyH.nil
    go_simp
    refine hK.out _ _ ⟨(World.cell?_of_block (Below.heap_setCell _ _ _ _ hpc)).trans s0, ?_⟩ (fun _ => ?_)
    · exact (k1.cell 1).trans rfl
    clear hK K
    (try simp only [Act.put, List.setIfInBounds_toArray])
    refine wpAnyH_done (by as_aux_lemma => kernel_rfl) ?_ _
    refine NoPanic.normal ?_
    have HF := Lib.hid (PS.putN (W := W3.drew.alloc (.cells #[.string m, .int .i64 bs.length] 44)) (ls := [(m, (bs.length : Int))]) ((HP3.out.below (Below.refl _ W3).drew).below ((Below.refl _ W3.drew).alloc (Nat.le_refl _) _)) rfl hown hgrow (hat.imp id (fun e => by rw [World.size_alloc]; exact e)))
    clear hown hgrow hat hlt y2 yz s0 s1 k1
    go_wp2_with fail
    refine bodyPost_ret (results_none rfl _ _ _) rfl ?_
    rw [HMM.out]
    exact ⟨rfl, Step.first ((HW3.out.trans (Below.refl _ W3).drew).alloc HW3.out.size _) HF.out⟩
  · go_simp
    refine hK.out _ _ ⟨qa0 _, qa1 _⟩ (fun hHeld => ?_)
    clear hK K
    (try simp only [Act.put, List.setIfInBounds_toArray, List.set_cons_zero, List.set_cons_succ])
    refine wpAnyH_ready (rs := [5]) (by as_aux_lemma => kernel_rfl) (by simp) ?_
    refine AllReadyH.cons rfl (fun K hK => ?_) AllReadyH.nil
    go_simp
    refine hK.out _ _ hHeld (fun hHeld => ?_)
    clear hK K hHeld
    (try simp only [Act.put, List.setIfInBounds_toArray, List.set_cons_zero, List.set_cons_succ])
    refine wpAnyH_ready (rs := [15]) (by as_aux_lemma => kernel_rfl) (by simp) ?_
    refine AllReadyH.cons rfl (fun K hK => ?_) AllReadyH.nil
    rw [if_pos (by kernel_rfl)]
    refine wp_append_lies _ (.tmp 45) (.tmp 54) 31 rfl R 44 i0 (.agg #[.string ⟨#[]⟩, .int .i64 0]) 2 24 Tryz.underlying31 hi0 hz0 hz1 hz2 rfl (by decide) (.slice An ns.length cn) ns.length (namesV ns) rfl (HP3.out.n.drew.alloc _) ⟨W3.heap.size, 0, none⟩ 1 1 [.string m, .int .i64 bs.length] rfl rfl (cell_lit W3.drew 44 [.string m, .int .i64 bs.length]) (fun x hx => by simp at hx; rcases hx with rfl | rfl <;> rfl) (by decide) (by unfold maxLen; omega) (by omega) (by show R ≤ (W3.alloc _).heap.size; rw [World.size_alloc]; have := HR.out; have := HW3.out.size; omega) (W3.heap.size + 1) (by simp) ?_
    intro g2 cap2 w1 hown hgrow hat hlt
    have y2 : w1.cell? ⟨pb, 2, none⟩ = some (.slice An ns.length cn) := (hgrow.cell_far _ (by simp; omega) (Ne.symm n2)).trans (qa2 _)
    have yz : w1.frozen? ⟨pb, 2, none⟩ = false := (World.frozen?_of_block (hgrow.block pb (by simp; omega) (Ne.symm n2))).trans (fa _)
    have s0 : w1.cell? ⟨w'.heap.size, 0, none⟩ = some (.string m) := (hgrow.cell_far _ (by simp; omega) (Ne.symm n1)).trans (qa0 _)
    have s1 : w1.cell? ⟨pb, 1, none⟩ = some (.slice Ab bs.length cb) := (hgrow.cell_far _ (by simp; omega) (Ne.symm n2)).trans (qa1 _)
    refine hK.out _ _ ⟨s0, s1⟩ (fun hHeld => ?_)
    clear hK K
    (try simp only [Act.put, List.setIfInBounds_toArray])
    refine wpAnyH_take (i := 16) (oi := ⟨some 56, _, _, _, _, _⟩) (v := ?_) rfl (by as_aux_lemma => kernel_rfl) (by as_aux_lemma => kernel_rfl) (by as_aux_lemma => kernel_rfl) (fun _ _ _ h => h) (Or.inl ⟨by kernel_rfl, ?_⟩) (by assumption) ?_
    rotate_left
    · ((intro w0 hw; obtain ⟨c0, c1⟩ := hw; go_simp) <;> with_reducible rfl)
    simp only [Act.put]
    refine wpAnyH_take (i := 17) (oi := ⟨some 57, _, _, _, _, _⟩) (v := ?_) rfl (by as_aux_lemma => kernel_rfl) (by as_aux_lemma => kernel_rfl) (by as_aux_lemma => kernel_rfl) (fun _ _ _ h => h) (Or.inl ⟨by kernel_rfl, ?_⟩) (by assumption) ?_
    rotate_left
    · ((intro w0 hw; obtain ⟨c0, c1⟩ := hw; go_simp) <;> with_reducible rfl)
    simp only [Act.put]
    refine wpAnyH_take (i := 18) (oi := ⟨some 58, _, _, _, _, _⟩) (v := ?_) rfl (by as_aux_lemma => kernel_rfl) (by as_aux_lemma => kernel_rfl) (by as_aux_lemma => kernel_rfl) (fun _ _ _ h => h) (Or.inl ⟨by kernel_rfl, ?_⟩) (by assumption) ?_
    rotate_left
    · ((intro w0 hw; obtain ⟨c0, c1⟩ := hw; go_simp) <;> with_reducible rfl)
    simp only [Act.put]
    have k1 := ((KeptBut.of_grown (S := fun k => (Value.slice An ns.length cn).ownBlock = some k) hgrow (fun _ e => e)).cells (Cells.alloc (show Cells W3.drew pb _ _ from HP3.out.c) _) n2).set 2 (.slice (some ⟨g2, 0, none⟩) (ns.length + 1) cap2)
    refine wpAnyH_ready (rs := [19]) (by as_aux_lemma => kernel_rfl) (by simp) ?_
    refine AllReadyH.cons rfl (fun K hK => ?_) AllReadyH.nil
    go_simp
    refine hK.out _ _ ⟨(World.cell?_of_block (Below.heap_setCell _ _ _ _ hpc)).trans s0, ?_⟩ (fun _ => ?_)
    · exact (k1.cell 1).trans rfl
    clear hK K
    (try simp only [Act.put, List.setIfInBounds_toArray])
    refine wpAnyH_done (by as_aux_lemma => kernel_rfl) ?_ _
    refine NoPanic.normal ?_
    have HF := Lib.hid (PS.putN (W := W3.drew.alloc (.cells #[.string m, .int .i64 bs.length] 44)) (ls := [(m, (bs.length : Int))]) ((HP3.out.below (Below.refl _ W3).drew).below ((Below.refl _ W3.drew).alloc (Nat.le_refl _) _)) rfl hown hgrow (hat.imp id (fun e => by rw [World.size_alloc]; exact e)))
    clear hown hgrow hat hlt y2 yz s0 s1 k1
    go_wp2_with fail
    refine bodyPost_ret (results_none rfl _ _ _) rfl ?_
    rw [HMM.out]
    exact ⟨rfl, Step.first ((HW3.out.trans (Below.refl _ W3).drew).alloc HW3.out.size _) HF.out⟩
end
end Go.Proofs.YtbfmlmnhdogojaaGreatDoor
