/- The law's one: a contract. -/
import Derived.Test.YtmpnlhfnemidpaaSm
import Derived.Test.YtmpnlhfnemidpaaRdQ
import Derived.Test.YtmpnlhfnemidpaaSl
namespace Go.Proofs.Ytmpnlhfnemidpaa
open Go.RowKit Go.Shelf
set_option maxRecDepth 100000 in
set_option maxHeartbeats 4000000 in
theorem cOne {s : St} (hs : s.ok) {x t : Int} (hx : u32? x) (ht : u32? t) (w : World) : Calls Try.prog 16 #[.agg (stA s), .agg #[.int .u32 x, .int .u32 t]] w fun e w' => e = .returned (.bool true) ∧ Below w.heap.size w w' := by
  obtain ⟨K1, K2, Hb, hsz⟩ := cells2 w (stA s) #[.int .u32 x, .int .u32 t] 25 34
  obtain ⟨h0, h1⟩ := hx
  have eqs := eql_state (doneL_len hs.len x t)
  have hP := fun W => cPlan hs h0 h1 W
  have hR := fun W => rPlan hs h0 h1 W
  have hD := fun W => cDone hs h0 h1 ht W
  have hE := fun W => rDone hs h0 h1 ht W
  have hT := fun W => cTouches hs h0 h1 W
  have hU := fun W => rTouches hs h0 h1 W
  have hfr := touchL_fr s x
  have hln := touchL_len s x
  have eqp := eql_want (planL s x)
  have hdl := doneL_len hs.len x t
  have hl8 := hs.len
  have hi := hi25 hs.len
  clear h0 h1 ht hs
  generalize planL s x = pk at *
  generalize touchL s x = L at *
  generalize doneL s x t = o at *
  obtain ⟨SA, hSA⟩ : ∃ SA, stA s = SA := ⟨_, rfl⟩
  obtain ⟨OA, hOA⟩ : ∃ OA, stA o = OA := ⟨_, rfl⟩
  obtain ⟨PA, hPA⟩ : ∃ PA, wtA pk = PA := ⟨_, rfl⟩
  rw [hSA] at hi hP hR hD hE hT hU
  rw [hOA] at hD hE eqs
  rw [hPA] at hP hR eqp
  have eqs2 := fun w => (run_eql_struct (P := Try.prog) w 25 OA OA).symm.trans (eqs w)
  have eqp2 := fun w => (run_eql_struct (P := Try.prog) w 42 PA PA).symm.trans (eqp w)
  have HP := Lib.hid hP
  have HR := Lib.hid hR
  have HD := Lib.hid hD
  have HE := Lib.hid hE
  have HT := Lib.hid hT
  have HU := Lib.hid hU
  have HF := Lib.hid hfr
  clear hP hR hD hE hT hU hfr hOA hPA hdl
  rw [hSA] at K1 K2 Hb hsz ⊢
  go_enter Try.func16, Try.ntmps16
  go_upto_region 1 with (fail)
  generalize (w.alloc _).alloc _ = W at *
  have A : Cells W.drew w.heap.size 25 SA := K1
  have K : Cells W.drew (w.heap.size + 1) 34 #[.int .u32 x, .int .u32 t] := K2
  have B := Hb.drew
  clear K1 K2 Hb hsz hSA
  obtain ⟨P1, hP1, hPb, hH0⟩ : ∃ P1 : World → Prop, (∀ w0, P1 w0 → Cells w0 w.heap.size 25 SA ∧ Cells w0 (w.heap.size + 1) 34 #[.int .u32 x, .int .u32 t]) ∧ (∀ w0 w1, P1 w0 → Below w0.heap.size w0 w1 → P1 w1) ∧ P1 W.drew :=
    ⟨fun w0 => Cells w0 w.heap.size 25 SA ∧ Cells w0 (w.heap.size + 1) 34 #[.int .u32 x, .int .u32 t], fun _ h => h, fun _ _ h hb => ⟨h.1.below hb h.1.lt, h.2.below hb h.2.lt⟩, A, K⟩
  have hC0 : ∀ w0, P1 w0 → w0.cell? ⟨w.heap.size + 1, 0, none⟩ = some (.int .u32 x) := fun w0 h => (hP1 w0 h).2.cell 0
  have hC1 : ∀ w0, P1 w0 → w0.cell? ⟨w.heap.size + 1, 1, none⟩ = some (.int .u32 t) := fun w0 h => (hP1 w0 h).2.cell 1
  have HP1 := Lib.hid hP1
  have HPb := Lib.hid hPb
  have HC0 := Lib.hid hC0
  have HC1 := Lib.hid hC1
  clear A K hP1 hPb hC0 hC1
  refine wp_region_noPanic ?_
  refine wp_region_held_drew (S := P1) (by as_aux_lemma => kernel_rfl) hH0 (fun hHeld => ?_)
  clear hH0
  refine wpAnyH_take (i := 0) (oi := ⟨some 5, _, _, _, _, _⟩) (v := .agg SA) rfl (by as_aux_lemma => kernel_rfl) (by as_aux_lemma => kernel_rfl) (by as_aux_lemma => kernel_rfl) (fun _ _ _ h => h) (Or.inl ⟨by kernel_rfl, fun w0 hw => exec_load_row 25 (.tmp 2) rfl w.heap.size rfl 25 SA _ (HP1.out w0 hw).1 Try.underlying25 rfl hi⟩) (by assumption) ?_
  simp only [Act.put, List.setIfInBounds_toArray, List.set_cons_zero, List.set_cons_succ]
  refine wpAnyH_take (i := 1) (oi := ⟨some 6, _, _, _, _, _⟩) (v := ?_) rfl (by as_aux_lemma => kernel_rfl) (by as_aux_lemma => kernel_rfl) (by as_aux_lemma => kernel_rfl) (fun _ _ _ h => h) (Or.inl ⟨by kernel_rfl, ?_⟩) (by assumption) ?_
  rotate_left
  · ((intro w0 hw; have c0 := HC0.out w0 hw; have c1 := HC1.out w0 hw; go_simp) <;> with_reducible rfl)
  simp only [Act.put, List.setIfInBounds_toArray, List.set_cons_zero, List.set_cons_succ]
  refine wpAnyH_take (i := 2) (oi := ⟨some 7, _, _, _, _, _⟩) (v := ?_) rfl (by as_aux_lemma => kernel_rfl) (by as_aux_lemma => kernel_rfl) (by as_aux_lemma => kernel_rfl) (fun _ _ _ h => h) (Or.inl ⟨by kernel_rfl, ?_⟩) (by assumption) ?_
  rotate_left
  · ((intro w0 hw; have c0 := HC0.out w0 hw; have c1 := HC1.out w0 hw; go_simp) <;> with_reducible rfl)
  simp only [Act.put, List.setIfInBounds_toArray, List.set_cons_zero, List.set_cons_succ]
  refine wpAnyH_take (i := 4) (oi := ⟨some 9, _, _, _, _, _⟩) (v := .agg SA) rfl (by as_aux_lemma => kernel_rfl) (by as_aux_lemma => kernel_rfl) (by as_aux_lemma => kernel_rfl) (fun _ _ _ h => h) (Or.inl ⟨by kernel_rfl, fun w0 hw => exec_load_row 25 (.tmp 2) rfl w.heap.size rfl 25 SA _ (HP1.out w0 hw).1 Try.underlying25 rfl hi⟩) (by assumption) ?_
  simp only [Act.put, List.setIfInBounds_toArray, List.set_cons_zero, List.set_cons_succ]
  refine wpAnyH_take (i := 5) (oi := ⟨some 10, _, _, _, _, _⟩) (v := ?_) rfl (by as_aux_lemma => kernel_rfl) (by as_aux_lemma => kernel_rfl) (by as_aux_lemma => kernel_rfl) (fun _ _ _ h => h) (Or.inl ⟨by kernel_rfl, ?_⟩) (by assumption) ?_
  rotate_left
  · ((intro w0 hw; have c0 := HC0.out w0 hw; have c1 := HC1.out w0 hw; go_simp) <;> with_reducible rfl)
  simp only [Act.put, List.setIfInBounds_toArray, List.set_cons_zero, List.set_cons_succ]
  refine wpAnyH_take (i := 6) (oi := ⟨some 11, _, _, _, _, _⟩) (v := ?_) rfl (by as_aux_lemma => kernel_rfl) (by as_aux_lemma => kernel_rfl) (by as_aux_lemma => kernel_rfl) (fun _ _ _ h => h) (Or.inl ⟨by kernel_rfl, ?_⟩) (by assumption) ?_
  rotate_left
  · ((intro w0 hw; have c0 := HC0.out w0 hw; have c1 := HC1.out w0 hw; go_simp) <;> with_reducible rfl)
  simp only [Act.put, List.setIfInBounds_toArray, List.set_cons_zero, List.set_cons_succ]
  refine wpAnyH_ready (rs := [3]) (by as_aux_lemma => kernel_rfl) (by simp) ?_
  refine AllReadyH.cons rfl (fun K hK => ?_) AllReadyH.nil
  go_simp
  (go_at_call 17; refine (HP.out _).mono ?_; rintro e w1 ⟨rfl, hb⟩; go_wp2_with fail)
  have hH := HPb.out _ _ hHeld hb
  replace B := B.trans (hb.mono B.size)
  clear hb hHeld
  refine hK.out _ _ hH (fun hHeld => ?_)
  clear hK K hH
  (try simp only [Act.put, List.setIfInBounds_toArray, List.set_cons_zero, List.set_cons_succ])
  refine wpAnyH_ready (rs := [7]) (by as_aux_lemma => kernel_rfl) (by simp) ?_
  refine AllReadyH.cons rfl (fun K hK => ?_) AllReadyH.nil
  go_simp
  (go_at_call 29; refine (HR.out _).mono ?_; rintro e w1 ⟨rfl, hb⟩; go_wp2_with fail)
  have hH := HPb.out _ _ hHeld hb
  replace B := B.trans (hb.mono B.size)
  clear hb hHeld
  refine hK.out _ _ hH (fun hHeld => ?_)
  clear hK K hH
  (try simp only [Act.put, List.setIfInBounds_toArray, List.set_cons_zero, List.set_cons_succ])
  refine wpAnyH_take (i := 8) (oi := ⟨some 13, _, _, _, _, _⟩) (v := ?_) rfl (by as_aux_lemma => kernel_rfl) (by as_aux_lemma => kernel_rfl) (by as_aux_lemma => kernel_rfl) (fun _ _ _ h => h) (Or.inl ⟨by kernel_rfl, ?_⟩) (by assumption) ?_
  rotate_left
  · ((intro w0 hw; have c0 := HC0.out w0 hw; have c1 := HC1.out w0 hw; go_simp) <;> with_reducible rfl)
  simp only [Act.put, List.setIfInBounds_toArray, List.set_cons_zero, List.set_cons_succ]
  refine wpAnyH_take (i := 9) (oi := ⟨some 14, _, _, _, _, _⟩) (v := ?_) rfl (by as_aux_lemma => kernel_rfl) (by as_aux_lemma => kernel_rfl) (by as_aux_lemma => kernel_rfl) (fun _ _ _ h => h) (Or.inl ⟨by kernel_rfl, ?_⟩) (by assumption) ?_
  rotate_left
  · ((intro w0 hw; have c0 := HC0.out w0 hw; have c1 := HC1.out w0 hw; go_simp) <;> with_reducible rfl)
  simp only [Act.put, List.setIfInBounds_toArray, List.set_cons_zero, List.set_cons_succ]
  refine wpAnyH_take (i := 10) (oi := ⟨some 15, _, _, _, _, _⟩) (v := .agg SA) rfl (by as_aux_lemma => kernel_rfl) (by as_aux_lemma => kernel_rfl) (by as_aux_lemma => kernel_rfl) (fun _ _ _ h => h) (Or.inl ⟨by kernel_rfl, fun w0 hw => exec_load_row 25 (.tmp 2) rfl w.heap.size rfl 25 SA _ (HP1.out w0 hw).1 Try.underlying25 rfl hi⟩) (by assumption) ?_
  simp only [Act.put, List.setIfInBounds_toArray, List.set_cons_zero, List.set_cons_succ]
  refine wpAnyH_take (i := 11) (oi := ⟨some 16, _, _, _, _, _⟩) (v := ?_) rfl (by as_aux_lemma => kernel_rfl) (by as_aux_lemma => kernel_rfl) (by as_aux_lemma => kernel_rfl) (fun _ _ _ h => h) (Or.inl ⟨by kernel_rfl, ?_⟩) (by assumption) ?_
  rotate_left
  · ((intro w0 hw; have c0 := HC0.out w0 hw; have c1 := HC1.out w0 hw; go_simp) <;> with_reducible rfl)
  simp only [Act.put, List.setIfInBounds_toArray, List.set_cons_zero, List.set_cons_succ]
  refine wpAnyH_take (i := 12) (oi := ⟨some 17, _, _, _, _, _⟩) (v := ?_) rfl (by as_aux_lemma => kernel_rfl) (by as_aux_lemma => kernel_rfl) (by as_aux_lemma => kernel_rfl) (fun _ _ _ h => h) (Or.inl ⟨by kernel_rfl, ?_⟩) (by assumption) ?_
  rotate_left
  · ((intro w0 hw; have c0 := HC0.out w0 hw; have c1 := HC1.out w0 hw; go_simp) <;> with_reducible rfl)
  simp only [Act.put, List.setIfInBounds_toArray, List.set_cons_zero, List.set_cons_succ]
  refine wpAnyH_take (i := 13) (oi := ⟨some 18, _, _, _, _, _⟩) (v := ?_) rfl (by as_aux_lemma => kernel_rfl) (by as_aux_lemma => kernel_rfl) (by as_aux_lemma => kernel_rfl) (fun _ _ _ h => h) (Or.inl ⟨by kernel_rfl, ?_⟩) (by assumption) ?_
  rotate_left
  · ((intro w0 hw; have c0 := HC0.out w0 hw; have c1 := HC1.out w0 hw; go_simp) <;> with_reducible rfl)
  simp only [Act.put, List.setIfInBounds_toArray, List.set_cons_zero, List.set_cons_succ]
  refine wpAnyH_take (i := 14) (oi := ⟨some 19, _, _, _, _, _⟩) (v := ?_) rfl (by as_aux_lemma => kernel_rfl) (by as_aux_lemma => kernel_rfl) (by as_aux_lemma => kernel_rfl) (fun _ _ _ h => h) (Or.inl ⟨by kernel_rfl, ?_⟩) (by assumption) ?_
  rotate_left
  · ((intro w0 hw; have c0 := HC0.out w0 hw; have c1 := HC1.out w0 hw; go_simp) <;> with_reducible rfl)
  simp only [Act.put, List.setIfInBounds_toArray, List.set_cons_zero, List.set_cons_succ]
  refine wpAnyH_take (i := 16) (oi := ⟨some 21, _, _, _, _, _⟩) (v := .agg SA) rfl (by as_aux_lemma => kernel_rfl) (by as_aux_lemma => kernel_rfl) (by as_aux_lemma => kernel_rfl) (fun _ _ _ h => h) (Or.inl ⟨by kernel_rfl, fun w0 hw => exec_load_row 25 (.tmp 2) rfl w.heap.size rfl 25 SA _ (HP1.out w0 hw).1 Try.underlying25 rfl hi⟩) (by assumption) ?_
  simp only [Act.put, List.setIfInBounds_toArray, List.set_cons_zero, List.set_cons_succ]
  refine wpAnyH_take (i := 17) (oi := ⟨some 22, _, _, _, _, _⟩) (v := ?_) rfl (by as_aux_lemma => kernel_rfl) (by as_aux_lemma => kernel_rfl) (by as_aux_lemma => kernel_rfl) (fun _ _ _ h => h) (Or.inl ⟨by kernel_rfl, ?_⟩) (by assumption) ?_
  rotate_left
  · ((intro w0 hw; have c0 := HC0.out w0 hw; have c1 := HC1.out w0 hw; go_simp) <;> with_reducible rfl)
  simp only [Act.put, List.setIfInBounds_toArray, List.set_cons_zero, List.set_cons_succ]
  refine wpAnyH_take (i := 18) (oi := ⟨some 23, _, _, _, _, _⟩) (v := ?_) rfl (by as_aux_lemma => kernel_rfl) (by as_aux_lemma => kernel_rfl) (by as_aux_lemma => kernel_rfl) (fun _ _ _ h => h) (Or.inl ⟨by kernel_rfl, ?_⟩) (by assumption) ?_
  rotate_left
  · ((intro w0 hw; have c0 := HC0.out w0 hw; have c1 := HC1.out w0 hw; go_simp) <;> with_reducible rfl)
  simp only [Act.put, List.setIfInBounds_toArray, List.set_cons_zero, List.set_cons_succ]
  refine wpAnyH_take (i := 19) (oi := ⟨some 24, _, _, _, _, _⟩) (v := ?_) rfl (by as_aux_lemma => kernel_rfl) (by as_aux_lemma => kernel_rfl) (by as_aux_lemma => kernel_rfl) (fun _ _ _ h => h) (Or.inl ⟨by kernel_rfl, ?_⟩) (by assumption) ?_
  rotate_left
  · ((intro w0 hw; have c0 := HC0.out w0 hw; have c1 := HC1.out w0 hw; go_simp) <;> with_reducible rfl)
  simp only [Act.put, List.setIfInBounds_toArray, List.set_cons_zero, List.set_cons_succ]
  refine wpAnyH_take (i := 20) (oi := ⟨some 25, _, _, _, _, _⟩) (v := ?_) rfl (by as_aux_lemma => kernel_rfl) (by as_aux_lemma => kernel_rfl) (by as_aux_lemma => kernel_rfl) (fun _ _ _ h => h) (Or.inl ⟨by kernel_rfl, ?_⟩) (by assumption) ?_
  rotate_left
  · ((intro w0 hw; have c0 := HC0.out w0 hw; have c1 := HC1.out w0 hw; go_simp) <;> with_reducible rfl)
  simp only [Act.put, List.setIfInBounds_toArray, List.set_cons_zero, List.set_cons_succ]
  refine wpAnyH_ready (rs := [15]) (by as_aux_lemma => kernel_rfl) (by simp) ?_
  refine AllReadyH.cons rfl (fun K hK => ?_) AllReadyH.nil
  go_simp
  (go_at_call 12; refine (HD.out _).mono ?_; rintro e w1 ⟨rfl, hb⟩; go_wp2_with fail)
  have hH := HPb.out _ _ hHeld hb
  replace B := B.trans (hb.mono B.size)
  clear hb hHeld
  refine hK.out _ _ hH (fun hHeld => ?_)
  clear hK K hH
  (try simp only [Act.put, List.setIfInBounds_toArray, List.set_cons_zero, List.set_cons_succ])
  refine wpAnyH_ready (rs := [21]) (by as_aux_lemma => kernel_rfl) (by simp) ?_
  refine AllReadyH.cons rfl (fun K hK => ?_) AllReadyH.nil
  go_simp
  (go_at_call 30; refine (HE.out _).mono ?_; rintro e w1 ⟨rfl, hb⟩; go_wp2_with fail)
  have hH := HPb.out _ _ hHeld hb
  replace B := B.trans (hb.mono B.size)
  clear hb hHeld
  refine hK.out _ _ hH (fun hHeld => ?_)
  clear hK K hH
  (try simp only [Act.put, List.setIfInBounds_toArray, List.set_cons_zero, List.set_cons_succ])
  refine wpAnyH_take (i := 22) (oi := ⟨some 27, _, _, _, _, _⟩) (v := ?_) rfl (by as_aux_lemma => kernel_rfl) (by as_aux_lemma => kernel_rfl) (by as_aux_lemma => kernel_rfl) (fun _ _ _ h => h) (Or.inl ⟨by kernel_rfl, ?_⟩) (by assumption) ?_
  rotate_left
  · ((intro w0 hw; have c0 := HC0.out w0 hw; have c1 := HC1.out w0 hw; go_simp) <;> with_reducible rfl)
  simp only [Act.put, List.setIfInBounds_toArray, List.set_cons_zero, List.set_cons_succ]
  refine wpAnyH_take (i := 23) (oi := ⟨some 28, _, _, _, _, _⟩) (v := ?_) rfl (by as_aux_lemma => kernel_rfl) (by as_aux_lemma => kernel_rfl) (by as_aux_lemma => kernel_rfl) (fun _ _ _ h => h) (Or.inl ⟨by kernel_rfl, ?_⟩) (by assumption) ?_
  rotate_left
  · ((intro w0 hw; have c0 := HC0.out w0 hw; have c1 := HC1.out w0 hw; go_simp) <;> with_reducible rfl)
  simp only [Act.put, List.setIfInBounds_toArray, List.set_cons_zero, List.set_cons_succ]
  refine wpAnyH_take (i := 24) (oi := ⟨some 29, _, _, _, _, _⟩) (v := ?_) rfl (by as_aux_lemma => kernel_rfl) (by as_aux_lemma => kernel_rfl) (by as_aux_lemma => kernel_rfl) (fun _ _ _ h => h) (Or.inl ⟨by kernel_rfl, ?_⟩) (by assumption) ?_
  rotate_left
  · ((intro w0 hw; have c0 := HC0.out w0 hw; have c1 := HC1.out w0 hw; go_simp) <;> with_reducible rfl)
  simp only [Act.put, List.setIfInBounds_toArray, List.set_cons_zero, List.set_cons_succ]
  refine wpAnyH_take (i := 25) (oi := ⟨some 30, _, _, _, _, _⟩) (v := .agg SA) rfl (by as_aux_lemma => kernel_rfl) (by as_aux_lemma => kernel_rfl) (by as_aux_lemma => kernel_rfl) (fun _ _ _ h => h) (Or.inl ⟨by kernel_rfl, fun w0 hw => exec_load_row 25 (.tmp 2) rfl w.heap.size rfl 25 SA _ (HP1.out w0 hw).1 Try.underlying25 rfl hi⟩) (by assumption) ?_
  simp only [Act.put, List.setIfInBounds_toArray, List.set_cons_zero, List.set_cons_succ]
  refine wpAnyH_take (i := 26) (oi := ⟨some 31, _, _, _, _, _⟩) (v := ?_) rfl (by as_aux_lemma => kernel_rfl) (by as_aux_lemma => kernel_rfl) (by as_aux_lemma => kernel_rfl) (fun _ _ _ h => h) (Or.inl ⟨by kernel_rfl, ?_⟩) (by assumption) ?_
  rotate_left
  · ((intro w0 hw; have c0 := HC0.out w0 hw; have c1 := HC1.out w0 hw; go_simp) <;> with_reducible rfl)
  simp only [Act.put, List.setIfInBounds_toArray, List.set_cons_zero, List.set_cons_succ]
  refine wpAnyH_take (i := 27) (oi := ⟨some 32, _, _, _, _, _⟩) (v := ?_) rfl (by as_aux_lemma => kernel_rfl) (by as_aux_lemma => kernel_rfl) (by as_aux_lemma => kernel_rfl) (fun _ _ _ h => h) (Or.inl ⟨by kernel_rfl, ?_⟩) (by assumption) ?_
  rotate_left
  · ((intro w0 hw; have c0 := HC0.out w0 hw; have c1 := HC1.out w0 hw; go_simp) <;> with_reducible rfl)
  simp only [Act.put, List.setIfInBounds_toArray, List.set_cons_zero, List.set_cons_succ]
  refine wpAnyH_take (i := 29) (oi := ⟨some 34, _, _, _, _, _⟩) (v := .agg SA) rfl (by as_aux_lemma => kernel_rfl) (by as_aux_lemma => kernel_rfl) (by as_aux_lemma => kernel_rfl) (fun _ _ _ h => h) (Or.inl ⟨by kernel_rfl, fun w0 hw => exec_load_row 25 (.tmp 2) rfl w.heap.size rfl 25 SA _ (HP1.out w0 hw).1 Try.underlying25 rfl hi⟩) (by assumption) ?_
  simp only [Act.put, List.setIfInBounds_toArray, List.set_cons_zero, List.set_cons_succ]
  refine wpAnyH_take (i := 30) (oi := ⟨some 35, _, _, _, _, _⟩) (v := ?_) rfl (by as_aux_lemma => kernel_rfl) (by as_aux_lemma => kernel_rfl) (by as_aux_lemma => kernel_rfl) (fun _ _ _ h => h) (Or.inl ⟨by kernel_rfl, ?_⟩) (by assumption) ?_
  rotate_left
  · ((intro w0 hw; have c0 := HC0.out w0 hw; have c1 := HC1.out w0 hw; go_simp) <;> with_reducible rfl)
  simp only [Act.put, List.setIfInBounds_toArray, List.set_cons_zero, List.set_cons_succ]
  refine wpAnyH_take (i := 31) (oi := ⟨some 36, _, _, _, _, _⟩) (v := ?_) rfl (by as_aux_lemma => kernel_rfl) (by as_aux_lemma => kernel_rfl) (by as_aux_lemma => kernel_rfl) (fun _ _ _ h => h) (Or.inl ⟨by kernel_rfl, ?_⟩) (by assumption) ?_
  rotate_left
  · ((intro w0 hw; have c0 := HC0.out w0 hw; have c1 := HC1.out w0 hw; go_simp) <;> with_reducible rfl)
  simp only [Act.put, List.setIfInBounds_toArray, List.set_cons_zero, List.set_cons_succ]
  refine wpAnyH_ready (rs := [28]) (by as_aux_lemma => kernel_rfl) (by simp) ?_
  refine AllReadyH.cons rfl (fun K hK => ?_) AllReadyH.nil
  go_simp
  (go_at_call 18; refine (HT.out _).mono ?_; rintro e w1 ⟨v1, rfl, T1, hb⟩; go_wp2_with fail)
  have hH := HPb.out _ _ hHeld hb
  replace B := B.trans (hb.mono B.size)
  clear hb hHeld
  refine hK.out _ _ hH (fun hHeld => ?_)
  clear hK K hH
  (try simp only [Act.put, List.setIfInBounds_toArray, List.set_cons_zero, List.set_cons_succ])
  refine wpAnyH_ready (rs := [32]) (by as_aux_lemma => kernel_rfl) (by simp) ?_
  refine AllReadyH.cons rfl (fun K hK => ?_) AllReadyH.nil
  go_simp
  (go_at_call 32; refine (HU.out _).mono ?_; rintro e w1 ⟨v2, rfl, T2, hb⟩; replace T1 := T1.below hb; go_wp2_with fail)
  have hH := HPb.out _ _ hHeld hb
  replace B := B.trans (hb.mono B.size)
  clear hb hHeld
  refine hK.out _ _ hH (fun hHeld => ?_)
  clear hK K hH
  (try simp only [Act.put, List.setIfInBounds_toArray, List.set_cons_zero, List.set_cons_succ])
  refine wpAnyH_ready (rs := [33]) (by as_aux_lemma => kernel_rfl) (by simp) ?_
  refine AllReadyH.cons rfl (fun K hK => ?_) AllReadyH.nil
  go_simp
  (go_at_call 31; refine (rSame T1 T2 hln HF.out).mono ?_; rintro e w1 ⟨rfl, hb⟩; go_wp2_with fail)
  have hH := HPb.out _ _ hHeld hb
  replace B := B.trans (hb.mono B.size)
  clear hb hHeld
  refine hK.out _ _ hH (fun hHeld => ?_)
  clear hK K hH
  (try simp only [Act.put, List.setIfInBounds_toArray, List.set_cons_zero, List.set_cons_succ])
  refine wpAnyH_ready (rs := [34]) (by as_aux_lemma => kernel_rfl) (by simp) ?_
  refine AllReadyH.cons rfl (fun K hK => ?_) AllReadyH.nil
  go_simp
  refine hK.out _ _ hHeld (fun hHeld => ?_)
  clear hK K
  (try simp only [Act.put, List.setIfInBounds_toArray, List.set_cons_zero, List.set_cons_succ])
  refine wpAnyH_ready (rs := [35]) (by as_aux_lemma => kernel_rfl) (by simp) ?_
  refine AllReadyH.cons rfl (fun K hK => ?_) AllReadyH.nil
  go_simp
  refine hK.out _ _ hHeld (fun hHeld => ?_)
  clear hK K
  (try simp only [Act.put, List.setIfInBounds_toArray, List.set_cons_zero, List.set_cons_succ])
  refine wpAnyH_done (by as_aux_lemma => kernel_rfl) ?_ _
  refine NoPanic.normal ?_
  go_wp2_with fail
  go_ret
  exact ⟨rfl, B⟩
end Go.Proofs.Ytmpnlhfnemidpaa
