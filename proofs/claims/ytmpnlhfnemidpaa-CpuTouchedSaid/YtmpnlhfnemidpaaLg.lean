/- The law CpuTouched: the walk. -/
import Derived.Test.YtmpnlhfnemidpaaLg1
namespace Go.Proofs.Ytmpnlhfnemidpaa
open Go.RowKit Go.Shelf
set_option maxRecDepth 100000 in
set_option maxHeartbeats 16000000 in
theorem cCpuTouched {s : St} (hs : s.ok) {w : World} {A : Option Addr} {l : List (Int × Int)} {c : Nat} (hl : RdP w w.heap.size A l) (hw : ∀ p ∈ l, u32? p.1 ∧ u32? p.2) (_hlen : l.length ≤ c) (_hcap : c ≤ maxLen) :
    Calls Try.prog 8 #[.agg (stA s), .slice A l.length c] w fun e w' => e = .returned (.bool true) ∧ Below w.heap.size w w' := by
  obtain ⟨K1, Hb, hsz⟩ := cells1 w (stA s) 25
  have HL := Lib.hid (hl.below Hb (Nat.le_refl _))
  have HW := Lib.hid hw
  have HS := Lib.hid hs
  have h8 := hs.len
  clear hl hw hs hsz
  by_cases h1 : l.length ≤ 60
  · have h1' : ¬ (60 < (l.length : Int)) := by omega
    go_enter Try.func8, Try.ntmps8
    go_wp2_with fail
    generalize w.alloc _ = W at *
    have AS : StAt W w.heap.size s := ⟨K1, h8⟩
    clear K1
    go_loopw [5] (fun i wr => ∃ k : Nat, k ≤ l.length ∧ i = .int .i64 k ∧ Below W.heap.size W wr) (fun i _ => l.length - (intOf i).toNat)
    case atStart => exact ⟨0, Nat.zero_le _, rfl, Below.refl _ _⟩
    case round =>
      obtain ⟨k, hk, rfl, hb⟩ := hrel
      by_cases hlt : k < l.length
      · obtain ⟨⟨x, t⟩, hx⟩ : ∃ x, l[k]? = some x := ⟨_, List.getElem?_eq_getElem hlt⟩
        obtain ⟨hxu, htu⟩ := HW.out _ (List.mem_of_getElem? hx)
        have hl0 := HL.out.below hb Hb.size
        obtain ⟨g, off, rfl, hg⟩ := hl0.some_ (by omega)
        obtain ⟨d0, d1⟩ := hl0.cell g off rfl k x t hx
        have hk0 : (0 : Int) ≤ (k : Int) := by omega
        have hk1 : (k : Int) < (l.length : Int) := by omega
        have hs := HS.out
        clear hx hl0
        have HPL := Lib.hid (fun W => cPlan hs hxu.1 hxu.2 W)
        have HDN := Lib.hid (fun W => cDone hs hxu.1 hxu.2 htu W)
        have HTC := Lib.hid (fun W => cTouches hs hxu.1 hxu.2 W)
        have HTD : Hid (TouchedAt s (doneL s x t) (touchL s x) ((planL s x).kind == 2 || (planL s x).kind == 4)) := Lib.hid (touched (fun h => (ok_bounds h).2.1.1))
        have HO8 := Lib.hid (doneL_len hs.len x t)
        have HLN := Lib.hid (touchL_len s x)
        have hi := hi25 hs.len
        generalize planL s x = pk at *
        generalize doneL s x t = o at *
        generalize touchL s x = L at *
        have hiz : (Try.prog.info? 42).map (·.size) = some (wtA pk).size := by kernel_rfl
        go_upto_region 6 with (fail)
        go_cut [6] (fun s6 wx => ∃ Bp : Nat, s6 = .pointer (some ⟨Bp, 0, none⟩) ∧ Cells wx Bp 42 (wtA pk) ∧ Below wr.heap.size wr wx)
        case first =>
          as_aux_lemma =>
            have A : StAt wr.drew w.heap.size s := stDrew ((AS.below hb AS.lt).below (Below.refl _ wr) (AS.below hb AS.lt).lt)
            have c0 : wr.drew.cell? ⟨g, off + k * 2, none⟩ = some (.int .u32 x) := Since.cell d0 ⟨wr, (Below.refl _ wr)⟩
            have c1 : wr.drew.cell? ⟨g, off + k * 2 + 1, none⟩ = some (.int .u32 t) := Since.cell d1 ⟨wr, (Below.refl _ wr)⟩
            have hlt0 : w.heap.size < wr.heap.size := ((AS.below hb AS.lt).below (Below.refl _ wr) (AS.below hb AS.lt).lt).lt
            have BD : Below wr.heap.size wr wr.drew := (Below.refl _ wr).drew
            obtain ⟨P1, hP1, hPb, hPs, hH0⟩ : ∃ P1 : World → Prop, (∀ w0, P1 w0 → Cells w0 w.heap.size 25 (stA s) ∧ w0.cell? ⟨g, off + k * 2, none⟩ = some (.int .u32 x) ∧ w0.cell? ⟨g, off + k * 2 + 1, none⟩ = some (.int .u32 t)) ∧ (∀ w0 w1, P1 w0 → Below w0.heap.size w0 w1 → P1 w1) ∧ (∀ w0 b vs, wr.heap.size ≤ b → P1 w0 → P1 (w0.setCells b 0 vs)) ∧ P1 wr.drew :=
              ⟨fun w0 => Cells w0 w.heap.size 25 (stA s) ∧ w0.cell? ⟨g, off + k * 2, none⟩ = some (.int .u32 x) ∧ w0.cell? ⟨g, off + k * 2 + 1, none⟩ = some (.int .u32 t), fun _ h => h, fun w0 w1 h hb => ⟨h.1.below hb h.1.lt, Since.cell h.2.1 ⟨w1, hb⟩, Since.cell h.2.2 ⟨w1, hb⟩⟩,
                fun w0 b vs hb h => ⟨h.1.setCells_other vs 0 (by omega), (World.cell?_of_block (heap_setCells_other b vs 0 w0 g (by omega))).trans h.2.1, (World.cell?_of_block (heap_setCells_other b vs 0 w0 g (by omega))).trans h.2.2⟩, A.row, c0, c1⟩
            have HP1 := Lib.hid hP1
            have HPb := Lib.hid hPb
            have HPs := Lib.hid hPs
            clear hP1 hPb hPs
            refine wp_region_noPanic ?_
            refine wp_region_held_drew (S := P1) (by kernel_rfl) hH0 (fun hHeld => ?_)
            clear hH0
            refine wpAnyH_take (i := 0) (oi := ⟨some 22, _, _, _, _, _⟩) (v := .agg (stA s)) rfl (by as_aux_lemma => kernel_rfl) (by as_aux_lemma => kernel_rfl) (by as_aux_lemma => kernel_rfl) (fun _ _ _ h => h) (Or.inl ⟨by kernel_rfl, fun w0 hw => exec_load_row 25 (.tmp 2) rfl w.heap.size rfl 25 (stA s) _ (HP1.out w0 hw).1 Try.underlying25 rfl hi⟩) (by assumption) ?_
            simp only [Act.put, List.setIfInBounds_toArray, List.set_cons_zero, List.set_cons_succ]
            refine wpAnyH_take (i := 1) (oi := ⟨some 23, _, _, _, _, _⟩) (v := ?_) rfl (by as_aux_lemma => kernel_rfl) (by as_aux_lemma => kernel_rfl) (by as_aux_lemma => kernel_rfl) (fun _ _ _ h => h) (Or.inl ⟨by kernel_rfl, ?_⟩) (by assumption) ?_
            rotate_left
            · ((intro w0 hw; have c0 := (HP1.out w0 hw).2.1; have c1 := (HP1.out w0 hw).2.2; go_simp) <;> with_reducible rfl)
            simp only [Act.put, List.setIfInBounds_toArray, List.set_cons_zero, List.set_cons_succ]
            refine wpAnyH_take (i := 2) (oi := ⟨some 24, _, _, _, _, _⟩) (v := ?_) rfl (by as_aux_lemma => kernel_rfl) (by as_aux_lemma => kernel_rfl) (by as_aux_lemma => kernel_rfl) (fun _ _ _ h => h) (Or.inl ⟨by kernel_rfl, ?_⟩) (by assumption) ?_
            rotate_left
            · ((intro w0 hw; have c0 := (HP1.out w0 hw).2.1; have c1 := (HP1.out w0 hw).2.2; go_simp) <;> with_reducible rfl)
            simp only [Act.put, List.setIfInBounds_toArray, List.set_cons_zero, List.set_cons_succ]
            refine wpAnyH_take (i := 3) (oi := ⟨some 25, _, _, _, _, _⟩) (v := ?_) rfl (by as_aux_lemma => kernel_rfl) (by as_aux_lemma => kernel_rfl) (by as_aux_lemma => kernel_rfl) (fun _ _ _ h => h) (Or.inl ⟨by kernel_rfl, ?_⟩) (by assumption) ?_
            rotate_left
            · ((intro w0 hw; have c0 := (HP1.out w0 hw).2.1; have c1 := (HP1.out w0 hw).2.2; go_simp) <;> with_reducible rfl)
            simp only [Act.put, List.setIfInBounds_toArray, List.set_cons_zero, List.set_cons_succ]
            refine wpAnyH_take (i := 4) (oi := ⟨some 26, _, _, _, _, _⟩) (v := ?_) rfl (by as_aux_lemma => kernel_rfl) (by as_aux_lemma => kernel_rfl) (by as_aux_lemma => kernel_rfl) (fun _ _ _ h => h) (Or.inl ⟨by kernel_rfl, ?_⟩) (by assumption) ?_
            rotate_left
            · ((intro w0 hw; have c0 := (HP1.out w0 hw).2.1; have c1 := (HP1.out w0 hw).2.2; go_simp) <;> with_reducible rfl)
            simp only [Act.put, List.setIfInBounds_toArray, List.set_cons_zero, List.set_cons_succ]
            refine wpAnyH_take (i := 5) (oi := ⟨some 27, _, _, _, _, _⟩) (v := ?_) rfl (by as_aux_lemma => kernel_rfl) (by as_aux_lemma => kernel_rfl) (by as_aux_lemma => kernel_rfl) (fun _ _ _ h => h) (Or.inl ⟨by kernel_rfl, ?_⟩) (by assumption) ?_
            rotate_left
            · ((intro w0 hw; have c0 := (HP1.out w0 hw).2.1; have c1 := (HP1.out w0 hw).2.2; go_simp) <;> with_reducible rfl)
            simp only [Act.put, List.setIfInBounds_toArray, List.set_cons_zero, List.set_cons_succ]
            refine wpAnyH_ready (rs := [6, 7]) (by as_aux_lemma => kernel_rfl) (by simp) ?_
            refine AllReadyH.cons rfl (fun K hK => ?_) (AllReadyH.cons rfl (fun K hK => ?_) AllReadyH.nil)
            · go_simp
              (go_at_call 17; refine (HPL.out _).mono ?_; rintro e w1 ⟨rfl, hb⟩; go_wp2_with fail)
              have hH := HPb.out _ _ hHeld hb
              have B := BD.trans (hb.mono BD.size)
              refine hK.out _ _ hH (fun hHeld => ?_)
              clear hK K hb hH
              (try simp only [Act.put, List.setIfInBounds_toArray, List.set_cons_zero, List.set_cons_succ])
              refine wpAnyH_ready (rs := [7]) (by as_aux_lemma => kernel_rfl) (by simp) ?_
              refine AllReadyH.cons rfl (fun K hK => ?_) AllReadyH.nil
              go_simp
              have KZ := Cells.new w1 42 #[.int .i64 0, .int .u32 0, .int .u32 0, .int .i64 0, .int .i64 0, .int .u32 0]
              have hbz := (Below.refl w1.heap.size w1).alloc (Nat.le_refl _) (.cells #[.int .i64 0, .int .u32 0, .int .u32 0, .int .i64 0, .int .i64 0, .int .u32 0] 42)
              have BZ := B.trans (hbz.mono B.size)
              have hz : wr.heap.size ≤ w1.heap.size := B.size
              refine hK.out _ _ (HPb.out _ _ hHeld hbz) (fun hHeld => ?_)
              clear hK K hbz
              (try simp only [Act.put, List.setIfInBounds_toArray, List.set_cons_zero, List.set_cons_succ])
              have KF := KZ.setAll (wtA pk).toList (by rw [Array.length_toList, (rfl : (wtA pk).size = 6)]; rfl)
              rw [Array.toArray_toList] at KF
              have BF := below_setCells (wtA pk).toList 0 BZ hz
              have TZ : _ := KZ.there
              rw [show (#[.int .i64 0, .int .u32 0, .int .u32 0, .int .i64 0, .int .i64 0, .int .u32 0] : Array Value).size = (wtA pk).size from (rfl : (wtA pk).size = 6).symm] at TZ
              refine wpAnyH_ready (rs := [8]) (by as_aux_lemma => kernel_rfl) (by simp) ?_
              refine AllReadyH.cons rfl (fun K hK => ?_) AllReadyH.nil
              rw [if_pos (by kernel_rfl)]
              refine wp_store_mid 42 (.tmp 6) (.tmp 28) rfl w1.heap.size 0 (wtA pk) rfl rfl TZ hiz (wtA_one _) ?_
              refine hK.out _ _ (HPs.out _ _ _ hz hHeld) (fun hHeld => ?_)
              clear hK K
              (try simp only [Act.put, List.setIfInBounds_toArray])
              refine wpAnyH_done (by as_aux_lemma => kernel_rfl) ?_ _
              refine NoPanic.normal ?_
              go_wp2_with fail
              go_meet
              exact ⟨_, rfl, KF, BF⟩
            · go_simp
              have KZ := Cells.new wr.drew 42 #[.int .i64 0, .int .u32 0, .int .u32 0, .int .i64 0, .int .i64 0, .int .u32 0]
              have hbz := (Below.refl wr.drew.heap.size wr.drew).alloc (Nat.le_refl _) (.cells #[.int .i64 0, .int .u32 0, .int .u32 0, .int .i64 0, .int .i64 0, .int .u32 0] 42)
              have BZ := BD.trans (hbz.mono BD.size)
              have hz : wr.heap.size ≤ wr.heap.size := Nat.le_refl _
              refine hK.out _ _ (HPb.out _ _ hHeld hbz) (fun hHeld => ?_)
              clear hK K hbz
              (try simp only [Act.put, List.setIfInBounds_toArray, List.set_cons_zero, List.set_cons_succ])
              refine wpAnyH_ready (rs := [6]) (by as_aux_lemma => kernel_rfl) (by simp) ?_
              refine AllReadyH.cons rfl (fun K hK => ?_) AllReadyH.nil
              go_simp
              (go_at_call 17; refine (HPL.out _).mono ?_; rintro e w1 ⟨rfl, hb⟩; go_wp2_with fail)
              have hH := HPb.out _ _ hHeld hb
              replace KZ := KZ.below hb KZ.lt
              replace BZ := BZ.trans (hb.mono BZ.size)
              refine hK.out _ _ hH (fun hHeld => ?_)
              clear hK K hb hH
              (try simp only [Act.put, List.setIfInBounds_toArray, List.set_cons_zero, List.set_cons_succ])
              have KF := KZ.setAll (wtA pk).toList (by rw [Array.length_toList, (rfl : (wtA pk).size = 6)]; rfl)
              rw [Array.toArray_toList] at KF
              have BF := below_setCells (wtA pk).toList 0 BZ hz
              have TZ : _ := KZ.there
              rw [show (#[.int .i64 0, .int .u32 0, .int .u32 0, .int .i64 0, .int .i64 0, .int .u32 0] : Array Value).size = (wtA pk).size from (rfl : (wtA pk).size = 6).symm] at TZ
              refine wpAnyH_ready (rs := [8]) (by as_aux_lemma => kernel_rfl) (by simp) ?_
              refine AllReadyH.cons rfl (fun K hK => ?_) AllReadyH.nil
              rw [if_pos (by kernel_rfl)]
              refine wp_store_mid 42 (.tmp 6) (.tmp 28) rfl wr.heap.size 0 (wtA pk) rfl rfl TZ hiz (wtA_one _) ?_
              refine hK.out _ _ (HPs.out _ _ _ hz hHeld) (fun hHeld => ?_)
              clear hK K
              (try simp only [Act.put, List.setIfInBounds_toArray])
              refine wpAnyH_done (by as_aux_lemma => kernel_rfl) ?_ _
              refine NoPanic.normal ?_
              go_wp2_with fail
              go_meet
              exact ⟨_, rfl, KF, BF⟩
        case rest =>
        obtain ⟨Bp, rfl, KP, hb1⟩ := hcut
        generalize wc = W6 at *
        clear hiz
        have hio := hi25 HO8.out
        have hiz := hio
        go_upto_region 7 with (fail)
        go_cut [7] (fun s7 wx => ∃ Bo : Nat, s7 = .pointer (some ⟨Bo, 0, none⟩) ∧ Cells wx Bo 25 (stA o) ∧ Below W6.heap.size W6 wx)
        case first =>
          as_aux_lemma =>
            have A : StAt W6.drew w.heap.size s := stDrew ((AS.below hb AS.lt).below hb1 (AS.below hb AS.lt).lt)
            have c0 : W6.drew.cell? ⟨g, off + k * 2, none⟩ = some (.int .u32 x) := Since.cell d0 ⟨W6, hb1⟩
            have c1 : W6.drew.cell? ⟨g, off + k * 2 + 1, none⟩ = some (.int .u32 t) := Since.cell d1 ⟨W6, hb1⟩
            have hlt0 : w.heap.size < W6.heap.size := ((AS.below hb AS.lt).below hb1 (AS.below hb AS.lt).lt).lt
            have BD : Below W6.heap.size W6 W6.drew := (Below.refl _ W6).drew
            obtain ⟨P1, hP1, hPb, hPs, hH0⟩ : ∃ P1 : World → Prop, (∀ w0, P1 w0 → Cells w0 w.heap.size 25 (stA s) ∧ w0.cell? ⟨g, off + k * 2, none⟩ = some (.int .u32 x) ∧ w0.cell? ⟨g, off + k * 2 + 1, none⟩ = some (.int .u32 t)) ∧ (∀ w0 w1, P1 w0 → Below w0.heap.size w0 w1 → P1 w1) ∧ (∀ w0 b vs, W6.heap.size ≤ b → P1 w0 → P1 (w0.setCells b 0 vs)) ∧ P1 W6.drew :=
              ⟨fun w0 => Cells w0 w.heap.size 25 (stA s) ∧ w0.cell? ⟨g, off + k * 2, none⟩ = some (.int .u32 x) ∧ w0.cell? ⟨g, off + k * 2 + 1, none⟩ = some (.int .u32 t), fun _ h => h, fun w0 w1 h hb => ⟨h.1.below hb h.1.lt, Since.cell h.2.1 ⟨w1, hb⟩, Since.cell h.2.2 ⟨w1, hb⟩⟩,
                fun w0 b vs hb h => ⟨h.1.setCells_other vs 0 (by omega), (World.cell?_of_block (heap_setCells_other b vs 0 w0 g (by omega))).trans h.2.1, (World.cell?_of_block (heap_setCells_other b vs 0 w0 g (by omega))).trans h.2.2⟩, A.row, c0, c1⟩
            have HP1 := Lib.hid hP1
            have HPb := Lib.hid hPb
            have HPs := Lib.hid hPs
            clear hP1 hPb hPs
            refine wp_region_noPanic ?_
            refine wp_region_held_drew (S := P1) (by kernel_rfl) hH0 (fun hHeld => ?_)
            clear hH0
            refine wpAnyH_take (i := 0) (oi := ⟨some 29, _, _, _, _, _⟩) (v := .agg (stA s)) rfl (by as_aux_lemma => kernel_rfl) (by as_aux_lemma => kernel_rfl) (by as_aux_lemma => kernel_rfl) (fun _ _ _ h => h) (Or.inl ⟨by kernel_rfl, fun w0 hw => exec_load_row 25 (.tmp 2) rfl w.heap.size rfl 25 (stA s) _ (HP1.out w0 hw).1 Try.underlying25 rfl hi⟩) (by assumption) ?_
            simp only [Act.put, List.setIfInBounds_toArray, List.set_cons_zero, List.set_cons_succ]
            refine wpAnyH_take (i := 1) (oi := ⟨some 30, _, _, _, _, _⟩) (v := ?_) rfl (by as_aux_lemma => kernel_rfl) (by as_aux_lemma => kernel_rfl) (by as_aux_lemma => kernel_rfl) (fun _ _ _ h => h) (Or.inl ⟨by kernel_rfl, ?_⟩) (by assumption) ?_
            rotate_left
            · ((intro w0 hw; have c0 := (HP1.out w0 hw).2.1; have c1 := (HP1.out w0 hw).2.2; go_simp) <;> with_reducible rfl)
            simp only [Act.put, List.setIfInBounds_toArray, List.set_cons_zero, List.set_cons_succ]
            refine wpAnyH_take (i := 2) (oi := ⟨some 31, _, _, _, _, _⟩) (v := ?_) rfl (by as_aux_lemma => kernel_rfl) (by as_aux_lemma => kernel_rfl) (by as_aux_lemma => kernel_rfl) (fun _ _ _ h => h) (Or.inl ⟨by kernel_rfl, ?_⟩) (by assumption) ?_
            rotate_left
            · ((intro w0 hw; have c0 := (HP1.out w0 hw).2.1; have c1 := (HP1.out w0 hw).2.2; go_simp) <;> with_reducible rfl)
            simp only [Act.put, List.setIfInBounds_toArray, List.set_cons_zero, List.set_cons_succ]
            refine wpAnyH_take (i := 3) (oi := ⟨some 32, _, _, _, _, _⟩) (v := ?_) rfl (by as_aux_lemma => kernel_rfl) (by as_aux_lemma => kernel_rfl) (by as_aux_lemma => kernel_rfl) (fun _ _ _ h => h) (Or.inl ⟨by kernel_rfl, ?_⟩) (by assumption) ?_
            rotate_left
            · ((intro w0 hw; have c0 := (HP1.out w0 hw).2.1; have c1 := (HP1.out w0 hw).2.2; go_simp) <;> with_reducible rfl)
            simp only [Act.put, List.setIfInBounds_toArray, List.set_cons_zero, List.set_cons_succ]
            refine wpAnyH_take (i := 4) (oi := ⟨some 33, _, _, _, _, _⟩) (v := ?_) rfl (by as_aux_lemma => kernel_rfl) (by as_aux_lemma => kernel_rfl) (by as_aux_lemma => kernel_rfl) (fun _ _ _ h => h) (Or.inl ⟨by kernel_rfl, ?_⟩) (by assumption) ?_
            rotate_left
            · ((intro w0 hw; have c0 := (HP1.out w0 hw).2.1; have c1 := (HP1.out w0 hw).2.2; go_simp) <;> with_reducible rfl)
            simp only [Act.put, List.setIfInBounds_toArray, List.set_cons_zero, List.set_cons_succ]
            refine wpAnyH_take (i := 5) (oi := ⟨some 34, _, _, _, _, _⟩) (v := ?_) rfl (by as_aux_lemma => kernel_rfl) (by as_aux_lemma => kernel_rfl) (by as_aux_lemma => kernel_rfl) (fun _ _ _ h => h) (Or.inl ⟨by kernel_rfl, ?_⟩) (by assumption) ?_
            rotate_left
            · ((intro w0 hw; have c0 := (HP1.out w0 hw).2.1; have c1 := (HP1.out w0 hw).2.2; go_simp) <;> with_reducible rfl)
            simp only [Act.put, List.setIfInBounds_toArray, List.set_cons_zero, List.set_cons_succ]
            refine wpAnyH_take (i := 6) (oi := ⟨some 35, _, _, _, _, _⟩) (v := ?_) rfl (by as_aux_lemma => kernel_rfl) (by as_aux_lemma => kernel_rfl) (by as_aux_lemma => kernel_rfl) (fun _ _ _ h => h) (Or.inl ⟨by kernel_rfl, ?_⟩) (by assumption) ?_
            rotate_left
            · ((intro w0 hw; have c0 := (HP1.out w0 hw).2.1; have c1 := (HP1.out w0 hw).2.2; go_simp) <;> with_reducible rfl)
            simp only [Act.put, List.setIfInBounds_toArray, List.set_cons_zero, List.set_cons_succ]
            refine wpAnyH_take (i := 7) (oi := ⟨some 36, _, _, _, _, _⟩) (v := ?_) rfl (by as_aux_lemma => kernel_rfl) (by as_aux_lemma => kernel_rfl) (by as_aux_lemma => kernel_rfl) (fun _ _ _ h => h) (Or.inl ⟨by kernel_rfl, ?_⟩) (by assumption) ?_
            rotate_left
            · ((intro w0 hw; have c0 := (HP1.out w0 hw).2.1; have c1 := (HP1.out w0 hw).2.2; go_simp) <;> with_reducible rfl)
            simp only [Act.put, List.setIfInBounds_toArray, List.set_cons_zero, List.set_cons_succ]
            refine wpAnyH_take (i := 8) (oi := ⟨some 37, _, _, _, _, _⟩) (v := ?_) rfl (by as_aux_lemma => kernel_rfl) (by as_aux_lemma => kernel_rfl) (by as_aux_lemma => kernel_rfl) (fun _ _ _ h => h) (Or.inl ⟨by kernel_rfl, ?_⟩) (by assumption) ?_
            rotate_left
            · ((intro w0 hw; have c0 := (HP1.out w0 hw).2.1; have c1 := (HP1.out w0 hw).2.2; go_simp) <;> with_reducible rfl)
            simp only [Act.put, List.setIfInBounds_toArray, List.set_cons_zero, List.set_cons_succ]
            refine wpAnyH_take (i := 9) (oi := ⟨some 38, _, _, _, _, _⟩) (v := ?_) rfl (by as_aux_lemma => kernel_rfl) (by as_aux_lemma => kernel_rfl) (by as_aux_lemma => kernel_rfl) (fun _ _ _ h => h) (Or.inl ⟨by kernel_rfl, ?_⟩) (by assumption) ?_
            rotate_left
            · ((intro w0 hw; have c0 := (HP1.out w0 hw).2.1; have c1 := (HP1.out w0 hw).2.2; go_simp) <;> with_reducible rfl)
            simp only [Act.put, List.setIfInBounds_toArray, List.set_cons_zero, List.set_cons_succ]
            refine wpAnyH_take (i := 10) (oi := ⟨some 39, _, _, _, _, _⟩) (v := ?_) rfl (by as_aux_lemma => kernel_rfl) (by as_aux_lemma => kernel_rfl) (by as_aux_lemma => kernel_rfl) (fun _ _ _ h => h) (Or.inl ⟨by kernel_rfl, ?_⟩) (by assumption) ?_
            rotate_left
            · ((intro w0 hw; have c0 := (HP1.out w0 hw).2.1; have c1 := (HP1.out w0 hw).2.2; go_simp) <;> with_reducible rfl)
            simp only [Act.put, List.setIfInBounds_toArray, List.set_cons_zero, List.set_cons_succ]
            refine wpAnyH_ready (rs := [11, 12]) (by as_aux_lemma => kernel_rfl) (by simp) ?_
            refine AllReadyH.cons rfl (fun K hK => ?_) (AllReadyH.cons rfl (fun K hK => ?_) AllReadyH.nil)
            · go_simp
              (go_at_call 12; refine (HDN.out _).mono ?_; rintro e w1 ⟨rfl, hb⟩; go_wp2_with fail)
              have hH := HPb.out _ _ hHeld hb
              have B := BD.trans (hb.mono BD.size)
              refine hK.out _ _ hH (fun hHeld => ?_)
              clear hK K hb hH
              (try simp only [Act.put, List.setIfInBounds_toArray, List.set_cons_zero, List.set_cons_succ])
              refine wpAnyH_ready (rs := [12]) (by as_aux_lemma => kernel_rfl) (by simp) ?_
              refine AllReadyH.cons rfl (fun K hK => ?_) AllReadyH.nil
              go_simp
              have KZ := Cells.new w1 25 #[.int .u32 0, .int .u32 0, .int .u32 0, .int .u32 0, .int .u32 0, .int .u32 0, .int .u32 0, .int .u32 0, .int .u32 0, .int .u32 0, .int .u32 0, .int .u32 0, .int .u32 0, .bool false, .bool false, .bool false]
              have hbz := (Below.refl w1.heap.size w1).alloc (Nat.le_refl _) (.cells #[.int .u32 0, .int .u32 0, .int .u32 0, .int .u32 0, .int .u32 0, .int .u32 0, .int .u32 0, .int .u32 0, .int .u32 0, .int .u32 0, .int .u32 0, .int .u32 0, .int .u32 0, .bool false, .bool false, .bool false] 25)
              have BZ := B.trans (hbz.mono B.size)
              have hz : W6.heap.size ≤ w1.heap.size := B.size
              refine hK.out _ _ (HPb.out _ _ hHeld hbz) (fun hHeld => ?_)
              clear hK K hbz
              (try simp only [Act.put, List.setIfInBounds_toArray, List.set_cons_zero, List.set_cons_succ])
              have KF := KZ.setAll (stA o).toList (by rw [Array.length_toList, (stA_size HO8.out)]; rfl)
              rw [Array.toArray_toList] at KF
              have BF := below_setCells (stA o).toList 0 BZ hz
              have TZ : _ := KZ.there
              rw [show (#[.int .u32 0, .int .u32 0, .int .u32 0, .int .u32 0, .int .u32 0, .int .u32 0, .int .u32 0, .int .u32 0, .int .u32 0, .int .u32 0, .int .u32 0, .int .u32 0, .int .u32 0, .bool false, .bool false, .bool false] : Array Value).size = (stA o).size from (stA_size HO8.out).symm] at TZ
              refine wpAnyH_ready (rs := [13]) (by as_aux_lemma => kernel_rfl) (by simp) ?_
              refine AllReadyH.cons rfl (fun K hK => ?_) AllReadyH.nil
              rw [if_pos (by kernel_rfl)]
              refine wp_store_mid 25 (.tmp 7) (.tmp 40) rfl w1.heap.size 0 (stA o) rfl rfl TZ hiz (stA_one _) ?_
              refine hK.out _ _ (HPs.out _ _ _ hz hHeld) (fun hHeld => ?_)
              clear hK K
              (try simp only [Act.put, List.setIfInBounds_toArray])
              refine wpAnyH_done (by as_aux_lemma => kernel_rfl) ?_ _
              refine NoPanic.normal ?_
              go_wp2_with fail
              go_meet
              exact ⟨_, rfl, KF, BF⟩
            · go_simp
              have KZ := Cells.new W6.drew 25 #[.int .u32 0, .int .u32 0, .int .u32 0, .int .u32 0, .int .u32 0, .int .u32 0, .int .u32 0, .int .u32 0, .int .u32 0, .int .u32 0, .int .u32 0, .int .u32 0, .int .u32 0, .bool false, .bool false, .bool false]
              have hbz := (Below.refl W6.drew.heap.size W6.drew).alloc (Nat.le_refl _) (.cells #[.int .u32 0, .int .u32 0, .int .u32 0, .int .u32 0, .int .u32 0, .int .u32 0, .int .u32 0, .int .u32 0, .int .u32 0, .int .u32 0, .int .u32 0, .int .u32 0, .int .u32 0, .bool false, .bool false, .bool false] 25)
              have BZ := BD.trans (hbz.mono BD.size)
              have hz : W6.heap.size ≤ W6.heap.size := Nat.le_refl _
              refine hK.out _ _ (HPb.out _ _ hHeld hbz) (fun hHeld => ?_)
              clear hK K hbz
              (try simp only [Act.put, List.setIfInBounds_toArray, List.set_cons_zero, List.set_cons_succ])
              refine wpAnyH_ready (rs := [11]) (by as_aux_lemma => kernel_rfl) (by simp) ?_
              refine AllReadyH.cons rfl (fun K hK => ?_) AllReadyH.nil
              go_simp
              (go_at_call 12; refine (HDN.out _).mono ?_; rintro e w1 ⟨rfl, hb⟩; go_wp2_with fail)
              have hH := HPb.out _ _ hHeld hb
              replace KZ := KZ.below hb KZ.lt
              replace BZ := BZ.trans (hb.mono BZ.size)
              refine hK.out _ _ hH (fun hHeld => ?_)
              clear hK K hb hH
              (try simp only [Act.put, List.setIfInBounds_toArray, List.set_cons_zero, List.set_cons_succ])
              have KF := KZ.setAll (stA o).toList (by rw [Array.length_toList, (stA_size HO8.out)]; rfl)
              rw [Array.toArray_toList] at KF
              have BF := below_setCells (stA o).toList 0 BZ hz
              have TZ : _ := KZ.there
              rw [show (#[.int .u32 0, .int .u32 0, .int .u32 0, .int .u32 0, .int .u32 0, .int .u32 0, .int .u32 0, .int .u32 0, .int .u32 0, .int .u32 0, .int .u32 0, .int .u32 0, .int .u32 0, .bool false, .bool false, .bool false] : Array Value).size = (stA o).size from (stA_size HO8.out).symm] at TZ
              refine wpAnyH_ready (rs := [13]) (by as_aux_lemma => kernel_rfl) (by simp) ?_
              refine AllReadyH.cons rfl (fun K hK => ?_) AllReadyH.nil
              rw [if_pos (by kernel_rfl)]
              refine wp_store_mid 25 (.tmp 7) (.tmp 40) rfl W6.heap.size 0 (stA o) rfl rfl TZ hiz (stA_one _) ?_
              refine hK.out _ _ (HPs.out _ _ _ hz hHeld) (fun hHeld => ?_)
              clear hK K
              (try simp only [Act.put, List.setIfInBounds_toArray])
              refine wpAnyH_done (by as_aux_lemma => kernel_rfl) ?_ _
              refine NoPanic.normal ?_
              go_wp2_with fail
              go_meet
              exact ⟨_, rfl, KF, BF⟩
        case rest =>
        obtain ⟨Bo, rfl, KO, hb2⟩ := hcut
        generalize wc = W7 at *
        have hb12 := hb1.trans (hb2.mono hb1.size)
        go_upto_region 8 with (fail)
        have A : StAt W7.drew w.heap.size s := stDrew ((AS.below hb AS.lt).below hb12 (AS.below hb AS.lt).lt)
        have c0 : W7.drew.cell? ⟨g, off + k * 2, none⟩ = some (.int .u32 x) := Since.cell d0 ⟨W7, hb12⟩
        have c1 : W7.drew.cell? ⟨g, off + k * 2 + 1, none⟩ = some (.int .u32 t) := Since.cell d1 ⟨W7, hb12⟩
        have hlt0 : w.heap.size < W7.heap.size := ((AS.below hb AS.lt).below hb12 (AS.below hb AS.lt).lt).lt
        have BD : Below W7.heap.size W7 W7.drew := (Below.refl _ W7).drew
        obtain ⟨P1, hP1, hPb, hPs, hH0⟩ : ∃ P1 : World → Prop, (∀ w0, P1 w0 → Cells w0 w.heap.size 25 (stA s) ∧ w0.cell? ⟨g, off + k * 2, none⟩ = some (.int .u32 x) ∧ w0.cell? ⟨g, off + k * 2 + 1, none⟩ = some (.int .u32 t)) ∧ (∀ w0 w1, P1 w0 → Below w0.heap.size w0 w1 → P1 w1) ∧ (∀ w0 b vs, W7.heap.size ≤ b → P1 w0 → P1 (w0.setCells b 0 vs)) ∧ P1 W7.drew :=
          ⟨fun w0 => Cells w0 w.heap.size 25 (stA s) ∧ w0.cell? ⟨g, off + k * 2, none⟩ = some (.int .u32 x) ∧ w0.cell? ⟨g, off + k * 2 + 1, none⟩ = some (.int .u32 t), fun _ h => h, fun w0 w1 h hb => ⟨h.1.below hb h.1.lt, Since.cell h.2.1 ⟨w1, hb⟩, Since.cell h.2.2 ⟨w1, hb⟩⟩,
            fun w0 b vs hb h => ⟨h.1.setCells_other vs 0 (by omega), (World.cell?_of_block (heap_setCells_other b vs 0 w0 g (by omega))).trans h.2.1, (World.cell?_of_block (heap_setCells_other b vs 0 w0 g (by omega))).trans h.2.2⟩, A.row, c0, c1⟩
        have HP1 := Lib.hid hP1
        have HPb := Lib.hid hPb
        have HPs := Lib.hid hPs
        clear hP1 hPb hPs
        refine wp_region_noPanic ?_
        refine wp_region_held_drew (S := P1) (by kernel_rfl) hH0 (fun hHeld => ?_)
        clear hH0
        refine wpAnyH_take (i := 0) (oi := ⟨some 41, _, _, _, _, _⟩) (v := .agg (stA s)) rfl (by as_aux_lemma => kernel_rfl) (by as_aux_lemma => kernel_rfl) (by as_aux_lemma => kernel_rfl) (fun _ _ _ h => h) (Or.inl ⟨by kernel_rfl, fun w0 hw => exec_load_row 25 (.tmp 2) rfl w.heap.size rfl 25 (stA s) _ (HP1.out w0 hw).1 Try.underlying25 rfl hi⟩) (by assumption) ?_
        simp only [Act.put, List.setIfInBounds_toArray, List.set_cons_zero, List.set_cons_succ]
        refine wpAnyH_take (i := 1) (oi := ⟨some 42, _, _, _, _, _⟩) (v := ?_) rfl (by as_aux_lemma => kernel_rfl) (by as_aux_lemma => kernel_rfl) (by as_aux_lemma => kernel_rfl) (fun _ _ _ h => h) (Or.inl ⟨by kernel_rfl, ?_⟩) (by assumption) ?_
        rotate_left
        · ((intro w0 hw; have c0 := (HP1.out w0 hw).2.1; have c1 := (HP1.out w0 hw).2.2; go_simp) <;> with_reducible rfl)
        simp only [Act.put, List.setIfInBounds_toArray, List.set_cons_zero, List.set_cons_succ]
        refine wpAnyH_take (i := 2) (oi := ⟨some 43, _, _, _, _, _⟩) (v := ?_) rfl (by as_aux_lemma => kernel_rfl) (by as_aux_lemma => kernel_rfl) (by as_aux_lemma => kernel_rfl) (fun _ _ _ h => h) (Or.inl ⟨by kernel_rfl, ?_⟩) (by assumption) ?_
        rotate_left
        · ((intro w0 hw; have c0 := (HP1.out w0 hw).2.1; have c1 := (HP1.out w0 hw).2.2; go_simp) <;> with_reducible rfl)
        simp only [Act.put, List.setIfInBounds_toArray, List.set_cons_zero, List.set_cons_succ]
        refine wpAnyH_take (i := 3) (oi := ⟨some 44, _, _, _, _, _⟩) (v := ?_) rfl (by as_aux_lemma => kernel_rfl) (by as_aux_lemma => kernel_rfl) (by as_aux_lemma => kernel_rfl) (fun _ _ _ h => h) (Or.inl ⟨by kernel_rfl, ?_⟩) (by assumption) ?_
        rotate_left
        · ((intro w0 hw; have c0 := (HP1.out w0 hw).2.1; have c1 := (HP1.out w0 hw).2.2; go_simp) <;> with_reducible rfl)
        simp only [Act.put, List.setIfInBounds_toArray, List.set_cons_zero, List.set_cons_succ]
        refine wpAnyH_take (i := 4) (oi := ⟨some 45, _, _, _, _, _⟩) (v := ?_) rfl (by as_aux_lemma => kernel_rfl) (by as_aux_lemma => kernel_rfl) (by as_aux_lemma => kernel_rfl) (fun _ _ _ h => h) (Or.inl ⟨by kernel_rfl, ?_⟩) (by assumption) ?_
        rotate_left
        · ((intro w0 hw; have c0 := (HP1.out w0 hw).2.1; have c1 := (HP1.out w0 hw).2.2; go_simp) <;> with_reducible rfl)
        simp only [Act.put, List.setIfInBounds_toArray, List.set_cons_zero, List.set_cons_succ]
        refine wpAnyH_take (i := 5) (oi := ⟨some 46, _, _, _, _, _⟩) (v := ?_) rfl (by as_aux_lemma => kernel_rfl) (by as_aux_lemma => kernel_rfl) (by as_aux_lemma => kernel_rfl) (fun _ _ _ h => h) (Or.inl ⟨by kernel_rfl, ?_⟩) (by assumption) ?_
        rotate_left
        · ((intro w0 hw; have c0 := (HP1.out w0 hw).2.1; have c1 := (HP1.out w0 hw).2.2; go_simp) <;> with_reducible rfl)
        simp only [Act.put, List.setIfInBounds_toArray, List.set_cons_zero, List.set_cons_succ]
        refine wpAnyH_ready (rs := [6]) (by as_aux_lemma => kernel_rfl) (by simp) ?_
        refine AllReadyH.cons rfl (fun K hK => ?_) AllReadyH.nil
        go_simp
        (go_at_call 18; refine (HTC.out _).mono ?_; rintro e w8 ⟨v8, rfl, T8, hb8⟩; go_wp2_with fail)
        have hH := HPb.out _ _ hHeld hb8
        refine hK.out _ _ hH (fun hHeld => ?_)
        clear hK K hH
        (try simp only [Act.put, List.setIfInBounds_toArray, List.set_cons_zero, List.set_cons_succ])
        refine wpAnyH_ready (rs := [7]) (by as_aux_lemma => kernel_rfl) (by simp) ?_
        refine AllReadyH.cons rfl (fun K hK => ?_) AllReadyH.nil
        go_simp
        refine hK.out _ _ hHeld (fun hHeld => ?_)
        clear hK K
        (try simp only [Act.put, List.setIfInBounds_toArray, List.set_cons_zero, List.set_cons_succ])
        refine wpAnyH_done (by as_aux_lemma => kernel_rfl) ?_ _
        refine NoPanic.normal ?_
        have hb78 : Below W7.heap.size W7 w8 := BD.trans (hb8.mono BD.size)
        have hb18 := hb12.trans (hb78.mono hb12.size)
        have A8 := (AS.below hb AS.lt).below hb18 (AS.below hb AS.lt).lt
        have O8 : StAt w8 Bo o := ⟨KO.below hb78 KO.lt, HO8.out⟩
        have P8 := (KP.below hb2 KP.lt).below hb78 (KP.below hb2 KP.lt).lt
        have B8 := Lib.hid (hb.trans (hb18.mono hb.size))
        clear hHeld HP1 HPb HPs A c0 c1 hlt0 BD hb8 hb78 hb12 hb18 hb1 hb2 KP KO d0 d1 HPL HDN HTC hio hiz
        have p0 := (P8.cell 0).trans (show _ = some (Value.int .i64 pk.kind) from rfl)
        go_upto_region 9 with (fail)
        go_cut [9] (fun c wx => c = .bool (pk.kind == 2 || pk.kind == 4) ∧ wx = w8)
        case first =>
          as_aux_lemma =>
          cases h2 : (pk.kind == 2)
          · cases h4 : (pk.kind == 4)
            all_goals
              go_wp2_with fail
              go_meet
              exact ⟨by rw [h2, h4]; rfl, rfl⟩
          · go_wp2_with fail
            go_meet
            exact ⟨by rw [h2]; rfl, rfl⟩
        case rest =>
        obtain ⟨rfl, rfl⟩ := hcut
        generalize (pk.kind == 2 || pk.kind == 4) = told at *
        clear p0 P8
        go_wp2_with fail
        go_loopw [10, 11] (fun ch r wx => ∃ j : Nat, j ≤ 8 ∧ r = .int .i64 j ∧ ch = .int .i64 (cntL s o j) ∧ Below wc.heap.size wc wx) (fun _ r _ => 8 - (intOf r).toNat)
        case atStart => exact ⟨0, by omega, rfl, rfl, Below.refl _ _⟩
        case round =>
          obtain ⟨j, hj, rfl, rfl, hbj⟩ := hrel
          have hc1 := cntL_one HTD.out j
          by_cases hlj : j < 8
          · as_aux_lemma =>
            generalize wr = wo at *
            have A9 := A8.below hbj A8.lt
            have O9 := O8.below hbj O8.lt
            have T9 := Lib.hid (T8.below hbj)
            have r1 := A9.reg (k := j) hlj
            have r2 := O9.reg (k := j) hlj
            have x1 : (0 : Int) ≤ (j : Int) := by omega
            have x2 : (j : Int) < 8 := by omega
            have HC := Lib.hid (show cntL s o (j + 1) = cntL s o j + if reg o j = reg s j then 0 else 1 from rfl)
            have HG := Lib.hid (fun (h1 : reg o j ≠ reg s j) h2 => HTD.out.goes h1 h2)
            have hc2 : (cntL s o j : Int) ≤ 1 := by omega
            have hc3 : (0 : Int) ≤ (cntL s o j : Int) := by omega
            have hln := HLN.out
            have HBJ := Lib.hid hbj.drew
            have T10 := T9.out.below (Below.refl _ wo).drew
            clear hbj A9 O9
            cases he : (reg o j == reg s j)
            · have hne : reg o j ≠ reg s j := by simpa using he
              have heb : (reg o j != reg s j) = true := by simp [bne, he]
              have HCN := Lib.hid (show cntL s o (j + 1) = cntL s o j + 1 by rw [HC.out, if_neg hne])
              have HNE := Lib.hid hne
              clear hne
              cases told
              · have hgt : goesL L 1 j = true := HG.out HNE.out rfl
                go_upto_region 14 with (fail)
                refine wp_region_still_lit (by kernel_rfl) (by kernel_rfl) ?_
                repeat still_step
                refine wpStill_nil ?_
                change Exit.then _ _ .normal _ wo.drew
                generalize wo.drew = W10 at *
                go_wp2_with (go_at_call 19; refine (cGoes T10 hln _ _).mono ?_; rintro e w1 ⟨rfl, hb1⟩; have HB2 := Lib.hid (HBJ.out.trans (hb1.mono HBJ.out.size)); clear hb1)
                go_roundw
                case rel => exact ⟨j + 1, by omega, by go_num, by rw [HCN.out]; go_num, HB2.out⟩
                case measure => simp [intOf]; omega
              · go_upto_region 14 with (fail)
                refine wp_region_still_lit (by kernel_rfl) (by kernel_rfl) ?_
                repeat still_step
                refine wpStill_nil ?_
                change Exit.then _ _ .normal _ wo.drew
                go_wp2_with fail
                go_roundw
                case rel => exact ⟨j + 1, by omega, by go_num, by rw [HCN.out]; go_num, HBJ.out⟩
                case measure => simp [intOf]; omega
            · have heq : reg o j = reg s j := by simpa using he
              have heb : (reg o j != reg s j) = false := by simp [bne, he]
              have HCN := Lib.hid (show cntL s o (j + 1) = cntL s o j by rw [HC.out, if_pos heq]; rfl)
              clear heq
              go_upto_region 14 with (fail)
              refine wp_region_still_lit (by kernel_rfl) (by kernel_rfl) ?_
              repeat still_step
              refine wpStill_nil ?_
              change Exit.then _ _ .normal _ wo.drew
              go_wp2_with fail
              go_roundw
              case rel => exact ⟨j + 1, by omega, by go_num, by rw [HCN.out], HBJ.out⟩
              case measure => simp [intOf]; omega
          · obtain rfl : j = 8 := by omega
            have hln := HLN.out
            have hd : decide ((1 : Int) < (cntL s o 8 : Int)) = false := by simp; omega
            have hd2 : (cntL s o 8 : Int) ≤ 1 := by omega
            have q3 : (o.epc != s.epc) = true → goesL L 3 0 = true := fun h => HTD.out.epc (by simpa using h)
            have q4 : (o.cause != s.cause) = true → goesL L 4 0 = true := fun h => HTD.out.cause (by simpa using h)
            have q5 : (o.vec != s.vec) = true → goesL L 5 0 = true := fun h => HTD.out.vec (by simpa using h)
            have q6 : (o.table != s.table) = true → goesL L 6 0 = true := fun h => HTD.out.table (by simpa using h)
            have Q3 := Lib.hid q3
            have Q4 := Lib.hid q4
            have Q5 := Lib.hid q5
            have Q6 := Lib.hid q6
            clear q3 q4 q5 q6
            go_upto_region 18 with (fail)
            go_cut [133] (fun c wx => c = .bool false ∧ Below wr.heap.size wr wx)
            case first =>
              as_aux_lemma =>
              have A9 := A8.below hbj A8.lt
              have O9 := O8.below hbj O8.lt
              have T9 := T8.below hbj
              have BB : Below wr.heap.size wr wr := Below.refl _ _
              obtain ⟨a1, a2, a3, a4, a5, a6, a7⟩ := sevenF A9
              obtain ⟨o1, o2, o3, o4, o5, o6, o7⟩ := sevenF O9
              clear hbj
              cases b3 : (o.epc != s.epc) <;> cases b4 : (o.cause != s.cause) <;> cases b5 : (o.vec != s.vec) <;> cases b6 : (o.table != s.table)
              all_goals
                (try have g3 := Q3.out b3)
                (try have g4 := Q4.out b4)
                (try have g5 := Q5.out b5)
                (try have g6 := Q6.out b6)
                go_wp2_with (go_at_call 19; refine (cGoes T9 hln _ _).mono ?_; rintro e w1 ⟨rfl, hb1⟩; replace T9 := T9.below hb1; replace A9 := A9.below hb1 A9.lt; replace O9 := O9.below hb1 O9.lt; replace BB := BB.trans (hb1.mono BB.size); clear hb1 a1 a2 a3 a4 a5 a6 a7 o1 o2 o3 o4 o5 o6 o7; obtain ⟨a1, a2, a3, a4, a5, a6, a7⟩ := sevenF A9; obtain ⟨o1, o2, o3, o4, o5, o6, o7⟩ := sevenF O9)
                go_meet
                exact ⟨rfl, BB⟩
            case rest =>
              obtain ⟨rfl, hb9⟩ := hcut
              have hbj2 := hbj.trans (hb9.mono hbj.size)
              have A9 := A8.below hbj2 A8.lt
              have O9 := O8.below hbj2 O8.lt
              have T9 := T8.below hbj2
              have BB : Below W.heap.size W wc := B8.out.trans (hbj2.mono B8.out.size)
              obtain ⟨a1, a2, a3, a4, a5, a6, a7⟩ := sevenF A9
              obtain ⟨o1, o2, o3, o4, o5, o6, o7⟩ := sevenF O9
              have g2 : goesL L 2 0 = true := HTD.out.pc
              have Q7 := Lib.hid HTD.out.mode
              clear hb9 hbj hbj2 Q3 Q4 Q5 Q6
              by_cases e3 : o.sup = s.sup
              · by_cases e4 : o.prev = s.prev
                · by_cases e5 : o.en = s.en
                  · as_aux_lemma =>
                    go_wp2_with (go_at_call 19; refine (cGoes T9 hln _ _).mono ?_; rintro e w1 ⟨rfl, hb1⟩; replace T9 := T9.below hb1; replace A9 := A9.below hb1 A9.lt; replace O9 := O9.below hb1 O9.lt; replace BB := BB.trans (hb1.mono BB.size); clear hb1 a1 a2 a3 a4 a5 a6 a7 o1 o2 o3 o4 o5 o6 o7; obtain ⟨a1, a2, a3, a4, a5, a6, a7⟩ := sevenF A9; obtain ⟨o1, o2, o3, o4, o5, o6, o7⟩ := sevenF O9)
                    exact ⟨⟨k + 1, by omega, by go_num, BB⟩, by simp [intOf]; omega⟩
                  · as_aux_lemma =>
                    have g7 := Q7.out (.inr (.inr e5))
                    go_wp2_with (go_at_call 19; refine (cGoes T9 hln _ _).mono ?_; rintro e w1 ⟨rfl, hb1⟩; replace T9 := T9.below hb1; replace A9 := A9.below hb1 A9.lt; replace O9 := O9.below hb1 O9.lt; replace BB := BB.trans (hb1.mono BB.size); clear hb1 a1 a2 a3 a4 a5 a6 a7 o1 o2 o3 o4 o5 o6 o7; obtain ⟨a1, a2, a3, a4, a5, a6, a7⟩ := sevenF A9; obtain ⟨o1, o2, o3, o4, o5, o6, o7⟩ := sevenF O9)
                    exact ⟨⟨k + 1, by omega, by go_num, BB⟩, by simp [intOf]; omega⟩
                · as_aux_lemma =>
                  have g7 := Q7.out (.inr (.inl e4))
                  go_wp2_with (go_at_call 19; refine (cGoes T9 hln _ _).mono ?_; rintro e w1 ⟨rfl, hb1⟩; replace T9 := T9.below hb1; replace A9 := A9.below hb1 A9.lt; replace O9 := O9.below hb1 O9.lt; replace BB := BB.trans (hb1.mono BB.size); clear hb1 a1 a2 a3 a4 a5 a6 a7 o1 o2 o3 o4 o5 o6 o7; obtain ⟨a1, a2, a3, a4, a5, a6, a7⟩ := sevenF A9; obtain ⟨o1, o2, o3, o4, o5, o6, o7⟩ := sevenF O9)
                  exact ⟨⟨k + 1, by omega, by go_num, BB⟩, by simp [intOf]; omega⟩
              · as_aux_lemma =>
                have g7 := Q7.out (.inl e3)
                go_wp2_with (go_at_call 19; refine (cGoes T9 hln _ _).mono ?_; rintro e w1 ⟨rfl, hb1⟩; replace T9 := T9.below hb1; replace A9 := A9.below hb1 A9.lt; replace O9 := O9.below hb1 O9.lt; replace BB := BB.trans (hb1.mono BB.size); clear hb1 a1 a2 a3 a4 a5 a6 a7 o1 o2 o3 o4 o5 o6 o7; obtain ⟨a1, a2, a3, a4, a5, a6, a7⟩ := sevenF A9; obtain ⟨o1, o2, o3, o4, o5, o6, o7⟩ := sevenF O9)
                exact ⟨⟨k + 1, by omega, by go_num, BB⟩, by simp [intOf]; omega⟩
      · obtain rfl : k = l.length := by omega
        go_wp2_with fail
        refine (cKnown _).mono ?_
        rintro e W1 ⟨rfl, hb1⟩
        go_wp2
        go_ret
        exact ⟨rfl, Hb.trans ((hb.trans (hb1.mono hb.size)).mono Hb.size)⟩
  · have h1' : 60 < (l.length : Int) := by omega
    go_enter Try.func8, Try.ntmps8
    go_wp2_with fail
    refine (cKnown _).mono ?_
    rintro e W1 ⟨rfl, hb1⟩
    go_wp2
    go_ret
    exact ⟨rfl, Hb.trans (hb1.mono Hb.size)⟩
end Go.Proofs.Ytmpnlhfnemidpaa
