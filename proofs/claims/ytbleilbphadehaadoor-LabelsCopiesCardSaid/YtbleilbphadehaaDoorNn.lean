/- A set as a text: contract. -/
import Derived.Test.YtbleilbphadehaaDoorNm
import Derived.Test.YtbleilbphadehaaDoorShelf
namespace Go.Proofs.YtbleilbphadehaaDoor
open Go.RowKit Go.Shelf
attribute [local go_sem] Oper.semAt_some

theorem info_str : (Tryd.prog.info? 9).map (fun i => (i.zero, i.size, i.bytes)) = some (some (.string ByteArray.empty), 1, 16) := by kernel_rfl
/-- A label as a text; a set as a text. -/
def decB (n : Int) : ByteArray := ⟨(Lib.decDigits n.toNat).toArray⟩
def textL (l : List Int) : ByteArray := if l = [] then ⟨#[45]⟩ else ⟨(Lib.join ((l.map decB).map (·.data.toList)) [32]).toArray⟩
theorem decDigits_len2 {n : Nat} (h : n < 100) : (Lib.decDigits n).length ≤ 2 := by
  rw [Lib.decDigits]
  split
  · simp
  · rw [Lib.decDigits, dif_pos (by omega)]; simp
theorem join_len2 : ∀ (l : List Int), (∀ x ∈ l, 0 ≤ x ∧ x < 100) → (Lib.join ((l.map decB).map (·.data.toList)) [32]).length ≤ 3 * l.length
  | [], _ => by simp [Lib.join]
  | [x], h => by
    have := decDigits_len2 (n := x.toNat) (by have := h x (by simp); omega)
    simp [Lib.join, decB, List.intercalate]; omega
  | x :: y :: l, h => by
    have := decDigits_len2 (n := x.toNat) (by have := h x (by simp); omega)
    have ih := join_len2 (y :: l) (fun z hz => h z (by simp [hz]))
    simp only [Lib.join, List.map_cons, List.intercalate, List.length_cons] at ih ⊢
    simp only [List.intersperse_cons_cons, List.flatten_cons, List.length_append, List.length_cons, List.length_nil, decB] at ih ⊢
    omega
set_option maxRecDepth 100000 in
set_option maxHeartbeats 2000000 in
theorem cText {a : Nat} (ha : a < 4294967296) (w : World) : Calls Tryd.prog 16 #[.int .u32 a] w fun e w' => e = .returned (.string (textL (labsL a 16))) ∧ Below w.heap.size w w' := by
  obtain ⟨i0, hi0, hz0, hz1, hz2⟩ := info_parts info_str
  rw [← callsIn_wide (n := 1)]
  refine callsIn_of_wp_marks Tryd.func16 rfl trivial ?_
  simp only [Tryd.ntmps16, List.size_toArray, List.length_cons, List.length_nil, Nat.reduceAdd, Nat.reduceSub, Array.replicate_succ, Array.replicate_zero, List.push_toArray, List.append_toArray, List.nil_append, List.cons_append]
  gi_wp2_with fail
  refine ⟨trivial, (callsIn_wide.2 (cAllOf (a : Int) _)).mono ?_⟩
  rintro e W4 ⟨rfl, e4⟩
  have s4 : W4.heap.size = w.heap.size + 2 := by rw [← e4]; simp
  gi_wp2_with fail
  refine it_range rfl (enters_of Tryd.func40 (by kernel_rfl) rfl) ?_
  intro fn r hr
  have start : JL w a r 69 9 (fun n => Value.string (decB n)) 0 ((W4.alloc (.deferred (some []))).alloc (.loop r)) := by rw [← e4]; exact JL.start
  rw [s4]
  clear e4
  generalize (W4.alloc _).alloc _ = W5 at *
  clear s4
  refine (cAll1 ha (w.heap.size + 2 + 1) (w.heap.size + 1) (JL w a r 69 9 (fun n => Value.string (decB n))) ?hJ ?hN ?hY _ start).mono ?_
  case hJ => exact fun k W h => h.st.cell 0
  case hN => exact fun k W h _ ht => h.skip ht
  case hY =>
    intro k W h hk ht
    refine it_round (r := r) h.lp (by rw [hr]) (by rw [hr]; rfl) ?_
    obtain ⟨hlp, hdf, hst, ⟨v, hout, hown, hnil⟩, hlow⟩ := h
    have ha' := congrArg Loop.assign hr
    have hb' := congrArg Loop.body hr
    have ht' := congrArg Loop.tmps hr
    have hps := congrArg Loop.params hr
    simp only at ha' hb' ht' hps
    intro rb hrb
    have hbk := it_back hrb (by rw [hr]) (by rw [hr])
    have HB := Lib.hid hbk
    clear hr hbk hrb
    rw [ha', hb', ht', hps]
    clear ha' hb' ht' hps
    gi_wp2
    refine ⟨_, rfl, hlp, ?_⟩
    have hne : ∀ j, j ≠ w.heap.size + 3 → (W.putObj (w.heap.size + 3) (.loop rb)).heap[j]? = W.heap[j]? := fun j hj => World.putObj_heap_other hj
    have hlow6 : Below w.heap.size w (W.putObj (w.heap.size + 3) (.loop rb)) := hlow.grown (grownBy_putObj' _ _ _) hlow.size (fun k e => by cases e; omega)
    have hlp6 : (W.putObj (w.heap.size + 3) (.loop rb)).heap[w.heap.size + 3]? = some (.loop rb) := World.putObj_heap_same (Array.getElem?_eq_some_iff.1 hlp).1
    have hdf6 := (hne (w.heap.size + 2) (by omega)).trans hdf
    have hst6 : Cells (W.putObj (w.heap.size + 3) (.loop rb)) (w.heap.size + 1) _ _ := hst.put _ (by omega)
    have hout6 : Cells (W.putObj (w.heap.size + 3) (.loop rb)) w.heap.size _ _ := hout.put _ (by omega)
    have hown6 : (W.putObj (w.heap.size + 3) (.loop rb)).ownsRow (w.heap.size + 4) 9 1 v (labsL a k).length ((labsL a k).map (fun n => Value.string (decB n))) := ownsRow_putObj hown _ hlp rfl
    have hsz : w.heap.size + 4 ≤ (W.putObj (w.heap.size + 3) (.loop rb)).heap.size := by have := (Array.getElem?_eq_some_iff.1 hlp6).1; omega
    clear hlp hdf hst hout hown hlow hne
    generalize World.putObj _ _ _ = W6 at *
    have q1 := hout6.cell 0
    simp at q1
    have hlen := labsL_len a k
    have HL := Lib.hid (show labsL a (k + 1) = labsL a k ++ [(k : Int)] by simp [labsL, ht])
    have HD := Lib.hid (And.intro hlp6 (And.intro hdf6 (And.intro hst6 (And.intro hout6 hlow6))))
    clear ht hnil hlp6 hdf6 hst6 hlow6
    have q1 : W6.drew.cell? ⟨w.heap.size, 0, none⟩ = some v := q1
    gi_wp2_with fail
    refine wpIn_region_of_any (Free.round _) (by kernel_rfl) (by rintro ⟨_, _, h⟩; exact h) (by kernel_rfl) ?_
    change wpAny _ _ _ _ _ _ _ W6.drew
    have hown7 : W6.drew.ownsRow (w.heap.size + 4) 9 1 v (labsL a k).length ((labsL a k).map (fun n => Value.string (decB n))) := own_below hown6 (Below.refl _ _).drew
    have HD7 : Hid (W6.drew.heap[w.heap.size + 3]? = some (.loop rb) ∧ W6.drew.heap[w.heap.size + 2]? = some (.deferred (some [])) ∧ Cells W6.drew (w.heap.size + 1) 28 #[.int .u32 a] ∧ Cells W6.drew w.heap.size 69 #[v] ∧ Below w.heap.size w W6.drew) := Lib.hid ⟨HD.out.1, HD.out.2.1, HD.out.2.2.1, HD.out.2.2.2.1, HD.out.2.2.2.2.drew⟩
    have hsz7 : w.heap.size + 4 ≤ W6.drew.heap.size := hsz
    have hout7 : Cells W6.drew w.heap.size 69 #[v] := hout6
    have hdec : (⟨(Lib.decDigits k).toArray⟩ : ByteArray) = decB (k : Int) := rfl
    have HI := Lib.hid (Tryd.strconv_Itoa_small k (by omega) W6.drew)
    rw [hdec] at HI
    clear hdec hown6 HD hsz hout6
    generalize W6.drew = W7 at *
    refine wpAny_take (i := 1) (v := ?_) rfl (by kernel_rfl) (by kernel_rfl) (by kernel_rfl) (fun _ _ _ h => h) (Or.inl ⟨by rfl, ?_⟩) ?_
    rotate_left
    · ((intro w; go_simp) <;> with_reducible rfl)
    simp only [Act.put, List.setIfInBounds_toArray, List.set_cons_zero, List.set_cons_succ]
    refine wpAny_ready (rs := [0, 2]) (by kernel_rfl) (by simp) ?_
    refine AllReady.cons rfl (fun K hK => ?_) (AllReady.cons rfl (fun K hK => ?_) AllReady.nil)
    · go_simp
      refine hK _ _ ?_
      clear hK K
      refine wpAny_ready (rs := [2]) (by kernel_rfl) (by simp) ?_
      refine AllReady.cons rfl (fun K hK => ?_) AllReady.nil
      (go_simp; refine HI.out.mono ?_; rintro e W7 ⟨rfl, rfl⟩; go_wp2_with fail)
      try clear hK K
      (try simp only [Act.put, List.setIfInBounds_toArray, List.set_cons_zero, List.set_cons_succ])
      refine wpAny_ready (rs := [3]) (by kernel_rfl) (by simp) ?_
      refine AllReady.cons rfl (fun K hK => ?_) AllReady.nil
      go_simp
      refine hK _ _ ?_
      clear hK K
      (try simp only [Act.put, List.setIfInBounds_toArray, List.set_cons_zero, List.set_cons_succ])
      refine wpAny_ready (rs := [4]) (by kernel_rfl) (by simp) ?_
      refine AllReady.cons rfl (fun K hK => ?_) AllReady.nil
      refine step_append_lies _ rfl _ _ 69 rfl (w.heap.size + 4) 9 i0 (.string ByteArray.empty) 1 16 Tryd.underlying69 hi0 hz0 hz1 hz2 rfl (by decide) _ _ _ rfl (hown7.alloc _) ⟨W7.heap.size, 0, none⟩ 1 1 [.string (decB k)] rfl rfl (cell_one_new _ _ _) (by simp [Value.oneCell']) (by omega) (by simp only [maxLen]; omega) (by omega) (by simp; omega) _ rfl ?_
      intro g' cap' w1 hown' hgrow _ _
      refine hK _ _ ?_
      clear hK K
      have hro : ∀ b, b < w.heap.size + 4 → w1.heap[b]? = W7.heap[b]? := (fun b hb => (hgrow.block b (by simp; omega) (fun e => by have := (hown7.lt b e.symm).1; omega)).trans (Below.heap_alloc W7 _ b (by omega)))
      have o1 : Cells w1 w.heap.size _ _ := (hro _ (by omega)).trans hout7
      have q1 := o1.cell 0
      have q2 := o1.frozen 0
      have HR := Lib.hid hro
      have HG := Lib.hid hgrow
      have O1 := Lib.hid o1
      have HO := Lib.hid hown'
      simp at q1
      clear hro hgrow o1 hown'
      (try simp only [Act.put, List.setIfInBounds_toArray, List.set_cons_zero, List.set_cons_succ])
      refine wpAny_ready (rs := [5]) (by kernel_rfl) (by simp) ?_
      refine AllReady.cons rfl (fun K hK => ?_) AllReady.nil
      go_simp
      refine hK _ _ ?_
      clear hK K
      refine wpAny_done (by kernel_rfl) ?_ _
      (try simp only [Act.put, List.setIfInBounds_toArray, List.set_cons_zero, List.set_cons_succ])
      gi_wp2
      obtain ⟨hlp6, hdf6, hst6, hout6, hlow6⟩ := HD7.out
      have hb8 : ∀ j, j ≠ w.heap.size → (w1.setCell ⟨w.heap.size, 0, none⟩ (.slice (some ⟨g', 0, none⟩) ((labsL a k).length + 1) cap')).heap[j]? = w1.heap[j]? := fun j hj => Below.heap_setCell _ _ _ _ hj
      have l8 := (hb8 (w.heap.size + 3) (by omega)).trans ((HR.out _ (by omega)).trans hlp6)
      refine ⟨l8, rfl, ?_⟩
      rw [HB.out]
      have hlow8 : Below w.heap.size w (w1.setCell ⟨w.heap.size, 0, none⟩ (.slice (some ⟨g', 0, none⟩) ((labsL a k).length + 1) cap')) := ((hlow6.alloc hlow6.size _).grown HG.out (by simp; have := hlow6.size; omega) (fun b e => by have := (hown7.lt b e).1; omega)).setCell (Nat.le_refl _) _
      have o8 := O1.out.set 0 (.slice (some ⟨g', 0, none⟩) ((labsL a k).length + 1) cap')
      have w8 := own_set (B := w.heap.size) HO.out (fun b e => by have := (HO.out.lt b e).1; omega) 0 (.slice (some ⟨g', 0, none⟩) ((labsL a k).length + 1) cap')
      have s8 : Cells (w1.setCell ⟨w.heap.size, 0, none⟩ (.slice (some ⟨g', 0, none⟩) ((labsL a k).length + 1) cap')) (w.heap.size + 1) 28 #[.int .u32 a] := (hb8 _ (by omega)).trans ((HR.out _ (by omega)).trans hst6)
      have d8 := (hb8 (w.heap.size + 2) (by omega)).trans ((HR.out _ (by omega)).trans hdf6)
      clear hb8
      generalize World.setCell _ _ _ = W8 at *
      have p8 : ∀ j, j ≠ w.heap.size + 3 → (W8.putObj (w.heap.size + 3) (.loop r)).heap[j]? = W8.heap[j]? := fun j hj => World.putObj_heap_other hj
      refine ⟨World.putObj_heap_same (Array.getElem?_eq_some_iff.1 l8).1, (p8 _ (by omega)).trans d8, (p8 _ (by omega)).trans s8, ⟨_, (p8 _ (by omega)).trans o8, ?_, fun h => ?_⟩, hlow8.grown (grownBy_putObj' _ _ _) hlow8.size (fun k e => by cases e; omega)⟩
      · rw [HL.out, List.length_append, List.map_append]
        exact ownsRow_putObj w8 _ l8 rfl
      · rw [HL.out] at h; simp at h
    · (go_simp; refine HI.out.mono ?_; rintro e W7 ⟨rfl, rfl⟩; go_wp2_with fail)
      try clear hK K
      (try simp only [Act.put, List.setIfInBounds_toArray, List.set_cons_zero, List.set_cons_succ])
      refine wpAny_ready (rs := [0, 3]) (by kernel_rfl) (by simp) ?_
      refine AllReady.cons rfl (fun K hK => ?_) (AllReady.cons rfl (fun K hK => ?_) AllReady.nil)
      · go_simp
        refine hK _ _ ?_
        clear hK K
        (try simp only [Act.put, List.setIfInBounds_toArray, List.set_cons_zero, List.set_cons_succ])
        refine wpAny_ready (rs := [3]) (by kernel_rfl) (by simp) ?_
        refine AllReady.cons rfl (fun K hK => ?_) AllReady.nil
        go_simp
        refine hK _ _ ?_
        clear hK K
        (try simp only [Act.put, List.setIfInBounds_toArray, List.set_cons_zero, List.set_cons_succ])
        refine wpAny_ready (rs := [4]) (by kernel_rfl) (by simp) ?_
        refine AllReady.cons rfl (fun K hK => ?_) AllReady.nil
        refine step_append_lies _ rfl _ _ 69 rfl (w.heap.size + 4) 9 i0 (.string ByteArray.empty) 1 16 Tryd.underlying69 hi0 hz0 hz1 hz2 rfl (by decide) _ _ _ rfl (hown7.alloc _) ⟨W7.heap.size, 0, none⟩ 1 1 [.string (decB k)] rfl rfl (cell_one_new _ _ _) (by simp [Value.oneCell']) (by omega) (by simp only [maxLen]; omega) (by omega) (by simp; omega) _ rfl ?_
        intro g' cap' w1 hown' hgrow _ _
        refine hK _ _ ?_
        clear hK K
        have hro : ∀ b, b < w.heap.size + 4 → w1.heap[b]? = W7.heap[b]? := (fun b hb => (hgrow.block b (by simp; omega) (fun e => by have := (hown7.lt b e.symm).1; omega)).trans (Below.heap_alloc W7 _ b (by omega)))
        have o1 : Cells w1 w.heap.size _ _ := (hro _ (by omega)).trans hout7
        have q1 := o1.cell 0
        have q2 := o1.frozen 0
        have HR := Lib.hid hro
        have HG := Lib.hid hgrow
        have O1 := Lib.hid o1
        have HO := Lib.hid hown'
        simp at q1
        clear hro hgrow o1 hown'
        (try simp only [Act.put, List.setIfInBounds_toArray, List.set_cons_zero, List.set_cons_succ])
        refine wpAny_ready (rs := [5]) (by kernel_rfl) (by simp) ?_
        refine AllReady.cons rfl (fun K hK => ?_) AllReady.nil
        go_simp
        refine hK _ _ ?_
        clear hK K
        refine wpAny_done (by kernel_rfl) ?_ _
        (try simp only [Act.put, List.setIfInBounds_toArray, List.set_cons_zero, List.set_cons_succ])
        gi_wp2
        obtain ⟨hlp6, hdf6, hst6, hout6, hlow6⟩ := HD7.out
        have hb8 : ∀ j, j ≠ w.heap.size → (w1.setCell ⟨w.heap.size, 0, none⟩ (.slice (some ⟨g', 0, none⟩) ((labsL a k).length + 1) cap')).heap[j]? = w1.heap[j]? := fun j hj => Below.heap_setCell _ _ _ _ hj
        have l8 := (hb8 (w.heap.size + 3) (by omega)).trans ((HR.out _ (by omega)).trans hlp6)
        refine ⟨l8, rfl, ?_⟩
        rw [HB.out]
        have hlow8 : Below w.heap.size w (w1.setCell ⟨w.heap.size, 0, none⟩ (.slice (some ⟨g', 0, none⟩) ((labsL a k).length + 1) cap')) := ((hlow6.alloc hlow6.size _).grown HG.out (by simp; have := hlow6.size; omega) (fun b e => by have := (hown7.lt b e).1; omega)).setCell (Nat.le_refl _) _
        have o8 := O1.out.set 0 (.slice (some ⟨g', 0, none⟩) ((labsL a k).length + 1) cap')
        have w8 := own_set (B := w.heap.size) HO.out (fun b e => by have := (HO.out.lt b e).1; omega) 0 (.slice (some ⟨g', 0, none⟩) ((labsL a k).length + 1) cap')
        have s8 : Cells (w1.setCell ⟨w.heap.size, 0, none⟩ (.slice (some ⟨g', 0, none⟩) ((labsL a k).length + 1) cap')) (w.heap.size + 1) 28 #[.int .u32 a] := (hb8 _ (by omega)).trans ((HR.out _ (by omega)).trans hst6)
        have d8 := (hb8 (w.heap.size + 2) (by omega)).trans ((HR.out _ (by omega)).trans hdf6)
        clear hb8
        generalize World.setCell _ _ _ = W8 at *
        have p8 : ∀ j, j ≠ w.heap.size + 3 → (W8.putObj (w.heap.size + 3) (.loop r)).heap[j]? = W8.heap[j]? := fun j hj => World.putObj_heap_other hj
        refine ⟨World.putObj_heap_same (Array.getElem?_eq_some_iff.1 l8).1, (p8 _ (by omega)).trans d8, (p8 _ (by omega)).trans s8, ⟨_, (p8 _ (by omega)).trans o8, ?_, fun h => ?_⟩, hlow8.grown (grownBy_putObj' _ _ _) hlow8.size (fun k e => by cases e; omega)⟩
        · rw [HL.out, List.length_append, List.map_append]
          exact ownsRow_putObj w8 _ l8 rfl
        · rw [HL.out] at h; simp at h
      · go_simp
        refine hK _ _ ?_
        clear hK K
        have q1b : ∀ o, (W7.alloc o).cell? ⟨w.heap.size, 0, none⟩ = some v := fun o => (hout7.alloc o).cell 0
        (try simp only [Act.put, List.setIfInBounds_toArray, List.set_cons_zero, List.set_cons_succ])
        refine wpAny_ready (rs := [0]) (by kernel_rfl) (by simp) ?_
        refine AllReady.cons rfl (fun K hK => ?_) AllReady.nil
        go_simp
        refine hK _ _ ?_
        clear hK K
        clear q1b
        (try simp only [Act.put, List.setIfInBounds_toArray, List.set_cons_zero, List.set_cons_succ])
        refine wpAny_ready (rs := [4]) (by kernel_rfl) (by simp) ?_
        refine AllReady.cons rfl (fun K hK => ?_) AllReady.nil
        refine step_append_lies _ rfl _ _ 69 rfl (w.heap.size + 4) 9 i0 (.string ByteArray.empty) 1 16 Tryd.underlying69 hi0 hz0 hz1 hz2 rfl (by decide) _ _ _ rfl (hown7.alloc _) ⟨W7.heap.size, 0, none⟩ 1 1 [.string (decB k)] rfl rfl (cell_one_new _ _ _) (by simp [Value.oneCell']) (by omega) (by simp only [maxLen]; omega) (by omega) (by simp; omega) _ rfl ?_
        intro g' cap' w1 hown' hgrow _ _
        refine hK _ _ ?_
        clear hK K
        have hro : ∀ b, b < w.heap.size + 4 → w1.heap[b]? = W7.heap[b]? := (fun b hb => (hgrow.block b (by simp; omega) (fun e => by have := (hown7.lt b e.symm).1; omega)).trans (Below.heap_alloc W7 _ b (by omega)))
        have o1 : Cells w1 w.heap.size _ _ := (hro _ (by omega)).trans hout7
        have q1 := o1.cell 0
        have q2 := o1.frozen 0
        have HR := Lib.hid hro
        have HG := Lib.hid hgrow
        have O1 := Lib.hid o1
        have HO := Lib.hid hown'
        simp at q1
        clear hro hgrow o1 hown'
        (try simp only [Act.put, List.setIfInBounds_toArray, List.set_cons_zero, List.set_cons_succ])
        refine wpAny_ready (rs := [5]) (by kernel_rfl) (by simp) ?_
        refine AllReady.cons rfl (fun K hK => ?_) AllReady.nil
        go_simp
        refine hK _ _ ?_
        clear hK K
        refine wpAny_done (by kernel_rfl) ?_ _
        (try simp only [Act.put, List.setIfInBounds_toArray, List.set_cons_zero, List.set_cons_succ])
        gi_wp2
        obtain ⟨hlp6, hdf6, hst6, hout6, hlow6⟩ := HD7.out
        have hb8 : ∀ j, j ≠ w.heap.size → (w1.setCell ⟨w.heap.size, 0, none⟩ (.slice (some ⟨g', 0, none⟩) ((labsL a k).length + 1) cap')).heap[j]? = w1.heap[j]? := fun j hj => Below.heap_setCell _ _ _ _ hj
        have l8 := (hb8 (w.heap.size + 3) (by omega)).trans ((HR.out _ (by omega)).trans hlp6)
        refine ⟨l8, rfl, ?_⟩
        rw [HB.out]
        have hlow8 : Below w.heap.size w (w1.setCell ⟨w.heap.size, 0, none⟩ (.slice (some ⟨g', 0, none⟩) ((labsL a k).length + 1) cap')) := ((hlow6.alloc hlow6.size _).grown HG.out (by simp; have := hlow6.size; omega) (fun b e => by have := (hown7.lt b e).1; omega)).setCell (Nat.le_refl _) _
        have o8 := O1.out.set 0 (.slice (some ⟨g', 0, none⟩) ((labsL a k).length + 1) cap')
        have w8 := own_set (B := w.heap.size) HO.out (fun b e => by have := (HO.out.lt b e).1; omega) 0 (.slice (some ⟨g', 0, none⟩) ((labsL a k).length + 1) cap')
        have s8 : Cells (w1.setCell ⟨w.heap.size, 0, none⟩ (.slice (some ⟨g', 0, none⟩) ((labsL a k).length + 1) cap')) (w.heap.size + 1) 28 #[.int .u32 a] := (hb8 _ (by omega)).trans ((HR.out _ (by omega)).trans hst6)
        have d8 := (hb8 (w.heap.size + 2) (by omega)).trans ((HR.out _ (by omega)).trans hdf6)
        clear hb8
        generalize World.setCell _ _ _ = W8 at *
        have p8 : ∀ j, j ≠ w.heap.size + 3 → (W8.putObj (w.heap.size + 3) (.loop r)).heap[j]? = W8.heap[j]? := fun j hj => World.putObj_heap_other hj
        refine ⟨World.putObj_heap_same (Array.getElem?_eq_some_iff.1 l8).1, (p8 _ (by omega)).trans d8, (p8 _ (by omega)).trans s8, ⟨_, (p8 _ (by omega)).trans o8, ?_, fun h => ?_⟩, hlow8.grown (grownBy_putObj' _ _ _) hlow8.size (fun k e => by cases e; omega)⟩
        · rw [HL.out, List.length_append, List.map_append]
          exact ownsRow_putObj w8 _ l8 rfl
        · rw [HL.out] at h; simp at h
  rintro e w' ⟨rfl, h⟩
  refine ⟨_, _, rfl, h.lp, by rw [hr]; simp, ?_⟩
  have hp : r.pending = none := by rw [hr]
  simp only [hp]
  obtain ⟨hlp, hdf, hst, ⟨v, hout, hown, hnil⟩, hlow⟩ := h
  have p8 : ∀ j, j ≠ w.heap.size + 2 + 1 → (w'.putObj (w.heap.size + 2 + 1) (.loop { r with state := .exhausted })).heap[j]? = w'.heap[j]? := fun j hj => World.putObj_heap_other hj
  have hdf8 := (p8 (w.heap.size + 2) (by omega)).trans hdf
  have hout8 : Cells (w'.putObj (w.heap.size + 2 + 1) (.loop { r with state := .exhausted })) w.heap.size _ _ := (p8 _ (by omega)).trans hout
  have hown8 : (w'.putObj (w.heap.size + 2 + 1) (.loop { r with state := .exhausted })).ownsRow (w.heap.size + 4) 9 1 v (labsL a 16).length ((labsL a 16).map (fun n => Value.string (decB n))) := ownsRow_putObj hown _ hlp rfl
  have hlow8 : Below w.heap.size w (w'.putObj (w.heap.size + 2 + 1) (.loop { r with state := .exhausted })) := hlow.grown (grownBy_putObj' _ _ _) hlow.size (fun k e => by cases e; omega)
  simp only [hp] at hdf8 hout8 hown8 hlow8
  clear p8 hlp hdf hst hout hown hlow hr hp
  generalize World.putObj _ _ _ = W8 at *
  have D8 := Lib.hid hdf8
  have q1 := hout8.cell 0
  simp at q1
  have N8 := Lib.hid hnil
  have L8 := Lib.hid hlow8
  have hlen := labsL_len a 16
  have hmem := labsL_mem a 16
  obtain ⟨LL, hLL⟩ : ∃ LL, labsL a 16 = LL := ⟨_, rfl⟩
  rw [hLL] at hnil hown8 hlen hmem
  have HLL := Lib.hid hLL
  clear hLL
  by_cases h0 : LL = []
  · have hv := hnil h0
    subst hv
    have HT := Lib.hid (show textL (LL) = ⟨#[45]⟩ from if_pos h0)
    clear hdf8 hnil hown8 hlow8 hout8 h0 hmem
    gi_wp2
    refine ⟨by simp, .inl ⟨_, _, rfl, run_takeDeferred D8.out, ?_⟩⟩
    refine ⟨_, results_tmp rfl _ _ _, ?_, L8.out.grown (grownBy_putObj' _ _ _) L8.out.size (fun k e => by cases e; omega)⟩
    rw [HLL.out, HT.out]; rfl
  · have hpos : 0 < (LL).length := List.length_pos_iff.2 h0
    obtain ⟨g, cap, rfl⟩ : ∃ g cap, v = .slice (some ⟨g, 0, none⟩) (LL).length cap := by
      rcases hown8.2 with ⟨_, hz⟩ | ⟨g, cap, _, hv, _⟩
      · omega
      · exact ⟨g, cap, hv⟩
    have HT := Lib.hid (show textL (LL) = ⟨(Lib.join (((LL).map decB).map (·.data.toList)) [32]).toArray⟩ from if_neg h0)
    have hj := Tryd.strings_Join g 0 cap ((LL).map decB) ⟨#[32]⟩ W8 (fun j x hx => by
        have hjl : j < (LL).length := by have := (List.getElem?_eq_some_iff.1 hx).1; simpa using this
        rw [Nat.zero_add, hown8.cellAt j (by omega)]
        rw [List.getElem?_map] at hx ⊢
        obtain ⟨y, hy, rfl⟩ := Option.map_eq_some_iff.1 hx
        rw [hy]; rfl) (hown8.lt g rfl).2 (by rw [List.length_map]; omega) (by
        rw [List.length_map]
        rcases hown8.2 with ⟨hz, _⟩ | ⟨_, _, _, hv, _, _, h1, _⟩
        · cases hz
        · cases hv; exact h1) (by have := join_len2 (LL) (fun x hx => by have := hmem x hx; omega); show (Lib.join (((LL).map decB).map (·.data.toList)) [32]).length ≤ _; omega)
    rw [List.length_map] at hj
    have hz : ((LL).length == 0) = false := by rw [beq_eq_false_iff_ne]; omega
    have HJ := Lib.hid hj
    clear hdf8 hnil hown8 hlow8 hout8 h0 hmem hj
    gi_wp2_with fail
    refine ⟨trivial, (callsIn_wide.2 HJ.out).mono ?_⟩
    rintro e W9 ⟨rfl, hb9⟩
    have D9 := Lib.hid ((hb9.block (w.heap.size + 2) (Array.getElem?_eq_some_iff.1 D8.out).1).trans D8.out)
    have L9 := Lib.hid (L8.out.trans (hb9.mono L8.out.size))
    clear hb9
    gi_wp2
    refine ⟨by simp, .inl ⟨_, _, rfl, run_takeDeferred D9.out, ?_⟩⟩
    refine ⟨_, results_tmp rfl _ _ _, ?_, L9.out.grown (grownBy_putObj' _ _ _) L9.out.size (fun k e => by cases e; omega)⟩
    rw [HLL.out, HT.out, List.map_map]; rfl
end Go.Proofs.YtbleilbphadehaaDoor
