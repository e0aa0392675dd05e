/- Labels of a set: contract. -/
import Derived.Test.YtbleilbphadehaaDoorNi
import Derived.Test.YtbleilbphadehaaDoorNj
namespace Go.Proofs.YtbleilbphadehaaDoor
open Go.RowKit Go.Shelf
attribute [local go_sem] Oper.semAt_some

theorem info_int : (Tryd.prog.info? 3).map (fun i => (i.zero, i.size, i.bytes)) = some (some (.int .i64 0), 1, 8) := by kernel_rfl
set_option maxRecDepth 100000 in
set_option maxHeartbeats 2000000 in
theorem cLabels {a : Nat} (ha : a < 4294967296) (w : World) : Calls Tryd.prog 14 #[.int .u32 a] w fun e w' => ∃ v, e = .returned v ∧ w'.ownsRow w.heap.size 3 1 v (labsL a 16).length ((labsL a 16).map (Value.int .i64)) ∧ (labsL a 16 = [] → v = .slice none 0 0) ∧ Below w.heap.size w w' := by
  obtain ⟨i0, hi0, hz0, hz1, hz2⟩ := info_parts info_int
  rw [← callsIn_wide (n := 1)]
  refine callsIn_of_wp_marks Tryd.func14 rfl trivial ?_
  simp only [Tryd.ntmps14, List.size_toArray, List.length_cons, List.length_nil, Nat.reduceAdd, Nat.reduceSub, Array.replicate_succ, Array.replicate_zero, List.push_toArray, List.append_toArray, List.nil_append, List.cons_append]
  gi_wp2_with fail
  refine ⟨trivial, (callsIn_wide.2 (cAllOf (a : Int) _)).mono ?_⟩
  rintro e W4 ⟨rfl, e4⟩
  have s4 : W4.heap.size = w.heap.size + 2 := by rw [← e4]; simp
  gi_wp2_with fail
  refine it_range rfl (enters_of Tryd.func40 (by kernel_rfl) rfl) ?_
  intro fn r hr
  have start : JL w a r 35 3 (Value.int .i64) 0 ((W4.alloc (.deferred (some []))).alloc (.loop r)) := by rw [← e4]; exact JL.start
  rw [s4]
  clear e4
  generalize (W4.alloc _).alloc _ = W5 at *
  clear s4
  refine (cAll1 ha (w.heap.size + 2 + 1) (w.heap.size + 1) (JL w a r 35 3 (Value.int .i64)) ?hJ ?hN ?hY _ start).mono ?_
  case hJ => exact fun k W h => h.st.cell 0
  case hN => exact fun k W h _ ht => h.skip ht
  case hY =>
    intro k W h hk ht
    refine it_round (r := r) h.lp (by rw [hr]) (by rw [hr]; rfl) ?_
    obtain ⟨hlp, hdf, hst, ⟨v, hout, hown, hnil⟩, hlow⟩ := h
    have ha' := congrArg Loop.assign hr
    have hb' := congrArg Loop.body hr
    have ht' := congrArg Loop.tmps hr
    have hps := congrArg Loop.params hr
    simp only at ha' hb' ht' hps
    intro rb hrb
    have hbk := it_back hrb (by rw [hr]) (by rw [hr])
    have HB := Lib.hid hbk
    clear hr hbk hrb
    rw [ha', hb', ht', hps]
    clear ha' hb' ht' hps
    gi_wp2
    refine ⟨_, rfl, hlp, ?_⟩
    have hne : ∀ j, j ≠ w.heap.size + 3 → (W.putObj (w.heap.size + 3) (.loop rb)).heap[j]? = W.heap[j]? := fun j hj => World.putObj_heap_other hj
    have hlow6 : Below w.heap.size w (W.putObj (w.heap.size + 3) (.loop rb)) := hlow.grown (grownBy_putObj' _ _ _) hlow.size (fun k e => by cases e; omega)
    have hlp6 : (W.putObj (w.heap.size + 3) (.loop rb)).heap[w.heap.size + 3]? = some (.loop rb) := World.putObj_heap_same (Array.getElem?_eq_some_iff.1 hlp).1
    have hdf6 := (hne (w.heap.size + 2) (by omega)).trans hdf
    have hst6 : Cells (W.putObj (w.heap.size + 3) (.loop rb)) (w.heap.size + 1) _ _ := hst.put _ (by omega)
    have hout6 : Cells (W.putObj (w.heap.size + 3) (.loop rb)) w.heap.size _ _ := hout.put _ (by omega)
    have hown6 : (W.putObj (w.heap.size + 3) (.loop rb)).ownsRow (w.heap.size + 4) 3 1 v (labsL a k).length ((labsL a k).map (Value.int .i64)) := ownsRow_putObj hown _ hlp rfl
    have hsz : w.heap.size + 4 ≤ (W.putObj (w.heap.size + 3) (.loop rb)).heap.size := by have := (Array.getElem?_eq_some_iff.1 hlp6).1; omega
    clear hlp hdf hst hout hown hlow hne
    generalize World.putObj _ _ _ = W6 at *
    have q1 := hout6.cell 0
    simp at q1
    have hlen := labsL_len a k
    have HL := Lib.hid (show labsL a (k + 1) = labsL a k ++ [(k : Int)] by simp [labsL, ht])
    have HD := Lib.hid (And.intro hlp6 (And.intro hdf6 (And.intro hst6 (And.intro hout6 hlow6))))
    clear ht hnil hlp6 hdf6 hst6 hlow6
    gi_wp2_with (gi_at_builtin; refine wpListIn_append_own _ rfl _ _ 35 rfl (w.heap.size + 4) 3 i0 (.int .i64 0) 1 8 Tryd.underlying35 hi0 hz0 hz1 hz2 rfl (by decide) _ _ _ rfl (hown6.alloc _) ⟨W6.heap.size, 0, none⟩ 1 1 [.int .i64 k] rfl rfl (cell_one_new _ _ _) (by simp [Value.oneCell']) (by simp only [maxLen]; omega) (by omega) (by simp; omega) ?_; intro v' w1 hown' hgrow _; obtain ⟨g', cap', rfl⟩ := ownsRow_succ hown'; have hro : ∀ b, b < w.heap.size + 4 → w1.heap[b]? = W6.heap[b]? := (fun b hb => (hgrow.block b (by simp; omega) (fun e => by have := (hown6.lt b e.symm).1; omega)).trans (Below.heap_alloc W6 _ b (by omega))); have o1 : Cells w1 w.heap.size _ _ := (hro _ (by omega)).trans hout6; have q1 := o1.cell 0; have q2 := o1.frozen 0; have HR := Lib.hid hro; have HG := Lib.hid hgrow; have O1 := Lib.hid o1; have HO := Lib.hid hown'; simp at q1; clear hro hgrow o1 hown')
    obtain ⟨hlp6, hdf6, hst6, hout6, hlow6⟩ := HD.out
    have hb8 : ∀ j, j ≠ w.heap.size → (w1.setCell ⟨w.heap.size, 0, none⟩ (.slice (some ⟨g', 0, none⟩) ((labsL a k).length + 1) cap')).heap[j]? = w1.heap[j]? := fun j hj => Below.heap_setCell _ _ _ _ hj
    have l8 := (hb8 (w.heap.size + 3) (by omega)).trans ((HR.out _ (by omega)).trans hlp6)
    refine ⟨l8, rfl, ?_⟩
    rw [HB.out]
    have hlow8 : Below w.heap.size w (w1.setCell ⟨w.heap.size, 0, none⟩ (.slice (some ⟨g', 0, none⟩) ((labsL a k).length + 1) cap')) := ((hlow6.alloc hlow6.size _).grown HG.out (by simp; have := hlow6.size; omega) (fun b e => by have := (hown6.lt b e).1; omega)).setCell (Nat.le_refl _) _
    have o8 := O1.out.set 0 (.slice (some ⟨g', 0, none⟩) ((labsL a k).length + 1) cap')
    have w8 := own_set (B := w.heap.size) HO.out (fun b e => by have := (HO.out.lt b e).1; omega) 0 (.slice (some ⟨g', 0, none⟩) ((labsL a k).length + 1) cap')
    have s8 : Cells (w1.setCell ⟨w.heap.size, 0, none⟩ (.slice (some ⟨g', 0, none⟩) ((labsL a k).length + 1) cap')) (w.heap.size + 1) 28 #[.int .u32 a] := (hb8 _ (by omega)).trans ((HR.out _ (by omega)).trans hst6)
    have d8 := (hb8 (w.heap.size + 2) (by omega)).trans ((HR.out _ (by omega)).trans hdf6)
    clear hb8
    generalize World.setCell _ _ _ = W8 at *
    have p8 : ∀ j, j ≠ w.heap.size + 3 → (W8.putObj (w.heap.size + 3) (.loop r)).heap[j]? = W8.heap[j]? := fun j hj => World.putObj_heap_other hj
    refine ⟨World.putObj_heap_same (Array.getElem?_eq_some_iff.1 l8).1, (p8 _ (by omega)).trans d8, (p8 _ (by omega)).trans s8, ⟨_, (p8 _ (by omega)).trans o8, ?_, fun h => ?_⟩, hlow8.grown (grownBy_putObj' _ _ _) hlow8.size (fun k e => by cases e; omega)⟩
    · rw [HL.out, List.length_append, List.map_append]
      exact ownsRow_putObj w8 _ l8 rfl
    · rw [HL.out] at h; simp at h
  rintro e w' ⟨rfl, h⟩
  refine ⟨_, _, rfl, h.lp, by rw [hr]; simp, ?_⟩
  have hp : r.pending = none := by rw [hr]
  simp only [hp]
  obtain ⟨hlp, hdf, hst, ⟨v, hout, hown, hnil⟩, hlow⟩ := h
  have p8 : ∀ j, j ≠ w.heap.size + 2 + 1 → (w'.putObj (w.heap.size + 2 + 1) (.loop { r with state := .exhausted })).heap[j]? = w'.heap[j]? := fun j hj => World.putObj_heap_other hj
  have hdf8 := (p8 (w.heap.size + 2) (by omega)).trans hdf
  have hout8 : Cells (w'.putObj (w.heap.size + 2 + 1) (.loop { r with state := .exhausted })) w.heap.size _ _ := (p8 _ (by omega)).trans hout
  have hown8 : (w'.putObj (w.heap.size + 2 + 1) (.loop { r with state := .exhausted })).ownsRow (w.heap.size + 4) 3 1 v (labsL a 16).length ((labsL a 16).map (Value.int .i64)) := ownsRow_putObj hown _ hlp rfl
  have hlow8 : Below w.heap.size w (w'.putObj (w.heap.size + 2 + 1) (.loop { r with state := .exhausted })) := hlow.grown (grownBy_putObj' _ _ _) hlow.size (fun k e => by cases e; omega)
  simp only [hp] at hdf8 hout8 hown8 hlow8
  clear p8 hlp hdf hst hout hown hlow hr hp
  generalize World.putObj _ _ _ = W8 at *
  have D8 := Lib.hid hdf8
  have q1 := hout8.cell 0
  simp at q1
  have N8 := Lib.hid hnil
  have O8 := Lib.hid hown8
  have L8 := Lib.hid hlow8
  clear hdf8 hnil hown8 hlow8 hout8
  gi_wp2
  refine ⟨by simp, .inl ⟨_, _, rfl, run_takeDeferred D8.out, ?_⟩⟩
  have p9 : ∀ j, j ≠ w.heap.size + 2 → (W8.putObj (w.heap.size + 2) (.deferred none)).heap[j]? = W8.heap[j]? := fun j hj => World.putObj_heap_other hj
  refine ⟨_, results_tmp rfl _ _ _, v, rfl, own_base (ownsRow_putObj O8.out _ D8.out rfl) (by omega), N8.out, L8.out.grown (grownBy_putObj' _ _ _) L8.out.size (fun k e => by cases e; omega)⟩
end Go.Proofs.YtbleilbphadehaaDoor
