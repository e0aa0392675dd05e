/- An instruction's line that names a place: contract. -/
import Derived.Test.YtbfmlmnhdogojaaGreatDoorKh
namespace Go.Proofs.YtbfmlmnhdogojaaGreatDoor
open Go.RowKit Go.Shelf

section
variable {W : World} {R pb : Nat} {vb vn vh : Value} {line : Int} {bs : List Int} {ns : List (ByteArray × Int)} {hs : List HoleV} {s : ByteArray}
set_option maxRecDepth 100000 in
set_option maxHeartbeats 2000000 in
theorem cInstM {op : Int} {rest : ByteArray} {P : List ByteArray} (hG : Gl W) (h : PS W R pb vb vn vh line bs ns hs) (hop : 1 ≤ op ∧ op ≤ 28) (hs' : s.size < 4294967281) (hr' : rest.size < 4294967281) (hcut : CutsTo s (nameL op) rest) (hok : PartsOk (usesL op) rest P)
    {st : ByteArray × Int × Int} (hst : instSt (formsL (usesL op)) P P.length = st) (hnm : nameB st.1 = true) (hlen : bs.length + 4 ≤ 2048) (hhl : hs.length ≤ 100000) (hR : R ≤ W.heap.size) :
    Calls Tryz.prog 72 #[.pointer (some ⟨pb, 0, none⟩), .string s] W fun e W' => e = .returned (.tuple #[]) ∧ ∃ ib vb' vn' vh', PS W' R pb vb' vn' vh' line (bs ++ fourI 0) ns (hs ++ [(⟨line, bs.length, some ib, st.1⟩ : HoleV)]) ∧ KeptBut (POwn pb vb vn vh) W W' ∧ (∀ k, POwn pb vb' vn' vh' k → POwn pb vb vn vh k ∨ W.heap.size ≤ k) ∧ W.heap.size ≤ ib ∧ Cells W' ib 69 #[.int .i64 op, .int .i64 st.2.1, .int .i64 st.2.2, .int .i64 0] ∧ ¬ POwn pb vb' vn' vh' ib := by
  have HST := Lib.hid hst
  have HNM := Lib.hid hnm
  clear hst hnm
  have hu0 : usesL op ≠ 0 := by rcases hok.hu with e | e | e <;> rw [e] <;> decide
  have HG := Lib.hid hG
  have HP := Lib.hid h
  have HR := Lib.hid hR
  have HS := Lib.hid hs'
  have HCUT := Lib.hid hcut
  have HOK := Lib.hid hok
  have HR2 := Lib.hid hr'
  clear hG h hR hs' hcut hok hr'
  go_enter Tryz.func72, Tryz.ntmps72
  go_wp2_with fail
  refine (cCut HG.out HS.out HCUT.out).mono ?_
  rintro e W1 ⟨rfl, hb⟩
  have HW1 := Lib.hid hb
  clear hb
  go_wp2_with fail
  refine (cNumber_in hop _).mono ?_
  rintro e W2 ⟨rfl, hb⟩
  have HW2 := Lib.hid (HW1.out.trans (hb.mono HW1.out.size))
  clear hb HW1
  go_wp2_with fail
  refine (cMust _ _ _).mono ?_
  rintro e w' ⟨rfl, rfl⟩
  have hma := Lib.hid (may0 hop)
  have HTB := Lib.hid (HG.out.b HW2.out).tb
  go_wp2_with fail
  refine (cText_in hma.out HTB.out).mono ?_
  rintro e W3 ⟨rfl, hb⟩
  have HW3 := Lib.hid (HW2.out.trans (hb.mono HW2.out.size))
  clear hb HW2 HTB hma
  go_wp2_with fail
  refine (cMust _ _ _).mono ?_
  rintro e w' ⟨rfl, rfl⟩
  have HTS := Lib.hid (Nat.lt_trans (told_size hop) (show 100 < 4294967281 by decide))
  go_wp2_with fail
  refine (cCut (HG.out.b HW3.out) HTS.out (told_cut hop hu0)).mono ?_
  rintro e W4 ⟨rfl, hb⟩
  have HW4 := Lib.hid (HW3.out.trans (hb.mono HW3.out.size))
  clear hb HW3 HTS
  go_wp2_with fail
  refine (cMust _ _ _).mono ?_
  rintro e w' ⟨rfl, rfl⟩
  have HI := Lib.hid (Cells.new W4 69 #[.int .i64 op, .int .i64 0, .int .i64 0, .int .i64 0])
  have HW5 := Lib.hid (HW4.out.alloc HW4.out.size (.cells #[.int .i64 op, .int .i64 0, .int .i64 0, .int .i64 0] 69))
  have s4 : (W4.alloc (.cells #[.int .i64 op, .int .i64 0, .int .i64 0, .int .i64 0] 69)).heap.size = W4.heap.size + 1 := World.size_alloc _ _
  go_wp2_with fail
  generalize World.alloc _ _ = W5 at *
  refine (cComma (HG.out.b HW5.out) HR2.out HOK.out.spl HOK.out.cnt).mono ?_
  rintro e w' ⟨rfl, rfl⟩
  have HCP := Lib.hid (Cells.new W5 9 (P.map Value.string).toArray)
  have HI6 := Lib.hid (HI.out.alloc (.cells (P.map Value.string).toArray 9))
  have HW6 := Lib.hid (HW5.out.alloc HW5.out.size (.cells (P.map Value.string).toArray 9))
  have s6 : (W5.alloc (.cells (P.map Value.string).toArray 9)).heap.size = W4.heap.size + 1 + 1 := by rw [World.size_alloc, s4]
  rw [s4] at HCP ⊢
  clear HI HW5 HS HCUT
  go_wp2_with fail
  generalize World.alloc _ _ = W6 at *
  refine (cComma (HG.out.b HW6.out) (Nat.lt_trans (form_size HOK.out.hu) (show 100 < 4294967281 by decide)) (form_split HOK.out.hu).1 (form_split HOK.out.hu).2).mono ?_
  rintro e w' ⟨rfl, rfl⟩
  have HCF := Lib.hid (Cells.new W6 9 ((formsL (usesL op)).map Value.string).toArray)
  have HCP7 := Lib.hid (HCP.out.alloc (.cells ((formsL (usesL op)).map Value.string).toArray 9))
  have HI7 := Lib.hid (HI6.out.alloc (.cells ((formsL (usesL op)).map Value.string).toArray 9))
  have HW7 := Lib.hid (HW6.out.alloc HW6.out.size (.cells ((formsL (usesL op)).map Value.string).toArray 9))
  have s7 : (W6.alloc (.cells ((formsL (usesL op)).map Value.string).toArray 9)).heap.size = W4.heap.size + 1 + 1 + 1 := by rw [World.size_alloc, s6]
  rw [s6] at HCF ⊢
  have hlF : (formsL (usesL op)).length = P.length := HOK.out.len.symm
  have HOKB := HOK.out.len
  rw [hlF] at HOKB ⊢
  generalize hF : formsL (usesL op) = F at *
  clear HI6 HCP HW6 HOKB
  go_wp2_with fail
  generalize World.alloc _ _ = W7 at *
  refine (cMust _ _ _).mono ?_
  rintro e w' ⟨rfl, rfl⟩
  have HREG := Lib.hid HOK.out.regs
  rw [hF] at HREG
  have hFm : ∀ f ∈ F, f = ⟨#[114, 48]⟩ ∨ f = ⟨#[48]⟩ := fun f hf => forms_two HOK.out.hu (hF ▸ hf)
  have HFM := Lib.hid hFm
  have HLF := Lib.hid hlF
  have HFF := Lib.hid hF
  have hib : W.heap.size ≤ W4.heap.size := HW4.out.size
  have hP0 : 0 < P.length := by have := HOK.out.cnt; omega
  clear hFm hF hlF s4 s6
  generalize W4.heap.size = ib at *
  have hP1 : P.length ≤ 3 := by rw [HOK.out.len]; exact txL_len _ _ _ _ _
  go_wp2_with fail
  go_loopw [19, 87] (fun im i wr => ∃ k : Nat, k ≤ P.length ∧ i = .int .i64 k ∧ im = .string (instSt F P k).1 ∧ Cells wr ib 69 #[.int .i64 op, .int .i64 (instSt F P k).2.1, .int .i64 (instSt F P k).2.2, .int .i64 0] ∧ KeptBut (fun b => b = ib) W7 wr) (fun _ i _ => P.length - (intOf i).toNat)
  case atStart => exact ⟨0, Nat.zero_le _, rfl, rfl, HI7.out, KeptBut.refl _ _⟩
  case round =>
    obtain ⟨k, hk, rfl, rfl, hi, hkb⟩ := hrel
    by_cases hlt : k < P.length
    · obtain ⟨x, hx⟩ : ∃ x, P[k]? = some x := ⟨_, List.getElem?_eq_getElem hlt⟩
      obtain ⟨f, hf⟩ : ∃ f, F[k]? = some f := ⟨_, List.getElem?_eq_getElem (by rw [HLF.out]; exact hlt)⟩
      have cx := cells_str (hkb.cells HCP7.out (by omega)) hx
      have cf := cells_str (hkb.cells HCF.out (by omega)) hf
      have fi1 := hi.frozen 1
      have fi2 := hi.frozen 2
      have qi1 := (hi.cell 1).trans (show _ = some (Value.int .i64 (instSt F P k).2.1) from rfl)
      have qi2 := (hi.cell 2).trans (show _ = some (Value.int .i64 (instSt F P k).2.2) from rfl)
      have HX := Lib.hid hx
      have HI := Lib.hid hi
      have HKB := Lib.hid hkb
      have HFK := Lib.hid hf
      clear hx hi hkb hf
      rcases HFM.out f (List.mem_of_getElem? HFK.out) with rfl | rfl
      · have hr := HREG.out k x HFK.out HX.out
        by_cases hk0 : k = 0
        · subst hk0
          have HE := Lib.hid (instSt_a HFK.out HX.out)
          go_wp2_with fail
          refine (cRegister x _).mono ?_
          rintro e w' ⟨rfl, rfl⟩
          go_wp2_with fail
          refine (cMust _ _ _).mono ?_
          rintro e w' ⟨rfl, rfl⟩
          go_wp2
          go_roundw
          case rel => exact ⟨1, by omega, rfl, by rw [HE.out]; rfl, by rw [HE.out]; exact HI.out.set 1 _, HKB.out.trans (KeptBut.set (S := fun b => b = ib) rfl 1 _)⟩
          case measure => simp [intOf]; omega
        · have HE := Lib.hid (instSt_b hk0 HFK.out HX.out)
          go_wp2_with fail
          refine (cRegister x _).mono ?_
          rintro e w' ⟨rfl, rfl⟩
          go_wp2_with fail
          refine (cMust _ _ _).mono ?_
          rintro e w' ⟨rfl, rfl⟩
          go_wp2
          go_roundw
          case rel => exact ⟨k + 1, by omega, by go_num, by rw [HE.out], by rw [HE.out]; exact HI.out.set 2 _, HKB.out.trans (KeptBut.set (S := fun b => b = ib) rfl 2 _)⟩
          case measure => simp [intOf]; omega
      · have HE := Lib.hid (instSt_n HFK.out HX.out)
        go_wp2_with fail
        refine (cRegister x _).mono ?_
        rintro e w' ⟨rfl, rfl⟩
        go_wp2
        go_roundw
        case rel => exact ⟨k + 1, by omega, by go_num, by rw [HE.out], by rw [HE.out]; exact HI.out, HKB.out⟩
        case measure => simp [intOf]; omega
    · obtain rfl : k = P.length := by omega
      have HI := Lib.hid hi
      have HW8 := Lib.hid (HW7.out.trans (hkb.below (n := W.heap.size) (fun q e => by omega) HW7.out.size))
      have HCFr := Lib.hid (hkb.cells HCF.out (by omega))
      clear hi hkb hk hlt HI7 HCP7 HREG HFM HLF HW7
      rw [HST.out] at HI ⊢
      have hm := HNM.out
      have q0 := (HI.out.cell 0).trans (show _ = some (Value.int .i64 op) from rfl)
      go_wp2_with fail
      refine (cNm st.1 wr).mono ?_
      rintro e W9 ⟨rfl, hb⟩
      rw [hm]
      have HW9 := Lib.hid (HW8.out.trans (hb.mono HW8.out.size))
      have HI9 := Lib.hid (HI.out.below hb HI.out.lt)
      clear hb HW8 HI HCF HCFr q0
      have q0 := (HI9.out.cell 0).trans (show _ = some (Value.int .i64 op) from rfl)
      have q1 := (HI9.out.cell 1).trans (show _ = some (Value.int .i64 st.2.1) from rfl)
      have q2 := (HI9.out.cell 2).trans (show _ = some (Value.int .i64 st.2.2) from rfl)
      have q3 := (HI9.out.cell 3).trans (show _ = some (Value.int .i64 0) from rfl)
      have HW10 := Lib.hid (HW9.out.alloc HW9.out.size (.cells #[.int .i64 op, .int .i64 st.2.1, .int .i64 st.2.2, .int .i64 0] 69))
      have HJ10 := Lib.hid (Cells.new W9 69 #[.int .i64 op, .int .i64 st.2.1, .int .i64 st.2.2, .int .i64 0])
      have s10 : (W9.alloc (.cells #[.int .i64 op, .int .i64 st.2.1, .int .i64 st.2.2, .int .i64 0] 69)).heap.size = W9.heap.size + 1 := World.size_alloc _ _
      have hb9 : W.heap.size ≤ W9.heap.size := HW9.out.size
      have HW9s := HW9
      clear HI9 HW9
      go_wp2_with fail
      generalize World.alloc _ _ = W10 at *
      generalize W9.heap.size = hb at *
      refine (cWord (HP.out.below HW10.out) (x := 0) (by omega) (by omega) hlen (Nat.le_trans HR.out HW10.out.size)).mono ?_
      rintro e W11 ⟨rfl, vb4, hps, hkb, hob⟩
      have e4 : (bs ++ fourI 0).length = bs.length + 4 := by rw [List.length_append]; rfl
      obtain ⟨Ab, cb, hvb⟩ := own_slice hps.b
      rw [e4] at hvb
      subst hvb
      obtain ⟨Ah, ch, rfl⟩ := own_slice hps.h
      obtain ⟨j0, hj0, hy0, hy1, hy2⟩ := info_parts info_hole
      have hw : IntKind.i64.wrap (bs.length : Int) = bs.length := by rw [IntKind.wrap_i64]; omega
      clear q0 q1 q2 q3
      have q0 : W11.drew.cell? ⟨pb, 0, none⟩ = some (.int .i64 line) := (hps.c.cell 0).trans rfl
      have q1 : W11.drew.cell? ⟨pb, 1, none⟩ = some (.slice Ab (bs.length + 4) cb) := (hps.c.cell 1).trans rfl
      have qa0 : ∀ o, (W11.drew.alloc o).cell? ⟨pb, 0, none⟩ = some (.int .i64 line) := fun o => ((Cells.alloc (show Cells W11.drew pb _ _ from hps.c) o).cell 0).trans rfl
      have qa1 : ∀ o, (W11.drew.alloc o).cell? ⟨pb, 1, none⟩ = some (.slice Ab (bs.length + 4) cb) := fun o => ((Cells.alloc (show Cells W11.drew pb _ _ from hps.c) o).cell 1).trans rfl
      have q2 : W11.drew.cell? ⟨pb, 3, none⟩ = some (.slice Ah hs.length ch) := (hps.c.cell 3).trans rfl
      have qa2 : ∀ o, (W11.drew.alloc o).cell? ⟨pb, 3, none⟩ = some (.slice Ah hs.length ch) := fun o => ((Cells.alloc (show Cells W11.drew pb _ _ from hps.c) o).cell 3).trans rfl
      have qd2 : ∀ o, (W11.alloc o).drew.cell? ⟨pb, 3, none⟩ = some (.slice Ah hs.length ch) := qa2
      have fa : ∀ o, (W11.drew.alloc o).frozen? ⟨pb, 3, none⟩ = false := fun o => (Cells.alloc (show Cells W11.drew pb _ _ from hps.c) o).frozen 3
      have n2 : (Value.slice Ah hs.length ch).ownBlock ≠ some pb := fun e => hps.np pb (.inr (.inr e)) rfl
      have hpl := hps.c.lt
      have HPS := Lib.hid hps
      have HKB := Lib.hid (And.intro hkb hob)
      clear hps hkb hob
      go_wp2_with fail
      refine wp_region_noPanic ?_
      refine wp_region_held_drew (S := fun w0 => w0.cell? ⟨pb, 0, none⟩ = some (.int .i64 line) ∧ w0.cell? ⟨pb, 1, none⟩ = some (.slice Ab (bs.length + 4) cb)) (by kernel_rfl) ⟨q0, q1⟩ (fun hHeld => ?_)
      refine wpAnyH_take (i := 0) (oi := ⟨some 118, _, _, _, _, _⟩) (v := ?_) rfl (by as_aux_lemma => kernel_rfl) (by as_aux_lemma => kernel_rfl) (by as_aux_lemma => kernel_rfl) (fun _ _ _ h => h) (Or.inl ⟨by kernel_rfl, ?_⟩) (by assumption) ?_
      rotate_left
      · ((intro w0 hw; obtain ⟨c0, c1⟩ := hw; go_simp) <;> with_reducible rfl)
      simp only [Act.put, List.setIfInBounds_toArray, List.set_cons_zero, List.set_cons_succ]
      refine wpAnyH_take (i := 1) (oi := ⟨some 119, _, _, _, _, _⟩) (v := ?_) rfl (by as_aux_lemma => kernel_rfl) (by as_aux_lemma => kernel_rfl) (by as_aux_lemma => kernel_rfl) (fun _ _ _ h => h) (Or.inl ⟨by kernel_rfl, ?_⟩) (by assumption) ?_
      rotate_left
      · ((intro w0 hw; obtain ⟨c0, c1⟩ := hw; go_simp) <;> with_reducible rfl)
      simp only [Act.put, List.setIfInBounds_toArray, List.set_cons_zero, List.set_cons_succ]
      refine wpAnyH_take (i := 2) (oi := ⟨some 120, _, _, _, _, _⟩) (v := ?_) rfl (by as_aux_lemma => kernel_rfl) (by as_aux_lemma => kernel_rfl) (by as_aux_lemma => kernel_rfl) (fun _ _ _ h => h) (Or.inl ⟨by kernel_rfl, ?_⟩) (by assumption) ?_
      rotate_left
      · ((intro w0 hw; obtain ⟨c0, c1⟩ := hw; go_simp) <;> with_reducible rfl)
      simp only [Act.put, List.setIfInBounds_toArray, List.set_cons_zero, List.set_cons_succ]
      refine wpAnyH_take (i := 3) (oi := ⟨some 121, _, _, _, _, _⟩) (v := ?_) rfl (by as_aux_lemma => kernel_rfl) (by as_aux_lemma => kernel_rfl) (by as_aux_lemma => kernel_rfl) (fun _ _ _ h => h) (Or.inl ⟨by kernel_rfl, ?_⟩) (by assumption) ?_
      rotate_left
      · ((intro w0 hw; obtain ⟨c0, c1⟩ := hw; go_simp) <;> with_reducible rfl)
      simp only [Act.put, List.setIfInBounds_toArray, List.set_cons_zero, List.set_cons_succ]
      refine wpAnyH_take (i := 5) (oi := ⟨some 123, _, _, _, _, _⟩) (v := ?_) rfl (by as_aux_lemma => kernel_rfl) (by as_aux_lemma => kernel_rfl) (by as_aux_lemma => kernel_rfl) (fun _ _ _ h => h) (Or.inl ⟨by kernel_rfl, ?_⟩) (by assumption) ?_
      rotate_left
      · ((intro w0 hw; obtain ⟨c0, c1⟩ := hw; go_simp) <;> with_reducible rfl)
      simp only [Act.put, List.setIfInBounds_toArray, List.set_cons_zero, List.set_cons_succ]
      refine wpAnyH_take (i := 6) (oi := ⟨some 124, _, _, _, _, _⟩) (v := ?_) rfl (by as_aux_lemma => kernel_rfl) (by as_aux_lemma => kernel_rfl) (by as_aux_lemma => kernel_rfl) (fun _ _ _ h => h) (Or.inl ⟨by kernel_rfl, ?_⟩) (by assumption) ?_
      rotate_left
      · ((intro w0 hw; obtain ⟨c0, c1⟩ := hw; go_simp) <;> with_reducible rfl)
      simp only [Act.put, List.setIfInBounds_toArray, List.set_cons_zero, List.set_cons_succ]
      refine wpAnyH_take (i := 7) (oi := ⟨some 125, _, _, _, _, _⟩) (v := ?_) rfl (by as_aux_lemma => kernel_rfl) (by as_aux_lemma => kernel_rfl) (by as_aux_lemma => kernel_rfl) (fun _ _ _ h => h) (Or.inl ⟨by kernel_rfl, ?_⟩) (by assumption) ?_
      rotate_left
      · ((intro w0 hw; obtain ⟨c0, c1⟩ := hw; go_simp) <;> with_reducible rfl)
      simp only [Act.put, List.setIfInBounds_toArray, List.set_cons_zero, List.set_cons_succ]
      refine wpAnyH_take (i := 8) (oi := ⟨some 126, _, _, _, _, _⟩) (v := ?_) rfl (by as_aux_lemma => kernel_rfl) (by as_aux_lemma => kernel_rfl) (by as_aux_lemma => kernel_rfl) (fun _ _ _ h => h) (Or.inl ⟨by kernel_rfl, ?_⟩) (by assumption) ?_
      rotate_left
      · ((intro w0 hw; obtain ⟨c0, c1⟩ := hw; go_simp) <;> with_reducible rfl)
      simp only [Act.put, List.setIfInBounds_toArray, List.set_cons_zero, List.set_cons_succ]
      refine wpAnyH_take (i := 9) (oi := ⟨some 127, _, _, _, _, _⟩) (v := ?_) rfl (by as_aux_lemma => kernel_rfl) (by as_aux_lemma => kernel_rfl) (by as_aux_lemma => kernel_rfl) (fun _ _ _ h => h) (Or.inl ⟨by kernel_rfl, ?_⟩) (by assumption) ?_
      rotate_left
      · ((intro w0 hw; obtain ⟨c0, c1⟩ := hw; go_simp) <;> with_reducible rfl)
      simp only [Act.put, List.setIfInBounds_toArray, List.set_cons_zero, List.set_cons_succ]
      refine wpAnyH_take (i := 10) (oi := ⟨some 128, _, _, _, _, _⟩) (v := ?_) rfl (by as_aux_lemma => kernel_rfl) (by as_aux_lemma => kernel_rfl) (by as_aux_lemma => kernel_rfl) (fun _ _ _ h => h) (Or.inl ⟨by kernel_rfl, ?_⟩) (by assumption) ?_
      rotate_left
      · ((intro w0 hw; obtain ⟨c0, c1⟩ := hw; go_simp) <;> with_reducible rfl)
      simp only [Act.put, List.setIfInBounds_toArray, List.set_cons_zero, List.set_cons_succ]
      refine wpAnyH_take (i := 11) (oi := ⟨some 129, _, _, _, _, _⟩) (v := ?_) rfl (by as_aux_lemma => kernel_rfl) (by as_aux_lemma => kernel_rfl) (by as_aux_lemma => kernel_rfl) (fun _ _ _ h => h) (Or.inl ⟨by kernel_rfl, ?_⟩) (by assumption) ?_
      rotate_left
      · ((intro w0 hw; obtain ⟨c0, c1⟩ := hw; go_simp) <;> with_reducible rfl)
      simp only [Act.put, List.setIfInBounds_toArray, List.set_cons_zero, List.set_cons_succ]
      refine wpAnyH_take (i := 12) (oi := ⟨some 130, _, _, _, _, _⟩) (v := ?_) rfl (by as_aux_lemma => kernel_rfl) (by as_aux_lemma => kernel_rfl) (by as_aux_lemma => kernel_rfl) (fun _ _ _ h => h) (Or.inl ⟨by kernel_rfl, ?_⟩) (by assumption) ?_
      rotate_left
      · ((intro w0 hw; obtain ⟨c0, c1⟩ := hw; go_simp) <;> with_reducible rfl)
      simp only [Act.put, List.setIfInBounds_toArray, List.set_cons_zero, List.set_cons_succ]
      refine wpAnyH_take (i := 13) (oi := ⟨some 131, _, _, _, _, _⟩) (v := ?_) rfl (by as_aux_lemma => kernel_rfl) (by as_aux_lemma => kernel_rfl) (by as_aux_lemma => kernel_rfl) (fun _ _ _ h => h) (Or.inl ⟨by kernel_rfl, ?_⟩) (by assumption) ?_
      rotate_left
      · ((intro w0 hw; obtain ⟨c0, c1⟩ := hw; go_simp) <;> with_reducible rfl)
      simp only [Act.put, List.setIfInBounds_toArray, List.set_cons_zero, List.set_cons_succ]
      refine wpAnyH_take (i := 14) (oi := ⟨some 132, _, _, _, _, _⟩) (v := ?_) rfl (by as_aux_lemma => kernel_rfl) (by as_aux_lemma => kernel_rfl) (by as_aux_lemma => kernel_rfl) (fun _ _ _ h => h) (Or.inl ⟨by kernel_rfl, ?_⟩) (by assumption) ?_
      rotate_left
      · ((intro w0 hw; obtain ⟨c0, c1⟩ := hw; go_simp) <;> with_reducible rfl)
      simp only [Act.put, List.setIfInBounds_toArray, List.set_cons_zero, List.set_cons_succ]
      refine wpAnyH_take (i := 15) (oi := ⟨some 133, _, _, _, _, _⟩) (v := ?_) rfl (by as_aux_lemma => kernel_rfl) (by as_aux_lemma => kernel_rfl) (by as_aux_lemma => kernel_rfl) (fun _ _ _ h => h) (Or.inl ⟨by kernel_rfl, ?_⟩) (by assumption) ?_
      rotate_left
      · ((intro w0 hw; obtain ⟨c0, c1⟩ := hw; go_simp) <;> with_reducible rfl)
      simp only [Act.put, List.setIfInBounds_toArray, List.set_cons_zero, List.set_cons_succ]
      refine wpAnyH_take (i := 16) (oi := ⟨some 134, _, _, _, _, _⟩) (v := ?_) rfl (by as_aux_lemma => kernel_rfl) (by as_aux_lemma => kernel_rfl) (by as_aux_lemma => kernel_rfl) (fun _ _ _ h => h) (Or.inl ⟨by kernel_rfl, ?_⟩) (by assumption) ?_
      rotate_left
      · ((intro w0 hw; obtain ⟨c0, c1⟩ := hw; go_simp) <;> with_reducible rfl)
      simp only [Act.put, List.setIfInBounds_toArray, List.set_cons_zero, List.set_cons_succ]
      refine wpAnyH_take (i := 17) (oi := ⟨some 135, _, _, _, _, _⟩) (v := ?_) rfl (by as_aux_lemma => kernel_rfl) (by as_aux_lemma => kernel_rfl) (by as_aux_lemma => kernel_rfl) (fun _ _ _ h => h) (Or.inl ⟨by kernel_rfl, ?_⟩) (by assumption) ?_
      rotate_left
      · ((intro w0 hw; obtain ⟨c0, c1⟩ := hw; go_simp) <;> with_reducible rfl)
      simp only [Act.put, List.setIfInBounds_toArray, List.set_cons_zero, List.set_cons_succ]
      refine wpAnyH_ready (rs := [4, 18]) (by as_aux_lemma => kernel_rfl) (by simp) ?_
      refine AllReadyH.cons rfl (fun K hK => ?_) (AllReadyH.cons rfl (fun K hK => ?_) AllReadyH.nil)
      · go_simp
        refine hK.out _ _ hHeld (fun hHeld => ?_)
        clear hK K
        (try simp only [Act.put, List.setIfInBounds_toArray, List.set_cons_zero, List.set_cons_succ])
        refine wpAnyH_ready (rs := [18]) (by as_aux_lemma => kernel_rfl) (by simp) ?_
        refine AllReadyH.cons rfl (fun K hK => ?_) AllReadyH.nil
        go_simp
        refine hK.out _ _ ⟨qa0 _, qa1 _⟩ (fun hHeld => ?_)
        clear hK K hHeld
        (try simp only [Act.put, List.setIfInBounds_toArray, List.set_cons_zero, List.set_cons_succ])
        refine wpAnyH_ready (rs := [19]) (by as_aux_lemma => kernel_rfl) (by simp) ?_
        refine AllReadyH.cons rfl (fun K hK => ?_) AllReadyH.nil
        rw [if_pos (by kernel_rfl)]
        refine wp_append_lies _ (.tmp 122) (.tmp 136) 80 rfl R 89 j0 (.agg #[.int .i64 0, .int .i64 0, .pointer none, .string ⟨#[]⟩]) 4 40 Tryz.underlying80 hj0 hy0 hy1 hy2 rfl (by decide) (.slice Ah hs.length ch) hs.length (holesV hs) rfl (HPS.out.h.drew.alloc _) ⟨W11.heap.size, 0, none⟩ 1 1 [.int .i64 line, .int .i64 bs.length, .pointer (some ⟨hb, 0, none⟩), .string st.1] rfl rfl (cell_lit W11.drew 89 [.int .i64 line, .int .i64 bs.length, .pointer (some ⟨hb, 0, none⟩), .string st.1]) (fun x hx => by simp at hx; rcases hx with rfl | rfl | rfl | rfl <;> rfl) (by decide) (by unfold maxLen; omega) (by omega) (by show R ≤ (W11.alloc _).heap.size; rw [World.size_alloc]; have := HR.out; have := HW10.out.size; have := HKB.out.1.size; omega) (W11.heap.size + 1) (by simp) ?_
        intro g2 cap2 w1 hown hgrow hat hlt
        have y2 : w1.cell? ⟨pb, 3, none⟩ = some (.slice Ah hs.length ch) := (hgrow.cell_far _ (by simp; omega) (Ne.symm n2)).trans (qa2 _)
        have yz : w1.frozen? ⟨pb, 3, none⟩ = false := (World.frozen?_of_block (hgrow.block pb (by simp; omega) (Ne.symm n2))).trans (fa _)
        have s0 : w1.cell? ⟨pb, 0, none⟩ = some (.int .i64 line) := (hgrow.cell_far _ (by simp; omega) (Ne.symm n2)).trans (qa0 _)
        have s1 : w1.cell? ⟨pb, 1, none⟩ = some (.slice Ab (bs.length + 4) cb) := (hgrow.cell_far _ (by simp; omega) (Ne.symm n2)).trans (qa1 _)
        refine hK.out _ _ ⟨s0, s1⟩ (fun hHeld => ?_)
        clear hK K
        (try simp only [Act.put, List.setIfInBounds_toArray])
        refine wpAnyH_take (i := 20) (oi := ⟨some 138, _, _, _, _, _⟩) (v := ?_) rfl (by as_aux_lemma => kernel_rfl) (by as_aux_lemma => kernel_rfl) (by as_aux_lemma => kernel_rfl) (fun _ _ _ h => h) (Or.inl ⟨by kernel_rfl, ?_⟩) (by assumption) ?_
        rotate_left
        · ((intro w0 hw; obtain ⟨c0, c1⟩ := hw; go_simp) <;> with_reducible rfl)
        simp only [Act.put]
        refine wpAnyH_take (i := 21) (oi := ⟨some 139, _, _, _, _, _⟩) (v := ?_) rfl (by as_aux_lemma => kernel_rfl) (by as_aux_lemma => kernel_rfl) (by as_aux_lemma => kernel_rfl) (fun _ _ _ h => h) (Or.inl ⟨by kernel_rfl, ?_⟩) (by assumption) ?_
        rotate_left
        · ((intro w0 hw; obtain ⟨c0, c1⟩ := hw; go_simp) <;> with_reducible rfl)
        simp only [Act.put]
        have k1 := ((KeptBut.of_grown (S := fun k => (Value.slice Ah hs.length ch).ownBlock = some k) hgrow (fun _ e => e)).cells (Cells.alloc (show Cells W11.drew pb _ _ from HPS.out.c) _) n2).set 3 (.slice (some ⟨g2, 0, none⟩) (hs.length + 1) cap2)
        refine wpAnyH_ready (rs := [22]) (by as_aux_lemma => kernel_rfl) (by simp) ?_
        refine AllReadyH.cons rfl (fun K hK => ?_) AllReadyH.nil
        go_simp
        refine hK.out _ _ ⟨(k1.cell 0).trans rfl, (k1.cell 1).trans rfl⟩ (fun _ => ?_)
        clear hK K
        (try simp only [Act.put, List.setIfInBounds_toArray])
        refine wpAnyH_done (by as_aux_lemma => kernel_rfl) ?_ _
        refine NoPanic.normal ?_
        have HF := Lib.hid (PS.putH (W := W11.drew.alloc (.cells #[.int .i64 line, .int .i64 bs.length, .pointer (some ⟨hb, 0, none⟩), .string st.1] 89)) (ls := [(⟨line, (bs.length : Int), some hb, st.1⟩ : HoleV)]) ((HPS.out.below (Below.refl _ W11).drew).below ((Below.refl _ W11.drew).alloc (Nat.le_refl _) _)) rfl hown hgrow (hat.imp id (fun e => by rw [World.size_alloc]; exact e)))
        clear hown hgrow hat hlt y2 yz s0 s1 k1
        go_wp2_with fail
        refine bodyPost_ret (results_none rfl _ _ _) rfl ?_
        obtain ⟨vh', e, h1, h2, h3⟩ := HF.out
        obtain ⟨kb, ob⟩ := HKB.out
        have e' : Value.slice (some ⟨g2, 0, none⟩) (hs.length + 1) cap2 = vh' := e
        rw [e']
        have lb := fun k (e : vb.ownBlock = some k) => (HP.out.b.lt k e).2
        have ln := fun k (e : vn.ownBlock = some k) => (HP.out.n.lt k e).2
        have lh := fun k (e : (Value.slice Ah hs.length ch).ownBlock = some k) => (HP.out.h.lt k e).2
        have lp := HP.out.c.lt
        have z10 := HW10.out.size
        have z11 := kb.size
        have za : (W11.drew.alloc (.cells #[.int .i64 line, .int .i64 bs.length, .pointer (some ⟨hb, 0, none⟩), .string st.1] 89)).heap.size = W11.heap.size + 1 := World.size_alloc _ _
        have kd := (KeptBut.of_below (fun k => k = pb ∨ (Value.slice Ah hs.length ch).ownBlock = some k) ((Below.refl W11.heap.size W11).drew.alloc (Nat.le_refl _) (.cells #[.int .i64 line, .int .i64 bs.length, .pointer (some ⟨hb, 0, none⟩), .string st.1] 89))).trans h2
        refine ⟨rfl, hb, _, vn, vh', h1, ((KeptBut.of_below _ HW10.out).trans (kb.mono fun k _ e => e.elim .inl (fun e => .inr (.inl e)))).trans (kd.mono fun k _ e => e.elim .inl (fun e => .inr (.inr (.inr e)))), ?_, hb9, kd.cells (kb.cells HJ10.out ?_) ?_, ?_⟩
        · intro k e
          rcases e with e | e | e | e
          · exact .inl (.inl e)
          · exact (ob k e).imp (fun e => .inr (.inl e)) (fun e => by omega)
          · exact .inl (.inr (.inr (.inl e)))
          · exact (h3 k e).imp (fun e => .inr (.inr (.inr e))) (fun e => by rw [za] at e; omega)
        · rintro (e | e)
          · omega
          · have := lb _ e; omega
        · rintro (e | e)
          · omega
          · have := lh _ e; omega
        · rintro (e | e | e | e)
          · omega
          · rcases ob _ e with e | e
            · have := lb _ e; omega
            · omega
          · have := ln _ e; omega
          · rcases h3 _ e with e | e
            · have := lh _ e; omega
            · rw [za] at e; omega
      · go_simp
        refine hK.out _ _ ⟨qa0 _, qa1 _⟩ (fun hHeld => ?_)
        clear hK K
        (try simp only [Act.put, List.setIfInBounds_toArray, List.set_cons_zero, List.set_cons_succ])
        refine wpAnyH_ready (rs := [4]) (by as_aux_lemma => kernel_rfl) (by simp) ?_
        refine AllReadyH.cons rfl (fun K hK => ?_) AllReadyH.nil
        go_simp
        refine hK.out _ _ hHeld (fun hHeld => ?_)
        clear hK K hHeld
        (try simp only [Act.put, List.setIfInBounds_toArray, List.set_cons_zero, List.set_cons_succ])
        refine wpAnyH_ready (rs := [19]) (by as_aux_lemma => kernel_rfl) (by simp) ?_
        refine AllReadyH.cons rfl (fun K hK => ?_) AllReadyH.nil
        rw [if_pos (by kernel_rfl)]
        refine wp_append_lies _ (.tmp 122) (.tmp 136) 80 rfl R 89 j0 (.agg #[.int .i64 0, .int .i64 0, .pointer none, .string ⟨#[]⟩]) 4 40 Tryz.underlying80 hj0 hy0 hy1 hy2 rfl (by decide) (.slice Ah hs.length ch) hs.length (holesV hs) rfl (HPS.out.h.drew.alloc _) ⟨W11.heap.size, 0, none⟩ 1 1 [.int .i64 line, .int .i64 bs.length, .pointer (some ⟨hb, 0, none⟩), .string st.1] rfl rfl (cell_lit W11.drew 89 [.int .i64 line, .int .i64 bs.length, .pointer (some ⟨hb, 0, none⟩), .string st.1]) (fun x hx => by simp at hx; rcases hx with rfl | rfl | rfl | rfl <;> rfl) (by decide) (by unfold maxLen; omega) (by omega) (by show R ≤ (W11.alloc _).heap.size; rw [World.size_alloc]; have := HR.out; have := HW10.out.size; have := HKB.out.1.size; omega) (W11.heap.size + 1) (by simp) ?_
        intro g2 cap2 w1 hown hgrow hat hlt
        have y2 : w1.cell? ⟨pb, 3, none⟩ = some (.slice Ah hs.length ch) := (hgrow.cell_far _ (by simp; omega) (Ne.symm n2)).trans (qa2 _)
        have yz : w1.frozen? ⟨pb, 3, none⟩ = false := (World.frozen?_of_block (hgrow.block pb (by simp; omega) (Ne.symm n2))).trans (fa _)
        have s0 : w1.cell? ⟨pb, 0, none⟩ = some (.int .i64 line) := (hgrow.cell_far _ (by simp; omega) (Ne.symm n2)).trans (qa0 _)
        have s1 : w1.cell? ⟨pb, 1, none⟩ = some (.slice Ab (bs.length + 4) cb) := (hgrow.cell_far _ (by simp; omega) (Ne.symm n2)).trans (qa1 _)
        refine hK.out _ _ ⟨s0, s1⟩ (fun hHeld => ?_)
        clear hK K
        (try simp only [Act.put, List.setIfInBounds_toArray])
        refine wpAnyH_take (i := 20) (oi := ⟨some 138, _, _, _, _, _⟩) (v := ?_) rfl (by as_aux_lemma => kernel_rfl) (by as_aux_lemma => kernel_rfl) (by as_aux_lemma => kernel_rfl) (fun _ _ _ h => h) (Or.inl ⟨by kernel_rfl, ?_⟩) (by assumption) ?_
        rotate_left
        · ((intro w0 hw; obtain ⟨c0, c1⟩ := hw; go_simp) <;> with_reducible rfl)
        simp only [Act.put]
        refine wpAnyH_take (i := 21) (oi := ⟨some 139, _, _, _, _, _⟩) (v := ?_) rfl (by as_aux_lemma => kernel_rfl) (by as_aux_lemma => kernel_rfl) (by as_aux_lemma => kernel_rfl) (fun _ _ _ h => h) (Or.inl ⟨by kernel_rfl, ?_⟩) (by assumption) ?_
        rotate_left
        · ((intro w0 hw; obtain ⟨c0, c1⟩ := hw; go_simp) <;> with_reducible rfl)
        simp only [Act.put]
        have k1 := ((KeptBut.of_grown (S := fun k => (Value.slice Ah hs.length ch).ownBlock = some k) hgrow (fun _ e => e)).cells (Cells.alloc (show Cells W11.drew pb _ _ from HPS.out.c) _) n2).set 3 (.slice (some ⟨g2, 0, none⟩) (hs.length + 1) cap2)
        refine wpAnyH_ready (rs := [22]) (by as_aux_lemma => kernel_rfl) (by simp) ?_
        refine AllReadyH.cons rfl (fun K hK => ?_) AllReadyH.nil
        go_simp
        refine hK.out _ _ ⟨(k1.cell 0).trans rfl, (k1.cell 1).trans rfl⟩ (fun _ => ?_)
        clear hK K
        (try simp only [Act.put, List.setIfInBounds_toArray])
        refine wpAnyH_done (by as_aux_lemma => kernel_rfl) ?_ _
        refine NoPanic.normal ?_
        have HF := Lib.hid (PS.putH (W := W11.drew.alloc (.cells #[.int .i64 line, .int .i64 bs.length, .pointer (some ⟨hb, 0, none⟩), .string st.1] 89)) (ls := [(⟨line, (bs.length : Int), some hb, st.1⟩ : HoleV)]) ((HPS.out.below (Below.refl _ W11).drew).below ((Below.refl _ W11.drew).alloc (Nat.le_refl _) _)) rfl hown hgrow (hat.imp id (fun e => by rw [World.size_alloc]; exact e)))
        clear hown hgrow hat hlt y2 yz s0 s1 k1
        go_wp2_with fail
        refine bodyPost_ret (results_none rfl _ _ _) rfl ?_
        obtain ⟨vh', e, h1, h2, h3⟩ := HF.out
        obtain ⟨kb, ob⟩ := HKB.out
        have e' : Value.slice (some ⟨g2, 0, none⟩) (hs.length + 1) cap2 = vh' := e
        rw [e']
        have lb := fun k (e : vb.ownBlock = some k) => (HP.out.b.lt k e).2
        have ln := fun k (e : vn.ownBlock = some k) => (HP.out.n.lt k e).2
        have lh := fun k (e : (Value.slice Ah hs.length ch).ownBlock = some k) => (HP.out.h.lt k e).2
        have lp := HP.out.c.lt
        have z10 := HW10.out.size
        have z11 := kb.size
        have za : (W11.drew.alloc (.cells #[.int .i64 line, .int .i64 bs.length, .pointer (some ⟨hb, 0, none⟩), .string st.1] 89)).heap.size = W11.heap.size + 1 := World.size_alloc _ _
        have kd := (KeptBut.of_below (fun k => k = pb ∨ (Value.slice Ah hs.length ch).ownBlock = some k) ((Below.refl W11.heap.size W11).drew.alloc (Nat.le_refl _) (.cells #[.int .i64 line, .int .i64 bs.length, .pointer (some ⟨hb, 0, none⟩), .string st.1] 89))).trans h2
        refine ⟨rfl, hb, _, vn, vh', h1, ((KeptBut.of_below _ HW10.out).trans (kb.mono fun k _ e => e.elim .inl (fun e => .inr (.inl e)))).trans (kd.mono fun k _ e => e.elim .inl (fun e => .inr (.inr (.inr e)))), ?_, hb9, kd.cells (kb.cells HJ10.out ?_) ?_, ?_⟩
        · intro k e
          rcases e with e | e | e | e
          · exact .inl (.inl e)
          · exact (ob k e).imp (fun e => .inr (.inl e)) (fun e => by omega)
          · exact .inl (.inr (.inr (.inl e)))
          · exact (h3 k e).imp (fun e => .inr (.inr (.inr e))) (fun e => by rw [za] at e; omega)
        · rintro (e | e)
          · omega
          · have := lb _ e; omega
        · rintro (e | e)
          · omega
          · have := lh _ e; omega
        · rintro (e | e | e | e)
          · omega
          · rcases ob _ e with e | e
            · have := lb _ e; omega
            · omega
          · have := ln _ e; omega
          · rcases h3 _ e with e | e
            · have := lh _ e; omega
            · rw [za] at e; omega
end
end Go.Proofs.YtbfmlmnhdogojaaGreatDoor
