/- An instruction's number that is none: contract. -/
import Derived.Test.YtbfmlmnhdogojaaGreatDoorFh
namespace Go.Proofs.YtbfmlmnhdogojaaGreatDoor
open Go.RowKit Go.Shelf

section
variable {W : World} {R pb : Nat} {vb vn vh : Value} {line : Int} {bs : List Int} {ns : List (ByteArray × Int)} {hs : List HoleV} {s : ByteArray}
set_option maxRecDepth 100000 in
set_option maxHeartbeats 2000000 in
theorem cInstNumNil1 {op : Int} {rest : ByteArray} {P : List ByteArray} (hG : Gl W) (h : PS W R pb vb vn vh line bs ns hs) (hop : 1 ≤ op ∧ op ≤ 28) (hs' : s.size < 4294967281) (hr' : rest.size < 4294967281) (hcut : CutsTo s (nameL op) rest) (hok : PartsOk (usesL op) rest P)
    {st : ByteArray × Int × Int} (hst : instSt (formsL (usesL op)) P P.length = st) (hs1 : st.1 = ⟨#[]⟩) (hp2 : P.length = 2) (hf1 : (formsL (usesL op))[1]? = some ⟨#[48]⟩) (hR : R ≤ W.heap.size) :
    Calls Tryz.prog 72 #[.pointer (some ⟨pb, 0, none⟩), .string s] W fun e W' => e = .panicked (failC line 280) ∧ Below W.heap.size W W' := by
  have HST := Lib.hid hst
  have HP2 := Lib.hid hp2
  have HS1 := Lib.hid hs1
  have HF1 := Lib.hid hf1
  clear hst hp2 hs1 hf1
  have hu0 : usesL op ≠ 0 := by rcases hok.hu with e | e | e <;> rw [e] <;> decide
  have HG := Lib.hid hG
  have HP := Lib.hid h
  have HR := Lib.hid hR
  have HS := Lib.hid hs'
  have HCUT := Lib.hid hcut
  have HOK := Lib.hid hok
  have HR2 := Lib.hid hr'
  clear hG h hR hs' hcut hok hr'
  go_enter Tryz.func72, Tryz.ntmps72
  go_wp2_with fail
  refine (cCut HG.out HS.out HCUT.out).mono ?_
  rintro e W1 ⟨rfl, hb⟩
  have HW1 := Lib.hid hb
  clear hb
  go_wp2_with fail
  refine (cNumber_in hop _).mono ?_
  rintro e W2 ⟨rfl, hb⟩
  have HW2 := Lib.hid (HW1.out.trans (hb.mono HW1.out.size))
  clear hb HW1
  go_wp2_with fail
  refine (cMust _ _ _).mono ?_
  rintro e w' ⟨rfl, rfl⟩
  have hma := Lib.hid (may0 hop)
  have HTB := Lib.hid (HG.out.b HW2.out).tb
  go_wp2_with fail
  refine (cText_in hma.out HTB.out).mono ?_
  rintro e W3 ⟨rfl, hb⟩
  have HW3 := Lib.hid (HW2.out.trans (hb.mono HW2.out.size))
  clear hb HW2 HTB hma
  go_wp2_with fail
  refine (cMust _ _ _).mono ?_
  rintro e w' ⟨rfl, rfl⟩
  have HTS := Lib.hid (Nat.lt_trans (told_size hop) (show 100 < 4294967281 by decide))
  go_wp2_with fail
  refine (cCut (HG.out.b HW3.out) HTS.out (told_cut hop hu0)).mono ?_
  rintro e W4 ⟨rfl, hb⟩
  have HW4 := Lib.hid (HW3.out.trans (hb.mono HW3.out.size))
  clear hb HW3 HTS
  go_wp2_with fail
  refine (cMust _ _ _).mono ?_
  rintro e w' ⟨rfl, rfl⟩
  have HI := Lib.hid (Cells.new W4 69 #[.int .i64 op, .int .i64 0, .int .i64 0, .int .i64 0])
  have HW5 := Lib.hid (HW4.out.alloc HW4.out.size (.cells #[.int .i64 op, .int .i64 0, .int .i64 0, .int .i64 0] 69))
  have s4 : (W4.alloc (.cells #[.int .i64 op, .int .i64 0, .int .i64 0, .int .i64 0] 69)).heap.size = W4.heap.size + 1 := World.size_alloc _ _
  go_wp2_with fail
  generalize World.alloc _ _ = W5 at *
  refine (cComma (HG.out.b HW5.out) HR2.out HOK.out.spl HOK.out.cnt).mono ?_
  rintro e w' ⟨rfl, rfl⟩
  have HCP := Lib.hid (Cells.new W5 9 (P.map Value.string).toArray)
  have HI6 := Lib.hid (HI.out.alloc (.cells (P.map Value.string).toArray 9))
  have HW6 := Lib.hid (HW5.out.alloc HW5.out.size (.cells (P.map Value.string).toArray 9))
  have s6 : (W5.alloc (.cells (P.map Value.string).toArray 9)).heap.size = W4.heap.size + 1 + 1 := by rw [World.size_alloc, s4]
  rw [s4] at HCP ⊢
  clear HI HW5 HS HCUT
  go_wp2_with fail
  generalize World.alloc _ _ = W6 at *
  refine (cComma (HG.out.b HW6.out) (Nat.lt_trans (form_size HOK.out.hu) (show 100 < 4294967281 by decide)) (form_split HOK.out.hu).1 (form_split HOK.out.hu).2).mono ?_
  rintro e w' ⟨rfl, rfl⟩
  have HCF := Lib.hid (Cells.new W6 9 ((formsL (usesL op)).map Value.string).toArray)
  have HCP7 := Lib.hid (HCP.out.alloc (.cells ((formsL (usesL op)).map Value.string).toArray 9))
  have HI7 := Lib.hid (HI6.out.alloc (.cells ((formsL (usesL op)).map Value.string).toArray 9))
  have HW7 := Lib.hid (HW6.out.alloc HW6.out.size (.cells ((formsL (usesL op)).map Value.string).toArray 9))
  have s7 : (W6.alloc (.cells ((formsL (usesL op)).map Value.string).toArray 9)).heap.size = W4.heap.size + 1 + 1 + 1 := by rw [World.size_alloc, s6]
  rw [s6] at HCF ⊢
  have hlF : (formsL (usesL op)).length = P.length := HOK.out.len.symm
  have HOKB := HOK.out.len
  rw [hlF] at HOKB ⊢
  generalize hF : formsL (usesL op) = F at *
  clear HI6 HCP HW6 HOKB
  go_wp2_with fail
  generalize World.alloc _ _ = W7 at *
  refine (cMust _ _ _).mono ?_
  rintro e w' ⟨rfl, rfl⟩
  have HREG := Lib.hid HOK.out.regs
  rw [hF] at HREG
  have hFm : ∀ f ∈ F, f = ⟨#[114, 48]⟩ ∨ f = ⟨#[48]⟩ := fun f hf => forms_two HOK.out.hu (hF ▸ hf)
  have HFM := Lib.hid hFm
  have HLF := Lib.hid hlF
  have HFF := Lib.hid hF
  have hib : W.heap.size ≤ W4.heap.size := HW4.out.size
  have hP0 : 0 < P.length := by have := HOK.out.cnt; omega
  clear hFm hF hlF s4 s6
  generalize W4.heap.size = ib at *
  have hP1 : P.length ≤ 3 := by rw [HOK.out.len]; exact txL_len _ _ _ _ _
  go_wp2_with fail
  go_loopw [19, 87] (fun im i wr => ∃ k : Nat, k ≤ P.length ∧ i = .int .i64 k ∧ im = .string (instSt F P k).1 ∧ Cells wr ib 69 #[.int .i64 op, .int .i64 (instSt F P k).2.1, .int .i64 (instSt F P k).2.2, .int .i64 0] ∧ KeptBut (fun b => b = ib) W7 wr) (fun _ i _ => P.length - (intOf i).toNat)
  case atStart => exact ⟨0, Nat.zero_le _, rfl, rfl, HI7.out, KeptBut.refl _ _⟩
  case round =>
    obtain ⟨k, hk, rfl, rfl, hi, hkb⟩ := hrel
    by_cases hlt : k < P.length
    · obtain ⟨x, hx⟩ : ∃ x, P[k]? = some x := ⟨_, List.getElem?_eq_getElem hlt⟩
      obtain ⟨f, hf⟩ : ∃ f, F[k]? = some f := ⟨_, List.getElem?_eq_getElem (by rw [HLF.out]; exact hlt)⟩
      have cx := cells_str (hkb.cells HCP7.out (by omega)) hx
      have cf := cells_str (hkb.cells HCF.out (by omega)) hf
      have fi1 := hi.frozen 1
      have fi2 := hi.frozen 2
      have qi1 := (hi.cell 1).trans (show _ = some (Value.int .i64 (instSt F P k).2.1) from rfl)
      have qi2 := (hi.cell 2).trans (show _ = some (Value.int .i64 (instSt F P k).2.2) from rfl)
      have HX := Lib.hid hx
      have HI := Lib.hid hi
      have HKB := Lib.hid hkb
      have HFK := Lib.hid hf
      clear hx hi hkb hf
      rcases HFM.out f (List.mem_of_getElem? HFK.out) with rfl | rfl
      · have hr := HREG.out k x HFK.out HX.out
        by_cases hk0 : k = 0
        · subst hk0
          have HE := Lib.hid (instSt_a HFK.out HX.out)
          go_wp2_with fail
          refine (cRegister x _).mono ?_
          rintro e w' ⟨rfl, rfl⟩
          go_wp2_with fail
          refine (cMust _ _ _).mono ?_
          rintro e w' ⟨rfl, rfl⟩
          go_wp2
          go_roundw
          case rel => exact ⟨1, by omega, rfl, by rw [HE.out]; rfl, by rw [HE.out]; exact HI.out.set 1 _, HKB.out.trans (KeptBut.set (S := fun b => b = ib) rfl 1 _)⟩
          case measure => simp [intOf]; omega
        · have HE := Lib.hid (instSt_b hk0 HFK.out HX.out)
          go_wp2_with fail
          refine (cRegister x _).mono ?_
          rintro e w' ⟨rfl, rfl⟩
          go_wp2_with fail
          refine (cMust _ _ _).mono ?_
          rintro e w' ⟨rfl, rfl⟩
          go_wp2
          go_roundw
          case rel => exact ⟨k + 1, by omega, by go_num, by rw [HE.out], by rw [HE.out]; exact HI.out.set 2 _, HKB.out.trans (KeptBut.set (S := fun b => b = ib) rfl 2 _)⟩
          case measure => simp [intOf]; omega
      · have HE := Lib.hid (instSt_n HFK.out HX.out)
        go_wp2_with fail
        refine (cRegister x _).mono ?_
        rintro e w' ⟨rfl, rfl⟩
        go_wp2
        go_roundw
        case rel => exact ⟨k + 1, by omega, by go_num, by rw [HE.out], by rw [HE.out]; exact HI.out, HKB.out⟩
        case measure => simp [intOf]; omega
    · obtain rfl : k = P.length := by omega
      have HI := Lib.hid hi
      have HW8 := Lib.hid (HW7.out.trans (hkb.below (n := W.heap.size) (fun q e => by omega) HW7.out.size))
      have HCFr := Lib.hid (hkb.cells HCF.out (by omega))
      clear hi hkb hk hlt HI7 HCP7 HREG HFM HLF HW7
      rw [HST.out] at HI ⊢
      have hn0 : nameB ⟨#[]⟩ = false := by decide +kernel
      have hP2 := HP2.out
      have e1 := HS1.out
      rw [hP2, e1]
      go_wp2_with fail
      refine (cNm ⟨#[]⟩ wr).mono ?_
      rintro e W9 ⟨rfl, hb⟩
      rw [hn0]
      have HW9 := Lib.hid (HW8.out.trans (hb.mono HW8.out.size))
      have HCF9 := Lib.hid (HCFr.out.below hb HCFr.out.lt)
      clear hb HW8 HI HCF HCFr
      have qf := cells_str HCF9.out (k := 1) HF1.out
      have hne : ((ByteArray.mk #[48]).toList == (ByteArray.mk #[114, 48]).toList) = false := by decide +kernel
      clear HCF9
      go_wp2_with fail
      refine (cNum (HG.out.b HW9.out) (show (ByteArray.mk #[]).size < 4294967281 by decide)).mono ?_
      rintro e W10 ⟨rfl, hb⟩
      rw [show numB ⟨#[]⟩ (-32768) 32767 = false by decide +kernel]
      have HW10 := Lib.hid (HW9.out.trans (hb.mono HW9.out.size))
      clear hb HW9
      go_wp2_with fail
      refine (cMustNo (HP.out.below HW10.out).c 280).mono ?_
      rintro e w' ⟨rfl, rfl⟩
      exact ⟨rfl, rfl, HW10.out⟩
end
end Go.Proofs.YtbfmlmnhdogojaaGreatDoor
