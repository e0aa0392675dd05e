/- An instruction for which there is no room: contracts. -/
import Derived.Test.YtbfmlmnhdogojaaGreatDoorFh
import Derived.Test.YtbfmlmnhdogojaaGreatDoorFi
import Derived.Test.YtbfmlmnhdogojaaGreatDoorFi1
import Derived.Test.YtbfmlmnhdogojaaGreatDoorFi2
import Derived.Test.YtbfmlmnhdogojaaGreatDoorFj
import Derived.Test.YtbfmlmnhdogojaaGreatDoorFj1
namespace Go.Proofs.YtbfmlmnhdogojaaGreatDoor
open Go.RowKit Go.Shelf

section
variable {W : World} {R pb : Nat} {vb vn vh : Value} {line : Int} {bs : List Int} {ns : List (ByteArray × Int)} {hs : List HoleV} {s : ByteArray}
set_option maxRecDepth 100000 in
set_option maxHeartbeats 2000000 in
theorem cInstMMuch {op : Int} {rest : ByteArray} {P : List ByteArray} (hG : Gl W) (h : PS W R pb vb vn vh line bs ns hs) (hop : 1 ≤ op ∧ op ≤ 28) (hs' : s.size < 4294967281) (hr' : rest.size < 4294967281) (hcut : CutsTo s (nameL op) rest) (hok : PartsOk (usesL op) rest P)
    {st : ByteArray × Int × Int} (hst : instSt (formsL (usesL op)) P P.length = st) (hnm : nameB st.1 = true) (hbl : bs.length ≤ 2048) (hlen : 2048 < bs.length + 4) (hR : R ≤ W.heap.size) :
    Calls Tryz.prog 72 #[.pointer (some ⟨pb, 0, none⟩), .string s] W fun e W' => e = .panicked (failC line 282) ∧ Below W.heap.size W W' := by
  have HST := Lib.hid hst
  have HNM := Lib.hid hnm
  clear hst hnm
  have hu0 : usesL op ≠ 0 := by rcases hok.hu with e | e | e <;> rw [e] <;> decide
  have HG := Lib.hid hG
  have HP := Lib.hid h
  have HR := Lib.hid hR
  have HS := Lib.hid hs'
  have HCUT := Lib.hid hcut
  have HOK := Lib.hid hok
  have HR2 := Lib.hid hr'
  clear hG h hR hs' hcut hok hr'
  go_enter Tryz.func72, Tryz.ntmps72
  go_wp2_with fail
  refine (cCut HG.out HS.out HCUT.out).mono ?_
  rintro e W1 ⟨rfl, hb⟩
  have HW1 := Lib.hid hb
  clear hb
  go_wp2_with fail
  refine (cNumber_in hop _).mono ?_
  rintro e W2 ⟨rfl, hb⟩
  have HW2 := Lib.hid (HW1.out.trans (hb.mono HW1.out.size))
  clear hb HW1
  go_wp2_with fail
  refine (cMust _ _ _).mono ?_
  rintro e w' ⟨rfl, rfl⟩
  have hma := Lib.hid (may0 hop)
  have HTB := Lib.hid (HG.out.b HW2.out).tb
  go_wp2_with fail
  refine (cText_in hma.out HTB.out).mono ?_
  rintro e W3 ⟨rfl, hb⟩
  have HW3 := Lib.hid (HW2.out.trans (hb.mono HW2.out.size))
  clear hb HW2 HTB hma
  go_wp2_with fail
  refine (cMust _ _ _).mono ?_
  rintro e w' ⟨rfl, rfl⟩
  have HTS := Lib.hid (Nat.lt_trans (told_size hop) (show 100 < 4294967281 by decide))
  go_wp2_with fail
  refine (cCut (HG.out.b HW3.out) HTS.out (told_cut hop hu0)).mono ?_
  rintro e W4 ⟨rfl, hb⟩
  have HW4 := Lib.hid (HW3.out.trans (hb.mono HW3.out.size))
  clear hb HW3 HTS
  go_wp2_with fail
  refine (cMust _ _ _).mono ?_
  rintro e w' ⟨rfl, rfl⟩
  have HI := Lib.hid (Cells.new W4 69 #[.int .i64 op, .int .i64 0, .int .i64 0, .int .i64 0])
  have HW5 := Lib.hid (HW4.out.alloc HW4.out.size (.cells #[.int .i64 op, .int .i64 0, .int .i64 0, .int .i64 0] 69))
  have s4 : (W4.alloc (.cells #[.int .i64 op, .int .i64 0, .int .i64 0, .int .i64 0] 69)).heap.size = W4.heap.size + 1 := World.size_alloc _ _
  go_wp2_with fail
  generalize World.alloc _ _ = W5 at *
  refine (cComma (HG.out.b HW5.out) HR2.out HOK.out.spl HOK.out.cnt).mono ?_
  rintro e w' ⟨rfl, rfl⟩
  have HCP := Lib.hid (Cells.new W5 9 (P.map Value.string).toArray)
  have HI6 := Lib.hid (HI.out.alloc (.cells (P.map Value.string).toArray 9))
  have HW6 := Lib.hid (HW5.out.alloc HW5.out.size (.cells (P.map Value.string).toArray 9))
  have s6 : (W5.alloc (.cells (P.map Value.string).toArray 9)).heap.size = W4.heap.size + 1 + 1 := by rw [World.size_alloc, s4]
  rw [s4] at HCP ⊢
  clear HI HW5 HS HCUT
  go_wp2_with fail
  generalize World.alloc _ _ = W6 at *
  refine (cComma (HG.out.b HW6.out) (Nat.lt_trans (form_size HOK.out.hu) (show 100 < 4294967281 by decide)) (form_split HOK.out.hu).1 (form_split HOK.out.hu).2).mono ?_
  rintro e w' ⟨rfl, rfl⟩
  have HCF := Lib.hid (Cells.new W6 9 ((formsL (usesL op)).map Value.string).toArray)
  have HCP7 := Lib.hid (HCP.out.alloc (.cells ((formsL (usesL op)).map Value.string).toArray 9))
  have HI7 := Lib.hid (HI6.out.alloc (.cells ((formsL (usesL op)).map Value.string).toArray 9))
  have HW7 := Lib.hid (HW6.out.alloc HW6.out.size (.cells ((formsL (usesL op)).map Value.string).toArray 9))
  have s7 : (W6.alloc (.cells ((formsL (usesL op)).map Value.string).toArray 9)).heap.size = W4.heap.size + 1 + 1 + 1 := by rw [World.size_alloc, s6]
  rw [s6] at HCF ⊢
  have hlF : (formsL (usesL op)).length = P.length := HOK.out.len.symm
  have HOKB := HOK.out.len
  rw [hlF] at HOKB ⊢
  generalize hF : formsL (usesL op) = F at *
  clear HI6 HCP HW6 HOKB
  go_wp2_with fail
  generalize World.alloc _ _ = W7 at *
  refine (cMust _ _ _).mono ?_
  rintro e w' ⟨rfl, rfl⟩
  have HREG := Lib.hid HOK.out.regs
  rw [hF] at HREG
  have hFm : ∀ f ∈ F, f = ⟨#[114, 48]⟩ ∨ f = ⟨#[48]⟩ := fun f hf => forms_two HOK.out.hu (hF ▸ hf)
  have HFM := Lib.hid hFm
  have HLF := Lib.hid hlF
  have HFF := Lib.hid hF
  have hib : W.heap.size ≤ W4.heap.size := HW4.out.size
  have hP0 : 0 < P.length := by have := HOK.out.cnt; omega
  clear hFm hF hlF s4 s6
  generalize W4.heap.size = ib at *
  have hP1 : P.length ≤ 3 := by rw [HOK.out.len]; exact txL_len _ _ _ _ _
  go_wp2_with fail
  go_loopw [19, 87] (fun im i wr => ∃ k : Nat, k ≤ P.length ∧ i = .int .i64 k ∧ im = .string (instSt F P k).1 ∧ Cells wr ib 69 #[.int .i64 op, .int .i64 (instSt F P k).2.1, .int .i64 (instSt F P k).2.2, .int .i64 0] ∧ KeptBut (fun b => b = ib) W7 wr) (fun _ i _ => P.length - (intOf i).toNat)
  case atStart => exact ⟨0, Nat.zero_le _, rfl, rfl, HI7.out, KeptBut.refl _ _⟩
  case round =>
    obtain ⟨k, hk, rfl, rfl, hi, hkb⟩ := hrel
    by_cases hlt : k < P.length
    · obtain ⟨x, hx⟩ : ∃ x, P[k]? = some x := ⟨_, List.getElem?_eq_getElem hlt⟩
      obtain ⟨f, hf⟩ : ∃ f, F[k]? = some f := ⟨_, List.getElem?_eq_getElem (by rw [HLF.out]; exact hlt)⟩
      have cx := cells_str (hkb.cells HCP7.out (by omega)) hx
      have cf := cells_str (hkb.cells HCF.out (by omega)) hf
      have fi1 := hi.frozen 1
      have fi2 := hi.frozen 2
      have qi1 := (hi.cell 1).trans (show _ = some (Value.int .i64 (instSt F P k).2.1) from rfl)
      have qi2 := (hi.cell 2).trans (show _ = some (Value.int .i64 (instSt F P k).2.2) from rfl)
      have HX := Lib.hid hx
      have HI := Lib.hid hi
      have HKB := Lib.hid hkb
      have HFK := Lib.hid hf
      clear hx hi hkb hf
      rcases HFM.out f (List.mem_of_getElem? HFK.out) with rfl | rfl
      · have hr := HREG.out k x HFK.out HX.out
        by_cases hk0 : k = 0
        · subst hk0
          have HE := Lib.hid (instSt_a HFK.out HX.out)
          go_wp2_with fail
          refine (cRegister x _).mono ?_
          rintro e w' ⟨rfl, rfl⟩
          go_wp2_with fail
          refine (cMust _ _ _).mono ?_
          rintro e w' ⟨rfl, rfl⟩
          go_wp2
          go_roundw
          case rel => exact ⟨1, by omega, rfl, by rw [HE.out]; rfl, by rw [HE.out]; exact HI.out.set 1 _, HKB.out.trans (KeptBut.set (S := fun b => b = ib) rfl 1 _)⟩
          case measure => simp [intOf]; omega
        · have HE := Lib.hid (instSt_b hk0 HFK.out HX.out)
          go_wp2_with fail
          refine (cRegister x _).mono ?_
          rintro e w' ⟨rfl, rfl⟩
          go_wp2_with fail
          refine (cMust _ _ _).mono ?_
          rintro e w' ⟨rfl, rfl⟩
          go_wp2
          go_roundw
          case rel => exact ⟨k + 1, by omega, by go_num, by rw [HE.out], by rw [HE.out]; exact HI.out.set 2 _, HKB.out.trans (KeptBut.set (S := fun b => b = ib) rfl 2 _)⟩
          case measure => simp [intOf]; omega
      · have HE := Lib.hid (instSt_n HFK.out HX.out)
        go_wp2_with fail
        refine (cRegister x _).mono ?_
        rintro e w' ⟨rfl, rfl⟩
        go_wp2
        go_roundw
        case rel => exact ⟨k + 1, by omega, by go_num, by rw [HE.out], by rw [HE.out]; exact HI.out, HKB.out⟩
        case measure => simp [intOf]; omega
    · obtain rfl : k = P.length := by omega
      have HI := Lib.hid hi
      have HW8 := Lib.hid (HW7.out.trans (hkb.below (n := W.heap.size) (fun q e => by omega) HW7.out.size))
      have HCFr := Lib.hid (hkb.cells HCF.out (by omega))
      clear hi hkb hk hlt HI7 HCP7 HREG HFM HLF HW7
      rw [HST.out] at HI ⊢
      have hm := HNM.out
      have q0 := (HI.out.cell 0).trans (show _ = some (Value.int .i64 op) from rfl)
      go_wp2_with fail
      refine (cNm st.1 wr).mono ?_
      rintro e W9 ⟨rfl, hb⟩
      rw [hm]
      have HW9 := Lib.hid (HW8.out.trans (hb.mono HW8.out.size))
      have HI9 := Lib.hid (HI.out.below hb HI.out.lt)
      clear hb HW8 HI HCF HCFr q0
      have q0 := (HI9.out.cell 0).trans (show _ = some (Value.int .i64 op) from rfl)
      have q1 := (HI9.out.cell 1).trans (show _ = some (Value.int .i64 st.2.1) from rfl)
      have q2 := (HI9.out.cell 2).trans (show _ = some (Value.int .i64 st.2.2) from rfl)
      have q3 := (HI9.out.cell 3).trans (show _ = some (Value.int .i64 0) from rfl)
      have HW10 := Lib.hid (HW9.out.alloc HW9.out.size (.cells #[.int .i64 op, .int .i64 st.2.1, .int .i64 st.2.2, .int .i64 0] 69))
      have HJ10 := Lib.hid (Cells.new W9 69 #[.int .i64 op, .int .i64 st.2.1, .int .i64 st.2.2, .int .i64 0])
      have s10 : (W9.alloc (.cells #[.int .i64 op, .int .i64 st.2.1, .int .i64 st.2.2, .int .i64 0] 69)).heap.size = W9.heap.size + 1 := World.size_alloc _ _
      have hb9 : W.heap.size ≤ W9.heap.size := HW9.out.size
      have HW9s := HW9
      clear HI9 HW9
      go_wp2_with fail
      generalize World.alloc _ _ = W10 at *
      generalize W9.heap.size = hb at *
      refine (cWordNo (HP.out.below HW10.out) hbl hlen).mono ?_
      rintro e W11 ⟨rfl, hx⟩
      exact ⟨rfl, rfl, HW10.out.trans (hx.mono HW10.out.size)⟩
end
end Go.Proofs.YtbfmlmnhdogojaaGreatDoor
namespace Go.Proofs.YtbfmlmnhdogojaaGreatDoor
open Go.RowKit Go.Shelf

section
variable {W : World} {R pb : Nat} {vb vn vh : Value} {line : Int} {bs : List Int} {ns : List (ByteArray × Int)} {hs : List HoleV} {s : ByteArray}
set_option maxRecDepth 100000 in
set_option maxHeartbeats 1000000 in
theorem cInst0Much {op : Int} (hG : Gl W) (h : PS W R pb vb vn vh line bs ns hs) (hop : 1 ≤ op ∧ op ≤ 28) (hu : usesL op = 0) (hbl : bs.length ≤ 2048) (hlen : 2048 < bs.length + 4) (hR : R ≤ W.heap.size) :
    Calls Tryz.prog 72 #[.pointer (some ⟨pb, 0, none⟩), .string (nameL op)] W fun e W' => e = .panicked (failC line 282) ∧ Below W.heap.size W W' := by
  have HG := Lib.hid hG
  have HP := Lib.hid h
  have HR := Lib.hid hR
  have HS := Lib.hid (show (nameL op).size < 4294967281 by have := name_size hop; omega)
  clear hG h hR
  go_enter Tryz.func72, Tryz.ntmps72
  go_wp2_with fail
  refine (cCutNo HG.out HS.out (name_cut hop)).mono ?_
  rintro e W1 ⟨rfl, hb⟩
  have HW1 := Lib.hid hb
  clear hb
  go_wp2_with fail
  refine (cNumber_in hop _).mono ?_
  rintro e W2 ⟨rfl, hb⟩
  have HW2 := Lib.hid (HW1.out.trans (hb.mono HW1.out.size))
  clear hb HW1
  go_wp2_with fail
  refine (cMust _ _ _).mono ?_
  rintro e w' ⟨rfl, rfl⟩
  have hma := Lib.hid (may0 hop)
  have HTB := Lib.hid (HG.out.b HW2.out).tb
  go_wp2_with fail
  refine (cText_in hma.out HTB.out).mono ?_
  rintro e W3 ⟨rfl, hb⟩
  have HW3 := Lib.hid (HW2.out.trans (hb.mono HW2.out.size))
  clear hb HW2 HTB hma
  go_wp2_with fail
  refine (cMust _ _ _).mono ?_
  rintro e w' ⟨rfl, rfl⟩
  have HTS := Lib.hid (Nat.lt_trans (told_size hop) (show 100 < 4294967281 by decide))
  go_wp2_with fail
  refine (cCutNo (HG.out.b HW3.out) HTS.out (told_no hop hu)).mono ?_
  rintro e W4 ⟨rfl, hb⟩
  have HW4 := Lib.hid (HW3.out.trans (hb.mono HW3.out.size))
  clear hb HW3 HTS
  go_wp2_with fail
  refine (cMust _ _ _).mono ?_
  rintro e w' ⟨rfl, rfl⟩
  have HI := Lib.hid (Cells.new W4 69 #[.int .i64 op, .int .i64 0, .int .i64 0, .int .i64 0])
  have q0 := HI.out.cell 0
  have q1 := HI.out.cell 1
  have q2 := HI.out.cell 2
  have q3 := HI.out.cell 3
  have HW5 := Lib.hid (HW4.out.alloc HW4.out.size (.cells #[.int .i64 op, .int .i64 0, .int .i64 0, .int .i64 0] 69))
  go_wp2_with fail
  clear q0 q1 q2 q3 HI
  generalize World.alloc _ _ = W5 at *
  refine (cEncode_in (may0 hop) _).mono ?_
  rintro e W6 ⟨rfl, hb⟩
  have HW6 := Lib.hid (HW5.out.trans (hb.mono HW5.out.size))
  clear hb HW5 HW4
  go_wp2_with fail
  refine (cWordNo (HP.out.below HW6.out) hbl hlen).mono ?_
  rintro e W7 ⟨rfl, hx⟩
  exact ⟨rfl, rfl, HW6.out.trans (hx.mono HW6.out.size)⟩
end
end Go.Proofs.YtbfmlmnhdogojaaGreatDoor
namespace Go.Proofs.YtbfmlmnhdogojaaGreatDoor
open Go.RowKit Go.Shelf

theorem cut_eq (s : ByteArray) : Lib.cut s.data.toList [32] = ((firstW s).data.toList, (restW s).data.toList, moreW s) := by
  unfold firstW restW moreW; simp
theorem cut_no {s : ByteArray} (h : moreW s = false) : firstW s = s ∧ restW s = ⟨#[]⟩ := by
  unfold moreW at h
  unfold firstW restW
  unfold Lib.cut at h ⊢
  split at h
  · simp at h
  · rename_i hn
    rw [if_neg hn]
    exact ⟨ByteArray.ext (by simp), rfl⟩
theorem restW_size (s : ByteArray) : (restW s).size ≤ s.size := by
  have e : (restW s).size = (Lib.cut s.data.toList [32]).2.1.length := by unfold restW; simp [ByteArray.size]
  rw [e, ← size_list s]
  unfold Lib.cut
  split
  · simp only [List.length_drop]; omega
  · simp
theorem firstW_size (s : ByteArray) : (firstW s).size ≤ s.size := by
  have e : (firstW s).size = (Lib.cut s.data.toList [32]).1.length := by unfold firstW; simp [ByteArray.size]
  rw [e, ← size_list s]
  unfold Lib.cut
  split
  · simp only [List.length_take]; omega
  · simp
theorem regL_le (s : ByteArray) : regL s ≤ 7 := by
  unfold regL
  split
  · split <;> omega
  · omega
theorem forms3 : formsL 3 = [⟨#[114, 48]⟩, ⟨#[114, 48]⟩] := by decide +kernel
theorem forms5 : formsL 5 = [⟨#[114, 48]⟩, ⟨#[48]⟩] := by decide +kernel
theorem forms7 : formsL 7 = [⟨#[114, 48]⟩, ⟨#[114, 48]⟩, ⟨#[48]⟩] := by decide +kernel
theorem inst3 (p q : ByteArray) : instSt (formsL 3) [p, q] 2 = (⟨#[]⟩, regL p, regL q) := by rw [forms3]; rfl
theorem inst5 (p q : ByteArray) : instSt (formsL 5) [p, q] 2 = (q, regL p, 0) := by
  rw [forms5]; simp [instSt, show (ByteArray.mk #[48]) ≠ ⟨#[114, 48]⟩ by decide]
theorem inst7 (p q r : ByteArray) : instSt (formsL 7) [p, q, r] 3 = (r, regL p, regL q) := by
  rw [forms7]; simp [instSt, show (ByteArray.mk #[48]) ≠ ⟨#[114, 48]⟩ by decide]
theorem regs3 {p q : ByteArray} (h : regsB (formsL 3) [p, q] = true) : 0 ≤ regL p ∧ 0 ≤ regL q := by
  rw [forms3] at h
  have h0 := List.all_eq_true.1 h 0 (List.mem_range.2 (by simp))
  have h1 := List.all_eq_true.1 h 1 (List.mem_range.2 (by simp))
  simp at h0 h1
  exact ⟨h0, h1⟩
theorem regs5 {p q : ByteArray} (h : regsB (formsL 5) [p, q] = true) : 0 ≤ regL p := by
  rw [forms5] at h
  have h0 := List.all_eq_true.1 h 0 (List.mem_range.2 (by simp))
  simp at h0
  exact h0
theorem regs7 {p q r : ByteArray} (h : regsB (formsL 7) [p, q, r] = true) : 0 ≤ regL p ∧ 0 ≤ regL q := by
  rw [forms7] at h
  have h0 := List.all_eq_true.1 h 0 (List.mem_range.2 (by simp))
  have h1 := List.all_eq_true.1 h 1 (List.mem_range.2 (by simp))
  simp at h0 h1
  exact ⟨h0, h1⟩
theorem may_in {op u a b n : Int} (hop : 1 ≤ op ∧ op ≤ 28) (hu : usesL op = u) (h : (hasU u 1 = true ∧ 0 ≤ a ∧ a ≤ 7) ∧ (b = 0 ∨ hasU u 2 = true ∧ 0 ≤ b ∧ b ≤ 7) ∧ (n = 0 ∨ hasU u 4 = true ∧ -32768 ≤ n ∧ n ≤ 32767)) : mayL op a b n = true := by
  obtain ⟨⟨a0, a1, a2⟩, hb, hn⟩ := h
  unfold mayL within
  rw [hu, a0]
  rcases hb with rfl | ⟨b0, b1, b2⟩ <;> rcases hn with rfl | ⟨n0, n1, n2⟩ <;> simp [*]
/-- The parts of an instruction: two or three. -/
theorem parts_cases {op : Int} (hu : usesL op = 3 ∨ usesL op = 5 ∨ usesL op = 7) {P : List ByteArray} (hl : P.length = (formsL (usesL op)).length) :
    (usesL op = 3 ∧ ∃ p q, P = [p, q]) ∨ (usesL op = 5 ∧ ∃ p q, P = [p, q]) ∨ (usesL op = 7 ∧ ∃ p q r, P = [p, q, r]) := by
  rcases hu with hu | hu | hu
  · rw [hu, forms3] at hl
    match P, hl with
    | [p, q], _ => exact .inl ⟨hu, p, q, rfl⟩
  · rw [hu, forms5] at hl
    match P, hl with
    | [p, q], _ => exact .inr (.inl ⟨hu, p, q, rfl⟩)
  · rw [hu, forms7] at hl
    match P, hl with
    | [p, q, r], _ => exact .inr (.inr ⟨hu, p, q, r, rfl⟩)
theorem inst_may {op n : Int} (hop : 1 ≤ op ∧ op ≤ 28) (hu : usesL op = 3 ∨ usesL op = 5 ∨ usesL op = 7) {P : List ByteArray} (hl : P.length = (formsL (usesL op)).length) (hr : regsB (formsL (usesL op)) P = true) (hn : if usesL op = 3 then n = 0 else -32768 ≤ n ∧ n ≤ 32767) :
    mayL op (instSt (formsL (usesL op)) P P.length).2.1 (instSt (formsL (usesL op)) P P.length).2.2 n = true := by
  rcases parts_cases hu hl with ⟨e, p, q, rfl⟩ | ⟨e, p, q, rfl⟩ | ⟨e, p, q, r, rfl⟩
  · rw [e] at hr hn ⊢
    rw [if_pos rfl] at hn
    subst hn
    have h := regs3 hr
    rw [show ([p, q] : List ByteArray).length = 2 from rfl, inst3]
    have h1 := regL_le p
    have h2 := regL_le q
    exact may_in hop e ⟨⟨by decide, h.1, h1⟩, .inr ⟨by decide, h.2, h2⟩, .inl rfl⟩
  · rw [e] at hr hn ⊢
    rw [if_neg (by decide)] at hn
    have h := regs5 hr
    rw [show ([p, q] : List ByteArray).length = 2 from rfl, inst5]
    have h1 := regL_le p
    exact may_in hop e ⟨⟨by decide, h, h1⟩, .inl rfl, .inr ⟨by decide, hn.1, hn.2⟩⟩
  · rw [e] at hr hn ⊢
    rw [if_neg (by decide)] at hn
    have h := regs7 hr
    rw [show ([p, q, r] : List ByteArray).length = 3 from rfl, inst7]
    have h1 := regL_le p
    have h2 := regL_le q
    exact may_in hop e ⟨⟨by decide, h.1, h1⟩, .inr ⟨by decide, h.2, h2⟩, .inr ⟨by decide, hn.1, hn.2⟩⟩
theorem commaL_cnt (s : ByteArray) : Lib.countB s ⟨#[44, 32]⟩ + 1 = (commaL s).length := (Lib.splitB_all _ (by decide) 0 _ s rfl).symm
theorem commaL_size {s x : ByteArray} (h : x ∈ commaL s) : x.size ≤ s.size := splitB_size _ _ _ _ _ h
theorem all_range_false {n : Nat} {f : Nat → Bool} (h : (List.range n).all f = false) : ∃ m, m < n ∧ f m = false ∧ ∀ k, k < m → f k = true := by
  obtain ⟨m, x, h1, h2, h3⟩ := first_bad h
  have hm := (List.getElem?_eq_some_iff.1 h1).1
  rw [List.length_range] at hm
  rw [List.getElem?_range hm] at h1
  simp at h1
  subst h1
  exact ⟨m, hm, h2, fun k hk => h3 k k hk (by rw [List.getElem?_range (by omega)])⟩
section
variable {W : World} {R pb : Nat} {vb vn vh : Value} {line : Int} {s : ByteArray} {t : StV}
theorem cInstA (hG : Gl W) (h : PSI W R pb vb vn vh line t) (hs' : s.size < 1000000000) (hbl : t.bs.length ≤ 2048) (hhl : t.hs.length ≤ 100000) (hR : R ≤ W.heap.size) :
    Calls Tryz.prog 72 #[.pointer (some ⟨pb, 0, none⟩), .string s] W fun e W' => OutI W W' R pb vb vn vh line e (instV line t s) := by
  obtain ⟨hv, hP, hH⟩ := h
  have hcut := cut_eq s
  have hrs := restW_size s
  have hps : ∀ x ∈ commaL (restW s), x.size < 4294967281 := fun x hx => by have := commaL_size hx; omega
  unfold instV
  cases ho : opV (firstW s) with
  | none => exact (cInstNoOp hG hP (by omega) hcut (opV_none ho)).mono fun e W' he => OutI.low he
  | some op =>
    obtain ⟨hop, hname⟩ := opV_some ho
    rw [← hname] at hcut
    simp only
    by_cases hu : usesL op = 0
    · cases hm : moreW s with
      | true =>
        rw [hm] at hcut
        rw [if_pos (by rw [hu]; decide)]
        exact (cInstMore hG hP hop hu (by omega) hcut).mono fun e W' he => OutI.low he
      | false =>
        rw [if_neg (by rw [hu]; decide), if_pos hu]
        have hs : s = nameL op := by rw [hname, (cut_no hm).1]
        subst hs
        have h4 : (fourI (encL op 0 0 0)).length = 4 := rfl
        by_cases hr : t.bs.length + 4 ≤ 2048
        · rw [putV_ok (by rw [h4]; exact hr)]
          exact (cInst0 hG hP hop hu hr hR).mono fun e W' he => ⟨he.1, StI.of0 hH he.2 (by simp)⟩
        · rw [putV_no (by rw [h4]; exact hr)]
          exact (cInst0Much hG hP hop hu hbl (by omega) hR).mono fun e W' he => OutI.low he
    · have hu3 : usesL op = 3 ∨ usesL op = 5 ∨ usesL op = 7 := (uses4 hop).resolve_left hu
      cases hm : moreW s with
      | false =>
        rw [hm] at hcut
        rw [if_pos (by simp [hu])]
        exact (cInstLess hG hP hop hu (by omega) hcut).mono fun e W' he => OutI.low he
      | true =>
        rw [hm] at hcut
        rw [if_neg (by simp [hu]), if_neg hu]
        by_cases hl : (commaL (restW s)).length = (formsL (usesL op)).length
        · rw [if_neg (by simpa using hl)]
          cases hreg : regsB (formsL (usesL op)) (commaL (restW s)) with
          | false =>
            rw [if_pos rfl]
            obtain ⟨m, hml, hbad, hlow⟩ := all_range_false hreg
            simp at hbad
            have hfm : (formsL (usesL op))[m]? = some ⟨#[114, 48]⟩ := by
              rw [List.getElem?_eq_getElem (by omega)] at hbad ⊢
              simpa using hbad.1
            refine (cInstBad hG hP hop (by omega) (by omega) hcut ⟨hu3, rfl, commaL_cnt _, hl, fun k x hk hf hx => ?_⟩ hml hfm (fun x hx => by rw [hx] at hbad; simpa using hbad.2)).mono fun e W' he => OutI.low he
            have h1 := hlow k hk
            simpa [List.getD_eq_getElem?_getD, hf, hx] using h1
          | true =>
            rw [if_neg (by simp)]
            have hok : PartsOk (usesL op) (restW s) (commaL (restW s)) := ⟨hu3, rfl, commaL_cnt _, hl, fun k x hf hx => by
              have h1 := List.all_eq_true.1 hreg k (List.mem_range.2 (List.getElem?_eq_some_iff.1 hx).1)
              simpa [List.getD_eq_getElem?_getD, hf, hx] using h1⟩
            have hmay := fun n hn => inst_may (n := n) hop hu3 hl hreg hn
            obtain ⟨st, hst⟩ : ∃ st, instSt (formsL (usesL op)) (commaL (restW s)) (commaL (restW s)).length = st := ⟨_, rfl⟩
            have hcases := parts_cases hu3 hl
            have hst3 : usesL op = 3 → st.1 = ⟨#[]⟩ := fun e => by
              rcases hcases with ⟨_, p, q, e2⟩ | ⟨e2, _⟩ | ⟨e2, _⟩
              · rw [← hst, e2, e]; rw [show ([p, q] : List ByteArray).length = 2 from rfl, inst3]
              · omega
              · omega
            have hssz : st.1.size < 4294967281 := by
              rcases hcases with ⟨e, p, q, e2⟩ | ⟨e, p, q, e2⟩ | ⟨e, p, q, r, e2⟩
              · rw [hst3 e]; decide
              · rw [← hst, e2, e]; rw [show ([p, q] : List ByteArray).length = 2 from rfl, inst5]; exact hps q (by rw [e2]; simp)
              · rw [← hst, e2, e]; rw [show ([p, q, r] : List ByteArray).length = 3 from rfl, inst7]; exact hps r (by rw [e2]; simp)
            rw [hst] at hmay ⊢
            have h4 : ∀ n, (fourI n).length = 4 := fun _ => rfl
            cases hnm : nameB st.1 with
            | true =>
              rw [if_pos rfl]
              by_cases hr : t.bs.length + 4 ≤ 2048
              · rw [putV_ok (by rw [h4]; exact hr)]
                refine (cInstM hG hP hop (by omega) (by omega) hcut hok hst hnm hr (by rw [hH.1]; exact hhl) hR).mono fun e W' he => ⟨he.1, ?_⟩
                obtain ⟨ib, vb', vn', vh', h1, h2, h3, h5, h6, h7⟩ := he.2
                refine ⟨vb', vn', vh', ⟨_, h1, (hH.on h2 h3).append ⟨rfl, fun i v p e1 e2 => ?_⟩⟩, h2, h3⟩
                cases i with
                | zero =>
                  simp at e1 e2
                  subst e1 e2
                  exact ⟨rfl, rfl, rfl, fun e => (by cases e), fun op' a b e => by
                    simp at e
                    obtain ⟨rfl, rfl, rfl⟩ := e
                    exact ⟨ib, rfl, Nat.le_trans hR h5, h7, 0, h6⟩⟩
                | succ i => simp at e1
              · rw [putV_no (by rw [h4]; exact hr)]
                exact (cInstMMuch hG hP hop (by omega) (by omega) hcut hok hst hnm hbl (by omega) hR).mono fun e W' he => OutI.low he
            | false =>
              rw [if_neg (by simp)]
              by_cases h3 : usesL op = 3
              · rw [if_pos h3]
                have hm0 := hmay 0 (by rw [if_pos h3])
                by_cases hr : t.bs.length + 4 ≤ 2048
                · rw [putV_ok (by rw [h4]; exact hr)]
                  exact (cInstR hG hP hop h3 (by omega) (by omega) hcut hok hst hm0 hr hR).mono fun e W' he => ⟨he.1, StI.of0 hH he.2 (by simp)⟩
                · rw [putV_no (by rw [h4]; exact hr)]
                  exact (cInstRMuch hG hP hop (by omega) (by omega) hcut hok hst h3 hm0 hbl (by omega) hR).mono fun e W' he => OutI.low he
              · rw [if_neg h3]
                cases hnb : numB st.1 (-32768) 32767 with
                | false =>
                  rw [if_pos rfl]
                  by_cases hz : st.1 = ⟨#[]⟩
                  · rcases hcases with ⟨e, p, q, e2⟩ | ⟨e, p, q, e2⟩ | ⟨e, p, q, r, e2⟩
                    · exact absurd e h3
                    · exact (cInstNumNil1 hG hP hop (by omega) (by omega) hcut hok hst hz (by rw [e2]; rfl) (by rw [e, forms5]; rfl) hR).mono fun e W' he => OutI.low he
                    · exact (cInstNumNil2 hG hP hop (by omega) (by omega) hcut hok hst hz (by rw [e2]; rfl) (by rw [e, forms7]; rfl) hR).mono fun e W' he => OutI.low he
                  · have hpos : 0 < st.1.size := by
                      rcases Nat.eq_zero_or_pos st.1.size with e | e
                      · exact absurd (ByteArray.ext (Array.eq_empty_of_size_eq_zero e)) hz
                      · exact e
                    exact (cInstNumBad hG hP hop (by omega) (by omega) hcut hok hst hpos hnm ⟨hssz, hnb⟩ hR).mono fun e W' he => OutI.low he
                | true =>
                  rw [if_neg (by simp)]
                  have hmn := hmay (numV st.1) (by rw [if_neg h3]; exact numB_bounds hnb)
                  by_cases hr : t.bs.length + 4 ≤ 2048
                  · rw [putV_ok (by rw [h4]; exact hr)]
                    exact (cInstN hG hP hop (by omega) (by omega) hcut hok hst hnm ⟨hssz, hnb⟩ hmn hr hR).mono fun e W' he => ⟨he.1, StI.of0 hH he.2 (by simp)⟩
                  · rw [putV_no (by rw [h4]; exact hr)]
                    exact (cInstNMuch hG hP hop (by omega) (by omega) hcut hok hst hnm ⟨hssz, hnb⟩ hmn hbl (by omega) hR).mono fun e W' he => OutI.low he
        · rw [if_pos hl]
          exact (cInstCount hG hP hop (by omega) (by omega) hcut hu3 (commaL_cnt _) (by omega)).mono fun e W' he => OutI.low he
end
end Go.Proofs.YtbfmlmnhdogojaaGreatDoor
