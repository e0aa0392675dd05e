/- An instruction's line: how it is told; one of no parts: contract. -/
import Derived.Test.YtbfmlmnhdogojaaGreatDoorKe
import Derived.Test.YtbfmlmnhdogojaaGreatDoorTx3
import Derived.Test.YtbfmlmnhdogojaaGreatDoorEn
import Derived.Test.YtbfmlmnhdogojaaGreatDoorPi
namespace Go.Proofs.YtbfmlmnhdogojaaGreatDoor
open Go.RowKit Go.Shelf

/-- How an instruction's parts are told. -/
def formsL (u : Int) : List ByteArray := txL u 0 0 0 3
def formB (u : Int) : ByteArray := ⟨(Lib.join ((formsL u).map (·.data.toList)) [44, 32]).toArray⟩
def commaL (s : ByteArray) : List ByteArray := Lib.splitB ⟨#[44, 32]⟩ 0 (Lib.countB s ⟨#[44, 32]⟩) s
theorem may0 {op : Int} (h : 1 ≤ op ∧ op ≤ 28) : mayL op 0 0 0 = true := by
  rcases cases28 h with rfl | rfl | rfl | rfl | rfl | rfl | rfl | rfl | rfl | rfl | rfl | rfl | rfl | rfl | rfl | rfl | rfl | rfl | rfl | rfl | rfl | rfl | rfl | rfl | rfl | rfl | rfl | rfl <;> decide +kernel
theorem told_cut {op : Int} (h : 1 ≤ op ∧ op ≤ 28) (hu : usesL op ≠ 0) : CutsTo (textB op 0 0 0) (nameL op) (formB (usesL op)) := by
  rcases cases28 h with rfl | rfl | rfl | rfl | rfl | rfl | rfl | rfl | rfl | rfl | rfl | rfl | rfl | rfl | rfl | rfl | rfl | rfl | rfl | rfl | rfl | rfl | rfl | rfl | rfl | rfl | rfl | rfl <;> first | exact absurd (by decide +kernel) hu | (unfold CutsTo; decide +kernel)
theorem told_no {op : Int} (h : 1 ≤ op ∧ op ≤ 28) (hu : usesL op = 0) : Lib.cut (textB op 0 0 0).data.toList [32] = ((nameL op).data.toList, [], false) := by
  rcases cases28 h with rfl | rfl | rfl | rfl | rfl | rfl | rfl | rfl | rfl | rfl | rfl | rfl | rfl | rfl | rfl | rfl | rfl | rfl | rfl | rfl | rfl | rfl | rfl | rfl | rfl | rfl | rfl | rfl <;> first | exact absurd hu (by decide +kernel) | decide +kernel
theorem told_size {op : Int} (h : 1 ≤ op ∧ op ≤ 28) : (textB op 0 0 0).size < 100 := by
  rcases cases28 h with rfl | rfl | rfl | rfl | rfl | rfl | rfl | rfl | rfl | rfl | rfl | rfl | rfl | rfl | rfl | rfl | rfl | rfl | rfl | rfl | rfl | rfl | rfl | rfl | rfl | rfl | rfl | rfl <;> decide +kernel
theorem form_split {u : Int} (hu : u = 3 ∨ u = 5 ∨ u = 7) : commaL (formB u) = formsL u ∧ Lib.countB (formB u) ⟨#[44, 32]⟩ + 1 = (formsL u).length := by
  rcases hu with rfl | rfl | rfl <;> constructor <;> decide +kernel
theorem form_size {u : Int} (hu : u = 3 ∨ u = 5 ∨ u = 7) : (formB u).size < 100 := by
  rcases hu with rfl | rfl | rfl <;> decide +kernel
theorem cCutNo {W : World} {s : ByteArray} (hG : Gl W) (hl : s.size < 4294967281) {a : ByteArray} (h : Lib.cut s.data.toList [32] = (a.data.toList, [], false)) : Calls Tryz.prog 70 #[.string s, .string ⟨#[32]⟩] W fun e w' => e = .returned (.tuple #[.string a, .string ⟨#[]⟩, .bool false]) ∧ Below W.heap.size W w' := by
  obtain ⟨m, hm⟩ := hG.ml
  refine (Tryz.strings_Cut s ⟨#[32]⟩ m W hl hm).mono ?_
  rintro e w' ⟨rfl, n, rfl⟩
  rw [show (ByteArray.mk #[32]).data.toList = [32] from rfl, h]
  exact ⟨rfl, ⟨rfl, rfl, rfl, Nat.le_refl _, fun _ _ => rfl⟩⟩
theorem name_cut {op : Int} (h : 1 ≤ op ∧ op ≤ 28) : Lib.cut (nameL op).data.toList [32] = ((nameL op).data.toList, [], false) := by
  rcases cases28 h with rfl | rfl | rfl | rfl | rfl | rfl | rfl | rfl | rfl | rfl | rfl | rfl | rfl | rfl | rfl | rfl | rfl | rfl | rfl | rfl | rfl | rfl | rfl | rfl | rfl | rfl | rfl | rfl <;> decide +kernel
theorem enc0_range {op : Int} (h : 1 ≤ op ∧ op ≤ 28) : 0 ≤ encL op 0 0 0 ∧ encL op 0 0 0 < 4294967296 := by unfold encL; omega
section
variable {W : World} {R pb : Nat} {vb vn vh : Value} {line : Int} {bs : List Int} {ns : List (ByteArray × Int)} {hs : List HoleV} {s : ByteArray}
set_option maxRecDepth 100000 in
set_option maxHeartbeats 1000000 in
theorem cInst0 {op : Int} (hG : Gl W) (h : PS W R pb vb vn vh line bs ns hs) (hop : 1 ≤ op ∧ op ≤ 28) (hu : usesL op = 0) (hlen : bs.length + 4 ≤ 2048) (hR : R ≤ W.heap.size) :
    Calls Tryz.prog 72 #[.pointer (some ⟨pb, 0, none⟩), .string (nameL op)] W fun e W' => e = .returned (.tuple #[]) ∧ Step W W' R pb vb vn vh line (bs ++ fourI (encL op 0 0 0)) ns hs := by
  have HG := Lib.hid hG
  have HP := Lib.hid h
  have HR := Lib.hid hR
  have HS := Lib.hid (show (nameL op).size < 4294967281 by have := name_size hop; omega)
  clear hG h hR
  go_enter Tryz.func72, Tryz.ntmps72
  go_wp2_with fail
  refine (cCutNo HG.out HS.out (name_cut hop)).mono ?_
  rintro e W1 ⟨rfl, hb⟩
  have HW1 := Lib.hid hb
  clear hb
  go_wp2_with fail
  refine (cNumber_in hop _).mono ?_
  rintro e W2 ⟨rfl, hb⟩
  have HW2 := Lib.hid (HW1.out.trans (hb.mono HW1.out.size))
  clear hb HW1
  go_wp2_with fail
  refine (cMust _ _ _).mono ?_
  rintro e w' ⟨rfl, rfl⟩
  have hma := Lib.hid (may0 hop)
  have HTB := Lib.hid (HG.out.b HW2.out).tb
  go_wp2_with fail
  refine (cText_in hma.out HTB.out).mono ?_
  rintro e W3 ⟨rfl, hb⟩
  have HW3 := Lib.hid (HW2.out.trans (hb.mono HW2.out.size))
  clear hb HW2 HTB hma
  go_wp2_with fail
  refine (cMust _ _ _).mono ?_
  rintro e w' ⟨rfl, rfl⟩
  have HTS := Lib.hid (Nat.lt_trans (told_size hop) (show 100 < 4294967281 by decide))
  go_wp2_with fail
  refine (cCutNo (HG.out.b HW3.out) HTS.out (told_no hop hu)).mono ?_
  rintro e W4 ⟨rfl, hb⟩
  have HW4 := Lib.hid (HW3.out.trans (hb.mono HW3.out.size))
  clear hb HW3 HTS
  go_wp2_with fail
  refine (cMust _ _ _).mono ?_
  rintro e w' ⟨rfl, rfl⟩
  have HI := Lib.hid (Cells.new W4 69 #[.int .i64 op, .int .i64 0, .int .i64 0, .int .i64 0])
  have q0 := HI.out.cell 0
  have q1 := HI.out.cell 1
  have q2 := HI.out.cell 2
  have q3 := HI.out.cell 3
  have HW5 := Lib.hid (HW4.out.alloc HW4.out.size (.cells #[.int .i64 op, .int .i64 0, .int .i64 0, .int .i64 0] 69))
  go_wp2_with fail
  clear q0 q1 q2 q3 HI
  generalize World.alloc _ _ = W5 at *
  refine (cEncode_in (may0 hop) _).mono ?_
  rintro e W6 ⟨rfl, hb⟩
  have HW6 := Lib.hid (HW5.out.trans (hb.mono HW5.out.size))
  clear hb HW5 HW4
  go_wp2_with fail
  refine (cWord (HP.out.below HW6.out) (enc0_range hop).1 (enc0_range hop).2 hlen (Nat.le_trans HR.out HW6.out.size)).mono ?_
  rintro e W7 ⟨rfl, hx⟩
  have HF := Lib.hid (Step.first HW6.out (Step.ofB hx))
  clear hx HW6
  go_wp2
  refine bodyPost_ret (results_none rfl _ _ _) rfl ?_
  exact ⟨rfl, HF.out⟩
end
end Go.Proofs.YtbfmlmnhdogojaaGreatDoor
namespace Go.Proofs.YtbfmlmnhdogojaaGreatDoor
open Go.RowKit Go.Shelf

/-- What the first parts make: the text of the number, two registers. -/
def instSt (F P : List ByteArray) : Nat → ByteArray × Int × Int
  | 0 => (⟨#[]⟩, 0, 0)
  | k + 1 => if F.getD k ⟨#[]⟩ = ⟨#[114, 48]⟩ then (if k = 0 then ((instSt F P k).1, regL (P.getD k ⟨#[]⟩), (instSt F P k).2.2) else ((instSt F P k).1, (instSt F P k).2.1, regL (P.getD k ⟨#[]⟩))) else (P.getD k ⟨#[]⟩, (instSt F P k).2.1, (instSt F P k).2.2)
/-- The parts may stand. -/
structure PartsOk (u : Int) (rest : ByteArray) (P : List ByteArray) : Prop where
  hu : u = 3 ∨ u = 5 ∨ u = 7
  spl : commaL rest = P
  cnt : Lib.countB rest ⟨#[44, 32]⟩ + 1 = P.length
  len : P.length = (formsL u).length
  regs : ∀ (k : Nat) (x : ByteArray), (formsL u)[k]? = some ⟨#[114, 48]⟩ → P[k]? = some x → 0 ≤ regL x
theorem forms_two {u : Int} (hu : u = 3 ∨ u = 5 ∨ u = 7) {f : ByteArray} (h : f ∈ formsL u) : f = ⟨#[114, 48]⟩ ∨ f = ⟨#[48]⟩ := by
  have e3 : formsL 3 = [⟨#[114, 48]⟩, ⟨#[114, 48]⟩] := by decide +kernel
  have e5 : formsL 5 = [⟨#[114, 48]⟩, ⟨#[48]⟩] := by decide +kernel
  have e7 : formsL 7 = [⟨#[114, 48]⟩, ⟨#[114, 48]⟩, ⟨#[48]⟩] := by decide +kernel
  rcases hu with rfl | rfl | rfl
  · rw [e3] at h; simp at h; exact .inl h
  · rw [e5] at h; simp at h; exact h
  · rw [e7] at h; simp at h; exact h
theorem instSt_a {F P : List ByteArray} {x : ByteArray} (hf : F[0]? = some ⟨#[114, 48]⟩) (hx : P[0]? = some x) : instSt F P 1 = (⟨#[]⟩, regL x, 0) := by
  simp [instSt, List.getD_eq_getElem?_getD, hf, hx]
theorem instSt_b {F P : List ByteArray} {k : Nat} {x : ByteArray} (hk : k ≠ 0) (hf : F[k]? = some ⟨#[114, 48]⟩) (hx : P[k]? = some x) : instSt F P (k + 1) = ((instSt F P k).1, (instSt F P k).2.1, regL x) := by
  simp [instSt, List.getD_eq_getElem?_getD, hf, hx, hk]
theorem instSt_n {F P : List ByteArray} {k : Nat} {x : ByteArray} (hf : F[k]? = some ⟨#[48]⟩) (hx : P[k]? = some x) : instSt F P (k + 1) = (x, (instSt F P k).2.1, (instSt F P k).2.2) := by
  have : (ByteArray.mk #[48]) ≠ ⟨#[114, 48]⟩ := by decide
  simp [instSt, List.getD_eq_getElem?_getD, hf, hx, this]
theorem cComma {W : World} {s : ByteArray} {P : List ByteArray} (hG : Gl W) (hl : s.size < 4294967281) (h : commaL s = P) (hc : Lib.countB s ⟨#[44, 32]⟩ + 1 = P.length) : Calls Tryz.prog 104 #[.string s, .string ⟨#[44, 32]⟩] W fun e w' => e = .returned (.slice (some ⟨W.heap.size, 0, none⟩) P.length P.length) ∧ w' = W.alloc (.cells (P.map Value.string).toArray 9) := by
  obtain ⟨m, hm⟩ := hG.ml
  refine (Tryz.strings_Split s ⟨#[44, 32]⟩ m W hl hm (by decide)).mono ?_
  rintro e w' ⟨rfl, rfl⟩
  rw [hc]
  subst h
  exact ⟨rfl, rfl⟩
theorem cells_str {W : World} {g : Nat} {l : List ByteArray} (h : Cells W g 9 (l.map Value.string).toArray) {k : Nat} {x : ByteArray} (hx : l[k]? = some x) : W.cell? ⟨g, k, none⟩ = some (.string x) := by
  rw [h.cell k, List.getElem?_toArray, List.getElem?_map, hx]; rfl
theorem enc_range {op a b n : Int} (hop : 1 ≤ op ∧ op ≤ 28) (h : mayL op a b n = true) : 0 ≤ encL op a b n ∧ encL op a b n < 4294967296 := by
  unfold mayL within at h
  simp at h
  unfold encL
  omega
section
variable {W : World} {R pb : Nat} {vb vn vh : Value} {line : Int} {bs : List Int} {ns : List (ByteArray × Int)} {hs : List HoleV} {s : ByteArray}
set_option maxRecDepth 100000 in
set_option maxHeartbeats 2000000 in
theorem cInstN {op : Int} {rest : ByteArray} {P : List ByteArray} (hG : Gl W) (h : PS W R pb vb vn vh line bs ns hs) (hop : 1 ≤ op ∧ op ≤ 28) (hs' : s.size < 4294967281) (hr' : rest.size < 4294967281) (hcut : CutsTo s (nameL op) rest) (hok : PartsOk (usesL op) rest P)
    {st : ByteArray × Int × Int} (hst : instSt (formsL (usesL op)) P P.length = st) (hnm : nameB st.1 = false) (hnb : st.1.size < 4294967281 ∧ numB st.1 (-32768) 32767 = true)
    (hmay : mayL op st.2.1 st.2.2 (numV st.1) = true) (hlen : bs.length + 4 ≤ 2048) (hR : R ≤ W.heap.size) :
    Calls Tryz.prog 72 #[.pointer (some ⟨pb, 0, none⟩), .string s] W fun e W' => e = .returned (.tuple #[]) ∧ Step W W' R pb vb vn vh line (bs ++ fourI (encL op st.2.1 st.2.2 (numV st.1))) ns hs := by
  have HNM := Lib.hid hnm
  have HNB := Lib.hid hnb
  have HMAY := Lib.hid hmay
  have HST := Lib.hid hst
  clear hnm hnb hmay hst
  have hu0 : usesL op ≠ 0 := by rcases hok.hu with e | e | e <;> rw [e] <;> decide
  have HG := Lib.hid hG
  have HP := Lib.hid h
  have HR := Lib.hid hR
  have HS := Lib.hid hs'
  have HCUT := Lib.hid hcut
  have HOK := Lib.hid hok
  have HR2 := Lib.hid hr'
  clear hG h hR hs' hcut hok hr'
  go_enter Tryz.func72, Tryz.ntmps72
  go_wp2_with fail
  refine (cCut HG.out HS.out HCUT.out).mono ?_
  rintro e W1 ⟨rfl, hb⟩
  have HW1 := Lib.hid hb
  clear hb
  go_wp2_with fail
  refine (cNumber_in hop _).mono ?_
  rintro e W2 ⟨rfl, hb⟩
  have HW2 := Lib.hid (HW1.out.trans (hb.mono HW1.out.size))
  clear hb HW1
  go_wp2_with fail
  refine (cMust _ _ _).mono ?_
  rintro e w' ⟨rfl, rfl⟩
  have hma := Lib.hid (may0 hop)
  have HTB := Lib.hid (HG.out.b HW2.out).tb
  go_wp2_with fail
  refine (cText_in hma.out HTB.out).mono ?_
  rintro e W3 ⟨rfl, hb⟩
  have HW3 := Lib.hid (HW2.out.trans (hb.mono HW2.out.size))
  clear hb HW2 HTB hma
  go_wp2_with fail
  refine (cMust _ _ _).mono ?_
  rintro e w' ⟨rfl, rfl⟩
  have HTS := Lib.hid (Nat.lt_trans (told_size hop) (show 100 < 4294967281 by decide))
  go_wp2_with fail
  refine (cCut (HG.out.b HW3.out) HTS.out (told_cut hop hu0)).mono ?_
  rintro e W4 ⟨rfl, hb⟩
  have HW4 := Lib.hid (HW3.out.trans (hb.mono HW3.out.size))
  clear hb HW3 HTS
  go_wp2_with fail
  refine (cMust _ _ _).mono ?_
  rintro e w' ⟨rfl, rfl⟩
  have HI := Lib.hid (Cells.new W4 69 #[.int .i64 op, .int .i64 0, .int .i64 0, .int .i64 0])
  have HW5 := Lib.hid (HW4.out.alloc HW4.out.size (.cells #[.int .i64 op, .int .i64 0, .int .i64 0, .int .i64 0] 69))
  have s4 : (W4.alloc (.cells #[.int .i64 op, .int .i64 0, .int .i64 0, .int .i64 0] 69)).heap.size = W4.heap.size + 1 := World.size_alloc _ _
  go_wp2_with fail
  generalize World.alloc _ _ = W5 at *
  refine (cComma (HG.out.b HW5.out) HR2.out HOK.out.spl HOK.out.cnt).mono ?_
  rintro e w' ⟨rfl, rfl⟩
  have HCP := Lib.hid (Cells.new W5 9 (P.map Value.string).toArray)
  have HI6 := Lib.hid (HI.out.alloc (.cells (P.map Value.string).toArray 9))
  have HW6 := Lib.hid (HW5.out.alloc HW5.out.size (.cells (P.map Value.string).toArray 9))
  have s6 : (W5.alloc (.cells (P.map Value.string).toArray 9)).heap.size = W4.heap.size + 1 + 1 := by rw [World.size_alloc, s4]
  rw [s4] at HCP ⊢
  clear HI HW5 HS HCUT
  go_wp2_with fail
  generalize World.alloc _ _ = W6 at *
  refine (cComma (HG.out.b HW6.out) (Nat.lt_trans (form_size HOK.out.hu) (show 100 < 4294967281 by decide)) (form_split HOK.out.hu).1 (form_split HOK.out.hu).2).mono ?_
  rintro e w' ⟨rfl, rfl⟩
  have HCF := Lib.hid (Cells.new W6 9 ((formsL (usesL op)).map Value.string).toArray)
  have HCP7 := Lib.hid (HCP.out.alloc (.cells ((formsL (usesL op)).map Value.string).toArray 9))
  have HI7 := Lib.hid (HI6.out.alloc (.cells ((formsL (usesL op)).map Value.string).toArray 9))
  have HW7 := Lib.hid (HW6.out.alloc HW6.out.size (.cells ((formsL (usesL op)).map Value.string).toArray 9))
  have s7 : (W6.alloc (.cells ((formsL (usesL op)).map Value.string).toArray 9)).heap.size = W4.heap.size + 1 + 1 + 1 := by rw [World.size_alloc, s6]
  rw [s6] at HCF ⊢
  have hlF : (formsL (usesL op)).length = P.length := HOK.out.len.symm
  have HOKB := HOK.out.len
  rw [hlF] at HOKB ⊢
  generalize hF : formsL (usesL op) = F at *
  clear HI6 HCP HW6 HOKB
  go_wp2_with fail
  generalize World.alloc _ _ = W7 at *
  refine (cMust _ _ _).mono ?_
  rintro e w' ⟨rfl, rfl⟩
  have HREG := Lib.hid HOK.out.regs
  rw [hF] at HREG
  have hFm : ∀ f ∈ F, f = ⟨#[114, 48]⟩ ∨ f = ⟨#[48]⟩ := fun f hf => forms_two HOK.out.hu (hF ▸ hf)
  have HFM := Lib.hid hFm
  have HLF := Lib.hid hlF
  have HFF := Lib.hid hF
  have hib : W.heap.size ≤ W4.heap.size := HW4.out.size
  have hP0 : 0 < P.length := by have := HOK.out.cnt; omega
  clear hFm hF hlF s4 s6
  generalize W4.heap.size = ib at *
  have hP1 : P.length ≤ 3 := by rw [HOK.out.len]; exact txL_len _ _ _ _ _
  go_wp2_with fail
  go_loopw [19, 87] (fun im i wr => ∃ k : Nat, k ≤ P.length ∧ i = .int .i64 k ∧ im = .string (instSt F P k).1 ∧ Cells wr ib 69 #[.int .i64 op, .int .i64 (instSt F P k).2.1, .int .i64 (instSt F P k).2.2, .int .i64 0] ∧ KeptBut (fun b => b = ib) W7 wr) (fun _ i _ => P.length - (intOf i).toNat)
  case atStart => exact ⟨0, Nat.zero_le _, rfl, rfl, HI7.out, KeptBut.refl _ _⟩
  case round =>
    obtain ⟨k, hk, rfl, rfl, hi, hkb⟩ := hrel
    by_cases hlt : k < P.length
    · obtain ⟨x, hx⟩ : ∃ x, P[k]? = some x := ⟨_, List.getElem?_eq_getElem hlt⟩
      obtain ⟨f, hf⟩ : ∃ f, F[k]? = some f := ⟨_, List.getElem?_eq_getElem (by rw [HLF.out]; exact hlt)⟩
      have cx := cells_str (hkb.cells HCP7.out (by omega)) hx
      have cf := cells_str (hkb.cells HCF.out (by omega)) hf
      have fi1 := hi.frozen 1
      have fi2 := hi.frozen 2
      have qi1 := (hi.cell 1).trans (show _ = some (Value.int .i64 (instSt F P k).2.1) from rfl)
      have qi2 := (hi.cell 2).trans (show _ = some (Value.int .i64 (instSt F P k).2.2) from rfl)
      have HX := Lib.hid hx
      have HI := Lib.hid hi
      have HKB := Lib.hid hkb
      have HFK := Lib.hid hf
      clear hx hi hkb hf
      rcases HFM.out f (List.mem_of_getElem? HFK.out) with rfl | rfl
      · have hr := HREG.out k x HFK.out HX.out
        by_cases hk0 : k = 0
        · subst hk0
          have HE := Lib.hid (instSt_a HFK.out HX.out)
          go_wp2_with fail
          refine (cRegister x _).mono ?_
          rintro e w' ⟨rfl, rfl⟩
          go_wp2_with fail
          refine (cMust _ _ _).mono ?_
          rintro e w' ⟨rfl, rfl⟩
          go_wp2
          go_roundw
          case rel => exact ⟨1, by omega, rfl, by rw [HE.out]; rfl, by rw [HE.out]; exact HI.out.set 1 _, HKB.out.trans (KeptBut.set (S := fun b => b = ib) rfl 1 _)⟩
          case measure => simp [intOf]; omega
        · have HE := Lib.hid (instSt_b hk0 HFK.out HX.out)
          go_wp2_with fail
          refine (cRegister x _).mono ?_
          rintro e w' ⟨rfl, rfl⟩
          go_wp2_with fail
          refine (cMust _ _ _).mono ?_
          rintro e w' ⟨rfl, rfl⟩
          go_wp2
          go_roundw
          case rel => exact ⟨k + 1, by omega, by go_num, by rw [HE.out], by rw [HE.out]; exact HI.out.set 2 _, HKB.out.trans (KeptBut.set (S := fun b => b = ib) rfl 2 _)⟩
          case measure => simp [intOf]; omega
      · have HE := Lib.hid (instSt_n HFK.out HX.out)
        go_wp2_with fail
        refine (cRegister x _).mono ?_
        rintro e w' ⟨rfl, rfl⟩
        go_wp2
        go_roundw
        case rel => exact ⟨k + 1, by omega, by go_num, by rw [HE.out], by rw [HE.out]; exact HI.out, HKB.out⟩
        case measure => simp [intOf]; omega
    · obtain rfl : k = P.length := by omega
      have HI := Lib.hid hi
      have HW8 := Lib.hid (HW7.out.trans (hkb.below (n := W.heap.size) (fun q e => by omega) HW7.out.size))
      have HCFr := Lib.hid (hkb.cells HCF.out (by omega))
      clear hi hkb hk hlt HI7 HCP7 HREG HFM HLF HW7
      rw [HST.out] at HI ⊢
      have hm := HNM.out
      have hn := HNB.out
      have hy := HMAY.out
      have hpos : 0 < st.1.size := by
        rcases Nat.eq_zero_or_pos st.1.size with e | e
        · have : st.1 = ⟨#[]⟩ := by
            apply ByteArray.ext
            exact Array.eq_empty_of_size_eq_zero e
          rw [this] at hn
          exact absurd hn.2 (by decide +kernel)
        · exact e
      have hne := ne_nil hpos
      have HN := Lib.hid hn
      have HY := Lib.hid hy
      clear hn hy hpos
      go_wp2_with fail
      refine (cNm st.1 wr).mono ?_
      rintro e W9 ⟨rfl, hb⟩
      rw [hm]
      have HW9 := Lib.hid (HW8.out.trans (hb.mono HW8.out.size))
      have HI9 := Lib.hid (HI.out.below hb HI.out.lt)
      clear hb HW8 HI HCF HCFr
      go_wp2_with fail
      refine (cNum (HG.out.b HW9.out) HN.out.1).mono ?_
      rintro e W10 ⟨rfl, hb⟩
      rw [HN.out.2]
      have HW10 := Lib.hid (HW9.out.trans (hb.mono HW9.out.size))
      have HI10 := Lib.hid (HI9.out.below hb HI9.out.lt)
      clear hb HW9 HI9
      go_wp2_with fail
      refine (cMust _ _ _).mono ?_
      rintro e w' ⟨rfl, rfl⟩
      have qi3 := (HI10.out.cell 3).trans (show _ = some (Value.int .i64 0) from rfl)
      have fi3 := HI10.out.frozen 3
      have HW11 := Lib.hid (HW10.out.trans ((KeptBut.set (W := W10) (S := fun b => b = ib) rfl 3 (.int .i64 (numV st.1))).below (n := W.heap.size) (fun q e => by omega) HW10.out.size))
      have HI11 := Lib.hid (HI10.out.set 3 (.int .i64 (numV st.1)))
      have q0 := (HI11.out.cell 0).trans (show _ = some (Value.int .i64 op) from rfl)
      have q1 := (HI11.out.cell 1).trans (show _ = some (Value.int .i64 st.2.1) from rfl)
      have q2 := (HI11.out.cell 2).trans (show _ = some (Value.int .i64 st.2.2) from rfl)
      have q3 := (HI11.out.cell 3).trans (show _ = some (Value.int .i64 (numV st.1)) from rfl)
      clear HI10 HW10
      go_wp2_with fail
      refine (cEncode_in HY.out _).mono ?_
      rintro e W12 ⟨rfl, hb⟩
      have HW12 := Lib.hid (HW11.out.trans (hb.mono HW11.out.size))
      clear hb HW11
      go_wp2_with fail
      refine (cMust _ _ _).mono ?_
      rintro e w' ⟨rfl, rfl⟩
      have HE := Lib.hid (enc_range hop HY.out)
      go_wp2_with fail
      refine (cWord (HP.out.below HW12.out) HE.out.1 HE.out.2 hlen (Nat.le_trans HR.out HW12.out.size)).mono ?_
      rintro e W13 ⟨rfl, hx⟩
      have HF := Lib.hid (Step.first HW12.out (Step.ofB hx))
      clear hx HW12
      go_wp2
      go_end0
      exact ⟨rfl, HF.out⟩
end
end Go.Proofs.YtbfmlmnhdogojaaGreatDoor
namespace Go.Proofs.YtbfmlmnhdogojaaGreatDoor
open Go.RowKit Go.Shelf

/-- What is to be filled in: its line, its place, its instruction (Op, A, B), which name. -/
structure HoleP where
  line : Int
  place : Nat
  inst : Option (Int × Int × Int)
  name : ByteArray
structure StV where
  bs : List Int
  ns : List (ByteArray × Int)
  hs : List HoleP
/-- Bytes laid behind, if there is room. -/
def putV (t : StV) (xs : List Int) (hs : List HoleP) : Except Int StV := if t.bs.length + xs.length ≤ 2048 then .ok ⟨t.bs ++ xs, t.ns, t.hs ++ hs⟩ else .error 282
/-- The Op of a name. -/
def opV (s : ByteArray) : Option Int := (((List.range 28).map fun i => ((i + 1 : Nat) : Int)).find? fun op => (nameL op).toList == s.toList)
theorem opV_some {s : ByteArray} {op : Int} (h : opV s = some op) : (1 ≤ op ∧ op ≤ 28) ∧ nameL op = s := by
  unfold opV at h
  have h1 := List.find?_some h
  have h2 := List.mem_of_find?_eq_some h
  obtain ⟨i, hi, rfl⟩ := List.mem_map.1 h2
  have := List.mem_range.1 hi
  refine ⟨by omega, ?_⟩
  have e := beq_iff_eq.1 h1
  rw [ByteArray.toList_eq, ByteArray.toList_eq] at e
  exact ByteArray.ext (Array.ext' e)
theorem opV_none {s : ByteArray} (h : opV s = none) : noOp s = true := by
  rw [noOp_iff]
  intro j h1 h2 e
  unfold opV at h
  rw [List.find?_eq_none] at h
  have := h (((j - 1 + 1 : Nat)) : Int) (List.mem_map.2 ⟨j - 1, List.mem_range.2 (by omega), rfl⟩)
  rw [show j - 1 + 1 = j by omega, e] at this
  simp at this
theorem opV_of {op : Int} (h : 1 ≤ op ∧ op ≤ 28) : opV (nameL op) = some op := by
  cases ho : opV (nameL op) with
  | none =>
    have := noOp_iff.1 (opV_none ho) op.toNat (by omega) (by omega)
    rw [show ((op.toNat : Nat) : Int) = op by omega] at this
    exact absurd rfl this
  | some k =>
    obtain ⟨h1, h2⟩ := opV_some ho
    rw [name_inj h1 h (by rw [h2])]
/-- A line's words as numbers with the places of names. -/
def holesP (line : Int) : Nat → List ByteArray → List HoleP
  | _, [] => []
  | at_, x :: ws => (if nameB x then [⟨line, at_, none, x⟩] else []) ++ holesP line (at_ + 4) ws
def wordB (x : ByteArray) : Bool := nameB x || numB x (-2147483648) 4294967295
def byteB (x : ByteArray) : Bool := numB x 0 255
/-- Are the registers some? -/
def regsB (F P : List ByteArray) : Bool := (List.range P.length).all fun k => !decide (F.getD k ⟨#[]⟩ = ⟨#[114, 48]⟩) || decide (0 ≤ regL (P.getD k ⟨#[]⟩))
/-- A line's first word, and what stands behind the blank. -/
def firstW (s : ByteArray) : ByteArray := ⟨(Lib.cut s.data.toList [32]).1.toArray⟩
def restW (s : ByteArray) : ByteArray := ⟨(Lib.cut s.data.toList [32]).2.1.toArray⟩
def moreW (s : ByteArray) : Bool := (Lib.cut s.data.toList [32]).2.2
/-- The line of an instruction. -/
def instV (line : Int) (t : StV) (s : ByteArray) : Except Int StV :=
  match opV (firstW s) with
  | none => .error 280
  | some op =>
    if moreW s ≠ decide (usesL op ≠ 0) then .error 280
    else if usesL op = 0 then putV t (fourI (encL op 0 0 0)) []
    else if (commaL (restW s)).length ≠ (formsL (usesL op)).length then .error 280
    else if regsB (formsL (usesL op)) (commaL (restW s)) = false then .error 280
    else
      let st := instSt (formsL (usesL op)) (commaL (restW s)) (commaL (restW s)).length
      if nameB st.1 then putV t (fourI 0) [⟨line, t.bs.length, some (op, st.2.1, st.2.2), st.1⟩]
      else if usesL op = 3 then putV t (fourI (encL op st.2.1 st.2.2 0)) []
      else if numB st.1 (-32768) 32767 = false then .error 280
      else putV t (fourI (encL op st.2.1 st.2.2 (numV st.1))) []
/-- The line that says where the next byte comes. -/
def atV (t : StV) (b : ByteArray) : Except Int StV :=
  if numB b t.bs.length 99999999999 = false then .error 280 else if numV b ≤ 2048 then .ok ⟨t.bs ++ List.replicate ((numV b).toNat - t.bs.length) 0, t.ns, t.hs⟩ else .error 282
/-- A line of a kind. -/
def kindV (line : Int) (t : StV) (a b : ByteArray) : Except Int StV :=
  if a = ⟨#[97, 116]⟩ then atV t b
  else if a = ⟨#[119, 111, 114, 100]⟩ then (if (wordsL b).all wordB = false then .error 280 else putV t (wordsB (wordsL b)) (holesP line t.bs.length (wordsL b)))
  else if a = ⟨#[98, 121, 116, 101]⟩ then (if (wordsL b).all byteB = false then .error 280 else putV t ((wordsL b).map numV) [])
  else putV t (bytesOfS b) []
/-- A line. -/
def doV (line : Int) (t : StV) (s : ByteArray) : Except Int StV :=
  if s.data.toList.head? = none ∨ s.data.toList.head? = some 35 then .ok t
  else if cutC s && nameB (cutN s) then (if 0 ≤ atL (cutN s) t.ns 0 then .error 281 else .ok ⟨t.bs, t.ns ++ [(cutN s, (t.bs.length : Int))], t.hs⟩)
  else if kindB (firstW s) then (if moreW s = false then .error 280 else kindV line t (firstW s) (restW s))
  else instV line t s
/-- Lines, one by one; the line that may not stand. -/
def linesV : Nat → StV → List ByteArray → Except (Int × Int) StV
  | _, t, [] => .ok t
  | k, t, s :: l => match doV ((k : Int) + 1) t s with
    | .ok t' => linesV (k + 1) t' l
    | .error e => .error ((k : Int) + 1, e)
/-- Four bytes laid over. -/
def overV (bs : List Int) (at_ : Nat) (w : Int) : List Int := (((bs.set at_ (w % 256)).set (at_ + 1) (w / 256 % 256)).set (at_ + 2) (w / 65536 % 256)).set (at_ + 3) (w / 16777216 % 256)
/-- A hole filled in. -/
def fillV (ns : List (ByteArray × Int)) (bs : List Int) (h : HoleP) : Except Int (List Int) :=
  if atL h.name ns 0 < 0 then .error 283
  else
    let n := (ns.getD (atL h.name ns 0).toNat (⟨#[]⟩, 0)).2
    match h.inst with
    | none => .ok (overV bs h.place n)
    | some (op, a, b) =>
      if 17 ≤ op ∧ op ≤ 20 then (if (n - h.place) % 4 ≠ 0 then .error 284 else .ok (overV bs h.place (encL op a b ((n - h.place) / 4))))
      else .ok (overV bs h.place (encL op a b n))
def fillsV (ns : List (ByteArray × Int)) : List Int → List HoleP → Except (Int × Int) (List Int)
  | bs, [] => .ok bs
  | bs, h :: l => match fillV ns bs h with
    | .ok bs' => fillsV ns bs' l
    | .error e => .error (h.line, e)
/-- A text's lines. -/
def linesL (s : ByteArray) : List ByteArray := Lib.splitB ⟨#[10]⟩ 0 (Lib.countB s ⟨#[10]⟩) s
/-- A text: its image (bytes, names), or the line and the error. -/
def asmV (s : ByteArray) : Except (Int × Int) (List Int × List (ByteArray × Int)) :=
  if 1048576 < s.size then .error (0, 3) else
  match linesV 0 ⟨[], [], []⟩ (linesL s) with
  | .error e => .error e
  | .ok t => match fillsV t.ns t.bs t.hs with
    | .error e => .error e
    | .ok bs => .ok (bs, t.ns)
end Go.Proofs.YtbfmlmnhdogojaaGreatDoor
namespace Go.Proofs.YtbfmlmnhdogojaaGreatDoor
open Go.RowKit Go.Shelf

/-- What is to be filled in, in memory. -/
structure HoleAt (W : World) (S : Nat → Prop) (R : Nat) (h : HoleV) (p : HoleP) : Prop where
  line : h.line = p.line
  place : h.place = p.place
  name : h.name = p.name
  none_ : p.inst = none → h.inst = none
  some_ : ∀ op a b, p.inst = some (op, a, b) → ∃ ib, h.inst = some ib ∧ R ≤ ib ∧ ¬ S ib ∧ ∃ c, Cells W ib 69 #[.int .i64 op, .int .i64 a, .int .i64 b, .int .i64 c]
theorem HoleAt.on {W W' : World} {S S' : Nat → Prop} {R : Nat} {h : HoleV} {p : HoleP} (x : HoleAt W S R h p) (hk : KeptBut S W W') (hs : ∀ k, S' k → S k ∨ W.heap.size ≤ k) : HoleAt W' S' R h p :=
  ⟨x.line, x.place, x.name, x.none_, fun op a b e => by
    obtain ⟨ib, e1, e2, e3, c, e4⟩ := x.some_ op a b e
    refine ⟨ib, e1, e2, fun q => ?_, c, hk.cells e4 e3⟩
    rcases hs _ q with q | q
    · exact e3 q
    · have := e4.lt; omega⟩
/-- All of them. -/
def HolesAt (W : World) (S : Nat → Prop) (R : Nat) (hs : List HoleV) (ps : List HoleP) : Prop := hs.length = ps.length ∧ ∀ (i : Nat) (h : HoleV) (p : HoleP), hs[i]? = some h → ps[i]? = some p → HoleAt W S R h p
theorem HolesAt.nil (W : World) (S : Nat → Prop) (R : Nat) : HolesAt W S R [] [] := ⟨rfl, fun i h p e => by simp at e⟩
theorem HolesAt.on {W W' : World} {S S' : Nat → Prop} {R : Nat} {hs : List HoleV} {ps : List HoleP} (x : HolesAt W S R hs ps) (hk : KeptBut S W W') (h : ∀ k, S' k → S k ∨ W.heap.size ≤ k) : HolesAt W' S' R hs ps :=
  ⟨x.1, fun i v p e1 e2 => (x.2 i v p e1 e2).on hk h⟩
theorem HolesAt.append {W : World} {S : Nat → Prop} {R : Nat} {hs hs' : List HoleV} {ps ps' : List HoleP} (x : HolesAt W S R hs ps) (y : HolesAt W S R hs' ps') : HolesAt W S R (hs ++ hs') (ps ++ ps') := by
  refine ⟨by rw [List.length_append, List.length_append, x.1, y.1], fun i h p e1 e2 => ?_⟩
  rcases Nat.lt_or_ge i hs.length with hi | hi
  · rw [List.getElem?_append_left hi] at e1
    rw [List.getElem?_append_left (by rw [← x.1]; exact hi)] at e2
    exact x.2 i h p e1 e2
  · rw [List.getElem?_append_right hi] at e1
    rw [List.getElem?_append_right (by rw [← x.1]; exact hi), ← x.1] at e2
    exact y.2 _ h p e1 e2
/-- The program, and what it has assembled. -/
def PSI (W : World) (R pb : Nat) (vb vn vh : Value) (line : Int) (t : StV) : Prop := ∃ hs, PS W R pb vb vn vh line t.bs t.ns hs ∧ HolesAt W (POwn pb vb vn vh) R hs t.hs
/-- The program behind a step. -/
def StI (W W' : World) (R pb : Nat) (vb vn vh : Value) (line : Int) (t : StV) : Prop :=
  ∃ vb' vn' vh', PSI W' R pb vb' vn' vh' line t ∧ KeptBut (POwn pb vb vn vh) W W' ∧ ∀ k, POwn pb vb' vn' vh' k → POwn pb vb vn vh k ∨ W.heap.size ≤ k
/-- How a step ends: on, or given up. -/
def OutI (W W' : World) (R pb : Nat) (vb vn vh : Value) (line : Int) (e : Ending) : Except Int StV → Prop
  | .ok t => e = .returned (.tuple #[]) ∧ StI W W' R pb vb vn vh line t
  | .error er => e = .panicked (failC line er) ∧ KeptBut (POwn pb vb vn vh) W W'
section
variable {W W' W1 : World} {R pb : Nat} {vb vn vh : Value} {line : Int} {t t' : StV} {hs hv : List HoleV} {bs : List Int} {ns : List (ByteArray × Int)} {e : Ending}
theorem PSI.below (h : PSI W R pb vb vn vh line t) (hb : Below W.heap.size W W') : PSI W' R pb vb vn vh line t := by
  obtain ⟨hs, h1, h2⟩ := h
  exact ⟨hs, h1.below hb, h2.on (KeptBut.of_below _ hb) (fun k e => .inl e)⟩
theorem StI.refl (h : PSI W R pb vb vn vh line t) : StI W W R pb vb vn vh line t := ⟨vb, vn, vh, h, KeptBut.refl _ W, fun _ h => .inl h⟩
theorem StI.first (hb : Below W.heap.size W W1) (h : StI W1 W' R pb vb vn vh line t) : StI W W' R pb vb vn vh line t := by
  obtain ⟨vb', vn', vh', h1, h2, h3⟩ := h
  exact ⟨vb', vn', vh', h1, (KeptBut.of_below _ hb).trans h2, fun k e => (h3 k e).imp id (fun e => Nat.le_trans hb.size e)⟩
theorem OutI.first {r : Except Int StV} (hb : Below W.heap.size W W1) (h : OutI W1 W' R pb vb vn vh line e r) : OutI W W' R pb vb vn vh line e r := by
  cases r with
  | ok t => exact ⟨h.1, StI.first hb h.2⟩
  | error er => exact ⟨h.1, (KeptBut.of_below _ hb).trans h.2⟩
/-- Out of a step of the program alone. -/
theorem StI.of {ps : List HoleP} (hh : HolesAt W (POwn pb vb vn vh) R hs t.hs) (h : Step W W' R pb vb vn vh line t'.bs t'.ns (hs ++ hv)) (hp : t'.hs = t.hs ++ ps) (hn : ∀ W S, HolesAt W S R hv ps) : StI W W' R pb vb vn vh line t' := by
  obtain ⟨vb', vn', vh', h1, h2, h3⟩ := h
  exact ⟨vb', vn', vh', ⟨hs ++ hv, h1, by rw [hp]; exact (hh.on h2 h3).append (hn _ _)⟩, h2, h3⟩
theorem StI.of0 (hh : HolesAt W (POwn pb vb vn vh) R hs t.hs) (h : Step W W' R pb vb vn vh line t'.bs t'.ns hs) (hp : t'.hs = t.hs) : StI W W' R pb vb vn vh line t' :=
  StI.of (hv := []) (ps := []) hh (by rw [List.append_nil]; exact h) (by rw [hp, List.append_nil]) (fun W S => HolesAt.nil W S R)
end
theorem words_holes (W : World) (S : Nat → Prop) (R : Nat) (line : Int) : ∀ (ws : List ByteArray) (at_ : Nat), HolesAt W S R (wordsH line at_ ws) (holesP line at_ ws)
  | [], _ => HolesAt.nil W S R
  | x :: ws, at_ => by
    have h := words_holes W S R line ws (at_ + 4)
    have e : wordsH line at_ (x :: ws) = (if nameB x then [⟨line, at_, none, x⟩] else []) ++ wordsH line ((at_ + 4 : Nat) : Int) ws := rfl
    have e2 : holesP line at_ (x :: ws) = (if nameB x then [⟨line, at_, none, x⟩] else []) ++ holesP line (at_ + 4) ws := rfl
    rw [e, e2]
    refine HolesAt.append ?_ h
    by_cases hx : nameB x = true
    · rw [if_pos hx, if_pos hx]
      refine ⟨rfl, fun i v p e1 e2 => ?_⟩
      cases i with
      | zero =>
        simp at e1 e2
        subst e1 e2
        exact ⟨rfl, rfl, rfl, fun _ => rfl, fun op a b e => by cases e⟩
      | succ i => simp at e1
    · rw [if_neg hx, if_neg hx]
      exact HolesAt.nil W S R
/-- A part of a text is no longer than it. -/
theorem splitB_size (sep : ByteArray) (save : Nat) : ∀ (k : Nat) (s x : ByteArray), x ∈ Lib.splitB sep save k s → x.size ≤ s.size
  | 0, s, x, h => by simp [Lib.splitB] at h; subst h; exact Nat.le_refl _
  | k + 1, s, x, h => by
    unfold Lib.splitB at h
    split at h
    · simp at h; subst h; exact Nat.le_refl _
    · rcases List.mem_cons.1 h with rfl | h
      · rw [ByteArray.size_extract]; omega
      · have := splitB_size sep save k _ x h
        rw [ByteArray.size_extract] at this
        omega
theorem wordsL_size {s x : ByteArray} (h : x ∈ wordsL s) : x.size ≤ s.size := splitB_size _ _ _ _ _ h
end Go.Proofs.YtbfmlmnhdogojaaGreatDoor
