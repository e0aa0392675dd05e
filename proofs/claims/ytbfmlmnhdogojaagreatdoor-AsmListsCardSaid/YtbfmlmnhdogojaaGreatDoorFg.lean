/- Instructions' lines that are given up with: contracts. -/
import Derived.Test.YtbfmlmnhdogojaaGreatDoorFf
import Derived.Test.YtbfmlmnhdogojaaGreatDoorKi
namespace Go.Proofs.YtbfmlmnhdogojaaGreatDoor
open Go.RowKit Go.Shelf

theorem cCutAll {W : World} {s a b : ByteArray} {m : Bool} (hG : Gl W) (hl : s.size < 4294967281) (h : Lib.cut s.data.toList [32] = (a.data.toList, b.data.toList, m)) : Calls Tryz.prog 70 #[.string s, .string ⟨#[32]⟩] W fun e w' => e = .returned (.tuple #[.string a, .string b, .bool m]) ∧ Below W.heap.size W w' := by
  obtain ⟨n, hm⟩ := hG.ml
  refine (Tryz.strings_Cut s ⟨#[32]⟩ n W hl hm).mono ?_
  rintro e w' ⟨rfl, n, rfl⟩
  rw [show (ByteArray.mk #[32]).data.toList = [32] from rfl, h]
  exact ⟨rfl, ⟨rfl, rfl, rfl, Nat.le_refl _, fun _ _ => rfl⟩⟩
section
variable {W : World} {R pb : Nat} {vb vn vh : Value} {line : Int} {bs : List Int} {ns : List (ByteArray × Int)} {hs : List HoleV} {s : ByteArray}
set_option maxRecDepth 100000 in
/-- No Op. -/
theorem cInstNoOp {a b : ByteArray} {m : Bool} (hG : Gl W) (h : PS W R pb vb vn vh line bs ns hs) (hs' : s.size < 4294967281) (hcut : Lib.cut s.data.toList [32] = (a.data.toList, b.data.toList, m)) (hno : noOp a = true) :
    Calls Tryz.prog 72 #[.pointer (some ⟨pb, 0, none⟩), .string s] W fun e W' => e = .panicked (failC line 280) ∧ Below W.heap.size W W' := by
  have HG := Lib.hid hG
  have HP := Lib.hid h
  have HC := Lib.hid (cCutAll hG hs' hcut)
  clear hG h hcut
  go_enter Tryz.func72, Tryz.ntmps72
  go_wp2_with fail
  refine HC.out.mono ?_
  rintro e W1 ⟨rfl, hb⟩
  have HW1 := Lib.hid hb
  clear hb HC
  go_wp2_with fail
  refine (cNumber_no hno _).mono ?_
  rintro e W2 ⟨rfl, hb⟩
  have HW2 := Lib.hid (HW1.out.trans (hb.mono HW1.out.size))
  clear hb HW1
  go_wp2_with fail
  refine (cMustNo (HP.out.below HW2.out).c 280).mono ?_
  rintro e w' ⟨rfl, rfl⟩
  exact ⟨rfl, rfl, HW2.out⟩
set_option maxRecDepth 100000 in
set_option maxHeartbeats 1000000 in
/-- Parts behind an Op that has none. -/
theorem cInstMore {op : Int} {b : ByteArray} (hG : Gl W) (h : PS W R pb vb vn vh line bs ns hs) (hop : 1 ≤ op ∧ op ≤ 28) (hu : usesL op = 0) (hs' : s.size < 4294967281) (hcut : Lib.cut s.data.toList [32] = ((nameL op).data.toList, b.data.toList, true)) :
    Calls Tryz.prog 72 #[.pointer (some ⟨pb, 0, none⟩), .string s] W fun e W' => e = .panicked (failC line 280) ∧ Below W.heap.size W W' := by
  have HG := Lib.hid hG
  have HP := Lib.hid h
  have HC := Lib.hid (cCutAll hG hs' hcut)
  clear hG h hcut
  go_enter Tryz.func72, Tryz.ntmps72
  go_wp2_with fail
  refine (HC.out).mono ?_
  rintro e W1 ⟨rfl, hb⟩
  have HW1 := Lib.hid hb
  clear hb
  go_wp2_with fail
  refine (cNumber_in hop _).mono ?_
  rintro e W2 ⟨rfl, hb⟩
  have HW2 := Lib.hid (HW1.out.trans (hb.mono HW1.out.size))
  clear hb HW1
  go_wp2_with fail
  refine (cMust _ _ _).mono ?_
  rintro e w' ⟨rfl, rfl⟩
  have hma := Lib.hid (may0 hop)
  have HTB := Lib.hid (HG.out.b HW2.out).tb
  go_wp2_with fail
  refine (cText_in hma.out HTB.out).mono ?_
  rintro e W3 ⟨rfl, hb⟩
  have HW3 := Lib.hid (HW2.out.trans (hb.mono HW2.out.size))
  clear hb HW2 HTB hma
  go_wp2_with fail
  refine (cMust _ _ _).mono ?_
  rintro e w' ⟨rfl, rfl⟩
  have HTS := Lib.hid (Nat.lt_trans (told_size hop) (show 100 < 4294967281 by decide))
  go_wp2_with fail
  refine (cCutNo (HG.out.b HW3.out) HTS.out (told_no hop hu)).mono ?_
  rintro e W4 ⟨rfl, hb⟩
  have HW4 := Lib.hid (HW3.out.trans (hb.mono HW3.out.size))
  clear hb HW3 HTS
  go_wp2_with fail
  refine (cMustNo (HP.out.below HW4.out).c 280).mono ?_
  rintro e w' ⟨rfl, rfl⟩
  exact ⟨rfl, rfl, HW4.out⟩
set_option maxRecDepth 100000 in
set_option maxHeartbeats 1000000 in
/-- No parts behind an Op that has some. -/
theorem cInstLess {op : Int} {b : ByteArray} (hG : Gl W) (h : PS W R pb vb vn vh line bs ns hs) (hop : 1 ≤ op ∧ op ≤ 28) (hu : usesL op ≠ 0) (hs' : s.size < 4294967281) (hcut : Lib.cut s.data.toList [32] = ((nameL op).data.toList, b.data.toList, false)) :
    Calls Tryz.prog 72 #[.pointer (some ⟨pb, 0, none⟩), .string s] W fun e W' => e = .panicked (failC line 280) ∧ Below W.heap.size W W' := by
  have HG := Lib.hid hG
  have HP := Lib.hid h
  have HC := Lib.hid (cCutAll hG hs' hcut)
  clear hG h hcut
  go_enter Tryz.func72, Tryz.ntmps72
  go_wp2_with fail
  refine (HC.out).mono ?_
  rintro e W1 ⟨rfl, hb⟩
  have HW1 := Lib.hid hb
  clear hb
  go_wp2_with fail
  refine (cNumber_in hop _).mono ?_
  rintro e W2 ⟨rfl, hb⟩
  have HW2 := Lib.hid (HW1.out.trans (hb.mono HW1.out.size))
  clear hb HW1
  go_wp2_with fail
  refine (cMust _ _ _).mono ?_
  rintro e w' ⟨rfl, rfl⟩
  have hma := Lib.hid (may0 hop)
  have HTB := Lib.hid (HG.out.b HW2.out).tb
  go_wp2_with fail
  refine (cText_in hma.out HTB.out).mono ?_
  rintro e W3 ⟨rfl, hb⟩
  have HW3 := Lib.hid (HW2.out.trans (hb.mono HW2.out.size))
  clear hb HW2 HTB hma
  go_wp2_with fail
  refine (cMust _ _ _).mono ?_
  rintro e w' ⟨rfl, rfl⟩
  have HTS := Lib.hid (Nat.lt_trans (told_size hop) (show 100 < 4294967281 by decide))
  go_wp2_with fail
  refine (cCut (HG.out.b HW3.out) HTS.out (told_cut hop hu)).mono ?_
  rintro e W4 ⟨rfl, hb⟩
  have HW4 := Lib.hid (HW3.out.trans (hb.mono HW3.out.size))
  clear hb HW3 HTS
  go_wp2_with fail
  refine (cMustNo (HP.out.below HW4.out).c 280).mono ?_
  rintro e w' ⟨rfl, rfl⟩
  exact ⟨rfl, rfl, HW4.out⟩
set_option maxRecDepth 100000 in
set_option maxHeartbeats 2000000 in
/-- Too many parts, or too few. -/
theorem cInstCount {op : Int} {rest : ByteArray} (hG : Gl W) (h : PS W R pb vb vn vh line bs ns hs) (hop : 1 ≤ op ∧ op ≤ 28) (hs' : s.size < 4294967281) (hr' : rest.size < 4294967281) (hcut : CutsTo s (nameL op) rest) (hu : usesL op = 3 ∨ usesL op = 5 ∨ usesL op = 7)
    (hcnt : Lib.countB rest ⟨#[44, 32]⟩ + 1 = (commaL rest).length) (hne : ((commaL rest).length : Int) ≠ (formsL (usesL op)).length) :
    Calls Tryz.prog 72 #[.pointer (some ⟨pb, 0, none⟩), .string s] W fun e W' => e = .panicked (failC line 280) ∧ Below W.heap.size W W' := by
  have HCNT := Lib.hid hcnt
  have HNE := Lib.hid hne
  clear hcnt hne
  have hu0 : usesL op ≠ 0 := by rcases hu with e | e | e <;> rw [e] <;> decide
  have HG := Lib.hid hG
  have HP := Lib.hid h
  have HS := Lib.hid hs'
  have HCUT := Lib.hid hcut
  have HU := Lib.hid hu
  have HR2 := Lib.hid hr'
  clear hG h hs' hcut hu hr'
  go_enter Tryz.func72, Tryz.ntmps72
  go_wp2_with fail
  refine (cCut HG.out HS.out HCUT.out).mono ?_
  rintro e W1 ⟨rfl, hb⟩
  have HW1 := Lib.hid hb
  clear hb
  go_wp2_with fail
  refine (cNumber_in hop _).mono ?_
  rintro e W2 ⟨rfl, hb⟩
  have HW2 := Lib.hid (HW1.out.trans (hb.mono HW1.out.size))
  clear hb HW1
  go_wp2_with fail
  refine (cMust _ _ _).mono ?_
  rintro e w' ⟨rfl, rfl⟩
  have hma := Lib.hid (may0 hop)
  have HTB := Lib.hid (HG.out.b HW2.out).tb
  go_wp2_with fail
  refine (cText_in hma.out HTB.out).mono ?_
  rintro e W3 ⟨rfl, hb⟩
  have HW3 := Lib.hid (HW2.out.trans (hb.mono HW2.out.size))
  clear hb HW2 HTB hma
  go_wp2_with fail
  refine (cMust _ _ _).mono ?_
  rintro e w' ⟨rfl, rfl⟩
  have HTS := Lib.hid (Nat.lt_trans (told_size hop) (show 100 < 4294967281 by decide))
  go_wp2_with fail
  refine (cCut (HG.out.b HW3.out) HTS.out (told_cut hop hu0)).mono ?_
  rintro e W4 ⟨rfl, hb⟩
  have HW4 := Lib.hid (HW3.out.trans (hb.mono HW3.out.size))
  clear hb HW3 HTS
  go_wp2_with fail
  refine (cMust _ _ _).mono ?_
  rintro e w' ⟨rfl, rfl⟩
  have HI := Lib.hid (Cells.new W4 69 #[.int .i64 op, .int .i64 0, .int .i64 0, .int .i64 0])
  have HW5 := Lib.hid (HW4.out.alloc HW4.out.size (.cells #[.int .i64 op, .int .i64 0, .int .i64 0, .int .i64 0] 69))
  have s4 : (W4.alloc (.cells #[.int .i64 op, .int .i64 0, .int .i64 0, .int .i64 0] 69)).heap.size = W4.heap.size + 1 := World.size_alloc _ _
  go_wp2_with fail
  generalize World.alloc _ _ = W5 at *
  refine (cComma (HG.out.b HW5.out) HR2.out rfl HCNT.out).mono ?_
  rintro e w' ⟨rfl, rfl⟩
  have HCP := Lib.hid (Cells.new W5 9 ((commaL rest).map Value.string).toArray)
  have HI6 := Lib.hid (HI.out.alloc (.cells ((commaL rest).map Value.string).toArray 9))
  have HW6 := Lib.hid (HW5.out.alloc HW5.out.size (.cells ((commaL rest).map Value.string).toArray 9))
  have s6 : (W5.alloc (.cells ((commaL rest).map Value.string).toArray 9)).heap.size = W4.heap.size + 1 + 1 := by rw [World.size_alloc, s4]
  rw [s4] at HCP ⊢
  clear HI HW5 HS HCUT
  go_wp2_with fail
  generalize World.alloc _ _ = W6 at *
  refine (cComma (HG.out.b HW6.out) (Nat.lt_trans (form_size HU.out) (show 100 < 4294967281 by decide)) (form_split HU.out).1 (form_split HU.out).2).mono ?_
  rintro e w' ⟨rfl, rfl⟩
  have HCF := Lib.hid (Cells.new W6 9 ((formsL (usesL op)).map Value.string).toArray)
  have HCP7 := Lib.hid (HCP.out.alloc (.cells ((formsL (usesL op)).map Value.string).toArray 9))
  have HI7 := Lib.hid (HI6.out.alloc (.cells ((formsL (usesL op)).map Value.string).toArray 9))
  have HW7 := Lib.hid (HW6.out.alloc HW6.out.size (.cells ((formsL (usesL op)).map Value.string).toArray 9))
  have s7 : (W6.alloc (.cells ((formsL (usesL op)).map Value.string).toArray 9)).heap.size = W4.heap.size + 1 + 1 + 1 := by rw [World.size_alloc, s6]
  rw [s6] at HCF ⊢
  have hlF := HNE.out
  go_wp2_with fail
  rw [beq_eq_false_iff_ne.2 HNE.out]
  refine (cMustNo (HP.out.below HW7.out).c 280).mono ?_
  rintro e w' ⟨rfl, rfl⟩
  exact ⟨rfl, rfl, HW7.out⟩
end
end Go.Proofs.YtbfmlmnhdogojaaGreatDoor
