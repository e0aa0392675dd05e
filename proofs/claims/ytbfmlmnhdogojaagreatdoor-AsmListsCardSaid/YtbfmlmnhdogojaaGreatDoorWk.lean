/- The chapter's first text: contract. -/
import Derived.Test.YtbfmlmnhdogojaaGreatDoorHd
import Derived.ChangeMaps5
namespace Go.Proofs.YtbfmlmnhdogojaaGreatDoor
open Go.RowKit Go.Shelf

def textW : ByteArray := ⟨#[97, 58, 10, 106, 97, 108, 32, 114, 48, 44, 32, 97, 10, 119, 111, 114, 100, 32, 97, 32, 45, 49, 10, 98, 121, 116, 101, 32, 55, 10, 116, 101, 120, 116, 32, 104, 105]⟩
def bsW : List Int := [0, 0, 0, 20, 0, 0, 0, 0, 255, 255, 255, 255, 7, 104, 105]
set_option maxRecDepth 100000 in
theorem asmW : asmV textW = .ok (bsW, [(⟨#[97]⟩, 0)]) := by kernel_rfl
theorem linesW : (linesL textW).length = 5 := by kernel_rfl
theorem listW : listL [0, 0, 0, 1, 9] = [104, 97, 108, 116, 10, 98, 121, 116, 101, 32, 57, 10] := by kernel_rfl
theorem cNumE (n : Int) (w : World) : Calls Tryz.prog 15 #[.int .i64 n] w fun e w' => e = .returned (.int .i64 n) ∧ w = w' := by
  go_enter Tryz.func15, Tryz.ntmps15
  go_wp2
  go_ret
  exact ⟨rfl, rfl⟩
set_option maxRecDepth 100000 in
set_option maxHeartbeats 1000000 in
theorem cWorks {w : World} (hG : Gl w) : Calls Tryz.prog 10 #[] w fun e w' => e = .returned (.bool true) ∧ Below w.heap.size w w' := by
  have HA := Lib.hid (cAsm (s := textW) hG (by decide) (by rw [linesW]; decide))
  have HG := Lib.hid hG
  clear hG
  go_enter Tryz.func10, Tryz.ntmps10
  go_wp2_with fail
  refine HA.out.mono ?_
  rintro e W1 ⟨hb, ho⟩
  rw [asmW] at ho
  obtain ⟨vb, vn, rfl, rb, rn⟩ := ho
  obtain ⟨gb, cb, rfl, hrd⟩ := rd_row rb (by decide)
  obtain ⟨An, cn, rfl⟩ := own_slice rn
  have hnr := rdn_row rn
  obtain ⟨gn, on, rfl, hgn⟩ := hnr.some_ (by decide)
  obtain ⟨nn0, nn1⟩ := hnr.cell gn on rfl 0 ⟨#[97]⟩ 0 rfl
  have hX := Cells.new W1 33 #[.slice (some ⟨gb, 0, none⟩) bsW.length cb, .slice (some ⟨gn, on, none⟩) 1 cn]
  have b2 := hb.alloc (B := w.heap.size) hb.size (.cells #[.slice (some ⟨gb, 0, none⟩) bsW.length cb, .slice (some ⟨gn, on, none⟩) 1 cn] 33)
  have b2' := (Below.refl W1.heap.size W1).alloc (Nat.le_refl _) (.cells #[.slice (some ⟨gb, 0, none⟩) bsW.length cb, .slice (some ⟨gn, on, none⟩) 1 cn] 33)
  have hG2 := HG.out.b b2
  have hrd2 := hrd.below b2' (Nat.le_refl _)
  have hq2 := b2'.block gn hgn
  have hrr : Rd ((W1.alloc (.cells #[.slice (some ⟨gb, 0, none⟩) bsW.length cb, .slice (some ⟨gn, on, none⟩) 1 cn] 33)).alloc (.cells #[.int .u8 0, .int .u8 0, .int .u8 0, .int .u8 1, .int .u8 9] 5)) ((W1.alloc (.cells #[.slice (some ⟨gb, 0, none⟩) bsW.length cb, .slice (some ⟨gn, on, none⟩) 1 cn] 33)).alloc (.cells #[.int .u8 0, .int .u8 0, .int .u8 0, .int .u8 1, .int .u8 9] 5)).heap.size .u8 (some ⟨(W1.alloc (.cells #[.slice (some ⟨gb, 0, none⟩) bsW.length cb, .slice (some ⟨gn, on, none⟩) 1 cn] 33)).heap.size, 0, none⟩) [0, 0, 0, 1, 9] := rd_lit (W1.alloc (.cells #[.slice (some ⟨gb, 0, none⟩) bsW.length cb, .slice (some ⟨gn, on, none⟩) 1 cn] 33)) 5 .u8 [0, 0, 0, 1, 9]
  have b3' := (Below.refl (W1.alloc (.cells #[.slice (some ⟨gb, 0, none⟩) bsW.length cb, .slice (some ⟨gn, on, none⟩) 1 cn] 33)).heap.size (W1.alloc (.cells #[.slice (some ⟨gb, 0, none⟩) bsW.length cb, .slice (some ⟨gn, on, none⟩) 1 cn] 33))).alloc (Nat.le_refl _) (.cells #[.int .u8 0, .int .u8 0, .int .u8 0, .int .u8 1, .int .u8 9] 5)
  have hG3 : Gl ((W1.alloc (.cells #[.slice (some ⟨gb, 0, none⟩) bsW.length cb, .slice (some ⟨gn, on, none⟩) 1 cn] 33)).alloc (.cells #[.int .u8 0, .int .u8 0, .int .u8 0, .int .u8 1, .int .u8 9] 5)) := hG2.b b3'
  have hX3 : Cells ((W1.alloc (.cells #[.slice (some ⟨gb, 0, none⟩) bsW.length cb, .slice (some ⟨gn, on, none⟩) 1 cn] 33)).alloc (.cells #[.int .u8 0, .int .u8 0, .int .u8 0, .int .u8 1, .int .u8 9] 5)) W1.heap.size 33 #[.slice (some ⟨gb, 0, none⟩) bsW.length cb, .slice (some ⟨gn, on, none⟩) 1 cn] := (b3'.block _ (by rw [World.size_alloc]; omega)).trans hX
  have hrd3 : Rd ((W1.alloc (.cells #[.slice (some ⟨gb, 0, none⟩) bsW.length cb, .slice (some ⟨gn, on, none⟩) 1 cn] 33)).alloc (.cells #[.int .u8 0, .int .u8 0, .int .u8 0, .int .u8 1, .int .u8 9] 5)) W1.heap.size .u8 (some ⟨gb, 0, none⟩) bsW := hrd2.below b3' (by rw [World.size_alloc]; omega)
  have hq3 : ((W1.alloc (.cells #[.slice (some ⟨gb, 0, none⟩) bsW.length cb, .slice (some ⟨gn, on, none⟩) 1 cn] 33)).alloc (.cells #[.int .u8 0, .int .u8 0, .int .u8 0, .int .u8 1, .int .u8 9] 5)).heap[gn]? = W1.heap[gn]? := (b3'.block gn (by rw [World.size_alloc]; omega)).trans hq2
  have b3 : Below w.heap.size w ((W1.alloc (.cells #[.slice (some ⟨gb, 0, none⟩) bsW.length cb, .slice (some ⟨gn, on, none⟩) 1 cn] 33)).alloc (.cells #[.int .u8 0, .int .u8 0, .int .u8 0, .int .u8 1, .int .u8 9] 5)) := b2.trans (b3'.mono (by rw [World.size_alloc]; have := hb.size; omega))
  have s2 : (W1.alloc (.cells #[.slice (some ⟨gb, 0, none⟩) bsW.length cb, .slice (some ⟨gn, on, none⟩) 1 cn] 33)).heap.size = W1.heap.size + 1 := World.size_alloc _ _
  have s3 : ((W1.alloc (.cells #[.slice (some ⟨gb, 0, none⟩) bsW.length cb, .slice (some ⟨gn, on, none⟩) 1 cn] 33)).alloc (.cells #[.int .u8 0, .int .u8 0, .int .u8 0, .int .u8 1, .int .u8 9] 5)).heap.size = W1.heap.size + 2 := by rw [World.size_alloc, s2]
  rw [s2] at hrr
  have HL := Lib.hid (And.intro hX3 (And.intro b3 (And.intro hG3 (And.intro hrd3 (And.intro hrr s3)))))
  have HN := Lib.hid (And.intro nn0 (And.intro nn1 hq3))
  clear HA hX b2 b2' hG2 hrd2 hrr hrd hnr nn0 nn1 hq2 rb rn b3' hG3 hX3 hrd3 hq3 b3 s3
  go_wp2_with fail
  obtain ⟨hX, b3, hG3, hrd, hrr, s3⟩ := HL.out
  obtain ⟨nn0, nn1, hq⟩ := HN.out
  clear HL HN HG
  clear s2
  revert hX b3 hG3 hrd hrr s3 hq
  generalize ((W1.alloc (.cells #[.slice (some ⟨gb, 0, none⟩) bsW.length cb, .slice (some ⟨gn, on, none⟩) 1 cn] 33)).alloc (.cells #[.int .u8 0, .int .u8 0, .int .u8 0, .int .u8 1, .int .u8 9] 5)) = W3
  intro hX b3 hG3 hrd hrr s3 hq
  refine (cListing (xs := [0, 0, 0, 1, 9]) (c := 5) hG3 hrr (by decide) (by decide) (by decide)).mono ?_
  rintro e W4 ⟨rfl, hb4⟩
  rw [listW]
  have b4 := b3.trans (hb4.mono b3.size)
  have hX4 : Cells W4 W1.heap.size 33 #[.slice (some ⟨gb, 0, none⟩) bsW.length cb, .slice (some ⟨gn, on, none⟩) 1 cn] := (hb4.block _ (by omega)).trans hX
  have hrd4 := hrd.below hb4 (by omega)
  have hq4 := (hb4.block gn (by omega)).trans hq
  have hcv := conv_any (c := cb) hrd4
  have hst : strOfNums bsW = ⟨#[0, 0, 0, 20, 0, 0, 0, 0, 255, 255, 255, 255, 7, 104, 105]⟩ := by kernel_rfl
  rw [hst] at hcv
  have q0 := hX4.cell 0
  have q1 := hX4.cell 1
  have n0 : W4.cell? ⟨gn, on, none⟩ = some (.string ⟨#[97]⟩) := by simpa [World.cell?, hq4] using nn0
  have n1 : W4.cell? ⟨gn, on + 1, none⟩ = some (.int .i64 0) := by simpa [World.cell?, hq4] using nn1
  simp at q0 q1
  clear hX b3 hG3 hrd hrr s3 hq hb4 hX4 hrd4 hq4 nn0 nn1 hst hb
  have HB := Lib.hid b4
  clear b4
  go_wp2_with fail
  refine (cNumE 0 W4).mono ?_
  rintro e w5 ⟨rfl, rfl⟩
  go_wp2_with fail
  refine (cNumE 0 W4).mono ?_
  rintro e w5 ⟨rfl, rfl⟩
  go_wp2_with fail
  go_ret
  exact ⟨rfl, HB.out⟩
end Go.Proofs.YtbfmlmnhdogojaaGreatDoor
namespace Go.Proofs.YtbfmlmnhdogojaaGreatDoor
open Go.RowKit Go.Shelf

attribute [local go_sem] Oper.semAt_some

set_option maxHeartbeats 1000000 in
theorem cAsmNames {w : World} (hG : Gl w) (s : ByteArray) : Calls Tryz.prog 3 #[.string s] w fun e w' => e = .returned (.bool true) ∧ Below w.heap.size w w' := by
  go_enter Tryz.func3, Tryz.ntmps3
  go_wp2_with fail
  · refine (cWorks hG).mono ?_
    rintro e W3 ⟨rfl, b3⟩
    have B3 := Lib.hid b3
    clear b3 hG
    go_wp2_with fail
    go_ret
    exact ⟨rfl, B3.out⟩
  · have HG := Lib.hid hG
    refine (cNm s w).mono ?_
    rintro e W1 ⟨rfl, b1⟩
    have B1 := Lib.hid b1
    clear b1 hG
    go_wp2_with fail
    refine (rNm s W1).mono ?_
    rintro e W2 ⟨rfl, b2⟩
    have hG2 := (HG.out.b B1.out).b b2
    have b12 := B1.out.trans (b2.mono B1.out.size)
    have B2 := Lib.hid b12
    clear b2 b12
    generalize nameB s = x at *
    go_wp2_with fail
    refine (cWorks hG2).mono ?_
    rintro e W3 ⟨rfl, b3⟩
    have B3 := Lib.hid (B2.out.trans (b3.mono B2.out.size))
    clear b3 hG2
    go_wp2_with fail
    go_ret
    exact ⟨rfl, B3.out⟩
end Go.Proofs.YtbfmlmnhdogojaaGreatDoor
