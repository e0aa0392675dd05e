/- The line that says where the next byte comes: contract. -/
import Derived.Test.YtbfmlmnhdogojaaGreatDoorFc
namespace Go.Proofs.YtbfmlmnhdogojaaGreatDoor
open Go.RowKit Go.Shelf

section
variable {W : World} {R pb : Nat} {vb vn vh : Value} {line : Int} {bs : List Int} {ns : List (ByteArray × Int)} {hs : List HoleV} {s : ByteArray} {t : StV}
set_option maxRecDepth 100000 in
theorem cPlacedBad (hG : Gl W) (h : PS W R pb vb vn vh line bs ns hs) (hs' : s.size < 4294967281) (hn : numB s bs.length 99999999999 = false) :
    Calls Tryz.prog 94 #[.pointer (some ⟨pb, 0, none⟩), .string s] W fun e W' => e = .panicked (failC line 280) ∧ Below W.heap.size W W' := by
  obtain ⟨Ab, cb, rfl⟩ := own_slice h.b
  have q1 := (h.c.cell 1).trans (show _ = some (Value.slice Ab bs.length cb) from rfl)
  have HN := Lib.hid (cNum (lo := (bs.length : Int)) (hi := 99999999999) hG hs')
  obtain ⟨n, hnv⟩ : ∃ n, n = numV s := ⟨_, rfl⟩
  rw [← hnv] at HN
  have HP := Lib.hid h
  have HHN := Lib.hid hn
  clear hnv
  clear h hG hn
  go_enter Tryz.func94, Tryz.ntmps94
  go_wp2_with fail
  refine HN.out.mono ?_
  rintro e W1 ⟨rfl, hb⟩
  rw [HHN.out]
  have HB := Lib.hid hb
  have HP1 := Lib.hid (HP.out.below hb)
  clear hb HN q1
  have q1 := (HP1.out.c.cell 1).trans (show _ = some (Value.slice Ab bs.length cb) from rfl)
  go_wp2_with fail
  refine (cMustNo HP1.out.c 280).mono ?_
  rintro e w' ⟨rfl, rfl⟩
  exact ⟨rfl, rfl, HB.out⟩
set_option maxRecDepth 100000 in
set_option maxHeartbeats 1000000 in
theorem cPlacedMuch (hG : Gl W) (h : PS W R pb vb vn vh line bs ns hs) (hs' : s.size < 4294967281) (hn : numB s bs.length 99999999999 = true) (hm : ¬ numV s ≤ 2048) :
    Calls Tryz.prog 94 #[.pointer (some ⟨pb, 0, none⟩), .string s] W fun e W' => e = .panicked (failC line 282) ∧ Below W.heap.size W W' := by
  obtain ⟨Ab, cb, rfl⟩ := own_slice h.b
  have q1 := (h.c.cell 1).trans (show _ = some (Value.slice Ab bs.length cb) from rfl)
  have HN := Lib.hid (cNum (lo := (bs.length : Int)) (hi := 99999999999) hG hs')
  obtain ⟨n, hnv⟩ : ∃ n, n = numV s := ⟨_, rfl⟩
  rw [← hnv] at HN
  have HP := Lib.hid h
  have HHN := Lib.hid hn
  (rw [← hnv] at hm; clear hnv)
  clear h hG hn
  go_enter Tryz.func94, Tryz.ntmps94
  go_wp2_with fail
  refine HN.out.mono ?_
  rintro e W1 ⟨rfl, hb⟩
  rw [HHN.out]
  have HB := Lib.hid hb
  have HP1 := Lib.hid (HP.out.below hb)
  clear hb HN q1
  have q1 := (HP1.out.c.cell 1).trans (show _ = some (Value.slice Ab bs.length cb) from rfl)
  go_wp2_with fail
  refine (cMust _ _ _).mono ?_
  rintro e w' ⟨rfl, rfl⟩
  go_wp2_with fail
  rw [decide_eq_false (show ¬ n ≤ 2048 by omega)]
  refine (cMustNo HP1.out.c 282).mono ?_
  rintro e w' ⟨rfl, rfl⟩
  exact ⟨rfl, rfl, HB.out⟩
set_option maxRecDepth 100000 in
set_option maxHeartbeats 1000000 in
theorem cPlacedOk (hG : Gl W) (h : PS W R pb vb vn vh line bs ns hs) (hs' : s.size < 4294967281) (hn : numB s bs.length 99999999999 = true) (hm : numV s ≤ 2048) {k : Nat} (hk : numV s = bs.length + k) (hR : R ≤ W.heap.size) :
    Calls Tryz.prog 94 #[.pointer (some ⟨pb, 0, none⟩), .string s] W fun e W' => e = .returned (.tuple #[]) ∧ ∃ vb', PS W' R pb vb' vn vh line (bs ++ List.replicate k 0) ns hs ∧ KeptBut (fun k => k = pb ∨ vb.ownBlock = some k) W W' ∧ ∀ k, vb'.ownBlock = some k → vb.ownBlock = some k ∨ W.heap.size ≤ k := by
  obtain ⟨i0, hi0, hz0, hz1, hz2⟩ := info_parts info_u8
  obtain ⟨Ab, cb, rfl⟩ := own_slice h.b
  have q1 := (h.c.cell 1).trans (show _ = some (Value.slice Ab bs.length cb) from rfl)
  have HN := Lib.hid (cNum (lo := (bs.length : Int)) (hi := 99999999999) hG hs')
  obtain ⟨n, hnv⟩ : ∃ n, n = numV s := ⟨_, rfl⟩
  rw [← hnv] at HN
  have HP := Lib.hid h
  have HHN := Lib.hid hn
  (rw [← hnv] at hm hk; clear hnv; subst hk)
  clear h hG hn
  go_enter Tryz.func94, Tryz.ntmps94
  go_wp2_with fail
  refine HN.out.mono ?_
  rintro e W1 ⟨rfl, hb⟩
  rw [HHN.out]
  have HB := Lib.hid hb
  have HP1 := Lib.hid (HP.out.below hb)
  clear hb HN q1
  have q1 := (HP1.out.c.cell 1).trans (show _ = some (Value.slice Ab bs.length cb) from rfl)
  go_wp2_with fail
  refine (cMust _ _ _).mono ?_
  rintro e w' ⟨rfl, rfl⟩
  go_wp2_with fail
  refine (cMust _ _ _).mono ?_
  rintro e w' ⟨rfl, rfl⟩
  have hsub : IntKind.i64.wrap ((bs.length : Int) + k - bs.length) = k := by rw [IntKind.wrap_i64]; omega
  have hsub2 : (bs.length : Int) + k - bs.length = k := by omega
  have hsz : R ≤ W1.heap.size := Nat.le_trans hR HB.out.size
  go_wp2_with (first
    | (refine wpList_make_full _ rfl (.tmp 32) (.tmp 32) 24 rfl R 5 i0 _ 1 Tryz.underlying24 hi0 hz0 hz1 .i64 .i64 _ _ k rfl rfl (by omega) (by omega) (by rw [hz2]; omega) (by simp only [maxLen]; omega) hsz ?_
       intro W2 hrow hgr
       rw [Nat.mul_one, show (Value.int IntKind.u8 0).cells = #[.int .u8 0] from rfl, toList_madeCells_one] at hrow
       have HROW := Lib.hid (And.intro hrow (KeptBut.of_grown (S := fun _ => False) hgr (fun k e => by cases e)))
       clear hrow hgr))
  obtain ⟨hrow, kb0⟩ := HROW.out
  have hb2 : Below W1.heap.size W1 W2 := kb0.below (fun k e => e.elim) (Nat.le_refl _)
  rcases Nat.eq_zero_or_pos k with rfl | hk0
  · refine (cPut0 (HP1.out.below hb2) (by omega)).mono ?_
    rintro e W4 ⟨rfl, vb', ps, kb, ho⟩
    have HF := Lib.hid (And.intro ps (And.intro kb (And.intro ho hb2)))
    clear ps kb ho hb2 kb0 hrow
    go_wp2
    go_end0
    obtain ⟨ps, kb, ho, hb2⟩ := HF.out
    have hbb := HB.out.trans (hb2.mono HB.out.size)
    exact ⟨rfl, vb', by rw [show List.replicate 0 (0 : Int) = [] from rfl, List.append_nil]; exact ps, (KeptBut.of_below _ hbb).trans kb, fun k e => (ho k e).imp id (fun h => Nat.le_trans hbb.size h)⟩
  · have hrd : Rd W2 W2.heap.size .u8 (some ⟨W1.heap.size, 0, none⟩) (List.replicate k 0) := by
      refine Rd.of_own (base := R) (e := 5) (cap := k) ?_
      rw [List.length_replicate, List.map_replicate]
      exact hrow
    have hput := cPut (c := k) (HP1.out.below hb2) hrd (by rw [List.length_replicate]; exact hk0) (by rw [List.length_replicate]; omega) (Nat.le_trans hsz hb2.size)
    rw [List.length_replicate] at hput
    refine hput.mono ?_
    rintro e W4 ⟨rfl, vb', ps, kb, ho⟩
    have HF := Lib.hid (And.intro ps (And.intro kb (And.intro ho hb2)))
    clear ps kb ho hb2 kb0 hrow hput hrd
    go_wp2
    go_end0
    obtain ⟨ps, kb, ho, hb2⟩ := HF.out
    have hbb := HB.out.trans (hb2.mono HB.out.size)
    exact ⟨rfl, vb', ps, (KeptBut.of_below _ hbb).trans kb, fun k e => (ho k e).imp id (fun h => Nat.le_trans hbb.size h)⟩
theorem cPlaced (hG : Gl W) (h : PSI W R pb vb vn vh line t) (hs' : s.size < 1000000000) (hbl : t.bs.length ≤ 2048) (hR : R ≤ W.heap.size) :
    Calls Tryz.prog 94 #[.pointer (some ⟨pb, 0, none⟩), .string s] W fun e W' => OutI W W' R pb vb vn vh line e (atV t s) := by
  obtain ⟨hv, hP, hH⟩ := h
  unfold atV
  cases hn : numB s t.bs.length 99999999999 with
  | false =>
    rw [if_pos rfl]
    exact (cPlacedBad hG hP (by omega) hn).mono fun e W' he => OutI.low he
  | true =>
    rw [if_neg (by simp)]
    have hb := numB_bounds hn
    by_cases hm : numV s ≤ 2048
    · rw [if_pos hm]
      exact (cPlacedOk hG hP (by omega) hn hm (k := (numV s).toNat - t.bs.length) (by omega) hR).mono fun e W' he => ⟨he.1, StI.of0 hH (Step.ofB he.2) rfl⟩
    · rw [if_neg hm]
      exact (cPlacedMuch hG hP (by omega) hn hm).mono fun e W' he => OutI.low he
end
end Go.Proofs.YtbfmlmnhdogojaaGreatDoor
