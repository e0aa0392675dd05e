/- A branch that is too far: contracts. -/
import Derived.Test.YtbfmlmnhdogojaaGreatDoorGb
namespace Go.Proofs.YtbfmlmnhdogojaaGreatDoor
open Go.RowKit Go.Shelf

section
variable {W : World} {R pb : Nat} {vb vn vh : Value} {line ln : Int} {bs : List Int} {ns : List (ByteArray × Int)} {hs : List HoleV} {nm : ByteArray} {pl : Nat} {ip : Option Addr}
set_option maxRecDepth 100000 in
set_option maxHeartbeats 1000000 in
/-- A branch whose place does not fit. -/
theorem cFillFar (h : PS W R pb vb vn vh line bs ns hs) (hnl : ns.length ≤ 1000000000) {k ib : Nat} {n op a b c : Int} (hk : atL nm ns 0 = k) (hkn : ns[k]? = some (nm, n)) (hn : 0 ≤ n ∧ n ≤ 2048) (hip : ip = some ⟨ib, 0, none⟩) (hpl4 : pl + 4 ≤ bs.length) (hb4 : bs.length ≤ 2048) (hR : R ≤ W.heap.size)
    (hi : Cells W ib 69 #[.int .i64 op, .int .i64 a, .int .i64 b, .int .i64 c]) (hio : ¬ POwn pb vb vn vh ib) (hop : 17 ≤ op ∧ op ≤ 20) (hq : (n - pl) % 4 ≠ 0) :
    Calls Tryz.prog 42 #[.pointer (some ⟨pb, 0, none⟩), .agg #[.int .i64 ln, .int .i64 pl, .pointer ip, .string nm]] W fun e W' => e = .panicked (failC ln 284) ∧ KeptBut (fun q => q = pb) W W' := by
  have HKN := Lib.hid hkn
  have HIP := Lib.hid hip
  have HI := Lib.hid hi
  have HIO := Lib.hid hio
  have HIL := Lib.hid hi.lt
  have hand := and3_i64 (n - pl)
  have hz := hq
  have hw : n % 4294967296 = n := by omega
  have hsub : IntKind.i64.wrap (n - pl) = n - pl := by rw [IntKind.wrap_i64]; omega
  clear hip hi hio hkn
  obtain e1 | e1 | e1 | e1 : op = 17 ∨ op = 18 ∨ op = 19 ∨ op = 20 := by omega
  · skip
    have o17 : (op == 17) = true := by rw [e1]; rfl
    clear e1 hop
    have HBR := Lib.hid hR
    obtain ⟨An, cn, rfl⟩ := own_slice h.n
    have f0 := h.c.frozen 0
    have q0 := (h.c.cell 0).trans (show _ = some (Value.int .i64 line) from rfl)
    have sW : (W.setCell ⟨pb, 0, none⟩ (.int .i64 ln)).heap.size = W.heap.size := by simp [World.setCell]
    have hB := Cells.new (W.setCell ⟨pb, 0, none⟩ (.int .i64 ln)) 89 #[.int .i64 ln, .int .i64 pl, .pointer ip, .string nm]
    rw [sW] at hB
    have HB1 := Lib.hid hB
    have HP1 := Lib.hid (h.atL (j := ln) |>.below ((Below.refl _ _).alloc (Nat.le_refl _) (.cells #[.int .i64 ln, .int .i64 pl, .pointer ip, .string nm] 89)))
    have hpl := h.c.lt
    have HK1 := Lib.hid ((KeptBut.set (W := W) (S := fun k => k = pb) rfl 0 (.int .i64 ln)).trans (KeptBut.of_below (fun k => k = pb) ((Below.refl _ _).alloc (Nat.le_refl _) (.cells #[.int .i64 ln, .int .i64 pl, .pointer ip, .string nm] 89))))
    have HP := Lib.hid h
    have q2 := (HP1.out.c.cell 2).trans (show _ = some (Value.slice An ns.length cn) from rfl)
    clear h hB sW
    go_enter Tryz.func42, Tryz.ntmps42
    go_wp2_with fail
    generalize World.alloc _ _ = W1 at *
    refine (cIdxN (c := cn) (enters_of Tryz.func74 (by kernel_rfl) rfl) (cAsk2 HB1.out) (rdn_row HP1.out.n) hnl).mono ?_
    rintro e W2 ⟨rfl, hb⟩
    have HP2 := Lib.hid (HP1.out.below hb)
    have HB2 := Lib.hid (HB1.out.below hb HB1.out.lt)
    have HK2 := Lib.hid (HK1.out.trans (KeptBut.of_below _ hb))
    clear hb HP1 HB1 HK1 q0 q2 f0
    rw [hk]
    go_wp2_with fail
    refine (cMust _ _ _).mono ?_
    rintro e w' ⟨rfl, rfl⟩
    have q2 := (HP2.out.c.cell 2).trans (show _ = some (Value.slice An ns.length cn) from rfl)
    obtain ⟨gn, on, eAn, hg⟩ := (rdn_row HP2.out.n).some_ (by have := (List.getElem?_eq_some_iff.1 HKN.out).1; omega)
    obtain ⟨-, c1⟩ := (rdn_row HP2.out.n).cell gn on eAn k nm n HKN.out
    rw [eAn] at q2
    have HAN := Lib.hid eAn
    clear eAn hg
    have hkl : k < ns.length := (List.getElem?_eq_some_iff.1 HKN.out).1
    have b1 := (HB2.out.cell 1).trans (show _ = some (Value.int .i64 pl) from rfl)
    have b2 := (HB2.out.cell 2).trans (show _ = some (Value.pointer ip) from rfl)
    rw [HIP.out] at b2
    have hi2 := HK2.out.cells HI.out (fun e => HIO.out (.inl e))
    have i0 := (hi2.cell 0).trans (show _ = some (Value.int .i64 op) from rfl)
    clear hi2
    go_wp2_with fail
    rw [show ((n - (pl : Int)) % 4 == 0) = false from beq_eq_false_iff_ne.2 hq]
    refine (cMustNo HP2.out.c 284).mono ?_
    rintro e w' ⟨rfl, rfl⟩
    exact ⟨rfl, rfl, HK2.out⟩
  · skip
    have o17 : (op == 17) = false := by rw [e1]; rfl
    have o18 : (op == 18) = true := by rw [e1]; rfl
    clear e1 hop
    have HBR := Lib.hid hR
    obtain ⟨An, cn, rfl⟩ := own_slice h.n
    have f0 := h.c.frozen 0
    have q0 := (h.c.cell 0).trans (show _ = some (Value.int .i64 line) from rfl)
    have sW : (W.setCell ⟨pb, 0, none⟩ (.int .i64 ln)).heap.size = W.heap.size := by simp [World.setCell]
    have hB := Cells.new (W.setCell ⟨pb, 0, none⟩ (.int .i64 ln)) 89 #[.int .i64 ln, .int .i64 pl, .pointer ip, .string nm]
    rw [sW] at hB
    have HB1 := Lib.hid hB
    have HP1 := Lib.hid (h.atL (j := ln) |>.below ((Below.refl _ _).alloc (Nat.le_refl _) (.cells #[.int .i64 ln, .int .i64 pl, .pointer ip, .string nm] 89)))
    have hpl := h.c.lt
    have HK1 := Lib.hid ((KeptBut.set (W := W) (S := fun k => k = pb) rfl 0 (.int .i64 ln)).trans (KeptBut.of_below (fun k => k = pb) ((Below.refl _ _).alloc (Nat.le_refl _) (.cells #[.int .i64 ln, .int .i64 pl, .pointer ip, .string nm] 89))))
    have HP := Lib.hid h
    have q2 := (HP1.out.c.cell 2).trans (show _ = some (Value.slice An ns.length cn) from rfl)
    clear h hB sW
    go_enter Tryz.func42, Tryz.ntmps42
    go_wp2_with fail
    generalize World.alloc _ _ = W1 at *
    refine (cIdxN (c := cn) (enters_of Tryz.func74 (by kernel_rfl) rfl) (cAsk2 HB1.out) (rdn_row HP1.out.n) hnl).mono ?_
    rintro e W2 ⟨rfl, hb⟩
    have HP2 := Lib.hid (HP1.out.below hb)
    have HB2 := Lib.hid (HB1.out.below hb HB1.out.lt)
    have HK2 := Lib.hid (HK1.out.trans (KeptBut.of_below _ hb))
    clear hb HP1 HB1 HK1 q0 q2 f0
    rw [hk]
    go_wp2_with fail
    refine (cMust _ _ _).mono ?_
    rintro e w' ⟨rfl, rfl⟩
    have q2 := (HP2.out.c.cell 2).trans (show _ = some (Value.slice An ns.length cn) from rfl)
    obtain ⟨gn, on, eAn, hg⟩ := (rdn_row HP2.out.n).some_ (by have := (List.getElem?_eq_some_iff.1 HKN.out).1; omega)
    obtain ⟨-, c1⟩ := (rdn_row HP2.out.n).cell gn on eAn k nm n HKN.out
    rw [eAn] at q2
    have HAN := Lib.hid eAn
    clear eAn hg
    have hkl : k < ns.length := (List.getElem?_eq_some_iff.1 HKN.out).1
    have b1 := (HB2.out.cell 1).trans (show _ = some (Value.int .i64 pl) from rfl)
    have b2 := (HB2.out.cell 2).trans (show _ = some (Value.pointer ip) from rfl)
    rw [HIP.out] at b2
    have hi2 := HK2.out.cells HI.out (fun e => HIO.out (.inl e))
    have i0 := (hi2.cell 0).trans (show _ = some (Value.int .i64 op) from rfl)
    clear hi2
    go_wp2_with fail
    rw [show ((n - (pl : Int)) % 4 == 0) = false from beq_eq_false_iff_ne.2 hq]
    refine (cMustNo HP2.out.c 284).mono ?_
    rintro e w' ⟨rfl, rfl⟩
    exact ⟨rfl, rfl, HK2.out⟩
  · skip
    have o17 : (op == 17) = false := by rw [e1]; rfl
    have o18 : (op == 18) = false := by rw [e1]; rfl
    have o19 : (op == 19) = true := by rw [e1]; rfl
    clear e1 hop
    have HBR := Lib.hid hR
    obtain ⟨An, cn, rfl⟩ := own_slice h.n
    have f0 := h.c.frozen 0
    have q0 := (h.c.cell 0).trans (show _ = some (Value.int .i64 line) from rfl)
    have sW : (W.setCell ⟨pb, 0, none⟩ (.int .i64 ln)).heap.size = W.heap.size := by simp [World.setCell]
    have hB := Cells.new (W.setCell ⟨pb, 0, none⟩ (.int .i64 ln)) 89 #[.int .i64 ln, .int .i64 pl, .pointer ip, .string nm]
    rw [sW] at hB
    have HB1 := Lib.hid hB
    have HP1 := Lib.hid (h.atL (j := ln) |>.below ((Below.refl _ _).alloc (Nat.le_refl _) (.cells #[.int .i64 ln, .int .i64 pl, .pointer ip, .string nm] 89)))
    have hpl := h.c.lt
    have HK1 := Lib.hid ((KeptBut.set (W := W) (S := fun k => k = pb) rfl 0 (.int .i64 ln)).trans (KeptBut.of_below (fun k => k = pb) ((Below.refl _ _).alloc (Nat.le_refl _) (.cells #[.int .i64 ln, .int .i64 pl, .pointer ip, .string nm] 89))))
    have HP := Lib.hid h
    have q2 := (HP1.out.c.cell 2).trans (show _ = some (Value.slice An ns.length cn) from rfl)
    clear h hB sW
    go_enter Tryz.func42, Tryz.ntmps42
    go_wp2_with fail
    generalize World.alloc _ _ = W1 at *
    refine (cIdxN (c := cn) (enters_of Tryz.func74 (by kernel_rfl) rfl) (cAsk2 HB1.out) (rdn_row HP1.out.n) hnl).mono ?_
    rintro e W2 ⟨rfl, hb⟩
    have HP2 := Lib.hid (HP1.out.below hb)
    have HB2 := Lib.hid (HB1.out.below hb HB1.out.lt)
    have HK2 := Lib.hid (HK1.out.trans (KeptBut.of_below _ hb))
    clear hb HP1 HB1 HK1 q0 q2 f0
    rw [hk]
    go_wp2_with fail
    refine (cMust _ _ _).mono ?_
    rintro e w' ⟨rfl, rfl⟩
    have q2 := (HP2.out.c.cell 2).trans (show _ = some (Value.slice An ns.length cn) from rfl)
    obtain ⟨gn, on, eAn, hg⟩ := (rdn_row HP2.out.n).some_ (by have := (List.getElem?_eq_some_iff.1 HKN.out).1; omega)
    obtain ⟨-, c1⟩ := (rdn_row HP2.out.n).cell gn on eAn k nm n HKN.out
    rw [eAn] at q2
    have HAN := Lib.hid eAn
    clear eAn hg
    have hkl : k < ns.length := (List.getElem?_eq_some_iff.1 HKN.out).1
    have b1 := (HB2.out.cell 1).trans (show _ = some (Value.int .i64 pl) from rfl)
    have b2 := (HB2.out.cell 2).trans (show _ = some (Value.pointer ip) from rfl)
    rw [HIP.out] at b2
    have hi2 := HK2.out.cells HI.out (fun e => HIO.out (.inl e))
    have i0 := (hi2.cell 0).trans (show _ = some (Value.int .i64 op) from rfl)
    clear hi2
    go_wp2_with fail
    rw [show ((n - (pl : Int)) % 4 == 0) = false from beq_eq_false_iff_ne.2 hq]
    refine (cMustNo HP2.out.c 284).mono ?_
    rintro e w' ⟨rfl, rfl⟩
    exact ⟨rfl, rfl, HK2.out⟩
  · skip
    have o17 : (op == 17) = false := by rw [e1]; rfl
    have o18 : (op == 18) = false := by rw [e1]; rfl
    have o19 : (op == 19) = false := by rw [e1]; rfl
    have o20 : (op == 20) = true := by rw [e1]; rfl
    clear e1 hop
    have HBR := Lib.hid hR
    obtain ⟨An, cn, rfl⟩ := own_slice h.n
    have f0 := h.c.frozen 0
    have q0 := (h.c.cell 0).trans (show _ = some (Value.int .i64 line) from rfl)
    have sW : (W.setCell ⟨pb, 0, none⟩ (.int .i64 ln)).heap.size = W.heap.size := by simp [World.setCell]
    have hB := Cells.new (W.setCell ⟨pb, 0, none⟩ (.int .i64 ln)) 89 #[.int .i64 ln, .int .i64 pl, .pointer ip, .string nm]
    rw [sW] at hB
    have HB1 := Lib.hid hB
    have HP1 := Lib.hid (h.atL (j := ln) |>.below ((Below.refl _ _).alloc (Nat.le_refl _) (.cells #[.int .i64 ln, .int .i64 pl, .pointer ip, .string nm] 89)))
    have hpl := h.c.lt
    have HK1 := Lib.hid ((KeptBut.set (W := W) (S := fun k => k = pb) rfl 0 (.int .i64 ln)).trans (KeptBut.of_below (fun k => k = pb) ((Below.refl _ _).alloc (Nat.le_refl _) (.cells #[.int .i64 ln, .int .i64 pl, .pointer ip, .string nm] 89))))
    have HP := Lib.hid h
    have q2 := (HP1.out.c.cell 2).trans (show _ = some (Value.slice An ns.length cn) from rfl)
    clear h hB sW
    go_enter Tryz.func42, Tryz.ntmps42
    go_wp2_with fail
    generalize World.alloc _ _ = W1 at *
    refine (cIdxN (c := cn) (enters_of Tryz.func74 (by kernel_rfl) rfl) (cAsk2 HB1.out) (rdn_row HP1.out.n) hnl).mono ?_
    rintro e W2 ⟨rfl, hb⟩
    have HP2 := Lib.hid (HP1.out.below hb)
    have HB2 := Lib.hid (HB1.out.below hb HB1.out.lt)
    have HK2 := Lib.hid (HK1.out.trans (KeptBut.of_below _ hb))
    clear hb HP1 HB1 HK1 q0 q2 f0
    rw [hk]
    go_wp2_with fail
    refine (cMust _ _ _).mono ?_
    rintro e w' ⟨rfl, rfl⟩
    have q2 := (HP2.out.c.cell 2).trans (show _ = some (Value.slice An ns.length cn) from rfl)
    obtain ⟨gn, on, eAn, hg⟩ := (rdn_row HP2.out.n).some_ (by have := (List.getElem?_eq_some_iff.1 HKN.out).1; omega)
    obtain ⟨-, c1⟩ := (rdn_row HP2.out.n).cell gn on eAn k nm n HKN.out
    rw [eAn] at q2
    have HAN := Lib.hid eAn
    clear eAn hg
    have hkl : k < ns.length := (List.getElem?_eq_some_iff.1 HKN.out).1
    have b1 := (HB2.out.cell 1).trans (show _ = some (Value.int .i64 pl) from rfl)
    have b2 := (HB2.out.cell 2).trans (show _ = some (Value.pointer ip) from rfl)
    rw [HIP.out] at b2
    have hi2 := HK2.out.cells HI.out (fun e => HIO.out (.inl e))
    have i0 := (hi2.cell 0).trans (show _ = some (Value.int .i64 op) from rfl)
    clear hi2
    go_wp2_with fail
    rw [show ((n - (pl : Int)) % 4 == 0) = false from beq_eq_false_iff_ne.2 hq]
    refine (cMustNo HP2.out.c 284).mono ?_
    rintro e w' ⟨rfl, rfl⟩
    exact ⟨rfl, rfl, HK2.out⟩
end
end Go.Proofs.YtbfmlmnhdogojaaGreatDoor
