/- A hole filled in: contracts. -/
import Derived.Test.YtbfmlmnhdogojaaGreatDoorKf
namespace Go.Proofs.YtbfmlmnhdogojaaGreatDoor
open Go.RowKit Go.Shelf

section
variable {W : World} {R pb : Nat} {vb vn vh : Value} {line ln : Int} {bs : List Int} {ns : List (ByteArray × Int)} {hs : List HoleV} {nm : ByteArray} {pl : Nat} {ip : Option Addr}
theorem PS.atL {j : Int} (h : PS W R pb vb vn vh line bs ns hs) : PS (W.setCell ⟨pb, 0, none⟩ (.int .i64 j)) R pb vb vn vh j bs ns hs :=
  have k := KeptBut.set (W := W) (S := fun k => k = pb) rfl 0 (.int .i64 j)
  ⟨h.c.set 0 _, k.row h.b fun q e => h.np q (.inl e), k.row h.n fun q e => h.np q (.inr (.inl e)), k.row h.h fun q e => h.np q (.inr (.inr e)), h.bn, h.bh, h.nh, h.hp⟩
set_option maxRecDepth 100000 in
set_option maxHeartbeats 1000000 in
/-- The name stands nowhere. -/
theorem cFillNo (h : PS W R pb vb vn vh line bs ns hs) (hnl : ns.length ≤ 1000000000) (hat : atL nm ns 0 < 0) :
    Calls Tryz.prog 42 #[.pointer (some ⟨pb, 0, none⟩), .agg #[.int .i64 ln, .int .i64 pl, .pointer ip, .string nm]] W fun e W' => e = .panicked (failC ln 283) ∧ KeptBut (fun k => k = pb) W W' := by
  obtain ⟨An, cn, rfl⟩ := own_slice h.n
  have f0 := h.c.frozen 0
  have q0 := (h.c.cell 0).trans (show _ = some (Value.int .i64 line) from rfl)
  have sW : (W.setCell ⟨pb, 0, none⟩ (.int .i64 ln)).heap.size = W.heap.size := by simp [World.setCell]
  have hB := Cells.new (W.setCell ⟨pb, 0, none⟩ (.int .i64 ln)) 89 #[.int .i64 ln, .int .i64 pl, .pointer ip, .string nm]
  rw [sW] at hB
  have HB1 := Lib.hid hB
  have HP1 := Lib.hid (h.atL (j := ln) |>.below ((Below.refl _ _).alloc (Nat.le_refl _) (.cells #[.int .i64 ln, .int .i64 pl, .pointer ip, .string nm] 89)))
  have hpl := h.c.lt
  have HK1 := Lib.hid ((KeptBut.set (W := W) (S := fun k => k = pb) rfl 0 (.int .i64 ln)).trans (KeptBut.of_below (fun k => k = pb) ((Below.refl _ _).alloc (Nat.le_refl _) (.cells #[.int .i64 ln, .int .i64 pl, .pointer ip, .string nm] 89))))
  have HP := Lib.hid h
  have q2 := (HP1.out.c.cell 2).trans (show _ = some (Value.slice An ns.length cn) from rfl)
  clear h hB sW
  go_enter Tryz.func42, Tryz.ntmps42
  go_wp2_with fail
  generalize World.alloc _ _ = W1 at *
  refine (cIdxN (c := cn) (enters_of Tryz.func74 (by kernel_rfl) rfl) (cAsk2 HB1.out) (rdn_row HP1.out.n) hnl).mono ?_
  rintro e W2 ⟨rfl, hb⟩
  have HP2 := Lib.hid (HP1.out.below hb)
  have HB2 := Lib.hid (HB1.out.below hb HB1.out.lt)
  have HK2 := Lib.hid (HK1.out.trans (KeptBut.of_below _ hb))
  clear hb HP1 HB1 HK1 q0 q2 f0
  obtain ⟨k, hk⟩ : ∃ k, k = atL nm ns 0 := ⟨_, rfl⟩
  rw [← hk] at hat ⊢
  have HAT := Lib.hid hk
  clear hk
  go_wp2_with fail
  rw [decide_eq_false (show ¬ 0 ≤ k by omega)]
  refine (cMustNo HP2.out.c 283).mono ?_
  rintro e w' ⟨rfl, rfl⟩
  exact ⟨rfl, rfl, HK2.out⟩
/-- The first bytes laid over. -/
def overK (bs : List Int) (at_ : Nat) (w : Int) : Nat → List Int
  | 0 => bs
  | 1 => bs.set at_ (w % 256)
  | 2 => (bs.set at_ (w % 256)).set (at_ + 1) (w / 256 % 256)
  | 3 => ((bs.set at_ (w % 256)).set (at_ + 1) (w / 256 % 256)).set (at_ + 2) (w / 65536 % 256)
  | _ => overV bs at_ w
theorem overK_len (bs : List Int) (at_ : Nat) (w : Int) (k : Nat) : (overK bs at_ w k).length = bs.length := by
  unfold overK overV
  split <;> simp
/-- A byte laid over. -/
theorem PS.setB {W : World} {R pb g cap : Nat} {vn vh : Value} {line : Int} {bs : List Int} {ns : List (ByteArray × Int)} {hs : List HoleV} (h : PS W R pb (.slice (some ⟨g, 0, none⟩) bs.length cap) vn vh line bs ns hs) (j : Nat) (y : Int) :
    PS (W.setCell ⟨g, j, none⟩ (.int .u8 y)) R pb (.slice (some ⟨g, 0, none⟩) bs.length cap) vn vh line (bs.set j y) ns hs := by
  have k := KeptBut.set (W := W) (S := fun k => k = g) rfl j (.int .u8 y)
  have eb : (Value.slice (some ⟨g, 0, none⟩) bs.length cap).ownBlock = some g := rfl
  refine ⟨k.cells h.c (fun e => h.np g (.inl eb) e.symm), ?_, k.row h.n (fun q e x => h.bn g eb (x ▸ e)), k.row h.h (fun q e x => h.bh g eb (x ▸ e)), h.bn, h.bh, h.nh, h.hp⟩
  rw [List.length_set, List.map_set]
  exact (h.b.stored j (.int .u8 y)).1
set_option maxRecDepth 100000 in
set_option maxHeartbeats 1000000 in
/-- A word. -/
theorem cFillW (h : PS W R pb vb vn vh line bs ns hs) (hnl : ns.length ≤ 1000000000) {k : Nat} {w : Int} (hk : atL nm ns 0 = k) (hkn : ns[k]? = some (nm, w)) (hn : 0 ≤ w ∧ w ≤ 2048) (hip : ip = none) (hpl4 : pl + 4 ≤ bs.length) (hb4 : bs.length ≤ 2048) (hR : R ≤ W.heap.size) :
    Calls Tryz.prog 42 #[.pointer (some ⟨pb, 0, none⟩), .agg #[.int .i64 ln, .int .i64 pl, .pointer ip, .string nm]] W fun e W' => e = .returned (.tuple #[]) ∧ PS W' R pb vb vn vh ln (overV bs pl w) ns hs ∧ KeptBut (fun q => q = pb ∨ vb.ownBlock = some q ∨ ip = some ⟨q, 0, none⟩) W W' ∧ True := by
  have HKN := Lib.hid hkn
  have HIP := Lib.hid hip
  clear hip
  have hw : w % 4294967296 = w := by omega
  clear hn
  clear hkn
  have HBR := Lib.hid hR
  obtain ⟨An, cn, rfl⟩ := own_slice h.n
  have f0 := h.c.frozen 0
  have q0 := (h.c.cell 0).trans (show _ = some (Value.int .i64 line) from rfl)
  have sW : (W.setCell ⟨pb, 0, none⟩ (.int .i64 ln)).heap.size = W.heap.size := by simp [World.setCell]
  have hB := Cells.new (W.setCell ⟨pb, 0, none⟩ (.int .i64 ln)) 89 #[.int .i64 ln, .int .i64 pl, .pointer ip, .string nm]
  rw [sW] at hB
  have HB1 := Lib.hid hB
  have HP1 := Lib.hid (h.atL (j := ln) |>.below ((Below.refl _ _).alloc (Nat.le_refl _) (.cells #[.int .i64 ln, .int .i64 pl, .pointer ip, .string nm] 89)))
  have hpl := h.c.lt
  have HK1 := Lib.hid ((KeptBut.set (W := W) (S := fun k => k = pb) rfl 0 (.int .i64 ln)).trans (KeptBut.of_below (fun k => k = pb) ((Below.refl _ _).alloc (Nat.le_refl _) (.cells #[.int .i64 ln, .int .i64 pl, .pointer ip, .string nm] 89))))
  have HP := Lib.hid h
  have q2 := (HP1.out.c.cell 2).trans (show _ = some (Value.slice An ns.length cn) from rfl)
  clear h hB sW
  go_enter Tryz.func42, Tryz.ntmps42
  go_wp2_with fail
  generalize World.alloc _ _ = W1 at *
  refine (cIdxN (c := cn) (enters_of Tryz.func74 (by kernel_rfl) rfl) (cAsk2 HB1.out) (rdn_row HP1.out.n) hnl).mono ?_
  rintro e W2 ⟨rfl, hb⟩
  have HP2 := Lib.hid (HP1.out.below hb)
  have HB2 := Lib.hid (HB1.out.below hb HB1.out.lt)
  have HK2 := Lib.hid (HK1.out.trans (KeptBut.of_below _ hb))
  clear hb HP1 HB1 HK1 q0 q2 f0
  rw [hk]
  go_wp2_with fail
  refine (cMust _ _ _).mono ?_
  rintro e w' ⟨rfl, rfl⟩
  have q2 := (HP2.out.c.cell 2).trans (show _ = some (Value.slice An ns.length cn) from rfl)
  obtain ⟨gn, on, eAn, hg⟩ := (rdn_row HP2.out.n).some_ (by have := (List.getElem?_eq_some_iff.1 HKN.out).1; omega)
  obtain ⟨-, c1⟩ := (rdn_row HP2.out.n).cell gn on eAn k nm w HKN.out
  rw [eAn] at q2
  have HAN := Lib.hid eAn
  clear eAn hg
  have hkl : k < ns.length := (List.getElem?_eq_some_iff.1 HKN.out).1
  have b1 := (HB2.out.cell 1).trans (show _ = some (Value.int .i64 pl) from rfl)
  have b2 := (HB2.out.cell 2).trans (show _ = some (Value.pointer ip) from rfl)
  rw [HIP.out] at b2
  go_wp2_with fail
  clear hw
  go_wp2_with fail
  go_loopw [79] (fun i wr => ∃ k : Nat, k ≤ 4 ∧ i = .int .i64 k ∧ PS wr R pb vb (.slice An ns.length cn) vh ln (overK bs pl w k) ns hs ∧ KeptBut (fun q => vb.ownBlock = some q) W2 wr) (fun i _ => 4 - (intOf i).toNat)
  case atStart => exact ⟨0, by omega, rfl, HP2.out, KeptBut.refl _ _⟩
  case round =>
    obtain ⟨k, hk, rfl, hP, hkb⟩ := hrel
    by_cases hlt : k < 4
    · have hlen := overK_len bs pl w k
      obtain ⟨g, cap, hvb, hrd⟩ := rd_row hP.b (by rw [hlen]; omega)
      have q1 := (hP.c.cell 1).trans (show _ = some vb from rfl)
      rw [hvb, hlen] at q1
      have hbx := hkb.cells HB2.out (fun e => by have := (HP.out.b.lt _ e).2; omega)
      have q2 := (hbx.cell 1).trans (show _ = some (Value.int .i64 pl) from rfl)
      have hst := hP.b
      rw [hvb, hlen] at hst
      have fz := hst.frozenAt (pl + k)
      have cx : wr.cell? ⟨g, pl + k, none⟩ = ((overK bs pl w k).map (Value.int .u8))[pl + k]? := hst.cellAt (pl + k) (by omega)
      obtain ⟨y, hy⟩ : ∃ y, (overK bs pl w k)[pl + k]? = some y := ⟨_, List.getElem?_eq_getElem (by omega)⟩
      rw [List.getElem?_map, hy] at cx
      have cx' : wr.cell? ⟨g, pl + k, none⟩ = some (.int .u8 y) := cx
      clear cx hy
      have HPH := Lib.hid (And.intro hP (And.intro hkb hst))
      have HBX := Lib.hid hbx
      clear hP hkb hst hbx hrd hlen
      have hwr : IntKind.i64.wrap ((pl : Int) + k) = ((pl + k : Nat) : Int) := by rw [IntKind.wrap_i64]; omega
      obtain rfl | rfl | rfl | rfl : k = 0 ∨ k = 1 ∨ k = 2 ∨ k = 3 := by omega
      · rw [Nat.add_zero] at cx' fz
        go_wp2_with fail
        go_region
        have hPF : PS (wr.setCell ⟨g, pl, none⟩ (.int .u8 (w % 256))) R pb vb (.slice An ns.length cn) vh ln (overK bs pl w 1) ns hs := by
          have hp := HPH.out.1
          rw [hvb] at hp ⊢
          exact hp.setB pl (w % 256)
        have HPF := Lib.hid (And.intro hPF (HPH.out.2.1.trans (KeptBut.set (S := fun q => vb.ownBlock = some q) (by rw [hvb]; rfl) pl (.int .u8 (w % 256)))))
        clear hPF
        go_wp2
        go_roundw
        case rel => exact ⟨1, by omega, rfl, HPF.out.1.below (Below.refl _ _).drew, HPF.out.2.trans (KeptBut.of_below _ (Below.refl _ _).drew)⟩
        case measure => simp [intOf]
      · skip
        go_wp2_with fail
        go_region
        have hPF : PS (wr.setCell ⟨g, (pl + 1), none⟩ (.int .u8 (w / 256 % 256))) R pb vb (.slice An ns.length cn) vh ln (overK bs pl w 2) ns hs := by
          have hp := HPH.out.1
          rw [hvb] at hp ⊢
          exact hp.setB (pl + 1) (w / 256 % 256)
        have HPF := Lib.hid (And.intro hPF (HPH.out.2.1.trans (KeptBut.set (S := fun q => vb.ownBlock = some q) (by rw [hvb]; rfl) (pl + 1) (.int .u8 (w / 256 % 256)))))
        clear hPF
        go_wp2
        go_roundw
        case rel => exact ⟨2, by omega, rfl, HPF.out.1.below (Below.refl _ _).drew, HPF.out.2.trans (KeptBut.of_below _ (Below.refl _ _).drew)⟩
        case measure => simp [intOf]
      · skip
        go_wp2_with fail
        go_region
        have hPF : PS (wr.setCell ⟨g, (pl + 2), none⟩ (.int .u8 (w / 65536 % 256))) R pb vb (.slice An ns.length cn) vh ln (overK bs pl w 3) ns hs := by
          have hp := HPH.out.1
          rw [hvb] at hp ⊢
          exact hp.setB (pl + 2) (w / 65536 % 256)
        have HPF := Lib.hid (And.intro hPF (HPH.out.2.1.trans (KeptBut.set (S := fun q => vb.ownBlock = some q) (by rw [hvb]; rfl) (pl + 2) (.int .u8 (w / 65536 % 256)))))
        clear hPF
        go_wp2
        go_roundw
        case rel => exact ⟨3, by omega, rfl, HPF.out.1.below (Below.refl _ _).drew, HPF.out.2.trans (KeptBut.of_below _ (Below.refl _ _).drew)⟩
        case measure => simp [intOf]
      · skip
        go_wp2_with fail
        go_region
        have hPF : PS (wr.setCell ⟨g, (pl + 3), none⟩ (.int .u8 (w / 16777216 % 256))) R pb vb (.slice An ns.length cn) vh ln (overK bs pl w 4) ns hs := by
          have hp := HPH.out.1
          rw [hvb] at hp ⊢
          exact hp.setB (pl + 3) (w / 16777216 % 256)
        have HPF := Lib.hid (And.intro hPF (HPH.out.2.1.trans (KeptBut.set (S := fun q => vb.ownBlock = some q) (by rw [hvb]; rfl) (pl + 3) (.int .u8 (w / 16777216 % 256)))))
        clear hPF
        go_wp2
        go_roundw
        case rel => exact ⟨4, by omega, rfl, HPF.out.1.below (Below.refl _ _).drew, HPF.out.2.trans (KeptBut.of_below _ (Below.refl _ _).drew)⟩
        case measure => simp [intOf]
    · obtain rfl : k = 4 := by omega
      have HF := Lib.hid (And.intro hP hkb)
      clear hP hkb hk hlt
      go_wp2_with fail
      go_end0
      obtain ⟨hP, hkb⟩ := HF.out
      skip
      exact ⟨rfl, hP, (HK2.out.mono fun q _ e => .inl e).trans (hkb.mono fun q _ e => .inr (.inl e)), trivial⟩
end
end Go.Proofs.YtbfmlmnhdogojaaGreatDoor
