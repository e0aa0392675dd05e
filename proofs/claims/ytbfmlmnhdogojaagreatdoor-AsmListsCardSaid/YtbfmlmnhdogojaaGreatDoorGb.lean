/- An instruction filled in: contracts. -/
import Derived.Test.YtbfmlmnhdogojaaGreatDoorGa
import Derived.Test.YtbfmlmnhdogojaaGreatDoorEn
namespace Go.Proofs.YtbfmlmnhdogojaaGreatDoor
open Go.RowKit Go.Shelf

theorem and3_i64 (n : Int) : bits .and .i64 n 3 = n % 4 := by
  have h : (BitVec.ofInt 64 n &&& BitVec.ofInt 64 3).toNat = (n % 4).toNat := by
    rw [BitVec.toNat_and, BitVec.toNat_ofInt, BitVec.toNat_ofInt]
    rw [show ((3 : Int) % (2 ^ 64 : Nat)).toNat = 2 ^ 2 - 1 from rfl, Nat.and_two_pow_sub_one_eq_mod]
    omega
  show IntKind.i64.wrap ((BitVec.ofInt 64 n &&& BitVec.ofInt 64 3).toNat : Nat) = _
  rw [h, IntKind.wrap_i64]
  omega
section
variable {W : World} {R pb : Nat} {vb vn vh : Value} {line ln : Int} {bs : List Int} {ns : List (ByteArray × Int)} {hs : List HoleV} {nm : ByteArray} {pl : Nat} {ip : Option Addr}
theorem PS.out {S : Nat → Prop} {W' : World} (h : PS W R pb vb vn vh line bs ns hs) (k : KeptBut S W W') (hn : ∀ q, POwn pb vb vn vh q → ¬ S q) : PS W' R pb vb vn vh line bs ns hs := h.kept k hn
set_option maxRecDepth 100000 in
set_option maxHeartbeats 1000000 in
/-- No branch. -/
theorem cFillI (h : PS W R pb vb vn vh line bs ns hs) (hnl : ns.length ≤ 1000000000) {k ib : Nat} {n op a b c : Int} (hk : atL nm ns 0 = k) (hkn : ns[k]? = some (nm, n)) (hn : 0 ≤ n ∧ n ≤ 2048) (hip : ip = some ⟨ib, 0, none⟩) (hpl4 : pl + 4 ≤ bs.length) (hb4 : bs.length ≤ 2048) (hR : R ≤ W.heap.size)
    (hi : Cells W ib 69 #[.int .i64 op, .int .i64 a, .int .i64 b, .int .i64 c]) (hio : ¬ POwn pb vb vn vh ib) (hop : ¬ (17 ≤ op ∧ op ≤ 20)) (hmay : mayL op a b n = true) :
    Calls Tryz.prog 42 #[.pointer (some ⟨pb, 0, none⟩), .agg #[.int .i64 ln, .int .i64 pl, .pointer ip, .string nm]] W fun e W' => e = .returned (.tuple #[]) ∧ PS W' R pb vb vn vh ln (overV bs pl (encL op a b n)) ns hs ∧ KeptBut (fun q => q = pb ∨ vb.ownBlock = some q ∨ ip = some ⟨q, 0, none⟩) W W' ∧ Cells W' ib 69 #[.int .i64 op, .int .i64 a, .int .i64 b, .int .i64 n] := by
  have HKN := Lib.hid hkn
  have HIP := Lib.hid hip
  have HI := Lib.hid hi
  have HIO := Lib.hid hio
  have HIL := Lib.hid hi.lt
  have HMAY := Lib.hid hmay
  have o17 : op ≠ 17 := by omega
  have o18 : op ≠ 18 := by omega
  have o19 : op ≠ 19 := by omega
  have o20 : op ≠ 20 := by omega
  clear hip hi hio hmay
  have hw : n % 4294967296 = n := by omega
  clear hkn hop
  have HBR := Lib.hid hR
  obtain ⟨An, cn, rfl⟩ := own_slice h.n
  have f0 := h.c.frozen 0
  have q0 := (h.c.cell 0).trans (show _ = some (Value.int .i64 line) from rfl)
  have sW : (W.setCell ⟨pb, 0, none⟩ (.int .i64 ln)).heap.size = W.heap.size := by simp [World.setCell]
  have hB := Cells.new (W.setCell ⟨pb, 0, none⟩ (.int .i64 ln)) 89 #[.int .i64 ln, .int .i64 pl, .pointer ip, .string nm]
  rw [sW] at hB
  have HB1 := Lib.hid hB
  have HP1 := Lib.hid (h.atL (j := ln) |>.below ((Below.refl _ _).alloc (Nat.le_refl _) (.cells #[.int .i64 ln, .int .i64 pl, .pointer ip, .string nm] 89)))
  have hpl := h.c.lt
  have HK1 := Lib.hid ((KeptBut.set (W := W) (S := fun k => k = pb) rfl 0 (.int .i64 ln)).trans (KeptBut.of_below (fun k => k = pb) ((Below.refl _ _).alloc (Nat.le_refl _) (.cells #[.int .i64 ln, .int .i64 pl, .pointer ip, .string nm] 89))))
  have HP := Lib.hid h
  have q2 := (HP1.out.c.cell 2).trans (show _ = some (Value.slice An ns.length cn) from rfl)
  clear h hB sW
  go_enter Tryz.func42, Tryz.ntmps42
  go_wp2_with fail
  generalize World.alloc _ _ = W1 at *
  refine (cIdxN (c := cn) (enters_of Tryz.func74 (by kernel_rfl) rfl) (cAsk2 HB1.out) (rdn_row HP1.out.n) hnl).mono ?_
  rintro e W2 ⟨rfl, hb⟩
  have HP2 := Lib.hid (HP1.out.below hb)
  have HB2 := Lib.hid (HB1.out.below hb HB1.out.lt)
  have HK2 := Lib.hid (HK1.out.trans (KeptBut.of_below _ hb))
  clear hb HP1 HB1 HK1 q0 q2 f0
  rw [hk]
  go_wp2_with fail
  refine (cMust _ _ _).mono ?_
  rintro e w' ⟨rfl, rfl⟩
  have q2 := (HP2.out.c.cell 2).trans (show _ = some (Value.slice An ns.length cn) from rfl)
  obtain ⟨gn, on, eAn, hg⟩ := (rdn_row HP2.out.n).some_ (by have := (List.getElem?_eq_some_iff.1 HKN.out).1; omega)
  obtain ⟨-, c1⟩ := (rdn_row HP2.out.n).cell gn on eAn k nm n HKN.out
  rw [eAn] at q2
  have HAN := Lib.hid eAn
  clear eAn hg
  have hkl : k < ns.length := (List.getElem?_eq_some_iff.1 HKN.out).1
  have b1 := (HB2.out.cell 1).trans (show _ = some (Value.int .i64 pl) from rfl)
  have b2 := (HB2.out.cell 2).trans (show _ = some (Value.pointer ip) from rfl)
  rw [HIP.out] at b2
  have hi2 := HK2.out.cells HI.out (fun e => HIO.out (.inl e))
  have i0 := (hi2.cell 0).trans (show _ = some (Value.int .i64 op) from rfl)
  have i1 := (hi2.cell 1).trans (show _ = some (Value.int .i64 a) from rfl)
  have i2 := (hi2.cell 2).trans (show _ = some (Value.int .i64 b) from rfl)
  have i3 := (hi2.cell 3).trans (show _ = some (Value.int .i64 c) from rfl)
  have fi3 := hi2.frozen 3
  have hib := hi2.lt
  have HI5 := Lib.hid (hi2.set 3 (.int .i64 (n)))
  have k5 := KeptBut.set (W := W2) (S := fun q => q = ib) rfl 3 (.int .i64 (n))
  have HP5 := Lib.hid (HP2.out.kept k5 (fun q hq e => HIO.out (e ▸ hq)))
  have HK5 := Lib.hid k5
  have HB5 := Lib.hid (k5.cells HB2.out (fun e => by have := HIL.out; omega))
  clear hi2 k5
  go_wp2_with fail
  generalize World.setCell _ _ _ = W5 at *
  clear q2 c1 b1 b2 i0 i1 i2 i3 fi3
  refine (cEncode_in HMAY.out _).mono ?_
  rintro e W6 ⟨rfl, hb⟩
  have HP6 := Lib.hid (HP5.out.below hb)
  have HI6 := Lib.hid (HI5.out.below hb HI5.out.lt)
  have HB6 := Lib.hid (HB5.out.below hb HB5.out.lt)
  have HK6 := Lib.hid (((HK2.out.mono (S' := fun q => q = pb ∨ vb.ownBlock = some q ∨ ip = some ⟨q, 0, none⟩) fun q _ e => .inl e).trans (HK5.out.mono fun q _ e => .inr (.inr (by rw [e]; exact HIP.out)))).trans (KeptBut.of_below _ hb))
  obtain ⟨w, hw⟩ : ∃ w, w = encL op a b (n) := ⟨_, rfl⟩
  rw [← hw]
  have HWV := Lib.hid hw
  clear hb hw
  go_wp2_with fail
  refine (cMust _ _ _).mono ?_
  rintro e w' ⟨rfl, rfl⟩
  go_wp2_with fail
  go_loopw [79] (fun i wr => ∃ k : Nat, k ≤ 4 ∧ i = .int .i64 k ∧ PS wr R pb vb (.slice An ns.length cn) vh ln (overK bs pl w k) ns hs ∧ KeptBut (fun q => vb.ownBlock = some q) W6 wr) (fun i _ => 4 - (intOf i).toNat)
  case atStart => exact ⟨0, by omega, rfl, HP6.out, KeptBut.refl _ _⟩
  case round =>
    obtain ⟨k, hk, rfl, hP, hkb⟩ := hrel
    by_cases hlt : k < 4
    · have hlen := overK_len bs pl w k
      obtain ⟨g, cap, hvb, hrd⟩ := rd_row hP.b (by rw [hlen]; omega)
      have q1 := (hP.c.cell 1).trans (show _ = some vb from rfl)
      rw [hvb, hlen] at q1
      have hbx := hkb.cells HB6.out (fun e => by have := (HP.out.b.lt _ e).2; omega)
      have q2 := (hbx.cell 1).trans (show _ = some (Value.int .i64 pl) from rfl)
      have hst := hP.b
      rw [hvb, hlen] at hst
      have fz := hst.frozenAt (pl + k)
      have cx : wr.cell? ⟨g, pl + k, none⟩ = ((overK bs pl w k).map (Value.int .u8))[pl + k]? := hst.cellAt (pl + k) (by omega)
      obtain ⟨y, hy⟩ : ∃ y, (overK bs pl w k)[pl + k]? = some y := ⟨_, List.getElem?_eq_getElem (by omega)⟩
      rw [List.getElem?_map, hy] at cx
      have cx' : wr.cell? ⟨g, pl + k, none⟩ = some (.int .u8 y) := cx
      clear cx hy
      have HPH := Lib.hid (And.intro hP (And.intro hkb hst))
      have HBX := Lib.hid hbx
      clear hP hkb hst hbx hrd hlen
      have hwr : IntKind.i64.wrap ((pl : Int) + k) = ((pl + k : Nat) : Int) := by rw [IntKind.wrap_i64]; omega
      obtain rfl | rfl | rfl | rfl : k = 0 ∨ k = 1 ∨ k = 2 ∨ k = 3 := by omega
      · rw [Nat.add_zero] at cx' fz
        go_wp2_with fail
        go_region
        have hPF : PS (wr.setCell ⟨g, pl, none⟩ (.int .u8 (w % 256))) R pb vb (.slice An ns.length cn) vh ln (overK bs pl w 1) ns hs := by
          have hp := HPH.out.1
          rw [hvb] at hp ⊢
          exact hp.setB pl (w % 256)
        have HPF := Lib.hid (And.intro hPF (HPH.out.2.1.trans (KeptBut.set (S := fun q => vb.ownBlock = some q) (by rw [hvb]; rfl) pl (.int .u8 (w % 256)))))
        clear hPF
        go_wp2
        go_roundw
        case rel => exact ⟨1, by omega, rfl, HPF.out.1.below (Below.refl _ _).drew, HPF.out.2.trans (KeptBut.of_below _ (Below.refl _ _).drew)⟩
        case measure => simp [intOf]
      · skip
        go_wp2_with fail
        go_region
        have hPF : PS (wr.setCell ⟨g, (pl + 1), none⟩ (.int .u8 (w / 256 % 256))) R pb vb (.slice An ns.length cn) vh ln (overK bs pl w 2) ns hs := by
          have hp := HPH.out.1
          rw [hvb] at hp ⊢
          exact hp.setB (pl + 1) (w / 256 % 256)
        have HPF := Lib.hid (And.intro hPF (HPH.out.2.1.trans (KeptBut.set (S := fun q => vb.ownBlock = some q) (by rw [hvb]; rfl) (pl + 1) (.int .u8 (w / 256 % 256)))))
        clear hPF
        go_wp2
        go_roundw
        case rel => exact ⟨2, by omega, rfl, HPF.out.1.below (Below.refl _ _).drew, HPF.out.2.trans (KeptBut.of_below _ (Below.refl _ _).drew)⟩
        case measure => simp [intOf]
      · skip
        go_wp2_with fail
        go_region
        have hPF : PS (wr.setCell ⟨g, (pl + 2), none⟩ (.int .u8 (w / 65536 % 256))) R pb vb (.slice An ns.length cn) vh ln (overK bs pl w 3) ns hs := by
          have hp := HPH.out.1
          rw [hvb] at hp ⊢
          exact hp.setB (pl + 2) (w / 65536 % 256)
        have HPF := Lib.hid (And.intro hPF (HPH.out.2.1.trans (KeptBut.set (S := fun q => vb.ownBlock = some q) (by rw [hvb]; rfl) (pl + 2) (.int .u8 (w / 65536 % 256)))))
        clear hPF
        go_wp2
        go_roundw
        case rel => exact ⟨3, by omega, rfl, HPF.out.1.below (Below.refl _ _).drew, HPF.out.2.trans (KeptBut.of_below _ (Below.refl _ _).drew)⟩
        case measure => simp [intOf]
      · skip
        go_wp2_with fail
        go_region
        have hPF : PS (wr.setCell ⟨g, (pl + 3), none⟩ (.int .u8 (w / 16777216 % 256))) R pb vb (.slice An ns.length cn) vh ln (overK bs pl w 4) ns hs := by
          have hp := HPH.out.1
          rw [hvb] at hp ⊢
          exact hp.setB (pl + 3) (w / 16777216 % 256)
        have HPF := Lib.hid (And.intro hPF (HPH.out.2.1.trans (KeptBut.set (S := fun q => vb.ownBlock = some q) (by rw [hvb]; rfl) (pl + 3) (.int .u8 (w / 16777216 % 256)))))
        clear hPF
        go_wp2
        go_roundw
        case rel => exact ⟨4, by omega, rfl, HPF.out.1.below (Below.refl _ _).drew, HPF.out.2.trans (KeptBut.of_below _ (Below.refl _ _).drew)⟩
        case measure => simp [intOf]
    · obtain rfl : k = 4 := by omega
      have HF := Lib.hid (And.intro hP hkb)
      clear hP hkb hk hlt
      go_wp2_with fail
      go_end0
      obtain ⟨hP, hkb⟩ := HF.out
      rw [← HWV.out]
      exact ⟨rfl, hP, (HK6.out).trans (hkb.mono fun q _ e => .inr (.inl e)), hkb.cells HI6.out (fun e => HIO.out (.inr (.inl e)))⟩
end
end Go.Proofs.YtbfmlmnhdogojaaGreatDoor
