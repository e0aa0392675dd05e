/- The listing of bytes: contract. -/
import Derived.Test.YtbfmlmnhdogojaaGreatDoorLa
import Derived.Test.YtbfmlmnhdogojaaGreatDoorWk
namespace Go.Proofs.YtbfmlmnhdogojaaGreatDoor
open Go.RowKit Go.Shelf

set_option maxRecDepth 100000 in
set_option maxHeartbeats 2000000 in
theorem cAsmLists {w : World} (hG : Gl w) {A : Option Addr} {L : List Int} {c : Nat} (hr : Rd w w.heap.size .u8 A L) (h8 : ∀ x ∈ L, 0 ≤ x ∧ x < 256) (hcap : L.length ≤ c) (hmax : c ≤ maxLen) :
    Calls Tryz.prog 4 #[.slice A L.length c] w fun e w' => e = .returned (.bool true) ∧ Below w.heap.size w w' := by
  obtain ⟨i0, hi0, hz0, hz1, hz2⟩ := info_parts info_u8
  have HG := Lib.hid hG
  have HR := Lib.hid hr
  have H8 := Lib.hid h8
  clear hG hr h8
  go_enter Tryz.func4, Tryz.ntmps4
  by_cases h0 : 2048 < (L.length : Int)
  · have q0 : decide (2048 < (L.length : Int)) = true := decide_eq_true h0
    clear h0
    go_wp2_with fail
    refine (cWorks HG.out).mono ?_
    rintro e W3 ⟨rfl, b3⟩
    have HB := Lib.hid b3
    clear b3
    go_wp2_with fail
    go_ret
    exact ⟨rfl, HB.out⟩
  · have q0 : decide (2048 < (L.length : Int)) = false := decide_eq_false h0
    have hL : L.length ≤ 2048 := by omega
    clear h0
    rcases Nat.eq_zero_or_pos L.length with hl | hp
    · obtain rfl := List.eq_nil_of_length_eq_zero hl
      have hrm : Rd (w.alloc (.cells #[] 5)) (w.alloc (.cells #[] 5)).heap.size .u8 (some ⟨w.heap.size, 0, none⟩) [] := ⟨fun h => absurd h (by simp), fun _ _ _ i x hx => by simp at hx⟩
      have hb1 := (Below.refl w.heap.size w).alloc (Nat.le_refl _) (.cells #[] 5)
      have hcm : ([] : List Int).length ≤ 0 := Nat.le_refl _
      go_wp2_with (at_builtin; refine wpList_append_zero rfl _ _ 24 rfl w.heap.size 5 i0 1 Tryz.underlying24 hi0 _ _ _ rfl (World.ownsRow_made w #[] 0 (Nat.le_refl _) (Nat.zero_le _) (by simp)) A c rfl ?_)
      have HM := Lib.hid (And.intro hrm hb1)
      clear hrm hb1
      refine (cListing (xs := []) (c := 0) (HG.out.b HM.out.2) HM.out.1 H8.out (by decide) hcm).mono ?_
      rintro e W2 ⟨rfl, hb2⟩
      have HM2 := Lib.hid (And.intro (HM.out.1.below hb2 (Nat.le_refl _)) (HM.out.2.trans (hb2.mono HM.out.2.size)))
      have HS := Lib.hid hb2.size
      clear hb2
      obtain ⟨S, hS⟩ : ∃ S : ByteArray, S = ⟨(listL []).toArray⟩ := ⟨_, rfl⟩
      rw [← hS]
      go_wp2_with fail
      refine (rListing (xs := []) (c := c) (HG.out.b HM2.out.2) ((HR.out.below HM2.out.2 (Nat.le_refl _)).up HM2.out.2.size) H8.out hL hcap hmax).mono ?_
      rintro e W3 ⟨rfl, hb3⟩
      rw [← hS]
      clear hS
      have cv := conv_any (l := []) (c := 0) (HM2.out.1.below hb3 HS.out)
      have B3 := Lib.hid (HM2.out.2.trans (hb3.mono HM2.out.2.size))
      have cv' := conv_any (l := []) (c := c) (HR.out.below B3.out (Nat.le_refl _))
      clear hb3
      try simp only [List.length_nil] at cv cv'
      go_wp2_with fail
      refine (cNumE 0 W3).mono ?_
      rintro e w5 ⟨rfl, rfl⟩
      go_wp2_with fail
      refine (cWorks (HG.out.b B3.out)).mono ?_
      rintro e W4 ⟨rfl, b4⟩
      have HB := Lib.hid (B3.out.trans (b4.mono B3.out.size))
      clear b4 cv cv'
      go_wp2_with fail
      go_ret
      exact ⟨rfl, HB.out⟩
    · obtain ⟨g, off, rfl, hg⟩ := HR.out.some_ hp
      have hc : ∀ j u, (L.map (Value.int .u8))[j]? = some u → (w.alloc (.cells #[] 5)).cell? ((⟨g, off, none⟩ : Addr).add j) = some u := fun j u hu => by
        rw [List.getElem?_map] at hu
        obtain ⟨y, hy, rfl⟩ := Option.map_eq_some_iff.1 hu
        rw [addr_add]
        exact (World.cell?_of_block (Below.heap_alloc w _ g hg)).trans (HR.out.cell _ _ rfl j y hy)
      have HC := Lib.hid hc
      clear hc
      go_wp2_with (at_builtin; refine wpList_append_lies _ rfl _ _ 24 rfl w.heap.size 5 i0 (.int .u8 0) 1 1 Tryz.underlying24 hi0 hz0 hz1 hz2 rfl (by decide) _ _ _ rfl (World.ownsRow_made w #[] 0 (Nat.le_refl _) (Nat.zero_le _) (by simp)) ⟨g, off, none⟩ L.length _ (L.map (Value.int .u8)) rfl (by simp) HC.out (by simp [Value.oneCell']) hp (by simp only [Nat.zero_add, maxLen]; omega) (by omega) (by simp) _ rfl ?_; intro g' cap' w1 hown hgrow hat hlt)
      obtain ⟨hrm, hb1⟩ : Rd w1 w1.heap.size .u8 (some ⟨g', 0, none⟩) L ∧ Below w.heap.size w w1 := ⟨Rd.of_own (by simpa using hown), ((Below.refl _ w).alloc (Nat.le_refl _) _).grown hgrow (by simp) (by intro k hk; have : w.heap.size = k := Option.some.inj hk; omega)⟩
      have hcm : L.length ≤ cap' := by
        rcases hown.2 with ⟨_, h0⟩ | ⟨g2, cap2, cur, hv, _, _, h1, _⟩
        · omega
        · have e := congrArg (fun v => match v with | Value.slice _ _ c => c | _ => 0) hv
          simp at e h1
          omega
      clear hown hgrow hat
      have HM := Lib.hid (And.intro hrm hb1)
      clear hrm hb1
      refine (cListing (xs := L) (c := cap') (HG.out.b HM.out.2) HM.out.1 H8.out (by omega) hcm).mono ?_
      rintro e W2 ⟨rfl, hb2⟩
      have HM2 := Lib.hid (And.intro (HM.out.1.below hb2 (Nat.le_refl _)) (HM.out.2.trans (hb2.mono HM.out.2.size)))
      have HS := Lib.hid hb2.size
      clear hb2
      obtain ⟨S, hS⟩ : ∃ S : ByteArray, S = ⟨(listL L).toArray⟩ := ⟨_, rfl⟩
      rw [← hS]
      go_wp2_with fail
      refine (rListing (xs := L) (c := c) (HG.out.b HM2.out.2) ((HR.out.below HM2.out.2 (Nat.le_refl _)).up HM2.out.2.size) H8.out hL hcap hmax).mono ?_
      rintro e W3 ⟨rfl, hb3⟩
      rw [← hS]
      clear hS
      have cv := conv_any (l := L) (c := cap') (HM2.out.1.below hb3 HS.out)
      have B3 := Lib.hid (HM2.out.2.trans (hb3.mono HM2.out.2.size))
      have cv' := conv_any (l := L) (c := c) (HR.out.below B3.out (Nat.le_refl _))
      clear hb3
      try simp only [List.length_nil] at cv cv'
      go_wp2_with fail
      refine (cNumE 0 W3).mono ?_
      rintro e w5 ⟨rfl, rfl⟩
      go_wp2_with fail
      refine (cWorks (HG.out.b B3.out)).mono ?_
      rintro e W4 ⟨rfl, b4⟩
      have HB := Lib.hid (B3.out.trans (b4.mono B3.out.size))
      clear b4 cv cv'
      go_wp2_with fail
      go_ret
      exact ⟨rfl, HB.out⟩
end Go.Proofs.YtbfmlmnhdogojaaGreatDoor
