/- Images compared: the program's contract. -/
import Derived.Test.YtbfmlmnhdogojaaGreatDoorYb
namespace Go.Proofs.YtbfmlmnhdogojaaGreatDoor
open Go.RowKit Go.Shelf

set_option maxHeartbeats 1000000 in
theorem cSameA {W : World} {A A' B B' : Option Addr} {L L' : List Int} {N N' : List (ByteArray × Int)} {c c' d d' : Nat} (hr : Rd W W.heap.size .u8 A L) (hr' : Rd W W.heap.size .u8 A' L') (hn : RdN W W.heap.size B N) (hn' : RdN W W.heap.size B' N') (hL : L.length ≤ 65536) (hL' : L'.length ≤ 65536) (hN : N.length ≤ 65536) (hN' : N'.length ≤ 65536) :
    Calls Tryz.prog 20 #[.agg #[.slice A L.length c, .slice B N.length d], .agg #[.slice A' L'.length c', .slice B' N'.length d']] W fun e w' => e = .returned (.bool (decide (L = L') && decide (N = N'))) ∧ Below W.heap.size W w' := by
  have b1 := (Below.refl W.heap.size W).alloc (Nat.le_refl _) (.cells #[.slice A L.length c, .slice B N.length d] 33)
  have s1 : (W.alloc (.cells #[.slice A L.length c, .slice B N.length d] 33)).heap.size = W.heap.size + 1 := World.size_alloc _ _
  have b2 : Below W.heap.size W ((W.alloc (.cells #[.slice A L.length c, .slice B N.length d] 33)).alloc (.cells #[.slice A' L'.length c', .slice B' N'.length d'] 33)) := b1.alloc (B := W.heap.size) (by rw [s1]; omega) (.cells #[.slice A' L'.length c', .slice B' N'.length d'] 33)
  have x1 : Cells ((W.alloc (.cells #[.slice A L.length c, .slice B N.length d] 33)).alloc (.cells #[.slice A' L'.length c', .slice B' N'.length d'] 33)) W.heap.size 33 #[.slice A L.length c, .slice B N.length d] := (Cells.new W 33 #[.slice A L.length c, .slice B N.length d]).alloc _
  have x2 : Cells ((W.alloc (.cells #[.slice A L.length c, .slice B N.length d] 33)).alloc (.cells #[.slice A' L'.length c', .slice B' N'.length d'] 33)) (W.heap.size + 1) 33 #[.slice A' L'.length c', .slice B' N'.length d'] := by have := Cells.new (W.alloc (.cells #[.slice A L.length c, .slice B N.length d] 33)) 33 #[.slice A' L'.length c', .slice B' N'.length d']; rwa [s1] at this
  have s2 : ((W.alloc (.cells #[.slice A L.length c, .slice B N.length d] 33)).alloc (.cells #[.slice A' L'.length c', .slice B' N'.length d'] 33)).heap.size = W.heap.size + 2 := by rw [World.size_alloc, s1]
  have HF := Lib.hid (And.intro b2 (And.intro x1 (And.intro x2 s2)))
  clear b1 b2 x1 x2 s2
  have HR := Lib.hid (And.intro hr (And.intro hr' (And.intro hn hn')))
  have HS := Lib.hid (And.intro hL (And.intro hL' (And.intro hN hN')))
  clear hr hr' hn hn' hL hL' hN hN'
  go_enter Tryz.func20, Tryz.ntmps20
  have hc := HF.out.2.1.cell 0
  have hc' := HF.out.2.2.1.cell 0
  simp at hc hc'
  go_wp2_with fail
  clear hc hc' s1
  revert HF
  generalize ((W.alloc (.cells #[.slice A L.length c, .slice B N.length d] 33)).alloc (.cells #[.slice A' L'.length c', .slice B' N'.length d'] 33)) = W2
  intro HF
  obtain ⟨b2, x1, x2, s2⟩ := HF.out
  obtain ⟨hr, hr', hn, hn'⟩ := HR.out
  obtain ⟨hL, hL', hN, hN'⟩ := HS.out
  refine (cEqualB ((hr.below b2 (Nat.le_refl _)).up b2.size) ((hr'.below b2 (Nat.le_refl _)).up b2.size) hL hL').mono ?_
  rintro e W3 ⟨rfl, b3⟩
  have y1 : Cells W3 W.heap.size 33 #[.slice A L.length c, .slice B N.length d] := x1.below b3 x1.lt
  have y2 : Cells W3 (W.heap.size + 1) 33 #[.slice A' L'.length c', .slice B' N'.length d'] := x2.below b3 x2.lt
  have b4 := b2.trans (b3.mono b2.size)
  have hd := y1.cell 1
  have hd' := y2.cell 1
  simp at hd hd'
  have HB := Lib.hid b4
  clear hr hr' hL hL' x1 x2 s2 b2 b3 y1 y2 b4 HF HR HS
  by_cases hl : L = L'
  · rw [decide_eq_true hl]
    have HL := Lib.hid hl
    have HN := Lib.hid (And.intro hn (And.intro hn' (And.intro hN hN')))
    clear hl hn hn' hN hN'
    go_wp2_with fail
    obtain ⟨hn, hn', hN, hN'⟩ := HN.out
    refine (cEqualN ((hn.below HB.out (Nat.le_refl _)).up HB.out.size) ((hn'.below HB.out (Nat.le_refl _)).up HB.out.size) hN hN').mono ?_
    rintro e W4 ⟨rfl, b5⟩
    have HB5 := Lib.hid (HB.out.trans (b5.mono HB.out.size))
    clear hn hn' hN hN' b5 hd hd' HN
    obtain ⟨q, hq⟩ : ∃ q, decide (N = N') = q := ⟨_, rfl⟩
    rw [hq]
    have HQ := Lib.hid hq
    clear hq
    go_wp2_with fail
    go_ret
    exact ⟨ret_bool (by rw [decide_eq_true HL.out, HQ.out]; rfl), HB5.out⟩
  · rw [decide_eq_false hl]
    have HL := Lib.hid hl
    clear hl hn hn' hN hN'
    go_wp2_with fail
    go_ret
    exact ⟨ret_bool (by rw [decide_eq_false HL.out]; rfl), HB.out⟩
end Go.Proofs.YtbfmlmnhdogojaaGreatDoor
