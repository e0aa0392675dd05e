/- Images compared: the document's contract. -/
import Derived.Test.YtbfmlmnhdogojaaGreatDoorYc
import Derived.Test.YtbfmlmnhdogojaaGreatDoorYx
import Derived.LoopTactic
namespace Go.Proofs.YtbfmlmnhdogojaaGreatDoor
open Go.RowKit Go.Shelf

theorem strOf_inj {L L' : List Int} (h : ∀ x ∈ L, 0 ≤ x ∧ x < 256) (h' : ∀ x ∈ L', 0 ≤ x ∧ x < 256) (e : strOfNums L = strOfNums L') : L = L' := by
  have e2 : L.map (fun n => UInt8.ofNat n.toNat) = L'.map (fun n => UInt8.ofNat n.toNat) := by
    have := congrArg (fun b => b.data.toList) e
    simpa [strOfNums] using this
  have key : ∀ (l : List Int), (∀ x ∈ l, 0 ≤ x ∧ x < 256) → (l.map (fun n => UInt8.ofNat n.toNat)).map (fun b => (b.toNat : Int)) = l := by
    intro l hl
    induction l with
    | nil => rfl
    | cons x r ih =>
      have hx := hl x List.mem_cons_self
      rw [List.map_cons, List.map_cons, ih (fun y hy => hl y (List.mem_cons_of_mem _ hy))]
      rw [show ((UInt8.ofNat x.toNat).toNat : Int) = x by rw [UInt8.toNat_ofNat']; omega]
  rw [← key L h, ← key L' h', e2]
set_option maxRecDepth 100000 in
set_option maxHeartbeats 1000000 in
theorem rSameA {W : World} {A A' B B' : Option Addr} {L L' : List Int} {N N' : List (ByteArray × Int)} {c c' d d' : Nat} (hr : Rd W W.heap.size .u8 A L) (hr' : Rd W W.heap.size .u8 A' L') (hn : RdN W W.heap.size B N) (hn' : RdN W W.heap.size B' N') (hL : L.length ≤ 65536) (hL' : L'.length ≤ 65536) (hN : N.length ≤ 65536) (hN' : N'.length ≤ 65536) (h8 : ∀ x ∈ L, 0 ≤ x ∧ x < 256) (h8' : ∀ x ∈ L', 0 ≤ x ∧ x < 256) :
    Calls Tryz.prog 18 #[.agg #[.slice A L.length c, .slice B N.length d], .agg #[.slice A' L'.length c', .slice B' N'.length d']] W fun e w' => e = .returned (.bool (decide (L = L') && decide (N = N'))) ∧ Below W.heap.size W w' := by
  have b1 := (Below.refl W.heap.size W).alloc (Nat.le_refl _) (.cells #[.slice A L.length c, .slice B N.length d] 33)
  have s1 : (W.alloc (.cells #[.slice A L.length c, .slice B N.length d] 33)).heap.size = W.heap.size + 1 := World.size_alloc _ _
  have b2 : Below W.heap.size W ((W.alloc (.cells #[.slice A L.length c, .slice B N.length d] 33)).alloc (.cells #[.slice A' L'.length c', .slice B' N'.length d'] 33)) := b1.alloc (B := W.heap.size) (by rw [s1]; omega) (.cells #[.slice A' L'.length c', .slice B' N'.length d'] 33)
  have x1 : Cells ((W.alloc (.cells #[.slice A L.length c, .slice B N.length d] 33)).alloc (.cells #[.slice A' L'.length c', .slice B' N'.length d'] 33)) W.heap.size 33 #[.slice A L.length c, .slice B N.length d] := (Cells.new W 33 #[.slice A L.length c, .slice B N.length d]).alloc _
  have x2 : Cells ((W.alloc (.cells #[.slice A L.length c, .slice B N.length d] 33)).alloc (.cells #[.slice A' L'.length c', .slice B' N'.length d'] 33)) (W.heap.size + 1) 33 #[.slice A' L'.length c', .slice B' N'.length d'] := by have := Cells.new (W.alloc (.cells #[.slice A L.length c, .slice B N.length d] 33)) 33 #[.slice A' L'.length c', .slice B' N'.length d']; rwa [s1] at this
  have s2 : ((W.alloc (.cells #[.slice A L.length c, .slice B N.length d] 33)).alloc (.cells #[.slice A' L'.length c', .slice B' N'.length d'] 33)).heap.size = W.heap.size + 2 := by rw [World.size_alloc, s1]
  have HF := Lib.hid (And.intro b2 (And.intro x1 (And.intro x2 s2)))
  clear b1 b2 x1 x2 s2
  have HR := Lib.hid (And.intro hr (And.intro hr' (And.intro hn hn')))
  have HS := Lib.hid (And.intro hL (And.intro hL' (And.intro hN hN')))
  have H8 := Lib.hid (And.intro h8 h8')
  clear hr hr' hn hn' hL hL' hN hN' h8 h8'
  go_enter Tryz.func18, Tryz.ntmps18
  have cv := conv_anyY (c := c) ((HR.out.1).below HF.out.1 (Nat.le_refl _))
  have cv' := conv_anyY (c := c') ((HR.out.2.1).below HF.out.1 (Nat.le_refl _))
  by_cases hl : L = L'
  · have hq : ((strOfNums L).toList == (strOfNums L').toList) = true := by rw [hl]; simp
    by_cases hnl : N.length = N'.length
    · have hq2 : ((N.length : Int) == (N'.length : Int)) = true := by rw [hnl]; simp
      have HL := Lib.hid (And.intro hl hnl)
      clear hl hnl
      go_wp2_with fail
      clear cv cv' hq hq2 s1 H8
      revert HF
      generalize ((W.alloc (.cells #[.slice A L.length c, .slice B N.length d] 33)).alloc (.cells #[.slice A' L'.length c', .slice B' N'.length d'] 33)) = W2
      intro HF
      go_loopw [5] (fun i wr => ∃ k : Nat, k ≤ N.length ∧ i = .int .i64 k ∧ (∀ j, j < k → N[j]? = N'[j]?) ∧ Below W2.heap.size W2 wr) (fun i _ => N.length - (intOf i).toNat)
      case atStart => exact ⟨0, Nat.zero_le _, rfl, fun _ h => by omega, Below.refl _ _⟩
      case round =>
        obtain ⟨k, hk, rfl, hsame, hb⟩ := hrel
        have hNb := HS.out.2.2.1
        have hd := (HF.out.2.1.below hb HF.out.2.1.lt).cell 1
        have hd' := (HF.out.2.2.1.below hb HF.out.2.2.1.lt).cell 1
        simp at hd hd'
        have HB := Lib.hid (HF.out.1.trans (hb.mono HF.out.1.size))
        by_cases hlt : k < N.length
        · have hlt' : k < N'.length := by rw [← HL.out.2]; exact hlt
          obtain ⟨⟨x, y⟩, hx⟩ : ∃ x, N[k]? = some x := ⟨_, List.getElem?_eq_getElem hlt⟩
          obtain ⟨⟨x', y'⟩, hy⟩ : ∃ y, N'[k]? = some y := ⟨_, List.getElem?_eq_getElem hlt'⟩
          obtain ⟨g, off, rfl, hg⟩ := HR.out.2.2.1.some_ (by omega)
          obtain ⟨g', off', rfl, hg'⟩ := HR.out.2.2.2.some_ (by omega)
          obtain ⟨cx0, cx1⟩ := (HR.out.2.2.1.below HB.out (Nat.le_refl _)).cell g off rfl k x y hx
          obtain ⟨cy0, cy1⟩ := (HR.out.2.2.2.below HB.out (Nat.le_refl _)).cell g' off' rfl k x' y' hy
          have HX := Lib.hid hx
          have HY := Lib.hid hy
          have HS2 := Lib.hid hsame
          clear hx hy hsame
          by_cases hxx : x = x'
          · subst hxx
            by_cases hyy : y = y'
            · subst hyy
              go_wp2_with fail
              go_region
              go_wp2
              go_roundw
              case rel => exact ⟨k + 1, by omega, by go_num, fun j hj => by
                rcases Nat.lt_or_ge j k with h | h
                · exact HS2.out j h
                · obtain rfl : j = k := by omega
                  rw [HX.out, HY.out], hb.drew⟩
              case measure => simp [intOf]; omega
            · have hq : (y == y') = false := by simp [hyy]
              have HXY := Lib.hid hyy
              clear hyy
              go_wp2_with fail
              go_region
              go_wp2
              go_ret
              exact ⟨ret_bool (by rw [decide_eq_true HL.out.1, decide_eq_false (take_neN HX.out HY.out (fun e => HXY.out (by simpa using e)))]; rfl), HB.out.drew⟩
          · have hq : (x.toList == x'.toList) = false := by rw [beq_bytes]; exact decide_eq_false hxx
            have HXY := Lib.hid hxx
            clear hxx
            go_wp2_with fail
            go_region
            go_wp2
            go_ret
            exact ⟨ret_bool (by rw [decide_eq_true HL.out.1, decide_eq_false (take_neN HX.out HY.out (fun e => HXY.out (congrArg Prod.fst e)))]; rfl), HB.out.drew⟩
        · obtain rfl : k = N.length := by omega
          have HS2 := Lib.hid hsame
          clear hsame
          go_wp2_with fail
          go_ret
          refine ⟨ret_bool ?_, HB.out⟩
          rw [decide_eq_true HL.out.1, decide_eq_true (show N = N' from ?_)]
          · rfl
          · apply List.ext_getElem?
            intro j
            rcases Nat.lt_or_ge j N.length with h | h
            · exact HS2.out j h
            · rw [List.getElem?_eq_none h, List.getElem?_eq_none (by rw [← HL.out.2]; exact h)]
    · have hq2 : ((N.length : Int) == (N'.length : Int)) = false := by simp; omega
      have HL := Lib.hid hnl
      clear hl hnl
      go_wp2_with fail
      go_ret
      exact ⟨ret_bool (by rw [decide_eq_false (show ¬ N = N' from fun e => HL.out (by rw [e]))]; simp), HF.out.1⟩
  · have hq : ((strOfNums L).toList == (strOfNums L').toList) = false := by
      have : strOfNums L ≠ strOfNums L' := fun e => hl (strOf_inj H8.out.1 H8.out.2 e)
      have h2 := beq_bytes (strOfNums L) (strOfNums L')
      rw [decide_eq_false this] at h2
      exact h2
    have HL := Lib.hid hl
    clear hl
    go_wp2_with fail
    go_ret
    exact ⟨ret_bool (by rw [decide_eq_false HL.out]; rfl), HF.out.1⟩
end Go.Proofs.YtbfmlmnhdogojaaGreatDoor
