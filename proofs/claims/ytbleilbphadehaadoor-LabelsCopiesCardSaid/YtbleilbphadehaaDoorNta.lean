/- What a call does to a table, the document being that call ahead: contract. -/
import Derived.Test.YtbleilbphadehaaDoorNu
namespace Go.Proofs.YtbleilbphadehaaDoor
open Go.RowKit Go.Shelf

theorem keep_idem (most : Int) (L : List Int) (x : Int) : keepR most (keepR most L x).1 x = keepR most L x := by
  by_cases h : 65536 ≤ x
  · have e : keepR most L x = (L, 0, 2) := if_pos h
    rw [e]; exact e
  · cases hi : idxL x L 0 with
    | some n =>
      have e : keepR most L x = (L, (n : Int), 0) := by unfold keepR; rw [if_neg h, hi]
      rw [e]; exact e
    | none =>
      by_cases hm : most ≤ L.length
      · have e : keepR most L x = (L, 0, 120) := by unfold keepR; rw [if_neg h, hi]; exact if_pos hm
        rw [e]; exact e
      · have e : keepR most L x = (L ++ [x], (L.length : Int), 0) := by unfold keepR; rw [if_neg h, hi]; exact if_neg hm
        rw [e]
        unfold keepR
        rw [if_neg h, idx_push _ _ _ hi, Nat.zero_add]
theorem keep_more (most : Int) (L : List Int) (x : Int) : ∃ M, (keepR most L x).1 = L ++ M := by
  unfold keepR
  split
  · exact ⟨[], by simp⟩
  · split
    · exact ⟨[], by simp⟩
    · split
      · exact ⟨[], by simp⟩
      · exact ⟨[x], rfl⟩
theorem inR_more {L : List Int} {n : Int} (h : inR L n) (M : List Int) : inR (L ++ M) n ∧ (L ++ M).getD n.toNat 0 = L.getD n.toNat 0 := by
  obtain ⟨h0, h1⟩ := h
  refine ⟨⟨h0, by simp; omega⟩, ?_⟩
  rw [List.getD_eq_getElem?_getD, List.getD_eq_getElem?_getD, List.getElem?_append_left (by omega)]
theorem join_idem (most : Int) (L : List Int) (a b : Int) : joinR most (joinR most L a b).1 a b = joinR most L a b := by
  by_cases h : inR L a ∧ inR L b
  · have e : joinR most L a b = keepR most L (orZ (L.getD a.toNat 0) (L.getD b.toNat 0)) := if_pos h
    rw [e]
    obtain ⟨M, hM⟩ := keep_more most L (orZ (L.getD a.toNat 0) (L.getD b.toNat 0))
    have hk := keep_idem most L (orZ (L.getD a.toNat 0) (L.getD b.toNat 0))
    rw [hM] at hk ⊢
    obtain ⟨a1, a2⟩ := inR_more h.1 M
    obtain ⟨b1, b2⟩ := inR_more h.2 M
    unfold joinR
    rw [if_pos ⟨a1, b1⟩, a2, b2]
    exact hk
  · have e : joinR most L a b = (L, 0, 5) := if_neg h
    rw [e]; exact e
theorem step_more (most : Int) (L : List Int) (k a b x : Int) : ∃ M, stepR most L k a b x = L ++ M := by
  unfold stepR
  split
  · exact keep_more most L x
  · split
    · unfold joinR
      split
      · exact keep_more most L _
      · exact ⟨[], by simp⟩
    · exact ⟨[], by simp⟩
/-- A table, and the document's with other sets. -/
structure PrG (W : World) (base p mn mj : Nat) (sv : Value) (most : Int) (L : List Int) (J : List ((Int × Int) × Int)) (A : Option Addr) (G : List Int) (JG : List ((Int × Int) × Int)) : Prop where
  t : TAt W base p mn mj sv most L J
  ok : TOk most L J
  okG : TOk most G JG
  r : Rd W W.heap.size .u32 A G
  ap : ∀ g off, A = some ⟨g, off, none⟩ → ¬ TabS p mn mj sv g
section
variable {W : World} {base p mn mj : Nat} {sv : Value} {most : Int} {L : List Int} {J : List ((Int × Int) × Int)} {A : Option Addr} {G : List Int} {JG : List ((Int × Int) × Int)}
theorem PrG.lt (h : PrG W base p mn mj sv most L J A G JG) : ∀ g off, A = some ⟨g, off, none⟩ → g < W.heap.size := fun g off e => by
  obtain ⟨g', off', e', hg⟩ := h.r.some_ h.okG.pos
  rw [e] at e'; simp at e'; omega
theorem PrG.below {W' : World} (h : PrG W base p mn mj sv most L J A G JG) (hb : Below W.heap.size W W') : PrG W' base p mn mj sv most L J A G JG :=
  ⟨h.t.below hb, h.ok, h.okG, (h.r.below hb (Nat.le_refl _)).up hb.size, h.ap⟩
theorem does_joinG {W1 W2 W3 W4 : World} {L' : List Int} {J' : List ((Int × Int) × Int)} {A' : Option Addr} (hP : PrG W base p mn mj sv most L J A G JG) (b1 : Below W.heap.size W W1) (s1 : W1.heap.size = W.heap.size + 3) (tt : TabTo W1 W2 base p mn mj sv most L' J') (ok' : TOk most L' J') (an : Anew W2 W3 A A' L')
    (k4 : KeptBut (fun k => k = W.heap.size + 2) W3 W4) : DoesTo W W4 base p mn mj sv most L' A A' := by
  obtain ⟨sv', t2, kb2, hs2⟩ := tt
  obtain ⟨hr3, ha3, hb3⟩ := an
  have hlt := hP.lt
  have hblk := hP.t.blk
  have hz2 := kb2.size
  have hz3 := hb3.size
  have hT : ∀ k, TabS p mn mj sv' k → TabS p mn mj sv k ∨ W.heap.size ≤ k := fun k hk => by
    rcases hs2 k hk with h | h
    · exact .inl h
    · exact .inr (by omega)
  have hA : A' = A ∨ ∀ g off, A' = some ⟨g, off, none⟩ → W2.heap.size ≤ g := ha3
  have hne : ∀ k, TabS p mn mj sv' k → ¬ k = W.heap.size + 2 := fun k hk e => by
    rcases hs2 k hk with h | h
    · have := hblk k h; omega
    · omega
  refine ⟨sv', J', ⟨(t2.below hb3).kept k4 hne, ok', hr3.kept k4 (fun g off e => ?_), fun g off e hk => ?_⟩, ?_, hT, ?_⟩
  · rcases hA with hA | hA
    · have := hlt g off (hA ▸ e); omega
    · have := hA g off e; omega
  · rcases hA with hA | hA
    · have h1 := hlt g off (hA ▸ e)
      rcases hT g hk with h | h
      · exact hP.ap g off (hA ▸ e) h
      · omega
    · have h1 := hA g off e
      have := t2.blk g hk
      omega
  · exact (((KeptBut.of_below (fun k => TabS p mn mj sv k ∨ W.heap.size ≤ k) b1).trans (kb2.mono fun k _ h => .inl h)).trans ((KeptBut.of_below _ hb3).trans (k4.mono fun k _ h => .inr (by omega)))).mono fun k hk h => by
      rcases h with h | h
      · exact h
      · omega
  · rcases hA with hA | hA
    · exact .inl hA
    · exact .inr fun g off e => by have := hA g off e; omega
set_option maxRecDepth 100000 in
set_option maxHeartbeats 4000000 in
theorem cDoes1G {cap : Nat} {a b x : Int} (hP : PrG W base p mn mj sv most L J A G JG) (hG : keepR most G x = keepR most L x) (hx : 0 ≤ x) : Calls Tryd.prog 25 #[.pointer (some ⟨p, 0, none⟩), rtV most A G cap, .agg (stepA 1 a b x)] W fun e w' => ∃ A' cap', e = .returned (.tuple #[rtV most A' (stepR most L 1 a b x) cap', .bool true]) ∧ DoesTo W w' base p mn mj sv most (stepR most L 1 a b x) A A' := by
  rw [show stepR most L 1 a b x = (keepR most L x).1 from rfl]
  obtain ⟨k, hk⟩ : ∃ k : Int, k = 1 := ⟨_, rfl⟩
  rw [← hk]
  have hk1 : (k == 1) = true := by simp [hk]
  clear hk
  have HGG := Lib.hid hG
  clear hG
  unfold rtV stepA
  obtain ⟨k1, k2, k3, kb, ks⟩ := cells3 W #[.int .i64 most, .slice A G.length cap] #[.int .i64 k, .int .i64 a, .int .i64 b, .int .u32 x] #[.int .i64 0, .slice none 0 0] 51 45 51
  obtain ⟨W1, hW1⟩ : ∃ W1, ((W.alloc (.cells #[.int .i64 most, .slice A G.length cap] 51)).alloc (.cells #[.int .i64 k, .int .i64 a, .int .i64 b, .int .u32 x] 45)).alloc (.cells #[.int .i64 0, .slice none 0 0] 51) = W1 := ⟨_, rfl⟩
  rw [hW1] at k1 k2 k3 kb ks
  have hP1 := hP.below kb
  have hblk := hP.t.blk
  have HP := Lib.hid hP
  have HP1 := Lib.hid hP1
  have HK := Lib.hid (And.intro k1 (And.intro k2 (And.intro k3 (And.intro kb ks))))
  have g0 := (k1.cell 0).trans (show _ = some (Value.int .i64 most) from rfl)
  have g1 := (k1.cell 1).trans (show _ = some (Value.slice A G.length cap) from rfl)
  have i0 := (k2.cell 0).trans (show _ = some (Value.int .i64 k) from rfl)
  have i1 := (k2.cell 1).trans (show _ = some (Value.int .i64 a) from rfl)
  have i2 := (k2.cell 2).trans (show _ = some (Value.int .i64 b) from rfl)
  have i3 := (k2.cell 3).trans (show _ = some (Value.int .u32 x) from rfl)
  clear hP hP1 k1 k2 k3 kb ks
  go_enter Tryd.func25, Tryd.ntmps25
  go_wp2_with fail
  have hKp := cKeep HP1.out.t HP1.out.ok hx
  obtain ⟨R, hR⟩ : ∃ R, keepR most L x = R := ⟨_, rfl⟩
  rw [hR] at hKp
  have HRR := Lib.hid hR
  clear hR
  refine hKp.mono ?_
  clear hKp
  rintro e W2 ⟨rfl, tt, ok'⟩
  clear hW1 g0 g1 i0 i1 i2 i3
  obtain ⟨k1, k2, k3, kb, ks⟩ := HK.out
  have hkb2 := tt.choose_spec.2.1
  have l1 := hkb2.cells k1 (fun q => by have := hblk _ q; omega)
  have l2 := hkb2.cells k2 (fun q => by have := hblk _ q; omega)
  have l3 := hkb2.cells k3 (fun q => by have := hblk _ q; omega)
  have r2 := HP1.out.r.kept hkb2 HP1.out.ap
  have g0 := (l1.cell 0).trans (show _ = some (Value.int .i64 most) from rfl)
  have g1 := (l1.cell 1).trans (show _ = some (Value.slice A G.length cap) from rfl)
  have i1 := (l2.cell 1).trans (show _ = some (Value.int .i64 a) from rfl)
  have i2 := (l2.cell 2).trans (show _ = some (Value.int .i64 b) from rfl)
  have i3 := (l2.cell 3).trans (show _ = some (Value.int .u32 x) from rfl)
  have HL3 := Lib.hid l3
  have HTT := Lib.hid tt
  have HOK := Lib.hid ok'
  clear k1 k2 k3 kb ks hkb2 l1 l2 l3 tt ok'
  have hL : G.length ≤ 65536 := by have := HP.out.okG.len; have := HP.out.okG.bnd; omega
  have hK := rKeep (cap := cap) r2 HP.out.okG.pos hL HP.out.okG.bnd.2 x
  unfold rtV at hK
  rw [HGG.out, HRR.out] at hK
  have HKK := Lib.hid hK
  clear hK
  go_wp2_with fail
  refine HKK.out.mono ?_
  rintro e W3 ⟨A', cap', rfl, an⟩
  clear HKK
  have l3 := HL3.out.below an.2.2 HL3.out.lt
  have d0 := (l3.cell 0).trans (show _ = some (Value.int .i64 0) from rfl)
  have d1 := (l3.cell 1).trans (show _ = some (Value.slice none 0 0) from rfl)
  have f0 := l3.frozen 0
  have f1 := l3.frozen 1
  have d0' := fun o => ((l3.alloc o).cell 0).trans (show _ = some (Value.int .i64 0) from rfl)
  have d1' := fun o => ((l3.alloc o).cell 1).trans (show _ = some (Value.slice none 0 0) from rfl)
  have f0' := fun o => (l3.alloc o).frozen 0
  have f1' := fun o => (l3.alloc o).frozen 1
  have HL4 := Lib.hid l3
  have HAN := Lib.hid an
  clear l3 an HL3 g0 g1 i1 i2 i3 r2
  go_wp2
  refine bodyPost_ret (res_row_tmp rfl _ _ (W.heap.size + 2) _ _ _ rfl (two_set (HL4.out.alloc _)) Tryd.underlying51 rfl (info_rt _ _)) rfl ?_
  rw [HRR.out]
  exact ⟨A', cap', rfl, does_joinG HP.out HK.out.2.2.2.1 HK.out.2.2.2.2 HTT.out HOK.out HAN.out (k4_end _ _ _)⟩
set_option maxRecDepth 100000 in
set_option maxHeartbeats 4000000 in
theorem cDoes3G {cap : Nat} {a b x : Int} (hP : PrG W base p mn mj sv most L J A G JG) (hG : joinR most G a b = joinR most L a b) : Calls Tryd.prog 25 #[.pointer (some ⟨p, 0, none⟩), rtV most A G cap, .agg (stepA 3 a b x)] W fun e w' => ∃ A' cap', e = .returned (.tuple #[rtV most A' (stepR most L 3 a b x) cap', .bool true]) ∧ DoesTo W w' base p mn mj sv most (stepR most L 3 a b x) A A' := by
  rw [show stepR most L 3 a b x = (joinR most L a b).1 from rfl]
  obtain ⟨k, hk⟩ : ∃ k : Int, k = 3 := ⟨_, rfl⟩
  rw [← hk]
  have hk1 : (k == 1) = false := by simp [hk]
  have hk2 : (k == 2) = false := by simp [hk]
  have hk3 : (k == 3) = true := by simp [hk]
  clear hk
  have HGG := Lib.hid hG
  clear hG
  unfold rtV stepA
  obtain ⟨k1, k2, k3, kb, ks⟩ := cells3 W #[.int .i64 most, .slice A G.length cap] #[.int .i64 k, .int .i64 a, .int .i64 b, .int .u32 x] #[.int .i64 0, .slice none 0 0] 51 45 51
  obtain ⟨W1, hW1⟩ : ∃ W1, ((W.alloc (.cells #[.int .i64 most, .slice A G.length cap] 51)).alloc (.cells #[.int .i64 k, .int .i64 a, .int .i64 b, .int .u32 x] 45)).alloc (.cells #[.int .i64 0, .slice none 0 0] 51) = W1 := ⟨_, rfl⟩
  rw [hW1] at k1 k2 k3 kb ks
  have hP1 := hP.below kb
  have hblk := hP.t.blk
  have HP := Lib.hid hP
  have HP1 := Lib.hid hP1
  have HK := Lib.hid (And.intro k1 (And.intro k2 (And.intro k3 (And.intro kb ks))))
  have g0 := (k1.cell 0).trans (show _ = some (Value.int .i64 most) from rfl)
  have g1 := (k1.cell 1).trans (show _ = some (Value.slice A G.length cap) from rfl)
  have i0 := (k2.cell 0).trans (show _ = some (Value.int .i64 k) from rfl)
  have i1 := (k2.cell 1).trans (show _ = some (Value.int .i64 a) from rfl)
  have i2 := (k2.cell 2).trans (show _ = some (Value.int .i64 b) from rfl)
  have i3 := (k2.cell 3).trans (show _ = some (Value.int .u32 x) from rfl)
  clear hP hP1 k1 k2 k3 kb ks
  go_enter Tryd.func25, Tryd.ntmps25
  go_wp2_with fail
  have hKp := cJoin HP1.out.t HP1.out.ok a b
  obtain ⟨R, hR⟩ : ∃ R, joinR most L a b = R := ⟨_, rfl⟩
  rw [hR] at hKp
  have HRR := Lib.hid hR
  clear hR
  refine hKp.mono ?_
  clear hKp
  rintro e W2 ⟨rfl, J2, tt, ok'⟩
  clear hW1 g0 g1 i0 i1 i2 i3
  obtain ⟨k1, k2, k3, kb, ks⟩ := HK.out
  have hkb2 := tt.choose_spec.2.1
  have l1 := hkb2.cells k1 (fun q => by have := hblk _ q; omega)
  have l2 := hkb2.cells k2 (fun q => by have := hblk _ q; omega)
  have l3 := hkb2.cells k3 (fun q => by have := hblk _ q; omega)
  have r2 := HP1.out.r.kept hkb2 HP1.out.ap
  have g0 := (l1.cell 0).trans (show _ = some (Value.int .i64 most) from rfl)
  have g1 := (l1.cell 1).trans (show _ = some (Value.slice A G.length cap) from rfl)
  have i1 := (l2.cell 1).trans (show _ = some (Value.int .i64 a) from rfl)
  have i2 := (l2.cell 2).trans (show _ = some (Value.int .i64 b) from rfl)
  have i3 := (l2.cell 3).trans (show _ = some (Value.int .u32 x) from rfl)
  have HL3 := Lib.hid l3
  have HTT := Lib.hid tt
  have HOK := Lib.hid ok'
  clear k1 k2 k3 kb ks hkb2 l1 l2 l3 tt ok'
  have hL : G.length ≤ 65536 := by have := HP.out.okG.len; have := HP.out.okG.bnd; omega
  have hK := rJoined (cap := cap) HP.out.okG r2 hL a b
  unfold rtV at hK
  rw [HGG.out, HRR.out] at hK
  have HKK := Lib.hid hK
  clear hK
  go_wp2_with fail
  refine HKK.out.mono ?_
  rintro e W3 ⟨A', cap', rfl, an⟩
  clear HKK
  have l3 := HL3.out.below an.2.2 HL3.out.lt
  have d0 := (l3.cell 0).trans (show _ = some (Value.int .i64 0) from rfl)
  have d1 := (l3.cell 1).trans (show _ = some (Value.slice none 0 0) from rfl)
  have f0 := l3.frozen 0
  have f1 := l3.frozen 1
  have d0' := fun o => ((l3.alloc o).cell 0).trans (show _ = some (Value.int .i64 0) from rfl)
  have d1' := fun o => ((l3.alloc o).cell 1).trans (show _ = some (Value.slice none 0 0) from rfl)
  have f0' := fun o => (l3.alloc o).frozen 0
  have f1' := fun o => (l3.alloc o).frozen 1
  have HL4 := Lib.hid l3
  have HAN := Lib.hid an
  clear l3 an HL3 g0 g1 i1 i2 i3 r2
  go_wp2
  refine bodyPost_ret (res_row_tmp rfl _ _ (W.heap.size + 2) _ _ _ rfl (two_set (HL4.out.alloc _)) Tryd.underlying51 rfl (info_rt _ _)) rfl ?_
  rw [HRR.out]
  exact ⟨A', cap', rfl, does_joinG HP.out HK.out.2.2.2.1 HK.out.2.2.2.2 HTT.out HOK.out HAN.out (k4_end _ _ _)⟩
/-- Whichever it is. -/
theorem cDoesG {cap : Nat} {k a b x : Int} (hP : PrG W base p mn mj sv most L J A (stepR most L k a b x) JG) (hx : 0 ≤ x) : Calls Tryd.prog 25 #[.pointer (some ⟨p, 0, none⟩), rtV most A (stepR most L k a b x) cap, .agg (stepA k a b x)] W fun e w' => ∃ A' cap', e = .returned (.tuple #[rtV most A' (stepR most L k a b x) cap', .bool true]) ∧ DoesTo W w' base p mn mj sv most (stepR most L k a b x) A A' := by
  by_cases h1 : k = 1
  · subst h1
    exact cDoes1G hP (keep_idem _ _ _) hx
  · by_cases h3 : k = 3
    · subst h3
      exact cDoes3G hP (join_idem _ _ _ _)
    · have e : stepR most L k a b x = L := by unfold stepR; rw [if_neg h1, if_neg h3]
      rw [e] at hP ⊢
      have hP' : Pr W base p mn mj sv most L J A := ⟨hP.t, hP.ok, hP.r, hP.ap⟩
      by_cases h2 : k = 2
      · subst h2
        exact cDoes2 hP'
      · exact cDoes4 hP' (by simpa using h1) (by simpa using h2) (by simpa using h3)
end
end Go.Proofs.YtbleilbphadehaaDoor
