/- What a call does to a table and to the document's: contract. -/
import Derived.Test.YtbleilbphadehaaDoorNs
namespace Go.Proofs.YtbleilbphadehaaDoor
open Go.RowKit Go.Shelf

theorem Rd.kept {S : Nat → Prop} {W W' : World} {k : IntKind} {A : Option Addr} {l : List Int} (h : Rd W W.heap.size k A l) (hk : KeptBut S W W') (ha : ∀ g off, A = some ⟨g, off, none⟩ → ¬ S g) : Rd W' W'.heap.size k A l :=
  ⟨fun h0 => by obtain ⟨g, off, e, hg⟩ := h.some_ h0; exact ⟨g, off, e, Nat.lt_of_lt_of_le hg hk.size⟩, fun g off e i x hx => by
    obtain ⟨g', off', e', hlt⟩ := h.some_ (by have := (List.getElem?_eq_some_iff.1 hx).1; omega)
    have : g' = g := by rw [e] at e'; simp at e'; exact e'.1.symm
    subst this
    exact (World.cell?_of_block (hk.block _ hlt (ha _ _ e))).trans (h.cell _ off e i x hx)⟩
/-- A table and the document's, alike. -/
structure Pr (W : World) (base p mn mj : Nat) (sv : Value) (most : Int) (L : List Int) (J : List ((Int × Int) × Int)) (A : Option Addr) : Prop where
  t : TAt W base p mn mj sv most L J
  ok : TOk most L J
  r : Rd W W.heap.size .u32 A L
  ap : ∀ g off, A = some ⟨g, off, none⟩ → ¬ TabS p mn mj sv g
def DoesTo (W W' : World) (base p mn mj : Nat) (sv : Value) (most : Int) (L' : List Int) (A A' : Option Addr) : Prop :=
  ∃ sv' J', Pr W' base p mn mj sv' most L' J' A' ∧ KeptBut (TabS p mn mj sv) W W' ∧ (∀ k, TabS p mn mj sv' k → TabS p mn mj sv k ∨ W.heap.size ≤ k) ∧ (A' = A ∨ ∀ g off, A' = some ⟨g, off, none⟩ → W.heap.size ≤ g)
section
variable {W : World} {base p mn mj : Nat} {sv : Value} {most : Int} {L : List Int} {J : List ((Int × Int) × Int)} {A : Option Addr}
theorem Pr.lt (h : Pr W base p mn mj sv most L J A) : ∀ g off, A = some ⟨g, off, none⟩ → g < W.heap.size := fun g off e => by
  obtain ⟨g', off', e', hg⟩ := h.r.some_ h.ok.pos
  rw [e] at e'; simp at e'; omega
theorem Pr.below {W' : World} (h : Pr W base p mn mj sv most L J A) (hb : Below W.heap.size W W') : Pr W' base p mn mj sv most L J A :=
  ⟨h.t.below hb, h.ok, (h.r.below hb (Nat.le_refl _)).up hb.size, h.ap⟩
theorem does_join {W1 W2 W3 W4 : World} {L' : List Int} {J' : List ((Int × Int) × Int)} {A' : Option Addr} (hP : Pr W base p mn mj sv most L J A) (b1 : Below W.heap.size W W1) (s1 : W1.heap.size = W.heap.size + 3) (tt : TabTo W1 W2 base p mn mj sv most L' J') (ok' : TOk most L' J') (an : Anew W2 W3 A A' L')
    (k4 : KeptBut (fun k => k = W.heap.size + 2) W3 W4) : DoesTo W W4 base p mn mj sv most L' A A' := by
  obtain ⟨sv', t2, kb2, hs2⟩ := tt
  obtain ⟨hr3, ha3, hb3⟩ := an
  have hlt := hP.lt
  have hblk := hP.t.blk
  have hz2 := kb2.size
  have hz3 := hb3.size
  have hT : ∀ k, TabS p mn mj sv' k → TabS p mn mj sv k ∨ W.heap.size ≤ k := fun k hk => by
    rcases hs2 k hk with h | h
    · exact .inl h
    · exact .inr (by omega)
  have hA : A' = A ∨ ∀ g off, A' = some ⟨g, off, none⟩ → W2.heap.size ≤ g := ha3
  have hne : ∀ k, TabS p mn mj sv' k → ¬ k = W.heap.size + 2 := fun k hk e => by
    rcases hs2 k hk with h | h
    · have := hblk k h; omega
    · omega
  refine ⟨sv', J', ⟨(t2.below hb3).kept k4 hne, ok', hr3.kept k4 (fun g off e => ?_), fun g off e hk => ?_⟩, ?_, hT, ?_⟩
  · rcases hA with hA | hA
    · have := hlt g off (hA ▸ e); omega
    · have := hA g off e; omega
  · rcases hA with hA | hA
    · have h1 := hlt g off (hA ▸ e)
      rcases hT g hk with h | h
      · exact hP.ap g off (hA ▸ e) h
      · omega
    · have h1 := hA g off e
      have := t2.blk g hk
      omega
  · exact (((KeptBut.of_below (fun k => TabS p mn mj sv k ∨ W.heap.size ≤ k) b1).trans (kb2.mono fun k _ h => .inl h)).trans ((KeptBut.of_below _ hb3).trans (k4.mono fun k _ h => .inr (by omega)))).mono fun k hk h => by
      rcases h with h | h
      · exact h
      · omega
  · rcases hA with hA | hA
    · exact .inl hA
    · exact .inr fun g off e => by have := hA g off e; omega
/-- The sets behind a call. -/
def stepR (most : Int) (L : List Int) (k a b x : Int) : List Int := if k = 1 then (keepR most L x).1 else if k = 3 then (joinR most L a b).1 else L
theorem k4_end {W3 : World} {B : Nat} (o : Obj) (u v : Value) : KeptBut (fun k => k = B) W3 (((W3.alloc o).setCell ⟨B, 0, none⟩ u).setCell ⟨B, 1, none⟩ v) :=
  (KeptBut.alloc _ W3 o).trans ((KeptBut.set (S := fun k => k = B) (p := B) rfl 0 u).trans (KeptBut.set (S := fun k => k = B) (p := B) rfl 1 v))
theorem k4_end0 {W3 : World} {B : Nat} (u v : Value) : KeptBut (fun k => k = B) W3 ((W3.setCell ⟨B, 0, none⟩ u).setCell ⟨B, 1, none⟩ v) := (KeptBut.set (S := fun k => k = B) (p := B) rfl 0 u).trans (KeptBut.set (S := fun k => k = B) (p := B) rfl 1 v)
set_option maxRecDepth 100000 in
set_option maxHeartbeats 4000000 in
theorem cDoes1 {cap : Nat} {a b x : Int} (hP : Pr W base p mn mj sv most L J A) (hx : 0 ≤ x) : Calls Tryd.prog 25 #[.pointer (some ⟨p, 0, none⟩), rtV most A L cap, .agg (stepA 1 a b x)] W fun e w' => ∃ A' cap', e = .returned (.tuple #[rtV most A' (stepR most L 1 a b x) cap', .bool true]) ∧ DoesTo W w' base p mn mj sv most (stepR most L 1 a b x) A A' := by
  rw [show stepR most L 1 a b x = (keepR most L x).1 from rfl]
  obtain ⟨k, hk⟩ : ∃ k : Int, k = 1 := ⟨_, rfl⟩
  rw [← hk]
  have hk1 : (k == 1) = true := by simp [hk]
  clear hk
  unfold rtV stepA
  obtain ⟨k1, k2, k3, kb, ks⟩ := cells3 W #[.int .i64 most, .slice A L.length cap] #[.int .i64 k, .int .i64 a, .int .i64 b, .int .u32 x] #[.int .i64 0, .slice none 0 0] 51 45 51
  obtain ⟨W1, hW1⟩ : ∃ W1, ((W.alloc (.cells #[.int .i64 most, .slice A L.length cap] 51)).alloc (.cells #[.int .i64 k, .int .i64 a, .int .i64 b, .int .u32 x] 45)).alloc (.cells #[.int .i64 0, .slice none 0 0] 51) = W1 := ⟨_, rfl⟩
  rw [hW1] at k1 k2 k3 kb ks
  have hP1 := hP.below kb
  have hblk := hP.t.blk
  have HP := Lib.hid hP
  have HP1 := Lib.hid hP1
  have HK := Lib.hid (And.intro k1 (And.intro k2 (And.intro k3 (And.intro kb ks))))
  have g0 := (k1.cell 0).trans (show _ = some (Value.int .i64 most) from rfl)
  have g1 := (k1.cell 1).trans (show _ = some (Value.slice A L.length cap) from rfl)
  have i0 := (k2.cell 0).trans (show _ = some (Value.int .i64 k) from rfl)
  have i1 := (k2.cell 1).trans (show _ = some (Value.int .i64 a) from rfl)
  have i2 := (k2.cell 2).trans (show _ = some (Value.int .i64 b) from rfl)
  have i3 := (k2.cell 3).trans (show _ = some (Value.int .u32 x) from rfl)
  clear hP hP1 k1 k2 k3 kb ks
  go_enter Tryd.func25, Tryd.ntmps25
  go_wp2_with fail
  have hKp := cKeep HP1.out.t HP1.out.ok hx
  obtain ⟨R, hR⟩ : ∃ R, keepR most L x = R := ⟨_, rfl⟩
  rw [hR] at hKp
  have HRR := Lib.hid hR
  clear hR
  refine hKp.mono ?_
  clear hKp
  rintro e W2 ⟨rfl, tt, ok'⟩
  clear hW1 g0 g1 i0 i1 i2 i3
  obtain ⟨k1, k2, k3, kb, ks⟩ := HK.out
  have hkb2 := tt.choose_spec.2.1
  have l1 := hkb2.cells k1 (fun q => by have := hblk _ q; omega)
  have l2 := hkb2.cells k2 (fun q => by have := hblk _ q; omega)
  have l3 := hkb2.cells k3 (fun q => by have := hblk _ q; omega)
  have r2 := HP1.out.r.kept hkb2 HP1.out.ap
  have g0 := (l1.cell 0).trans (show _ = some (Value.int .i64 most) from rfl)
  have g1 := (l1.cell 1).trans (show _ = some (Value.slice A L.length cap) from rfl)
  have i1 := (l2.cell 1).trans (show _ = some (Value.int .i64 a) from rfl)
  have i2 := (l2.cell 2).trans (show _ = some (Value.int .i64 b) from rfl)
  have i3 := (l2.cell 3).trans (show _ = some (Value.int .u32 x) from rfl)
  have HL3 := Lib.hid l3
  have HTT := Lib.hid tt
  have HOK := Lib.hid ok'
  clear k1 k2 k3 kb ks hkb2 l1 l2 l3 tt ok'
  have hL : L.length ≤ 65536 := by have := HP.out.ok.len; have := HP.out.ok.bnd; omega
  have hK := rKeep (cap := cap) r2 HP.out.ok.pos hL HP.out.ok.bnd.2 x
  unfold rtV at hK
  rw [HRR.out] at hK
  have HKK := Lib.hid hK
  clear hK
  go_wp2_with fail
  refine HKK.out.mono ?_
  rintro e W3 ⟨A', cap', rfl, an⟩
  clear HKK
  have l3 := HL3.out.below an.2.2 HL3.out.lt
  have d0 := (l3.cell 0).trans (show _ = some (Value.int .i64 0) from rfl)
  have d1 := (l3.cell 1).trans (show _ = some (Value.slice none 0 0) from rfl)
  have f0 := l3.frozen 0
  have f1 := l3.frozen 1
  have d0' := fun o => ((l3.alloc o).cell 0).trans (show _ = some (Value.int .i64 0) from rfl)
  have d1' := fun o => ((l3.alloc o).cell 1).trans (show _ = some (Value.slice none 0 0) from rfl)
  have f0' := fun o => (l3.alloc o).frozen 0
  have f1' := fun o => (l3.alloc o).frozen 1
  have HL4 := Lib.hid l3
  have HAN := Lib.hid an
  clear l3 an HL3 g0 g1 i1 i2 i3 r2
  go_wp2
  refine bodyPost_ret (res_row_tmp rfl _ _ (W.heap.size + 2) _ _ _ rfl (two_set (HL4.out.alloc _)) Tryd.underlying51 rfl (info_rt _ _)) rfl ?_
  rw [HRR.out]
  exact ⟨A', cap', rfl, does_join HP.out HK.out.2.2.2.1 HK.out.2.2.2.2 HTT.out HOK.out HAN.out (k4_end _ _ _)⟩
set_option maxRecDepth 100000 in
set_option maxHeartbeats 4000000 in
theorem cDoes3 {cap : Nat} {a b x : Int} (hP : Pr W base p mn mj sv most L J A) : Calls Tryd.prog 25 #[.pointer (some ⟨p, 0, none⟩), rtV most A L cap, .agg (stepA 3 a b x)] W fun e w' => ∃ A' cap', e = .returned (.tuple #[rtV most A' (stepR most L 3 a b x) cap', .bool true]) ∧ DoesTo W w' base p mn mj sv most (stepR most L 3 a b x) A A' := by
  rw [show stepR most L 3 a b x = (joinR most L a b).1 from rfl]
  obtain ⟨k, hk⟩ : ∃ k : Int, k = 3 := ⟨_, rfl⟩
  rw [← hk]
  have hk1 : (k == 1) = false := by simp [hk]
  have hk2 : (k == 2) = false := by simp [hk]
  have hk3 : (k == 3) = true := by simp [hk]
  clear hk
  unfold rtV stepA
  obtain ⟨k1, k2, k3, kb, ks⟩ := cells3 W #[.int .i64 most, .slice A L.length cap] #[.int .i64 k, .int .i64 a, .int .i64 b, .int .u32 x] #[.int .i64 0, .slice none 0 0] 51 45 51
  obtain ⟨W1, hW1⟩ : ∃ W1, ((W.alloc (.cells #[.int .i64 most, .slice A L.length cap] 51)).alloc (.cells #[.int .i64 k, .int .i64 a, .int .i64 b, .int .u32 x] 45)).alloc (.cells #[.int .i64 0, .slice none 0 0] 51) = W1 := ⟨_, rfl⟩
  rw [hW1] at k1 k2 k3 kb ks
  have hP1 := hP.below kb
  have hblk := hP.t.blk
  have HP := Lib.hid hP
  have HP1 := Lib.hid hP1
  have HK := Lib.hid (And.intro k1 (And.intro k2 (And.intro k3 (And.intro kb ks))))
  have g0 := (k1.cell 0).trans (show _ = some (Value.int .i64 most) from rfl)
  have g1 := (k1.cell 1).trans (show _ = some (Value.slice A L.length cap) from rfl)
  have i0 := (k2.cell 0).trans (show _ = some (Value.int .i64 k) from rfl)
  have i1 := (k2.cell 1).trans (show _ = some (Value.int .i64 a) from rfl)
  have i2 := (k2.cell 2).trans (show _ = some (Value.int .i64 b) from rfl)
  have i3 := (k2.cell 3).trans (show _ = some (Value.int .u32 x) from rfl)
  clear hP hP1 k1 k2 k3 kb ks
  go_enter Tryd.func25, Tryd.ntmps25
  go_wp2_with fail
  have hKp := cJoin HP1.out.t HP1.out.ok a b
  obtain ⟨R, hR⟩ : ∃ R, joinR most L a b = R := ⟨_, rfl⟩
  rw [hR] at hKp
  have HRR := Lib.hid hR
  clear hR
  refine hKp.mono ?_
  clear hKp
  rintro e W2 ⟨rfl, J2, tt, ok'⟩
  clear hW1 g0 g1 i0 i1 i2 i3
  obtain ⟨k1, k2, k3, kb, ks⟩ := HK.out
  have hkb2 := tt.choose_spec.2.1
  have l1 := hkb2.cells k1 (fun q => by have := hblk _ q; omega)
  have l2 := hkb2.cells k2 (fun q => by have := hblk _ q; omega)
  have l3 := hkb2.cells k3 (fun q => by have := hblk _ q; omega)
  have r2 := HP1.out.r.kept hkb2 HP1.out.ap
  have g0 := (l1.cell 0).trans (show _ = some (Value.int .i64 most) from rfl)
  have g1 := (l1.cell 1).trans (show _ = some (Value.slice A L.length cap) from rfl)
  have i1 := (l2.cell 1).trans (show _ = some (Value.int .i64 a) from rfl)
  have i2 := (l2.cell 2).trans (show _ = some (Value.int .i64 b) from rfl)
  have i3 := (l2.cell 3).trans (show _ = some (Value.int .u32 x) from rfl)
  have HL3 := Lib.hid l3
  have HTT := Lib.hid tt
  have HOK := Lib.hid ok'
  clear k1 k2 k3 kb ks hkb2 l1 l2 l3 tt ok'
  have hL : L.length ≤ 65536 := by have := HP.out.ok.len; have := HP.out.ok.bnd; omega
  have hK := rJoined (cap := cap) HP.out.ok r2 hL a b
  unfold rtV at hK
  rw [HRR.out] at hK
  have HKK := Lib.hid hK
  clear hK
  go_wp2_with fail
  refine HKK.out.mono ?_
  rintro e W3 ⟨A', cap', rfl, an⟩
  clear HKK
  have l3 := HL3.out.below an.2.2 HL3.out.lt
  have d0 := (l3.cell 0).trans (show _ = some (Value.int .i64 0) from rfl)
  have d1 := (l3.cell 1).trans (show _ = some (Value.slice none 0 0) from rfl)
  have f0 := l3.frozen 0
  have f1 := l3.frozen 1
  have d0' := fun o => ((l3.alloc o).cell 0).trans (show _ = some (Value.int .i64 0) from rfl)
  have d1' := fun o => ((l3.alloc o).cell 1).trans (show _ = some (Value.slice none 0 0) from rfl)
  have f0' := fun o => (l3.alloc o).frozen 0
  have f1' := fun o => (l3.alloc o).frozen 1
  have HL4 := Lib.hid l3
  have HAN := Lib.hid an
  clear l3 an HL3 g0 g1 i1 i2 i3 r2
  go_wp2
  refine bodyPost_ret (res_row_tmp rfl _ _ (W.heap.size + 2) _ _ _ rfl (two_set (HL4.out.alloc _)) Tryd.underlying51 rfl (info_rt _ _)) rfl ?_
  rw [HRR.out]
  exact ⟨A', cap', rfl, does_join HP.out HK.out.2.2.2.1 HK.out.2.2.2.2 HTT.out HOK.out HAN.out (k4_end _ _ _)⟩
set_option maxRecDepth 100000 in
set_option maxHeartbeats 4000000 in
theorem cDoes2 {cap : Nat} {a b x : Int} (hP : Pr W base p mn mj sv most L J A) : Calls Tryd.prog 25 #[.pointer (some ⟨p, 0, none⟩), rtV most A L cap, .agg (stepA 2 a b x)] W fun e w' => ∃ A' cap', e = .returned (.tuple #[rtV most A' (stepR most L 2 a b x) cap', .bool true]) ∧ DoesTo W w' base p mn mj sv most (stepR most L 2 a b x) A A' := by
  rw [show stepR most L 2 a b x = L from rfl]
  obtain ⟨k, hk⟩ : ∃ k : Int, k = 2 := ⟨_, rfl⟩
  rw [← hk]
  have hk1 : (k == 1) = false := by simp [hk]
  have hk2 : (k == 2) = true := by simp [hk]
  clear hk
  by_cases hin : inR L a
  · have hq := inR_get hin
    have hs : setR L a = (L.getD a.toNat 0, 0) := if_pos hin
    obtain ⟨a0, a1⟩ := hin
    generalize L.getD a.toNat 0 = y at *
    have HQ := Lib.hid hq
    have HSS := Lib.hid hs
    clear hq hs
    unfold rtV stepA
    obtain ⟨k1, k2, k3, kb, ks⟩ := cells3 W #[.int .i64 most, .slice A L.length cap] #[.int .i64 k, .int .i64 a, .int .i64 b, .int .u32 x] #[.int .i64 0, .slice none 0 0] 51 45 51
    obtain ⟨W1, hW1⟩ : ∃ W1, ((W.alloc (.cells #[.int .i64 most, .slice A L.length cap] 51)).alloc (.cells #[.int .i64 k, .int .i64 a, .int .i64 b, .int .u32 x] 45)).alloc (.cells #[.int .i64 0, .slice none 0 0] 51) = W1 := ⟨_, rfl⟩
    rw [hW1] at k1 k2 k3 kb ks
    have hP1 := hP.below kb
    have hblk := hP.t.blk
    have HP := Lib.hid hP
    have HP1 := Lib.hid hP1
    have HK := Lib.hid (And.intro k1 (And.intro k2 (And.intro k3 (And.intro kb ks))))
    have g0 := (k1.cell 0).trans (show _ = some (Value.int .i64 most) from rfl)
    have g1 := (k1.cell 1).trans (show _ = some (Value.slice A L.length cap) from rfl)
    have i0 := (k2.cell 0).trans (show _ = some (Value.int .i64 k) from rfl)
    have i1 := (k2.cell 1).trans (show _ = some (Value.int .i64 a) from rfl)
    have i2 := (k2.cell 2).trans (show _ = some (Value.int .i64 b) from rfl)
    have i3 := (k2.cell 3).trans (show _ = some (Value.int .u32 x) from rfl)
    clear hP hP1 k1 k2 k3 kb ks
    go_enter Tryd.func25, Tryd.ntmps25
    go_wp2_with fail
    have hS := cSet HP1.out.t HP1.out.ok.pos a
    rw [HSS.out] at hS
    have HL3 := Lib.hid HK.out.2.2.1
    have d0 := (HL3.out.cell 0).trans (show _ = some (Value.int .i64 0) from rfl)
    have d1 := (HL3.out.cell 1).trans (show _ = some (Value.slice none 0 0) from rfl)
    have f0 := HL3.out.frozen 0
    have f1 := HL3.out.frozen 1
    refine hS.mono ?_
    clear hS
    rintro e w' ⟨rfl, rfl⟩
    clear hW1
    have hlt := HP1.out.lt
    obtain ⟨g, off, rfl, hg⟩ := HP1.out.r.some_ HP1.out.ok.pos
    have cx := HP1.out.r.cell g off rfl _ _ HQ.out
    clear hlt
    go_upto_region 10 with (fail)
    go_region
    go_wp2
    refine bodyPost_ret (res_row_tmp rfl _ _ (W.heap.size + 2) _ _ _ rfl (two_set (show Cells w'.drew _ _ _ from HL3.out)) Tryd.underlying51 rfl (info_rt _ _)) rfl ?_
    exact ⟨_, cap, rfl, does_join HP.out HK.out.2.2.2.1 HK.out.2.2.2.2 (HP1.out.t.to (Below.refl _ _)) HP1.out.ok (.of_below HP1.out.r (Below.refl _ _).drew) (k4_end0 _ _)⟩
  · have hs : setR L a = (0, 5) := if_neg hin
    have HSS := Lib.hid hs
    have hc := not_in hin
    clear hs hin
    rcases hc with h1 | ⟨h1, h2⟩
    · skip
      unfold rtV stepA
      obtain ⟨k1, k2, k3, kb, ks⟩ := cells3 W #[.int .i64 most, .slice A L.length cap] #[.int .i64 k, .int .i64 a, .int .i64 b, .int .u32 x] #[.int .i64 0, .slice none 0 0] 51 45 51
      obtain ⟨W1, hW1⟩ : ∃ W1, ((W.alloc (.cells #[.int .i64 most, .slice A L.length cap] 51)).alloc (.cells #[.int .i64 k, .int .i64 a, .int .i64 b, .int .u32 x] 45)).alloc (.cells #[.int .i64 0, .slice none 0 0] 51) = W1 := ⟨_, rfl⟩
      rw [hW1] at k1 k2 k3 kb ks
      have hP1 := hP.below kb
      have hblk := hP.t.blk
      have HP := Lib.hid hP
      have HP1 := Lib.hid hP1
      have HK := Lib.hid (And.intro k1 (And.intro k2 (And.intro k3 (And.intro kb ks))))
      have g0 := (k1.cell 0).trans (show _ = some (Value.int .i64 most) from rfl)
      have g1 := (k1.cell 1).trans (show _ = some (Value.slice A L.length cap) from rfl)
      have i0 := (k2.cell 0).trans (show _ = some (Value.int .i64 k) from rfl)
      have i1 := (k2.cell 1).trans (show _ = some (Value.int .i64 a) from rfl)
      have i2 := (k2.cell 2).trans (show _ = some (Value.int .i64 b) from rfl)
      have i3 := (k2.cell 3).trans (show _ = some (Value.int .u32 x) from rfl)
      clear hP hP1 k1 k2 k3 kb ks
      go_enter Tryd.func25, Tryd.ntmps25
      go_wp2_with fail
      have hS := cSet HP1.out.t HP1.out.ok.pos a
      rw [HSS.out] at hS
      have HL3 := Lib.hid HK.out.2.2.1
      have d0 := (HL3.out.cell 0).trans (show _ = some (Value.int .i64 0) from rfl)
      have d1 := (HL3.out.cell 1).trans (show _ = some (Value.slice none 0 0) from rfl)
      have f0 := HL3.out.frozen 0
      have f1 := HL3.out.frozen 1
      refine hS.mono ?_
      clear hS
      rintro e w' ⟨rfl, rfl⟩
      clear hW1
      go_wp2
      refine bodyPost_ret (res_row_tmp rfl _ _ (W.heap.size + 2) _ _ _ rfl (two_set HL3.out) Tryd.underlying51 rfl (info_rt _ _)) rfl ?_
      exact ⟨A, cap, rfl, does_join HP.out HK.out.2.2.2.1 HK.out.2.2.2.2 (HP1.out.t.to (Below.refl _ _)) HP1.out.ok (.of_below HP1.out.r (Below.refl _ _)) (k4_end0 _ _)⟩
    · skip
      unfold rtV stepA
      obtain ⟨k1, k2, k3, kb, ks⟩ := cells3 W #[.int .i64 most, .slice A L.length cap] #[.int .i64 k, .int .i64 a, .int .i64 b, .int .u32 x] #[.int .i64 0, .slice none 0 0] 51 45 51
      obtain ⟨W1, hW1⟩ : ∃ W1, ((W.alloc (.cells #[.int .i64 most, .slice A L.length cap] 51)).alloc (.cells #[.int .i64 k, .int .i64 a, .int .i64 b, .int .u32 x] 45)).alloc (.cells #[.int .i64 0, .slice none 0 0] 51) = W1 := ⟨_, rfl⟩
      rw [hW1] at k1 k2 k3 kb ks
      have hP1 := hP.below kb
      have hblk := hP.t.blk
      have HP := Lib.hid hP
      have HP1 := Lib.hid hP1
      have HK := Lib.hid (And.intro k1 (And.intro k2 (And.intro k3 (And.intro kb ks))))
      have g0 := (k1.cell 0).trans (show _ = some (Value.int .i64 most) from rfl)
      have g1 := (k1.cell 1).trans (show _ = some (Value.slice A L.length cap) from rfl)
      have i0 := (k2.cell 0).trans (show _ = some (Value.int .i64 k) from rfl)
      have i1 := (k2.cell 1).trans (show _ = some (Value.int .i64 a) from rfl)
      have i2 := (k2.cell 2).trans (show _ = some (Value.int .i64 b) from rfl)
      have i3 := (k2.cell 3).trans (show _ = some (Value.int .u32 x) from rfl)
      clear hP hP1 k1 k2 k3 kb ks
      go_enter Tryd.func25, Tryd.ntmps25
      go_wp2_with fail
      have hS := cSet HP1.out.t HP1.out.ok.pos a
      rw [HSS.out] at hS
      have HL3 := Lib.hid HK.out.2.2.1
      have d0 := (HL3.out.cell 0).trans (show _ = some (Value.int .i64 0) from rfl)
      have d1 := (HL3.out.cell 1).trans (show _ = some (Value.slice none 0 0) from rfl)
      have f0 := HL3.out.frozen 0
      have f1 := HL3.out.frozen 1
      refine hS.mono ?_
      clear hS
      rintro e w' ⟨rfl, rfl⟩
      clear hW1
      go_wp2
      refine bodyPost_ret (res_row_tmp rfl _ _ (W.heap.size + 2) _ _ _ rfl (two_set HL3.out) Tryd.underlying51 rfl (info_rt _ _)) rfl ?_
      exact ⟨A, cap, rfl, does_join HP.out HK.out.2.2.2.1 HK.out.2.2.2.2 (HP1.out.t.to (Below.refl _ _)) HP1.out.ok (.of_below HP1.out.r (Below.refl _ _)) (k4_end0 _ _)⟩
set_option maxRecDepth 100000 in
set_option maxHeartbeats 4000000 in
theorem cDoes4 {cap : Nat} {k a b x : Int} (hP : Pr W base p mn mj sv most L J A) (hk1 : (k == 1) = false) (hk2 : (k == 2) = false) (hk3 : (k == 3) = false) : Calls Tryd.prog 25 #[.pointer (some ⟨p, 0, none⟩), rtV most A L cap, .agg (stepA k a b x)] W fun e w' => ∃ A' cap', e = .returned (.tuple #[rtV most A' L cap', .bool true]) ∧ DoesTo W w' base p mn mj sv most L A A' := by
  have hL : L.length ≤ 65536 := by have := hP.ok.len; have := hP.ok.bnd; omega
  have HLL := Lib.hid hL
  clear hL
  cases hi : idxL x L 0 with
  | some n =>
    have HI := Lib.hid hi
    clear hi
    unfold rtV stepA
    obtain ⟨k1, k2, k3, kb, ks⟩ := cells3 W #[.int .i64 most, .slice A L.length cap] #[.int .i64 k, .int .i64 a, .int .i64 b, .int .u32 x] #[.int .i64 0, .slice none 0 0] 51 45 51
    obtain ⟨W1, hW1⟩ : ∃ W1, ((W.alloc (.cells #[.int .i64 most, .slice A L.length cap] 51)).alloc (.cells #[.int .i64 k, .int .i64 a, .int .i64 b, .int .u32 x] 45)).alloc (.cells #[.int .i64 0, .slice none 0 0] 51) = W1 := ⟨_, rfl⟩
    rw [hW1] at k1 k2 k3 kb ks
    have hP1 := hP.below kb
    have hblk := hP.t.blk
    have HP := Lib.hid hP
    have HP1 := Lib.hid hP1
    have HK := Lib.hid (And.intro k1 (And.intro k2 (And.intro k3 (And.intro kb ks))))
    have g0 := (k1.cell 0).trans (show _ = some (Value.int .i64 most) from rfl)
    have g1 := (k1.cell 1).trans (show _ = some (Value.slice A L.length cap) from rfl)
    have i0 := (k2.cell 0).trans (show _ = some (Value.int .i64 k) from rfl)
    have i1 := (k2.cell 1).trans (show _ = some (Value.int .i64 a) from rfl)
    have i2 := (k2.cell 2).trans (show _ = some (Value.int .i64 b) from rfl)
    have i3 := (k2.cell 3).trans (show _ = some (Value.int .u32 x) from rfl)
    clear hP hP1 k1 k2 k3 kb ks
    go_enter Tryd.func25, Tryd.ntmps25
    go_wp2_with fail
    have hS := cHas HP1.out.t HP1.out.ok.pos x
    rw [HI.out] at hS
    simp only [Option.getD_some, Option.isSome_some] at hS
    have hG := rHas (cap := cap) (most := most) HP1.out.r HLL.out x
    rw [show hasR L x = n by unfold hasR; rw [HI.out]] at hG
    refine hS.mono ?_
    clear hS
    rintro e w' ⟨rfl, rfl⟩
    clear hW1
    go_wp2_with fail
    refine hG.mono ?_
    clear hG
    rintro e W3 ⟨rfl, hb3⟩
    have HL3 := Lib.hid (HK.out.2.2.1.below hb3 HK.out.2.2.1.lt)
    have l1 := HK.out.1.below hb3 HK.out.1.lt
    have g0 := (l1.cell 0).trans (show _ = some (Value.int .i64 most) from rfl)
    have g1 := (l1.cell 1).trans (show _ = some (Value.slice A L.length cap) from rfl)
    have d0 := (HL3.out.cell 0).trans (show _ = some (Value.int .i64 0) from rfl)
    have d1 := (HL3.out.cell 1).trans (show _ = some (Value.slice none 0 0) from rfl)
    have f0 := HL3.out.frozen 0
    have f1 := HL3.out.frozen 1
    have HB3 := Lib.hid hb3
    clear hb3 l1 i0 i1 i2 i3
    go_wp2
    refine bodyPost_ret (res_row_tmp rfl _ _ (W.heap.size + 2) _ _ _ rfl (two_set HL3.out) Tryd.underlying51 rfl (info_rt _ _)) rfl ?_
    exact ⟨A, cap, rfl, does_join HP.out HK.out.2.2.2.1 HK.out.2.2.2.2 (HP1.out.t.to (Below.refl _ _)) HP1.out.ok (.of_below HP1.out.r HB3.out) (k4_end0 _ _)⟩
  | none =>
    have HI := Lib.hid hi
    clear hi
    unfold rtV stepA
    obtain ⟨k1, k2, k3, kb, ks⟩ := cells3 W #[.int .i64 most, .slice A L.length cap] #[.int .i64 k, .int .i64 a, .int .i64 b, .int .u32 x] #[.int .i64 0, .slice none 0 0] 51 45 51
    obtain ⟨W1, hW1⟩ : ∃ W1, ((W.alloc (.cells #[.int .i64 most, .slice A L.length cap] 51)).alloc (.cells #[.int .i64 k, .int .i64 a, .int .i64 b, .int .u32 x] 45)).alloc (.cells #[.int .i64 0, .slice none 0 0] 51) = W1 := ⟨_, rfl⟩
    rw [hW1] at k1 k2 k3 kb ks
    have hP1 := hP.below kb
    have hblk := hP.t.blk
    have HP := Lib.hid hP
    have HP1 := Lib.hid hP1
    have HK := Lib.hid (And.intro k1 (And.intro k2 (And.intro k3 (And.intro kb ks))))
    have g0 := (k1.cell 0).trans (show _ = some (Value.int .i64 most) from rfl)
    have g1 := (k1.cell 1).trans (show _ = some (Value.slice A L.length cap) from rfl)
    have i0 := (k2.cell 0).trans (show _ = some (Value.int .i64 k) from rfl)
    have i1 := (k2.cell 1).trans (show _ = some (Value.int .i64 a) from rfl)
    have i2 := (k2.cell 2).trans (show _ = some (Value.int .i64 b) from rfl)
    have i3 := (k2.cell 3).trans (show _ = some (Value.int .u32 x) from rfl)
    clear hP hP1 k1 k2 k3 kb ks
    go_enter Tryd.func25, Tryd.ntmps25
    go_wp2_with fail
    have hS := cHas HP1.out.t HP1.out.ok.pos x
    rw [HI.out] at hS
    simp only [Option.getD_none, Option.isSome_none] at hS
    have hG := rHas (cap := cap) (most := most) HP1.out.r HLL.out x
    rw [show hasR L x = -1 by unfold hasR; rw [HI.out]] at hG
    refine hS.mono ?_
    clear hS
    rintro e w' ⟨rfl, rfl⟩
    clear hW1
    go_wp2_with fail
    refine hG.mono ?_
    clear hG
    rintro e W3 ⟨rfl, hb3⟩
    have HL3 := Lib.hid (HK.out.2.2.1.below hb3 HK.out.2.2.1.lt)
    have l1 := HK.out.1.below hb3 HK.out.1.lt
    have g0 := (l1.cell 0).trans (show _ = some (Value.int .i64 most) from rfl)
    have g1 := (l1.cell 1).trans (show _ = some (Value.slice A L.length cap) from rfl)
    have d0 := (HL3.out.cell 0).trans (show _ = some (Value.int .i64 0) from rfl)
    have d1 := (HL3.out.cell 1).trans (show _ = some (Value.slice none 0 0) from rfl)
    have f0 := HL3.out.frozen 0
    have f1 := HL3.out.frozen 1
    have HB3 := Lib.hid hb3
    clear hb3 l1 i0 i1 i2 i3
    go_wp2
    refine bodyPost_ret (res_row_tmp rfl _ _ (W.heap.size + 2) _ _ _ rfl (two_set HL3.out) Tryd.underlying51 rfl (info_rt _ _)) rfl ?_
    exact ⟨A, cap, rfl, does_join HP.out HK.out.2.2.2.1 HK.out.2.2.2.2 (HP1.out.t.to (Below.refl _ _)) HP1.out.ok (.of_below HP1.out.r HB3.out) (k4_end0 _ _)⟩
/-- What a call does, whichever it is. -/
theorem cDoes {cap : Nat} {k a b x : Int} (hP : Pr W base p mn mj sv most L J A) (hx : 0 ≤ x) : Calls Tryd.prog 25 #[.pointer (some ⟨p, 0, none⟩), rtV most A L cap, .agg (stepA k a b x)] W fun e w' => ∃ A' cap', e = .returned (.tuple #[rtV most A' (stepR most L k a b x) cap', .bool true]) ∧ DoesTo W w' base p mn mj sv most (stepR most L k a b x) A A' := by
  by_cases h1 : k = 1
  · subst h1; exact cDoes1 hP hx
  · by_cases h2 : k = 2
    · subst h2; exact cDoes2 hP
    · by_cases h3 : k = 3
      · subst h3; exact cDoes3 hP
      · rw [show stepR most L k a b x = L by unfold stepR; rw [if_neg h1, if_neg h3]]
        exact cDoes4 hP (by simpa using h1) (by simpa using h2) (by simpa using h3)
end
end Go.Proofs.YtbleilbphadehaaDoor
