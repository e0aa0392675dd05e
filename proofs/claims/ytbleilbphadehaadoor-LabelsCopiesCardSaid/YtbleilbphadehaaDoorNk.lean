/- The document's Keep, whole, and Joined: contracts. -/
import Derived.Test.YtbleilbphadehaaDoorNj
namespace Go.Proofs.YtbleilbphadehaaDoor
open Go.RowKit Go.Shelf
section
variable {W : World} {A : Option Addr} {cap : Nat} {most : Int} {L : List Int}
theorem rKeep (hr : Rd W W.heap.size .u32 A L) (hp : 0 < L.length) (hL : L.length ≤ 65536) (hm : most ≤ 65536) (x : Int) : Calls Tryd.prog 34 #[rtV most A L cap, .int .u32 x] W fun e w' => ∃ A' cap', e = .returned (.tuple #[rtV most A' (keepR most L x).1 cap', .int .i64 (keepR most L x).2.1, .int .i64 (keepR most L x).2.2]) ∧ Anew W w' A A' (keepR most L x).1 := by
  unfold keepR
  by_cases h1 : 65536 ≤ x
  · rw [if_pos h1]
    refine (rKeep_arg hr h1).mono ?_
    rintro e w' ⟨rfl, h⟩
    exact ⟨A, cap, rfl, h⟩
  · rw [if_neg h1]
    cases hi : idxL x L 0 with
    | some n =>
      refine (rKeep_is hr hL (by omega) hi).mono ?_
      rintro e w' ⟨rfl, h⟩
      exact ⟨A, cap, rfl, h⟩
    | none =>
      by_cases h2 : most ≤ L.length
      · simp only [if_pos h2]
        refine (rKeep_full hr hL (by omega) hi h2).mono ?_
        rintro e w' ⟨rfl, h⟩
        exact ⟨A, cap, rfl, h⟩
      · simp only [if_neg h2]
        exact rKeep_new hr hp (by omega) (by omega) hi (by omega)
theorem rJoinZ {x y : Int} (hx : 0 ≤ x ∧ x < 65536) (hy : 0 ≤ y ∧ y < 65536) (w : World) : Calls Tryd.prog 18 #[.int .u32 x, .int .u32 y] w fun e w' => e = .returned (.int .u32 (orZ x y)) ∧ w' = w := by
  obtain ⟨a, rfl⟩ : ∃ a : Nat, x = a := ⟨x.toNat, by omega⟩
  obtain ⟨b, rfl⟩ : ∃ b : Nat, y = b := ⟨y.toNat, by omega⟩
  exact rJoin (by omega) (by omega) w
theorem Anew.two {W W1 W4 : World} {A A' : Option Addr} {L : List Int} {B : Nat} (hb : Below W.heap.size W W1) (h : Anew W1 W4 A A' L) (hA : ∀ g off, A = some ⟨g, off, none⟩ → g < W.heap.size) (h1 : W.heap.size ≤ B) (h2 : B < W1.heap.size) (u v : Value) : Anew W ((W4.setCell ⟨B, 0, none⟩ u).setCell ⟨B, 1, none⟩ v) A A' L := by
  obtain ⟨hr, ha, hb4⟩ := h
  have k : ∀ b, b ≠ B → ((W4.setCell ⟨B, 0, none⟩ u).setCell ⟨B, 1, none⟩ v).heap[b]? = W4.heap[b]? := fun b hb => (Below.heap_setCell _ _ _ _ hb).trans (Below.heap_setCell _ _ _ _ hb)
  have hne : ∀ g off, A' = some ⟨g, off, none⟩ → g ≠ B := fun g off e => by
    rcases ha with ha | ha
    · have := hA g off (ha ▸ e); omega
    · have := ha g off e; omega
  refine ⟨⟨fun h0 => ?_, fun g off e i x hx => (World.cell?_of_block (k g (hne g off e))).trans (hr.cell g off e i x hx)⟩, ?_, two_below (hb.trans (hb4.mono hb.size)) h1⟩
  · obtain ⟨g, off, e, hg⟩ := hr.some_ h0
    exact ⟨g, off, e, by rw [size_two]; exact hg⟩
  · rcases ha with ha | ha
    · exact .inl ha
    · exact .inr fun g off e => by have := ha g off e; have := hb.size; omega
theorem keep4 {W : World} {B s g i j : Nat} {u v p q r t : Value} (h1 : s ≠ B) (h2 : g ≠ B) (h : W.cell? ⟨s, 0, none⟩ = some p ∧ W.cell? ⟨s, 1, none⟩ = some q ∧ W.cell? ⟨g, i, none⟩ = some r ∧ W.cell? ⟨g, j, none⟩ = some t) :
    ((W.setCell ⟨B, 0, none⟩ u).setCell ⟨B, 1, none⟩ v).cell? ⟨s, 0, none⟩ = some p ∧ ((W.setCell ⟨B, 0, none⟩ u).setCell ⟨B, 1, none⟩ v).cell? ⟨s, 1, none⟩ = some q ∧ ((W.setCell ⟨B, 0, none⟩ u).setCell ⟨B, 1, none⟩ v).cell? ⟨g, i, none⟩ = some r ∧ ((W.setCell ⟨B, 0, none⟩ u).setCell ⟨B, 1, none⟩ v).cell? ⟨g, j, none⟩ = some t := by
  have k : ∀ b, b ≠ B → ((W.setCell ⟨B, 0, none⟩ u).setCell ⟨B, 1, none⟩ v).heap[b]? = W.heap[b]? := fun b hb => (Below.heap_setCell _ _ _ _ hb).trans (Below.heap_setCell _ _ _ _ hb)
  exact ⟨(World.cell?_of_block (k s h1)).trans h.1, (World.cell?_of_block (k s h1)).trans h.2.1, (World.cell?_of_block (k g h2)).trans h.2.2.1, (World.cell?_of_block (k g h2)).trans h.2.2.2⟩
theorem not_in {n : Int} (h : ¬ inR L n) : n < 0 ∨ (0 ≤ n ∧ (L.length : Int) ≤ n) := by unfold inR at h; omega
set_option maxHeartbeats 1000000 in
theorem rJoined_out (hr : Rd W W.heap.size .u32 A L) (_ : L.length ≤ 65536) {a b : Int} (h : ¬ (inR L a ∧ inR L b)) : Calls Tryd.prog 35 #[rtV most A L cap, .int .i64 a, .int .i64 b] W fun e w' => e = .returned (.tuple #[rtV most A L cap, .int .i64 0, .int .i64 5]) ∧ Anew W w' A A L := by
  unfold rtV
  have HR := Lib.hid hr
  clear hr
  have hc : (a < 0 ∨ (0 ≤ a ∧ (L.length : Int) ≤ a)) ∨ ((0 ≤ a ∧ a < L.length) ∧ (b < 0 ∨ (0 ≤ b ∧ (L.length : Int) ≤ b))) := by unfold inR at h; omega
  clear h
  rcases hc with (h1 | ⟨h1, h2⟩) | ⟨⟨h1, h2⟩, (h3 | ⟨h3, h4⟩)⟩
  all_goals
    go_enter Tryd.func35, Tryd.ntmps35
    go_wp2
    refine bodyPost_ret (v := .tuple #[.agg #[.int .i64 most, .slice A L.length cap], .int .i64 0, .int .i64 5]) (by simp [results, Tryd.results35, go_sem]) rfl ?_
    exact ⟨rfl, .of_below HR.out (((Below.refl _ W).alloc (Nat.le_refl _) _).alloc (by simp) _)⟩
set_option maxHeartbeats 2000000 in
set_option maxRecDepth 100000 in
theorem rJoined_in (hr : Rd W W.heap.size .u32 A L) (hL : L.length ≤ 65536) (hm : most ≤ 65536) {a b : Int} (ha : inR L a) (hb : inR L b) (hx : 0 ≤ L.getD a.toNat 0 ∧ L.getD a.toNat 0 < 65536) (hy : 0 ≤ L.getD b.toNat 0 ∧ L.getD b.toNat 0 < 65536) {R : List Int × Int × Int} (hR : keepR most L (orZ (L.getD a.toNat 0) (L.getD b.toNat 0)) = R) : Calls Tryd.prog 35 #[rtV most A L cap, .int .i64 a, .int .i64 b] W fun e w' => ∃ A' cap', e = .returned (.tuple #[rtV most A' R.1 cap', .int .i64 R.2.1, .int .i64 R.2.2]) ∧ Anew W w' A A' R.1 := by
  have hp : 0 < L.length := by have := ha.1; have := ha.2; omega
  obtain ⟨g, off, rfl, hg⟩ := hr.some_ hp
  obtain ⟨k1, k2, kb, ks⟩ := cells2 W #[.int .i64 most, .slice (some ⟨g, off, none⟩) L.length cap] #[.int .i64 0, .slice none 0 0] 51 51
  have r1 := (hr.below kb (Nat.le_refl _)).up kb.size
  obtain ⟨W1, hW1⟩ : ∃ W1, (W.alloc (.cells #[.int .i64 most, .slice (some ⟨g, off, none⟩) L.length cap] 51)).alloc (.cells #[.int .i64 0, .slice none 0 0] 51) = W1 := ⟨_, rfl⟩
  have r1' := r1
  rw [hW1] at k1 k2 kb ks r1 r1'
  have r2 : Rd W1.drew W1.drew.heap.size .u32 (some ⟨g, off, none⟩) L := r1.below (Below.refl _ _).drew (Nat.le_refl _)
  have q0 := (r2.cell g off rfl _ _ (inR_get ha))
  have q1 := (r2.cell g off rfl _ _ (inR_get hb))
  obtain ⟨a0, a1⟩ := ha
  obtain ⟨b0, b1⟩ := hb
  generalize L.getD a.toNat 0 = x at *
  generalize L.getD b.toNat 0 = y at *
  have HK := Lib.hid (rKeep (cap := cap) r2 hp hL hm (orZ x y))
  rw [hR] at HK
  have HJ := Lib.hid (rJoinZ hx hy W1.drew)
  clear hR
  obtain ⟨L', n', e'⟩ := R
  simp only at HK ⊢
  have HA := Lib.hid (⟨k1, k2, kb⟩ : Cells W1 W.heap.size _ _ ∧ Cells W1 (W.heap.size + 1) _ _ ∧ Below W.heap.size W W1)
  have s0 := (k1.cell 0).trans (show _ = some (Value.int .i64 most) from rfl)
  have s1 := (k1.cell 1).trans (show _ = some (Value.slice (some ⟨g, off, none⟩) L.length cap) from rfl)
  have S1 : W1.drew.cell? ⟨W.heap.size, 0, none⟩ = some (.int .i64 most) ∧ W1.drew.cell? ⟨W.heap.size, 1, none⟩ = some (.slice (some ⟨g, off, none⟩) L.length cap) ∧ W1.drew.cell? ⟨g, off + a.toNat, none⟩ = some (.int .u32 x) ∧ W1.drew.cell? ⟨g, off + b.toNat, none⟩ = some (.int .u32 y) := ⟨s0, s1, q0, q1⟩
  clear hr r1 r1' r2 k1 k2 kb ks hx hy hp
  have hgs : g ≠ W.heap.size + 1 := by omega
  unfold rtV at HK ⊢
  go_enter Tryd.func35, Tryd.ntmps35
  go_upto_region 3 with (fail)
  clear hW1 s0 s1 q0 q1
  go_region_held3 (fun W' => W'.cell? ⟨W.heap.size, 0, none⟩ = some (.int .i64 most) ∧ W'.cell? ⟨W.heap.size, 1, none⟩ = some (.slice (some ⟨g, off, none⟩) L.length cap) ∧ W'.cell? ⟨g, off + a.toNat, none⟩ = some (.int .u32 x) ∧ W'.cell? ⟨g, off + b.toNat, none⟩ = some (.int .u32 y))
    (first | exact S1 | exact S4 | exact S5.out _ _)
    (first
      | ((with_reducible refine (HJ.out).mono ?_); rintro e W3 ⟨rfl, rfl⟩)
      | ((with_reducible refine (HK.out).mono ?_); rintro e W4 ⟨A', cap', rfl, hr4, hA4, hb4⟩; have l2 := (show Cells W1.drew _ _ _ from HA.out.2.1).below hb4 HA.out.2.1.lt; have S4 : W4.cell? ⟨W.heap.size, 0, none⟩ = some (.int .i64 most) ∧ W4.cell? ⟨W.heap.size, 1, none⟩ = some (.slice (some ⟨g, off, none⟩) L.length cap) ∧ W4.cell? ⟨g, off + a.toNat, none⟩ = some (.int .u32 x) ∧ W4.cell? ⟨g, off + b.toNat, none⟩ = some (.int .u32 y) := ⟨(hb4.cell (p := ⟨_, _, none⟩) HA.out.1.lt).trans S1.1, (hb4.cell (p := ⟨_, _, none⟩) HA.out.1.lt).trans S1.2.1, (hb4.cell (p := ⟨g, _, none⟩) (Nat.lt_of_lt_of_le hg HA.out.2.2.size)).trans S1.2.2.1, (hb4.cell (p := ⟨g, _, none⟩) (Nat.lt_of_lt_of_le hg HA.out.2.2.size)).trans S1.2.2.2⟩; have S5 := Lib.hid (fun u v => keep4 (u := u) (v := v) (B := W.heap.size + 1) (by omega) hgs S4); have d0 := (l2.cell 0).trans (show _ = some (Value.int .i64 0) from rfl); have d1 := (l2.cell 1).trans (show _ = some (Value.slice none 0 0) from rfl); have f0 := l2.frozen 0; have f1 := l2.frozen 1; have HL2 := Lib.hid l2; have HR4 := Lib.hid (⟨hr4, hA4, hb4⟩ : Anew W1.drew W4 _ _ _); clear hr4 hA4 hb4 l2))
  all_goals
    go_wp2
    refine bodyPost_ret (res_row_tmp2 rfl _ _ (W.heap.size + 1) _ _ _ rfl (two_set HL2.out) Tryd.underlying51 rfl (info_rt _ _)) rfl ?_
    exact ⟨A', cap', rfl, Anew.two HA.out.2.2.drew HR4.out (fun g' off' e => by cases e; exact hg) (by omega) (show _ < W1.heap.size from HA.out.2.1.lt) _ _⟩
theorem rJoined {J : List ((Int × Int) × Int)} (ok : TOk most L J) (hr : Rd W W.heap.size .u32 A L) (hL : L.length ≤ 65536) (a b : Int) : Calls Tryd.prog 35 #[rtV most A L cap, .int .i64 a, .int .i64 b] W fun e w' => ∃ A' cap', e = .returned (.tuple #[rtV most A' (joinR most L a b).1 cap', .int .i64 (joinR most L a b).2.1, .int .i64 (joinR most L a b).2.2]) ∧ Anew W w' A A' (joinR most L a b).1 := by
  by_cases h : inR L a ∧ inR L b
  · rw [show joinR most L a b = keepR most L (orZ (L.getD a.toNat 0) (L.getD b.toNat 0)) from if_pos h]
    exact rJoined_in hr hL ok.bnd.2 h.1 h.2 (ok.get h.1) (ok.get h.2) rfl
  · rw [show joinR most L a b = (L, 0, 5) from if_neg h]
    refine (rJoined_out hr hL h).mono ?_
    rintro e w' ⟨rfl, h⟩
    exact ⟨A, cap, rfl, h⟩
end
end Go.Proofs.YtbleilbphadehaaDoor
