/- Sets are kept, joined, found as the document says: the walk. -/
import Derived.Test.YtbleilbphadehaaDoorNt
import Derived.Test.YtbleilbphadehaaDoorNp
namespace Go.Proofs.YtbleilbphadehaaDoor
open Go.RowKit Go.Shelf

section
variable {w W : World} {base p mn mj B : Nat} {sv : Value} {most : Int} {L : List Int} {J : List ((Int × Int) × Int)} {A : Option Addr} {cap : Nat}
theorem DoesTo.from_below {V W' : World} {L' : List Int} {A' : Option Addr} (hb : Below W.heap.size W V) (h : DoesTo V W' base p mn mj sv most L' A A') : DoesTo W W' base p mn mj sv most L' A A' := by
  obtain ⟨sv', J', hp, hk, hs, ha⟩ := h
  have := hb.size
  refine ⟨sv', J', hp, (KeptBut.of_below _ hb).trans hk, fun k q => ?_, ?_⟩
  · rcases hs k q with h | h
    · exact .inl h
    · exact .inr (by omega)
  · rcases ha with h | h
    · exact .inl h
    · exact .inr fun g off e => by have := h g off e; omega
/-- A table, and a variable that holds the document's, alike. -/
structure PV (w W : World) (p mn mj : Nat) (sv : Value) (most : Int) (L : List Int) (J : List ((Int × Int) × Int)) (A : Option Addr) (cap B : Nat) : Prop where
  pr : Pr W w.heap.size p mn mj sv most L J A
  var : Cells W B 51 #[.int .i64 most, .slice A L.length cap]
  nb : ¬ TabS p mn mj sv B
  na : ∀ g off, A = some ⟨g, off, none⟩ → g ≠ B
  low : Below w.heap.size w W
  hB : w.heap.size ≤ B
theorem PV.below {W' : World} (h : PV w W p mn mj sv most L J A cap B) (hb : Below W.heap.size W W') : PV w W' p mn mj sv most L J A cap B :=
  ⟨h.pr.below hb, h.var.below hb h.var.lt, h.nb, h.na, h.low.trans (hb.mono h.low.size), h.hB⟩
theorem PV.step {W1 W2 : World} {L' : List Int} {A' : Option Addr} {cap' : Nat} (h : PV w W p mn mj sv most L J A cap B) (d : DoesTo W W1 w.heap.size p mn mj sv most L' A A') (k : KeptBut (fun k => k = B) W1 W2) (c : Cells W2 B 51 #[.int .i64 most, .slice A' L'.length cap']) : ∃ sv' J', PV w W2 p mn mj sv' most L' J' A' cap' B := by
  obtain ⟨sv', J', hp, hk, hs, ha⟩ := d
  have hlt := h.var.lt
  have nb : ¬ TabS p mn mj sv' B := fun q => by
    rcases hs B q with q | q
    · exact h.nb q
    · omega
  have na : ∀ g off, A' = some ⟨g, off, none⟩ → g ≠ B := fun g off e => by
    rcases ha with ha | ha
    · exact h.na g off (ha ▸ e)
    · have := ha g off e; omega
  refine ⟨sv', J', ⟨hp.t.kept k fun q hq e => nb (e ▸ hq), hp.ok, hp.r.kept k fun g off e q => na g off e q, hp.ap⟩, c, nb, na, ?_, h.hB⟩
  exact h.low.trans ((hk.below h.pr.t.own h.low.size).trans (k.below (fun q e => by have := h.hB; omega) (by have := hk.size; have := h.low.size; omega)))
theorem does_block {W1 : World} {L' : List Int} {A' : Option Addr} (d : DoesTo W W1 base p mn mj sv most L' A A') {b : Nat} (hb : b < W.heap.size) (hn : ¬ TabS p mn mj sv b) : W1.heap[b]? = W.heap[b]? := by
  obtain ⟨_, _, _, hk, _⟩ := d
  exact hk.block b hb hn
theorem DoesTo.below {W1 W2 : World} {L' : List Int} {A' : Option Addr} (d : DoesTo W W1 base p mn mj sv most L' A A') (hb : Below W1.heap.size W1 W2) : DoesTo W W2 base p mn mj sv most L' A A' := by
  obtain ⟨sv', J', hp, hk, hs, ha⟩ := d
  exact ⟨sv', J', hp.below hb, hk.trans (.of_below _ hb), hs, ha⟩
theorem DoesTo.fresh {V W4 W5 : World} {B9 : Nat} {L' : List Int} {A' : Option Addr} (h : Pr W base p mn mj sv most L J A) (hb : Below W.heap.size W V) (d : DoesTo V W4 base p mn mj sv most L' A A') (h9 : W.heap.size ≤ B9) (h9' : B9 < V.heap.size) (k : KeptBut (fun k => k = B9) W4 W5) : DoesTo W W5 base p mn mj sv most L' A A' := by
  obtain ⟨sv', J', hp, hk, hs, ha⟩ := d
  have hsz := hb.size
  have nb : ∀ q, TabS p mn mj sv' q → ¬ q = B9 := fun q hq e => by
    rcases hs q hq with h' | h'
    · have := h.t.blk q h'; omega
    · omega
  have na : ∀ g off, A' = some ⟨g, off, none⟩ → ¬ g = B9 := fun g off e => by
    rcases ha with ha | ha
    · have := h.lt g off (ha ▸ e); omega
    · have := ha g off e; omega
  refine ⟨sv', J', ⟨hp.t.kept k nb, hp.ok, hp.r.kept k na, hp.ap⟩, ?_, fun q hq => ?_, ?_⟩
  · exact (((KeptBut.of_below (fun k => TabS p mn mj sv k ∨ W.heap.size ≤ k) hb).trans (hk.mono fun k _ h => .inl h)).trans (k.mono fun k _ h => .inr (by omega))).mono fun k hk h => by
      rcases h with h | h
      · exact h
      · omega
  · rcases hs q hq with h' | h'
    · exact .inl h'
    · exact .inr (by omega)
  · rcases ha with ha | ha
    · exact .inl ha
    · exact .inr fun g off e => by have := ha g off e; omega
theorem six_two {W : World} {B b0 b1 b2 b3 b4 b5 j0 j1 j2 j3 j4 j5 : Nat} {v0 v1 v2 v3 v4 v5 : Value} (n0 : b0 ≠ B) (n2 : b2 ≠ B) (e1 : b1 = b0) (e3 : b3 = b2) (e4 : b4 = b2) (e5 : b5 = b2) (u v : Value) (h : W.cell? ⟨b0, j0, none⟩ = some v0 ∧ W.cell? ⟨b1, j1, none⟩ = some v1 ∧ W.cell? ⟨b2, j2, none⟩ = some v2 ∧ W.cell? ⟨b3, j3, none⟩ = some v3 ∧ W.cell? ⟨b4, j4, none⟩ = some v4 ∧ W.cell? ⟨b5, j5, none⟩ = some v5) :
    ((W.setCell ⟨B, 0, none⟩ u).setCell ⟨B, 1, none⟩ v).cell? ⟨b0, j0, none⟩ = some v0 ∧ ((W.setCell ⟨B, 0, none⟩ u).setCell ⟨B, 1, none⟩ v).cell? ⟨b1, j1, none⟩ = some v1 ∧ ((W.setCell ⟨B, 0, none⟩ u).setCell ⟨B, 1, none⟩ v).cell? ⟨b2, j2, none⟩ = some v2 ∧ ((W.setCell ⟨B, 0, none⟩ u).setCell ⟨B, 1, none⟩ v).cell? ⟨b3, j3, none⟩ = some v3 ∧ ((W.setCell ⟨B, 0, none⟩ u).setCell ⟨B, 1, none⟩ v).cell? ⟨b4, j4, none⟩ = some v4 ∧ ((W.setCell ⟨B, 0, none⟩ u).setCell ⟨B, 1, none⟩ v).cell? ⟨b5, j5, none⟩ = some v5 := by
  subst e1 e3 e4 e5
  have k : ∀ b, b ≠ B → ((W.setCell ⟨B, 0, none⟩ u).setCell ⟨B, 1, none⟩ v).heap[b]? = W.heap[b]? := fun b hb => (Below.heap_setCell _ _ _ _ hb).trans (Below.heap_setCell _ _ _ _ hb)
  exact ⟨(World.cell?_of_block (k _ n0)).trans h.1, (World.cell?_of_block (k _ n0)).trans h.2.1, (World.cell?_of_block (k _ n2)).trans h.2.2.1, (World.cell?_of_block (k _ n2)).trans h.2.2.2.1, (World.cell?_of_block (k _ n2)).trans h.2.2.2.2.1, (World.cell?_of_block (k _ n2)).trans h.2.2.2.2.2⟩
theorem cell_al {W : World} {b j : Nat} {v : Value} (o : Obj) (h : W.cell? ⟨b, j, none⟩ = some v) : (W.alloc o).cell? ⟨b, j, none⟩ = some v := by
  refine (World.cell?_of_block (Below.heap_alloc W o b ?_)).trans h
  unfold World.cell? at h
  cases ho : W.heap[b]? with
  | none => simp [ho] at h
  | some o => exact (Array.getElem?_eq_some_iff.1 ho).1
theorem six_alloc {W : World} {o : Obj} {b0 b1 b2 b3 b4 b5 j0 j1 j2 j3 j4 j5 : Nat} {v0 v1 v2 v3 v4 v5 : Value} (h : W.cell? ⟨b0, j0, none⟩ = some v0 ∧ W.cell? ⟨b1, j1, none⟩ = some v1 ∧ W.cell? ⟨b2, j2, none⟩ = some v2 ∧ W.cell? ⟨b3, j3, none⟩ = some v3 ∧ W.cell? ⟨b4, j4, none⟩ = some v4 ∧ W.cell? ⟨b5, j5, none⟩ = some v5) :
    (W.alloc o).cell? ⟨b0, j0, none⟩ = some v0 ∧ (W.alloc o).cell? ⟨b1, j1, none⟩ = some v1 ∧ (W.alloc o).cell? ⟨b2, j2, none⟩ = some v2 ∧ (W.alloc o).cell? ⟨b3, j3, none⟩ = some v3 ∧ (W.alloc o).cell? ⟨b4, j4, none⟩ = some v4 ∧ (W.alloc o).cell? ⟨b5, j5, none⟩ = some v5 :=
  ⟨cell_al o h.1, cell_al o h.2.1, cell_al o h.2.2.1, cell_al o h.2.2.2.1, cell_al o h.2.2.2.2.1, cell_al o h.2.2.2.2.2⟩
theorem does_size {W1 : World} {L' : List Int} {A' : Option Addr} (d : DoesTo W W1 base p mn mj sv most L' A A') : W.heap.size ≤ W1.heap.size := by
  obtain ⟨_, _, _, hk, _⟩ := d
  exact hk.size
set_option maxRecDepth 100000 in
set_option maxHeartbeats 8000000 in
theorem cPlay_in {most : Int} {A0 : Option Addr} {l : List St4} {c : Nat} (m1 : 1 ≤ most) (m2 : most ≤ 65536) (h60 : l.length ≤ 60) (hr : RdS w w.heap.size A0 l) (hwf : ∀ s ∈ l, okS s) :
    Calls Tryd.prog 6 #[.int .i64 most, .slice A0 l.length c] w fun e w' => e = .returned (.bool true) ∧ Below w.heap.size w w' := by
  go_enter Tryd.func6, Tryd.ntmps6
  go_wp2_with fail
  refine (cNew (n := most) m1 m2 w).mono ?_
  rintro e W1 ⟨p, mn, mj, sv, rfl, t1, b1⟩
  have T1 := Lib.hid t1
  have B1 := Lib.hid b1
  clear t1 b1
  go_wp2_with fail
  refine (rNew W1).mono ?_
  rintro e W2 ⟨A, cap, rfl, an⟩
  unfold rtV
  obtain ⟨kc, kb, ks⟩ := cells1 W2 #[.int .i64 most, .slice A 1 cap] 51
  have hlt : ∀ g off, A = some ⟨g, off, none⟩ → W1.heap.size ≤ g ∧ g < W2.heap.size := fun g off e => by
    obtain ⟨g', off', e', hg⟩ := an.1.some_ (by decide)
    rw [e] at e'; simp at e'
    refine ⟨?_, by omega⟩
    rcases an.2.1 with h | h
    · rw [h] at e; cases e
    · exact h g off e
  have hPV : PV w (W2.alloc (.cells #[.int .i64 most, .slice A 1 cap] 51)) p mn mj sv most [0] [] A cap W2.heap.size := by
    have hb := an.2.2.trans (kb.mono an.2.2.size)
    have hsz := B1.out.size
    have hsz2 := an.2.2.size
    refine ⟨⟨T1.out.below hb, TOk.first m1 m2, (an.1.below kb (Nat.le_refl _)).up kb.size, fun g off e q => ?_⟩, kc, fun q => ?_, fun g off e => ?_, B1.out.trans (hb.mono hsz), by omega⟩
    · have := T1.out.blk _ q; have := hlt g off e; omega
    · have := T1.out.blk _ q; omega
    · have := hlt g off e; omega
  have HPV := Lib.hid hPV
  have g0 := (kc.cell 0).trans (show _ = some (Value.int .i64 most) from rfl)
  have g1 := (kc.cell 1).trans (show _ = some (Value.slice A 1 cap) from rfl)
  clear an kb ks kc hlt hPV T1 B1
  have hS := cSameG HPV.out.pr.t HPV.out.pr.ok.pos (by decide) HPV.out.pr.r (mo := most) (cap := cap)
  unfold rtV at hS
  simp only [List.length_cons, List.length_nil, Nat.zero_add] at hS
  go_wp2_with fail
  refine hS.mono ?_
  clear hS
  rintro e W3 ⟨rfl, hb3⟩
  have P3 := Lib.hid (HPV.out.below hb3)
  clear g0 g1 hb3 HPV
  generalize W2.heap.size = B at *
  go_wp2_with fail
  go_loopw [8] (fun i wr => ∃ k : Nat, k ≤ l.length ∧ i = .int .i64 k ∧ ∃ mn mj sv L J A cap, PV w wr p mn mj sv most L J A cap B) (fun i _ => l.length - (intOf i).toNat)
  case atStart => exact ⟨0, Nat.zero_le _, rfl, _, _, _, _, _, _, _, P3.out⟩
  case round =>
    clear P3
    obtain ⟨k, hk, rfl, mn, mj, sv, L, J, A, cap, hpv⟩ := hrel
    by_cases hlt : k < l.length
    · obtain ⟨⟨kd, a, b, x⟩, hx⟩ : ∃ x, l[k]? = some x := ⟨_, List.getElem?_eq_getElem hlt⟩
      have hxx := (hwf _ (List.mem_of_getElem? hx)).1
      obtain ⟨g, off, rfl, hg⟩ := hr.some_ (by omega)
      obtain ⟨x0, x1, x2, x3⟩ := (hr.below hpv.low (Nat.le_refl _)).cell g off rfl k kd a b x hx
      have P1 := hpv.below (Below.refl _ _).drew
      have S1 : wr.drew.cell? ⟨B, 0, none⟩ = some (.int .i64 most) ∧ wr.drew.cell? ⟨B, 1, none⟩ = some (.slice A L.length cap) ∧ wr.drew.cell? ⟨g, off + k * 4, none⟩ = some (.int .i64 kd) ∧ wr.drew.cell? ⟨g, off + k * 4 + 1, none⟩ = some (.int .i64 a) ∧ wr.drew.cell? ⟨g, off + k * 4 + 2, none⟩ = some (.int .i64 b) ∧ wr.drew.cell? ⟨g, off + k * 4 + 3, none⟩ = some (.int .u32 x) := ⟨hpv.var.cell 0, hpv.var.cell 1, x0, x1, x2, x3⟩
      have P2 := P1.below ((Below.refl _ wr.drew).alloc (Nat.le_refl _) (.cells #[.int .i64 0, .slice none 0 0] 51))
      have S2 := six_alloc (o := .cells #[.int .i64 0, .slice none 0 0] 51) S1
      have hD := cDoes (cap := cap) (k := kd) (a := a) (b := b) P1.pr hxx
      have hD2 := cDoes (cap := cap) (k := kd) (a := a) (b := b) P2.pr hxx
      obtain ⟨L', hL'⟩ : ∃ L', stepR most L kd a b x = L' := ⟨_, rfl⟩
      rw [hL'] at hD hD2
      unfold rtV stepA at hD hD2
      have HD := Lib.hid hD
      have HD2 := Lib.hid (show Calls Tryd.prog 25 _ (wr.alloc (.cells #[.int .i64 0, .slice none 0 0] 51)).drew _ from hD2)
      have HP := Lib.hid P1
      have HP2 := Lib.hid P2
      have HG := Lib.hid (show ¬ TabS p mn mj sv g from fun q => by have := P1.pr.t.own g q; omega)
      have hgl : g < wr.heap.size := by have := hpv.low.size; omega
      have HN9 := Lib.hid (show ¬ TabS p mn mj sv wr.heap.size from fun q => by have := hpv.pr.t.blk _ q; omega)
      have hBl : B < wr.heap.size := hpv.var.lt
      have HC9 := Lib.hid (show Cells (wr.alloc (.cells #[.int .i64 0, .slice none 0 0] 51)).drew wr.heap.size 51 #[.int .i64 0, .slice none 0 0] from Cells.new wr _ _)
      have S2 : (wr.alloc (.cells #[.int .i64 0, .slice none 0 0] 51)).drew.cell? ⟨B, 0, none⟩ = some (.int .i64 most) ∧ (wr.alloc (.cells #[.int .i64 0, .slice none 0 0] 51)).drew.cell? ⟨B, 1, none⟩ = some (.slice A L.length cap) ∧ (wr.alloc (.cells #[.int .i64 0, .slice none 0 0] 51)).drew.cell? ⟨g, off + k * 4, none⟩ = some (.int .i64 kd) ∧ (wr.alloc (.cells #[.int .i64 0, .slice none 0 0] 51)).drew.cell? ⟨g, off + k * 4 + 1, none⟩ = some (.int .i64 a) ∧ (wr.alloc (.cells #[.int .i64 0, .slice none 0 0] 51)).drew.cell? ⟨g, off + k * 4 + 2, none⟩ = some (.int .i64 b) ∧ (wr.alloc (.cells #[.int .i64 0, .slice none 0 0] 51)).drew.cell? ⟨g, off + k * 4 + 3, none⟩ = some (.int .u32 x) := S2
      clear hD hD2 hL' hx P1 P2 hxx x0 x1 x2 x3
      go_wp2_with fail
      go_region_held3 (fun W' => W'.cell? ⟨B, 0, none⟩ = some (.int .i64 most) ∧ W'.cell? ⟨B, 1, none⟩ = some (.slice A L.length cap) ∧ W'.cell? ⟨g, off + k * 4, none⟩ = some (.int .i64 kd) ∧ W'.cell? ⟨g, off + k * 4 + 1, none⟩ = some (.int .i64 a) ∧ W'.cell? ⟨g, off + k * 4 + 2, none⟩ = some (.int .i64 b) ∧ W'.cell? ⟨g, off + k * 4 + 3, none⟩ = some (.int .u32 x))
        (first | exact S1 | exact S2 | exact S4 | exact S5.out _ | exact S6.out _ _)
        (first
          | ((with_reducible refine (HD.out).mono ?_); rintro e W4 ⟨A', cap', rfl, d⟩; have hB4 := does_block d HP.out.var.lt HP.out.nb; have hg4 := does_block d hgl HG.out; have S4 : W4.cell? ⟨B, 0, none⟩ = some (.int .i64 most) ∧ W4.cell? ⟨B, 1, none⟩ = some (.slice A L.length cap) ∧ W4.cell? ⟨g, off + k * 4, none⟩ = some (.int .i64 kd) ∧ W4.cell? ⟨g, off + k * 4 + 1, none⟩ = some (.int .i64 a) ∧ W4.cell? ⟨g, off + k * 4 + 2, none⟩ = some (.int .i64 b) ∧ W4.cell? ⟨g, off + k * 4 + 3, none⟩ = some (.int .u32 x) := ⟨(World.cell?_of_block hB4).trans S1.1, (World.cell?_of_block hB4).trans S1.2.1, (World.cell?_of_block hg4).trans S1.2.2.1, (World.cell?_of_block hg4).trans S1.2.2.2.1, (World.cell?_of_block hg4).trans S1.2.2.2.2.1, (World.cell?_of_block hg4).trans S1.2.2.2.2.2⟩; have HDD := Lib.hid d; have S5 := Lib.hid (fun o => six_alloc (o := o) S4); have HC := Lib.hid (Cells.new W4 51 #[.int .i64 most, .slice A' L'.length cap']); have HDT := Lib.hid (HDD.out.below ((Below.refl _ W4).alloc (Nat.le_refl _) (.cells #[.int .i64 most, .slice A' L'.length cap'] 51))); clear hB4 hg4 d)
          | ((with_reducible refine (HD2.out).mono ?_); rintro e W4 ⟨A', cap', rfl, d⟩; have hB4 := does_block d HP2.out.var.lt HP2.out.nb; have hg4 := does_block d (by simp; omega) HG.out; have S4 : W4.cell? ⟨B, 0, none⟩ = some (.int .i64 most) ∧ W4.cell? ⟨B, 1, none⟩ = some (.slice A L.length cap) ∧ W4.cell? ⟨g, off + k * 4, none⟩ = some (.int .i64 kd) ∧ W4.cell? ⟨g, off + k * 4 + 1, none⟩ = some (.int .i64 a) ∧ W4.cell? ⟨g, off + k * 4 + 2, none⟩ = some (.int .i64 b) ∧ W4.cell? ⟨g, off + k * 4 + 3, none⟩ = some (.int .u32 x) := ⟨(World.cell?_of_block hB4).trans S2.1, (World.cell?_of_block hB4).trans S2.2.1, (World.cell?_of_block hg4).trans S2.2.2.1, (World.cell?_of_block hg4).trans S2.2.2.2.1, (World.cell?_of_block hg4).trans S2.2.2.2.2.1, (World.cell?_of_block hg4).trans S2.2.2.2.2.2⟩; have c9 : Cells W4 wr.heap.size _ _ := (does_block d HC9.out.lt HN9.out).trans HC9.out; have d0 := (c9.cell 0).trans (show _ = some (Value.int .i64 0) from rfl); have d1 := (c9.cell 1).trans (show _ = some (Value.slice none 0 0) from rfl); have f0 := c9.frozen 0; have f1 := c9.frozen 1; have S6 := Lib.hid (fun u v => six_two (B := wr.heap.size) (by omega) (by omega) rfl rfl rfl rfl u v S4); have HC := Lib.hid (two_set (c := .int .i64 most) (d := .slice A' L'.length cap') c9); have HDT := Lib.hid (DoesTo.fresh HP.out.pr ((Below.refl _ wr.drew).alloc (Nat.le_refl _) (.cells #[.int .i64 0, .slice none 0 0] 51)) d (Nat.le_refl _) (by simp) (k4_end0 (B := wr.heap.size) (.int .i64 most) (.slice A' L'.length cap'))); clear hB4 hg4 d c9))
      · clear S4 S5 HD HD2 HP2 HC9 S2 HN9
        generalize W4.alloc _ = W5 at *
        generalize W4.heap.size = B9 at *
        have hB5 : W5.heap[B]? = wr.drew.heap[B]? := does_block HDT.out HP.out.var.lt HP.out.nb
        have HB5 := Lib.hid ((show Cells W5 B _ _ from hB5.trans HP.out.var))
        obtain ⟨sv', J', hp', _, _, _⟩ := HDT.out
        have hS := cSameG hp'.t hp'.ok.pos (by have := hp'.ok.len; have := hp'.ok.bnd; omega) hp'.r (mo := most) (cap := cap')
        unfold rtV at hS
        have c90 := (HC.out.cell 0).trans (show _ = some (Value.int .i64 most) from rfl)
        have c91 := (HC.out.cell 1).trans (show _ = some (Value.slice A' L'.length cap') from rfl)
        have HSS := Lib.hid hS
        clear hS hp' hB5
        go_wp2_with fail
        refine HSS.out.mono ?_
        rintro e W6 ⟨rfl, hb6⟩
        have l9 := HC.out.below hb6 HC.out.lt
        have lB := HB5.out.below hb6 HB5.out.lt
        have c90 := (l9.cell 0).trans (show _ = some (Value.int .i64 most) from rfl)
        have c91 := (l9.cell 1).trans (show _ = some (Value.slice A' L'.length cap') from rfl)
        have b0 := (lB.cell 0).trans (show _ = some (Value.int .i64 most) from rfl)
        have b1 := (lB.cell 1).trans (show _ = some (Value.slice A L.length cap) from rfl)
        have f0 := lB.frozen 0
        have f1 := lB.frozen 1
        have HFIN := Lib.hid (PV.step HP.out (HDT.out.below hb6) (k4_end0 (B := B) (.int .i64 most) (.slice A' L'.length cap')) (two_set lB))
        clear HDT hb6 l9 lB HC HB5 HSS
        go_wp2
        obtain ⟨sv2, J2, hpv2⟩ := HFIN.out
        go_roundw
        case rel => exact ⟨k + 1, by omega, by go_num, mn, mj, sv2, L', J2, A', cap', hpv2⟩
        case measure => simp [intOf]; omega
      · clear S4 S6 d0 d1 f0 f1 HD HD2 HP2 HC9 S2 HN9
        generalize World.setCell _ _ _ = W5 at *
        generalize wr.heap.size = B9 at *
        have hB5 : W5.heap[B]? = wr.drew.heap[B]? := does_block HDT.out HP.out.var.lt HP.out.nb
        have HB5 := Lib.hid ((show Cells W5 B _ _ from hB5.trans HP.out.var))
        obtain ⟨sv', J', hp', _, _, _⟩ := HDT.out
        have hS := cSameG hp'.t hp'.ok.pos (by have := hp'.ok.len; have := hp'.ok.bnd; omega) hp'.r (mo := most) (cap := cap')
        unfold rtV at hS
        have c90 := (HC.out.cell 0).trans (show _ = some (Value.int .i64 most) from rfl)
        have c91 := (HC.out.cell 1).trans (show _ = some (Value.slice A' L'.length cap') from rfl)
        have HSS := Lib.hid hS
        clear hS hp' hB5
        go_wp2_with fail
        refine HSS.out.mono ?_
        rintro e W6 ⟨rfl, hb6⟩
        have l9 := HC.out.below hb6 HC.out.lt
        have lB := HB5.out.below hb6 HB5.out.lt
        have c90 := (l9.cell 0).trans (show _ = some (Value.int .i64 most) from rfl)
        have c91 := (l9.cell 1).trans (show _ = some (Value.slice A' L'.length cap') from rfl)
        have b0 := (lB.cell 0).trans (show _ = some (Value.int .i64 most) from rfl)
        have b1 := (lB.cell 1).trans (show _ = some (Value.slice A L.length cap) from rfl)
        have f0 := lB.frozen 0
        have f1 := lB.frozen 1
        have HFIN := Lib.hid (PV.step HP.out (HDT.out.below hb6) (k4_end0 (B := B) (.int .i64 most) (.slice A' L'.length cap')) (two_set lB))
        clear HDT hb6 l9 lB HC HB5 HSS
        go_wp2
        obtain ⟨sv2, J2, hpv2⟩ := HFIN.out
        go_roundw
        case rel => exact ⟨k + 1, by omega, by go_num, mn, mj, sv2, L', J2, A', cap', hpv2⟩
        case measure => simp [intOf]; omega
    · obtain rfl : k = l.length := by omega
      go_wp2_with fail
      refine (cKnown _).mono ?_
      rintro e W5 ⟨rfl, hb5⟩
      have HF := Lib.hid (hpv.low.trans (hb5.mono hpv.low.size))
      clear hb5
      go_wp2
      go_ret
      exact ⟨rfl, HF.out⟩
theorem cLabelsPlay {most : Int} {A0 : Option Addr} {l : List St4} {c : Nat} (hr : RdS w w.heap.size A0 l) (hwf : ∀ s ∈ l, okS s) (hcap : c ≤ maxLen) (hlc : l.length ≤ c) :
    Calls Tryd.prog 6 #[.int .i64 most, .slice A0 l.length c] w fun e w' => e = .returned (.bool true) ∧ Below w.heap.size w w' := by
  by_cases h60 : l.length ≤ 60
  · by_cases hm : 1 ≤ most ∧ most ≤ 65536
    · exact cPlay_in hm.1 hm.2 h60 hr hwf
    · have hN := cNew_bad hm w
      have hc : most < 1 ∨ (1 ≤ most ∧ 65536 < most) := by omega
      clear hm
      rcases hc with h1 | ⟨h1, h2⟩
      all_goals
        go_enter Tryd.func6, Tryd.ntmps6
        go_wp2_with fail
        refine hN.mono ?_
        rintro e w' ⟨rfl, rfl⟩
        go_wp2_with fail
        refine (cKnown _).mono ?_
        rintro e W1 ⟨rfl, hb1⟩
        go_wp2
        go_ret
        exact ⟨rfl, hb1⟩
  · have h60' : 60 < (l.length : Int) := by omega
    simp only [maxLen] at hcap
    go_enter Tryd.func6, Tryd.ntmps6
    go_wp2_with fail
    refine (cKnown _).mono ?_
    rintro e W1 ⟨rfl, hb1⟩
    go_wp2
    go_ret
    exact ⟨rfl, hb1⟩
end
end Go.Proofs.YtbleilbphadehaaDoor
