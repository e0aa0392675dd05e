/- A table copied, two compared: contracts. -/
import Derived.Test.YtbleilbphadehaaDoorNb
import Derived.Deep.RegionHeld3
namespace Go.Proofs.YtbleilbphadehaaDoor
open Go.RowKit Go.Shelf

theorem own_below {w w' : World} {base : Nat} {e : TypeId} {size n : Nat} {v : Value} {xs : List Value} (h : w.ownsRow base e size v n xs) (hb : Below w.heap.size w w') : w'.ownsRow base e size v n xs :=
  h.kept (row := none) ⟨hb.os, hb.tape, hb.output, hb.size, fun k hk _ => hb.block k hk⟩ (by cases v.ownBlock <;> simp)
theorem own_base {w : World} {base base' : Nat} {e : TypeId} {size n : Nat} {v : Value} {xs : List Value} (h : w.ownsRow base e size v n xs) (hb : base' ≤ base) : w.ownsRow base' e size v n xs := by
  refine ⟨h.1, ?_⟩
  rcases h.2 with h | ⟨g, cap, cur, h1, h2, h3⟩
  · exact .inl h
  · exact .inr ⟨g, cap, cur, h1, by omega, h3⟩
/-- A table while it is copied: what has been copied so far. -/
structure Cp (W0 : World) (base p mn mj : Nat) (sv : Value) (most : Int) (L : List Int) (J : List ((Int × Int) × Int)) (W : World) (r : Option Value) (n j : Option Nat) : Prop where
  t : TAt W base p mn mj sv most L J
  low : Below W0.heap.size W0 W
  fr : ∀ v, r = some v → W.ownsRow W0.heap.size 28 1 v L.length (L.map (Value.int .u32))
  fn : ∀ b, n = some b → MapAt .u32 W b (numL L 0) ∧ W0.heap.size ≤ b
  fj : ∀ b, j = some b → JAt W b J ∧ W0.heap.size ≤ b
  ne : ∀ b c, n = some b → j = some c → b ≠ c
section
variable {W0 W : World} {base p mn mj : Nat} {sv : Value} {most : Int} {L : List Int} {J : List ((Int × Int) × Int)} {r : Option Value} {n j : Option Nat}
theorem Cp.keep {W' : World} (h : Cp W0 base p mn mj sv most L J W r n j) (hb : Below W.heap.size W W') : Cp W0 base p mn mj sv most L J W' r n j :=
  ⟨h.t.below hb, h.low.trans (hb.mono h.low.size), fun v hv => own_below (h.fr v hv) hb, fun b e => ⟨(h.fn b e).1.of_block (hb.block b (h.fn b e).1.lt), (h.fn b e).2⟩, fun b e => ⟨(h.fj b e).1.of_block (hb.block b (h.fj b e).1.lt), (h.fj b e).2⟩, h.ne⟩
theorem Cp.cells (h : Cp W0 base p mn mj sv most L J W r n j) : W.cell? ⟨p, 0, none⟩ = some (.int .i64 most) ∧ W.cell? ⟨p, 1, none⟩ = some sv ∧ W.cell? ⟨p, 2, none⟩ = some (.map (some mn)) ∧ W.cell? ⟨p, 3, none⟩ = some (.map (some mj)) :=
  ⟨h.t.c.cell 0, h.t.c.cell 1, h.t.c.cell 2, h.t.c.cell 3⟩
theorem Cp.clone (h : Cp W0 base p mn mj sv most L J W r n j) (hp : 0 < L.length) (hL : L.length ≤ 65536) : Calls Tryd.prog 33 #[sv] W fun e w' => ∃ g cap, e = .returned (.slice (some ⟨g, 0, none⟩) L.length cap) ∧ Cp W0 base p mn mj sv most L J w' (some (.slice (some ⟨g, 0, none⟩) L.length cap)) n j := by
  obtain ⟨g, cap, rfl, hcap, hr⟩ := Rd.of_row h.t.s hp
  refine (cClone hr hp hL).mono ?_
  rintro e w' ⟨g', cap', rfl, hown, hb⟩
  have k := h.keep hb
  exact ⟨g', cap', rfl, k.t, k.low, fun v hv => by cases hv; exact own_base hown h.low.size, k.fn, k.fj, k.ne⟩
theorem Cp.cloneN (h : Cp W0 base p mn mj sv most L J W r none j) : Calls Tryd.prog 37 #[.map (some mn)] W fun e w' => ∃ b, e = .returned (.map (some b)) ∧ Cp W0 base p mn mj sv most L J w' r (some b) j := by
  refine (cCloneN h.t.n).mono ?_
  rintro e w' ⟨rfl, hm, es, c, rfl⟩
  have k := h.keep ((Below.refl _ W).alloc (Nat.le_refl _) (.map es c))
  exact ⟨_, rfl, k.t, k.low, k.fr, fun b e => by cases e; exact ⟨hm, h.low.size⟩, k.fj, fun b c e1 e2 => by cases e1; have := (h.fj c e2).1.lt; omega⟩
theorem Cp.cloneJ (h : Cp W0 base p mn mj sv most L J W r n none) : Calls Tryd.prog 38 #[.map (some mj)] W fun e w' => ∃ b, e = .returned (.map (some b)) ∧ Cp W0 base p mn mj sv most L J w' r n (some b) := by
  refine (cCloneJ h.t.j).mono ?_
  rintro e w' ⟨rfl, hm, es, c, rfl⟩
  have k := h.keep ((Below.refl _ W).alloc (Nat.le_refl _) (.map es c))
  exact ⟨_, rfl, k.t, k.low, k.fr, k.fn, fun b e => by cases e; exact ⟨hm, h.low.size⟩, fun b c e1 e2 => by cases e2; have := (h.fn b e1).1.lt; omega⟩
theorem Cp.done {v : Value} {b c : Nat} (h : Cp W0 base p mn mj sv most L J W (some v) (some b) (some c)) : TAt (W.alloc (.cells #[.int .i64 most, v, .map (some b), .map (some c)] 63)) W0.heap.size W.heap.size b c v most L J ∧ Below W0.heap.size W0 (W.alloc (.cells #[.int .i64 most, v, .map (some b), .map (some c)] 63)) ∧ TAt (W.alloc (.cells #[.int .i64 most, v, .map (some b), .map (some c)] 63)) base p mn mj sv most L J := by
  have hb := (Below.refl _ W).alloc (Nat.le_refl _) (.cells #[.int .i64 most, v, .map (some b), .map (some c)] 63)
  have k := h.keep hb
  exact ⟨⟨Cells.new W _ _, k.fr v rfl, (k.fn b rfl).1, (k.fj c rfl).1, h.low.size, (k.fn b rfl).2, (k.fj c rfl).2, k.ne b c rfl rfl⟩, k.low, k.t⟩
set_option maxRecDepth 100000 in
set_option maxHeartbeats 2000000 in
theorem cCopy (h : TAt W base p mn mj sv most L J) (hp : 0 < L.length) (hL : L.length ≤ 65536) : Calls Tryd.prog 26 #[.pointer (some ⟨p, 0, none⟩)] W fun e w' => ∃ p' mn' mj' sv', e = .returned (.pointer (some ⟨p', 0, none⟩)) ∧ TAt w' W.heap.size p' mn' mj' sv' most L J ∧ Below W.heap.size W w' ∧ TAt w' base p mn mj sv most L J := by
  have C0 : Cp W base p mn mj sv most L J W none none none := ⟨h, Below.refl _ _, fun _ e => (by cases e), fun _ e => (by cases e), fun _ e => (by cases e), fun _ _ e => (by cases e)⟩
  have C1 := C0.keep (Below.refl _ W).drew
  have S1 := C1.cells
  clear C0
  go_enter Tryd.func26, Tryd.ntmps26
  go_wp2_with fail
  refine (cNone h hp).mono ?_
  rintro e w' ⟨rfl, rfl⟩
  go_wp2_with fail
  go_region_held3 (fun W => W.cell? ⟨p, 0, none⟩ = some (.int .i64 most) ∧ W.cell? ⟨p, 1, none⟩ = some sv ∧ W.cell? ⟨p, 2, none⟩ = some (.map (some mn)) ∧ W.cell? ⟨p, 3, none⟩ = some (.map (some mj)))
    (first | exact Cp.cells (by assumption) | exact Cp.cells (Cp.keep (by assumption) ((Below.refl _ _).alloc (Nat.le_refl _) _)))
    (first
      | ((with_reducible refine (Cp.clone (by assumption) hp hL).mono ?_); rintro e W2 ⟨g', cap', rfl, C2⟩)
      | ((with_reducible refine (Cp.cloneN (by assumption)).mono ?_); rintro e W3 ⟨b', rfl, C3⟩)
      | ((with_reducible refine (Cp.cloneJ (by assumption)).mono ?_); rintro e W4 ⟨c', rfl, C4⟩))
  all_goals
    go_wp2
    go_ret
    obtain ⟨d1, d2, d3⟩ := Cp.done (by assumption)
    exact ⟨_, _, _, _, rfl, d1, d2, d3⟩
end
end Go.Proofs.YtbleilbphadehaaDoor
