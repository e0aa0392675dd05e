/- Two tables apart, and the document's variables: what a call keeps. -/
import Derived.Test.YtbleilbphadehaaDoorNta
namespace Go.Proofs.YtbleilbphadehaaDoor
open Go.RowKit Go.Shelf

theorem TAt.low {W : World} {base base' p mn mj : Nat} {sv : Value} {most : Int} {L : List Int} {J : List ((Int × Int) × Int)} (h : TAt W base' p mn mj sv most L J) (hb : base ≤ base') : TAt W base p mn mj sv most L J :=
  ⟨h.c, own_base h.s hb, h.n, h.j, by have := h.hp; omega, by have := h.hn; omega, by have := h.hj; omega, h.hne⟩
/-- One table moves, with the variable B; the other stays. -/
structure C1 (w W : World) (p mn mj : Nat) (sv : Value) (L : List Int) (J : List ((Int × Int) × Int)) (p2 mn2 mj2 : Nat) (sv2 : Value) (L2 : List Int) (J2 : List ((Int × Int) × Int)) (most : Int) (A : Option Addr) (cap B : Nat) : Prop where
  a : PV w W p mn mj sv most L J A cap B
  o : TAt W w.heap.size p2 mn2 mj2 sv2 most L2 J2
  ok2 : TOk most L2 J2
  ap : ∀ k, TabS p2 mn2 mj2 sv2 k → ¬ TabS p mn mj sv k
  a2 : ∀ g off, A = some ⟨g, off, none⟩ → ¬ TabS p2 mn2 mj2 sv2 g
  b2 : ¬ TabS p2 mn2 mj2 sv2 B
section
variable {w W W1 W2 : World} {p mn mj : Nat} {sv : Value} {L L' : List Int} {J : List ((Int × Int) × Int)} {p2 mn2 mj2 : Nat} {sv2 : Value} {L2 L2' : List Int} {J2 : List ((Int × Int) × Int)} {most : Int} {A A' : Option Addr} {cap cap' B : Nat}
theorem C1.below (h : C1 w W p mn mj sv L J p2 mn2 mj2 sv2 L2 J2 most A cap B) (hb : Below W.heap.size W W1) : C1 w W1 p mn mj sv L J p2 mn2 mj2 sv2 L2 J2 most A cap B :=
  ⟨h.a.below hb, h.o.below hb, h.ok2, h.ap, h.a2, h.b2⟩
theorem C1.step1 (h : C1 w W p mn mj sv L J p2 mn2 mj2 sv2 L2 J2 most A cap B) (d : DoesTo W W1 w.heap.size p mn mj sv most L' A A') (k : KeptBut (fun k => k = B) W1 W2) (c : Cells W2 B 51 #[.int .i64 most, .slice A' L'.length cap']) :
    ∃ sv' J', C1 w W2 p mn mj sv' L' J' p2 mn2 mj2 sv2 L2 J2 most A' cap' B ∧ ∀ q, TabS p mn mj sv' q → TabS p mn mj sv q ∨ W.heap.size ≤ q := by
  obtain ⟨sv', J', hp, hk, hs, ha⟩ := d
  have hlt := h.a.var.lt
  have hblk := h.o.blk
  have nb : ¬ TabS p mn mj sv' B := fun q => by
    rcases hs B q with q | q
    · exact h.a.nb q
    · omega
  have na : ∀ g off, A' = some ⟨g, off, none⟩ → g ≠ B := fun g off e => by
    rcases ha with ha | ha
    · exact h.a.na g off (ha ▸ e)
    · have := ha g off e; omega
  refine ⟨sv', J', ⟨⟨⟨hp.t.kept k fun q hq e => nb (e ▸ hq), hp.ok, hp.r.kept k fun g off e q => na g off e q, hp.ap⟩, c, nb, na, ?_, h.a.hB⟩, (h.o.kept hk h.ap).kept k fun q hq e => h.b2 (e ▸ hq), h.ok2, fun q hq h' => ?_, fun g off e h' => ?_, h.b2⟩, hs⟩
  · exact h.a.low.trans ((hk.below h.a.pr.t.own h.a.low.size).trans (k.below (fun q e => by have := h.a.hB; omega) (by have := hk.size; have := h.a.low.size; omega)))
  · rcases hs q h' with h' | h'
    · exact h.ap q hq h'
    · have := hblk q hq; omega
  · rcases ha with ha | ha
    · exact h.a2 g off (ha ▸ e) h'
    · have := ha g off e; have := hblk g h'; omega
theorem C1.step2 {A2 : Option Addr} (h : C1 w W p mn mj sv L J p2 mn2 mj2 sv2 L2 J2 most A cap B) (d : DoesTo W W1 w.heap.size p2 mn2 mj2 sv2 most L2' A A2) :
    ∃ sv2' J2', C1 w W1 p mn mj sv L J p2 mn2 mj2 sv2' L2' J2' most A cap B := by
  obtain ⟨sv', J', hp, hk, hs, _⟩ := d
  have hlt := h.a.var.lt
  have hblk := h.a.pr.t.blk
  have hAlt := h.a.pr.lt
  refine ⟨sv', J', ⟨⟨⟨h.a.pr.t.kept hk fun q hq h' => h.ap q h' hq, h.a.pr.ok, h.a.pr.r.kept hk h.a2, h.a.pr.ap⟩, hk.cells h.a.var h.b2, h.a.nb, h.a.na, h.a.low.trans (hk.below h.o.own h.a.low.size), h.a.hB⟩, hp.t, hp.ok, fun q hq h' => ?_, fun g off e h' => ?_, fun h' => ?_⟩⟩
  · rcases hs q hq with h'' | h''
    · exact h.ap q h'' h'
    · have := hblk q h'; omega
  · rcases hs g h' with h'' | h''
    · exact h.a2 g off e h''
    · have := hAlt g off e; omega
  · rcases hs B h' with h'' | h''
    · exact h.b2 h''
    · omega
end
/-- The copy moves; the table, and the document's variable of then, stay. -/
structure C2 (w W : World) (p mn mj : Nat) (sv : Value) (H : List Int) (J : List ((Int × Int) × Int)) (p2 mn2 mj2 : Nat) (sv2 : Value) (L : List Int) (J2 : List ((Int × Int) × Int)) (most : Int) (A2 : Option Addr) (cap2 B2 : Nat) (A : Option Addr) (cap B : Nat) : Prop where
  m : C1 w W p mn mj sv H J p2 mn2 mj2 sv2 L J2 most A2 cap2 B2
  var : Cells W B 51 #[.int .i64 most, .slice A L.length cap]
  r : Rd W W.heap.size .u32 A L
  nb : ¬ TabS p mn mj sv B
  na : ∀ g off, A = some ⟨g, off, none⟩ → ¬ TabS p mn mj sv g
  n9 : B ≠ B2
  na9 : ∀ g off, A = some ⟨g, off, none⟩ → g ≠ B2
section
variable {w W W1 W2 : World} {p mn mj : Nat} {sv : Value} {H H' L : List Int} {J : List ((Int × Int) × Int)} {p2 mn2 mj2 : Nat} {sv2 : Value} {J2 : List ((Int × Int) × Int)} {most : Int} {A A' A2 : Option Addr} {cap cap' cap2 B B2 : Nat}
theorem C2.below (h : C2 w W p mn mj sv H J p2 mn2 mj2 sv2 L J2 most A2 cap2 B2 A cap B) (hb : Below W.heap.size W W1) : C2 w W1 p mn mj sv H J p2 mn2 mj2 sv2 L J2 most A2 cap2 B2 A cap B :=
  ⟨h.m.below hb, h.var.below hb h.var.lt, (h.r.below hb (Nat.le_refl _)).up hb.size, h.nb, h.na, h.n9, h.na9⟩
theorem C2.step (h : C2 w W p mn mj sv H J p2 mn2 mj2 sv2 L J2 most A2 cap2 B2 A cap B) (d : DoesTo W W1 w.heap.size p mn mj sv most H' A2 A') (k : KeptBut (fun k => k = B2) W1 W2) (c : Cells W2 B2 51 #[.int .i64 most, .slice A' H'.length cap']) :
    ∃ sv' J', C2 w W2 p mn mj sv' H' J' p2 mn2 mj2 sv2 L J2 most A' cap' B2 A cap B := by
  have hlt := h.var.lt
  have hAlt : ∀ g off, A = some ⟨g, off, none⟩ → g < W.heap.size := fun g off e => by
    obtain ⟨g', off', e', hg⟩ := h.r.some_ h.m.ok2.pos
    rw [e] at e'; simp at e'; omega
  have hk : KeptBut (TabS p mn mj sv) W W1 := d.choose_spec.choose_spec.2.1
  obtain ⟨sv', J', hm, hs⟩ := h.m.step1 d k c
  refine ⟨sv', J', hm, k.cells (hk.cells h.var h.nb) h.n9, (h.r.kept hk h.na).kept k h.na9, fun q => ?_, fun g off e q => ?_, h.n9, h.na9⟩
  · rcases hs B q with q | q
    · exact h.nb q
    · omega
  · rcases hs g q with q | q
    · exact h.na g off e q
    · have := hAlt g off e; omega
end
end Go.Proofs.YtbleilbphadehaaDoor
