/- The table of labels in memory: what stays beside it. -/
import Derived.Test.YtbleilbphadehaaDoorMp
import Derived.Test.YtbleilbphadehaaDoorRd
import Derived.Test.YtbleilbphadehaaDoorLp
import Derived.OwnWalk
import Derived.Maps.AppendAt
import Derived.Deep.AppendLies
namespace Go.Proofs.YtbleilbphadehaaDoor
open Go.RowKit Go.Shelf
/-- All blocks but those of S are as they were. -/
structure KeptBut (S : Nat → Prop) (W W' : World) : Prop where
  os : W'.os = W.os
  tape : W'.tape = W.tape
  output : W'.output = W.output
  size : W.heap.size ≤ W'.heap.size
  block : ∀ k, k < W.heap.size → ¬ S k → W'.heap[k]? = W.heap[k]?
section
variable {S : Nat → Prop} {W W' W'' : World}
theorem KeptBut.refl (S : Nat → Prop) (W : World) : KeptBut S W W := ⟨rfl, rfl, rfl, Nat.le_refl _, fun _ _ _ => rfl⟩
theorem KeptBut.trans (h : KeptBut S W W') (k : KeptBut S W' W'') : KeptBut S W W'' :=
  ⟨k.os.trans h.os, k.tape.trans h.tape, k.output.trans h.output, Nat.le_trans h.size k.size, fun i hi hs => (k.block i (Nat.lt_of_lt_of_le hi h.size) hs).trans (h.block i hi hs)⟩
theorem KeptBut.mono {S' : Nat → Prop} (h : KeptBut S W W') (hs : ∀ k, k < W.heap.size → S k → S' k) : KeptBut S' W W' :=
  ⟨h.os, h.tape, h.output, h.size, fun k hk hn => h.block k hk (fun q => hn (hs k hk q))⟩
theorem KeptBut.of_below (S : Nat → Prop) (h : Below W.heap.size W W') : KeptBut S W W' := ⟨h.os, h.tape, h.output, h.size, fun k hk _ => h.block k hk⟩
theorem KeptBut.of_grown {row : Option Nat} (h : W.grownBy W' row) (hr : ∀ k, row = some k → S k) : KeptBut S W W' :=
  ⟨h.os, h.tape, h.output, h.size, fun k hk hn => h.block k hk (fun e => hn (hr k e.symm))⟩
theorem KeptBut.set {p : Nat} (hp : S p) (j : Nat) (v : Value) : KeptBut S W (W.setCell ⟨p, j, none⟩ v) :=
  ⟨rfl, rfl, rfl, by simp [World.setCell], fun k _ hn => Below.heap_setCell W ⟨p, j, none⟩ v k (fun e => hn (e ▸ hp))⟩
theorem KeptBut.put {p : Nat} (hp : S p) (o : Obj) : KeptBut S W (W.putObj p o) :=
  ⟨rfl, rfl, rfl, by simp, fun _ _ hn => World.putObj_heap_other (fun e => hn (e ▸ hp))⟩
theorem KeptBut.drew (S : Nat → Prop) (W : World) : KeptBut S W W.drew := .of_below S (Below.refl _ W).drew
theorem KeptBut.alloc (S : Nat → Prop) (W : World) (o : Obj) : KeptBut S W (W.alloc o) := .of_below S ((Below.refl _ W).alloc (Nat.le_refl _) o)
theorem KeptBut.below {n : Nat} (h : KeptBut S W W') (hs : ∀ k, S k → n ≤ k) (hn : n ≤ W.heap.size) : Below n W W' :=
  ⟨h.os, h.tape, h.output, h.size, fun k hk => h.block k (by omega) (fun q => by have := hs k q; omega)⟩
theorem KeptBut.cells {k : Nat} {t : TypeId} {c : Array Value} (h : KeptBut S W W') (hc : Cells W k t c) (hn : ¬ S k) : Cells W' k t c := (h.block k hc.lt hn).trans hc
end
/-- The blocks of a table. -/
def TabS (p mn mj : Nat) (sv : Value) (k : Nat) : Prop := k = p ∨ k = mn ∨ k = mj ∨ sv.ownBlock = some k
/-- A table in memory: its bound, its sets, what was joined. -/
structure TAt (W : World) (base p mn mj : Nat) (sv : Value) (most : Int) (L : List Int) (J : List ((Int × Int) × Int)) : Prop where
  c : Cells W p 63 #[.int .i64 most, sv, .map (some mn), .map (some mj)]
  s : W.ownsRow base 28 1 sv L.length (L.map (Value.int .u32))
  n : MapAt .u32 W mn (numL L 0)
  j : JAt W mj J
  hp : base ≤ p
  hn : base ≤ mn
  hj : base ≤ mj
  hne : mn ≠ mj
/-- What its parts are to each other. -/
structure TOk (most : Int) (L : List Int) (J : List ((Int × Int) × Int)) : Prop where
  bnd : 1 ≤ most ∧ most ≤ 65536
  pos : 0 < L.length
  len : (L.length : Int) ≤ most
  nd : L.Nodup
  sets : ∀ x ∈ L, 0 ≤ x ∧ x < 65536
  join : ∀ a b n, ((a, b), n) ∈ J → ∃ x y : Nat, 0 ≤ a ∧ 0 ≤ b ∧ 0 ≤ n ∧ L[a.toNat]? = some (x : Int) ∧ L[b.toNat]? = some (y : Int) ∧ L[n.toNat]? = some ((x ||| y : Nat) : Int)
theorem TAt.own {W : World} {base p mn mj : Nat} {sv : Value} {most : Int} {L : List Int} {J : List ((Int × Int) × Int)} (h : TAt W base p mn mj sv most L J) : ∀ k, TabS p mn mj sv k → base ≤ k := by
  rintro k (rfl | rfl | rfl | hk)
  · exact h.hp
  · exact h.hn
  · exact h.hj
  · exact (h.s.lt k hk).1
theorem TAt.kept {W W' : World} {S : Nat → Prop} {base p mn mj : Nat} {sv : Value} {most : Int} {L : List Int} {J : List ((Int × Int) × Int)} (h : TAt W base p mn mj sv most L J) (hk : KeptBut S W W') (hs : ∀ k, TabS p mn mj sv k → ¬ S k) : TAt W' base p mn mj sv most L J :=
  { c := hk.cells h.c (hs p (.inl rfl))
    s := by
      refine ⟨h.s.1, ?_⟩
      rcases h.s.2 with hn | ⟨g, cap, cur, rfl, hg, hgg, rest⟩
      · exact .inl hn
      · exact .inr ⟨g, cap, cur, rfl, hg, (hk.block g (Array.getElem?_eq_some_iff.1 hgg).1 (hs g (.inr (.inr (.inr rfl))))).trans hgg, rest⟩
    n := h.n.of_block (hk.block mn h.n.lt (hs mn (.inr (.inl rfl))))
    j := h.j.of_block (hk.block mj h.j.lt (hs mj (.inr (.inr (.inl rfl)))))
    hp := h.hp, hn := h.hn, hj := h.hj, hne := h.hne }
theorem TAt.below {W W' : World} {base p mn mj : Nat} {sv : Value} {most : Int} {L : List Int} {J : List ((Int × Int) × Int)} (h : TAt W base p mn mj sv most L J) (hb : Below W.heap.size W W') : TAt W' base p mn mj sv most L J :=
  h.kept (.of_below (fun _ => False) hb) (fun _ _ q => q)
end Go.Proofs.YtbleilbphadehaaDoor
