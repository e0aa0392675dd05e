/- Touches in memory; the cpu's list of them that grows. -/
import Derived.Test.YtmpnlhfnemidpaaDn
import Derived.Test.YtmpnlhfnemidpaaRd
import Derived.OwnWalk
import Derived.Deep.RegionLaw
import Derived.Maps.AppendAt
import Derived.Deep.AppendLies
import Derived.Outline
namespace Go.Proofs.Ytmpnlhfnemidpaa
open Go.RowKit Go.Shelf
structure Tt where
  k : Int
  n : Int
  fr : List (Int × Int)
abbrev plV (k n : Int) : Value := .agg #[.int .i64 k, .int .i64 n]
def plsL : List (Int × Int) → List Value
  | [] => []
  | p :: ps => .int .i64 p.1 :: .int .i64 p.2 :: plsL ps
theorem plsL_length : ∀ ps : List (Int × Int), (plsL ps).length = 2 * ps.length
  | [] => rfl
  | p :: ps => by simp [plsL, plsL_length ps]; omega
def FromAt (W : World) (v : Value) (ps : List (Int × Int)) : Prop :=
  (v = .slice none 0 0 ∧ ps = []) ∨ ∃ g, v = .slice (some ⟨g, 0, none⟩) ps.length ps.length ∧ Cells W g 49 (plsL ps).toArray
inductive TsC (W : World) : List Value → List Tt → Prop
  | nil : TsC W [] []
  | cons {k n : Int} {v : Value} {fr : List (Int × Int)} {xs : List Value} {L : List Tt} : FromAt W v fr → TsC W xs L → TsC W (.int .i64 k :: .int .i64 n :: v :: xs) (⟨k, n, fr⟩ :: L)
theorem TsC.append {W : World} {xs ys : List Value} {L M : List Tt} (h : TsC W xs L) (h' : TsC W ys M) : TsC W (xs ++ ys) (L ++ M) := by
  induction h with
  | nil => exact h'
  | cons hf _ ih => exact .cons hf ih
theorem TsC.one {W : World} {k n : Int} {v : Value} {fr : List (Int × Int)} (h : FromAt W v fr) : TsC W [.int .i64 k, .int .i64 n, v] [⟨k, n, fr⟩] := .cons h .nil
theorem TsC.len {W : World} {xs : List Value} {L : List Tt} (h : TsC W xs L) : xs.length = L.length * 3 := by
  induction h with
  | nil => rfl
  | cons _ _ ih => simp [ih]; omega
theorem FromAt.oneCell {W : World} {v : Value} {ps : List (Int × Int)} (h : FromAt W v ps) : v.oneCell' = true := by
  rcases h with ⟨rfl, _⟩ | ⟨g, rfl, _⟩ <;> rfl
theorem FromAt.slice {W : World} {v : Value} {ps : List (Int × Int)} (h : FromAt W v ps) : ∃ ao l c, v = .slice ao l c := by
  rcases h with ⟨rfl, _⟩ | ⟨g, rfl, _⟩ <;> exact ⟨_, _, _, rfl⟩
theorem TsC.oneCell {W : World} {xs : List Value} {L : List Tt} (h : TsC W xs L) : ∀ u ∈ xs, u.oneCell' = true := by
  induction h with
  | nil => intro u hu; cases hu
  | cons hf _ ih =>
    intro u hu
    simp only [List.mem_cons] at hu
    rcases hu with rfl | rfl | rfl | hu
    · rfl
    · rfl
    · exact hf.oneCell
    · exact ih u hu
/-- What is neither a list's cell nor a row of touches stays. -/
def KeepT (w w' : World) : Prop := ∀ (k : Nat) (c : Array Value) (t : TypeId), Cells w k t c → t ≠ 83 → t ≠ 73 → Cells w' k t c
theorem KeepT.refl (w : World) : KeepT w w := fun _ _ _ h _ _ => h
theorem KeepT.trans {w w' w'' : World} (h : KeepT w w') (h' : KeepT w' w'') : KeepT w w'' := fun k c t hc h1 h2 => h' k c t (h k c t hc h1 h2) h1 h2
theorem KeepT.of_below {w w' : World} (h : Below w.heap.size w w') : KeepT w w' := fun _ _ _ hc _ _ => hc.below h hc.lt
theorem FromAt.keep {w w' : World} (hk : KeepT w w') {v : Value} {ps : List (Int × Int)} (h : FromAt w v ps) : FromAt w' v ps := by
  rcases h with h | ⟨g, rfl, h⟩
  · exact .inl h
  · exact .inr ⟨g, rfl, hk _ _ _ h (by decide) (by decide)⟩
theorem TsC.keep {w w' : World} (hk : KeepT w w') {xs : List Value} {L : List Tt} (h : TsC w xs L) : TsC w' xs L := by
  induction h with
  | nil => exact .nil
  | cons hf _ ih => exact .cons (hf.keep hk) ih
def TsAt (W : World) (base : Nat) (v : Value) (L : List Tt) : Prop := ∃ xs, W.ownsRow base 83 3 v L.length xs ∧ TsC W xs L
theorem ownsRow_below {W W' : World} {base : Nat} {e : TypeId} {size : Nat} {v : Value} {n : Nat} {xs : List Value} (h : W.ownsRow base e size v n xs) (hb : Below W.heap.size W W') : W'.ownsRow base e size v n xs := by
  refine ⟨h.1, ?_⟩
  rcases h.2 with hn | ⟨g, cap, cur, rfl, hg, hgg, rest⟩
  · exact .inl hn
  · exact .inr ⟨g, cap, cur, rfl, hg, (hb.block g (Array.getElem?_eq_some_iff.1 hgg).1).trans hgg, rest⟩
theorem TsAt.below {W W' : World} {base : Nat} {v : Value} {L : List Tt} (h : TsAt W base v L) (hb : Below W.heap.size W W') : TsAt W' base v L := by
  obtain ⟨xs, ho, hc⟩ := h
  exact ⟨xs, ownsRow_below ho hb, hc.keep (.of_below hb)⟩
structure LiAt (W : World) (base X : Nat) (v : Value) (L : List Tt) : Prop where
  x : Cells W X 73 #[v]
  t : TsAt W base v L
  hx : base ≤ X
theorem LiAt.below {W W' : World} {base X : Nat} {v : Value} {L : List Tt} (h : LiAt W base X v L) (hb : Below W.heap.size W W') : LiAt W' base X v L := ⟨h.x.below hb h.x.lt, h.t.below hb, h.hx⟩
theorem LiAt.lt {W : World} {base X : Nat} {v : Value} {L : List Tt} (h : LiAt W base X v L) : base < W.heap.size := Nat.lt_of_le_of_lt h.hx h.x.lt
theorem cell_row_of (w : World) (l : List Value) (t : TypeId) : ∀ (j : Nat) u, l[j]? = some u → (w.alloc (.cells l.toArray t)).cell? ((⟨w.heap.size, 0, none⟩ : Addr).add j) = some u := by
  intro j u hj
  rw [addr_add, Nat.zero_add, (Cells.new w t l.toArray).cell j]
  simpa using hj
theorem info_touch : (Try.prog.info? 83).map (fun i => (i.zero, i.size, i.bytes)) = some (some (.agg #[.int .i64 0, .int .i64 0, .slice none 0 0]), 3, 40) := by kernel_rfl
theorem info_place : (Try.prog.info? 49).map (·.size) = some 2 := by kernel_rfl
/-- The list's growth, as worlds: append's, and the store behind it. -/
theorem li_put {w W W' : World} {base X : Nat} {v v' : Value} {L : List Tt} {k n : Int} {fv : Value} {fr : List (Int × Int)} (h : LiAt W base X v L) (hb : Below w.heap.size w W) (hwx : X < w.heap.size) (hf : FromAt W fv fr) (ho : ∃ xs, W.ownsRow base 83 3 v L.length xs ∧ TsC W xs L ∧ W'.ownsRow base 83 3 v' (L.length + 1) (xs ++ [.int .i64 k, .int .i64 n, fv])) (hg : W.grownBy W' v.ownBlock) :
    LiAt (W'.setCell ⟨X, 0, none⟩ v') base X v' (L ++ [⟨k, n, fr⟩]) ∧ Below base w (W'.setCell ⟨X, 0, none⟩ v') ∧ KeepT w (W'.setCell ⟨X, 0, none⟩ v') := by
  obtain ⟨xs, hown, hC, hown'⟩ := ho
  have hne : ∀ (j : Nat) (c : Array Value) (t : TypeId), Cells W j t c → t ≠ 83 → some j ≠ v.ownBlock := by
    intro j c t hc ht e
    rcases hown.2 with ⟨rfl, _⟩ | ⟨g, cap, cur, rfl, _, hgg, _⟩
    · simp [Value.ownBlock] at e
    · simp only [Value.ownBlock, Option.some.injEq] at e
      subst e
      unfold Cells at hc
      rw [hgg] at hc
      simp only [Option.some.injEq, Obj.cells.injEq] at hc
      exact ht hc.2.1.symm
  have hk1 : KeepT W W' := fun j c t hc h1 _ => (hg.block j hc.lt (hne j c t hc h1)).trans hc
  have hX' : Cells W' X 73 #[v] := (hg.block X h.x.lt (hne X _ _ h.x (by decide))).trans h.x
  have hX : Cells (W'.setCell ⟨X, 0, none⟩ v') X 73 #[v'] := hX'.set 0 v'
  have hk2 : KeepT W' (W'.setCell ⟨X, 0, none⟩ v') := fun j c t hc _ h2 => hc.other v' (by
    rintro rfl
    unfold Cells at hc hX'
    rw [hX'] at hc
    simp only [Option.some.injEq, Obj.cells.injEq] at hc
    exact h2 hc.2.1.symm)
  refine ⟨⟨hX, ⟨xs ++ [.int .i64 k, .int .i64 n, fv], ?_, ?_⟩, h.hx⟩, ?_, ((KeepT.of_below hb).trans hk1).trans hk2⟩
  · refine ⟨by rw [hown'.1]; simp, ?_⟩
    rcases hown'.2 with ⟨_, h0⟩ | ⟨g, cap, cur, rfl, hbg, hgg, hr⟩
    · omega
    · refine .inr ⟨g, cap, cur, by simp, hbg, ?_, by simpa using hr⟩
      refine (Below.heap_setCell W' ⟨X, 0, none⟩ _ g ?_).trans hgg
      rintro rfl
      unfold Cells at hX'
      rw [hX'] at hgg
      simp at hgg
  · exact ((hC.keep hk1).keep hk2).append (.one ((hf.keep hk1).keep hk2))
  · have hbW : Below base w W := hb.mono (Nat.le_trans h.hx (Nat.le_of_lt hwx))
    have h1 : Below base w W' := hbW.grown hg (Nat.le_of_lt h.lt) (fun q hq => (hown.lt q hq).1)
    exact h1.setCell (p := ⟨X, 0, none⟩) h.hx _
set_option maxRecDepth 100000 in
set_option maxHeartbeats 1000000 in
theorem cLput {w : World} {base X : Nat} {v : Value} {L : List Tt} (h : LiAt w base X v L) (hL : L.length < 1000) (k n : Int) {fv : Value} {fr : List (Int × Int)} (hf : FromAt w fv fr) :
    Calls Try.prog 40 #[.pointer (some ⟨X, 0, none⟩), plV k n, fv] w fun e w' => e = .returned (.tuple #[]) ∧ ∃ v', LiAt w' base X v' (L ++ [⟨k, n, fr⟩]) ∧ Below base w w' ∧ KeepT w w' := by
  obtain ⟨fo, fl, fc, rfl⟩ := hf.slice
  obtain ⟨xs, hown, hC⟩ := h.t
  obtain ⟨i0, hi, hz0, hz1, hz2⟩ := info_parts info_touch
  have hip := info_place
  obtain ⟨Kp, hbp, sp⟩ := cells1 w #[.int .i64 k, .int .i64 n] 49
  have hX := h.x
  go_enter Try.func40, Try.ntmps40
  go_upto_region 1 with (fail)
  have hXw : Cells (w.alloc (.cells #[.int .i64 k, .int .i64 n] 49)) X 73 #[v] := hX.below hbp hX.lt
  have hown1 := ownsRow_below hown hbp
  have hC1 := hC.keep (.of_below hbp)
  have hf1 := hf.keep (.of_below hbp)
  have hlt := h.lt
  have hxx := hX.lt
  have hhx := h.hx
  have hh := Lib.hid h
  clear h hown hC hf hX
  generalize w.alloc _ = W at *
  have Kp' : W.heap[w.heap.size]? = some (.cells #[.int .i64 k, .int .i64 n] 49 (0, 0)) := Kp
  have x0 := (hXw.cell 0).trans (show _ = some v from rfl)
  have xz := hXw.frozen 0
  have hne : ∀ (j : Nat) (c : Array Value) (t : TypeId), Cells W j t c → t ≠ 83 → some j ≠ v.ownBlock := by
    intro j c t hc ht e
    rcases hown1.2 with ⟨rfl, _⟩ | ⟨g, cap, cur, rfl, _, hgg, _⟩
    · simp [Value.ownBlock] at e
    · simp only [Value.ownBlock, Option.some.injEq] at e
      subst e
      unfold Cells at hc
      rw [hgg] at hc
      simp only [Option.some.injEq, Obj.cells.injEq] at hc
      exact ht hc.2.1.symm
  have hneX := hne X _ _ hXw (by decide)
  have hneP := hne _ _ _ Kp (by decide)
  have k0 := (Kp.cell 0).trans (show _ = some (Value.int .i64 k) from rfl)
  have k1 := (Kp.cell 1).trans (show _ = some (Value.int .i64 n) from rfl)
  have ka : ∀ o, (W.alloc o).cell? ⟨X, 0, none⟩ = some v := fun o => (hXw.alloc o).cell 0
  have kd : ∀ o, ((W.alloc o).drew).cell? ⟨X, 0, none⟩ = some v := fun o => (hXw.alloc o).cell 0
  go_region_law
    ((refine step_append_lies _ rfl (.tmp 10) (.tmp 14) 44 rfl base 83 i0 (.agg #[.int .i64 0, .int .i64 0, .slice none 0 0]) 3 40 Try.underlying44 hi hz0 hz1 hz2 rfl (by decide) v L.length xs (by simp [Act.eval]) (hown1.alloc _) ⟨W.heap.size, 0, none⟩ 1 1 [.int .i64 k, .int .i64 n, .slice fo fl fc] (by simp [Act.eval]) rfl (cell_row_of _ _ _) (fun x hx => by simp at hx; rcases hx with rfl | rfl | rfl <;> first | rfl | exact hf1.oneCell) (by decide) (by unfold maxLen; omega) (by omega) (by simp; omega) _ rfl ?_; intro g cap W' hown' hgrow' hg' hgl'; have y0 : W'.cell? ⟨X, 0, none⟩ = some v := hgrow'.cell ((hXw.alloc _).cell 0) hneX; have yz : W'.frozen? ⟨X, 0, none⟩ = false := (World.frozen?_of_block (hgrow'.block X (hXw.alloc _).lt hneX)).trans ((hXw.alloc _).frozen 0); have y1 := hgrow'.cell ((Kp.alloc _).cell 0) hneP; have y2 := hgrow'.cell ((Kp.alloc _).cell 1) hneP))
  all_goals
    have hb2 : Below W.heap.size W (W.alloc (.cells #[.int .i64 k, .int .i64 n, .slice fo fl fc] 83)).drew := ((Below.refl _ W).alloc (Nat.le_refl _) _).drew
    go_end0
    have hbW := hbp.trans (hb2.mono hbp.size)
    exact ⟨rfl, _, li_put (hh.out.below hbW) hbW hxx (hf1.keep (.of_below hb2)) ⟨xs, ownsRow_below hown1 hb2, hC1.keep (.of_below hb2), hown'⟩ hgrow'⟩
end Go.Proofs.Ytmpnlhfnemidpaa
