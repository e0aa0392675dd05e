/- The document's touches: the list out, the laws of its growth. -/
import Derived.Test.YtmpnlhfnemidpaaTu0
import Derived.Test.YtmpnlhfnemidpaaSp
import Derived.Test.YtmpnlhfnemidpaaRt
namespace Go.Proofs.Ytmpnlhfnemidpaa
open Go.RowKit Go.Shelf
theorem kS {W : World} {B : Nat} {t : TypeId} {a b c d : Value} (h : Cells W B t #[a, b, c, d]) : W.cell? ⟨B, 1, none⟩ = some b ∧ W.cell? ⟨B, 2, none⟩ = some c := ⟨h.cell 1, h.cell 2⟩
set_option maxRecDepth 100000 in
theorem rRegX (n : Int) (w : World) : Calls Try.prog 65 #[.int .i64 n] w fun e w' => e = .returned (plV 1 n) ∧ w.alloc (.cells #[.int .i64 1, .int .i64 n] 49) = w' := by
  have hip := info_place
  go_enter Try.func65, Try.ntmps65
  go_wp2_with fail
  exact bodyPost_ret (results_cell_row rfl _ _ w.heap.size 49 _ (0, 0) _ rfl (Cells.new w _ _) Try.underlying49 rfl hip) rfl ⟨rfl, rfl⟩
theorem alloc4 (W : World) (a b c d : Array Value) {t : TypeId} : Cells ((((W.alloc (.cells a t)).alloc (.cells b t)).alloc (.cells c t)).alloc (.cells d t)).drew W.heap.size t a ∧ Cells ((((W.alloc (.cells a t)).alloc (.cells b t)).alloc (.cells c t)).alloc (.cells d t)).drew (W.heap.size + 1) t b ∧
    Cells ((((W.alloc (.cells a t)).alloc (.cells b t)).alloc (.cells c t)).alloc (.cells d t)).drew (W.heap.size + 2) t c ∧ Cells ((((W.alloc (.cells a t)).alloc (.cells b t)).alloc (.cells c t)).alloc (.cells d t)).drew (W.heap.size + 3) t d ∧ Below W.heap.size W ((((W.alloc (.cells a t)).alloc (.cells b t)).alloc (.cells c t)).alloc (.cells d t)).drew := by
  obtain ⟨k1, k2, hb1, s1⟩ := cells2 W a b t t
  obtain ⟨k3, k4, hb2, s2⟩ := cells2 ((W.alloc (.cells a t)).alloc (.cells b t)) c d t t
  rw [s1] at k3 k4
  exact ⟨(k1.below hb2 k1.lt).drew, (k2.below hb2 k2.lt).drew, k3.drew, k4.drew, (hb1.trans (hb2.mono hb1.size)).drew⟩
def keptA : Array Value := #[.int .i64 3, .int .i64 4, .int .i64 5, .int .i64 6, .int .i64 7, .int .i64 2]
/-- The world while the document's touches are told: the instruction, its two places, the numbers of the kept (where they are made), the list out. -/
structure RtAt (w W : World) (Bi Ba Bb Bk : Nat) (bk : Bool) (v : Value) (L : List Tt) (op ka kb n : Int) : Prop where
  i : Cells W Bi 54 (instA op ka kb n)
  a : Cells W Ba 49 #[.int .i64 1, .int .i64 ka]
  b : Cells W Bb 49 #[.int .i64 1, .int .i64 kb]
  k : bk = true → Cells W Bk 3 keptA
  t : TsAt W w.heap.size v L
  low : Below w.heap.size w W
section
variable {w W : World} {Bi Ba Bb Bk : Nat} {bk : Bool} {v : Value} {L : List Tt} {op ka kb n : Int}
theorem RtAt.below {W' : World} (h : RtAt w W Bi Ba Bb Bk bk v L op ka kb n) (hb : Below W.heap.size W W') : RtAt w W' Bi Ba Bb Bk bk v L op ka kb n :=
  ⟨h.i.below hb h.i.lt, h.a.below hb h.a.lt, h.b.below hb h.b.lt, fun q => (h.k q).below hb (h.k q).lt, h.t.below hb, h.low.trans (hb.mono h.low.size)⟩
theorem RtAt.alloc (h : RtAt w W Bi Ba Bb Bk bk v L op ka kb n) (o : Obj) : RtAt w (W.alloc o) Bi Ba Bb Bk bk v L op ka kb n := h.below ((Below.refl _ W).alloc (Nat.le_refl _) o)
theorem RtAt.drew (h : RtAt w W Bi Ba Bb Bk bk v L op ka kb n) : RtAt w W.drew Bi Ba Bb Bk bk v L op ka kb n := h.below (Below.refl _ W).drew
theorem RtAt.s (h : RtAt w W Bi Ba Bb Bk bk v L op ka kb n) : W.cell? ⟨Bi, 0, none⟩ = some (.int .i64 op) ∧ W.cell? ⟨Bi, 3, none⟩ = some (.int .i64 n) ∧ W.cell? ⟨Ba, 0, none⟩ = some (.int .i64 1) ∧ W.cell? ⟨Ba, 1, none⟩ = some (.int .i64 ka) ∧ W.cell? ⟨Bb, 0, none⟩ = some (.int .i64 1) ∧ W.cell? ⟨Bb, 1, none⟩ = some (.int .i64 kb) :=
  ⟨h.i.cell 0, h.i.cell 3, h.a.cell 0, h.a.cell 1, h.b.cell 0, h.b.cell 1⟩
theorem RtAt.sk (h : RtAt w W Bi Ba Bb Bk true v L op ka kb n) (j : Nat) {x : Value} (hx : keptA[j]? = some x) : W.cell? ⟨Bi, 0, none⟩ = some (.int .i64 op) ∧ W.cell? ⟨Bi, 3, none⟩ = some (.int .i64 n) ∧ W.cell? ⟨Ba, 0, none⟩ = some (.int .i64 1) ∧ W.cell? ⟨Ba, 1, none⟩ = some (.int .i64 ka) ∧ W.cell? ⟨Bb, 0, none⟩ = some (.int .i64 1) ∧ W.cell? ⟨Bb, 1, none⟩ = some (.int .i64 kb) ∧ W.cell? ⟨Bk, j, none⟩ = some x :=
  ⟨h.i.cell 0, h.i.cell 3, h.a.cell 0, h.a.cell 1, h.b.cell 0, h.b.cell 1, ((h.k rfl).cell j).trans hx⟩
theorem RtAt.kept (h : RtAt w W Bi Ba Bb Bk bk v L op ka kb n) : RtAt w (W.alloc (.cells #[.int .i64 3, .int .i64 4, .int .i64 5, .int .i64 6, .int .i64 7, .int .i64 2] 3)) Bi Ba Bb W.heap.size true v L op ka kb n :=
  { h.alloc _ with k := fun _ => Cells.new W _ _ }
theorem rMoveF (T : RtAt w W Bi Ba Bb Bk bk v L op ka kb n) {fv : Value} {fr : List (Int × Int)} (F : FromAt W fv fr) (k m : Int) : Calls Try.prog 69 #[plV k m, fv] W fun e w' => e = .returned (.agg #[.int .i64 k, .int .i64 m, fv]) ∧ RtAt w w' Bi Ba Bb Bk bk v L op ka kb n ∧ FromAt w' fv fr := by
  obtain ⟨ao, l, c, rfl⟩ := F.slice
  exact (rMove k m ao l c W).mono fun _ _ ⟨he, hb⟩ => ⟨he, T.below hb, F.keep (.of_below hb)⟩
theorem rDecideF (T : RtAt w W Bi Ba Bb Bk bk v L op ka kb n) {fv : Value} {fr : List (Int × Int)} (F : FromAt W fv fr) : Calls Try.prog 66 #[fv] W fun e w' => e = .returned (.agg #[.int .i64 0, .int .i64 0, fv]) ∧ RtAt w w' Bi Ba Bb Bk bk v L op ka kb n ∧ FromAt w' fv fr := by
  obtain ⟨ao, l, c, rfl⟩ := F.slice
  exact (rDecide ao l c W).mono fun _ _ ⟨he, hb⟩ => ⟨he, T.below hb, F.keep (.of_below hb)⟩
/-- What append leaves. -/
theorem RtAt.app {W1 W' : World} {v' : Value} {M : List Tt} {news xs : List Value} (T : RtAt w W Bi Ba Bb Bk bk v L op ka kb n) (hb : Below W.heap.size W W1) (hM : TsC W1 news M) (ho : W.ownsRow w.heap.size 83 3 v L.length xs) (hC : TsC W xs L)
    (ho' : W'.ownsRow w.heap.size 83 3 v' (L.length + M.length) (xs ++ news)) (hg : W1.grownBy W' v.ownBlock) : RtAt w W' Bi Ba Bb Bk bk v' (L ++ M) op ka kb n := by
  have hne : ∀ (j : Nat) (c : Array Value) (t : TypeId), Cells W1 j t c → t ≠ 83 → some j ≠ v.ownBlock := by
    intro j c t hc ht e
    have ho1 := ownsRow_below ho hb
    rcases ho1.2 with ⟨rfl, _⟩ | ⟨g, cap, cur, rfl, _, hgg, _⟩
    · simp [Value.ownBlock] at e
    · simp only [Value.ownBlock, Option.some.injEq] at e
      subst e
      unfold Cells at hc
      rw [hgg] at hc
      simp only [Option.some.injEq, Obj.cells.injEq] at hc
      exact ht hc.2.1.symm
  have hk1 : KeepT W1 W' := fun j c t hc h1 _ => (hg.block j hc.lt (hne j c t hc h1)).trans hc
  have hk : KeepT W W' := (KeepT.of_below hb).trans hk1
  have hlt : w.heap.size ≤ W1.heap.size := Nat.le_trans T.low.size hb.size
  exact ⟨hk _ _ _ T.i (by decide) (by decide), hk _ _ _ T.a (by decide) (by decide), hk _ _ _ T.b (by decide) (by decide), fun q => hk _ _ _ (T.k q) (by decide) (by decide),
    ⟨xs ++ news, by rw [List.length_append]; exact ho', ((hC.keep hk)).append (hM.keep hk1)⟩,
    (T.low.trans (hb.mono T.low.size)).grown hg hlt (fun q hq => (ho.lt q hq).1)⟩
/-- append of one touch, in a plain region and at a step of a region that draws. -/
theorem rt_list {ops : Array Oper} {rest : List Oper} {o : Oper} {a : Act} {Q : Exit → Act → World → Prop} (hgd : o.guard = none) (sT xT : Operand) (ho : o.op = .call { callee := .builtin .append, args := #[sT, xT], argTypes := #[44, 44] })
    (T : RtAt w W Bi Ba Bb Bk bk v L op ka kb n) (hs : a.eval sT = v) {k m : Int} {fv : Value} {fr : List (Int × Int)} (F : FromAt W fv fr) (hx : a.eval xT = .slice (some ⟨W.heap.size, 0, none⟩) 1 1) (hL : L.length < 1000)
    (h : ∀ v' W', RtAt w W' Bi Ba Bb Bk bk v' (L ++ [⟨k, m, fr⟩]) op ka kb n → wpList Try.prog ops Q rest (a.put o.dst v') W') : wpList Try.prog ops Q (o :: rest) a (W.alloc (.cells #[.int .i64 k, .int .i64 m, fv] 83)) := by
  obtain ⟨i0, hi, hz0, hz1, hz2⟩ := info_parts info_touch
  obtain ⟨xs, hown, hC⟩ := T.t
  have hlow := T.low.size
  refine wpList_append_lies _ hgd sT xT 44 ho w.heap.size 83 i0 (.agg #[.int .i64 0, .int .i64 0, .slice none 0 0]) 3 40 Try.underlying44 hi hz0 hz1 hz2 rfl (by decide) v L.length xs hs (hown.alloc _) ⟨W.heap.size, 0, none⟩ 1 1 [.int .i64 k, .int .i64 m, fv] hx rfl (cell_row_of _ _ _) (fun x hx => by simp at hx; rcases hx with rfl | rfl | rfl <;> first | rfl | exact F.oneCell) (by decide) (by unfold maxLen; omega) (by omega) (by simp; omega) _ rfl ?_
  intro g cap W' hown' hgrow' _ _
  have hb := (Below.refl W.heap.size W).alloc (Nat.le_refl _) (.cells #[.int .i64 k, .int .i64 m, fv] 83)
  exact h _ _ (T.app hb (TsC.one (F.keep (.of_below hb))) hown hC hown' hgrow')
theorem rt_step {ops : Array Oper} {o : Oper} {a : Act} {K : Act → World → Prop} {Q : Exit → Act → World → Prop} {E : Prop} (hgd : o.guard = none) (sT xT : Operand) (ho : o.op = .call { callee := .builtin .append, args := #[sT, xT], argTypes := #[44, 44] })
    (T : RtAt w W Bi Ba Bb Bk bk v L op ka kb n) (hs : a.eval sT = v) {k m : Int} {fv : Value} {fr : List (Int × Int)} (F : FromAt W fv fr) (hx : a.eval xT = .slice (some ⟨W.heap.size, 0, none⟩) 1 1) (hL : L.length < 1000)
    (h : ∀ v' W', RtAt w W' Bi Ba Bb Bk bk v' (L ++ [⟨k, m, fr⟩]) op ka kb n → K (a.put o.dst v') W') : if Region.wanted o (yielded ops a.tmps) = true then Oper.wp Try.prog o a (W.alloc (.cells #[.int .i64 k, .int .i64 m, fv] 83)) K Q else E := by
  obtain ⟨i0, hi, hz0, hz1, hz2⟩ := info_parts info_touch
  obtain ⟨xs, hown, hC⟩ := T.t
  have hlow := T.low.size
  refine step_append_lies _ hgd sT xT 44 ho w.heap.size 83 i0 (.agg #[.int .i64 0, .int .i64 0, .slice none 0 0]) 3 40 Try.underlying44 hi hz0 hz1 hz2 rfl (by decide) v L.length xs hs (hown.alloc _) ⟨W.heap.size, 0, none⟩ 1 1 [.int .i64 k, .int .i64 m, fv] hx rfl (cell_row_of _ _ _) (fun x hx => by simp at hx; rcases hx with rfl | rfl | rfl <;> first | rfl | exact F.oneCell) (by decide) (by unfold maxLen; omega) (by omega) (by simp; omega) _ rfl ?_
  intro g cap W' hown' hgrow' _ _
  have hb := (Below.refl W.heap.size W).alloc (Nat.le_refl _) (.cells #[.int .i64 k, .int .i64 m, fv] 83)
  exact h _ _ (T.app hb (TsC.one (F.keep (.of_below hb))) hown hC hown' hgrow')
/-- append of a known row of touches. -/
theorem rt_listM {ops : Array Oper} {rest : List Oper} {o : Oper} {a : Act} {Q : Exit → Act → World → Prop} (hgd : o.guard = none) (sT xT : Operand) (ho : o.op = .call { callee := .builtin .append, args := #[sT, xT], argTypes := #[44, 44] })
    (T : RtAt w W Bi Ba Bb Bk bk v L op ka kb n) (hs : a.eval sT = v) {M : List Tt} {news : List Value} {B c : Nat} (hM : TsC W news M) (hB : Cells W B 83 news.toArray) (hx : a.eval xT = .slice (some ⟨B, 0, none⟩) M.length c) (hm : 0 < M.length ∧ M.length < 100) (hL : L.length < 1000)
    (h : ∀ v' W', RtAt w W' Bi Ba Bb Bk bk v' (L ++ M) op ka kb n → wpList Try.prog ops Q rest (a.put o.dst v') W') : wpList Try.prog ops Q (o :: rest) a W := by
  obtain ⟨i0, hi, hz0, hz1, hz2⟩ := info_parts info_touch
  obtain ⟨xs, hown, hC⟩ := T.t
  have hlow := T.low.size
  refine wpList_append_lies _ hgd sT xT 44 ho w.heap.size 83 i0 (.agg #[.int .i64 0, .int .i64 0, .slice none 0 0]) 3 40 Try.underlying44 hi hz0 hz1 hz2 rfl (by decide) v L.length xs hs hown ⟨B, 0, none⟩ M.length c news hx hM.len (fun j u hu => World.news_of_block (show W.heap[B]? = some (.cells news.toArray 83 (0, 0)) from hB) j u (by simpa using hu)) hM.oneCell hm.1 (by unfold maxLen; omega) (by omega) hlow _ rfl ?_
  intro g cap W' hown' hgrow' _ _
  exact h _ _ (T.app (Below.refl _ _) hM hown hC hown' hgrow')
end
end Go.Proofs.Ytmpnlhfnemidpaa
