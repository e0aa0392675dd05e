/- What is given up with is caught: contracts. -/
import Derived.Test.YtbfmlmnhdogojaaGreatDoorGh
namespace Go.Proofs.YtbfmlmnhdogojaaGreatDoor
open Go.RowKit Go.Shelf

/-- The three results. -/
structure ResAt (W : World) (xb lb eb : Nat) (x1 x2 : Value) (line er : Int) : Prop where
  x : Cells W xb 33 #[x1, x2]
  l : Cells W lb 3 #[.int .i64 line]
  e : Cells W eb 25 #[.int .i64 er]
  xl : xb ≠ lb
  xe : xb ≠ eb
  le : lb ≠ eb
set_option maxRecDepth 100000 in
set_option maxHeartbeats 1000000 in
theorem cCatch {w : World} {xb lb eb : Nat} {x1 x2 : Value} {l0 e0 line er : Int} (h : ResAt w xb lb eb x1 x2 l0 e0) :
    CallsDIn Fence.wide 0 Tryz.prog 39 #[.pointer (some ⟨xb, 0, none⟩), .pointer (some ⟨lb, 0, none⟩), .pointer (some ⟨eb, 0, none⟩)] (.panicking (failC line er)) w fun e u' w' =>
      e = .returned (.tuple #[]) ∧ u' = .panicking [{ v := .iface 78 (.agg #[.int .i64 line, .int .i64 er]), recovered := true }] ∧ ResAt w' xb lb eb (.slice none 0 0) (.slice none 0 0) line er ∧ KeptBut (fun k => k = xb ∨ k = lb ∨ k = eb) w w' := by
  refine callsDIn_of_wpSIn Tryz.func39 rfl trivial fun c₀ cs hu => ?_
  have H := Lib.hid h
  clear h
  apply wpSIn_seq
  apply wpSIn_region
  simp only [Tryz.ntmps39, List.size_toArray, List.length_cons, List.length_nil, Nat.reduceAdd, Nat.reduceSub, Array.replicate_succ, Array.replicate_zero, List.push_toArray, List.append_toArray, List.nil_append, List.cons_append]
  simp [wpOpsSIn, go_sem, recoverD, hu, Exit.thenS, failC]
  have hta : ∀ W, (Instr.typeAssert (.iface 78 (.agg #[.int .i64 line, .int .i64 er])) 20 78 true).run Tryz.prog W = .ok (.tuple #[.agg #[.int .i64 line, .int .i64 er], .bool true]) W := fun W => by kernel_rfl
  refine wpSIn_of_wpIn rfl (wpIn_wide.2 ?_)
  go_wp2_with fail
  have hN := Cells.new w 78 #[.int .i64 line, .int .i64 er]
  have hx := H.out.x.alloc (.cells #[.int .i64 line, .int .i64 er] 78)
  have hl := H.out.l.alloc (.cells #[.int .i64 line, .int .i64 er] 78)
  have he := H.out.e.alloc (.cells #[.int .i64 line, .int .i64 er] 78)
  have lx := H.out.x.lt
  have ll := H.out.l.lt
  have le := H.out.e.lt
  have HB := Lib.hid ((Below.refl _ w).alloc (Nat.le_refl _) (.cells #[.int .i64 line, .int .i64 er] 78))
  generalize World.alloc _ _ = W1 at *
  have n1 := H.out.xl
  have n2 := H.out.xe
  have n3 := H.out.le
  have c0 := (hN.cell 0).trans (show _ = some (Value.int .i64 line) from rfl)
  have c1 := (hN.cell 1).trans (show _ = some (Value.int .i64 er) from rfl)
  have fx0 := hx.frozen 0
  have fx1 := hx.frozen 1
  have fl := hl.frozen 0
  have fe := he.frozen 0
  have cx0 := (hx.cell 0).trans (show _ = some x1 from rfl)
  have cx1 := (hx.cell 1).trans (show _ = some x2 from rfl)
  have cl := (hl.cell 0).trans (show _ = some (Value.int .i64 l0) from rfl)
  have ce := (he.cell 0).trans (show _ = some (Value.int .i64 e0) from rfl)
  have HC := Lib.hid (And.intro hx (And.intro hl he))
  clear hx hl he hN
  go_region
  obtain ⟨hx, hl, he⟩ := HC.out
  have k1 : KeptBut (fun k => k = xb ∨ k = lb ∨ k = eb) w ((((W1.setCell ⟨xb, 0, none⟩ (.slice none 0 0)).setCell ⟨xb, 1, none⟩ (.slice none 0 0)).setCell ⟨lb, 0, none⟩ (.int .i64 line)).setCell ⟨eb, 0, none⟩ (.int .i64 er)).drew :=
    (((((KeptBut.of_below _ HB.out).trans (KeptBut.set (.inl rfl) 0 _)).trans (KeptBut.set (.inl rfl) 1 _)).trans (KeptBut.set (.inr (.inl rfl)) 0 _)).trans (KeptBut.set (.inr (.inr rfl)) 0 _)).trans (KeptBut.of_below _ (Below.refl _ _).drew)
  have hX : ResAt ((((W1.setCell ⟨xb, 0, none⟩ (.slice none 0 0)).setCell ⟨xb, 1, none⟩ (.slice none 0 0)).setCell ⟨lb, 0, none⟩ (.int .i64 line)).setCell ⟨eb, 0, none⟩ (.int .i64 er)).drew xb lb eb (.slice none 0 0) (.slice none 0 0) line er := by
    refine ⟨?_, ?_, ?_, n1, n2, n3⟩
    · exact (((hx.set 0 (.slice none 0 0)).set 1 (.slice none 0 0)).other (a := ⟨lb, 0, none⟩) _ n1).other (a := ⟨eb, 0, none⟩) _ n2
    · exact (((hl.other (a := ⟨xb, 0, none⟩) (.slice none 0 0) (Ne.symm n1)).other (a := ⟨xb, 1, none⟩) (.slice none 0 0) (Ne.symm n1)).set 0 (.int .i64 line)).other (a := ⟨eb, 0, none⟩) _ n3
    · exact (((he.other (a := ⟨xb, 0, none⟩) (.slice none 0 0) (Ne.symm n2)).other (a := ⟨xb, 1, none⟩) (.slice none 0 0) (Ne.symm n2)).other (a := ⟨lb, 0, none⟩) (.int .i64 line) (Ne.symm n3)).set 0 (.int .i64 er)
  exact ⟨rfl, _, rfl, _, results_none rfl _ _ _, rfl, rfl, hX, k1⟩
/-- Nothing was given up with. -/
theorem cCatchNot (args : Array Value) (ha : args.size = 3) (w : World) :
    CallsDIn Fence.wide 0 Tryz.prog 39 args .returning w fun e u' w' => e = .returned (.tuple #[]) ∧ u' = .returning ∧ w' = w := by
  obtain ⟨a, b, c, rfl⟩ : ∃ a b c, args = #[a, b, c] := by
    match args, ha with
    | ⟨[a, b, c]⟩, _ => exact ⟨a, b, c, rfl⟩
  refine callsDIn_of_wpSIn Tryz.func39 rfl trivial fun c₀ cs hu => ?_
  apply wpSIn_seq
  apply wpSIn_region
  simp only [Tryz.ntmps39, List.size_toArray, List.length_cons, List.length_nil, Nat.reduceAdd, Nat.reduceSub, Array.replicate_succ, Array.replicate_zero, List.push_toArray, List.append_toArray, List.nil_append, List.cons_append]
  simp [wpOpsSIn, go_sem, recoverD, hu, Exit.thenS]
  refine wpSIn_of_wpIn rfl (wpIn_wide.2 ?_)
  go_wp2_with fail
  refine ⟨rfl, .returning, ?_, _, results_none rfl _ _ _, rfl, rfl, rfl⟩
  cases c₀
  simp_all
end Go.Proofs.YtbfmlmnhdogojaaGreatDoor
namespace Go.Proofs.YtbfmlmnhdogojaaGreatDoor
open Go.RowKit Go.Shelf

/-- What stays while lines are assembled, and holes filled in: all but the program's own blocks and the record. -/
structure JF (w : World) (xb lb eb pb pp qp qv S R : Nat) (r : Loop) (W : World) : Prop where
  lp : W.heap[S + 1]? = some (.loop r)
  dfr : W.heap[S]? = some (.deferred (some []))
  res : ResAt W xb lb eb (.slice none 0 0) (.slice none 0 0) 0 0
  pv : Cells W pp 79 #[.pointer (some ⟨pb, 0, none⟩)]
  sep : Cells W qp 9 #[.string ⟨#[10]⟩]
  save : Cells W qv 3 #[.int .i64 0]
  gl : Gl W
  low : Below w.heap.size w W
  hR : R ≤ W.heap.size
  sz : 8 ≤ w.heap.size
structure JO (w : World) (xb lb eb pb pp qs qp qv S R : Nat) : Prop where
  o1 : w.heap.size ≤ xb ∧ w.heap.size ≤ lb ∧ w.heap.size ≤ eb ∧ w.heap.size ≤ pb
  o2 : xb < pb ∧ lb < pb ∧ eb < pb
  o3 : pb < pp ∧ pp < qp ∧ qs < S ∧ pp < qs ∧ qp < S ∧ qv < S ∧ pp < qv ∧ qs ≠ qp ∧ qs ≠ qv
  o4 : S + 1 < R
section
variable {w W W' : World} {xb lb eb pb pp qs qp qv S R : Nat} {r : Loop}
/-- The blocks that are written. -/
def Own (pb qs R : Nat) (k : Nat) : Prop := k = pb ∨ k = qs ∨ R ≤ k
theorem JF.kept (h : JF w xb lb eb pb pp qp qv S R r W) (o : JO w xb lb eb pb pp qs qp qv S R) (k : KeptBut (Own pb qs R) W W') : JF w xb lb eb pb pp qp qv S R r W' := by
  obtain ⟨o1, o2, o3, o4⟩ := o
  obtain ⟨h1, h2, ⟨h3, h4, h5, h6, h7, h8⟩, h9, h10, h11, h12, h13, h14, h15⟩ := h
  have b := fun (q : Nat) (hq : q < W.heap.size) (hn : ¬ Own pb qs R q) => k.block q hq hn
  refine ⟨(b _ (by omega) (by unfold Own; omega)).trans h1, (b _ (by omega) (by unfold Own; omega)).trans h2, ⟨k.cells h3 (by unfold Own; omega), k.cells h4 (by unfold Own; omega), k.cells h5 (by unfold Own; omega), h6, h7, h8⟩, k.cells h9 (by unfold Own; omega), k.cells h10 (by unfold Own; omega), k.cells h11 (by unfold Own; omega), h12.kept k (fun q hq => by unfold Own; omega), h13.trans (k.below (fun q e => by unfold Own at e; omega) h13.size), Nat.le_trans h14 k.size, h15⟩
theorem JF.put (h : JF w xb lb eb pb pp qp qv S R r W) (o : JO w xb lb eb pb pp qs qp qv S R) (rb : Loop) : JF w xb lb eb pb pp qp qv S R rb (W.putObj (S + 1) (.loop rb)) := by
  obtain ⟨o1, o2, o3, o4⟩ := o
  obtain ⟨h1, h2, ⟨h3, h4, h5, h6, h7, h8⟩, h9, h10, h11, h12, h13, h14, h15⟩ := h
  have k : KeptBut (fun q => q = S + 1) W (W.putObj (S + 1) (.loop rb)) := ⟨rfl, rfl, rfl, by simp, fun q _ hq => World.putObj_heap_other hq⟩
  exact ⟨World.putObj_heap_same (Array.getElem?_eq_some_iff.1 h1).1, (World.putObj_heap_other (by omega)).trans h2, ⟨k.cells h3 (by omega), k.cells h4 (by omega), k.cells h5 (by omega), h6, h7, h8⟩, k.cells h9 (by omega), k.cells h10 (by omega), k.cells h11 (by omega), h12.kept k (fun q hq => by omega), h13.trans (k.below (fun q e => by omega) h13.size), by simpa using h14, h15⟩
/-- The program stays when the record is turned. -/
theorem PSI.put {vb vn vh : Value} {line : Int} {t : StV} (h : PSI W R pb vb vn vh line t) (o : JO w xb lb eb pb pp qs qp qv S R) (rb : Loop) : PSI (W.putObj (S + 1) (.loop rb)) R pb vb vn vh line t := by
  obtain ⟨o1, o2, o3, o4⟩ := o
  obtain ⟨hs, h1, h2⟩ := h
  have k : KeptBut (fun q => q = S + 1) W (W.putObj (S + 1) (.loop rb)) := ⟨rfl, rfl, rfl, by simp, fun q _ hq => World.putObj_heap_other hq⟩
  have hn : ∀ q, POwn pb vb vn vh q → ¬ q = S + 1 := fun q hq e => by
    rcases hq with e2 | e2 | e2 | e2
    · omega
    · have := (h1.b.lt q e2).1; omega
    · have := (h1.n.lt q e2).1; omega
    · have := (h1.h.lt q e2).1; omega
  refine ⟨hs, h1.kept k hn, h2.1, fun i v p e1 e2 => ?_⟩
  obtain ⟨a1, a2, a3, a4, a5⟩ := h2.2 i v p e1 e2
  refine ⟨a1, a2, a3, a4, fun op a b e => ?_⟩
  obtain ⟨ib, b1, b2, b3, c, b4⟩ := a5 op a b e
  exact ⟨ib, b1, b2, b3, c, k.cells b4 (by omega)⟩
theorem PSI.own {vb vn vh : Value} {line : Int} {t : StV} (h : PSI W R pb vb vn vh line t) {k : Nat} (hk : POwn pb vb vn vh k) : Own pb qs R k := by
  obtain ⟨hs, h1, -⟩ := h
  rcases hk with e | e | e | e
  · exact .inl e
  · exact .inr (.inr (h1.b.lt k e).1)
  · exact .inr (.inr (h1.n.lt k e).1)
  · exact .inr (.inr (h1.h.lt k e).1)
theorem PSI.atL {vb vn vh : Value} {line : Int} {t : StV} (h : PSI W R pb vb vn vh line t) (j : Int) : PSI (W.setCell ⟨pb, 0, none⟩ (.int .i64 j)) R pb vb vn vh j t := by
  obtain ⟨hs, h1, h2⟩ := h
  have k := KeptBut.set (W := W) (S := fun q => q = pb) rfl 0 (.int .i64 j)
  refine ⟨hs, h1.atL, h2.1, fun i v p e1 e2 => ?_⟩
  obtain ⟨a1, a2, a3, a4, a5⟩ := h2.2 i v p e1 e2
  refine ⟨a1, a2, a3, a4, fun op a b e => ?_⟩
  obtain ⟨ib, b1, b2, b3, c, b4⟩ := a5 op a b e
  exact ⟨ib, b1, b2, b3, c, k.cells b4 (fun e => b3 (.inl e))⟩
end
theorem wpF_block {f : FuncId} {P : Program} {id : Nat} {c : Code} {Q : Exit → Act → World → Prop} {a : Act} {w : World} (h : wpF f P c (Exit.inBlock id Q) a w) : wpF f P (Code.block id c) Q a w := by
  intro b k cs hb
  obtain ⟨e, a1, w1, hq, harr⟩ := h b (.inBlock id :: k) cs hb
  cases e with
  | normal => exact ⟨.normal, a1, w1, hq, Steps.head step_block (Steps.trans harr (.one step_inBlock))⟩
  | exit id' =>
    by_cases hid : id' = id
    · simp only [Exit.inBlock, hid, if_true] at hq
      exact ⟨.normal, a1, w1, hq, Steps.head step_block (harr k (by simp [exitTo, hid]))⟩
    · simp only [Exit.inBlock, hid, if_false] at hq
      have hne : (id == id') = false := by simp; exact fun h => hid h.symm
      exact ⟨.exit id', a1, w1, hq, fun k' hk => Steps.head step_block (harr k' (by simp [exitTo, hne, hk]))⟩
  | goto l => exact ⟨_, a1, w1, hq, fun k' hk => Steps.head step_block (harr k' (by simp [gotoIn, hk]))⟩
  | ret => exact ⟨_, a1, w1, hq, Arrives.of_steps (.one step_block) harr⟩
  | panic ch => exact ⟨_, a1, w1, hq, Arrives.of_steps (.one step_block) harr⟩
  | outgrown => exact ⟨_, a1, w1, hq, Arrives.of_steps (b := b) (k := k) (cs := cs) (e := .outgrown) (.one step_block) harr⟩
theorem startA {w W : World} {s : ByteArray} (hG : Gl w) (e : W = ((((((((w.alloc (.cells #[.slice none 0 0, .slice none 0 0] 33)).alloc (.cells #[.int .i64 0] 3)).alloc (.cells #[.int .i64 0] 25)).alloc (.cells #[.int .i64 0, .slice none 0 0, .slice none 0 0, .slice none 0 0] 82)).alloc (.cells #[.pointer (some ⟨w.heap.size + 3, 0, none⟩)] 79)).alloc (.cells #[.string s] 9)).alloc (.cells #[.string ⟨#[10]⟩] 9)).alloc (.cells #[.int .i64 0] 3))) (r : Loop) :
    JO w w.heap.size (w.heap.size + 1) (w.heap.size + 2) (w.heap.size + 3) (w.heap.size + 4) (w.heap.size + 5) (w.heap.size + 6) (w.heap.size + 7) (w.heap.size + 8) (w.heap.size + 10) ∧ W.heap.size = w.heap.size + 8 ∧
    JF w w.heap.size (w.heap.size + 1) (w.heap.size + 2) (w.heap.size + 3) (w.heap.size + 4) (w.heap.size + 6) (w.heap.size + 7) (w.heap.size + 8) (w.heap.size + 10) r ((W.alloc (.deferred (some []))).alloc (.loop r)) ∧
    PSI ((W.alloc (.deferred (some []))).alloc (.loop r)) (w.heap.size + 10) (w.heap.size + 3) (.slice none 0 0) (.slice none 0 0) (.slice none 0 0) 0 ⟨[], [], []⟩ ∧ Cells ((W.alloc (.deferred (some []))).alloc (.loop r)) (w.heap.size + 5) 9 #[.string s] := by
  subst e
  have b0 := Below.refl w.heap.size w
  have s0 : w.heap.size = w.heap.size := rfl
  have n0 := Cells.new w 33 #[.slice none 0 0, .slice none 0 0]
  replace b0 := b0.alloc b0.size (.cells #[.slice none 0 0, .slice none 0 0] 33)
  have s1 : (w.alloc (.cells #[.slice none 0 0, .slice none 0 0] 33)).heap.size = w.heap.size + 1 := by rw [World.size_alloc]
  generalize w.alloc (.cells #[.slice none 0 0, .slice none 0 0] 33) = W1 at *
  have n1 := Cells.new W1 3 #[.int .i64 0]
  rw [s1] at n1
  replace n0 := n0.alloc (.cells #[.int .i64 0] 3)
  replace b0 := b0.alloc b0.size (.cells #[.int .i64 0] 3)
  have s2 : (W1.alloc (.cells #[.int .i64 0] 3)).heap.size = w.heap.size + 2 := by rw [World.size_alloc, s1]
  generalize W1.alloc (.cells #[.int .i64 0] 3) = W2 at *
  have n2 := Cells.new W2 25 #[.int .i64 0]
  rw [s2] at n2
  replace n0 := n0.alloc (.cells #[.int .i64 0] 25)
  replace n1 := n1.alloc (.cells #[.int .i64 0] 25)
  replace b0 := b0.alloc b0.size (.cells #[.int .i64 0] 25)
  have s3 : (W2.alloc (.cells #[.int .i64 0] 25)).heap.size = w.heap.size + 3 := by rw [World.size_alloc, s2]
  generalize W2.alloc (.cells #[.int .i64 0] 25) = W3 at *
  have n3 := Cells.new W3 82 #[.int .i64 0, .slice none 0 0, .slice none 0 0, .slice none 0 0]
  rw [s3] at n3
  replace n0 := n0.alloc (.cells #[.int .i64 0, .slice none 0 0, .slice none 0 0, .slice none 0 0] 82)
  replace n1 := n1.alloc (.cells #[.int .i64 0, .slice none 0 0, .slice none 0 0, .slice none 0 0] 82)
  replace n2 := n2.alloc (.cells #[.int .i64 0, .slice none 0 0, .slice none 0 0, .slice none 0 0] 82)
  replace b0 := b0.alloc b0.size (.cells #[.int .i64 0, .slice none 0 0, .slice none 0 0, .slice none 0 0] 82)
  have s4 : (W3.alloc (.cells #[.int .i64 0, .slice none 0 0, .slice none 0 0, .slice none 0 0] 82)).heap.size = w.heap.size + 4 := by rw [World.size_alloc, s3]
  generalize W3.alloc (.cells #[.int .i64 0, .slice none 0 0, .slice none 0 0, .slice none 0 0] 82) = W4 at *
  have n4 := Cells.new W4 79 #[.pointer (some ⟨w.heap.size + 3, 0, none⟩)]
  rw [s4] at n4
  replace n0 := n0.alloc (.cells #[.pointer (some ⟨w.heap.size + 3, 0, none⟩)] 79)
  replace n1 := n1.alloc (.cells #[.pointer (some ⟨w.heap.size + 3, 0, none⟩)] 79)
  replace n2 := n2.alloc (.cells #[.pointer (some ⟨w.heap.size + 3, 0, none⟩)] 79)
  replace n3 := n3.alloc (.cells #[.pointer (some ⟨w.heap.size + 3, 0, none⟩)] 79)
  replace b0 := b0.alloc b0.size (.cells #[.pointer (some ⟨w.heap.size + 3, 0, none⟩)] 79)
  have s5 : (W4.alloc (.cells #[.pointer (some ⟨w.heap.size + 3, 0, none⟩)] 79)).heap.size = w.heap.size + 5 := by rw [World.size_alloc, s4]
  generalize W4.alloc (.cells #[.pointer (some ⟨w.heap.size + 3, 0, none⟩)] 79) = W5 at *
  have n5 := Cells.new W5 9 #[.string s]
  rw [s5] at n5
  replace n0 := n0.alloc (.cells #[.string s] 9)
  replace n1 := n1.alloc (.cells #[.string s] 9)
  replace n2 := n2.alloc (.cells #[.string s] 9)
  replace n3 := n3.alloc (.cells #[.string s] 9)
  replace n4 := n4.alloc (.cells #[.string s] 9)
  replace b0 := b0.alloc b0.size (.cells #[.string s] 9)
  have s6 : (W5.alloc (.cells #[.string s] 9)).heap.size = w.heap.size + 6 := by rw [World.size_alloc, s5]
  generalize W5.alloc (.cells #[.string s] 9) = W6 at *
  have n6 := Cells.new W6 9 #[.string ⟨#[10]⟩]
  rw [s6] at n6
  replace n0 := n0.alloc (.cells #[.string ⟨#[10]⟩] 9)
  replace n1 := n1.alloc (.cells #[.string ⟨#[10]⟩] 9)
  replace n2 := n2.alloc (.cells #[.string ⟨#[10]⟩] 9)
  replace n3 := n3.alloc (.cells #[.string ⟨#[10]⟩] 9)
  replace n4 := n4.alloc (.cells #[.string ⟨#[10]⟩] 9)
  replace n5 := n5.alloc (.cells #[.string ⟨#[10]⟩] 9)
  replace b0 := b0.alloc b0.size (.cells #[.string ⟨#[10]⟩] 9)
  have s7 : (W6.alloc (.cells #[.string ⟨#[10]⟩] 9)).heap.size = w.heap.size + 7 := by rw [World.size_alloc, s6]
  generalize W6.alloc (.cells #[.string ⟨#[10]⟩] 9) = W7 at *
  have n7 := Cells.new W7 3 #[.int .i64 0]
  rw [s7] at n7
  replace n0 := n0.alloc (.cells #[.int .i64 0] 3)
  replace n1 := n1.alloc (.cells #[.int .i64 0] 3)
  replace n2 := n2.alloc (.cells #[.int .i64 0] 3)
  replace n3 := n3.alloc (.cells #[.int .i64 0] 3)
  replace n4 := n4.alloc (.cells #[.int .i64 0] 3)
  replace n5 := n5.alloc (.cells #[.int .i64 0] 3)
  replace n6 := n6.alloc (.cells #[.int .i64 0] 3)
  replace b0 := b0.alloc b0.size (.cells #[.int .i64 0] 3)
  have s8 : (W7.alloc (.cells #[.int .i64 0] 3)).heap.size = w.heap.size + 8 := by rw [World.size_alloc, s7]
  generalize W7.alloc (.cells #[.int .i64 0] 3) = W8 at *
  have hd := World.alloc_heap_new W8 (.deferred (some []))
  have hl := World.alloc_heap_new (W8.alloc (.deferred (some []))) (.loop r)
  have hd2 : ((W8.alloc (.deferred (some []))).alloc (.loop r)).heap[W8.heap.size]? = _ := (Below.heap_alloc _ _ _ (by rw [World.size_alloc]; omega)).trans hd
  rw [World.size_alloc] at hl
  have d1 := (Below.refl _ W8).alloc (Nat.le_refl _) (.deferred (some []))
  have d2 := d1.alloc d1.size (.loop r)
  have sz : ((W8.alloc (.deferred (some []))).alloc (.loop r)).heap.size = w.heap.size + 10 := by rw [World.size_alloc, World.size_alloc, s8]
  generalize (W8.alloc (.deferred (some []))).alloc (.loop r) = W10 at *
  rw [s8] at hl hd2
  have hz := hG.sz
  have bb := b0.trans (d2.mono b0.size)
  refine ⟨⟨by omega, by omega, by omega, by omega⟩, s8, ⟨hl, hd2, ⟨n0.below d2 n0.lt, n1.below d2 n1.lt, n2.below d2 n2.lt, by omega, by omega, by omega⟩, n4.below d2 n4.lt, n6.below d2 n6.lt, n7.below d2 n7.lt, hG.b bb, bb, by omega, hz⟩, ?_, n5.below d2 n5.lt⟩
  exact ⟨[], ⟨n3.below d2 n3.lt, World.ownsRow_nil _ _ _ _, World.ownsRow_nil _ _ _ _, World.ownsRow_nil _ _ _ _, fun k e => by simp [Value.ownBlock] at e, fun k e => by simp [Value.ownBlock] at e, fun k e => by simp [Value.ownBlock] at e, by omega⟩, HolesAt.nil _ _ _⟩
end Go.Proofs.YtbfmlmnhdogojaaGreatDoor
