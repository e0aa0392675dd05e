/- Keep: its contract. -/
import Derived.Test.YtbleilbphadehaaDoorLm
import Derived.BigRegion
import Derived.RegionTactic
import Derived.Deep.DeepCutAuto
namespace Go.Proofs.YtbleilbphadehaaDoor
open Go.RowKit Go.Shelf

theorem info_u32 : (Tryd.prog.info? 28).map (fun i => (i.zero, i.size, i.bytes)) = some (some (.int .u32 0), 1, 4) := by kernel_rfl
/-- A table behind a call that may keep a set more. -/
def TabTo (W W' : World) (base p mn mj : Nat) (sv : Value) (most : Int) (L : List Int) (J : List ((Int × Int) × Int)) : Prop :=
  ∃ sv', TAt W' base p mn mj sv' most L J ∧ KeptBut (TabS p mn mj sv) W W' ∧ ∀ k, TabS p mn mj sv' k → TabS p mn mj sv k ∨ W.heap.size ≤ k
/-- A set behind the others. -/
theorem wpList_push {ops : Array Oper} {rest : List Oper} {o : Oper} {a : Act} {Q : Exit → Act → World → Prop} (hgd : o.guard = none) (s y : Operand) (ho : o.op = .call { callee := .builtin .append, args := #[s, y], argTypes := #[22, 22] }) {w : World} {b : Nat} {sv : Value} {L : List Int} {x : Int} (hs2 : w.ownsRow b 28 1 sv L.length (L.map (Value.int .u32))) (hL : L.length < 65536) (hb : b ≤ w.heap.size) (hs : a.eval s = sv) (hy : a.eval y = .slice (some ⟨w.heap.size, 0, none⟩) 1 1)
    (h : ∀ g cap w', w'.ownsRow b 28 1 (.slice (some ⟨g, 0, none⟩) (L.length + 1) cap) (L.length + 1) (L.map (Value.int .u32) ++ [.int .u32 x]) → (w.alloc (.cells #[.int .u32 x] 28)).grownBy w' sv.ownBlock → (sv.ownBlock = some g ∨ g = w.heap.size + 1) → wpList Tryd.prog ops Q rest (a.put o.dst (.slice (some ⟨g, 0, none⟩) (L.length + 1) cap)) w') : wpList Tryd.prog ops Q (o :: rest) a (w.alloc (.cells #[.int .u32 x] 28)) := by
  obtain ⟨i0, hi0, hz0, hz1, hz2⟩ := info_parts info_u32
  refine wpList_append_lies _ hgd s y 22 ho b 28 i0 (.int .u32 0) 1 4 Tryd.underlying22 hi0 hz0 hz1 hz2 rfl (by decide) sv _ _ hs (hs2.alloc _) ⟨w.heap.size, 0, none⟩ 1 1 [.int .u32 x] hy rfl (cell_one_new _ _ _) (fun x hx => by simp at hx; subst hx; rfl) (by decide) (by unfold maxLen; omega) (by omega) (by simp; omega) (w.heap.size + 1) (by simp) ?_
  exact fun g cap w3 h1 h2 h3 _ => h g cap w3 h1 h2 h3
section
variable {W : World} {base p mn mj : Nat} {sv : Value} {most : Int} {L : List Int} {J : List ((Int × Int) × Int)}
theorem TAt.to {W' : World} (h : TAt W base p mn mj sv most L J) (hb : Below W.heap.size W W') : TabTo W W' base p mn mj sv most L J :=
  ⟨sv, h.below hb, .of_below _ hb, fun _ hk => .inl hk⟩
set_option maxRecDepth 100000 in
theorem cKeep_arg (h : TAt W base p mn mj sv most L J) (hp : 0 < L.length) {x : Int} (hx : 65536 ≤ x) : Calls Tryd.prog 12 #[.pointer (some ⟨p, 0, none⟩), .int .u32 x] W fun e w' => e = .returned (.tuple #[.int .i64 0, .int .i64 2]) ∧ w' = W := by
  go_enter Tryd.func12, Tryd.ntmps12
  go_wp2_with fail
  refine (cNone h hp).mono ?_
  rintro e w' ⟨rfl, rfl⟩
  go_wp2
  refine bodyPost_ret (results_tmp2 rfl _ _ _) rfl ?_
  exact ⟨rfl, rfl⟩
theorem look_num (h : TAt W base p mn mj sv most L J) (x : Int) : (Instr.lookup 60 (.map (some mn)) (.int .u32 x) true).run Tryd.prog W = .ok (.tuple #[.int .i64 (((idxL x L 0).getD 0 : Nat) : Int), .bool (idxL x L 0).isSome]) W := by
  rw [run_lookup_ints_ok h.n Tryd.underlying60 Tryd.underlying28 (zero_int W) x, numL_lookup]
  cases idxL x L 0 <;> rfl
set_option maxRecDepth 100000 in
theorem cKeep_is (h : TAt W base p mn mj sv most L J) (hp : 0 < L.length) {x : Int} (hx : x < 65536) {n : Nat} (hi : idxL x L 0 = some n) : Calls Tryd.prog 12 #[.pointer (some ⟨p, 0, none⟩), .int .u32 x] W fun e w' => e = .returned (.tuple #[.int .i64 n, .int .i64 0]) ∧ w' = W := by
  have c2 := h.c.cell 2
  have hl := look_num h x
  rw [hi] at hl
  simp only [Option.getD_some, Option.isSome_some] at hl
  go_enter Tryd.func12, Tryd.ntmps12
  go_wp2_with fail
  refine (cNone h hp).mono ?_
  rintro e w' ⟨rfl, rfl⟩
  go_wp2
  refine bodyPost_ret (results_tmp2 rfl _ _ _) rfl ?_
  exact ⟨rfl, rfl⟩
set_option maxRecDepth 100000 in
theorem cKeep_full (h : TAt W base p mn mj sv most L J) (hp : 0 < L.length) {x : Int} (hx : x < 65536) (hi : idxL x L 0 = none) (hm : most ≤ L.length) : Calls Tryd.prog 12 #[.pointer (some ⟨p, 0, none⟩), .int .u32 x] W fun e w' => e = .returned (.tuple #[.int .i64 0, .int .i64 120]) ∧ Below W.heap.size W w' := by
  have h' := h
  obtain ⟨g, cap, rfl, hcap, hmax⟩ := h.form hp
  have c0 := h.c.cell 0
  have c1 := h.c.cell 1
  have c2 := h.c.cell 2
  have hl := look_num h x
  rw [hi] at hl
  simp only [Option.getD_none, Option.isSome_none] at hl
  go_enter Tryd.func12, Tryd.ntmps12
  go_wp2_with fail
  refine (cNone h' hp).mono ?_
  rintro e w' ⟨rfl, rfl⟩
  go_upto_region 8 with (fail)
  go_region
  go_wp2
  refine bodyPost_ret (results_tmp2 rfl _ _ _) rfl ?_
  exact ⟨rfl, (Below.refl _ _).drew⟩
theorem numL_new {x : Int} (hi : idxL x L 0 = none) : updL x (.int .i64 L.length) (numL L 0) = numL (L ++ [x]) 0 := by
  have h1 := findL_lookup x (numL L 0) 0
  rw [numL_lookup, hi] at h1
  have h2 : findL x (numL L 0) 0 = none := by
    cases h : findL x (numL L 0) 0 with
    | none => rfl
    | some q => rw [h] at h1; cases h1
  unfold updL
  rw [h2, numL_append, Nat.zero_add]
theorem TAt.ne (h : TAt W base p mn mj sv most L J) : p ≠ mn ∧ p ≠ mj ∧ (∀ g, sv.ownBlock = some g → g ≠ mn ∧ g ≠ mj ∧ g ≠ p) := by
  have hc := h.c
  unfold Cells at hc
  obtain ⟨es, c, hn, _⟩ := h.n
  obtain ⟨fs, d, hj, _⟩ := h.j
  refine ⟨?_, ?_, fun g hg => ?_⟩
  · rintro rfl; rw [hc] at hn; cases hn
  · rintro rfl; rw [hc] at hj; cases hj
  · rcases h.s.2 with ⟨rfl, _⟩ | ⟨g', cap, cur, rfl, _, hgg, _⟩
    · cases hg
    · simp only [Value.ownBlock, Option.some.injEq] at hg
      subst hg
      refine ⟨?_, ?_, ?_⟩
      · rintro rfl; rw [hgg] at hn; cases hn
      · rintro rfl; rw [hgg] at hj; cases hj
      · rintro rfl
        rw [hgg] at hc
        simp only [Option.some.injEq, Obj.cells.injEq] at hc
        exact absurd hc.2.1 (by decide)
theorem idx_push (x : Int) : ∀ (L : List Int) (k : Nat), idxL x L k = none → idxL x (L ++ [x]) k = some (k + L.length)
  | [], k, _ => by simp [idxL]
  | y :: L, k, h => by
    unfold idxL at h
    by_cases e : x = y
    · simp [e] at h
    · simp only [e, if_false] at h
      have := idx_push x L (k + 1) h
      simp only [List.cons_append, idxL, e, if_false, this, List.length_cons]
      congr 1; omega
theorem look_new {W : World} {x : Int} {L : List Int} {mn : Nat} (hi : idxL x L 0 = none) (h : MapAt .u32 W mn (numL (L ++ [x]) 0)) : (Instr.lookup 60 (.map (some mn)) (.int .u32 x) false).run Tryd.prog W = .ok (.int .i64 L.length) W := by
  rw [run_lookup_ints h Tryd.underlying60 Tryd.underlying28 (zero_int W) x, numL_lookup, idx_push x L 0 hi, Nat.zero_add]
  rfl
theorem own_form {W : World} {base : Nat} {e : TypeId} {size : Nat} {v : Value} {k : Nat} {xs : List Value} (h : W.ownsRow base e size v (k + 1) xs) : ∃ g cap, v = .slice (some ⟨g, 0, none⟩) (k + 1) cap := by
  rcases h.2 with ⟨_, h0⟩ | ⟨g, cap, _, hv, _⟩
  · omega
  · exact ⟨g, cap, hv⟩
theorem tab_new {W2 w3 : World} {o : Obj} {g g3 cap3 : Nat} {x : Int} (h : TAt W base p mn mj sv most L J) (hKB : KeptBut (TabS p mn mj sv) W W2) (hsz : W2.heap.size = W.heap.size) (hgo : sv.ownBlock = some g) (hgrow : (W2.alloc o).grownBy w3 sv.ownBlock) (hg3 : sv.ownBlock = some g3 ∨ g3 = W2.heap.size + 1)
    (hC3 : Cells w3 p 63 #[.int .i64 most, sv, .map (some mn), .map (some mj)]) (hown : w3.ownsRow base 28 1 (.slice (some ⟨g3, 0, none⟩) (L.length + 1) cap3) (L.length + 1) (L.map (Value.int .u32) ++ [.int .u32 x])) (hj2 : JAt W2 mj J)
    (hm4 : MapAt .u32 (w3.setCell ⟨p, 1, none⟩ (.slice (some ⟨g3, 0, none⟩) (L.length + 1) cap3)) mn (numL (L ++ [x]) 0)) : TabTo W (w3.setCell ⟨p, 1, none⟩ (.slice (some ⟨g3, 0, none⟩) (L.length + 1) cap3)) base p mn mj sv most (L ++ [x]) J := by
  have hne := h.ne
  have hpl := h.c.lt
  have hjl := hj2.lt
  have hp3 : g3 ≠ p := by
    rcases hg3 with e | e
    · exact (hne.2.2 g3 e).2.2
    · omega
  refine ⟨_, ⟨hC3.set 1 _, ?_, hm4, ?_, h.hp, h.hn, h.hj, h.hne⟩, (hKB.trans (.alloc _ W2 o)).trans ((KeptBut.of_grown hgrow (fun k e => .inr (.inr (.inr e)))).trans (.set (.inl rfl) 1 _)), ?_⟩
  · refine ⟨by simp, ?_⟩
    rcases hown.2 with ⟨h0, _⟩ | ⟨g', cap', cur, h0, hb, hgg, hr⟩
    · cases h0
    · cases h0
      exact .inr ⟨g3, cap3, cur, by simp, hb, (Below.heap_setCell w3 ⟨p, 1, none⟩ _ g3 hp3).trans hgg, by simpa using hr⟩
  · refine hj2.of_block ((Below.heap_setCell w3 ⟨p, 1, none⟩ _ mj (fun e => hne.2.1 e.symm)).trans ((hgrow.block mj (by simp; omega) (by rw [hgo]; exact fun e => (hne.2.2 g hgo).2.1 (Option.some.inj e).symm)).trans (Below.heap_alloc W2 o mj (by omega))))
  · rintro k (rfl | rfl | rfl | hk)
    · exact .inl (.inl rfl)
    · exact .inl (.inr (.inl rfl))
    · exact .inl (.inr (.inr (.inl rfl)))
    · simp only [Value.ownBlock, Option.some.injEq] at hk
      subst hk
      rcases hg3 with e | e
      · exact .inl (.inr (.inr (.inr e)))
      · exact .inr (by omega)
set_option maxHeartbeats 1000000 in
set_option maxRecDepth 100000 in
theorem cKeep_new (h : TAt W base p mn mj sv most L J) (hp : 0 < L.length) {x : Int} (hx : x < 65536) (hi : idxL x L 0 = none) (hm : (L.length : Int) < most) (hmo : most ≤ 65536) : Calls Tryd.prog 12 #[.pointer (some ⟨p, 0, none⟩), .int .u32 x] W fun e w' => e = .returned (.tuple #[.int .i64 L.length, .int .i64 0]) ∧ TabTo W w' base p mn mj sv most (L ++ [x]) J := by
  have h' := h
  obtain ⟨g, cap, rfl, hcap, hmax⟩ := h.form hp
  obtain ⟨i0, hi0, hz0, hz1, hz2⟩ := info_parts info_u32
  have c0 := h.c.cell 0
  have c1 := h.c.cell 1
  have c2 := h.c.cell 2
  have hl := look_num h x
  rw [hi] at hl
  simp only [Option.getD_none, Option.isSome_none] at hl
  obtain ⟨o, hupd, hmap⟩ := run_mapUpdate_ints (h.n.of_block (W' := W.drew.drew) rfl) Tryd.underlying60 Tryd.underlying28 x (.int .i64 L.length)
  go_enter Tryd.func12, Tryd.ntmps12
  go_wp2_with fail
  refine (cNone h' hp).mono ?_
  rintro e w' ⟨rfl, rfl⟩
  go_upto_region 8 with (fail)
  go_region
  go_upto_region 10 with (fail)
  go_region
  have hne := h'.ne
  have hng := hne.2.2 g rfl
  rw [numL_new hi] at hmap
  have hKB : KeptBut (TabS p mn mj (.slice (some ⟨g, 0, none⟩) L.length cap)) w' (w'.drew.drew.putObj mn o) := (KeptBut.of_below _ ((Below.refl _ w').drew.drew)).trans (.put (.inr (.inl rfl)) o)
  have hC2 : Cells (w'.drew.drew.putObj mn o) p 63 #[.int .i64 most, .slice (some ⟨g, 0, none⟩) L.length cap, .map (some mn), .map (some mj)] := (show Cells w'.drew.drew p _ _ from h'.c).put o hne.1
  have hs2 : (w'.drew.drew.putObj mn o).ownsRow base 28 1 (.slice (some ⟨g, 0, none⟩) L.length cap) L.length (L.map (Value.int .u32)) := by
    refine ⟨h'.s.1, ?_⟩
    rcases h'.s.2 with ⟨h0, _⟩ | ⟨g', cap', cur, h0, hb, hgg, hr⟩
    · cases h0
    · cases h0
      exact .inr ⟨g, cap, cur, rfl, hb, (World.putObj_heap_other (w := w'.drew.drew) hng.1).trans hgg, hr⟩
  have hj2 : JAt (w'.drew.drew.putObj mn o) mj J := (show JAt w'.drew.drew mj J from h'.j).of_block (World.putObj_heap_other (fun e => h'.hne e.symm))
  have hsz : (w'.drew.drew.putObj mn o).heap.size = w'.heap.size := by simp [World.putObj]
  have hpl := h'.c.lt
  obtain ⟨hbg, hgl⟩ := h'.s.lt g rfl
  have hnl := h'.n.lt
  have hH := Lib.hid h'
  clear h h' hupd c0 c1 c2 hl
  generalize w'.drew.drew.putObj mn o = W2 at *
  have hgo : (Value.slice (some ⟨g, 0, none⟩) L.length cap).ownBlock = some g := rfl
  generalize hsv : Value.slice (some ⟨g, 0, none⟩) L.length cap = sv at *
  have c1 := (hC2.cell 1).trans (show _ = some sv from rfl)
  have c2 := (hC2.cell 2).trans (show _ = some (Value.map (some mn)) from rfl)
  go_wp2_with (first
    | (at_builtin; refine wpList_push rfl _ _ rfl hs2 (by omega) (by omega) (by simp [Act.eval]) (by simp [Act.eval]) ?_; intro g3 cap3 w3 hown' hgrow3 hg3; have hC3 : Cells w3 p 63 #[.int .i64 most, sv, .map (some mn), .map (some mj)] := (hgrow3.block p (hC2.alloc _).lt (by rw [hgo]; exact fun e => hng.2.2 (Option.some.inj e).symm)).trans (hC2.alloc _); have y1 := (hC3.cell 1).trans (show _ = some sv from rfl); have yz := hC3.frozen 1; have y2 := (hC3.cell 2).trans (show _ = some (Value.map (some mn)) from rfl); have hm3 : MapAt .u32 w3 mn (numL (L ++ [x]) 0) := hmap.of_block ((hgrow3.block mn (by simp; omega) (by rw [hgo]; exact fun e => hng.1 (Option.some.inj e).symm)).trans (Below.heap_alloc W2 _ mn (by omega))); have hm4 := hm3.of_block (Below.heap_setCell w3 ⟨p, 1, none⟩ (.slice (some ⟨g3, 0, none⟩) (L.length + 1) cap3) mn (fun e => hne.1 e.symm)); have hl3 := look_new hi hm4))
  refine bodyPost_ret (results_tmp2 rfl _ _ _) rfl ?_
  rw [hsv]
  exact ⟨rfl, tab_new hH.out hKB hsz hgo hgrow3 hg3 hC3 hown' hj2 hm4⟩
end
end Go.Proofs.YtbleilbphadehaaDoor
