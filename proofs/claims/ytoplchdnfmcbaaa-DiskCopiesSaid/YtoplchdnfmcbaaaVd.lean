/- Used's iterator; used: contracts. -/
import Derived.Test.YtoplchdnfmcbaaaVc
namespace Go.Proofs.Ytoplchdnfmcbaaa
open Go.RowKit Go.Shelf
attribute [local go_sem] Oper.semAt_some

theorem Rd.of_ownA {W : World} {base : Nat} {e : TypeId} {A : Option Addr} {n c : Nat} {k : IntKind} {l : List Int} (h : W.ownsRow base e 1 (.slice A n c) n (l.map (Value.int k))) (hn : n = l.length) : Rd W W.heap.size k A l := by
  subst hn
  rcases h.2 with ⟨h1, h0⟩ | ⟨g, cap, cur, hv, _⟩
  · obtain ⟨rfl, _⟩ : A = none ∧ True := ⟨by injection h1, trivial⟩
    exact ⟨fun h => by omega, fun _ _ e => by cases e⟩
  · cases hv; exact Rd.of_own h
set_option maxRecDepth 100000 in
set_option maxHeartbeats 1000000 in
theorem c35 {L : List Int} (l q : Nat) {A : Option Addr} {c : Nat} (J : Nat → World → Prop) (hL : L.length ≤ 65536)
    (hJ : ∀ k W, J k W → W.cell? ⟨q, 0, none⟩ = some (.slice A L.length c) ∧ Rd W W.heap.size .i64 A L)
    (hY : ∀ k x W, J k W → L[k]? = some x → YieldAt Fence.wide 0 Try.prog l #[.int .i64 x] W fun e W' => e = .returned (.bool true) ∧ J (k + 1) W')
    (w : World) (hw : J 0 w) :
    Calls Try.prog 35 #[.func (.yield l) #[] #[], .pointer (some ⟨q, 0, none⟩)] w fun e w' => e = .returned (.tuple #[]) ∧ J L.length w' := by
  rw [← callsIn_wide (n := 1)]
  have q0 := (hJ 0 w hw).1
  refine callsIn_of_wp Try.func35 rfl trivial ?_
  simp only [Try.ntmps35, List.size_toArray, List.length_cons, List.length_nil, Nat.reduceAdd, Nat.reduceSub, Array.replicate_succ, Array.replicate_zero, List.push_toArray, List.append_toArray, List.nil_append, List.cons_append]
  gi_wp2
  clear q0
  gi_loopw [7] (fun i wr => ∃ k : Nat, k ≤ L.length ∧ i = .int .i64 k ∧ J k wr) (fun i _ => L.length - (intOf i).toNat)
  case atStart => exact ⟨0, by omega, rfl, hw⟩
  case round =>
    obtain ⟨k, hk, rfl, hj⟩ := hrel
    have hr := (hJ k wr hj).2
    by_cases hlt : k < L.length
    · obtain ⟨x, hx⟩ : ∃ x, L[k]? = some x := ⟨_, List.getElem?_eq_getElem hlt⟩
      obtain ⟨g, off, rfl, hg⟩ := hr.some_ (by omega)
      have cx := hr.cell g off rfl k x hx
      obtain ⟨fn, tmps, assign, body, hy, hR⟩ := hY k x wr hj hx
      clear hx
      gi_wp2
      refine hR.mono ?_
      rintro e W' ⟨rfl, hj'⟩
      gi_wp2
      refine ⟨⟨k + 1, by omega, by go_num, hj'⟩, ?_⟩
      simp [intOf]; omega
    · obtain rfl : k = L.length := by omega
      gi_wp2_with fail
      go_end0
      exact ⟨rfl, hj⟩
/-- used, behind k numbers. -/
structure JU (w : World) (S : Nat) (r : Loop) (Aw : Option Addr) (cw : Nat) (L : List Int) (q : Nat) (A : Option Addr) (c k : Nat) (W : World) : Prop where
  lp : W.heap[S + 1]? = some (.loop r)
  dfr : W.heap[S]? = some (.deferred (some []))
  wb : Cells W w.heap.size 51 #[.slice Aw L.length cw]
  ret : Cells W (w.heap.size + 1) 4 #[.bool false]
  at_ : Cells W (w.heap.size + 2) 3 #[.int .i64 k]
  box : Cells W q 51 #[.slice A L.length c]
  own : W.ownsRow (w.heap.size + 3) 3 1 (.slice A L.length c) L.length (L.map (Value.int .i64))
  low : Below w.heap.size w W
  hS : w.heap.size + 3 ≤ q ∧ q < S
theorem own_set {W : World} {base : Nat} {e : TypeId} {v : Value} {n B : Nat} {xs : List Value} (h : W.ownsRow base e 1 v n xs) (hB : ∀ g, v.ownBlock = some g → g ≠ B) (j : Nat) (u : Value) : (W.setCell ⟨B, j, none⟩ u).ownsRow base e 1 v n xs := by
  refine ⟨h.1, ?_⟩
  rcases h.2 with hn | ⟨g, cap, cur, rfl, hg, hgg, rest⟩
  · exact .inl hn
  · exact .inr ⟨g, cap, cur, rfl, hg, (Below.heap_setCell W ⟨B, j, none⟩ u g (hB g rfl)).trans hgg, rest⟩
section
variable {w W : World} {S : Nat} {r : Loop} {Aw : Option Addr} {cw : Nat} {L : List Int} {q : Nat} {A : Option Addr} {c k : Nat}
theorem JU.put (h : JU w S r Aw cw L q A c k W) (rb : Loop) : JU w S rb Aw cw L q A c k (W.putObj (S + 1) (.loop rb)) := by
  obtain ⟨h1, h2, h3, h4, h5, h6, h7, h8, h9⟩ := h
  exact ⟨World.putObj_heap_same (Array.getElem?_eq_some_iff.1 h1).1, (World.putObj_heap_other (by omega)).trans h2, h3.put _ (by omega), h4.put _ (by omega), h5.put _ (by omega), h6.put _ (by omega), ownsRow_putObj h7 _ h1 rfl, h8.grown (grownBy_putObj' _ _ _) h8.size (fun k e => by cases e; omega), h9⟩
theorem JU.set (h : JU w S r Aw cw L q A c k W) (k' : Int) {k1 : Nat} (hk : k' = k1) : JU w S r Aw cw L q A c k1 (W.setCell ⟨w.heap.size + 2, 0, none⟩ (.int .i64 k')) := by
  subst hk
  obtain ⟨h1, h2, h3, h4, h5, h6, h7, h8, h9⟩ := h
  have hb : ∀ j, j ≠ w.heap.size + 2 → (W.setCell ⟨w.heap.size + 2, 0, none⟩ (.int .i64 k1)).heap[j]? = W.heap[j]? := fun j hj => Below.heap_setCell _ _ _ _ hj
  exact ⟨(hb _ (by omega)).trans h1, (hb _ (by omega)).trans h2, (hb _ (by omega)).trans h3, (hb _ (by omega)).trans h4, h5.set 0 _, (hb _ (by omega)).trans h6, own_set h7 (fun b e => by have := (h7.lt b e).1; omega) _ _, h8.setCell (by show w.heap.size ≤ w.heap.size + 2; omega) _, h9⟩
theorem JU.start (k0 : Cells W w.heap.size 51 #[.slice Aw L.length cw]) (k1 : Cells W (w.heap.size + 1) 4 #[.bool false]) (k2 : Cells W (w.heap.size + 2) 3 #[.int .i64 0]) (kq : Cells W q 51 #[.slice A L.length c])
    (ho : W.ownsRow (w.heap.size + 3) 3 1 (.slice A L.length c) L.length (L.map (Value.int .i64))) (low : Below w.heap.size w W) (hq : w.heap.size + 3 ≤ q) : JU w W.heap.size r Aw cw L q A c 0 ((W.alloc (.deferred (some []))).alloc (.loop r)) := by
  have hd := World.alloc_heap_new W (.deferred (some []))
  have hl := World.alloc_heap_new (W.alloc (.deferred (some []))) (.loop r)
  have hd2 : ((W.alloc (.deferred (some []))).alloc (.loop r)).heap[W.heap.size]? = _ := (Below.heap_alloc _ _ _ (by rw [World.size_alloc]; omega)).trans hd
  rw [World.size_alloc] at hl
  have b1 := (Below.refl _ W).alloc (Nat.le_refl _) (.deferred (some []))
  have b2 := b1.alloc b1.size (.loop r)
  exact ⟨hl, hd2, k0.below b2 k0.lt, k1.below b2 k1.lt, k2.below b2 k2.lt, kq.below b2 kq.lt, own_below ho b2, low.trans (b2.mono low.size), hq, kq.lt⟩
end
theorem eq_fn (q : Nat) (W : World) : (binOp .eql 46 (.func (.func 35) #[] #[.pointer (some ⟨q, 0, none⟩)]) .nilFunc).run Try.prog W = .ok (.bool false) W := by
  first | rfl | kernel_rfl
theorem results_cell_one {P : Program} {fn : Func} {p : Tmp} {ty : TypeId} (h : fn.results = #[.cell p ty]) (tmps : Array Value) (w : World) (g : Nat) (v : Value) (hp : tmps.getD p undef = .pointer (some ⟨g, 0, none⟩)) (hl : (loadVar ty ⟨g, 0, none⟩).run P w = .ok v w) : (results fn tmps).run P w = .ok v w := by
  have hp' : tmps[p]?.getD undef = .pointer (some ⟨g, 0, none⟩) := by simpa using hp
  simp [results, h, hp', asAddr, hl]
set_option maxRecDepth 100000 in
set_option maxHeartbeats 2000000 in
theorem c30 {w : World} {db mb N : Nat} {m : List (Int × List Int)} (h : IsDisk w db mb N m) {Aw : Option Addr} {cw : Nat} {L : List Int} (hL : usedL (secL m) N = L) (hw : Rd w w.heap.size .i64 Aw L) : Calls Try.prog 30 #[.pointer (some ⟨db, 0, none⟩), .slice Aw L.length cw] w fun e w' => e = .returned (.bool true) ∧ Below w.heap.size w w' := by
  have hN : N ≤ 32 := by have := h.hi; omega
  have hLl : L.length ≤ 32 := by have := usedL_len (secL m) N; rw [hL] at this; omega
  rw [← callsIn_wide (n := 1)]
  refine callsIn_of_wp_marks Try.func30 rfl trivial ?_
  simp only [Try.ntmps30, List.size_toArray, List.length_cons, List.length_nil, Nat.reduceAdd, Nat.reduceSub, Array.replicate_succ, Array.replicate_zero, List.push_toArray, List.append_toArray, List.nil_append, List.cons_append]
  gi_wp2_with fail
  obtain ⟨k0, k1, hb2, s2⟩ := cells2 w #[.slice Aw L.length cw] #[.bool false] 51 4
  generalize (w.alloc _).alloc _ = W2 at *
  have k2 := Cells.new W2 3 #[.int .i64 0]
  have b3 := (Below.refl _ W2).alloc (Nat.le_refl _) (.cells #[.int .i64 0] 3)
  replace k0 := k0.alloc (.cells #[.int .i64 0] 3)
  replace k1 := k1.alloc (.cells #[.int .i64 0] 3)
  replace b3 := hb2.trans (b3.mono hb2.size)
  have s3 : (W2.alloc (.cells #[.int .i64 0] 3)).heap.size = w.heap.size + 3 := by rw [World.size_alloc, s2]
  rw [s2] at k2
  generalize W2.alloc _ = W3 at *
  clear hb2 s2
  have d3 := h.below b3
  refine ⟨trivial, (callsIn_wide.2 (c18 d3)).mono ?_⟩
  rintro e W4 ⟨q1, v1, rfl, -, -, -, b4⟩
  have d4 := d3.below b4
  replace k0 := k0.below b4 k0.lt
  replace k1 := k1.below b4 k1.lt
  replace k2 := k2.below b4 k2.lt
  have s4 := b4.size
  replace b4 := b3.trans (b4.mono b3.size)
  have D4 := Lib.hid (c18 d4)
  have heq := eq_fn q1
  clear d3 b3
  gi_wp2_with fail
  refine ⟨trivial, (callsIn_wide.2 D4.out).mono ?_⟩
  rintro e W5 ⟨q, v, rfl, hq, hbox, hown, b5⟩
  rw [hL] at hown
  obtain ⟨A, c, rfl⟩ := own_slice hown
  have start := fun r => JU.start (r := r) (k0.below b5 k0.lt) (k1.below b5 k1.lt) (k2.below b5 k2.lt) hbox (own_base hown (by omega)) (b4.trans (b5.mono b4.size)) (by omega)
  clear hown b5 b4 k0 k1 k2 D4 d4 hbox hq heq
  gi_wp2_with fail
  refine it_range rfl (enters_of Try.func35 (by kernel_rfl) rfl) ?_
  intro fn r hr
  replace start := start r
  generalize W5.heap.size = S at *
  generalize (W5.alloc _).alloc _ = W6 at *
  refine (c35 (L := L) (A := A) (c := c) (S + 1) q (JU w S r Aw cw L q A c) (by omega) ?hJ ?hY _ start).mono ?_
  case hJ => exact fun k W h => ⟨h.box.cell 0, Rd.of_ownA h.own rfl⟩
  case hY =>
    clear start
    intro k x W h hx
    refine it_round (r := r) h.lp (by rw [hr]) (by rw [hr]; rfl) ?_
    have ha' := congrArg Loop.assign hr
    have hb' := congrArg Loop.body hr
    have ht' := congrArg Loop.tmps hr
    have hps := congrArg Loop.params hr
    simp only at ha' hb' ht' hps
    intro rb hrb
    have hbk := it_back hrb (by rw [hr]) (by rw [hr])
    have HB := Lib.hid hbk
    clear hr hbk hrb
    rw [ha', hb', ht', hps]
    clear ha' hb' ht' hps
    have h6 := h.put rb
    have l6 := h.lp
    clear h
    gi_wp2
    refine ⟨_, rfl, l6, ?_⟩
    generalize World.putObj _ _ _ = W6 at *
    have hk : k < L.length := (List.getElem?_eq_some_iff.1 hx).1
    obtain ⟨g, off, rfl, hg⟩ := hw.some_ (by omega)
    have cx := (hw.below h6.low (Nat.le_refl _)).cell g off rfl k x hx
    have q1 := h6.at_.cell 0
    have q2 := h6.wb.cell 0
    have f1 := h6.at_.frozen 0
    simp at q1 q2
    have HJ := Lib.hid h6
    clear h6 l6 hx
    gi_wp2
    refine ⟨(HJ.out.set (k + 1) (k1 := k + 1) (by omega)).lp, rfl, ?_⟩
    rw [HB.out]
    exact (HJ.out.set (k + 1) (k1 := k + 1) (by omega)).put r
  rintro e w' ⟨rfl, h⟩
  refine ⟨_, _, rfl, h.lp, by rw [hr]; simp, ?_⟩
  have hp : r.pending = none := by rw [hr]
  simp only [hp]
  have h8 := h.put { r with state := .exhausted }
  simp only [hp] at h8
  clear h start hr hp
  generalize World.putObj _ _ _ = W8 at *
  have q1 := h8.at_.cell 0
  have q2 := h8.wb.cell 0
  have f3 := h8.ret.frozen 0
  have q3 := h8.ret.cell 0
  simp at q1 q2 q3
  have HJ := Lib.hid h8
  clear h8
  gi_wp2
  have D9 : (W8.setCell ⟨w.heap.size + 1, 0, none⟩ (.bool true)).heap[S]? = _ := (Below.heap_setCell _ _ _ _ (by show S ≠ w.heap.size + 1; have := HJ.out.hS; omega)).trans HJ.out.dfr
  have c9 : Cells (W8.setCell ⟨w.heap.size + 1, 0, none⟩ (.bool true)) (w.heap.size + 1) 4 #[.bool true] := HJ.out.ret.set 0 _
  have b9 : Below w.heap.size w (W8.setCell ⟨w.heap.size + 1, 0, none⟩ (.bool true)) := HJ.out.low.setCell (by show w.heap.size ≤ w.heap.size + 1; omega) _
  generalize World.setCell _ _ _ = W9 at *
  refine ⟨by simp, .inl ⟨_, _, rfl, run_takeDeferred D9, ?_⟩⟩
  have c10 := c9.put (l := S) (.deferred none) (by have := HJ.out.hS; omega)
  have q10 := c10.cell 0
  simp at q10
  exact ⟨_, results_cell_one rfl _ _ (w.heap.size + 1) (.bool true) rfl (by simp [loadVar, run_load, Sem.run_bind, Try.isAgg4, q10]), rfl, b9.grown (grownBy_putObj' _ _ _) b9.size (fun k e => by cases e; have := HJ.out.hS; omega)⟩
end Go.Proofs.Ytoplchdnfmcbaaa
