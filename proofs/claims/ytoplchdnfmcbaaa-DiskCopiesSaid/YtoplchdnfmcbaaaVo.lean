/- For the copies' law: Write of no disk, the iterator of none, one round alone; what is kept on the way. -/
import Derived.Test.YtoplchdnfmcbaaaVn
import Derived.Lib.Bytes
namespace Go.Proofs.Ytoplchdnfmcbaaa
open Go.RowKit Go.Shelf Go.Maps
attribute [local go_sem] Oper.semAt_some

set_option maxRecDepth 100000 in
/-- Write: of no disk. -/
theorem c15_nil (w : World) (n : Int) (cs : Array Value) : Calls Try.prog 15 #[.pointer none, .int .i64 n, .agg cs] w fun e w' => e = .returned (.int .i64 1) ∧ Below w.heap.size w w' := by
  obtain ⟨k1, k2, k3, hb, hs⟩ := cells3 w #[.pointer none] #[.int .i64 n] cs 24 3 28
  go_enter Try.func15, Try.ntmps15
  go_wp2_with fail
  refine (c26_nil _ n _).mono ?_
  rintro e w5 ⟨rfl, rfl⟩
  go_wp2
  go_ret
  exact ⟨rfl, hb⟩
/-- The iterator of no disk: it yields nothing. -/
theorem c32 (l : Nat) (w : World) : Calls Try.prog 32 #[.func (.yield l) #[] #[]] w fun e w' => e = .returned (.tuple #[]) ∧ w' = w := by
  go_enter Try.func32, Try.ntmps32
  go_wp2
  go_end0
  exact ⟨rfl, rfl⟩
set_option maxRecDepth 100000 in
set_option maxHeartbeats 1000000 in
/-- Used's iterator, left at its first number. -/
theorem c35b {L : List Int} (l q : Nat) {A : Option Addr} {c : Nat} (J0 J1 : World → Prop) (hL : L.length ≤ 65536)
    (hJ : ∀ W, J0 W → W.cell? ⟨q, 0, none⟩ = some (.slice A L.length c) ∧ Rd W W.heap.size .i64 A L)
    (hY : ∀ x W, J0 W → L[0]? = some x → YieldAt Fence.wide 0 Try.prog l #[.int .i64 x] W fun e W' => e = .returned (.bool false) ∧ J1 W')
    (h0 : L = [] → ∀ W, J0 W → J1 W) (w : World) (hw : J0 w) :
    Calls Try.prog 35 #[.func (.yield l) #[] #[], .pointer (some ⟨q, 0, none⟩)] w fun e w' => e = .returned (.tuple #[]) ∧ J1 w' := by
  cases L with
  | nil =>
    refine (c35 (L := []) l q (fun _ W => J0 W) hL (fun _ W h => hJ W h) (fun k x W _ hx => by simp at hx) w hw).mono ?_
    rintro e w' ⟨rfl, h⟩
    exact ⟨rfl, h0 rfl _ h⟩
  | cons x L =>
    rw [← callsIn_wide (n := 1)]
    have q0 := (hJ w hw).1
    have hpos : 0 < (x :: L).length := by simp
    have HY := Lib.hid (hY x · · rfl)
    generalize hl : (x :: L) = M at *
    have hx : M[0]? = some x := by rw [← hl]; rfl
    clear hl
    refine callsIn_of_wp Try.func35 rfl trivial ?_
    simp only [Try.ntmps35, List.size_toArray, List.length_cons, List.length_nil, Nat.reduceAdd, Nat.reduceSub, Array.replicate_succ, Array.replicate_zero, List.push_toArray, List.append_toArray, List.nil_append, List.cons_append]
    gi_wp2
    clear q0
    gi_loopw [7] (fun i wr => i = .int .i64 0 ∧ J0 wr) (fun _ _ => 0)
    case atStart => exact ⟨rfl, hw⟩
    case round =>
      obtain ⟨rfl, hj⟩ := hrel
      have hr := (hJ wr hj).2
      obtain ⟨g, off, rfl, hg⟩ := hr.some_ hpos
      have cx := hr.cell g off rfl 0 x hx
      rw [Nat.add_zero] at cx
      obtain ⟨fn, tmps, assign, body, hy, hR⟩ := HY.out wr hj
      clear hx
      gi_wp2
      refine hR.mono ?_
      rintro e W' ⟨rfl, hj'⟩
      gi_wp2
      exact bodyPost_ret (results_none rfl _ _ _) rfl ⟨rfl, hj'⟩
/-! ### Bytes -/
theorem strs_eq {l l' : List Int} (h : ∀ x ∈ l, 0 ≤ x ∧ x < 256) (h' : ∀ x ∈ l', 0 ≤ x ∧ x < 256) : strOfNums l = strOfNums l' ↔ l = l' := by
  refine ⟨fun e => ?_, fun e => by rw [e]⟩
  have e1 := congrArg (fun s => s.data.toList.map fun b => (b.toNat : Int)) e
  simp only [strOfNums_data, List.map_map] at e1
  have hm : ∀ l : List Int, (∀ x ∈ l, 0 ≤ x ∧ x < 256) → l.map ((fun b : UInt8 => (b.toNat : Int)) ∘ fun n => UInt8.ofNat n.toNat) = l := fun l h => by
    refine (List.map_congr_left fun x hx => ?_).trans (List.map_id l)
    have := h x hx
    simp only [Function.comp_apply, UInt8.toNat_ofNat', id]
    omega
  rw [hm l h, hm l' h'] at e1
  exact e1
theorem bytesL_bytes {f : Int → List Int} (hf : ∀ n, IsSec (f n)) : ∀ k, ∀ x ∈ bytesL f k, 0 ≤ x ∧ x < 256
  | 0, x, hx => by cases hx
  | k + 1, x, hx => by
    rw [bytesL, List.mem_append] at hx
    rcases hx with hx | hx
    · exact bytesL_bytes hf k x hx
    · exact (hf _).2 x hx
theorem bytesL_congr {f g : Int → List Int} : ∀ {k : Nat}, (∀ j : Int, 0 ≤ j ∧ j < k → f j = g j) → bytesL f k = bytesL g k
  | 0, _ => rfl
  | k + 1, h => by
    rw [bytesL, bytesL, bytesL_congr (fun j hj => h j ⟨hj.1, by omega⟩), h k ⟨by omega, by omega⟩]
theorem strs_beq {l l' : List Int} : ((strOfNums l).toList == (strOfNums l').toList) = true ↔ strOfNums l = strOfNums l' := by
  rw [beq_iff_eq, Lib.strOfNums_toList, Lib.strOfNums_toList]
  refine ⟨fun e => ?_, fun e => ?_⟩
  · have : (strOfNums l).data.toList = (strOfNums l').data.toList := e
    exact ByteArray.ext (Array.toList_inj.1 this)
  · exact congrArg (fun s => s.data.toList) e
theorem reps_eq {N : Nat} {m m' : List (Int × List Int)} {l l' : List Int} (hg : Good N m) (hg' : Good N m') (h : Rep l N (secL m)) (h' : Rep l' N (secL m')) : ((strOfNums l).toList == (strOfNums l').toList) = true ↔ ∀ j : Int, 0 ≤ j ∧ j < N → secL m j = secL m' j := by
  have e := bytesL_rep h
  have e' := bytesL_rep h'
  rw [strs_beq, strs_eq (by rw [← e]; exact bytesL_bytes hg.sec N) (by rw [← e']; exact bytesL_bytes hg'.sec N)]
  constructor
  · rintro rfl j hj
    rw [← h.2 j hj, ← h'.2 j hj]
  · intro hs
    rw [← e, ← e', bytesL_congr hs]
/-! ### What is kept on the way -/
/-- All that the copies' law keeps, in blocks below T. -/
structure Mid (w0 : World) (T : Nat) (N : Nat) (n : Int) (x : List Int) (db mb : Nat) (m' : List (Int × List Int)) (d2 mb2 : Nat) (m : List (Int × List Int)) (A1 : Option Addr) (l : List Int) (A5 : Option Addr) (l' : List Int) (q : Nat) (Aq : Option Addr) (cq Bh : Nat) (Ah : Option Addr) (ch : Nat) (U : List Int) (W : World) : Prop where
  act : Cells W w0.heap.size 37 (actA n x)
  ret : Cells W (w0.heap.size + 1) 4 #[.bool false]
  dd : IsDisk W db mb N m'
  dc : IsDisk W d2 mb2 N m
  rl : Rd W T .u8 A1 l
  rn : Rd W T .u8 A5 l'
  box : Cells W q 51 #[.slice Aq U.length cq]
  ru : Rd W T .i64 Aq U
  hb : Cells W Bh 51 #[.slice Ah U.length ch]
  rh : Rd W T .i64 Ah U
  low : Below w0.heap.size w0 W
  lt : w0.heap.size + 1 < T ∧ db < T ∧ mb < T ∧ d2 < T ∧ mb2 < T ∧ q < T ∧ Bh < T ∧ T ≤ W.heap.size
section
variable {w0 : World} {T N : Nat} {n : Int} {x : List Int} {db mb : Nat} {m' : List (Int × List Int)} {d2 mb2 : Nat} {m : List (Int × List Int)} {A1 : Option Addr} {l : List Int} {A5 : Option Addr} {l' : List Int} {q : Nat} {Aq : Option Addr} {cq Bh : Nat} {Ah : Option Addr} {ch : Nat} {U : List Int} {W W' : World}
theorem Mid.keep (h : Mid w0 T N n x db mb m' d2 mb2 m A1 l A5 l' q Aq cq Bh Ah ch U W) (hb : Below T W W') : Mid w0 T N n x db mb m' d2 mb2 m A1 l A5 l' q Aq cq Bh Ah ch U W' := by
  obtain ⟨h1, h2, h3, h4, h5, h6, h7, h8, h9, hA, hlow, l1, l2, l3, l4, l5, l6, l7, l8⟩ := h
  have hr : ∀ {k : IntKind} {A : Option Addr} {l : List Int}, Rd W T k A l → Rd W' T k A l := fun h => h.keep fun g hg => hb.block g hg
  exact ⟨(hb.block _ (by omega)).trans h1, (hb.block _ (by omega)).trans h2, h3.of_below hb l2 l3, h4.of_below hb l4 l5, hr h5, hr h6, (hb.block _ l6).trans h7, hr h8, (hb.block _ l7).trans h9, hr hA, hlow.trans (hb.mono (by omega)), l1, l2, l3, l4, l5, l6, l7, by have := hb.size; omega⟩
end
/-- A loop over an iterator that counts in the cell Bc; P is what else is kept. -/
structure Jk (P : World → Prop) (T S : Nat) (r : Loop) (Bc k : Nat) (W : World) : Prop where
  lp : W.heap[S + 1]? = some (.loop r)
  dfr : W.heap[S]? = some (.deferred (some []))
  at_ : Cells W Bc 3 #[.int .i64 k]
  p : P W
  hB : T ≤ Bc
  hS : Bc < S
section
variable {P : World → Prop} {T S : Nat} {r : Loop} {Bc k : Nat} {W : World}
theorem below_put {T : Nat} {W : World} (i : Nat) (o : Obj) (h1 : T ≤ i) (h2 : T ≤ W.heap.size) : Below T W (W.putObj i o) :=
  (Below.refl T W).grown (grownBy_putObj' _ _ _) h2 (fun k e => by cases e; exact h1)
theorem Jk.put (hP : ∀ W W', P W → Below T W W' → P W') (h : Jk P T S r Bc k W) (rb : Loop) : Jk P T S rb Bc k (W.putObj (S + 1) (.loop rb)) := by
  obtain ⟨h1, h2, h3, h4, h5, h6⟩ := h
  have hlt := (Array.getElem?_eq_some_iff.1 h1).1
  exact ⟨World.putObj_heap_same hlt, (World.putObj_heap_other (by omega)).trans h2, h3.put _ (by omega), hP _ _ h4 (below_put _ _ (by omega) (by omega)), h5, h6⟩
theorem Jk.set (hP : ∀ W W', P W → Below T W W' → P W') (h : Jk P T S r Bc k W) (k' : Int) {k1 : Nat} (hk : k' = k1) : Jk P T S r Bc k1 (W.setCell ⟨Bc, 0, none⟩ (.int .i64 k')) := by
  subst hk
  obtain ⟨h1, h2, h3, h4, h5, h6⟩ := h
  have hb : ∀ j, j ≠ Bc → (W.setCell ⟨Bc, 0, none⟩ (.int .i64 k1)).heap[j]? = W.heap[j]? := fun j hj => Below.heap_setCell _ _ _ _ hj
  exact ⟨(hb _ (by omega)).trans h1, (hb _ (by omega)).trans h2, h3.set 0 _, hP _ _ h4 ((Below.refl T W).setCell h5 _), h5, h6⟩
theorem Jk.start (hP : ∀ W W', P W → Below T W W' → P W') (h3 : Cells W Bc 3 #[.int .i64 k]) (h4 : P W) (h5 : T ≤ Bc) : Jk P T W.heap.size r Bc k ((W.alloc (.deferred (some []))).alloc (.loop r)) := by
  have hd := World.alloc_heap_new W (.deferred (some []))
  have hl := World.alloc_heap_new (W.alloc (.deferred (some []))) (.loop r)
  have hd2 : ((W.alloc (.deferred (some []))).alloc (.loop r)).heap[W.heap.size]? = _ := (Below.heap_alloc _ _ _ (by rw [World.size_alloc]; omega)).trans hd
  rw [World.size_alloc] at hl
  have b1 := (Below.refl _ W).alloc (Nat.le_refl _) (.deferred (some []))
  have b2 := b1.alloc b1.size (.loop r)
  exact ⟨hl, hd2, h3.below b2 h3.lt, hP _ _ h4 (b2.mono (by have := h3.lt; omega)), h5, h3.lt⟩
end
/-- What is kept behind such a loop. -/
structure Md (P : World → Prop) (T S Bc k T2 : Nat) (W : World) : Prop where
  p : P W
  at_ : Cells W Bc 3 #[.int .i64 k]
  dfr : W.heap[S]? = some (.deferred (some []))
  h : T ≤ Bc ∧ Bc < S ∧ S < T2
theorem Md.keep {P : World → Prop} {T S Bc k T2 : Nat} {W W' : World} (hP : ∀ W W', P W → Below T W W' → P W') (h : Md P T S Bc k T2 W) (hb : Below T2 W W') : Md P T S Bc k T2 W' := by
  obtain ⟨h1, h2, h3, h4, h5, h6⟩ := h
  exact ⟨hP _ _ h1 (hb.mono (by omega)), (hb.block _ (by omega)).trans h2, (hb.block _ (by omega)).trans h3, h4, h5, h6⟩
theorem Jk.md {P : World → Prop} {T S : Nat} {r : Loop} {Bc k : Nat} {W : World} (h : Jk P T S r Bc k W) : Md P T S Bc k W.heap.size W :=
  ⟨h.p, h.at_, h.dfr, h.hB, h.hS, (Array.getElem?_eq_some_iff.1 h.dfr).1⟩
/-- What is kept at the end. -/
structure Fin (P : World → Prop) (T S dw mw N1 de me N2 : Nat) (W : World) : Prop where
  p : P W
  dfr : W.heap[S]? = some (.deferred (some []))
  wide : IsDisk W dw mw N1 []
  empty : IsDisk W de me N2 []
  hT : T ≤ W.heap.size
theorem Fin.keep {P : World → Prop} {T S dw mw N1 de me N2 : Nat} {W W' : World} (hP : ∀ W W', P W → Below T W W' → P W') (h : Fin P T S dw mw N1 de me N2 W) (hb : Below W.heap.size W W') : Fin P T S dw mw N1 de me N2 W' :=
  ⟨hP _ _ h.p (hb.mono h.hT), (hb.block _ (Array.getElem?_eq_some_iff.1 h.dfr).1).trans h.dfr, h.wide.below hb, h.empty.below hb, Nat.le_trans h.hT hb.size⟩
theorem start_loop (W : World) (r r' : Loop) : ((W.alloc (.deferred (some []))).alloc (.loop r)).heap[W.heap.size + 1]? = some (.loop r) ∧
    (((W.alloc (.deferred (some []))).alloc (.loop r)).putObj (W.heap.size + 1) (.loop r')).heap[W.heap.size]? = some (.deferred (some [])) ∧
    Below W.heap.size W (((W.alloc (.deferred (some []))).alloc (.loop r)).putObj (W.heap.size + 1) (.loop r')) := by
  have hd := World.alloc_heap_new W (.deferred (some []))
  have hl := World.alloc_heap_new (W.alloc (.deferred (some []))) (.loop r)
  have hd2 : ((W.alloc (.deferred (some []))).alloc (.loop r)).heap[W.heap.size]? = _ := (Below.heap_alloc _ _ _ (by rw [World.size_alloc]; omega)).trans hd
  rw [World.size_alloc] at hl
  have b1 := (Below.refl _ W).alloc (Nat.le_refl _) (.deferred (some []))
  have b2 := b1.alloc b1.size (.loop r)
  have hs : W.heap.size ≤ ((W.alloc (.deferred (some []))).alloc (.loop r)).heap.size := b2.size
  exact ⟨hl, (World.putObj_heap_other (by omega)).trans hd2, b2.trans (below_put _ _ (by omega) hs)⟩
/-- The frame is left: three loops' deferred calls, of which there are none, and the result out of its cell. -/
theorem leave3 {fn : Func} (h : fn.results = #[.cell 6 4]) {tmps : Array Value} {w W : World} {S1 S2 S3 B : Nat} (hp : tmps.getD 6 undef = .pointer (some ⟨B, 0, none⟩)) (c : Cells W B 4 #[.bool true])
    (d1 : W.heap[S1]? = some (.deferred (some []))) (d2 : W.heap[S2]? = some (.deferred (some []))) (d3 : W.heap[S3]? = some (.deferred (some []))) (h0 : w.heap.size ≤ B) (h1 : B < S1) (h2 : S1 < S2) (h3 : S2 < S3) (low : Below w.heap.size w W) :
    LeavesInM Fence.wide 1 Try.prog fn tmps (fun e w' => e = .returned (.bool true) ∧ Below w.heap.size w w') [{ target := .collected S3, args := #[] }, { target := .collected S2, args := #[] }, { target := .collected S1, args := #[] }] .returning W := by
  have d2' : (W.putObj S3 (.deferred none)).heap[S2]? = _ := (World.putObj_heap_other (by omega)).trans d2
  have d1' : ((W.putObj S3 (.deferred none)).putObj S2 (.deferred none)).heap[S1]? = _ := (World.putObj_heap_other (by omega)).trans ((World.putObj_heap_other (by omega)).trans d1)
  have c' := ((c.put (l := S3) (.deferred none) (by omega)).put (l := S2) (.deferred none) (by omega)).put (l := S1) (.deferred none) (by omega)
  have q := c'.cell 0
  simp at q
  have b1 := low.trans (below_put S3 (.deferred none) (by omega) low.size)
  have b2 := b1.trans (below_put S2 (.deferred none) (by omega) b1.size)
  have b3 := b2.trans (below_put S1 (.deferred none) (by omega) b2.size)
  refine ⟨by simp, .inl ⟨_, _, rfl, run_takeDeferred d3, ⟨by simp, .inl ⟨_, _, rfl, run_takeDeferred d2', ⟨by simp, .inl ⟨_, _, rfl, run_takeDeferred d1', ?_⟩⟩⟩⟩⟩⟩
  exact ⟨_, results_cell_one h _ _ B (.bool true) hp (by simp [loadVar, run_load, Sem.run_bind, Try.isAgg4, q]), rfl, b3⟩
/-- A loop that may have been left: what comes behind it comes once. -/
theorem it_left {P : Program} {n id l : Nat} {Q : Exit → Act → World → Prop} {a : Act} {W : World} {r : Loop} {v : Value} (hl : W.heap[l]? = some (.loop r)) (hs : r.state ≠ .busy) (hp : r.pending = none ∨ r.pending = some (.exit id))
    (hQ : Q .normal a (W.putObj l (.loop { r with state := .exhausted }))) (hE : ∀ W, Q .normal a W → Q (.exit id) a W) : itPost P n l Q a (.returned v) W := by
  refine ⟨v, r, rfl, hl, hs, ?_⟩
  rcases hp with hp | hp
  · rw [hp] at hQ ⊢; exact hQ
  · simp only [hp] at hQ ⊢; exact wpIn_exit (hE _ hQ)
end Go.Proofs.Ytoplchdnfmcbaaa
