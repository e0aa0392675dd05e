/- The contract of words.Bytes: an iterator that keeps its word in a captured variable, and the loop over it. -/
import Derived.Test.YthimnljilgameaaA
import Derived.Test.YthimnljilgameaaIt
import Derived.WalkLawsBesides
import Derived.Laws.EntriesVeiled
namespace Go.Proofs.Ythimnljilgameaa
open Go.RowKit Go.Shelf
attribute [local go_sem] Oper.semAt_some

theorem c40 (a : Int) (w : World) : Calls Try.prog 40 #[.int .u32 a] w fun e w' => e = .returned (.func (.func 42) #[] #[.pointer (some ⟨w.heap.size + 1, 0, none⟩)]) ∧
    (w.alloc (.cells #[.int .u32 a] 22)).alloc (.cells #[.func (.func 41) #[] #[.pointer (some ⟨w.heap.size, 0, none⟩)]] 43) = w' := by
  go_enter Try.func40, Try.ntmps40
  go_wp2
  go_ret
  exact ⟨rfl, rfl⟩
theorem c41 (a : Int) (h0 : 0 ≤ a) (h1 : a < 4294967296) (B : Nat) (w : World) (hc : w.cell? ⟨B, 0, none⟩ = some (.int .u32 a)) (hf : w.frozen? ⟨B, 0, none⟩ = false) :
    Calls Try.prog 41 #[.pointer (some ⟨B, 0, none⟩)] w fun e w' => e = .returned (.int .u8 (a % 256)) ∧ w.setCell ⟨B, 0, none⟩ (.int .u32 (a / 256)) = w' := by
  go_enter Try.func41, Try.ntmps41
  go_wp2
  go_ret
  exact ⟨rfl, rfl⟩
/-- the loop of the iterator, whatever relation the rounds carry on -/
theorem c42 (a : Int) (h0 : 0 ≤ a) (h1 : a < 4294967296) (l Ba Bn : Nat) (J : Nat → World → Prop)
    (hJ : ∀ k W, J k W → W.cell? ⟨Bn, 0, none⟩ = some (.func (.func 41) #[] #[.pointer (some ⟨Ba, 0, none⟩)]) ∧ W.cell? ⟨Ba, 0, none⟩ = some (.int .u32 (a / 256 ^ k)) ∧ W.frozen? ⟨Ba, 0, none⟩ = false)
    (hY : ∀ k W, J k W → k < 4 → YieldAt Fence.wide 0 Try.prog l #[.int .i64 k, .int .u8 (a / 256 ^ k % 256)] (W.setCell ⟨Ba, 0, none⟩ (.int .u32 (a / 256 ^ (k + 1)))) fun e W' => e = .returned (.bool true) ∧ J (k + 1) W')
    (w : World) (hw : J 0 w) :
    Calls Try.prog 42 #[.func (.yield l) #[] #[], .pointer (some ⟨Bn, 0, none⟩)] w fun e w' => e = .returned (.tuple #[]) ∧ J 4 w' := by
  rw [← callsIn_wide (n := 1)]
  refine callsIn_of_wp Try.func42 rfl trivial ?_
  simp only [Try.ntmps42, List.size_toArray, List.length_cons, List.length_nil, Nat.reduceAdd, Nat.reduceSub, Array.replicate_succ, Array.replicate_zero, List.push_toArray, List.append_toArray, List.nil_append, List.cons_append]
  gi_wp2
  gi_loopw [4] (fun i wr => ∃ k : Nat, k ≤ 4 ∧ i = .int .i64 k ∧ J k wr) (fun i _ => 4 - (intOf i).toNat)
  case atStart => exact ⟨0, by omega, rfl, hw⟩
  case round =>
    obtain ⟨k, hk, rfl, hj⟩ := hrel
    obtain ⟨q1, q2, q3⟩ := hJ k wr hj
    by_cases hlt : k < 4
    · obtain ⟨fn, tmps, assign, body, hy, hR⟩ := hY k wr hj hlt
      have hp : (0 : Int) < 256 ^ k := Int.pow_pos (by decide)
      have hb : 0 ≤ a / 256 ^ k ∧ a / 256 ^ k < 4294967296 := ⟨Int.ediv_nonneg h0 (by omega), by have := Int.ediv_le_self (a := a) (256 ^ k) h0; omega⟩
      have hs : a / 256 ^ k / 256 = a / 256 ^ (k + 1) := by rw [Int.pow_succ, Int.ediv_ediv_of_nonneg (by omega)]
      have HS := Lib.hid hs
      clear hs
      gi_wp2_with (refine ⟨trivial, ?_⟩; gi_at_call 41; refine (callsIn_wide.2 (c41 _ hb.1 hb.2 _ _ q2 q3)).mono ?_; rintro e w' ⟨rfl, rfl⟩; rw [HS.out])
      refine hR.mono ?_
      rintro e W' ⟨rfl, hj'⟩
      gi_wp2
      go_roundw
      case rel => exact ⟨k + 1, by omega, by go_num, hj'⟩
      case measure => simp [intOf]; omega
    · obtain rfl : k = 4 := by omega
      gi_wp2_with fail
      go_end0
      exact ⟨rfl, hj⟩

/-- What 'out' holds behind k rounds. -/
def outA (a : Int) (k : Nat) : Array Value :=
  #[.int .u8 (if 0 < k then a % 256 else 0), .int .u8 (if 1 < k then a / 256 % 256 else 0), .int .u8 (if 2 < k then a / 65536 % 256 else 0), .int .u8 (if 3 < k then a / 16777216 % 256 else 0)]
/-- A block of cells of which none is frozen. -/
def Cells (W : World) (B : Nat) (t : TypeId) (c : Array Value) : Prop := W.heap[B]? = some (.cells c t (0, 0))
theorem Cells.lt {W : World} {B : Nat} {t : TypeId} {c : Array Value} (h : Cells W B t c) : B < W.heap.size := (Array.getElem?_eq_some_iff.1 h).1
theorem Cells.cell {W : World} {B : Nat} {t : TypeId} {c : Array Value} (h : Cells W B t c) (j : Nat) : W.cell? ⟨B, j, none⟩ = c[j]? := by
  simp [World.cell?, show W.heap[B]? = _ from h]
theorem Cells.frozen {W : World} {B : Nat} {t : TypeId} {c : Array Value} (h : Cells W B t c) (j : Nat) : W.frozen? ⟨B, j, none⟩ = false := by
  simp [World.frozen?, show W.heap[B]? = _ from h]
theorem Cells.new (W : World) (t : TypeId) (c : Array Value) : Cells (W.alloc (.cells c t)) W.heap.size t c := World.alloc_heap_new W _
theorem Cells.alloc {W : World} {B : Nat} {t : TypeId} {c : Array Value} (h : Cells W B t c) (o : Obj) : Cells (W.alloc o) B t c := (Below.heap_alloc W o B h.lt).trans h
theorem Cells.put {W : World} {B : Nat} {t : TypeId} {c : Array Value} (h : Cells W B t c) {l : Nat} (o : Obj) (hne : B ≠ l) : Cells (W.putObj l o) B t c := (World.putObj_heap_other hne).trans h
theorem Cells.other {W : World} {B : Nat} {t : TypeId} {c : Array Value} (h : Cells W B t c) {a : Addr} (v : Value) (hne : B ≠ a.block) : Cells (W.setCell a v) B t c := (Below.heap_setCell W a v B hne).trans h
theorem Cells.set {W : World} {B : Nat} {t : TypeId} {c : Array Value} (h : Cells W B t c) (j : Nat) (v : Value) : Cells (W.setCell ⟨B, j, none⟩ v) B t (c.setIfInBounds j v) := by
  obtain ⟨hlt, hk⟩ := Array.getElem?_eq_some_iff.1 h
  show (W.heap.modify B _)[B]? = _
  rw [Array.getElem?_eq_getElem (by rw [Array.size_modify]; exact hlt), Array.getElem_modify_self, hk]
  rfl

/-- What holds behind k rounds. -/
structure J29 (a : Int) (N : Nat) (r : Loop) (w : World) (k : Nat) (W : World) : Prop where
  lp : W.heap[N + 5]? = some (.loop r)
  dfr : W.heap[N + 4]? = some (.deferred (some []))
  nxt : Cells W (N + 3) 43 #[.func (.func 41) #[] #[.pointer (some ⟨N + 2, 0, none⟩)]]
  box : Cells W (N + 2) 22 #[.int .u32 (a / 256 ^ k)]
  out : Cells W (N + 1) 28 (outA a k)
  res : Cells W N 28 #[.int .u8 0, .int .u8 0, .int .u8 0, .int .u8 0]
  low : Below N w W
theorem outA_step (a : Int) (k : Nat) (hk : k < 4) : (outA a k).setIfInBounds k (.int .u8 (a / 256 ^ k % 256)) = outA a (k + 1) := by
  obtain rfl | rfl | rfl | rfl : k = 0 ∨ k = 1 ∨ k = 2 ∨ k = 3 := by omega
  all_goals simp [outA]

theorem j29_start (a : Int) (w : World) (r : Loop) : J29 a w.heap.size r w 0
    ((((((w.alloc (.cells #[.int .u8 0, .int .u8 0, .int .u8 0, .int .u8 0] 28)).alloc (.cells #[.int .u8 0, .int .u8 0, .int .u8 0, .int .u8 0] 28)).alloc (.cells #[.int .u32 a] 22)).alloc
      (.cells #[.func (.func 41) #[] #[.pointer (some ⟨w.heap.size + 1 + 1, 0, none⟩)]] 43)).alloc (.deferred (some []))).alloc (.loop r)) := by
  have s0 := Cells.new w 28 #[.int .u8 0, .int .u8 0, .int .u8 0, .int .u8 0]
  have b0 : Below w.heap.size w (w.alloc (.cells #[.int .u8 0, .int .u8 0, .int .u8 0, .int .u8 0] 28)) := (Below.refl _ _).alloc (Nat.le_refl _) _
  have n0 := World.size_alloc w (.cells #[.int .u8 0, .int .u8 0, .int .u8 0, .int .u8 0] 28)
  generalize w.alloc _ = w1 at *
  have s1 := Cells.new w1 28 #[.int .u8 0, .int .u8 0, .int .u8 0, .int .u8 0]
  have n1 := World.size_alloc w1 (.cells #[.int .u8 0, .int .u8 0, .int .u8 0, .int .u8 0] 28)
  replace s0 := s0.alloc (.cells #[.int .u8 0, .int .u8 0, .int .u8 0, .int .u8 0] 28)
  replace b0 := b0.alloc (by omega) (.cells #[.int .u8 0, .int .u8 0, .int .u8 0, .int .u8 0] 28)
  rw [n0] at s1 n1
  generalize w1.alloc _ = w2 at *
  have s2 := Cells.new w2 22 #[.int .u32 a]
  have n2 := World.size_alloc w2 (.cells #[.int .u32 a] 22)
  replace s0 := s0.alloc (.cells #[.int .u32 a] 22)
  replace s1 := s1.alloc (.cells #[.int .u32 a] 22)
  replace b0 := b0.alloc (by omega) (.cells #[.int .u32 a] 22)
  rw [n1] at s2 n2
  generalize w2.alloc _ = w3 at *
  have s3 := Cells.new w3 43 #[.func (.func 41) #[] #[.pointer (some ⟨w.heap.size + 1 + 1, 0, none⟩)]]
  have n3 := World.size_alloc w3 (.cells #[.func (.func 41) #[] #[.pointer (some ⟨w.heap.size + 1 + 1, 0, none⟩)]] 43)
  replace s0 := s0.alloc (.cells #[.func (.func 41) #[] #[.pointer (some ⟨w.heap.size + 1 + 1, 0, none⟩)]] 43)
  replace s1 := s1.alloc (.cells #[.func (.func 41) #[] #[.pointer (some ⟨w.heap.size + 1 + 1, 0, none⟩)]] 43)
  replace s2 := s2.alloc (.cells #[.func (.func 41) #[] #[.pointer (some ⟨w.heap.size + 1 + 1, 0, none⟩)]] 43)
  replace b0 := b0.alloc (by omega) (.cells #[.func (.func 41) #[] #[.pointer (some ⟨w.heap.size + 1 + 1, 0, none⟩)]] 43)
  rw [n2] at s3 n3
  generalize w3.alloc _ = w4 at *
  have s4 := World.alloc_heap_new w4 (.deferred (some []))
  have n4 := World.size_alloc w4 (.deferred (some []))
  rw [n3] at s4 n4
  have s5 := World.alloc_heap_new (w4.alloc (.deferred (some []))) (.loop r)
  rw [n4] at s5
  refine ⟨s5, (Below.heap_alloc _ _ _ (by rw [n4]; omega)).trans s4, (s3.alloc _).alloc _, ?_, (s1.alloc _).alloc _, (s0.alloc _).alloc _, (b0.alloc (by omega) _).alloc (by omega) _⟩
  simpa using (s2.alloc (.deferred (some []))).alloc (.loop r)

theorem c29 (a : Int) (h0 : 0 ≤ a) (h1 : a < 4294967296) (w : World) :
    Calls Try.prog 29 #[.int .u32 a] w fun e w' => e = .returned (.agg (outA a 4)) ∧ Below w.heap.size w w' := by
  rw [← callsIn_wide (n := 1)]
  refine callsIn_of_wp_marks Try.func29 rfl trivial ?_
  simp only [Try.ntmps29, List.size_toArray, List.length_cons, List.length_nil, Nat.reduceAdd, Nat.reduceSub, Array.replicate_succ, Array.replicate_zero, List.push_toArray, List.append_toArray, List.nil_append, List.cons_append]
  gi_wp2_with (refine ⟨trivial, ?_⟩; gi_at_call 40; refine (callsIn_wide.2 (c40 _ _)).mono ?_; rintro e w' ⟨rfl, rfl⟩)
  refine it_range rfl (enters_of Try.func42 (by kernel_rfl) rfl) ?_
  intro fn r hr
  simp only [World.size_alloc]
  refine (c42 a h0 h1 (w.heap.size + 5) (w.heap.size + 2) (w.heap.size + 3) (J29 a w.heap.size r w) ?hJ ?hY _ ?h0).mono ?_
  case hJ => exact fun k W h => ⟨h.nxt.cell 0, h.box.cell 0, h.box.frozen 0⟩
  case h0 => exact j29_start a w r
  case hY =>
    intro k W h hk
    refine it_round (r := r) ((Below.heap_setCell _ _ _ _ (by simp)).trans h.lp) (by rw [hr]) (by rw [hr]; rfl) ?_
    have o1 := h.out.other (a := ⟨w.heap.size + 2, 0, none⟩) (.int .u32 (a / 256 ^ (k + 1))) (by simp)
    have l1 : (W.setCell ⟨w.heap.size + 2, 0, none⟩ (.int .u32 (a / 256 ^ (k + 1)))).heap[w.heap.size + 5]? = some (.loop r) := (Below.heap_setCell _ _ _ _ (by simp)).trans h.lp
    have n1 := h.nxt.other (a := ⟨w.heap.size + 2, 0, none⟩) (.int .u32 (a / 256 ^ (k + 1))) (by simp)
    have r1 := h.res.other (a := ⟨w.heap.size + 2, 0, none⟩) (.int .u32 (a / 256 ^ (k + 1))) (by simp)
    have x1 := h.box.set 0 (.int .u32 (a / 256 ^ (k + 1)))
    have d1 := (Below.heap_setCell W ⟨w.heap.size + 2, 0, none⟩ (.int .u32 (a / 256 ^ (k + 1))) (w.heap.size + 4) (by simp)).trans h.dfr
    have b1 := h.low.setCell (p := ⟨w.heap.size + 2, 0, none⟩) (by simp) (.int .u32 (a / 256 ^ (k + 1)))
    generalize World.setCell _ _ _ = W1 at *
    have ha := congrArg Loop.assign hr
    have hb := congrArg Loop.body hr
    have ht := congrArg Loop.tmps hr
    have hps := congrArg Loop.params hr
    simp only at ha hb ht hps
    intro rb hrb
    have hbk := it_back hrb (by rw [hr]) (by rw [hr])
    have HB := Lib.hid hbk
    clear hr h hbk hrb
    rw [ha, hb, ht, hps]
    clear ha hb ht hps
    gi_wp2
    refine ⟨_, rfl, l1, ?_⟩
    replace o1 := o1.put (l := w.heap.size + 5) (.loop rb) (by omega)
    replace n1 := n1.put (l := w.heap.size + 5) (.loop rb) (by omega)
    replace r1 := r1.put (l := w.heap.size + 5) (.loop rb) (by omega)
    replace x1 := x1.put (l := w.heap.size + 5) (.loop rb) (by omega)
    replace d1 := (World.putObj_heap_other (w := W1) (r := w.heap.size + 5) (k := w.heap.size + 4) (o := .loop rb) (by omega)).trans d1
    replace b1 : Below w.heap.size w (W1.putObj (w.heap.size + 5) (.loop rb)) := b1.grown (grownBy_putObj' _ _ _) (by have := b1.size; omega) (fun k e => by cases e; omega)
    replace l1 := World.putObj_heap_same (w := W1) (r := w.heap.size + 5) (o := .loop rb) (Array.getElem?_eq_some_iff.1 l1).1
    generalize World.putObj _ _ _ = W2 at *
    obtain ⟨v, hv⟩ : ∃ v, (outA a k)[k]? = some v := ⟨_, Array.getElem?_eq_getElem (show k < 4 from hk)⟩
    have c1 := (o1.cell k).trans hv
    have f1 := o1.frozen k
    have L1 := Lib.hid l1
    have D1 := Lib.hid d1
    have HV := Lib.hid hv
    clear l1 d1 hv
    gi_wp2
    refine ⟨(Below.heap_setCell _ _ _ _ (by simp)).trans L1.out, rfl, ?_⟩
    have o3 := o1.set k (.int .u8 (a / 256 ^ k % 256))
    rw [outA_step a k hk] at o3
    rw [HB.out]
    have l3 : (W2.setCell ⟨w.heap.size + 1, k, none⟩ (.int .u8 (a / 256 ^ k % 256))).heap[w.heap.size + 5]? = _ := (Below.heap_setCell _ _ _ _ (by simp)).trans L1.out
    refine ⟨World.putObj_heap_same (Array.getElem?_eq_some_iff.1 l3).1, (World.putObj_heap_other (by omega)).trans ((Below.heap_setCell _ _ _ _ (by simp)).trans D1.out), (n1.other _ (by simp)).put _ (by omega), (x1.other _ (by simp)).put _ (by omega), o3.put _ (by omega), (r1.other _ (by simp)).put _ (by omega), ?_⟩
    exact (b1.setCell (by simp) _).grown (grownBy_putObj' _ _ _) (by have := (b1.setCell (p := ⟨w.heap.size + 1, k, none⟩) (by simp) (.int .u8 (a / 256 ^ k % 256))).size; omega) (fun k e => by cases e; omega)
  rintro e w' ⟨rfl, h⟩
  refine ⟨_, _, rfl, h.lp, by rw [hr]; simp, ?_⟩
  have hp : r.pending = none := by rw [hr]
  simp only [hp]
  have o2 := h.out.put (l := w.heap.size + 5) (.loop { r with state := .exhausted }) (by omega)
  have r2 := h.res.put (l := w.heap.size + 5) (.loop { r with state := .exhausted }) (by omega)
  have d2 : (w'.putObj (w.heap.size + 5) (.loop { r with state := .exhausted })).heap[w.heap.size + 4]? = some (.deferred (some [])) := (World.putObj_heap_other (by omega)).trans h.dfr
  have b2 : Below w.heap.size w (w'.putObj (w.heap.size + 5) (.loop { r with state := .exhausted })) := h.low.grown (grownBy_putObj' _ _ _) (by have := h.low.size; omega) (fun k e => by cases e; omega)
  simp only [hp] at o2 r2 d2 b2
  clear hr hp
  generalize World.putObj _ _ _ = W2 at *
  have q0 := o2.cell 0
  have q1 := o2.cell 1
  have q2 := o2.cell 2
  have q3 := o2.cell 3
  simp [outA] at q0 q1 q2 q3
  have p0 := r2.cell 0
  have p1 := r2.cell 1
  have p2 := r2.cell 2
  have p3 := r2.cell 3
  simp at p0 p1 p2 p3
  have f0 := r2.frozen 0
  have f1 := r2.frozen 1
  have f2 := r2.frozen 2
  have f3 := r2.frozen 3
  have D2 := Lib.hid d2
  clear d2
  gi_wp2
  have e4 := (((r2.set 0 (.int .u8 (a % 256))).set 1 (.int .u8 (a / 256 % 256))).set 2 (.int .u8 (a / 65536 % 256))).set 3 (.int .u8 (a / 16777216 % 256))
  have d4 := ((((Below.heap_setCell (((W2.setCell ⟨w.heap.size, 0, none⟩ (.int .u8 (a % 256))).setCell ⟨w.heap.size, 1, none⟩ (.int .u8 (a / 256 % 256))).setCell ⟨w.heap.size, 2, none⟩ (.int .u8 (a / 65536 % 256))) ⟨w.heap.size, 3, none⟩ (.int .u8 (a / 16777216 % 256)) (w.heap.size + 4) (by simp)).trans
    (Below.heap_setCell _ _ _ _ (by simp))).trans (Below.heap_setCell _ _ _ _ (by simp))).trans (Below.heap_setCell _ _ _ _ (by simp))).trans D2.out
  have b4 := (((b2.setCell (p := ⟨w.heap.size, 0, none⟩) (Nat.le_refl _) (.int .u8 (a % 256))).setCell (p := ⟨w.heap.size, 1, none⟩) (Nat.le_refl _) (.int .u8 (a / 256 % 256))).setCell (p := ⟨w.heap.size, 2, none⟩) (Nat.le_refl _) (.int .u8 (a / 65536 % 256))).setCell (p := ⟨w.heap.size, 3, none⟩) (Nat.le_refl _) (.int .u8 (a / 16777216 % 256))
  generalize World.setCell _ _ _ = W4 at *
  refine ⟨by simp, .inl ⟨_, _, rfl, run_takeDeferred d4, ?_⟩⟩
  have e5 := e4.put (l := w.heap.size + 4) (.deferred none) (by omega)
  have g0 := e5.cell 0
  have g1 := e5.cell 1
  have g2 := e5.cell 2
  have g3 := e5.cell 3
  simp at g0 g1 g2 g3
  refine ⟨.agg (outA a 4), by simp [results, Try.results29, go_sem, outA, g0, g1, g2, g3], rfl, b4.grown (grownBy_putObj' _ _ _) (by have := b4.size; omega) (fun k e => by cases e; omega)⟩
end Go.Proofs.Ythimnljilgameaa
