/- The contracts of slices.Chunk and of disk.Of. -/
import Derived.Test.YtoplchdnfmcbaaaF
import Derived.Test.YtoplchdnfmcbaaaRin
import Derived.BigRegionIn
namespace Go.Proofs.Ytoplchdnfmcbaaa
open Go.RowKit Go.Shelf
attribute [local go_sem] Oper.semAt_some

theorem c28 (A : Option Addr) (L c : Nat) (w : World) : Calls Try.prog 28 #[.slice A L c, .int .i64 64] w fun e w' => e = .returned (.func (.func 37) #[] #[.pointer (some ⟨w.heap.size, 0, none⟩), .pointer (some ⟨w.heap.size + 1, 0, none⟩)]) ∧
    (w.alloc (.cells #[.slice A L c] 25)).alloc (.cells #[.int .i64 64] 3) = w' := by
  go_enter Try.func28, Try.ntmps28
  go_wp2
  go_ret
  exact ⟨rfl, rfl⟩
set_option maxRecDepth 100000 in
theorem c37 (g off N c : Nat) (hN : 64 * N < 4611686018427387904) (hcap : 64 * N ≤ c) (l Bs Bn : Nat) (J : Nat → World → Prop)
    (hJ : ∀ k W, J k W → W.cell? ⟨Bs, 0, none⟩ = some (.slice (some ⟨g, off, none⟩) (64 * N) c) ∧ W.cell? ⟨Bn, 0, none⟩ = some (.int .i64 64))
    (hD : ∀ k W, J k W → J k W.drew)
    (hY : ∀ k W, J k W → k < N → YieldAt Fence.wide 0 Try.prog l #[.slice (some ⟨g, off + 64 * k, none⟩) 64 64] W fun e W' => e = .returned (.bool true) ∧ J (k + 1) W')
    (w : World) (hw : J 0 w) :
    Calls Try.prog 37 #[.func (.yield l) #[] #[], .pointer (some ⟨Bs, 0, none⟩), .pointer (some ⟨Bn, 0, none⟩)] w fun e w' => e = .returned (.tuple #[]) ∧ J N w' := by
  rw [← callsIn_wide (n := 1)]
  refine callsIn_of_wp Try.func37 rfl trivial ?_
  simp only [Try.ntmps37, List.size_toArray, List.length_cons, List.length_nil, Nat.reduceAdd, Nat.reduceSub, Array.replicate_succ, Array.replicate_zero, List.push_toArray, List.append_toArray, List.nil_append, List.cons_append]
  gi_wp2
  gi_loopw [4] (fun i wr => ∃ k : Nat, k ≤ N ∧ i = .int .i64 (64 * k) ∧ J k wr) (fun i _ => 64 * N - (intOf i).toNat)
  case atStart => exact ⟨0, by omega, rfl, hw⟩
  case round =>
    obtain ⟨k, hk, rfl, hj⟩ := hrel
    obtain ⟨q1, q2⟩ := hJ k wr hj
    obtain ⟨q1', q2'⟩ := hJ k wr.drew (hD k wr hj)
    by_cases hlt : k < N
    · have s0 : (0 : Int) ≤ 64 * (k : Int) := by omega
      have s1 : 64 * (k : Int) ≤ 64 * (N : Int) := by omega
      have s2 : (64 * (k : Int)).toNat = 64 * k := by omega
      have s3 : ¬ c = 64 * k := by omega
      have s4 : ¬ (((64 * N - 64 * k : Nat) : Int) < 64) := by omega
      gi_wp2_with fail
      refine wpIn_region_still Free.wide (by kernel_rfl) (by rintro ⟨_, _, h⟩; exact absurd h.1 (by simp)) (by kernel_rfl) (by kernel_rfl) ?_
      repeat still_step
      try refine wpStill_nil ?_
      obtain ⟨fn, tmps, assign, body, hy, hR⟩ := hY k wr.drew (hD k wr hj) hlt
      change Exit.then _ _ .normal _ wr.drew
      clear s4
      have s5 : (0 : Int) ≤ 64 * (k : Int) + 64 := by omega
      have s6 : 64 * (k : Int) + 64 ≤ (c : Int) := by omega
      have s7 : (64 * (k : Int) + 64).toNat = 64 * k + 64 := by omega
      have s8 : 64 * k + 64 - 64 * k = 64 := by omega
      have s9 : 64 * (k : Int) ≤ 64 * (k : Int) + 64 := by omega
      gi_wp2
      refine hR.mono ?_
      rintro e W' ⟨rfl, hj'⟩
      obtain ⟨_, r2⟩ := hJ (k + 1) W' hj'
      gi_wp2
      refine ⟨⟨k + 1, by omega, ?_, hj'⟩, ?_⟩
      · congr 1
      · simp [intOf]; omega
    · obtain rfl : k = N := by omega
      gi_wp2_with fail
      go_end0
      exact ⟨rfl, hj⟩

/-! ### Of -/
theorem own_cell (W : World) (t : TypeId) (z v : Value) : ∃ W', (W.alloc (.cells #[z] t)).setCell ⟨W.heap.size, 0, none⟩ v = W' ∧ Cells W' W.heap.size t #[v] ∧ Below W.heap.size W W' ∧ W'.heap.size = W.heap.size + 1 :=
  ⟨_, rfl, (Cells.new W t #[z]).set 0 v, ((Below.refl _ _).alloc (Nat.le_refl _) _).setCell (Nat.le_refl _) _, by simp [World.setCell]⟩
theorem c14_bad (A : Option Addr) (l : List Int) (c : Nat) (hl : l.length < 9223372036854775808) (hbad : ¬ (64 ≤ l.length ∧ l.length ≤ 2048 ∧ l.length % 64 = 0)) (w : World) :
    Calls Try.prog 14 #[.slice A l.length c] w fun e w' => e = .returned (.tuple #[.pointer none, .int .i64 2]) ∧ Below w.heap.size w w' := by
  rw [← callsIn_wide (n := 1)]
  refine callsIn_of_wp_marks Try.func14 rfl trivial ?_
  simp only [Try.ntmps14, List.size_toArray, List.length_cons, List.length_nil, Nat.reduceAdd, Nat.reduceSub, Array.replicate_succ, Array.replicate_zero, List.push_toArray, List.append_toArray, List.nil_append, List.cons_append]
  by_cases h1 : 1 ≤ l.length / 64 ∧ l.length / 64 ≤ 32
  · have h2 : ¬ ((l.length : Int) % 64 = 0) := by omega
    gi_wp2_with (refine ⟨trivial, ?_⟩; gi_at_call 22; refine (callsIn_wide.2 (c22 _ (by omega) (by omega) _)).mono ?_; rintro e w' ⟨rfl, hb, _⟩)
    exact ⟨_, by simp [results, Try.results14, go_sem], rfl, hb⟩
  · gi_wp2_with (refine ⟨trivial, ?_⟩; gi_at_call 22; refine (callsIn_wide.2 (c22_out _ (by omega) _)).mono ?_; rintro e w' ⟨rfl, rfl⟩)
    exact ⟨_, by simp [results, Try.results14, go_sem], rfl, Below.refl _ _⟩
/-- What holds behind k chunks. -/
structure JO (l : List Int) (g off N c : Nat) (B : Nat) (r : Loop) (w : World) (k : Nat) (W : World) : Prop where
  lp : W.heap[B + 5]? = some (.loop r)
  dfr : W.heap[B + 4]? = some (.deferred (some []))
  nn : Cells W (B + 3) 3 #[.int .i64 64]
  sl : Cells W (B + 2) 25 #[.slice (some ⟨g, off, none⟩) (64 * N) c]
  cnt : Cells W (B + 1) 3 #[.int .i64 k]
  fv : Cells W B 40 #[.func (.func 15) #[.pointer (some ⟨w.heap.size + 1, 0, none⟩)] #[]]
  dk : ∃ m, IsDisk W (w.heap.size + 1) w.heap.size N m ∧ ∀ j, 0 ≤ j ∧ j < (N : Int) → secL m j = if j < k then cutL l j else zeros
  low : Below w.heap.size w W
  hB : w.heap.size + 1 < B
theorem JO.keep {l : List Int} {g off N c B : Nat} {r : Loop} {w : World} {k : Nat} {W W' : World} (h : JO l g off N c B r w k W) (hb : Below (B + 6) W W') : JO l g off N c B r w k W' :=
  ⟨(hb.block _ (by omega)).trans h.lp, (hb.block _ (by omega)).trans h.dfr, (hb.block _ (by omega)).trans h.nn, (hb.block _ (by omega)).trans h.sl, (hb.block _ (by omega)).trans h.cnt, (hb.block _ (by omega)).trans h.fv,
    let ⟨m, hd, hj⟩ := h.dk; ⟨m, hd.of_below hb (by have := h.hB; omega) (by have := h.hB; omega), hj⟩, h.low.trans (hb.mono (by have := h.hB; omega)), h.hB⟩
set_option maxRecDepth 100000 in
theorem c14 {A : Option Addr} {l : List Int} {c N : Nat} (hl : l.length = 64 * N) (h1 : 1 ≤ N) (h2 : N ≤ 32) (hc : l.length ≤ c) {w : World} (hr : Rd w w.heap.size .u8 A l) (hsec : ∀ x ∈ l, 0 ≤ x ∧ x < 256) :
    Calls Try.prog 14 #[.slice A l.length c] w fun e w' => ∃ m, e = .returned (.tuple #[.pointer (some ⟨w.heap.size + 1, 0, none⟩), .int .i64 0]) ∧ Below w.heap.size w w' ∧ IsDisk w' (w.heap.size + 1) w.heap.size N m ∧ Rep l N (secL m) := by
  rw [← callsIn_wide (n := 1)]
  refine callsIn_of_wp_marks Try.func14 rfl trivial ?_
  obtain ⟨g, off, rfl, hg⟩ := hr.some_ (by omega)
  simp only [Try.ntmps14, List.size_toArray, List.length_cons, List.length_nil, Nat.reduceAdd, Nat.reduceSub, Array.replicate_succ, Array.replicate_zero, List.push_toArray, List.append_toArray, List.nil_append, List.cons_append]
  rw [hl]
  have d1 : (64 * (N : Int)) / 64 = N := by omega
  have d2 : (64 * (N : Int)) % 64 = 0 := by omega
  gi_wp2_with fail
  refine ⟨trivial, (callsIn_wide.2 (c22 (N : Int) (by omega) (by omega) w)).mono ?_⟩
  rintro e W1 ⟨rfl, hb1, hd1⟩
  have hB : w.heap.size + 1 < W1.heap.size := hd1.hd.lt
  obtain ⟨W2, e2, f2, b2, s2⟩ := own_cell W1 40 .nilFunc (.func (.func 15) #[.pointer (some ⟨w.heap.size + 1, 0, none⟩)] #[])
  obtain ⟨W3, e3, n3, b3, s3⟩ := own_cell W2 3 (.int .i64 0) (.int .i64 0)
  rw [s2] at e3 n3 b3 s3
  gi_wp2_with fail
  obtain ⟨k1, k2, k3, k4⟩ := cells2 W3 #[.slice (some ⟨g, off, none⟩) (64 * N) c] #[.int .i64 64] 25 3
  refine ⟨trivial, (callsIn_wide.2 (c28 (some ⟨g, off, none⟩) (64 * N) c W3)).mono ?_⟩
  rintro e W4 ⟨rfl, e4⟩
  rw [e4] at k1 k2 k3 k4
  have t3 : W3.heap.size = W1.heap.size + 2 := by omega
  have t4 : W4.heap.size = W1.heap.size + 4 := by omega
  rw [t3] at k1 k2 k3
  clear e2 e3 e4
  gi_wp2_with fail
  refine it_range rfl (enters_of Try.func37 (by kernel_rfl) rfl) ?_
  intro fn r hr
  rw [t4]
  have k4' : Below (W1.heap.size + 4) W4 ((W4.alloc (.deferred (some []))).alloc (.loop r)) := ((Below.refl _ _).alloc (by omega) _).alloc (by rw [World.size_alloc]; omega) _
  have hd5 := World.alloc_heap_new W4 (.deferred (some []))
  have hl5 := World.alloc_heap_new (W4.alloc (.deferred (some []))) (.loop r)
  have hd6 : ((W4.alloc (.deferred (some []))).alloc (.loop r)).heap[W4.heap.size]? = some (.deferred (some [])) := (Below.heap_alloc _ _ _ (by rw [World.size_alloc]; omega)).trans hd5
  rw [World.size_alloc, t4] at hl5
  rw [t4] at hd6
  clear hd5
  generalize (W4.alloc _).alloc _ = W5 at *
  have start : JO l g off N c W1.heap.size r w 0 W5 := by
    refine ⟨hl5, hd6, k2.below k4' (by omega), k1.below k4' (by omega), (n3.below k3 (by omega)).below k4' (by omega), ((f2.below b3 (by omega)).below k3 (by omega)).below k4' (by omega),
      ⟨[], (((hd1.of_below b2 (by omega) (by omega)).of_below b3 (by omega) (by omega)).of_below k3 (by omega) (by omega)).of_below k4' (by omega) (by omega), fun j hj => by rw [if_neg (by omega)]; rfl⟩,
      (((hb1.trans (b2.mono (by omega))).trans (b3.mono (by omega))).trans (k3.mono (by omega))).trans (k4'.mono (by omega)), hB⟩
  clear hl5 hd6 k4' k1 k2 k3 k4 n3 f2 b2 b3 hd1 hb1 t3 t4 s2 s3
  refine (c37 g off N c (by omega) (by omega) (W1.heap.size + 5) (W1.heap.size + 2) (W1.heap.size + 3) (JO l g off N c W1.heap.size r w) ?hJ ?hD ?hY _ start).mono ?_
  case hJ => exact fun k W h => ⟨h.sl.cell 0, h.nn.cell 0⟩
  case hD => exact fun k W h => h.keep (Below.refl _ _).drew
  case hY =>
    intro k W h hk
    refine it_round (r := r) h.lp (by rw [hr]) (by rw [hr]; rfl) ?_
    obtain ⟨hlp, hdf, hnn, hsl, hcnt, hfv, ⟨m, hd, hm⟩, hlow, _⟩ := h
    have ha := congrArg Loop.assign hr
    have hb := congrArg Loop.body hr
    have ht := congrArg Loop.tmps hr
    have hps := congrArg Loop.params hr
    simp only at ha hb ht hps
    intro rb hrb
    have hbk := it_back hrb (by rw [hr]) (by rw [hr])
    have HB := Lib.hid hbk
    clear hr hbk hrb
    rw [ha, hb, ht, hps]
    clear ha hb ht hps
    gi_wp2
    refine ⟨_, rfl, hlp, ?_⟩
    have hne : ∀ j, j ≠ W1.heap.size + 5 → (W.putObj (W1.heap.size + 5) (.loop rb)).heap[j]? = W.heap[j]? := fun j hj => World.putObj_heap_other hj
    have hlow6 : Below w.heap.size w (W.putObj (W1.heap.size + 5) (.loop rb)) := hlow.grown (grownBy_putObj' _ _ _) hlow.size (fun k e => by cases e; omega)
    have hlp6 : (W.putObj (W1.heap.size + 5) (.loop rb)).heap[W1.heap.size + 5]? = some (.loop rb) := World.putObj_heap_same (Array.getElem?_eq_some_iff.1 hlp).1
    have hd6 := hd.keep (hne _ (by omega)) (hne _ (by omega))
    have hdf6 := (hne (W1.heap.size + 4) (by omega)).trans hdf
    have hnn6 : Cells (W.putObj (W1.heap.size + 5) (.loop rb)) (W1.heap.size + 3) 3 _ := hnn.put _ (by omega)
    have hsl6 : Cells (W.putObj (W1.heap.size + 5) (.loop rb)) (W1.heap.size + 2) 25 _ := hsl.put _ (by omega)
    have hcnt6 : Cells (W.putObj (W1.heap.size + 5) (.loop rb)) (W1.heap.size + 1) 3 _ := hcnt.put _ (by omega)
    have hfv6 : Cells (W.putObj (W1.heap.size + 5) (.loop rb)) W1.heap.size 40 _ := hfv.put _ (by omega)
    clear hlp hdf hnn hsl hcnt hfv hd hlow hne
    generalize World.putObj _ _ _ = W6 at *
    have hr6 := hr.below hlow6 (Nat.le_refl _)
    have hin : inL l k := by unfold inL; omega
    have hlen : (cutL l k).length = 64 := cutL_len hin
    have hrg : W6.drew.rangeAt g (off + 64 * k) ((cutL l k).map (Value.int .u8)) := by
      intro j v hv
      have hj : j < 64 := by have := (List.getElem?_eq_some_iff.1 hv).1; rw [List.length_map, hlen] at this; exact this
      rw [List.getElem?_map, cutL_get hj, Int.toNat_natCast] at hv
      obtain ⟨y, hy, rfl⟩ := Option.map_eq_some_iff.1 hv
      rw [Nat.add_assoc]
      exact hr6.cell g off rfl _ y hy
    have hi28 : (Try.prog.info? 28).map (·.size) = some ((cutL l k).map (Value.int .u8)).length := by rw [List.length_map, hlen]; kernel_rfl
    have q1 : W6.drew.cell? ⟨W1.heap.size, 0, none⟩ = _ := hfv6.cell 0
    have q2 : W6.drew.cell? ⟨W1.heap.size + 1, 0, none⟩ = _ := hcnt6.cell 0
    simp at q1 q2
    gi_wp2_with fail
    refine wpIn_region_still_tail 5 (Free.round _) (by kernel_rfl) (by rintro ⟨_, _, h⟩; exact h) (by kernel_rfl) (by kernel_rfl) ?_
    simp only [List.take_succ_cons, List.take_zero, List.drop_succ_cons, List.drop_zero]
    repeat still_step
    try refine wpStill_nil ?_
    refine wpStill_plain rfl (fun K hK => ?_)
    refine still_of_run (v := .pointer (some ⟨g, off + 64 * k, none⟩)) (by kernel_rfl) ?_
    refine hK _ ?_
    clear hK K
    refine wpStill_plain rfl (fun K hK => ?_)
    refine still_of_run (exec_load_mid 28 (.tmp 32) rfl g (off + 64 * k) rfl _ _ hrg Try.underlying28 rfl hi28) ?_
    refine hK _ ?_
    clear hK K
    refine wpStill_nil ?_
    change wpList _ _ _ _ _ W6.drew
    simp only [Act.put, List.setIfInBounds_toArray, List.set_cons_zero, List.set_cons_succ]
    have hsecK : IsSec (cutL l k) := ⟨hlen, fun x hx => hsec x (List.mem_of_mem_drop (List.mem_of_mem_take hx))⟩
    go_wp2_with fail
    refine (c15 (hd6.keep (W' := W6.drew) rfl rfl) k (by omega) (by omega) (cutL l k) hsecK).mono ?_
    rintro e W7 ⟨rfl, hg7, m7, hd7, hm7⟩
    have ln := hnn6.lt
    have hne : ∀ j, j < W6.heap.size → j ≠ w.heap.size → W7.heap[j]? = W6.heap[j]? := fun j h1 h2 => hg7.block j h1 (by simp; exact h2)
    have ll : W1.heap.size + 5 < W6.heap.size := (Array.getElem?_eq_some_iff.1 hlp6).1
    have hlow7 := hlow6.drew.trans (below_of_grown hg7 (Nat.le_refl _) hlow6.size)
    have hlp7 := (hne _ ll (by omega)).trans hlp6
    have hdf7 := (hne _ (by omega) (by omega)).trans hdf6
    have hnn7 : Cells W7 (W1.heap.size + 3) 3 _ := (hne _ (by omega) (by omega)).trans hnn6
    have hsl7 : Cells W7 (W1.heap.size + 2) 25 _ := (hne _ (by omega) (by omega)).trans hsl6
    have hcnt7 : Cells W7 (W1.heap.size + 1) 3 _ := (hne _ (by omega) (by omega)).trans hcnt6
    have hfv7 : Cells W7 W1.heap.size 40 _ := (hne _ (by omega) (by omega)).trans hfv6
    clear hlp6 hdf6 hnn6 hsl6 hcnt6 hfv6 hg7 hne hd6 hrg q1 q2 hlow6 ln ll hr6
    have q2 := hcnt7.cell 0
    have q3 := hcnt7.frozen 0
    simp at q2
    have L7 := Lib.hid hlp7
    have D7 := Lib.hid hdf7
    clear hlp7 hdf7
    go_wp2_with fail
    gi_wp2
    have hb8 : ∀ j, j ≠ W1.heap.size + 1 → (W7.setCell ⟨W1.heap.size + 1, 0, none⟩ (.int .i64 (k + 1))).heap[j]? = W7.heap[j]? := fun j hj => Below.heap_setCell _ _ _ _ hj
    refine ⟨(hb8 _ (by omega)).trans L7.out, rfl, ?_⟩
    rw [HB.out]
    have hcnt8 := hcnt7.set 0 (.int .i64 (k + 1))
    simp at hcnt8
    have hlow8 : Below w.heap.size w (W7.setCell ⟨W1.heap.size + 1, 0, none⟩ (.int .i64 (k + 1))) := hlow7.setCell (by simp; omega) _
    have l8 := (hb8 (W1.heap.size + 5) (by omega)).trans L7.out
    have hd8 := hd7.keep (hb8 _ (by omega)) (hb8 _ (by omega))
    have p8 : ∀ j, j ≠ W1.heap.size + 5 → ((W7.setCell ⟨W1.heap.size + 1, 0, none⟩ (.int .i64 (k + 1))).putObj (W1.heap.size + 5) (.loop r)).heap[j]? = (W7.setCell ⟨W1.heap.size + 1, 0, none⟩ (.int .i64 (k + 1))).heap[j]? := fun j hj => World.putObj_heap_other hj
    refine ⟨World.putObj_heap_same (Array.getElem?_eq_some_iff.1 l8).1, ((p8 _ (by omega)).trans (hb8 _ (by omega))).trans D7.out, ((p8 _ (by omega)).trans (hb8 _ (by omega))).trans hnn7, ((p8 _ (by omega)).trans (hb8 _ (by omega))).trans hsl7,
      (p8 _ (by omega)).trans hcnt8, ((p8 _ (by omega)).trans (hb8 _ (by omega))).trans hfv7, ⟨m7, hd8.keep (p8 _ (by omega)) (p8 _ (by omega)), fun j hj => ?_⟩, ?_, hB⟩
    · rw [hm7, hm j hj]
      by_cases e : j = k
      · rw [if_pos e, if_pos (by omega), e]
      · rw [if_neg e]
        by_cases e2 : j < k
        · rw [if_pos e2, if_pos (by omega)]
        · rw [if_neg e2, if_neg (by omega)]
    · exact hlow8.grown (grownBy_putObj' _ _ _) hlow8.size (fun k e => by cases e; omega)
  rintro e w' ⟨rfl, h⟩
  refine ⟨_, _, rfl, h.lp, by rw [hr]; simp, ?_⟩
  have hp : r.pending = none := by rw [hr]
  simp only [hp]
  obtain ⟨hlp, hdf, hnn, hsl, hcnt, hfv, ⟨m, hd, hm⟩, hlow, _⟩ := h
  have p8 : ∀ j, j ≠ W1.heap.size + 4 + 1 → (w'.putObj (W1.heap.size + 4 + 1) (.loop { r with state := .exhausted })).heap[j]? = w'.heap[j]? := fun j hj => World.putObj_heap_other hj
  have hd8 := hd.keep (p8 _ (by omega)) (p8 _ (by omega))
  have hdf8 := (p8 (W1.heap.size + 4) (by omega)).trans hdf
  have hlow8 : Below w.heap.size w (w'.putObj (W1.heap.size + 4 + 1) (.loop { r with state := .exhausted })) := hlow.grown (grownBy_putObj' _ _ _) hlow.size (fun k e => by cases e; omega)
  simp only [hp] at hd8 hdf8 hlow8
  clear p8 hlp hdf hnn hsl hcnt hfv hd hlow hr hp
  generalize World.putObj _ _ _ = W8 at *
  have D8 := Lib.hid hdf8
  clear hdf8
  gi_wp2
  refine ⟨by simp, .inl ⟨_, _, rfl, run_takeDeferred D8.out, ?_⟩⟩
  have p9 : ∀ j, j ≠ W1.heap.size + 4 → (W8.putObj (W1.heap.size + 4) (.deferred none)).heap[j]? = W8.heap[j]? := fun j hj => World.putObj_heap_other hj
  refine ⟨_, by simp [results, Try.results14, go_sem], m, rfl, hlow8.grown (grownBy_putObj' _ _ _) hlow8.size (fun k e => by cases e; omega), hd8.keep (p9 _ (by omega)) (p9 _ (by omega)), by omega, fun j hj => ?_⟩
  rw [hm j hj, if_pos hj.2]
end Go.Proofs.Ytoplchdnfmcbaaa
