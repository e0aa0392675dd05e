/- The contracts of the disk: New, Sectors, Read, Write, for a disk that lies in memory as its size and a map of sectors. -/
import Derived.Test.YtoplchdnfmcbaaaMa
import Derived.WalkLawsBesides
import Derived.Laws.EntriesVeiled
import Derived.StillTailTactics
import Derived.Handy
namespace Go.Proofs.Ytoplchdnfmcbaaa
open Go.RowKit Go.Shelf

/-- A sector of noughts. -/
def zeros : List Int := List.replicate 64 0
theorem zlit : (#[.int .u8 0, .int .u8 0, .int .u8 0, .int .u8 0, .int .u8 0, .int .u8 0, .int .u8 0, .int .u8 0, .int .u8 0, .int .u8 0, .int .u8 0, .int .u8 0, .int .u8 0, .int .u8 0, .int .u8 0, .int .u8 0, .int .u8 0, .int .u8 0, .int .u8 0, .int .u8 0, .int .u8 0, .int .u8 0, .int .u8 0, .int .u8 0, .int .u8 0, .int .u8 0, .int .u8 0, .int .u8 0, .int .u8 0, .int .u8 0, .int .u8 0, .int .u8 0, .int .u8 0, .int .u8 0, .int .u8 0, .int .u8 0, .int .u8 0, .int .u8 0, .int .u8 0, .int .u8 0, .int .u8 0, .int .u8 0, .int .u8 0, .int .u8 0, .int .u8 0, .int .u8 0, .int .u8 0, .int .u8 0, .int .u8 0, .int .u8 0, .int .u8 0, .int .u8 0, .int .u8 0, .int .u8 0, .int .u8 0, .int .u8 0, .int .u8 0, .int .u8 0, .int .u8 0, .int .u8 0, .int .u8 0, .int .u8 0, .int .u8 0, .int .u8 0] : Array Value) = intsA .u8 zeros := rfl
/-- A sector, as a value. -/
def secV (l : List Int) : Value := .agg (intsA .u8 l)
/-- The map's entries, as values. -/
def encM (m : List (Int × List Int)) : List (Int × Value) := m.map fun p => (p.1, secV p.2)
/-- What sector n holds. -/
def secL (m : List (Int × List Int)) (n : Int) : List Int := (m.lookup n).getD zeros
theorem lookup_encM (m : List (Int × List Int)) (n : Int) : ((encM m).lookup n).getD (secV zeros) = secV (secL m n) := by
  induction m with
  | nil => rfl
  | cons p m ih =>
    simp only [encM, List.map_cons, List.lookup, secL] at ih ⊢
    cases h : n == p.1
    · exact ih
    · rfl
/-- A sector's bytes. -/
def IsSec (l : List Int) : Prop := l.length = 64 ∧ ∀ x ∈ l, 0 ≤ x ∧ x < 256
theorem zeros_sec : IsSec zeros := ⟨rfl, fun x hx => by obtain rfl := List.eq_of_mem_replicate hx; omega⟩
/-- All sectors that are kept lie in the disk, and are not noughts. -/
def Good (size : Int) (m : List (Int × List Int)) : Prop := ∀ p ∈ m, (0 ≤ p.1 ∧ p.1 < size) ∧ p.2 ≠ zeros ∧ IsSec p.2
theorem Good.sec {size : Int} {m : List (Int × List Int)} (h : Good size m) (n : Int) : IsSec (secL m n) := by
  induction m with
  | nil => exact zeros_sec
  | cons p m ih =>
    simp only [secL, List.lookup]
    cases hh : n == p.1
    · exact ih (fun q hq => h q (by simp [hq]))
    · exact (h p (by simp)).2.2
/-- The disk d lies in W: its block, its map's block, its size, its sectors. -/
structure IsDisk (W : World) (db mb : Nat) (size : Int) (m : List (Int × List Int)) : Prop where
  hd : Cells W db 63 #[.int .i64 size, .map (some mb)]
  hm : MapAt .i64 W mb (encM m)
  good : Good size m
  lo : 1 ≤ size
  hi : size ≤ 32
theorem IsDisk.of_below {W W' : World} {B db mb : Nat} {size : Int} {m : List (Int × List Int)} (h : IsDisk W db mb size m) (hb : Below B W W') (h1 : db < B) (h2 : mb < B) : IsDisk W' db mb size m :=
  ⟨(hb.block _ h1).trans h.hd, h.hm.of_block (hb.block _ h2), h.good, h.lo, h.hi⟩
theorem IsDisk.below {W W' : World} {db mb : Nat} {size : Int} {m : List (Int × List Int)} (h : IsDisk W db mb size m) (hb : Below W.heap.size W W') : IsDisk W' db mb size m :=
  h.of_below hb h.hd.lt h.hm.lt

theorem c13 (x : Int) (w : World) : Calls Try.prog 13 #[.int .i64 x] w fun e w' => e = .returned (.int .i64 x) ∧ w = w' := by
  go_enter Try.func13, Try.ntmps13
  go_wp2
  go_ret
  exact ⟨rfl, rfl⟩
theorem c23 {w : World} {db mb : Nat} {size : Int} {m : List (Int × List Int)} (h : IsDisk w db mb size m) : Calls Try.prog 23 #[.pointer (some ⟨db, 0, none⟩)] w fun e w' => e = .returned (.int .i64 size) ∧ w = w' := by
  have q := h.hd.cell 0
  simp at q
  go_enter Try.func23, Try.ntmps23
  go_wp2
  go_ret
  exact ⟨rfl, rfl⟩
theorem c23_nil (w : World) : Calls Try.prog 23 #[.pointer none] w fun e w' => e = .returned (.int .i64 0) ∧ w = w' := by
  go_enter Try.func23, Try.ntmps23
  go_wp2
  go_ret
  exact ⟨rfl, rfl⟩
/-- at: there is such a sector: 'on' is called -/
theorem c26 {w : World} {db mb : Nat} {size : Int} {m : List (Int × List Int)} (h : IsDisk w db mb size m) (n : Int) (h0 : 0 ≤ n) (h1 : n < size) (g : Nat) (cap : Array Value) (R : World → Prop)
    (hg : Calls Try.prog g cap w fun e w' => e = .returned (.tuple #[]) ∧ R w') (eg : ∀ args w, (callFunc g args).run Try.prog w = .ok (.enter g args) w) :
    Calls Try.prog 26 #[.pointer (some ⟨db, 0, none⟩), .int .i64 n, .func (.func g) #[] cap] w fun e w' => e = .returned (.int .i64 0) ∧ R w' := by
  have q := h.hd.cell 0
  simp at q
  have hsz := h.lo
  go_enter Try.func26, Try.ntmps26
  go_wp2_with (first | (go_at_call 23; refine (c23 h).mono ?_; rintro e w' ⟨rfl, rfl⟩) | (refine hg.mono ?_; rintro e w' ⟨rfl, hr⟩))
  go_ret
  exact ⟨rfl, hr⟩
theorem c26_out {w : World} {db mb : Nat} {size : Int} {m : List (Int × List Int)} (h : IsDisk w db mb size m) (n : Int) (h1 : n < 0 ∨ size ≤ n) (f : Value) :
    Calls Try.prog 26 #[.pointer (some ⟨db, 0, none⟩), .int .i64 n, f] w fun e w' => e = .returned (.int .i64 4) ∧ w = w' := by
  have q := h.hd.cell 0
  simp at q
  have hsz := h.lo
  by_cases h2 : n < 0
  all_goals
    go_enter Try.func26, Try.ntmps26
    go_wp2_with (first | (go_at_call 23; refine (c23 h).mono ?_; rintro e w' ⟨rfl, rfl⟩))
    go_ret
    exact ⟨rfl, rfl⟩
theorem c26_nil (w : World) (n : Int) (f : Value) : Calls Try.prog 26 #[.pointer none, .int .i64 n, f] w fun e w' => e = .returned (.int .i64 1) ∧ w = w' := by
  go_enter Try.func26, Try.ntmps26
  go_wp2_with (first | (go_at_call 23; refine (c23_nil _).mono ?_; rintro e w' ⟨rfl, rfl⟩))
  go_ret
  exact ⟨rfl, rfl⟩
theorem zero28 (W : World) : (zeroValue 28).run Try.prog W = .ok (secV zeros) W := by kernel_rfl
set_option maxRecDepth 100000 in
/-- Read's literal: the sector goes into 'out' -/
theorem c27 {w : World} {db mb : Nat} {size : Int} {m : List (Int × List Int)} (h : IsDisk w db mb size m) (n : Int) (pd pn po : Nat) (h1 : Cells w pd 24 #[.pointer (some ⟨db, 0, none⟩)]) (h2 : Cells w pn 3 #[.int .i64 n]) (h3 : Cells w po 28 (intsA .u8 zeros)) :
    Calls Try.prog 27 #[.pointer (some ⟨pd, 0, none⟩), .pointer (some ⟨pn, 0, none⟩), .pointer (some ⟨po, 0, none⟩)] w fun e w' => e = .returned (.tuple #[]) ∧ w' = w.drew.setCells po 0 (intsA .u8 (secL m n)).toList := by
  have q1 := h1.cell 0
  have q2 := h2.cell 0
  have q3 := h.hd.cell 1
  simp at q1 q2 q3
  have hl : ∀ W : World, W.heap[mb]? = w.heap[mb]? → (Instr.lookup 61 (.map (some mb)) (.int .i64 n) false).run Try.prog W = .ok (secV (secL m n)) W := by
    intro W hW
    rw [run_lookup_ints (h.hm.of_block hW) Try.underlying61 Try.underlying3 (zero28 W) n, lookup_encM]
  have hl1 := hl w.drew rfl
  have hlen := (h.good.sec n).1
  have ht : w.drew.there po 0 64 := fun j hj => by
    have e1 := (show Cells w.drew po 28 (intsA .u8 zeros) from h3).cell (0 + j)
    have e2 := (show Cells w.drew po 28 (intsA .u8 zeros) from h3).frozen (0 + j)
    exact ⟨by rw [e1]; simp [intsA, zeros]; omega, e2⟩
  go_enter Try.func27, Try.ntmps27
  go_wp2
  go_still_tail 6, (by kernel_rfl)
  change wpList _ _ _ _ _ w.drew
  simp only [secV]
  refine wpList_store_mid rfl 28 _ _ rfl po 0 (intsA .u8 (secL m n)) rfl rfl (by rw [show (intsA .u8 (secL m n)).size = 64 by simp [intsA, hlen]]; exact ht) (by rw [show (intsA .u8 (secL m n)).size = 64 by simp [intsA, hlen]]; kernel_rfl) (by simp [intsA, Value.oneCell']) ?_
  go_wp2
  go_end0
  exact ⟨rfl, rfl⟩
/-- Two results, the first an array in memory. -/
theorem results_row_tmp {P : Program} {fn : Func} {p t0 : Tmp} {ty : TypeId} (h : fn.results = #[.cell p ty, .tmp t0]) (tmps : Array Value) (w : World) (g : Nat) (t : TypeId) (cs : Array Value) (d : TypeDesc)
    (hp : tmps.getD p undef = .pointer (some ⟨g, 0, none⟩)) (hg : Cells w g t cs)
    (hu : P.underlying ty = some d) (hd : (match d with | .struct _ | .array _ _ => true | _ => false) = true) (hi : (P.info? ty).map (·.size) = some cs.size) :
    (results fn tmps).run P w = .ok (.tuple #[.agg cs, tmps.getD t0 undef]) w := by
  have hp' : tmps[p]?.getD undef = .pointer (some ⟨g, 0, none⟩) := by simpa using hp
  simp [results, h, hp', asAddr, run_loadVar_row w g t ty cs (0, 0) d hg hu hd hi]
theorem size28 {l : List Int} (h : l.length = 64) : (Try.prog.info? 28).map (·.size) = some (intsA .u8 l).size := by rw [intsA_size, h]; kernel_rfl
set_option maxRecDepth 100000 in
/-- Read, whatever 'at' answers. -/
theorem c11_gen {w : World} (p : Value) (hp : p = .pointer none ∨ ∃ b, p = .pointer (some ⟨b, 0, none⟩)) (n : Int) (l : List Int) (hlen : l.length = 64) (er : Int)
    (hat : ∀ W, Cells W w.heap.size 24 #[p] → Cells W (w.heap.size + 1) 3 #[.int .i64 n] → Cells W (w.heap.size + 3) 28 (intsA .u8 zeros) → Cells W (w.heap.size + 2) 28 (intsA .u8 zeros) → Below w.heap.size w W →
      Calls Try.prog 26 #[p, .int .i64 n, .func (.func 27) #[] #[.pointer (some ⟨w.heap.size, 0, none⟩), .pointer (some ⟨w.heap.size + 1, 0, none⟩), .pointer (some ⟨w.heap.size + 1 + 1 + 1, 0, none⟩)]] W
        fun e w' => e = .returned (.int .i64 er) ∧ (Cells w' (w.heap.size + 1 + 1 + 1) 28 (intsA .u8 l) ∧ Cells w' (w.heap.size + 1 + 1) 28 (intsA .u8 zeros) ∧ Below w.heap.size w w')) :
    Calls Try.prog 11 #[p, .int .i64 n] w fun e w' => e = .returned (.tuple #[secV l, .int .i64 er]) ∧ Below w.heap.size w w' := by
  have hz := zlit
  obtain ⟨k1, k2, k3, k4, hb, hs⟩ := cells4 w #[p] #[.int .i64 n] (intsA .u8 zeros) (intsA .u8 zeros) 24 3 28 28
  rcases hp with rfl | ⟨db, rfl⟩
  all_goals
    go_enter Try.func11, Try.ntmps11
    go_wp2_with fail
    generalize World.alloc _ _ = W at *
    refine (hat W k1 k2 k4 k3 hb).mono ?_
    rintro e W5 ⟨rfl, o4, o3, hb5⟩
    have hi := size28 hlen
    have o4' : W5.heap[w.heap.size + 1 + 1 + 1]? = some (.cells (intsA .u8 l) 28 (0, 0)) := o4
    have ht : W5.there (w.heap.size + 1 + 1) 0 (intsA .u8 l).size := by rw [intsA_size, hlen]; exact o3.there
    go_wp2_with (first
      | (with_reducible refine wpList_load_row rfl 28 (.tmp 6) rfl (w.heap.size + 1 + 1 + 1) rfl 28 (intsA .u8 l) (0, 0) _ o4' Try.underlying28 rfl hi ?_)
      | (with_reducible refine wpList_store_mid rfl 28 (.tmp 4) (.tmp 12) rfl (w.heap.size + 1 + 1) 0 (intsA .u8 l) rfl rfl ht hi (intsA_one _ _) ?_))
    have o5 := o3.setAll (intsA .u8 l).toList (by simp [intsA, hlen, zeros])
    rw [Array.toArray_toList] at o5
    exact bodyPost_ret (results_row_tmp (p := 4) (t0 := 5) rfl _ _ (w.heap.size + 1 + 1) 28 (intsA .u8 l) _ rfl o5 Try.underlying28 rfl hi) rfl ⟨rfl, below_setCells _ 0 hb5 (by omega)⟩
/-- Read, of a sector that there is. -/
theorem c11 {w : World} {db mb : Nat} {size : Int} {m : List (Int × List Int)} (h : IsDisk w db mb size m) (n : Int) (h0 : 0 ≤ n) (h1 : n < size) :
    Calls Try.prog 11 #[.pointer (some ⟨db, 0, none⟩), .int .i64 n] w fun e w' => e = .returned (.tuple #[secV (secL m n), .int .i64 0]) ∧ Below w.heap.size w w' := by
  have hlen := (h.good.sec n).1
  refine c11_gen _ (.inr ⟨_, rfl⟩) n _ hlen 0 ?_
  intro W k1 k2 k4 k3 hb
  have hd := h.below hb
  refine (c26 hd n h0 h1 27 _ _ (c27 hd n w.heap.size (w.heap.size + 1) (w.heap.size + 1 + 1 + 1) k1 k2 k4) (enters_of Try.func27 (by kernel_rfl) rfl)).mono ?_
  rintro e w5 ⟨rfl, rfl⟩
  have o4 := (show Cells W.drew (w.heap.size + 1 + 1 + 1) 28 (intsA .u8 zeros) from k4).setAll (intsA .u8 (secL m n)).toList (by simp [intsA, hlen, zeros])
  rw [Array.toArray_toList] at o4
  exact ⟨rfl, o4, (show Cells W.drew (w.heap.size + 1 + 1) 28 (intsA .u8 zeros) from k3).setCells_other (B' := w.heap.size + 1 + 1 + 1) _ 0 (by omega), below_setCells _ 0 hb.drew (by omega)⟩
theorem c11_out {w : World} {db mb : Nat} {size : Int} {m : List (Int × List Int)} (h : IsDisk w db mb size m) (n : Int) (h1 : n < 0 ∨ size ≤ n) :
    Calls Try.prog 11 #[.pointer (some ⟨db, 0, none⟩), .int .i64 n] w fun e w' => e = .returned (.tuple #[secV zeros, .int .i64 4]) ∧ Below w.heap.size w w' := by
  refine c11_gen _ (.inr ⟨_, rfl⟩) n _ rfl 4 ?_
  intro W k1 k2 k4 k3 hb
  refine (c26_out (h.below hb) n h1 _).mono ?_
  rintro e w5 ⟨rfl, rfl⟩
  exact ⟨rfl, k4, k3, hb⟩
theorem c11_nil (w : World) (n : Int) :
    Calls Try.prog 11 #[.pointer none, .int .i64 n] w fun e w' => e = .returned (.tuple #[secV zeros, .int .i64 1]) ∧ Below w.heap.size w w' := by
  refine c11_gen _ (.inl rfl) n _ rfl 1 ?_
  intro W k1 k2 k4 k3 hb
  refine (c26_nil W n _).mono ?_
  rintro e w5 ⟨rfl, rfl⟩
  exact ⟨rfl, k4, k3, hb⟩

/-! ### Write -/
theorem eq28 (l : List Int) (h : l.length = 64) (w : World) : (Op.equalIn 10000 28 (.agg (intsA .u8 l)) (.agg (intsA .u8 zeros))).run Try.prog w = .ok (decide (l = zeros)) w :=
  match h' : Try.prog.info? 5 with
  | some _ => run_equalIn_ints w 9998 Try.underlying28 h' (by kernel_rfl) Try.underlying5 (by kernel_rfl) l zeros h rfl
  | none => absurd (show (Try.prog.info? 5).isSome = true by kernel_rfl) (by rw [h']; decide)
set_option maxRecDepth 100000 in
theorem c29_zero {w : World} {db mb : Nat} {size : Int} {m : List (Int × List Int)} (h : IsDisk w db mb size m) (n : Int) (pb pd pn : Nat) (h1 : Cells w pd 24 #[.pointer (some ⟨db, 0, none⟩)]) (h2 : Cells w pn 3 #[.int .i64 n]) (h3 : Cells w pb 28 (intsA .u8 zeros)) :
    Calls Try.prog 29 #[.pointer (some ⟨pb, 0, none⟩), .pointer (some ⟨pd, 0, none⟩), .pointer (some ⟨pn, 0, none⟩)] w fun e w' => e = .returned (.tuple #[]) ∧ ∃ o, w' = w.drew.putObj mb o ∧ MapAt .i64 w' mb ((encM m).filter (fun p => !(p.1 == n))) := by
  have hz := zlit
  have q1 := h1.cell 0
  have q2 := h2.cell 0
  have q3 := h.hd.cell 1
  simp at q1 q2 q3
  have heq := fun w => (eq28 zeros rfl w).trans (by rw [decide_eq_true rfl])
  obtain ⟨o, hdel, hmap⟩ := run_delete_ints (ty := 0) (kt' := 3) (h.hm.of_block (W' := w.drew) rfl) Try.underlying61 Try.underlying3 n
  have hi := size28 (l := zeros) rfl
  have o4' : w.heap[pb]? = some (.cells (intsA .u8 zeros) 28 (0, 0)) := h3
  go_enter Try.func29, Try.ntmps29
  go_wp2_with (first
      | (with_reducible refine wpList_load_row rfl 28 (.tmp 0) rfl pb rfl 28 (intsA .u8 zeros) (0, 0) _ o4' Try.underlying28 rfl hi ?_))
  go_still_tail 5, (by kernel_rfl)
  change wpList _ _ _ _ _ w.drew
  go_wp2
  exact bodyPost_ret (results_none rfl _ _ _) rfl ⟨rfl, o, rfl, hmap⟩
set_option maxRecDepth 100000 in
theorem c29_some {w : World} {db mb : Nat} {size : Int} {m : List (Int × List Int)} (h : IsDisk w db mb size m) (n : Int) (l : List Int) (hlen : l.length = 64) (hne : l ≠ zeros) (pb pd pn : Nat) (h1 : Cells w pd 24 #[.pointer (some ⟨db, 0, none⟩)]) (h2 : Cells w pn 3 #[.int .i64 n]) (h3 : Cells w pb 28 (intsA .u8 l)) :
    Calls Try.prog 29 #[.pointer (some ⟨pb, 0, none⟩), .pointer (some ⟨pd, 0, none⟩), .pointer (some ⟨pn, 0, none⟩)] w fun e w' => e = .returned (.tuple #[]) ∧ ∃ o, w' = w.drew.putObj mb o ∧ MapAt .i64 w' mb (updL n (secV l) (encM m)) := by
  have hz := zlit
  have q1 := h1.cell 0
  have q2 := h2.cell 0
  have q3 := h.hd.cell 1
  simp at q1 q2 q3
  have heq := fun w => (eq28 l hlen w).trans (by rw [decide_eq_false hne])
  obtain ⟨o, hupd, hmap⟩ := run_mapUpdate_ints (h.hm.of_block (W' := w.drew) rfl) Try.underlying61 Try.underlying3 n (secV l)
  simp only [secV] at hupd hmap
  have hi := size28 hlen
  have o4' : w.heap[pb]? = some (.cells (intsA .u8 l) 28 (0, 0)) := h3
  have HN := Lib.hid hne
  clear hne
  go_enter Try.func29, Try.ntmps29
  go_wp2_with (first
      | (with_reducible refine wpList_load_row rfl 28 (.tmp 0) rfl pb rfl 28 (intsA .u8 l) (0, 0) _ o4' Try.underlying28 rfl hi ?_))
  refine wp_region_still_tail 6 (by kernel_rfl) (by kernel_rfl) ?_
  simp only [List.take_succ_cons, List.take_zero, List.drop_succ_cons, List.drop_zero]
  repeat still_step
  refine wpStill_plain rfl (fun K hK => ?_)
  refine still_of_run (exec_load_row 28 (.tmp 0) rfl pb rfl 28 (intsA .u8 l) _ (show Cells w.drew pb 28 (intsA .u8 l) from h3) Try.underlying28 rfl hi) ?_
  refine hK _ ?_
  clear hK K
  refine wpStill_nil ?_
  change wpList _ _ _ _ _ w.drew
  simp only [Act.put, List.setIfInBounds_toArray, List.set_cons_zero, List.set_cons_succ]
  go_wp2
  exact bodyPost_end (results_none rfl _ _ _) rfl ⟨rfl, o, rfl, hmap⟩
/-! ### The sectors behind a write, as a list -/
theorem findL_enc (n : Int) : ∀ (m : List (Int × List Int)) (i : Nat), findL n (encM m) i = none → ∀ p ∈ m, p.1 ≠ n
  | [], _, _ => by simp
  | p :: m, i, h => by
    simp only [encM, List.map_cons, findL] at h
    by_cases e : n = p.1
    · simp [e] at h
    · simp only [e, if_false] at h
      intro q hq
      rcases List.mem_cons.1 hq with rfl | hq
      · exact fun h' => e h'.symm
      · exact findL_enc n m (i + 1) h q hq
theorem secL_none {m : List (Int × List Int)} {n : Int} (h : ∀ p ∈ m, p.1 ≠ n) : secL m n = zeros := by
  induction m with
  | nil => rfl
  | cons p m ih =>
    simp only [secL, List.lookup]
    rw [show (n == p.1) = false by simpa using fun e => h p (by simp) e.symm]
    exact ih (fun q hq => h q (by simp [hq]))
theorem secL_append {m : List (Int × List Int)} {n : Int} {l : List Int} (h : ∀ p ∈ m, p.1 ≠ n) (j : Int) : secL (m ++ [(n, l)]) j = if j = n then l else secL m j := by
  induction m with
  | nil =>
    simp only [secL, List.nil_append, List.lookup]
    by_cases e : j = n
    · simp [e]
    · rw [show (j == n) = false by simpa using e]; simp [e]
  | cons p m ih =>
    simp only [secL, List.cons_append, List.lookup]
    cases hh : j == p.1
    · exact ih (fun q hq => h q (by simp [hq]))
    · have e1 : j = p.1 := by simpa using hh
      have e2 := h p (by simp)
      simp [e1, e2]
theorem secL_set (n : Int) (l : List Int) : ∀ (m : List (Int × List Int)) (k i : Nat) (v : Value), findL n (encM m) k = some (k + i, v) → ∃ u, m[i]? = some (n, u) ∧ ∀ j, secL (m.set i (n, l)) j = if j = n then l else secL m j
  | [], k, i, v, h => by simp [encM, findL] at h
  | p :: m, k, i, v, h => by
    simp only [encM, List.map_cons, findL] at h
    by_cases e : n = p.1
    · simp only [e, if_true, Option.some.injEq, Prod.mk.injEq] at h
      obtain rfl : i = 0 := by omega
      refine ⟨p.2, by simp [e], fun j => ?_⟩
      simp only [List.set_cons_zero, secL, List.lookup]
      by_cases ej : j = n
      · simp [ej]
      · rw [show (j == n) = false by simpa using ej, show (j == p.1) = false by rw [← e]; simpa using ej]; simp [ej]
    · simp only [e, if_false] at h
      cases i with
      | zero => have := (findL_some n _ _ _ _ h).1; omega
      | succ i =>
        obtain ⟨u, h1, h2⟩ := secL_set n l m (k + 1) i v (by rw [show k + 1 + i = k + (i + 1) by omega]; exact h)
        refine ⟨u, by simpa using h1, fun j => ?_⟩
        simp only [List.set_cons_succ, secL, List.lookup]
        cases hh : j == p.1
        · exact h2 j
        · have ej : j = p.1 := by simpa using hh
          have : j ≠ n := by rw [ej]; exact fun e' => e e'.symm
          simp [this]
theorem secL_filter (n : Int) : ∀ (m : List (Int × List Int)) (j : Int), secL (m.filter (fun p => !(p.1 == n))) j = if j = n then zeros else secL m j
  | [], j => by simp [secL]
  | p :: m, j => by
    rw [List.filter_cons]
    by_cases e : p.1 = n
    · simp only [e, beq_self_eq_true, Bool.not_true, Bool.false_eq_true, if_false]
      rw [secL_filter n m j]
      by_cases ej : j = n
      · simp [ej]
      · simp only [ej, if_false, secL, List.lookup]
        rw [show (j == p.1) = false by rw [e]; simpa using ej]
    · rw [show (p.1 == n) = false by simpa using e]
      simp only [Bool.not_false, if_true]
      by_cases ej : j = p.1
      · have : j ≠ n := by rw [ej]; exact e
        simp [secL, List.lookup, ej, e]
      · have h2 := secL_filter n m j
        simp only [secL, List.lookup] at h2 ⊢
        rw [show (j == p.1) = false by simpa using ej]
        exact h2
theorem enc_filter (n : Int) (m : List (Int × List Int)) : (encM m).filter (fun p => !(p.1 == n)) = encM (m.filter (fun p => !(p.1 == n))) := by
  simp only [encM, List.filter_map]; rfl
/-- Whatever is written: the list behind it. -/
theorem upd_enc {size : Int} {m : List (Int × List Int)} (hg : Good size m) (n : Int) (hn : 0 ≤ n ∧ n < size) (l : List Int) (hl : IsSec l) (hne : l ≠ zeros) :
    ∃ m', updL n (secV l) (encM m) = encM m' ∧ Good size m' ∧ ∀ j, secL m' j = if j = n then l else secL m j := by
  cases hr : findL n (encM m) 0 with
  | none =>
    have h1 := findL_enc n m 0 hr
    refine ⟨m ++ [(n, l)], by simp [updL, hr]; simp [encM], fun p hp => ?_, secL_append h1⟩
    rcases List.mem_append.1 hp with hp | hp
    · exact hg p hp
    · obtain rfl := List.mem_singleton.1 hp; exact ⟨hn, hne, hl⟩
  | some q =>
    obtain ⟨i, v⟩ := q
    obtain ⟨u, h1, h2⟩ := secL_set n l m 0 i v (by simpa using hr)
    refine ⟨m.set i (n, l), by simp [updL, hr]; simp [encM, List.map_set], fun p hp => ?_, h2⟩
    rcases List.mem_or_eq_of_mem_set hp with hp | rfl
    · exact hg p hp
    · exact ⟨hn, hne, hl⟩
theorem del_enc {size : Int} {m : List (Int × List Int)} (hg : Good size m) (n : Int) :
    ∃ m', (encM m).filter (fun p => !(p.1 == n)) = encM m' ∧ Good size m' ∧ ∀ j, secL m' j = if j = n then zeros else secL m j :=
  ⟨m.filter (fun p => !(p.1 == n)), enc_filter n m, fun p hp => hg p (List.mem_filter.1 hp).1, secL_filter n m⟩
end Go.Proofs.Ytoplchdnfmcbaaa
