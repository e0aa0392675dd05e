/- The contracts of the disk: Write, New; the document's Read and Write. -/
import Derived.Test.YtoplchdnfmcbaaaA
namespace Go.Proofs.Ytoplchdnfmcbaaa
open Go.RowKit Go.Shelf

theorem IsDisk.ne {W : World} {db mb : Nat} {size : Int} {m : List (Int × List Int)} (h : IsDisk W db mb size m) : db ≠ mb := by
  rintro rfl
  obtain ⟨es, c, h1, _⟩ := h.hm
  have h2 : W.heap[db]? = _ := h.hd
  rw [h2] at h1
  cases h1
theorem Cells.ne_map {W : World} {b mb : Nat} {t : TypeId} {c : Array Value} {k : IntKind} {m : List (Int × Value)} (h : Cells W b t c) (hm : MapAt k W mb m) : b ≠ mb := by
  rintro rfl
  obtain ⟨es, c, h1, _⟩ := hm
  have h2 : W.heap[b]? = _ := h
  rw [h2] at h1
  cases h1
theorem grown_put {w W : World} (hb : Below w.heap.size w W) {mb : Nat} (o : Obj) : w.grownBy (W.drew.putObj mb o) (some mb) :=
  ⟨hb.os, hb.tape, hb.output, by have := hb.size; simpa [World.putObj] using this, fun k hk hne => by
    have h1 : k ≠ mb := fun e => hne (by rw [e])
    exact (World.putObj_heap_other h1).trans (hb.block k hk)⟩
theorem grown_of_below {w W : World} (hb : Below w.heap.size w W) (r : Option Nat) : w.grownBy W r := ⟨hb.os, hb.tape, hb.output, hb.size, fun k hk _ => hb.block k hk⟩
theorem below_of_grown {w W : World} {mb B : Nat} (h : w.grownBy W (some mb)) (hB : B ≤ mb) (hw : B ≤ w.heap.size) : Below B w W :=
  ⟨h.os, h.tape, h.output, h.size, fun k hk => h.block k (by omega) (by simp; omega)⟩

set_option maxRecDepth 100000 in
/-- Write: of a sector that there is. -/
theorem c15 {w : World} {db mb : Nat} {size : Int} {m : List (Int × List Int)} (h : IsDisk w db mb size m) (n : Int) (h0 : 0 ≤ n) (h1 : n < size) (l : List Int) (hl : IsSec l) :
    Calls Try.prog 15 #[.pointer (some ⟨db, 0, none⟩), .int .i64 n, secV l] w fun e w' => e = .returned (.int .i64 0) ∧ w.grownBy w' (some mb) ∧
      ∃ m', IsDisk w' db mb size m' ∧ ∀ j, secL m' j = if j = n then l else secL m j := by
  obtain ⟨K1, K2, K3, Hb, hs⟩ := cells3 w #[.pointer (some ⟨db, 0, none⟩)] #[.int .i64 n] (intsA .u8 l) 24 3 28
  have H : ∀ W, Cells W w.heap.size 24 #[.pointer (some ⟨db, 0, none⟩)] → Cells W (w.heap.size + 1) 3 #[.int .i64 n] → Cells W (w.heap.size + 1 + 1) 28 (intsA .u8 l) → Below w.heap.size w W →
      Calls Try.prog 26 #[.pointer (some ⟨db, 0, none⟩), .int .i64 n, .func (.func 29) #[] #[.pointer (some ⟨w.heap.size + 1 + 1, 0, none⟩), .pointer (some ⟨w.heap.size, 0, none⟩), .pointer (some ⟨w.heap.size + 1, 0, none⟩)]] W
        fun e w' => e = .returned (.int .i64 0) ∧ w.grownBy w' (some mb) ∧ ∃ m', IsDisk w' db mb size m' ∧ ∀ j, secL m' j = if j = n then l else secL m j := by
    intro W k1 k2 k3 hb
    have hd := h.below hb
    by_cases hz : l = zeros
    · subst hz
      refine (c26 hd n h0 h1 29 _ _ (c29_zero hd n _ _ _ k1 k2 k3) (enters_of Try.func29 (by kernel_rfl) rfl)).mono ?_
      rintro e w5 ⟨rfl, o, rfl, hm⟩
      obtain ⟨m', e1, hg, hj⟩ := del_enc hd.good n
      rw [e1] at hm
      exact ⟨rfl, grown_put hb o, m', ⟨(show Cells W.drew db 63 _ from hd.hd).put o hd.ne, hm, hg, hd.lo, hd.hi⟩, hj⟩
    · refine (c26 hd n h0 h1 29 _ _ (c29_some hd n l hl.1 hz _ _ _ k1 k2 k3) (enters_of Try.func29 (by kernel_rfl) rfl)).mono ?_
      rintro e w5 ⟨rfl, o, rfl, hm⟩
      obtain ⟨m', e1, hg, hj⟩ := upd_enc hd.good n ⟨h0, h1⟩ l hl hz
      rw [e1] at hm
      exact ⟨rfl, grown_put hb o, m', ⟨(show Cells W.drew db 63 _ from hd.hd).put o hd.ne, hm, hg, hd.lo, hd.hi⟩, hj⟩
  unfold secV
  go_enter Try.func15, Try.ntmps15
  go_wp2_with fail
  refine (H _ K1 K2 K3 Hb).mono ?_
  rintro e w5 ⟨rfl, hg, m', hd', hm'⟩
  go_wp2
  go_ret
  exact ⟨rfl, hg, m', hd', hm'⟩
set_option maxRecDepth 100000 in
/-- Write: of no sector. -/
theorem c15_out {w : World} {db mb : Nat} {size : Int} {m : List (Int × List Int)} (h : IsDisk w db mb size m) (n : Int) (h1 : n < 0 ∨ size ≤ n) (l : List Int) :
    Calls Try.prog 15 #[.pointer (some ⟨db, 0, none⟩), .int .i64 n, secV l] w fun e w' => e = .returned (.int .i64 4) ∧ Below w.heap.size w w' := by
  obtain ⟨k1, k2, k3, hb, hs⟩ := cells3 w #[.pointer (some ⟨db, 0, none⟩)] #[.int .i64 n] (intsA .u8 l) 24 3 28
  unfold secV
  go_enter Try.func15, Try.ntmps15
  go_wp2_with fail
  refine (c26_out (h.below hb) n h1 _).mono ?_
  rintro e w5 ⟨rfl, rfl⟩
  go_wp2
  go_ret
  exact ⟨rfl, hb⟩
/-- Write: as one. -/
theorem c15_all {w : World} {db mb : Nat} {size : Int} {m : List (Int × List Int)} (h : IsDisk w db mb size m) (n : Int) (l : List Int) (hl : IsSec l) :
    Calls Try.prog 15 #[.pointer (some ⟨db, 0, none⟩), .int .i64 n, secV l] w fun e w' => e = .returned (.int .i64 (if 0 ≤ n ∧ n < size then 0 else 4)) ∧ w.grownBy w' (some mb) ∧
      ∃ m', IsDisk w' db mb size m' ∧ ∀ j, 0 ≤ j ∧ j < size → secL m' j = if j = n then l else secL m j := by
  by_cases hn : 0 ≤ n ∧ n < size
  · rw [if_pos hn]
    refine (c15 h n hn.1 hn.2 l hl).mono ?_
    rintro e w' ⟨rfl, hg, m', hd, hm⟩
    exact ⟨rfl, hg, m', hd, fun j _ => hm j⟩
  · rw [if_neg hn]
    refine (c15_out h n (by omega) l).mono ?_
    rintro e w' ⟨rfl, hb⟩
    exact ⟨rfl, grown_of_below hb _, m, h.below hb, fun j hj => by rw [if_neg (by rintro rfl; exact hn hj)]⟩
/-- New: a disk of noughts. -/
theorem c22 (n : Int) (h0 : 1 ≤ n) (h1 : n ≤ 32) (w : World) :
    Calls Try.prog 22 #[.int .i64 n] w fun e w' => e = .returned (.tuple #[.pointer (some ⟨w.heap.size + 1, 0, none⟩), .int .i64 0]) ∧ Below w.heap.size w w' ∧ IsDisk w' (w.heap.size + 1) w.heap.size n [] := by
  have hmm := @run_makeMap Try.prog
  go_enter Try.func22, Try.ntmps22
  go_wp2
  refine bodyPost_ret (results_tmp2 rfl _ _ _) rfl ?_
  refine ⟨rfl, ?_, ?_⟩
  · exact ((Below.refl _ _).alloc (Nat.le_refl _) _).alloc (by simp) _
  · have e : (w.alloc (.map #[] 0)).heap.size = w.heap.size + 1 := World.size_alloc _ _
    refine ⟨?_, ?_, fun p hp => (List.not_mem_nil hp).elim, h0, h1⟩
    · have := Cells.new (w.alloc (.map #[] 0)) 63 #[.int .i64 n, .map (some w.heap.size)]
      rw [e] at this; exact this
    · exact (MapAt.new .i64 w).of_block (Below.heap_alloc _ _ _ (by omega))
theorem c22_out (n : Int) (h0 : n < 1 ∨ 32 < n) (w : World) :
    Calls Try.prog 22 #[.int .i64 n] w fun e w' => e = .returned (.tuple #[.pointer none, .int .i64 2]) ∧ w = w' := by
  by_cases h1 : n < 1
  all_goals
    go_enter Try.func22, Try.ntmps22
    go_wp2
    refine bodyPost_ret (results_tmp2 rfl _ _ _) rfl ?_
    exact ⟨rfl, rfl⟩

/-- A guarded load of a whole array. -/
theorem wpList_load_row_g {P : Program} {ops : Array Oper} {rest : List Oper} {o : Oper} {a : Act} {w : World} {Q : Exit → Act → World → Prop} (ty : TypeId) (x : Operand) (ho : o.op = .load ty x)
    (g : Nat) (hx : a.eval x = .pointer (some ⟨g, 0, none⟩)) (t : TypeId) (cs : Array Value) (fr : Nat × Nat) (d : TypeDesc) (hg : w.heap[g]? = some (.cells cs t fr))
    (hu : P.underlying ty = some d) (hd : (match d with | .struct _ | .array _ _ => true | _ => false) = true) (hi : (P.info? ty).map (·.size) = some cs.size) (hw : Region.wanted o (yielded ops a.tmps) = true)
    (h : wpList P ops Q rest (a.put o.dst (.agg cs)) w) : wpList P ops Q (o :: rest) a w :=
  wpList_step fun K hK => by rw [if_pos hw]; exact wp_load_row ty x ho g hx t cs fr d hg hu hd hi (hK _ _ h)
/-! ### works -/
def w12 : List Int := 1 :: 2 :: List.replicate 62 0
theorem w12_lit : (#[.int .u8 1, .int .u8 2, .int .u8 0, .int .u8 0, .int .u8 0, .int .u8 0, .int .u8 0, .int .u8 0, .int .u8 0, .int .u8 0, .int .u8 0, .int .u8 0, .int .u8 0, .int .u8 0, .int .u8 0, .int .u8 0, .int .u8 0, .int .u8 0, .int .u8 0, .int .u8 0, .int .u8 0, .int .u8 0, .int .u8 0, .int .u8 0, .int .u8 0, .int .u8 0, .int .u8 0, .int .u8 0, .int .u8 0, .int .u8 0, .int .u8 0, .int .u8 0, .int .u8 0, .int .u8 0, .int .u8 0, .int .u8 0, .int .u8 0, .int .u8 0, .int .u8 0, .int .u8 0, .int .u8 0, .int .u8 0, .int .u8 0, .int .u8 0, .int .u8 0, .int .u8 0, .int .u8 0, .int .u8 0, .int .u8 0, .int .u8 0, .int .u8 0, .int .u8 0, .int .u8 0, .int .u8 0, .int .u8 0, .int .u8 0, .int .u8 0, .int .u8 0, .int .u8 0, .int .u8 0, .int .u8 0, .int .u8 0, .int .u8 0, .int .u8 0] : Array Value) = intsA .u8 w12 := rfl
theorem w12_sec : IsSec w12 := ⟨rfl, fun x hx => by
  rcases List.mem_cons.1 hx with rfl | hx
  · omega
  · rcases List.mem_cons.1 hx with rfl | hx
    · omega
    · obtain rfl := List.eq_of_mem_replicate hx; omega⟩
theorem eq12 (w : World) : (Op.equalIn 10000 28 (.agg (intsA .u8 w12)) (.agg (intsA .u8 w12))).run Try.prog w = .ok (decide (w12 = w12)) w :=
  match h' : Try.prog.info? 5 with
  | some _ => run_equalIn_ints w 9998 Try.underlying28 h' (by kernel_rfl) Try.underlying5 (by kernel_rfl) w12 w12 rfl rfl
  | none => absurd (show (Try.prog.info? 5).isSome = true by kernel_rfl) (by rw [h']; decide)
set_option maxRecDepth 100000 in
theorem c9 (w : World) : Calls Try.prog 9 #[] w fun e w' => e = .returned (.bool true) ∧ Below w.heap.size w w' := by
  have hw := w12_lit
  go_enter Try.func9, Try.ntmps9
  go_wp2_with fail
  refine (c22 3 (by omega) (by omega) w).mono ?_
  rintro e W1 ⟨rfl, hb1, hd1⟩
  go_wp2_with fail
  refine (c15 hd1 2 (by omega) (by omega) w12 w12_sec).mono ?_
  rintro e W2 ⟨rfl, hg2, m2, hd2, hm2⟩
  have hb2 := hb1.trans (below_of_grown hg2 (by omega) hb1.size)
  have e2 : secL m2 2 = w12 := by rw [hm2, if_pos rfl]
  go_wp2_with fail
  have hz := zlit
  refine (c11 hd2 2 (by omega) (by omega)).mono ?_
  rw [e2]
  unfold secV
  rintro e W3 ⟨rfl, hb3⟩
  have hd3 := hd2.below hb3
  obtain ⟨K3, B3, S3⟩ := cells1 W3 (intsA .u8 zeros) 28
  have hi := size28 w12_sec.1
  have T3 : (W3.alloc (.cells (intsA .u8 zeros) 28)).there W3.heap.size 0 (intsA .u8 w12).size := by rw [intsA_size, w12_sec.1]; exact K3.there
  go_wp2_with (first
      | (with_reducible refine wpList_store_mid rfl 28 (.tmp 4) (.tmp 18) rfl W3.heap.size 0 (intsA .u8 w12) rfl rfl T3 hi (intsA_one _ _) ?_))
  have k3 := K3.setAll (intsA .u8 w12).toList (by simp [intsA, zeros, w12])
  rw [Array.toArray_toList] at k3
  have hb3' := below_setCells (intsA .u8 w12).toList 0 B3 (Nat.le_refl _)
  generalize (W3.alloc _).setCells _ _ _ = W4 at *
  have hd4 := hd3.below hb3'
  refine (c11_out hd4 3 (by omega)).mono ?_
  unfold secV
  rintro e W5 ⟨rfl, hb5⟩
  have hd5 := hd4.below hb5
  have k5 := k3.below hb5 k3.lt
  obtain ⟨K6, B6, S6⟩ := cells1 W5 (intsA .u8 zeros) 28
  have k6 := (k5.alloc (.cells (intsA .u8 zeros) 28)).setCells_other (B' := W5.heap.size) (intsA .u8 zeros).toList 0 (by have := k5.lt; omega)
  have hi0 := size28 (l := zeros) rfl
  go_wp2_with (first
      | (with_reducible refine wpList_store_mid rfl 28 (.tmp 6) (.tmp 23) rfl W5.heap.size 0 (intsA .u8 zeros) rfl rfl K6.there hi0 (intsA_one _ _) ?_))
  have B6' := below_setCells (intsA .u8 zeros).toList 0 B6 (Nat.le_refl _)
  have hd6 := hd5.below B6'
  generalize (W5.alloc _).setCells _ _ _ = W6 at *
  have hb6 : Below w.heap.size w W6 := by
    have h3 := hb2.trans (hb3.mono hb2.size)
    have h4 := h3.trans (hb3'.mono h3.size)
    have h5 := h4.trans (hb5.mono h4.size)
    exact h5.trans (B6'.mono h5.size)
  have k6' : W6.heap[W3.heap.size]? = some (.cells (intsA .u8 w12) 28 (0, 0)) := k6
  have heq := fun w => (eq12 w).trans (by rw [decide_eq_true rfl])
  clear hz
  go_wp2_with (first
      | ((with_reducible refine wpList_load_row_g 28 (.tmp 4) rfl W3.heap.size rfl 28 (intsA .u8 w12) (0, 0) _ k6' Try.underlying28 rfl hi ?_ ?_); (focus (simp [Region.wanted, yielded]; done)))
      | (go_at_call 13; refine (c13 _ _).mono ?_; rintro e w' ⟨rfl, rfl⟩)
      | (go_at_call 23; refine (c23 hd6).mono ?_; rintro e w' ⟨rfl, rfl⟩))

  go_ret
  exact ⟨rfl, hb6⟩
end Go.Proofs.Ytoplchdnfmcbaaa
