/- What was written is read, and all others are as they were: the walk of the law, and its row. -/
import Derived.Test.YtoplchdnfmcbaaaG
namespace Go.Proofs.Ytoplchdnfmcbaaa.diskAgain
open Go.ChangeShapes Go.WideShapes Go.ChangeAt Go.RowKit Go.Shelf Go.Deep

/-- An act's cells. -/
def actA (n : Int) (x : List Int) : Array Value := (.int .i64 n :: x.map (Value.int .u8)).toArray
theorem act_cell {W : World} {B : Nat} {n : Int} {x : List Int} (h : Cells W B 37 (actA n x)) : W.cell? ⟨B, 0, none⟩ = some (.int .i64 n) := (h.cell 0).trans rfl
theorem act_range {W : World} {B : Nat} {n : Int} {x : List Int} (h : Cells W B 37 (actA n x)) : W.rangeAt B 1 (x.map (Value.int .u8)) := fun j v hv => by
  rw [Nat.add_comm 1 j, h.cell (j + 1)]
  simpa [actA] using hv
/-- A guarded load of a whole array, out of the middle of a block. -/
theorem wpList_load_mid_g {P : Program} {ops : Array Oper} {rest : List Oper} {o : Oper} {a : Act} {w : World} {Q : Exit → Act → World → Prop} (ty : TypeId) (x : Operand) (ho : o.op = .load ty x)
    (b off : Nat) (hx : a.eval x = .pointer (some ⟨b, off, none⟩)) (cs : List Value) (d : TypeDesc) (hc : w.rangeAt b off cs)
    (hu : P.underlying ty = some d) (hd : d.isRow = true) (hi : (P.info? ty).map (·.size) = some cs.length) (hw : Region.wanted o (yielded ops a.tmps) = true)
    (h : wpList P ops Q rest (a.put o.dst (.agg cs.toArray)) w) : wpList P ops Q (o :: rest) a w :=
  wpList_step fun K hK => by rw [if_pos hw]; exact wp_load_mid ty x ho b off hx cs d hc hu hd hi (hK _ _ h)

theorem open_actV {H : Type} {enc : TypeId × Value → H} {w : World} {base : Nat} {spare : Nat → Bool} {held : Bool} {r : Reach} {b0 : Nat} {v : Value} {d : DataW H} {ps : List MemPlace} (hv : Value.okWide Try.prog w r b0 37 v) (h : DataW.Trod enc Try.prog w base spare held 37 v d ps) :
    ∃ n x, v = .agg (actA n x) ∧ IsSec x := by
  obtain ⟨f0, f1, hu, _⟩ := fields37
  simp only [Value.okWide, hu] at hv
  obtain ⟨cs, rfl, _⟩ := hv
  obtain ⟨fuel, hf⟩ := h
  obtain ⟨n, l, e, hs, _⟩ := open_act (cs := cs.toList) hf
  refine ⟨n, l, ?_, hs⟩
  rw [actA, ← e, Array.toArray_toList]


set_option maxRecDepth 100000 in
theorem walk_bad {w : World} {A : Option Addr} {l : List Int} {c : Nat} (n other : Int) (x : List Int) (hl : l.length < 9223372036854775808) (hbad : ¬ (64 ≤ l.length ∧ l.length ≤ 2048 ∧ l.length % 64 = 0)) :
    Calls Try.prog 4 #[.slice A l.length c, .agg (actA n x), .int .i64 other] w fun e w' => e = .returned (.bool true) ∧ Below w.heap.size w w' := by
  obtain ⟨K, hb0, s0⟩ := cells1 w (actA n x) 37
  have hc14 := Lib.hid (c14_bad A l c hl hbad)
  clear hbad hl
  go_enter Try.func4, Try.ntmps4
  go_wp2_with fail
  generalize w.alloc _ = W0 at *
  refine (hc14.out W0).mono ?_
  rintro e W1 ⟨rfl, hb1⟩
  go_wp2_with (first
    | (go_at_call 13; refine (c13 _ _).mono ?_; rintro e w' ⟨rfl, rfl⟩)
    | (go_at_call 9; refine (c9 _).mono ?_; rintro e w' ⟨rfl, hb9⟩))
  go_ret
  have h1 := hb0.trans (hb1.mono hb0.size)
  exact ⟨rfl, h1.trans (hb9.mono h1.size)⟩
set_option maxRecDepth 100000 in
set_option maxHeartbeats 4000000 in
theorem walk_good {w : World} {A : Option Addr} {l : List Int} {c N : Nat} (n other : Int) (x : List Int) (hx : IsSec x) (hl : l.length = 64 * N) (h1 : 1 ≤ N) (h2 : N ≤ 32) (hc : l.length ≤ c) (hr : Rd w w.heap.size .u8 A l) (hsec : ∀ x ∈ l, 0 ≤ x ∧ x < 256) :
    Calls Try.prog 4 #[.slice A l.length c, .agg (actA n x), .int .i64 other] w fun e w' => e = .returned (.bool true) ∧ Below w.heap.size w w' := by
  obtain ⟨K, hb0, s0⟩ := cells1 w (actA n x) 37
  have HL := Lib.hid hl
  clear hl
  go_enter Try.func4, Try.ntmps4
  go_wp2_with fail
  generalize w.alloc _ = W0 at *
  refine (c14 HL.out h1 h2 hc ((hr.below hb0 (Nat.le_refl _)).up hb0.size) hsec).mono ?_
  rintro e W1 ⟨m, rfl, hb1, hd1, hrep⟩
  have B1 := hb0.trans (hb1.mono hb0.size)
  rw [s0] at hd1
  have K1 := K.below hb1 K.lt
  obtain ⟨y, eo, ho⟩ : ∃ y eo, Told N m other y eo := ⟨_, _, rfl, rfl⟩
  have hy := (ho.sec hd1.good).1
  have hz := zlit
  have hiy := size28 hy
  have hix := size28 hx.1
  go_wp2_with (first
    | (go_at_call 13; refine (c13 _ _).mono ?_; rintro e w' ⟨rfl, rfl⟩))
  refine (c11_all hd1 other y eo ho).mono ?_
  rintro e W2 ⟨rfl, hb2⟩
  have B2 := B1.trans (hb2.mono B1.size)
  have K2 := K1.below hb2 K1.lt
  obtain ⟨T2, W3, e3, y3, hb3, B3⟩ := own_sec B2 hy
  have K3 := K2.below hb3 K2.lt
  have hd3 := (hd1.below hb2).of_below hb3 (hd1.below hb2).hd.lt (hd1.below hb2).hm.lt
  have a3 := act_cell K3
  have g3 := act_range K3
  have hix' : (Try.prog.info? 28).map (·.size) = some (x.map (Value.int .u8)).length := by rw [List.length_map, hx.1]; kernel_rfl
  go_wp2_with (first
    | (with_reducible refine wpList_store_mid rfl 28 (.tmp 9) (.tmp 33) rfl W2.heap.size 0 (intsA .u8 y) rfl rfl T2 hiy (intsA_one _ _) ?_)
    | (with_reducible refine wpList_load_mid rfl 28 (.tmp 38) rfl w.heap.size 1 rfl (x.map (Value.int .u8)) _ g3 Try.underlying28 rfl hix' ?_))
  obtain ⟨eg, heg⟩ : ∃ eg : Int, eg = if 0 ≤ n ∧ n < (N : Int) then 0 else 4 := ⟨_, rfl⟩
  have HE := Lib.hid heg
  clear heg e3 T2
  refine (c15_er hd3 n x hx eg HE.out).mono ?_
  rintro e W4 ⟨rfl, hg4, m4, hd4, hm4⟩
  have hdl : w.heap.size + 1 + 1 < W2.heap.size := (hd1.below hb2).hd.lt
  have K4 : Cells W4 w.heap.size 37 _ := (hg4.block _ K3.lt (by simp)).trans K3
  have y4 : Cells W4 W2.heap.size 28 _ := (hg4.block _ y3.lt (by simp; omega)).trans y3
  have B4 : Below w.heap.size w W4 := B3.trans (below_of_grown hg4 (by omega) B3.size)
  have z0 : Told N m4 n (if 0 ≤ n ∧ n < (N : Int) then secL m4 n else zeros) eg := ⟨rfl, HE.out⟩
  have v0 : Told N m4 other (if 0 ≤ other ∧ other < (N : Int) then secL m4 other else zeros) eo := ⟨rfl, ho.err⟩
  have hzx : eg = 0 → (if 0 ≤ n ∧ n < (N : Int) then secL m4 n else zeros) = x := by
    intro h
    have := HE.out
    by_cases c : 0 ≤ n ∧ n < (N : Int)
    · rw [if_pos c, hm4 n c, if_pos rfl]
    · rw [if_neg c] at this; omega
  have hvy : n ≠ other → (if 0 ≤ other ∧ other < (N : Int) then secL m4 other else zeros) = y := by
    intro h
    rw [ho.val]
    by_cases c : 0 ≤ other ∧ other < (N : Int)
    · rw [if_pos c, if_pos c, hm4 other c, if_neg (Ne.symm h)]
    · rw [if_neg c, if_neg c]
  generalize (if 0 ≤ n ∧ n < (N : Int) then secL m4 n else zeros) = z at *
  generalize (if 0 ≤ other ∧ other < (N : Int) then secL m4 other else zeros) = v at *
  have hzl := (z0.sec hd4.good).1
  have hvl := (v0.sec hd4.good).1
  have hiz := size28 hzl
  have hiv := size28 hvl
  have HZ := Lib.hid z0
  have HV := Lib.hid v0
  clear hm4 hd3 hd1 hg4 K K1 K2 K3 y3 B1 B2 B3 hb0 hb1 hb2 hb3 hrep ho z0 v0 HE
  have a4 := act_cell K4
  go_wp2_with fail
  refine (c11_all hd4 n z eg HZ.out).mono ?_
  rintro e W5 ⟨rfl, hb5⟩
  have B5 := B4.trans (hb5.mono B4.size)
  have K5 := K4.below hb5 K4.lt
  have y5 := y4.below hb5 y4.lt
  have hd5 := hd4.below hb5
  obtain ⟨T5, W6, e6, z6, hb6, B6⟩ := own_sec B5 hzl
  have K6 := K5.below hb6 K5.lt
  have y6 := y5.below hb6 y5.lt
  have hd6 := hd5.of_below hb6 hd5.hd.lt hd5.hm.lt
  clear hb5 B5 K5 y5 hd5 B4 K4 y4 hd4 a4
  go_wp2_with (first
    | (with_reducible refine wpList_store_mid rfl 28 (.tmp 12) (.tmp 46) rfl W5.heap.size 0 (intsA .u8 z) rfl rfl T5 hiz (intsA_one _ _) ?_))
  clear e6 T5
  refine (c11_all hd6 other v eo HV.out).mono ?_
  rintro e W7 ⟨rfl, hb7⟩
  have B7 := B6.trans (hb7.mono B6.size)
  have K7 := K6.below hb7 K6.lt
  have y7 := y6.below hb7 y6.lt
  have z7 := z6.below hb7 z6.lt
  obtain ⟨T7, W8, e8, v8, hb8, B8⟩ := own_sec B7 hvl
  have K8 := K7.below hb8 K7.lt
  have y8 : W8.heap[W2.heap.size]? = some (.cells (intsA .u8 y) 28 (0, 0)) := y7.below hb8 y7.lt
  have z8 : W8.heap[W5.heap.size]? = some (.cells (intsA .u8 z) 28 (0, 0)) := z7.below hb8 z7.lt
  have v8' : W8.heap[W7.heap.size]? = some (.cells (intsA .u8 v) 28 (0, 0)) := v8
  have a8 := act_cell K8
  have g8 := act_range K8
  clear hd6 hb7 B7 K7 y7 z7 hb8 B6 K6 y6 z6 hb6 K8 v8
  have heqx : ∀ w, (Op.equalIn 10000 28 (.agg (intsA .u8 x)) (.agg (List.map (Value.int .u8) x).toArray)).run Try.prog w = .ok true w := fun w => (eqSec x x hx.1 hx.1 w).trans (by rw [decide_eq_true rfl])
  have heqy : ∀ w, (Op.equalIn 10000 28 (.agg (intsA .u8 y)) (.agg (intsA .u8 y))).run Try.prog w = .ok true w := fun w => (eqSec y y hy hy w).trans (by rw [decide_eq_true rfl])
  by_cases q1 : eg = 0
  · obtain rfl := hzx q1
    subst q1
    by_cases q2 : n = other
    · subst q2
      clear hvy hzx heqy
      go_wp2_with (first
        | (with_reducible refine wpList_store_mid rfl 28 (.tmp 14) (.tmp 52) rfl W7.heap.size 0 (intsA .u8 _) rfl rfl T7 hiv (intsA_one _ _) ?_)
        | ((with_reducible refine wpList_load_row_g 28 (.tmp 12) rfl W5.heap.size rfl 28 _ (0, 0) _ z8 Try.underlying28 rfl hiz ?_ ?_); (focus (first | (simp [Region.wanted, yielded]; done) | (simp [Region.wanted, yielded, *]; done))); simp only [Act.put, List.setIfInBounds_toArray, List.set_cons_zero, List.set_cons_succ])
        | ((with_reducible refine wpList_load_mid_g 28 (.tmp 65) rfl w.heap.size 1 rfl _ _ g8 Try.underlying28 rfl hix' ?_ ?_); (focus (first | (simp [Region.wanted, yielded]; done) | (simp [Region.wanted, yielded, *]; done))); simp only [Act.put, List.setIfInBounds_toArray, List.set_cons_zero, List.set_cons_succ])
        | ((with_reducible refine wpList_load_row_g 28 (.tmp 14) rfl W7.heap.size rfl 28 _ (0, 0) _ v8' Try.underlying28 rfl hiv ?_ ?_); (focus (first | (simp [Region.wanted, yielded]; done) | (simp [Region.wanted, yielded, *]; done))); simp only [Act.put, List.setIfInBounds_toArray, List.set_cons_zero, List.set_cons_succ])
        | ((with_reducible refine wpList_load_row_g 28 (.tmp 9) rfl W2.heap.size rfl 28 _ (0, 0) _ y8 Try.underlying28 rfl hiy ?_ ?_); (focus (first | (simp [Region.wanted, yielded]; done) | (simp [Region.wanted, yielded, *]; done))); simp only [Act.put, List.setIfInBounds_toArray, List.set_cons_zero, List.set_cons_succ])
        | (go_at_call 13; refine (c13 _ _).mono ?_; rintro e w' ⟨rfl, rfl⟩)
        | (go_at_call 9; refine (c9 _).mono ?_; rintro e w' ⟨rfl, hb9⟩))
      go_ret
      exact ⟨rfl, B8.trans (hb9.mono B8.size)⟩
    · obtain rfl := hvy q2
      clear hvy hzx
      go_wp2_with (first
        | (with_reducible refine wpList_store_mid rfl 28 (.tmp 14) (.tmp 52) rfl W7.heap.size 0 (intsA .u8 _) rfl rfl T7 hiv (intsA_one _ _) ?_)
        | ((with_reducible refine wpList_load_row_g 28 (.tmp 12) rfl W5.heap.size rfl 28 _ (0, 0) _ z8 Try.underlying28 rfl hiz ?_ ?_); (focus (first | (simp [Region.wanted, yielded]; done) | (simp [Region.wanted, yielded, *]; done))); simp only [Act.put, List.setIfInBounds_toArray, List.set_cons_zero, List.set_cons_succ])
        | ((with_reducible refine wpList_load_mid_g 28 (.tmp 65) rfl w.heap.size 1 rfl _ _ g8 Try.underlying28 rfl hix' ?_ ?_); (focus (first | (simp [Region.wanted, yielded]; done) | (simp [Region.wanted, yielded, *]; done))); simp only [Act.put, List.setIfInBounds_toArray, List.set_cons_zero, List.set_cons_succ])
        | ((with_reducible refine wpList_load_row_g 28 (.tmp 14) rfl W7.heap.size rfl 28 _ (0, 0) _ v8' Try.underlying28 rfl hiv ?_ ?_); (focus (first | (simp [Region.wanted, yielded]; done) | (simp [Region.wanted, yielded, *]; done))); simp only [Act.put, List.setIfInBounds_toArray, List.set_cons_zero, List.set_cons_succ])
        | ((with_reducible refine wpList_load_row_g 28 (.tmp 9) rfl W2.heap.size rfl 28 _ (0, 0) _ y8 Try.underlying28 rfl hiy ?_ ?_); (focus (first | (simp [Region.wanted, yielded]; done) | (simp [Region.wanted, yielded, *]; done))); simp only [Act.put, List.setIfInBounds_toArray, List.set_cons_zero, List.set_cons_succ])
        | (go_at_call 13; refine (c13 _ _).mono ?_; rintro e w' ⟨rfl, rfl⟩)
        | (go_at_call 9; refine (c9 _).mono ?_; rintro e w' ⟨rfl, hb9⟩))
      go_ret
      exact ⟨rfl, B8.trans (hb9.mono B8.size)⟩
  · clear hzx
    by_cases q2 : n = other
    · subst q2
      clear hvy heqy
      go_wp2_with (first
        | (with_reducible refine wpList_store_mid rfl 28 (.tmp 14) (.tmp 52) rfl W7.heap.size 0 (intsA .u8 _) rfl rfl T7 hiv (intsA_one _ _) ?_)
        | ((with_reducible refine wpList_load_row_g 28 (.tmp 12) rfl W5.heap.size rfl 28 _ (0, 0) _ z8 Try.underlying28 rfl hiz ?_ ?_); (focus (first | (simp [Region.wanted, yielded]; done) | (simp [Region.wanted, yielded, *]; done))); simp only [Act.put, List.setIfInBounds_toArray, List.set_cons_zero, List.set_cons_succ])
        | ((with_reducible refine wpList_load_mid_g 28 (.tmp 65) rfl w.heap.size 1 rfl _ _ g8 Try.underlying28 rfl hix' ?_ ?_); (focus (first | (simp [Region.wanted, yielded]; done) | (simp [Region.wanted, yielded, *]; done))); simp only [Act.put, List.setIfInBounds_toArray, List.set_cons_zero, List.set_cons_succ])
        | ((with_reducible refine wpList_load_row_g 28 (.tmp 14) rfl W7.heap.size rfl 28 _ (0, 0) _ v8' Try.underlying28 rfl hiv ?_ ?_); (focus (first | (simp [Region.wanted, yielded]; done) | (simp [Region.wanted, yielded, *]; done))); simp only [Act.put, List.setIfInBounds_toArray, List.set_cons_zero, List.set_cons_succ])
        | ((with_reducible refine wpList_load_row_g 28 (.tmp 9) rfl W2.heap.size rfl 28 _ (0, 0) _ y8 Try.underlying28 rfl hiy ?_ ?_); (focus (first | (simp [Region.wanted, yielded]; done) | (simp [Region.wanted, yielded, *]; done))); simp only [Act.put, List.setIfInBounds_toArray, List.set_cons_zero, List.set_cons_succ])
        | (go_at_call 13; refine (c13 _ _).mono ?_; rintro e w' ⟨rfl, rfl⟩)
        | (go_at_call 9; refine (c9 _).mono ?_; rintro e w' ⟨rfl, hb9⟩))
      go_ret
      exact ⟨rfl, B8.trans (hb9.mono B8.size)⟩
    · obtain rfl := hvy q2
      clear hvy
      go_wp2_with (first
        | (with_reducible refine wpList_store_mid rfl 28 (.tmp 14) (.tmp 52) rfl W7.heap.size 0 (intsA .u8 _) rfl rfl T7 hiv (intsA_one _ _) ?_)
        | ((with_reducible refine wpList_load_row_g 28 (.tmp 12) rfl W5.heap.size rfl 28 _ (0, 0) _ z8 Try.underlying28 rfl hiz ?_ ?_); (focus (first | (simp [Region.wanted, yielded]; done) | (simp [Region.wanted, yielded, *]; done))); simp only [Act.put, List.setIfInBounds_toArray, List.set_cons_zero, List.set_cons_succ])
        | ((with_reducible refine wpList_load_mid_g 28 (.tmp 65) rfl w.heap.size 1 rfl _ _ g8 Try.underlying28 rfl hix' ?_ ?_); (focus (first | (simp [Region.wanted, yielded]; done) | (simp [Region.wanted, yielded, *]; done))); simp only [Act.put, List.setIfInBounds_toArray, List.set_cons_zero, List.set_cons_succ])
        | ((with_reducible refine wpList_load_row_g 28 (.tmp 14) rfl W7.heap.size rfl 28 _ (0, 0) _ v8' Try.underlying28 rfl hiv ?_ ?_); (focus (first | (simp [Region.wanted, yielded]; done) | (simp [Region.wanted, yielded, *]; done))); simp only [Act.put, List.setIfInBounds_toArray, List.set_cons_zero, List.set_cons_succ])
        | ((with_reducible refine wpList_load_row_g 28 (.tmp 9) rfl W2.heap.size rfl 28 _ (0, 0) _ y8 Try.underlying28 rfl hiy ?_ ?_); (focus (first | (simp [Region.wanted, yielded]; done) | (simp [Region.wanted, yielded, *]; done))); simp only [Act.put, List.setIfInBounds_toArray, List.set_cons_zero, List.set_cons_succ])
        | (go_at_call 13; refine (c13 _ _).mono ?_; rintro e w' ⟨rfl, rfl⟩)
        | (go_at_call 9; refine (c9 _).mono ?_; rintro e w' ⟨rfl, hb9⟩))
      go_ret
      exact ⟨rfl, B8.trans (hb9.mono B8.size)⟩
theorem walk {w : World} {A : Option Addr} {l : List Int} {c : Nat} (n other : Int) (x : List Int) (hx : IsSec x) (hc : l.length ≤ c) (hm : c ≤ maxLen) (hr : Rd w w.heap.size .u8 A l) (hsec : ∀ x ∈ l, (Lit.int .u8 x).wf = true) :
    Calls Try.prog 4 #[.slice A l.length c, .agg (actA n x), .int .i64 other] w fun e w' => e = .returned (.bool true) ∧ Below w.heap.size w w' := by
  simp only [maxLen] at hm
  by_cases h : 64 ≤ l.length ∧ l.length ≤ 2048 ∧ l.length % 64 = 0
  · exact walk_good (N := l.length / 64) n other x hx (by omega) (by omega) (by omega) hc hr (fun x hx => by have := bounds_u8 (hsec x hx); omega)
  · exact walk_bad n other x (by omega) h

set_option maxRecDepth 100000 in
theorem lifted (os : Os) (started : os.Started) (H : Type) (enc : TypeId × Value → H) :
    ReturnsInHanded {} Try.checked os 4 .any (Rows.diskAgainSpec.pre6 enc Try.prog Try.f4 Rows.diskAgainRow.domain false) (Rows.diskAgainSpec.post enc Try.prog Try.f4 false true false false) := by
  refine returnsInHanded_of_change (C := Try.checked) Try.own started (by kernel_rfl) Try.func4
    (ChangeSpec.witness6 (enc := enc) (C := Try.checked) false ⟨#[], #[.slice none 0 0, .agg #[.int .i64 0, .int .u8 0, .int .u8 0, .int .u8 0, .int .u8 0, .int .u8 0, .int .u8 0, .int .u8 0, .int .u8 0, .int .u8 0, .int .u8 0, .int .u8 0, .int .u8 0, .int .u8 0, .int .u8 0, .int .u8 0, .int .u8 0, .int .u8 0, .int .u8 0, .int .u8 0, .int .u8 0, .int .u8 0, .int .u8 0, .int .u8 0, .int .u8 0, .int .u8 0, .int .u8 0, .int .u8 0, .int .u8 0, .int .u8 0, .int .u8 0, .int .u8 0, .int .u8 0, .int .u8 0, .int .u8 0, .int .u8 0, .int .u8 0, .int .u8 0, .int .u8 0, .int .u8 0, .int .u8 0, .int .u8 0, .int .u8 0, .int .u8 0, .int .u8 0, .int .u8 0, .int .u8 0, .int .u8 0, .int .u8 0, .int .u8 0, .int .u8 0, .int .u8 0, .int .u8 0, .int .u8 0, .int .u8 0, .int .u8 0, .int .u8 0, .int .u8 0, .int .u8 0, .int .u8 0, .int .u8 0, .int .u8 0, .int .u8 0, .int .u8 0, .int .u8 0], .int .i64 0], []⟩ 8 (by kernel_rfl) (by kernel_rfl) (by kernel_rfl) (by kernel_rfl)) ?_
  intro W base args ds gs before hval0 hW hcnd _
  have hval : ∀ (j : Nat) t v, Try.f4.params[j]? = some t → args[j]? = some v → Value.okWide Try.prog W .any base t v := hval0
  have hW' := hW
  obtain ⟨p, q, hA0, hV, rfl, hfz, hnd⟩ := hW
  have hA : DataW.TrodAll enc Try.prog W 0 (fun _ => true) true Try.f4.params.toList args.toList ds p := hA0
  rw [Try.params4] at hA hval
  obtain ⟨v0, vs0, d0, ds0, p0, q0, hargs, rfl, rfl, h0, r0⟩ := trodAll_cons hA
  obtain ⟨v1, vs1, d1, ds1, p1, q1, rfl, rfl, rfl, h1, r1⟩ := trodAll_cons r0
  obtain ⟨v2, vs2, d2, ds2, p2, q2, rfl, rfl, rfl, h2, r2⟩ := trodAll_cons r1
  obtain ⟨rfl, rfl, rfl⟩ := trodAll_nil r2
  obtain rfl : args = #[v0, v1, v2] := by cases args; simp_all
  obtain ⟨rfl, rfl⟩ := trodVars_none hV
  obtain ⟨A0, l, c0, rfl, l0, m0, hr, wl⟩ := open_ints Try.underlying25 (by kernel_rfl) Try.underlying5 (hval 0 25 v0 rfl rfl) h0
  obtain ⟨n, x, rfl, hx⟩ := open_actV (hval 1 37 v1 rfl rfl) h1
  obtain ⟨a2, rfl, rfl, rfl, w2⟩ := open_int Try.underlying3 (hval 2 3 v2 rfl rfl) h2
  refine (walk n a2 x hx l0 m0 hr wl).mono fun e W' ⟨he, hb⟩ => ?_
  subst he
  exact ⟨_, rfl, law_post Try.laidOut rfl (by kernel_rfl) Try.underlying4 (by kernel_rfl) rfl hW' hb⟩

theorem proved : Rows.DiskAgainSaid :=
  OpenClaim.holds_of_wide 4 Try.f4 rfl rfl rfl rfl rfl rfl rfl ⟨rfl, rfl, rfl, rfl, rfl⟩ rfl rfl rfl rfl rfl (by kernel_rfl) Try.func4 (by kernel_rfl)
    (of_decide_eq_true (by kernel_rfl)) (by unfold Func.isWrapper; first | (rw [if_pos (by decide +kernel)]; kernel_rfl) | (rw [if_neg (by decide +kernel)]; exact ⟨rfl, rfl⟩))
    (fun os started H enc _ => lifted os started H enc)
#print axioms proved
end Go.Proofs.Ytoplchdnfmcbaaa.diskAgain
