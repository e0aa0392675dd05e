/- Copy, Same: contracts. -/
import Derived.Test.YtoplchdnfmcbaaaVl
import Derived.Shelf.SlMaps.Clone
import Derived.Maps.RangeWalk
import Derived.LoopTactic
namespace Go.Proofs.Ytoplchdnfmcbaaa
open Go.RowKit Go.Shelf Go.Maps

set_option maxRecDepth 100000 in
set_option maxHeartbeats 1000000 in
theorem c31 {W : World} {b : Nat} {m : List (Int × Value)} (h : MapAt .i64 W b m) : Calls Try.prog 31 #[.map (some b)] W fun e w' => e = .returned (.map (some W.heap.size)) ∧ MapAt .i64 w' W.heap.size m ∧ ∃ es c, w' = W.alloc (.map es c) := by
  obtain ⟨es, c, hb, h1⟩ := h
  have hq := fun w => run_eql_map_nil_sl (P := Try.prog) w 61 _ _ (some b) Try.underlying61
  go_enter Try.func31, Try.ntmps31
  go_wp2
  rw [run_callFunc_extern Try.func38 (by kernel_rfl) (by kernel_rfl) (by kernel_rfl) (e := Extern.MapsClone.clone) (by kernel_rfl), run_maps_clone_sl W 61 hb]
  simp only [Result.andThen]
  rw [Oper.upon_value]
  go_wp2
  rw [run_typeAssert_map_sl _ 61 20 _ _ _ Try.underlying61]
  simp only [Result.andThen]
  rw [Oper.upon_value]
  go_wp2
  go_ret
  exact ⟨rfl, ⟨es, c, World.alloc_heap_new W _, h1⟩, es, c, rfl⟩
/-- Copy, on the way. -/
structure Cp (w W : World) (db mb : Nat) (N : Int) (m : List (Int × List Int)) (o : Option Nat) : Prop where
  d : IsDisk W db mb N m
  low : Below w.heap.size w W
  cp : ∀ b, o = some b → MapAt .i64 W b (encM m) ∧ w.heap.size ≤ b
section
variable {w W W' : World} {db mb : Nat} {N : Int} {m : List (Int × List Int)} {o : Option Nat}
theorem IsDisk.c2 (h : IsDisk W db mb N m) : W.cell? ⟨db, 0, none⟩ = some (.int .i64 N) ∧ W.cell? ⟨db, 1, none⟩ = some (.map (some mb)) := ⟨(h.hd.cell 0).trans rfl, (h.hd.cell 1).trans rfl⟩
theorem Cp.clone (h : Cp w W db mb N m o) : Calls Try.prog 31 #[.map (some mb)] W fun e w' => ∃ b, e = .returned (.map (some b)) ∧ Cp w w' db mb N m (some b) := by
  refine (c31 h.d.hm).mono ?_
  rintro e w' ⟨rfl, hm, es, c, rfl⟩
  have hb := (Below.refl _ W).alloc (Nat.le_refl _) (.map es c)
  exact ⟨_, rfl, h.d.below hb, h.low.trans (hb.mono h.low.size), fun b e => by obtain rfl := Option.some.inj e; exact ⟨hm, h.low.size⟩⟩
theorem Cp.done {b : Nat} (h : Cp w W db mb N m (some b)) : IsDisk (W.alloc (.cells #[.int .i64 N, .map (some b)] 63)) W.heap.size b N m ∧ w.heap.size ≤ W.heap.size ∧ w.heap.size ≤ b ∧ Below w.heap.size w (W.alloc (.cells #[.int .i64 N, .map (some b)] 63)) := by
  have hb := (Below.refl _ W).alloc (Nat.le_refl _) (.cells #[.int .i64 N, .map (some b)] 63)
  obtain ⟨hm, hlt⟩ := h.cp b rfl
  exact ⟨⟨Cells.new _ _ _, hm.of_block (hb.block _ hm.lt), h.d.good, h.d.lo, h.d.hi⟩, h.low.size, hlt, h.low.trans (hb.mono h.low.size)⟩
end
set_option maxRecDepth 100000 in
set_option maxHeartbeats 2000000 in
theorem c17 {w : World} {db mb : Nat} {N : Int} {m : List (Int × List Int)} (h : IsDisk w db mb N m) : Calls Try.prog 17 #[.pointer (some ⟨db, 0, none⟩)] w fun e w' => ∃ d' m', e = .returned (.pointer (some ⟨d', 0, none⟩)) ∧ IsDisk w' d' m' N m ∧ w.heap.size ≤ d' ∧ w.heap.size ≤ m' ∧ Below w.heap.size w w' := by
  have hlo := h.lo
  have C1 : Cp w w.drew db mb N m none := ⟨h.keep rfl rfl, (Below.refl _ w).drew, fun _ e => (by cases e)⟩
  have S1 := C1.d.c2
  go_enter Try.func17, Try.ntmps17
  go_wp2_with fail
  refine (c23 h).mono ?_
  rintro e w' ⟨rfl, rfl⟩
  go_wp2_with fail
  go_region_held3 (fun W => W.cell? ⟨db, 0, none⟩ = some (.int .i64 N) ∧ W.cell? ⟨db, 1, none⟩ = some (.map (some mb)))
    (first | exact IsDisk.c2 (Cp.d (by assumption)) | exact IsDisk.c2 (IsDisk.below (Cp.d (by assumption)) ((Below.refl _ _).alloc (Nat.le_refl _) _)))
    (first
      | ((with_reducible refine (Cp.clone (by assumption)).mono ?_); rintro e W2 ⟨b', rfl, C2⟩))
  all_goals
    go_wp2
    go_ret
    obtain ⟨d1, d2, d3, d4⟩ := Cp.done (by assumption)
    exact ⟨_, _, rfl, d1, d2, d3, d4⟩
theorem c17_nil (w : World) : Calls Try.prog 17 #[.pointer none] w fun e w' => e = .returned (.pointer none) ∧ w = w' := by
  go_enter Try.func17, Try.ntmps17
  go_wp2_with fail
  refine (c23_nil w).mono ?_
  rintro e w' ⟨rfl, rfl⟩
  go_wp2
  go_ret
  exact ⟨rfl, rfl⟩
theorem c24_nil (w : World) : Calls Try.prog 24 #[.pointer none] w fun e w' => e = .returned (.slice none 0 0) ∧ w = w' := by
  go_enter Try.func24, Try.ntmps24
  go_wp2_with fail
  refine (c23_nil w).mono ?_
  rintro e w' ⟨rfl, rfl⟩
  go_wp2_with fail
  go_loopw [3, 8] (fun v i wr => v = .slice none 0 0 ∧ i = .int .i64 0 ∧ w = wr) (fun _ _ _ => 0)
  case atStart => exact ⟨rfl, rfl, rfl⟩
  case round =>
    obtain ⟨rfl, rfl, rfl⟩ := hrel
    go_wp2_with fail
    go_ret
    exact ⟨rfl, rfl⟩
theorem c18_nil (w : World) : Calls Try.prog 18 #[.pointer none] w fun e w' => e = .returned (.func (.func 32) #[] #[]) ∧ w = w' := by
  go_enter Try.func18, Try.ntmps18
  go_wp2_with fail
  refine (c23_nil w).mono ?_
  rintro e w' ⟨rfl, rfl⟩
  go_wp2
  go_ret
  exact ⟨rfl, rfl⟩
theorem c19_nn (w : World) : Calls Try.prog 19 #[.pointer none, .pointer none] w fun e w' => e = .returned (.bool true) ∧ w = w' := by
  go_enter Try.func19, Try.ntmps19
  go_wp2_with ((go_at_call 23; refine (c23_nil _).mono ?_; rintro e w' ⟨rfl, rfl⟩))
  go_ret
  exact ⟨rfl, rfl⟩
section
variable {w : World} {db mb : Nat} {N : Int} {m : List (Int × List Int)}
theorem c19_nd (h : IsDisk w db mb N m) : Calls Try.prog 19 #[.pointer none, .pointer (some ⟨db, 0, none⟩)] w fun e w' => e = .returned (.bool false) ∧ w = w' := by
  have hlo := h.lo
  go_enter Try.func19, Try.ntmps19
  go_wp2_with (first
    | ((with_reducible refine (c23_nil _).mono ?_); rintro e w' ⟨rfl, rfl⟩)
    | ((with_reducible refine (c23 h).mono ?_); rintro e w' ⟨rfl, rfl⟩))
  go_ret
  exact ⟨by simp; omega, rfl⟩
theorem c19_dn (h : IsDisk w db mb N m) : Calls Try.prog 19 #[.pointer (some ⟨db, 0, none⟩), .pointer none] w fun e w' => e = .returned (.bool false) ∧ w = w' := by
  have hlo := h.lo
  go_enter Try.func19, Try.ntmps19
  go_wp2_with (first
    | ((with_reducible refine (c23_nil _).mono ?_); rintro e w' ⟨rfl, rfl⟩)
    | ((with_reducible refine (c23 h).mono ?_); rintro e w' ⟨rfl, rfl⟩))
  go_ret
  exact ⟨by simp; omega, rfl⟩
end
end Go.Proofs.Ytoplchdnfmcbaaa
