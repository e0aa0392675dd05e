/- A copy has the same bytes and goes on apart, which are the same, what Used tells is as it was when it was called, and what is told of none: the walk of the law, and its row. -/
import Derived.Test.YtoplchdnfmcbaaaVp
namespace Go.Proofs.Ytoplchdnfmcbaaa.diskCopies
open Go.ChangeShapes Go.WideShapes Go.ChangeAt Go.RowKit Go.Shelf Go.Deep


attribute [local go_sem] Oper.semAt_some
set_option maxRecDepth 100000 in
set_option maxHeartbeats 4000000 in
theorem walk_bad {w : World} {A : Option Addr} {L c : Nat} (N n : Int) (x : List Int) (hbad : N < 1 ∨ 32 < N ∨ (40 : Int) < L) :
    Calls Try.prog 6 #[.int .i64 N, .slice A L c, .agg (actA n x)] w fun e w' => e = .returned (.bool true) ∧ Below w.heap.size w w' := by
  obtain ⟨k0, k1, hb0, s0⟩ := cells2 w (actA n x) #[.bool false] 37 4
  rw [← callsIn_wide (n := 1)]
  refine callsIn_of_wp_marks Try.func6 rfl trivial ?_
  simp only [Try.ntmps6, List.append_eq, List.size_toArray, List.length_cons, List.length_nil, Nat.reduceAdd, Nat.reduceSub, Array.replicate_succ, Array.replicate_zero, List.push_toArray, List.append_toArray, List.nil_append, List.cons_append]
  have K1 := Lib.hid k1
  have HB := Lib.hid hb0
  clear k0 k1 hb0 s0
  have hd : (decide (N < 1) || (decide (32 < N) || decide ((40 : Int) < L))) = true := by simpa using hbad
  by_cases n1 : N < 1
  · clear hbad hd
    gi_wp2_with fail
    generalize (w.alloc _).alloc _ = W0 at *
    refine ⟨trivial, (callsIn_wide.2 (c9 _)).mono ?_⟩
    rintro e W1 ⟨rfl, b⟩
    have k := K1.out.below b K1.out.lt
    have f0 := k.frozen 0
    have y0 := k.cell 0
    simp at y0
    have HK := Lib.hid k
    have HF := Lib.hid (HB.out.trans (b.mono HB.out.size))
    clear k b
    gi_wp2
    have q := (HK.out.set 0 (.bool true)).cell 0
    simp at q
    exact ⟨_, results_cell_one rfl _ _ (w.heap.size + 1) (.bool true) rfl (by simp [loadVar, run_load, Sem.run_bind, Try.isAgg4, q]), rfl, HF.out.setCell (by show w.heap.size ≤ w.heap.size + 1; omega) _⟩
  · by_cases n2 : 32 < N
    · clear hbad hd
      gi_wp2_with fail
      generalize (w.alloc _).alloc _ = W0 at *
      refine ⟨trivial, (callsIn_wide.2 (c9 _)).mono ?_⟩
      rintro e W1 ⟨rfl, b⟩
      have k := K1.out.below b K1.out.lt
      have f0 := k.frozen 0
      have y0 := k.cell 0
      simp at y0
      have HK := Lib.hid k
      have HF := Lib.hid (HB.out.trans (b.mono HB.out.size))
      clear k b
      gi_wp2
      have q := (HK.out.set 0 (.bool true)).cell 0
      simp at q
      exact ⟨_, results_cell_one rfl _ _ (w.heap.size + 1) (.bool true) rfl (by simp [loadVar, run_load, Sem.run_bind, Try.isAgg4, q]), rfl, HF.out.setCell (by show w.heap.size ≤ w.heap.size + 1; omega) _⟩
    · have n3 : (40 : Int) < L := by omega
      clear hbad hd
      gi_wp2_with fail
      generalize (w.alloc _).alloc _ = W0 at *
      refine ⟨trivial, (callsIn_wide.2 (c9 _)).mono ?_⟩
      rintro e W1 ⟨rfl, b⟩
      have k := K1.out.below b K1.out.lt
      have f0 := k.frozen 0
      have y0 := k.cell 0
      simp at y0
      have HK := Lib.hid k
      have HF := Lib.hid (HB.out.trans (b.mono HB.out.size))
      clear k b
      gi_wp2
      have q := (HK.out.set 0 (.bool true)).cell 0
      simp at q
      exact ⟨_, results_cell_one rfl _ _ (w.heap.size + 1) (.bool true) rfl (by simp [loadVar, run_load, Sem.run_bind, Try.isAgg4, q]), rfl, HF.out.setCell (by show w.heap.size ≤ w.heap.size + 1; omega) _⟩
theorem walk {w : World} {A : Option Addr} {s : List (Int × List Int)} {c : Nat} (N n : Int) (x : List Int) (hs : Scr w w.heap.size A s) (hx : IsSec x) :
    Calls Try.prog 6 #[.int .i64 N, .slice A s.length c, .agg (actA n x)] w fun e w' => e = .returned (.bool true) ∧ Below w.heap.size w w' := by
  by_cases h : N < 1 ∨ 32 < N ∨ (40 : Int) < s.length
  · exact walk_bad N n x h
  · obtain ⟨N, rfl⟩ := Int.eq_ofNat_of_zero_le (show 0 ≤ N by omega)
    exact copies_in n x (by omega) (by omega) (by omega) hs hx

set_option maxRecDepth 100000 in
theorem lifted (os : Os) (started : os.Started) (H : Type) (enc : TypeId × Value → H) :
    ReturnsInHanded {} Try.checked os 6 .any (Rows.diskCopiesSpec.pre6 enc Try.prog Try.f6 Rows.diskCopiesRow.domain false) (Rows.diskCopiesSpec.post enc Try.prog Try.f6 false true false false) := by
  refine returnsInHanded_of_change (C := Try.checked) Try.own started (by kernel_rfl) Try.func6
    (ChangeSpec.witness6 (enc := enc) (C := Try.checked) false ⟨#[], #[.int .i64 0, .slice none 0 0, .agg #[.int .i64 0, .int .u8 0, .int .u8 0, .int .u8 0, .int .u8 0, .int .u8 0, .int .u8 0, .int .u8 0, .int .u8 0, .int .u8 0, .int .u8 0, .int .u8 0, .int .u8 0, .int .u8 0, .int .u8 0, .int .u8 0, .int .u8 0, .int .u8 0, .int .u8 0, .int .u8 0, .int .u8 0, .int .u8 0, .int .u8 0, .int .u8 0, .int .u8 0, .int .u8 0, .int .u8 0, .int .u8 0, .int .u8 0, .int .u8 0, .int .u8 0, .int .u8 0, .int .u8 0, .int .u8 0, .int .u8 0, .int .u8 0, .int .u8 0, .int .u8 0, .int .u8 0, .int .u8 0, .int .u8 0, .int .u8 0, .int .u8 0, .int .u8 0, .int .u8 0, .int .u8 0, .int .u8 0, .int .u8 0, .int .u8 0, .int .u8 0, .int .u8 0, .int .u8 0, .int .u8 0, .int .u8 0, .int .u8 0, .int .u8 0, .int .u8 0, .int .u8 0, .int .u8 0, .int .u8 0, .int .u8 0, .int .u8 0, .int .u8 0, .int .u8 0, .int .u8 0]], []⟩ 8 (by kernel_rfl) (by kernel_rfl) (by kernel_rfl) (by kernel_rfl)) ?_
  intro W base args ds gs before hval0 hW hcnd _
  have hval : ∀ (j : Nat) t v, Try.f6.params[j]? = some t → args[j]? = some v → Value.okWide Try.prog W .any base t v := hval0
  have hW' := hW
  obtain ⟨p, q, hA0, hV, rfl, hfz, hnd⟩ := hW
  have hA : DataW.TrodAll enc Try.prog W 0 (fun _ => true) true Try.f6.params.toList args.toList ds p := hA0
  rw [Try.params6] at hA hval
  obtain ⟨v0, vs0, d0, ds0, p0, q0, hargs, rfl, rfl, h0, r0⟩ := trodAll_cons hA
  obtain ⟨v1, vs1, d1, ds1, p1, q1, rfl, rfl, rfl, h1, r1⟩ := trodAll_cons r0
  obtain ⟨v2, vs2, d2, ds2, p2, q2, rfl, rfl, rfl, h2, r2⟩ := trodAll_cons r1
  obtain ⟨rfl, rfl, rfl⟩ := trodAll_nil r2
  obtain rfl : args = #[v0, v1, v2] := by cases args; simp_all
  obtain ⟨rfl, rfl⟩ := trodVars_none hV
  obtain ⟨a0, rfl, rfl, rfl, w0⟩ := open_int Try.underlying3 (hval 0 3 v0 rfl rfl) h0
  obtain ⟨A1, s, c1, rfl, l1, m1, hs⟩ := open_scr (hval 1 22 v1 rfl rfl) h1
  obtain ⟨n, x, rfl, hx⟩ := open_actV (hval 2 37 v2 rfl rfl) h2
  refine (walk a0 n x hs hx).mono fun e W' ⟨he, hb⟩ => ?_
  subst he
  exact ⟨_, rfl, law_post Try.laidOut rfl (by kernel_rfl) Try.underlying4 (by kernel_rfl) rfl hW' hb⟩

theorem proved : Rows.DiskCopiesSaid :=
  OpenClaim.holds_of_wide 6 Try.f6 rfl rfl rfl rfl rfl rfl rfl ⟨rfl, rfl, rfl, rfl, rfl⟩ rfl rfl rfl rfl rfl (by kernel_rfl) Try.func6 (by kernel_rfl)
    (of_decide_eq_true (by kernel_rfl)) (by unfold Func.isWrapper; first | (rw [if_pos (by decide +kernel)]; kernel_rfl) | (rw [if_neg (by decide +kernel)]; exact ⟨rfl, rfl⟩))
    (fun os started H enc _ => lifted os started H enc)
#print axioms proved
end Go.Proofs.Ytoplchdnfmcbaaa.diskCopies
