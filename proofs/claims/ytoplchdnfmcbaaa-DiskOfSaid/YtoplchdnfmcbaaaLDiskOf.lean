/- Of makes of bytes a disk that is written like the document: the walk of the law, and its row. -/
import Derived.Test.YtoplchdnfmcbaaaVf
namespace Go.Proofs.Ytoplchdnfmcbaaa.diskOf
open Go.ChangeShapes Go.WideShapes Go.ChangeAt Go.RowKit Go.Shelf Go.Deep


set_option maxRecDepth 100000 in
theorem walk_bad {w : World} {A : Option Addr} {l : List Int} {c : Nat} (n : Int) (x : List Int) (hl : l.length < 9223372036854775808) (hbad : ¬ (64 ≤ l.length ∧ l.length ≤ 2048 ∧ l.length % 64 = 0)) :
    Calls Try.prog 8 #[.slice A l.length c, .agg (actA n x)] w fun e w' => e = .returned (.bool true) ∧ Below w.heap.size w w' := by
  obtain ⟨K, hb0, s0⟩ := cells1 w (actA n x) 37
  have H25 := Lib.hid (c25_bad hl hbad)
  have HB := Lib.hid hb0
  clear hbad hl hb0 K s0
  go_enter Try.func8, Try.ntmps8
  go_wp2_with fail
  refine (H25.out _).mono ?_
  rintro e W1 ⟨rfl, rfl⟩
  go_wp2_with fail
  refine (c9 _).mono ?_
  rintro e W2 ⟨rfl, hb9⟩
  have HF := Lib.hid (HB.out.trans (hb9.mono HB.out.size))
  clear hb9
  go_wp2
  go_ret
  exact ⟨rfl, HF.out⟩
set_option maxRecDepth 100000 in
set_option maxHeartbeats 4000000 in
theorem walk_good {w : World} {A : Option Addr} {l : List Int} {c N : Nat} (n : Int) (x : List Int) (hx : IsSec x) (hl : l.length = 64 * N) (h1 : 1 ≤ N) (h2 : N ≤ 32) (hc : l.length ≤ c) (hr : Rd w w.heap.size .u8 A l) (hsec : ∀ x ∈ l, 0 ≤ x ∧ x < 256) :
    Calls Try.prog 8 #[.slice A l.length c, .agg (actA n x)] w fun e w' => e = .returned (.bool true) ∧ Below w.heap.size w w' := by
  obtain ⟨K, hb0, s0⟩ := cells1 w (actA n x) 37
  have H25 := Lib.hid (c25_good hl h1 h2)
  have HL := Lib.hid hl
  clear hl
  go_enter Try.func8, Try.ntmps8
  go_wp2_with fail
  generalize w.alloc _ = W0 at *
  refine (H25.out _).mono ?_
  rintro e w' ⟨rfl, rfl⟩
  have H14 := Lib.hid (c14 HL.out h1 h2 hc ((hr.below hb0 (Nat.le_refl _)).up hb0.size) hsec)
  clear H25
  go_wp2_with fail
  refine H14.out.mono ?_
  rintro e W1 ⟨m, rfl, hb1, hd1, hrep⟩
  have B1 := hb0.trans (hb1.mono hb0.size)
  rw [s0] at hd1
  have K1 := K.below hb1 K.lt
  have hz := zlit
  have hix' : (Try.prog.info? 28).map (·.size) = some (x.map (Value.int .u8)).length := by rw [List.length_map, hx.1]; kernel_rfl
  have a1 := act_cell K1
  have g1 := act_range K1
  obtain ⟨er, her⟩ : ∃ er : Int, er = if inL l n then 0 else 4 := ⟨_, rfl⟩
  have H20 := Lib.hid (c20 (c := c) (by have := HL.out; omega) ((hr.below B1 (Nat.le_refl _)).up B1.size) n x hx.1 er her)
  have her' : er = if 0 ≤ n ∧ n < (N : Int) then 0 else 4 := by rw [her]; simp only [hrep.inL n]
  have HE := Lib.hid her'
  clear her her' H14
  go_wp2_with (first
    | (with_reducible refine wpList_load_mid rfl 28 (.tmp 24) rfl w.heap.size 1 rfl (x.map (Value.int .u8)) _ g1 Try.underlying28 rfl hix' ?_))
  refine H20.out.mono ?_
  rintro e W2 ⟨A2, l2, c2, rfl, hb2, hr2, hl2, hw2⟩
  have HL2 := Lib.hid hl2
  clear hl2
  have B2 := B1.trans (hb2.mono B1.size)
  have K2 := K1.below hb2 K1.lt
  have hd2 := hd1.below hb2
  have a2 := act_cell K2
  have g2 := act_range K2
  have H15 := Lib.hid (c15_er hd2 n x hx er HE.out)
  clear H20 a1 g1
  go_wp2_with (first
    | (with_reducible refine wpList_load_mid rfl 28 (.tmp 32) rfl w.heap.size 1 rfl (x.map (Value.int .u8)) _ g2 Try.underlying28 rfl hix' ?_))
  refine H15.out.mono ?_
  rintro e W3 ⟨rfl, hg3, m3, hd3, hm3⟩
  have B3 : Below w.heap.size w W3 := B2.trans (below_of_grown hg3 (by omega) B2.size)
  have hr3 := (hr2.grown hd2.hm hg3 (Nat.le_refl _)).up hg3.size
  have hrep3 := rep_write hrep HL2.out hx.1 hw2 hm3
  have H16 := Lib.hid (c16 (c := c2) hd3 hrep3 hr3)
  have HB3 := Lib.hid B3
  clear hm3 hd3 hg3 K K1 K2 B1 B2 B3 hb0 hb1 hb2 hrep hrep3 hr3 hr2 hr hw2 HL2 a2 g2 H15
  go_wp2_with (first
    | (go_at_call 13; refine (c13 _ _).mono ?_; rintro e w' ⟨rfl, rfl⟩)
    | (go_at_call 16; refine H16.out.mono ?_; rintro e W4 ⟨rfl, hb4⟩; have HB4 := Lib.hid (HB3.out.trans (hb4.mono HB3.out.size)); clear hb4)
    | (go_at_call 9; refine (c9 _).mono ?_; rintro e w' ⟨rfl, hb9⟩; have HB9 := Lib.hid (HB4.out.trans (hb9.mono HB4.out.size)); clear hb9))
  go_ret
  exact ⟨rfl, HB9.out⟩
theorem walk {w : World} {A : Option Addr} {l : List Int} {c : Nat} (n : Int) (x : List Int) (hx : IsSec x) (hc : l.length ≤ c) (hm : c ≤ maxLen) (hr : Rd w w.heap.size .u8 A l) (hsec : ∀ x ∈ l, (Lit.int .u8 x).wf = true) :
    Calls Try.prog 8 #[.slice A l.length c, .agg (actA n x)] w fun e w' => e = .returned (.bool true) ∧ Below w.heap.size w w' := by
  simp only [maxLen] at hm
  by_cases h : 64 ≤ l.length ∧ l.length ≤ 2048 ∧ l.length % 64 = 0
  · exact walk_good (N := l.length / 64) n x hx (by omega) (by omega) (by omega) hc hr (fun x hx => by have := bounds_u8 (hsec x hx); omega)
  · exact walk_bad n x (by omega) h

set_option maxRecDepth 100000 in
theorem lifted (os : Os) (started : os.Started) (H : Type) (enc : TypeId × Value → H) :
    ReturnsInHanded {} Try.checked os 8 .any (Rows.diskOfSpec.pre6 enc Try.prog Try.f8 Rows.diskOfRow.domain false) (Rows.diskOfSpec.post enc Try.prog Try.f8 false true false false) := by
  refine returnsInHanded_of_change (C := Try.checked) Try.own started (by kernel_rfl) Try.func8
    (ChangeSpec.witness6 (enc := enc) (C := Try.checked) false ⟨#[], #[.slice none 0 0, .agg #[.int .i64 0, .int .u8 0, .int .u8 0, .int .u8 0, .int .u8 0, .int .u8 0, .int .u8 0, .int .u8 0, .int .u8 0, .int .u8 0, .int .u8 0, .int .u8 0, .int .u8 0, .int .u8 0, .int .u8 0, .int .u8 0, .int .u8 0, .int .u8 0, .int .u8 0, .int .u8 0, .int .u8 0, .int .u8 0, .int .u8 0, .int .u8 0, .int .u8 0, .int .u8 0, .int .u8 0, .int .u8 0, .int .u8 0, .int .u8 0, .int .u8 0, .int .u8 0, .int .u8 0, .int .u8 0, .int .u8 0, .int .u8 0, .int .u8 0, .int .u8 0, .int .u8 0, .int .u8 0, .int .u8 0, .int .u8 0, .int .u8 0, .int .u8 0, .int .u8 0, .int .u8 0, .int .u8 0, .int .u8 0, .int .u8 0, .int .u8 0, .int .u8 0, .int .u8 0, .int .u8 0, .int .u8 0, .int .u8 0, .int .u8 0, .int .u8 0, .int .u8 0, .int .u8 0, .int .u8 0, .int .u8 0, .int .u8 0, .int .u8 0, .int .u8 0, .int .u8 0]], []⟩ 8 (by kernel_rfl) (by kernel_rfl) (by kernel_rfl) (by kernel_rfl)) ?_
  intro W base args ds gs before hval0 hW hcnd _
  have hval : ∀ (j : Nat) t v, Try.f8.params[j]? = some t → args[j]? = some v → Value.okWide Try.prog W .any base t v := hval0
  have hW' := hW
  obtain ⟨p, q, hA0, hV, rfl, hfz, hnd⟩ := hW
  have hA : DataW.TrodAll enc Try.prog W 0 (fun _ => true) true Try.f8.params.toList args.toList ds p := hA0
  rw [Try.params8] at hA hval
  obtain ⟨v0, vs0, d0, ds0, p0, q0, hargs, rfl, rfl, h0, r0⟩ := trodAll_cons hA
  obtain ⟨v1, vs1, d1, ds1, p1, q1, rfl, rfl, rfl, h1, r1⟩ := trodAll_cons r0
  obtain ⟨rfl, rfl, rfl⟩ := trodAll_nil r1
  obtain rfl : args = #[v0, v1] := by cases args; simp_all
  obtain ⟨rfl, rfl⟩ := trodVars_none hV
  obtain ⟨A0, l, c0, rfl, l0, m0, hr, wl⟩ := open_ints Try.underlying25 (by kernel_rfl) Try.underlying5 (hval 0 25 v0 rfl rfl) h0
  obtain ⟨n, x, rfl, hx⟩ := open_actV (hval 1 37 v1 rfl rfl) h1
  refine (walk n x hx l0 m0 hr wl).mono fun e W' ⟨he, hb⟩ => ?_
  subst he
  exact ⟨_, rfl, law_post Try.laidOut rfl (by kernel_rfl) Try.underlying4 (by kernel_rfl) rfl hW' hb⟩

theorem proved : Rows.DiskOfSaid :=
  OpenClaim.holds_of_wide 8 Try.f8 rfl rfl rfl rfl rfl rfl rfl ⟨rfl, rfl, rfl, rfl, rfl⟩ rfl rfl rfl rfl rfl (by kernel_rfl) Try.func8 (by kernel_rfl)
    (of_decide_eq_true (by kernel_rfl)) (by unfold Func.isWrapper; first | (rw [if_pos (by decide +kernel)]; kernel_rfl) | (rw [if_neg (by decide +kernel)]; exact ⟨rfl, rfl⟩))
    (fun os started H enc _ => lifted os started H enc)
#print axioms proved
end Go.Proofs.Ytoplchdnfmcbaaa.diskOf
