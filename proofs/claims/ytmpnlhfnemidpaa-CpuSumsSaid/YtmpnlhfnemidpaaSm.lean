/- The document's Same, of equal lists; what two states' and wants' compares tell. -/
import Derived.Test.YtmpnlhfnemidpaaSp
import Derived.Test.YtmpnlhfnemidpaaTu0
import Derived.Test.YtmpnlhfnemidpaaSl
import Derived.Deep.RegionHeld3
import Derived.Test.YtmpnlhfnemidpaaTuQ
import Derived.Test.YtmpnlhfnemidpaaRu1
import Derived.Test.YtmpnlhfnemidpaaRu2
import Derived.Test.YtmpnlhfnemidpaaRu3
import Derived.Test.YtmpnlhfnemidpaaRu4
import Derived.Test.YtmpnlhfnemidpaaRu5
import Derived.Test.YtmpnlhfnemidpaaRu6
namespace Go.Proofs.Ytmpnlhfnemidpaa
open Go.RowKit Go.Shelf
set_option maxRecDepth 100000 in
theorem eql_state {s : St} (h : s.regs.length = 8) (w : World) : (binOp .eql 25 (.agg (stA s)) (.agg (stA s))).run Try.prog w = .ok (.bool true) w := by
  obtain ⟨i, hi, _⟩ := Option.map_eq_some_iff.1 (show (Try.prog.info? 22).map (·.size) = some 1 by kernel_rfl)
  have he := run_equalIn_ints w 9997 Try.underlying23 hi (by kernel_rfl) Try.underlying22 (by kernel_rfl) [reg s 0, reg s 1, reg s 2, reg s 3, reg s 4, reg s 5, reg s 6, reg s 7] [reg s 0, reg s 1, reg s 2, reg s 3, reg s 4, reg s 5, reg s 6, reg s 7] rfl rfl
  rw [stA_lit h]
  go_simp
  rw [show (#[Value.int .u32 (reg s 0), Value.int .u32 (reg s 1), Value.int .u32 (reg s 2), Value.int .u32 (reg s 3), Value.int .u32 (reg s 4), Value.int .u32 (reg s 5), Value.int .u32 (reg s 6), Value.int .u32 (reg s 7)] : Array Value) = intsA .u32 [reg s 0, reg s 1, reg s 2, reg s 3, reg s 4, reg s 5, reg s 6, reg s 7] from rfl, he]
  simp
set_option maxRecDepth 100000 in
theorem eql_want (p : Wt) (w : World) : (binOp .eql 42 (.agg (wtA p)) (.agg (wtA p))).run Try.prog w = .ok (.bool true) w := by
  unfold wtA
  go_simp
set_option maxRecDepth 100000 in
set_option maxHeartbeats 4000000 in
theorem rSame {w : World} {ba bb : Nat} {va vb : Value} {L : List Tt} (ha : TsAt w ba va L) (hb : TsAt w bb vb L) (hl : L.length < 1000) (hf : ∀ t ∈ L, t.fr.length < 1000) : Calls Try.prog 31 #[va, vb] w fun e w' => e = .returned (.bool true) ∧ Below w.heap.size w w' := by
  obtain ⟨ao, ca, rfl⟩ := ha.form
  obtain ⟨bo, cb, rfl⟩ := hb.form
  have HA := Lib.hid ha
  have HB := Lib.hid hb
  have HF := Lib.hid hf
  clear ha hb hf
  go_enter Try.func31, Try.ntmps31
  go_wp2_with fail
  go_loopw [5] (fun i wr => ∃ k : Nat, k ≤ L.length ∧ i = .int .i64 k ∧ Below w.heap.size w wr) (fun i _ => L.length - (intOf i).toNat)
  case atStart => exact ⟨0, Nat.zero_le _, rfl, Below.refl _ _⟩
  case round =>
    obtain ⟨k, hk, rfl, hbl⟩ := hrel
    by_cases hlt : k < L.length
    · obtain ⟨g, fa, rfl, a0, a1, a2, Fa⟩ := (HA.out.below hbl).at hlt
      obtain ⟨g', fb, rfl, b0, b1, b2, Fb⟩ := (HB.out.below hbl).at hlt
      have hfl := HF.out L[k] (List.getElem_mem hlt)
      generalize L[k].k = x at *
      generalize L[k].n = y at *
      generalize L[k].fr = fr at *
      have hk0 : (0 : Int) ≤ (k : Int) := by omega
      have hk1 : (k : Int) < (L.length : Int) := by omega
      have HBL := Lib.hid (Below.drew hbl)
      clear hbl
      go_upto_region 6 with (fail)
      replace Fa := Fa.keep (.of_below (Below.refl _ wr).drew)
      replace Fb := Fb.keep (.of_below (Below.refl _ wr).drew)
      go_region_held3 (fun w' => w'.cell? ⟨g, k * 3, none⟩ = some (.int .i64 x) ∧ w'.cell? ⟨g, k * 3 + 1, none⟩ = some (.int .i64 y) ∧ w'.cell? ⟨g, k * 3 + 2, none⟩ = some fa ∧ w'.cell? ⟨g', k * 3, none⟩ = some (.int .i64 x) ∧ w'.cell? ⟨g', k * 3 + 1, none⟩ = some (.int .i64 y) ∧ w'.cell? ⟨g', k * 3 + 2, none⟩ = some fb)
        (first | exact ⟨a0, a1, a2, b0, b1, b2⟩ | exact ⟨c0, c1, c2, d0, d1, d2⟩)
        ((go_at_call 64; refine (rSamePlaces Fa Fb hfl).mono ?_; rintro e w1 ⟨rfl, hb1⟩; have c0 := Since.cell (W := wr.drew) a0 ⟨w1, hb1⟩; have c1 := Since.cell (W := wr.drew) a1 ⟨w1, hb1⟩; have c2 := Since.cell (W := wr.drew) a2 ⟨w1, hb1⟩; have d0 := Since.cell (W := wr.drew) b0 ⟨w1, hb1⟩; have d1 := Since.cell (W := wr.drew) b1 ⟨w1, hb1⟩; have d2 := Since.cell (W := wr.drew) b2 ⟨w1, hb1⟩))
      have HB2 := Lib.hid (HBL.out.trans (hb1.mono HBL.out.size))
      clear hb1 c0 c1 c2 d0 d1 d2 a0 a1 a2 b0 b1 b2 Fa Fb
      go_wp2_with fail
      exact ⟨⟨k + 1, by omega, by go_num, HB2.out⟩, by simp [intOf]; omega⟩
    · go_wp2_with fail
      go_ret
      exact ⟨rfl, hbl⟩
end Go.Proofs.Ytmpnlhfnemidpaa
namespace Go.Proofs.Ytmpnlhfnemidpaa
open Go.RowKit Go.Shelf
theorem rTouches {s : St} (hs : s.ok) {x : Int} (h0 : 0 ≤ x) (h1 : x < 4294967296) (w : World) : Calls Try.prog 32 #[.agg (stA s), .int .u32 x] w fun e w' => ∃ v', e = .returned v' ∧ TsAt w' w.heap.size v' (touchL s x) ∧ Below w.heap.size w w' := by
  unfold touchL
  cases hk : ((planL s x).kind == 1)
  · have hok := plan_ok hk
    obtain ⟨⟨o0, o1⟩, _⟩ := ok_bounds hok
    have h24 : dOp x ≠ 24 := by
      intro h
      unfold planL planW at hk
      rw [if_pos hok, if_pos h] at hk
      split at hk <;> simp [trapW] at hk
    rw [if_neg (by decide)]
    have hD := fun W => rDecode_in hok h0 h1 W
    have hP := fun W => rPlan hs h0 h1 W
    have hc : (dOp x = 1 ∨ dOp x = 2 ∨ dOp x = 3 ∨ dOp x = 4 ∨ dOp x = 5 ∨ dOp x = 6 ∨ dOp x = 7 ∨ dOp x = 8) ∨ (dOp x = 9 ∨ dOp x = 10 ∨ dOp x = 11 ∨ dOp x = 12 ∨ dOp x = 13 ∨ dOp x = 14 ∨ dOp x = 15 ∨ dOp x = 16) ∨ (dOp x = 17 ∨ dOp x = 18 ∨ dOp x = 19 ∨ dOp x = 20 ∨ dOp x = 21 ∨ dOp x = 22 ∨ dOp x = 23 ∨ dOp x = 28) ∨ (dOp x = 25 ∨ dOp x = 26) ∨ (dOp x = 27) := by omega
    rcases hc with h | h | h | h | h
    · exact rTouch_g0 hs hD hP hk h w
    · exact rTouch_g1 hs hD hP hk h w
    · exact rTouch_g2 hs hD hP hk h w
    · exact rTouch_g3 hs hD hP hk h (fun e => plan_imm hk (.inl e)) w
    · exact rTouch_g4 hs hD hP hk h (plan_imm hk (.inr h)) w
  · rw [if_pos rfl]
    cases hok : okL x
    · have hc : ¬ (planL s x).cause = 6 := by rw [planL_cause hok]; decide
      have h := rTouch_t hs (fun W => rDecode_out hok h0 h1 W) (fun W => rPlan hs h0 h1 W) hk w
      rw [if_neg hc] at h ⊢
      exact h
    · exact rTouch_t hs (fun W => rDecode_in hok h0 h1 W) (fun W => rPlan hs h0 h1 W) hk w
end Go.Proofs.Ytmpnlhfnemidpaa
