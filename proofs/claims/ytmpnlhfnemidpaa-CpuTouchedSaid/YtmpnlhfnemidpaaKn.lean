/- The law's known: a contract. -/
import Derived.Test.YtmpnlhfnemidpaaDq
import Derived.Test.YtmpnlhfnemidpaaTr0
namespace Go.Proofs.Ytmpnlhfnemidpaa
open Go.RowKit Go.Shelf
def kst : St := ⟨[0, 0, 0, 0, 0, 0, 0, 0], 0, 0, 0, 0, 0, true, false, false⟩
def kst2 : St := ⟨[0, 5, 0, 0, 0, 0, 0, 0], 4, 0, 0, 0, 0, true, false, false⟩
theorem kst_ok : kst.ok := ⟨rfl, by intro x hx; simp [kst] at hx; subst hx; exact ⟨by decide, by decide⟩, ⟨by decide, by decide⟩, ⟨by decide, by decide⟩, ⟨by decide, by decide⟩, ⟨by decide, by decide⟩, ⟨by decide, by decide⟩⟩
theorem kst2_ok : kst2.ok := ⟨rfl, by intro x hx; simp only [kst2, List.mem_cons, List.not_mem_nil, or_false] at hx; unfold u32?; omega, ⟨by decide, by decide⟩, ⟨by decide, by decide⟩, ⟨by decide, by decide⟩, ⟨by decide, by decide⟩, ⟨by decide, by decide⟩⟩
theorem kst_done : doneL kst 51380229 0 = kst2 := by kernel_rfl
theorem kst2_plan : planL kst2 0 = trapW 1 := by kernel_rfl
theorem TsAt.slice {W : World} {base : Nat} {v : Value} {L : List Tt} (h : TsAt W base v L) : ∃ ao c, v = .slice ao L.length c := by
  obtain ⟨xs, ho, _⟩ := h
  rcases ho.2 with ⟨rfl, h0⟩ | ⟨g, cap, cur, rfl, _⟩
  · exact ⟨none, 0, by rw [h0]⟩
  · exact ⟨_, _, rfl⟩
theorem cDone_known (w : World) : Calls Try.prog 12 #[.agg #[.int .u32 0, .int .u32 0, .int .u32 0, .int .u32 0, .int .u32 0, .int .u32 0, .int .u32 0, .int .u32 0, .int .u32 0, .int .u32 0, .int .u32 0, .int .u32 0, .int .u32 0, .bool true, .bool false, .bool false], .int .u32 51380229, .int .u32 0] w fun e w' => e = .returned (.agg (stA kst2)) ∧ Below w.heap.size w w' := by
  have h := cDone kst_ok (x := 51380229) (told := 0) (by decide) (by decide) ⟨by decide, by decide⟩ w
  rw [kst_done] at h
  exact h
theorem cPlan_known (w : World) : Calls Try.prog 17 #[.agg (stA kst2), .int .u32 0] w fun e w' => e = .returned (.agg #[.int .i64 1, .int .u32 1, .int .u32 0, .int .i64 0, .int .i64 0, .int .u32 0]) ∧ Below w.heap.size w w' := by
  have h := cPlan kst2_ok (x := 0) (by decide) (by decide) w
  rw [kst2_plan] at h
  exact h
set_option maxRecDepth 100000 in
set_option maxHeartbeats 1000000 in
theorem cKnown (w : World) : Calls Try.prog 15 #[] w fun e w' => e = .returned (.bool true) ∧ Below w.heap.size w w' := by
  have hi := hi25 kst2_ok.len
  have hl : trapT.length = 5 := rfl
  have hz := zst_lit
  have hfd : ∀ w : World, (Instr.field 42 (.agg #[.int .i64 1, .int .u32 1, .int .u32 0, .int .i64 0, .int .i64 0, .int .u32 0]) 0).run Try.prog w = .ok (.int .i64 1) w := fun _ => by kernel_rfl
  go_enter Try.func15, Try.ntmps15
  go_upto_region 2 with (first
    | (go_at_call 12; refine (cDone_known _).mono ?_; rintro e w1 ⟨rfl, hb1⟩; obtain ⟨Tz, W2, e2, K2, hb2, s2⟩ := row_own w1 25 (stA zst) (stA kst2) rfl)
    | (with_reducible refine wpList_store_mid rfl 25 (.tmp 1) (.tmp 3) rfl w1.heap.size 0 (stA kst2) rfl rfl Tz hi (stA_one _) ?_))
  have c1 := (K2.cell 1).trans (show _ = some (Value.int .u32 5) from rfl)
  have c8 := (K2.cell 8).trans (show _ = some (Value.int .u32 4) from rfl)
  have K2' : W2.heap[w1.heap.size]? = some (.cells (stA kst2) 25 (0, 0)) := K2
  go_wp2_with (first
    | ((with_reducible refine wpList_row_g 25 (.tmp 1) rfl w1.heap.size rfl 25 (stA kst2) (0, 0) _ K2' Try.underlying25 rfl hi ?_ ?_); (focus (simp [Region.wanted, yielded]; done)); simp only [Act.put, List.setIfInBounds_toArray, List.set_cons_zero, List.set_cons_succ])
    | (go_at_call 17; refine (cPlan_known _).mono ?_; rintro e w3 ⟨rfl, hb3⟩)
    | (go_at_call 28; refine (cTrapped _).mono ?_; rintro e w4 ⟨v4, rfl, hT, hb4⟩; obtain ⟨ao, c, rfl⟩ := hT.slice; rw [hl]))
  go_ret
  have b2 := hb1.trans (hb2.mono hb1.size)
  have b3 := b2.trans (hb3.mono b2.size)
  exact ⟨rfl, b3.trans (hb4.mono b3.size)⟩
end Go.Proofs.Ytmpnlhfnemidpaa
