/- The cpu's Touches: whole. -/
import Derived.Test.YtmpnlhfnemidpaaDq
import Derived.Test.YtmpnlhfnemidpaaTu1
import Derived.Test.YtmpnlhfnemidpaaTu2
import Derived.Test.YtmpnlhfnemidpaaTu3
import Derived.Test.YtmpnlhfnemidpaaTu4
import Derived.Test.YtmpnlhfnemidpaaTu5
namespace Go.Proofs.Ytmpnlhfnemidpaa
open Go.RowKit Go.Shelf
set_option maxRecDepth 100000 in
set_option maxHeartbeats 2000000 in
theorem cTouch_t6 {s : St} (hs : s.ok) {x : Int} {op ka kb n : Int} {bk : Bool} (hD : ∀ W, Calls Try.prog 20 #[.int .u32 x] W fun e w' => e = .returned (.tuple #[.agg (instA op ka kb n), .bool bk]) ∧ Below W.heap.size W w')
    {pk : Wt} (hP : ∀ W, Calls Try.prog 17 #[.agg (stA s), .int .u32 x] W fun e w' => e = .returned (.agg (wtA pk)) ∧ Below W.heap.size W w') (hk : (pk.kind == 1) = true) (hc : (pk.cause == 6) = true) (w : World) :
    Calls Try.prog 18 #[.agg (stA s), .int .u32 x] w fun e w' => ∃ v', e = .returned v' ∧ TsAt w' w.heap.size v' (⟨0, 0, [(1, kb)]⟩ :: trapT) ∧ Below w.heap.size w w' := by
  obtain ⟨K1, Hb, hsz⟩ := cells1 w (stA s) 25
  have hi := hi25 hs.len
  have HP := Lib.hid hP
  have HD := Lib.hid hD
  clear hP hD
  go_enter Try.func18, Try.ntmps18
  go_wp2_with fail
  generalize w.alloc _ = W at *
  have A : StAt W w.heap.size s := ⟨K1, hs.len⟩
  refine (HD.out W).mono ?_
  rintro e W1 ⟨rfl, hb1⟩
  obtain ⟨Ki, Kx, hb2, s2⟩ := cells2 W1 (instA op ka kb n) #[.slice none 0 0] 54 73
  go_upto_region 3 with (fail)
  unfold instA at Ki Kx hb2 s2
  generalize (W1.alloc _).alloc _ = W2 at *
  have hs1 := Hb.size
  have B1 := Hb.trans (hb1.mono Hb.size)
  have B2 := B1.trans (hb2.mono B1.size)
  have A2 := (A.below hb1 A.lt).below hb2 (A.below hb1 A.lt).lt
  have A2' : W2.heap[w.heap.size]? = some (.cells (stA s) 25 (0, 0)) := A2.row
  have LA : LiAt W2 w.heap.size (W1.heap.size + 1) (.slice none 0 0) [] := ⟨Kx, ⟨[], World.ownsRow_nil _ _ _ _, .nil⟩, by have := B1.size; omega⟩
  clear A hb1 K1 Hb hb2 Kx B1 hsz hs1
  go_wp2_with (with_reducible refine wpList_load_row rfl 25 (.tmp 2) rfl w.heap.size rfl 25 (stA s) (0, 0) _ A2' Try.underlying25 rfl hi ?_)
  refine (HP.out W2).mono ?_
  rintro e W3 ⟨rfl, hb3⟩
  obtain ⟨KP, hbp, sp⟩ := cells1 W3 (wtA pk) 42
  have B4 := (B2.trans (hb3.mono B2.size)).trans (hbp.mono (B2.trans (hb3.mono B2.size)).size)
  have Ki4 := (Ki.below hb3 Ki.lt).below hbp (Ki.below hb3 Ki.lt).lt
  have LA4 := (LA.below hb3).below hbp
  unfold wtA at KP hbp B4 Ki4 LA4
  obtain ⟨W4, eW4⟩ : ∃ W4, W3.alloc (.cells #[.int .i64 pk.kind, .int .u32 pk.cause, .int .u32 pk.addr, .int .i64 pk.width, .int .i64 pk.port, .int .u32 pk.value] 42) = W4 := ⟨_, rfl⟩
  rw [eW4] at KP B4 Ki4 LA4
  have c0 := (KP.cell 0).trans (show _ = some (Value.int .i64 pk.kind) from rfl)
  have c1 := (KP.cell 1).trans (show _ = some (Value.int .u32 pk.cause) from rfl)
  have i2 := (Ki4.cell 2).trans (show _ = some (Value.int .i64 kb) from rfl)
  have h : LiW W4 W4 w.heap.size (W1.heap.size + 1) (.slice none 0 0) [] := LA4.refl
  clear A2 A2' B2 hb3 KP hbp sp Ki LA LA4 Ki4
  go_wp2_with (first
    | (go_at_call 36; refine (cRegp _ _).mono ?_; rintro e w1 ⟨rfl, hb1⟩; replace h := h.below hb1; clear hb1)
    | (go_at_call 35; (with_reducible refine (cDecideW (h.alloc _) (by simp) (FromAt.new1 _ _ _)).mono ?_); clear h; rintro e w1 ⟨rfl, v1, h⟩)
    | (go_at_call 37; (with_reducible refine (cTrappedW h (by simp)).mono ?_); clear h; rintro e w1 ⟨rfl, v1, h⟩; have x0 := (h.li.x.cell 0).trans (show _ = some v1 from rfl)))
  go_ret
  exact ⟨v1, rfl, by simpa using h.li.t, B4.trans h.low⟩
set_option maxRecDepth 100000 in
set_option maxHeartbeats 2000000 in
theorem cTouch_t {s : St} (hs : s.ok) {x : Int} {op ka kb n : Int} {bk : Bool} (hD : ∀ W, Calls Try.prog 20 #[.int .u32 x] W fun e w' => e = .returned (.tuple #[.agg (instA op ka kb n), .bool bk]) ∧ Below W.heap.size W w')
    {pk : Wt} (hP : ∀ W, Calls Try.prog 17 #[.agg (stA s), .int .u32 x] W fun e w' => e = .returned (.agg (wtA pk)) ∧ Below W.heap.size W w') (hk : (pk.kind == 1) = true) (hc : (pk.cause == 6) = false) (w : World) :
    Calls Try.prog 18 #[.agg (stA s), .int .u32 x] w fun e w' => ∃ v', e = .returned v' ∧ TsAt w' w.heap.size v' (trapT) ∧ Below w.heap.size w w' := by
  obtain ⟨K1, Hb, hsz⟩ := cells1 w (stA s) 25
  have hi := hi25 hs.len
  have HP := Lib.hid hP
  have HD := Lib.hid hD
  clear hP hD
  go_enter Try.func18, Try.ntmps18
  go_wp2_with fail
  generalize w.alloc _ = W at *
  have A : StAt W w.heap.size s := ⟨K1, hs.len⟩
  refine (HD.out W).mono ?_
  rintro e W1 ⟨rfl, hb1⟩
  obtain ⟨Ki, Kx, hb2, s2⟩ := cells2 W1 (instA op ka kb n) #[.slice none 0 0] 54 73
  go_upto_region 3 with (fail)
  unfold instA at Ki Kx hb2 s2
  generalize (W1.alloc _).alloc _ = W2 at *
  have hs1 := Hb.size
  have B1 := Hb.trans (hb1.mono Hb.size)
  have B2 := B1.trans (hb2.mono B1.size)
  have A2 := (A.below hb1 A.lt).below hb2 (A.below hb1 A.lt).lt
  have A2' : W2.heap[w.heap.size]? = some (.cells (stA s) 25 (0, 0)) := A2.row
  have LA : LiAt W2 w.heap.size (W1.heap.size + 1) (.slice none 0 0) [] := ⟨Kx, ⟨[], World.ownsRow_nil _ _ _ _, .nil⟩, by have := B1.size; omega⟩
  clear A hb1 K1 Hb hb2 Kx B1 hsz hs1
  go_wp2_with (with_reducible refine wpList_load_row rfl 25 (.tmp 2) rfl w.heap.size rfl 25 (stA s) (0, 0) _ A2' Try.underlying25 rfl hi ?_)
  refine (HP.out W2).mono ?_
  rintro e W3 ⟨rfl, hb3⟩
  obtain ⟨KP, hbp, sp⟩ := cells1 W3 (wtA pk) 42
  have B4 := (B2.trans (hb3.mono B2.size)).trans (hbp.mono (B2.trans (hb3.mono B2.size)).size)
  have Ki4 := (Ki.below hb3 Ki.lt).below hbp (Ki.below hb3 Ki.lt).lt
  have LA4 := (LA.below hb3).below hbp
  unfold wtA at KP hbp B4 Ki4 LA4
  obtain ⟨W4, eW4⟩ : ∃ W4, W3.alloc (.cells #[.int .i64 pk.kind, .int .u32 pk.cause, .int .u32 pk.addr, .int .i64 pk.width, .int .i64 pk.port, .int .u32 pk.value] 42) = W4 := ⟨_, rfl⟩
  rw [eW4] at KP B4 Ki4 LA4
  have c0 := (KP.cell 0).trans (show _ = some (Value.int .i64 pk.kind) from rfl)
  have c1 := (KP.cell 1).trans (show _ = some (Value.int .u32 pk.cause) from rfl)
  have i2 := (Ki4.cell 2).trans (show _ = some (Value.int .i64 kb) from rfl)
  have h : LiW W4 W4 w.heap.size (W1.heap.size + 1) (.slice none 0 0) [] := LA4.refl
  clear A2 A2' B2 hb3 KP hbp sp Ki LA LA4 Ki4
  go_wp2_with (first
    | (go_at_call 37; (with_reducible refine (cTrappedW h (by simp)).mono ?_); clear h; rintro e w1 ⟨rfl, v1, h⟩; have x0 := (h.li.x.cell 0).trans (show _ = some v1 from rfl)))
  go_ret
  exact ⟨v1, rfl, by simpa using h.li.t, B4.trans h.low⟩
theorem planL_cause {s : St} {x : Int} (h : okL x = false) : planL s x = trapW 1 := by unfold planL; rw [h]; rfl
theorem cTouches {s : St} (hs : s.ok) {x : Int} (h0 : 0 ≤ x) (h1 : x < 4294967296) (w : World) : Calls Try.prog 18 #[.agg (stA s), .int .u32 x] w fun e w' => ∃ v', e = .returned v' ∧ TsAt w' w.heap.size v' (touchL s x) ∧ Below w.heap.size w w' := by
  unfold touchL
  cases hk : ((planL s x).kind == 1)
  · have hok := plan_ok hk
    obtain ⟨⟨o0, o1⟩, _⟩ := ok_bounds hok
    have h24 : dOp x ≠ 24 := by
      intro h
      unfold planL planW at hk
      rw [if_pos hok, if_pos h] at hk
      split at hk <;> simp [trapW] at hk
    rw [if_neg (by decide)]
    have hc : dOp x = 1 ∨ dOp x = 2 ∨ dOp x = 3 ∨ dOp x = 4 ∨ dOp x = 5 ∨ dOp x = 6 ∨ dOp x = 7 ∨ dOp x = 8 ∨ dOp x = 9 ∨ dOp x = 10 ∨ dOp x = 11 ∨ dOp x = 12 ∨ dOp x = 13 ∨ dOp x = 14 ∨ dOp x = 15 ∨ dOp x = 16 ∨ dOp x = 17 ∨ dOp x = 18 ∨ dOp x = 19 ∨ dOp x = 20 ∨ dOp x = 21 ∨ dOp x = 22 ∨ dOp x = 23 ∨ dOp x = 25 ∨ dOp x = 26 ∨ dOp x = 27 ∨ dOp x = 28 := by omega
    rcases hc with e1 | e1 | e1 | e1 | e1 | e1 | e1 | e1 | e1 | e1 | e1 | e1 | e1 | e1 | e1 | e1 | e1 | e1 | e1 | e1 | e1 | e1 | e1 | e1 | e1 | e1 | e1
    · rw [e1]; exact cTouch1 hs hok h0 h1 e1 rfl rfl rfl rfl hk w
    · rw [e1]; exact cTouch2 hs hok h0 h1 e1 rfl rfl rfl rfl hk w
    · rw [e1]; exact cTouch3 hs hok h0 h1 e1 rfl rfl rfl rfl hk w
    · rw [e1]; exact cTouch4 hs hok h0 h1 e1 rfl rfl rfl rfl hk w
    · rw [e1]; exact cTouch5 hs hok h0 h1 e1 rfl rfl rfl rfl hk w
    · rw [e1]; exact cTouch6 hs hok h0 h1 e1 rfl rfl rfl rfl hk w
    · rw [e1]; exact cTouch7 hs hok h0 h1 e1 rfl rfl rfl rfl hk w
    · rw [e1]; exact cTouch8 hs hok h0 h1 e1 rfl rfl rfl rfl hk w
    · rw [e1]; exact cTouch9 hs hok h0 h1 e1 rfl rfl rfl rfl hk w
    · rw [e1]; exact cTouch10 hs hok h0 h1 e1 rfl rfl rfl rfl hk w
    · rw [e1]; exact cTouch11 hs hok h0 h1 e1 rfl rfl rfl rfl hk w
    · rw [e1]; exact cTouch12 hs hok h0 h1 e1 rfl rfl rfl rfl hk w
    · rw [e1]; exact cTouch13 hs hok h0 h1 e1 rfl rfl rfl rfl hk w
    · rw [e1]; exact cTouch14 hs hok h0 h1 e1 rfl rfl rfl rfl hk w
    · rw [e1]; exact cTouch15 hs hok h0 h1 e1 rfl rfl rfl rfl hk w
    · rw [e1]; exact cTouch16 hs hok h0 h1 e1 rfl rfl rfl rfl hk w
    · rw [e1]; exact cTouch17 hs hok h0 h1 e1 rfl rfl rfl rfl hk w
    · rw [e1]; exact cTouch18 hs hok h0 h1 e1 rfl rfl rfl rfl hk w
    · rw [e1]; exact cTouch19 hs hok h0 h1 e1 rfl rfl rfl rfl hk w
    · rw [e1]; exact cTouch20 hs hok h0 h1 e1 rfl rfl rfl rfl hk w
    · rw [e1]; exact cTouch21 hs hok h0 h1 e1 rfl rfl rfl rfl hk w
    · rw [e1]; exact cTouch22 hs hok h0 h1 e1 rfl rfl rfl rfl hk w
    · rw [e1]; exact cTouch23 hs hok h0 h1 e1 rfl rfl rfl rfl hk w
    · rw [e1]; exact cTouch25 hs hok h0 h1 e1 rfl rfl rfl rfl hk w
    · have hn := plan_imm hk (.inl e1)
      have hc : dN x = 0 ∨ dN x = 1 ∨ dN x = 2 ∨ dN x = 3 ∨ dN x = 4 ∨ dN x = 5 := by omega
      rw [e1]
      rcases hc with e4 | e4 | e4 | e4 | e4 | e4
      · rw [e4]; exact cTouch26_0 hs hok h0 h1 e1 rfl rfl e4 rfl hk w
      · rw [e4]; exact cTouch26_1 hs hok h0 h1 e1 rfl rfl e4 rfl hk w
      · rw [e4]; exact cTouch26_2 hs hok h0 h1 e1 rfl rfl e4 rfl hk w
      · rw [e4]; exact cTouch26_3 hs hok h0 h1 e1 rfl rfl e4 rfl hk w
      · rw [e4]; exact cTouch26_4 hs hok h0 h1 e1 rfl rfl e4 rfl hk w
      · rw [e4]; exact cTouch26_5 hs hok h0 h1 e1 rfl rfl e4 rfl hk w
    · have hn := plan_imm hk (.inr e1)
      have hc : dN x = 0 ∨ dN x = 1 ∨ dN x = 2 ∨ dN x = 3 ∨ dN x = 4 ∨ dN x = 5 := by omega
      rw [e1]
      rcases hc with e4 | e4 | e4 | e4 | e4 | e4
      · rw [e4]; exact cTouch27_0 hs hok h0 h1 e1 rfl rfl e4 rfl hk w
      · rw [e4]; exact cTouch27_1 hs hok h0 h1 e1 rfl rfl e4 rfl hk w
      · rw [e4]; exact cTouch27_2 hs hok h0 h1 e1 rfl rfl e4 rfl hk w
      · rw [e4]; exact cTouch27_3 hs hok h0 h1 e1 rfl rfl e4 rfl hk w
      · rw [e4]; exact cTouch27_4 hs hok h0 h1 e1 rfl rfl e4 rfl hk w
      · rw [e4]; exact cTouch27_5 hs hok h0 h1 e1 rfl rfl e4 rfl hk w
    · rw [e1]; exact cTouch28 hs hok h0 h1 e1 rfl rfl rfl rfl hk w
  · rw [if_pos rfl]
    cases hok : okL x
    · rw [planL_cause hok]
      exact cTouch_t hs (fun W => cDecode_out hok h0 h1 W) (fun W => cPlan hs h0 h1 W) hk (by rw [planL_cause hok]; rfl) w
    · by_cases hc : (planL s x).cause = 6
      · rw [if_pos hc]
        exact cTouch_t6 hs (fun W => cDecode_in hok h0 h1 W) (fun W => cPlan hs h0 h1 W) hk (by simpa using hc) w
      · rw [if_neg hc]
        exact cTouch_t hs (fun W => cDecode_in hok h0 h1 W) (fun W => cPlan hs h0 h1 W) hk (by simpa using hc) w
end Go.Proofs.Ytmpnlhfnemidpaa
