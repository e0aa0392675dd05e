/- The cpu's Touches, by cases. -/
import Derived.Test.YtmpnlhfnemidpaaTu0
namespace Go.Proofs.Ytmpnlhfnemidpaa
open Go.RowKit Go.Shelf
set_option maxRecDepth 100000 in
set_option maxHeartbeats 2000000 in
theorem cTouch17 {s : St} (hs : s.ok) {x : Int} (hok : okL x = true) (h0 : 0 ≤ x) (h1 : x < 4294967296) {n : Int} {ka kb : Int} (e1 : dOp x = 17) (e2 : dA x = ka) (e3 : dB x = kb) (e4 : dN x = n)
    {pk : Wt} (hpl : planL s x = pk) (hk : (pk.kind == 1) = false) (w : World) :
    Calls Try.prog 18 #[.agg (stA s), .int .u32 x] w fun e w' => ∃ v', e = .returned v' ∧ TsAt w' w.heap.size v' (touchW 17 ka kb n) ∧ Below w.heap.size w w' := by
  obtain ⟨K1, Hb, hsz⟩ := cells1 w (stA s) 25
  have hi := hi25 hs.len
  have hP := fun W => cPlan hs h0 h1 W
  rw [hpl] at hP
  clear hpl
  have HP := Lib.hid hP
  clear hP
  go_enter Try.func18, Try.ntmps18
  go_wp2_with fail
  generalize w.alloc _ = W at *
  have A : StAt W w.heap.size s := ⟨K1, hs.len⟩
  refine (cDecode_in hok h0 h1 W).mono ?_
  rintro e W1 ⟨rfl, hb1⟩
  rw [e1, e2, e3, e4]
  clear hok h0 h1 e1 e2 e3 e4
  obtain ⟨Ki, Kx, hb2, s2⟩ := cells2 W1 (instA 17 ka kb n) #[.slice none 0 0] 54 73
  go_upto_region 3 with (fail)
  unfold instA at Ki Kx hb2 s2
  generalize (W1.alloc _).alloc _ = W2 at *
  have hs1 := Hb.size
  have B1 := Hb.trans (hb1.mono Hb.size)
  have B2 := B1.trans (hb2.mono B1.size)
  have A2 := (A.below hb1 A.lt).below hb2 (A.below hb1 A.lt).lt
  have A2' : W2.heap[w.heap.size]? = some (.cells (stA s) 25 (0, 0)) := A2.row
  have LA : LiAt W2 w.heap.size (W1.heap.size + 1) (.slice none 0 0) [] := ⟨Kx, ⟨[], World.ownsRow_nil _ _ _ _, .nil⟩, by have := B1.size; omega⟩
  clear A hb1 K1 Hb hb2 Kx B1 hsz hs1
  go_wp2_with (with_reducible refine wpList_load_row rfl 25 (.tmp 2) rfl w.heap.size rfl 25 (stA s) (0, 0) _ A2' Try.underlying25 rfl hi ?_)
  refine (HP.out W2).mono ?_
  rintro e W3 ⟨rfl, hb3⟩
  obtain ⟨KP, hbp, sp⟩ := cells1 W3 (wtA pk) 42
  have B4 := (B2.trans (hb3.mono B2.size)).trans (hbp.mono (B2.trans (hb3.mono B2.size)).size)
  have Ki4 := (Ki.below hb3 Ki.lt).below hbp (Ki.below hb3 Ki.lt).lt
  have LA4 := (LA.below hb3).below hbp
  unfold wtA at KP hbp B4 Ki4 LA4
  obtain ⟨W4, eW4⟩ : ∃ W4, W3.alloc (.cells #[.int .i64 pk.kind, .int .u32 pk.cause, .int .u32 pk.addr, .int .i64 pk.width, .int .i64 pk.port, .int .u32 pk.value] 42) = W4 := ⟨_, rfl⟩
  rw [eW4] at KP B4 Ki4 LA4
  have c0 := (KP.cell 0).trans (show _ = some (Value.int .i64 pk.kind) from rfl)
  have i0 := (Ki4.cell 0).trans (show _ = some (Value.int .i64 17) from rfl)
  have i1 := (Ki4.cell 1).trans (show _ = some (Value.int .i64 ka) from rfl)
  have i2 := (Ki4.cell 2).trans (show _ = some (Value.int .i64 kb) from rfl)
  have i3 := (Ki4.cell 3).trans (show _ = some (Value.int .i64 n) from rfl)
  clear A2 A2' B2 hb3 KP hbp sp Ki LA
  go_wp2_with fail
  clear c0 i0 i1 i2 i3 eW4
  refine (cDecidedW LA4.refl (by simp) (by decide) ka kb n).mono ?_
  rintro e W5 ⟨rfl, v5, h5⟩
  have Ki5 := h5.keep _ _ _ Ki4 (by decide) (by decide)
  have B5 := B4.trans h5.low
  clear Ki4 LA4 B4
  have LA5 := h5.li
  clear h5
  go_wp2_with fail
  refine (cOnly _ _).mono ?_
  rintro e W6 ⟨rfl, hb6⟩
  obtain ⟨Kp, hbq, sq⟩ := cells1 W6 #[.int .i64 2, .int .i64 0] 49
  have B6 := B5.trans (hb6.mono B5.size)
  have T : TvAt w (W6.alloc (.cells #[.int .i64 2, .int .i64 0] 49)) W1.heap.size W6.heap.size (W1.heap.size + 1) v5 ([] ++ decT 17 ka kb n) 17 ka kb n := ⟨(Ki5.below hb6 Ki5.lt).below hbq (Ki5.below hb6 Ki5.lt).lt, Kp, (LA5.below hb6).below hbq, B6.trans (hbq.mono B6.size)⟩
  clear Ki5 B5 LA5 hb6 Kp hbq sq B6
  obtain ⟨i0, i1, i2, i3, p0, p1, xv⟩ := T.s
  go_upto_region 11 with (fail)
  generalize W6.alloc _ = W7 at *

  go_upto_region 43 with (first | (go_at_call 39; refine (cOnly _ _).mono ?_; rintro e w1 ⟨rfl, hb1⟩; replace T := T.below hb1; clear hb1) | (go_at_call 36; refine (cRegp _ _).mono ?_; rintro e w1 ⟨rfl, hb1⟩; replace T := T.below hb1; clear hb1) | (go_at_call 40; (with_reducible refine ((T.alloc _).put (by have := decT_len 17 ka kb n; simp; omega) _ _ (FromAt.new1 _ _ _)).mono ?_); clear T; rintro e w1 ⟨rfl, v1, T⟩))
  clear i0 i1 i2 i3 p0 p1 xv
  obtain ⟨i0, i1, i2, i3, p0, p1, xv⟩ := T.s
  have xv' := xv
  go_wp2_with fail
  go_ret
  exact ⟨_, rfl, by simpa [touchW, decT, movT, endT, keptL] using T.li.t, T.low⟩
set_option maxRecDepth 100000 in
set_option maxHeartbeats 2000000 in
theorem cTouch18 {s : St} (hs : s.ok) {x : Int} (hok : okL x = true) (h0 : 0 ≤ x) (h1 : x < 4294967296) {n : Int} {ka kb : Int} (e1 : dOp x = 18) (e2 : dA x = ka) (e3 : dB x = kb) (e4 : dN x = n)
    {pk : Wt} (hpl : planL s x = pk) (hk : (pk.kind == 1) = false) (w : World) :
    Calls Try.prog 18 #[.agg (stA s), .int .u32 x] w fun e w' => ∃ v', e = .returned v' ∧ TsAt w' w.heap.size v' (touchW 18 ka kb n) ∧ Below w.heap.size w w' := by
  obtain ⟨K1, Hb, hsz⟩ := cells1 w (stA s) 25
  have hi := hi25 hs.len
  have hP := fun W => cPlan hs h0 h1 W
  rw [hpl] at hP
  clear hpl
  have HP := Lib.hid hP
  clear hP
  go_enter Try.func18, Try.ntmps18
  go_wp2_with fail
  generalize w.alloc _ = W at *
  have A : StAt W w.heap.size s := ⟨K1, hs.len⟩
  refine (cDecode_in hok h0 h1 W).mono ?_
  rintro e W1 ⟨rfl, hb1⟩
  rw [e1, e2, e3, e4]
  clear hok h0 h1 e1 e2 e3 e4
  obtain ⟨Ki, Kx, hb2, s2⟩ := cells2 W1 (instA 18 ka kb n) #[.slice none 0 0] 54 73
  go_upto_region 3 with (fail)
  unfold instA at Ki Kx hb2 s2
  generalize (W1.alloc _).alloc _ = W2 at *
  have hs1 := Hb.size
  have B1 := Hb.trans (hb1.mono Hb.size)
  have B2 := B1.trans (hb2.mono B1.size)
  have A2 := (A.below hb1 A.lt).below hb2 (A.below hb1 A.lt).lt
  have A2' : W2.heap[w.heap.size]? = some (.cells (stA s) 25 (0, 0)) := A2.row
  have LA : LiAt W2 w.heap.size (W1.heap.size + 1) (.slice none 0 0) [] := ⟨Kx, ⟨[], World.ownsRow_nil _ _ _ _, .nil⟩, by have := B1.size; omega⟩
  clear A hb1 K1 Hb hb2 Kx B1 hsz hs1
  go_wp2_with (with_reducible refine wpList_load_row rfl 25 (.tmp 2) rfl w.heap.size rfl 25 (stA s) (0, 0) _ A2' Try.underlying25 rfl hi ?_)
  refine (HP.out W2).mono ?_
  rintro e W3 ⟨rfl, hb3⟩
  obtain ⟨KP, hbp, sp⟩ := cells1 W3 (wtA pk) 42
  have B4 := (B2.trans (hb3.mono B2.size)).trans (hbp.mono (B2.trans (hb3.mono B2.size)).size)
  have Ki4 := (Ki.below hb3 Ki.lt).below hbp (Ki.below hb3 Ki.lt).lt
  have LA4 := (LA.below hb3).below hbp
  unfold wtA at KP hbp B4 Ki4 LA4
  obtain ⟨W4, eW4⟩ : ∃ W4, W3.alloc (.cells #[.int .i64 pk.kind, .int .u32 pk.cause, .int .u32 pk.addr, .int .i64 pk.width, .int .i64 pk.port, .int .u32 pk.value] 42) = W4 := ⟨_, rfl⟩
  rw [eW4] at KP B4 Ki4 LA4
  have c0 := (KP.cell 0).trans (show _ = some (Value.int .i64 pk.kind) from rfl)
  have i0 := (Ki4.cell 0).trans (show _ = some (Value.int .i64 18) from rfl)
  have i1 := (Ki4.cell 1).trans (show _ = some (Value.int .i64 ka) from rfl)
  have i2 := (Ki4.cell 2).trans (show _ = some (Value.int .i64 kb) from rfl)
  have i3 := (Ki4.cell 3).trans (show _ = some (Value.int .i64 n) from rfl)
  clear A2 A2' B2 hb3 KP hbp sp Ki LA
  go_wp2_with fail
  clear c0 i0 i1 i2 i3 eW4
  refine (cDecidedW LA4.refl (by simp) (by decide) ka kb n).mono ?_
  rintro e W5 ⟨rfl, v5, h5⟩
  have Ki5 := h5.keep _ _ _ Ki4 (by decide) (by decide)
  have B5 := B4.trans h5.low
  clear Ki4 LA4 B4
  have LA5 := h5.li
  clear h5
  go_wp2_with fail
  refine (cOnly _ _).mono ?_
  rintro e W6 ⟨rfl, hb6⟩
  obtain ⟨Kp, hbq, sq⟩ := cells1 W6 #[.int .i64 2, .int .i64 0] 49
  have B6 := B5.trans (hb6.mono B5.size)
  have T : TvAt w (W6.alloc (.cells #[.int .i64 2, .int .i64 0] 49)) W1.heap.size W6.heap.size (W1.heap.size + 1) v5 ([] ++ decT 18 ka kb n) 18 ka kb n := ⟨(Ki5.below hb6 Ki5.lt).below hbq (Ki5.below hb6 Ki5.lt).lt, Kp, (LA5.below hb6).below hbq, B6.trans (hbq.mono B6.size)⟩
  clear Ki5 B5 LA5 hb6 Kp hbq sq B6
  obtain ⟨i0, i1, i2, i3, p0, p1, xv⟩ := T.s
  go_upto_region 11 with (fail)
  generalize W6.alloc _ = W7 at *

  go_upto_region 43 with (first | (go_at_call 39; refine (cOnly _ _).mono ?_; rintro e w1 ⟨rfl, hb1⟩; replace T := T.below hb1; clear hb1) | (go_at_call 36; refine (cRegp _ _).mono ?_; rintro e w1 ⟨rfl, hb1⟩; replace T := T.below hb1; clear hb1) | (go_at_call 40; (with_reducible refine ((T.alloc _).put (by have := decT_len 18 ka kb n; simp; omega) _ _ (FromAt.new1 _ _ _)).mono ?_); clear T; rintro e w1 ⟨rfl, v1, T⟩))
  clear i0 i1 i2 i3 p0 p1 xv
  obtain ⟨i0, i1, i2, i3, p0, p1, xv⟩ := T.s
  have xv' := xv
  go_wp2_with fail
  go_ret
  exact ⟨_, rfl, by simpa [touchW, decT, movT, endT, keptL] using T.li.t, T.low⟩
set_option maxRecDepth 100000 in
set_option maxHeartbeats 2000000 in
theorem cTouch19 {s : St} (hs : s.ok) {x : Int} (hok : okL x = true) (h0 : 0 ≤ x) (h1 : x < 4294967296) {n : Int} {ka kb : Int} (e1 : dOp x = 19) (e2 : dA x = ka) (e3 : dB x = kb) (e4 : dN x = n)
    {pk : Wt} (hpl : planL s x = pk) (hk : (pk.kind == 1) = false) (w : World) :
    Calls Try.prog 18 #[.agg (stA s), .int .u32 x] w fun e w' => ∃ v', e = .returned v' ∧ TsAt w' w.heap.size v' (touchW 19 ka kb n) ∧ Below w.heap.size w w' := by
  obtain ⟨K1, Hb, hsz⟩ := cells1 w (stA s) 25
  have hi := hi25 hs.len
  have hP := fun W => cPlan hs h0 h1 W
  rw [hpl] at hP
  clear hpl
  have HP := Lib.hid hP
  clear hP
  go_enter Try.func18, Try.ntmps18
  go_wp2_with fail
  generalize w.alloc _ = W at *
  have A : StAt W w.heap.size s := ⟨K1, hs.len⟩
  refine (cDecode_in hok h0 h1 W).mono ?_
  rintro e W1 ⟨rfl, hb1⟩
  rw [e1, e2, e3, e4]
  clear hok h0 h1 e1 e2 e3 e4
  obtain ⟨Ki, Kx, hb2, s2⟩ := cells2 W1 (instA 19 ka kb n) #[.slice none 0 0] 54 73
  go_upto_region 3 with (fail)
  unfold instA at Ki Kx hb2 s2
  generalize (W1.alloc _).alloc _ = W2 at *
  have hs1 := Hb.size
  have B1 := Hb.trans (hb1.mono Hb.size)
  have B2 := B1.trans (hb2.mono B1.size)
  have A2 := (A.below hb1 A.lt).below hb2 (A.below hb1 A.lt).lt
  have A2' : W2.heap[w.heap.size]? = some (.cells (stA s) 25 (0, 0)) := A2.row
  have LA : LiAt W2 w.heap.size (W1.heap.size + 1) (.slice none 0 0) [] := ⟨Kx, ⟨[], World.ownsRow_nil _ _ _ _, .nil⟩, by have := B1.size; omega⟩
  clear A hb1 K1 Hb hb2 Kx B1 hsz hs1
  go_wp2_with (with_reducible refine wpList_load_row rfl 25 (.tmp 2) rfl w.heap.size rfl 25 (stA s) (0, 0) _ A2' Try.underlying25 rfl hi ?_)
  refine (HP.out W2).mono ?_
  rintro e W3 ⟨rfl, hb3⟩
  obtain ⟨KP, hbp, sp⟩ := cells1 W3 (wtA pk) 42
  have B4 := (B2.trans (hb3.mono B2.size)).trans (hbp.mono (B2.trans (hb3.mono B2.size)).size)
  have Ki4 := (Ki.below hb3 Ki.lt).below hbp (Ki.below hb3 Ki.lt).lt
  have LA4 := (LA.below hb3).below hbp
  unfold wtA at KP hbp B4 Ki4 LA4
  obtain ⟨W4, eW4⟩ : ∃ W4, W3.alloc (.cells #[.int .i64 pk.kind, .int .u32 pk.cause, .int .u32 pk.addr, .int .i64 pk.width, .int .i64 pk.port, .int .u32 pk.value] 42) = W4 := ⟨_, rfl⟩
  rw [eW4] at KP B4 Ki4 LA4
  have c0 := (KP.cell 0).trans (show _ = some (Value.int .i64 pk.kind) from rfl)
  have i0 := (Ki4.cell 0).trans (show _ = some (Value.int .i64 19) from rfl)
  have i1 := (Ki4.cell 1).trans (show _ = some (Value.int .i64 ka) from rfl)
  have i2 := (Ki4.cell 2).trans (show _ = some (Value.int .i64 kb) from rfl)
  have i3 := (Ki4.cell 3).trans (show _ = some (Value.int .i64 n) from rfl)
  clear A2 A2' B2 hb3 KP hbp sp Ki LA
  go_wp2_with fail
  clear c0 i0 i1 i2 i3 eW4
  refine (cDecidedW LA4.refl (by simp) (by decide) ka kb n).mono ?_
  rintro e W5 ⟨rfl, v5, h5⟩
  have Ki5 := h5.keep _ _ _ Ki4 (by decide) (by decide)
  have B5 := B4.trans h5.low
  clear Ki4 LA4 B4
  have LA5 := h5.li
  clear h5
  go_wp2_with fail
  refine (cOnly _ _).mono ?_
  rintro e W6 ⟨rfl, hb6⟩
  obtain ⟨Kp, hbq, sq⟩ := cells1 W6 #[.int .i64 2, .int .i64 0] 49
  have B6 := B5.trans (hb6.mono B5.size)
  have T : TvAt w (W6.alloc (.cells #[.int .i64 2, .int .i64 0] 49)) W1.heap.size W6.heap.size (W1.heap.size + 1) v5 ([] ++ decT 19 ka kb n) 19 ka kb n := ⟨(Ki5.below hb6 Ki5.lt).below hbq (Ki5.below hb6 Ki5.lt).lt, Kp, (LA5.below hb6).below hbq, B6.trans (hbq.mono B6.size)⟩
  clear Ki5 B5 LA5 hb6 Kp hbq sq B6
  obtain ⟨i0, i1, i2, i3, p0, p1, xv⟩ := T.s
  go_upto_region 11 with (fail)
  generalize W6.alloc _ = W7 at *

  go_upto_region 43 with (first | (go_at_call 39; refine (cOnly _ _).mono ?_; rintro e w1 ⟨rfl, hb1⟩; replace T := T.below hb1; clear hb1) | (go_at_call 36; refine (cRegp _ _).mono ?_; rintro e w1 ⟨rfl, hb1⟩; replace T := T.below hb1; clear hb1) | (go_at_call 40; (with_reducible refine ((T.alloc _).put (by have := decT_len 19 ka kb n; simp; omega) _ _ (FromAt.new1 _ _ _)).mono ?_); clear T; rintro e w1 ⟨rfl, v1, T⟩))
  clear i0 i1 i2 i3 p0 p1 xv
  obtain ⟨i0, i1, i2, i3, p0, p1, xv⟩ := T.s
  have xv' := xv
  go_wp2_with fail
  go_ret
  exact ⟨_, rfl, by simpa [touchW, decT, movT, endT, keptL] using T.li.t, T.low⟩
set_option maxRecDepth 100000 in
set_option maxHeartbeats 2000000 in
theorem cTouch20 {s : St} (hs : s.ok) {x : Int} (hok : okL x = true) (h0 : 0 ≤ x) (h1 : x < 4294967296) {n : Int} {ka kb : Int} (e1 : dOp x = 20) (e2 : dA x = ka) (e3 : dB x = kb) (e4 : dN x = n)
    {pk : Wt} (hpl : planL s x = pk) (hk : (pk.kind == 1) = false) (w : World) :
    Calls Try.prog 18 #[.agg (stA s), .int .u32 x] w fun e w' => ∃ v', e = .returned v' ∧ TsAt w' w.heap.size v' (touchW 20 ka kb n) ∧ Below w.heap.size w w' := by
  obtain ⟨K1, Hb, hsz⟩ := cells1 w (stA s) 25
  have hi := hi25 hs.len
  have hP := fun W => cPlan hs h0 h1 W
  rw [hpl] at hP
  clear hpl
  have HP := Lib.hid hP
  clear hP
  go_enter Try.func18, Try.ntmps18
  go_wp2_with fail
  generalize w.alloc _ = W at *
  have A : StAt W w.heap.size s := ⟨K1, hs.len⟩
  refine (cDecode_in hok h0 h1 W).mono ?_
  rintro e W1 ⟨rfl, hb1⟩
  rw [e1, e2, e3, e4]
  clear hok h0 h1 e1 e2 e3 e4
  obtain ⟨Ki, Kx, hb2, s2⟩ := cells2 W1 (instA 20 ka kb n) #[.slice none 0 0] 54 73
  go_upto_region 3 with (fail)
  unfold instA at Ki Kx hb2 s2
  generalize (W1.alloc _).alloc _ = W2 at *
  have hs1 := Hb.size
  have B1 := Hb.trans (hb1.mono Hb.size)
  have B2 := B1.trans (hb2.mono B1.size)
  have A2 := (A.below hb1 A.lt).below hb2 (A.below hb1 A.lt).lt
  have A2' : W2.heap[w.heap.size]? = some (.cells (stA s) 25 (0, 0)) := A2.row
  have LA : LiAt W2 w.heap.size (W1.heap.size + 1) (.slice none 0 0) [] := ⟨Kx, ⟨[], World.ownsRow_nil _ _ _ _, .nil⟩, by have := B1.size; omega⟩
  clear A hb1 K1 Hb hb2 Kx B1 hsz hs1
  go_wp2_with (with_reducible refine wpList_load_row rfl 25 (.tmp 2) rfl w.heap.size rfl 25 (stA s) (0, 0) _ A2' Try.underlying25 rfl hi ?_)
  refine (HP.out W2).mono ?_
  rintro e W3 ⟨rfl, hb3⟩
  obtain ⟨KP, hbp, sp⟩ := cells1 W3 (wtA pk) 42
  have B4 := (B2.trans (hb3.mono B2.size)).trans (hbp.mono (B2.trans (hb3.mono B2.size)).size)
  have Ki4 := (Ki.below hb3 Ki.lt).below hbp (Ki.below hb3 Ki.lt).lt
  have LA4 := (LA.below hb3).below hbp
  unfold wtA at KP hbp B4 Ki4 LA4
  obtain ⟨W4, eW4⟩ : ∃ W4, W3.alloc (.cells #[.int .i64 pk.kind, .int .u32 pk.cause, .int .u32 pk.addr, .int .i64 pk.width, .int .i64 pk.port, .int .u32 pk.value] 42) = W4 := ⟨_, rfl⟩
  rw [eW4] at KP B4 Ki4 LA4
  have c0 := (KP.cell 0).trans (show _ = some (Value.int .i64 pk.kind) from rfl)
  have i0 := (Ki4.cell 0).trans (show _ = some (Value.int .i64 20) from rfl)
  have i1 := (Ki4.cell 1).trans (show _ = some (Value.int .i64 ka) from rfl)
  have i2 := (Ki4.cell 2).trans (show _ = some (Value.int .i64 kb) from rfl)
  have i3 := (Ki4.cell 3).trans (show _ = some (Value.int .i64 n) from rfl)
  clear A2 A2' B2 hb3 KP hbp sp Ki LA
  go_wp2_with fail
  clear c0 i0 i1 i2 i3 eW4
  refine (cDecidedW LA4.refl (by simp) (by decide) ka kb n).mono ?_
  rintro e W5 ⟨rfl, v5, h5⟩
  have Ki5 := h5.keep _ _ _ Ki4 (by decide) (by decide)
  have B5 := B4.trans h5.low
  clear Ki4 LA4 B4
  have LA5 := h5.li
  clear h5
  go_wp2_with fail
  refine (cOnly _ _).mono ?_
  rintro e W6 ⟨rfl, hb6⟩
  obtain ⟨Kp, hbq, sq⟩ := cells1 W6 #[.int .i64 2, .int .i64 0] 49
  have B6 := B5.trans (hb6.mono B5.size)
  have T : TvAt w (W6.alloc (.cells #[.int .i64 2, .int .i64 0] 49)) W1.heap.size W6.heap.size (W1.heap.size + 1) v5 ([] ++ decT 20 ka kb n) 20 ka kb n := ⟨(Ki5.below hb6 Ki5.lt).below hbq (Ki5.below hb6 Ki5.lt).lt, Kp, (LA5.below hb6).below hbq, B6.trans (hbq.mono B6.size)⟩
  clear Ki5 B5 LA5 hb6 Kp hbq sq B6
  obtain ⟨i0, i1, i2, i3, p0, p1, xv⟩ := T.s
  go_upto_region 11 with (fail)
  generalize W6.alloc _ = W7 at *

  go_upto_region 28 with (first | (go_at_call 39; refine (cOnly _ _).mono ?_; rintro e w1 ⟨rfl, hb1⟩; replace T := T.below hb1; clear hb1) | (go_at_call 36; refine (cRegp _ _).mono ?_; rintro e w1 ⟨rfl, hb1⟩; replace T := T.below hb1; clear hb1) | (go_at_call 40; (with_reducible refine ((T.alloc _).put (by have := decT_len 20 ka kb n; simp; omega) _ _ (FromAt.new1 _ _ _)).mono ?_); clear T; rintro e w1 ⟨rfl, v1, T⟩))
  replace T := T.drew
  go_region_held3 (fun w' => w'.cell? ⟨W1.heap.size, 0, none⟩ = some (.int .i64 20) ∧ w'.cell? ⟨W1.heap.size, 1, none⟩ = some (.int .i64 ka) ∧ w'.cell? ⟨W1.heap.size, 2, none⟩ = some (.int .i64 kb) ∧ w'.cell? ⟨W1.heap.size, 3, none⟩ = some (.int .i64 n) ∧ w'.cell? ⟨W6.heap.size, 0, none⟩ = some (.int .i64 2) ∧ w'.cell? ⟨W6.heap.size, 1, none⟩ = some (.int .i64 0))
    (first | exact T.s6 | exact (T.alloc _).s6)
    (first | (go_at_call 39; refine (cOnly _ _).mono ?_; rintro e w1 ⟨rfl, hb1⟩; replace T := T.below hb1; clear hb1) | (go_at_call 36; refine (cRegp _ _).mono ?_; rintro e w1 ⟨rfl, hb1⟩; (with_reducible replace T := T.below hb1); clear hb1) | (go_at_call 36; refine (cRegp _ _).mono ?_; rintro e w1 ⟨rfl, hb1⟩; have F := (FromAt.new1 _ 2 0).keep (.of_below hb1); replace T := (T.alloc _).below hb1; clear hb1) | (go_at_call 40; (with_reducible refine ((T.alloc _).put (by have := decT_len 20 ka kb n; simp; omega) _ _ (FromAt.new1 _ _ _)).mono ?_); clear T; rintro e w1 ⟨rfl, v1, T⟩) | (go_at_call 40; (with_reducible refine (T.put (by have := decT_len 20 ka kb n; simp; omega) _ _ F).mono ?_); clear T F; rintro e w1 ⟨rfl, v1, T⟩))
  all_goals
    obtain ⟨i0, i1, i2, i3, p0, p1, xv⟩ := T.s
    go_upto_region 43 with (first | (go_at_call 39; refine (cOnly _ _).mono ?_; rintro e w1 ⟨rfl, hb1⟩; replace T := T.below hb1; clear hb1) | (go_at_call 36; refine (cRegp _ _).mono ?_; rintro e w1 ⟨rfl, hb1⟩; replace T := T.below hb1; clear hb1) | (go_at_call 40; (with_reducible refine ((T.alloc _).put (by have := decT_len 20 ka kb n; simp; omega) _ _ (FromAt.new1 _ _ _)).mono ?_); clear T; rintro e w1 ⟨rfl, v1, T⟩))
    clear i0 i1 i2 i3 p0 p1 xv
    obtain ⟨i0, i1, i2, i3, p0, p1, xv⟩ := T.s
    have xv' := xv
    go_wp2_with fail
    go_ret
    exact ⟨_, rfl, by simpa [touchW, decT, movT, endT, keptL] using T.li.t, T.low⟩
set_option maxRecDepth 100000 in
set_option maxHeartbeats 2000000 in
theorem cTouch21 {s : St} (hs : s.ok) {x : Int} (hok : okL x = true) (h0 : 0 ≤ x) (h1 : x < 4294967296) {n : Int} {ka kb : Int} (e1 : dOp x = 21) (e2 : dA x = ka) (e3 : dB x = kb) (e4 : dN x = n)
    {pk : Wt} (hpl : planL s x = pk) (hk : (pk.kind == 1) = false) (w : World) :
    Calls Try.prog 18 #[.agg (stA s), .int .u32 x] w fun e w' => ∃ v', e = .returned v' ∧ TsAt w' w.heap.size v' (touchW 21 ka kb n) ∧ Below w.heap.size w w' := by
  obtain ⟨K1, Hb, hsz⟩ := cells1 w (stA s) 25
  have hi := hi25 hs.len
  have hP := fun W => cPlan hs h0 h1 W
  rw [hpl] at hP
  clear hpl
  have HP := Lib.hid hP
  clear hP
  go_enter Try.func18, Try.ntmps18
  go_wp2_with fail
  generalize w.alloc _ = W at *
  have A : StAt W w.heap.size s := ⟨K1, hs.len⟩
  refine (cDecode_in hok h0 h1 W).mono ?_
  rintro e W1 ⟨rfl, hb1⟩
  rw [e1, e2, e3, e4]
  clear hok h0 h1 e1 e2 e3 e4
  obtain ⟨Ki, Kx, hb2, s2⟩ := cells2 W1 (instA 21 ka kb n) #[.slice none 0 0] 54 73
  go_upto_region 3 with (fail)
  unfold instA at Ki Kx hb2 s2
  generalize (W1.alloc _).alloc _ = W2 at *
  have hs1 := Hb.size
  have B1 := Hb.trans (hb1.mono Hb.size)
  have B2 := B1.trans (hb2.mono B1.size)
  have A2 := (A.below hb1 A.lt).below hb2 (A.below hb1 A.lt).lt
  have A2' : W2.heap[w.heap.size]? = some (.cells (stA s) 25 (0, 0)) := A2.row
  have LA : LiAt W2 w.heap.size (W1.heap.size + 1) (.slice none 0 0) [] := ⟨Kx, ⟨[], World.ownsRow_nil _ _ _ _, .nil⟩, by have := B1.size; omega⟩
  clear A hb1 K1 Hb hb2 Kx B1 hsz hs1
  go_wp2_with (with_reducible refine wpList_load_row rfl 25 (.tmp 2) rfl w.heap.size rfl 25 (stA s) (0, 0) _ A2' Try.underlying25 rfl hi ?_)
  refine (HP.out W2).mono ?_
  rintro e W3 ⟨rfl, hb3⟩
  obtain ⟨KP, hbp, sp⟩ := cells1 W3 (wtA pk) 42
  have B4 := (B2.trans (hb3.mono B2.size)).trans (hbp.mono (B2.trans (hb3.mono B2.size)).size)
  have Ki4 := (Ki.below hb3 Ki.lt).below hbp (Ki.below hb3 Ki.lt).lt
  have LA4 := (LA.below hb3).below hbp
  unfold wtA at KP hbp B4 Ki4 LA4
  obtain ⟨W4, eW4⟩ : ∃ W4, W3.alloc (.cells #[.int .i64 pk.kind, .int .u32 pk.cause, .int .u32 pk.addr, .int .i64 pk.width, .int .i64 pk.port, .int .u32 pk.value] 42) = W4 := ⟨_, rfl⟩
  rw [eW4] at KP B4 Ki4 LA4
  have c0 := (KP.cell 0).trans (show _ = some (Value.int .i64 pk.kind) from rfl)
  have i0 := (Ki4.cell 0).trans (show _ = some (Value.int .i64 21) from rfl)
  have i1 := (Ki4.cell 1).trans (show _ = some (Value.int .i64 ka) from rfl)
  have i2 := (Ki4.cell 2).trans (show _ = some (Value.int .i64 kb) from rfl)
  have i3 := (Ki4.cell 3).trans (show _ = some (Value.int .i64 n) from rfl)
  clear A2 A2' B2 hb3 KP hbp sp Ki LA
  go_wp2_with fail
  clear c0 i0 i1 i2 i3 eW4
  refine (cDecidedW LA4.refl (by simp) (by decide) ka kb n).mono ?_
  rintro e W5 ⟨rfl, v5, h5⟩
  have Ki5 := h5.keep _ _ _ Ki4 (by decide) (by decide)
  have B5 := B4.trans h5.low
  clear Ki4 LA4 B4
  have LA5 := h5.li
  clear h5
  go_wp2_with fail
  refine (cOnly _ _).mono ?_
  rintro e W6 ⟨rfl, hb6⟩
  obtain ⟨Kp, hbq, sq⟩ := cells1 W6 #[.int .i64 2, .int .i64 0] 49
  have B6 := B5.trans (hb6.mono B5.size)
  have T : TvAt w (W6.alloc (.cells #[.int .i64 2, .int .i64 0] 49)) W1.heap.size W6.heap.size (W1.heap.size + 1) v5 ([] ++ decT 21 ka kb n) 21 ka kb n := ⟨(Ki5.below hb6 Ki5.lt).below hbq (Ki5.below hb6 Ki5.lt).lt, Kp, (LA5.below hb6).below hbq, B6.trans (hbq.mono B6.size)⟩
  clear Ki5 B5 LA5 hb6 Kp hbq sq B6
  obtain ⟨i0, i1, i2, i3, p0, p1, xv⟩ := T.s
  go_upto_region 11 with (fail)
  generalize W6.alloc _ = W7 at *

  go_upto_region 28 with (first | (go_at_call 39; refine (cOnly _ _).mono ?_; rintro e w1 ⟨rfl, hb1⟩; replace T := T.below hb1; clear hb1) | (go_at_call 36; refine (cRegp _ _).mono ?_; rintro e w1 ⟨rfl, hb1⟩; replace T := T.below hb1; clear hb1) | (go_at_call 40; (with_reducible refine ((T.alloc _).put (by have := decT_len 21 ka kb n; simp; omega) _ _ (FromAt.new1 _ _ _)).mono ?_); clear T; rintro e w1 ⟨rfl, v1, T⟩))
  replace T := T.drew
  go_region_held3 (fun w' => w'.cell? ⟨W1.heap.size, 0, none⟩ = some (.int .i64 21) ∧ w'.cell? ⟨W1.heap.size, 1, none⟩ = some (.int .i64 ka) ∧ w'.cell? ⟨W1.heap.size, 2, none⟩ = some (.int .i64 kb) ∧ w'.cell? ⟨W1.heap.size, 3, none⟩ = some (.int .i64 n) ∧ w'.cell? ⟨W6.heap.size, 0, none⟩ = some (.int .i64 2) ∧ w'.cell? ⟨W6.heap.size, 1, none⟩ = some (.int .i64 0))
    (first | exact T.s6 | exact (T.alloc _).s6)
    (first | (go_at_call 39; refine (cOnly _ _).mono ?_; rintro e w1 ⟨rfl, hb1⟩; replace T := T.below hb1; clear hb1) | (go_at_call 36; refine (cRegp _ _).mono ?_; rintro e w1 ⟨rfl, hb1⟩; (with_reducible replace T := T.below hb1); clear hb1) | (go_at_call 36; refine (cRegp _ _).mono ?_; rintro e w1 ⟨rfl, hb1⟩; have F := (FromAt.new1 _ 2 0).keep (.of_below hb1); replace T := (T.alloc _).below hb1; clear hb1) | (go_at_call 40; (with_reducible refine ((T.alloc _).put (by have := decT_len 21 ka kb n; simp; omega) _ _ (FromAt.new1 _ _ _)).mono ?_); clear T; rintro e w1 ⟨rfl, v1, T⟩) | (go_at_call 40; (with_reducible refine (T.put (by have := decT_len 21 ka kb n; simp; omega) _ _ F).mono ?_); clear T F; rintro e w1 ⟨rfl, v1, T⟩))
  all_goals
    obtain ⟨i0, i1, i2, i3, p0, p1, xv⟩ := T.s
    go_upto_region 39 with (first | (go_at_call 39; refine (cOnly _ _).mono ?_; rintro e w1 ⟨rfl, hb1⟩; replace T := T.below hb1; clear hb1) | (go_at_call 36; refine (cRegp _ _).mono ?_; rintro e w1 ⟨rfl, hb1⟩; replace T := T.below hb1; clear hb1) | (go_at_call 40; (with_reducible refine ((T.alloc _).put (by have := decT_len 21 ka kb n; simp; omega) _ _ (FromAt.new1 _ _ _)).mono ?_); clear T; rintro e w1 ⟨rfl, v1, T⟩))
    replace T := T.drew
    go_region_held3 (fun w' => w'.cell? ⟨W1.heap.size, 0, none⟩ = some (.int .i64 21) ∧ w'.cell? ⟨W1.heap.size, 1, none⟩ = some (.int .i64 ka) ∧ w'.cell? ⟨W1.heap.size, 2, none⟩ = some (.int .i64 kb) ∧ w'.cell? ⟨W1.heap.size, 3, none⟩ = some (.int .i64 n) ∧ w'.cell? ⟨W6.heap.size, 0, none⟩ = some (.int .i64 2) ∧ w'.cell? ⟨W6.heap.size, 1, none⟩ = some (.int .i64 0))
      (first | exact T.s6 | exact (T.alloc _).s6)
      (first | (go_at_call 39; refine (cOnly _ _).mono ?_; rintro e w1 ⟨rfl, hb1⟩; replace T := T.below hb1; clear hb1) | (go_at_call 36; refine (cRegp _ _).mono ?_; rintro e w1 ⟨rfl, hb1⟩; replace T := T.below hb1; clear hb1) | (go_at_call 40; (with_reducible refine ((T.alloc _).put (by have := decT_len 21 ka kb n; simp; omega) _ _ (FromAt.new1 _ _ _)).mono ?_); clear T; rintro e w1 ⟨rfl, v1, T⟩))
    obtain ⟨i0, i1, i2, i3, p0, p1, xv⟩ := T.s
    have xv' := xv
    go_wp2_with fail
    go_ret
    exact ⟨_, rfl, by simpa [touchW, decT, movT, endT, keptL] using T.li.t, T.low⟩
set_option maxRecDepth 100000 in
set_option maxHeartbeats 2000000 in
theorem cTouch22 {s : St} (hs : s.ok) {x : Int} (hok : okL x = true) (h0 : 0 ≤ x) (h1 : x < 4294967296) {n : Int} {ka kb : Int} (e1 : dOp x = 22) (e2 : dA x = ka) (e3 : dB x = kb) (e4 : dN x = n)
    {pk : Wt} (hpl : planL s x = pk) (hk : (pk.kind == 1) = false) (w : World) :
    Calls Try.prog 18 #[.agg (stA s), .int .u32 x] w fun e w' => ∃ v', e = .returned v' ∧ TsAt w' w.heap.size v' (touchW 22 ka kb n) ∧ Below w.heap.size w w' := by
  obtain ⟨K1, Hb, hsz⟩ := cells1 w (stA s) 25
  have hi := hi25 hs.len
  have hP := fun W => cPlan hs h0 h1 W
  rw [hpl] at hP
  clear hpl
  have HP := Lib.hid hP
  clear hP
  go_enter Try.func18, Try.ntmps18
  go_wp2_with fail
  generalize w.alloc _ = W at *
  have A : StAt W w.heap.size s := ⟨K1, hs.len⟩
  refine (cDecode_in hok h0 h1 W).mono ?_
  rintro e W1 ⟨rfl, hb1⟩
  rw [e1, e2, e3, e4]
  clear hok h0 h1 e1 e2 e3 e4
  obtain ⟨Ki, Kx, hb2, s2⟩ := cells2 W1 (instA 22 ka kb n) #[.slice none 0 0] 54 73
  go_upto_region 3 with (fail)
  unfold instA at Ki Kx hb2 s2
  generalize (W1.alloc _).alloc _ = W2 at *
  have hs1 := Hb.size
  have B1 := Hb.trans (hb1.mono Hb.size)
  have B2 := B1.trans (hb2.mono B1.size)
  have A2 := (A.below hb1 A.lt).below hb2 (A.below hb1 A.lt).lt
  have A2' : W2.heap[w.heap.size]? = some (.cells (stA s) 25 (0, 0)) := A2.row
  have LA : LiAt W2 w.heap.size (W1.heap.size + 1) (.slice none 0 0) [] := ⟨Kx, ⟨[], World.ownsRow_nil _ _ _ _, .nil⟩, by have := B1.size; omega⟩
  clear A hb1 K1 Hb hb2 Kx B1 hsz hs1
  go_wp2_with (with_reducible refine wpList_load_row rfl 25 (.tmp 2) rfl w.heap.size rfl 25 (stA s) (0, 0) _ A2' Try.underlying25 rfl hi ?_)
  refine (HP.out W2).mono ?_
  rintro e W3 ⟨rfl, hb3⟩
  obtain ⟨KP, hbp, sp⟩ := cells1 W3 (wtA pk) 42
  have B4 := (B2.trans (hb3.mono B2.size)).trans (hbp.mono (B2.trans (hb3.mono B2.size)).size)
  have Ki4 := (Ki.below hb3 Ki.lt).below hbp (Ki.below hb3 Ki.lt).lt
  have LA4 := (LA.below hb3).below hbp
  unfold wtA at KP hbp B4 Ki4 LA4
  obtain ⟨W4, eW4⟩ : ∃ W4, W3.alloc (.cells #[.int .i64 pk.kind, .int .u32 pk.cause, .int .u32 pk.addr, .int .i64 pk.width, .int .i64 pk.port, .int .u32 pk.value] 42) = W4 := ⟨_, rfl⟩
  rw [eW4] at KP B4 Ki4 LA4
  have c0 := (KP.cell 0).trans (show _ = some (Value.int .i64 pk.kind) from rfl)
  have i0 := (Ki4.cell 0).trans (show _ = some (Value.int .i64 22) from rfl)
  have i1 := (Ki4.cell 1).trans (show _ = some (Value.int .i64 ka) from rfl)
  have i2 := (Ki4.cell 2).trans (show _ = some (Value.int .i64 kb) from rfl)
  have i3 := (Ki4.cell 3).trans (show _ = some (Value.int .i64 n) from rfl)
  clear A2 A2' B2 hb3 KP hbp sp Ki LA
  go_wp2_with fail
  clear c0 i0 i1 i2 i3 eW4
  refine (cDecidedW LA4.refl (by simp) (by decide) ka kb n).mono ?_
  rintro e W5 ⟨rfl, v5, h5⟩
  have Ki5 := h5.keep _ _ _ Ki4 (by decide) (by decide)
  have B5 := B4.trans h5.low
  clear Ki4 LA4 B4
  have LA5 := h5.li
  clear h5
  go_wp2_with fail
  refine (cOnly _ _).mono ?_
  rintro e W6 ⟨rfl, hb6⟩
  obtain ⟨Kp, hbq, sq⟩ := cells1 W6 #[.int .i64 2, .int .i64 0] 49
  have B6 := B5.trans (hb6.mono B5.size)
  have T : TvAt w (W6.alloc (.cells #[.int .i64 2, .int .i64 0] 49)) W1.heap.size W6.heap.size (W1.heap.size + 1) v5 ([] ++ decT 22 ka kb n) 22 ka kb n := ⟨(Ki5.below hb6 Ki5.lt).below hbq (Ki5.below hb6 Ki5.lt).lt, Kp, (LA5.below hb6).below hbq, B6.trans (hbq.mono B6.size)⟩
  clear Ki5 B5 LA5 hb6 Kp hbq sq B6
  obtain ⟨i0, i1, i2, i3, p0, p1, xv⟩ := T.s
  go_upto_region 11 with (fail)
  generalize W6.alloc _ = W7 at *

  go_upto_region 43 with (first | (go_at_call 39; refine (cOnly _ _).mono ?_; rintro e w1 ⟨rfl, hb1⟩; replace T := T.below hb1; clear hb1) | (go_at_call 36; refine (cRegp _ _).mono ?_; rintro e w1 ⟨rfl, hb1⟩; replace T := T.below hb1; clear hb1) | (go_at_call 40; (with_reducible refine ((T.alloc _).put (by have := decT_len 22 ka kb n; simp; omega) _ _ (FromAt.new1 _ _ _)).mono ?_); clear T; rintro e w1 ⟨rfl, v1, T⟩))
  clear i0 i1 i2 i3 p0 p1 xv
  obtain ⟨i0, i1, i2, i3, p0, p1, xv⟩ := T.s
  have xv' := xv
  go_wp2_with fail
  go_ret
  exact ⟨_, rfl, by simpa [touchW, decT, movT, endT, keptL] using T.li.t, T.low⟩
set_option maxRecDepth 100000 in
set_option maxHeartbeats 2000000 in
theorem cTouch23 {s : St} (hs : s.ok) {x : Int} (hok : okL x = true) (h0 : 0 ≤ x) (h1 : x < 4294967296) {n : Int} {ka kb : Int} (e1 : dOp x = 23) (e2 : dA x = ka) (e3 : dB x = kb) (e4 : dN x = n)
    {pk : Wt} (hpl : planL s x = pk) (hk : (pk.kind == 1) = false) (w : World) :
    Calls Try.prog 18 #[.agg (stA s), .int .u32 x] w fun e w' => ∃ v', e = .returned v' ∧ TsAt w' w.heap.size v' (touchW 23 ka kb n) ∧ Below w.heap.size w w' := by
  obtain ⟨K1, Hb, hsz⟩ := cells1 w (stA s) 25
  have hi := hi25 hs.len
  have hP := fun W => cPlan hs h0 h1 W
  rw [hpl] at hP
  clear hpl
  have HP := Lib.hid hP
  clear hP
  go_enter Try.func18, Try.ntmps18
  go_wp2_with fail
  generalize w.alloc _ = W at *
  have A : StAt W w.heap.size s := ⟨K1, hs.len⟩
  refine (cDecode_in hok h0 h1 W).mono ?_
  rintro e W1 ⟨rfl, hb1⟩
  rw [e1, e2, e3, e4]
  clear hok h0 h1 e1 e2 e3 e4
  obtain ⟨Ki, Kx, hb2, s2⟩ := cells2 W1 (instA 23 ka kb n) #[.slice none 0 0] 54 73
  go_upto_region 3 with (fail)
  unfold instA at Ki Kx hb2 s2
  generalize (W1.alloc _).alloc _ = W2 at *
  have hs1 := Hb.size
  have B1 := Hb.trans (hb1.mono Hb.size)
  have B2 := B1.trans (hb2.mono B1.size)
  have A2 := (A.below hb1 A.lt).below hb2 (A.below hb1 A.lt).lt
  have A2' : W2.heap[w.heap.size]? = some (.cells (stA s) 25 (0, 0)) := A2.row
  have LA : LiAt W2 w.heap.size (W1.heap.size + 1) (.slice none 0 0) [] := ⟨Kx, ⟨[], World.ownsRow_nil _ _ _ _, .nil⟩, by have := B1.size; omega⟩
  clear A hb1 K1 Hb hb2 Kx B1 hsz hs1
  go_wp2_with (with_reducible refine wpList_load_row rfl 25 (.tmp 2) rfl w.heap.size rfl 25 (stA s) (0, 0) _ A2' Try.underlying25 rfl hi ?_)
  refine (HP.out W2).mono ?_
  rintro e W3 ⟨rfl, hb3⟩
  obtain ⟨KP, hbp, sp⟩ := cells1 W3 (wtA pk) 42
  have B4 := (B2.trans (hb3.mono B2.size)).trans (hbp.mono (B2.trans (hb3.mono B2.size)).size)
  have Ki4 := (Ki.below hb3 Ki.lt).below hbp (Ki.below hb3 Ki.lt).lt
  have LA4 := (LA.below hb3).below hbp
  unfold wtA at KP hbp B4 Ki4 LA4
  obtain ⟨W4, eW4⟩ : ∃ W4, W3.alloc (.cells #[.int .i64 pk.kind, .int .u32 pk.cause, .int .u32 pk.addr, .int .i64 pk.width, .int .i64 pk.port, .int .u32 pk.value] 42) = W4 := ⟨_, rfl⟩
  rw [eW4] at KP B4 Ki4 LA4
  have c0 := (KP.cell 0).trans (show _ = some (Value.int .i64 pk.kind) from rfl)
  have i0 := (Ki4.cell 0).trans (show _ = some (Value.int .i64 23) from rfl)
  have i1 := (Ki4.cell 1).trans (show _ = some (Value.int .i64 ka) from rfl)
  have i2 := (Ki4.cell 2).trans (show _ = some (Value.int .i64 kb) from rfl)
  have i3 := (Ki4.cell 3).trans (show _ = some (Value.int .i64 n) from rfl)
  clear A2 A2' B2 hb3 KP hbp sp Ki LA
  go_wp2_with fail
  clear c0 i0 i1 i2 i3 eW4
  refine (cDecidedW LA4.refl (by simp) (by decide) ka kb n).mono ?_
  rintro e W5 ⟨rfl, v5, h5⟩
  have Ki5 := h5.keep _ _ _ Ki4 (by decide) (by decide)
  have B5 := B4.trans h5.low
  clear Ki4 LA4 B4
  have LA5 := h5.li
  clear h5
  go_wp2_with fail
  refine (cOnly _ _).mono ?_
  rintro e W6 ⟨rfl, hb6⟩
  obtain ⟨Kp, hbq, sq⟩ := cells1 W6 #[.int .i64 2, .int .i64 0] 49
  have B6 := B5.trans (hb6.mono B5.size)
  have T : TvAt w (W6.alloc (.cells #[.int .i64 2, .int .i64 0] 49)) W1.heap.size W6.heap.size (W1.heap.size + 1) v5 ([] ++ decT 23 ka kb n) 23 ka kb n := ⟨(Ki5.below hb6 Ki5.lt).below hbq (Ki5.below hb6 Ki5.lt).lt, Kp, (LA5.below hb6).below hbq, B6.trans (hbq.mono B6.size)⟩
  clear Ki5 B5 LA5 hb6 Kp hbq sq B6
  obtain ⟨i0, i1, i2, i3, p0, p1, xv⟩ := T.s
  go_upto_region 11 with (fail)
  generalize W6.alloc _ = W7 at *

  go_upto_region 43 with (first | (go_at_call 39; refine (cOnly _ _).mono ?_; rintro e w1 ⟨rfl, hb1⟩; replace T := T.below hb1; clear hb1) | (go_at_call 36; refine (cRegp _ _).mono ?_; rintro e w1 ⟨rfl, hb1⟩; replace T := T.below hb1; clear hb1) | (go_at_call 40; (with_reducible refine ((T.alloc _).put (by have := decT_len 23 ka kb n; simp; omega) _ _ (FromAt.new1 _ _ _)).mono ?_); clear T; rintro e w1 ⟨rfl, v1, T⟩))
  clear i0 i1 i2 i3 p0 p1 xv
  obtain ⟨i0, i1, i2, i3, p0, p1, xv⟩ := T.s
  have xv' := xv
  go_wp2_with fail
  go_ret
  exact ⟨_, rfl, by simpa [touchW, decT, movT, endT, keptL] using T.li.t, T.low⟩
set_option maxRecDepth 100000 in
set_option maxHeartbeats 2000000 in
theorem cTouch25 {s : St} (hs : s.ok) {x : Int} (hok : okL x = true) (h0 : 0 ≤ x) (h1 : x < 4294967296) {n : Int} {ka kb : Int} (e1 : dOp x = 25) (e2 : dA x = ka) (e3 : dB x = kb) (e4 : dN x = n)
    {pk : Wt} (hpl : planL s x = pk) (hk : (pk.kind == 1) = false) (w : World) :
    Calls Try.prog 18 #[.agg (stA s), .int .u32 x] w fun e w' => ∃ v', e = .returned v' ∧ TsAt w' w.heap.size v' (touchW 25 ka kb n) ∧ Below w.heap.size w w' := by
  obtain ⟨K1, Hb, hsz⟩ := cells1 w (stA s) 25
  have hi := hi25 hs.len
  have hP := fun W => cPlan hs h0 h1 W
  rw [hpl] at hP
  clear hpl
  have HP := Lib.hid hP
  clear hP
  go_enter Try.func18, Try.ntmps18
  go_wp2_with fail
  generalize w.alloc _ = W at *
  have A : StAt W w.heap.size s := ⟨K1, hs.len⟩
  refine (cDecode_in hok h0 h1 W).mono ?_
  rintro e W1 ⟨rfl, hb1⟩
  rw [e1, e2, e3, e4]
  clear hok h0 h1 e1 e2 e3 e4
  obtain ⟨Ki, Kx, hb2, s2⟩ := cells2 W1 (instA 25 ka kb n) #[.slice none 0 0] 54 73
  go_upto_region 3 with (fail)
  unfold instA at Ki Kx hb2 s2
  generalize (W1.alloc _).alloc _ = W2 at *
  have hs1 := Hb.size
  have B1 := Hb.trans (hb1.mono Hb.size)
  have B2 := B1.trans (hb2.mono B1.size)
  have A2 := (A.below hb1 A.lt).below hb2 (A.below hb1 A.lt).lt
  have A2' : W2.heap[w.heap.size]? = some (.cells (stA s) 25 (0, 0)) := A2.row
  have LA : LiAt W2 w.heap.size (W1.heap.size + 1) (.slice none 0 0) [] := ⟨Kx, ⟨[], World.ownsRow_nil _ _ _ _, .nil⟩, by have := B1.size; omega⟩
  clear A hb1 K1 Hb hb2 Kx B1 hsz hs1
  go_wp2_with (with_reducible refine wpList_load_row rfl 25 (.tmp 2) rfl w.heap.size rfl 25 (stA s) (0, 0) _ A2' Try.underlying25 rfl hi ?_)
  refine (HP.out W2).mono ?_
  rintro e W3 ⟨rfl, hb3⟩
  obtain ⟨KP, hbp, sp⟩ := cells1 W3 (wtA pk) 42
  have B4 := (B2.trans (hb3.mono B2.size)).trans (hbp.mono (B2.trans (hb3.mono B2.size)).size)
  have Ki4 := (Ki.below hb3 Ki.lt).below hbp (Ki.below hb3 Ki.lt).lt
  have LA4 := (LA.below hb3).below hbp
  unfold wtA at KP hbp B4 Ki4 LA4
  obtain ⟨W4, eW4⟩ : ∃ W4, W3.alloc (.cells #[.int .i64 pk.kind, .int .u32 pk.cause, .int .u32 pk.addr, .int .i64 pk.width, .int .i64 pk.port, .int .u32 pk.value] 42) = W4 := ⟨_, rfl⟩
  rw [eW4] at KP B4 Ki4 LA4
  have c0 := (KP.cell 0).trans (show _ = some (Value.int .i64 pk.kind) from rfl)
  have i0 := (Ki4.cell 0).trans (show _ = some (Value.int .i64 25) from rfl)
  have i1 := (Ki4.cell 1).trans (show _ = some (Value.int .i64 ka) from rfl)
  have i2 := (Ki4.cell 2).trans (show _ = some (Value.int .i64 kb) from rfl)
  have i3 := (Ki4.cell 3).trans (show _ = some (Value.int .i64 n) from rfl)
  clear A2 A2' B2 hb3 KP hbp sp Ki LA
  go_wp2_with fail
  clear c0 i0 i1 i2 i3 eW4
  refine (cDecidedW LA4.refl (by simp) (by decide) ka kb n).mono ?_
  rintro e W5 ⟨rfl, v5, h5⟩
  have Ki5 := h5.keep _ _ _ Ki4 (by decide) (by decide)
  have B5 := B4.trans h5.low
  clear Ki4 LA4 B4
  have LA5 := h5.li
  clear h5
  go_wp2_with fail
  refine (cOnly _ _).mono ?_
  rintro e W6 ⟨rfl, hb6⟩
  obtain ⟨Kp, hbq, sq⟩ := cells1 W6 #[.int .i64 2, .int .i64 0] 49
  have B6 := B5.trans (hb6.mono B5.size)
  have T : TvAt w (W6.alloc (.cells #[.int .i64 2, .int .i64 0] 49)) W1.heap.size W6.heap.size (W1.heap.size + 1) v5 ([] ++ decT 25 ka kb n) 25 ka kb n := ⟨(Ki5.below hb6 Ki5.lt).below hbq (Ki5.below hb6 Ki5.lt).lt, Kp, (LA5.below hb6).below hbq, B6.trans (hbq.mono B6.size)⟩
  clear Ki5 B5 LA5 hb6 Kp hbq sq B6
  obtain ⟨i0, i1, i2, i3, p0, p1, xv⟩ := T.s
  go_upto_region 11 with (fail)
  generalize W6.alloc _ = W7 at *

  go_upto_region 41 with (first | (go_at_call 39; refine (cOnly _ _).mono ?_; rintro e w1 ⟨rfl, hb1⟩; replace T := T.below hb1; clear hb1) | (go_at_call 36; refine (cRegp _ _).mono ?_; rintro e w1 ⟨rfl, hb1⟩; replace T := T.below hb1; clear hb1) | (go_at_call 40; (with_reducible refine ((T.alloc _).put (by have := decT_len 25 ka kb n; simp; omega) _ _ (FromAt.new1 _ _ _)).mono ?_); clear T; rintro e w1 ⟨rfl, v1, T⟩))
  replace T := T.drew
  go_region_held3 (fun w' => w'.cell? ⟨W1.heap.size, 0, none⟩ = some (.int .i64 25) ∧ w'.cell? ⟨W1.heap.size, 1, none⟩ = some (.int .i64 ka) ∧ w'.cell? ⟨W1.heap.size, 2, none⟩ = some (.int .i64 kb) ∧ w'.cell? ⟨W1.heap.size, 3, none⟩ = some (.int .i64 n) ∧ w'.cell? ⟨W6.heap.size, 0, none⟩ = some (.int .i64 2) ∧ w'.cell? ⟨W6.heap.size, 1, none⟩ = some (.int .i64 0))
    (first | exact T.s6 | exact (T.alloc _).s6)
    (first | (go_at_call 39; refine (cOnly _ _).mono ?_; rintro e w1 ⟨rfl, hb1⟩; replace T := T.below hb1; clear hb1) | (go_at_call 36; refine (cRegp _ _).mono ?_; rintro e w1 ⟨rfl, hb1⟩; replace T := T.below hb1; clear hb1) | (go_at_call 40; (with_reducible refine ((T.alloc _).put (by have := decT_len 25 ka kb n; simp; omega) _ _ (FromAt.new1 _ _ _)).mono ?_); clear T; rintro e w1 ⟨rfl, v1, T⟩))
  obtain ⟨i0, i1, i2, i3, p0, p1, xv⟩ := T.s
  go_upto_region 43 with (first | (go_at_call 39; refine (cOnly _ _).mono ?_; rintro e w1 ⟨rfl, hb1⟩; replace T := T.below hb1; clear hb1) | (go_at_call 36; refine (cRegp _ _).mono ?_; rintro e w1 ⟨rfl, hb1⟩; replace T := T.below hb1; clear hb1) | (go_at_call 40; (with_reducible refine ((T.alloc _).put (by have := decT_len 25 ka kb n; simp; omega) _ _ (FromAt.new1 _ _ _)).mono ?_); clear T; rintro e w1 ⟨rfl, v1, T⟩))
  clear i0 i1 i2 i3 p0 p1 xv
  obtain ⟨i0, i1, i2, i3, p0, p1, xv⟩ := T.s
  have xv' := xv
  go_wp2_with fail
  go_ret
  exact ⟨_, rfl, by simpa [touchW, decT, movT, endT, keptL] using T.li.t, T.low⟩
end Go.Proofs.Ytmpnlhfnemidpaa
