/- The cpu's Touches, by cases. -/
import Derived.Test.YtmpnlhfnemidpaaTu0
namespace Go.Proofs.Ytmpnlhfnemidpaa
open Go.RowKit Go.Shelf
set_option maxRecDepth 100000 in
set_option maxHeartbeats 2000000 in
theorem cTouch1 {s : St} (hs : s.ok) {x : Int} (hok : okL x = true) (h0 : 0 ≤ x) (h1 : x < 4294967296) {n : Int} {ka kb : Int} (e1 : dOp x = 1) (e2 : dA x = ka) (e3 : dB x = kb) (e4 : dN x = n)
    {pk : Wt} (hpl : planL s x = pk) (hk : (pk.kind == 1) = false) (w : World) :
    Calls Try.prog 18 #[.agg (stA s), .int .u32 x] w fun e w' => ∃ v', e = .returned v' ∧ TsAt w' w.heap.size v' (touchW 1 ka kb n) ∧ Below w.heap.size w w' := by
  obtain ⟨K1, Hb, hsz⟩ := cells1 w (stA s) 25
  have hi := hi25 hs.len
  have hP := fun W => cPlan hs h0 h1 W
  rw [hpl] at hP
  clear hpl
  have HP := Lib.hid hP
  clear hP
  go_enter Try.func18, Try.ntmps18
  go_wp2_with fail
  generalize w.alloc _ = W at *
  have A : StAt W w.heap.size s := ⟨K1, hs.len⟩
  refine (cDecode_in hok h0 h1 W).mono ?_
  rintro e W1 ⟨rfl, hb1⟩
  rw [e1, e2, e3, e4]
  clear hok h0 h1 e1 e2 e3 e4
  obtain ⟨Ki, Kx, hb2, s2⟩ := cells2 W1 (instA 1 ka kb n) #[.slice none 0 0] 54 73
  go_upto_region 3 with (fail)
  unfold instA at Ki Kx hb2 s2
  generalize (W1.alloc _).alloc _ = W2 at *
  have hs1 := Hb.size
  have B1 := Hb.trans (hb1.mono Hb.size)
  have B2 := B1.trans (hb2.mono B1.size)
  have A2 := (A.below hb1 A.lt).below hb2 (A.below hb1 A.lt).lt
  have A2' : W2.heap[w.heap.size]? = some (.cells (stA s) 25 (0, 0)) := A2.row
  have LA : LiAt W2 w.heap.size (W1.heap.size + 1) (.slice none 0 0) [] := ⟨Kx, ⟨[], World.ownsRow_nil _ _ _ _, .nil⟩, by have := B1.size; omega⟩
  clear A hb1 K1 Hb hb2 Kx B1 hsz hs1
  go_wp2_with (with_reducible refine wpList_load_row rfl 25 (.tmp 2) rfl w.heap.size rfl 25 (stA s) (0, 0) _ A2' Try.underlying25 rfl hi ?_)
  refine (HP.out W2).mono ?_
  rintro e W3 ⟨rfl, hb3⟩
  obtain ⟨KP, hbp, sp⟩ := cells1 W3 (wtA pk) 42
  have B4 := (B2.trans (hb3.mono B2.size)).trans (hbp.mono (B2.trans (hb3.mono B2.size)).size)
  have Ki4 := (Ki.below hb3 Ki.lt).below hbp (Ki.below hb3 Ki.lt).lt
  have LA4 := (LA.below hb3).below hbp
  unfold wtA at KP hbp B4 Ki4 LA4
  obtain ⟨W4, eW4⟩ : ∃ W4, W3.alloc (.cells #[.int .i64 pk.kind, .int .u32 pk.cause, .int .u32 pk.addr, .int .i64 pk.width, .int .i64 pk.port, .int .u32 pk.value] 42) = W4 := ⟨_, rfl⟩
  rw [eW4] at KP B4 Ki4 LA4
  have c0 := (KP.cell 0).trans (show _ = some (Value.int .i64 pk.kind) from rfl)
  have i0 := (Ki4.cell 0).trans (show _ = some (Value.int .i64 1) from rfl)
  have i1 := (Ki4.cell 1).trans (show _ = some (Value.int .i64 ka) from rfl)
  have i2 := (Ki4.cell 2).trans (show _ = some (Value.int .i64 kb) from rfl)
  have i3 := (Ki4.cell 3).trans (show _ = some (Value.int .i64 n) from rfl)
  clear A2 A2' B2 hb3 KP hbp sp Ki LA
  go_wp2_with fail
  clear c0 i0 i1 i2 i3 eW4
  refine (cDecidedW LA4.refl (by simp) (by decide) ka kb n).mono ?_
  rintro e W5 ⟨rfl, v5, h5⟩
  have Ki5 := h5.keep _ _ _ Ki4 (by decide) (by decide)
  have B5 := B4.trans h5.low
  clear Ki4 LA4 B4
  have LA5 := h5.li
  clear h5
  go_wp2_with fail
  refine (cOnly _ _).mono ?_
  rintro e W6 ⟨rfl, hb6⟩
  obtain ⟨Kp, hbq, sq⟩ := cells1 W6 #[.int .i64 2, .int .i64 0] 49
  have B6 := B5.trans (hb6.mono B5.size)
  have T : TvAt w (W6.alloc (.cells #[.int .i64 2, .int .i64 0] 49)) W1.heap.size W6.heap.size (W1.heap.size + 1) v5 ([] ++ decT 1 ka kb n) 1 ka kb n := ⟨(Ki5.below hb6 Ki5.lt).below hbq (Ki5.below hb6 Ki5.lt).lt, Kp, (LA5.below hb6).below hbq, B6.trans (hbq.mono B6.size)⟩
  clear Ki5 B5 LA5 hb6 Kp hbq sq B6
  obtain ⟨i0, i1, i2, i3, p0, p1, xv⟩ := T.s
  go_upto_region 11 with (fail)
  generalize W6.alloc _ = W7 at *

  go_upto_region 43 with (first | (go_at_call 39; refine (cOnly _ _).mono ?_; rintro e w1 ⟨rfl, hb1⟩; replace T := T.below hb1; clear hb1) | (go_at_call 36; refine (cRegp _ _).mono ?_; rintro e w1 ⟨rfl, hb1⟩; replace T := T.below hb1; clear hb1) | (go_at_call 40; (with_reducible refine ((T.alloc _).put (by have := decT_len 1 ka kb n; simp; omega) _ _ (FromAt.new1 _ _ _)).mono ?_); clear T; rintro e w1 ⟨rfl, v1, T⟩))
  clear i0 i1 i2 i3 p0 p1 xv
  obtain ⟨i0, i1, i2, i3, p0, p1, xv⟩ := T.s
  have xv' := xv
  go_wp2_with fail
  go_ret
  exact ⟨_, rfl, by simpa [touchW, decT, movT, endT, keptL] using T.li.t, T.low⟩
set_option maxRecDepth 100000 in
set_option maxHeartbeats 2000000 in
theorem cTouch2 {s : St} (hs : s.ok) {x : Int} (hok : okL x = true) (h0 : 0 ≤ x) (h1 : x < 4294967296) {n : Int} {ka kb : Int} (e1 : dOp x = 2) (e2 : dA x = ka) (e3 : dB x = kb) (e4 : dN x = n)
    {pk : Wt} (hpl : planL s x = pk) (hk : (pk.kind == 1) = false) (w : World) :
    Calls Try.prog 18 #[.agg (stA s), .int .u32 x] w fun e w' => ∃ v', e = .returned v' ∧ TsAt w' w.heap.size v' (touchW 2 ka kb n) ∧ Below w.heap.size w w' := by
  obtain ⟨K1, Hb, hsz⟩ := cells1 w (stA s) 25
  have hi := hi25 hs.len
  have hP := fun W => cPlan hs h0 h1 W
  rw [hpl] at hP
  clear hpl
  have HP := Lib.hid hP
  clear hP
  go_enter Try.func18, Try.ntmps18
  go_wp2_with fail
  generalize w.alloc _ = W at *
  have A : StAt W w.heap.size s := ⟨K1, hs.len⟩
  refine (cDecode_in hok h0 h1 W).mono ?_
  rintro e W1 ⟨rfl, hb1⟩
  rw [e1, e2, e3, e4]
  clear hok h0 h1 e1 e2 e3 e4
  obtain ⟨Ki, Kx, hb2, s2⟩ := cells2 W1 (instA 2 ka kb n) #[.slice none 0 0] 54 73
  go_upto_region 3 with (fail)
  unfold instA at Ki Kx hb2 s2
  generalize (W1.alloc _).alloc _ = W2 at *
  have hs1 := Hb.size
  have B1 := Hb.trans (hb1.mono Hb.size)
  have B2 := B1.trans (hb2.mono B1.size)
  have A2 := (A.below hb1 A.lt).below hb2 (A.below hb1 A.lt).lt
  have A2' : W2.heap[w.heap.size]? = some (.cells (stA s) 25 (0, 0)) := A2.row
  have LA : LiAt W2 w.heap.size (W1.heap.size + 1) (.slice none 0 0) [] := ⟨Kx, ⟨[], World.ownsRow_nil _ _ _ _, .nil⟩, by have := B1.size; omega⟩
  clear A hb1 K1 Hb hb2 Kx B1 hsz hs1
  go_wp2_with (with_reducible refine wpList_load_row rfl 25 (.tmp 2) rfl w.heap.size rfl 25 (stA s) (0, 0) _ A2' Try.underlying25 rfl hi ?_)
  refine (HP.out W2).mono ?_
  rintro e W3 ⟨rfl, hb3⟩
  obtain ⟨KP, hbp, sp⟩ := cells1 W3 (wtA pk) 42
  have B4 := (B2.trans (hb3.mono B2.size)).trans (hbp.mono (B2.trans (hb3.mono B2.size)).size)
  have Ki4 := (Ki.below hb3 Ki.lt).below hbp (Ki.below hb3 Ki.lt).lt
  have LA4 := (LA.below hb3).below hbp
  unfold wtA at KP hbp B4 Ki4 LA4
  obtain ⟨W4, eW4⟩ : ∃ W4, W3.alloc (.cells #[.int .i64 pk.kind, .int .u32 pk.cause, .int .u32 pk.addr, .int .i64 pk.width, .int .i64 pk.port, .int .u32 pk.value] 42) = W4 := ⟨_, rfl⟩
  rw [eW4] at KP B4 Ki4 LA4
  have c0 := (KP.cell 0).trans (show _ = some (Value.int .i64 pk.kind) from rfl)
  have i0 := (Ki4.cell 0).trans (show _ = some (Value.int .i64 2) from rfl)
  have i1 := (Ki4.cell 1).trans (show _ = some (Value.int .i64 ka) from rfl)
  have i2 := (Ki4.cell 2).trans (show _ = some (Value.int .i64 kb) from rfl)
  have i3 := (Ki4.cell 3).trans (show _ = some (Value.int .i64 n) from rfl)
  clear A2 A2' B2 hb3 KP hbp sp Ki LA
  go_wp2_with fail
  clear c0 i0 i1 i2 i3 eW4
  refine (cDecidedW LA4.refl (by simp) (by decide) ka kb n).mono ?_
  rintro e W5 ⟨rfl, v5, h5⟩
  have Ki5 := h5.keep _ _ _ Ki4 (by decide) (by decide)
  have B5 := B4.trans h5.low
  clear Ki4 LA4 B4
  have LA5 := h5.li
  clear h5
  go_wp2_with fail
  refine (cOnly _ _).mono ?_
  rintro e W6 ⟨rfl, hb6⟩
  obtain ⟨Kp, hbq, sq⟩ := cells1 W6 #[.int .i64 2, .int .i64 0] 49
  have B6 := B5.trans (hb6.mono B5.size)
  have T : TvAt w (W6.alloc (.cells #[.int .i64 2, .int .i64 0] 49)) W1.heap.size W6.heap.size (W1.heap.size + 1) v5 ([] ++ decT 2 ka kb n) 2 ka kb n := ⟨(Ki5.below hb6 Ki5.lt).below hbq (Ki5.below hb6 Ki5.lt).lt, Kp, (LA5.below hb6).below hbq, B6.trans (hbq.mono B6.size)⟩
  clear Ki5 B5 LA5 hb6 Kp hbq sq B6
  obtain ⟨i0, i1, i2, i3, p0, p1, xv⟩ := T.s
  go_upto_region 11 with (fail)
  generalize W6.alloc _ = W7 at *

  go_upto_region 36 with (first | (go_at_call 39; refine (cOnly _ _).mono ?_; rintro e w1 ⟨rfl, hb1⟩; replace T := T.below hb1; clear hb1) | (go_at_call 36; refine (cRegp _ _).mono ?_; rintro e w1 ⟨rfl, hb1⟩; replace T := T.below hb1; clear hb1) | (go_at_call 40; (with_reducible refine (T.put (by have := decT_len 2 ka kb n; simp; omega) _ _ (FromAt.nil _)).mono ?_); clear T; rintro e w1 ⟨rfl, v1, T⟩))
  clear i0 i1 i2 i3 p0 p1 xv
  obtain ⟨i0, i1, i2, i3, p0, p1, xv⟩ := T.s
  go_upto_region 43 with (first | (go_at_call 39; refine (cOnly _ _).mono ?_; rintro e w1 ⟨rfl, hb1⟩; replace T := T.below hb1; clear hb1) | (go_at_call 36; refine (cRegp _ _).mono ?_; rintro e w1 ⟨rfl, hb1⟩; replace T := T.below hb1; clear hb1) | (go_at_call 40; (with_reducible refine ((T.alloc _).put (by have := decT_len 2 ka kb n; simp; omega) _ _ (FromAt.new1 _ _ _)).mono ?_); clear T; rintro e w1 ⟨rfl, v1, T⟩))
  clear i0 i1 i2 i3 p0 p1 xv
  obtain ⟨i0, i1, i2, i3, p0, p1, xv⟩ := T.s
  have xv' := xv
  go_wp2_with fail
  go_ret
  exact ⟨_, rfl, by simpa [touchW, decT, movT, endT, keptL] using T.li.t, T.low⟩
set_option maxRecDepth 100000 in
set_option maxHeartbeats 2000000 in
theorem cTouch3 {s : St} (hs : s.ok) {x : Int} (hok : okL x = true) (h0 : 0 ≤ x) (h1 : x < 4294967296) {n : Int} {ka kb : Int} (e1 : dOp x = 3) (e2 : dA x = ka) (e3 : dB x = kb) (e4 : dN x = n)
    {pk : Wt} (hpl : planL s x = pk) (hk : (pk.kind == 1) = false) (w : World) :
    Calls Try.prog 18 #[.agg (stA s), .int .u32 x] w fun e w' => ∃ v', e = .returned v' ∧ TsAt w' w.heap.size v' (touchW 3 ka kb n) ∧ Below w.heap.size w w' := by
  obtain ⟨K1, Hb, hsz⟩ := cells1 w (stA s) 25
  have hi := hi25 hs.len
  have hP := fun W => cPlan hs h0 h1 W
  rw [hpl] at hP
  clear hpl
  have HP := Lib.hid hP
  clear hP
  go_enter Try.func18, Try.ntmps18
  go_wp2_with fail
  generalize w.alloc _ = W at *
  have A : StAt W w.heap.size s := ⟨K1, hs.len⟩
  refine (cDecode_in hok h0 h1 W).mono ?_
  rintro e W1 ⟨rfl, hb1⟩
  rw [e1, e2, e3, e4]
  clear hok h0 h1 e1 e2 e3 e4
  obtain ⟨Ki, Kx, hb2, s2⟩ := cells2 W1 (instA 3 ka kb n) #[.slice none 0 0] 54 73
  go_upto_region 3 with (fail)
  unfold instA at Ki Kx hb2 s2
  generalize (W1.alloc _).alloc _ = W2 at *
  have hs1 := Hb.size
  have B1 := Hb.trans (hb1.mono Hb.size)
  have B2 := B1.trans (hb2.mono B1.size)
  have A2 := (A.below hb1 A.lt).below hb2 (A.below hb1 A.lt).lt
  have A2' : W2.heap[w.heap.size]? = some (.cells (stA s) 25 (0, 0)) := A2.row
  have LA : LiAt W2 w.heap.size (W1.heap.size + 1) (.slice none 0 0) [] := ⟨Kx, ⟨[], World.ownsRow_nil _ _ _ _, .nil⟩, by have := B1.size; omega⟩
  clear A hb1 K1 Hb hb2 Kx B1 hsz hs1
  go_wp2_with (with_reducible refine wpList_load_row rfl 25 (.tmp 2) rfl w.heap.size rfl 25 (stA s) (0, 0) _ A2' Try.underlying25 rfl hi ?_)
  refine (HP.out W2).mono ?_
  rintro e W3 ⟨rfl, hb3⟩
  obtain ⟨KP, hbp, sp⟩ := cells1 W3 (wtA pk) 42
  have B4 := (B2.trans (hb3.mono B2.size)).trans (hbp.mono (B2.trans (hb3.mono B2.size)).size)
  have Ki4 := (Ki.below hb3 Ki.lt).below hbp (Ki.below hb3 Ki.lt).lt
  have LA4 := (LA.below hb3).below hbp
  unfold wtA at KP hbp B4 Ki4 LA4
  obtain ⟨W4, eW4⟩ : ∃ W4, W3.alloc (.cells #[.int .i64 pk.kind, .int .u32 pk.cause, .int .u32 pk.addr, .int .i64 pk.width, .int .i64 pk.port, .int .u32 pk.value] 42) = W4 := ⟨_, rfl⟩
  rw [eW4] at KP B4 Ki4 LA4
  have c0 := (KP.cell 0).trans (show _ = some (Value.int .i64 pk.kind) from rfl)
  have i0 := (Ki4.cell 0).trans (show _ = some (Value.int .i64 3) from rfl)
  have i1 := (Ki4.cell 1).trans (show _ = some (Value.int .i64 ka) from rfl)
  have i2 := (Ki4.cell 2).trans (show _ = some (Value.int .i64 kb) from rfl)
  have i3 := (Ki4.cell 3).trans (show _ = some (Value.int .i64 n) from rfl)
  clear A2 A2' B2 hb3 KP hbp sp Ki LA
  go_wp2_with fail
  clear c0 i0 i1 i2 i3 eW4
  refine (cDecidedW LA4.refl (by simp) (by decide) ka kb n).mono ?_
  rintro e W5 ⟨rfl, v5, h5⟩
  have Ki5 := h5.keep _ _ _ Ki4 (by decide) (by decide)
  have B5 := B4.trans h5.low
  clear Ki4 LA4 B4
  have LA5 := h5.li
  clear h5
  go_wp2_with fail
  refine (cOnly _ _).mono ?_
  rintro e W6 ⟨rfl, hb6⟩
  obtain ⟨Kp, hbq, sq⟩ := cells1 W6 #[.int .i64 2, .int .i64 0] 49
  have B6 := B5.trans (hb6.mono B5.size)
  have T : TvAt w (W6.alloc (.cells #[.int .i64 2, .int .i64 0] 49)) W1.heap.size W6.heap.size (W1.heap.size + 1) v5 ([] ++ decT 3 ka kb n) 3 ka kb n := ⟨(Ki5.below hb6 Ki5.lt).below hbq (Ki5.below hb6 Ki5.lt).lt, Kp, (LA5.below hb6).below hbq, B6.trans (hbq.mono B6.size)⟩
  clear Ki5 B5 LA5 hb6 Kp hbq sq B6
  obtain ⟨i0, i1, i2, i3, p0, p1, xv⟩ := T.s
  go_upto_region 11 with (fail)
  generalize W6.alloc _ = W7 at *

  go_upto_region 15 with (first | (go_at_call 39; refine (cOnly _ _).mono ?_; rintro e w1 ⟨rfl, hb1⟩; replace T := T.below hb1; clear hb1) | (go_at_call 36; refine (cRegp _ _).mono ?_; rintro e w1 ⟨rfl, hb1⟩; replace T := T.below hb1; clear hb1) | (go_at_call 40; (with_reducible refine ((T.alloc _).put (by have := decT_len 3 ka kb n; simp; omega) _ _ (FromAt.new1 _ _ _)).mono ?_); clear T; rintro e w1 ⟨rfl, v1, T⟩))
  replace T := T.drew
  go_region_held3 (fun w' => w'.cell? ⟨W1.heap.size, 0, none⟩ = some (.int .i64 3) ∧ w'.cell? ⟨W1.heap.size, 1, none⟩ = some (.int .i64 ka) ∧ w'.cell? ⟨W1.heap.size, 2, none⟩ = some (.int .i64 kb) ∧ w'.cell? ⟨W1.heap.size, 3, none⟩ = some (.int .i64 n) ∧ w'.cell? ⟨W6.heap.size, 0, none⟩ = some (.int .i64 2) ∧ w'.cell? ⟨W6.heap.size, 1, none⟩ = some (.int .i64 0))
    (first | exact T.s6 | exact (T.alloc _).s6)
    (first | (go_at_call 39; refine (cOnly _ _).mono ?_; rintro e w1 ⟨rfl, hb1⟩; replace T := T.below hb1; clear hb1) | (go_at_call 36; refine (cRegp _ _).mono ?_; rintro e w1 ⟨rfl, hb1⟩; replace T := T.below hb1; clear hb1) | (go_at_call 40; (with_reducible refine ((T.alloc _).put (by have := decT_len 3 ka kb n; simp; omega) _ _ (FromAt.new1 _ _ _)).mono ?_); clear T; rintro e w1 ⟨rfl, v1, T⟩))
  obtain ⟨i0, i1, i2, i3, p0, p1, xv⟩ := T.s
  go_upto_region 43 with (first | (go_at_call 39; refine (cOnly _ _).mono ?_; rintro e w1 ⟨rfl, hb1⟩; replace T := T.below hb1; clear hb1) | (go_at_call 36; refine (cRegp _ _).mono ?_; rintro e w1 ⟨rfl, hb1⟩; replace T := T.below hb1; clear hb1) | (go_at_call 40; (with_reducible refine ((T.alloc _).put (by have := decT_len 3 ka kb n; simp; omega) _ _ (FromAt.new1 _ _ _)).mono ?_); clear T; rintro e w1 ⟨rfl, v1, T⟩))
  clear i0 i1 i2 i3 p0 p1 xv
  obtain ⟨i0, i1, i2, i3, p0, p1, xv⟩ := T.s
  have xv' := xv
  go_wp2_with fail
  go_ret
  exact ⟨_, rfl, by simpa [touchW, decT, movT, endT, keptL] using T.li.t, T.low⟩
set_option maxRecDepth 100000 in
set_option maxHeartbeats 2000000 in
theorem cTouch4 {s : St} (hs : s.ok) {x : Int} (hok : okL x = true) (h0 : 0 ≤ x) (h1 : x < 4294967296) {n : Int} {ka kb : Int} (e1 : dOp x = 4) (e2 : dA x = ka) (e3 : dB x = kb) (e4 : dN x = n)
    {pk : Wt} (hpl : planL s x = pk) (hk : (pk.kind == 1) = false) (w : World) :
    Calls Try.prog 18 #[.agg (stA s), .int .u32 x] w fun e w' => ∃ v', e = .returned v' ∧ TsAt w' w.heap.size v' (touchW 4 ka kb n) ∧ Below w.heap.size w w' := by
  obtain ⟨K1, Hb, hsz⟩ := cells1 w (stA s) 25
  have hi := hi25 hs.len
  have hP := fun W => cPlan hs h0 h1 W
  rw [hpl] at hP
  clear hpl
  have HP := Lib.hid hP
  clear hP
  go_enter Try.func18, Try.ntmps18
  go_wp2_with fail
  generalize w.alloc _ = W at *
  have A : StAt W w.heap.size s := ⟨K1, hs.len⟩
  refine (cDecode_in hok h0 h1 W).mono ?_
  rintro e W1 ⟨rfl, hb1⟩
  rw [e1, e2, e3, e4]
  clear hok h0 h1 e1 e2 e3 e4
  obtain ⟨Ki, Kx, hb2, s2⟩ := cells2 W1 (instA 4 ka kb n) #[.slice none 0 0] 54 73
  go_upto_region 3 with (fail)
  unfold instA at Ki Kx hb2 s2
  generalize (W1.alloc _).alloc _ = W2 at *
  have hs1 := Hb.size
  have B1 := Hb.trans (hb1.mono Hb.size)
  have B2 := B1.trans (hb2.mono B1.size)
  have A2 := (A.below hb1 A.lt).below hb2 (A.below hb1 A.lt).lt
  have A2' : W2.heap[w.heap.size]? = some (.cells (stA s) 25 (0, 0)) := A2.row
  have LA : LiAt W2 w.heap.size (W1.heap.size + 1) (.slice none 0 0) [] := ⟨Kx, ⟨[], World.ownsRow_nil _ _ _ _, .nil⟩, by have := B1.size; omega⟩
  clear A hb1 K1 Hb hb2 Kx B1 hsz hs1
  go_wp2_with (with_reducible refine wpList_load_row rfl 25 (.tmp 2) rfl w.heap.size rfl 25 (stA s) (0, 0) _ A2' Try.underlying25 rfl hi ?_)
  refine (HP.out W2).mono ?_
  rintro e W3 ⟨rfl, hb3⟩
  obtain ⟨KP, hbp, sp⟩ := cells1 W3 (wtA pk) 42
  have B4 := (B2.trans (hb3.mono B2.size)).trans (hbp.mono (B2.trans (hb3.mono B2.size)).size)
  have Ki4 := (Ki.below hb3 Ki.lt).below hbp (Ki.below hb3 Ki.lt).lt
  have LA4 := (LA.below hb3).below hbp
  unfold wtA at KP hbp B4 Ki4 LA4
  obtain ⟨W4, eW4⟩ : ∃ W4, W3.alloc (.cells #[.int .i64 pk.kind, .int .u32 pk.cause, .int .u32 pk.addr, .int .i64 pk.width, .int .i64 pk.port, .int .u32 pk.value] 42) = W4 := ⟨_, rfl⟩
  rw [eW4] at KP B4 Ki4 LA4
  have c0 := (KP.cell 0).trans (show _ = some (Value.int .i64 pk.kind) from rfl)
  have i0 := (Ki4.cell 0).trans (show _ = some (Value.int .i64 4) from rfl)
  have i1 := (Ki4.cell 1).trans (show _ = some (Value.int .i64 ka) from rfl)
  have i2 := (Ki4.cell 2).trans (show _ = some (Value.int .i64 kb) from rfl)
  have i3 := (Ki4.cell 3).trans (show _ = some (Value.int .i64 n) from rfl)
  clear A2 A2' B2 hb3 KP hbp sp Ki LA
  go_wp2_with fail
  clear c0 i0 i1 i2 i3 eW4
  refine (cDecidedW LA4.refl (by simp) (by decide) ka kb n).mono ?_
  rintro e W5 ⟨rfl, v5, h5⟩
  have Ki5 := h5.keep _ _ _ Ki4 (by decide) (by decide)
  have B5 := B4.trans h5.low
  clear Ki4 LA4 B4
  have LA5 := h5.li
  clear h5
  go_wp2_with fail
  refine (cOnly _ _).mono ?_
  rintro e W6 ⟨rfl, hb6⟩
  obtain ⟨Kp, hbq, sq⟩ := cells1 W6 #[.int .i64 2, .int .i64 0] 49
  have B6 := B5.trans (hb6.mono B5.size)
  have T : TvAt w (W6.alloc (.cells #[.int .i64 2, .int .i64 0] 49)) W1.heap.size W6.heap.size (W1.heap.size + 1) v5 ([] ++ decT 4 ka kb n) 4 ka kb n := ⟨(Ki5.below hb6 Ki5.lt).below hbq (Ki5.below hb6 Ki5.lt).lt, Kp, (LA5.below hb6).below hbq, B6.trans (hbq.mono B6.size)⟩
  clear Ki5 B5 LA5 hb6 Kp hbq sq B6
  obtain ⟨i0, i1, i2, i3, p0, p1, xv⟩ := T.s
  go_upto_region 11 with (fail)
  generalize W6.alloc _ = W7 at *

  go_upto_region 25 with (first | (go_at_call 39; refine (cOnly _ _).mono ?_; rintro e w1 ⟨rfl, hb1⟩; replace T := T.below hb1; clear hb1) | (go_at_call 36; refine (cRegp _ _).mono ?_; rintro e w1 ⟨rfl, hb1⟩; replace T := T.below hb1; clear hb1) | (go_at_call 40; (with_reducible refine ((T.alloc _).put (by have := decT_len 4 ka kb n; simp; omega) _ _ (FromAt.new2 _ _ _ _ _)).mono ?_); clear T; rintro e w1 ⟨rfl, v1, T⟩))
  replace T := T.drew
  go_region_held3 (fun w' => w'.cell? ⟨W1.heap.size, 0, none⟩ = some (.int .i64 4) ∧ w'.cell? ⟨W1.heap.size, 1, none⟩ = some (.int .i64 ka) ∧ w'.cell? ⟨W1.heap.size, 2, none⟩ = some (.int .i64 kb) ∧ w'.cell? ⟨W1.heap.size, 3, none⟩ = some (.int .i64 n) ∧ w'.cell? ⟨W6.heap.size, 0, none⟩ = some (.int .i64 2) ∧ w'.cell? ⟨W6.heap.size, 1, none⟩ = some (.int .i64 0))
    (first | exact T.s6 | exact (T.alloc _).s6)
    (first | (go_at_call 39; refine (cOnly _ _).mono ?_; rintro e w1 ⟨rfl, hb1⟩; replace T := T.below hb1; clear hb1) | (go_at_call 36; refine (cRegp _ _).mono ?_; rintro e w1 ⟨rfl, hb1⟩; replace T := T.below hb1; clear hb1) | (go_at_call 40; (with_reducible refine ((T.alloc _).put (by have := decT_len 4 ka kb n; simp; omega) _ _ (FromAt.new2 _ _ _ _ _)).mono ?_); clear T; rintro e w1 ⟨rfl, v1, T⟩))
  obtain ⟨i0, i1, i2, i3, p0, p1, xv⟩ := T.s
  go_upto_region 43 with (first | (go_at_call 39; refine (cOnly _ _).mono ?_; rintro e w1 ⟨rfl, hb1⟩; replace T := T.below hb1; clear hb1) | (go_at_call 36; refine (cRegp _ _).mono ?_; rintro e w1 ⟨rfl, hb1⟩; replace T := T.below hb1; clear hb1) | (go_at_call 40; (with_reducible refine ((T.alloc _).put (by have := decT_len 4 ka kb n; simp; omega) _ _ (FromAt.new1 _ _ _)).mono ?_); clear T; rintro e w1 ⟨rfl, v1, T⟩))
  clear i0 i1 i2 i3 p0 p1 xv
  obtain ⟨i0, i1, i2, i3, p0, p1, xv⟩ := T.s
  have xv' := xv
  go_wp2_with fail
  go_ret
  exact ⟨_, rfl, by simpa [touchW, decT, movT, endT, keptL] using T.li.t, T.low⟩
set_option maxRecDepth 100000 in
set_option maxHeartbeats 2000000 in
theorem cTouch5 {s : St} (hs : s.ok) {x : Int} (hok : okL x = true) (h0 : 0 ≤ x) (h1 : x < 4294967296) {n : Int} {ka kb : Int} (e1 : dOp x = 5) (e2 : dA x = ka) (e3 : dB x = kb) (e4 : dN x = n)
    {pk : Wt} (hpl : planL s x = pk) (hk : (pk.kind == 1) = false) (w : World) :
    Calls Try.prog 18 #[.agg (stA s), .int .u32 x] w fun e w' => ∃ v', e = .returned v' ∧ TsAt w' w.heap.size v' (touchW 5 ka kb n) ∧ Below w.heap.size w w' := by
  obtain ⟨K1, Hb, hsz⟩ := cells1 w (stA s) 25
  have hi := hi25 hs.len
  have hP := fun W => cPlan hs h0 h1 W
  rw [hpl] at hP
  clear hpl
  have HP := Lib.hid hP
  clear hP
  go_enter Try.func18, Try.ntmps18
  go_wp2_with fail
  generalize w.alloc _ = W at *
  have A : StAt W w.heap.size s := ⟨K1, hs.len⟩
  refine (cDecode_in hok h0 h1 W).mono ?_
  rintro e W1 ⟨rfl, hb1⟩
  rw [e1, e2, e3, e4]
  clear hok h0 h1 e1 e2 e3 e4
  obtain ⟨Ki, Kx, hb2, s2⟩ := cells2 W1 (instA 5 ka kb n) #[.slice none 0 0] 54 73
  go_upto_region 3 with (fail)
  unfold instA at Ki Kx hb2 s2
  generalize (W1.alloc _).alloc _ = W2 at *
  have hs1 := Hb.size
  have B1 := Hb.trans (hb1.mono Hb.size)
  have B2 := B1.trans (hb2.mono B1.size)
  have A2 := (A.below hb1 A.lt).below hb2 (A.below hb1 A.lt).lt
  have A2' : W2.heap[w.heap.size]? = some (.cells (stA s) 25 (0, 0)) := A2.row
  have LA : LiAt W2 w.heap.size (W1.heap.size + 1) (.slice none 0 0) [] := ⟨Kx, ⟨[], World.ownsRow_nil _ _ _ _, .nil⟩, by have := B1.size; omega⟩
  clear A hb1 K1 Hb hb2 Kx B1 hsz hs1
  go_wp2_with (with_reducible refine wpList_load_row rfl 25 (.tmp 2) rfl w.heap.size rfl 25 (stA s) (0, 0) _ A2' Try.underlying25 rfl hi ?_)
  refine (HP.out W2).mono ?_
  rintro e W3 ⟨rfl, hb3⟩
  obtain ⟨KP, hbp, sp⟩ := cells1 W3 (wtA pk) 42
  have B4 := (B2.trans (hb3.mono B2.size)).trans (hbp.mono (B2.trans (hb3.mono B2.size)).size)
  have Ki4 := (Ki.below hb3 Ki.lt).below hbp (Ki.below hb3 Ki.lt).lt
  have LA4 := (LA.below hb3).below hbp
  unfold wtA at KP hbp B4 Ki4 LA4
  obtain ⟨W4, eW4⟩ : ∃ W4, W3.alloc (.cells #[.int .i64 pk.kind, .int .u32 pk.cause, .int .u32 pk.addr, .int .i64 pk.width, .int .i64 pk.port, .int .u32 pk.value] 42) = W4 := ⟨_, rfl⟩
  rw [eW4] at KP B4 Ki4 LA4
  have c0 := (KP.cell 0).trans (show _ = some (Value.int .i64 pk.kind) from rfl)
  have i0 := (Ki4.cell 0).trans (show _ = some (Value.int .i64 5) from rfl)
  have i1 := (Ki4.cell 1).trans (show _ = some (Value.int .i64 ka) from rfl)
  have i2 := (Ki4.cell 2).trans (show _ = some (Value.int .i64 kb) from rfl)
  have i3 := (Ki4.cell 3).trans (show _ = some (Value.int .i64 n) from rfl)
  clear A2 A2' B2 hb3 KP hbp sp Ki LA
  go_wp2_with fail
  clear c0 i0 i1 i2 i3 eW4
  refine (cDecidedW LA4.refl (by simp) (by decide) ka kb n).mono ?_
  rintro e W5 ⟨rfl, v5, h5⟩
  have Ki5 := h5.keep _ _ _ Ki4 (by decide) (by decide)
  have B5 := B4.trans h5.low
  clear Ki4 LA4 B4
  have LA5 := h5.li
  clear h5
  go_wp2_with fail
  refine (cOnly _ _).mono ?_
  rintro e W6 ⟨rfl, hb6⟩
  obtain ⟨Kp, hbq, sq⟩ := cells1 W6 #[.int .i64 2, .int .i64 0] 49
  have B6 := B5.trans (hb6.mono B5.size)
  have T : TvAt w (W6.alloc (.cells #[.int .i64 2, .int .i64 0] 49)) W1.heap.size W6.heap.size (W1.heap.size + 1) v5 ([] ++ decT 5 ka kb n) 5 ka kb n := ⟨(Ki5.below hb6 Ki5.lt).below hbq (Ki5.below hb6 Ki5.lt).lt, Kp, (LA5.below hb6).below hbq, B6.trans (hbq.mono B6.size)⟩
  clear Ki5 B5 LA5 hb6 Kp hbq sq B6
  obtain ⟨i0, i1, i2, i3, p0, p1, xv⟩ := T.s
  go_upto_region 11 with (fail)
  generalize W6.alloc _ = W7 at *

  go_upto_region 25 with (first | (go_at_call 39; refine (cOnly _ _).mono ?_; rintro e w1 ⟨rfl, hb1⟩; replace T := T.below hb1; clear hb1) | (go_at_call 36; refine (cRegp _ _).mono ?_; rintro e w1 ⟨rfl, hb1⟩; replace T := T.below hb1; clear hb1) | (go_at_call 40; (with_reducible refine ((T.alloc _).put (by have := decT_len 5 ka kb n; simp; omega) _ _ (FromAt.new2 _ _ _ _ _)).mono ?_); clear T; rintro e w1 ⟨rfl, v1, T⟩))
  replace T := T.drew
  go_region_held3 (fun w' => w'.cell? ⟨W1.heap.size, 0, none⟩ = some (.int .i64 5) ∧ w'.cell? ⟨W1.heap.size, 1, none⟩ = some (.int .i64 ka) ∧ w'.cell? ⟨W1.heap.size, 2, none⟩ = some (.int .i64 kb) ∧ w'.cell? ⟨W1.heap.size, 3, none⟩ = some (.int .i64 n) ∧ w'.cell? ⟨W6.heap.size, 0, none⟩ = some (.int .i64 2) ∧ w'.cell? ⟨W6.heap.size, 1, none⟩ = some (.int .i64 0))
    (first | exact T.s6 | exact (T.alloc _).s6)
    (first | (go_at_call 39; refine (cOnly _ _).mono ?_; rintro e w1 ⟨rfl, hb1⟩; replace T := T.below hb1; clear hb1) | (go_at_call 36; refine (cRegp _ _).mono ?_; rintro e w1 ⟨rfl, hb1⟩; replace T := T.below hb1; clear hb1) | (go_at_call 40; (with_reducible refine ((T.alloc _).put (by have := decT_len 5 ka kb n; simp; omega) _ _ (FromAt.new2 _ _ _ _ _)).mono ?_); clear T; rintro e w1 ⟨rfl, v1, T⟩))
  obtain ⟨i0, i1, i2, i3, p0, p1, xv⟩ := T.s
  go_upto_region 43 with (first | (go_at_call 39; refine (cOnly _ _).mono ?_; rintro e w1 ⟨rfl, hb1⟩; replace T := T.below hb1; clear hb1) | (go_at_call 36; refine (cRegp _ _).mono ?_; rintro e w1 ⟨rfl, hb1⟩; replace T := T.below hb1; clear hb1) | (go_at_call 40; (with_reducible refine ((T.alloc _).put (by have := decT_len 5 ka kb n; simp; omega) _ _ (FromAt.new1 _ _ _)).mono ?_); clear T; rintro e w1 ⟨rfl, v1, T⟩))
  clear i0 i1 i2 i3 p0 p1 xv
  obtain ⟨i0, i1, i2, i3, p0, p1, xv⟩ := T.s
  have xv' := xv
  go_wp2_with fail
  go_ret
  exact ⟨_, rfl, by simpa [touchW, decT, movT, endT, keptL] using T.li.t, T.low⟩
set_option maxRecDepth 100000 in
set_option maxHeartbeats 2000000 in
theorem cTouch6 {s : St} (hs : s.ok) {x : Int} (hok : okL x = true) (h0 : 0 ≤ x) (h1 : x < 4294967296) {n : Int} {ka kb : Int} (e1 : dOp x = 6) (e2 : dA x = ka) (e3 : dB x = kb) (e4 : dN x = n)
    {pk : Wt} (hpl : planL s x = pk) (hk : (pk.kind == 1) = false) (w : World) :
    Calls Try.prog 18 #[.agg (stA s), .int .u32 x] w fun e w' => ∃ v', e = .returned v' ∧ TsAt w' w.heap.size v' (touchW 6 ka kb n) ∧ Below w.heap.size w w' := by
  obtain ⟨K1, Hb, hsz⟩ := cells1 w (stA s) 25
  have hi := hi25 hs.len
  have hP := fun W => cPlan hs h0 h1 W
  rw [hpl] at hP
  clear hpl
  have HP := Lib.hid hP
  clear hP
  go_enter Try.func18, Try.ntmps18
  go_wp2_with fail
  generalize w.alloc _ = W at *
  have A : StAt W w.heap.size s := ⟨K1, hs.len⟩
  refine (cDecode_in hok h0 h1 W).mono ?_
  rintro e W1 ⟨rfl, hb1⟩
  rw [e1, e2, e3, e4]
  clear hok h0 h1 e1 e2 e3 e4
  obtain ⟨Ki, Kx, hb2, s2⟩ := cells2 W1 (instA 6 ka kb n) #[.slice none 0 0] 54 73
  go_upto_region 3 with (fail)
  unfold instA at Ki Kx hb2 s2
  generalize (W1.alloc _).alloc _ = W2 at *
  have hs1 := Hb.size
  have B1 := Hb.trans (hb1.mono Hb.size)
  have B2 := B1.trans (hb2.mono B1.size)
  have A2 := (A.below hb1 A.lt).below hb2 (A.below hb1 A.lt).lt
  have A2' : W2.heap[w.heap.size]? = some (.cells (stA s) 25 (0, 0)) := A2.row
  have LA : LiAt W2 w.heap.size (W1.heap.size + 1) (.slice none 0 0) [] := ⟨Kx, ⟨[], World.ownsRow_nil _ _ _ _, .nil⟩, by have := B1.size; omega⟩
  clear A hb1 K1 Hb hb2 Kx B1 hsz hs1
  go_wp2_with (with_reducible refine wpList_load_row rfl 25 (.tmp 2) rfl w.heap.size rfl 25 (stA s) (0, 0) _ A2' Try.underlying25 rfl hi ?_)
  refine (HP.out W2).mono ?_
  rintro e W3 ⟨rfl, hb3⟩
  obtain ⟨KP, hbp, sp⟩ := cells1 W3 (wtA pk) 42
  have B4 := (B2.trans (hb3.mono B2.size)).trans (hbp.mono (B2.trans (hb3.mono B2.size)).size)
  have Ki4 := (Ki.below hb3 Ki.lt).below hbp (Ki.below hb3 Ki.lt).lt
  have LA4 := (LA.below hb3).below hbp
  unfold wtA at KP hbp B4 Ki4 LA4
  obtain ⟨W4, eW4⟩ : ∃ W4, W3.alloc (.cells #[.int .i64 pk.kind, .int .u32 pk.cause, .int .u32 pk.addr, .int .i64 pk.width, .int .i64 pk.port, .int .u32 pk.value] 42) = W4 := ⟨_, rfl⟩
  rw [eW4] at KP B4 Ki4 LA4
  have c0 := (KP.cell 0).trans (show _ = some (Value.int .i64 pk.kind) from rfl)
  have i0 := (Ki4.cell 0).trans (show _ = some (Value.int .i64 6) from rfl)
  have i1 := (Ki4.cell 1).trans (show _ = some (Value.int .i64 ka) from rfl)
  have i2 := (Ki4.cell 2).trans (show _ = some (Value.int .i64 kb) from rfl)
  have i3 := (Ki4.cell 3).trans (show _ = some (Value.int .i64 n) from rfl)
  clear A2 A2' B2 hb3 KP hbp sp Ki LA
  go_wp2_with fail
  clear c0 i0 i1 i2 i3 eW4
  refine (cDecidedW LA4.refl (by simp) (by decide) ka kb n).mono ?_
  rintro e W5 ⟨rfl, v5, h5⟩
  have Ki5 := h5.keep _ _ _ Ki4 (by decide) (by decide)
  have B5 := B4.trans h5.low
  clear Ki4 LA4 B4
  have LA5 := h5.li
  clear h5
  go_wp2_with fail
  refine (cOnly _ _).mono ?_
  rintro e W6 ⟨rfl, hb6⟩
  obtain ⟨Kp, hbq, sq⟩ := cells1 W6 #[.int .i64 2, .int .i64 0] 49
  have B6 := B5.trans (hb6.mono B5.size)
  have T : TvAt w (W6.alloc (.cells #[.int .i64 2, .int .i64 0] 49)) W1.heap.size W6.heap.size (W1.heap.size + 1) v5 ([] ++ decT 6 ka kb n) 6 ka kb n := ⟨(Ki5.below hb6 Ki5.lt).below hbq (Ki5.below hb6 Ki5.lt).lt, Kp, (LA5.below hb6).below hbq, B6.trans (hbq.mono B6.size)⟩
  clear Ki5 B5 LA5 hb6 Kp hbq sq B6
  obtain ⟨i0, i1, i2, i3, p0, p1, xv⟩ := T.s
  go_upto_region 11 with (fail)
  generalize W6.alloc _ = W7 at *

  go_upto_region 25 with (first | (go_at_call 39; refine (cOnly _ _).mono ?_; rintro e w1 ⟨rfl, hb1⟩; replace T := T.below hb1; clear hb1) | (go_at_call 36; refine (cRegp _ _).mono ?_; rintro e w1 ⟨rfl, hb1⟩; replace T := T.below hb1; clear hb1) | (go_at_call 40; (with_reducible refine ((T.alloc _).put (by have := decT_len 6 ka kb n; simp; omega) _ _ (FromAt.new2 _ _ _ _ _)).mono ?_); clear T; rintro e w1 ⟨rfl, v1, T⟩))
  replace T := T.drew
  go_region_held3 (fun w' => w'.cell? ⟨W1.heap.size, 0, none⟩ = some (.int .i64 6) ∧ w'.cell? ⟨W1.heap.size, 1, none⟩ = some (.int .i64 ka) ∧ w'.cell? ⟨W1.heap.size, 2, none⟩ = some (.int .i64 kb) ∧ w'.cell? ⟨W1.heap.size, 3, none⟩ = some (.int .i64 n) ∧ w'.cell? ⟨W6.heap.size, 0, none⟩ = some (.int .i64 2) ∧ w'.cell? ⟨W6.heap.size, 1, none⟩ = some (.int .i64 0))
    (first | exact T.s6 | exact (T.alloc _).s6)
    (first | (go_at_call 39; refine (cOnly _ _).mono ?_; rintro e w1 ⟨rfl, hb1⟩; replace T := T.below hb1; clear hb1) | (go_at_call 36; refine (cRegp _ _).mono ?_; rintro e w1 ⟨rfl, hb1⟩; replace T := T.below hb1; clear hb1) | (go_at_call 40; (with_reducible refine ((T.alloc _).put (by have := decT_len 6 ka kb n; simp; omega) _ _ (FromAt.new2 _ _ _ _ _)).mono ?_); clear T; rintro e w1 ⟨rfl, v1, T⟩))
  obtain ⟨i0, i1, i2, i3, p0, p1, xv⟩ := T.s
  go_upto_region 43 with (first | (go_at_call 39; refine (cOnly _ _).mono ?_; rintro e w1 ⟨rfl, hb1⟩; replace T := T.below hb1; clear hb1) | (go_at_call 36; refine (cRegp _ _).mono ?_; rintro e w1 ⟨rfl, hb1⟩; replace T := T.below hb1; clear hb1) | (go_at_call 40; (with_reducible refine ((T.alloc _).put (by have := decT_len 6 ka kb n; simp; omega) _ _ (FromAt.new1 _ _ _)).mono ?_); clear T; rintro e w1 ⟨rfl, v1, T⟩))
  clear i0 i1 i2 i3 p0 p1 xv
  obtain ⟨i0, i1, i2, i3, p0, p1, xv⟩ := T.s
  have xv' := xv
  go_wp2_with fail
  go_ret
  exact ⟨_, rfl, by simpa [touchW, decT, movT, endT, keptL] using T.li.t, T.low⟩
set_option maxRecDepth 100000 in
set_option maxHeartbeats 2000000 in
theorem cTouch7 {s : St} (hs : s.ok) {x : Int} (hok : okL x = true) (h0 : 0 ≤ x) (h1 : x < 4294967296) {n : Int} {ka kb : Int} (e1 : dOp x = 7) (e2 : dA x = ka) (e3 : dB x = kb) (e4 : dN x = n)
    {pk : Wt} (hpl : planL s x = pk) (hk : (pk.kind == 1) = false) (w : World) :
    Calls Try.prog 18 #[.agg (stA s), .int .u32 x] w fun e w' => ∃ v', e = .returned v' ∧ TsAt w' w.heap.size v' (touchW 7 ka kb n) ∧ Below w.heap.size w w' := by
  obtain ⟨K1, Hb, hsz⟩ := cells1 w (stA s) 25
  have hi := hi25 hs.len
  have hP := fun W => cPlan hs h0 h1 W
  rw [hpl] at hP
  clear hpl
  have HP := Lib.hid hP
  clear hP
  go_enter Try.func18, Try.ntmps18
  go_wp2_with fail
  generalize w.alloc _ = W at *
  have A : StAt W w.heap.size s := ⟨K1, hs.len⟩
  refine (cDecode_in hok h0 h1 W).mono ?_
  rintro e W1 ⟨rfl, hb1⟩
  rw [e1, e2, e3, e4]
  clear hok h0 h1 e1 e2 e3 e4
  obtain ⟨Ki, Kx, hb2, s2⟩ := cells2 W1 (instA 7 ka kb n) #[.slice none 0 0] 54 73
  go_upto_region 3 with (fail)
  unfold instA at Ki Kx hb2 s2
  generalize (W1.alloc _).alloc _ = W2 at *
  have hs1 := Hb.size
  have B1 := Hb.trans (hb1.mono Hb.size)
  have B2 := B1.trans (hb2.mono B1.size)
  have A2 := (A.below hb1 A.lt).below hb2 (A.below hb1 A.lt).lt
  have A2' : W2.heap[w.heap.size]? = some (.cells (stA s) 25 (0, 0)) := A2.row
  have LA : LiAt W2 w.heap.size (W1.heap.size + 1) (.slice none 0 0) [] := ⟨Kx, ⟨[], World.ownsRow_nil _ _ _ _, .nil⟩, by have := B1.size; omega⟩
  clear A hb1 K1 Hb hb2 Kx B1 hsz hs1
  go_wp2_with (with_reducible refine wpList_load_row rfl 25 (.tmp 2) rfl w.heap.size rfl 25 (stA s) (0, 0) _ A2' Try.underlying25 rfl hi ?_)
  refine (HP.out W2).mono ?_
  rintro e W3 ⟨rfl, hb3⟩
  obtain ⟨KP, hbp, sp⟩ := cells1 W3 (wtA pk) 42
  have B4 := (B2.trans (hb3.mono B2.size)).trans (hbp.mono (B2.trans (hb3.mono B2.size)).size)
  have Ki4 := (Ki.below hb3 Ki.lt).below hbp (Ki.below hb3 Ki.lt).lt
  have LA4 := (LA.below hb3).below hbp
  unfold wtA at KP hbp B4 Ki4 LA4
  obtain ⟨W4, eW4⟩ : ∃ W4, W3.alloc (.cells #[.int .i64 pk.kind, .int .u32 pk.cause, .int .u32 pk.addr, .int .i64 pk.width, .int .i64 pk.port, .int .u32 pk.value] 42) = W4 := ⟨_, rfl⟩
  rw [eW4] at KP B4 Ki4 LA4
  have c0 := (KP.cell 0).trans (show _ = some (Value.int .i64 pk.kind) from rfl)
  have i0 := (Ki4.cell 0).trans (show _ = some (Value.int .i64 7) from rfl)
  have i1 := (Ki4.cell 1).trans (show _ = some (Value.int .i64 ka) from rfl)
  have i2 := (Ki4.cell 2).trans (show _ = some (Value.int .i64 kb) from rfl)
  have i3 := (Ki4.cell 3).trans (show _ = some (Value.int .i64 n) from rfl)
  clear A2 A2' B2 hb3 KP hbp sp Ki LA
  go_wp2_with fail
  clear c0 i0 i1 i2 i3 eW4
  refine (cDecidedW LA4.refl (by simp) (by decide) ka kb n).mono ?_
  rintro e W5 ⟨rfl, v5, h5⟩
  have Ki5 := h5.keep _ _ _ Ki4 (by decide) (by decide)
  have B5 := B4.trans h5.low
  clear Ki4 LA4 B4
  have LA5 := h5.li
  clear h5
  go_wp2_with fail
  refine (cOnly _ _).mono ?_
  rintro e W6 ⟨rfl, hb6⟩
  obtain ⟨Kp, hbq, sq⟩ := cells1 W6 #[.int .i64 2, .int .i64 0] 49
  have B6 := B5.trans (hb6.mono B5.size)
  have T : TvAt w (W6.alloc (.cells #[.int .i64 2, .int .i64 0] 49)) W1.heap.size W6.heap.size (W1.heap.size + 1) v5 ([] ++ decT 7 ka kb n) 7 ka kb n := ⟨(Ki5.below hb6 Ki5.lt).below hbq (Ki5.below hb6 Ki5.lt).lt, Kp, (LA5.below hb6).below hbq, B6.trans (hbq.mono B6.size)⟩
  clear Ki5 B5 LA5 hb6 Kp hbq sq B6
  obtain ⟨i0, i1, i2, i3, p0, p1, xv⟩ := T.s
  go_upto_region 11 with (fail)
  generalize W6.alloc _ = W7 at *

  go_upto_region 25 with (first | (go_at_call 39; refine (cOnly _ _).mono ?_; rintro e w1 ⟨rfl, hb1⟩; replace T := T.below hb1; clear hb1) | (go_at_call 36; refine (cRegp _ _).mono ?_; rintro e w1 ⟨rfl, hb1⟩; replace T := T.below hb1; clear hb1) | (go_at_call 40; (with_reducible refine ((T.alloc _).put (by have := decT_len 7 ka kb n; simp; omega) _ _ (FromAt.new2 _ _ _ _ _)).mono ?_); clear T; rintro e w1 ⟨rfl, v1, T⟩))
  replace T := T.drew
  go_region_held3 (fun w' => w'.cell? ⟨W1.heap.size, 0, none⟩ = some (.int .i64 7) ∧ w'.cell? ⟨W1.heap.size, 1, none⟩ = some (.int .i64 ka) ∧ w'.cell? ⟨W1.heap.size, 2, none⟩ = some (.int .i64 kb) ∧ w'.cell? ⟨W1.heap.size, 3, none⟩ = some (.int .i64 n) ∧ w'.cell? ⟨W6.heap.size, 0, none⟩ = some (.int .i64 2) ∧ w'.cell? ⟨W6.heap.size, 1, none⟩ = some (.int .i64 0))
    (first | exact T.s6 | exact (T.alloc _).s6)
    (first | (go_at_call 39; refine (cOnly _ _).mono ?_; rintro e w1 ⟨rfl, hb1⟩; replace T := T.below hb1; clear hb1) | (go_at_call 36; refine (cRegp _ _).mono ?_; rintro e w1 ⟨rfl, hb1⟩; replace T := T.below hb1; clear hb1) | (go_at_call 40; (with_reducible refine ((T.alloc _).put (by have := decT_len 7 ka kb n; simp; omega) _ _ (FromAt.new2 _ _ _ _ _)).mono ?_); clear T; rintro e w1 ⟨rfl, v1, T⟩))
  obtain ⟨i0, i1, i2, i3, p0, p1, xv⟩ := T.s
  go_upto_region 43 with (first | (go_at_call 39; refine (cOnly _ _).mono ?_; rintro e w1 ⟨rfl, hb1⟩; replace T := T.below hb1; clear hb1) | (go_at_call 36; refine (cRegp _ _).mono ?_; rintro e w1 ⟨rfl, hb1⟩; replace T := T.below hb1; clear hb1) | (go_at_call 40; (with_reducible refine ((T.alloc _).put (by have := decT_len 7 ka kb n; simp; omega) _ _ (FromAt.new1 _ _ _)).mono ?_); clear T; rintro e w1 ⟨rfl, v1, T⟩))
  clear i0 i1 i2 i3 p0 p1 xv
  obtain ⟨i0, i1, i2, i3, p0, p1, xv⟩ := T.s
  have xv' := xv
  go_wp2_with fail
  go_ret
  exact ⟨_, rfl, by simpa [touchW, decT, movT, endT, keptL] using T.li.t, T.low⟩
set_option maxRecDepth 100000 in
set_option maxHeartbeats 2000000 in
theorem cTouch8 {s : St} (hs : s.ok) {x : Int} (hok : okL x = true) (h0 : 0 ≤ x) (h1 : x < 4294967296) {n : Int} {ka kb : Int} (e1 : dOp x = 8) (e2 : dA x = ka) (e3 : dB x = kb) (e4 : dN x = n)
    {pk : Wt} (hpl : planL s x = pk) (hk : (pk.kind == 1) = false) (w : World) :
    Calls Try.prog 18 #[.agg (stA s), .int .u32 x] w fun e w' => ∃ v', e = .returned v' ∧ TsAt w' w.heap.size v' (touchW 8 ka kb n) ∧ Below w.heap.size w w' := by
  obtain ⟨K1, Hb, hsz⟩ := cells1 w (stA s) 25
  have hi := hi25 hs.len
  have hP := fun W => cPlan hs h0 h1 W
  rw [hpl] at hP
  clear hpl
  have HP := Lib.hid hP
  clear hP
  go_enter Try.func18, Try.ntmps18
  go_wp2_with fail
  generalize w.alloc _ = W at *
  have A : StAt W w.heap.size s := ⟨K1, hs.len⟩
  refine (cDecode_in hok h0 h1 W).mono ?_
  rintro e W1 ⟨rfl, hb1⟩
  rw [e1, e2, e3, e4]
  clear hok h0 h1 e1 e2 e3 e4
  obtain ⟨Ki, Kx, hb2, s2⟩ := cells2 W1 (instA 8 ka kb n) #[.slice none 0 0] 54 73
  go_upto_region 3 with (fail)
  unfold instA at Ki Kx hb2 s2
  generalize (W1.alloc _).alloc _ = W2 at *
  have hs1 := Hb.size
  have B1 := Hb.trans (hb1.mono Hb.size)
  have B2 := B1.trans (hb2.mono B1.size)
  have A2 := (A.below hb1 A.lt).below hb2 (A.below hb1 A.lt).lt
  have A2' : W2.heap[w.heap.size]? = some (.cells (stA s) 25 (0, 0)) := A2.row
  have LA : LiAt W2 w.heap.size (W1.heap.size + 1) (.slice none 0 0) [] := ⟨Kx, ⟨[], World.ownsRow_nil _ _ _ _, .nil⟩, by have := B1.size; omega⟩
  clear A hb1 K1 Hb hb2 Kx B1 hsz hs1
  go_wp2_with (with_reducible refine wpList_load_row rfl 25 (.tmp 2) rfl w.heap.size rfl 25 (stA s) (0, 0) _ A2' Try.underlying25 rfl hi ?_)
  refine (HP.out W2).mono ?_
  rintro e W3 ⟨rfl, hb3⟩
  obtain ⟨KP, hbp, sp⟩ := cells1 W3 (wtA pk) 42
  have B4 := (B2.trans (hb3.mono B2.size)).trans (hbp.mono (B2.trans (hb3.mono B2.size)).size)
  have Ki4 := (Ki.below hb3 Ki.lt).below hbp (Ki.below hb3 Ki.lt).lt
  have LA4 := (LA.below hb3).below hbp
  unfold wtA at KP hbp B4 Ki4 LA4
  obtain ⟨W4, eW4⟩ : ∃ W4, W3.alloc (.cells #[.int .i64 pk.kind, .int .u32 pk.cause, .int .u32 pk.addr, .int .i64 pk.width, .int .i64 pk.port, .int .u32 pk.value] 42) = W4 := ⟨_, rfl⟩
  rw [eW4] at KP B4 Ki4 LA4
  have c0 := (KP.cell 0).trans (show _ = some (Value.int .i64 pk.kind) from rfl)
  have i0 := (Ki4.cell 0).trans (show _ = some (Value.int .i64 8) from rfl)
  have i1 := (Ki4.cell 1).trans (show _ = some (Value.int .i64 ka) from rfl)
  have i2 := (Ki4.cell 2).trans (show _ = some (Value.int .i64 kb) from rfl)
  have i3 := (Ki4.cell 3).trans (show _ = some (Value.int .i64 n) from rfl)
  clear A2 A2' B2 hb3 KP hbp sp Ki LA
  go_wp2_with fail
  clear c0 i0 i1 i2 i3 eW4
  refine (cDecidedW LA4.refl (by simp) (by decide) ka kb n).mono ?_
  rintro e W5 ⟨rfl, v5, h5⟩
  have Ki5 := h5.keep _ _ _ Ki4 (by decide) (by decide)
  have B5 := B4.trans h5.low
  clear Ki4 LA4 B4
  have LA5 := h5.li
  clear h5
  go_wp2_with fail
  refine (cOnly _ _).mono ?_
  rintro e W6 ⟨rfl, hb6⟩
  obtain ⟨Kp, hbq, sq⟩ := cells1 W6 #[.int .i64 2, .int .i64 0] 49
  have B6 := B5.trans (hb6.mono B5.size)
  have T : TvAt w (W6.alloc (.cells #[.int .i64 2, .int .i64 0] 49)) W1.heap.size W6.heap.size (W1.heap.size + 1) v5 ([] ++ decT 8 ka kb n) 8 ka kb n := ⟨(Ki5.below hb6 Ki5.lt).below hbq (Ki5.below hb6 Ki5.lt).lt, Kp, (LA5.below hb6).below hbq, B6.trans (hbq.mono B6.size)⟩
  clear Ki5 B5 LA5 hb6 Kp hbq sq B6
  obtain ⟨i0, i1, i2, i3, p0, p1, xv⟩ := T.s
  go_upto_region 11 with (fail)
  generalize W6.alloc _ = W7 at *

  go_upto_region 25 with (first | (go_at_call 39; refine (cOnly _ _).mono ?_; rintro e w1 ⟨rfl, hb1⟩; replace T := T.below hb1; clear hb1) | (go_at_call 36; refine (cRegp _ _).mono ?_; rintro e w1 ⟨rfl, hb1⟩; replace T := T.below hb1; clear hb1) | (go_at_call 40; (with_reducible refine ((T.alloc _).put (by have := decT_len 8 ka kb n; simp; omega) _ _ (FromAt.new2 _ _ _ _ _)).mono ?_); clear T; rintro e w1 ⟨rfl, v1, T⟩))
  replace T := T.drew
  go_region_held3 (fun w' => w'.cell? ⟨W1.heap.size, 0, none⟩ = some (.int .i64 8) ∧ w'.cell? ⟨W1.heap.size, 1, none⟩ = some (.int .i64 ka) ∧ w'.cell? ⟨W1.heap.size, 2, none⟩ = some (.int .i64 kb) ∧ w'.cell? ⟨W1.heap.size, 3, none⟩ = some (.int .i64 n) ∧ w'.cell? ⟨W6.heap.size, 0, none⟩ = some (.int .i64 2) ∧ w'.cell? ⟨W6.heap.size, 1, none⟩ = some (.int .i64 0))
    (first | exact T.s6 | exact (T.alloc _).s6)
    (first | (go_at_call 39; refine (cOnly _ _).mono ?_; rintro e w1 ⟨rfl, hb1⟩; replace T := T.below hb1; clear hb1) | (go_at_call 36; refine (cRegp _ _).mono ?_; rintro e w1 ⟨rfl, hb1⟩; replace T := T.below hb1; clear hb1) | (go_at_call 40; (with_reducible refine ((T.alloc _).put (by have := decT_len 8 ka kb n; simp; omega) _ _ (FromAt.new2 _ _ _ _ _)).mono ?_); clear T; rintro e w1 ⟨rfl, v1, T⟩))
  obtain ⟨i0, i1, i2, i3, p0, p1, xv⟩ := T.s
  go_upto_region 43 with (first | (go_at_call 39; refine (cOnly _ _).mono ?_; rintro e w1 ⟨rfl, hb1⟩; replace T := T.below hb1; clear hb1) | (go_at_call 36; refine (cRegp _ _).mono ?_; rintro e w1 ⟨rfl, hb1⟩; replace T := T.below hb1; clear hb1) | (go_at_call 40; (with_reducible refine ((T.alloc _).put (by have := decT_len 8 ka kb n; simp; omega) _ _ (FromAt.new1 _ _ _)).mono ?_); clear T; rintro e w1 ⟨rfl, v1, T⟩))
  clear i0 i1 i2 i3 p0 p1 xv
  obtain ⟨i0, i1, i2, i3, p0, p1, xv⟩ := T.s
  have xv' := xv
  go_wp2_with fail
  go_ret
  exact ⟨_, rfl, by simpa [touchW, decT, movT, endT, keptL] using T.li.t, T.low⟩
end Go.Proofs.Ytmpnlhfnemidpaa
