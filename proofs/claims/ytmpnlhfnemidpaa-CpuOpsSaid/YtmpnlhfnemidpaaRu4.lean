/- The document's Touches, by groups of Ops. -/
import Derived.Test.YtmpnlhfnemidpaaRu0
namespace Go.Proofs.Ytmpnlhfnemidpaa
open Go.RowKit Go.Shelf
set_option maxRecDepth 100000 in
set_option maxHeartbeats 16000000 in
theorem rTouch_g2 {s : St} (hs : s.ok) {x : Int} {op ka kb n : Int} {bk : Bool} (hD : ∀ W, Calls Try.prog 57 #[.int .u32 x] W fun e w' => e = .returned (.tuple #[.agg (instA op ka kb n), .bool bk]) ∧ Below W.heap.size W w')
    {pk : Wt} (hP : ∀ W, Calls Try.prog 29 #[.agg (stA s), .int .u32 x] W fun e w' => e = .returned (.agg (wtA pk)) ∧ Below W.heap.size W w') (hk : (pk.kind == 1) = false) (hop : op = 17 ∨ op = 18 ∨ op = 19 ∨ op = 20 ∨ op = 21 ∨ op = 22 ∨ op = 23 ∨ op = 28) (w : World) :
    Calls Try.prog 32 #[.agg (stA s), .int .u32 x] w fun e w' => ∃ v', e = .returned v' ∧ TsAt w' w.heap.size v' (touchW op ka kb n) ∧ Below w.heap.size w w' := by
  obtain ⟨K1, Hb, hsz⟩ := cells1 w (stA s) 25
  have hi := hi25 hs.len
  have HP := Lib.hid hP
  have HD := Lib.hid hD
  clear hP hD
  go_enter Try.func32, Try.ntmps32
  go_upto_region 1 with (fail)
  generalize w.alloc _ = W at *
  have A : StAt W w.heap.size s := ⟨K1, hs.len⟩
  have A' : W.heap[w.heap.size]? = some (.cells (stA s) 25 (0, 0)) := A.row
  go_wp2_with (with_reducible refine wpList_load_row rfl 25 (.tmp 2) rfl w.heap.size rfl 25 (stA s) (0, 0) _ A' Try.underlying25 rfl hi ?_)
  refine (HP.out W).mono ?_
  rintro e W1 ⟨rfl, hb1⟩
  obtain ⟨KP, hbp, sp⟩ := cells1 W1 (wtA pk) 42
  have B1 := Hb.trans (hb1.mono Hb.size)
  have B2 := B1.trans (hbp.mono B1.size)
  go_wp2_with fail
  unfold wtA at KP hbp B2
  generalize W1.alloc _ = W2 at *
  refine (HD.out W2).mono ?_
  rintro e W3 ⟨rfl, hb3⟩
  obtain ⟨Ki, hbi, si⟩ := cells1 W3 (instA op ka kb n) 54
  have B3 := B2.trans (hb3.mono B2.size)
  have B4 := B3.trans (hbi.mono B3.size)
  have KP4 := (KP.below hb3 KP.lt).below hbi (KP.below hb3 KP.lt).lt
  go_upto_region 3 with (fail)
  unfold instA at Ki hbi B4 KP4
  generalize W3.alloc _ = W4 at *
  clear A A' hb1 K1 Hb hbp KP hb3 hbi B1 B2 B3 sp si hsz
  go_cut [8, 9] (fun s8 s9 wx => ∃ Ba Bb : Nat, s8 = .pointer (some ⟨Ba, 0, none⟩) ∧ s9 = .pointer (some ⟨Bb, 0, none⟩) ∧ Cells wx Ba 49 #[.int .i64 1, .int .i64 ka] ∧ Cells wx Bb 49 #[.int .i64 1, .int .i64 kb] ∧ Below W4.heap.size W4 wx)
  case first =>
    go_region_held3 (fun w' => w'.cell? ⟨W3.heap.size, 1, none⟩ = some (.int .i64 ka) ∧ w'.cell? ⟨W3.heap.size, 2, none⟩ = some (.int .i64 kb))
      (first | with_reducible exact kS Ki.drew | with_reducible exact kS (Ki.alloc _).drew | with_reducible exact kS ((Ki.alloc _).alloc _).drew | with_reducible exact kS (((Ki.alloc _).alloc _).alloc _).drew | with_reducible exact kS ((((Ki.alloc _).alloc _).alloc _).alloc _).drew)
      (first | (go_at_call 65; refine (rRegX _ _).mono ?_; rintro e w1 ⟨rfl, rfl⟩))
    all_goals
      go_wp2_with fail
      go_meet
      obtain ⟨k0, k1, k2, k3, hb⟩ := alloc4 W4 _ _ _ _
      refine ⟨_, _, rfl, rfl, ?_, ?_, hb⟩ <;> first | exact k0 | exact k1 | exact k2 | exact k3
  case rest =>
  obtain ⟨Ba, Bb, rfl, rfl, Ka, Kb, hb5⟩ := hcut
  have KP5 := KP4.below hb5 KP4.lt
  have T : RtAt w wc W3.heap.size Ba Bb 0 false (.slice none 0 0) [] op ka kb n := ⟨Ki.below hb5 Ki.lt, Ka, Kb, fun q => absurd q (by decide), ⟨[], World.ownsRow_nil _ _ _ _, .nil⟩, B4.trans (hb5.mono B4.size)⟩
  have c0 := (KP5.cell 0).trans (show _ = some (Value.int .i64 pk.kind) from rfl)
  have c1 := (KP5.cell 1).trans (show _ = some (Value.int .u32 pk.cause) from rfl)
  clear KP4 KP5 Ki B4 Ka Kb hb5
  obtain ⟨f0, f1, f2, f3, f4, f5⟩ := T.s

  rcases hop with rfl | rfl | rfl | rfl | rfl | rfl | rfl | rfl
  · go_upto_region 19 with (first | (go_at_call 66; (with_reducible refine (rDecideF (T.alloc _) (FromAt.new1 _ _ _)).mono ?_); clear T; rintro e w1 ⟨rfl, T, F⟩) | (go_at_call 66; (with_reducible refine (rDecideF (T.alloc _) (FromAt.new2 _ _ _ _ _)).mono ?_); clear T; rintro e w1 ⟨rfl, T, F⟩) | (go_at_call 68; refine (rOnly _ _).mono ?_; rintro e w1 ⟨rfl, hb1⟩; replace T := T.below hb1; clear hb1) | (at_builtin; refine rt_list rfl _ _ rfl T (by rfl) F (by rfl) (by simp) ?_; intro v1 w1 T1; clear T F f0 f1 f2 f3 f4 f5; have T := T1; clear T1; obtain ⟨f0, f1, f2, f3, f4, f5⟩ := T.s))
    clear f0 f1 f2 f3 f4 f5
    replace T := T.kept
    generalize World.alloc _ (Obj.cells #[Value.int .i64 3, Value.int .i64 4, Value.int .i64 5, Value.int .i64 6, Value.int .i64 7, Value.int .i64 2] _) = W9 at *
    obtain ⟨f0, f1, f2, f3, f4, f5⟩ := T.s
    go_wp2_with (first | (go_at_call 68; refine (rOnly _ _).mono ?_; rintro e w1 ⟨rfl, hb1⟩; replace T := T.below hb1; clear hb1) | (go_at_call 69; (with_reducible refine (rMoveF (T.alloc _) (FromAt.new1 _ _ _) _ _).mono ?_); clear T; rintro e w1 ⟨rfl, T, F⟩) | (go_at_call 69; (with_reducible refine (rMoveF (T.alloc _) (FromAt.new2 _ _ _ _ _) _ _).mono ?_); clear T; rintro e w1 ⟨rfl, T, F⟩) | (go_at_call 69; (with_reducible refine (rMoveF T (FromAt.nil _) _ _).mono ?_); clear T; rintro e w1 ⟨rfl, T, F⟩) | (go_at_call 66; (with_reducible refine (rDecideF (T.alloc _) (FromAt.new1 _ _ _)).mono ?_); clear T; rintro e w1 ⟨rfl, T, F⟩) | (go_at_call 66; (with_reducible refine (rDecideF (T.alloc _) (FromAt.new2 _ _ _ _ _)).mono ?_); clear T; rintro e w1 ⟨rfl, T, F⟩) | (at_builtin; refine rt_list rfl _ _ rfl T (by rfl) F (by rfl) (by simp) ?_; intro v1 w1 T1; clear T F f0 f1 f2 f3 f4 f5; have T := T1; clear T1; obtain ⟨f0, f1, f2, f3, f4, f5⟩ := T.s))
    go_ret
    exact ⟨_, rfl, by simpa [touchW, decT, movT, endT, keptL] using T.t, T.low⟩
  · go_upto_region 19 with (first | (go_at_call 66; (with_reducible refine (rDecideF (T.alloc _) (FromAt.new1 _ _ _)).mono ?_); clear T; rintro e w1 ⟨rfl, T, F⟩) | (go_at_call 66; (with_reducible refine (rDecideF (T.alloc _) (FromAt.new2 _ _ _ _ _)).mono ?_); clear T; rintro e w1 ⟨rfl, T, F⟩) | (go_at_call 68; refine (rOnly _ _).mono ?_; rintro e w1 ⟨rfl, hb1⟩; replace T := T.below hb1; clear hb1) | (at_builtin; refine rt_list rfl _ _ rfl T (by rfl) F (by rfl) (by simp) ?_; intro v1 w1 T1; clear T F f0 f1 f2 f3 f4 f5; have T := T1; clear T1; obtain ⟨f0, f1, f2, f3, f4, f5⟩ := T.s))
    clear f0 f1 f2 f3 f4 f5
    replace T := T.kept
    generalize World.alloc _ (Obj.cells #[Value.int .i64 3, Value.int .i64 4, Value.int .i64 5, Value.int .i64 6, Value.int .i64 7, Value.int .i64 2] _) = W9 at *
    obtain ⟨f0, f1, f2, f3, f4, f5⟩ := T.s
    go_wp2_with (first | (go_at_call 68; refine (rOnly _ _).mono ?_; rintro e w1 ⟨rfl, hb1⟩; replace T := T.below hb1; clear hb1) | (go_at_call 69; (with_reducible refine (rMoveF (T.alloc _) (FromAt.new1 _ _ _) _ _).mono ?_); clear T; rintro e w1 ⟨rfl, T, F⟩) | (go_at_call 69; (with_reducible refine (rMoveF (T.alloc _) (FromAt.new2 _ _ _ _ _) _ _).mono ?_); clear T; rintro e w1 ⟨rfl, T, F⟩) | (go_at_call 69; (with_reducible refine (rMoveF T (FromAt.nil _) _ _).mono ?_); clear T; rintro e w1 ⟨rfl, T, F⟩) | (go_at_call 66; (with_reducible refine (rDecideF (T.alloc _) (FromAt.new1 _ _ _)).mono ?_); clear T; rintro e w1 ⟨rfl, T, F⟩) | (go_at_call 66; (with_reducible refine (rDecideF (T.alloc _) (FromAt.new2 _ _ _ _ _)).mono ?_); clear T; rintro e w1 ⟨rfl, T, F⟩) | (at_builtin; refine rt_list rfl _ _ rfl T (by rfl) F (by rfl) (by simp) ?_; intro v1 w1 T1; clear T F f0 f1 f2 f3 f4 f5; have T := T1; clear T1; obtain ⟨f0, f1, f2, f3, f4, f5⟩ := T.s))
    go_ret
    exact ⟨_, rfl, by simpa [touchW, decT, movT, endT, keptL] using T.t, T.low⟩
  · go_upto_region 19 with (first | (go_at_call 66; (with_reducible refine (rDecideF (T.alloc _) (FromAt.new1 _ _ _)).mono ?_); clear T; rintro e w1 ⟨rfl, T, F⟩) | (go_at_call 66; (with_reducible refine (rDecideF (T.alloc _) (FromAt.new2 _ _ _ _ _)).mono ?_); clear T; rintro e w1 ⟨rfl, T, F⟩) | (go_at_call 68; refine (rOnly _ _).mono ?_; rintro e w1 ⟨rfl, hb1⟩; replace T := T.below hb1; clear hb1) | (at_builtin; refine rt_list rfl _ _ rfl T (by rfl) F (by rfl) (by simp) ?_; intro v1 w1 T1; clear T F f0 f1 f2 f3 f4 f5; have T := T1; clear T1; obtain ⟨f0, f1, f2, f3, f4, f5⟩ := T.s))
    clear f0 f1 f2 f3 f4 f5
    replace T := T.kept
    generalize World.alloc _ (Obj.cells #[Value.int .i64 3, Value.int .i64 4, Value.int .i64 5, Value.int .i64 6, Value.int .i64 7, Value.int .i64 2] _) = W9 at *
    obtain ⟨f0, f1, f2, f3, f4, f5⟩ := T.s
    go_wp2_with (first | (go_at_call 68; refine (rOnly _ _).mono ?_; rintro e w1 ⟨rfl, hb1⟩; replace T := T.below hb1; clear hb1) | (go_at_call 69; (with_reducible refine (rMoveF (T.alloc _) (FromAt.new1 _ _ _) _ _).mono ?_); clear T; rintro e w1 ⟨rfl, T, F⟩) | (go_at_call 69; (with_reducible refine (rMoveF (T.alloc _) (FromAt.new2 _ _ _ _ _) _ _).mono ?_); clear T; rintro e w1 ⟨rfl, T, F⟩) | (go_at_call 69; (with_reducible refine (rMoveF T (FromAt.nil _) _ _).mono ?_); clear T; rintro e w1 ⟨rfl, T, F⟩) | (go_at_call 66; (with_reducible refine (rDecideF (T.alloc _) (FromAt.new1 _ _ _)).mono ?_); clear T; rintro e w1 ⟨rfl, T, F⟩) | (go_at_call 66; (with_reducible refine (rDecideF (T.alloc _) (FromAt.new2 _ _ _ _ _)).mono ?_); clear T; rintro e w1 ⟨rfl, T, F⟩) | (at_builtin; refine rt_list rfl _ _ rfl T (by rfl) F (by rfl) (by simp) ?_; intro v1 w1 T1; clear T F f0 f1 f2 f3 f4 f5; have T := T1; clear T1; obtain ⟨f0, f1, f2, f3, f4, f5⟩ := T.s))
    go_ret
    exact ⟨_, rfl, by simpa [touchW, decT, movT, endT, keptL] using T.t, T.low⟩
  · go_upto_region 19 with (first | (go_at_call 66; (with_reducible refine (rDecideF (T.alloc _) (FromAt.new1 _ _ _)).mono ?_); clear T; rintro e w1 ⟨rfl, T, F⟩) | (go_at_call 66; (with_reducible refine (rDecideF (T.alloc _) (FromAt.new2 _ _ _ _ _)).mono ?_); clear T; rintro e w1 ⟨rfl, T, F⟩) | (go_at_call 68; refine (rOnly _ _).mono ?_; rintro e w1 ⟨rfl, hb1⟩; replace T := T.below hb1; clear hb1) | (at_builtin; refine rt_list rfl _ _ rfl T (by rfl) F (by rfl) (by simp) ?_; intro v1 w1 T1; clear T F f0 f1 f2 f3 f4 f5; have T := T1; clear T1; obtain ⟨f0, f1, f2, f3, f4, f5⟩ := T.s))
    clear f0 f1 f2 f3 f4 f5
    replace T := T.kept
    generalize World.alloc _ (Obj.cells #[Value.int .i64 3, Value.int .i64 4, Value.int .i64 5, Value.int .i64 6, Value.int .i64 7, Value.int .i64 2] _) = W9 at *
    obtain ⟨f0, f1, f2, f3, f4, f5⟩ := T.s
    go_upto_region 26 with (first | (at_builtin; refine rt_list rfl _ _ rfl T (by rfl) F (by rfl) (by simp) ?_; intro v1 w1 T1; clear T F f0 f1 f2 f3 f4 f5; have T := T1; clear T1; obtain ⟨f0, f1, f2, f3, f4, f5⟩ := T.s))
    replace T := T.drew
    go_region_held3 (fun w' => w'.cell? ⟨W3.heap.size, 0, none⟩ = some (.int .i64 20) ∧ w'.cell? ⟨W3.heap.size, 3, none⟩ = some (.int .i64 n) ∧ w'.cell? ⟨Ba, 0, none⟩ = some (.int .i64 1) ∧ w'.cell? ⟨Ba, 1, none⟩ = some (.int .i64 ka) ∧ w'.cell? ⟨Bb, 0, none⟩ = some (.int .i64 1) ∧ w'.cell? ⟨Bb, 1, none⟩ = some (.int .i64 kb))
      (first | with_reducible exact T.s | with_reducible exact (T.alloc _).s | exact (T.alloc _).s)
      (first | (go_at_call 68; refine (rOnly _ _).mono ?_; rintro e w1 ⟨rfl, hb1⟩; (with_reducible replace T := T.below hb1); clear hb1) | (go_at_call 68; refine (rOnly _ _).mono ?_; rintro e w1 ⟨rfl, hb1⟩; have F := (FromAt.new1 _ _ _).keep (.of_below hb1); replace T := (T.alloc _).below hb1; clear hb1) | (go_at_call 69; (with_reducible refine (rMoveF (T.alloc _) (FromAt.new1 _ _ _) _ _).mono ?_); clear T; rintro e w1 ⟨rfl, T, F⟩) | (go_at_call 69; (with_reducible refine (rMoveF T F _ _).mono ?_); clear T F; rintro e w1 ⟨rfl, T, F⟩) | (refine rt_step rfl _ _ rfl T (by simp [Act.eval]) F (by simp [Act.eval]) (by simp) ?_; intro v1 w1 T1; clear T F; have T := T1; clear T1))
    all_goals clear f0 f1 f2 f3 f4 f5
    all_goals obtain ⟨f0, f1, f2, f3, f4, f5⟩ := T.s
    all_goals
      go_wp2_with (first | (go_at_call 68; refine (rOnly _ _).mono ?_; rintro e w1 ⟨rfl, hb1⟩; replace T := T.below hb1; clear hb1) | (go_at_call 69; (with_reducible refine (rMoveF (T.alloc _) (FromAt.new1 _ _ _) _ _).mono ?_); clear T; rintro e w1 ⟨rfl, T, F⟩) | (at_builtin; refine rt_list rfl _ _ rfl T (by rfl) F (by rfl) (by simp) ?_; intro v1 w1 T1; clear T F f0 f1 f2 f3 f4 f5; have T := T1; clear T1; obtain ⟨f0, f1, f2, f3, f4, f5⟩ := T.s))
      go_ret
      exact ⟨_, rfl, by simpa [touchW, decT, movT, endT, keptL] using T.t, T.low⟩
  · go_upto_region 19 with (first | (go_at_call 66; (with_reducible refine (rDecideF (T.alloc _) (FromAt.new1 _ _ _)).mono ?_); clear T; rintro e w1 ⟨rfl, T, F⟩) | (go_at_call 66; (with_reducible refine (rDecideF (T.alloc _) (FromAt.new2 _ _ _ _ _)).mono ?_); clear T; rintro e w1 ⟨rfl, T, F⟩) | (go_at_call 68; refine (rOnly _ _).mono ?_; rintro e w1 ⟨rfl, hb1⟩; replace T := T.below hb1; clear hb1) | (at_builtin; refine rt_list rfl _ _ rfl T (by rfl) F (by rfl) (by simp) ?_; intro v1 w1 T1; clear T F f0 f1 f2 f3 f4 f5; have T := T1; clear T1; obtain ⟨f0, f1, f2, f3, f4, f5⟩ := T.s))
    clear f0 f1 f2 f3 f4 f5
    replace T := T.kept
    generalize World.alloc _ (Obj.cells #[Value.int .i64 3, Value.int .i64 4, Value.int .i64 5, Value.int .i64 6, Value.int .i64 7, Value.int .i64 2] _) = W9 at *
    obtain ⟨f0, f1, f2, f3, f4, f5⟩ := T.s
    go_upto_region 26 with (first | (go_at_call 66; (with_reducible refine (rDecideF (T.alloc _) (FromAt.new1 _ _ _)).mono ?_); clear T; rintro e w1 ⟨rfl, T, F⟩) | (at_builtin; refine rt_list rfl _ _ rfl T (by rfl) F (by rfl) (by simp) ?_; intro v1 w1 T1; clear T F f0 f1 f2 f3 f4 f5; have T := T1; clear T1; obtain ⟨f0, f1, f2, f3, f4, f5⟩ := T.s))
    replace T := T.drew
    go_region_held3 (fun w' => w'.cell? ⟨W3.heap.size, 0, none⟩ = some (.int .i64 21) ∧ w'.cell? ⟨W3.heap.size, 3, none⟩ = some (.int .i64 n) ∧ w'.cell? ⟨Ba, 0, none⟩ = some (.int .i64 1) ∧ w'.cell? ⟨Ba, 1, none⟩ = some (.int .i64 ka) ∧ w'.cell? ⟨Bb, 0, none⟩ = some (.int .i64 1) ∧ w'.cell? ⟨Bb, 1, none⟩ = some (.int .i64 kb))
      (first | with_reducible exact T.s | with_reducible exact (T.alloc _).s | exact (T.alloc _).s)
      (first | (go_at_call 68; refine (rOnly _ _).mono ?_; rintro e w1 ⟨rfl, hb1⟩; (with_reducible replace T := T.below hb1); clear hb1) | (go_at_call 68; refine (rOnly _ _).mono ?_; rintro e w1 ⟨rfl, hb1⟩; have F := (FromAt.new1 _ _ _).keep (.of_below hb1); replace T := (T.alloc _).below hb1; clear hb1) | (go_at_call 69; (with_reducible refine (rMoveF (T.alloc _) (FromAt.new1 _ _ _) _ _).mono ?_); clear T; rintro e w1 ⟨rfl, T, F⟩) | (go_at_call 69; (with_reducible refine (rMoveF T F _ _).mono ?_); clear T F; rintro e w1 ⟨rfl, T, F⟩) | (refine rt_step rfl _ _ rfl T (by simp [Act.eval]) F (by simp [Act.eval]) (by simp) ?_; intro v1 w1 T1; clear T F; have T := T1; clear T1))
    all_goals clear f0 f1 f2 f3 f4 f5
    all_goals obtain ⟨f0, f1, f2, f3, f4, f5⟩ := T.s
    go_upto_region 35 with (first | (at_builtin; refine rt_list rfl _ _ rfl T (by rfl) F (by rfl) (by simp) ?_; intro v1 w1 T1; clear T F f0 f1 f2 f3 f4 f5; have T := T1; clear T1; obtain ⟨f0, f1, f2, f3, f4, f5⟩ := T.s))
    replace T := T.drew
    go_region_held3 (fun w' => w'.cell? ⟨W3.heap.size, 0, none⟩ = some (.int .i64 21) ∧ w'.cell? ⟨W3.heap.size, 3, none⟩ = some (.int .i64 n) ∧ w'.cell? ⟨Ba, 0, none⟩ = some (.int .i64 1) ∧ w'.cell? ⟨Ba, 1, none⟩ = some (.int .i64 ka) ∧ w'.cell? ⟨Bb, 0, none⟩ = some (.int .i64 1) ∧ w'.cell? ⟨Bb, 1, none⟩ = some (.int .i64 kb))
      (first | with_reducible exact T.s | with_reducible exact (T.alloc _).s | exact (T.alloc _).s)
      (first | (go_at_call 68; refine (rOnly _ _).mono ?_; rintro e w1 ⟨rfl, hb1⟩; (with_reducible replace T := T.below hb1); clear hb1) | (go_at_call 68; refine (rOnly _ _).mono ?_; rintro e w1 ⟨rfl, hb1⟩; have F := (FromAt.new1 _ _ _).keep (.of_below hb1); replace T := (T.alloc _).below hb1; clear hb1) | (go_at_call 69; (with_reducible refine (rMoveF (T.alloc _) (FromAt.new1 _ _ _) _ _).mono ?_); clear T; rintro e w1 ⟨rfl, T, F⟩) | (go_at_call 69; (with_reducible refine (rMoveF T F _ _).mono ?_); clear T F; rintro e w1 ⟨rfl, T, F⟩) | (refine rt_step rfl _ _ rfl T (by simp [Act.eval]) F (by simp [Act.eval]) (by simp) ?_; intro v1 w1 T1; clear T F; have T := T1; clear T1))
    all_goals clear f0 f1 f2 f3 f4 f5
    all_goals obtain ⟨f0, f1, f2, f3, f4, f5⟩ := T.s
    all_goals
      go_wp2_with fail
      go_ret
      exact ⟨_, rfl, by simpa [touchW, decT, movT, endT, keptL] using T.t, T.low⟩
  · go_upto_region 19 with (first | (go_at_call 66; (with_reducible refine (rDecideF (T.alloc _) (FromAt.new1 _ _ _)).mono ?_); clear T; rintro e w1 ⟨rfl, T, F⟩) | (go_at_call 66; (with_reducible refine (rDecideF (T.alloc _) (FromAt.new2 _ _ _ _ _)).mono ?_); clear T; rintro e w1 ⟨rfl, T, F⟩) | (go_at_call 68; refine (rOnly _ _).mono ?_; rintro e w1 ⟨rfl, hb1⟩; replace T := T.below hb1; clear hb1) | (at_builtin; refine rt_list rfl _ _ rfl T (by rfl) F (by rfl) (by simp) ?_; intro v1 w1 T1; clear T F f0 f1 f2 f3 f4 f5; have T := T1; clear T1; obtain ⟨f0, f1, f2, f3, f4, f5⟩ := T.s))
    clear f0 f1 f2 f3 f4 f5
    replace T := T.kept
    generalize World.alloc _ (Obj.cells #[Value.int .i64 3, Value.int .i64 4, Value.int .i64 5, Value.int .i64 6, Value.int .i64 7, Value.int .i64 2] _) = W9 at *
    obtain ⟨f0, f1, f2, f3, f4, f5⟩ := T.s
    go_wp2_with (first | (go_at_call 68; refine (rOnly _ _).mono ?_; rintro e w1 ⟨rfl, hb1⟩; replace T := T.below hb1; clear hb1) | (go_at_call 69; (with_reducible refine (rMoveF (T.alloc _) (FromAt.new1 _ _ _) _ _).mono ?_); clear T; rintro e w1 ⟨rfl, T, F⟩) | (go_at_call 69; (with_reducible refine (rMoveF (T.alloc _) (FromAt.new2 _ _ _ _ _) _ _).mono ?_); clear T; rintro e w1 ⟨rfl, T, F⟩) | (go_at_call 69; (with_reducible refine (rMoveF T (FromAt.nil _) _ _).mono ?_); clear T; rintro e w1 ⟨rfl, T, F⟩) | (go_at_call 66; (with_reducible refine (rDecideF (T.alloc _) (FromAt.new1 _ _ _)).mono ?_); clear T; rintro e w1 ⟨rfl, T, F⟩) | (go_at_call 66; (with_reducible refine (rDecideF (T.alloc _) (FromAt.new2 _ _ _ _ _)).mono ?_); clear T; rintro e w1 ⟨rfl, T, F⟩) | (at_builtin; refine rt_list rfl _ _ rfl T (by rfl) F (by rfl) (by simp) ?_; intro v1 w1 T1; clear T F f0 f1 f2 f3 f4 f5; have T := T1; clear T1; obtain ⟨f0, f1, f2, f3, f4, f5⟩ := T.s))
    go_ret
    exact ⟨_, rfl, by simpa [touchW, decT, movT, endT, keptL] using T.t, T.low⟩
  · by_cases hn1 : n = 1
    · subst hn1
      go_upto_region 19 with (first | (go_at_call 68; refine (rOnly _ _).mono ?_; rintro e w1 ⟨rfl, hb1⟩; replace T := T.below hb1; clear hb1))
      clear f0 f1 f2 f3 f4 f5
      replace T := T.kept
      generalize World.alloc _ (Obj.cells #[Value.int .i64 3, Value.int .i64 4, Value.int .i64 5, Value.int .i64 6, Value.int .i64 7, Value.int .i64 2] _) = W9 at *
      obtain ⟨f0, f1, f2, f3, f4, f5⟩ := T.s
      go_wp2_with (first | (go_at_call 68; refine (rOnly _ _).mono ?_; rintro e w1 ⟨rfl, hb1⟩; replace T := T.below hb1; clear hb1) | (go_at_call 69; (with_reducible refine (rMoveF (T.alloc _) (FromAt.new1 _ _ _) _ _).mono ?_); clear T; rintro e w1 ⟨rfl, T, F⟩) | (at_builtin; refine rt_list rfl _ _ rfl T (by rfl) F (by rfl) (by simp) ?_; intro v1 w1 T1; clear T F f0 f1 f2 f3 f4 f5; have T := T1; clear T1; obtain ⟨f0, f1, f2, f3, f4, f5⟩ := T.s))
      go_ret
      exact ⟨_, rfl, by simpa [touchW, decT, movT, endT, keptL] using T.t, T.low⟩
    · have hnb : (n != 1) = true := by simpa using hn1
      have HN := Lib.hid hn1
      clear hn1
      go_upto_region 19 with (first | (go_at_call 66; (with_reducible refine (rDecideF (T.alloc _) (FromAt.new1 _ _ _)).mono ?_); clear T; rintro e w1 ⟨rfl, T, F⟩) | (at_builtin; refine rt_list rfl _ _ rfl T (by rfl) F (by rfl) (by simp) ?_; intro v1 w1 T1; clear T F f0 f1 f2 f3 f4 f5; have T := T1; clear T1; obtain ⟨f0, f1, f2, f3, f4, f5⟩ := T.s))
      clear f0 f1 f2 f3 f4 f5
      replace T := T.kept
      generalize World.alloc _ (Obj.cells #[Value.int .i64 3, Value.int .i64 4, Value.int .i64 5, Value.int .i64 6, Value.int .i64 7, Value.int .i64 2] _) = W9 at *
      obtain ⟨f0, f1, f2, f3, f4, f5⟩ := T.s
      go_wp2_with (first | (go_at_call 68; refine (rOnly _ _).mono ?_; rintro e w1 ⟨rfl, hb1⟩; replace T := T.below hb1; clear hb1) | (go_at_call 69; (with_reducible refine (rMoveF (T.alloc _) (FromAt.new1 _ _ _) _ _).mono ?_); clear T; rintro e w1 ⟨rfl, T, F⟩) | (at_builtin; refine rt_list rfl _ _ rfl T (by rfl) F (by rfl) (by simp) ?_; intro v1 w1 T1; clear T F f0 f1 f2 f3 f4 f5; have T := T1; clear T1; obtain ⟨f0, f1, f2, f3, f4, f5⟩ := T.s))
      go_ret
      exact ⟨_, rfl, by simpa [touchW, decT, movT, endT, keptL, HN.out] using T.t, T.low⟩
  · go_upto_region 19 with (first | (go_at_call 66; (with_reducible refine (rDecideF (T.alloc _) (FromAt.new1 _ _ _)).mono ?_); clear T; rintro e w1 ⟨rfl, T, F⟩) | (go_at_call 66; (with_reducible refine (rDecideF (T.alloc _) (FromAt.new2 _ _ _ _ _)).mono ?_); clear T; rintro e w1 ⟨rfl, T, F⟩) | (go_at_call 68; refine (rOnly _ _).mono ?_; rintro e w1 ⟨rfl, hb1⟩; replace T := T.below hb1; clear hb1) | (at_builtin; refine rt_list rfl _ _ rfl T (by rfl) F (by rfl) (by simp) ?_; intro v1 w1 T1; clear T F f0 f1 f2 f3 f4 f5; have T := T1; clear T1; obtain ⟨f0, f1, f2, f3, f4, f5⟩ := T.s))
    clear f0 f1 f2 f3 f4 f5
    replace T := T.kept
    generalize World.alloc _ (Obj.cells #[Value.int .i64 3, Value.int .i64 4, Value.int .i64 5, Value.int .i64 6, Value.int .i64 7, Value.int .i64 2] _) = W9 at *
    obtain ⟨f0, f1, f2, f3, f4, f5⟩ := T.s
    go_wp2_with (first | (go_at_call 68; refine (rOnly _ _).mono ?_; rintro e w1 ⟨rfl, hb1⟩; replace T := T.below hb1; clear hb1) | (go_at_call 69; (with_reducible refine (rMoveF (T.alloc _) (FromAt.new1 _ _ _) _ _).mono ?_); clear T; rintro e w1 ⟨rfl, T, F⟩) | (go_at_call 69; (with_reducible refine (rMoveF (T.alloc _) (FromAt.new2 _ _ _ _ _) _ _).mono ?_); clear T; rintro e w1 ⟨rfl, T, F⟩) | (go_at_call 69; (with_reducible refine (rMoveF T (FromAt.nil _) _ _).mono ?_); clear T; rintro e w1 ⟨rfl, T, F⟩) | (go_at_call 66; (with_reducible refine (rDecideF (T.alloc _) (FromAt.new1 _ _ _)).mono ?_); clear T; rintro e w1 ⟨rfl, T, F⟩) | (go_at_call 66; (with_reducible refine (rDecideF (T.alloc _) (FromAt.new2 _ _ _ _ _)).mono ?_); clear T; rintro e w1 ⟨rfl, T, F⟩) | (at_builtin; refine rt_list rfl _ _ rfl T (by rfl) F (by rfl) (by simp) ?_; intro v1 w1 T1; clear T F f0 f1 f2 f3 f4 f5; have T := T1; clear T1; obtain ⟨f0, f1, f2, f3, f4, f5⟩ := T.s))
    go_ret
    exact ⟨_, rfl, by simpa [touchW, decT, movT, endT, keptL] using T.t, T.low⟩
end Go.Proofs.Ytmpnlhfnemidpaa
