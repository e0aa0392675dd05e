/- The document's Trapped; its Touches of a trap. -/
import Derived.Test.YtmpnlhfnemidpaaRu0
namespace Go.Proofs.Ytmpnlhfnemidpaa
open Go.RowKit Go.Shelf
set_option maxRecDepth 100000 in
set_option maxHeartbeats 2000000 in
theorem rTrapped (w : World) : Calls Try.prog 67 #[] w fun e w' => ∃ g news, e = .returned (.slice (some ⟨g, 0, none⟩) 5 5) ∧ Cells w' g 83 (List.toArray news) ∧ TsC w' news trapT ∧ Below w.heap.size w w' := by
  have B : Below w.heap.size w w := Below.refl _ _
  go_enter Try.func67, Try.ntmps67
  go_wp2_with fail
  refine (rOnly _ _).mono ?_
  rintro e w1 ⟨rfl, hb⟩
  replace B := B.trans (hb.mono B.size)
  clear hb
  go_wp2_with fail
  refine (rOnly _ _).mono ?_
  rintro e w2 ⟨rfl, hb⟩
  replace B := B.trans (hb.mono B.size)
  clear hb
  have hb := (Below.refl w2.heap.size w2).alloc (Nat.le_refl _) (.cells #[.int .i64 2, .int .i64 0] 49)
  have F1 := FromAt.new1 w2 2 0
  replace B := B.trans (hb.mono B.size)
  clear hb
  go_wp2_with fail
  refine (rMove _ _ _ _ _ _).mono ?_
  rintro e w3 ⟨rfl, hb⟩
  replace F1 := F1.keep (.of_below hb)
  replace B := B.trans (hb.mono B.size)
  clear hb
  go_wp2_with fail
  refine (rOnly _ _).mono ?_
  rintro e w4 ⟨rfl, hb⟩
  replace F1 := F1.keep (.of_below hb)
  replace B := B.trans (hb.mono B.size)
  clear hb
  go_wp2_with fail
  refine (rMove _ _ _ _ _ _).mono ?_
  rintro e w5 ⟨rfl, hb⟩
  replace F1 := F1.keep (.of_below hb)
  replace B := B.trans (hb.mono B.size)
  clear hb
  go_wp2_with fail
  refine (rOnly _ _).mono ?_
  rintro e w6 ⟨rfl, hb⟩
  replace F1 := F1.keep (.of_below hb)
  replace B := B.trans (hb.mono B.size)
  clear hb
  go_wp2_with fail
  refine (rOnly _ _).mono ?_
  rintro e w7 ⟨rfl, hb⟩
  replace F1 := F1.keep (.of_below hb)
  replace B := B.trans (hb.mono B.size)
  clear hb
  have hb := (Below.refl w7.heap.size w7).alloc (Nat.le_refl _) (.cells #[.int .i64 7, .int .i64 0] 49)
  replace F1 := F1.keep (.of_below hb)
  have F2 := FromAt.new1 w7 7 0
  replace B := B.trans (hb.mono B.size)
  clear hb
  go_wp2_with fail
  refine (rMove _ _ _ _ _ _).mono ?_
  rintro e w8 ⟨rfl, hb⟩
  replace F1 := F1.keep (.of_below hb)
  replace F2 := F2.keep (.of_below hb)
  replace B := B.trans (hb.mono B.size)
  clear hb
  go_wp2_with fail
  refine (rOnly _ _).mono ?_
  rintro e w9 ⟨rfl, hb⟩
  replace F1 := F1.keep (.of_below hb)
  replace F2 := F2.keep (.of_below hb)
  replace B := B.trans (hb.mono B.size)
  clear hb
  have hb := (Below.refl w9.heap.size w9).alloc (Nat.le_refl _) (.cells #[.int .i64 5, .int .i64 0] 49)
  replace F1 := F1.keep (.of_below hb)
  replace F2 := F2.keep (.of_below hb)
  have F3 := FromAt.new1 w9 5 0
  replace B := B.trans (hb.mono B.size)
  clear hb
  go_wp2_with fail
  refine (rDecide _ _ _ _).mono ?_
  rintro e w10 ⟨rfl, hb⟩
  replace F1 := F1.keep (.of_below hb)
  replace F2 := F2.keep (.of_below hb)
  replace F3 := F3.keep (.of_below hb)
  replace B := B.trans (hb.mono B.size)
  clear hb
  go_wp2_with fail
  refine (rOnly _ _).mono ?_
  rintro e w11 ⟨rfl, hb⟩
  replace F1 := F1.keep (.of_below hb)
  replace F2 := F2.keep (.of_below hb)
  replace F3 := F3.keep (.of_below hb)
  replace B := B.trans (hb.mono B.size)
  clear hb
  go_wp2_with fail
  refine (rOnly _ _).mono ?_
  rintro e w12 ⟨rfl, hb⟩
  replace F1 := F1.keep (.of_below hb)
  replace F2 := F2.keep (.of_below hb)
  replace F3 := F3.keep (.of_below hb)
  replace B := B.trans (hb.mono B.size)
  clear hb
  have hb := (Below.refl w12.heap.size w12).alloc (Nat.le_refl _) (.cells #[.int .i64 5, .int .i64 0] 49)
  replace F1 := F1.keep (.of_below hb)
  replace F2 := F2.keep (.of_below hb)
  replace F3 := F3.keep (.of_below hb)
  have F4 := FromAt.new1 w12 5 0
  replace B := B.trans (hb.mono B.size)
  clear hb
  go_wp2_with fail
  refine (rMove _ _ _ _ _ _).mono ?_
  rintro e w13 ⟨rfl, hb⟩
  replace F1 := F1.keep (.of_below hb)
  replace F2 := F2.keep (.of_below hb)
  replace F3 := F3.keep (.of_below hb)
  replace F4 := F4.keep (.of_below hb)
  replace B := B.trans (hb.mono B.size)
  clear hb
  go_wp2_with fail
  go_ret
  have al := fun (o : Obj) => (Below.refl w13.heap.size w13).alloc (Nat.le_refl _) o
  exact ⟨_, _, rfl, Cells.new _ _ _, .cons (F1.keep (.of_below (al _))) (.cons (.nil _) (.cons (F2.keep (.of_below (al _))) (.cons (F3.keep (.of_below (al _))) (.one (F4.keep (.of_below (al _))))))), B.trans ((al _).mono B.size)⟩
set_option maxRecDepth 100000 in
set_option maxHeartbeats 4000000 in
theorem rTouch_t {s : St} (hs : s.ok) {x : Int} {op ka kb n : Int} {bk : Bool} (hD : ∀ W, Calls Try.prog 57 #[.int .u32 x] W fun e w' => e = .returned (.tuple #[.agg (instA op ka kb n), .bool bk]) ∧ Below W.heap.size W w')
    {pk : Wt} (hP : ∀ W, Calls Try.prog 29 #[.agg (stA s), .int .u32 x] W fun e w' => e = .returned (.agg (wtA pk)) ∧ Below W.heap.size W w') (hk : (pk.kind == 1) = true) (w : World) :
    Calls Try.prog 32 #[.agg (stA s), .int .u32 x] w fun e w' => ∃ v', e = .returned v' ∧ TsAt w' w.heap.size v' ((if pk.cause = 6 then [⟨0, 0, [(1, kb)]⟩] else []) ++ trapT) ∧ Below w.heap.size w w' := by
  obtain ⟨K1, Hb, hsz⟩ := cells1 w (stA s) 25
  have hi := hi25 hs.len
  have HP := Lib.hid hP
  have HD := Lib.hid hD
  clear hP hD
  go_enter Try.func32, Try.ntmps32
  go_upto_region 1 with (fail)
  generalize w.alloc _ = W at *
  have A : StAt W w.heap.size s := ⟨K1, hs.len⟩
  have A' : W.heap[w.heap.size]? = some (.cells (stA s) 25 (0, 0)) := A.row
  go_wp2_with (with_reducible refine wpList_load_row rfl 25 (.tmp 2) rfl w.heap.size rfl 25 (stA s) (0, 0) _ A' Try.underlying25 rfl hi ?_)
  refine (HP.out W).mono ?_
  rintro e W1 ⟨rfl, hb1⟩
  obtain ⟨KP, hbp, sp⟩ := cells1 W1 (wtA pk) 42
  have B1 := Hb.trans (hb1.mono Hb.size)
  have B2 := B1.trans (hbp.mono B1.size)
  go_wp2_with fail
  unfold wtA at KP hbp B2
  generalize W1.alloc _ = W2 at *
  refine (HD.out W2).mono ?_
  rintro e W3 ⟨rfl, hb3⟩
  obtain ⟨Ki, hbi, si⟩ := cells1 W3 (instA op ka kb n) 54
  have B3 := B2.trans (hb3.mono B2.size)
  have B4 := B3.trans (hbi.mono B3.size)
  have KP4 := (KP.below hb3 KP.lt).below hbi (KP.below hb3 KP.lt).lt
  go_upto_region 3 with (fail)
  unfold instA at Ki hbi B4 KP4
  generalize W3.alloc _ = W4 at *
  clear A A' hb1 K1 Hb hbp KP hb3 hbi B1 B2 B3 sp si hsz
  go_cut [8, 9] (fun s8 s9 wx => ∃ Ba Bb : Nat, s8 = .pointer (some ⟨Ba, 0, none⟩) ∧ s9 = .pointer (some ⟨Bb, 0, none⟩) ∧ Cells wx Ba 49 #[.int .i64 1, .int .i64 ka] ∧ Cells wx Bb 49 #[.int .i64 1, .int .i64 kb] ∧ Below W4.heap.size W4 wx)
  case first =>
    go_region_held3 (fun w' => w'.cell? ⟨W3.heap.size, 1, none⟩ = some (.int .i64 ka) ∧ w'.cell? ⟨W3.heap.size, 2, none⟩ = some (.int .i64 kb))
      (first | with_reducible exact kS Ki.drew | with_reducible exact kS (Ki.alloc _).drew | with_reducible exact kS ((Ki.alloc _).alloc _).drew | with_reducible exact kS (((Ki.alloc _).alloc _).alloc _).drew | with_reducible exact kS ((((Ki.alloc _).alloc _).alloc _).alloc _).drew)
      (first | (go_at_call 65; refine (rRegX _ _).mono ?_; rintro e w1 ⟨rfl, rfl⟩))
    all_goals
      go_wp2_with fail
      go_meet
      obtain ⟨k0, k1, k2, k3, hb⟩ := alloc4 W4 _ _ _ _
      refine ⟨_, _, rfl, rfl, ?_, ?_, hb⟩ <;> first | exact k0 | exact k1 | exact k2 | exact k3
  case rest =>
  obtain ⟨Ba, Bb, rfl, rfl, Ka, Kb, hb5⟩ := hcut
  have KP5 := KP4.below hb5 KP4.lt
  have T : RtAt w wc W3.heap.size Ba Bb 0 false (.slice none 0 0) [] op ka kb n := ⟨Ki.below hb5 Ki.lt, Ka, Kb, fun q => absurd q (by decide), ⟨[], World.ownsRow_nil _ _ _ _, .nil⟩, B4.trans (hb5.mono B4.size)⟩
  have c0 := (KP5.cell 0).trans (show _ = some (Value.int .i64 pk.kind) from rfl)
  have c1 := (KP5.cell 1).trans (show _ = some (Value.int .u32 pk.cause) from rfl)
  clear KP4 KP5 Ki B4 Ka Kb hb5
  obtain ⟨f0, f1, f2, f3, f4, f5⟩ := T.s

  by_cases hc : pk.cause = 6
  · have hcb : (pk.cause == 6) = true := by simpa using hc
    have HC := Lib.hid hc
    clear hc
    go_wp2_with (first | (go_at_call 66; (with_reducible refine (rDecideF (T.alloc _) (FromAt.new1 _ _ _)).mono ?_); clear T; rintro e w1 ⟨rfl, T, F⟩) | (at_builtin; refine rt_list rfl _ _ rfl T (by rfl) F (by rfl) (by simp) ?_; intro v1 w1 T1; clear T F f0 f1 f2 f3 f4 f5; have T := T1; clear T1; obtain ⟨f0, f1, f2, f3, f4, f5⟩ := T.s) | (go_at_call 67; refine (rTrapped _).mono ?_; rintro e w1 ⟨g, news, rfl, hG, hN, hb1⟩; replace T := T.below hb1; clear hb1) | (at_builtin; refine rt_listM rfl _ _ rfl T (by rfl) hN hG (by rfl) (by decide) (by simp) ?_; intro v1 w1 T1; clear T; have T := T1; clear T1))
    go_ret
    exact ⟨_, rfl, by simpa [HC.out] using T.t, T.low⟩
  · have hcb : (pk.cause == 6) = false := by simpa using hc
    have HC := Lib.hid hc
    clear hc
    go_wp2_with (first | (go_at_call 67; refine (rTrapped _).mono ?_; rintro e w1 ⟨g, news, rfl, hG, hN, hb1⟩; replace T := T.below hb1; clear hb1) | (at_builtin; refine rt_listM rfl _ _ rfl T (by rfl) hN hG (by rfl) (by decide) (by simp) ?_; intro v1 w1 T1; clear T; have T := T1; clear T1))
    go_ret
    exact ⟨_, rfl, by simpa [HC.out] using T.t, T.low⟩
end Go.Proofs.Ytmpnlhfnemidpaa
