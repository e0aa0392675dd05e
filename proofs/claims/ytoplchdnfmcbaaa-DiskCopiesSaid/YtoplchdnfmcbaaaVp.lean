/- Copies go on apart: the walk. -/
import Derived.Test.YtoplchdnfmcbaaaVp0
namespace Go.Proofs.Ytoplchdnfmcbaaa
open Go.RowKit Go.Shelf Go.Maps
attribute [local go_sem] Oper.semAt_some

theorem Scr.wide {w W : World} {A : Option Addr} {s : List (Int × List Int)} (h : Scr w w.heap.size A s) (hb : Below w.heap.size w W) : Scr W W.heap.size A s :=
  ⟨fun h0 => by obtain ⟨g, off, e, hg⟩ := h.some_ h0; exact ⟨g, off, e, by have := hb.size; omega⟩, (h.keep hb.block).step⟩
set_option maxRecDepth 100000 in
set_option maxHeartbeats 16000000 in
theorem copies_in {w : World} {A : Option Addr} {s : List (Int × List Int)} {c N : Nat} (n : Int) (x : List Int) (h1 : 1 ≤ N) (h2 : N ≤ 32) (h3 : s.length ≤ 40) (hs : Scr w w.heap.size A s) (hx : IsSec x) :
    Calls Try.prog 6 #[.int .i64 N, .slice A s.length c, .agg (actA n x)] w fun e w' => e = .returned (.bool true) ∧ Below w.heap.size w w' := by
  have h1' : ¬ ((N : Int) < 1) := by omega
  have h2' : ¬ (32 < (N : Int)) := by omega
  have h3' : ¬ (40 < (s.length : Int)) := by omega
  obtain ⟨k0, k1, hb0, s0⟩ := cells2 w (actA n x) #[.bool false] 37 4
  have hz := zlit
  rw [← callsIn_wide (n := 1)]
  refine callsIn_of_wp_marks Try.func6 rfl trivial ?_
  simp only [Try.ntmps6, List.append_eq, List.size_toArray, List.length_cons, List.length_nil, Nat.reduceAdd, Nat.reduceSub, Array.replicate_succ, Array.replicate_zero, List.push_toArray, List.append_toArray, List.nil_append, List.cons_append]
  gi_wp2_with fail
  generalize (w.alloc _).alloc _ = W0 at *
  have H10 := Lib.hid (c10 (c := c) N h1 h2 (hs.wide hb0) (by omega))
  have K0 := Lib.hid k0
  have K1 := Lib.hid k1
  have HB0 := Lib.hid hb0
  have HB0s := Lib.hid (show W0.heap.size = w.heap.size + 2 from s0)
  clear k0 k1 hb0 s0 h1' h2' h3' hs
  refine ⟨trivial, (callsIn_wide.2 H10.out).mono ?_⟩
  rintro e W1 ⟨db, mb, m, A1, l, c1, rfl, b1, gdb, gmb, d1, r1, rep⟩
  have K10 := Lib.hid (K0.out.below b1 K0.out.lt)
  have K11 := Lib.hid (K1.out.below b1 K1.out.lt)
  have HB1 := Lib.hid (HB0.out.trans (b1.mono HB0.out.size))
  have HG := Lib.hid (And.intro gdb gmb)
  have REP := Lib.hid rep
  have DD1 := Lib.hid d1
  have RL1 := Lib.hid r1
  clear b1 gdb gmb d1 r1 rep K0 K1 HB0 H10
  gi_wp2_with fail
  refine ⟨trivial, (callsIn_wide.2 (c17 DD1.out)).mono ?_⟩
  rintro e W2 ⟨d2, mb2, rfl, dc2, gd2, gmb2, b2⟩
  have K20 := Lib.hid (K10.out.below b2 K10.out.lt)
  have K21 := Lib.hid (K11.out.below b2 K11.out.lt)
  have HB2 := Lib.hid (HB1.out.trans (b2.mono HB1.out.size))
  have HG2 := Lib.hid (And.intro gd2 gmb2)
  have HS12 := Lib.hid b2.size
  have DD2 := Lib.hid (DD1.out.below b2)
  have DC2 := Lib.hid dc2
  have RL2 := Lib.hid ((RL1.out.below b2 (Nat.le_refl _)).up b2.size)
  clear b2 gd2 gmb2 dc2 K10 K11 HB1 RL1
  gi_wp2_with fail
  refine ⟨trivial, (callsIn_wide.2 (c18 DD2.out)).mono ?_⟩
  rintro e W3 ⟨q, v, rfl, gq, box, own, b3⟩
  obtain ⟨Aq, cq, rfl⟩ := own_slice own
  have RU3 := Lib.hid (Rd.of_ownA own rfl)
  have BOX3 := Lib.hid box
  have HGQ := Lib.hid gq
  have K30 := Lib.hid (K20.out.below b3 K20.out.lt)
  have K31 := Lib.hid (K21.out.below b3 K21.out.lt)
  have HB3 := Lib.hid (HB2.out.trans (b3.mono HB2.out.size))
  have DD3 := Lib.hid (DD2.out.below b3)
  have DC3 := Lib.hid (DC2.out.below b3)
  have RL3 := Lib.hid ((RL2.out.below b3 (Nat.le_refl _)).up b3.size)
  clear b3 own box gq K20 K21 HB2 RL2
  gi_wp2_with fail
  refine ⟨trivial, (callsIn_wide.2 (c19 DC3.out DD3.out (r := true) ⟨fun _ _ _ => rfl, fun _ => rfl⟩)).mono ?_⟩
  rintro e W4 ⟨rfl, b4⟩
  have K40 := K30.out.below b4 K30.out.lt
  have K41 := Lib.hid (K31.out.below b4 K31.out.lt)
  have HB4 := Lib.hid (HB3.out.trans (b4.mono HB3.out.size))
  have DD4 := Lib.hid (DD3.out.below b4)
  have DC4 := Lib.hid (DC3.out.below b4)
  have RL4 := Lib.hid ((RL3.out.below b4 (Nat.le_refl _)).up b4.size)
  have RU4 := Lib.hid ((RU3.out.below b4 (Nat.le_refl _)).up b4.size)
  have BOX4 := Lib.hid (BOX3.out.below b4 BOX3.out.lt)
  clear b4 K30 K31 HB3 RL3 RU3 BOX3
  have a4 := act_cell K40
  have g4 := act_range K40
  have K40 := Lib.hid K40
  have hix' : (Try.prog.info? 28).map (·.size) = some (x.map (Value.int .u8)).length := by rw [List.length_map, hx.1]; kernel_rfl
  obtain ⟨er, her⟩ : ∃ er : Int, er = if inL l n then 0 else 4 := ⟨_, rfl⟩
  have H20 := Lib.hid (c20 (c := c1) (by have := REP.out.1; omega) RL4.out n x hx.1 er her)
  have HE := Lib.hid (show er = if 0 ≤ n ∧ n < (N : Int) then 0 else 4 by rw [her]; simp only [REP.out.inL n])
  clear her
  gi_wp2_with (first
    | (with_reducible refine wpListIn_load_mid rfl 28 (.tmp 61) rfl w.heap.size 1 rfl (x.map (Value.int .u8)) _ g4 Try.underlying28 rfl hix' ?_))
  refine ⟨trivial, (callsIn_wide.2 H20.out).mono ?_⟩
  rintro e W5 ⟨A5, l5, c5, rfl, b5, rn5, hl5, hw5⟩
  have K50 := K40.out.below b5 K40.out.lt
  have K51 := Lib.hid (K41.out.below b5 K41.out.lt)
  have HB5 := Lib.hid (HB4.out.trans (b5.mono HB4.out.size))
  have DD5 := Lib.hid (DD4.out.below b5)
  have DC5 := Lib.hid (DC4.out.below b5)
  have RL5 := Lib.hid ((RL4.out.below b5 (Nat.le_refl _)).up b5.size)
  have RU5 := Lib.hid ((RU4.out.below b5 (Nat.le_refl _)).up b5.size)
  have BOX5 := Lib.hid (BOX4.out.below b5 BOX4.out.lt)
  have RN5 := Lib.hid rn5
  have HW5 := Lib.hid (And.intro hl5 hw5)
  clear b5 rn5 hl5 hw5 K40 K41 HB4 RL4 RU4 BOX4 a4 g4 H20
  have a5 := act_cell K50
  have g5 := act_range K50
  have K50 := Lib.hid K50
  gi_wp2_with (first
    | (with_reducible refine wpListIn_load_mid rfl 28 (.tmp 69) rfl w.heap.size 1 rfl (x.map (Value.int .u8)) _ g5 Try.underlying28 rfl hix' ?_))
  refine ⟨trivial, (callsIn_wide.2 (c15_er DD5.out n x hx er HE.out)).mono ?_⟩
  rintro e W6 ⟨rfl, g6, m6, dd6, hm6⟩
  have hlt1 : mb < W5.heap.size := DD5.out.hm.lt
  have hgmb := HG.out.2
  have hgd2 := HG2.out.1
  have hgm2 := HG2.out.2
  have hgq := HGQ.out
  have hs12 := HS12.out
  have hd1 := DD1.out.hd.lt
  have hm1 := DD1.out.hm.lt
  have hs0 := HB0s.out
  have hk6 : ∀ k, k < W5.heap.size → k ≠ mb → W6.heap[k]? = W5.heap[k]? := fun k hk hne => g6.block k hk (by simp; omega)
  have hB5 : w.heap.size < W5.heap.size := K50.out.lt
  have hB51 : w.heap.size + 1 < W5.heap.size := K51.out.lt
  have K60 := (hk6 _ hB5 (by omega)).trans K50.out
  have K61 := (hk6 _ hB51 (by omega)).trans K51.out
  have HB6 := Lib.hid (HB5.out.trans (below_of_grown g6 (by omega) HB5.out.size))
  have hdc5 := DC5.out.hd.lt
  have hmc5 := DC5.out.hm.lt
  have hq5 := BOX5.out.lt
  have dc6 := DC5.out.keep (hk6 _ hdc5 (by omega)) (hk6 _ hmc5 (by omega))
  have box6 : Cells W6 q 51 _ := (hk6 _ hq5 (by omega)).trans BOX5.out
  have rl6 := (RL5.out.grown DD5.out.hm g6 (Nat.le_refl _)).up g6.size
  have rn6 := (RN5.out.grown DD5.out.hm g6 (Nat.le_refl _)).up g6.size
  have ru6 := (RU5.out.grown DD5.out.hm g6 (Nat.le_refl _)).up g6.size
  have REP6 := Lib.hid (rep_write REP.out HW5.out.1 hx.1 HW5.out.2 hm6)
  have H21 := Lib.hid (c21 (c := c1) h2 (fun n => (DD1.out.good.sec n).1) REP.out rl6)
  have M6 := Lib.hid (show Cells W6 w.heap.size 37 (actA n x) ∧ Cells W6 (w.heap.size + 1) 4 #[.bool false] ∧ IsDisk W6 db mb N m6 ∧ IsDisk W6 d2 mb2 N m ∧ Rd W6 W6.heap.size .u8 A1 l ∧ Rd W6 W6.heap.size .u8 A5 l5 ∧ Cells W6 q 51 #[.slice Aq (usedL (secL m) N).length cq] ∧ Rd W6 W6.heap.size .i64 Aq (usedL (secL m) N) from ⟨K60, K61, dd6, dc6, rl6, rn6, box6, ru6⟩)
  have hsame := reps_eq DD1.out.good dd6.good REP.out REP6.out
  have HSAME := Lib.hid hsame
  clear hs12 HS12 hlt1 hgmb hgd2 hgm2 hgq hd1 hm1 hs0 hk6 hB5 hB51 K60 K61 hdc5 hmc5 hq5 dc6 box6 rl6 rn6 ru6 K50 K51 HB5 DD5 DC5 RL5 RN5 RU5 BOX5 dd6 hm6 g6 HG HG2 HGQ DD2 DC2 DD3 DC3 DD4 DC4 HW5 HE a5 g5 hsame HB0s
  gi_wp2_with fail
  refine ⟨trivial, (callsIn_wide.2 H21.out).mono ?_⟩
  rintro e W7 ⟨v7, rfl, own7, b7⟩
  obtain ⟨Ah, ch, rfl⟩ := own_slice own7
  have rh7 := Rd.of_ownA own7 rfl
  have hul := usedL_len (secL m) N
  have REPL := Lib.hid (And.intro REP.out REP6.out)
  have DG := Lib.hid (And.intro DD1.out.good HSAME.out)
  generalize hU : usedL (secL m) N = U at *
  have HU := Lib.hid hU
  clear hU
  obtain ⟨j0, j1, hb9, s9⟩ := cells2 W7 #[.slice Ah U.length ch] #[.int .i64 0] 51 3
  have mid9 : Mid w (W7.heap.size + 1) N n x db mb m6 d2 mb2 m A1 l A5 l5 q Aq cq W7.heap.size Ah ch U ((W7.alloc (.cells #[.slice Ah U.length ch] 51)).alloc (.cells #[.int .i64 0] 3)) := by
    obtain ⟨k60, k61, dd6, dc6, rl6, rn6, box6, ru6⟩ := M6.out
    have hb := b7.trans (hb9.mono b7.size)
    have hsz := b7.size
    have hr : ∀ {k : IntKind} {A : Option Addr} {l : List Int}, Rd W6 W6.heap.size k A l → Rd ((W7.alloc (.cells #[.slice Ah U.length ch] 51)).alloc (.cells #[.int .i64 0] 3)) (W7.heap.size + 1) k A l := fun h => (h.keep fun g hg => hb.block g hg).up (by omega)
    have e1 := k61.lt; have e2 := dd6.hd.lt; have e3 := dd6.hm.lt; have e4 := dc6.hd.lt; have e5 := dc6.hm.lt; have e6 := box6.lt
    exact ⟨k60.below hb k60.lt, k61.below hb k61.lt, dd6.below hb, dc6.below hb, hr rl6, hr rn6, box6.below hb box6.lt, hr ru6, j0, (rh7.keep fun g hg => hb9.block g hg).up (by omega), HB6.out.trans (hb.mono HB6.out.size), by omega, by omega, by omega, by omega, by omega, by omega, by omega, by omega⟩
  have MID9 := Lib.hid mid9
  have J1 := Lib.hid j1
  have hU65 : U.length ≤ 32 := by omega
  clear own7 b7 rh7 j0 j1 hb9 s9 mid9 hul M6 HB6 H21 REP REP6 HSAME DD1
  gi_wp2_with fail
  refine it_range rfl (enters_of Try.func35 (by kernel_rfl) rfl) ?_
  intro fn r hr
  have hP : ∀ W W', Mid w (W7.heap.size + 1) N n x db mb m6 d2 mb2 m A1 l A5 l5 q Aq cq W7.heap.size Ah ch U W → Below (W7.heap.size + 1) W W' → Mid w (W7.heap.size + 1) N n x db mb m6 d2 mb2 m A1 l A5 l5 q Aq cq W7.heap.size Ah ch U W' := fun _ _ h hb => h.keep hb
  have start := Jk.start (r := r) (k := 0) hP J1.out MID9.out (Nat.le_refl _)
  generalize World.alloc (World.alloc W7 _) _ = W9 at *
  generalize W9.heap.size = S at *
  generalize World.alloc (World.alloc W9 _) _ = W10 at *
  have HP := Lib.hid hP
  clear hP
  refine (c35 (L := U) (A := Aq) (c := cq) (S + 1) q (fun k W => Jk (Mid w (W7.heap.size + 1) N n x db mb m6 d2 mb2 m A1 l A5 l5 q Aq cq W7.heap.size Ah ch U) (W7.heap.size + 1) S r (W7.heap.size + 1) k W) (by omega) ?hJ ?hY _ start).mono ?_
  case hJ => exact fun k W h => ⟨h.p.box.cell 0, h.p.ru.up h.p.lt.2.2.2.2.2.2.2⟩
  case hY =>
    clear start MID9 J1
    intro k y W h hy
    refine it_round (r := r) h.lp (by rw [hr]) (by rw [hr]; rfl) ?_
    have ha' := congrArg Loop.assign hr
    have hb' := congrArg Loop.body hr
    have ht' := congrArg Loop.tmps hr
    have hps := congrArg Loop.params hr
    simp only at ha' hb' ht' hps
    intro rb hrb
    have hbk := it_back hrb (by rw [hr]) (by rw [hr])
    have HBK := Lib.hid hbk
    clear hr hbk hrb
    rw [ha', hb', ht', hps]
    clear ha' hb' ht' hps
    have h6 := h.put HP.out rb
    have l6 := h.lp
    clear h
    gi_wp2
    refine ⟨_, rfl, l6, ?_⟩
    generalize World.putObj _ _ _ = W11 at *
    have hk : k < U.length := (List.getElem?_eq_some_iff.1 hy).1
    have rh6 := h6.p.rh
    have hb6 := h6.p.hb
    obtain ⟨g, off, rfl, hg⟩ := rh6.some_ (by omega)
    have cx := rh6.cell g off rfl k y hy
    have q1 := h6.at_.cell 0
    have q2 := hb6.cell 0
    have f1 := h6.at_.frozen 0
    simp at q1 q2
    have HJ := Lib.hid h6
    clear h6 l6 hy rh6 hb6
    gi_wp2
    refine ⟨(HJ.out.set HP.out (k + 1) (k1 := k + 1) (by omega)).lp, rfl, ?_⟩
    rw [HBK.out]
    exact (HJ.out.set HP.out (k + 1) (k1 := k + 1) (by omega)).put HP.out r
  rintro e w' ⟨rfl, h⟩
  refine ⟨_, _, rfl, h.lp, by rw [hr]; simp, ?_⟩
  have hp : r.pending = none := by rw [hr]
  simp only [hp]
  have h8 := h.put HP.out { r with state := .exhausted }
  simp only [hp] at h8
  clear h start hr hp
  generalize World.putObj _ _ _ = W11 at *
  have HJ := Lib.hid h8
  clear h8
  gi_wp2_with fail
  refine it_range rfl (enters_of Try.func35 (by kernel_rfl) rfl) ?_
  intro fn2 r2 hr2
  have md := HJ.out.md
  have j1 := Cells.new W11 3 #[.int .i64 0]
  have hbn := (Below.refl _ W11).alloc (Nat.le_refl _) (.cells #[.int .i64 0] 3)
  have hP2 := fun (W W' : World) (h : Md (Mid w (W7.heap.size + 1) N n x db mb m6 d2 mb2 m A1 l A5 l5 q Aq cq W7.heap.size Ah ch U) (W7.heap.size + 1) S (W7.heap.size + 1) U.length W11.heap.size W) (hb : Below W11.heap.size W W') => h.keep HP.out hb
  have start := Jk.start (r := r2) (k := 0) hP2 j1 (md.keep HP.out hbn) (Nat.le_refl _)
  clear md j1 hbn HJ
  generalize World.alloc W11 _ = W12 at *
  generalize W12.heap.size = S2 at *
  generalize World.alloc (World.alloc W12 _) _ = W13 at *
  generalize hPM : Md (Mid w (W7.heap.size + 1) N n x db mb m6 d2 mb2 m A1 l A5 l5 q Aq cq W7.heap.size Ah ch U) (W7.heap.size + 1) S (W7.heap.size + 1) U.length W11.heap.size = PM at *
  generalize W11.heap.size = T2 at *
  have HPM := Lib.hid (fun (W : World) (h : PM W) => show Md (Mid w (W7.heap.size + 1) N n x db mb m6 d2 mb2 m A1 l A5 l5 q Aq cq W7.heap.size Ah ch U) (W7.heap.size + 1) S (W7.heap.size + 1) U.length T2 W by rw [hPM]; exact h)
  have HP2 := Lib.hid hP2
  clear hP2 hPM
  refine (c35b (L := U) (A := Aq) (c := cq) (S2 + 1) q (Jk PM T2 S2 r2 T2 0) (fun W => ∃ r', W.heap[S2 + 1]? = some (.loop r') ∧ r'.state ≠ .busy ∧ (r'.pending = none ∨ r'.pending = some (.exit 2)) ∧ Jk PM T2 S2 r' T2 (min 1 U.length) W) (by omega) ?hJ ?hY ?h0 _ start).mono ?_
  case hJ => exact fun W h => ⟨(HPM.out W h.p).p.box.cell 0, (HPM.out W h.p).p.ru.up (HPM.out W h.p).p.lt.2.2.2.2.2.2.2⟩
  case h0 =>
    intro e W h
    refine ⟨r2, h.lp, by rw [hr2]; simp, .inl (by rw [hr2]), ?_⟩
    rw [show min 1 U.length = 0 by rw [e]; rfl]
    exact h
  case hY =>
    clear start
    intro y W h hy
    have hlen : min 1 U.length = 1 := by have := (List.getElem?_eq_some_iff.1 hy).1; omega
    rw [hlen]
    clear hlen hy
    refine it_round (r := r2) h.lp (by rw [hr2]) (by rw [hr2]; rfl) ?_
    have ha' := congrArg Loop.assign hr2
    have hb' := congrArg Loop.body hr2
    have ht' := congrArg Loop.tmps hr2
    have hps := congrArg Loop.params hr2
    simp only at ha' hb' ht' hps
    intro rb hrb
    clear hr2 hrb
    rw [ha', hb', ht', hps]
    clear ha' hb' ht' hps
    have h6 := h.put HP2.out rb
    have l6 := h.lp
    clear h
    gi_wp2
    refine ⟨_, rfl, l6, ?_⟩
    generalize World.putObj _ _ _ = W11 at *
    have q1 := h6.at_.cell 0
    have f1 := h6.at_.frozen 0
    simp at q1
    have HJ := Lib.hid h6
    clear h6 l6
    gi_wp2
    have hset := HJ.out.set HP2.out 1 (k1 := 1) rfl
    exact ⟨hset.lp, rfl, _, (hset.put HP2.out { rb with state := .done, pending := some (.exit 2) }).lp, by simp, .inr rfl, hset.put HP2.out _⟩
  rintro e w' ⟨rfl, r', hlp, hst, hpd, hj⟩
  have h9 := hj.put HP2.out { r' with state := .exhausted }
  have MD := Lib.hid h9.md
  clear h9 hj start hr2
  refine it_left hlp hst hpd ?_ (fun _ h => by simpa [Exit.inBlock] using h)
  clear hpd hlp hst
  generalize World.putObj _ _ _ = W15 at *
  have h15 := (HPM.out W15 MD.out.p).p
  have hl0 : 0 < l.length := by have := REPL.out.1.1; omega
  have hl5 : 0 < l5.length := by have := REPL.out.2.1; omega
  have cv1 := conv_rd (c := c1) h15.rl hl0
  have cv2 := conv_rd (c := c5) h15.rn hl5
  clear h15 hl0 hl5
  gi_wp2_with fail
  refine ⟨trivial, (callsIn_wide.2 (c11_nil W15 0)).mono ?_⟩
  rintro e W16 ⟨rfl, b16⟩
  obtain ⟨ho, W17, hW17, -, b17, -⟩ := row_own W16 28 (intsA .u8 zeros) (intsA .u8 zeros) rfl
  have hi0 := size28 (l := zeros) rfl
  have MD17 := Lib.hid (MD.out.keep HP2.out (b16.trans (b17.mono b16.size)))
  have hsz17 := Lib.hid (b16.trans (b17.mono b16.size)).size
  simp only [secV]
  clear cv1 cv2 b16 b17 MD
  gi_wp2_with (first
    | (with_reducible refine wpListIn_store_mid rfl 28 (.tmp 20) (.tmp 102) rfl W16.heap.size 0 (intsA .u8 zeros) rfl rfl ho hi0 (intsA_one _ _) ?_; rw [hW17]))
  refine ⟨trivial, (callsIn_wide.2 (c18_nil _)).mono ?_⟩
  rintro e w' ⟨rfl, rfl⟩
  clear ho hW17 hi0
  gi_wp2_with fail
  refine it_range rfl (enters_of Try.func32 (by kernel_rfl) rfl) ?_
  intro fn3 r3 hr3
  obtain ⟨l3, d3, b3⟩ := start_loop W17 r3 { r3 with state := .exhausted }
  refine (c32 _ _).mono ?_
  rintro e w' ⟨rfl, rfl⟩
  refine ⟨_, _, rfl, l3, by rw [hr3]; simp, ?_⟩
  have hp3 : r3.pending = none := by rw [hr3]
  simp only [hp3] at d3 b3 ⊢
  have MD18 := Lib.hid (MD17.out.keep HP2.out (b3.mono hsz17))
  have D3 := Lib.hid d3
  have hsz18 := Lib.hid (Nat.le_trans hsz17 b3.size)
  have HS17 := Lib.hid hsz17
  clear hr3 hp3 l3 d3 b3 MD17 hsz17
  generalize World.putObj _ _ _ = W18 at *
  gi_wp2_with fail
  refine ⟨trivial, (callsIn_wide.2 (c22 ((N : Int) % 32 + 1) (by omega) (by omega) W18)).mono ?_⟩
  rintro e W19 ⟨rfl, b19, dw19⟩
  have hN' : ((N : Int) % 32 + 1) = ((N % 32 + 1 : Nat) : Int) := by omega
  rw [hN'] at dw19
  clear hN'
  have MD19 := Lib.hid (MD18.out.keep HP2.out (b19.mono hsz18.out))
  have D319 := Lib.hid ((b19.block _ (Array.getElem?_eq_some_iff.1 D3.out).1).trans D3.out)
  have DW19 := Lib.hid dw19
  have hsz19 := Lib.hid (Nat.le_trans hsz18.out b19.size)
  clear MD18 D3 hsz18 b19 dw19
  gi_wp2_with fail
  refine ⟨trivial, (callsIn_wide.2 (c22 (N : Int) (by omega) (by omega) W19)).mono ?_⟩
  rintro e W20 ⟨rfl, b20, de20⟩
  have F0 : Fin (Md PM T2 S2 T2 (min 1 U.length) W15.heap.size) W15.heap.size W17.heap.size (W18.heap.size + 1) W18.heap.size (N % 32 + 1) (W19.heap.size + 1) W19.heap.size N W20 :=
    ⟨MD19.out.keep HP2.out (b20.mono hsz19.out), (b20.block _ (Array.getElem?_eq_some_iff.1 D319.out).1).trans D319.out, DW19.out.below b20, de20, Nat.le_trans hsz19.out b20.size⟩
  have HP3 := Lib.hid (fun (W W' : World) (h : Md PM T2 S2 T2 (min 1 U.length) W15.heap.size W) (hb : Below W15.heap.size W W') => h.keep HP2.out hb)
  have F0 := Lib.hid F0
  clear MD19 D319 DW19 hsz19 b20 de20
  have x0 := (HPM.out _ F0.out.p.p).at_.cell 0
  have x1 := (HPM.out _ F0.out.p.p).p.hb.cell 0
  have x2 := F0.out.p.at_.cell 0
  simp at x0 x1 x2
  rw [show ((min 1 U.length : Nat) : Int) = min 1 (U.length : Int) by omega] at x2
  generalize W17.heap.size = S3 at *
  generalize W18.heap.size + 1 = e1 at *
  generalize W18.heap.size = e2 at *
  generalize W19.heap.size + 1 = e3 at *
  generalize W19.heap.size = e4 at *
  gi_wp2_with fail
  clear x0 x1 x2
  refine ⟨trivial, (callsIn_wide.2 (c16 (c := c1) (HPM.out _ F0.out.p.p).p.dc REPL.out.1 ((HPM.out _ F0.out.p.p).p.rl.up (HPM.out _ F0.out.p.p).p.lt.2.2.2.2.2.2.2))).mono ?_⟩
  rintro e W21 ⟨rfl, b⟩
  have F1 := Lib.hid (F0.out.keep HP3.out b)
  clear b F0
  gi_wp2_with fail
  refine ⟨trivial, (callsIn_wide.2 (c16 (c := c5) (HPM.out _ F1.out.p.p).p.dd REPL.out.2 ((HPM.out _ F1.out.p.p).p.rn.up (HPM.out _ F1.out.p.p).p.lt.2.2.2.2.2.2.2))).mono ?_⟩
  rintro e W22 ⟨rfl, b⟩
  have F2 := Lib.hid (F1.out.keep HP3.out b)
  clear b F1
  gi_wp2_with fail
  refine ⟨trivial, (callsIn_wide.2 (c19 (HPM.out _ F2.out.p.p).p.dc (HPM.out _ F2.out.p.p).p.dd DG.out.2)).mono ?_⟩
  rintro e W23 ⟨rfl, b⟩
  have F3 := Lib.hid (F2.out.keep HP3.out b)
  clear b F2
  gi_wp2_with fail
  refine ⟨trivial, (callsIn_wide.2 (c19 (HPM.out _ F3.out.p.p).p.dd (HPM.out _ F3.out.p.p).p.dc (DG.out.2.trans ⟨fun h j hj => (h j hj).symm, fun h j hj => (h j hj).symm⟩))).mono ?_⟩
  rintro e W24 ⟨rfl, b⟩
  have F4 := Lib.hid (F3.out.keep HP3.out b)
  clear b F3
  gi_wp2_with fail
  refine ⟨trivial, (callsIn_wide.2 (c13 _ _)).mono ?_⟩
  rintro e w' ⟨rfl, rfl⟩
  have g24 := act_range (HPM.out _ F4.out.p.p).p.act
  gi_wp2_with (first
    | ((with_reducible refine wpListIn_load_mid_g 28 (.tmp 161) rfl w.heap.size 1 rfl (x.map (Value.int .u8)) _ g24 Try.underlying28 rfl hix' ?_ ?_); (focus (first | exact rfl | (simp [Region.wanted, yielded]; done))); simp only [Act.put, List.setIfInBounds_toArray, List.set_cons_zero, List.set_cons_succ]))
  clear g24
  refine ⟨trivial, (callsIn_wide.2 (c15_nil _ _ _)).mono ?_⟩
  rintro e W25 ⟨rfl, b⟩
  have F5 := Lib.hid (F4.out.keep HP3.out b)
  clear b F4
  gi_wp2_with fail
  refine ⟨trivial, (callsIn_wide.2 (c13 _ _)).mono ?_⟩
  rintro e w' ⟨rfl, rfl⟩
  gi_wp2_with fail
  refine ⟨trivial, (callsIn_wide.2 (c23_nil _)).mono ?_⟩
  rintro e w' ⟨rfl, rfl⟩
  gi_wp2_with fail
  refine ⟨trivial, (callsIn_wide.2 (c24_nil _)).mono ?_⟩
  rintro e w' ⟨rfl, rfl⟩
  gi_wp2_with fail
  refine ⟨trivial, (callsIn_wide.2 (c17_nil _)).mono ?_⟩
  rintro e w' ⟨rfl, rfl⟩
  gi_wp2_with fail
  refine ⟨trivial, (callsIn_wide.2 (c19_nn _)).mono ?_⟩
  rintro e w' ⟨rfl, rfl⟩
  gi_wp2_with fail
  refine ⟨trivial, (callsIn_wide.2 (c19_nd (HPM.out _ F5.out.p.p).p.dc)).mono ?_⟩
  rintro e w' ⟨rfl, rfl⟩
  gi_wp2_with fail
  refine ⟨trivial, (callsIn_wide.2 (c19_dn (HPM.out _ F5.out.p.p).p.dc)).mono ?_⟩
  rintro e w' ⟨rfl, rfl⟩
  gi_wp2_with fail
  refine ⟨trivial, (callsIn_wide.2 (c19_ne F5.out.wide F5.out.empty (by omega))).mono ?_⟩
  rintro e W26 ⟨rfl, b⟩
  have F6 := Lib.hid (F5.out.keep HP3.out b)
  clear b F5
  gi_wp2_with fail
  refine ⟨trivial, (callsIn_wide.2 (c9 _)).mono ?_⟩
  rintro e W27 ⟨rfl, b⟩
  have F7 := Lib.hid (F6.out.keep HP3.out b)
  clear b F6
  have f7 := (HPM.out _ F7.out.p.p).p.ret.frozen 0
  have y7 := (HPM.out _ F7.out.p.p).p.ret.cell 0
  simp at y7
  gi_wp2
  have MF := HPM.out _ F7.out.p.p
  obtain ⟨i1, i2, i3⟩ := MF.h
  obtain ⟨i4, i5, i6⟩ := F7.out.p.h
  have i7 := MF.p.lt.1
  have i8 : W15.heap.size ≤ S3 := HS17.out
  have hb : ∀ j, j ≠ w.heap.size + 1 → (W27.setCell ⟨w.heap.size + 1, 0, none⟩ (.bool true)).heap[j]? = W27.heap[j]? := fun j hj => Below.heap_setCell _ _ _ _ hj
  exact leave3 rfl rfl (MF.p.ret.set 0 (.bool true)) ((hb _ (by omega)).trans MF.dfr) ((hb _ (by omega)).trans F7.out.p.dfr) ((hb _ (by omega)).trans F7.out.dfr) (by omega) (by omega) (by omega) (by omega) (MF.p.low.setCell (by show w.heap.size ≤ w.heap.size + 1; omega) _)
end Go.Proofs.Ytoplchdnfmcbaaa
