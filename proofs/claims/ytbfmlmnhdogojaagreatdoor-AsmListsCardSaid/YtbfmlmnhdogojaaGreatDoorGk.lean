/- Assemble: contract. -/
import Derived.Test.YtbfmlmnhdogojaaGreatDoorGl
namespace Go.Proofs.YtbfmlmnhdogojaaGreatDoor
open Go.RowKit Go.Shelf
attribute [local go_sem] Oper.semAt_some

/-- Lines assembled so far. -/
def JA (w : World) (L : List ByteArray) (xb lb eb pb pp qp qv S R : Nat) (r : Loop) (k : Nat) (W : World) : Prop :=
  JF w xb lb eb pb pp qp qv S R r W ∧ ∃ t vb vn vh, linesV 0 ⟨[], [], []⟩ L = linesV k t (L.drop k) ∧ StOk t ∧ t.ns.length ≤ k ∧ PSI W R pb vb vn vh k t
/-- A line was given up with. -/
def ZA (w : World) (L : List ByteArray) (xb lb eb pb pp qp qv S R : Nat) (ch : List PanicEntry) (W : World) : Prop :=
  ∃ ln er rb, ch = failC ln er ∧ linesV 0 ⟨[], [], []⟩ L = .error (ln, er) ∧ JF w xb lb eb pb pp qp qv S R rb W
theorem linesV_drop {L : List ByteArray} {k : Nat} {x : ByteArray} {t : StV} (h : L[k]? = some x) : linesV k t (L.drop k) = match doV ((k : Int) + 1) t x with
    | .ok t' => linesV (k + 1) t' (L.drop (k + 1))
    | .error e => .error ((k : Int) + 1, e) := by
  have hl := (List.getElem?_eq_some_iff.1 h).1
  rw [List.drop_eq_getElem_cons hl]
  have e : L[k] = x := by rw [List.getElem?_eq_getElem hl] at h; exact Option.some.inj h
  rw [e]
  rfl
theorem KeptBut.own {S : Nat → Prop} {pb qs R : Nat} {W W' : World} (h : KeptBut S W W') (hs : ∀ k, S k → Own pb qs R k) : KeptBut (Own pb qs R) W W' := h.mono fun k _ e => hs k e
set_option maxRecDepth 100000 in
set_option maxHeartbeats 4000000 in
theorem cAsm {s : ByteArray} {w : World} (hG : Gl w) (hs : s.size ≤ 1048576) (hn : (linesL s).length ≤ 100000) : Calls Tryz.prog 16 #[.string s] w fun e w' => Below w.heap.size w w' ∧ AsmOut w w' e (asmV s) := by
  have hls : ∀ x ∈ linesL s, x.size < 1500000 := fun x hx => by have := splitB_size _ _ _ _ _ hx; omega
  have HG := Lib.hid hG
  have HLS := Lib.hid hls
  have HNN := Lib.hid hn
  clear hG hls hn
  refine calls_of_wpF Tryz.func16 rfl ?_
  simp only [Tryz.ntmps16, List.size_toArray, List.length_cons, List.length_nil, Nat.reduceAdd, Nat.reduceSub, Array.replicate_succ, Array.replicate_zero, List.push_toArray, List.append_toArray, List.nil_append, List.cons_append]
  refine wpF_seq (wpF_of_wp ?_)
  go_wp2_with fail
  refine wpF_seq (wpF_of_wp ?_)
  go_wp2_with fail
  refine wpF_seq (wpF_of_wp ?_)
  go_wp2_with fail
  refine wpF_seq (wpF_of_wp ?_)
  go_wp2_with fail
  refine wpF_seq (wpF_seq (wpF_of_wp ?_))
  go_wp2_with fail
  refine (cLines s _).mono ?_
  rintro e W8 ⟨rfl, hW8⟩
  have START := Lib.hid (startA (s := s) HG.out hW8)
  simp only [World.size_alloc]
  clear hW8
  go_wp2_with fail
  refine wpF_block (it_rangeP rfl (enters_of Tryz.func112 (by kernel_rfl) rfl) ?_)
  intro r hr
  obtain ⟨o, s8, jf, psi, hq⟩ := START.out r
  rw [s8] at hr ⊢
  generalize (W8.alloc _).alloc _ = W10 at *
  simp only [Nat.add_assoc, Nat.reduceAdd] at hr ⊢
  have hl9 : w.heap.size + 9 = w.heap.size + 8 + 1 := rfl
  rw [hl9]
  clear START s8 hl9
  generalize w.heap.size + 1 = lb at *
  generalize w.heap.size + 2 = eb at *
  generalize w.heap.size + 3 = pb at *
  generalize w.heap.size + 4 = pp at *
  generalize w.heap.size + 5 = qs at *
  generalize w.heap.size + 6 = qp at *
  generalize w.heap.size + 7 = qv at *
  generalize w.heap.size + 8 = S at *
  generalize w.heap.size + 10 = R at *
  have hO := Lib.hid o
  have h0 : JA w (linesL s) w.heap.size lb eb pb pp qp qv S R r 0 W10 := ⟨jf, ⟨[], [], []⟩, _, _, _, rfl, StOk.nil, Nat.le_refl _, psi⟩
  refine (cSeq (s := s) (S + 1) qs qp qv (JA w (linesL s) w.heap.size lb eb pb pp qp qv S R r) (ZA w (linesL s) w.heap.size lb eb pb pp qp qv S R) ?hB ?hset ?hY W10 h0 hq (by omega)).mono ?_
  case hB => exact fun k W h => ⟨h.1.sep, h.1.save⟩
  case hset =>
    rintro k W v ⟨h1, t, vb, vn, vh, h2, h3, h4, h5⟩
    have k0 := KeptBut.set (W := W) (S := fun q => q = qs) rfl 0 v
    have ho := hO.out
    refine ⟨h1.kept ho (k0.own fun q e => .inr (.inl e)), t, vb, vn, vh, h2, h3, h4, ?_⟩
    have hne : ∀ q, POwn pb vb vn vh q → ¬ q = qs := fun q hq e => by
      have o3 := ho.o3
      have o4 := ho.o4
      obtain ⟨hs', h6, -⟩ := h5
      rcases hq with e2 | e2 | e2 | e2
      · omega
      · have := (h6.b.lt q e2).1; omega
      · have := (h6.n.lt q e2).1; omega
      · have := (h6.h.lt q e2).1; omega
    obtain ⟨hs', h6, h7⟩ := h5
    refine ⟨hs', h6.kept k0 hne, h7.1, fun i v p e1 e2 => ?_⟩
    obtain ⟨a1, a2, a3, a4, a5⟩ := h7.2 i v p e1 e2
    refine ⟨a1, a2, a3, a4, fun op a b e => ?_⟩
    obtain ⟨ib, b1, b2, b3, c, b4⟩ := a5 op a b e
    exact ⟨ib, b1, b2, b3, c, k0.cells b4 (by have := ho.o3; have := ho.o4; omega)⟩
  case hY =>
    clear h0 jf psi hq o
    rintro k x W ⟨jf, t, vb, vn, vh, hlv, hok, hnl, psi⟩ hx
    refine it_roundP (r := r) (by rw [hr]; exact ⟨_, Tryz.func16⟩) jf.lp (by rw [hr]) (by rw [hr]; rfl) ?_
    have ha' := congrArg Loop.assign hr
    have hb' := congrArg Loop.body hr
    have ht' := congrArg Loop.tmps hr
    have hps := congrArg Loop.params hr
    simp only at ha' hb' ht' hps
    intro rb hrb
    have hbk := it_back hrb (by rw [hr]) (by rw [hr])
    have HB := Lib.hid hbk
    clear hr hbk hrb
    rw [ha', hb', ht', hps]
    clear ha' hb' ht' hps
    have l6 := jf.lp
    have j6 := jf.put hO.out rb
    have p6 := psi.put hO.out rb
    clear jf psi
    gi_wp2
    refine ⟨_, rfl, l6, ?_⟩
    have hqs6 : (W.putObj (S + 1) (.loop rb)).heap[qs]? = W.heap[qs]? := World.putObj_heap_other (by have := hO.out.o3; omega)
    have HQ6 := Lib.hid hqs6
    clear hqs6
    generalize World.putObj _ _ _ = W6 at *
    have HJ := Lib.hid j6
    have HX := Lib.hid hx
    have HLV := Lib.hid (hlv.trans (linesV_drop hx))
    have q1 := (j6.pv.cell 0).trans (show _ = some (Value.pointer (some ⟨pb, 0, none⟩)) from rfl)
    obtain ⟨hs', ps, hh⟩ := p6
    have q2 := (ps.c.cell 0).trans (show _ = some (Value.int .i64 k) from rfl)
    have f2 := ps.c.frozen 0
    have hkl := (List.getElem?_eq_some_iff.1 hx).1
    have hkn := HNN.out
    have P6 : PSI W6 R pb vb vn vh k t := ⟨hs', ps, hh⟩
    have HP := Lib.hid P6
    have hne1 : pb ≠ pp := by have := hO.out.o3; omega
    have hne2 : pp ≠ pb := Ne.symm hne1
    clear j6 l6 hx hlv ps hh P6
    gi_wp2_with fail
    have hk1 : ((k : Int) + 1) = ((k + 1 : Nat) : Int) := by omega
    have P7 : PSI (W6.setCell ⟨pb, 0, none⟩ (.int .i64 ((k : Int) + 1))) R pb vb vn vh ((k : Int) + 1) t := HP.out.atL _
    have k7 := (KeptBut.set (W := W6) (S := fun q => q = pb) rfl 0 (.int .i64 ((k : Int) + 1))).own (pb := pb) (qs := qs) (R := R) (fun q e => .inl e)
    have hqs7 : (W6.setCell ⟨pb, 0, none⟩ (.int .i64 ((k : Int) + 1))).heap[qs]? = W6.heap[qs]? := Below.heap_setCell _ _ _ _ (by have := hO.out.o3; show qs ≠ pb; omega)
    have J7 := Lib.hid (HJ.out.kept hO.out k7)
    have HQS := Lib.hid hqs7
    clear q1 q2 f2 k7 hqs7 HP
    generalize World.setCell _ _ _ = W7 at *
    refine ⟨trivial, rfl, (Free.round _).calls ((cDo (s := x) (line := (k : Int) + 1) J7.out.gl P7 (HLS.out x (List.mem_of_getElem? HX.out)) hok.len (by have := hok.few; have := hok.len; omega) (by omega) J7.out.hR).mono ?_)⟩
    rintro e W9 hx
    have hown7 : ∀ q, POwn pb vb vn vh q → Own pb qs R q := fun q hq => P7.own hq
    cases hd : doV ((k : Int) + 1) t x with
    | ok t' =>
      rw [hd] at hx
      obtain ⟨rfl, vb', vn', vh', p9, k9, o9⟩ := hx
      have hlv := HLV.out
      rw [hd] at hlv
      have hinv := doV_inv hok hd
      have j9 := J7.out.kept hO.out (k9.own hown7)
      have hq9 : W9.heap[qs]? = W7.heap[qs]? := by
        have hql : qs < W7.heap.size := by have := hO.out.o3; have := J7.out.hR; have := hO.out.o4; omega
        refine k9.block qs hql (fun q => ?_)
        have o3 := hO.out.o3
        have o4 := hO.out.o4
        obtain ⟨hs', h6, -⟩ := P7
        rcases q with e2 | e2 | e2 | e2
        · omega
        · have := (h6.b.lt _ e2).1; omega
        · have := (h6.n.lt _ e2).1; omega
        · have := (h6.h.lt _ e2).1; omega
      have HF := Lib.hid (And.intro j9 (And.intro p9 (And.intro hlv (And.intro hinv hq9))))
      clear p9 k9 o9 hlv hinv j9 hq9 P7 hown7
      gi_wp2
      obtain ⟨j9, p9, hlv, hinv, hq9⟩ := HF.out
      refine ⟨j9.lp, .inl ⟨rfl, ?_, ?_⟩⟩
      · rw [HB.out]
        refine ⟨j9.put hO.out r, t', vb', vn', vh', hlv, hinv.1, by omega, ?_⟩
        rw [← hk1]
        exact p9.put hO.out r
      · refine (World.putObj_heap_other (by have := hO.out.o3; omega)).trans (hq9.trans (HQS.out.trans HQ6.out))
    | error er =>
      rw [hd] at hx
      obtain ⟨rfl, k9⟩ := hx
      have hlv := HLV.out
      rw [hd] at hlv
      exact ⟨rfl, .inr ⟨_, rfl, (k : Int) + 1, er, rb, rfl, hlv, J7.out.kept hO.out (k9.own hown7)⟩⟩
  clear h0 jf psi hq o
  rintro e W' (⟨rfl, jf, t, vb, vn, vh, hlv, hok, hnl, psi⟩ | ⟨ch, rfl, ln, er, rb, rfl, hlv, jf⟩)
  · rw [List.drop_length] at hlv
    have hlv : linesV 0 ⟨[], [], []⟩ (linesL s) = .ok t := hlv
    refine ⟨r, jf.lp, by rw [hr]; simp, by rw [hr], ?_⟩
    have j6 := jf.put hO.out { r with state := .exhausted }
    have p6 := psi.put hO.out { r with state := .exhausted }
    clear jf psi
    generalize World.putObj _ _ _ = W6 at *
    clear hr
    refine wpF_of_wp ?_
    obtain ⟨hs', ps, hh⟩ := p6
    obtain ⟨Ah, ch, rfl⟩ := own_slice ps.h
    obtain ⟨Ab, cb, rfl⟩ := own_slice ps.b
    obtain ⟨An, cn, rfl⟩ := own_slice ps.n
    have hhl : hs'.length ≤ 512 := by have := hok.few; have := hok.len; rw [hh.1]; omega
    have q1 := (j6.pv.cell 0).trans (show _ = some (Value.pointer (some ⟨pb, 0, none⟩)) from rfl)
    have q2 := (ps.c.cell 3).trans (show _ = some (Value.slice Ah hs'.length ch) from rfl)
    have HJ := Lib.hid j6
    have HP := Lib.hid (And.intro ps hh)
    have HA := Lib.hid hlv
    have HOK := Lib.hid hok
    have hnn := HNN.out
    clear j6 ps hh hlv hok
    go_wp2_with fail
    obtain ⟨r', hr'⟩ : ∃ r', r' = ({ r with state := .exhausted } : Loop) := ⟨_, rfl⟩
    rw [← hr'] at HJ
    clear hr' q1 q2
    go_loopw [36] (fun i wr => ∃ (k : Nat) (bs : List Int) (ln : Int), k ≤ hs'.length ∧ i = .int .i64 k ∧ JF w w.heap.size lb eb pb pp qp qv S R r' wr ∧ PS wr R pb (.slice Ab t.bs.length cb) (.slice An t.ns.length cn) (.slice Ah hs'.length ch) ln bs t.ns hs' ∧ HolesAt wr (POwn pb (.slice Ab t.bs.length cb) (.slice An t.ns.length cn) (.slice Ah hs'.length ch)) R hs' t.hs ∧ fillsV t.ns t.bs t.hs = fillsV t.ns bs (t.hs.drop k) ∧ bs.length = t.bs.length) (fun i _ => hs'.length - (intOf i).toNat)
    case atStart => exact ⟨0, t.bs, _, Nat.zero_le _, rfl, HJ.out, HP.out.1, HP.out.2, rfl, rfl⟩
    case round =>
      clear HJ
      obtain ⟨k, bs, ln, hk, rfl, jf, ps, hh, hfl, hbl⟩ := hrel
      by_cases hlt : k < hs'.length
      · obtain ⟨hv, hx⟩ : ∃ x, hs'[k]? = some x := ⟨_, List.getElem?_eq_getElem hlt⟩
        obtain ⟨hp, hy⟩ : ∃ x, t.hs[k]? = some x := ⟨_, List.getElem?_eq_getElem (by rw [← hh.1]; exact hlt)⟩
        obtain ⟨g, off, eA, c0, c1, c2, c3⟩ := hole_row ps.h hx
        have q1 := (jf.pv.cell 0).trans (show _ = some (Value.pointer (some ⟨pb, 0, none⟩)) from rfl)
        have hFL := Lib.hid (hfl.trans (fillsV_drop hy))
        have HAT := Lib.hid (hh.2 k hv hp hx hy)
        have HKP := Lib.hid (HOK.out.holes hp (List.mem_of_getElem? hy))
        have HJ := Lib.hid jf
        have HPS := Lib.hid (And.intro ps hh)
        have hl8 := (Below.refl _ wr).alloc (Nat.le_refl _) (.cells hv.cells.toArray 89)
        have hpl : pp < wr.heap.size := HJ.out.pv.lt
        have HL8 := Lib.hid hl8
        have HEA := Lib.hid eA
        subst eA
        clear hx hy hfl jf ps hh hl8
        go_wp2_with fail
        have J8 := Lib.hid (HJ.out.kept hO.out ((KeptBut.of_below _ HL8.out).own (pb := pb) (qs := qs) (R := R) (S := fun _ => False) (fun q e => e.elim)))
        have hF := cFill (hv := hv) (hp := hp) (HPS.out.1.below HL8.out) (HPS.out.2.on (KeptBut.of_below _ HL8.out) (fun q e => .inl e)) (HAT.out.on (KeptBut.of_below _ HL8.out) (fun q e => .inl e)) (by rw [hbl]; exact HKP.out) (by rw [hbl]; exact HOK.out.len) HOK.out.names (by omega) (Nat.le_trans HJ.out.hR HL8.out.size)
        have HFC := Lib.hid hF
        clear hF q1 c0 c1 c2 c3
        refine HFC.out.mono ?_
        rintro e W9 hx
        cases hd : fillV t.ns bs hp with
        | ok bs' =>
          rw [hd] at hx
          have hfl := hFL.out
          rw [hd] at hfl
          obtain ⟨rfl, p9, h9, k9⟩ := hx
          have HF := Lib.hid (And.intro (J8.out.kept hO.out (k9.own (fun q e => e.imp id .inr))) (And.intro p9 (And.intro h9 (And.intro hfl ((fillV_inv hd).trans hbl)))))
          clear p9 h9 k9 hfl
          go_wp2
          go_roundw
          case rel =>
            obtain ⟨a1, a2, a3, a4, a5⟩ := HF.out
            exact ⟨k + 1, bs', _, by omega, by go_num, a1, a2, a3, a4, a5⟩
          case measure => simp [intOf]; omega
        | error er =>
          rw [hd] at hx
          have hfl := hFL.out
          rw [hd] at hfl
          obtain ⟨rfl, k9⟩ := hx
          have hasm := asmV_fill hs HA.out hfl
          exact leaveErr hO.out (J8.out.kept hO.out (k9.own (fun q e => e.imp id .inr))) rfl rfl rfl (fun W' hb => ⟨hb, by rw [hasm]; rfl⟩)
      · obtain rfl : k = hs'.length := by omega
        have hfl' : fillsV t.ns t.bs t.hs = .ok bs := by
          rw [hfl, hh.1, List.drop_length]; rfl
        have hasm := asmV_ok hs HA.out hfl'
        have q1 := (jf.pv.cell 0).trans (show _ = some (Value.pointer (some ⟨pb, 0, none⟩)) from rfl)
        have p1 := (ps.c.cell 1).trans (show _ = some (Value.slice Ab t.bs.length cb) from rfl)
        have p2 := (ps.c.cell 2).trans (show _ = some (Value.slice An t.ns.length cn) from rfl)
        have x0 := (jf.res.x.cell 0).trans (show _ = some (Value.slice none 0 0) from rfl)
        have x1 := (jf.res.x.cell 1).trans (show _ = some (Value.slice none 0 0) from rfl)
        have y0 := (jf.res.l.cell 0).trans (show _ = some (Value.int .i64 0) from rfl)
        have y1 := (jf.res.e.cell 0).trans (show _ = some (Value.int .i64 0) from rfl)
        have fx0 := jf.res.x.frozen 0
        have fx1 := jf.res.x.frozen 1
        have fl := jf.res.l.frozen 0
        have fe := jf.res.e.frozen 0
        have nxl := jf.res.xl
        have nxe := jf.res.xe
        have nle := jf.res.le
        have HJ := Lib.hid jf
        have HPS := Lib.hid ps
        have HASM := Lib.hid hasm
        clear jf ps hh hfl hfl' hasm
        go_wp2_with fail
        obtain ⟨W9, e9, r9, k9⟩ := lay3 HJ.out.res (.slice Ab t.bs.length cb) (.slice An t.ns.length cn)
        rw [← e9]
        clear e9
        have o1 := hO.out.o1
        have o2 := hO.out.o2
        have o3 := hO.out.o3
        have o4 := hO.out.o4
        have hRS : ∀ q, (q = w.heap.size ∨ q = lb ∨ q = eb) → ¬ R ≤ q := fun q e => by omega
        have d9 : W9.heap[S]? = some (.deferred (some [])) := (k9.block S (by have := HJ.out.hR; omega) (fun e => by omega)).trans HJ.out.dfr
        have b9 : Below w.heap.size w W9 := HJ.out.low.trans (k9.below (n := w.heap.size) (fun q e => by omega) HJ.out.low.size)
        refine leaveOk hO.out d9 r9 rfl rfl rfl ?_
        have kp : KeptBut (fun q => q = S) W9 (W9.putObj S (.deferred none)) := ⟨rfl, rfl, rfl, by simp, fun q _ hq => World.putObj_heap_other hq⟩
        have kall := (k9.mono (S' := fun q => q < R) fun q _ e => by have := hRS q e; omega).trans (kp.mono (S' := fun q => q < R) fun q _ e => by omega)
        refine ⟨b9.trans (kp.below (n := w.heap.size) (fun q e => by omega) b9.size), ?_⟩
        rw [HASM.out]
        have rb := own_base (kall.row HPS.out.b (fun q e h => by have := (HPS.out.b.lt q e).1; omega)) (base' := w.heap.size) (by omega)
        have rn := own_base (kall.row HPS.out.n (fun q e h => by have := (HPS.out.n.lt q e).1; omega)) (base' := w.heap.size) (by omega)
        rw [hbl] at rb
        refine ⟨_, _, rfl, ?_, rn⟩
        rw [hbl]
        exact rb
  · have hasm := asmV_line hs hlv
    exact leaveErr hO.out jf rfl rfl rfl (fun W' hb => ⟨hb, by rw [hasm]; rfl⟩)
end Go.Proofs.YtbfmlmnhdogojaaGreatDoor
