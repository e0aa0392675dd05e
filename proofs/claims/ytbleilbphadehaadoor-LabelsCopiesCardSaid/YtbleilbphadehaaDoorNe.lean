/- Two sets joined: contract. -/
import Derived.Test.YtbleilbphadehaaDoorNd
namespace Go.Proofs.YtbleilbphadehaaDoor
open Go.RowKit Go.Shelf
theorem lo_eq (a b : Int) : (if b < a then b else a) = min a b := by split <;> omega
theorem hi_eq (a b : Int) : (if a < b then b else a) = max a b := by split <;> omega
section
variable {W : World} {base p mn mj : Nat} {sv : Value} {most : Int} {L : List Int} {J : List ((Int × Int) × Int)}
theorem cJoin_a (h : TAt W base p mn mj sv most L J) (hp : 0 < L.length) {a : Int} (ha : ¬ inR L a) (b : Int) : Calls Tryd.prog 21 #[.pointer (some ⟨p, 0, none⟩), .int .i64 a, .int .i64 b] W fun e w' => e = .returned (.tuple #[.int .i64 0, .int .i64 5]) ∧ w' = W := by
  have e1 : setR L a = (0, 5) := if_neg ha
  have h1 := cSet h hp a
  rw [e1] at h1
  clear ha e1
  go_enter Tryd.func21, Tryd.ntmps21
  go_wp2_with fail
  refine h1.mono ?_
  rintro e w' ⟨rfl, rfl⟩
  go_wp2
  refine bodyPost_ret (results_tmp2 rfl _ _ _) rfl ?_
  exact ⟨rfl, rfl⟩
theorem cJoin_b (h : TAt W base p mn mj sv most L J) (hp : 0 < L.length) {a b : Int} (ha : inR L a) (hb : ¬ inR L b) : Calls Tryd.prog 21 #[.pointer (some ⟨p, 0, none⟩), .int .i64 a, .int .i64 b] W fun e w' => e = .returned (.tuple #[.int .i64 0, .int .i64 5]) ∧ w' = W := by
  have e1 : setR L a = (L.getD a.toNat 0, 0) := if_pos ha
  have e2 : setR L b = (0, 5) := if_neg hb
  have h1 := cSet h hp a
  have h2 := cSet h hp b
  rw [e1] at h1
  rw [e2] at h2
  clear ha hb e1 e2
  generalize L.getD a.toNat 0 = x at *
  go_enter Tryd.func21, Tryd.ntmps21
  go_wp2_with fail
  refine h1.mono ?_
  rintro e w' ⟨rfl, rfl⟩
  go_wp2_with fail
  refine h2.mono ?_
  rintro e w' ⟨rfl, rfl⟩
  go_wp2
  refine bodyPost_ret (results_tmp2 rfl _ _ _) rfl ?_
  exact ⟨rfl, rfl⟩
set_option maxHeartbeats 1000000 in
set_option maxRecDepth 100000 in
theorem cJoin_is (h : TAt W base p mn mj sv most L J) (hp : 0 < L.length) {a b n : Int} (ha : inR L a) (hb : inR L b) (hn : J.lookup (min a b, max a b) = some n) : Calls Tryd.prog 21 #[.pointer (some ⟨p, 0, none⟩), .int .i64 a, .int .i64 b] W fun e w' => e = .returned (.tuple #[.int .i64 n, .int .i64 0]) ∧ Below W.heap.size W w' := by
  have e1 : setR L a = (L.getD a.toNat 0, 0) := if_pos ha
  have e2 : setR L b = (L.getD b.toNat 0, 0) := if_pos hb
  have h1 := cSet h hp a
  have h2 := cSet h hp b
  rw [e1] at h1
  rw [e2] at h2
  clear ha hb e1 e2
  generalize L.getD a.toNat 0 = x at *
  generalize L.getD b.toNat 0 = y at *
  go_enter Tryd.func21, Tryd.ntmps21
  go_wp2_with fail
  refine h1.mono ?_
  rintro e w' ⟨rfl, rfl⟩
  go_wp2_with fail
  refine h2.mono ?_
  rintro e w' ⟨rfl, rfl⟩
  go_upto_region 8 with (fail)
  rw [lo_eq] at *
  rw [hi_eq] at *
  generalize min a b = lo at *
  generalize max a b = hi at *
  obtain ⟨k1, kb, ks⟩ := cells1 w' #[.int .i64 lo, .int .i64 hi] 73
  have h3 := h.below kb
  have g0 := (k1.cell 0).trans (show _ = some (Value.int .i64 lo) from rfl)
  have g1 := (k1.cell 1).trans (show _ = some (Value.int .i64 hi) from rfl)
  have c3 := (h3.c.cell 3).trans (show _ = some (Value.map (some mj)) from rfl)
  generalize w'.alloc _ = W2 at *
  have hl := run_lookup_pair_ok (W := W2.drew) (show JAt W2.drew mj J from h3.j) Tryd.underlying61 pairKey (zero_int W2.drew) (lo, hi)
  rw [hn] at hl
  simp only [pairV, Option.map_some, Option.getD_some, Option.isSome_some] at hl
  have KB := Lib.hid kb.drew
  clear h h1 h2 h3 k1 kb ks hn hp
  go_region
  go_wp2
  refine bodyPost_ret (results_tmp2 rfl _ _ _) rfl ?_
  exact ⟨rfl, KB.out⟩
theorem TAt.blk (h : TAt W base p mn mj sv most L J) : ∀ k, TabS p mn mj sv k → k < W.heap.size := by
  rintro k (rfl | rfl | rfl | hk)
  · exact h.c.lt
  · exact h.n.lt
  · exact h.j.lt
  · exact (h.s.lt k hk).2
theorem keepR_ok {x : Int} (hx : x < 65536) (h : (keepR most L x).2.2 = 0) : 0 ≤ (keepR most L x).2.1 ∧ (keepR most L x).1[(keepR most L x).2.1.toNat]? = some x ∧ ∀ (i : Nat) (v : Int), L[i]? = some v → (keepR most L x).1[i]? = some v := by
  unfold keepR at *
  rw [if_neg (by omega)] at *
  cases hi : idxL x L 0 with
  | some n =>
    obtain ⟨_, h2⟩ := idxL_some hi
    exact ⟨by simp, by simpa using h2, fun _ _ h => h⟩
  | none =>
    rw [hi] at h
    by_cases hm : most ≤ L.length
    · simp [hm] at h
    · simp only [hm, if_false]
      refine ⟨by omega, by simp, fun i v hv => ?_⟩
      rw [List.getElem?_append_left (List.getElem?_eq_some_iff.1 hv).1]; exact hv
theorem keepR_e {x : Int} (hx : x < 65536) : (keepR most L x).2.2 = 0 ∨ ((keepR most L x).2.2 = 120 ∧ (keepR most L x).2.1 = 0) := by
  unfold keepR
  rw [if_neg (by omega)]
  cases hi : idxL x L 0 with
  | some n => exact .inl rfl
  | none =>
    by_cases hm : most ≤ L.length
    · simp [hm]
    · simp [hm]
/-- What was joined is written down. -/
theorem tab_joined {W4 : World} {sv4 : Value} {L4 : List Int} {J4 : List ((Int × Int) × Int)} {o : Obj} (t : TAt W4 base p mn mj sv4 most L4 J) (hk : KeptBut (TabS p mn mj sv) W W4) (hs : ∀ k, TabS p mn mj sv4 k → TabS p mn mj sv k ∨ W.heap.size ≤ k) (hj : JAt (W4.putObj mj o) mj J4) : TabTo W (W4.putObj mj o) base p mn mj sv most L4 J4 := by
  have hne := t.ne
  refine ⟨sv4, ⟨t.c.put o hne.2.1, ⟨t.s.1, ?_⟩, t.n.of_block (World.putObj_heap_other t.hne), hj, t.hp, t.hn, t.hj, t.hne⟩, hk.trans (.put (.inr (.inr (.inl rfl))) o), hs⟩
  rcases t.s.2 with hn | ⟨g, cap, cur, rfl, hg, hgg, rest⟩
  · exact .inl hn
  · exact .inr ⟨g, cap, cur, rfl, hg, (World.putObj_heap_other (hne.2.2 g rfl).2.1).trans hgg, rest⟩
set_option maxHeartbeats 2000000 in
set_option maxRecDepth 100000 in
theorem cJoin_new (h : TAt W base p mn mj sv most L J) (ok : TOk most L J) {a b : Int} (ha : inR L a) (hb : inR L b) (hn : J.lookup (min a b, max a b) = none) {R : List Int × Int × Int} (hR : keepR most L (orZ (L.getD a.toNat 0) (L.getD b.toNat 0)) = R) : Calls Tryd.prog 21 #[.pointer (some ⟨p, 0, none⟩), .int .i64 a, .int .i64 b] W fun e w' => e = .returned (.tuple #[.int .i64 R.2.1, .int .i64 R.2.2]) ∧ ∃ J', TabTo W w' base p mn mj sv most R.1 J' ∧ TOk most R.1 J' := by
  have hp := ok.pos
  have e1 : setR L a = (L.getD a.toNat 0, 0) := if_pos ha
  have e2 : setR L b = (L.getD b.toNat 0, 0) := if_pos hb
  have h1 := cSet h hp a
  have h2 := cSet h hp b
  rw [e1] at h1
  rw [e2] at h2
  have bx := ok.get ha
  have by' := ok.get hb
  have ga := Lib.hid (inR_get ha)
  have gb := Lib.hid (inR_get hb)
  have A0 := ha.1
  have B0 := hb.1
  clear ha hb e1 e2
  generalize L.getD a.toNat 0 = x at *
  generalize L.getD b.toNat 0 = y at *
  have hor := or_u32 bx by'
  have bz := orZ_lt bx by'
  have HZ := Lib.hid (show orZ x y = orZ x y from rfl)
  have HJ : Hid (∀ J' n, J' = J ++ [((min a b, max a b), n)] → 0 ≤ n → ∀ L4 : List Int, TOk most L4 J → (∀ (i : Nat) (v : Int), L[i]? = some v → L4[i]? = some v) → L4[n.toNat]? = some (orZ x y) → TOk most L4 J') := Lib.hid (by
    rintro _ n rfl n0 L4 ok4 up hn4
    have ha4 := up _ _ ga.out
    have hb4 := up _ _ gb.out
    have ex : x = ((x.toNat : Nat) : Int) := by omega
    have ey : y = ((y.toNat : Nat) : Int) := by omega
    rcases Int.le_total a b with hab | hab
    · rw [Int.min_eq_left hab, Int.max_eq_right hab]
      exact ok4.joined A0 B0 n0 (by rw [ha4, ← ex]) (by rw [hb4, ← ey]) hn4
    · rw [Int.min_eq_right hab, Int.max_eq_left hab]
      exact ok4.joined B0 A0 n0 (by rw [hb4, ← ey]) (by rw [ha4, ← ex]) (by rw [hn4, orZ_comm]; rfl))
  generalize orZ x y = z at *
  have HE := keepR_e (most := most) (L := L) bz.2
  have HK := fun h => keepR_ok (most := most) (L := L) bz.2 h
  have HT := Lib.hid (fun (W' : World) (h' : TAt W' base p mn mj sv most L J) => cKeep h' ok bz.1)
  rw [hR] at HE HK HT
  have HBLK := Lib.hid h.blk
  clear hR
  obtain ⟨L4, n4, e4⟩ := R
  simp only at HE HK HT ⊢
  have HK := Lib.hid HK
  go_enter Tryd.func21, Tryd.ntmps21
  go_wp2_with fail
  refine h1.mono ?_
  rintro e w' ⟨rfl, rfl⟩
  go_wp2_with fail
  refine h2.mono ?_
  rintro e w' ⟨rfl, rfl⟩
  go_upto_region 8 with (fail)
  rw [lo_eq] at *
  rw [hi_eq] at *
  generalize min a b = lo at *
  generalize max a b = hi at *
  obtain ⟨k1, kb, ks⟩ := cells1 w' #[.int .i64 lo, .int .i64 hi] 73
  have h3 := h.below kb
  have g0 := (k1.cell 0).trans (show _ = some (Value.int .i64 lo) from rfl)
  have g1 := (k1.cell 1).trans (show _ = some (Value.int .i64 hi) from rfl)
  have c3 := (h3.c.cell 3).trans (show _ = some (Value.map (some mj)) from rfl)
  generalize w'.alloc _ = W2 at *
  have hl := run_lookup_pair_ok (W := W2.drew) (show JAt W2.drew mj J from h3.j) Tryd.underlying61 pairKey (zero_int W2.drew) (lo, hi)
  rw [hn] at hl
  simp only [pairV, Option.map_none, Option.getD_none, Option.isSome_none] at hl
  have KB := Lib.hid kb.drew
  have H3 := Lib.hid (show TAt W2.drew base p mn mj sv most L J from h3.below (Below.refl _ _).drew)
  have K1 := Lib.hid (show Cells W2.drew w'.heap.size _ _ from k1)
  have HN := Lib.hid hn
  have H := Lib.hid h
  clear h h1 h2 h3 k1 kb ks hn hp
  go_region
  generalize W2.drew = W3 at *
  go_wp2_with fail
  refine (HT.out W3 H3.out).mono ?_
  rintro e W4 ⟨rfl, ⟨sv4, t4, kb4, hs4⟩, ok4⟩
  have KA : KeptBut (TabS p mn mj sv) w' W4 := (KeptBut.of_below _ KB.out).trans kb4
  have hs5 : ∀ k, TabS p mn mj sv4 k → TabS p mn mj sv k ∨ w'.heap.size ≤ k := fun k hk => by
    rcases hs4 k hk with h | h
    · exact .inl h
    · exact .inr (Nat.le_trans KB.out.size h)
  have HKA := Lib.hid KA
  have HS5 := Lib.hid hs5
  have HO := Lib.hid ok4
  have HT4 := Lib.hid t4
  have k4 := kb4.cells K1.out (fun q => by have := HBLK.out _ q; omega)
  clear KA hs5 kb4 hs4 ok4 t4
  rcases HE with he | ⟨he, hn0⟩
  · have g0 := (k4.cell 0).trans (show _ = some (Value.int .i64 lo) from rfl)
    have g1 := (k4.cell 1).trans (show _ = some (Value.int .i64 hi) from rfl)
    have c3 := (HT4.out.c.cell 3).trans (show _ = some (Value.map (some mj)) from rfl)
    obtain ⟨o, hupd, hj⟩ := run_mapUpdate_pair (W := W4.drew) (show JAt W4.drew mj J from HT4.out.j) Tryd.underlying61 pairKey (lo, hi) n4 HN.out
    simp only [pairV] at hupd
    obtain ⟨n0, q1, q2⟩ := HK.out he
    have HF := Lib.hid (tab_joined (HT4.out.below (Below.refl _ _).drew) (HKA.out.trans (.drew _ _)) HS5.out hj)
    have HG := Lib.hid (HJ.out _ n4 rfl n0 L4 HO.out q2 q1)
    clear k4 hj n0 q1 q2
    subst he
    go_wp2_with fail
    go_region
    go_wp2
    refine bodyPost_ret (results_tmp2 rfl _ _ _) rfl ?_
    exact ⟨rfl, _, HF.out, HG.out⟩
  · subst he
    subst hn0
    clear k4
    go_wp2
    refine bodyPost_ret (results_tmp2 rfl _ _ _) rfl ?_
    exact ⟨rfl, J, ⟨sv4, HT4.out, HKA.out, HS5.out⟩, HO.out⟩
/-- Join, whole. -/
theorem cJoin (h : TAt W base p mn mj sv most L J) (ok : TOk most L J) (a b : Int) : Calls Tryd.prog 21 #[.pointer (some ⟨p, 0, none⟩), .int .i64 a, .int .i64 b] W fun e w' => e = .returned (.tuple #[.int .i64 (joinR most L a b).2.1, .int .i64 (joinR most L a b).2.2]) ∧ ∃ J', TabTo W w' base p mn mj sv most (joinR most L a b).1 J' ∧ TOk most (joinR most L a b).1 J' := by
  by_cases ha : inR L a
  · by_cases hb : inR L b
    · cases hn : J.lookup (min a b, max a b) with
      | some n =>
        rw [ok.cached ha hb hn]
        refine (cJoin_is h ok.pos ha hb hn).mono ?_
        rintro e w' ⟨rfl, hbl⟩
        exact ⟨rfl, J, h.to hbl, ok⟩
      | none =>
        rw [show joinR most L a b = keepR most L (orZ (L.getD a.toNat 0) (L.getD b.toNat 0)) from if_pos ⟨ha, hb⟩]
        exact cJoin_new h ok ha hb hn rfl
    · rw [show joinR most L a b = (L, 0, 5) from if_neg (fun q => hb q.2)]
      refine (cJoin_b h ok.pos ha hb).mono ?_
      rintro e w' ⟨rfl, rfl⟩
      exact ⟨rfl, J, h.to (Below.refl _ _), ok⟩
  · rw [show joinR most L a b = (L, 0, 5) from if_neg (fun q => ha q.1)]
    refine (cJoin_a h ok.pos ha b).mono ?_
    rintro e w' ⟨rfl, rfl⟩
    exact ⟨rfl, J, h.to (Below.refl _ _), ok⟩
end
end Go.Proofs.YtbleilbphadehaaDoor
