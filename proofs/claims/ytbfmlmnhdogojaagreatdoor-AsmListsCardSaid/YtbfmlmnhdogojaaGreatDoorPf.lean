/- A line of text: contract. -/
import Derived.Test.YtbfmlmnhdogojaaGreatDoorPe
import Derived.Test.YtbfmlmnhdogojaaGreatDoorAr
import Derived.Deep.RegionHeld3
import Derived.Deep.AppendLies
namespace Go.Proofs.YtbfmlmnhdogojaaGreatDoor
open Go.RowKit Go.Shelf

/-- A text's bytes. -/
def bytesOfS (s : ByteArray) : List Int := s.data.toList.map fun b => (b.toNat : Int)
theorem bytesOfS_len (s : ByteArray) : (bytesOfS s).length = s.size := by simp [bytesOfS]
section
variable {W : World} {R pb : Nat} {vb vn vh : Value} {line : Int} {bs : List Int} {ns : List (ByteArray × Int)} {hs : List HoleV} {s : ByteArray}
theorem rd_bytes (W : World) (e : TypeId) (s : ByteArray) : Rd (Lib.bytesWorld W e s) (Lib.bytesWorld W e s).heap.size .u8 (some ⟨W.heap.size, 0, none⟩) (bytesOfS s) := by
  refine ⟨fun _ => ⟨_, _, rfl, by rw [Lib.bytesWorld_size]; omega⟩, fun g off e i x hx => ?_⟩
  simp at e
  obtain ⟨rfl, rfl⟩ := e
  have hi : i < s.size := by rw [← bytesOfS_len]; exact (List.getElem?_eq_some_iff.1 hx).1
  rw [Nat.zero_add, Lib.bytesWorld_cell _ _ _ _ hi]
  unfold bytesOfS at hx
  rw [List.getElem?_map] at hx
  have hl : i < s.data.toList.length := by rw [size_list]; exact hi
  rw [List.getElem?_eq_getElem hl] at hx
  simp at hx
  rw [← hx]
  simp [List.getD, hi]
theorem cKind3 (h : PS W R pb vb vn vh line bs ns hs) (hs' : 0 < s.size) (hlen : bs.length + s.size ≤ 2048) (hR : R ≤ W.heap.size) :
    Calls Tryz.prog 102 #[.pointer (some ⟨pb, 0, none⟩), .string s] W fun e W' => e = .returned (.tuple #[]) ∧ ∃ vb', PS W' R pb vb' vn vh line (bs ++ bytesOfS s) ns hs ∧ KeptBut (fun k => k = pb ∨ vb.ownBlock = some k) W W' ∧ ∀ k, vb'.ownBlock = some k → vb.ownBlock = some k ∨ W.heap.size ≤ k := by
  have cv := Lib.run_convert_string_bytes W 9 24 5 s Tryz.underlying9 Tryz.underlying24 Tryz.underlying5
  have hb : Below W.heap.size W (Lib.bytesWorld W 5 s) := Joins.below_bytesWorld _ _ _ _ (Nat.le_refl _)
  have hrd := rd_bytes W 5 s
  have hl := bytesOfS_len s
  obtain ⟨cp, hcp⟩ : ∃ c, c = grownCap W s.size 0 5 := ⟨_, rfl⟩
  rw [← hcp] at cv
  have HP := cPut (c := cp) (h.below hb) hrd (by omega) (by omega) (Nat.le_trans hR hb.size)
  rw [hl] at HP
  have HPut := Lib.hid HP
  have HB := Lib.hid hb
  clear HP hrd hl hb h hcp
  generalize Lib.bytesWorld W 5 s = W1 at *
  go_enter Tryz.func102, Tryz.ntmps102
  go_wp2_with fail
  refine HPut.out.mono ?_
  rintro e W4 ⟨rfl, vb', ps, kb, ho⟩
  have HF := Lib.hid (And.intro ps (And.intro kb ho))
  clear ps kb ho
  go_wp2
  go_end0
  obtain ⟨ps, kb, ho⟩ := HF.out
  exact ⟨rfl, vb', ps, (KeptBut.of_below _ HB.out).trans kb, fun k e => (ho k e).imp id (fun h => Nat.le_trans HB.out.size h)⟩
end
end Go.Proofs.YtbfmlmnhdogojaaGreatDoor
namespace Go.Proofs.YtbfmlmnhdogojaaGreatDoor
open Go.RowKit Go.Shelf

/-- A word's bytes. -/
def fourI (n : Int) : List Int := [n % 256, n / 256 % 256, n / 65536 % 256, n / 16777216 % 256]
theorem cell_lit (W : World) (t : TypeId) (l : List Value) : ∀ j u, l[j]? = some u → (W.alloc (.cells l.toArray t)).cell? ((⟨W.heap.size, 0, none⟩ : Addr).add j) = some u := fun j u hu => by
  rw [addr_add, Nat.zero_add, (Cells.new W t l.toArray).cell j]
  simpa using hu
set_option maxRecDepth 100000 in
set_option maxHeartbeats 1000000 in
theorem cWordN {W : World} {base ch cp ca : Nat} {P va : Value} {xs : List Int} {x : ByteArray} (hG : Gl W) (hs : x.size < 4294967281) (hn : numB x (-2147483648) 4294967295 = true) (hm : nameB x = false) (hp : Cells W cp 79 #[P]) (ha : Cells W ca 24 #[va])
    (ho : W.ownsRow base 5 1 va xs.length (xs.map (Value.int .u8))) (hca : ca < base) (hbase : base ≤ W.heap.size) (hlen : xs.length ≤ 1000000000) :
    Calls Tryz.prog 97 #[.string x, .pointer (some ⟨ch, 0, none⟩), .pointer (some ⟨cp, 0, none⟩), .pointer (some ⟨ca, 0, none⟩)] W fun e W' => e = .returned (.tuple #[]) ∧ ∃ va', Cells W' ca 24 #[va'] ∧ W'.ownsRow base 5 1 va' (xs ++ fourI (numV x)).length ((xs ++ fourI (numV x)).map (Value.int .u8)) ∧ KeptBut (fun b => b = ca ∨ va.ownBlock = some b) W W' ∧ ∀ k, va'.ownBlock = some k → va.ownBlock = some k ∨ W.heap.size ≤ k := by
  obtain ⟨i0, hi0, hz0, hz1, hz2⟩ := info_parts info_u8
  obtain ⟨n1, n2⟩ := numB_bounds hn
  have HN := Lib.hid (cNum (lo := -2147483648) (hi := 4294967295) hG hs)
  rw [hn] at HN
  obtain ⟨n, hnv⟩ : ∃ n, n = numV x := ⟨_, rfl⟩
  rw [← hnv] at HN n1 n2 ⊢
  have HP := Lib.hid hp
  have HA := Lib.hid ha
  have HO := Lib.hid ho
  clear hnv hn hp ha ho hG
  obtain ⟨Aa, c, rfl⟩ := own_slice HO.out
  go_enter Tryz.func97, Tryz.ntmps97
  go_wp2_with fail
  refine HN.out.mono ?_
  rintro e W1 ⟨rfl, hb⟩
  have HB1 := Lib.hid hb
  clear hb HN
  go_wp2_with fail
  refine (cNm x W1).mono ?_
  rintro e W2 ⟨rfl, hb⟩
  rw [hm]
  have HB := Lib.hid (HB1.out.trans (hb.mono HB1.out.size))
  clear hb HB1
  have q0 := ((HP.out.below HB.out HP.out.lt).cell 0).trans (show _ = some P from rfl)
  have HA1 := Lib.hid (HA.out.below HB.out HA.out.lt)
  have HO1 := Lib.hid (own_new HO.out HB.out)
  clear HP HA HO
  go_wp2_with fail
  refine (cMust _ _ _).mono ?_
  rintro e w' ⟨rfl, rfl⟩
  have q1 := (HA1.out.cell 0).trans (show _ = some (Value.slice Aa xs.length c) from rfl)
  have hsz1 : base ≤ W2.heap.size := by have := HB.out.size; omega
  go_wp2_with (first
    | (at_builtin
       refine wpList_append_lies _ rfl _ _ 24 rfl base 5 i0 (.int .u8 0) 1 1 Tryz.underlying24 hi0 hz0 hz1 hz2 rfl (by decide) (.slice Aa xs.length c) _ _ rfl (HO1.out.alloc _) ⟨W2.heap.size, 0, none⟩ 4 4 ((fourI n).map (Value.int .u8)) rfl rfl (cell_lit W2 5 ((fourI n).map (Value.int .u8))) (by simp [Value.oneCell']) (by decide) (by simp only [maxLen]; omega) (by omega) (by simp; omega) _ rfl ?_
       intro g' cap' w1 hown hgrow hat hlt
       have kg := (KeptBut.of_below (fun b => (Value.slice Aa xs.length c).ownBlock = some b) ((Below.refl _ W2).alloc (Nat.le_refl _) (.cells ((fourI n).map (Value.int .u8)).toArray 5))).trans (KeptBut.of_grown hgrow (fun k e => e))
       have hna : ∀ k, (Value.slice Aa xs.length c).ownBlock = some k → k ≠ ca := fun k e => by have := (HO1.out.lt k e).1; omega
       have c1 := kg.cells HA1.out (fun e => hna _ e rfl)
       have q1 := c1.cell 0
       have f1 := c1.frozen 0
       simp at q1
       have hga : g' ≠ ca := by have := HA1.out.lt; rcases hat with e | e
                                · exact hna _ e
                                · rw [World.size_alloc] at e; omega
       have HF := Lib.hid (And.intro (And.intro c1 kg) (And.intro hown (And.intro hga hat)))
       clear c1 hown hgrow hat hlt kg hna hga))
  go_end0
  obtain ⟨⟨c1, kg⟩, hown, hga, hat4⟩ := HF.out
  refine ⟨rfl, _, c1.set 0 _, ?_, ((KeptBut.of_below _ HB.out).trans (kg.mono fun k _ e => .inr e)).trans (KeptBut.set (S := fun b => b = ca ∨ (Value.slice Aa xs.length c).ownBlock = some b) (.inl rfl) 0 _), fun k e => ?_⟩
  · rw [List.length_append, List.map_append]
    exact own_set hown (fun k e => by simp [Value.ownBlock] at e; omega) _ _
  · simp only [Value.ownBlock, Option.some.injEq] at e
    subst e
    rcases hat4 with e | e
    · exact .inl e
    · have := HB.out.size; rw [World.size_alloc] at e; exact .inr (by omega)
end Go.Proofs.YtbfmlmnhdogojaaGreatDoor
namespace Go.Proofs.YtbfmlmnhdogojaaGreatDoor
open Go.RowKit Go.Shelf

theorem info_hole : (Tryz.prog.info? 89).map (fun i => (i.zero, i.size, i.bytes)) = some (some (.agg #[.int .i64 0, .int .i64 0, .pointer none, .string ⟨#[]⟩]), 4, 40) := by kernel_rfl
set_option maxRecDepth 100000 in
set_option maxHeartbeats 1000000 in
theorem cWordM {W : World} {base ch cp ca pb : Nat} {va vl vb vn vh : Value} {R : Nat} {line : Int} {bs : List Int} {ns : List (ByteArray × Int)} {hs : List HoleV} {xs : List Int} {ls : List HoleV} {x : ByteArray} (hG : Gl W) (hs' : x.size < 4294967281) (hm : nameB x = true) (hp : Cells W cp 79 #[.pointer (some ⟨pb, 0, none⟩)]) (ha : Cells W ca 24 #[va]) (hh : Cells W ch 80 #[vl])
    (hP : PS W R pb vb vn vh line bs ns hs)
    (ho : W.ownsRow base 5 1 va xs.length (xs.map (Value.int .u8))) (hl : W.ownsRow base 89 4 vl ls.length (holesV ls)) (hca : ca < base) (hch : ch < base) (hcc : ca ≠ ch) (hav : ∀ k, va.ownBlock = some k → vl.ownBlock ≠ some k) (hbase : base ≤ W.heap.size) (hpb : pb < base) (hcp : cp < base) (hc1 : cp ≠ ch) (hc2 : pb ≠ ch) (hlen : xs.length ≤ 10000000) (hll : ls.length ≤ 10000000) (hbl : bs.length ≤ 2048) :
    Calls Tryz.prog 97 #[.string x, .pointer (some ⟨ch, 0, none⟩), .pointer (some ⟨cp, 0, none⟩), .pointer (some ⟨ca, 0, none⟩)] W fun e W' => e = .returned (.tuple #[]) ∧ ∃ va' vl', (Cells W' ca 24 #[va'] ∧ W'.ownsRow base 5 1 va' (xs ++ fourI 0).length ((xs ++ fourI 0).map (Value.int .u8))) ∧
      (Cells W' ch 80 #[vl'] ∧ W'.ownsRow base 89 4 vl' (ls ++ [(⟨line, bs.length + xs.length, none, x⟩ : HoleV)]).length (holesV (ls ++ [(⟨line, bs.length + xs.length, none, x⟩ : HoleV)]))) ∧ KeptBut (fun b => b = ca ∨ b = ch ∨ va.ownBlock = some b ∨ vl.ownBlock = some b) W W' ∧ ∀ k, va'.ownBlock = some k → vl'.ownBlock ≠ some k := by
  obtain ⟨i0, hi0, hz0, hz1, hz2⟩ := info_parts info_u8
  obtain ⟨j0, hj0, hy0, hy1, hy2⟩ := info_parts info_hole
  have HN := Lib.hid (cNum (lo := -2147483648) (hi := 4294967295) hG hs')
  have HP := Lib.hid hp
  have HA := Lib.hid ha
  have HO := Lib.hid ho
  have HH := Lib.hid hh
  have HL := Lib.hid hl
  have HPS := Lib.hid hP
  clear hp ha ho hG hh hl hP
  obtain ⟨Aa, c, rfl⟩ := own_slice HO.out
  obtain ⟨Al, cl, rfl⟩ := own_slice HL.out
  obtain ⟨Ab, cb, rfl⟩ := own_slice HPS.out.b
  go_enter Tryz.func97, Tryz.ntmps97
  go_wp2_with fail
  refine HN.out.mono ?_
  rintro e W1 ⟨rfl, hb⟩
  have HB1 := Lib.hid hb
  clear hb HN
  go_wp2_with fail
  refine (cNm x W1).mono ?_
  rintro e W2 ⟨rfl, hb⟩
  rw [hm]
  have HB := Lib.hid (HB1.out.trans (hb.mono HB1.out.size))
  clear hb HB1
  have HP2 := Lib.hid (HP.out.below HB.out HP.out.lt)
  have HPS2 := Lib.hid (HPS.out.below HB.out)
  have HA1 := Lib.hid (HA.out.below HB.out HA.out.lt)
  have HO1 := Lib.hid (own_new HO.out HB.out)
  have HH1 := Lib.hid (HH.out.below HB.out HH.out.lt)
  have HL1 := Lib.hid (own_new HL.out HB.out)
  clear HP HA HO HH HL HPS
  have q0 := (HP2.out.cell 0).trans (show _ = some (Value.pointer (some ⟨pb, 0, none⟩)) from rfl)
  have q1 := (HPS2.out.c.cell 0).trans (show _ = some (Value.int .i64 line) from rfl)
  have q2 := (HPS2.out.c.cell 1).trans (show _ = some (Value.slice Ab bs.length cb) from rfl)
  have q3 := (HA1.out.cell 0).trans (show _ = some (Value.slice Aa xs.length c) from rfl)
  have q4 := (HH1.out.cell 0).trans (show _ = some (Value.slice Al ls.length cl) from rfl)
  have hw : IntKind.i64.wrap ((bs.length : Int) + xs.length) = bs.length + xs.length := by rw [IntKind.wrap_i64]; omega
  have qa0 : ∀ o, (W2.drew.alloc o).cell? ⟨cp, 0, none⟩ = some (.pointer (some ⟨pb, 0, none⟩)) := fun o => ((Cells.alloc (show Cells W2.drew cp _ _ from HP2.out) o).cell 0).trans rfl
  have qa1 : ∀ o, (W2.drew.alloc o).cell? ⟨pb, 0, none⟩ = some (.int .i64 line) := fun o => ((Cells.alloc (show Cells W2.drew pb _ _ from HPS2.out.c) o).cell 0).trans rfl
  have qa2 : ∀ o, (W2.drew.alloc o).cell? ⟨pb, 1, none⟩ = some (.slice Ab bs.length cb) := fun o => ((Cells.alloc (show Cells W2.drew pb _ _ from HPS2.out.c) o).cell 1).trans rfl
  have qa3 : ∀ o, (W2.drew.alloc o).cell? ⟨ca, 0, none⟩ = some (.slice Aa xs.length c) := fun o => ((Cells.alloc (show Cells W2.drew ca _ _ from HA1.out) o).cell 0).trans rfl
  have qa4 : ∀ o, (W2.drew.alloc o).cell? ⟨ch, 0, none⟩ = some (.slice Al ls.length cl) := fun o => ((Cells.alloc (show Cells W2.drew ch _ _ from HH1.out) o).cell 0).trans rfl
  go_wp2_with fail
  have hne : ∀ j, j < base → (Value.slice Al ls.length cl).ownBlock ≠ some j := fun j hj e => by have := (HL1.out.lt j e).1; omega
  have n1 := hne cp hcp
  have n2 := hne pb hpb
  have n3 := hne ca hca
  have n4 := hne ch hch
  have hcpl := HP2.out.lt
  have hpbl := HPS2.out.c.lt
  have hcal := HA1.out.lt
  have hchl := HH1.out.lt
  have f4 := HH1.out.frozen 0
  have fa : ∀ o, (W2.drew.alloc o).frozen? ⟨ch, 0, none⟩ = false := fun o => (Cells.alloc (show Cells W2.drew ch _ _ from HH1.out) o).frozen 0
  have hbs2 : base ≤ W2.heap.size := by have := HB.out.size; omega
  clear hne
  refine wp_region_noPanic ?_
  refine wp_region_held_drew (S := fun w' => w'.cell? ⟨cp, 0, none⟩ = some (.pointer (some ⟨pb, 0, none⟩)) ∧ w'.cell? ⟨pb, 0, none⟩ = some (.int .i64 line) ∧ w'.cell? ⟨pb, 1, none⟩ = some (.slice Ab bs.length cb) ∧ w'.cell? ⟨ca, 0, none⟩ = some (.slice Aa xs.length c)) (by kernel_rfl) ⟨q0, q1, q2, q3⟩ (fun hHeld => ?_)
  refine wpAnyH_take (i := 1) (oi := ⟨some 15, _, _, _, _, _⟩) (v := ?_) rfl (by as_aux_lemma => kernel_rfl) (by as_aux_lemma => kernel_rfl) (by as_aux_lemma => kernel_rfl) (fun _ _ _ h => h) (Or.inl ⟨by kernel_rfl, ?_⟩) (by assumption) ?_
  rotate_left
  · ((intro w0 hw; obtain ⟨c0, c1, c2, c3⟩ := hw; go_simp) <;> with_reducible rfl)
  simp only [Act.put, List.setIfInBounds_toArray, List.set_cons_zero, List.set_cons_succ]
  refine wpAnyH_take (i := 2) (oi := ⟨some 16, _, _, _, _, _⟩) (v := ?_) rfl (by as_aux_lemma => kernel_rfl) (by as_aux_lemma => kernel_rfl) (by as_aux_lemma => kernel_rfl) (fun _ _ _ h => h) (Or.inl ⟨by kernel_rfl, ?_⟩) (by assumption) ?_
  rotate_left
  · ((intro w0 hw; obtain ⟨c0, c1, c2, c3⟩ := hw; go_simp) <;> with_reducible rfl)
  simp only [Act.put, List.setIfInBounds_toArray, List.set_cons_zero, List.set_cons_succ]
  refine wpAnyH_take (i := 3) (oi := ⟨some 17, _, _, _, _, _⟩) (v := ?_) rfl (by as_aux_lemma => kernel_rfl) (by as_aux_lemma => kernel_rfl) (by as_aux_lemma => kernel_rfl) (fun _ _ _ h => h) (Or.inl ⟨by kernel_rfl, ?_⟩) (by assumption) ?_
  rotate_left
  · ((intro w0 hw; obtain ⟨c0, c1, c2, c3⟩ := hw; go_simp) <;> with_reducible rfl)
  simp only [Act.put, List.setIfInBounds_toArray, List.set_cons_zero, List.set_cons_succ]
  refine wpAnyH_take (i := 4) (oi := ⟨some 18, _, _, _, _, _⟩) (v := ?_) rfl (by as_aux_lemma => kernel_rfl) (by as_aux_lemma => kernel_rfl) (by as_aux_lemma => kernel_rfl) (fun _ _ _ h => h) (Or.inl ⟨by kernel_rfl, ?_⟩) (by assumption) ?_
  rotate_left
  · ((intro w0 hw; obtain ⟨c0, c1, c2, c3⟩ := hw; go_simp) <;> with_reducible rfl)
  simp only [Act.put, List.setIfInBounds_toArray, List.set_cons_zero, List.set_cons_succ]
  refine wpAnyH_take (i := 5) (oi := ⟨some 19, _, _, _, _, _⟩) (v := ?_) rfl (by as_aux_lemma => kernel_rfl) (by as_aux_lemma => kernel_rfl) (by as_aux_lemma => kernel_rfl) (fun _ _ _ h => h) (Or.inl ⟨by kernel_rfl, ?_⟩) (by assumption) ?_
  rotate_left
  · ((intro w0 hw; obtain ⟨c0, c1, c2, c3⟩ := hw; go_simp) <;> with_reducible rfl)
  simp only [Act.put, List.setIfInBounds_toArray, List.set_cons_zero, List.set_cons_succ]
  refine wpAnyH_take (i := 6) (oi := ⟨some 20, _, _, _, _, _⟩) (v := ?_) rfl (by as_aux_lemma => kernel_rfl) (by as_aux_lemma => kernel_rfl) (by as_aux_lemma => kernel_rfl) (fun _ _ _ h => h) (Or.inl ⟨by kernel_rfl, ?_⟩) (by assumption) ?_
  rotate_left
  · ((intro w0 hw; obtain ⟨c0, c1, c2, c3⟩ := hw; go_simp) <;> with_reducible rfl)
  simp only [Act.put, List.setIfInBounds_toArray, List.set_cons_zero, List.set_cons_succ]
  refine wpAnyH_take (i := 7) (oi := ⟨some 21, _, _, _, _, _⟩) (v := ?_) rfl (by as_aux_lemma => kernel_rfl) (by as_aux_lemma => kernel_rfl) (by as_aux_lemma => kernel_rfl) (fun _ _ _ h => h) (Or.inl ⟨by kernel_rfl, ?_⟩) (by assumption) ?_
  rotate_left
  · ((intro w0 hw; obtain ⟨c0, c1, c2, c3⟩ := hw; go_simp) <;> with_reducible rfl)
  simp only [Act.put, List.setIfInBounds_toArray, List.set_cons_zero, List.set_cons_succ]
  refine wpAnyH_take (i := 8) (oi := ⟨some 22, _, _, _, _, _⟩) (v := ?_) rfl (by as_aux_lemma => kernel_rfl) (by as_aux_lemma => kernel_rfl) (by as_aux_lemma => kernel_rfl) (fun _ _ _ h => h) (Or.inl ⟨by kernel_rfl, ?_⟩) (by assumption) ?_
  rotate_left
  · ((intro w0 hw; obtain ⟨c0, c1, c2, c3⟩ := hw; go_simp) <;> with_reducible rfl)
  simp only [Act.put, List.setIfInBounds_toArray, List.set_cons_zero, List.set_cons_succ]
  refine wpAnyH_take (i := 9) (oi := ⟨some 23, _, _, _, _, _⟩) (v := ?_) rfl (by as_aux_lemma => kernel_rfl) (by as_aux_lemma => kernel_rfl) (by as_aux_lemma => kernel_rfl) (fun _ _ _ h => h) (Or.inl ⟨by kernel_rfl, ?_⟩) (by assumption) ?_
  rotate_left
  · ((intro w0 hw; obtain ⟨c0, c1, c2, c3⟩ := hw; go_simp) <;> with_reducible rfl)
  simp only [Act.put, List.setIfInBounds_toArray, List.set_cons_zero, List.set_cons_succ]
  refine wpAnyH_take (i := 10) (oi := ⟨some 24, _, _, _, _, _⟩) (v := ?_) rfl (by as_aux_lemma => kernel_rfl) (by as_aux_lemma => kernel_rfl) (by as_aux_lemma => kernel_rfl) (fun _ _ _ h => h) (Or.inl ⟨by kernel_rfl, ?_⟩) (by assumption) ?_
  rotate_left
  · ((intro w0 hw; obtain ⟨c0, c1, c2, c3⟩ := hw; go_simp) <;> with_reducible rfl)
  simp only [Act.put, List.setIfInBounds_toArray, List.set_cons_zero, List.set_cons_succ]
  refine wpAnyH_take (i := 11) (oi := ⟨some 25, _, _, _, _, _⟩) (v := ?_) rfl (by as_aux_lemma => kernel_rfl) (by as_aux_lemma => kernel_rfl) (by as_aux_lemma => kernel_rfl) (fun _ _ _ h => h) (Or.inl ⟨by kernel_rfl, ?_⟩) (by assumption) ?_
  rotate_left
  · ((intro w0 hw; obtain ⟨c0, c1, c2, c3⟩ := hw; go_simp) <;> with_reducible rfl)
  simp only [Act.put, List.setIfInBounds_toArray, List.set_cons_zero, List.set_cons_succ]
  refine wpAnyH_take (i := 12) (oi := ⟨some 26, _, _, _, _, _⟩) (v := ?_) rfl (by as_aux_lemma => kernel_rfl) (by as_aux_lemma => kernel_rfl) (by as_aux_lemma => kernel_rfl) (fun _ _ _ h => h) (Or.inl ⟨by kernel_rfl, ?_⟩) (by assumption) ?_
  rotate_left
  · ((intro w0 hw; obtain ⟨c0, c1, c2, c3⟩ := hw; go_simp) <;> with_reducible rfl)
  simp only [Act.put, List.setIfInBounds_toArray, List.set_cons_zero, List.set_cons_succ]
  refine wpAnyH_take (i := 13) (oi := ⟨some 27, _, _, _, _, _⟩) (v := ?_) rfl (by as_aux_lemma => kernel_rfl) (by as_aux_lemma => kernel_rfl) (by as_aux_lemma => kernel_rfl) (fun _ _ _ h => h) (Or.inl ⟨by kernel_rfl, ?_⟩) (by assumption) ?_
  rotate_left
  · ((intro w0 hw; obtain ⟨c0, c1, c2, c3⟩ := hw; go_simp) <;> with_reducible rfl)
  simp only [Act.put, List.setIfInBounds_toArray, List.set_cons_zero, List.set_cons_succ]
  refine wpAnyH_take (i := 14) (oi := ⟨some 28, _, _, _, _, _⟩) (v := ?_) rfl (by as_aux_lemma => kernel_rfl) (by as_aux_lemma => kernel_rfl) (by as_aux_lemma => kernel_rfl) (fun _ _ _ h => h) (Or.inl ⟨by kernel_rfl, ?_⟩) (by assumption) ?_
  rotate_left
  · ((intro w0 hw; obtain ⟨c0, c1, c2, c3⟩ := hw; go_simp) <;> with_reducible rfl)
  simp only [Act.put, List.setIfInBounds_toArray, List.set_cons_zero, List.set_cons_succ]
  refine wpAnyH_take (i := 15) (oi := ⟨some 29, _, _, _, _, _⟩) (v := ?_) rfl (by as_aux_lemma => kernel_rfl) (by as_aux_lemma => kernel_rfl) (by as_aux_lemma => kernel_rfl) (fun _ _ _ h => h) (Or.inl ⟨by kernel_rfl, ?_⟩) (by assumption) ?_
  rotate_left
  · ((intro w0 hw; obtain ⟨c0, c1, c2, c3⟩ := hw; go_simp) <;> with_reducible rfl)
  simp only [Act.put, List.setIfInBounds_toArray, List.set_cons_zero, List.set_cons_succ]
  refine wpAnyH_ready (rs := [0, 16]) (by as_aux_lemma => kernel_rfl) (by simp) ?_
  refine AllReadyH.cons rfl (fun K hK => ?_) (AllReadyH.cons rfl (fun K hK => ?_) AllReadyH.nil)
  · go_simp
    refine hK.out _ _ hHeld (fun hHeld => ?_)
    clear hK K
    (try simp only [Act.put, List.setIfInBounds_toArray, List.set_cons_zero, List.set_cons_succ])
    refine wpAnyH_ready (rs := [16]) (by as_aux_lemma => kernel_rfl) (by simp) ?_
    refine AllReadyH.cons rfl (fun K hK => ?_) AllReadyH.nil
    go_simp
    refine hK.out _ _ ⟨qa0 _, qa1 _, qa2 _, qa3 _⟩ (fun hHeld => ?_)
    clear hK K hHeld
    (try simp only [Act.put, List.setIfInBounds_toArray, List.set_cons_zero, List.set_cons_succ])
    refine wpAnyH_ready (rs := [17]) (by as_aux_lemma => kernel_rfl) (by simp) ?_
    refine AllReadyH.cons rfl (fun K hK => ?_) AllReadyH.nil
    rw [if_pos (by kernel_rfl)]
    refine wp_append_lies _ (.tmp 14) (.tmp 30) 80 rfl base 89 j0 (.agg #[.int .i64 0, .int .i64 0, .pointer none, .string ⟨#[]⟩]) 4 40 Tryz.underlying80 hj0 hy0 hy1 hy2 rfl (by decide) (.slice Al ls.length cl) ls.length (holesV ls) rfl (HL1.out.drew.alloc _) ⟨W2.heap.size, 0, none⟩ 1 1 [.int .i64 line, .int .i64 (bs.length + xs.length), .pointer none, .string x] rfl rfl (cell_lit W2.drew 89 [.int .i64 line, .int .i64 (bs.length + xs.length), .pointer none, .string x]) (fun x hx => by simp at hx; rcases hx with rfl | rfl | rfl | rfl <;> rfl) (by decide) (by unfold maxLen; omega) (by omega) (by show base ≤ (W2.alloc _).heap.size; rw [World.size_alloc]; omega) (W2.heap.size + 1) (by simp) ?_
    intro g cap w1 hown hgrow hat hlt
    have y0 : w1.cell? ⟨ch, 0, none⟩ = some (.slice Al ls.length cl) := (hgrow.cell_far _ (by simp; omega) (Ne.symm n4)).trans (qa4 _)
    have yz : w1.frozen? ⟨ch, 0, none⟩ = false := (World.frozen?_of_block (hgrow.block ch (by simp; omega) (Ne.symm n4))).trans (fa _)
    have s0 : w1.cell? ⟨cp, 0, none⟩ = some (.pointer (some ⟨pb, 0, none⟩)) := (hgrow.cell_far _ (by simp; omega) (Ne.symm n1)).trans (qa0 _)
    have s1 : w1.cell? ⟨pb, 0, none⟩ = some (.int .i64 line) := (hgrow.cell_far _ (by simp; omega) (Ne.symm n2)).trans (qa1 _)
    have s2 : w1.cell? ⟨pb, 1, none⟩ = some (.slice Ab bs.length cb) := (hgrow.cell_far _ (by simp; omega) (Ne.symm n2)).trans (qa2 _)
    have s3 : w1.cell? ⟨ca, 0, none⟩ = some (.slice Aa xs.length c) := (hgrow.cell_far _ (by simp; omega) (Ne.symm n3)).trans (qa3 _)
    refine hK.out _ _ ⟨s0, s1, s2, s3⟩ (fun hHeld => ?_)
    clear hK K hHeld
    simp only [Act.put, List.setIfInBounds_toArray]
    refine wpAnyH_ready (rs := [18]) (by as_aux_lemma => kernel_rfl) (by simp) ?_
    refine AllReadyH.cons rfl (fun K hK => ?_) AllReadyH.nil
    go_simp
    have hs : ∀ j, j ≠ ch → (w1.setCell ⟨ch, 0, none⟩ (.slice (some ⟨g, 0, none⟩) (ls.length + 1) cap)).heap[j]? = w1.heap[j]? := fun j hj => Below.heap_setCell _ _ _ _ hj
    refine hK.out _ _ ⟨(World.cell?_of_block (hs cp hc1)).trans s0, (World.cell?_of_block (hs pb hc2)).trans s1, (World.cell?_of_block (hs pb hc2)).trans s2, (World.cell?_of_block (hs ca hcc)).trans s3⟩ (fun hHeld => ?_)
    clear hK K hHeld
    (try simp only [Act.put, List.setIfInBounds_toArray])
    refine wpAnyH_done (by as_aux_lemma => kernel_rfl) ?_ _
    refine NoPanic.normal ?_
    have kg1 := (KeptBut.of_below (fun b => (Value.slice Al ls.length cl).ownBlock = some b) ((Below.refl W2.heap.size W2).alloc (Nat.le_refl _) (.cells #[.int .i64 line, .int .i64 ((bs.length : Int) + xs.length), .pointer none, .string x] 89)).drew).trans (KeptBut.of_grown hgrow (fun k e => e))
    have kg3 := (kg1.mono (S' := fun b => b = ch ∨ (Value.slice Al ls.length cl).ownBlock = some b) (fun k _ e => .inr e)).trans (KeptBut.set (S := fun b => b = ch ∨ (Value.slice Al ls.length cl).ownBlock = some b) (.inl rfl) 0 (.slice (some ⟨g, 0, none⟩) (ls.length + 1) cap))
    have hgc : g ≠ ch := by rcases hat with e | e
                            · exact fun h => n4 (h ▸ e)
                            · omega
    have hco := (kg1.cells HH1.out n4).set 0 (.slice (some ⟨g, 0, none⟩) (ls.length + 1) cap)
    have hro := own_set hown (fun k e => by simp [Value.ownBlock] at e; omega) (B := ch) 0 (.slice (some ⟨g, 0, none⟩) (ls.length + 1) cap)
    have z0 := (World.cell?_of_block (hs cp hc1)).trans s0
    have HA3 := Lib.hid (kg3.cells HA1.out (fun e => e.elim hcc n3))
    have HO3 := Lib.hid (kg3.row HO1.out (fun k e q => q.elim (fun q => by have := (HO1.out.lt k e).1; omega) (hav k e)))
    have hlo := fun k (e : (Value.slice Aa xs.length c).ownBlock = some k) => (HO1.out.lt k e)
    have HG1 := Lib.hid (And.intro (And.intro hco hro) (And.intro (And.intro kg3 hat) (And.intro hgc hlo)))
    have hsz3 : base ≤ (w1.setCell ⟨ch, 0, none⟩ (.slice (some ⟨g, 0, none⟩) (ls.length + 1) cap)).heap.size := by have := kg3.size; omega
    clear hown hgrow hat hlt y0 yz s0 s1 s2 s3 hs kg1 kg3 hgc hco hro HA1 HO1 HH1 HL1 hlo
    generalize World.setCell w1 _ _ = W3 at *
    have HA1 := HA3
    have HO1 := HO3
    clear HA3 HO3 qa0 qa1 qa2 qa3 qa4 fa q0 q1 q2 q3 q4 f4
    go_wp2_with fail
    refine (cMust _ _ _).mono ?_
    rintro e w' ⟨rfl, rfl⟩
    have q1 := (HA1.out.cell 0).trans (show _ = some (Value.slice Aa xs.length c) from rfl)
    go_wp2_with (first
      | (at_builtin
         refine wpList_append_lies _ rfl _ _ 24 rfl base 5 i0 (.int .u8 0) 1 1 Tryz.underlying24 hi0 hz0 hz1 hz2 rfl (by decide) (.slice Aa xs.length c) _ _ rfl (HO1.out.alloc _) ⟨W3.heap.size, 0, none⟩ 4 4 ((fourI 0).map (Value.int .u8)) rfl rfl (cell_lit W3 5 ((fourI 0).map (Value.int .u8))) (by simp [Value.oneCell']) (by decide) (by simp only [maxLen]; omega) (by omega) (by simp; omega) _ rfl ?_
         intro g' cap' w1 hown hgrow hat hlt
         have kg := (KeptBut.of_below (fun b => (Value.slice Aa xs.length c).ownBlock = some b) ((Below.refl _ W3).alloc (Nat.le_refl _) (.cells ((fourI 0).map (Value.int .u8)).toArray 5))).trans (KeptBut.of_grown hgrow (fun k e => e))
         have hna : ∀ k, (Value.slice Aa xs.length c).ownBlock = some k → k ≠ ca := fun k e => by have := (HO1.out.lt k e).1; omega
         have c1 := kg.cells HA1.out (fun e => hna _ e rfl)
         have q1 := c1.cell 0
         have f1 := c1.frozen 0
         simp at q1
         have hga : g' ≠ ca := by have := HA1.out.lt; rcases hat with e | e
                                  · exact hna _ e
                                  · rw [World.size_alloc] at e; omega
         have HF := Lib.hid (And.intro (And.intro c1 kg) (And.intro hown (And.intro hga hat)))
         clear c1 hown hgrow hat hlt kg hna hga))
    go_end0
    obtain ⟨⟨c1, kg⟩, hown, hga, hat4⟩ := HF.out
    obtain ⟨⟨hco, hro⟩, ⟨kg3, hat⟩, hgc, hlo⟩ := HG1.out
    have kF := (kg.mono (S' := fun b => b = ca ∨ (Value.slice Aa xs.length c).ownBlock = some b) (fun k _ e => .inr e)).trans (KeptBut.set (S := fun b => b = ca ∨ (Value.slice Aa xs.length c).ownBlock = some b) (.inl rfl) 0 (.slice (some ⟨g', 0, none⟩) (xs.length + 4) cap'))
    refine ⟨rfl, _, _, ⟨c1.set 0 _, ?_⟩, ⟨kF.cells hco (fun e => e.elim (fun e => hcc e.symm) (fun e => by have := (hlo _ e).1; omega)), ?_⟩, ?_, ?_⟩
    · rw [List.length_append, List.map_append]
      exact own_set hown (fun k e => by simp [Value.ownBlock] at e; omega) _ _
    · have e1 : holesV (ls ++ [(⟨line, bs.length + xs.length, none, x⟩ : HoleV)]) = holesV ls ++ [.int .i64 line, .int .i64 (bs.length + xs.length), .pointer none, .string x] := by simp [holesV, HoleV.cells]
      rw [List.length_append, e1]
      refine kF.row hro (fun k e q => ?_)
      simp [Value.ownBlock] at e
      subst e
      rcases q with q | q
      · rcases hat with e | e
        · exact n3 (q ▸ e)
        · omega
      · rcases hat with e | e
        · exact hav _ q e
        · have := (hlo _ q).2; omega
    · refine ((KeptBut.of_below _ HB.out).trans (kg3.mono fun k _ e => ?_)).trans (kF.mono fun k _ e => ?_)
      · rcases e with e | e
        · exact .inr (.inl e)
        · exact .inr (.inr (.inr e))
      · rcases e with e | e
        · exact .inl e
        · exact .inr (.inr (.inl e))
    · intro k e q
      simp only [Value.ownBlock, Option.some.injEq] at e q
      subst e
      subst q
      rcases hat4 with e | e
      · rcases hat with q | q
        · exact hav _ e q
        · have := (hlo _ e).2; omega
      · have hc := hco.lt
        have hg3 : g < W3.heap.size := (hro.lt g rfl).2
        rw [World.size_alloc] at e
        omega
  · go_simp
    refine hK.out _ _ ⟨qa0 _, qa1 _, qa2 _, qa3 _⟩ (fun hHeld => ?_)
    clear hK K
    (try simp only [Act.put, List.setIfInBounds_toArray, List.set_cons_zero, List.set_cons_succ])
    refine wpAnyH_ready (rs := [0]) (by as_aux_lemma => kernel_rfl) (by simp) ?_
    refine AllReadyH.cons rfl (fun K hK => ?_) AllReadyH.nil
    go_simp
    refine hK.out _ _ hHeld (fun hHeld => ?_)
    clear hK K hHeld
    (try simp only [Act.put, List.setIfInBounds_toArray, List.set_cons_zero, List.set_cons_succ])
    refine wpAnyH_ready (rs := [17]) (by as_aux_lemma => kernel_rfl) (by simp) ?_
    refine AllReadyH.cons rfl (fun K hK => ?_) AllReadyH.nil
    rw [if_pos (by kernel_rfl)]
    refine wp_append_lies _ (.tmp 14) (.tmp 30) 80 rfl base 89 j0 (.agg #[.int .i64 0, .int .i64 0, .pointer none, .string ⟨#[]⟩]) 4 40 Tryz.underlying80 hj0 hy0 hy1 hy2 rfl (by decide) (.slice Al ls.length cl) ls.length (holesV ls) rfl (HL1.out.drew.alloc _) ⟨W2.heap.size, 0, none⟩ 1 1 [.int .i64 line, .int .i64 (bs.length + xs.length), .pointer none, .string x] rfl rfl (cell_lit W2.drew 89 [.int .i64 line, .int .i64 (bs.length + xs.length), .pointer none, .string x]) (fun x hx => by simp at hx; rcases hx with rfl | rfl | rfl | rfl <;> rfl) (by decide) (by unfold maxLen; omega) (by omega) (by show base ≤ (W2.alloc _).heap.size; rw [World.size_alloc]; omega) (W2.heap.size + 1) (by simp) ?_
    intro g cap w1 hown hgrow hat hlt
    have y0 : w1.cell? ⟨ch, 0, none⟩ = some (.slice Al ls.length cl) := (hgrow.cell_far _ (by simp; omega) (Ne.symm n4)).trans (qa4 _)
    have yz : w1.frozen? ⟨ch, 0, none⟩ = false := (World.frozen?_of_block (hgrow.block ch (by simp; omega) (Ne.symm n4))).trans (fa _)
    have s0 : w1.cell? ⟨cp, 0, none⟩ = some (.pointer (some ⟨pb, 0, none⟩)) := (hgrow.cell_far _ (by simp; omega) (Ne.symm n1)).trans (qa0 _)
    have s1 : w1.cell? ⟨pb, 0, none⟩ = some (.int .i64 line) := (hgrow.cell_far _ (by simp; omega) (Ne.symm n2)).trans (qa1 _)
    have s2 : w1.cell? ⟨pb, 1, none⟩ = some (.slice Ab bs.length cb) := (hgrow.cell_far _ (by simp; omega) (Ne.symm n2)).trans (qa2 _)
    have s3 : w1.cell? ⟨ca, 0, none⟩ = some (.slice Aa xs.length c) := (hgrow.cell_far _ (by simp; omega) (Ne.symm n3)).trans (qa3 _)
    refine hK.out _ _ ⟨s0, s1, s2, s3⟩ (fun hHeld => ?_)
    clear hK K hHeld
    simp only [Act.put, List.setIfInBounds_toArray]
    refine wpAnyH_ready (rs := [18]) (by as_aux_lemma => kernel_rfl) (by simp) ?_
    refine AllReadyH.cons rfl (fun K hK => ?_) AllReadyH.nil
    go_simp
    have hs : ∀ j, j ≠ ch → (w1.setCell ⟨ch, 0, none⟩ (.slice (some ⟨g, 0, none⟩) (ls.length + 1) cap)).heap[j]? = w1.heap[j]? := fun j hj => Below.heap_setCell _ _ _ _ hj
    refine hK.out _ _ ⟨(World.cell?_of_block (hs cp hc1)).trans s0, (World.cell?_of_block (hs pb hc2)).trans s1, (World.cell?_of_block (hs pb hc2)).trans s2, (World.cell?_of_block (hs ca hcc)).trans s3⟩ (fun hHeld => ?_)
    clear hK K hHeld
    (try simp only [Act.put, List.setIfInBounds_toArray])
    refine wpAnyH_done (by as_aux_lemma => kernel_rfl) ?_ _
    refine NoPanic.normal ?_
    have kg1 := (KeptBut.of_below (fun b => (Value.slice Al ls.length cl).ownBlock = some b) ((Below.refl W2.heap.size W2).alloc (Nat.le_refl _) (.cells #[.int .i64 line, .int .i64 ((bs.length : Int) + xs.length), .pointer none, .string x] 89)).drew).trans (KeptBut.of_grown hgrow (fun k e => e))
    have kg3 := (kg1.mono (S' := fun b => b = ch ∨ (Value.slice Al ls.length cl).ownBlock = some b) (fun k _ e => .inr e)).trans (KeptBut.set (S := fun b => b = ch ∨ (Value.slice Al ls.length cl).ownBlock = some b) (.inl rfl) 0 (.slice (some ⟨g, 0, none⟩) (ls.length + 1) cap))
    have hgc : g ≠ ch := by rcases hat with e | e
                            · exact fun h => n4 (h ▸ e)
                            · omega
    have hco := (kg1.cells HH1.out n4).set 0 (.slice (some ⟨g, 0, none⟩) (ls.length + 1) cap)
    have hro := own_set hown (fun k e => by simp [Value.ownBlock] at e; omega) (B := ch) 0 (.slice (some ⟨g, 0, none⟩) (ls.length + 1) cap)
    have z0 := (World.cell?_of_block (hs cp hc1)).trans s0
    have HA3 := Lib.hid (kg3.cells HA1.out (fun e => e.elim hcc n3))
    have HO3 := Lib.hid (kg3.row HO1.out (fun k e q => q.elim (fun q => by have := (HO1.out.lt k e).1; omega) (hav k e)))
    have hlo := fun k (e : (Value.slice Aa xs.length c).ownBlock = some k) => (HO1.out.lt k e)
    have HG1 := Lib.hid (And.intro (And.intro hco hro) (And.intro (And.intro kg3 hat) (And.intro hgc hlo)))
    have hsz3 : base ≤ (w1.setCell ⟨ch, 0, none⟩ (.slice (some ⟨g, 0, none⟩) (ls.length + 1) cap)).heap.size := by have := kg3.size; omega
    clear hown hgrow hat hlt y0 yz s0 s1 s2 s3 hs kg1 kg3 hgc hco hro HA1 HO1 HH1 HL1 hlo
    generalize World.setCell w1 _ _ = W3 at *
    have HA1 := HA3
    have HO1 := HO3
    clear HA3 HO3 qa0 qa1 qa2 qa3 qa4 fa q0 q1 q2 q3 q4 f4
    go_wp2_with fail
    refine (cMust _ _ _).mono ?_
    rintro e w' ⟨rfl, rfl⟩
    have q1 := (HA1.out.cell 0).trans (show _ = some (Value.slice Aa xs.length c) from rfl)
    go_wp2_with (first
      | (at_builtin
         refine wpList_append_lies _ rfl _ _ 24 rfl base 5 i0 (.int .u8 0) 1 1 Tryz.underlying24 hi0 hz0 hz1 hz2 rfl (by decide) (.slice Aa xs.length c) _ _ rfl (HO1.out.alloc _) ⟨W3.heap.size, 0, none⟩ 4 4 ((fourI 0).map (Value.int .u8)) rfl rfl (cell_lit W3 5 ((fourI 0).map (Value.int .u8))) (by simp [Value.oneCell']) (by decide) (by simp only [maxLen]; omega) (by omega) (by simp; omega) _ rfl ?_
         intro g' cap' w1 hown hgrow hat hlt
         have kg := (KeptBut.of_below (fun b => (Value.slice Aa xs.length c).ownBlock = some b) ((Below.refl _ W3).alloc (Nat.le_refl _) (.cells ((fourI 0).map (Value.int .u8)).toArray 5))).trans (KeptBut.of_grown hgrow (fun k e => e))
         have hna : ∀ k, (Value.slice Aa xs.length c).ownBlock = some k → k ≠ ca := fun k e => by have := (HO1.out.lt k e).1; omega
         have c1 := kg.cells HA1.out (fun e => hna _ e rfl)
         have q1 := c1.cell 0
         have f1 := c1.frozen 0
         simp at q1
         have hga : g' ≠ ca := by have := HA1.out.lt; rcases hat with e | e
                                  · exact hna _ e
                                  · rw [World.size_alloc] at e; omega
         have HF := Lib.hid (And.intro (And.intro c1 kg) (And.intro hown (And.intro hga hat)))
         clear c1 hown hgrow hat hlt kg hna hga))
    go_end0
    obtain ⟨⟨c1, kg⟩, hown, hga, hat4⟩ := HF.out
    obtain ⟨⟨hco, hro⟩, ⟨kg3, hat⟩, hgc, hlo⟩ := HG1.out
    have kF := (kg.mono (S' := fun b => b = ca ∨ (Value.slice Aa xs.length c).ownBlock = some b) (fun k _ e => .inr e)).trans (KeptBut.set (S := fun b => b = ca ∨ (Value.slice Aa xs.length c).ownBlock = some b) (.inl rfl) 0 (.slice (some ⟨g', 0, none⟩) (xs.length + 4) cap'))
    refine ⟨rfl, _, _, ⟨c1.set 0 _, ?_⟩, ⟨kF.cells hco (fun e => e.elim (fun e => hcc e.symm) (fun e => by have := (hlo _ e).1; omega)), ?_⟩, ?_, ?_⟩
    · rw [List.length_append, List.map_append]
      exact own_set hown (fun k e => by simp [Value.ownBlock] at e; omega) _ _
    · have e1 : holesV (ls ++ [(⟨line, bs.length + xs.length, none, x⟩ : HoleV)]) = holesV ls ++ [.int .i64 line, .int .i64 (bs.length + xs.length), .pointer none, .string x] := by simp [holesV, HoleV.cells]
      rw [List.length_append, e1]
      refine kF.row hro (fun k e q => ?_)
      simp [Value.ownBlock] at e
      subst e
      rcases q with q | q
      · rcases hat with e | e
        · exact n3 (q ▸ e)
        · omega
      · rcases hat with e | e
        · exact hav _ q e
        · have := (hlo _ q).2; omega
    · refine ((KeptBut.of_below _ HB.out).trans (kg3.mono fun k _ e => ?_)).trans (kF.mono fun k _ e => ?_)
      · rcases e with e | e
        · exact .inr (.inl e)
        · exact .inr (.inr (.inr e))
      · rcases e with e | e
        · exact .inl e
        · exact .inr (.inr (.inl e))
    · intro k e q
      simp only [Value.ownBlock, Option.some.injEq] at e q
      subst e
      subst q
      rcases hat4 with e | e
      · rcases hat with q | q
        · exact hav _ e q
        · have := (hlo _ e).2; omega
      · have hc := hco.lt
        have hg3 : g < W3.heap.size := (hro.lt g rfl).2
        rw [World.size_alloc] at e
        omega
end Go.Proofs.YtbfmlmnhdogojaaGreatDoor
