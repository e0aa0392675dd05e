/- The contract of 'played': a disk behind writes, and its bytes by the document. -/
import Derived.Test.YtoplchdnfmcbaaaC
import Derived.Deep.RegionHeld3
namespace Go.Proofs.Ytoplchdnfmcbaaa
open Go.RowKit Go.Shelf

theorem IsDisk.keep {W W' : World} {db mb : Nat} {size : Int} {m : List (Int × List Int)} (h : IsDisk W db mb size m) (h1 : W'.heap[db]? = W.heap[db]?) (h2 : W'.heap[mb]? = W.heap[mb]?) : IsDisk W' db mb size m :=
  ⟨h1.trans h.hd, h.hm.of_block h2, h.good, h.lo, h.hi⟩
/-- What the document's Write leaves. -/
def Wrote (l : List Int) (n : Int) (x l' : List Int) : Prop := if inL l n then Laid l l' x (64 * n.toNat) 64 else l' = l
/-- The document's Write, as one. -/
theorem c20 {w : World} {A : Option Addr} {l : List Int} {c : Nat} (hL : l.length ≤ 65536) (hr : Rd w w.heap.size .u8 A l) (n : Int) (x : List Int) (hx : x.length = 64) (er : Int) (her : er = if inL l n then 0 else 4) :
    Calls Try.prog 20 #[.slice A l.length c, .int .i64 n, secV x] w fun e w' => ∃ A' l' c', e = .returned (.tuple #[.slice A' l'.length c', .int .i64 er]) ∧ Below w.heap.size w w' ∧ Rd w' w'.heap.size .u8 A' l' ∧
      l'.length = l.length ∧ Wrote l n x l' := by
  subst her
  unfold Wrote
  by_cases hn : inL l n
  · simp only [if_pos hn]
    refine (c20_in hL hr n hn x hx).mono ?_
    rintro e w' ⟨g, cap, l', rfl, hb, hl, ho⟩
    exact ⟨_, l', cap, rfl, hb, Rd.of_own ho, hl.1, hl⟩
  · simp only [if_neg hn]
    refine (c20_out (by omega) n hn x).mono ?_
    rintro e w' ⟨rfl, hb⟩
    exact ⟨A, l, c, rfl, hb, (hr.below hb (Nat.le_refl _)).up hb.size, rfl, rfl⟩
/-- The bytes l are the disk's, each sector's being f's. -/
def Rep (l : List Int) (size : Int) (f : Int → List Int) : Prop := (l.length : Int) = 64 * size ∧ ∀ n, 0 ≤ n ∧ n < size → cutL l n = f n
theorem Rep.inL {l : List Int} {size : Int} {f : Int → List Int} (h : Rep l size f) (n : Int) : inL l n ↔ 0 ≤ n ∧ n < size := by
  have := h.1
  unfold Ytoplchdnfmcbaaa.inL; omega
theorem Laid.cut {l l' x : List Int} {n : Int} (h : Laid l l' x (64 * n.toNat) 64) (hn : inL l n) (hx : x.length = 64) (j : Int) (hj : inL l j) : cutL l' j = if j = n then x else cutL l j := by
  have hj' : Ytoplchdnfmcbaaa.inL l' j := by unfold Ytoplchdnfmcbaaa.inL; rw [h.1]; exact hj
  apply List.ext_getElem?
  intro i
  have e1 := hn.1
  have e2 := hj.1
  by_cases hi : i < 64
  · rw [cutL_get hi, h.2]
    by_cases e : j = n
    · subst e
      rw [if_pos (by omega), if_pos rfl]; congr 1; omega
    · rw [if_neg (by omega), if_neg e, cutL_get hi]
  · rw [List.getElem?_eq_none (by rw [cutL_len hj']; omega)]
    by_cases e : j = n
    · rw [if_pos e, List.getElem?_eq_none (by omega)]
    · rw [if_neg e, List.getElem?_eq_none (by rw [cutL_len hj]; omega)]
/-- A script: each step a number and a sector. -/
structure Scr (W : World) (B : Nat) (A : Option Addr) (s : List (Int × List Int)) : Prop where
  some_ : 0 < s.length → ∃ g off, A = some ⟨g, off, none⟩ ∧ g < B
  step : ∀ g off, A = some ⟨g, off, none⟩ → ∀ i n x, s[i]? = some (n, x) → IsSec x ∧ W.cell? ⟨g, off + i * 65, none⟩ = some (.int .i64 n) ∧ W.rangeAt g (off + i * 65 + 1) (x.map (Value.int .u8))
theorem Scr.keep {W W' : World} {B : Nat} {A : Option Addr} {s : List (Int × List Int)} (h : Scr W B A s) (hb : ∀ g, g < B → W'.heap[g]? = W.heap[g]?) : Scr W' B A s :=
  ⟨h.some_, fun g off e i n x hx => by
    obtain ⟨g', off', e', hlt⟩ := h.some_ (by have := (List.getElem?_eq_some_iff.1 hx).1; omega)
    have : g' = g := by rw [e] at e'; simp at e'; exact e'.1.symm
    subst this
    obtain ⟨h1, h2, h3⟩ := h.step _ off e i n x hx
    exact ⟨h1, (World.cell?_of_block (hb _ hlt)).trans h2, fun j v hv => (World.cell?_of_block (hb _ hlt)).trans (h3 j v hv)⟩⟩

theorem Rd.grown {W W' : World} {B mb : Nat} {k k' : IntKind} {A : Option Addr} {l : List Int} {m : List (Int × Value)} (h : Rd W B k A l) (hm : MapAt k' W mb m) (hg : W.grownBy W' (some mb)) (hB : B ≤ W.heap.size) : Rd W' B k A l :=
  ⟨h.some_, fun g off e i x hx => by
    obtain ⟨g', off', e', hlt⟩ := h.some_ (by have := (List.getElem?_eq_some_iff.1 hx).1; omega)
    have : g' = g := by rw [e] at e'; simp at e'; exact e'.1.symm
    subst this
    have hc := h.cell _ off e i x hx
    have hne : g' ≠ mb := by
      rintro rfl
      obtain ⟨es, c, h1, _⟩ := hm
      simp [World.cell?, h1] at hc
    exact (World.cell?_of_block (hg.block _ (by simp; omega) (by simp; exact hne))).trans hc⟩
theorem zerosN (n : Nat) : (madeCells (Value.int .u8 0).cells (n * 1)).toList = (List.replicate n (0 : Int)).map (Value.int .u8) := by
  have h : (Value.int .u8 0).cells = #[.int .u8 0] := rfl
  rw [h, toList_madeCells_one, List.map_replicate, Nat.mul_one]
theorem c15_er {w : World} {db mb : Nat} {size : Int} {m : List (Int × List Int)} (h : IsDisk w db mb size m) (n : Int) (l : List Int) (hl : IsSec l) (er : Int) (her : er = if 0 ≤ n ∧ n < size then 0 else 4) :
    Calls Try.prog 15 #[.pointer (some ⟨db, 0, none⟩), .int .i64 n, secV l] w fun e w' => e = .returned (.int .i64 er) ∧ w.grownBy w' (some mb) ∧
      ∃ m', IsDisk w' db mb size m' ∧ ∀ j, 0 ≤ j ∧ j < size → secL m' j = if j = n then l else secL m j := by
  subst her; exact c15_all h n l hl
set_option maxRecDepth 100000 in
theorem c10 {w : World} {A : Option Addr} {s : List (Int × List Int)} {c : Nat} (size : Nat) (h0 : 1 ≤ size) (h1 : size ≤ 32) (hs : Scr w w.heap.size A s) (hlen : s.length < 9223372036854775807) :
    Calls Try.prog 10 #[.int .i64 size, .slice A s.length c] w fun e w' => ∃ db mb m A' l c', e = .returned (.tuple #[.pointer (some ⟨db, 0, none⟩), .slice A' l.length c', .bool true]) ∧
      Below w.heap.size w w' ∧ w.heap.size ≤ db ∧ w.heap.size ≤ mb ∧ IsDisk w' db mb size m ∧ Rd w' w'.heap.size .u8 A' l ∧ Rep l size (secL m) := by
  obtain ⟨i0, hi0, hz0, hz1, hz2⟩ := info_parts info5
  go_enter Try.func10, Try.ntmps10
  go_wp2_with fail
  refine (c22 size (by omega) (by omega) w).mono ?_
  rintro e W1 ⟨rfl, hb1, hd1⟩
  go_wp2_with (first
    | (at_make
       refine wpList_make_full _ rfl (.tmp 19) (.tmp 19) 25 rfl w.heap.size 5 i0 _ 1 Try.underlying25 hi0 hz0 hz1 .i64 .i64 _ _ (64 * size) rfl rfl (by omega) (by omega) (by rw [hz2]; omega) (by simp only [maxLen]; omega) hb1.size ?_
       intro W2 ho2 hg2))
  rw [zerosN] at ho2
  have hb2 : Below w.heap.size w W2 := hb1.grown hg2 hb1.size (by simp)
  have hd2 : IsDisk W2 (w.heap.size + 1) w.heap.size size [] := hd1.keep (hg2.block _ hd1.hd.lt (by simp)) (hg2.block _ hd1.hm.lt (by simp))
  have hl2 : (List.replicate (64 * size) (0 : Int)).length = 64 * size := List.length_replicate
  have hr2 : Rd W2 W2.heap.size .u8 (some ⟨W1.heap.size, 0, none⟩) (List.replicate (64 * size) 0) := Rd.of_own (base := w.heap.size) (e := 5) (cap := 64 * size) (by rw [hl2]; exact ho2)
  have hrep2 : Rep (List.replicate (64 * size) 0) size (secL []) := by
    refine ⟨by rw [hl2]; omega, fun n hn => ?_⟩
    obtain ⟨n, rfl⟩ := Int.eq_ofNat_of_zero_le hn.1
    simp only [cutL, secL, List.lookup, Option.getD_none, zeros, List.drop_replicate, List.take_replicate]
    congr 1; simp; omega
  go_loopw [9, 10] (fun b i wr => ∃ k : Nat, k ≤ s.length ∧ i = .int .i64 k ∧ ∃ A' l c' m, b = .slice A' l.length c' ∧ Rd wr wr.heap.size .u8 A' l ∧ Rep l size (secL m) ∧
      IsDisk wr (w.heap.size + 1) w.heap.size size m ∧ Below w.heap.size w wr) (fun _ i _ => s.length - (intOf i).toNat)
  case atStart => exact ⟨0, by omega, rfl, _, _, _, _, by rw [hl2], hr2, hrep2, hd2, hb2⟩
  case round =>
    obtain ⟨k, hk, rfl, A', l, c', m, rfl, hr, hrep, hd, hb⟩ := hrel
    rcases Nat.lt_or_ge k s.length with hk' | hk'
    · obtain ⟨g, off, rfl, hg⟩ := hs.some_ (by omega)
      obtain ⟨n, x, hsk⟩ : ∃ n x, s[k]? = some (n, x) := ⟨_, _, List.getElem?_eq_getElem hk'⟩
      obtain ⟨hsec, hcn, hcb⟩ := (hs.keep hb.block).step g off rfl k n x hsk
      have hgw : g < wr.heap.size := by have := hb.size; omega
      have hll : l.length ≤ 65536 := by have := hrep.1; omega
      have hxl : (x.map (Value.int .u8)).length = 64 := by rw [List.length_map]; exact hsec.1
      have hx1 : ∀ v ∈ x.map (Value.int .u8), v.oneCell' = true := by simp [Value.oneCell']
      have hi28 : (Try.prog.info? 28).map (·.size) = some (x.map (Value.int .u8)).length := by rw [hxl]; kernel_rfl
      have hu28 := Try.underlying28
      obtain ⟨er, her0⟩ : ∃ er : Int, er = if inL l n then 0 else 4 := ⟨_, rfl⟩
      have her := (show Go.Shut (er = if inL l n then 0 else 4) from her0)
      clear her0
      go_wp2_with fail
      go_region_held3 (fun w' => w'.cell? ⟨g, off + k * 65, none⟩ = some (.int .i64 n) ∧ w'.rangeAt g (off + k * 65 + 1) (x.map (Value.int .u8)))
        (first | go_keep_ranges | (refine ⟨(World.cell?_of_block (hb3.block _ hgw)).trans hcn, fun j v hv => (World.cell?_of_block (hb3.block _ hgw)).trans (hcb j v hv)⟩))
        ((go_at_call 20; refine (c20 hll (hr.keep (W' := wr.drew) (fun _ _ => rfl)) n x hsec.1 er her.out).mono ?_; rintro e w3 ⟨A3, l3, c3, rfl, hb3, hr3, hl3, hm3⟩))
      have hd3 := (hd.keep (W' := wr.drew) rfl rfl).below hb3
      have hb3' : Below w.heap.size w w3 := hb.drew.trans (hb3.mono hb.size)
      have hcn3 : w3.cell? ⟨g, off + k * 65, none⟩ = some (.int .i64 n) := (World.cell?_of_block (hb3.block _ hgw)).trans hcn
      have hcb3 : w3.rangeAt g (off + k * 65 + 1) (x.map (Value.int .u8)) := fun j v hv => (World.cell?_of_block (hb3.block _ hgw)).trans (hcb j v hv)
      have hg3 : g < w3.heap.size := by have := hb3'.size; omega
      clear hb3 hcn hcb
      have her' : er = if 0 ≤ n ∧ n < (size : Int) then 0 else 4 := by rw [her.out]; simp only [hrep.inL n]
      have hc15 := Lib.hid (c15_er (hd3.keep (W' := w3.drew) rfl rfl) n x hsec er her')
      clear her'
      go_wp2_with fail
      go_region_held3 (fun w' => w'.cell? ⟨g, off + k * 65, none⟩ = some (.int .i64 n) ∧ w'.rangeAt g (off + k * 65 + 1) (x.map (Value.int .u8)))
        (first | go_keep_ranges | (refine ⟨(World.cell?_of_block (hg4.block g hg3 (by simp; omega))).trans hcn3, fun j v hv => (World.cell?_of_block (hg4.block g hg3 (by simp; omega))).trans (hcb3 j v hv)⟩))
        (first
          | (go_at_call 15; refine hc15.out.mono ?_; rintro e w4 ⟨rfl, hg4, m4, hd4, hm4⟩)
          | (go_at_call 13; refine (c13 er _).mono ?_; rintro e w5 ⟨rfl, rfl⟩))
      have hr4 := ((hr3.keep (W' := w3.drew) (fun _ _ => rfl)).grown (hd3.keep (W' := w3.drew) rfl rfl).hm hg4 (Nat.le_refl _)).up hg4.size
      have hrep4 : Rep l3 size (secL m4) := by
        refine ⟨by rw [hl3]; exact hrep.1, fun j hj => ?_⟩
        rw [hm4 j hj]
        have e1 := hrep.2 j hj
        unfold Wrote at hm3
        by_cases hn : inL l n
        · rw [if_pos hn] at hm3
          rw [hm3.cut hn hsec.1 j ((hrep.inL j).2 hj), e1]
        · rw [if_neg hn] at hm3
          rw [hm3, e1, if_neg]
          rintro rfl
          exact hn ((hrep.inL j).2 hj)
      have hb4 : Below w.heap.size w w4 := hb3'.drew.trans (below_of_grown hg4 (Nat.le_refl _) hb3'.size)
      clear hm3 hm4 hg4
      go_wp2
      exact ⟨⟨k + 1, by omega, rfl, A3, l3, c3, m4, by rw [hl3], hr4, hrep4, hd4, hb4⟩, by simp [intOf]; omega⟩
    · obtain rfl : k = s.length := by omega
      go_wp2_with (first | (go_at_call 13; refine (c13 _ _).mono ?_; rintro e w5 ⟨rfl, rfl⟩))
      go_ret3
      exact ⟨_, _, m, A', l, c', rfl, hb, by omega, by omega, hd, hr, hrep⟩
end Go.Proofs.Ytoplchdnfmcbaaa
