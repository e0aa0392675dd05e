/- The document's Keep and Joined: contracts. -/
import Derived.Test.YtbleilbphadehaaDoorNh
namespace Go.Proofs.YtbleilbphadehaaDoor
open Go.RowKit Go.Shelf
theorem own_set {W : World} {base : Nat} {e : TypeId} {v : Value} {n B : Nat} {xs : List Value} (h : W.ownsRow base e 1 v n xs) (hB : ∀ g, v.ownBlock = some g → g ≠ B) (j : Nat) (u : Value) : (W.setCell ⟨B, j, none⟩ u).ownsRow base e 1 v n xs := by
  refine ⟨h.1, ?_⟩
  rcases h.2 with hn | ⟨g, cap, cur, rfl, hg, hgg, rest⟩
  · exact .inl hn
  · exact .inr ⟨g, cap, cur, rfl, hg, (Below.heap_setCell W ⟨B, j, none⟩ u g (hB g rfl)).trans hgg, rest⟩
section
variable {W : World} {A : Option Addr} {cap : Nat} {most : Int} {L : List Int}
theorem news_rd {w : World} {g off n : Nat} (h : Rd w n .u32 (some ⟨g, off, none⟩) L) : ∀ j u, (L.map (Value.int .u32))[j]? = some u → w.cell? ((⟨g, off, none⟩ : Addr).add j) = some u := fun j u hu => by
  rw [List.getElem?_map] at hu
  cases hx : L[j]? with
  | none => rw [hx] at hu; cases hu
  | some x =>
    rw [hx] at hu
    rw [addr_add, h.cell _ _ rfl j x hx]
    simpa using hu
set_option maxHeartbeats 2000000 in
set_option maxRecDepth 100000 in
theorem rKeep_new (hr : Rd W W.heap.size .u32 A L) (hp : 0 < L.length) (hL : L.length < 65536) {x : Int} (hx : x < 65536) (hi : idxL x L 0 = none) (hm : (L.length : Int) < most) : Calls Tryd.prog 34 #[rtV most A L cap, .int .u32 x] W fun e w' => ∃ A' cap', e = .returned (.tuple #[rtV most A' (L ++ [x]) cap', .int .i64 L.length, .int .i64 0]) ∧ Anew W w' A A' (L ++ [x]) := by
  obtain ⟨i0, hi0, hz0, hz1, hz2⟩ := info_parts info_u32
  unfold rtV
  obtain ⟨k1, k2, kb, ks⟩ := cells2 W #[.int .i64 most, .slice A L.length cap] #[.int .i64 0, .slice none 0 0] 51 51
  have hh := rHas (cap := cap) (most := most) ((hr.below kb (Nat.le_refl _)).up kb.size) (by omega) x
  rw [show hasR L x = -1 by unfold hasR; rw [hi]] at hh
  obtain ⟨g, off, rfl, hg⟩ := hr.some_ hp
  have HR := Lib.hid hr
  have HK1 := Lib.hid k1
  have HK2 := Lib.hid k2
  have HB := Lib.hid kb
  have HS := Lib.hid ks
  clear hr k1 k2 kb ks hi
  go_enter Tryd.func34, Tryd.ntmps34
  go_wp2_with fail
  refine hh.mono ?_
  clear hh
  rintro e W2 ⟨rfl, hb⟩
  have l1 := HK1.out.below hb HK1.out.lt
  have l2 := HK2.out.below hb HK2.out.lt
  have hB2 := HB.out.trans (hb.mono HB.out.size)
  have hs2 : W.heap.size + 2 ≤ W2.heap.size := by have := hb.size; have := HS.out; omega
  have hN := Lib.hid (news_rd (HR.out.below hB2 (Nat.le_refl _)))
  have c0 := (l1.cell 0).trans (show _ = some (Value.int .i64 most) from rfl)
  have c1 := (l1.cell 1).trans (show _ = some (Value.slice (some ⟨g, off, none⟩) L.length cap) from rfl)
  have HL1 := Lib.hid l1
  have HL2 := Lib.hid l2
  have HB2 := Lib.hid hB2
  clear l1 l2 hb hB2 HK1 HK2 HB HS
  go_upto_region 8 with (fail)
  go_upto_region 9 with (first
    | (at_builtin; refine wpList_append_lies _ rfl _ _ 22 rfl W2.heap.size 28 i0 (.int .u32 0) 1 4 Tryd.underlying22 hi0 hz0 hz1 hz2 rfl (by decide) (.slice none 0 0) 0 [] rfl (World.ownsRow_nil _ _ _ _) ⟨g, off, none⟩ L.length _ (L.map (Value.int .u32)) rfl (by simp) hN.out (by simp [Value.oneCell']) hp (by simp only [Nat.zero_add, maxLen]; omega) (by omega) (Nat.le_refl _) W2.heap.size rfl ?_; intro g1 cap1 w3 hown1 hgrow1 hat1 hlt1; have hown1 : w3.ownsRow W2.heap.size 28 1 (.slice (some ⟨g1, 0, none⟩) L.length cap1) L.length (L.map (Value.int .u32)) := (by simpa using hown1); have hg1 : g1 = W2.heap.size := hat1.resolve_left (by simp [Value.ownBlock]); have hs3 := hgrow1.size; have m1 := (hgrow1.block W.heap.size (by omega) (by simp [Value.ownBlock])).trans HL1.out; have m2 := (hgrow1.block (W.heap.size + 1) (by omega) (by simp [Value.ownBlock])).trans HL2.out; have HM1 := Lib.hid m1; have HM2 := Lib.hid m2; have HG1 := Lib.hid hgrow1; clear hat1 m1 m2 hgrow1)
    | (at_builtin; refine wpList_push rfl _ _ rfl hown1 (by omega) (by omega) (by simp [Act.eval]) (by simp [Act.eval]) ?_; intro g4 cap4 w4 hown4 hgrow4 hat4; have HG4 := Lib.hid hgrow4; have hs4 := hgrow4.size; have n1 : Cells w4 W.heap.size _ _ := (hgrow4.block W.heap.size (by simp; omega) (by simp [Value.ownBlock]; omega)).trans (Cells.alloc HM1.out _); have n2 : Cells w4 (W.heap.size + 1) _ _ := (hgrow4.block (W.heap.size + 1) (by simp; omega) (by simp [Value.ownBlock]; omega)).trans (Cells.alloc HM2.out _); have HN1 := Lib.hid n1; have HN2 := Lib.hid n2; have c1 := (n1.cell 1).trans (show _ = some (Value.slice (some ⟨g, off, none⟩) L.length cap) from rfl); have f1 := n1.frozen 1; have H4 := Lib.hid hat4; clear hat4 n1 n2 hgrow4))
  obtain ⟨hg4, hg4'⟩ := hown4.lt g4 rfl
  have b4 : Below W.heap.size W w4 := ((HB2.out.grown HG1.out (by omega) (fun k e => by cases e)).alloc (by omega) _).grown HG4.out (by simp; omega) (fun k e => by simp [Value.ownBlock] at e; omega)
  have o5 := own_set (B := W.heap.size) hown4 (fun g e => by simp [Value.ownBlock] at e; omega) 1 (.slice (some ⟨g4, 0, none⟩) (L.length + 1) cap4)
  have b5 : Below W.heap.size W (w4.setCell ⟨W.heap.size, 1, none⟩ (.slice (some ⟨g4, 0, none⟩) (L.length + 1) cap4)) := b4.setCell (p := ⟨W.heap.size, 1, none⟩) (Nat.le_refl _) _
  have l1 := HN1.out.set 1 (.slice (some ⟨g4, 0, none⟩) (L.length + 1) cap4)
  have l2 := HN2.out.other (a := ⟨W.heap.size, 1, none⟩) (.slice (some ⟨g4, 0, none⟩) (L.length + 1) cap4) (by simp)
  clear hown4 b4 HN1 HN2 HG1 HG4 HM1 HM2 HB2 hN c1 f1 c0 hs3 hs4 HL1 HL2 hown1 hg4' hg1 H4
  generalize World.setCell _ _ _ = W5 at *
  have c0 := (l1.cell 0).trans (show _ = some (Value.int .i64 most) from rfl)
  have c1 := (l1.cell 1).trans (show _ = some (Value.slice (some ⟨g4, 0, none⟩) (L.length + 1) cap4) from rfl)
  have d0 := (l2.cell 0).trans (show _ = some (Value.int .i64 0) from rfl)
  have d1 := (l2.cell 1).trans (show _ = some (Value.slice none 0 0) from rfl)
  have f0 := l2.frozen 0
  have f1 := l2.frozen 1
  have HC := Lib.hid l2
  have HO := Lib.hid o5
  have HB := Lib.hid b5
  clear l1 l2 o5 b5
  go_region
  go_wp2
  refine bodyPost_ret (res_row_tmp2 rfl _ _ (W.heap.size + 1) _ _ _ rfl (two_set (show Cells W5.drew _ _ _ from HC.out)) Tryd.underlying51 rfl (info_rt _ _)) rfl ?_
  have hne : ∀ g, (Value.slice (some ⟨g4, 0, none⟩) (L.length + 1) cap4).ownBlock = some g → g ≠ W.heap.size + 1 := fun g e => by simp [Value.ownBlock] at e; omega
  have o6 := own_set (own_set (own_below HO.out (Below.refl _ _).drew) hne 0 (.int .i64 most)) hne 1 (.slice (some ⟨g4, 0, none⟩) (L.length + 1) cap4)
  have hlen : (L ++ [x]).length = L.length + 1 := by simp
  refine ⟨some ⟨g4, 0, none⟩, cap4, ?_, Rd.of_own (cap := cap4) (by rw [hlen, List.map_append]; exact o6), .inr fun g' off' e => ?_, two_below HB.out.drew (by omega)⟩
  · simp
  · cases e; omega
end
end Go.Proofs.YtbleilbphadehaaDoor
