/- Sets copied and compared, maps copied; All: contracts. -/
import Derived.Test.YtbleilbphadehaaDoorNa
import Derived.LoopTactic
import Derived.Deep.QuietTactic
namespace Go.Proofs.YtbleilbphadehaaDoor
open Go.RowKit Go.Shelf

theorem Rd.of_row {W : World} {base : Nat} {e : TypeId} {v : Value} {k : IntKind} {l : List Int} (h : W.ownsRow base e 1 v l.length (l.map (Value.int k))) (hp : 0 < l.length) : ∃ g cap, v = .slice (some ⟨g, 0, none⟩) l.length cap ∧ l.length ≤ cap ∧ Rd W W.heap.size k (some ⟨g, 0, none⟩) l := by
  rcases h.2 with ⟨_, h0⟩ | ⟨g, cap, cur, hv, _, _, h1, _⟩
  · omega
  · subst hv; exact ⟨g, cap, rfl, h1, Rd.of_own h⟩
set_option maxRecDepth 100000 in
theorem cClone {W : World} {g off cap : Nat} {L : List Int} (hr : Rd W W.heap.size .u32 (some ⟨g, off, none⟩) L) (hp : 0 < L.length) (hL : L.length ≤ 65536) : Calls Tryd.prog 33 #[.slice (some ⟨g, off, none⟩) L.length cap] W fun e w' => ∃ g' cap', e = .returned (.slice (some ⟨g', 0, none⟩) L.length cap') ∧
    w'.ownsRow W.heap.size 28 1 (.slice (some ⟨g', 0, none⟩) L.length cap') L.length (L.map (Value.int .u32)) ∧ Below W.heap.size W w' := by
  obtain ⟨i0, hi0, hz0, hz1, hz2⟩ := info_parts info_u32
  have hc : ∀ j u, (L.map (Value.int .u32))[j]? = some u → (W.alloc (.cells #[] 28)).cell? ((⟨g, off, none⟩ : Addr).add j) = some u := fun j u hu => by
    rw [List.getElem?_map] at hu
    cases hx : L[j]? with
    | none => rw [hx] at hu; cases hu
    | some x =>
      rw [hx] at hu
      rw [addr_add]
      obtain ⟨g', off', e, hlt⟩ := hr.some_ hp
      have : g' = g := by simp at e; exact e.1.symm
      subst this
      refine (World.cell?_of_block (Below.heap_alloc W _ g' hlt)).trans ((hr.cell _ _ rfl j x hx).trans ?_)
      simpa using hu
  have HC := Lib.hid hc
  clear hc
  have q22 : ∀ (w : World) (a : Option Addr) (n c n' c' : Nat), (binOp .eql 22 (.slice a n c) (.slice none n' c')).run Tryd.prog w = .ok (.bool a.isNone) w := fun w a n c n' c' => Lib.run_eql_slice_nil w _ _ a n c n' c' Tryd.underlying22
  go_enter Tryd.func33, Tryd.ntmps33
  go_wp2_with (at_builtin; refine wpList_append_lies _ rfl _ _ 22 rfl W.heap.size 28 i0 (.int .u32 0) 1 4 Tryd.underlying22 hi0 hz0 hz1 hz2 rfl (by decide) _ _ _ rfl (World.ownsRow_made W #[] 0 (Nat.le_refl _) (Nat.zero_le _) (by simp)) ⟨g, off, none⟩ L.length _ (L.map (Value.int .u32)) rfl (by simp) HC.out (by simp [Value.oneCell']) hp (by simp only [Nat.zero_add, maxLen]; omega) (by omega) (by simp) _ rfl ?_; intro g' cap' w1 hown hgrow hat hlt)
  go_ret
  refine ⟨g', cap', by simp, by simpa using hown, ?_⟩
  exact ((Below.refl _ W).alloc (Nat.le_refl _) _).grown hgrow (by simp) (by intro k hk; have : W.heap.size = k := Option.some.inj hk; omega)
theorem take_ne {L L' : List Int} {k : Nat} {x y : Int} (hx : L[k]? = some x) (hy : L'[k]? = some y) (h : x ≠ y) : L ≠ L' := by
  rintro rfl; rw [hx] at hy; exact h (Option.some.inj hy)
set_option maxRecDepth 100000 in
theorem cEqual {W : World} {A B : Option Addr} {c d : Nat} {L L' : List Int} (hr : Rd W W.heap.size .u32 A L) (hr' : Rd W W.heap.size .u32 B L') (hL : L.length ≤ 65536) (hL' : L'.length ≤ 65536) : Calls Tryd.prog 39 #[.slice A L.length c, .slice B L'.length d] W fun e w' => e = .returned (.bool (decide (L = L'))) ∧ Below W.heap.size W w' := by
  by_cases hlen : L.length = L'.length
  · go_enter Tryd.func39, Tryd.ntmps39
    have h0 : ((L.length : Int) != (L'.length : Int)) = false := by rw [hlen]; simp
    have HLEN := Lib.hid hlen
    clear hlen
    go_wp2_with fail
    go_loopw [13] (fun i wr => ∃ k : Nat, k ≤ L.length ∧ i = .int .i64 k ∧ (∀ j, j < k → L[j]? = L'[j]?) ∧ Below W.heap.size W wr) (fun i _ => L.length - (intOf i).toNat)
    case atStart => exact ⟨0, Nat.zero_le _, rfl, fun _ h => by omega, Below.refl _ _⟩
    case round =>
      obtain ⟨k, hk, rfl, hsame, hb⟩ := hrel
      by_cases hlt : k < L.length
      · have hlt' : k < L'.length := by rw [← HLEN.out]; exact hlt
        obtain ⟨x, hx⟩ : ∃ x, L[k]? = some x := ⟨_, List.getElem?_eq_getElem hlt⟩
        obtain ⟨y, hy⟩ : ∃ y, L'[k]? = some y := ⟨_, List.getElem?_eq_getElem hlt'⟩
        obtain ⟨g, off, rfl, hg⟩ := hr.some_ (by omega)
        obtain ⟨g', off', rfl, hg'⟩ := hr'.some_ (by omega)
        have cx := (hr.below hb (Nat.le_refl _)).cell g off rfl k x hx
        have cy := (hr'.below hb (Nat.le_refl _)).cell g' off' rfl k y hy
        have HX := Lib.hid hx
        have HY := Lib.hid hy
        have HS := Lib.hid hsame
        clear hx hy hsame h0
        by_cases hxy : x = y
        · have hq : (x != y) = false := by simp [hxy]
          have HXY := Lib.hid hxy
          clear hxy
          go_wp2_with fail
          go_region
          go_wp2
          go_roundw
          case rel => exact ⟨k + 1, by omega, by go_num, fun j hj => by
            rcases Nat.lt_or_ge j k with h | h
            · exact HS.out j h
            · obtain rfl : j = k := by omega
              rw [HX.out, HY.out, HXY.out], hb.drew⟩
          case measure => simp [intOf]; omega
        · have hq : (x != y) = true := by simp [hxy]
          have HXY := Lib.hid hxy
          clear hxy
          go_wp2_with fail
          go_region
          go_wp2
          go_ret
          exact ⟨ret_bool (decide_eq_false (take_ne HX.out HY.out HXY.out)).symm, hb.drew⟩
      · obtain rfl : k = L.length := by omega
        have HS := Lib.hid hsame
        clear hsame h0
        go_wp2_with fail
        go_ret
        refine ⟨ret_bool (decide_eq_true ?_).symm, hb⟩
        apply List.ext_getElem?
        intro j
        rcases Nat.lt_or_ge j L.length with h | h
        · exact HS.out j h
        · rw [List.getElem?_eq_none h, List.getElem?_eq_none (by rw [← HLEN.out]; exact h)]
  · have h0 : ((L.length : Int) != (L'.length : Int)) = true := by simp; omega
    have HLEN := Lib.hid hlen
    clear hlen
    go_enter Tryd.func39, Tryd.ntmps39
    go_wp2
    go_ret
    exact ⟨ret_bool (decide_eq_false (fun e => HLEN.out (by rw [e]))).symm, Below.refl _ _⟩
set_option maxRecDepth 100000 in
set_option maxHeartbeats 1000000 in
theorem cCloneN {W : World} {b : Nat} {m : List (Int × Value)} (h : MapAt .u32 W b m) : Calls Tryd.prog 37 #[.map (some b)] W fun e w' => e = .returned (.map (some W.heap.size)) ∧ MapAt .u32 w' W.heap.size m ∧ ∃ es c, w' = W.alloc (.map es c) := by
  obtain ⟨es, c, hb, h1, h2⟩ := h
  have hq := fun w => run_eql_map_nil_sl (P := Tryd.prog) w 60 _ _ (some b) Tryd.underlying60
  go_enter Tryd.func37, Tryd.ntmps37
  go_wp2
  rw [run_callFunc_extern Tryd.func45 (by kernel_rfl) (by kernel_rfl) (by kernel_rfl) (e := Extern.MapsClone.clone) (by kernel_rfl), run_maps_clone_sl W 60 hb]
  simp only [Result.andThen]
  rw [Oper.upon_value]
  go_wp2
  rw [run_typeAssert_map_sl _ 60 20 _ _ _ Tryd.underlying60]
  simp only [Result.andThen]
  rw [Oper.upon_value]
  go_wp2
  go_ret
  exact ⟨rfl, ⟨es, c, World.alloc_heap_new W _, h1, h2⟩, es, c, rfl⟩
set_option maxRecDepth 100000 in
set_option maxHeartbeats 1000000 in
theorem cCloneJ {W : World} {b : Nat} {m : List ((Int × Int) × Int)} (h : JAt W b m) : Calls Tryd.prog 38 #[.map (some b)] W fun e w' => e = .returned (.map (some W.heap.size)) ∧ JAt w' W.heap.size m ∧ ∃ es c, w' = W.alloc (.map es c) := by
  obtain ⟨es, c, hb, h1⟩ := h
  have hq := fun w => run_eql_map_nil_sl (P := Tryd.prog) w 61 _ _ (some b) Tryd.underlying61
  go_enter Tryd.func38, Tryd.ntmps38
  go_wp2
  rw [run_callFunc_extern Tryd.func45 (by kernel_rfl) (by kernel_rfl) (by kernel_rfl) (e := Extern.MapsClone.clone) (by kernel_rfl), run_maps_clone_sl W 61 hb]
  simp only [Result.andThen]
  rw [Oper.upon_value]
  go_wp2
  rw [run_typeAssert_map_sl _ 61 20 _ _ _ Tryd.underlying61]
  simp only [Result.andThen]
  rw [Oper.upon_value]
  go_wp2
  go_ret
  exact ⟨rfl, ⟨es, c, World.alloc_heap_new W _, h1⟩, es, c, rfl⟩
section
variable {W : World} {base p mn mj : Nat} {sv : Value} {most : Int} {L : List Int} {J : List ((Int × Int) × Int)}
theorem cAll (h : TAt W base p mn mj sv most L J) (hp : 0 < L.length) (hL : L.length ≤ 65536) : Calls Tryd.prog 22 #[.pointer (some ⟨p, 0, none⟩)] W fun e w' => ∃ g' cap', e = .returned (.slice (some ⟨g', 0, none⟩) L.length cap') ∧
    w'.ownsRow W.heap.size 28 1 (.slice (some ⟨g', 0, none⟩) L.length cap') L.length (L.map (Value.int .u32)) ∧ Below W.heap.size W w' := by
  have h' := h
  obtain ⟨g, cap, rfl, hcap, hr⟩ := Rd.of_row h.s hp
  have c1 := h.c.cell 1
  go_enter Tryd.func22, Tryd.ntmps22
  go_wp2_with fail
  refine (cNone h' hp).mono ?_
  rintro e w' ⟨rfl, rfl⟩
  go_wp2_with fail
  refine (cClone hr hp hL).mono ?_
  rintro e W2 ⟨g', cap', rfl, hown, hb⟩
  have HO := Lib.hid hown
  clear hown
  go_wp2
  go_ret
  exact ⟨g', cap', rfl, HO.out, hb⟩
end
end Go.Proofs.YtbleilbphadehaaDoor
