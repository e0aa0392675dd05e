/- Two maps of sectors compared; Same of two disks: contracts. -/
import Derived.Test.YtoplchdnfmcbaaaVm
import Derived.Deep.RegionWith
namespace Go.Proofs.Ytoplchdnfmcbaaa
open Go.RowKit Go.Shelf Go.Maps

theorem IsDisk.nodup {W : World} {db mb : Nat} {N : Int} {m : List (Int × List Int)} (h : IsDisk W db mb N m) : (m.map (·.1)).Nodup := by
  obtain ⟨es, c, _, _, hn, _⟩ := h.hm
  rw [← encM_keys]; exact hn
theorem enc_wf {N : Nat} {m : List (Int × List Int)} (hg : Good N m) (hN : N ≤ 32) : ∀ p ∈ encM m, (Lit.int .i64 p.1).wf = true := fun p hp => by
  have : p.1 ∈ (encM m).map (·.1) := List.mem_map.2 ⟨p, hp, rfl⟩
  rw [encM_keys] at this
  obtain ⟨q, hq, e⟩ := List.mem_map.1 this
  have : 0 ≤ p.1 ∧ p.1 < N := e ▸ (hg q hq).1
  have a1 : IntKind.i64.min = -9223372036854775808 := by decide
  have a2 : IntKind.i64.max = 9223372036854775807 := by decide
  simp only [Lit.wf, Bool.and_eq_true, decide_eq_true_eq, a1, a2]; omega
theorem enc_len (m : List (Int × List Int)) : (encM m).length = m.length := by simp [encM]
theorem good_len {N : Nat} {m : List (Int × List Int)} (hg : Good N m) (hn : (m.map (·.1)).Nodup) : m.length ≤ N := by
  have := len_back hn (k := (List.range N).map fun i : Nat => (i : Int)) (fun x hx => by
    obtain ⟨p, hp, rfl⟩ := List.mem_map.1 hx
    obtain ⟨h0, h1⟩ := (hg p hp).1
    exact List.mem_map.2 ⟨p.1.toNat, List.mem_range.2 (by omega), by omega⟩)
  simpa using this
set_option maxRecDepth 100000 in
set_option maxHeartbeats 4000000 in
theorem c36 {w : World} {N : Nat} {m m' : List (Int × List Int)} {b b' : Nat} (h : MapAt .i64 w b (encM m)) (h' : MapAt .i64 w b' (encM m')) (hg : Good N m) (hg' : Good N m') (hn : (m.map (·.1)).Nodup) (hn' : (m'.map (·.1)).Nodup) (hN : N ≤ 32) {r : Bool} (hr : r = true ↔ ∀ j : Int, 0 ≤ j ∧ j < N → secL m j = secL m' j) :
    Calls Try.prog 36 #[.map (some b), .map (some b')] w fun e w' => e = .returned (.bool r) ∧ Below w.heap.size w w' := by
  have K := Maps.int_keyed (P := Try.prog) (k := 3) Try.underlying3
  have hl1 := good_len hg hn
  have hl2 := good_len hg' hn'
  have h1 := h.ownsH (k := 3) (by rw [enc_len]; simp only [maxLen]; omega) Try.underlying3 (enc_wf hg hN)
  have l1 := fun ty => h1.len (t := 61) Try.underlying61 ty
  have l2 := fun ty => (h'.ownsH (k := 3) (by rw [enc_len]; simp only [maxLen]; omega) Try.underlying3 (enc_wf hg' hN)).len (t := 61) Try.underlying61 ty
  simp only [DH_size, enc_len] at l1 l2
  by_cases hlen : m.length = m'.length
  · have h0 : ((m.length : Int) != (m'.length : Int)) = false := by rw [hlen]; simp
    have HR := Lib.hid hr
    have HN := Lib.hid (And.intro hn hn')
    have HG := Lib.hid (And.intro hg hg')
    have HLEN := Lib.hid hlen
    have H' := Lib.hid h'
    have hlt' := h'.lt
    have hz := zlit
    clear hr hn hn' hg hg' hlen h h' hl1 hl2
    go_enter Try.func36, Try.ntmps36
    go_wp2_with (first
      | (at_range; refine wpList_range_own _ rfl _ 61 rfl 3 28 K Try.underlying61 RH b _ _ rfl h1 ?_; intro w0 hrg0 hg0 hs0))
    clear l1 l2 h0 h1
    go_loopw [18] (fun _ wr => ∃ (left : Lit → Bool) (cnt : Nat), wr.ranges Try.prog 3 RH b w.heap.size (encM m).length (DH (encM m)) left cnt ∧ Below w.heap.size w wr ∧ Hid (∀ p ∈ m, left (.int .i64 p.1) = false → m'.lookup p.1 = some p.2)) (fun _ wr => wr.rangeLeft b w.heap.size)
    case atStart =>
      refine ⟨_, _, hrg0, (Below.refl _ w).grown hg0 (Nat.le_refl _) (by simp), Lib.hid fun p hp h => ?_⟩
      have h1 : Maps.has (DH (encM m)) (Lit.int .i64 p.1) = true := DH_has (p := (p.1, secV p.2)) (List.mem_map.2 ⟨p, hp, rfl⟩)
      rw [h1] at h
      cases h
    case round =>
      clear hrg0 hg0 hs0
      obtain ⟨left, cnt, hrg, hb, G⟩ := hrel
      go_wp2_with (first
        | (at_next; refine wpList_next_ranges _ rfl _ rfl 3 K RH (Value.int .i64) id (fun key kl hkey => by obtain ⟨x, rfl, _⟩ := Maps.keyOf_int_inv Try.underlying3 hkey; exact ⟨x, rfl⟩) (fun v _ _ => ⟨v, rfl⟩) b w.heap.size _ _ _ _ rfl hrg ?_ ?_))
      · intro _ hl0
        go_wp2
        go_ret
        refine ⟨?_, hb⟩
        rw [HR.out.2 (fun j _ => alike_all HG.out.1 HG.out.2 HN.out.1 HN.out.2 HLEN.out (fun x l hx => G.out (x, l) hx (hl0 _)) j)]
        rfl
      · intro x c kl yd yp w1 cnt1 hkey hlx hv hat hrg1 hlt hg1 hs1 hen
        obtain ⟨x', ex, rfl, hwx⟩ := Maps.keyOf_int_inv Try.underlying3 hkey
        obtain rfl : x = x' := by simpa using ex
        obtain ⟨rfl, rfl⟩ := Prod.mk.inj (Option.some.inj hv)
        obtain ⟨l, hml, hcl⟩ := DH_came hat
        obtain rfl : c = secV l := by simpa using hcl
        have hx := (HG.out.1 (x, l) hml).2.2.1
        have hb1 : Below w.heap.size w w1 := hb.grown hg1 hb.size (fun j e => by have := Option.some.inj e; omega)
        have M1 := H'.out.of_block (hb1.block b' hlt')
        obtain ⟨ho1, W2, hW2, c2, b2, s2⟩ := row_own w1 28 (intsA .u8 zeros) (intsA .u8 l) (by rw [intsA_size, intsA_size, hx]; rfl)
        have hi := size28 hx
        have M2 := M1.of_block (b2.block b' M1.lt)
        have hlk := run_lookup_ints_ok M2 Try.underlying61 Try.underlying3 (zero28 W2) x
        rw [lookup_enc] at hlk
        have hrg2 := hrg1.kept (w' := W2) (row := none) ⟨b2.os, b2.tape, b2.output, b2.size, fun k hk _ => b2.block k hk⟩ (by simp) (by simp)
        have hb2 := hb1.trans (b2.mono hb1.size)
        have HML := Lib.hid hml
        have HLEFT := Lib.hid (And.intro hrg hlt)
        simp only [secV, id] at hen
        clear hkey hlx hv hat ex hcl hwx hml hrg1 hg1 hb hb1 M1 M2 b2 hrg hlt hs1 s2
        cases hl : m'.lookup x with
        | none =>
          rw [hl] at hlk
          simp only [Option.map_none, Option.getD_none, Option.isSome_none, secV] at hlk
          have HL := Lib.hid hl
          clear hl
          obtain ⟨ho2, W3, hW3, c3, b3, s3⟩ := row_own W2 28 (intsA .u8 zeros) (intsA .u8 zeros) rfl
          have hi0 := size28 (l := zeros) rfl
          have HB3 := Lib.hid (hb2.trans (b3.mono hb2.size))
          clear b3 hb2 hrg2 c2 c3 s3
          go_wp2_with (first
            | (with_reducible refine wpList_store_mid rfl 28 (.tmp 6) (.tmp 20) rfl w1.heap.size 0 (intsA .u8 l) rfl rfl ho1 hi (intsA_one _ _) ?_; rw [hW2])
            | (with_reducible refine wpList_store_mid rfl 28 (.tmp 7) (.tmp 25) rfl W2.heap.size 0 (intsA .u8 zeros) rfl rfl ho2 hi0 (intsA_one _ _) ?_; rw [hW3]))
          go_ret
          refine ⟨?_, HB3.out⟩
          cases r with
          | false => rfl
          | true =>
            have h1 := alike_look (m' := m') HG.out.1 HN.out.1 (same_all HG.out.1 HG.out.2 (HR.out.1 rfl)) HML.out
            rw [HL.out] at h1
            cases h1
        | some l' =>
          rw [hl] at hlk
          simp only [Option.map_some, Option.getD_some, Option.isSome_some, secV] at hlk
          have hx' := (HG.out.2 (x, l') (mem_lookup hl)).2.2.1
          have HL := Lib.hid hl
          clear hl
          obtain ⟨ho2, W3, hW3, c3, b3, s3⟩ := row_own W2 28 (intsA .u8 zeros) (intsA .u8 l') (by rw [intsA_size, intsA_size, hx']; rfl)
          have hi' := size28 hx'
          have hrg3 := hrg2.kept (w' := W3) (row := none) ⟨b3.os, b3.tape, b3.output, b3.size, fun k hk _ => b3.block k hk⟩ (by simp) (by simp)
          have HB3 := Lib.hid (hb2.trans (b3.mono hb2.size))
          have k6 : W3.heap[w1.heap.size]? = some (.cells (intsA .u8 l) 28 (0, 0)) := (b3.block _ c2.lt).trans c2
          have k7 : W3.heap[W2.heap.size]? = some (.cells (intsA .u8 l') 28 (0, 0)) := c3
          have HRG := Lib.hid hrg3
          clear b3 hb2 hrg2 c2 c3 hrg3 s3
          by_cases hll : l = l'
          · have heq := fun w => (eqSec l l' hx hx' w).trans (by rw [decide_eq_true hll])
            have HLL := Lib.hid hll
            clear hll
            go_wp2_with (first
              | (with_reducible refine wpList_store_mid rfl 28 (.tmp 6) (.tmp 20) rfl w1.heap.size 0 (intsA .u8 l) rfl rfl ho1 hi (intsA_one _ _) ?_; rw [hW2])
              | (with_reducible refine wpList_store_mid rfl 28 (.tmp 7) (.tmp 25) rfl W2.heap.size 0 (intsA .u8 l') rfl rfl ho2 hi' (intsA_one _ _) ?_; rw [hW3])
              | ((with_reducible refine wpList_load_row_g 28 (.tmp 6) rfl w1.heap.size rfl 28 (intsA .u8 l) (0, 0) _ k6 Try.underlying28 rfl hi ?_ ?_); (focus (simp [Region.wanted, yielded]; done)); simp only [Act.put, List.setIfInBounds_toArray, List.set_cons_zero, List.set_cons_succ])
              | ((with_reducible refine wpList_load_row_g 28 (.tmp 7) rfl W2.heap.size rfl 28 (intsA .u8 l') (0, 0) _ k7 Try.underlying28 rfl hi' ?_ ?_); (focus (simp [Region.wanted, yielded]; done)); simp only [Act.put, List.setIfInBounds_toArray, List.set_cons_zero, List.set_cons_succ]))
            go_roundw
            case rel =>
              refine ⟨_, cnt1, HRG.out, HB3.out, Lib.hid fun p hp h => ?_⟩
              cases hleft : left (.int .i64 p.1)
              · exact G.out p hp hleft
              · have hs : (Lit.int .i64 p.1).sameKey (.int .i64 x) = true := by
                  rw [hleft] at h; simpa using h
                have e := Go.WideAt.sameKey_eq hs
                obtain rfl : p.1 = x := by simpa using e
                have e2 := (lookup_mem HN.out.1 (show (p.1, p.2) ∈ m from hp)).symm.trans (lookup_mem HN.out.1 HML.out)
                rw [HL.out, Option.some.inj e2, HLL.out]
            case measure => rw [HRG.out.left_eq, HLEFT.out.1.left_eq]; exact HLEFT.out.2
          · have heq := fun w => (eqSec l l' hx hx' w).trans (by rw [decide_eq_false hll])
            have HLL := Lib.hid hll
            clear hll
            go_wp2_with (first
              | (with_reducible refine wpList_store_mid rfl 28 (.tmp 6) (.tmp 20) rfl w1.heap.size 0 (intsA .u8 l) rfl rfl ho1 hi (intsA_one _ _) ?_; rw [hW2])
              | (with_reducible refine wpList_store_mid rfl 28 (.tmp 7) (.tmp 25) rfl W2.heap.size 0 (intsA .u8 l') rfl rfl ho2 hi' (intsA_one _ _) ?_; rw [hW3])
              | ((with_reducible refine wpList_load_row_g 28 (.tmp 6) rfl w1.heap.size rfl 28 (intsA .u8 l) (0, 0) _ k6 Try.underlying28 rfl hi ?_ ?_); (focus (simp [Region.wanted, yielded]; done)); simp only [Act.put, List.setIfInBounds_toArray, List.set_cons_zero, List.set_cons_succ])
              | ((with_reducible refine wpList_load_row_g 28 (.tmp 7) rfl W2.heap.size rfl 28 (intsA .u8 l') (0, 0) _ k7 Try.underlying28 rfl hi' ?_ ?_); (focus (simp [Region.wanted, yielded]; done)); simp only [Act.put, List.setIfInBounds_toArray, List.set_cons_zero, List.set_cons_succ]))
            go_ret
            refine ⟨?_, HB3.out⟩
            cases r with
            | false => rfl
            | true =>
              have h1 := alike_look (m' := m') HG.out.1 HN.out.1 (same_all HG.out.1 HG.out.2 (HR.out.1 rfl)) HML.out
              rw [HL.out] at h1
              exact absurd (Option.some.inj h1).symm HLL.out
  · have h0 : ((m.length : Int) != (m'.length : Int)) = true := by simp; omega
    have hrf : r = false := by
      cases r with
      | false => rfl
      | true => exact absurd (alike_len hg hg' hn hn' (same_all hg hg' (hr.1 rfl))) hlen
    subst hrf
    clear hlen hr hg hg' hn hn' h h' h1 hl1 hl2
    go_enter Try.func36, Try.ntmps36
    go_wp2
    go_ret
    exact ⟨rfl, Below.refl _ _⟩
section
variable {w : World} {db mb db' mb' : Nat} {m m' : List (Int × List Int)}
set_option maxRecDepth 100000 in
set_option maxHeartbeats 4000000 in
theorem c19 {N : Nat} (h : IsDisk w db mb N m) (h' : IsDisk w db' mb' N m') {r : Bool} (hr : r = true ↔ ∀ j : Int, 0 ≤ j ∧ j < N → secL m j = secL m' j) :
    Calls Try.prog 19 #[.pointer (some ⟨db, 0, none⟩), .pointer (some ⟨db', 0, none⟩)] w fun e w' => e = .returned (.bool r) ∧ Below w.heap.size w w' := by
  have hlo := h.lo
  have hN : N ≤ 32 := by have := h.hi; omega
  have a0 := fun x : Since w => x.cell (show w.cell? ⟨db, 0, none⟩ = some (.int .i64 N) from h.hd.cell 0)
  have a1 := fun x : Since w => x.cell (show w.cell? ⟨db, 1, none⟩ = some (.map (some mb)) from h.hd.cell 1)
  have b0 := fun x : Since w => x.cell (show w.cell? ⟨db', 0, none⟩ = some (.int .i64 N) from h'.hd.cell 0)
  have b1 := fun x : Since w => x.cell (show w.cell? ⟨db', 1, none⟩ = some (.map (some mb')) from h'.hd.cell 1)
  have H36 := Lib.hid (fun (W : World) (hb : Below w.heap.size w W) => c36 (h.below hb).hm (h'.below hb).hm h.good h'.good h.nodup h'.nodup hN hr)
  have H := Lib.hid h
  have H' := Lib.hid h'
  have hq : ((N : Int) == (N : Int)) = true := by simp
  clear h h' hr
  go_enter Try.func19, Try.ntmps19
  go_wp2_with (first
    | ((with_reducible refine (c23 H.out).mono ?_); rintro e w' ⟨rfl, rfl⟩)
    | ((with_reducible refine (c23 H'.out).mono ?_); rintro e w' ⟨rfl, rfl⟩))
  refine wp_region_since (by kernel_rfl) (by kernel_rfl) ?_
  repeat (go_big_quiet_step (first | (go_at_call 36; exact Since.of (H36.out _ (Since.low _)))))
  refine wpQuiet_nil ?_
  rintro _ ⟨x, rfl⟩
  go_wp2
  go_ret
  exact ⟨by simp, x.low⟩
/-- Two disks of unlike sizes are not the same. -/
theorem c19_ne {N N' : Nat} (h : IsDisk w db mb N m) (h' : IsDisk w db' mb' N' m') (hne : N ≠ N') :
    Calls Try.prog 19 #[.pointer (some ⟨db, 0, none⟩), .pointer (some ⟨db', 0, none⟩)] w fun e w' => e = .returned (.bool false) ∧ Below w.heap.size w w' := by
  have hlo := h.lo
  have hlo' := h'.lo
  have hq : ((N : Int) == (N' : Int)) = false := by simp; omega
  have e0 : ((N : Int) == 0) = false := by simp; omega
  have e1 : ((N' : Int) == 0) = false := by simp; omega
  have a0 := fun x : Since w => x.cell (show w.cell? ⟨db, 0, none⟩ = some (.int .i64 N) from h.hd.cell 0)
  have b0 := fun x : Since w => x.cell (show w.cell? ⟨db', 0, none⟩ = some (.int .i64 N') from h'.hd.cell 0)
  have H := Lib.hid h
  have H' := Lib.hid h'
  clear h h' hne
  go_enter Try.func19, Try.ntmps19
  go_wp2_with (first
    | ((with_reducible refine (c23 H.out).mono ?_); rintro e w' ⟨rfl, rfl⟩)
    | ((with_reducible refine (c23 H'.out).mono ?_); rintro e w' ⟨rfl, rfl⟩))
  refine wp_region_since (by kernel_rfl) (by kernel_rfl) ?_
  repeat (go_big_quiet_step (fail))
  refine wpQuiet_nil ?_
  rintro _ ⟨x, rfl⟩
  go_wp2
  go_ret
  exact ⟨by simp, x.low⟩
end
end Go.Proofs.Ytoplchdnfmcbaaa
