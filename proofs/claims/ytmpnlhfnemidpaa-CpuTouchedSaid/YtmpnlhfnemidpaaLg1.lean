/- The law's goes: a contract. -/
import Derived.Test.YtmpnlhfnemidpaaTuQ
import Derived.Test.YtmpnlhfnemidpaaLg0
import Derived.Test.YtmpnlhfnemidpaaKn
import Derived.Test.YtmpnlhfnemidpaaOp
namespace Go.Proofs.Ytmpnlhfnemidpaa
open Go.RowKit Go.Shelf
theorem goesL_take {L : List Tt} {k n : Int} {j : Nat} (hj : j < L.length) (h : goesL (L.take j) k n = false) (hn : (L[j].k == k && L[j].n == n) = false) : goesL (L.take (j + 1)) k n = false := by
  rw [List.take_succ_eq_append_getElem hj, goesL_append, h]
  simpa [goesL] using hn
theorem sevenF {W : World} {B : Nat} {s : St} (h : StAt W B s) : W.cell? ⟨B, 9, none⟩ = some (.int .u32 s.epc) ∧ W.cell? ⟨B, 10, none⟩ = some (.int .u32 s.cause) ∧ W.cell? ⟨B, 11, none⟩ = some (.int .u32 s.vec) ∧ W.cell? ⟨B, 12, none⟩ = some (.int .u32 s.table) ∧ W.cell? ⟨B, 13, none⟩ = some (.bool s.sup) ∧ W.cell? ⟨B, 14, none⟩ = some (.bool s.prev) ∧ W.cell? ⟨B, 15, none⟩ = some (.bool s.en) :=
  ⟨h.epc, h.cause, h.vec, h.table, h.sup, h.prev, h.en⟩
theorem stDrew {W : World} {B : Nat} {s : St} (h : StAt W B s) : StAt W.drew B s := ⟨h.row, h.len⟩
theorem wtA_one (p : Wt) : (wtA p).all (·.oneCell') = true := by simp [Value.oneCell']
theorem goesL_at {L : List Tt} {k n : Int} {j : Nat} (hj : j < L.length) (hn : (L[j].k == k && L[j].n == n) = true) : goesL L k n = true := by
  unfold goesL
  exact List.any_eq_true.2 ⟨L[j], List.getElem_mem hj, hn⟩
set_option maxRecDepth 100000 in
set_option maxHeartbeats 4000000 in
theorem cGoes {w : World} {base : Nat} {v : Value} {L : List Tt} (hT : TsAt w base v L) (hl : L.length < 1000) (k n : Int) : Calls Try.prog 19 #[v, plV k n] w fun e w' => e = .returned (.bool (goesL L k n)) ∧ Below w.heap.size w w' := by
  obtain ⟨ao, ca, rfl⟩ := hT.form
  obtain ⟨Kp, Hb, hsz⟩ := cells1 w #[.int .i64 k, .int .i64 n] 49
  have HT := Lib.hid (hT.below Hb)
  obtain ⟨g0, hg0⟩ : ∃ g, goesL L k n = g := ⟨_, rfl⟩
  rw [hg0]
  have HG := Lib.hid hg0
  clear hT hg0 hsz
  go_enter Try.func19, Try.ntmps19
  go_wp2_with fail
  generalize w.alloc _ = W at *
  go_loopw [5] (fun i wr => ∃ j : Nat, j ≤ L.length ∧ i = .int .i64 j ∧ goesL (L.take j) k n = false ∧ Below W.heap.size W wr) (fun i _ => L.length - (intOf i).toNat)
  case atStart => exact ⟨0, Nat.zero_le _, rfl, rfl, Below.refl _ _⟩
  case round =>
    obtain ⟨j, hj, rfl, hgo, hb⟩ := hrel
    have HGO := Lib.hid hgo
    clear hgo
    by_cases hlt : j < L.length
    · obtain ⟨g, fa, rfl, a0, a1, _, _⟩ := (HT.out.below hb).at hlt
      have Kp' := Kp.below hb Kp.lt
      have k0 := (Kp'.cell 0).trans (show _ = some (Value.int .i64 k) from rfl)
      have k1 := (Kp'.cell 1).trans (show _ = some (Value.int .i64 n) from rfl)
      have hj0 : (0 : Int) ≤ (j : Int) := by omega
      have hj1 : (j : Int) < (L.length : Int) := by omega
      have HY := Lib.hid (fun h => goesL_at (L := L) (k := k) (n := n) hlt h)
      have HN := Lib.hid (fun h => goesL_take (k := k) (n := n) hlt HGO.out h)
      have HB := Lib.hid hb.drew
      generalize L[j].k = x at *
      generalize L[j].n = y at *
      clear hb Kp'
      cases hx : (x == k)
      · go_upto_region 4 with (fail)
        go_region
        go_wp2_with fail
        exact ⟨⟨j + 1, by omega, by go_num, HN.out (by rw [hx]; rfl), HB.out⟩, by simp [intOf]; omega⟩
      · cases hy : (y == n)
        · go_upto_region 4 with (fail)
          go_region
          go_wp2_with fail
          exact ⟨⟨j + 1, by omega, by go_num, HN.out (by rw [hx, hy]; rfl), HB.out⟩, by simp [intOf]; omega⟩
        · go_upto_region 4 with (fail)
          go_region
          go_wp2_with fail
          go_ret
          have hgt : g0 = true := HG.out.symm.trans (HY.out (by rw [hx, hy]; rfl))
          subst hgt
          exact ⟨rfl, Hb.trans (HB.out.mono Hb.size)⟩
    · go_wp2_with fail
      go_ret
      obtain rfl : j = L.length := by omega
      have h1 := HGO.out
      rw [List.take_of_length_le (Nat.le_refl _)] at h1
      have hgt : g0 = false := HG.out.symm.trans h1
      subst hgt
      exact ⟨rfl, Hb.trans (hb.mono Hb.size)⟩
end Go.Proofs.Ytmpnlhfnemidpaa
