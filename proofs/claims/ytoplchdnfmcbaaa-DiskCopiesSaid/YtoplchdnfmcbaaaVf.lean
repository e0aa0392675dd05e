/- The document's Size; an act's cells; both written alike: contracts. -/
import Derived.Test.YtoplchdnfmcbaaaVe
namespace Go.Proofs.Ytoplchdnfmcbaaa
open Go.ChangeShapes Go.WideShapes Go.ChangeAt Go.RowKit Go.Shelf Go.Deep

theorem c25_good {L N : Nat} (h : L = 64 * N) (h1 : 1 ≤ N) (h2 : N ≤ 32) (w : World) : Calls Try.prog 25 #[.int .i64 L] w fun e w' => e = .returned (.bool true) ∧ w = w' := by
  have a1 : (64 : Int) ≤ L := by omega
  have a2 : (L : Int) ≤ 2048 := by omega
  have a3 : (L : Int) % 64 = 0 := by omega
  have a4 : (L : Int).tmod 64 = 0 := by rw [Int.tmod_eq_emod_of_nonneg (by omega)]; exact a3
  clear h
  go_enter Try.func25, Try.ntmps25
  go_wp2
  go_ret
  exact ⟨rfl, rfl⟩
theorem c25_bad {L : Nat} (hL : L < 9223372036854775808) (h : ¬ (64 ≤ L ∧ L ≤ 2048 ∧ L % 64 = 0)) (w : World) : Calls Try.prog 25 #[.int .i64 L] w fun e w' => e = .returned (.bool false) ∧ w = w' := by
  have hc : ((L : Int) < 64) ∨ ((64 : Int) ≤ L ∧ 2048 < (L : Int)) ∨ ((64 : Int) ≤ L ∧ (L : Int) ≤ 2048 ∧ ¬ (L : Int) % 64 = 0) := by omega
  clear h
  rcases hc with h1 | ⟨h1, h2⟩ | ⟨h1, h2, h3⟩
  · go_enter Try.func25, Try.ntmps25
    go_wp2
    go_ret
    exact ⟨rfl, rfl⟩
  · go_enter Try.func25, Try.ntmps25
    go_wp2
    go_ret
    exact ⟨rfl, rfl⟩
  · have h4 : ((L : Int) % 64 == 0) = false := by simpa using h3
    clear h3
    go_enter Try.func25, Try.ntmps25
    go_wp2
    go_ret
    exact ⟨rfl, rfl⟩
/-- An act's cells. -/
def actA (n : Int) (x : List Int) : Array Value := (.int .i64 n :: x.map (Value.int .u8)).toArray
theorem act_cell {W : World} {B : Nat} {n : Int} {x : List Int} (h : Cells W B 37 (actA n x)) : W.cell? ⟨B, 0, none⟩ = some (.int .i64 n) := (h.cell 0).trans rfl
theorem act_range {W : World} {B : Nat} {n : Int} {x : List Int} (h : Cells W B 37 (actA n x)) : W.rangeAt B 1 (x.map (Value.int .u8)) := fun j v hv => by
  rw [Nat.add_comm 1 j, h.cell (j + 1)]
  simpa [actA] using hv
theorem open_actV {H : Type} {enc : TypeId × Value → H} {w : World} {base : Nat} {spare : Nat → Bool} {held : Bool} {r : Reach} {b0 : Nat} {v : Value} {d : DataW H} {ps : List MemPlace} (hv : Value.okWide Try.prog w r b0 37 v) (h : DataW.Trod enc Try.prog w base spare held 37 v d ps) :
    ∃ n x, v = .agg (actA n x) ∧ IsSec x := by
  obtain ⟨f0, f1, hu, _⟩ := fields37
  simp only [Value.okWide, hu] at hv
  obtain ⟨cs, rfl, _⟩ := hv
  obtain ⟨fuel, hf⟩ := h
  obtain ⟨n, l, e, hs, _⟩ := open_act (cs := cs.toList) hf
  refine ⟨n, l, ?_, hs⟩
  rw [actA, ← e, Array.toArray_toList]
/-- The document's bytes and the disk, both written: still alike. -/
theorem rep_write {l l' : List Int} {N : Int} {m m4 : List (Int × List Int)} {n : Int} {x : List Int} (hrep : Rep l N (secL m)) (hl : l'.length = l.length) (hx : x.length = 64) (hw : Wrote l n x l') (hm : ∀ j, 0 ≤ j ∧ j < N → secL m4 j = if j = n then x else secL m j) : Rep l' N (secL m4) := by
  refine ⟨by rw [hl]; exact hrep.1, fun j hj => ?_⟩
  rw [hm j hj]
  have e1 := hrep.2 j hj
  unfold Wrote at hw
  by_cases hn : inL l n
  · rw [if_pos hn] at hw
    rw [hw.cut hn hx j ((hrep.inL j).2 hj), e1]
  · rw [if_neg hn] at hw
    rw [hw, e1, if_neg]
    rintro rfl
    exact hn ((hrep.inL j).2 hj)
end Go.Proofs.Ytoplchdnfmcbaaa
