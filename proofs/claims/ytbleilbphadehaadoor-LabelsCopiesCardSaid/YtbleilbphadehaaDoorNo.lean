/- A set that is kept: contract. -/
import Derived.Test.YtbleilbphadehaaDoorNn
import Derived.Test.YtbleilbphadehaaDoorNe
namespace Go.Proofs.YtbleilbphadehaaDoor
open Go.RowKit Go.Shelf

theorem text5 : textL (labsL 5 16) = ⟨#[48, 32, 50]⟩ := by
  rw [show labsL 5 16 = [0, 2] by decide +kernel]
  simp [textL, decB, Lib.decDigits, Lib.join, List.intercalate, List.intersperse]
theorem TabTo.mk' {W W' : World} {base p mn mj : Nat} {sv : Value} {most : Int} {L : List Int} {J : List ((Int × Int) × Int)} (h : TabTo W W' base p mn mj sv most L J) : ∃ sv', TAt W' base p mn mj sv' most L J := ⟨h.choose, h.choose_spec.1⟩
theorem TabTo.low {W W' : World} {base p mn mj n : Nat} {sv : Value} {most most' : Int} {L L' : List Int} {J J' : List ((Int × Int) × Int)} (t : TAt W n p mn mj sv most' L' J') (hn : n ≤ W.heap.size) (h : TabTo W W' base p mn mj sv most L J) : Below n W W' := by
  obtain ⟨_, _, hk, _⟩ := h
  exact hk.below t.own hn
set_option maxRecDepth 100000 in
set_option maxHeartbeats 1000000 in
theorem cKnown (w : World) : Calls Tryd.prog 9 #[] w fun e w' => e = .returned (.bool true) ∧ Below w.heap.size w w' := by
  go_enter Tryd.func9, Tryd.ntmps9
  go_wp2_with fail
  refine (cNew (n := 2) (by decide) (by decide) w).mono ?_
  rintro e W1 ⟨p, mn, mj, sv, rfl, t1, b1⟩
  have ok1 : TOk 2 [0] [] := TOk.first (by decide) (by decide)
  have k1 := cKeep t1 ok1 (x := 5) (by decide)
  rw [show keepR 2 [0] 5 = ([0, 5], 1, 0) from rfl] at k1
  clear ok1
  go_wp2_with fail
  refine k1.mono ?_
  rintro e W2 ⟨rfl, tt2, ok2⟩
  have b2 := b1.trans (tt2.low t1 b1.size)
  obtain ⟨sv2, t2⟩ := tt2.mk'
  have k2 := cKeep t2 ok2 (x := 6) (by decide)
  rw [show keepR 2 [0, 5] 6 = ([0, 5], 0, 120) from rfl] at k2
  clear k1 ok2 tt2 t1 b1
  go_wp2_with fail
  refine k2.mono ?_
  rintro e W3 ⟨rfl, tt3, _⟩
  have b3 := b2.trans (tt3.low t2 b2.size)
  have hT : Calls Tryd.prog 16 #[.int .u32 5] W3 fun e w' => e = .returned (.string (textL (labsL 5 16))) ∧ Below W3.heap.size W3 w' := cText (a := 5) (by decide) W3
  rw [text5] at hT
  clear k2 tt3 t2 b2
  go_wp2_with fail
  refine hT.mono ?_
  rintro e W4 ⟨rfl, hb4⟩
  have B4 := Lib.hid (b3.trans (hb4.mono b3.size))
  clear hT b3 hb4
  go_wp2
  go_ret
  exact ⟨rfl, B4.out⟩
end Go.Proofs.YtbleilbphadehaaDoor
