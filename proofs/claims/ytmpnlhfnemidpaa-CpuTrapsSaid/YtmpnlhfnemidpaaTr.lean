/- The cpu's touches of a trap. -/
import Derived.Test.YtmpnlhfnemidpaaTr0
namespace Go.Proofs.Ytmpnlhfnemidpaa
open Go.RowKit Go.Shelf
set_option maxRecDepth 100000 in
set_option maxHeartbeats 2000000 in
theorem cTrappedW {w W : World} {base X : Nat} {v : Value} {L : List Tt} (h : LiW w W base X v L) (hL : L.length < 100) :
    Calls Try.prog 37 #[.pointer (some ⟨X, 0, none⟩)] W fun e w' => e = .returned (.tuple #[]) ∧ ∃ v', LiW w w' base X v' (L ++ trapT) := by
  go_enter Try.func37, Try.ntmps37
  go_wp2_with (first
    | (go_at_call 39; refine (cOnly _ _).mono ?_; rintro e w1 ⟨rfl, hb1⟩; replace h := h.below hb1; clear hb1)
    | (go_at_call 40; with_reducible refine (cPutW (h.alloc _) (by (try simp only [List.length_append, List.length_cons, List.length_nil]); omega) _ _ (FromAt.new1 _ _ _)).mono ?_; clear h; rintro e w1 ⟨rfl, v1, h⟩)
    | (go_at_call 40; with_reducible refine (cPutW h (by (try simp only [List.length_append, List.length_cons, List.length_nil]); omega) _ _ (FromAt.nil _)).mono ?_; clear h; rintro e w1 ⟨rfl, v1, h⟩)
    | (go_at_call 35; with_reducible refine (cDecideW (h.alloc _) (by (try simp only [List.length_append, List.length_cons, List.length_nil]); omega) (FromAt.new1 _ _ _)).mono ?_; clear h; rintro e w1 ⟨rfl, v1, h⟩))
  go_end0
  refine ⟨rfl, v1, ?_⟩
  simpa [trapT] using h
set_option maxRecDepth 100000 in
theorem cTrapped (w : World) : Calls Try.prog 28 #[] w fun e w' => ∃ v', e = .returned v' ∧ TsAt w' w.heap.size v' trapT ∧ Below w.heap.size w w' := by
  obtain ⟨K0, B0, S0⟩ := cells1 w #[.slice none 0 0] 73
  have h : LiW (w.alloc (.cells #[.slice none 0 0] 73)) (w.alloc (.cells #[.slice none 0 0] 73)) w.heap.size w.heap.size (.slice none 0 0) [] :=
    ⟨⟨K0, ⟨[], World.ownsRow_nil _ _ _ _, .nil⟩, Nat.le_refl _⟩, Below.refl _ _, .refl _⟩
  go_enter Try.func28, Try.ntmps28
  go_wp2_with (go_at_call 37; refine (cTrappedW h (by simp)).mono ?_; clear h; rintro e w1 ⟨rfl, v1, h⟩; have x0 := (h.li.x.cell 0).trans (show _ = some v1 from rfl))
  go_ret
  exact ⟨v1, rfl, h.li.t, B0.trans (h.low.mono (Nat.le_refl _))⟩
end Go.Proofs.Ytmpnlhfnemidpaa
