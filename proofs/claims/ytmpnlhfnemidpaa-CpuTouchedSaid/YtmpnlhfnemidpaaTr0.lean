/- The cpu's touches of a trap: only, reg, decide, trapped, Trapped. -/
import Derived.Test.YtmpnlhfnemidpaaTc
namespace Go.Proofs.Ytmpnlhfnemidpaa
open Go.RowKit Go.Shelf
def trapT : List Tt := [⟨3, 0, [(2, 0)]⟩, ⟨4, 0, []⟩, ⟨7, 0, [(7, 0)]⟩, ⟨0, 0, [(5, 0)]⟩, ⟨2, 0, [(5, 0)]⟩]
theorem FromAt.nil (W : World) : FromAt W (.slice none 0 0) [] := .inl ⟨rfl, rfl⟩
theorem FromAt.new1 (W : World) (k n : Int) : FromAt (W.alloc (.cells #[.int .i64 k, .int .i64 n] 49)) (.slice (some ⟨W.heap.size, 0, none⟩) 1 1) [(k, n)] := .inr ⟨_, rfl, Cells.new W _ _⟩
theorem FromAt.new2 (W : World) (k n k' n' : Int) : FromAt (W.alloc (.cells #[.int .i64 k, .int .i64 n, .int .i64 k', .int .i64 n'] 49)) (.slice (some ⟨W.heap.size, 0, none⟩) 2 2) [(k, n), (k', n')] := .inr ⟨_, rfl, Cells.new W _ _⟩
set_option maxRecDepth 100000 in
theorem cOnly (k : Int) (w : World) : Calls Try.prog 39 #[.int .i64 k] w fun e w' => e = .returned (plV k 0) ∧ Below w.heap.size w w' := by
  have hip := info_place
  go_enter Try.func39, Try.ntmps39
  go_wp2_with fail
  exact bodyPost_ret (results_cell_row rfl _ _ w.heap.size 49 _ (0, 0) _ rfl (Cells.new w _ _) Try.underlying49 rfl hip) rfl ⟨rfl, (Below.refl _ w).alloc (Nat.le_refl _) _⟩

set_option maxRecDepth 100000 in
theorem cRegp (n : Int) (w : World) : Calls Try.prog 36 #[.int .i64 n] w fun e w' => e = .returned (plV 1 n) ∧ Below w.heap.size w w' := by
  have hip := info_place
  go_enter Try.func36, Try.ntmps36
  go_wp2_with fail
  exact bodyPost_ret (results_cell_row rfl _ _ w.heap.size 49 _ (0, 0) _ rfl (Cells.new w _ _) Try.underlying49 rfl hip) rfl ⟨rfl, (Below.refl _ w).alloc (Nat.le_refl _) _⟩

/-- The list as it grows from a world on. -/
structure LiW (w W : World) (base X : Nat) (v : Value) (L : List Tt) : Prop where
  li : LiAt W base X v L
  low : Below base w W
  keep : KeepT w W
theorem LiW.below {w W W' : World} {base X : Nat} {v : Value} {L : List Tt} (h : LiW w W base X v L) (hb : Below W.heap.size W W') : LiW w W' base X v L := ⟨h.li.below hb, h.low.trans (hb.mono (Nat.le_of_lt h.li.lt)), h.keep.trans (.of_below hb)⟩
theorem LiW.alloc {w W : World} {base X : Nat} {v : Value} {L : List Tt} (h : LiW w W base X v L) (o : Obj) : LiW w (W.alloc o) base X v L := h.below ((Below.refl _ W).alloc (Nat.le_refl _) o)
theorem LiW.drew {w W : World} {base X : Nat} {v : Value} {L : List Tt} (h : LiW w W base X v L) : LiW w W.drew base X v L := h.below (Below.refl _ W).drew
theorem cPutW {w W : World} {base X : Nat} {v : Value} {L : List Tt} (h : LiW w W base X v L) (hL : L.length < 1000) (k n : Int) {fv : Value} {fr : List (Int × Int)} (hf : FromAt W fv fr) :
    Calls Try.prog 40 #[.pointer (some ⟨X, 0, none⟩), plV k n, fv] W fun e w' => e = .returned (.tuple #[]) ∧ ∃ v', LiW w w' base X v' (L ++ [⟨k, n, fr⟩]) :=
  (cLput h.li hL k n hf).mono fun _ _ ⟨he, v', h', hb', hk'⟩ => ⟨he, v', h', h.low.trans hb', h.keep.trans hk'⟩
set_option maxRecDepth 100000 in
theorem cDecideW {w W : World} {base X : Nat} {v : Value} {L : List Tt} (h : LiW w W base X v L) (hL : L.length < 1000) {fv : Value} {fr : List (Int × Int)} (hf : FromAt W fv fr) :
    Calls Try.prog 35 #[.pointer (some ⟨X, 0, none⟩), fv] W fun e w' => e = .returned (.tuple #[]) ∧ ∃ v', LiW w w' base X v' (L ++ [⟨0, 0, fr⟩]) := by
  have H := Lib.hid (cPutW h hL 0 0 hf)
  go_enter Try.func35, Try.ntmps35
  go_wp2_with (go_at_call 40; refine H.out.mono ?_; rintro e w' ⟨rfl, v', h'⟩)
  go_end0
  exact ⟨rfl, v', h'⟩
end Go.Proofs.Ytmpnlhfnemidpaa
namespace Go.Proofs.Ytmpnlhfnemidpaa
open Go.RowKit Go.Shelf
set_option maxRecDepth 100000 in
set_option maxHeartbeats 2000000 in
theorem cTrappedW {w W : World} {base X : Nat} {v : Value} {L : List Tt} (h : LiW w W base X v L) (hL : L.length < 100) :
    Calls Try.prog 37 #[.pointer (some ⟨X, 0, none⟩)] W fun e w' => e = .returned (.tuple #[]) ∧ ∃ v', LiW w w' base X v' (L ++ trapT) := by
  go_enter Try.func37, Try.ntmps37
  go_wp2_with (first
    | (go_at_call 39; refine (cOnly _ _).mono ?_; rintro e w1 ⟨rfl, hb1⟩; replace h := h.below hb1; clear hb1)
    | (go_at_call 40; with_reducible refine (cPutW (h.alloc _) (by (try simp only [List.length_append, List.length_cons, List.length_nil]); omega) _ _ (FromAt.new1 _ _ _)).mono ?_; clear h; rintro e w1 ⟨rfl, v1, h⟩)
    | (go_at_call 40; with_reducible refine (cPutW h (by (try simp only [List.length_append, List.length_cons, List.length_nil]); omega) _ _ (FromAt.nil _)).mono ?_; clear h; rintro e w1 ⟨rfl, v1, h⟩)
    | (go_at_call 35; with_reducible refine (cDecideW (h.alloc _) (by (try simp only [List.length_append, List.length_cons, List.length_nil]); omega) (FromAt.new1 _ _ _)).mono ?_; clear h; rintro e w1 ⟨rfl, v1, h⟩))
  go_end0
  refine ⟨rfl, v1, ?_⟩
  simpa [trapT] using h
set_option maxRecDepth 100000 in
theorem cTrapped (w : World) : Calls Try.prog 28 #[] w fun e w' => ∃ v', e = .returned v' ∧ TsAt w' w.heap.size v' trapT ∧ Below w.heap.size w w' := by
  obtain ⟨K0, B0, S0⟩ := cells1 w #[.slice none 0 0] 73
  have h : LiW (w.alloc (.cells #[.slice none 0 0] 73)) (w.alloc (.cells #[.slice none 0 0] 73)) w.heap.size w.heap.size (.slice none 0 0) [] :=
    ⟨⟨K0, ⟨[], World.ownsRow_nil _ _ _ _, .nil⟩, Nat.le_refl _⟩, Below.refl _ _, .refl _⟩
  go_enter Try.func28, Try.ntmps28
  go_wp2_with (go_at_call 37; refine (cTrappedW h (by simp)).mono ?_; clear h; rintro e w1 ⟨rfl, v1, h⟩; have x0 := (h.li.x.cell 0).trans (show _ = some v1 from rfl))
  go_ret
  exact ⟨v1, rfl, h.li.t, B0.trans (h.low.mono (Nat.le_refl _))⟩
end Go.Proofs.Ytmpnlhfnemidpaa
