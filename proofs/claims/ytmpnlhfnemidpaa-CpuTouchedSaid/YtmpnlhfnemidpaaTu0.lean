/- The cpu's decided; what touches what, as a list. -/
import Derived.Test.YtmpnlhfnemidpaaTr0
import Derived.Test.YtmpnlhfnemidpaaPl5
import Derived.Deep.RegionHeld3
import Derived.Deep.DeepCutAuto
namespace Go.Proofs.Ytmpnlhfnemidpaa
open Go.RowKit Go.Shelf
def decT (op ka kb n : Int) : List Tt :=
  if op = 13 ∨ op = 14 ∨ op = 15 ∨ op = 16 ∨ op = 21 then [⟨0, 0, [(1, kb)]⟩]
  else if op = 17 ∨ op = 18 ∨ op = 19 then [⟨0, 0, [(1, ka), (1, kb)]⟩]
  else if op = 25 then [⟨0, 0, [(7, 0)]⟩]
  else if op = 23 ∧ n ≠ 1 then [⟨0, 0, [(1, ka)]⟩]
  else []
def keptL (n : Int) : Int := if n = 0 then 3 else if n = 1 then 4 else if n = 2 then 5 else if n = 3 then 6 else if n = 4 then 7 else 2
def movT (op ka kb n : Int) : List Tt :=
  if op = 2 then [⟨1, ka, []⟩]
  else if op = 3 then [⟨1, ka, [(1, kb)]⟩]
  else if 4 ≤ op ∧ op ≤ 12 then [⟨1, ka, [(1, ka), (1, kb)]⟩]
  else if op = 20 ∨ op = 21 then [⟨1, ka, [(2, 0)]⟩]
  else if op = 26 then [⟨1, ka, [(keptL n, 0)]⟩]
  else if op = 27 ∧ n < 4 then [⟨keptL n, 0, [(1, ka)]⟩]
  else if op = 27 ∧ n = 4 then [⟨7, 0, [(7, 0), (1, ka)]⟩]
  else []
def endT (op kb : Int) : List Tt :=
  if op = 21 then [⟨2, 0, [(1, kb)]⟩]
  else if op = 25 then [⟨2, 0, [(3, 0)]⟩, ⟨7, 0, [(7, 0)]⟩]
  else [⟨2, 0, [(2, 0)]⟩]
def touchW (op ka kb n : Int) : List Tt := decT op ka kb n ++ movT op ka kb n ++ endT op kb
def touchL (s : St) (x : Int) : List Tt :=
  if ((planL s x).kind == 1) = true then (if (planL s x).cause = 6 then [⟨0, 0, [(1, dB x)]⟩] else []) ++ trapT else touchW (dOp x) (dA x) (dB x) (dN x)
theorem decT_len (op ka kb n : Int) : (decT op ka kb n).length ≤ 1 := by
  unfold decT; split <;> (try split) <;> (try split) <;> (try split) <;> simp
theorem LiAt.refl {W : World} {base X : Nat} {v : Value} {L : List Tt} (h : LiAt W base X v L) : LiW W W base X v L := ⟨h, Below.refl _ _, .refl _⟩
theorem LiW.trans {w W W' : World} {base X : Nat} {v v' : Value} {L L' : List Tt} (h : LiW w W base X v L) (h' : LiW W W' base X v' L') : LiW w W' base X v' L' := ⟨h'.li, h.low.trans h'.low, h.keep.trans h'.keep⟩
/-- The world while touches are told: the instruction, the list, the next place. -/
structure TvAt (w W : World) (Bi Bp X : Nat) (v : Value) (L : List Tt) (op ka kb n : Int) : Prop where
  i : Cells W Bi 54 (instA op ka kb n)
  p : Cells W Bp 49 #[.int .i64 2, .int .i64 0]
  li : LiAt W w.heap.size X v L
  low : Below w.heap.size w W
theorem TvAt.below {w W W' : World} {Bi Bp X : Nat} {v : Value} {L : List Tt} {op ka kb n : Int} (h : TvAt w W Bi Bp X v L op ka kb n) (hb : Below W.heap.size W W') : TvAt w W' Bi Bp X v L op ka kb n :=
  ⟨h.i.below hb h.i.lt, h.p.below hb h.p.lt, h.li.below hb, h.low.trans (hb.mono h.low.size)⟩
theorem TvAt.alloc {w W : World} {Bi Bp X : Nat} {v : Value} {L : List Tt} {op ka kb n : Int} (h : TvAt w W Bi Bp X v L op ka kb n) (o : Obj) : TvAt w (W.alloc o) Bi Bp X v L op ka kb n := h.below ((Below.refl _ W).alloc (Nat.le_refl _) o)
theorem TvAt.drew {w W : World} {Bi Bp X : Nat} {v : Value} {L : List Tt} {op ka kb n : Int} (h : TvAt w W Bi Bp X v L op ka kb n) : TvAt w W.drew Bi Bp X v L op ka kb n := h.below (Below.refl _ W).drew
theorem TvAt.s {w W : World} {Bi Bp X : Nat} {v : Value} {L : List Tt} {op ka kb n : Int} (h : TvAt w W Bi Bp X v L op ka kb n) : W.cell? ⟨Bi, 0, none⟩ = some (.int .i64 op) ∧ W.cell? ⟨Bi, 1, none⟩ = some (.int .i64 ka) ∧ W.cell? ⟨Bi, 2, none⟩ = some (.int .i64 kb) ∧ W.cell? ⟨Bi, 3, none⟩ = some (.int .i64 n) ∧ W.cell? ⟨Bp, 0, none⟩ = some (.int .i64 2) ∧ W.cell? ⟨Bp, 1, none⟩ = some (.int .i64 0) ∧ W.cell? ⟨X, 0, none⟩ = some v :=
  ⟨h.i.cell 0, h.i.cell 1, h.i.cell 2, h.i.cell 3, h.p.cell 0, h.p.cell 1, h.li.x.cell 0⟩
theorem TvAt.put {w W : World} {Bi Bp X : Nat} {v : Value} {L : List Tt} {op ka kb n : Int} (h : TvAt w W Bi Bp X v L op ka kb n) (hL : L.length < 1000) (k m : Int) {fv : Value} {fr : List (Int × Int)} (hf : FromAt W fv fr) :
    Calls Try.prog 40 #[.pointer (some ⟨X, 0, none⟩), plV k m, fv] W fun e w' => e = .returned (.tuple #[]) ∧ ∃ v', TvAt w w' Bi Bp X v' (L ++ [⟨k, m, fr⟩]) op ka kb n :=
  (cLput h.li hL k m hf).mono fun _ _ ⟨he, v', h', hb', hk'⟩ => ⟨he, v', hk' _ _ _ h.i (by decide) (by decide), hk' _ _ _ h.p (by decide) (by decide), h', h.low.trans hb'⟩
set_option maxRecDepth 100000 in
set_option maxHeartbeats 2000000 in
theorem cDecided_b {w W : World} {base X : Nat} {v : Value} {L : List Tt} (h : LiW w W base X v L) (hL : L.length < 100) {op : Int} (hop : op = 13 ∨ op = 14 ∨ op = 15 ∨ op = 16 ∨ op = 21) (ka kb n : Int) :
    Calls Try.prog 38 #[.pointer (some ⟨X, 0, none⟩), .agg (instA op ka kb n)] W fun e w' => e = .returned (.tuple #[]) ∧ ∃ v', LiW w w' base X v' (L ++ decT op ka kb n) := by
  obtain ⟨Ki, hbi, si⟩ := cells1 W (instA op ka kb n) 54
  replace h := h.below hbi
  rcases hop with rfl | rfl | rfl | rfl | rfl
  all_goals
    go_enter Try.func38, Try.ntmps38
    go_upto_region 1 with (fail)
    unfold instA at *
    generalize W.alloc _ = W1 at *
    have i0 : W1.cell? ⟨W.heap.size, 0, none⟩ = some (.int .i64 _) := Ki.cell 0
    have i1 := (Ki.cell 1).trans (show _ = some (Value.int .i64 ka) from rfl)
    have i2 := (Ki.cell 2).trans (show _ = some (Value.int .i64 kb) from rfl)
    have i3 : W1.cell? ⟨W.heap.size, 3, none⟩ = some (.int .i64 _) := Ki.cell 3
    go_wp2_with (first | (go_at_call 36; refine (cRegp _ _).mono ?_; rintro e w1 ⟨rfl, hb1⟩; replace h := h.below hb1; clear hb1) | (go_at_call 35; with_reducible refine (cDecideW (h.alloc _) (by omega) (FromAt.new1 _ _ _)).mono ?_; clear h; rintro e w1 ⟨rfl, v1, h⟩))
    go_end0
    exact ⟨rfl, v1, by simpa [decT] using h⟩
set_option maxRecDepth 100000 in
set_option maxHeartbeats 2000000 in
theorem cDecided_ab {w W : World} {base X : Nat} {v : Value} {L : List Tt} (h : LiW w W base X v L) (hL : L.length < 100) {op : Int} (hop : op = 17 ∨ op = 18 ∨ op = 19) (ka kb n : Int) :
    Calls Try.prog 38 #[.pointer (some ⟨X, 0, none⟩), .agg (instA op ka kb n)] W fun e w' => e = .returned (.tuple #[]) ∧ ∃ v', LiW w w' base X v' (L ++ decT op ka kb n) := by
  obtain ⟨Ki, hbi, si⟩ := cells1 W (instA op ka kb n) 54
  replace h := h.below hbi
  rcases hop with rfl | rfl | rfl
  all_goals
    go_enter Try.func38, Try.ntmps38
    go_upto_region 1 with (fail)
    unfold instA at *
    generalize W.alloc _ = W1 at *
    have i0 : W1.cell? ⟨W.heap.size, 0, none⟩ = some (.int .i64 _) := Ki.cell 0
    have i1 := (Ki.cell 1).trans (show _ = some (Value.int .i64 ka) from rfl)
    have i2 := (Ki.cell 2).trans (show _ = some (Value.int .i64 kb) from rfl)
    have i3 : W1.cell? ⟨W.heap.size, 3, none⟩ = some (.int .i64 _) := Ki.cell 3
    go_upto_region 11 with (fail)
    have hL2 : L.length < 1000 := by omega
    replace h := h.drew
    have Kd : Cells W1.drew W.heap.size 54 #[_, .int .i64 ka, .int .i64 kb, .int .i64 n] := Ki
    go_region_held3 (fun w' => w'.cell? ⟨W.heap.size, 1, none⟩ = some (.int .i64 ka) ∧ w'.cell? ⟨W.heap.size, 2, none⟩ = some (.int .i64 kb))
      (first | exact ⟨Kd.cell 1, Kd.cell 2⟩ | exact ⟨(Kd.alloc _).cell 1, (Kd.alloc _).cell 2⟩ | exact ⟨Kd'.cell 1, Kd'.cell 2⟩)
      (first
        | (go_at_call 36; refine (cRegp _ _).mono ?_; rintro e w1 ⟨rfl, hb1⟩; replace h := h.below hb1; replace Kd := Kd.below hb1 Kd.lt; clear hb1)
        | (go_at_call 35; (with_reducible refine (cDecideW (h.alloc _).li.refl hL2 (FromAt.new2 _ _ _ _ _)).mono ?_); rintro e w1 ⟨rfl, v1, h'⟩; have Kd' := h'.keep _ _ _ (Kd.alloc _) (by decide) (by decide); have h2 := (h.alloc _).trans h'))
    go_end0
    exact ⟨rfl, v1, by simpa [decT] using h2⟩
set_option maxRecDepth 100000 in
set_option maxHeartbeats 2000000 in
theorem cDecided_m {w W : World} {base X : Nat} {v : Value} {L : List Tt} (h : LiW w W base X v L) (hL : L.length < 100) {op : Int} (hop : op = 25) (ka kb n : Int) :
    Calls Try.prog 38 #[.pointer (some ⟨X, 0, none⟩), .agg (instA op ka kb n)] W fun e w' => e = .returned (.tuple #[]) ∧ ∃ v', LiW w w' base X v' (L ++ decT op ka kb n) := by
  obtain ⟨Ki, hbi, si⟩ := cells1 W (instA op ka kb n) 54
  replace h := h.below hbi
  rcases hop with rfl
  all_goals
    go_enter Try.func38, Try.ntmps38
    go_upto_region 1 with (fail)
    unfold instA at *
    generalize W.alloc _ = W1 at *
    have i0 : W1.cell? ⟨W.heap.size, 0, none⟩ = some (.int .i64 _) := Ki.cell 0
    have i1 := (Ki.cell 1).trans (show _ = some (Value.int .i64 ka) from rfl)
    have i2 := (Ki.cell 2).trans (show _ = some (Value.int .i64 kb) from rfl)
    have i3 : W1.cell? ⟨W.heap.size, 3, none⟩ = some (.int .i64 _) := Ki.cell 3
    go_wp2_with (first | (go_at_call 39; refine (cOnly _ _).mono ?_; rintro e w1 ⟨rfl, hb1⟩; replace h := h.below hb1; clear hb1) | (go_at_call 35; with_reducible refine (cDecideW (h.alloc _) (by omega) (FromAt.new1 _ _ _)).mono ?_; clear h; rintro e w1 ⟨rfl, v1, h⟩))
    go_end0
    exact ⟨rfl, v1, by simpa [decT] using h⟩
set_option maxRecDepth 100000 in
set_option maxHeartbeats 2000000 in
theorem cDecided_a {w W : World} {base X : Nat} {v : Value} {L : List Tt} (h : LiW w W base X v L) (hL : L.length < 100) {op n : Int} (hop : op = 23) (hn1 : n ≠ 1) (ka kb : Int) :
    Calls Try.prog 38 #[.pointer (some ⟨X, 0, none⟩), .agg (instA op ka kb n)] W fun e w' => e = .returned (.tuple #[]) ∧ ∃ v', LiW w w' base X v' (L ++ decT op ka kb n) := by
  obtain ⟨Ki, hbi, si⟩ := cells1 W (instA op ka kb n) 54
  replace h := h.below hbi
  rcases hop with rfl
  all_goals
    go_enter Try.func38, Try.ntmps38
    go_upto_region 1 with (fail)
    unfold instA at *
    generalize W.alloc _ = W1 at *
    have i0 : W1.cell? ⟨W.heap.size, 0, none⟩ = some (.int .i64 _) := Ki.cell 0
    have i1 := (Ki.cell 1).trans (show _ = some (Value.int .i64 ka) from rfl)
    have i2 := (Ki.cell 2).trans (show _ = some (Value.int .i64 kb) from rfl)
    have i3 : W1.cell? ⟨W.heap.size, 3, none⟩ = some (.int .i64 _) := Ki.cell 3
    have hn : ((n == 1) = false) := by simpa using hn1
    have hn2 : ((n != 1) = true) := by simpa using hn1
    have HN := Lib.hid hn1
    clear hn1
    go_wp2_with (first | (go_at_call 36; refine (cRegp _ _).mono ?_; rintro e w1 ⟨rfl, hb1⟩; replace h := h.below hb1; clear hb1) | (go_at_call 35; with_reducible refine (cDecideW (h.alloc _) (by omega) (FromAt.new1 _ _ _)).mono ?_; clear h; rintro e w1 ⟨rfl, v1, h⟩))
    go_end0
    exact ⟨rfl, v1, by simpa [decT, HN.out] using h⟩
set_option maxRecDepth 100000 in
set_option maxHeartbeats 2000000 in
theorem cDecided_n {w W : World} {base X : Nat} {v : Value} {L : List Tt} (h : LiW w W base X v L) (_hL : L.length < 100) {op n : Int} (hop : op = 23) (hn1 : n = 1) (ka kb : Int) :
    Calls Try.prog 38 #[.pointer (some ⟨X, 0, none⟩), .agg (instA op ka kb n)] W fun e w' => e = .returned (.tuple #[]) ∧ ∃ v', LiW w w' base X v' (L ++ decT op ka kb n) := by
  obtain ⟨Ki, hbi, si⟩ := cells1 W (instA op ka kb n) 54
  replace h := h.below hbi
  subst hn1
  rcases hop with rfl
  all_goals
    go_enter Try.func38, Try.ntmps38
    go_upto_region 1 with (fail)
    unfold instA at *
    generalize W.alloc _ = W1 at *
    have i0 : W1.cell? ⟨W.heap.size, 0, none⟩ = some (.int .i64 _) := Ki.cell 0
    have i1 := (Ki.cell 1).trans (show _ = some (Value.int .i64 ka) from rfl)
    have i2 := (Ki.cell 2).trans (show _ = some (Value.int .i64 kb) from rfl)
    have i3 : W1.cell? ⟨W.heap.size, 3, none⟩ = some (.int .i64 _) := Ki.cell 3
    go_wp2_with fail
    go_end0
    exact ⟨rfl, v, by simpa [decT] using h⟩
set_option maxRecDepth 100000 in
set_option maxHeartbeats 2000000 in
theorem cDecided_0 {w W : World} {base X : Nat} {v : Value} {L : List Tt} (h : LiW w W base X v L) (_hL : L.length < 100) {op : Int} (hop : op = 1 ∨ op = 2 ∨ op = 3 ∨ op = 4 ∨ op = 5 ∨ op = 6 ∨ op = 7 ∨ op = 8 ∨ op = 9 ∨ op = 10 ∨ op = 11 ∨ op = 12 ∨ op = 20 ∨ op = 22 ∨ op = 24 ∨ op = 26 ∨ op = 27 ∨ op = 28) (ka kb n : Int) :
    Calls Try.prog 38 #[.pointer (some ⟨X, 0, none⟩), .agg (instA op ka kb n)] W fun e w' => e = .returned (.tuple #[]) ∧ ∃ v', LiW w w' base X v' (L ++ decT op ka kb n) := by
  obtain ⟨Ki, hbi, si⟩ := cells1 W (instA op ka kb n) 54
  replace h := h.below hbi
  rcases hop with rfl | rfl | rfl | rfl | rfl | rfl | rfl | rfl | rfl | rfl | rfl | rfl | rfl | rfl | rfl | rfl | rfl | rfl
  all_goals
    go_enter Try.func38, Try.ntmps38
    go_upto_region 1 with (fail)
    unfold instA at *
    generalize W.alloc _ = W1 at *
    have i0 : W1.cell? ⟨W.heap.size, 0, none⟩ = some (.int .i64 _) := Ki.cell 0
    have i1 := (Ki.cell 1).trans (show _ = some (Value.int .i64 ka) from rfl)
    have i2 := (Ki.cell 2).trans (show _ = some (Value.int .i64 kb) from rfl)
    have i3 : W1.cell? ⟨W.heap.size, 3, none⟩ = some (.int .i64 _) := Ki.cell 3
    go_wp2_with fail
    go_end0
    exact ⟨rfl, v, by simpa [decT] using h⟩
theorem cDecidedW {w W : World} {base X : Nat} {v : Value} {L : List Tt} (h : LiW w W base X v L) (hL : L.length < 100) {op : Int} (hop : 1 ≤ op ∧ op ≤ 28) (ka kb n : Int) :
    Calls Try.prog 38 #[.pointer (some ⟨X, 0, none⟩), .agg (instA op ka kb n)] W fun e w' => e = .returned (.tuple #[]) ∧ ∃ v', LiW w w' base X v' (L ++ decT op ka kb n) := by
  by_cases h1 : op = 13 ∨ op = 14 ∨ op = 15 ∨ op = 16 ∨ op = 21
  · exact cDecided_b h hL h1 ka kb n
  by_cases h2 : op = 17 ∨ op = 18 ∨ op = 19
  · exact cDecided_ab h hL h2 ka kb n
  by_cases h3 : op = 25
  · exact cDecided_m h hL h3 ka kb n
  by_cases h4 : op = 23
  · by_cases hn : n = 1
    · exact cDecided_n h hL h4 hn ka kb
    · exact cDecided_a h hL h4 hn ka kb
  · exact cDecided_0 h hL (by omega) ka kb n
theorem kx0 (w : World) : (Instr.index 79 (.agg #[.int .i64 3, .int .i64 4, .int .i64 5, .int .i64 6, .int .i64 7, .int .i64 2]) (.int .i64 0)).run Try.prog w = .ok (.int .i64 3) w := by kernel_rfl
theorem kx1 (w : World) : (Instr.index 79 (.agg #[.int .i64 3, .int .i64 4, .int .i64 5, .int .i64 6, .int .i64 7, .int .i64 2]) (.int .i64 1)).run Try.prog w = .ok (.int .i64 4) w := by kernel_rfl
theorem kx2 (w : World) : (Instr.index 79 (.agg #[.int .i64 3, .int .i64 4, .int .i64 5, .int .i64 6, .int .i64 7, .int .i64 2]) (.int .i64 2)).run Try.prog w = .ok (.int .i64 5) w := by kernel_rfl
theorem kx3 (w : World) : (Instr.index 79 (.agg #[.int .i64 3, .int .i64 4, .int .i64 5, .int .i64 6, .int .i64 7, .int .i64 2]) (.int .i64 3)).run Try.prog w = .ok (.int .i64 6) w := by kernel_rfl
theorem kx4 (w : World) : (Instr.index 79 (.agg #[.int .i64 3, .int .i64 4, .int .i64 5, .int .i64 6, .int .i64 7, .int .i64 2]) (.int .i64 4)).run Try.prog w = .ok (.int .i64 7) w := by kernel_rfl
theorem kx5 (w : World) : (Instr.index 79 (.agg #[.int .i64 3, .int .i64 4, .int .i64 5, .int .i64 6, .int .i64 7, .int .i64 2]) (.int .i64 5)).run Try.prog w = .ok (.int .i64 2) w := by kernel_rfl
set_option maxRecDepth 100000 in
theorem cKept (w : World) : Calls Try.prog 41 #[] w fun e w' => e = .returned (.agg #[.int .i64 3, .int .i64 4, .int .i64 5, .int .i64 6, .int .i64 7, .int .i64 2]) ∧ Below w.heap.size w w' := by
  go_enter Try.func41, Try.ntmps41
  go_wp2_with fail
  exact bodyPost_ret (results_cell_row rfl _ _ w.heap.size 79 _ (0, 0) _ rfl (Cells.new w _ _) Try.underlying79 rfl (by kernel_rfl)) rfl ⟨rfl, (Below.refl _ w).alloc (Nat.le_refl _) _⟩
theorem TvAt.s6 {w W : World} {Bi Bp X : Nat} {v : Value} {L : List Tt} {op ka kb n : Int} (h : TvAt w W Bi Bp X v L op ka kb n) : W.cell? ⟨Bi, 0, none⟩ = some (.int .i64 op) ∧ W.cell? ⟨Bi, 1, none⟩ = some (.int .i64 ka) ∧ W.cell? ⟨Bi, 2, none⟩ = some (.int .i64 kb) ∧ W.cell? ⟨Bi, 3, none⟩ = some (.int .i64 n) ∧ W.cell? ⟨Bp, 0, none⟩ = some (.int .i64 2) ∧ W.cell? ⟨Bp, 1, none⟩ = some (.int .i64 0) :=
  ⟨h.i.cell 0, h.i.cell 1, h.i.cell 2, h.i.cell 3, h.p.cell 0, h.p.cell 1⟩
end Go.Proofs.Ytmpnlhfnemidpaa
