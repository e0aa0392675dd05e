/- IsaUnlike: its walk. -/
import Derived.Test.YtfdmmgkhlgefbaaDoorIsU0
import Derived.Laws.Strings
namespace Go.Proofs.YtfdmmgkhlgefbaaDoor
open Go.RowKit Go.Shelf

set_option maxRecDepth 100000 in
set_option maxHeartbeats 2000000 in
theorem unlike_ff {op a b n op' a' b' n' : Int} (h : mayL op a b n = false) (h' : mayL op' a' b' n' = false) {w : World} (ht : Tb w) :
    Calls Tryd.prog 5 #[.agg (instA op a b n), .agg (instA op' a' b' n')] w fun e w' => e = .returned (.bool true) ∧ Below w.heap.size w w' := by
  have h := Lib.hid h
  have h' := Lib.hid h'
  obtain ⟨K1, K2, hb0, s0⟩ := cells2 w (instA op a b n) (instA op' a' b' n') 26 26
  have T0 := ht.b hb0
  have _p0 := (Cells.cell K1 0).trans (show _ = some (Value.int .i64 (op)) from rfl)
  have _p1 := (Cells.cell K1 1).trans (show _ = some (Value.int .i64 (a)) from rfl)
  have _p2 := (Cells.cell K1 2).trans (show _ = some (Value.int .i64 (b)) from rfl)
  have _p3 := (Cells.cell K1 3).trans (show _ = some (Value.int .i64 (n)) from rfl)
  have _p0 := (Cells.cell K2 0).trans (show _ = some (Value.int .i64 (op')) from rfl)
  have _p1 := (Cells.cell K2 1).trans (show _ = some (Value.int .i64 (a')) from rfl)
  have _p2 := (Cells.cell K2 2).trans (show _ = some (Value.int .i64 (b')) from rfl)
  have _p3 := (Cells.cell K2 3).trans (show _ = some (Value.int .i64 (n')) from rfl)
  go_enter Tryd.func5, Tryd.ntmps5
  go_wp2_with fail
  generalize (w.alloc _).alloc _ = W0 at *
  refine ((cEncode_out h.out _)).mono ?_
  rintro e W1 ⟨rfl, hb⟩
  have hb0' := hb0.trans (hb.mono hb0.size)
  have K1' := K1.below hb K1.lt
  have K2' := K2.below hb K2.lt
  have T0' := T0.b hb
  clear hb0 hb K1 K2 T0 s0
  have hb0 := hb0'
  have K1 := K1'
  have K2 := K2'
  have T0 := T0'
  have s0 := trivial
  clear hb0' K1' K2' T0'
  have _p0 := (Cells.cell K1 0).trans (show _ = some (Value.int .i64 (op)) from rfl)
  have _p1 := (Cells.cell K1 1).trans (show _ = some (Value.int .i64 (a)) from rfl)
  have _p2 := (Cells.cell K1 2).trans (show _ = some (Value.int .i64 (b)) from rfl)
  have _p3 := (Cells.cell K1 3).trans (show _ = some (Value.int .i64 (n)) from rfl)
  have _p0 := (Cells.cell K2 0).trans (show _ = some (Value.int .i64 (op')) from rfl)
  have _p1 := (Cells.cell K2 1).trans (show _ = some (Value.int .i64 (a')) from rfl)
  have _p2 := (Cells.cell K2 2).trans (show _ = some (Value.int .i64 (b')) from rfl)
  have _p3 := (Cells.cell K2 3).trans (show _ = some (Value.int .i64 (n')) from rfl)
  go_wp2_with fail
  refine ((cEncode_out h'.out _)).mono ?_
  rintro e W2 ⟨rfl, hb⟩
  have hb0' := hb0.trans (hb.mono hb0.size)
  have K1' := K1.below hb K1.lt
  have K2' := K2.below hb K2.lt
  have T0' := T0.b hb
  clear hb0 hb K1 K2 T0 s0
  have hb0 := hb0'
  have K1 := K1'
  have K2 := K2'
  have T0 := T0'
  have s0 := trivial
  clear hb0' K1' K2' T0'
  have _p0 := (Cells.cell K1 0).trans (show _ = some (Value.int .i64 (op)) from rfl)
  have _p1 := (Cells.cell K1 1).trans (show _ = some (Value.int .i64 (a)) from rfl)
  have _p2 := (Cells.cell K1 2).trans (show _ = some (Value.int .i64 (b)) from rfl)
  have _p3 := (Cells.cell K1 3).trans (show _ = some (Value.int .i64 (n)) from rfl)
  have _p0 := (Cells.cell K2 0).trans (show _ = some (Value.int .i64 (op')) from rfl)
  have _p1 := (Cells.cell K2 1).trans (show _ = some (Value.int .i64 (a')) from rfl)
  have _p2 := (Cells.cell K2 2).trans (show _ = some (Value.int .i64 (b')) from rfl)
  have _p3 := (Cells.cell K2 3).trans (show _ = some (Value.int .i64 (n')) from rfl)
  go_wp2_with fail
  refine (((fun _ => cText_out h.out _) T0)).mono ?_
  rintro e W3 ⟨rfl, hb⟩
  have hb0' := hb0.trans (hb.mono hb0.size)
  have K1' := K1.below hb K1.lt
  have K2' := K2.below hb K2.lt
  have T0' := T0.b hb
  clear hb0 hb K1 K2 T0 s0
  have hb0 := hb0'
  have K1 := K1'
  have K2 := K2'
  have T0 := T0'
  have s0 := trivial
  clear hb0' K1' K2' T0'
  have _p0 := (Cells.cell K1 0).trans (show _ = some (Value.int .i64 (op)) from rfl)
  have _p1 := (Cells.cell K1 1).trans (show _ = some (Value.int .i64 (a)) from rfl)
  have _p2 := (Cells.cell K1 2).trans (show _ = some (Value.int .i64 (b)) from rfl)
  have _p3 := (Cells.cell K1 3).trans (show _ = some (Value.int .i64 (n)) from rfl)
  have _p0 := (Cells.cell K2 0).trans (show _ = some (Value.int .i64 (op')) from rfl)
  have _p1 := (Cells.cell K2 1).trans (show _ = some (Value.int .i64 (a')) from rfl)
  have _p2 := (Cells.cell K2 2).trans (show _ = some (Value.int .i64 (b')) from rfl)
  have _p3 := (Cells.cell K2 3).trans (show _ = some (Value.int .i64 (n')) from rfl)
  go_wp2_with fail
  refine (((fun _ => cText_out h'.out _) T0)).mono ?_
  rintro e W4 ⟨rfl, hb⟩
  have hb0' := hb0.trans (hb.mono hb0.size)
  have K1' := K1.below hb K1.lt
  have K2' := K2.below hb K2.lt
  have T0' := T0.b hb
  clear hb0 hb K1 K2 T0 s0
  have hb0 := hb0'
  have K1 := K1'
  have K2 := K2'
  have T0 := T0'
  have s0 := trivial
  clear hb0' K1' K2' T0'
  have _p0 := (Cells.cell K1 0).trans (show _ = some (Value.int .i64 (op)) from rfl)
  have _p1 := (Cells.cell K1 1).trans (show _ = some (Value.int .i64 (a)) from rfl)
  have _p2 := (Cells.cell K1 2).trans (show _ = some (Value.int .i64 (b)) from rfl)
  have _p3 := (Cells.cell K1 3).trans (show _ = some (Value.int .i64 (n)) from rfl)
  have _p0 := (Cells.cell K2 0).trans (show _ = some (Value.int .i64 (op')) from rfl)
  have _p1 := (Cells.cell K2 1).trans (show _ = some (Value.int .i64 (a')) from rfl)
  have _p2 := (Cells.cell K2 2).trans (show _ = some (Value.int .i64 (b')) from rfl)
  have _p3 := (Cells.cell K2 3).trans (show _ = some (Value.int .i64 (n')) from rfl)
  go_wp2_with fail
  refine (cKnown T0).mono ?_
  rintro e W5 ⟨rfl, hb5⟩
  go_wp2
  go_ret
  refine ⟨?_, hb0.trans (hb5.mono hb0.size)⟩
  first | rfl | (show Ending.returned (Value.bool _) = _; rw [n2]; rfl)
set_option maxRecDepth 100000 in
set_option maxHeartbeats 2000000 in
theorem unlike_tf {op a b n op' a' b' n' : Int} (h : mayL op a b n = true) (h' : mayL op' a' b' n' = false) {w : World} (ht : Tb w) :
    Calls Tryd.prog 5 #[.agg (instA op a b n), .agg (instA op' a' b' n')] w fun e w' => e = .returned (.bool true) ∧ Below w.heap.size w w' := by
  have h := Lib.hid h
  have h' := Lib.hid h'
  obtain ⟨K1, K2, hb0, s0⟩ := cells2 w (instA op a b n) (instA op' a' b' n') 26 26
  have T0 := ht.b hb0
  have _p0 := (Cells.cell K1 0).trans (show _ = some (Value.int .i64 (op)) from rfl)
  have _p1 := (Cells.cell K1 1).trans (show _ = some (Value.int .i64 (a)) from rfl)
  have _p2 := (Cells.cell K1 2).trans (show _ = some (Value.int .i64 (b)) from rfl)
  have _p3 := (Cells.cell K1 3).trans (show _ = some (Value.int .i64 (n)) from rfl)
  have _p0 := (Cells.cell K2 0).trans (show _ = some (Value.int .i64 (op')) from rfl)
  have _p1 := (Cells.cell K2 1).trans (show _ = some (Value.int .i64 (a')) from rfl)
  have _p2 := (Cells.cell K2 2).trans (show _ = some (Value.int .i64 (b')) from rfl)
  have _p3 := (Cells.cell K2 3).trans (show _ = some (Value.int .i64 (n')) from rfl)
  go_enter Tryd.func5, Tryd.ntmps5
  go_wp2_with fail
  generalize (w.alloc _).alloc _ = W0 at *
  refine ((cEncode_in h.out _)).mono ?_
  rintro e W1 ⟨rfl, hb⟩
  have hb0' := hb0.trans (hb.mono hb0.size)
  have K1' := K1.below hb K1.lt
  have K2' := K2.below hb K2.lt
  have T0' := T0.b hb
  clear hb0 hb K1 K2 T0 s0
  have hb0 := hb0'
  have K1 := K1'
  have K2 := K2'
  have T0 := T0'
  have s0 := trivial
  clear hb0' K1' K2' T0'
  have _p0 := (Cells.cell K1 0).trans (show _ = some (Value.int .i64 (op)) from rfl)
  have _p1 := (Cells.cell K1 1).trans (show _ = some (Value.int .i64 (a)) from rfl)
  have _p2 := (Cells.cell K1 2).trans (show _ = some (Value.int .i64 (b)) from rfl)
  have _p3 := (Cells.cell K1 3).trans (show _ = some (Value.int .i64 (n)) from rfl)
  have _p0 := (Cells.cell K2 0).trans (show _ = some (Value.int .i64 (op')) from rfl)
  have _p1 := (Cells.cell K2 1).trans (show _ = some (Value.int .i64 (a')) from rfl)
  have _p2 := (Cells.cell K2 2).trans (show _ = some (Value.int .i64 (b')) from rfl)
  have _p3 := (Cells.cell K2 3).trans (show _ = some (Value.int .i64 (n')) from rfl)
  go_wp2_with fail
  refine ((cEncode_out h'.out _)).mono ?_
  rintro e W2 ⟨rfl, hb⟩
  have hb0' := hb0.trans (hb.mono hb0.size)
  have K1' := K1.below hb K1.lt
  have K2' := K2.below hb K2.lt
  have T0' := T0.b hb
  clear hb0 hb K1 K2 T0 s0
  have hb0 := hb0'
  have K1 := K1'
  have K2 := K2'
  have T0 := T0'
  have s0 := trivial
  clear hb0' K1' K2' T0'
  have _p0 := (Cells.cell K1 0).trans (show _ = some (Value.int .i64 (op)) from rfl)
  have _p1 := (Cells.cell K1 1).trans (show _ = some (Value.int .i64 (a)) from rfl)
  have _p2 := (Cells.cell K1 2).trans (show _ = some (Value.int .i64 (b)) from rfl)
  have _p3 := (Cells.cell K1 3).trans (show _ = some (Value.int .i64 (n)) from rfl)
  have _p0 := (Cells.cell K2 0).trans (show _ = some (Value.int .i64 (op')) from rfl)
  have _p1 := (Cells.cell K2 1).trans (show _ = some (Value.int .i64 (a')) from rfl)
  have _p2 := (Cells.cell K2 2).trans (show _ = some (Value.int .i64 (b')) from rfl)
  have _p3 := (Cells.cell K2 3).trans (show _ = some (Value.int .i64 (n')) from rfl)
  go_wp2_with fail
  refine (((fun T => cText_in h.out T) T0)).mono ?_
  rintro e W3 ⟨rfl, hb⟩
  have hb0' := hb0.trans (hb.mono hb0.size)
  have K1' := K1.below hb K1.lt
  have K2' := K2.below hb K2.lt
  have T0' := T0.b hb
  clear hb0 hb K1 K2 T0 s0
  have hb0 := hb0'
  have K1 := K1'
  have K2 := K2'
  have T0 := T0'
  have s0 := trivial
  clear hb0' K1' K2' T0'
  have _p0 := (Cells.cell K1 0).trans (show _ = some (Value.int .i64 (op)) from rfl)
  have _p1 := (Cells.cell K1 1).trans (show _ = some (Value.int .i64 (a)) from rfl)
  have _p2 := (Cells.cell K1 2).trans (show _ = some (Value.int .i64 (b)) from rfl)
  have _p3 := (Cells.cell K1 3).trans (show _ = some (Value.int .i64 (n)) from rfl)
  have _p0 := (Cells.cell K2 0).trans (show _ = some (Value.int .i64 (op')) from rfl)
  have _p1 := (Cells.cell K2 1).trans (show _ = some (Value.int .i64 (a')) from rfl)
  have _p2 := (Cells.cell K2 2).trans (show _ = some (Value.int .i64 (b')) from rfl)
  have _p3 := (Cells.cell K2 3).trans (show _ = some (Value.int .i64 (n')) from rfl)
  go_wp2_with fail
  refine (((fun _ => cText_out h'.out _) T0)).mono ?_
  rintro e W4 ⟨rfl, hb⟩
  have hb0' := hb0.trans (hb.mono hb0.size)
  have K1' := K1.below hb K1.lt
  have K2' := K2.below hb K2.lt
  have T0' := T0.b hb
  clear hb0 hb K1 K2 T0 s0
  have hb0 := hb0'
  have K1 := K1'
  have K2 := K2'
  have T0 := T0'
  have s0 := trivial
  clear hb0' K1' K2' T0'
  have _p0 := (Cells.cell K1 0).trans (show _ = some (Value.int .i64 (op)) from rfl)
  have _p1 := (Cells.cell K1 1).trans (show _ = some (Value.int .i64 (a)) from rfl)
  have _p2 := (Cells.cell K1 2).trans (show _ = some (Value.int .i64 (b)) from rfl)
  have _p3 := (Cells.cell K1 3).trans (show _ = some (Value.int .i64 (n)) from rfl)
  have _p0 := (Cells.cell K2 0).trans (show _ = some (Value.int .i64 (op')) from rfl)
  have _p1 := (Cells.cell K2 1).trans (show _ = some (Value.int .i64 (a')) from rfl)
  have _p2 := (Cells.cell K2 2).trans (show _ = some (Value.int .i64 (b')) from rfl)
  have _p3 := (Cells.cell K2 3).trans (show _ = some (Value.int .i64 (n')) from rfl)
  go_wp2_with fail
  refine (cKnown T0).mono ?_
  rintro e W5 ⟨rfl, hb5⟩
  go_wp2
  go_ret
  refine ⟨?_, hb0.trans (hb5.mono hb0.size)⟩
  first | rfl | (show Ending.returned (Value.bool _) = _; rw [n2]; rfl)
set_option maxRecDepth 100000 in
set_option maxHeartbeats 2000000 in
theorem unlike_ft {op a b n op' a' b' n' : Int} (h : mayL op a b n = false) (h' : mayL op' a' b' n' = true) {w : World} (ht : Tb w) :
    Calls Tryd.prog 5 #[.agg (instA op a b n), .agg (instA op' a' b' n')] w fun e w' => e = .returned (.bool true) ∧ Below w.heap.size w w' := by
  have h := Lib.hid h
  have h' := Lib.hid h'
  obtain ⟨K1, K2, hb0, s0⟩ := cells2 w (instA op a b n) (instA op' a' b' n') 26 26
  have T0 := ht.b hb0
  have _p0 := (Cells.cell K1 0).trans (show _ = some (Value.int .i64 (op)) from rfl)
  have _p1 := (Cells.cell K1 1).trans (show _ = some (Value.int .i64 (a)) from rfl)
  have _p2 := (Cells.cell K1 2).trans (show _ = some (Value.int .i64 (b)) from rfl)
  have _p3 := (Cells.cell K1 3).trans (show _ = some (Value.int .i64 (n)) from rfl)
  have _p0 := (Cells.cell K2 0).trans (show _ = some (Value.int .i64 (op')) from rfl)
  have _p1 := (Cells.cell K2 1).trans (show _ = some (Value.int .i64 (a')) from rfl)
  have _p2 := (Cells.cell K2 2).trans (show _ = some (Value.int .i64 (b')) from rfl)
  have _p3 := (Cells.cell K2 3).trans (show _ = some (Value.int .i64 (n')) from rfl)
  go_enter Tryd.func5, Tryd.ntmps5
  go_wp2_with fail
  generalize (w.alloc _).alloc _ = W0 at *
  refine ((cEncode_out h.out _)).mono ?_
  rintro e W1 ⟨rfl, hb⟩
  have hb0' := hb0.trans (hb.mono hb0.size)
  have K1' := K1.below hb K1.lt
  have K2' := K2.below hb K2.lt
  have T0' := T0.b hb
  clear hb0 hb K1 K2 T0 s0
  have hb0 := hb0'
  have K1 := K1'
  have K2 := K2'
  have T0 := T0'
  have s0 := trivial
  clear hb0' K1' K2' T0'
  have _p0 := (Cells.cell K1 0).trans (show _ = some (Value.int .i64 (op)) from rfl)
  have _p1 := (Cells.cell K1 1).trans (show _ = some (Value.int .i64 (a)) from rfl)
  have _p2 := (Cells.cell K1 2).trans (show _ = some (Value.int .i64 (b)) from rfl)
  have _p3 := (Cells.cell K1 3).trans (show _ = some (Value.int .i64 (n)) from rfl)
  have _p0 := (Cells.cell K2 0).trans (show _ = some (Value.int .i64 (op')) from rfl)
  have _p1 := (Cells.cell K2 1).trans (show _ = some (Value.int .i64 (a')) from rfl)
  have _p2 := (Cells.cell K2 2).trans (show _ = some (Value.int .i64 (b')) from rfl)
  have _p3 := (Cells.cell K2 3).trans (show _ = some (Value.int .i64 (n')) from rfl)
  go_wp2_with fail
  refine ((cEncode_in h'.out _)).mono ?_
  rintro e W2 ⟨rfl, hb⟩
  have hb0' := hb0.trans (hb.mono hb0.size)
  have K1' := K1.below hb K1.lt
  have K2' := K2.below hb K2.lt
  have T0' := T0.b hb
  clear hb0 hb K1 K2 T0 s0
  have hb0 := hb0'
  have K1 := K1'
  have K2 := K2'
  have T0 := T0'
  have s0 := trivial
  clear hb0' K1' K2' T0'
  have _p0 := (Cells.cell K1 0).trans (show _ = some (Value.int .i64 (op)) from rfl)
  have _p1 := (Cells.cell K1 1).trans (show _ = some (Value.int .i64 (a)) from rfl)
  have _p2 := (Cells.cell K1 2).trans (show _ = some (Value.int .i64 (b)) from rfl)
  have _p3 := (Cells.cell K1 3).trans (show _ = some (Value.int .i64 (n)) from rfl)
  have _p0 := (Cells.cell K2 0).trans (show _ = some (Value.int .i64 (op')) from rfl)
  have _p1 := (Cells.cell K2 1).trans (show _ = some (Value.int .i64 (a')) from rfl)
  have _p2 := (Cells.cell K2 2).trans (show _ = some (Value.int .i64 (b')) from rfl)
  have _p3 := (Cells.cell K2 3).trans (show _ = some (Value.int .i64 (n')) from rfl)
  go_wp2_with fail
  refine (((fun _ => cText_out h.out _) T0)).mono ?_
  rintro e W3 ⟨rfl, hb⟩
  have hb0' := hb0.trans (hb.mono hb0.size)
  have K1' := K1.below hb K1.lt
  have K2' := K2.below hb K2.lt
  have T0' := T0.b hb
  clear hb0 hb K1 K2 T0 s0
  have hb0 := hb0'
  have K1 := K1'
  have K2 := K2'
  have T0 := T0'
  have s0 := trivial
  clear hb0' K1' K2' T0'
  have _p0 := (Cells.cell K1 0).trans (show _ = some (Value.int .i64 (op)) from rfl)
  have _p1 := (Cells.cell K1 1).trans (show _ = some (Value.int .i64 (a)) from rfl)
  have _p2 := (Cells.cell K1 2).trans (show _ = some (Value.int .i64 (b)) from rfl)
  have _p3 := (Cells.cell K1 3).trans (show _ = some (Value.int .i64 (n)) from rfl)
  have _p0 := (Cells.cell K2 0).trans (show _ = some (Value.int .i64 (op')) from rfl)
  have _p1 := (Cells.cell K2 1).trans (show _ = some (Value.int .i64 (a')) from rfl)
  have _p2 := (Cells.cell K2 2).trans (show _ = some (Value.int .i64 (b')) from rfl)
  have _p3 := (Cells.cell K2 3).trans (show _ = some (Value.int .i64 (n')) from rfl)
  go_wp2_with fail
  refine (((fun T => cText_in h'.out T) T0)).mono ?_
  rintro e W4 ⟨rfl, hb⟩
  have hb0' := hb0.trans (hb.mono hb0.size)
  have K1' := K1.below hb K1.lt
  have K2' := K2.below hb K2.lt
  have T0' := T0.b hb
  clear hb0 hb K1 K2 T0 s0
  have hb0 := hb0'
  have K1 := K1'
  have K2 := K2'
  have T0 := T0'
  have s0 := trivial
  clear hb0' K1' K2' T0'
  have _p0 := (Cells.cell K1 0).trans (show _ = some (Value.int .i64 (op)) from rfl)
  have _p1 := (Cells.cell K1 1).trans (show _ = some (Value.int .i64 (a)) from rfl)
  have _p2 := (Cells.cell K1 2).trans (show _ = some (Value.int .i64 (b)) from rfl)
  have _p3 := (Cells.cell K1 3).trans (show _ = some (Value.int .i64 (n)) from rfl)
  have _p0 := (Cells.cell K2 0).trans (show _ = some (Value.int .i64 (op')) from rfl)
  have _p1 := (Cells.cell K2 1).trans (show _ = some (Value.int .i64 (a')) from rfl)
  have _p2 := (Cells.cell K2 2).trans (show _ = some (Value.int .i64 (b')) from rfl)
  have _p3 := (Cells.cell K2 3).trans (show _ = some (Value.int .i64 (n')) from rfl)
  go_wp2_with fail
  refine (cKnown T0).mono ?_
  rintro e W5 ⟨rfl, hb5⟩
  go_wp2
  go_ret
  refine ⟨?_, hb0.trans (hb5.mono hb0.size)⟩
  first | rfl | (show Ending.returned (Value.bool _) = _; rw [n2]; rfl)
set_option maxRecDepth 100000 in
set_option maxHeartbeats 2000000 in
theorem unlike_eq {op a b n : Int} (h : mayL op a b n = true) {w : World} (ht : Tb w) :
    Calls Tryd.prog 5 #[.agg (instA op a b n), .agg (instA op a b n)] w fun e w' => e = .returned (.bool true) ∧ Below w.heap.size w w' := by
  have hE := fun W => cEncode_in h W
  have hT := fun W (h' : Tb W) => cText_in h h'
  generalize encL op a b n = ew at *
  generalize textB op a b n = tx at *
  have hE := Lib.hid hE
  have hT := Lib.hid hT
  clear h
  obtain ⟨K1, K2, hb0, s0⟩ := cells2 w (instA op a b n) (instA op a b n) 26 26
  have T0 := ht.b hb0
  have _p0 := (Cells.cell K1 0).trans (show _ = some (Value.int .i64 (op)) from rfl)
  have _p1 := (Cells.cell K1 1).trans (show _ = some (Value.int .i64 (a)) from rfl)
  have _p2 := (Cells.cell K1 2).trans (show _ = some (Value.int .i64 (b)) from rfl)
  have _p3 := (Cells.cell K1 3).trans (show _ = some (Value.int .i64 (n)) from rfl)
  have _p0 := (Cells.cell K2 0).trans (show _ = some (Value.int .i64 (op)) from rfl)
  have _p1 := (Cells.cell K2 1).trans (show _ = some (Value.int .i64 (a)) from rfl)
  have _p2 := (Cells.cell K2 2).trans (show _ = some (Value.int .i64 (b)) from rfl)
  have _p3 := (Cells.cell K2 3).trans (show _ = some (Value.int .i64 (n)) from rfl)
  go_enter Tryd.func5, Tryd.ntmps5
  go_wp2_with fail
  generalize (w.alloc _).alloc _ = W0 at *
  refine (((hE.out _))).mono ?_
  rintro e W1 ⟨rfl, hb⟩
  have hb0' := hb0.trans (hb.mono hb0.size)
  have K1' := K1.below hb K1.lt
  have K2' := K2.below hb K2.lt
  have T0' := T0.b hb
  clear hb0 hb K1 K2 T0 s0
  have hb0 := hb0'
  have K1 := K1'
  have K2 := K2'
  have T0 := T0'
  have s0 := trivial
  clear hb0' K1' K2' T0'
  have _p0 := (Cells.cell K1 0).trans (show _ = some (Value.int .i64 (op)) from rfl)
  have _p1 := (Cells.cell K1 1).trans (show _ = some (Value.int .i64 (a)) from rfl)
  have _p2 := (Cells.cell K1 2).trans (show _ = some (Value.int .i64 (b)) from rfl)
  have _p3 := (Cells.cell K1 3).trans (show _ = some (Value.int .i64 (n)) from rfl)
  have _p0 := (Cells.cell K2 0).trans (show _ = some (Value.int .i64 (op)) from rfl)
  have _p1 := (Cells.cell K2 1).trans (show _ = some (Value.int .i64 (a)) from rfl)
  have _p2 := (Cells.cell K2 2).trans (show _ = some (Value.int .i64 (b)) from rfl)
  have _p3 := (Cells.cell K2 3).trans (show _ = some (Value.int .i64 (n)) from rfl)
  go_wp2_with fail
  refine (((hE.out _))).mono ?_
  rintro e W2 ⟨rfl, hb⟩
  have hb0' := hb0.trans (hb.mono hb0.size)
  have K1' := K1.below hb K1.lt
  have K2' := K2.below hb K2.lt
  have T0' := T0.b hb
  clear hb0 hb K1 K2 T0 s0
  have hb0 := hb0'
  have K1 := K1'
  have K2 := K2'
  have T0 := T0'
  have s0 := trivial
  clear hb0' K1' K2' T0'
  have _p0 := (Cells.cell K1 0).trans (show _ = some (Value.int .i64 (op)) from rfl)
  have _p1 := (Cells.cell K1 1).trans (show _ = some (Value.int .i64 (a)) from rfl)
  have _p2 := (Cells.cell K1 2).trans (show _ = some (Value.int .i64 (b)) from rfl)
  have _p3 := (Cells.cell K1 3).trans (show _ = some (Value.int .i64 (n)) from rfl)
  have _p0 := (Cells.cell K2 0).trans (show _ = some (Value.int .i64 (op)) from rfl)
  have _p1 := (Cells.cell K2 1).trans (show _ = some (Value.int .i64 (a)) from rfl)
  have _p2 := (Cells.cell K2 2).trans (show _ = some (Value.int .i64 (b)) from rfl)
  have _p3 := (Cells.cell K2 3).trans (show _ = some (Value.int .i64 (n)) from rfl)
  go_wp2_with fail
  refine (((fun T => hT.out _ T) T0)).mono ?_
  rintro e W3 ⟨rfl, hb⟩
  have hb0' := hb0.trans (hb.mono hb0.size)
  have K1' := K1.below hb K1.lt
  have K2' := K2.below hb K2.lt
  have T0' := T0.b hb
  clear hb0 hb K1 K2 T0 s0
  have hb0 := hb0'
  have K1 := K1'
  have K2 := K2'
  have T0 := T0'
  have s0 := trivial
  clear hb0' K1' K2' T0'
  have _p0 := (Cells.cell K1 0).trans (show _ = some (Value.int .i64 (op)) from rfl)
  have _p1 := (Cells.cell K1 1).trans (show _ = some (Value.int .i64 (a)) from rfl)
  have _p2 := (Cells.cell K1 2).trans (show _ = some (Value.int .i64 (b)) from rfl)
  have _p3 := (Cells.cell K1 3).trans (show _ = some (Value.int .i64 (n)) from rfl)
  have _p0 := (Cells.cell K2 0).trans (show _ = some (Value.int .i64 (op)) from rfl)
  have _p1 := (Cells.cell K2 1).trans (show _ = some (Value.int .i64 (a)) from rfl)
  have _p2 := (Cells.cell K2 2).trans (show _ = some (Value.int .i64 (b)) from rfl)
  have _p3 := (Cells.cell K2 3).trans (show _ = some (Value.int .i64 (n)) from rfl)
  go_wp2_with fail
  refine (((fun T => hT.out _ T) T0)).mono ?_
  rintro e W4 ⟨rfl, hb⟩
  have hb0' := hb0.trans (hb.mono hb0.size)
  have K1' := K1.below hb K1.lt
  have K2' := K2.below hb K2.lt
  have T0' := T0.b hb
  clear hb0 hb K1 K2 T0 s0
  have hb0 := hb0'
  have K1 := K1'
  have K2 := K2'
  have T0 := T0'
  have s0 := trivial
  clear hb0' K1' K2' T0'
  have _p0 := (Cells.cell K1 0).trans (show _ = some (Value.int .i64 (op)) from rfl)
  have _p1 := (Cells.cell K1 1).trans (show _ = some (Value.int .i64 (a)) from rfl)
  have _p2 := (Cells.cell K1 2).trans (show _ = some (Value.int .i64 (b)) from rfl)
  have _p3 := (Cells.cell K1 3).trans (show _ = some (Value.int .i64 (n)) from rfl)
  have _p0 := (Cells.cell K2 0).trans (show _ = some (Value.int .i64 (op)) from rfl)
  have _p1 := (Cells.cell K2 1).trans (show _ = some (Value.int .i64 (a)) from rfl)
  have _p2 := (Cells.cell K2 2).trans (show _ = some (Value.int .i64 (b)) from rfl)
  have _p3 := (Cells.cell K2 3).trans (show _ = some (Value.int .i64 (n)) from rfl)
  go_wp2_with fail
  refine (cKnown T0).mono ?_
  rintro e W5 ⟨rfl, hb5⟩
  go_wp2
  go_ret
  refine ⟨?_, hb0.trans (hb5.mono hb0.size)⟩
  first | rfl | (show Ending.returned (Value.bool _) = _; rw [n2]; rfl)
set_option maxRecDepth 100000 in
set_option maxHeartbeats 2000000 in
theorem unlike_ne {op a b n op' a' b' n' : Int} (h : mayL op a b n = true) (h' : mayL op' a' b' n' = true) (hne : ¬ (op = op' ∧ a = a' ∧ b = b' ∧ n = n')) {w : World} (ht : Tb w) :
    Calls Tryd.prog 5 #[.agg (instA op a b n), .agg (instA op' a' b' n')] w fun e w' => e = .returned (.bool true) ∧ Below w.heap.size w w' := by
  have hE := fun W => cEncode_in h W
  have hT := fun W (T : Tb W) => cText_in h T
  have hE' := fun W => cEncode_in h' W
  have hT' := fun W (T : Tb W) => cText_in h' T
  have n1 : (encL op a b n == encL op' a' b' n') = false := by
    rw [beq_eq_false_iff_ne]
    intro e
    obtain ⟨d0, d1, d2, d3, _⟩ := dec_enc h
    obtain ⟨e0, e1, e2, e3, _⟩ := dec_enc h'
    rw [e] at d0 d1 d2 d3
    exact hne ⟨d0.symm.trans e0, d1.symm.trans e1, d2.symm.trans e2, d3.symm.trans e3⟩
  have n2 : ((textB op a b n).toList == (textB op' a' b' n').toList) = false := by
    rw [beq_eq_false_iff_ne]
    intro e
    rw [ByteArray.toList_eq, ByteArray.toList_eq] at e
    exact hne (text_inj h h' (ByteArray.ext (Array.ext' e)))
  generalize encL op a b n = ew at *
  generalize textB op a b n = tx at *
  generalize encL op' a' b' n' = ew' at *
  generalize textB op' a' b' n' = tx' at *
  have hE := Lib.hid hE
  have hT := Lib.hid hT
  have hE' := Lib.hid hE'
  have hT' := Lib.hid hT'
  clear h h'
  have hc : (op == op') = false ∨ ((op == op') = true ∧ (a == a') = false) ∨ ((op == op') = true ∧ (a == a') = true ∧ (b == b') = false) ∨ ((op == op') = true ∧ (a == a') = true ∧ (b == b') = true ∧ (n == n') = false) := by
    simp only [beq_eq_false_iff_ne, beq_iff_eq]; omega
  clear hne
  rcases hc with q | ⟨q1, q⟩ | ⟨q1, q2, q⟩ | ⟨q1, q2, q3, q⟩
  · skip
    obtain ⟨K1, K2, hb0, s0⟩ := cells2 w (instA op a b n) (instA op' a' b' n') 26 26
    have T0 := ht.b hb0
    have _p0 := (Cells.cell K1 0).trans (show _ = some (Value.int .i64 (op)) from rfl)
    have _p1 := (Cells.cell K1 1).trans (show _ = some (Value.int .i64 (a)) from rfl)
    have _p2 := (Cells.cell K1 2).trans (show _ = some (Value.int .i64 (b)) from rfl)
    have _p3 := (Cells.cell K1 3).trans (show _ = some (Value.int .i64 (n)) from rfl)
    have _p0 := (Cells.cell K2 0).trans (show _ = some (Value.int .i64 (op')) from rfl)
    have _p1 := (Cells.cell K2 1).trans (show _ = some (Value.int .i64 (a')) from rfl)
    have _p2 := (Cells.cell K2 2).trans (show _ = some (Value.int .i64 (b')) from rfl)
    have _p3 := (Cells.cell K2 3).trans (show _ = some (Value.int .i64 (n')) from rfl)
    go_enter Tryd.func5, Tryd.ntmps5
    go_wp2_with fail
    generalize (w.alloc _).alloc _ = W0 at *
    refine (((hE.out _))).mono ?_
    rintro e W1 ⟨rfl, hb⟩
    have hb0' := hb0.trans (hb.mono hb0.size)
    have K1' := K1.below hb K1.lt
    have K2' := K2.below hb K2.lt
    have T0' := T0.b hb
    clear hb0 hb K1 K2 T0 s0
    have hb0 := hb0'
    have K1 := K1'
    have K2 := K2'
    have T0 := T0'
    have s0 := trivial
    clear hb0' K1' K2' T0'
    have _p0 := (Cells.cell K1 0).trans (show _ = some (Value.int .i64 (op)) from rfl)
    have _p1 := (Cells.cell K1 1).trans (show _ = some (Value.int .i64 (a)) from rfl)
    have _p2 := (Cells.cell K1 2).trans (show _ = some (Value.int .i64 (b)) from rfl)
    have _p3 := (Cells.cell K1 3).trans (show _ = some (Value.int .i64 (n)) from rfl)
    have _p0 := (Cells.cell K2 0).trans (show _ = some (Value.int .i64 (op')) from rfl)
    have _p1 := (Cells.cell K2 1).trans (show _ = some (Value.int .i64 (a')) from rfl)
    have _p2 := (Cells.cell K2 2).trans (show _ = some (Value.int .i64 (b')) from rfl)
    have _p3 := (Cells.cell K2 3).trans (show _ = some (Value.int .i64 (n')) from rfl)
    go_wp2_with fail
    refine (((hE'.out _))).mono ?_
    rintro e W2 ⟨rfl, hb⟩
    have hb0' := hb0.trans (hb.mono hb0.size)
    have K1' := K1.below hb K1.lt
    have K2' := K2.below hb K2.lt
    have T0' := T0.b hb
    clear hb0 hb K1 K2 T0 s0
    have hb0 := hb0'
    have K1 := K1'
    have K2 := K2'
    have T0 := T0'
    have s0 := trivial
    clear hb0' K1' K2' T0'
    have _p0 := (Cells.cell K1 0).trans (show _ = some (Value.int .i64 (op)) from rfl)
    have _p1 := (Cells.cell K1 1).trans (show _ = some (Value.int .i64 (a)) from rfl)
    have _p2 := (Cells.cell K1 2).trans (show _ = some (Value.int .i64 (b)) from rfl)
    have _p3 := (Cells.cell K1 3).trans (show _ = some (Value.int .i64 (n)) from rfl)
    have _p0 := (Cells.cell K2 0).trans (show _ = some (Value.int .i64 (op')) from rfl)
    have _p1 := (Cells.cell K2 1).trans (show _ = some (Value.int .i64 (a')) from rfl)
    have _p2 := (Cells.cell K2 2).trans (show _ = some (Value.int .i64 (b')) from rfl)
    have _p3 := (Cells.cell K2 3).trans (show _ = some (Value.int .i64 (n')) from rfl)
    go_wp2_with fail
    refine (((fun T => hT.out _ T) T0)).mono ?_
    rintro e W3 ⟨rfl, hb⟩
    have hb0' := hb0.trans (hb.mono hb0.size)
    have K1' := K1.below hb K1.lt
    have K2' := K2.below hb K2.lt
    have T0' := T0.b hb
    clear hb0 hb K1 K2 T0 s0
    have hb0 := hb0'
    have K1 := K1'
    have K2 := K2'
    have T0 := T0'
    have s0 := trivial
    clear hb0' K1' K2' T0'
    have _p0 := (Cells.cell K1 0).trans (show _ = some (Value.int .i64 (op)) from rfl)
    have _p1 := (Cells.cell K1 1).trans (show _ = some (Value.int .i64 (a)) from rfl)
    have _p2 := (Cells.cell K1 2).trans (show _ = some (Value.int .i64 (b)) from rfl)
    have _p3 := (Cells.cell K1 3).trans (show _ = some (Value.int .i64 (n)) from rfl)
    have _p0 := (Cells.cell K2 0).trans (show _ = some (Value.int .i64 (op')) from rfl)
    have _p1 := (Cells.cell K2 1).trans (show _ = some (Value.int .i64 (a')) from rfl)
    have _p2 := (Cells.cell K2 2).trans (show _ = some (Value.int .i64 (b')) from rfl)
    have _p3 := (Cells.cell K2 3).trans (show _ = some (Value.int .i64 (n')) from rfl)
    go_wp2_with fail
    refine (((fun T => hT'.out _ T) T0)).mono ?_
    rintro e W4 ⟨rfl, hb⟩
    have hb0' := hb0.trans (hb.mono hb0.size)
    have K1' := K1.below hb K1.lt
    have K2' := K2.below hb K2.lt
    have T0' := T0.b hb
    clear hb0 hb K1 K2 T0 s0
    have hb0 := hb0'
    have K1 := K1'
    have K2 := K2'
    have T0 := T0'
    have s0 := trivial
    clear hb0' K1' K2' T0'
    have _p0 := (Cells.cell K1 0).trans (show _ = some (Value.int .i64 (op)) from rfl)
    have _p1 := (Cells.cell K1 1).trans (show _ = some (Value.int .i64 (a)) from rfl)
    have _p2 := (Cells.cell K1 2).trans (show _ = some (Value.int .i64 (b)) from rfl)
    have _p3 := (Cells.cell K1 3).trans (show _ = some (Value.int .i64 (n)) from rfl)
    have _p0 := (Cells.cell K2 0).trans (show _ = some (Value.int .i64 (op')) from rfl)
    have _p1 := (Cells.cell K2 1).trans (show _ = some (Value.int .i64 (a')) from rfl)
    have _p2 := (Cells.cell K2 2).trans (show _ = some (Value.int .i64 (b')) from rfl)
    have _p3 := (Cells.cell K2 3).trans (show _ = some (Value.int .i64 (n')) from rfl)
    go_wp2_with fail
    refine (cKnown T0).mono ?_
    rintro e W5 ⟨rfl, hb5⟩
    go_wp2
    go_ret
    refine ⟨?_, hb0.trans (hb5.mono hb0.size)⟩
    first | rfl | (show Ending.returned (Value.bool _) = _; rw [n2]; rfl)
  · obtain rfl := beq_iff_eq.1 q1
    clear q1
    obtain ⟨K1, K2, hb0, s0⟩ := cells2 w (instA op a b n) (instA op a' b' n') 26 26
    have T0 := ht.b hb0
    have _p0 := (Cells.cell K1 0).trans (show _ = some (Value.int .i64 (op)) from rfl)
    have _p1 := (Cells.cell K1 1).trans (show _ = some (Value.int .i64 (a)) from rfl)
    have _p2 := (Cells.cell K1 2).trans (show _ = some (Value.int .i64 (b)) from rfl)
    have _p3 := (Cells.cell K1 3).trans (show _ = some (Value.int .i64 (n)) from rfl)
    have _p0 := (Cells.cell K2 0).trans (show _ = some (Value.int .i64 (op)) from rfl)
    have _p1 := (Cells.cell K2 1).trans (show _ = some (Value.int .i64 (a')) from rfl)
    have _p2 := (Cells.cell K2 2).trans (show _ = some (Value.int .i64 (b')) from rfl)
    have _p3 := (Cells.cell K2 3).trans (show _ = some (Value.int .i64 (n')) from rfl)
    go_enter Tryd.func5, Tryd.ntmps5
    go_wp2_with fail
    generalize (w.alloc _).alloc _ = W0 at *
    refine (((hE.out _))).mono ?_
    rintro e W1 ⟨rfl, hb⟩
    have hb0' := hb0.trans (hb.mono hb0.size)
    have K1' := K1.below hb K1.lt
    have K2' := K2.below hb K2.lt
    have T0' := T0.b hb
    clear hb0 hb K1 K2 T0 s0
    have hb0 := hb0'
    have K1 := K1'
    have K2 := K2'
    have T0 := T0'
    have s0 := trivial
    clear hb0' K1' K2' T0'
    have _p0 := (Cells.cell K1 0).trans (show _ = some (Value.int .i64 (op)) from rfl)
    have _p1 := (Cells.cell K1 1).trans (show _ = some (Value.int .i64 (a)) from rfl)
    have _p2 := (Cells.cell K1 2).trans (show _ = some (Value.int .i64 (b)) from rfl)
    have _p3 := (Cells.cell K1 3).trans (show _ = some (Value.int .i64 (n)) from rfl)
    have _p0 := (Cells.cell K2 0).trans (show _ = some (Value.int .i64 (op)) from rfl)
    have _p1 := (Cells.cell K2 1).trans (show _ = some (Value.int .i64 (a')) from rfl)
    have _p2 := (Cells.cell K2 2).trans (show _ = some (Value.int .i64 (b')) from rfl)
    have _p3 := (Cells.cell K2 3).trans (show _ = some (Value.int .i64 (n')) from rfl)
    go_wp2_with fail
    refine (((hE'.out _))).mono ?_
    rintro e W2 ⟨rfl, hb⟩
    have hb0' := hb0.trans (hb.mono hb0.size)
    have K1' := K1.below hb K1.lt
    have K2' := K2.below hb K2.lt
    have T0' := T0.b hb
    clear hb0 hb K1 K2 T0 s0
    have hb0 := hb0'
    have K1 := K1'
    have K2 := K2'
    have T0 := T0'
    have s0 := trivial
    clear hb0' K1' K2' T0'
    have _p0 := (Cells.cell K1 0).trans (show _ = some (Value.int .i64 (op)) from rfl)
    have _p1 := (Cells.cell K1 1).trans (show _ = some (Value.int .i64 (a)) from rfl)
    have _p2 := (Cells.cell K1 2).trans (show _ = some (Value.int .i64 (b)) from rfl)
    have _p3 := (Cells.cell K1 3).trans (show _ = some (Value.int .i64 (n)) from rfl)
    have _p0 := (Cells.cell K2 0).trans (show _ = some (Value.int .i64 (op)) from rfl)
    have _p1 := (Cells.cell K2 1).trans (show _ = some (Value.int .i64 (a')) from rfl)
    have _p2 := (Cells.cell K2 2).trans (show _ = some (Value.int .i64 (b')) from rfl)
    have _p3 := (Cells.cell K2 3).trans (show _ = some (Value.int .i64 (n')) from rfl)
    go_wp2_with fail
    refine (((fun T => hT.out _ T) T0)).mono ?_
    rintro e W3 ⟨rfl, hb⟩
    have hb0' := hb0.trans (hb.mono hb0.size)
    have K1' := K1.below hb K1.lt
    have K2' := K2.below hb K2.lt
    have T0' := T0.b hb
    clear hb0 hb K1 K2 T0 s0
    have hb0 := hb0'
    have K1 := K1'
    have K2 := K2'
    have T0 := T0'
    have s0 := trivial
    clear hb0' K1' K2' T0'
    have _p0 := (Cells.cell K1 0).trans (show _ = some (Value.int .i64 (op)) from rfl)
    have _p1 := (Cells.cell K1 1).trans (show _ = some (Value.int .i64 (a)) from rfl)
    have _p2 := (Cells.cell K1 2).trans (show _ = some (Value.int .i64 (b)) from rfl)
    have _p3 := (Cells.cell K1 3).trans (show _ = some (Value.int .i64 (n)) from rfl)
    have _p0 := (Cells.cell K2 0).trans (show _ = some (Value.int .i64 (op)) from rfl)
    have _p1 := (Cells.cell K2 1).trans (show _ = some (Value.int .i64 (a')) from rfl)
    have _p2 := (Cells.cell K2 2).trans (show _ = some (Value.int .i64 (b')) from rfl)
    have _p3 := (Cells.cell K2 3).trans (show _ = some (Value.int .i64 (n')) from rfl)
    go_wp2_with fail
    refine (((fun T => hT'.out _ T) T0)).mono ?_
    rintro e W4 ⟨rfl, hb⟩
    have hb0' := hb0.trans (hb.mono hb0.size)
    have K1' := K1.below hb K1.lt
    have K2' := K2.below hb K2.lt
    have T0' := T0.b hb
    clear hb0 hb K1 K2 T0 s0
    have hb0 := hb0'
    have K1 := K1'
    have K2 := K2'
    have T0 := T0'
    have s0 := trivial
    clear hb0' K1' K2' T0'
    have _p0 := (Cells.cell K1 0).trans (show _ = some (Value.int .i64 (op)) from rfl)
    have _p1 := (Cells.cell K1 1).trans (show _ = some (Value.int .i64 (a)) from rfl)
    have _p2 := (Cells.cell K1 2).trans (show _ = some (Value.int .i64 (b)) from rfl)
    have _p3 := (Cells.cell K1 3).trans (show _ = some (Value.int .i64 (n)) from rfl)
    have _p0 := (Cells.cell K2 0).trans (show _ = some (Value.int .i64 (op)) from rfl)
    have _p1 := (Cells.cell K2 1).trans (show _ = some (Value.int .i64 (a')) from rfl)
    have _p2 := (Cells.cell K2 2).trans (show _ = some (Value.int .i64 (b')) from rfl)
    have _p3 := (Cells.cell K2 3).trans (show _ = some (Value.int .i64 (n')) from rfl)
    go_wp2_with fail
    refine (cKnown T0).mono ?_
    rintro e W5 ⟨rfl, hb5⟩
    go_wp2
    go_ret
    refine ⟨?_, hb0.trans (hb5.mono hb0.size)⟩
    first | rfl | (show Ending.returned (Value.bool _) = _; rw [n2]; rfl)
  · obtain rfl := beq_iff_eq.1 q1
    obtain rfl := beq_iff_eq.1 q2
    clear q1 q2
    obtain ⟨K1, K2, hb0, s0⟩ := cells2 w (instA op a b n) (instA op a b' n') 26 26
    have T0 := ht.b hb0
    have _p0 := (Cells.cell K1 0).trans (show _ = some (Value.int .i64 (op)) from rfl)
    have _p1 := (Cells.cell K1 1).trans (show _ = some (Value.int .i64 (a)) from rfl)
    have _p2 := (Cells.cell K1 2).trans (show _ = some (Value.int .i64 (b)) from rfl)
    have _p3 := (Cells.cell K1 3).trans (show _ = some (Value.int .i64 (n)) from rfl)
    have _p0 := (Cells.cell K2 0).trans (show _ = some (Value.int .i64 (op)) from rfl)
    have _p1 := (Cells.cell K2 1).trans (show _ = some (Value.int .i64 (a)) from rfl)
    have _p2 := (Cells.cell K2 2).trans (show _ = some (Value.int .i64 (b')) from rfl)
    have _p3 := (Cells.cell K2 3).trans (show _ = some (Value.int .i64 (n')) from rfl)
    go_enter Tryd.func5, Tryd.ntmps5
    go_wp2_with fail
    generalize (w.alloc _).alloc _ = W0 at *
    refine (((hE.out _))).mono ?_
    rintro e W1 ⟨rfl, hb⟩
    have hb0' := hb0.trans (hb.mono hb0.size)
    have K1' := K1.below hb K1.lt
    have K2' := K2.below hb K2.lt
    have T0' := T0.b hb
    clear hb0 hb K1 K2 T0 s0
    have hb0 := hb0'
    have K1 := K1'
    have K2 := K2'
    have T0 := T0'
    have s0 := trivial
    clear hb0' K1' K2' T0'
    have _p0 := (Cells.cell K1 0).trans (show _ = some (Value.int .i64 (op)) from rfl)
    have _p1 := (Cells.cell K1 1).trans (show _ = some (Value.int .i64 (a)) from rfl)
    have _p2 := (Cells.cell K1 2).trans (show _ = some (Value.int .i64 (b)) from rfl)
    have _p3 := (Cells.cell K1 3).trans (show _ = some (Value.int .i64 (n)) from rfl)
    have _p0 := (Cells.cell K2 0).trans (show _ = some (Value.int .i64 (op)) from rfl)
    have _p1 := (Cells.cell K2 1).trans (show _ = some (Value.int .i64 (a)) from rfl)
    have _p2 := (Cells.cell K2 2).trans (show _ = some (Value.int .i64 (b')) from rfl)
    have _p3 := (Cells.cell K2 3).trans (show _ = some (Value.int .i64 (n')) from rfl)
    go_wp2_with fail
    refine (((hE'.out _))).mono ?_
    rintro e W2 ⟨rfl, hb⟩
    have hb0' := hb0.trans (hb.mono hb0.size)
    have K1' := K1.below hb K1.lt
    have K2' := K2.below hb K2.lt
    have T0' := T0.b hb
    clear hb0 hb K1 K2 T0 s0
    have hb0 := hb0'
    have K1 := K1'
    have K2 := K2'
    have T0 := T0'
    have s0 := trivial
    clear hb0' K1' K2' T0'
    have _p0 := (Cells.cell K1 0).trans (show _ = some (Value.int .i64 (op)) from rfl)
    have _p1 := (Cells.cell K1 1).trans (show _ = some (Value.int .i64 (a)) from rfl)
    have _p2 := (Cells.cell K1 2).trans (show _ = some (Value.int .i64 (b)) from rfl)
    have _p3 := (Cells.cell K1 3).trans (show _ = some (Value.int .i64 (n)) from rfl)
    have _p0 := (Cells.cell K2 0).trans (show _ = some (Value.int .i64 (op)) from rfl)
    have _p1 := (Cells.cell K2 1).trans (show _ = some (Value.int .i64 (a)) from rfl)
    have _p2 := (Cells.cell K2 2).trans (show _ = some (Value.int .i64 (b')) from rfl)
    have _p3 := (Cells.cell K2 3).trans (show _ = some (Value.int .i64 (n')) from rfl)
    go_wp2_with fail
    refine (((fun T => hT.out _ T) T0)).mono ?_
    rintro e W3 ⟨rfl, hb⟩
    have hb0' := hb0.trans (hb.mono hb0.size)
    have K1' := K1.below hb K1.lt
    have K2' := K2.below hb K2.lt
    have T0' := T0.b hb
    clear hb0 hb K1 K2 T0 s0
    have hb0 := hb0'
    have K1 := K1'
    have K2 := K2'
    have T0 := T0'
    have s0 := trivial
    clear hb0' K1' K2' T0'
    have _p0 := (Cells.cell K1 0).trans (show _ = some (Value.int .i64 (op)) from rfl)
    have _p1 := (Cells.cell K1 1).trans (show _ = some (Value.int .i64 (a)) from rfl)
    have _p2 := (Cells.cell K1 2).trans (show _ = some (Value.int .i64 (b)) from rfl)
    have _p3 := (Cells.cell K1 3).trans (show _ = some (Value.int .i64 (n)) from rfl)
    have _p0 := (Cells.cell K2 0).trans (show _ = some (Value.int .i64 (op)) from rfl)
    have _p1 := (Cells.cell K2 1).trans (show _ = some (Value.int .i64 (a)) from rfl)
    have _p2 := (Cells.cell K2 2).trans (show _ = some (Value.int .i64 (b')) from rfl)
    have _p3 := (Cells.cell K2 3).trans (show _ = some (Value.int .i64 (n')) from rfl)
    go_wp2_with fail
    refine (((fun T => hT'.out _ T) T0)).mono ?_
    rintro e W4 ⟨rfl, hb⟩
    have hb0' := hb0.trans (hb.mono hb0.size)
    have K1' := K1.below hb K1.lt
    have K2' := K2.below hb K2.lt
    have T0' := T0.b hb
    clear hb0 hb K1 K2 T0 s0
    have hb0 := hb0'
    have K1 := K1'
    have K2 := K2'
    have T0 := T0'
    have s0 := trivial
    clear hb0' K1' K2' T0'
    have _p0 := (Cells.cell K1 0).trans (show _ = some (Value.int .i64 (op)) from rfl)
    have _p1 := (Cells.cell K1 1).trans (show _ = some (Value.int .i64 (a)) from rfl)
    have _p2 := (Cells.cell K1 2).trans (show _ = some (Value.int .i64 (b)) from rfl)
    have _p3 := (Cells.cell K1 3).trans (show _ = some (Value.int .i64 (n)) from rfl)
    have _p0 := (Cells.cell K2 0).trans (show _ = some (Value.int .i64 (op)) from rfl)
    have _p1 := (Cells.cell K2 1).trans (show _ = some (Value.int .i64 (a)) from rfl)
    have _p2 := (Cells.cell K2 2).trans (show _ = some (Value.int .i64 (b')) from rfl)
    have _p3 := (Cells.cell K2 3).trans (show _ = some (Value.int .i64 (n')) from rfl)
    go_wp2_with fail
    refine (cKnown T0).mono ?_
    rintro e W5 ⟨rfl, hb5⟩
    go_wp2
    go_ret
    refine ⟨?_, hb0.trans (hb5.mono hb0.size)⟩
    first | rfl | (show Ending.returned (Value.bool _) = _; rw [n2]; rfl)
  · obtain rfl := beq_iff_eq.1 q1
    obtain rfl := beq_iff_eq.1 q2
    obtain rfl := beq_iff_eq.1 q3
    clear q1 q2 q3
    obtain ⟨K1, K2, hb0, s0⟩ := cells2 w (instA op a b n) (instA op a b n') 26 26
    have T0 := ht.b hb0
    have _p0 := (Cells.cell K1 0).trans (show _ = some (Value.int .i64 (op)) from rfl)
    have _p1 := (Cells.cell K1 1).trans (show _ = some (Value.int .i64 (a)) from rfl)
    have _p2 := (Cells.cell K1 2).trans (show _ = some (Value.int .i64 (b)) from rfl)
    have _p3 := (Cells.cell K1 3).trans (show _ = some (Value.int .i64 (n)) from rfl)
    have _p0 := (Cells.cell K2 0).trans (show _ = some (Value.int .i64 (op)) from rfl)
    have _p1 := (Cells.cell K2 1).trans (show _ = some (Value.int .i64 (a)) from rfl)
    have _p2 := (Cells.cell K2 2).trans (show _ = some (Value.int .i64 (b)) from rfl)
    have _p3 := (Cells.cell K2 3).trans (show _ = some (Value.int .i64 (n')) from rfl)
    go_enter Tryd.func5, Tryd.ntmps5
    go_wp2_with fail
    generalize (w.alloc _).alloc _ = W0 at *
    refine (((hE.out _))).mono ?_
    rintro e W1 ⟨rfl, hb⟩
    have hb0' := hb0.trans (hb.mono hb0.size)
    have K1' := K1.below hb K1.lt
    have K2' := K2.below hb K2.lt
    have T0' := T0.b hb
    clear hb0 hb K1 K2 T0 s0
    have hb0 := hb0'
    have K1 := K1'
    have K2 := K2'
    have T0 := T0'
    have s0 := trivial
    clear hb0' K1' K2' T0'
    have _p0 := (Cells.cell K1 0).trans (show _ = some (Value.int .i64 (op)) from rfl)
    have _p1 := (Cells.cell K1 1).trans (show _ = some (Value.int .i64 (a)) from rfl)
    have _p2 := (Cells.cell K1 2).trans (show _ = some (Value.int .i64 (b)) from rfl)
    have _p3 := (Cells.cell K1 3).trans (show _ = some (Value.int .i64 (n)) from rfl)
    have _p0 := (Cells.cell K2 0).trans (show _ = some (Value.int .i64 (op)) from rfl)
    have _p1 := (Cells.cell K2 1).trans (show _ = some (Value.int .i64 (a)) from rfl)
    have _p2 := (Cells.cell K2 2).trans (show _ = some (Value.int .i64 (b)) from rfl)
    have _p3 := (Cells.cell K2 3).trans (show _ = some (Value.int .i64 (n')) from rfl)
    go_wp2_with fail
    refine (((hE'.out _))).mono ?_
    rintro e W2 ⟨rfl, hb⟩
    have hb0' := hb0.trans (hb.mono hb0.size)
    have K1' := K1.below hb K1.lt
    have K2' := K2.below hb K2.lt
    have T0' := T0.b hb
    clear hb0 hb K1 K2 T0 s0
    have hb0 := hb0'
    have K1 := K1'
    have K2 := K2'
    have T0 := T0'
    have s0 := trivial
    clear hb0' K1' K2' T0'
    have _p0 := (Cells.cell K1 0).trans (show _ = some (Value.int .i64 (op)) from rfl)
    have _p1 := (Cells.cell K1 1).trans (show _ = some (Value.int .i64 (a)) from rfl)
    have _p2 := (Cells.cell K1 2).trans (show _ = some (Value.int .i64 (b)) from rfl)
    have _p3 := (Cells.cell K1 3).trans (show _ = some (Value.int .i64 (n)) from rfl)
    have _p0 := (Cells.cell K2 0).trans (show _ = some (Value.int .i64 (op)) from rfl)
    have _p1 := (Cells.cell K2 1).trans (show _ = some (Value.int .i64 (a)) from rfl)
    have _p2 := (Cells.cell K2 2).trans (show _ = some (Value.int .i64 (b)) from rfl)
    have _p3 := (Cells.cell K2 3).trans (show _ = some (Value.int .i64 (n')) from rfl)
    go_wp2_with fail
    refine (((fun T => hT.out _ T) T0)).mono ?_
    rintro e W3 ⟨rfl, hb⟩
    have hb0' := hb0.trans (hb.mono hb0.size)
    have K1' := K1.below hb K1.lt
    have K2' := K2.below hb K2.lt
    have T0' := T0.b hb
    clear hb0 hb K1 K2 T0 s0
    have hb0 := hb0'
    have K1 := K1'
    have K2 := K2'
    have T0 := T0'
    have s0 := trivial
    clear hb0' K1' K2' T0'
    have _p0 := (Cells.cell K1 0).trans (show _ = some (Value.int .i64 (op)) from rfl)
    have _p1 := (Cells.cell K1 1).trans (show _ = some (Value.int .i64 (a)) from rfl)
    have _p2 := (Cells.cell K1 2).trans (show _ = some (Value.int .i64 (b)) from rfl)
    have _p3 := (Cells.cell K1 3).trans (show _ = some (Value.int .i64 (n)) from rfl)
    have _p0 := (Cells.cell K2 0).trans (show _ = some (Value.int .i64 (op)) from rfl)
    have _p1 := (Cells.cell K2 1).trans (show _ = some (Value.int .i64 (a)) from rfl)
    have _p2 := (Cells.cell K2 2).trans (show _ = some (Value.int .i64 (b)) from rfl)
    have _p3 := (Cells.cell K2 3).trans (show _ = some (Value.int .i64 (n')) from rfl)
    go_wp2_with fail
    refine (((fun T => hT'.out _ T) T0)).mono ?_
    rintro e W4 ⟨rfl, hb⟩
    have hb0' := hb0.trans (hb.mono hb0.size)
    have K1' := K1.below hb K1.lt
    have K2' := K2.below hb K2.lt
    have T0' := T0.b hb
    clear hb0 hb K1 K2 T0 s0
    have hb0 := hb0'
    have K1 := K1'
    have K2 := K2'
    have T0 := T0'
    have s0 := trivial
    clear hb0' K1' K2' T0'
    have _p0 := (Cells.cell K1 0).trans (show _ = some (Value.int .i64 (op)) from rfl)
    have _p1 := (Cells.cell K1 1).trans (show _ = some (Value.int .i64 (a)) from rfl)
    have _p2 := (Cells.cell K1 2).trans (show _ = some (Value.int .i64 (b)) from rfl)
    have _p3 := (Cells.cell K1 3).trans (show _ = some (Value.int .i64 (n)) from rfl)
    have _p0 := (Cells.cell K2 0).trans (show _ = some (Value.int .i64 (op)) from rfl)
    have _p1 := (Cells.cell K2 1).trans (show _ = some (Value.int .i64 (a)) from rfl)
    have _p2 := (Cells.cell K2 2).trans (show _ = some (Value.int .i64 (b)) from rfl)
    have _p3 := (Cells.cell K2 3).trans (show _ = some (Value.int .i64 (n')) from rfl)
    go_wp2_with fail
    refine (cKnown T0).mono ?_
    rintro e W5 ⟨rfl, hb5⟩
    go_wp2
    go_ret
    refine ⟨?_, hb0.trans (hb5.mono hb0.size)⟩
    first | rfl | (show Ending.returned (Value.bool _) = _; rw [n2]; rfl)
theorem cIsaUnlike {op a b n op' a' b' n' : Int} {w : World} (ht : Tb w) :
    Calls Tryd.prog 5 #[.agg (instA op a b n), .agg (instA op' a' b' n')] w fun e w' => e = .returned (.bool true) ∧ Below w.heap.size w w' := by
  cases h : mayL op a b n <;> cases h' : mayL op' a' b' n'
  · exact unlike_ff h h' ht
  · exact unlike_ft h h' ht
  · exact unlike_tf h h' ht
  · by_cases hne : op = op' ∧ a = a' ∧ b = b' ∧ n = n'
    · obtain ⟨rfl, rfl, rfl, rfl⟩ := hne
      exact unlike_eq h ht
    · exact unlike_ne h h' hne ht
end Go.Proofs.YtfdmmgkhlgefbaaDoor
