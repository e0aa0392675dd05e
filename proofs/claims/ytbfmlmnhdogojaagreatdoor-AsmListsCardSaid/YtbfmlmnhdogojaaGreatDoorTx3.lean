/- The document's isa: May of anything, Text: contracts. -/
import Derived.Test.YtbfmlmnhdogojaaGreatDoorTx2
namespace Go.Proofs.YtbfmlmnhdogojaaGreatDoor
open Go.RowKit Go.Shelf

set_option maxHeartbeats 4000000 in
theorem rMay_any (op a b n : Int) (w : World) : Calls Tryz.prog 63 #[.agg (instA op a b n)] w fun e w' => e = .returned (.bool (mayL op a b n)) ∧ Below w.heap.size w w' := by
  by_cases hr : (0 ≤ a ∧ a < 8) ∧ (0 ≤ b ∧ b < 8) ∧ (-32768 ≤ n ∧ n ≤ 32767)
  · exact rMay ⟨hr.1.1, by omega⟩ ⟨hr.2.1.1, by omega⟩ hr.2.2 w
  obtain ⟨K1, Hb, hs⟩ := cells1 w (instA op a b n) 69
  have i0 := (K1.cell 0).trans (show _ = some (Value.int .i64 op) from rfl)
  have h2 : mayL op a b n = false := by
    cases hm : mayL op a b n
    · rfl
    · have := may_bounds hm
      omega
  have H2 := Lib.hid h2
  clear h2
  by_cases h : 1 ≤ op ∧ op ≤ 28
  · have hne := name_ne h
    go_enter Tryz.func63, Tryz.ntmps63
    go_wp2_with (go_at_call 64; refine (rUses h _).mono ?_; rintro e w' ⟨rfl, rfl⟩)
    refine (rName h _).mono ?_
    rintro e W ⟨rfl, hb2⟩
    generalize w.alloc _ = W1 at *
    have K2 := K1.below hb2 K1.lt
    have B2 := Hb.trans (hb2.mono Hb.size)
    have i1 := (K2.cell 1).trans (show _ = some (Value.int .i64 a) from rfl)
    have i2 := (K2.cell 2).trans (show _ = some (Value.int .i64 b) from rfl)
    have i3 := (K2.cell 3).trans (show _ = some (Value.int .i64 n) from rfl)
    have HM : ∀ x : Bool, x = false → Ending.returned (.bool x) = .returned (.bool (mayL op a b n)) := by rintro x rfl; rw [H2.out]
    clear h
    have HR := Lib.hid hr
    clear hr
    generalize nameL op = nm at *
    generalize hasU (usesL op) 1 = u1 at *
    generalize hasU (usesL op) 2 = u2 at *
    generalize hasU (usesL op) 4 = u4 at *
    go_wp2
    all_goals
      go_ret
      refine ⟨HM _ ?_, B2⟩
      have hr := HR.out
      first | rfl | (exfalso; apply hr; omega) | (simp_all; done) | (simp; omega) | (simp_all; omega)
  · have hnm : (⟨#[]⟩ : ByteArray).toList.isEmpty = true := by decide +kernel
    go_enter Tryz.func63, Tryz.ntmps63
    go_wp2_with (go_at_call 64; refine (rUses_out h _).mono ?_; rintro e w' ⟨rfl, rfl⟩)
    refine (rName_out h _).mono ?_
    rintro e W ⟨rfl, hb2⟩
    go_wp2
    go_ret
    rw [H2.out]
    exact ⟨rfl, Hb.trans (hb2.mono Hb.size)⟩
theorem ba_append (a b : List UInt8) : (⟨a.toArray⟩ : ByteArray) ++ ⟨b.toArray⟩ = ⟨(a ++ b).toArray⟩ := by
  apply ByteArray.ext; simp
theorem uses_cases {u : Int} (hu : u = 0 ∨ u = 3 ∨ u = 5 ∨ u = 7) : (hasU u 1 = false ∧ hasU u 2 = false ∧ hasU u 4 = false) ∨ (hasU u 1 = true ∧ hasU u 2 = true ∧ hasU u 4 = false) ∨ (hasU u 1 = true ∧ hasU u 2 = false ∧ hasU u 4 = true) ∨ (hasU u 1 = true ∧ hasU u 2 = true ∧ hasU u 4 = true) := by
  rcases hu with rfl | rfl | rfl | rfl <;> decide +kernel
theorem join2 (a b s : ByteArray) : (⟨(Lib.join [a.data.toList, b.data.toList] s.data.toList).toArray⟩ : ByteArray) = a ++ s ++ b := by
  apply ByteArray.ext; simp [Lib.join, List.intercalate, List.intersperse]
theorem join3 (a b c s : ByteArray) : (⟨(Lib.join [a.data.toList, b.data.toList, c.data.toList] s.data.toList).toArray⟩ : ByteArray) = a ++ s ++ b ++ s ++ c := by
  apply ByteArray.ext; simp [Lib.join, List.intercalate, List.intersperse]
theorem text_0 {op a b n : Int} (e1 : hasU (usesL op) 1 = false) (e2 : hasU (usesL op) 2 = false) (e4 : hasU (usesL op) 4 = false) : textB op a b n = nameL op := by
  simp [textB, txL, e1, e2, e4]
theorem text_3 {op a b n : Int} (e1 : hasU (usesL op) 1 = true) (e2 : hasU (usesL op) 2 = true) (e4 : hasU (usesL op) 4 = false) : textB op a b n = nameL op ++ ⟨#[32]⟩ ++ ⟨#[114]⟩ ++ itoaB a ++ ⟨#[44, 32]⟩ ++ ⟨#[114]⟩ ++ itoaB b := by
  have h : txL (usesL op) a b n 3 = [regB a, regB b] := by simp [txL, e1, e2, e4]
  unfold textB
  rw [h, if_neg (by simp), List.map_cons, List.map_cons, List.map_nil, show ([44, 32] : List UInt8) = (⟨#[44, 32]⟩ : ByteArray).data.toList from rfl, join2, reg_eq, reg_eq]
  simp only [ByteArray.append_assoc]
theorem text_5 {op a b n : Int} (e1 : hasU (usesL op) 1 = true) (e2 : hasU (usesL op) 2 = false) (e4 : hasU (usesL op) 4 = true) : textB op a b n = nameL op ++ ⟨#[32]⟩ ++ ⟨#[114]⟩ ++ itoaB a ++ ⟨#[44, 32]⟩ ++ itoaB n := by
  have h : txL (usesL op) a b n 3 = [regB a, itoaB n] := by simp [txL, e1, e2, e4]
  unfold textB
  rw [h, if_neg (by simp), List.map_cons, List.map_cons, List.map_nil, show ([44, 32] : List UInt8) = (⟨#[44, 32]⟩ : ByteArray).data.toList from rfl, join2, reg_eq]
  simp only [ByteArray.append_assoc]
theorem text_7 {op a b n : Int} (e1 : hasU (usesL op) 1 = true) (e2 : hasU (usesL op) 2 = true) (e4 : hasU (usesL op) 4 = true) : textB op a b n = nameL op ++ ⟨#[32]⟩ ++ ⟨#[114]⟩ ++ itoaB a ++ ⟨#[44, 32]⟩ ++ ⟨#[114]⟩ ++ itoaB b ++ ⟨#[44, 32]⟩ ++ itoaB n := by
  have h : txL (usesL op) a b n 3 = [regB a, regB b, itoaB n] := by simp [txL, e1, e2, e4]
  unfold textB
  rw [h, if_neg (by simp), List.map_cons, List.map_cons, List.map_cons, List.map_nil, show ([44, 32] : List UInt8) = (⟨#[44, 32]⟩ : ByteArray).data.toList from rfl, join3, reg_eq, reg_eq]
  simp only [ByteArray.append_assoc]
set_option maxHeartbeats 1000000 in
theorem rText_0 {op a b n : Int} (h : mayL op a b n = true) (e1 : hasU (usesL op) 1 = false) (e2 : hasU (usesL op) 2 = false) (e4 : hasU (usesL op) 4 = false) {w : World} (ht : Tb w) : Calls Tryz.prog 38 #[.agg (instA op a b n)] w fun e w' => e = .returned (.string (textB op a b n)) ∧ Below w.heap.size w w' := by
  obtain ⟨K1, Hb, hs⟩ := cells1 w (instA op a b n) 69
  have i0 := (K1.cell 0).trans (show _ = some (Value.int .i64 op) from rfl)
  obtain ⟨bop, ⟨a1, a2⟩, ⟨b1, b2⟩, ⟨n1, n2⟩⟩ := may_bounds h
  have hnz := name_size bop
  have z1 := itoaB_size (n := a) (by omega) (by omega)
  have z2 := itoaB_size (n := b) (by omega) (by omega)
  have z3 := itoaB_size (n := n) (by omega) (by omega)
  have T1 := ht.b Hb
  have rr := rUses bop
  rw [e1, e2, e4] at rr
  have HT := Lib.hid (text_0 e1 e2 e4 (a := a) (b := b) (n := n))
  clear h ht e1 e2 e4
  have HR := Lib.hid rr
  clear rr
  generalize textB op a b n = tx at *
  have rn := rName bop
  generalize nameL op = nm at *
  have HN := Lib.hid rn
  clear rn
  go_enter Tryz.func38, Tryz.ntmps38
  go_wp2_with fail
  refine (HR.out _).mono ?_
  rintro e w' ⟨rfl, rfl⟩
  go_wp2_with fail
  refine (HN.out _).mono ?_
  rintro e W2 ⟨rfl, hb2⟩
  generalize w.alloc _ = W1 at *
  have B2 := Hb.trans (hb2.mono Hb.size)
  have T2 := T1.b hb2
  have K2 := K1.below hb2 K1.lt
  have j1 := (K2.cell 1).trans (show _ = some (Value.int .i64 a) from rfl)
  have j2 := (K2.cell 2).trans (show _ = some (Value.int .i64 b) from rfl)
  have j3 := (K2.cell 3).trans (show _ = some (Value.int .i64 n) from rfl)
  have hz : ∀ x y : ByteArray, (x ++ y).size = x.size + y.size := fun x y => ByteArray.size_append
  go_wp2
  go_ret
  exact ⟨by rw [HT.out]; rfl, B2⟩
set_option maxHeartbeats 1000000 in
theorem rText_3 {op a b n : Int} (h : mayL op a b n = true) (e1 : hasU (usesL op) 1 = true) (e2 : hasU (usesL op) 2 = true) (e4 : hasU (usesL op) 4 = false) {w : World} (ht : Tb w) : Calls Tryz.prog 38 #[.agg (instA op a b n)] w fun e w' => e = .returned (.string (textB op a b n)) ∧ Below w.heap.size w w' := by
  obtain ⟨K1, Hb, hs⟩ := cells1 w (instA op a b n) 69
  have i0 := (K1.cell 0).trans (show _ = some (Value.int .i64 op) from rfl)
  obtain ⟨bop, ⟨a1, a2⟩, ⟨b1, b2⟩, ⟨n1, n2⟩⟩ := may_bounds h
  have hnz := name_size bop
  have z1 := itoaB_size (n := a) (by omega) (by omega)
  have z2 := itoaB_size (n := b) (by omega) (by omega)
  have z3 := itoaB_size (n := n) (by omega) (by omega)
  have T1 := ht.b Hb
  have rr := rUses bop
  rw [e1, e2, e4] at rr
  have HT := Lib.hid (text_3 e1 e2 e4 (a := a) (b := b) (n := n))
  clear h ht e1 e2 e4
  have HR := Lib.hid rr
  clear rr
  generalize textB op a b n = tx at *
  have rn := rName bop
  generalize nameL op = nm at *
  have HN := Lib.hid rn
  clear rn
  go_enter Tryz.func38, Tryz.ntmps38
  go_wp2_with fail
  refine (HR.out _).mono ?_
  rintro e w' ⟨rfl, rfl⟩
  go_wp2_with fail
  refine (HN.out _).mono ?_
  rintro e W2 ⟨rfl, hb2⟩
  generalize w.alloc _ = W1 at *
  have B2 := Hb.trans (hb2.mono Hb.size)
  have T2 := T1.b hb2
  have K2 := K1.below hb2 K1.lt
  have j1 := (K2.cell 1).trans (show _ = some (Value.int .i64 a) from rfl)
  have j2 := (K2.cell 2).trans (show _ = some (Value.int .i64 b) from rfl)
  have j3 := (K2.cell 3).trans (show _ = some (Value.int .i64 n) from rfl)
  have hz : ∀ x y : ByteArray, (x ++ y).size = x.size + y.size := fun x y => ByteArray.size_append
  go_wp2_with fail
  refine (cItoa (by omega) (by omega) T2).mono ?_
  rintro e W3 ⟨rfl, hb3⟩
  have B3 := B2.trans (hb3.mono B2.size)
  have T3 := T2.b hb3
  have K3 := K2.below hb3 K2.lt
  clear B2 T2 K2 hb3 j1 j2 j3
  obtain ⟨B2, T2, K2⟩ := (⟨B3, T3, K3⟩ : _ ∧ _ ∧ _)
  clear B3 T3 K3
  generalize W3 = W2 at *
  have j1 := (K2.cell 1).trans (show _ = some (Value.int .i64 a) from rfl)
  have j2 := (K2.cell 2).trans (show _ = some (Value.int .i64 b) from rfl)
  have j3 := (K2.cell 3).trans (show _ = some (Value.int .i64 n) from rfl)
  go_wp2_with fail
  refine (cItoa (by omega) (by omega) T2).mono ?_
  rintro e W3 ⟨rfl, hb3⟩
  have B3 := B2.trans (hb3.mono B2.size)
  have T3 := T2.b hb3
  have K3 := K2.below hb3 K2.lt
  clear B2 T2 K2 hb3 j1 j2 j3
  obtain ⟨B2, T2, K2⟩ := (⟨B3, T3, K3⟩ : _ ∧ _ ∧ _)
  clear B3 T3 K3
  generalize W3 = W2 at *
  have j1 := (K2.cell 1).trans (show _ = some (Value.int .i64 a) from rfl)
  have j2 := (K2.cell 2).trans (show _ = some (Value.int .i64 b) from rfl)
  have j3 := (K2.cell 3).trans (show _ = some (Value.int .i64 n) from rfl)
  go_wp2
  go_ret
  exact ⟨by rw [HT.out]; rfl, B2⟩
set_option maxHeartbeats 1000000 in
theorem rText_5 {op a b n : Int} (h : mayL op a b n = true) (e1 : hasU (usesL op) 1 = true) (e2 : hasU (usesL op) 2 = false) (e4 : hasU (usesL op) 4 = true) {w : World} (ht : Tb w) : Calls Tryz.prog 38 #[.agg (instA op a b n)] w fun e w' => e = .returned (.string (textB op a b n)) ∧ Below w.heap.size w w' := by
  obtain ⟨K1, Hb, hs⟩ := cells1 w (instA op a b n) 69
  have i0 := (K1.cell 0).trans (show _ = some (Value.int .i64 op) from rfl)
  obtain ⟨bop, ⟨a1, a2⟩, ⟨b1, b2⟩, ⟨n1, n2⟩⟩ := may_bounds h
  have hnz := name_size bop
  have z1 := itoaB_size (n := a) (by omega) (by omega)
  have z2 := itoaB_size (n := b) (by omega) (by omega)
  have z3 := itoaB_size (n := n) (by omega) (by omega)
  have T1 := ht.b Hb
  have rr := rUses bop
  rw [e1, e2, e4] at rr
  have HT := Lib.hid (text_5 e1 e2 e4 (a := a) (b := b) (n := n))
  clear h ht e1 e2 e4
  have HR := Lib.hid rr
  clear rr
  generalize textB op a b n = tx at *
  have rn := rName bop
  generalize nameL op = nm at *
  have HN := Lib.hid rn
  clear rn
  go_enter Tryz.func38, Tryz.ntmps38
  go_wp2_with fail
  refine (HR.out _).mono ?_
  rintro e w' ⟨rfl, rfl⟩
  go_wp2_with fail
  refine (HN.out _).mono ?_
  rintro e W2 ⟨rfl, hb2⟩
  generalize w.alloc _ = W1 at *
  have B2 := Hb.trans (hb2.mono Hb.size)
  have T2 := T1.b hb2
  have K2 := K1.below hb2 K1.lt
  have j1 := (K2.cell 1).trans (show _ = some (Value.int .i64 a) from rfl)
  have j2 := (K2.cell 2).trans (show _ = some (Value.int .i64 b) from rfl)
  have j3 := (K2.cell 3).trans (show _ = some (Value.int .i64 n) from rfl)
  have hz : ∀ x y : ByteArray, (x ++ y).size = x.size + y.size := fun x y => ByteArray.size_append
  go_wp2_with fail
  refine (cItoa (by omega) (by omega) T2).mono ?_
  rintro e W3 ⟨rfl, hb3⟩
  have B3 := B2.trans (hb3.mono B2.size)
  have T3 := T2.b hb3
  have K3 := K2.below hb3 K2.lt
  clear B2 T2 K2 hb3 j1 j2 j3
  obtain ⟨B2, T2, K2⟩ := (⟨B3, T3, K3⟩ : _ ∧ _ ∧ _)
  clear B3 T3 K3
  generalize W3 = W2 at *
  have j1 := (K2.cell 1).trans (show _ = some (Value.int .i64 a) from rfl)
  have j2 := (K2.cell 2).trans (show _ = some (Value.int .i64 b) from rfl)
  have j3 := (K2.cell 3).trans (show _ = some (Value.int .i64 n) from rfl)
  go_wp2_with fail
  refine (cItoa (by omega) (by omega) T2).mono ?_
  rintro e W3 ⟨rfl, hb3⟩
  have B3 := B2.trans (hb3.mono B2.size)
  have T3 := T2.b hb3
  have K3 := K2.below hb3 K2.lt
  clear B2 T2 K2 hb3 j1 j2 j3
  obtain ⟨B2, T2, K2⟩ := (⟨B3, T3, K3⟩ : _ ∧ _ ∧ _)
  clear B3 T3 K3
  generalize W3 = W2 at *
  have j1 := (K2.cell 1).trans (show _ = some (Value.int .i64 a) from rfl)
  have j2 := (K2.cell 2).trans (show _ = some (Value.int .i64 b) from rfl)
  have j3 := (K2.cell 3).trans (show _ = some (Value.int .i64 n) from rfl)
  go_wp2
  go_ret
  exact ⟨by rw [HT.out]; rfl, B2⟩
set_option maxHeartbeats 1000000 in
theorem rText_7 {op a b n : Int} (h : mayL op a b n = true) (e1 : hasU (usesL op) 1 = true) (e2 : hasU (usesL op) 2 = true) (e4 : hasU (usesL op) 4 = true) {w : World} (ht : Tb w) : Calls Tryz.prog 38 #[.agg (instA op a b n)] w fun e w' => e = .returned (.string (textB op a b n)) ∧ Below w.heap.size w w' := by
  obtain ⟨K1, Hb, hs⟩ := cells1 w (instA op a b n) 69
  have i0 := (K1.cell 0).trans (show _ = some (Value.int .i64 op) from rfl)
  obtain ⟨bop, ⟨a1, a2⟩, ⟨b1, b2⟩, ⟨n1, n2⟩⟩ := may_bounds h
  have hnz := name_size bop
  have z1 := itoaB_size (n := a) (by omega) (by omega)
  have z2 := itoaB_size (n := b) (by omega) (by omega)
  have z3 := itoaB_size (n := n) (by omega) (by omega)
  have T1 := ht.b Hb
  have rr := rUses bop
  rw [e1, e2, e4] at rr
  have HT := Lib.hid (text_7 e1 e2 e4 (a := a) (b := b) (n := n))
  clear h ht e1 e2 e4
  have HR := Lib.hid rr
  clear rr
  generalize textB op a b n = tx at *
  have rn := rName bop
  generalize nameL op = nm at *
  have HN := Lib.hid rn
  clear rn
  go_enter Tryz.func38, Tryz.ntmps38
  go_wp2_with fail
  refine (HR.out _).mono ?_
  rintro e w' ⟨rfl, rfl⟩
  go_wp2_with fail
  refine (HN.out _).mono ?_
  rintro e W2 ⟨rfl, hb2⟩
  generalize w.alloc _ = W1 at *
  have B2 := Hb.trans (hb2.mono Hb.size)
  have T2 := T1.b hb2
  have K2 := K1.below hb2 K1.lt
  have j1 := (K2.cell 1).trans (show _ = some (Value.int .i64 a) from rfl)
  have j2 := (K2.cell 2).trans (show _ = some (Value.int .i64 b) from rfl)
  have j3 := (K2.cell 3).trans (show _ = some (Value.int .i64 n) from rfl)
  have hz : ∀ x y : ByteArray, (x ++ y).size = x.size + y.size := fun x y => ByteArray.size_append
  go_wp2_with fail
  refine (cItoa (by omega) (by omega) T2).mono ?_
  rintro e W3 ⟨rfl, hb3⟩
  have B3 := B2.trans (hb3.mono B2.size)
  have T3 := T2.b hb3
  have K3 := K2.below hb3 K2.lt
  clear B2 T2 K2 hb3 j1 j2 j3
  obtain ⟨B2, T2, K2⟩ := (⟨B3, T3, K3⟩ : _ ∧ _ ∧ _)
  clear B3 T3 K3
  generalize W3 = W2 at *
  have j1 := (K2.cell 1).trans (show _ = some (Value.int .i64 a) from rfl)
  have j2 := (K2.cell 2).trans (show _ = some (Value.int .i64 b) from rfl)
  have j3 := (K2.cell 3).trans (show _ = some (Value.int .i64 n) from rfl)
  go_wp2_with fail
  refine (cItoa (by omega) (by omega) T2).mono ?_
  rintro e W3 ⟨rfl, hb3⟩
  have B3 := B2.trans (hb3.mono B2.size)
  have T3 := T2.b hb3
  have K3 := K2.below hb3 K2.lt
  clear B2 T2 K2 hb3 j1 j2 j3
  obtain ⟨B2, T2, K2⟩ := (⟨B3, T3, K3⟩ : _ ∧ _ ∧ _)
  clear B3 T3 K3
  generalize W3 = W2 at *
  have j1 := (K2.cell 1).trans (show _ = some (Value.int .i64 a) from rfl)
  have j2 := (K2.cell 2).trans (show _ = some (Value.int .i64 b) from rfl)
  have j3 := (K2.cell 3).trans (show _ = some (Value.int .i64 n) from rfl)
  go_wp2_with fail
  refine (cItoa (by omega) (by omega) T2).mono ?_
  rintro e W3 ⟨rfl, hb3⟩
  have B3 := B2.trans (hb3.mono B2.size)
  have T3 := T2.b hb3
  have K3 := K2.below hb3 K2.lt
  clear B2 T2 K2 hb3 j1 j2 j3
  obtain ⟨B2, T2, K2⟩ := (⟨B3, T3, K3⟩ : _ ∧ _ ∧ _)
  clear B3 T3 K3
  generalize W3 = W2 at *
  have j1 := (K2.cell 1).trans (show _ = some (Value.int .i64 a) from rfl)
  have j2 := (K2.cell 2).trans (show _ = some (Value.int .i64 b) from rfl)
  have j3 := (K2.cell 3).trans (show _ = some (Value.int .i64 n) from rfl)
  go_wp2
  go_ret
  exact ⟨by rw [HT.out]; rfl, B2⟩
theorem rText {op a b n : Int} (h : mayL op a b n = true) {w : World} (ht : Tb w) : Calls Tryz.prog 38 #[.agg (instA op a b n)] w fun e w' => e = .returned (.string (textB op a b n)) ∧ Below w.heap.size w w' := by
  rcases uses_cases (uses4 (may_bounds h).1) with ⟨e1, e2, e4⟩ | ⟨e1, e2, e4⟩ | ⟨e1, e2, e4⟩ | ⟨e1, e2, e4⟩
  · exact rText_0 h e1 e2 e4 ht
  · exact rText_3 h e1 e2 e4 ht
  · exact rText_5 h e1 e2 e4 ht
  · exact rText_7 h e1 e2 e4 ht
end Go.Proofs.YtbfmlmnhdogojaaGreatDoor
