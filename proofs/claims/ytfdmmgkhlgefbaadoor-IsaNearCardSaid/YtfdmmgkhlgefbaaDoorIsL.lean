/- The statements' own small functions: known; what is read of slices of words and of instructions. -/
import Derived.Test.YtfdmmgkhlgefbaaDoorTx3
import Derived.Test.YtfdmmgkhlgefbaaDoorRd
namespace Go.Proofs.YtfdmmgkhlgefbaaDoor
open Go.RowKit Go.Shelf

theorem dec2 : itoaB 2 = ⟨#[50]⟩ := by unfold itoaB Lib.itoa; rw [if_neg (by decide)]; rw [show (2 : Int).toNat = 2 from rfl, Lib.decDigits_one (by decide)]; rfl
theorem dec1 : itoaB 1 = ⟨#[49]⟩ := by unfold itoaB Lib.itoa; rw [if_neg (by decide)]; rw [show (1 : Int).toNat = 1 from rfl, Lib.decDigits_one (by decide)]; rfl
theorem decm2 : itoaB (-2) = ⟨#[45, 50]⟩ := by unfold itoaB Lib.itoa; rw [if_pos (by decide)]; rw [show (-2 : Int).natAbs = 2 from rfl, Lib.decDigits_one (by decide)]; rfl
theorem known_text : textB 3 1 2 (-2) = ⟨#[97, 100, 100, 105, 32, 114, 49, 44, 32, 114, 50, 44, 32, 45, 50]⟩ := by
  rw [text_7 (by decide +kernel) (by decide +kernel) (by decide +kernel), dec1, dec2, decm2]
  decide +kernel
theorem cKnown {w : World} (ht : Tb w) : Calls Tryd.prog 9 #[] w fun e w' => e = .returned (.bool true) ∧ Below w.heap.size w w' := by
  have hd := cDecode_in (x := 51576830) (by decide +kernel) (by decide) (by decide) w
  rw [show dOp 51576830 = 3 by decide +kernel, show dA 51576830 = 1 by decide +kernel, show dB 51576830 = 2 by decide +kernel, show dN 51576830 = -2 by decide +kernel] at hd
  have HD := Lib.hid hd
  clear hd
  go_enter Tryd.func9, Tryd.ntmps9
  go_wp2_with fail
  refine HD.out.mono ?_
  rintro e W1 ⟨rfl, hb1⟩
  have T1 := ht.b hb1
  obtain ⟨K2, hb2, s2⟩ := cells1 W1 (instA 3 1 2 (-2)) 26
  have B2 := hb1.trans (hb2.mono hb1.size)
  have T2 := T1.b hb2
  go_wp2_with fail
  generalize W1.alloc _ = W2 at *
  have hx := cText_in (op := 3) (a := 1) (b := 2) (n := -2) (by decide +kernel) T2
  rw [known_text] at hx
  refine hx.mono ?_
  clear hx
  rintro e W3 ⟨rfl, hb3⟩
  have K3 := K2.below hb3 K2.lt
  have c0 := (K3.cell 0).trans (show _ = some (Value.int .i64 3) from rfl)
  have c1 := (K3.cell 1).trans (show _ = some (Value.int .i64 1) from rfl)
  have c2 := (K3.cell 2).trans (show _ = some (Value.int .i64 2) from rfl)
  have c3 := (K3.cell 3).trans (show _ = some (Value.int .i64 (-2)) from rfl)
  have B3 := B2.trans (hb3.mono B2.size)
  go_wp2
  go_ret
  exact ⟨rfl, B3⟩
theorem enc_dec {x : Int} (h0 : 0 ≤ x) (h1 : x < 4294967296) : encL (dOp x) (dA x) (dB x) (dN x) = x := by
  unfold encL dOp dA dB dN
  split <;> omega
set_option maxHeartbeats 1000000 in
theorem cIsaDecode {w : World} {A : Option Addr} {l : List Int} {c : Nat} (hl : Rd w w.heap.size .u32 A l) (hwf : ∀ x ∈ l, 0 ≤ x ∧ x < 4294967296) (hlen : l.length ≤ c) (hcap : c ≤ maxLen) (ht : Tb w) :
    Calls Tryd.prog 3 #[.slice A l.length c] w fun e w' => e = .returned (.bool true) ∧ Below w.heap.size w w' := by
  simp only [maxLen] at hcap
  by_cases h1 : l.length ≤ 60
  · have h1' : ¬ (60 < (l.length : Int)) := by omega
    go_enter Tryd.func3, Tryd.ntmps3
    go_wp2_with fail
    go_loopw [3] (fun i wr => ∃ k : Nat, k ≤ l.length ∧ i = .int .i64 k ∧ Below w.heap.size w wr) (fun i _ => l.length - (intOf i).toNat)
    case atStart => exact ⟨0, Nat.zero_le _, rfl, Below.refl _ _⟩
    case round =>
      obtain ⟨k, hk, rfl, hb⟩ := hrel
      have T0 := ht.b hb
      have hl0 := hl.below hb (Nat.le_refl _)
      by_cases hlt : k < l.length
      · obtain ⟨x, hx⟩ : ∃ x, l[k]? = some x := ⟨_, List.getElem?_eq_getElem hlt⟩
        obtain ⟨x0, x1⟩ := hwf x (List.mem_of_getElem? hx)
        obtain ⟨g, off, rfl, hg⟩ := hl0.some_ (by omega)
        have cx := hl0.cell g off rfl k x hx
        have HX := Lib.hid hx
        clear hx
        have hgw := hb.size
        cases hok : okL x
        · skip
          have HO := Lib.hid hok
          clear hok
          go_wp2_with fail
          refine (cDecode_out HO.out x0 x1 _).mono ?_
          rintro e W1 ⟨rfl, hb1⟩
          obtain ⟨K2, hb2, s2⟩ := cells1 W1 (instA (0) (0) (0) (0)) 26
          have hl2 := (hl0.below hb1 hgw).below hb2 (by have := hb1.size; omega)
          have B2 := (hb.trans (hb1.mono hgw)).trans (hb2.mono (by have := hb1.size; omega))
          have T2 := (T0.b hb1).b hb2
          have cx := hl2.cell g off rfl k x HX.out
          go_wp2_with fail
          generalize W1.alloc _ = W2 at *
          refine (rDecode_out HO.out x0 x1 _).mono ?_
          rintro e W3 ⟨rfl, hb3⟩
          obtain ⟨K4, hb4, s4⟩ := cells1 W3 (instA (0) (0) (0) (0)) 26
          have K5 := (K2.below hb3 K2.lt).below hb4 (by have := hb3.size; have := K2.lt; omega)
          have hl4 := (hl2.below hb3 B2.size).below hb4 (by have := B2.size; have := hb3.size; omega)
          have B4 := (B2.trans (hb3.mono B2.size)).trans (hb4.mono (by have := B2.size; have := hb3.size; omega))
          have T4 := (T2.b hb3).b hb4
          have _p0 := (Cells.cell K4 0).trans (show _ = some (Value.int .i64 (0)) from rfl)
          have _p1 := (Cells.cell K4 1).trans (show _ = some (Value.int .i64 (0)) from rfl)
          have _p2 := (Cells.cell K4 2).trans (show _ = some (Value.int .i64 (0)) from rfl)
          have _p3 := (Cells.cell K4 3).trans (show _ = some (Value.int .i64 (0)) from rfl)
          have _p0 := (Cells.cell K5 0).trans (show _ = some (Value.int .i64 (0)) from rfl)
          have _p1 := (Cells.cell K5 1).trans (show _ = some (Value.int .i64 (0)) from rfl)
          have _p2 := (Cells.cell K5 2).trans (show _ = some (Value.int .i64 (0)) from rfl)
          have _p3 := (Cells.cell K5 3).trans (show _ = some (Value.int .i64 (0)) from rfl)
          go_wp2_with fail
          generalize W3.alloc _ = W4 at *
          refine (cEncode_out (op := 0) (a := 0) (b := 0) (n := 0) (by decide +kernel) _).mono ?_
          skip
          rintro e W5 ⟨rfl, hb5⟩
          have hl5 := hl4.below hb5 B4.size
          have B5 := B4.trans (hb5.mono B4.size)
          have cx := hl5.cell g off rfl k x HX.out
          go_wp2
          go_roundw
          case rel => exact ⟨k + 1, by omega, by go_num, B5⟩
          case measure => simp [intOf]; omega
        · skip
          have HO := Lib.hid hok
          clear hok
          go_wp2_with fail
          refine (cDecode_in HO.out x0 x1 _).mono ?_
          rintro e W1 ⟨rfl, hb1⟩
          obtain ⟨K2, hb2, s2⟩ := cells1 W1 (instA (dOp x) (dA x) (dB x) (dN x)) 26
          have hl2 := (hl0.below hb1 hgw).below hb2 (by have := hb1.size; omega)
          have B2 := (hb.trans (hb1.mono hgw)).trans (hb2.mono (by have := hb1.size; omega))
          have T2 := (T0.b hb1).b hb2
          have cx := hl2.cell g off rfl k x HX.out
          go_wp2_with fail
          generalize W1.alloc _ = W2 at *
          refine (rDecode_in HO.out x0 x1 _).mono ?_
          rintro e W3 ⟨rfl, hb3⟩
          obtain ⟨K4, hb4, s4⟩ := cells1 W3 (instA (dOp x) (dA x) (dB x) (dN x)) 26
          have K5 := (K2.below hb3 K2.lt).below hb4 (by have := hb3.size; have := K2.lt; omega)
          have hl4 := (hl2.below hb3 B2.size).below hb4 (by have := B2.size; have := hb3.size; omega)
          have B4 := (B2.trans (hb3.mono B2.size)).trans (hb4.mono (by have := B2.size; have := hb3.size; omega))
          have T4 := (T2.b hb3).b hb4
          have _p0 := (Cells.cell K4 0).trans (show _ = some (Value.int .i64 (dOp x)) from rfl)
          have _p1 := (Cells.cell K4 1).trans (show _ = some (Value.int .i64 (dA x)) from rfl)
          have _p2 := (Cells.cell K4 2).trans (show _ = some (Value.int .i64 (dB x)) from rfl)
          have _p3 := (Cells.cell K4 3).trans (show _ = some (Value.int .i64 (dN x)) from rfl)
          have _p0 := (Cells.cell K5 0).trans (show _ = some (Value.int .i64 (dOp x)) from rfl)
          have _p1 := (Cells.cell K5 1).trans (show _ = some (Value.int .i64 (dA x)) from rfl)
          have _p2 := (Cells.cell K5 2).trans (show _ = some (Value.int .i64 (dB x)) from rfl)
          have _p3 := (Cells.cell K5 3).trans (show _ = some (Value.int .i64 (dN x)) from rfl)
          go_wp2_with fail
          generalize W3.alloc _ = W4 at *
          refine (cEncode_in HO.out _).mono ?_
          rw [enc_dec x0 x1]
          rintro e W5 ⟨rfl, hb5⟩
          have hl5 := hl4.below hb5 B4.size
          have B5 := B4.trans (hb5.mono B4.size)
          have cx := hl5.cell g off rfl k x HX.out
          go_wp2
          go_roundw
          case rel => exact ⟨k + 1, by omega, by go_num, B5⟩
          case measure => simp [intOf]; omega
      · obtain rfl : k = l.length := by omega
        go_wp2_with fail
        refine (cKnown T0).mono ?_
        rintro e W1 ⟨rfl, hb1⟩
        go_wp2
        go_ret
        exact ⟨rfl, hb.trans (hb1.mono hb.size)⟩
  · have h1' : 60 < (l.length : Int) := by omega
    go_enter Tryd.func3, Tryd.ntmps3
    go_wp2_with fail
    refine (cKnown ht).mono ?_
    rintro e W1 ⟨rfl, hb1⟩
    go_wp2
    go_ret
    exact ⟨rfl, hb1⟩
end Go.Proofs.YtfdmmgkhlgefbaaDoor
