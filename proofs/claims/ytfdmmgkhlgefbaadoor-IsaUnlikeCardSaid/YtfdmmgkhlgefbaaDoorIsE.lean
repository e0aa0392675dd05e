/- IsaEncode: its walk. -/
import Derived.Test.YtfdmmgkhlgefbaaDoorIsL
import Derived.Test.YtfdmmgkhlgefbaaDoorIns
namespace Go.Proofs.YtfdmmgkhlgefbaaDoor
open Go.RowKit Go.Shelf

theorem dec_enc {op a b n : Int} (h : mayL op a b n = true) : dOp (encL op a b n) = op ∧ dA (encL op a b n) = a ∧ dB (encL op a b n) = b ∧ dN (encL op a b n) = n ∧ 0 ≤ encL op a b n ∧ encL op a b n < 4294967296 := by
  obtain ⟨⟨o1, o2⟩, ⟨a1, a2⟩, ⟨b1, b2⟩, ⟨n1, n2⟩⟩ := may_bounds h
  unfold encL dOp dA dB dN
  refine ⟨by omega, by omega, by omega, ?_, by omega, by omega⟩
  split <;> omega
set_option maxRecDepth 100000 in
set_option maxHeartbeats 4000000 in
theorem cIsaEncode {w : World} {A : Option Addr} {l : List (Int × Int × Int × Int)} {c : Nat} (hl : RdI w w.heap.size A l) (hlen : l.length ≤ c) (hcap : c ≤ maxLen) (ht : Tb w) :
    Calls Tryd.prog 4 #[.slice A l.length c] w fun e w' => e = .returned (.bool true) ∧ Below w.heap.size w w' := by
  simp only [maxLen] at hcap
  by_cases h1 : l.length ≤ 60
  · have h1' : ¬ (60 < (l.length : Int)) := by omega
    go_enter Tryd.func4, Tryd.ntmps4
    go_wp2_with fail
    go_loopw [3] (fun i wr => ∃ k : Nat, k ≤ l.length ∧ i = .int .i64 k ∧ Below w.heap.size w wr) (fun i _ => l.length - (intOf i).toNat)
    case atStart => exact ⟨0, Nat.zero_le _, rfl, Below.refl _ _⟩
    case round =>
      obtain ⟨k, hk, rfl, hb⟩ := hrel
      have T0 := ht.b hb
      have hl0 := hl.below hb (Nat.le_refl _)
      by_cases hlt : k < l.length
      · obtain ⟨⟨op, a, b, n⟩, hx⟩ : ∃ x, l[k]? = some x := ⟨_, List.getElem?_eq_getElem hlt⟩
        obtain ⟨g, off, rfl, hg⟩ := hl0.some_ (by omega)
        have HX := Lib.hid hx
        clear hx
        have hgw := hb.size
        obtain ⟨x0, x1, x2, x3⟩ := hl0.cell g off rfl k op a b n HX.out
        cases hm : mayL op a b n
        · have HO := Lib.hid hm
          clear hm
          go_wp2_with fail
          refine (cEncode_out HO.out _).mono ?_
          rintro e W1 ⟨rfl, hb1⟩
          have hl1 := hl0.below hb1 hgw
          have B1 := hb.trans (hb1.mono hgw)
          obtain ⟨x0, x1, x2, x3⟩ := hl1.cell g off rfl k op a b n HX.out
          go_wp2_with fail
          refine (cText_out HO.out _).mono ?_
          rintro e W2 ⟨rfl, hb2⟩
          have hl2 := hl1.below hb2 B1.size
          have B2 := B1.trans (hb2.mono B1.size)
          obtain ⟨x0, x1, x2, x3⟩ := hl2.cell g off rfl k op a b n HX.out
          go_wp2_with fail
          refine (rMay_any op a b n _).mono ?_
          rw [HO.out]
          rintro e W3 ⟨rfl, hb3⟩
          have B3 := B2.trans (hb3.mono B2.size)
          go_wp2
          go_roundw
          case rel => exact ⟨k + 1, by omega, by go_num, B3⟩
          case measure => simp [intOf]; omega
        · have HO := Lib.hid hm
          clear hm
          obtain ⟨d0, d1, d2, d3, d4, d5⟩ := dec_enc HO.out
          have hok : okL (encL op a b n) = true := by unfold okL; rw [d0, d1, d2, d3]; exact HO.out
          have hD := fun W => cDecode_in hok d4 d5 W
          rw [d0, d1, d2, d3] at hD
          have HD := Lib.hid hD
          clear hD hok d0 d1 d2 d3
          have hE := fun W => cEncode_in HO.out W
          have hE' := fun W => rEncode HO.out W
          have hT := fun W (h : Tb W) => cText_in HO.out h
          have hT' := fun W (h : Tb W) => rText HO.out h
          generalize encL op a b n = ew at *
          generalize textB op a b n = tx at *
          have HE := Lib.hid hE
          have HE' := Lib.hid hE'
          have HT := Lib.hid hT
          have HT' := Lib.hid hT'
          clear hE hE' hT hT'
          go_wp2_with fail
          refine (HE.out _).mono ?_
          rintro e W1 ⟨rfl, hb1⟩
          have hl1 := hl0.below hb1 hgw
          have B1 := hb.trans (hb1.mono hgw)
          have T1 := T0.b hb1
          obtain ⟨x0, x1, x2, x3⟩ := hl1.cell g off rfl k op a b n HX.out
          go_wp2_with fail
          refine (HT.out _ T1).mono ?_
          rintro e W2 ⟨rfl, hb2⟩
          have hl2 := hl1.below hb2 B1.size
          have B2 := B1.trans (hb2.mono B1.size)
          have T2 := T1.b hb2
          obtain ⟨x0, x1, x2, x3⟩ := hl2.cell g off rfl k op a b n HX.out
          go_wp2_with fail
          refine (rMay_any op a b n _).mono ?_
          rw [HO.out]
          rintro e W3 ⟨rfl, hb3⟩
          have B3 := B2.trans (hb3.mono B2.size)
          have hl3 := hl2.below hb3 B2.size
          have T3 := T2.b hb3
          go_wp2_with fail
          refine (HD.out _).mono ?_
          rintro e W4 ⟨rfl, hb4⟩
          obtain ⟨K5, hb5, s5⟩ := cells1 W4 (instA op a b n) 26
          have B4 := B3.trans (hb4.mono B3.size)
          have B5 := B4.trans (hb5.mono B4.size)
          have hl5 := (hl3.below hb4 B3.size).below hb5 B4.size
          have T5 := (T3.b hb4).b hb5
          go_wp2_with fail
          generalize W4.alloc _ = W5 at *
          obtain ⟨x0, x1, x2, x3⟩ := hl5.cell g off rfl k op a b n HX.out
          have _p0 := (Cells.cell K5 0).trans (show _ = some (Value.int .i64 (op)) from rfl)
          have _p1 := (Cells.cell K5 1).trans (show _ = some (Value.int .i64 (a)) from rfl)
          have _p2 := (Cells.cell K5 2).trans (show _ = some (Value.int .i64 (b)) from rfl)
          have _p3 := (Cells.cell K5 3).trans (show _ = some (Value.int .i64 (n)) from rfl)
          have y0 := fun x : Since W5 => x.cell x0
          have y1 := fun x : Since W5 => x.cell x1
          have y2 := fun x : Since W5 => x.cell x2
          have y3 := fun x : Since W5 => x.cell x3
          have z0 := fun x : Since W5 => x.cell _p0
          have z1 := fun x : Since W5 => x.cell _p1
          have z2 := fun x : Since W5 => x.cell _p2
          have z3 := fun x : Since W5 => x.cell _p3
          have tt := Lib.hid (fun x : Since W5 => T5.b x.low)
          refine wp_region_since (by kernel_rfl) (by kernel_rfl) ?_
          repeat (go_big_quiet_step (first | (go_at_call 15; exact Since.of (HE'.out _)) | (go_at_call 16; exact Since.of (HT'.out _ (tt.out _)))))
          refine wpQuiet_nil ?_
          rintro _ ⟨x, rfl⟩
          go_wp2
          go_roundw
          case rel => exact ⟨k + 1, by omega, by go_num, B5.trans (x.low.mono B5.size)⟩
          case measure => simp [intOf]; omega
      · obtain rfl : k = l.length := by omega
        go_wp2_with fail
        refine (cKnown T0).mono ?_
        rintro e W1 ⟨rfl, hb1⟩
        go_wp2
        go_ret
        exact ⟨rfl, hb.trans (hb1.mono hb.size)⟩
  · have h1' : 60 < (l.length : Int) := by omega
    go_enter Tryd.func4, Tryd.ntmps4
    go_wp2_with fail
    refine (cKnown ht).mono ?_
    rintro e W1 ⟨rfl, hb1⟩
    go_wp2
    go_ret
    exact ⟨rfl, hb1⟩
end Go.Proofs.YtfdmmgkhlgefbaaDoor
