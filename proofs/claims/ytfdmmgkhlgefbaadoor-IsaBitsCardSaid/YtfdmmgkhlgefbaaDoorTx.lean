/- The isa: Text's small functions: contracts. -/
import Derived.Test.YtfdmmgkhlgefbaaDoorEn
import Derived.Test.YtfdmmgkhlgefbaaDoorShelf
import Derived.Shelf.SlSorted.Search
namespace Go.Proofs.YtfdmmgkhlgefbaaDoor
open Go.RowKit Go.Shelf

/-- The library's table of powers of ten stands as its text lays it. -/
def Tb (W : World) : Prop := Lib.TabIs Tryd.prog W "internal/strconv.uint64pow10" .u64 Lib.pow10Tab
theorem Tb.below {w w' : World} {n : Nat} (h : Tb w) (hb : Below n w w') (hn : 0 < n) : Tb w' := by
  have hgn : Tryd.prog.globalNamed "internal/strconv.uint64pow10" = some 0 := by kernel_rfl
  unfold Tb Lib.TabIs World.var? at h ⊢
  rw [hgn] at h ⊢
  simp only [Option.bind_some] at h ⊢
  rw [hb.block 0 hn]; exact h
theorem Tb.pos {w : World} (h : Tb w) : 0 < w.heap.size := by
  have hgn : Tryd.prog.globalNamed "internal/strconv.uint64pow10" = some 0 := by kernel_rfl
  unfold Tb Lib.TabIs World.var? at h
  rw [hgn] at h
  simp only [Option.bind_some] at h
  rcases Nat.lt_or_ge 0 w.heap.size with h' | h'
  · exact h'
  · rw [Array.getElem?_eq_none h'] at h; cases h
theorem Tb.b {w w' : World} (h : Tb w) (hb : Below w.heap.size w w') : Tb w' := h.below hb h.pos
/-- A number's numeral. -/
def itoaB (n : Int) : ByteArray := ⟨(Lib.itoa n).toArray⟩
theorem decDigits_len : ∀ (k : Nat) (u : Nat), u < 10 ^ (k + 1) → (Lib.decDigits u).length ≤ k + 1
  | 0, u, h => by rw [Lib.decDigits, dif_pos (by simpa using h)]; simp
  | k + 1, u, h => by
    rw [Lib.decDigits]
    split
    · simp
    · have : u / 10 < 10 ^ (k + 1) := by rw [Nat.pow_succ] at h; omega
      have := decDigits_len k (u / 10) this
      simp; omega
theorem itoa_len {n : Int} (h0 : -9223372036854775808 ≤ n) (h1 : n ≤ 9223372036854775807) : (Lib.itoa n).length ≤ 20 := by
  unfold Lib.itoa
  split
  · have := decDigits_len 18 n.natAbs (by omega)
    simp; omega
  · have := decDigits_len 18 n.toNat (by omega)
    omega
theorem itoaB_size {n : Int} (h0 : -9223372036854775808 ≤ n) (h1 : n ≤ 9223372036854775807) : (itoaB n).size ≤ 20 := by
  have := itoa_len h0 h1
  simpa [itoaB, ByteArray.size] using this
theorem cItoa {n : Int} (h0 : -9223372036854775808 ≤ n) (h1 : n ≤ 9223372036854775807) {w : World} (ht : Tb w) : Calls Tryd.prog 24 #[.int .i64 n] w fun e w' => e = .returned (.string (itoaB n)) ∧ Below w.heap.size w w' := by
  refine (Tryd.strconv_Itoa n h0 h1 w ht).mono ?_
  rintro e w' ⟨rfl, k, os, rfl⟩
  exact ⟨rfl, below_grown_sl _ _ _ _ (Nat.le_refl _)⟩
theorem cReg (a : Int) (w : World) : Calls Tryd.prog 22 #[.int .i64 a] w fun e w' => e = .returned (.func (.func 23) #[] #[.pointer (some ⟨w.heap.size, 0, none⟩)]) ∧ w.alloc (.cells #[.int .i64 a] 3) = w' := by
  go_enter Tryd.func22, Tryd.ntmps22
  go_wp2
  go_ret
  exact ⟨rfl, rfl⟩
/-- A register's name. -/
def regB (n : Int) : ByteArray := ⟨((114 : UInt8) :: Lib.itoa n).toArray⟩
theorem reg_eq (a : Int) : regB a = ⟨#[114]⟩ ++ itoaB a := by
  apply ByteArray.ext
  simp [regB, itoaB]
theorem regB_size {n : Int} (h0 : -9223372036854775808 ≤ n) (h1 : n ≤ 9223372036854775807) : (regB n).size ≤ 21 := by
  have := itoa_len h0 h1
  simp [regB, ByteArray.size]; omega
theorem cReg1 {a : Int} (h0 : 0 ≤ a) (h1 : a ≤ 9223372036854775807) {w : World} {B : Nat} (hc : Cells w B 3 #[.int .i64 a]) (ht : Tb w) : Calls Tryd.prog 23 #[.pointer (some ⟨B, 0, none⟩)] w fun e w' => e = .returned (.string (regB a)) ∧ Below w.heap.size w w' := by
  have c0 := (hc.cell 0).trans (show _ = some (Value.int .i64 a) from rfl)
  go_enter Tryd.func23, Tryd.ntmps23
  go_wp2_with fail
  refine (cItoa (by omega) h1 ht).mono ?_
  rintro e w' ⟨rfl, hb⟩
  have hz := itoaB_size (n := a) (by omega) (by omega)
  go_wp2
  go_ret
  exact ⟨by rw [reg_eq]; rfl, hb⟩
theorem cImm1 {op a b n : Int} (hn : -32768 ≤ n ∧ n ≤ 32767) {w : World} {B : Nat} (hc : Cells w B 26 (instA op a b n)) (ht : Tb w) : Calls Tryd.prog 25 #[.pointer (some ⟨B, 0, none⟩)] w fun e w' => e = .returned (.string (itoaB n)) ∧ Below w.heap.size w w' := by
  have c0 := (hc.cell 3).trans (show _ = some (Value.int .i64 n) from rfl)
  go_enter Tryd.func25, Tryd.ntmps25
  go_wp2_with fail
  refine (cItoa (by omega) (by omega) ht).mono ?_
  rintro e w' ⟨rfl, hb⟩
  go_wp2
  go_ret
  exact ⟨rfl, hb⟩
/-- What a string ahead of another one makes. -/
theorem cText_out {op a b n : Int} (h : mayL op a b n = false) (w : World) : Calls Tryd.prog 13 #[.agg (instA op a b n)] w fun e w' => e = .returned (.tuple #[.string ⟨#[]⟩, .int .i64 2]) ∧ Below w.heap.size w w' := by
  obtain ⟨K1, Hb, hs⟩ := cells1 w (instA op a b n) 26
  have i0 := (K1.cell 0).trans (show _ = some (Value.int .i64 op) from rfl)
  have i1 := (K1.cell 1).trans (show _ = some (Value.int .i64 a) from rfl)
  have i2 := (K1.cell 2).trans (show _ = some (Value.int .i64 b) from rfl)
  have i3 := (K1.cell 3).trans (show _ = some (Value.int .i64 n) from rfl)
  have H := Lib.hid h
  clear h
  go_enter Tryd.func13, Tryd.ntmps13
  go_wp2_with fail
  refine (cMay _ _ _ _ _).mono ?_
  rw [H.out]
  rintro e W2 ⟨rfl, hb2⟩
  have B2 := Hb.trans (hb2.mono Hb.size)
  go_wp2
  go_ret2
  exact ⟨rfl, B2⟩
end Go.Proofs.YtfdmmgkhlgefbaaDoor
