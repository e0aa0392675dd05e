/- Read, and the document's Read, each as one contract. -/
import Derived.Test.YtoplchdnfmcbaaaE
namespace Go.Proofs.Ytoplchdnfmcbaaa
open Go.RowKit Go.Shelf

theorem eqSec (l l' : List Int) (h : l.length = 64) (h' : l'.length = 64) (w : World) : (Op.equalIn 10000 28 (.agg (intsA .u8 l)) (.agg (intsA .u8 l'))).run Try.prog w = .ok (decide (l = l')) w :=
  match hi : Try.prog.info? 5 with
  | some _ => run_equalIn_ints w 9998 Try.underlying28 hi (by kernel_rfl) Try.underlying5 (by kernel_rfl) l l' h h'
  | none => absurd (show (Try.prog.info? 5).isSome = true by kernel_rfl) (by rw [hi]; decide)
/-- What is read of sector n. -/
structure Told (size : Int) (m : List (Int × List Int)) (n : Int) (x : List Int) (er : Int) : Prop where
  val : x = if 0 ≤ n ∧ n < size then secL m n else zeros
  err : er = if 0 ≤ n ∧ n < size then 0 else 4
theorem Told.sec {size : Int} {m : List (Int × List Int)} {n : Int} {x : List Int} {er : Int} (h : Told size m n x er) (hg : Good size m) : IsSec x := by
  rw [h.val]; split
  · exact hg.sec n
  · exact zeros_sec
theorem c11_all {w : World} {db mb : Nat} {size : Int} {m : List (Int × List Int)} (h : IsDisk w db mb size m) (n : Int) (x : List Int) (er : Int) (ht : Told size m n x er) :
    Calls Try.prog 11 #[.pointer (some ⟨db, 0, none⟩), .int .i64 n] w fun e w' => e = .returned (.tuple #[.agg (intsA .u8 x), .int .i64 er]) ∧ Below w.heap.size w w' := by
  obtain ⟨rfl, rfl⟩ := ht
  by_cases hn : 0 ≤ n ∧ n < size
  · simp only [if_pos hn]; exact c11 h n hn.1 hn.2
  · simp only [if_neg hn]; exact c11_out h n (by omega)
theorem c12_all {w : World} {A : Option Addr} {l : List Int} {c : Nat} {size : Int} {m : List (Int × List Int)} (hL : l.length < 9223372036854775808) (hr : Rd w w.heap.size .u8 A l) (hrep : Rep l size (secL m)) (n : Int) (x : List Int) (er : Int) (ht : Told size m n x er) :
    Calls Try.prog 12 #[.slice A l.length c, .int .i64 n] w fun e w' => e = .returned (.tuple #[.agg (intsA .u8 x), .int .i64 er]) ∧ Below w.heap.size w w' := by
  obtain ⟨rfl, rfl⟩ := ht
  by_cases hn : 0 ≤ n ∧ n < size
  · simp only [if_pos hn]
    rw [← hrep.2 n hn]
    exact c12_in hL hr n ((hrep.inL n).2 hn)
  · simp only [if_neg hn]; exact c12_out hL n (fun h => hn ((hrep.inL n).1 h))
/-- A variable of its own, for a sector. -/
theorem own_sec {w0 W : World} (hb0 : Below w0.heap.size w0 W) {x : List Int} (hx : x.length = 64) : ((W.alloc (.cells (intsA .u8 zeros) 28)).there W.heap.size 0 (intsA .u8 x).size) ∧
    ∃ W', (W.alloc (.cells (intsA .u8 zeros) 28)).setCells W.heap.size 0 (intsA .u8 x).toList = W' ∧ Cells W' W.heap.size 28 (intsA .u8 x) ∧ Below W.heap.size W W' ∧ Below w0.heap.size w0 W' := by
  obtain ⟨K, B, S⟩ := cells1 W (intsA .u8 zeros) 28
  have k := K.setAll (intsA .u8 x).toList (by simp [intsA, zeros, hx])
  rw [Array.toArray_toList] at k
  have hB := below_setCells (intsA .u8 x).toList 0 B (Nat.le_refl _)
  exact ⟨by rw [intsA_size, hx]; exact K.there, _, rfl, k, hB, hb0.trans (hB.mono hb0.size)⟩
end Go.Proofs.Ytoplchdnfmcbaaa
