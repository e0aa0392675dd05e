/- The isa: the table of Ops, what may be, Decode, and the document's: contracts. -/
import Derived.Test.YtmpnlhfnemidpaaBase
import Derived.Handy
import Derived.WalkLawsBesides
import Derived.Deep.Cut
namespace Go.Proofs.Ytmpnlhfnemidpaa
open Go.RowKit Go.Shelf

/-! ### The table -/
def nameT : List ByteArray := [⟨#[]⟩, ⟨#[104, 97, 108, 116]⟩, ⟨#[108, 117, 105]⟩, ⟨#[97, 100, 100, 105]⟩, ⟨#[97, 100, 100]⟩, ⟨#[115, 117, 98]⟩, ⟨#[109, 117, 108]⟩, ⟨#[97, 110, 100]⟩, ⟨#[111, 114]⟩, ⟨#[120, 111, 114]⟩, ⟨#[115, 104, 108]⟩, ⟨#[115, 104, 114]⟩, ⟨#[115, 108, 116]⟩, ⟨#[108, 119]⟩, ⟨#[115, 119]⟩, ⟨#[108, 98]⟩, ⟨#[115, 98]⟩, ⟨#[98, 101, 113]⟩, ⟨#[98, 110, 101]⟩, ⟨#[98, 108, 116]⟩, ⟨#[106, 97, 108]⟩, ⟨#[106, 97, 108, 114]⟩, ⟨#[105, 110]⟩, ⟨#[111, 117, 116]⟩, ⟨#[99, 97, 108, 108]⟩, ⟨#[98, 97, 99, 107]⟩, ⟨#[103, 101, 116]⟩, ⟨#[115, 101, 116]⟩, ⟨#[102, 108, 117, 115, 104]⟩]
def usesT : List Int := [0, 0, 5, 7, 3, 3, 3, 3, 3, 3, 3, 3, 3, 7, 7, 7, 7, 7, 7, 7, 5, 3, 5, 5, 0, 0, 5, 5, 0]
def nameL (op : Int) : ByteArray := nameT.getD op.toNat ⟨#[]⟩
def usesL (op : Int) : Int := usesT.getD op.toNat 0
def rowsA : Array Value := ((List.range 29).flatMap fun i => [.string (nameT.getD i ⟨#[]⟩), .int .i64 (usesT.getD i 0)]).toArray
def rowsZ : Array Value := ((List.range 29).flatMap fun _ => [.string ⟨#[]⟩, .int .i64 0]).toArray
theorem rows_lit : ((.string ⟨#[]⟩ :: .int .i64 0 :: .string ⟨#[104, 97, 108, 116]⟩ :: .int .i64 0 :: .string ⟨#[108, 117, 105]⟩ :: .int .i64 5 :: .string ⟨#[97, 100, 100, 105]⟩ :: .int .i64 7 :: .string ⟨#[97, 100, 100]⟩ :: .int .i64 3 :: .string ⟨#[115, 117, 98]⟩ :: .int .i64 3 :: .string ⟨#[109, 117, 108]⟩ :: .int .i64 3 :: .string ⟨#[97, 110, 100]⟩ :: .int .i64 3 :: .string ⟨#[111, 114]⟩ :: .int .i64 3 :: .string ⟨#[120, 111, 114]⟩ :: .int .i64 3 :: .string ⟨#[115, 104, 108]⟩ :: .int .i64 3 :: .string ⟨#[115, 104, 114]⟩ :: .int .i64 3 :: .string ⟨#[115, 108, 116]⟩ :: .int .i64 3 :: .string ⟨#[108, 119]⟩ :: .int .i64 7 :: .string ⟨#[115, 119]⟩ :: .int .i64 7 :: .string ⟨#[108, 98]⟩ :: .int .i64 7 :: .string ⟨#[115, 98]⟩ :: .int .i64 7 :: .string ⟨#[98, 101, 113]⟩ :: .int .i64 7 :: .string ⟨#[98, 110, 101]⟩ :: .int .i64 7 :: .string ⟨#[98, 108, 116]⟩ :: .int .i64 7 :: .string ⟨#[106, 97, 108]⟩ :: .int .i64 5 :: .string ⟨#[106, 97, 108, 114]⟩ :: .int .i64 3 :: .string ⟨#[105, 110]⟩ :: .int .i64 5 :: .string ⟨#[111, 117, 116]⟩ :: .int .i64 5 :: .string ⟨#[99, 97, 108, 108]⟩ :: .int .i64 0 :: .string ⟨#[98, 97, 99, 107]⟩ :: .int .i64 0 :: .string ⟨#[103, 101, 116]⟩ :: .int .i64 5 :: .string ⟨#[115, 101, 116]⟩ :: .int .i64 5 :: .string ⟨#[102, 108, 117, 115, 104]⟩ :: .int .i64 0 :: [] : List Value).toArray) = rowsA := rfl
theorem rows_zero : ((.string ⟨#[]⟩ :: .int .i64 0 :: .string ⟨#[]⟩ :: .int .i64 0 :: .string ⟨#[]⟩ :: .int .i64 0 :: .string ⟨#[]⟩ :: .int .i64 0 :: .string ⟨#[]⟩ :: .int .i64 0 :: .string ⟨#[]⟩ :: .int .i64 0 :: .string ⟨#[]⟩ :: .int .i64 0 :: .string ⟨#[]⟩ :: .int .i64 0 :: .string ⟨#[]⟩ :: .int .i64 0 :: .string ⟨#[]⟩ :: .int .i64 0 :: .string ⟨#[]⟩ :: .int .i64 0 :: .string ⟨#[]⟩ :: .int .i64 0 :: .string ⟨#[]⟩ :: .int .i64 0 :: .string ⟨#[]⟩ :: .int .i64 0 :: .string ⟨#[]⟩ :: .int .i64 0 :: .string ⟨#[]⟩ :: .int .i64 0 :: .string ⟨#[]⟩ :: .int .i64 0 :: .string ⟨#[]⟩ :: .int .i64 0 :: .string ⟨#[]⟩ :: .int .i64 0 :: .string ⟨#[]⟩ :: .int .i64 0 :: .string ⟨#[]⟩ :: .int .i64 0 :: .string ⟨#[]⟩ :: .int .i64 0 :: .string ⟨#[]⟩ :: .int .i64 0 :: .string ⟨#[]⟩ :: .int .i64 0 :: .string ⟨#[]⟩ :: .int .i64 0 :: .string ⟨#[]⟩ :: .int .i64 0 :: .string ⟨#[]⟩ :: .int .i64 0 :: .string ⟨#[]⟩ :: .int .i64 0 :: .string ⟨#[]⟩ :: .int .i64 0 :: [] : List Value).toArray) = rowsZ := rfl
theorem cases28 {op : Int} (h : 1 ≤ op ∧ op ≤ 28) : op = 1 ∨ op = 2 ∨ op = 3 ∨ op = 4 ∨ op = 5 ∨ op = 6 ∨ op = 7 ∨ op = 8 ∨ op = 9 ∨ op = 10 ∨ op = 11 ∨ op = 12 ∨ op = 13 ∨ op = 14 ∨ op = 15 ∨ op = 16 ∨ op = 17 ∨ op = 18 ∨ op = 19 ∨ op = 20 ∨ op = 21 ∨ op = 22 ∨ op = 23 ∨ op = 24 ∨ op = 25 ∨ op = 26 ∨ op = 27 ∨ op = 28 := by omega
theorem index_rows {op : Int} (h : 1 ≤ op ∧ op ≤ 28) (w : World) : (Instr.index 107 (.agg rowsA) (.int .i64 op)).run Try.prog w = .ok (.agg #[.string (nameL op), .int .i64 (usesL op)]) w := by
  rcases cases28 h with rfl | rfl | rfl | rfl | rfl | rfl | rfl | rfl | rfl | rfl | rfl | rfl | rfl | rfl | rfl | rfl | rfl | rfl | rfl | rfl | rfl | rfl | rfl | rfl | rfl | rfl | rfl | rfl <;> kernel_rfl
theorem rows_size : (Try.prog.info? 107).map (·.size) = some rowsA.size := by kernel_rfl
set_option maxRecDepth 100000 in
set_option maxHeartbeats 4000000 in
theorem cRows (w : World) : Calls Try.prog 80 #[] w fun e w' => e = .returned (.agg rowsA) ∧ Below w.heap.size w w' := by
  obtain ⟨K1, Hb, hs⟩ := cells1 w rowsZ 107
  have T1 : (w.alloc (.cells rowsZ 107)).there w.heap.size 0 rowsA.size := K1.there
  have hi := rows_size
  have h1 : rowsA.all (·.oneCell') = true := by decide +kernel
  have o5 := K1.setAll rowsA.toList rfl
  rw [Array.toArray_toList] at o5
  go_enter Try.func80, Try.ntmps80
  have hz := rows_zero
  go_upto_region 1 with (fail)
  clear hz
  generalize w.alloc _ = W at *
  go_wp2_with (first
    | ((with_reducible refine wpList_run rfl 29 rfl (.agg rowsA) ?_ ?_); (focus kernel_rfl); simp only [Act.put, List.setIfInBounds_toArray, List.set_cons_zero, List.set_cons_succ])
    | (with_reducible refine wpList_store_mid rfl 107 (.tmp 0) (.tmp 29) rfl w.heap.size 0 rowsA rfl rfl T1 hi h1 ?_)
    | exact bodyPost_ret (results_cell_row rfl _ _ w.heap.size 107 rowsA (0, 0) _ rfl o5 Try.underlying107 rfl hi) rfl ⟨rfl, below_setCells _ 0 Hb (by omega)⟩)
end Go.Proofs.Ytmpnlhfnemidpaa
