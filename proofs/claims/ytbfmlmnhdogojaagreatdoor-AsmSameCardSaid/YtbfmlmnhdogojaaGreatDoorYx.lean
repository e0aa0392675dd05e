/- Bytes that come in, as a string, at the document's compare of images. -/
import Derived.Test.YtbfmlmnhdogojaaGreatDoorTx
import Derived.Test.YtbfmlmnhdogojaaGreatDoorYb
import Derived.Laws.BytesArg
namespace Go.Proofs.YtbfmlmnhdogojaaGreatDoor
open Go.RowKit Go.Shelf

theorem rd_newsY {W : World} {B : Nat} {a : Addr} {l : List Int} (hr : Rd W B .u8 (some a) l) : ∀ j u, (l.map (Value.int .u8))[j]? = some u → W.cell? (a.add j) = some u := by
  intro j u hu
  rw [List.getElem?_map] at hu
  obtain ⟨y, hy, rfl⟩ := Option.map_eq_some_iff.1 hu
  obtain ⟨g, off, e, _⟩ := hr.some_ (by have := (List.getElem?_eq_some_iff.1 hy).1; omega)
  cases e
  rw [addr_add]
  exact hr.cell g off rfl j y hy
theorem conv_rdY {W : World} {B : Nat} {A : Option Addr} {l : List Int} {c : Nat} (hr : Rd W B .u8 A l) (h0 : 0 < l.length) : (convert 24 9 (.slice A l.length c)).run Tryz.prog W = .ok (.string (strOfNums l)) W := by
  obtain ⟨g, off, rfl, _⟩ := hr.some_ h0
  refine run_convert_bytes_arg W 24 5 Tryz.underlying24 Tryz.underlying5 g off l.length c l rfl (fun i hi => ?_) 9 Tryz.underlying9
  rw [hr.cell g off rfl i _ (List.getElem?_eq_getElem hi)]
  simp [List.getD, List.getElem?_eq_getElem hi]
theorem conv_anyY {W : World} {B : Nat} {A : Option Addr} {l : List Int} {c : Nat} (hr : Rd W B .u8 A l) : (convert 24 9 (.slice A l.length c)).run Tryz.prog W = .ok (.string (strOfNums l)) W := by
  rcases Nat.eq_zero_or_pos l.length with h | h
  · obtain rfl := List.eq_nil_of_length_eq_zero h
    cases A with
    | none => exact run_convert_bytes_nil W 24 5 Tryz.underlying24 Tryz.underlying5 0 c 9 Tryz.underlying9
    | some a =>
      have hl : (loadCells a 0).run Tryz.prog W = .ok (([] : List Int).map (Value.int .u8)).toArray W := by
        simpa using run_loadCells_list (P := Tryz.prog) W a ([] : List Value) (fun j v h => by simp at h)
      exact (run_convert_bytes_string W 24 9 5 (some a) 0 c Tryz.underlying24 Tryz.underlying5 Tryz.underlying9).trans (run_bytesToString W a 0 c [] hl)
  · exact conv_rdY hr h
end Go.Proofs.YtbfmlmnhdogojaaGreatDoor
