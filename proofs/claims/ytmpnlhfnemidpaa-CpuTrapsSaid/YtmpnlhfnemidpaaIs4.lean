/- The document's isa: Uses, Name, May, Decode: contracts. -/
import Derived.Test.YtmpnlhfnemidpaaIs3
namespace Go.Proofs.Ytmpnlhfnemidpaa
open Go.RowKit Go.Shelf

theorem names_lit : ((.string ⟨#[]⟩ :: .string ⟨#[104, 97, 108, 116]⟩ :: .string ⟨#[108, 117, 105]⟩ :: .string ⟨#[97, 100, 100, 105]⟩ :: .string ⟨#[97, 100, 100]⟩ :: .string ⟨#[115, 117, 98]⟩ :: .string ⟨#[109, 117, 108]⟩ :: .string ⟨#[97, 110, 100]⟩ :: .string ⟨#[111, 114]⟩ :: .string ⟨#[120, 111, 114]⟩ :: .string ⟨#[115, 104, 108]⟩ :: .string ⟨#[115, 104, 114]⟩ :: .string ⟨#[115, 108, 116]⟩ :: .string ⟨#[108, 119]⟩ :: .string ⟨#[115, 119]⟩ :: .string ⟨#[108, 98]⟩ :: .string ⟨#[115, 98]⟩ :: .string ⟨#[98, 101, 113]⟩ :: .string ⟨#[98, 110, 101]⟩ :: .string ⟨#[98, 108, 116]⟩ :: .string ⟨#[106, 97, 108]⟩ :: .string ⟨#[106, 97, 108, 114]⟩ :: .string ⟨#[105, 110]⟩ :: .string ⟨#[111, 117, 116]⟩ :: .string ⟨#[99, 97, 108, 108]⟩ :: .string ⟨#[98, 97, 99, 107]⟩ :: .string ⟨#[103, 101, 116]⟩ :: .string ⟨#[115, 101, 116]⟩ :: .string ⟨#[102, 108, 117, 115, 104]⟩ :: [] : List Value).toArray) = (nameT.map Value.string).toArray := rfl
theorem rUses {op : Int} (h : 1 ≤ op ∧ op ≤ 28) (w : World) : Calls Try.prog 81 #[.int .i64 op] w fun e w' => e = .returned (.tuple #[.bool (hasU (usesL op) 1), .bool (hasU (usesL op) 2), .bool (hasU (usesL op) 4)]) ∧ w = w' := by
  have H : ∀ a b c : Bool, a = hasU (usesL op) 1 → b = hasU (usesL op) 2 → c = hasU (usesL op) 4 → Ending.returned (.tuple #[.bool a, .bool b, .bool c]) = .returned (.tuple #[.bool (hasU (usesL op) 1), .bool (hasU (usesL op) 2), .bool (hasU (usesL op) 4)]) := by
    rintro a b c rfl rfl rfl; rfl
  rcases cases28 h with rfl | rfl | rfl | rfl | rfl | rfl | rfl | rfl | rfl | rfl | rfl | rfl | rfl | rfl | rfl | rfl | rfl | rfl | rfl | rfl | rfl | rfl | rfl | rfl | rfl | rfl | rfl | rfl
  all_goals
    clear h
    go_enter Try.func81, Try.ntmps81
    go_wp2
    go_ret3
    exact ⟨H _ _ _ (by decide +kernel) (by decide +kernel) (by decide +kernel), rfl⟩
theorem rUses_out {op : Int} (h : ¬ (1 ≤ op ∧ op ≤ 28)) (w : World) : Calls Try.prog 81 #[.int .i64 op] w fun e w' => e = .returned (.tuple #[.bool true, .bool true, .bool true]) ∧ w = w' := by
  have H : ∀ a b c : Bool, a = true → b = true → c = true → Ending.returned (.tuple #[.bool a, .bool b, .bool c]) = .returned (.tuple #[.bool true, .bool true, .bool true]) := by
    rintro a b c rfl rfl rfl; rfl
  have n1 : ¬ op = 1 := by omega
  have n2 : ¬ op = 2 := by omega
  have n20 : ¬ op = 20 := by omega
  have n21 : ¬ op = 21 := by omega
  have n22 : ¬ op = 22 := by omega
  have n23 : ¬ op = 23 := by omega
  have n24 : ¬ op = 24 := by omega
  have n25 : ¬ op = 25 := by omega
  have n26 : ¬ op = 26 := by omega
  have n27 : ¬ op = 27 := by omega
  have n28 : ¬ op = 28 := by omega
  by_cases n4 : 4 ≤ op
  all_goals
    have n12 : 4 ≤ op → ¬ op ≤ 12 := by omega
    try (have n13 := n12 (by omega))
    clear n12 h
    go_enter Try.func81, Try.ntmps81
    go_wp2
    go_ret3
    exact ⟨H _ _ _ (by simp [*]) (by simp [*]) (by simp [*]), rfl⟩
theorem rName {op : Int} (h : 1 ≤ op ∧ op ≤ 28) (w : World) : Calls Try.prog 82 #[.int .i64 op] w fun e w' => e = .returned (.string (nameL op)) ∧ Below w.heap.size w w' := by
  have hl := names_lit
  obtain ⟨K, Hb, hs⟩ := cells1 w (nameT.map Value.string).toArray 9
  have hc : (w.alloc (.cells (nameT.map Value.string).toArray 9)).cell? ⟨w.heap.size, op.toNat, none⟩ = some (.string (nameL op)) := by
    rw [K.cell]
    rcases cases28 h with rfl | rfl | rfl | rfl | rfl | rfl | rfl | rfl | rfl | rfl | rfl | rfl | rfl | rfl | rfl | rfl | rfl | rfl | rfl | rfl | rfl | rfl | rfl | rfl | rfl | rfl | rfl | rfl <;> rfl
  have h0 : ¬ op < 1 := by omega
  have h1 : ¬ 29 ≤ op := by omega
  have h2 : op < 29 := by omega
  go_enter Try.func82, Try.ntmps82
  go_wp2
  go_ret
  exact ⟨rfl, Hb⟩
theorem rName_out {op : Int} (h : ¬ (1 ≤ op ∧ op ≤ 28)) (w : World) : Calls Try.prog 82 #[.int .i64 op] w fun e w' => e = .returned (.string ⟨#[]⟩) ∧ Below w.heap.size w w' := by
  have hl := names_lit
  obtain ⟨K, Hb, hs⟩ := cells1 w (nameT.map Value.string).toArray 9
  by_cases h0 : op < 1
  all_goals
    have n12 : 1 ≤ op → 29 ≤ op := by omega
    try (have n13 := n12 (by omega))
    clear n12 h
    go_enter Try.func82, Try.ntmps82
    go_wp2
    go_ret
    exact ⟨rfl, Hb⟩
end Go.Proofs.Ytmpnlhfnemidpaa
