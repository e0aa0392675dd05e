/- Small lemmas on the state behind an instruction, and on touches' lengths. -/
import Derived.Test.YtmpnlhfnemidpaaDq
import Derived.Test.YtmpnlhfnemidpaaTu0
namespace Go.Proofs.Ytmpnlhfnemidpaa
open Go.RowKit Go.Shelf
theorem doneW_len {s : St} (h : s.regs.length = 8) (op ka a b n told : Int) : (doneW s op ka a b n told).regs.length = 8 := by
  have hset : ∀ (k : Nat) (v : Int), (s.regs.set k v).length = 8 := fun k v => by rw [List.length_set]; exact h
  unfold doneW
  by_cases h1 : 2 ≤ op ∧ op ≤ 12
  · rw [if_pos h1]; exact hset _ _
  rw [if_neg h1]
  by_cases h2 : op = 13 ∨ op = 22
  · rw [if_pos h2]; exact hset _ _
  rw [if_neg h2]
  by_cases h3 : op = 15
  · rw [if_pos h3]; exact hset _ _
  rw [if_neg h3]
  by_cases h4 : op = 20
  · rw [if_pos h4]; exact hset _ _
  rw [if_neg h4]
  by_cases h5 : op = 21
  · rw [if_pos h5]; exact hset _ _
  rw [if_neg h5]
  by_cases h6 : op = 26
  · rw [if_pos h6]; exact hset _ _
  rw [if_neg h6]
  by_cases h7 : op = 27
  · rw [if_pos h7]
    unfold putL
    repeat' split
    all_goals exact h
  rw [if_neg h7]
  by_cases h8 : op = 25
  · rw [if_pos h8]; exact h
  rw [if_neg h8]; exact h
theorem doneL_len {s : St} (h : s.regs.length = 8) (x told : Int) : (doneL s x told).regs.length = 8 := by
  unfold doneL
  split
  · exact h
  · exact doneW_len h _ _ _ _ _ _
theorem fr_len {op ka kb n : Int} : ∀ t ∈ touchW op ka kb n, t.fr.length < 1000 := by
  intro t ht
  unfold touchW decT movT endT at ht
  simp only [List.mem_append] at ht
  rcases ht with (ht | ht) | ht
  all_goals
    repeat' split at ht
    all_goals simp at ht
    all_goals (try rcases ht with rfl | rfl)
    all_goals (try subst ht)
    all_goals simp
theorem touchL_fr (s : St) (x : Int) : ∀ t ∈ touchL s x, t.fr.length < 1000 := by
  intro t ht
  unfold touchL at ht
  split at ht
  · rw [List.mem_append] at ht
    rcases ht with ht | ht
    · split at ht
      · simp at ht; subst ht; simp
      · cases ht
    · simp only [trapT, List.mem_cons, List.not_mem_nil, or_false] at ht
      rcases ht with rfl | rfl | rfl | rfl | rfl <;> simp
  · exact fr_len t ht
theorem movT_len (op ka kb n : Int) : (movT op ka kb n).length ≤ 1 := by
  unfold movT; repeat' split
  all_goals simp
theorem endT_len (op kb : Int) : (endT op kb).length ≤ 2 := by
  unfold endT; repeat' split
  all_goals simp
theorem touchL_len (s : St) (x : Int) : (touchL s x).length < 1000 := by
  unfold touchL
  split
  · rw [List.length_append]
    split <;> simp [trapT]
  · have h1 := decT_len (dOp x) (dA x) (dB x) (dN x)
    have h2 := movT_len (dOp x) (dA x) (dB x) (dN x)
    have h3 := endT_len (dOp x) (dB x)
    unfold touchW
    rw [List.length_append, List.length_append]
    omega
theorem TsC.get {W : World} {xs : List Value} {L : List Tt} (h : TsC W xs L) : ∀ {k : Nat} (hk : k < L.length), ∃ v, xs[k * 3]? = some (.int .i64 L[k].k) ∧ xs[k * 3 + 1]? = some (.int .i64 L[k].n) ∧ xs[k * 3 + 2]? = some v ∧ FromAt W v L[k].fr := by
  induction h with
  | nil => intro k hk; exact absurd hk (by simp)
  | cons hf _ ih =>
    intro k hk
    cases k with
    | zero => exact ⟨_, rfl, rfl, rfl, hf⟩
    | succ k =>
      obtain ⟨v, a, b, c, d⟩ := ih (k := k) (by simpa using hk)
      refine ⟨v, ?_, ?_, ?_, by simpa using d⟩
      · rw [show (k + 1) * 3 = k * 3 + 3 by omega]; simpa using a
      · rw [show (k + 1) * 3 + 1 = k * 3 + 1 + 3 by omega]; simpa using b
      · rw [show (k + 1) * 3 + 2 = k * 3 + 2 + 3 by omega]; simpa using c
theorem TsAt.form {W : World} {base : Nat} {v : Value} {L : List Tt} (h : TsAt W base v L) : ∃ ao c, v = .slice ao L.length c := by
  obtain ⟨xs, ho, _⟩ := h
  rcases ho.2 with ⟨rfl, h0⟩ | ⟨g, cap, cur, rfl, _⟩
  · exact ⟨none, 0, by rw [h0]⟩
  · exact ⟨_, _, rfl⟩
theorem TsAt.at {W : World} {base : Nat} {ao : Option Addr} {m c : Nat} {L : List Tt} (h : TsAt W base (.slice ao m c) L) {k : Nat} (hk : k < L.length) : ∃ g fv, ao = some ⟨g, 0, none⟩ ∧ W.cell? ⟨g, k * 3, none⟩ = some (.int .i64 L[k].k) ∧ W.cell? ⟨g, k * 3 + 1, none⟩ = some (.int .i64 L[k].n) ∧ W.cell? ⟨g, k * 3 + 2, none⟩ = some fv ∧ FromAt W fv L[k].fr := by
  obtain ⟨xs, ho, hC⟩ := h
  obtain ⟨v, p0, p1, p2, hf⟩ := hC.get hk
  rcases ho.2 with ⟨_, h0⟩ | ⟨g, cap, cur, e, _⟩
  · omega
  · simp only [Value.slice.injEq] at e
    obtain ⟨rfl, _, _⟩ := e
    have hx := fun j u (hj : xs[j]? = some u) => ho.cells (g := g) rfl j u hj
    have ha : ∀ j, (⟨g, 0, none⟩ : Addr).add j = ⟨g, j, none⟩ := fun j => by rw [addr_add, Nat.zero_add]
    exact ⟨g, v, rfl, by rw [← ha]; exact hx _ _ p0, by rw [← ha]; exact hx _ _ p1, by rw [← ha]; exact hx _ _ p2, hf⟩
end Go.Proofs.Ytmpnlhfnemidpaa
