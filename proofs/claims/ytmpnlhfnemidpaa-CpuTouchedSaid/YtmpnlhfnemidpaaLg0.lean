/- What a word changes is what its touches tell: the plain law. -/
import Derived.Test.YtmpnlhfnemidpaaSl
namespace Go.Proofs.Ytmpnlhfnemidpaa
open Go.RowKit Go.Shelf
def goesL (L : List Tt) (k n : Int) : Bool := L.any fun t => t.k == k && t.n == n
theorem goesL_append (L M : List Tt) (k n : Int) : goesL (L ++ M) k n = (goesL L k n || goesL M k n) := by simp [goesL]
structure TouchedAt (s o : St) (T : List Tt) (told : Bool) : Prop where
  reg : ∃ ka : Nat, (∀ r : Nat, r ≠ ka → reg o r = reg s r) ∧ (reg o ka ≠ reg s ka → told = true ∨ goesL T 1 ka = true)
  epc : o.epc ≠ s.epc → goesL T 3 0 = true
  cause : o.cause ≠ s.cause → goesL T 4 0 = true
  vec : o.vec ≠ s.vec → goesL T 5 0 = true
  table : o.table ≠ s.table → goesL T 6 0 = true
  mode : (o.sup ≠ s.sup ∨ o.prev ≠ s.prev ∨ o.en ≠ s.en) → goesL T 7 0 = true
  pc : goesL T 2 0 = true
theorem reg_set_ne (s : St) {k r : Nat} (v p : Int) (h : r ≠ k) : reg { s with pc := p, regs := s.regs.set k v } r = reg s r := by
  unfold reg
  simp only [List.getD_eq_getElem?_getD, Int.toNat_natCast]
  rw [List.getElem?_set_ne (Ne.symm h)]
theorem tch_reg {s : St} {T : List Tt} {told : Bool} {ka : Int} (hka : 0 ≤ ka) (v p : Int) (hg : told = true ∨ goesL T 1 ka = true) (hpc : goesL T 2 0 = true) : TouchedAt s { s with pc := p, regs := s.regs.set ka.toNat v } T told :=
  ⟨⟨ka.toNat, fun r h => reg_set_ne s v p h, fun _ => by rw [Int.toNat_of_nonneg hka]; exact hg⟩, fun h => absurd rfl h, fun h => absurd rfl h, fun h => absurd rfl h, fun h => absurd rfl h, fun h => by rcases h with h | h | h <;> exact absurd rfl h, hpc⟩
theorem tch_none {s : St} {T : List Tt} {told : Bool} (p : Int) (hpc : goesL T 2 0 = true) : TouchedAt s { s with pc := p } T told :=
  ⟨⟨0, fun _ _ => rfl, fun h => absurd rfl h⟩, fun h => absurd rfl h, fun h => absurd rfl h, fun h => absurd rfl h, fun h => absurd rfl h, fun h => by rcases h with h | h | h <;> exact absurd rfl h, hpc⟩
theorem end_pc (op kb : Int) : goesL (endT op kb) 2 0 = true := by
  unfold endT; repeat' split
  all_goals rfl
theorem touch_pc (op ka kb n : Int) : goesL (touchW op ka kb n) 2 0 = true := by unfold touchW; rw [goesL_append, end_pc]; simp
theorem touch_mov {op ka kb n k m : Int} (h : goesL (movT op ka kb n) k m = true) : goesL (touchW op ka kb n) k m = true := by
  unfold touchW; rw [goesL_append, goesL_append, h]; simp
theorem goes_self (k n : Int) (fr : List (Int × Int)) : goesL [⟨k, n, fr⟩] k n = true := by simp [goesL]
theorem touchedW {s : St} {op ka kb n a b t : Int} (hka : 0 ≤ ka) (hn : op = 27 → 0 ≤ n ∧ n ≤ 5) : TouchedAt s (doneW s op ka a b n t) (touchW op ka kb n) (decide (op = 13 ∨ op = 15 ∨ op = 22)) := by
  have hpc := touch_pc op ka kb n
  unfold doneW
  generalize (if takenL op a b = true then (s.pc + 4 * immL n) % 4294967296 else (s.pc + 4) % 4294967296) = p at *
  by_cases h1 : 2 ≤ op ∧ op ≤ 12
  · rw [if_pos h1]
    refine tch_reg hka _ _ (.inr (touch_mov ?_)) hpc
    unfold movT
    by_cases e2 : op = 2
    · rw [if_pos e2]; exact goes_self _ _ _
    rw [if_neg e2]
    by_cases e3 : op = 3
    · rw [if_pos e3]; exact goes_self _ _ _
    rw [if_neg e3, if_pos (show 4 ≤ op ∧ op ≤ 12 by omega)]; exact goes_self _ _ _
  rw [if_neg h1]
  by_cases h2 : op = 13 ∨ op = 22
  · rw [if_pos h2]
    exact tch_reg hka _ _ (.inl (by rw [decide_eq_true_eq]; omega)) hpc
  rw [if_neg h2]
  by_cases h3 : op = 15
  · rw [if_pos h3]
    exact tch_reg hka _ _ (.inl (by rw [decide_eq_true_eq]; omega)) hpc
  rw [if_neg h3]
  have hm : (op = 20 ∨ op = 21) → goesL (movT op ka kb n) 1 ka = true := by
    intro h
    unfold movT
    rw [if_neg (show ¬ op = 2 by omega), if_neg (show ¬ op = 3 by omega), if_neg (show ¬ (4 ≤ op ∧ op ≤ 12) by omega), if_pos h]; exact goes_self _ _ _
  by_cases h4 : op = 20
  · rw [if_pos h4]
    exact tch_reg hka _ _ (.inr (touch_mov (hm (.inl h4)))) hpc
  rw [if_neg h4]
  by_cases h5 : op = 21
  · rw [if_pos h5]
    exact tch_reg hka _ _ (.inr (touch_mov (hm (.inr h5)))) hpc
  rw [if_neg h5]
  by_cases h6 : op = 26
  · rw [if_pos h6]
    refine tch_reg hka _ _ (.inr (touch_mov ?_)) hpc
    unfold movT
    rw [if_neg (show ¬ op = 2 by omega), if_neg (show ¬ op = 3 by omega), if_neg (show ¬ (4 ≤ op ∧ op ≤ 12) by omega), if_neg (show ¬ (op = 20 ∨ op = 21) by omega), if_pos h6]; exact goes_self _ _ _
  rw [if_neg h6]
  by_cases h7 : op = 27
  · rw [if_pos h7]
    obtain ⟨n0, n5⟩ := hn h7
    have hmv : n < 4 → goesL (touchW op ka kb n) (keptL n) 0 = true := by
      intro h
      refine touch_mov ?_
      unfold movT
      rw [if_neg (show ¬ op = 2 by omega), if_neg (show ¬ op = 3 by omega), if_neg (show ¬ (4 ≤ op ∧ op ≤ 12) by omega), if_neg (show ¬ (op = 20 ∨ op = 21) by omega), if_neg h6, if_pos (show op = 27 ∧ n < 4 from ⟨h7, h⟩)]; exact goes_self _ _ _
    have hm4 : n = 4 → goesL (touchW op ka kb n) 7 0 = true := by
      intro h
      refine touch_mov ?_
      unfold movT
      rw [if_neg (show ¬ op = 2 by omega), if_neg (show ¬ op = 3 by omega), if_neg (show ¬ (4 ≤ op ∧ op ≤ 12) by omega), if_neg (show ¬ (op = 20 ∨ op = 21) by omega), if_neg h6, if_neg (show ¬ (op = 27 ∧ n < 4) by omega), if_pos (show op = 27 ∧ n = 4 from ⟨h7, h⟩)]; exact goes_self _ _ _
    have no : ∀ {α : Type} {x : α} {P : Prop}, x ≠ x → P := fun h => absurd rfl h
    have no3 : ∀ {P : Prop}, (s.sup ≠ s.sup ∨ s.prev ≠ s.prev ∨ s.en ≠ s.en) → P := fun h => by rcases h with h | h | h <;> exact absurd rfl h
    unfold putL
    rcases (show n = 0 ∨ n = 1 ∨ n = 2 ∨ n = 3 ∨ n = 4 ∨ n = 5 by omega) with rfl | rfl | rfl | rfl | rfl | rfl
    · exact ⟨⟨0, fun _ _ => rfl, fun h => absurd rfl h⟩, fun _ => hmv (by decide), no, no, no, no3, hpc⟩
    · exact ⟨⟨0, fun _ _ => rfl, fun h => absurd rfl h⟩, no, fun _ => hmv (by decide), no, no, no3, hpc⟩
    · exact ⟨⟨0, fun _ _ => rfl, fun h => absurd rfl h⟩, no, no, fun _ => hmv (by decide), no, no3, hpc⟩
    · exact ⟨⟨0, fun _ _ => rfl, fun h => absurd rfl h⟩, no, no, no, fun _ => hmv (by decide), no3, hpc⟩
    · exact ⟨⟨0, fun _ _ => rfl, fun h => absurd rfl h⟩, no, no, no, no, fun _ => hm4 rfl, hpc⟩
    · exact tch_none p hpc
  rw [if_neg h7]
  by_cases h8 : op = 25
  · rw [if_pos h8]
    have h7e : goesL (touchW op ka kb n) 7 0 = true := by
      unfold touchW
      rw [goesL_append]
      have : goesL (endT op kb) 7 0 = true := by
        unfold endT
        rw [if_neg h5, if_pos h8]
        rfl
      rw [this]; simp
    exact ⟨⟨0, fun _ _ => rfl, fun h => absurd rfl h⟩, fun h => absurd rfl h, fun h => absurd rfl h, fun h => absurd rfl h, fun h => absurd rfl h, fun _ => h7e, hpc⟩
  rw [if_neg h8]
  exact tch_none p hpc
theorem plan_kindW {op a b at_ n : Int} {sup : Bool} (hk : ((planW op a b at_ n sup).kind == 1) = false) : ((planW op a b at_ n sup).kind == 2 || (planW op a b at_ n sup).kind == 4) = decide (op = 13 ∨ op = 15 ∨ op = 22) := by
  unfold planW at hk ⊢
  by_cases g1 : highL op = true ∧ sup = false
  · rw [if_pos g1] at hk; cases hk
  rw [if_neg g1] at hk ⊢
  by_cases g2 : op = 24
  · rw [if_pos g2] at hk; cases hk
  rw [if_neg g2] at hk ⊢
  by_cases g3 : ((op = 13 ∨ op = 14) ∧ at_ % 4 ≠ 0) ∨ (op = 21 ∧ b % 4 ≠ 0)
  · rw [if_pos g3] at hk; cases hk
  rw [if_neg g3] at hk ⊢
  by_cases g4 : (op = 26 ∨ op = 27) ∧ (n < 0 ∨ 5 < n)
  · rw [if_pos g4] at hk; cases hk
  rw [if_neg g4]
  clear hk g1 g2 g3 g4
  by_cases h1 : op = 13
  · rw [if_pos h1, decide_eq_true (show op = 13 ∨ op = 15 ∨ op = 22 by omega)]; rfl
  rw [if_neg h1]
  by_cases h2 : op = 15
  · rw [if_pos h2, decide_eq_true (show op = 13 ∨ op = 15 ∨ op = 22 by omega)]; rfl
  rw [if_neg h2]
  by_cases h3 : op = 14
  · rw [if_pos h3, decide_eq_false (show ¬ (op = 13 ∨ op = 15 ∨ op = 22) by omega)]; rfl
  rw [if_neg h3]
  by_cases h4 : op = 16
  · rw [if_pos h4, decide_eq_false (show ¬ (op = 13 ∨ op = 15 ∨ op = 22) by omega)]; rfl
  rw [if_neg h4]
  by_cases h5 : op = 22
  · rw [if_pos h5, decide_eq_true (show op = 13 ∨ op = 15 ∨ op = 22 by omega)]; rfl
  rw [if_neg h5, decide_eq_false (show ¬ (op = 13 ∨ op = 15 ∨ op = 22) by omega)]
  by_cases h6 : op = 23
  · rw [if_pos h6]; rfl
  rw [if_neg h6]
  by_cases h7 : op = 1
  · rw [if_pos h7]; rfl
  rw [if_neg h7]
  by_cases h8 : op = 28
  · rw [if_pos h8]; rfl
  rw [if_neg h8]; rfl
theorem plan_kind {s : St} {x : Int} (hk : ((planL s x).kind == 1) = false) : ((planL s x).kind == 2 || (planL s x).kind == 4) = decide (dOp x = 13 ∨ dOp x = 15 ∨ dOp x = 22) := by
  have hok := plan_ok hk
  have he : planL s x = planW (dOp x) (reg s (dA x)) (reg s (dB x)) (atL s x) (dN x) s.sup := by unfold planL; rw [if_pos hok]
  rw [he] at hk ⊢
  exact plan_kindW hk
theorem touched {s : St} {x t : Int} (hx : okL x = true → 0 ≤ dA x) : TouchedAt s (doneL s x t) (touchL s x) ((planL s x).kind == 2 || (planL s x).kind == 4) := by
  unfold doneL touchL
  cases hk : ((planL s x).kind == 1)
  · rw [if_neg (by decide), if_neg (by decide), plan_kind hk]
    exact touchedW (hx (plan_ok hk)) (fun e => plan_imm hk (.inr e))
  · rw [if_pos rfl, if_pos rfl]
    have hg : ∀ k, goesL trapT k 0 = true → goesL ((if (planL s x).cause = 6 then [⟨0, 0, [(1, dB x)]⟩] else []) ++ trapT) k 0 = true := fun k h => by rw [goesL_append, h]; simp
    exact ⟨⟨0, fun _ _ => rfl, fun h => absurd rfl h⟩, fun _ => hg 3 rfl, fun _ => hg 4 rfl, fun h => absurd rfl h, fun h => absurd rfl h, fun _ => hg 7 rfl, hg 2 rfl⟩
/-- How many of the first registers are other ones. -/
def cntL (s o : St) : Nat → Nat
  | 0 => 0
  | k + 1 => cntL s o k + if reg o k = reg s k then 0 else 1
theorem cntL_le {s o : St} {ka : Nat} (h : ∀ r : Nat, r ≠ ka → reg o r = reg s r) : ∀ k, cntL s o k ≤ if ka < k then 1 else 0
  | 0 => by simp [cntL]
  | k + 1 => by
    have ih := cntL_le h k
    unfold cntL
    by_cases e : k = ka
    · subst e
      rw [if_neg (Nat.lt_irrefl _)] at ih
      rw [if_pos (Nat.lt_succ_self _)]
      split <;> omega
    · rw [if_pos (h k e)]
      split at ih <;> split <;> omega
theorem cntL_one {s o : St} {T : List Tt} {told : Bool} (h : TouchedAt s o T told) (k : Nat) : cntL s o k ≤ 1 := by
  obtain ⟨ka, hr, _⟩ := h.reg
  have := cntL_le hr k
  split at this <;> omega
theorem TouchedAt.goes {s o : St} {T : List Tt} {told : Bool} (h : TouchedAt s o T told) {r : Nat} (hne : Ytmpnlhfnemidpaa.reg o r ≠ Ytmpnlhfnemidpaa.reg s r) (ht : told = false) : goesL T 1 r = true := by
  obtain ⟨ka, hr, hg⟩ := h.reg
  by_cases e : r = ka
  · subst e
    rcases hg hne with h | h
    · rw [ht] at h; cases h
    · exact h
  · exact absurd (hr r e) hne
end Go.Proofs.Ytmpnlhfnemidpaa
