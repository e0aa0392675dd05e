/- Unlike instructions have unlike words and unlike texts: plain lists and numbers. -/
import Derived.Test.YtfdmmgkhlgefbaaDoorIsE
namespace Go.Proofs.YtfdmmgkhlgefbaaDoor
open Go.RowKit Go.Shelf

/-- The number that digits tell. -/
def valL (l : List UInt8) : Nat := l.foldl (fun a c => a * 10 + (c.toNat - 48)) 0
theorem valL_snoc (l : List UInt8) (c : UInt8) : valL (l ++ [c]) = valL l * 10 + (c.toNat - 48) := by simp [valL]
theorem dig_val {u : Nat} (h : u < 10) : (UInt8.ofNat (48 + u)).toNat = 48 + u := by
  rw [UInt8.toNat_ofNat']; omega
theorem val_dec : ∀ u : Nat, valL (Lib.decDigits u) = u := by
  intro u
  induction u using Nat.strongRecOn with
  | ind u ih =>
    rw [Lib.decDigits]
    split
    · rename_i h
      simp [valL]
      rw [Nat.mod_eq_of_lt (by omega)]; omega
    · rename_i h
      rw [valL_snoc, ih (u / 10) (by omega), dig_val (by omega)]
      omega
theorem dec_digit : ∀ (u : Nat) (c : UInt8), c ∈ Lib.decDigits u → 48 ≤ c.toNat ∧ c.toNat ≤ 57 := by
  intro u
  induction u using Nat.strongRecOn with
  | ind u ih =>
    intro c hc
    rw [Lib.decDigits] at hc
    split at hc
    · rename_i h
      simp at hc
      subst hc
      have := dig_val h
      rw [show (48 : UInt8) + UInt8.ofNat u = UInt8.ofNat (48 + u) by simp] at * 
      omega
    · rename_i h
      rcases List.mem_append.1 hc with hc | hc
      · exact ih (u / 10) (by omega) c hc
      · simp at hc
        subst hc
        have := dig_val (u := u % 10) (by omega)
        rw [show (48 : UInt8) + UInt8.ofNat (u % 10) = UInt8.ofNat (48 + u % 10) by simp] at *
        omega
theorem itoa_inj {m n : Int} (h : Lib.itoa m = Lib.itoa n) : m = n := by
  unfold Lib.itoa at h
  have hd : ∀ (u v : Nat), (45 : UInt8) :: Lib.decDigits u ≠ Lib.decDigits v := by
    intro u v e
    have := dec_digit v 45 (by rw [← e]; simp)
    revert this; decide
  split at h <;> split at h
  · have := congrArg valL (List.cons.inj h).2
    rw [val_dec, val_dec] at this
    omega
  · exact absurd h (hd _ _)
  · exact absurd h.symm (hd _ _)
  · have := congrArg valL h
    rw [val_dec, val_dec] at this
    omega
theorem itoa_mem {n : Int} {c : UInt8} (h : c ∈ Lib.itoa n) : c.toNat ≠ 32 ∧ c.toNat ≠ 44 := by
  unfold Lib.itoa at h
  split at h
  · rcases List.mem_cons.1 h with rfl | h
    · decide
    · have := dec_digit _ c h; omega
  · have := dec_digit _ c h; omega
/-- Two lists, parted at the same sign, which is in neither head. -/
theorem parted {c : UInt8} : ∀ {x x' y y' : List UInt8}, c ∉ x → c ∉ x' → x ++ c :: y = x' ++ c :: y' → x = x' ∧ y = y'
  | [], [], _, _, _, _, h => ⟨rfl, by simpa using h⟩
  | [], a :: x', _, _, _, h2, h => by
    simp at h
    exact absurd (by simp [h.1]) h2
  | a :: x, [], _, _, h1, _, h => by
    simp at h
    exact absurd (by simp [h.1]) h1
  | a :: x, b :: x', y, y', h1, h2, h => by
    simp only [List.cons_append, List.cons.injEq] at h
    obtain ⟨e1, e2⟩ := parted (c := c) (x := x) (x' := x') (y := y) (y' := y') (fun hc => h1 (List.mem_cons_of_mem _ hc)) (fun hc => h2 (List.mem_cons_of_mem _ hc)) h.2
    exact ⟨by rw [h.1, e1], e2⟩
/-- A text's signs. -/
def tailL (u a b n : Int) : List UInt8 :=
  if u = 0 then [] else 114 :: (Lib.itoa a ++ 44 :: 32 :: (if u = 3 then 114 :: Lib.itoa b else if u = 5 then Lib.itoa n else 114 :: (Lib.itoa b ++ 44 :: 32 :: Lib.itoa n)))
def textL (op a b n : Int) : List UInt8 := (nameL op).data.toList ++ if usesL op = 0 then [] else 32 :: tailL (usesL op) a b n
theorem text_list {op : Int} (h : 1 ≤ op ∧ op ≤ 28) (a b n : Int) : (textB op a b n).data.toList = textL op a b n := by
  unfold textL
  rcases uses4 h with hu | hu | hu | hu
  · rw [text_0 (by rw [hu]; decide +kernel) (by rw [hu]; decide +kernel) (by rw [hu]; decide +kernel), hu]; simp
  · rw [text_3 (by rw [hu]; decide +kernel) (by rw [hu]; decide +kernel) (by rw [hu]; decide +kernel), hu]; simp [tailL, itoaB]
  · rw [text_5 (by rw [hu]; decide +kernel) (by rw [hu]; decide +kernel) (by rw [hu]; decide +kernel), hu]; simp [tailL, itoaB]
  · rw [text_7 (by rw [hu]; decide +kernel) (by rw [hu]; decide +kernel) (by rw [hu]; decide +kernel), hu]; simp [tailL, itoaB]
theorem name_no32 {op : Int} (h : 1 ≤ op ∧ op ≤ 28) : (32 : UInt8) ∉ (nameL op).data.toList := by
  rcases cases28 h with rfl | rfl | rfl | rfl | rfl | rfl | rfl | rfl | rfl | rfl | rfl | rfl | rfl | rfl | rfl | rfl | rfl | rfl | rfl | rfl | rfl | rfl | rfl | rfl | rfl | rfl | rfl | rfl <;> decide +kernel
theorem name_inj {op op' : Int} (h : 1 ≤ op ∧ op ≤ 28) (h' : 1 ≤ op' ∧ op' ≤ 28) (e : (nameL op).data.toList = (nameL op').data.toList) : op = op' := by
  have key : ∀ i : Fin 28, ∀ j : Fin 28, (nameL ((i.val : Int) + 1)).data.toList = (nameL ((j.val : Int) + 1)).data.toList → i = j := by decide +kernel
  have := key ⟨(op - 1).toNat, by omega⟩ ⟨(op' - 1).toNat, by omega⟩ (by
    rw [show (((⟨(op - 1).toNat, by omega⟩ : Fin 28).val : Int) + 1) = op by simp; omega, show (((⟨(op' - 1).toNat, by omega⟩ : Fin 28).val : Int) + 1) = op' by simp; omega]; exact e)
  have := congrArg Fin.val this
  simp at this
  omega
theorem mem_ne {l : List UInt8} {k : Nat} (h : ∀ c ∈ l, c.toNat ≠ k) (hk : k < 256) : UInt8.ofNat k ∉ l := by
  intro hc
  have := h _ hc
  rw [UInt8.toNat_ofNat'] at this
  omega
theorem itoa_44 (n : Int) : (44 : UInt8) ∉ Lib.itoa n := mem_ne (k := 44) (fun c hc => (itoa_mem hc).2) (by decide)
theorem text_inj {op a b n op' a' b' n' : Int} (h : mayL op a b n = true) (h' : mayL op' a' b' n' = true) (e : textB op a b n = textB op' a' b' n') : op = op' ∧ a = a' ∧ b = b' ∧ n = n' := by
  obtain ⟨o, ⟨a1, a2⟩, ⟨b1, b2⟩, ⟨n1, n2⟩⟩ := may_bounds h
  obtain ⟨o', ⟨a1', a2'⟩, ⟨b1', b2'⟩, ⟨n1', n2'⟩⟩ := may_bounds h'
  have e1 : textL op a b n = textL op' a' b' n' := by rw [← text_list o, ← text_list o', e]
  unfold textL at e1
  have hn := name_no32 o
  have hn' := name_no32 o'
  have hop : op = op' ∧ (usesL op = 0 ∨ tailL (usesL op) a b n = tailL (usesL op') a' b' n') := by
    by_cases u0 : usesL op = 0 <;> by_cases u0' : usesL op' = 0
    · simp only [u0, u0', if_true, List.append_nil] at e1
      exact ⟨name_inj o o' e1, .inl u0⟩
    · simp only [u0, u0', if_true, if_false, List.append_nil] at e1
      exact absurd (by rw [e1]; simp) hn
    · simp only [u0, u0', if_true, if_false, List.append_nil] at e1
      exact absurd (by rw [← e1]; simp) hn'
    · simp only [u0, u0', if_false] at e1
      obtain ⟨q1, q2⟩ := parted hn hn' e1
      exact ⟨name_inj o o' q1, .inr q2⟩
  obtain ⟨rfl, ht⟩ := hop
  unfold mayL within at h h'
  simp only [Bool.and_eq_true, Bool.or_eq_true, decide_eq_true_eq] at h h'
  refine ⟨rfl, ?_⟩
  rcases uses4 o with hu | hu | hu | hu
  · rw [hu] at h h'
    have f1 : hasU 0 1 = false := by decide +kernel
    have f2 : hasU 0 2 = false := by decide +kernel
    have f4 : hasU 0 4 = false := by decide +kernel
    simp only [f1, f2, f4, Bool.false_eq_true, false_and, or_false] at h h'
    omega
  · rw [hu] at h h' ht
    have f4 : hasU 3 4 = false := by decide +kernel
    simp only [f4, Bool.false_eq_true, false_and, or_false] at h h'
    rcases ht with ht | ht
    · exact absurd ht (by decide)
    simp only [tailL, if_true, if_false, show ¬ ((3 : Int) = 0) by decide, List.cons.injEq, true_and] at ht
    obtain ⟨q1, q2⟩ := parted (itoa_44 a) (itoa_44 a') ht
    simp only [List.cons.injEq, true_and] at q2
    exact ⟨itoa_inj q1, itoa_inj q2, by omega⟩
  · rw [hu] at h h' ht
    have f2 : hasU 5 2 = false := by decide +kernel
    simp only [f2, Bool.false_eq_true, false_and, or_false] at h h'
    rcases ht with ht | ht
    · exact absurd ht (by decide)
    simp only [tailL, if_true, if_false, show ¬ ((5 : Int) = 0) by decide, show ¬ ((5 : Int) = 3) by decide, List.cons.injEq, true_and] at ht
    obtain ⟨q1, q2⟩ := parted (itoa_44 a) (itoa_44 a') ht
    simp only [List.cons.injEq, true_and] at q2
    exact ⟨itoa_inj q1, by omega, itoa_inj q2⟩
  · rw [hu] at ht
    rcases ht with ht | ht
    · exact absurd ht (by decide)
    simp only [tailL, if_true, if_false, show ¬ ((7 : Int) = 0) by decide, show ¬ ((7 : Int) = 3) by decide, show ¬ ((7 : Int) = 5) by decide, List.cons.injEq, true_and] at ht
    obtain ⟨q1, q2⟩ := parted (itoa_44 a) (itoa_44 a') ht
    simp only [List.cons.injEq, true_and] at q2
    obtain ⟨q3, q4⟩ := parted (itoa_44 b) (itoa_44 b') q2
    simp only [List.cons.injEq, true_and] at q4
    exact ⟨itoa_inj q1, itoa_inj q3, itoa_inj q4⟩
end Go.Proofs.YtfdmmgkhlgefbaaDoor
