/- Two arrays of whole numbers held against each other by == and !=: as their lists are, over any program. -/
import Derived.ChangeKeysEq
import Derived.WalkKit
namespace Go.Proofs.Ythimnljilgameaa
open Go.RowKit
section
variable {P : Program} (w : World)

/-- An array's cells. -/
def intsA (k : IntKind) (l : List Int) : Array Value := (l.map (Value.int k)).toArray
theorem intsA_get {k : IntKind} {l : List Int} {i : Nat} {x : Int} (h : l[i]? = some x) : (intsA k l)[i]? = some (.int k x) := by
  simp [intsA, h]
theorem eqItems_ints (d : Nat) {e : TypeId} {k : IntKind} (hu : P.underlying e = some (.int k)) (he : P.plainKey e = true) (l l' : List Int) : ∀ (m s : Nat), s + m ≤ l.length → s + m ≤ l'.length →
    (Op.eqItems (d + 1) e 1 (intsA k l) (intsA k l') (List.range' s m)).run P w = .ok (decide ((l.drop s).take m = (l'.drop s).take m)) w := by
  intro m
  induction m with
  | zero => intro s _ _; simp [Op.eqItems]
  | succ m ih =>
    intro s h h'
    have ha : l[s]? = some l[s] := List.getElem?_eq_getElem (by omega)
    have hb : l'[s]? = some l'[s] := List.getElem?_eq_getElem (by omega)
    rw [List.range'_succ]
    simp only [Op.eqItems, Sem.run_bind, Nat.mul_one, run_part_plain w he (intsA_get ha), run_part_plain w he (intsA_get hb), Result.andThen_ok, run_equalIn_int w d e k k l[s] l'[s] hu]
    have h2 := ih (s + 1) (by omega) (by omega)
    have da : (l.drop s).take (m + 1) = l[s] :: (l.drop (s + 1)).take m := by rw [List.drop_eq_getElem_cons (by omega), List.take_succ_cons]
    have db : (l'.drop s).take (m + 1) = l'[s] :: (l'.drop (s + 1)).take m := by rw [List.drop_eq_getElem_cons (by omega), List.take_succ_cons]
    rw [da, db]
    by_cases e1 : l[s] = l'[s]
    · rw [show (l[s] == l'[s]) = true from by simp [e1]]
      simp only [Bool.not_true, Bool.false_eq_true, if_false]
      rw [h2]
      simp [e1]
    · rw [show (l[s] == l'[s]) = false from by simp [e1]]
      simp [e1]
theorem run_equalIn_ints (d : Nat) {t e : TypeId} {n : Nat} {k : IntKind} {i : TypeInfo} (ht : P.underlying t = some (.array n e)) (hi : P.info? e = some i) (hc : P.cellsOf e = 1) (hu : P.underlying e = some (.int k)) (he : P.plainKey e = true)
    (l l' : List Int) (hl : l.length = n) (hl' : l'.length = n) : (Op.equalIn (d + 2) t (.agg (intsA k l)) (.agg (intsA k l'))).run P w = .ok (decide (l = l')) w := by
  rw [run_equalIn_array w (d + 1) _ _ ht hi, hc, List.range_eq_range', eqItems_ints w d hu he l l' n 0 (by omega) (by omega)]
  subst hl
  rw [List.drop_zero, List.drop_zero, List.take_of_length_le (Nat.le_refl _), List.take_of_length_le (by omega)]
theorem run_eql_ints {t e : TypeId} {n : Nat} {k : IntKind} {i : TypeInfo} (ht : P.underlying t = some (.array n e)) (hi : P.info? e = some i) (hc : P.cellsOf e = 1) (hu : P.underlying e = some (.int k)) (he : P.plainKey e = true)
    (l l' : List Int) (hl : l.length = n) (hl' : l'.length = n) : (binOp .eql t (.agg (intsA k l)) (.agg (intsA k l'))).run P w = .ok (.bool (decide (l = l'))) w := by
  rw [run_eql_struct, run_equalIn_ints w 9998 ht hi hc hu he l l' hl hl']; rfl
theorem run_neq_ints {t e : TypeId} {n : Nat} {k : IntKind} {i : TypeInfo} (ht : P.underlying t = some (.array n e)) (hi : P.info? e = some i) (hc : P.cellsOf e = 1) (hu : P.underlying e = some (.int k)) (he : P.plainKey e = true)
    (l l' : List Int) (hl : l.length = n) (hl' : l'.length = n) : (binOp .neq t (.agg (intsA k l)) (.agg (intsA k l'))).run P w = .ok (.bool (!decide (l = l'))) w := by
  rw [run_neq_struct, run_equalIn_ints w 9998 ht hi hc hu he l l' hl hl']; rfl
end
end Go.Proofs.Ythimnljilgameaa
