/- A region that draws its order, whose operations only read what lay when it began and whose calls turn nothing of that: one walk of the text's order serves every order. -/
import Derived.WalkKit
import Derived.Deep.QuietTactic
import Derived.BigQuiet
import Derived.KernelRfl
namespace Go.Proofs.Ythimnljilgameaa
open Go.RowKit

/-- The worlds in which all that lay in W lies as it lay. -/
def Since (W : World) : Type := { W' : World // Below W.heap.size W W' }
def Since.val {W : World} (x : Since W) : World := x.1
theorem Since.low {W : World} (x : Since W) : Below W.heap.size W x.val := x.2
instance Since.some (W : World) : Nonempty (Since W) := ⟨⟨W, Below.refl _ _⟩⟩
theorem Since.cell {W : World} {a : Addr} {v : Value} (h : W.cell? a = .some v) (x : Since W) : x.val.cell? a = .some v := by
  refine (x.low.cell ?_).trans h
  unfold World.cell? at h
  cases ho : W.heap[a.block]? with
  | none => simp [ho] at h
  | some o => exact (Array.getElem?_eq_some_iff.1 ho).1
/-- A call in such a world, by its contract. -/
theorem Since.of {P : Program} {f : FuncId} {args : Array Value} {W : World} {x : Since W} {v : Value} (h : Calls P f args x.val fun e w' => e = .returned v ∧ Below x.val.heap.size x.val w') :
    Calls P f args x.val fun e w' => e = .returned v ∧ ∃ y : Since W, w' = y.val :=
  h.mono fun _ w' ⟨he, hb⟩ => ⟨he, ⟨w', x.low.trans (hb.mono x.low.size)⟩, rfl⟩
theorem Since.same {P : Program} {f : FuncId} {args : Array Value} {W : World} {x : Since W} {v : Value} (h : Calls P f args x.val fun e w' => e = .returned v ∧ x.val = w') :
    Calls P f args x.val fun e w' => e = .returned v ∧ ∃ y : Since W, w' = y.val :=
  h.mono fun _ _ ⟨he, hw⟩ => ⟨he, x, hw.symm⟩
theorem wp_region_since {P : Program} {id : Nat} {Q : Exit → Act → World → Prop} {a : Act} {W : World} {l : List Oper} (hm : P.follows .mixedOrders = true) (hB : Region.lexB .any l.toArray = true)
    (h : wpQuiet P l.toArray (fun w' => ∃ x : Since W, w' = x.val) (fun a' => ∀ w', (∃ x : Since W, w' = x.val) → Q .normal a' w') l a) : (Code.region id l.toArray true).wp P Q a W :=
  wp_region_quiet (C := fun w' => ∃ x : Since W, w' = x.val) hm hB ⟨⟨_, (Below.refl _ W).drew⟩, rfl⟩ (by simpa using h)
end Go.Proofs.Ythimnljilgameaa
