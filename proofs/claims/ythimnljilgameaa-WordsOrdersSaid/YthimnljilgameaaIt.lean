/- A range over a function whose iterator is known: the statement's law and a round's law, stated on the world itself, under the wide fence. -/
import Derived.RangeFuncNested
import Derived.RangeFuncBound
import Derived.RangeFuncCalls
import Derived.RangeFuncLeaves
import Derived.Shelf.Abstract
import Derived.WalkKit
import Derived.OwnWalkIn
import Derived.TacticsInMore
import Derived.LoopNIn
import Derived.LoopIn
import Derived.RangeFuncBox
namespace Go.Proofs.Ythimnljilgameaa
open Go.RowKit

/-- What must hold when the iterator has returned: the loop's record is not busy, and what comes next is walked. -/
def itPost (P : Program) (n : Nat) (l : Nat) (Q : Exit → Act → World → Prop) (a' : Act) (e : Ending) (W : World) : Prop :=
  ∃ v r, e = .returned v ∧ W.heap[l]? = some (.loop r) ∧ r.state ≠ .busy ∧
    (match r.pending with
     | none => Q .normal a' (W.putObj l (.loop { r with state := .exhausted }))
     | some c => c.wpIn Fence.wide n P Q a' (W.putObj l (.loop { r with state := .exhausted })))

/-- THE STATEMENT: two new blocks (the deferred calls', the record), then the iterator's call. -/
theorem it_range {P : Program} {n : Nat} {g : Operand} {ps : Array Tmp} {assign body : Code} {Q : Exit → Act → World → Prop} {a : Act} {w : World} {gf : Nat} {lb : Array Value}
    (hg : a.eval g = .func (.func gf) #[] lb) (eg : ∀ args w, (callFunc gf args).run P w = .ok (.enter gf args) w)
    (h : ∀ (fn : FuncId) (r : Loop), r = { state := .ready, pending := none, fn, tmps := a.tmps, params := ps, assign, body, defers := w.heap.size } →
      Calls P gf (#[.func (.yield (w.heap.size + 1)) #[] #[]] ++ lb) ((w.alloc (.deferred (some []))).alloc (.loop r))
      (itPost P n (w.heap.size + 1) Q { a with defers := { target := .collected w.heap.size, args := #[] } :: a.defers })) :
    (Code.rangeFunc g ps assign body).wpIn Fence.wide n P Q a w := by
  refine wpIn_rangeFunc ?_
  intro fn _
  obtain ⟨W1, hW1⟩ : ∃ W1, (w.alloc (.deferred (some []))).alloc (.loop { state := .ready, pending := none, fn, tmps := a.tmps, params := ps, assign, body, defers := w.heap.size }) = W1 := ⟨_, rfl⟩
  have h' := h fn _ rfl
  rw [hW1] at h'
  refine ⟨w.heap.size + 1, [{ target := .collected w.heap.size, args := #[] }], W1, { target := .fn (.func gf) lb, args := #[.func (.yield (w.heap.size + 1)) #[] #[]] }, W1, gf,
    #[.func (.yield (w.heap.size + 1)) #[] #[]] ++ lb, W1, ?_, ?_, ?_, ?_, ?_, ?_⟩
  · rw [← hW1]; exact run_enterLoop_outer _ _ _ _ _
  · simp only [resolve, hg]
    simp [go_sem]
  · intro f' hf'; simp [Target.leads] at hf'; subst hf'; trivial
  · simp [invoke, go_sem, eg]
  · intro x; simp [Fence.wide] at x
  · refine (callsIn_wide.2 h').mono ?_
    rintro e W ⟨v, r, rfl, hl, hb, hj⟩
    refine ⟨_, _, run_endLoop hl hb, ?_⟩
    exact hj

/-- How a round's body may be left, told on the world that the record is then put into (rb: the record while the round runs). -/
def rdPost (rb : Loop) (l : Nat) (R : Ending → World → Prop) : Exit → Act → World → Prop
  | .normal, _, W => W.heap[l]? = some (.loop rb) ∧ R (.returned (.bool true)) (W.putObj l (.loop { rb with state := .ready, pending := none }))
  | .ret, _, W => W.heap[l]? = some (.loop rb) ∧ R (.returned (.bool false)) (W.putObj l (.loop { rb with state := .done, pending := some .ret }))
  | .exit id, _, W => W.heap[l]? = some (.loop rb) ∧ R (.returned (.bool false)) (W.putObj l (.loop { rb with state := .done, pending := some (.exit id) }))
  | .goto t, _, W => W.heap[l]? = some (.loop rb) ∧ R (.returned (.bool false)) (W.putObj l (.loop { rb with state := .done, pending := some (.goto t) }))
  | .panic _, _, _ => False
  | .outgrown, _, _ => False

/-- ONE ROUND. -/
theorem it_round {P : Program} {m : Nat} {l : Nat} {r : Loop} {args : Array Value} {W : World} {R : Ending → World → Prop}
    (hl : W.heap[l]? = some (.loop r)) (hr : r.state = .ready) (hs : args.size = r.params.size)
    (h : ∀ rb : Loop, rb = { r with state := .busy } → r.assign.wpIn (Fence.wide.inRound l) m P (Exit.then (fun a₁ W₁ => ∃ W₀, W₁ = W₀ ∧ W₀.heap[l]? = some (.loop r) ∧ r.body.wpIn (Fence.wide.inRound l) m P (rdPost rb l R) a₁ (W₀.putObj l (.loop rb))) (fun _ _ _ => False))
      { tmps := (r.params.zip args).foldl (fun tmps (t, a) => tmps.setIfInBounds t a) r.tmps, defers := [] } W) :
    YieldAt Fence.wide m P l args W R := by
  refine ⟨r.fn, _, r.assign, r.body, run_yield hl hs, roundIn_of_wpIn trivial ?_⟩
  refine wpIn_mono (h _ rfl) ?_
  rintro e a₁ W₁ hp
  cases e with
  | normal =>
    obtain ⟨W₀, rfl, hl1, hb⟩ := hp
    refine ⟨_, run_beginRound hl1 hr, wpIn_mono hb ?_⟩
    rintro e a₂ W₂ hq
    cases e with
    | normal => exact ⟨_, _, run_endRound none hq.1, hq.2⟩
    | ret => exact ⟨_, _, run_endRound (some .ret) hq.1, hq.2⟩
    | exit id => exact ⟨_, _, run_endRound (some (.exit id)) hq.1, hq.2⟩
    | goto t => exact ⟨_, _, run_endRound (some (.goto t)) hq.1, hq.2⟩
    | panic ch => exact hq.elim
    | outgrown => exact hq.elim
  | ret => exact hp.elim
  | exit id => exact hp.elim
  | goto t => exact hp.elim
  | panic ch => exact hp.elim
  | outgrown => exact hp.elim
/-- The record of a round that is over, none pending, is the record ahead of it. -/
theorem it_back {r rb : Loop} (hb : rb = { r with state := .busy }) (h1 : r.state = .ready) (h2 : r.pending = none) : ({ rb with state := .ready, pending := none } : Loop) = r := by
  subst hb; rw [← h1, ← h2]
end Go.Proofs.Ythimnljilgameaa
