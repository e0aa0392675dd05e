/- General lemmas of mine, over any program: arrays of whole numbers, blocks of cells, a range over a known iterator, a region whose calls turn nothing old, and a law's row. -/
import Derived.Test.YtbfmlmnhdogojaaGreatDoorRows
import Derived.ChangeKeysEq
import Derived.RangeFuncNested
import Derived.RangeFuncBound
import Derived.RangeFuncCalls
import Derived.RangeFuncLeaves
import Derived.Shelf.Abstract
import Derived.WalkKit
import Derived.OwnWalkIn
import Derived.TacticsInMore
import Derived.LoopNIn
import Derived.LoopIn
import Derived.RangeFuncBox
import Derived.Deep.QuietTactic
import Derived.Deep.MidRow
import Derived.BigQuiet
import Derived.KernelRfl
import Derived.ProofKit
import Derived.SizedLaws
import Derived.OpenShut
import Derived.Lib.Hide
import Derived.MapKept
import Derived.StillTailTactics
import Derived.Handy
import Derived.WalkLawsBesides
import Derived.Deep.Cut
namespace Go.Proofs.YtbfmlmnhdogojaaGreatDoor
open Go.ChangeShapes Go.WideShapes Go.ChangeAt Go.RowKit Go.Shelf
section
variable {P : Program} (w : World)

/-- An array's cells. -/
def intsA (k : IntKind) (l : List Int) : Array Value := (l.map (Value.int k)).toArray
theorem intsA_get {k : IntKind} {l : List Int} {i : Nat} {x : Int} (h : l[i]? = some x) : (intsA k l)[i]? = some (.int k x) := by
  simp [intsA, h]
theorem eqItems_ints (d : Nat) {e : TypeId} {k : IntKind} (hu : P.underlying e = some (.int k)) (he : P.plainKey e = true) (l l' : List Int) : ∀ (m s : Nat), s + m ≤ l.length → s + m ≤ l'.length →
    (Op.eqItems (d + 1) e 1 (intsA k l) (intsA k l') (List.range' s m)).run P w = .ok (decide ((l.drop s).take m = (l'.drop s).take m)) w := by
  intro m
  induction m with
  | zero => intro s _ _; simp [Op.eqItems]
  | succ m ih =>
    intro s h h'
    have ha : l[s]? = some l[s] := List.getElem?_eq_getElem (by omega)
    have hb : l'[s]? = some l'[s] := List.getElem?_eq_getElem (by omega)
    rw [List.range'_succ]
    simp only [Op.eqItems, Sem.run_bind, Nat.mul_one, run_part_plain w he (intsA_get ha), run_part_plain w he (intsA_get hb), Result.andThen_ok, run_equalIn_int w d e k k l[s] l'[s] hu]
    have h2 := ih (s + 1) (by omega) (by omega)
    have da : (l.drop s).take (m + 1) = l[s] :: (l.drop (s + 1)).take m := by rw [List.drop_eq_getElem_cons (by omega), List.take_succ_cons]
    have db : (l'.drop s).take (m + 1) = l'[s] :: (l'.drop (s + 1)).take m := by rw [List.drop_eq_getElem_cons (by omega), List.take_succ_cons]
    rw [da, db]
    by_cases e1 : l[s] = l'[s]
    · rw [show (l[s] == l'[s]) = true from by simp [e1]]
      simp only [Bool.not_true, Bool.false_eq_true, if_false]
      rw [h2]
      simp [e1]
    · rw [show (l[s] == l'[s]) = false from by simp [e1]]
      simp [e1]
theorem run_equalIn_ints (d : Nat) {t e : TypeId} {n : Nat} {k : IntKind} {i : TypeInfo} (ht : P.underlying t = some (.array n e)) (hi : P.info? e = some i) (hc : P.cellsOf e = 1) (hu : P.underlying e = some (.int k)) (he : P.plainKey e = true)
    (l l' : List Int) (hl : l.length = n) (hl' : l'.length = n) : (Op.equalIn (d + 2) t (.agg (intsA k l)) (.agg (intsA k l'))).run P w = .ok (decide (l = l')) w := by
  rw [run_equalIn_array w (d + 1) _ _ ht hi, hc, List.range_eq_range', eqItems_ints w d hu he l l' n 0 (by omega) (by omega)]
  subst hl
  rw [List.drop_zero, List.drop_zero, List.take_of_length_le (Nat.le_refl _), List.take_of_length_le (by omega)]
theorem run_eql_ints {t e : TypeId} {n : Nat} {k : IntKind} {i : TypeInfo} (ht : P.underlying t = some (.array n e)) (hi : P.info? e = some i) (hc : P.cellsOf e = 1) (hu : P.underlying e = some (.int k)) (he : P.plainKey e = true)
    (l l' : List Int) (hl : l.length = n) (hl' : l'.length = n) : (binOp .eql t (.agg (intsA k l)) (.agg (intsA k l'))).run P w = .ok (.bool (decide (l = l'))) w := by
  rw [run_eql_struct, run_equalIn_ints w 9998 ht hi hc hu he l l' hl hl']; rfl
theorem run_neq_ints {t e : TypeId} {n : Nat} {k : IntKind} {i : TypeInfo} (ht : P.underlying t = some (.array n e)) (hi : P.info? e = some i) (hc : P.cellsOf e = 1) (hu : P.underlying e = some (.int k)) (he : P.plainKey e = true)
    (l l' : List Int) (hl : l.length = n) (hl' : l'.length = n) : (binOp .neq t (.agg (intsA k l)) (.agg (intsA k l'))).run P w = .ok (.bool (!decide (l = l'))) w := by
  rw [run_neq_struct, run_equalIn_ints w 9998 ht hi hc hu he l l' hl hl']; rfl
end
/-- A block of cells of which none is frozen. -/
def Cells (W : World) (B : Nat) (t : TypeId) (c : Array Value) : Prop := W.heap[B]? = some (.cells c t (0, 0))
theorem Cells.lt {W : World} {B : Nat} {t : TypeId} {c : Array Value} (h : Cells W B t c) : B < W.heap.size := (Array.getElem?_eq_some_iff.1 h).1
theorem Cells.cell {W : World} {B : Nat} {t : TypeId} {c : Array Value} (h : Cells W B t c) (j : Nat) : W.cell? ⟨B, j, none⟩ = c[j]? := by
  simp [World.cell?, show W.heap[B]? = _ from h]
theorem Cells.frozen {W : World} {B : Nat} {t : TypeId} {c : Array Value} (h : Cells W B t c) (j : Nat) : W.frozen? ⟨B, j, none⟩ = false := by
  simp [World.frozen?, show W.heap[B]? = _ from h]
theorem Cells.new (W : World) (t : TypeId) (c : Array Value) : Cells (W.alloc (.cells c t)) W.heap.size t c := World.alloc_heap_new W _
theorem Cells.alloc {W : World} {B : Nat} {t : TypeId} {c : Array Value} (h : Cells W B t c) (o : Obj) : Cells (W.alloc o) B t c := (Below.heap_alloc W o B h.lt).trans h
theorem Cells.put {W : World} {B : Nat} {t : TypeId} {c : Array Value} (h : Cells W B t c) {l : Nat} (o : Obj) (hne : B ≠ l) : Cells (W.putObj l o) B t c := (World.putObj_heap_other hne).trans h
theorem Cells.other {W : World} {B : Nat} {t : TypeId} {c : Array Value} (h : Cells W B t c) {a : Addr} (v : Value) (hne : B ≠ a.block) : Cells (W.setCell a v) B t c := (Below.heap_setCell W a v B hne).trans h
theorem Cells.set {W : World} {B : Nat} {t : TypeId} {c : Array Value} (h : Cells W B t c) (j : Nat) (v : Value) : Cells (W.setCell ⟨B, j, none⟩ v) B t (c.setIfInBounds j v) := by
  obtain ⟨hlt, hk⟩ := Array.getElem?_eq_some_iff.1 h
  show (W.heap.modify B _)[B]? = _
  rw [Array.getElem?_eq_getElem (by rw [Array.size_modify]; exact hlt), Array.getElem_modify_self, hk]
  rfl


/-- What must hold when the iterator has returned: the loop's record is not busy, and what comes next is walked. -/
def itPost (P : Program) (n : Nat) (l : Nat) (Q : Exit → Act → World → Prop) (a' : Act) (e : Ending) (W : World) : Prop :=
  ∃ v r, e = .returned v ∧ W.heap[l]? = some (.loop r) ∧ r.state ≠ .busy ∧
    (match r.pending with
     | none => Q .normal a' (W.putObj l (.loop { r with state := .exhausted }))
     | some c => c.wpIn Fence.wide n P Q a' (W.putObj l (.loop { r with state := .exhausted })))

/-- THE STATEMENT: two new blocks (the deferred calls', the record), then the iterator's call. -/
theorem it_range {P : Program} {n : Nat} {g : Operand} {ps : Array Tmp} {assign body : Code} {Q : Exit → Act → World → Prop} {a : Act} {w : World} {gf : Nat} {lb : Array Value}
    (hg : a.eval g = .func (.func gf) #[] lb) (eg : ∀ args w, (callFunc gf args).run P w = .ok (.enter gf args) w)
    (h : ∀ (fn : FuncId) (r : Loop), r = { state := .ready, pending := none, fn, tmps := a.tmps, params := ps, assign, body, defers := w.heap.size } →
      Calls P gf (#[.func (.yield (w.heap.size + 1)) #[] #[]] ++ lb) ((w.alloc (.deferred (some []))).alloc (.loop r))
      (itPost P n (w.heap.size + 1) Q { a with defers := { target := .collected w.heap.size, args := #[] } :: a.defers })) :
    (Code.rangeFunc g ps assign body).wpIn Fence.wide n P Q a w := by
  refine wpIn_rangeFunc ?_
  intro fn _
  obtain ⟨W1, hW1⟩ : ∃ W1, (w.alloc (.deferred (some []))).alloc (.loop { state := .ready, pending := none, fn, tmps := a.tmps, params := ps, assign, body, defers := w.heap.size }) = W1 := ⟨_, rfl⟩
  have h' := h fn _ rfl
  rw [hW1] at h'
  refine ⟨w.heap.size + 1, [{ target := .collected w.heap.size, args := #[] }], W1, { target := .fn (.func gf) lb, args := #[.func (.yield (w.heap.size + 1)) #[] #[]] }, W1, gf,
    #[.func (.yield (w.heap.size + 1)) #[] #[]] ++ lb, W1, ?_, ?_, ?_, ?_, ?_, ?_⟩
  · rw [← hW1]; exact run_enterLoop_outer _ _ _ _ _
  · simp only [resolve, hg]
    simp [go_sem]
  · intro f' hf'; simp [Target.leads] at hf'; subst hf'; trivial
  · simp [invoke, go_sem, eg]
  · intro x; simp [Fence.wide] at x
  · refine (callsIn_wide.2 h').mono ?_
    rintro e W ⟨v, r, rfl, hl, hb, hj⟩
    refine ⟨_, _, run_endLoop hl hb, ?_⟩
    exact hj

/-- How a round's body may be left, told on the world that the record is then put into (rb: the record while the round runs). -/
def rdPost (rb : Loop) (l : Nat) (R : Ending → World → Prop) : Exit → Act → World → Prop
  | .normal, _, W => W.heap[l]? = some (.loop rb) ∧ R (.returned (.bool true)) (W.putObj l (.loop { rb with state := .ready, pending := none }))
  | .ret, _, W => W.heap[l]? = some (.loop rb) ∧ R (.returned (.bool false)) (W.putObj l (.loop { rb with state := .done, pending := some .ret }))
  | .exit id, _, W => W.heap[l]? = some (.loop rb) ∧ R (.returned (.bool false)) (W.putObj l (.loop { rb with state := .done, pending := some (.exit id) }))
  | .goto t, _, W => W.heap[l]? = some (.loop rb) ∧ R (.returned (.bool false)) (W.putObj l (.loop { rb with state := .done, pending := some (.goto t) }))
  | .panic _, _, _ => False
  | .outgrown, _, _ => False

/-- ONE ROUND. -/
theorem it_round {P : Program} {m : Nat} {l : Nat} {r : Loop} {args : Array Value} {W : World} {R : Ending → World → Prop}
    (hl : W.heap[l]? = some (.loop r)) (hr : r.state = .ready) (hs : args.size = r.params.size)
    (h : ∀ rb : Loop, rb = { r with state := .busy } → r.assign.wpIn (Fence.wide.inRound l) m P (Exit.then (fun a₁ W₁ => ∃ W₀, W₁ = W₀ ∧ W₀.heap[l]? = some (.loop r) ∧ r.body.wpIn (Fence.wide.inRound l) m P (rdPost rb l R) a₁ (W₀.putObj l (.loop rb))) (fun _ _ _ => False))
      { tmps := (r.params.zip args).foldl (fun tmps (t, a) => tmps.setIfInBounds t a) r.tmps, defers := [] } W) :
    YieldAt Fence.wide m P l args W R := by
  refine ⟨r.fn, _, r.assign, r.body, run_yield hl hs, roundIn_of_wpIn trivial ?_⟩
  refine wpIn_mono (h _ rfl) ?_
  rintro e a₁ W₁ hp
  cases e with
  | normal =>
    obtain ⟨W₀, rfl, hl1, hb⟩ := hp
    refine ⟨_, run_beginRound hl1 hr, wpIn_mono hb ?_⟩
    rintro e a₂ W₂ hq
    cases e with
    | normal => exact ⟨_, _, run_endRound none hq.1, hq.2⟩
    | ret => exact ⟨_, _, run_endRound (some .ret) hq.1, hq.2⟩
    | exit id => exact ⟨_, _, run_endRound (some (.exit id)) hq.1, hq.2⟩
    | goto t => exact ⟨_, _, run_endRound (some (.goto t)) hq.1, hq.2⟩
    | panic ch => exact hq.elim
    | outgrown => exact hq.elim
  | ret => exact hp.elim
  | exit id => exact hp.elim
  | goto t => exact hp.elim
  | panic ch => exact hp.elim
  | outgrown => exact hp.elim
/-- The record of a round that is over, none pending, is the record ahead of it. -/
theorem it_back {r rb : Loop} (hb : rb = { r with state := .busy }) (h1 : r.state = .ready) (h2 : r.pending = none) : ({ rb with state := .ready, pending := none } : Loop) = r := by
  subst hb; rw [← h1, ← h2]

/-- The worlds in which all that lay in W lies as it lay. -/
def Since (W : World) : Type := { W' : World // Below W.heap.size W W' }
def Since.val {W : World} (x : Since W) : World := x.1
theorem Since.low {W : World} (x : Since W) : Below W.heap.size W x.val := x.2
instance Since.some (W : World) : Nonempty (Since W) := ⟨⟨W, Below.refl _ _⟩⟩
theorem Since.cell {W : World} {a : Addr} {v : Value} (h : W.cell? a = .some v) (x : Since W) : x.val.cell? a = .some v := by
  refine (x.low.cell ?_).trans h
  unfold World.cell? at h
  cases ho : W.heap[a.block]? with
  | none => simp [ho] at h
  | some o => exact (Array.getElem?_eq_some_iff.1 ho).1
/-- A call in such a world, by its contract. -/
theorem Since.of {P : Program} {f : FuncId} {args : Array Value} {W : World} {x : Since W} {v : Value} (h : Calls P f args x.val fun e w' => e = .returned v ∧ Below x.val.heap.size x.val w') :
    Calls P f args x.val fun e w' => e = .returned v ∧ ∃ y : Since W, w' = y.val :=
  h.mono fun _ w' ⟨he, hb⟩ => ⟨he, ⟨w', x.low.trans (hb.mono x.low.size)⟩, rfl⟩
theorem Since.same {P : Program} {f : FuncId} {args : Array Value} {W : World} {x : Since W} {v : Value} (h : Calls P f args x.val fun e w' => e = .returned v ∧ x.val = w') :
    Calls P f args x.val fun e w' => e = .returned v ∧ ∃ y : Since W, w' = y.val :=
  h.mono fun _ _ ⟨he, hw⟩ => ⟨he, x, hw.symm⟩
theorem wp_region_since {P : Program} {id : Nat} {Q : Exit → Act → World → Prop} {a : Act} {W : World} {l : List Oper} (hm : P.follows .mixedOrders = true) (hB : Region.lexB .any l.toArray = true)
    (h : wpQuiet P l.toArray (fun w' => ∃ x : Since W, w' = x.val) (fun a' => ∀ w', (∃ x : Since W, w' = x.val) → Q .normal a' w') l a) : (Code.region id l.toArray true).wp P Q a W :=
  wp_region_quiet (C := fun w' => ∃ x : Since W, w' = x.val) hm hB ⟨⟨_, (Below.refl _ W).drew⟩, rfl⟩ (by simpa using h)

/-- The arguments read behind the call as they did. -/
theorem trodAll_below {H : Type} {enc : TypeId × Value → H} {P : Program} (hl : laidOutB P = true) {W W' : World} (hb : Below W.heap.size W W') :
    ∀ (ts : List TypeId) (vs : List Value) (ds : List (DataW H)) (ps : List MemPlace), (∀ t ∈ ts, P.readableRec t = true ∧ t < P.types.size) → (∀ x ∈ ps, x.block < W.heap.size) →
      DataW.TrodAll enc P W 0 (fun _ => true) true ts vs ds ps → DataW.TrodAll enc P W' 0 (fun b => decide (b < W.heap.size)) true ts vs ds ps
  | [], [], [], _, _, _, h => h
  | t :: ts, v :: vs, d :: ds, ps, ht, hlt, h => by
    obtain ⟨p, q, h1, h2, rfl⟩ := h
    have hh := ht t (by simp)
    exact ⟨p, q, Below.trod hl hh.1 hh.2 h1 hb (fun x hx => hlt x (by simp [hx])), trodAll_below hl hb ts vs ds q (fun t ht' => ht t (by simp [ht'])) (fun x hx => hlt x (by simp [hx])) h2, rfl⟩
  | [], _ :: _, _, _, _, _, h => h.elim
  | [], [], _ :: _, _, _, _, h => h.elim
  | _ :: _, [], _, _, _, _, h => h.elim
  | _ :: _, _ :: _, [], _, _, _, h => h.elim

/-- The row's end. -/
theorem law_post {H : Type} {enc : TypeId × Value → H} {P : Program} {fn : Func} {s : ChangeSpec} {tb : TypeId} {W W' : World} {args : Array Value} {ds : List (DataW H)} {before : List MemPlace}
    (hl : laidOutB P = true) (hvars : s.vars = []) (hres : fn.resultTypes = #[tb]) (htb : P.underlying tb = some .bool) (hts : (fn.params.toList.all fun t => P.readableRec t && decide (t < P.types.size)) = true)
    (hs : s.fn H (ds ++ []) = { results := [.lit (.bool true)], args := ds }) (hW : DataW.Whole enc P fn.params.toList s.vars false W args.toList ds [] before) (hb : Below W.heap.size W W') :
    s.post enc P fn false true false false W args (.bool true) W' := by
  have hW' := hW
  obtain ⟨p, q, hA, hV, rfl, hfz, hnd⟩ := hW
  rw [hvars] at hV
  obtain rfl : q = [] := hV
  refine ⟨ds, [], _, [], p, [], hW', ?_, ?_, ?_, hb.frame _, fun h => by cases h⟩
  · rw [hs, hres]
    exact ⟨[], [], shut_bool htb true, rfl, rfl⟩
  · rw [hs]
    refine trodAll_below hl hb _ _ _ _ (fun t ht => ?_) (fun x hx => hW'.lt x (by simp [hx])) hA
    have := List.all_eq_true.1 hts t ht
    simpa using this
  · rw [hs, hvars]; rfl
/-- An array of whole numbers by value: its numbers, each of its kind. -/
theorem open_intsA {H : Type} {enc : TypeId × Value → H} {P : Program} {W : World} {r : Reach} {b0 base : Nat} {spare : Nat → Bool} {held : Bool} {t e : TypeId} {n : Nat} {k : IntKind} {v : Value} {d : DataW H} {p : List MemPlace}
    (ht : P.underlying t = some (.array n e)) (hc : P.cellsOf e = 1) (hct : P.cellsOf t = n) (he : P.underlying e = some (.int k)) (hv : Value.okWide P W r b0 t v) (h : DataW.Trod enc P W base spare held t v d p) :
    ∃ l : List Int, v = .agg (intsA k l) ∧ l.length = n ∧ ∀ x ∈ l, (Lit.int k x).wf = true := by
  simp only [Value.okWide, ht] at hv
  obtain ⟨cs, rfl, hsz, _⟩ := hv
  obtain ⟨fuel, hf⟩ := h
  obtain ⟨xs, m, _, _, hlen, hxs, hel⟩ := DataW.trod_array ht hf
  simp only [Value.cells] at hlen hel
  have hall : ∀ v ∈ cs.toList, ∃ a : Int, v = .int k a ∧ (Lit.int k a).wf = true := by
    intro v hv
    obtain ⟨i, hi, rfl⟩ := List.getElem_of_mem hv
    have hin : i < n := by rw [← hct, ← hlen]; exact hi
    have h1 := hel i hin
    rw [hc, Nat.mul_one, List.drop_eq_getElem_cons hi, List.take_succ_cons, List.take_zero, List.getElem?_eq_getElem (by omega)] at h1
    obtain ⟨a, e1, _, w1⟩ := DataW.trod_int he h1
    simp at e1
    exact ⟨a, e1, w1⟩
  have : ∀ L : List Value, (∀ v ∈ L, ∃ a : Int, v = .int k a ∧ (Lit.int k a).wf = true) → ∃ l : List Int, L = l.map (Value.int k) ∧ ∀ x ∈ l, (Lit.int k x).wf = true := by
    intro L
    induction L with
    | nil => exact fun _ => ⟨[], rfl, by simp⟩
    | cons v L ih =>
      intro hL
      obtain ⟨a, rfl, wa⟩ := hL v (by simp)
      obtain ⟨l, rfl, hl⟩ := ih (fun v hv => hL v (by simp [hv]))
      exact ⟨a :: l, rfl, by simpa using ⟨wa, hl⟩⟩
  obtain ⟨l, e1, hl⟩ := this _ hall
  refine ⟨l, ?_, ?_, hl⟩
  · rw [intsA, ← e1]
  · rw [← hct, ← hlen, e1, List.length_map]
theorem list4 (l : List Int) (h : l.length = 4) : ∃ x0 x1 x2 x3, l = [x0, x1, x2, x3] := by
  match l, h with
  | [x0, x1, x2, x3], _ => exact ⟨x0, x1, x2, x3, rfl⟩

/-- A return's value, off its slot. -/
theorem ret_int {k : IntKind} {a b : Int} (h : a = b) : Ending.returned (.int k a) = .returned (.int k b) := by rw [h]
theorem ret_bool {a b : Bool} (h : a = b) : Ending.returned (.bool a) = .returned (.bool b) := by rw [h]
/-- New blocks of cells, laid one behind the other. -/
theorem cells1 (w : World) (a : Array Value) (ta : TypeId) : Cells (w.alloc (.cells a ta)) w.heap.size ta a ∧ Below w.heap.size w (w.alloc (.cells a ta)) ∧ (w.alloc (.cells a ta)).heap.size = w.heap.size + 1 :=
  ⟨Cells.new w ta a, (Below.refl _ _).alloc (Nat.le_refl _) _, World.size_alloc _ _⟩
theorem cells2 (w : World) (a b : Array Value) (ta tb : TypeId) : Cells ((w.alloc (.cells a ta)).alloc (.cells b tb)) w.heap.size ta a ∧ Cells ((w.alloc (.cells a ta)).alloc (.cells b tb)) (w.heap.size + 1) tb b ∧
    Below w.heap.size w ((w.alloc (.cells a ta)).alloc (.cells b tb)) ∧ ((w.alloc (.cells a ta)).alloc (.cells b tb)).heap.size = w.heap.size + 2 := by
  obtain ⟨h1, h2, h3⟩ := cells1 w a ta
  obtain ⟨k1, k2, k3⟩ := cells1 (w.alloc (.cells a ta)) b tb
  rw [h3] at k1 k3
  exact ⟨h1.alloc _, k1, h2.trans (k2.mono h2.size), k3⟩
theorem cells3 (w : World) (a b c : Array Value) (ta tb tc : TypeId) : Cells (((w.alloc (.cells a ta)).alloc (.cells b tb)).alloc (.cells c tc)) w.heap.size ta a ∧ Cells (((w.alloc (.cells a ta)).alloc (.cells b tb)).alloc (.cells c tc)) (w.heap.size + 1) tb b ∧
    Cells (((w.alloc (.cells a ta)).alloc (.cells b tb)).alloc (.cells c tc)) (w.heap.size + 2) tc c ∧
    Below w.heap.size w (((w.alloc (.cells a ta)).alloc (.cells b tb)).alloc (.cells c tc)) ∧ (((w.alloc (.cells a ta)).alloc (.cells b tb)).alloc (.cells c tc)).heap.size = w.heap.size + 3 := by
  obtain ⟨h1, h2, h3, h4⟩ := cells2 w a b ta tb
  obtain ⟨k1, k2, k3⟩ := cells1 ((w.alloc (.cells a ta)).alloc (.cells b tb)) c tc
  rw [h4] at k1 k3
  exact ⟨h1.alloc _, h2.alloc _, k1, h3.trans (k2.mono h3.size), k3⟩
theorem cells4 (w : World) (a b c d : Array Value) (ta tb tc td : TypeId) : Cells ((((w.alloc (.cells a ta)).alloc (.cells b tb)).alloc (.cells c tc)).alloc (.cells d td)) w.heap.size ta a ∧
    Cells ((((w.alloc (.cells a ta)).alloc (.cells b tb)).alloc (.cells c tc)).alloc (.cells d td)) (w.heap.size + 1) tb b ∧
    Cells ((((w.alloc (.cells a ta)).alloc (.cells b tb)).alloc (.cells c tc)).alloc (.cells d td)) (w.heap.size + 2) tc c ∧ Cells ((((w.alloc (.cells a ta)).alloc (.cells b tb)).alloc (.cells c tc)).alloc (.cells d td)) (w.heap.size + 3) td d ∧
    Below w.heap.size w ((((w.alloc (.cells a ta)).alloc (.cells b tb)).alloc (.cells c tc)).alloc (.cells d td)) ∧ ((((w.alloc (.cells a ta)).alloc (.cells b tb)).alloc (.cells c tc)).alloc (.cells d td)).heap.size = w.heap.size + 4 := by
  obtain ⟨h1, h2, h3, h4, h5⟩ := cells3 w a b c ta tb tc
  obtain ⟨k1, k2, k3⟩ := cells1 (((w.alloc (.cells a ta)).alloc (.cells b tb)).alloc (.cells c tc)) d td
  rw [h5] at k1 k3
  exact ⟨h1.alloc _, h2.alloc _, h3.alloc _, k1, h4.trans (k2.mono h4.size), k3⟩
/-- A whole block written anew. -/
theorem Cells.setCells {t : TypeId} {B : Nat} : ∀ (vs : List Value) {W : World} {c : Array Value} (o : Nat), Cells W B t c → o + vs.length ≤ c.size → ∃ c', Cells (W.setCells B o vs) B t c' ∧ c'.size = c.size ∧ (∀ j, j < o → c'[j]? = c[j]?) ∧ (∀ j, j < vs.length → c'[o + j]? = vs[j]?) ∧ (∀ j, o + vs.length ≤ j → c'[j]? = c[j]?)
  | [], W, c, o, h, _ => ⟨c, h, rfl, fun _ _ => rfl, fun j hj => by simp at hj, fun _ _ => rfl⟩
  | v :: vs, W, c, o, h, hl => by
    simp only [List.length_cons] at hl
    obtain ⟨c', h1, h2, h3, h4, h5⟩ := Cells.setCells vs (o + 1) (h.set o v) (by rw [Array.size_setIfInBounds]; omega)
    refine ⟨c', h1, by simpa using h2, fun j hj => ?_, fun j hj => ?_, fun j hj => ?_⟩
    · rw [h3 j (by omega), Array.getElem?_setIfInBounds_ne (by omega)]
    · cases j with
      | zero =>
        have ho : o < c.size := by omega
        rw [Nat.add_zero, h3 o (by omega), Array.getElem?_setIfInBounds_self_of_lt ho]; rfl
      | succ j => rw [show o + (j + 1) = o + 1 + j by omega, h4 j (by simpa using hj)]; simp
    · simp only [List.length_cons] at hj
      rw [h5 j (by omega), Array.getElem?_setIfInBounds_ne (by omega)]
theorem Cells.setAll {t : TypeId} {B : Nat} {W : World} {c : Array Value} (vs : List Value) (h : Cells W B t c) (hl : vs.length = c.size) : Cells (W.setCells B 0 vs) B t vs.toArray := by
  obtain ⟨c', h1, h2, _, h4, _⟩ := Cells.setCells vs 0 h (by omega)
  have : c' = vs.toArray := by
    apply Array.ext_getElem?
    intro j
    by_cases hj : j < vs.length
    · have := h4 j hj
      rw [Nat.zero_add] at this
      rw [this]; simp
    · rw [Array.getElem?_eq_none (by omega), Array.getElem?_eq_none (by simp; omega)]
  rw [← this]; exact h1
theorem heap_setCells_other (B : Nat) : ∀ (vs : List Value) (o : Nat) (W : World) (k : Nat), k ≠ B → (W.setCells B o vs).heap[k]? = W.heap[k]?
  | [], _, _, _, _ => rfl
  | v :: vs, o, W, k, h => by
    rw [World.setCells, heap_setCells_other B vs (o + 1) _ k h, Below.heap_setCell _ _ _ _ h]
theorem Cells.setCells_other {t : TypeId} {B B' : Nat} {W : World} {c : Array Value} (h : Cells W B t c) (vs : List Value) (o : Nat) (hne : B ≠ B') : Cells (W.setCells B' o vs) B t c := (heap_setCells_other B' vs o W B hne).trans h
theorem below_setCells {n B : Nat} {W0 : World} : ∀ (vs : List Value) (o : Nat) {W : World}, Below n W0 W → n ≤ B → Below n W0 (W.setCells B o vs)
  | [], _, _, h, _ => h
  | v :: vs, o, W, h, hn => by rw [World.setCells]; exact below_setCells vs (o + 1) (h.setCell (p := ⟨B, o, none⟩) hn v) hn
theorem size_setCells (B : Nat) : ∀ (vs : List Value) (o : Nat) (W : World), (W.setCells B o vs).heap.size = W.heap.size
  | [], _, _ => rfl
  | v :: vs, o, W => by rw [World.setCells, size_setCells B vs (o + 1)]; simp [World.setCell]
theorem Cells.there {W : World} {B : Nat} {t : TypeId} {c : Array Value} (h : Cells W B t c) : W.there B 0 c.size := fun j hj =>
  ⟨by rw [Nat.zero_add, h.cell j, Array.getElem?_eq_getElem hj]; rfl, h.frozen _⟩
theorem intsA_size (k : IntKind) (l : List Int) : (intsA k l).size = l.length := by simp [intsA]
theorem intsA_one (k : IntKind) (l : List Int) : (intsA k l).all (·.oneCell') = true := by simp [intsA, Value.oneCell']
theorem Cells.below {W W' : World} {n B : Nat} {t : TypeId} {c : Array Value} (h : Cells W B t c) (hb : Below n W W') (hn : B < n) : Cells W' B t c := (hb.block _ hn).trans h
/-- A load of a whole array or struct, as one operation. -/
theorem exec_load_row {P : Program} {o : Oper} {ev : Operand → Value} {w : World} (ty : TypeId) (x : Operand) (ho : o.op = .load ty x) (g : Nat) (hx : ev x = .pointer (some ⟨g, 0, none⟩)) (t : TypeId) (cs : Array Value) (d : TypeDesc) (hg : Cells w g t cs)
    (hu : P.underlying ty = some d) (hd : (match d with | .struct _ | .array _ _ => true | _ => false) = true) (hi : (P.info? ty).map (·.size) = some cs.size) : (execOp ev o).run P w = .ok (.value (.agg cs)) w := by
  unfold execOp
  simp only [ho, hx, Instr.loadAt, Instr.sureAddr, Sem.run_bind, Sem.run_pure, Result.andThen_ok, run_loadVar_row w g t ty cs (0, 0) d hg hu hd hi]
theorem exec_load_mid {P : Program} {o : Oper} {ev : Operand → Value} {w : World} (ty : TypeId) (x : Operand) (ho : o.op = .load ty x) (b off : Nat) (hx : ev x = .pointer (some ⟨b, off, none⟩)) (cs : List Value) (d : TypeDesc) (hc : w.rangeAt b off cs)
    (hu : P.underlying ty = some d) (hd : d.isRow = true) (hi : (P.info? ty).map (·.size) = some cs.length) : (execOp ev o).run P w = .ok (.value (.agg cs.toArray)) w := by
  unfold execOp
  simp only [ho, hx, Instr.loadAt, Instr.sureAddr, Sem.run_bind, Sem.run_pure, Result.andThen_ok, run_loadVar_mid w b off ty cs d hc hu hd hi]
theorem still_of_run {P : Program} {o : Oper} {a : Act} {w : World} {K : Act → Prop} {v : Value} (h : (execOp a.eval o).run P w = .ok (.value v) w) (hk : K (a.put o.dst v)) : o.still P a w K := by
  unfold Oper.still; rw [h]; exact ⟨rfl, hk⟩
theorem quiet_of_run {P : Program} {o : Oper} {a : Act} {W : World} {K : Act → Prop} {v : Value} (h : ∀ x : Since W, (execOp a.eval o).run P x.val = .ok (.value v) x.val) (hk : K (a.put o.dst v)) : o.quiet P a (fun w' => ∃ x : Since W, w' = x.val) K :=
  ⟨v, fun w ⟨x, hx⟩ => by subst hx; unfold Oper.quietAt; rw [h x]; exact ⟨rfl, rfl⟩, hk⟩
theorem Since.cells {W : World} {B : Nat} {t : TypeId} {c : Array Value} (h : Cells W B t c) (x : Since W) : Cells x.val B t c := (x.low.block _ h.lt).trans h
theorem wpStill_plain {P : Program} {ops : Array Oper} {w : World} {Q : Act → Prop} {a : Act} {o : Oper} {rest : List Oper} (hg : o.guard = none) (h : ∀ K : Act → Prop, (∀ a, wpStill P ops w Q rest a → K a) → o.still P a w K) : wpStill P ops w Q (o :: rest) a :=
  wpStill_step fun K hK => by rw [if_pos (by simp [Region.wanted, hg])]; exact h K hK
theorem wpQuiet_plain {P : Program} {ops : Array Oper} {C : World → Prop} {Q : Act → Prop} {a : Act} {o : Oper} {rest : List Oper} (hg : o.guard = none) (h : ∀ K : Act → Prop, (∀ a, wpQuiet P ops C Q rest a → K a) → o.quiet P a C K) : wpQuiet P ops C Q (o :: rest) a :=
  wpQuiet_step fun K hK => by rw [if_pos (by simp [Region.wanted, hg])]; exact h K hK
/-- An operation whose run is known, named by its slot. -/
theorem wpList_run {P : Program} {ops : Array Oper} {rest : List Oper} {o : Oper} {a : Act} {w : World} {Q : Exit → Act → World → Prop} (hg : o.guard = none) (d : Tmp) (_ : o.dst = some d) (v : Value)
    (hr : (execOp a.eval o).run P w = .ok (.value v) w) (h : wpList P ops Q rest (a.put o.dst v) w) : wpList P ops Q (o :: rest) a w :=
  wpList_plain hg fun K hK => by unfold Oper.wp; rw [hr]; exact hK _ _ h
/-- Two results, the first a struct or array in memory. -/
theorem res_row_tmp {P : Program} {fn : Func} {p t0 : Tmp} {ty : TypeId} (h : fn.results = #[.cell p ty, .tmp t0]) (tmps : Array Value) (w : World) (g : Nat) (t : TypeId) (cs : Array Value) (d : TypeDesc)
    (hp : tmps.getD p undef = .pointer (some ⟨g, 0, none⟩)) (hg : Cells w g t cs)
    (hu : P.underlying ty = some d) (hd : (match d with | .struct _ | .array _ _ => true | _ => false) = true) (hi : (P.info? ty).map (·.size) = some cs.size) :
    (results fn tmps).run P w = .ok (.tuple #[.agg cs, tmps.getD t0 undef]) w := by
  have hp' : tmps[p]?.getD undef = .pointer (some ⟨g, 0, none⟩) := by simpa using hp
  simp [results, h, hp', asAddr, run_loadVar_row w g t ty cs (0, 0) d hg hu hd hi]
/-- A guarded load of a whole array. -/
theorem wpList_row_g {P : Program} {ops : Array Oper} {rest : List Oper} {o : Oper} {a : Act} {w : World} {Q : Exit → Act → World → Prop} (ty : TypeId) (x : Operand) (ho : o.op = .load ty x)
    (g : Nat) (hx : a.eval x = .pointer (some ⟨g, 0, none⟩)) (t : TypeId) (cs : Array Value) (fr : Nat × Nat) (d : TypeDesc) (hg : w.heap[g]? = some (.cells cs t fr))
    (hu : P.underlying ty = some d) (hd : (match d with | .struct _ | .array _ _ => true | _ => false) = true) (hi : (P.info? ty).map (·.size) = some cs.size) (hw : Region.wanted o (yielded ops a.tmps) = true)
    (h : wpList P ops Q rest (a.put o.dst (.agg cs)) w) : wpList P ops Q (o :: rest) a w :=
  wpList_step fun K hK => by rw [if_pos hw]; exact wp_load_row ty x ho g hx t cs fr d hg hu hd hi (hK _ _ h)
/-- A guarded load of a whole array, out of the middle of a block. -/
theorem wpList_mid_g {P : Program} {ops : Array Oper} {rest : List Oper} {o : Oper} {a : Act} {w : World} {Q : Exit → Act → World → Prop} (ty : TypeId) (x : Operand) (ho : o.op = .load ty x)
    (b off : Nat) (hx : a.eval x = .pointer (some ⟨b, off, none⟩)) (cs : List Value) (d : TypeDesc) (hc : w.rangeAt b off cs)
    (hu : P.underlying ty = some d) (hd : d.isRow = true) (hi : (P.info? ty).map (·.size) = some cs.length) (hw : Region.wanted o (yielded ops a.tmps) = true)
    (h : wpList P ops Q rest (a.put o.dst (.agg cs.toArray)) w) : wpList P ops Q (o :: rest) a w :=
  wpList_step fun K hK => by rw [if_pos hw]; exact wp_load_mid ty x ho b off hx cs d hc hu hd hi (hK _ _ h)
/-- A variable of its own, of one cell. -/
theorem cell_own (W : World) (t : TypeId) (z v : Value) : ∃ W', (W.alloc (.cells #[z] t)).setCell ⟨W.heap.size, 0, none⟩ v = W' ∧ Cells W' W.heap.size t #[v] ∧ Below W.heap.size W W' ∧ W'.heap.size = W.heap.size + 1 :=
  ⟨_, rfl, (Cells.new W t #[z]).set 0 v, ((Below.refl _ _).alloc (Nat.le_refl _) _).setCell (Nat.le_refl _) _, by simp [World.setCell]⟩
/-- A variable of its own, of many cells, written whole. -/
theorem row_own (W : World) (t : TypeId) (z c : Array Value) (h : z.size = c.size) : ((W.alloc (.cells z t)).there W.heap.size 0 c.size) ∧
    ∃ W', (W.alloc (.cells z t)).setCells W.heap.size 0 c.toList = W' ∧ Cells W' W.heap.size t c ∧ Below W.heap.size W W' ∧ W'.heap.size = W.heap.size + 1 := by
  obtain ⟨K, B, S⟩ := cells1 W z t
  have k := K.setAll c.toList (by rw [Array.length_toList, h])
  rw [Array.toArray_toList] at k
  exact ⟨by rw [← h]; exact K.there, _, rfl, k, below_setCells c.toList 0 B (Nat.le_refl _), by rw [size_setCells]; exact S⟩
end Go.Proofs.YtbfmlmnhdogojaaGreatDoor
namespace Go.Proofs.YtbfmlmnhdogojaaGreatDoor
open Go.RowKit Go.Shelf

/-! ### The table -/
def nameT : List ByteArray := [⟨#[]⟩, ⟨#[104, 97, 108, 116]⟩, ⟨#[108, 117, 105]⟩, ⟨#[97, 100, 100, 105]⟩, ⟨#[97, 100, 100]⟩, ⟨#[115, 117, 98]⟩, ⟨#[109, 117, 108]⟩, ⟨#[97, 110, 100]⟩, ⟨#[111, 114]⟩, ⟨#[120, 111, 114]⟩, ⟨#[115, 104, 108]⟩, ⟨#[115, 104, 114]⟩, ⟨#[115, 108, 116]⟩, ⟨#[108, 119]⟩, ⟨#[115, 119]⟩, ⟨#[108, 98]⟩, ⟨#[115, 98]⟩, ⟨#[98, 101, 113]⟩, ⟨#[98, 110, 101]⟩, ⟨#[98, 108, 116]⟩, ⟨#[106, 97, 108]⟩, ⟨#[106, 97, 108, 114]⟩, ⟨#[105, 110]⟩, ⟨#[111, 117, 116]⟩, ⟨#[99, 97, 108, 108]⟩, ⟨#[98, 97, 99, 107]⟩, ⟨#[103, 101, 116]⟩, ⟨#[115, 101, 116]⟩, ⟨#[102, 108, 117, 115, 104]⟩]
def usesT : List Int := [0, 0, 5, 7, 3, 3, 3, 3, 3, 3, 3, 3, 3, 7, 7, 7, 7, 7, 7, 7, 5, 3, 5, 5, 0, 0, 5, 5, 0]
def nameL (op : Int) : ByteArray := nameT.getD op.toNat ⟨#[]⟩
def usesL (op : Int) : Int := usesT.getD op.toNat 0
def rowsA : Array Value := ((List.range 29).flatMap fun i => [.string (nameT.getD i ⟨#[]⟩), .int .i64 (usesT.getD i 0)]).toArray
def rowsZ : Array Value := ((List.range 29).flatMap fun _ => [.string ⟨#[]⟩, .int .i64 0]).toArray
theorem rows_lit : ((.string ⟨#[]⟩ :: .int .i64 0 :: .string ⟨#[104, 97, 108, 116]⟩ :: .int .i64 0 :: .string ⟨#[108, 117, 105]⟩ :: .int .i64 5 :: .string ⟨#[97, 100, 100, 105]⟩ :: .int .i64 7 :: .string ⟨#[97, 100, 100]⟩ :: .int .i64 3 :: .string ⟨#[115, 117, 98]⟩ :: .int .i64 3 :: .string ⟨#[109, 117, 108]⟩ :: .int .i64 3 :: .string ⟨#[97, 110, 100]⟩ :: .int .i64 3 :: .string ⟨#[111, 114]⟩ :: .int .i64 3 :: .string ⟨#[120, 111, 114]⟩ :: .int .i64 3 :: .string ⟨#[115, 104, 108]⟩ :: .int .i64 3 :: .string ⟨#[115, 104, 114]⟩ :: .int .i64 3 :: .string ⟨#[115, 108, 116]⟩ :: .int .i64 3 :: .string ⟨#[108, 119]⟩ :: .int .i64 7 :: .string ⟨#[115, 119]⟩ :: .int .i64 7 :: .string ⟨#[108, 98]⟩ :: .int .i64 7 :: .string ⟨#[115, 98]⟩ :: .int .i64 7 :: .string ⟨#[98, 101, 113]⟩ :: .int .i64 7 :: .string ⟨#[98, 110, 101]⟩ :: .int .i64 7 :: .string ⟨#[98, 108, 116]⟩ :: .int .i64 7 :: .string ⟨#[106, 97, 108]⟩ :: .int .i64 5 :: .string ⟨#[106, 97, 108, 114]⟩ :: .int .i64 3 :: .string ⟨#[105, 110]⟩ :: .int .i64 5 :: .string ⟨#[111, 117, 116]⟩ :: .int .i64 5 :: .string ⟨#[99, 97, 108, 108]⟩ :: .int .i64 0 :: .string ⟨#[98, 97, 99, 107]⟩ :: .int .i64 0 :: .string ⟨#[103, 101, 116]⟩ :: .int .i64 5 :: .string ⟨#[115, 101, 116]⟩ :: .int .i64 5 :: .string ⟨#[102, 108, 117, 115, 104]⟩ :: .int .i64 0 :: [] : List Value).toArray) = rowsA := rfl
theorem rows_zero : ((.string ⟨#[]⟩ :: .int .i64 0 :: .string ⟨#[]⟩ :: .int .i64 0 :: .string ⟨#[]⟩ :: .int .i64 0 :: .string ⟨#[]⟩ :: .int .i64 0 :: .string ⟨#[]⟩ :: .int .i64 0 :: .string ⟨#[]⟩ :: .int .i64 0 :: .string ⟨#[]⟩ :: .int .i64 0 :: .string ⟨#[]⟩ :: .int .i64 0 :: .string ⟨#[]⟩ :: .int .i64 0 :: .string ⟨#[]⟩ :: .int .i64 0 :: .string ⟨#[]⟩ :: .int .i64 0 :: .string ⟨#[]⟩ :: .int .i64 0 :: .string ⟨#[]⟩ :: .int .i64 0 :: .string ⟨#[]⟩ :: .int .i64 0 :: .string ⟨#[]⟩ :: .int .i64 0 :: .string ⟨#[]⟩ :: .int .i64 0 :: .string ⟨#[]⟩ :: .int .i64 0 :: .string ⟨#[]⟩ :: .int .i64 0 :: .string ⟨#[]⟩ :: .int .i64 0 :: .string ⟨#[]⟩ :: .int .i64 0 :: .string ⟨#[]⟩ :: .int .i64 0 :: .string ⟨#[]⟩ :: .int .i64 0 :: .string ⟨#[]⟩ :: .int .i64 0 :: .string ⟨#[]⟩ :: .int .i64 0 :: .string ⟨#[]⟩ :: .int .i64 0 :: .string ⟨#[]⟩ :: .int .i64 0 :: .string ⟨#[]⟩ :: .int .i64 0 :: .string ⟨#[]⟩ :: .int .i64 0 :: .string ⟨#[]⟩ :: .int .i64 0 :: [] : List Value).toArray) = rowsZ := rfl
theorem cases28 {op : Int} (h : 1 ≤ op ∧ op ≤ 28) : op = 1 ∨ op = 2 ∨ op = 3 ∨ op = 4 ∨ op = 5 ∨ op = 6 ∨ op = 7 ∨ op = 8 ∨ op = 9 ∨ op = 10 ∨ op = 11 ∨ op = 12 ∨ op = 13 ∨ op = 14 ∨ op = 15 ∨ op = 16 ∨ op = 17 ∨ op = 18 ∨ op = 19 ∨ op = 20 ∨ op = 21 ∨ op = 22 ∨ op = 23 ∨ op = 24 ∨ op = 25 ∨ op = 26 ∨ op = 27 ∨ op = 28 := by omega
theorem index_rows {op : Int} (h : 1 ≤ op ∧ op ≤ 28) (w : World) : (Instr.index 108 (.agg rowsA) (.int .i64 op)).run Tryz.prog w = .ok (.agg #[.string (nameL op), .int .i64 (usesL op)]) w := by
  rcases cases28 h with rfl | rfl | rfl | rfl | rfl | rfl | rfl | rfl | rfl | rfl | rfl | rfl | rfl | rfl | rfl | rfl | rfl | rfl | rfl | rfl | rfl | rfl | rfl | rfl | rfl | rfl | rfl | rfl <;> kernel_rfl
theorem rows_size : (Tryz.prog.info? 108).map (·.size) = some rowsA.size := by kernel_rfl
set_option maxRecDepth 100000 in
set_option maxHeartbeats 4000000 in
theorem cRows (w : World) : Calls Tryz.prog 51 #[] w fun e w' => e = .returned (.agg rowsA) ∧ Below w.heap.size w w' := by
  obtain ⟨K1, Hb, hs⟩ := cells1 w rowsZ 108
  have T1 : (w.alloc (.cells rowsZ 108)).there w.heap.size 0 rowsA.size := K1.there
  have hi := rows_size
  have h1 : rowsA.all (·.oneCell') = true := by decide +kernel
  have o5 := K1.setAll rowsA.toList rfl
  rw [Array.toArray_toList] at o5
  go_enter Tryz.func51, Tryz.ntmps51
  have hz := rows_zero
  go_upto_region 1 with (fail)
  clear hz
  generalize w.alloc _ = W at *
  go_wp2_with (first
    | ((with_reducible refine wpList_run rfl 29 rfl (.agg rowsA) ?_ ?_); (focus kernel_rfl); simp only [Act.put, List.setIfInBounds_toArray, List.set_cons_zero, List.set_cons_succ])
    | (with_reducible refine wpList_store_mid rfl 108 (.tmp 0) (.tmp 29) rfl w.heap.size 0 rowsA rfl rfl T1 hi h1 ?_)
    | exact bodyPost_ret (results_cell_row rfl _ _ w.heap.size 108 rowsA (0, 0) _ rfl o5 Tryz.underlying108 rfl hi) rfl ⟨rfl, below_setCells _ 0 Hb (by omega)⟩)
end Go.Proofs.YtbfmlmnhdogojaaGreatDoor
namespace Go.Proofs.YtbfmlmnhdogojaaGreatDoor
open Go.RowKit Go.Shelf

/-! ### What may be -/
def hasU (u flag : Int) : Bool := decide (u / flag % 2 = 1)
def within (u flag n lo hi : Int) : Bool := decide (n = 0) || (hasU u flag && decide (lo ≤ n) && decide (n ≤ hi))
def mayL (op a b n : Int) : Bool := decide (1 ≤ op ∧ op ≤ 28) && within (usesL op) 1 a 0 7 && within (usesL op) 2 b 0 7 && within (usesL op) 4 n (-32768) 32767
theorem uses4 {op : Int} (h : 1 ≤ op ∧ op ≤ 28) : usesL op = 0 ∨ usesL op = 3 ∨ usesL op = 5 ∨ usesL op = 7 := by
  rcases cases28 h with rfl | rfl | rfl | rfl | rfl | rfl | rfl | rfl | rfl | rfl | rfl | rfl | rfl | rfl | rfl | rfl | rfl | rfl | rfl | rfl | rfl | rfl | rfl | rfl | rfl | rfl | rfl | rfl <;> decide +kernel
theorem and_flag (u flag : Int) (hu : u = 0 ∨ u = 3 ∨ u = 5 ∨ u = 7) (hf : flag = 1 ∨ flag = 2 ∨ flag = 4) : bits .and .i64 u flag = if hasU u flag then flag else 0 := by
  rcases hu with rfl | rfl | rfl | rfl <;> rcases hf with rfl | rfl | rfl <;> decide +kernel
theorem cOf {op : Int} (h : 1 ≤ op ∧ op ≤ 28) (w : World) : Calls Tryz.prog 58 #[.int .i64 op] w fun e w' => e = .returned (.tuple #[.agg #[.string (nameL op), .int .i64 (usesL op)], .bool true]) ∧ Below w.heap.size w w' := by
  obtain ⟨K1, Hb, hs⟩ := cells1 w #[.string ⟨#[]⟩, .int .i64 0] 107
  have hx := fun W => index_rows h W
  have c0 := K1.cell 0
  have c1 := K1.cell 1
  have f0 := K1.frozen 0
  have f1 := K1.frozen 1
  simp at c0 c1
  go_enter Tryz.func58, Tryz.ntmps58
  go_wp2_with fail
  generalize w.alloc _ = W at *
  refine (cRows W).mono ?_
  rintro e W2 ⟨rfl, hb2⟩
  have K2 := K1.below hb2 K1.lt
  have c0 := K2.cell 0
  have c1 := K2.cell 1
  have f0 := K2.frozen 0
  have f1 := K2.frozen 1
  simp at c0 c1
  have B2 := Hb.trans (hb2.mono Hb.size)
  have o5 := (K2.set 0 (.string (nameL op))).set 1 (.int .i64 (usesL op))
  have hi : (Tryz.prog.info? 107).map (·.size) = some 2 := by kernel_rfl
  go_wp2
  exact bodyPost_ret (res_row_tmp rfl _ _ w.heap.size 107 _ _ rfl o5 Tryz.underlying107 rfl hi) rfl ⟨rfl, (B2.setCell (Nat.le_refl _) _).setCell (Nat.le_refl _) _⟩
theorem cOf_out {op : Int} (h : ¬ (1 ≤ op ∧ op ≤ 28)) (w : World) : Calls Tryz.prog 58 #[.int .i64 op] w fun e w' => e = .returned (.tuple #[.agg #[.string ⟨#[]⟩, .int .i64 0], .bool false]) ∧ Below w.heap.size w w' := by
  obtain ⟨K1, Hb, hs⟩ := cells1 w #[.string ⟨#[]⟩, .int .i64 0] 107
  have c0 := K1.cell 0
  have c1 := K1.cell 1
  have f0 := K1.frozen 0
  have f1 := K1.frozen 1
  simp at c0 c1
  have hi : (Tryz.prog.info? 107).map (·.size) = some 2 := by kernel_rfl
  by_cases h1 : op < 1
  all_goals
    have h2 : 1 ≤ op → 28 < op := by omega
    try (have h3 := h2 (by omega))
    clear h2 h
    go_enter Tryz.func58, Tryz.ntmps58
    go_wp2
    exact bodyPost_ret (res_row_tmp rfl _ _ w.heap.size 107 _ _ rfl K1 Tryz.underlying107 rfl hi) rfl ⟨rfl, Hb⟩
theorem cWithin {u flag n lo hi : Int} (hu : u = 0 ∨ u = 3 ∨ u = 5 ∨ u = 7) (hf : flag = 1 ∨ flag = 2 ∨ flag = 4) {B : Nat} {s : Value} {w : World} (hc : Cells w B 107 #[s, .int .i64 u]) :
    Calls Tryz.prog 89 #[.int .i64 flag, .int .i64 n, .int .i64 lo, .int .i64 hi, .pointer (some ⟨B, 0, none⟩)] w fun e w' => e = .returned (.bool (within u flag n lo hi)) ∧ w = w' := by
  have hb := and_flag u flag hu hf
  have c1 := hc.cell 1
  simp at c1
  have hf0 : ¬ flag = 0 := by omega
  have e2 : (flag != 0) = true := by simpa using hf0
  unfold within
  by_cases h1 : n = 0
  · go_enter Tryz.func89, Tryz.ntmps89
    go_wp2
    go_ret
    exact ⟨ret_bool (by first | rfl | simp [h1]), rfl⟩
  · have e1 : (n == 0) = false := by simpa using h1
    have E1 := Lib.hid e1
    have E2 := Lib.hid e2
    clear e1 e2
    by_cases h2 : hasU u flag = true
    · rw [if_pos h2] at hb
      by_cases h3 : lo ≤ n
      · go_enter Tryz.func89, Tryz.ntmps89
        go_wp2
        go_ret
        refine ⟨ret_bool ?_, rfl⟩
        first | rfl | (rw [E1.out]; try rw [E2.out]) | skip
        first | rfl | (simp [h1, h2, h3]; done) | (simp [h1, h2]; omega)
      · go_enter Tryz.func89, Tryz.ntmps89
        go_wp2
        go_ret
        refine ⟨ret_bool ?_, rfl⟩
        first | rfl | (rw [E1.out]; try rw [E2.out]) | skip
        first | rfl | (simp [*]; done) | (simp [*]; omega)
    · rw [if_neg h2] at hb
      go_enter Tryz.func89, Tryz.ntmps89
      go_wp2
      go_ret
      exact ⟨ret_bool (by first | rfl | simp [h1, h2]), rfl⟩
/-- An instruction, as a value. -/
abbrev instA (op a b n : Int) : Array Value := #[.int .i64 op, .int .i64 a, .int .i64 b, .int .i64 n]
set_option maxHeartbeats 4000000 in
theorem cMay (op a b n : Int) (w : World) : Calls Tryz.prog 57 #[.agg (instA op a b n)] w fun e w' => e = .returned (.bool (mayL op a b n)) ∧ Below w.heap.size w w' := by
  obtain ⟨K1, Hb, hs⟩ := cells1 w (instA op a b n) 69
  have i0 := (K1.cell 0).trans (show _ = some (Value.int .i64 op) from rfl)
  have i1 := (K1.cell 1).trans (show _ = some (Value.int .i64 a) from rfl)
  have i2 := (K1.cell 2).trans (show _ = some (Value.int .i64 b) from rfl)
  have i3 := (K1.cell 3).trans (show _ = some (Value.int .i64 n) from rfl)
  by_cases h : 1 ≤ op ∧ op ≤ 28
  · go_enter Tryz.func57, Tryz.ntmps57
    go_wp2_with fail
    generalize w.alloc _ = W at *
    refine (cOf h W).mono ?_
    rintro e W2 ⟨rfl, hb2⟩
    have hu := uses4 h
    obtain ⟨K3, hb3, s3⟩ := cells1 W2 #[.string (nameL op), .int .i64 (usesL op)] 107
    have HB := Hb.trans (hb2.mono Hb.size)
    have i0 : (W2.alloc (.cells #[.string (nameL op), .int .i64 (usesL op)] 107)).cell? ⟨w.heap.size, 0, none⟩ = _ := (hb3.cell (p := ⟨w.heap.size, 0, none⟩) (by have := K1.lt; have := hb2.size; simp; omega)).trans ((hb2.cell (p := ⟨w.heap.size, 0, none⟩) K1.lt).trans i0)
    have i1 : (W2.alloc (.cells #[.string (nameL op), .int .i64 (usesL op)] 107)).cell? ⟨w.heap.size, 1, none⟩ = _ := (hb3.cell (p := ⟨w.heap.size, 1, none⟩) (by have := K1.lt; have := hb2.size; simp; omega)).trans ((hb2.cell (p := ⟨w.heap.size, 1, none⟩) K1.lt).trans i1)
    have i2 : (W2.alloc (.cells #[.string (nameL op), .int .i64 (usesL op)] 107)).cell? ⟨w.heap.size, 2, none⟩ = _ := (hb3.cell (p := ⟨w.heap.size, 2, none⟩) (by have := K1.lt; have := hb2.size; simp; omega)).trans ((hb2.cell (p := ⟨w.heap.size, 2, none⟩) K1.lt).trans i2)
    have i3 : (W2.alloc (.cells #[.string (nameL op), .int .i64 (usesL op)] 107)).cell? ⟨w.heap.size, 3, none⟩ = _ := (hb3.cell (p := ⟨w.heap.size, 3, none⟩) (by have := K1.lt; have := hb2.size; simp; omega)).trans ((hb2.cell (p := ⟨w.heap.size, 3, none⟩) K1.lt).trans i3)
    obtain ⟨W3, e3⟩ : ∃ W3, W2.alloc (.cells #[.string (nameL op), .int .i64 (usesL op)] 107) = W3 := ⟨_, rfl⟩
    rw [e3] at i0 i1 i2 i3 K3 hb3
    have B3 := HB.trans (hb3.mono HB.size)
    clear s3 hs
    cases w1 : within (usesL op) 1 a 0 7
    all_goals cases w2 : within (usesL op) 2 b 0 7
    all_goals cases w4 : within (usesL op) 4 n (-32768) 32767
    all_goals
      go_wp2_with (first
        | (go_at_call 89; refine (cWithin hu (by omega) K3).mono ?_; (first | rw [w1] | rw [w2] | rw [w4]); rintro e w' ⟨rfl, rfl⟩))
      go_ret
      refine ⟨ret_bool ?_, B3⟩
      unfold mayL
      rw [decide_eq_true h, w1, w2, w4]; rfl
  · go_enter Tryz.func57, Tryz.ntmps57
    go_wp2_with fail
    generalize w.alloc _ = W at *
    refine (cOf_out h W).mono ?_
    rintro e W2 ⟨rfl, hb2⟩
    go_wp2
    go_ret
    have HB := Hb.trans (hb2.mono Hb.size)
    refine ⟨ret_bool ?_, HB.alloc HB.size _⟩
    unfold mayL
    rw [decide_eq_false h]; rfl
end Go.Proofs.YtbfmlmnhdogojaaGreatDoor
