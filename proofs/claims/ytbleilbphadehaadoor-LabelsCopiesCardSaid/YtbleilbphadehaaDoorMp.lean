/- Maps keyed by a struct of two whole numbers: a look-up, a store of a new key; maps from numbers to their places. -/
import Derived.Test.YtbleilbphadehaaDoorMa
namespace Go.Proofs.YtbleilbphadehaaDoor
open Go.RowKit

def pairV (p : Int × Int) : Value := .agg #[.int .i64 p.1, .int .i64 p.2]
/-- What a key's type must tell. -/
structure PairKey (P : Program) (kt : TypeId) : Prop where
  desc : ∃ fs, P.underlying kt = some (.struct fs)
  ck : ∀ (e : Bool) (x : Int × Int) (w : World), (Instr.checkKey e 10000 kt (pairV x)).run P w = .ok () w
  eq : ∀ (x y : Int × Int) (w : World), (Op.equal kt (pairV x) (pairV y)).run P w = .ok (decide (x = y)) w
/-- Block b is a map whose entries are just these, in that order. -/
def JAt (W : World) (b : Nat) (m : List ((Int × Int) × Int)) : Prop :=
  ∃ es clock, W.heap[b]? = some (.map es clock) ∧ es.toList.map (fun e => (e.key, e.val)) = m.map (fun p => (pairV p.1, Value.int .i64 p.2))
theorem JAt.lt {W : World} {b : Nat} {m : List ((Int × Int) × Int)} (h : JAt W b m) : b < W.heap.size := by
  obtain ⟨es, c, hb, _⟩ := h; exact (Array.getElem?_eq_some_iff.1 hb).1
theorem JAt.of_block {W W' : World} {b : Nat} {m : List ((Int × Int) × Int)} (h : JAt W b m) (hb : W'.heap[b]? = W.heap[b]?) : JAt W' b m := by
  obtain ⟨es, c, h1, h2⟩ := h; exact ⟨es, c, hb.trans h1, h2⟩
theorem JAt.new (W : World) : JAt (W.alloc (.map #[] 0)) W.heap.size [] := ⟨#[], 0, World.alloc_heap_new W _, rfl⟩
def findP (x : Int × Int) : List ((Int × Int) × Int) → Nat → Option (Nat × Value)
  | [], _ => none
  | p :: r, i => if x = p.1 then some (i, .int .i64 p.2) else findP x r (i + 1)
theorem findP_lookup (x : Int × Int) : ∀ (m : List ((Int × Int) × Int)) (i : Nat), (findP x m i).map (·.2) = (m.lookup x).map (Value.int .i64)
  | [], _ => rfl
  | p :: m, i => by
    by_cases hx : x = p.1
    · simp [findP, List.lookup, hx]
    · simp only [findP, hx, if_false, List.lookup]
      rw [show (x == p.1) = false by simpa using hx]
      exact findP_lookup x m (i + 1)
section
variable {P : Program} {kt : TypeId} {W : World} {b : Nat} {m : List ((Int × Int) × Int)}
theorem run_asking (hk : PairKey P kt) (x : Int × Int) : ∀ (es : List MapEntry) (m : List ((Int × Int) × Int)) (i : Nat), es.map (fun e => (e.key, e.val)) = m.map (fun p => (pairV p.1, Value.int .i64 p.2)) →
    (Instr.findAsking kt (pairV x) es i).run P W = .ok (findP x m i) W
  | [], [], _, _ => by simp [Instr.findAsking, findP]
  | [], _ :: _, _, h => by simp at h
  | _ :: _, [], _, h => by simp at h
  | e :: es, p :: m, i, h => by
    simp only [List.map_cons, List.cons.injEq, Prod.mk.injEq] at h
    obtain ⟨⟨h1, h2⟩, h3⟩ := h
    simp only [Instr.findAsking, Sem.run_bind, h1, hk.eq, Result.andThen_ok, findP]
    by_cases hx : x = p.1
    · simp [hx, h2]
    · simp only [hx, decide_false, if_false, Bool.false_eq_true]
      exact run_asking hk x es m (i + 1) h3
theorem run_findP (hk : PairKey P kt) (x : Int × Int) (es : List MapEntry) (m : List ((Int × Int) × Int)) (h : es.map (fun e => (e.key, e.val)) = m.map (fun p => (pairV p.1, Value.int .i64 p.2))) :
    (Instr.findKey kt (pairV x) es).run P W = .ok (findP x m 0) W := by
  obtain ⟨fs, hd⟩ := hk.desc
  unfold Instr.findKey
  simp only [Sem.run_bind, run_underlying hd, Result.andThen_ok]
  match es, m, h with
  | [], [], _ => simp [Instr.findNow, findP]
  | [], _ :: _, h => simp at h
  | _ :: _, [], h => simp at h
  | e :: es, p :: m, h =>
    have h1 : e.key = pairV p.1 := by simp only [List.map_cons, List.cons.injEq, Prod.mk.injEq] at h; exact h.1.1
    simp only [Instr.findNow, pairV, Instr.sameNow]
    exact run_asking hk x (e :: es) (p :: m) 0 h
theorem run_lookup_pair_ok (h : JAt W b m) {mt et : TypeId} {z : Value} (hm : P.underlying mt = some (.map kt et)) (hk : PairKey P kt) (hz : (zeroValue et).run P W = .ok z W) (x : Int × Int) :
    (Instr.lookup mt (.map (some b)) (pairV x) true).run P W = .ok (.tuple #[((m.lookup x).map (Value.int .i64)).getD z, .bool (m.lookup x).isSome]) W := by
  obtain ⟨es, c, hb, he⟩ := h
  have hf := run_findP (W := W) hk x es.toList m he
  have hl := findP_lookup x m 0
  cases hr : findP x m 0 with
  | none =>
    rw [hr] at hf hl
    simp only [Instr.lookup, Sem.run_bind, run_underlying hm, Result.andThen_ok, MapKept.run_getObj_map hb, hk.ck, hf, Sem.run_pure, hz]
    have hn : m.lookup x = none := by cases hq : m.lookup x with | none => rfl | some v => rw [hq] at hl; simp at hl
    simp [hn]
  | some p =>
    rw [hr] at hf hl
    simp only [Instr.lookup, Sem.run_bind, run_underlying hm, Result.andThen_ok, MapKept.run_getObj_map hb, hk.ck, hf, Sem.run_pure]
    cases hq : m.lookup x with
    | none => rw [hq] at hl; simp at hl
    | some v => rw [hq] at hl; simp at hl; simp [hl]
theorem run_mapUpdate_pair (h : JAt W b m) {mt et : TypeId} (hm : P.underlying mt = some (.map kt et)) (hk : PairKey P kt) (x : Int × Int) (n : Int) (hx : m.lookup x = none) :
    ∃ o, (Instr.mapUpdate mt (.map (some b)) (pairV x) (.int .i64 n)).run P W = .ok () (W.putObj b o) ∧ JAt (W.putObj b o) b (m ++ [(x, n)]) := by
  have hlt := h.lt
  obtain ⟨es, c, hb, he⟩ := h
  have hf := run_findP (W := W) hk x es.toList m he
  have hl := findP_lookup x m 0
  rw [hx] at hl
  have hr : findP x m 0 = none := by cases hq : findP x m 0 with | none => rfl | some v => rw [hq] at hl; simp at hl
  rw [hr] at hf
  refine ⟨.map (es.push { key := pairV x, val := .int .i64 n, born := c }) (c + 1), ?_, _, _, World.putObj_heap_same hlt, ?_⟩
  · simp only [Instr.mapUpdate, Sem.run_bind, run_underlying hm, Result.andThen_ok, MapKept.run_getObj_map hb, hk.ck, hf, MapKept.run_setObj_map _ hb]
    rfl
  · simp [he]
end
/-- Numbers and their places, from a place on. -/
def numL : List Int → Nat → List (Int × Value)
  | [], _ => []
  | x :: L, k => (x, .int .i64 k) :: numL L (k + 1)
def idxL (x : Int) : List Int → Nat → Option Nat
  | [], _ => none
  | y :: L, k => if x = y then some k else idxL x L (k + 1)
theorem numL_lookup (x : Int) : ∀ (L : List Int) (k : Nat), (numL L k).lookup x = (idxL x L k).map fun n => Value.int .i64 (n : Int)
  | [], _ => rfl
  | y :: L, k => by
    by_cases h : x = y
    · simp [numL, idxL, h]
    · simp only [numL, idxL, List.lookup, h, if_false]
      rw [show (x == y) = false by simpa using h]
      exact numL_lookup x L (k + 1)
theorem numL_append (x : Int) : ∀ (L : List Int) (k : Nat), numL (L ++ [x]) k = numL L k ++ [(x, .int .i64 ((k + L.length : Nat) : Int))]
  | [], k => by simp [numL]
  | y :: L, k => by
    simp only [List.cons_append, numL, numL_append x L (k + 1), List.length_cons]
    rw [show k + 1 + L.length = k + (L.length + 1) by omega]
theorem numL_keys : ∀ (L : List Int) (k : Nat), (numL L k).map (·.1) = L
  | [], _ => rfl
  | y :: L, k => by simp [numL, numL_keys L (k + 1)]
theorem idxL_some {x : Int} : ∀ {L : List Int} {k n : Nat}, idxL x L k = some n → k ≤ n ∧ L[n - k]? = some x
  | [], _, _, h => by simp [idxL] at h
  | y :: L, k, n, h => by
    by_cases e : x = y
    · simp [idxL, e] at h; subst h; simp [e]
    · simp only [idxL, e, if_false] at h
      obtain ⟨h1, h2⟩ := idxL_some h
      refine ⟨by omega, ?_⟩
      rw [show n - k = (n - (k + 1)) + 1 by omega]; simpa using h2
theorem idxL_none {x : Int} : ∀ {L : List Int} {k : Nat}, idxL x L k = none ↔ x ∉ L
  | [], _ => by simp [idxL]
  | y :: L, k => by
    by_cases e : x = y
    · simp [idxL, e]
    · simp only [idxL, e, if_false, List.mem_cons, not_or]
      rw [idxL_none (L := L)]
      simp
theorem idxL_get {L : List Int} (hn : L.Nodup) {i : Nat} {x : Int} (h : L[i]? = some x) (k : Nat) : idxL x L k = some (k + i) := by
  induction L generalizing i k with
  | nil => simp at h
  | cons y L ih =>
    rw [List.nodup_cons] at hn
    cases i with
    | zero => simp at h; subst h; simp [idxL]
    | succ i =>
      simp at h
      have hne : x ≠ y := fun e => hn.1 (e ▸ List.mem_of_getElem? h)
      simp only [idxL, hne, if_false]
      rw [ih hn.2 h]
      congr 1; omega
end Go.Proofs.YtbleilbphadehaaDoor
