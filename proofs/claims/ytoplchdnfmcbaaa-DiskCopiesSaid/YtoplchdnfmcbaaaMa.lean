/- Maps keyed by whole numbers: what lies in the block, as a list of pairs; a look-up, a store, a delete. -/
import Derived.Test.YtoplchdnfmcbaaaBase
namespace Go.Proofs.Ytoplchdnfmcbaaa
open Go.RowKit

/-- The entries' stamps: each below the clock, none twice. -/
def BornIn (es : Array MapEntry) (clock : Nat) : Prop := (∀ x ∈ es.toList, x.born < clock) ∧ (es.toList.map (·.born)).Nodup
/-- Block b is a map whose entries are just these, in that order, no key twice. -/
def MapAt (k : IntKind) (W : World) (b : Nat) (m : List (Int × Value)) : Prop :=
  ∃ es clock, W.heap[b]? = some (.map es clock) ∧ es.toList.map (fun e => (e.key, e.val)) = m.map (fun p => (Value.int k p.1, p.2)) ∧ (m.map (·.1)).Nodup ∧ BornIn es clock
theorem MapAt.lt {k : IntKind} {W : World} {b : Nat} {m : List (Int × Value)} (h : MapAt k W b m) : b < W.heap.size := by
  obtain ⟨es, c, hb, _⟩ := h; exact (Array.getElem?_eq_some_iff.1 hb).1
theorem MapAt.of_block {k : IntKind} {W W' : World} {b : Nat} {m : List (Int × Value)} (h : MapAt k W b m) (hb : W'.heap[b]? = W.heap[b]?) : MapAt k W' b m := by
  obtain ⟨es, c, h1, h2⟩ := h; exact ⟨es, c, hb.trans h1, h2⟩
theorem MapAt.new (k : IntKind) (W : World) : MapAt k (W.alloc (.map #[] 0)) W.heap.size [] := ⟨#[], 0, World.alloc_heap_new W _, rfl, List.nodup_nil, fun x h => by simp at h, by simp⟩
/-- The place and the value of a key. -/
def findL (x : Int) : List (Int × Value) → Nat → Option (Nat × Value)
  | [], _ => none
  | p :: r, i => if x = p.1 then some (i, p.2) else findL x r (i + 1)
theorem findNow_ints (k : IntKind) (x : Int) : ∀ (es : List MapEntry) (m : List (Int × Value)) (i : Nat), es.map (fun e => (e.key, e.val)) = m.map (fun p => (Value.int k p.1, p.2)) →
    Instr.findNow (.int k) (.int k x) es i = some (findL x m i)
  | [], [], _, _ => rfl
  | [], _ :: _, _, h => by simp at h
  | _ :: _, [], _, h => by simp at h
  | e :: es, p :: m, i, h => by
    simp only [List.map_cons, List.cons.injEq, Prod.mk.injEq] at h
    obtain ⟨⟨h1, h2⟩, h3⟩ := h
    simp only [Instr.findNow, h1, Instr.sameNow, if_true, findL]
    by_cases hx : x = p.1
    · simp [hx, h2]
    · rw [show (x == p.1) = false by simpa using hx]
      simp only [hx, if_false]
      exact findNow_ints k x es m (i + 1) h3
theorem findL_lookup (x : Int) : ∀ (m : List (Int × Value)) (i : Nat), (findL x m i).map (·.2) = m.lookup x
  | [], _ => rfl
  | p :: m, i => by
    by_cases hx : x = p.1
    · simp [findL, List.lookup, hx]
    · simp only [findL, hx, if_false, List.lookup]
      rw [show (x == p.1) = false by simpa using hx]
      exact findL_lookup x m (i + 1)
theorem findL_some (x : Int) : ∀ (m : List (Int × Value)) (i j : Nat) (v : Value), findL x m i = some (j, v) → i ≤ j ∧ m[j - i]? = some (x, v)
  | [], _, _, _, h => by simp [findL] at h
  | p :: m, i, j, v, h => by
    by_cases hx : x = p.1
    · simp [findL, hx] at h
      obtain ⟨rfl, rfl⟩ := h
      exact ⟨Nat.le_refl _, by simp [hx]⟩
    · simp only [findL, hx, if_false] at h
      obtain ⟨h1, h2⟩ := findL_some x m (i + 1) j v h
      refine ⟨by omega, ?_⟩
      rw [show j - i = (j - (i + 1)) + 1 by omega]; simpa using h2
theorem findL_none (x : Int) : ∀ (m : List (Int × Value)) (i : Nat), findL x m i = none → x ∉ m.map (·.1)
  | [], _, _ => by simp
  | p :: m, i, h => by
    by_cases hx : x = p.1
    · simp [findL, hx] at h
    · simp only [findL, hx, if_false] at h
      have := findL_none x m (i + 1) h
      simp at this ⊢
      exact ⟨hx, this⟩
section
variable {P : Program} {k : IntKind} {W : World} {b : Nat} {m : List (Int × Value)}
/-- A look-up. -/
theorem run_lookup_ints (h : MapAt k W b m) {mt kt et : TypeId} {z : Value} (hm : P.underlying mt = some (.map kt et)) (hk : P.underlying kt = some (.int k)) (hz : (zeroValue et).run P W = .ok z W) (x : Int) :
    (Instr.lookup mt (.map (some b)) (.int k x) false).run P W = .ok ((m.lookup x).getD z) W := by
  obtain ⟨es, c, hb, he, _⟩ := h
  have hf := findNow_ints k x es.toList m 0 he
  have hl := findL_lookup x m 0
  cases hr : findL x m 0 with
  | none =>
    rw [hr] at hf hl
    simp only [Instr.lookup, Sem.run_bind, run_underlying hm, Result.andThen_ok, MapKept.run_getObj_map hb, MapKept.run_checkKey hk (show MapKept.IsKey (.int k) (.int k x) from rfl), MapKept.run_findKey hk hf, Sem.run_pure, hz]
    rw [← hl]; simp
  | some p =>
    rw [hr] at hf hl
    simp only [Instr.lookup, Sem.run_bind, run_underlying hm, Result.andThen_ok, MapKept.run_getObj_map hb, MapKept.run_checkKey hk (show MapKept.IsKey (.int k) (.int k x) from rfl), MapKept.run_findKey hk hf, Sem.run_pure]
    rw [← hl]; simp
theorem run_lookup_ints_ok (h : MapAt k W b m) {mt kt et : TypeId} {z : Value} (hm : P.underlying mt = some (.map kt et)) (hk : P.underlying kt = some (.int k)) (hz : (zeroValue et).run P W = .ok z W) (x : Int) :
    (Instr.lookup mt (.map (some b)) (.int k x) true).run P W = .ok (.tuple #[(m.lookup x).getD z, .bool (m.lookup x).isSome]) W := by
  obtain ⟨es, c, hb, he, _⟩ := h
  have hf := findNow_ints k x es.toList m 0 he
  have hl := findL_lookup x m 0
  cases hr : findL x m 0 with
  | none =>
    rw [hr] at hf hl
    simp only [Instr.lookup, Sem.run_bind, run_underlying hm, Result.andThen_ok, MapKept.run_getObj_map hb, MapKept.run_checkKey hk (show MapKept.IsKey (.int k) (.int k x) from rfl), MapKept.run_findKey hk hf, Sem.run_pure, hz]
    rw [← hl]; simp
  | some p =>
    rw [hr] at hf hl
    simp only [Instr.lookup, Sem.run_bind, run_underlying hm, Result.andThen_ok, MapKept.run_getObj_map hb, MapKept.run_checkKey hk (show MapKept.IsKey (.int k) (.int k x) from rfl), MapKept.run_findKey hk hf, Sem.run_pure]
    rw [← hl]; simp
/-- The list behind a store. -/
def updL (x : Int) (v : Value) (m : List (Int × Value)) : List (Int × Value) :=
  match findL x m 0 with
  | some (i, _) => m.set i (x, v)
  | none => m ++ [(x, v)]
/-- A store. -/
theorem run_mapUpdate_ints (h : MapAt k W b m) {mt kt et : TypeId} (hm : P.underlying mt = some (.map kt et)) (hk : P.underlying kt = some (.int k)) (x : Int) (v : Value) :
    ∃ o, (Instr.mapUpdate mt (.map (some b)) (.int k x) v).run P W = .ok () (W.putObj b o) ∧ MapAt k (W.putObj b o) b (updL x v m) := by
  have hlt := h.lt
  obtain ⟨es, c, hb, he, hn, hbn⟩ := h
  have hf := findNow_ints k x es.toList m 0 he
  cases hr : findL x m 0 with
  | none =>
    rw [hr] at hf
    refine ⟨.map (es.push { key := .int k x, val := v, born := c }) (c + 1), ?_, _, _, World.putObj_heap_same hlt, ?_, ?_, ?_, ?_⟩
    · simp only [Instr.mapUpdate, Sem.run_bind, run_underlying hm, Result.andThen_ok, MapKept.run_getObj_map hb, MapKept.run_checkKey hk (show MapKept.IsKey (.int k) (.int k x) from rfl), MapKept.run_findKey hk hf, MapKept.run_setObj_map _ hb]
      rfl
    · simp [updL, hr, he]
    · have := findL_none x m 0 hr
      simp only [updL, hr, List.map_append, List.map_cons, List.map_nil]
      refine List.nodup_append.2 ⟨hn, by simp, ?_⟩
      intro a ha b hb' e
      simp at hb'
      subst hb'; subst e
      exact this ha
    · intro y hy
      simp at hy
      rcases hy with hy | rfl
      · have := hbn.1 y (by simpa using hy); omega
      · show c < c + 1; omega
    · rw [Array.toList_push, List.map_append, List.nodup_append]
      refine ⟨hbn.2, by simp, fun a ha b hb e => ?_⟩
      simp at hb
      subst hb; subst e
      obtain ⟨y, hy, e⟩ := List.mem_map.1 ha
      have := hbn.1 y hy
      omega
  | some p =>
    obtain ⟨i, u⟩ := p
    rw [hr] at hf
    obtain ⟨_, hi⟩ := findL_some x m 0 i u hr
    rw [Nat.sub_zero] at hi
    have hkey : ((es[i]?).map (·.key)).getD (.int k x) = .int k x := by
      have h1 : (es.toList.map (fun e => (e.key, e.val)))[i]? = some (.int k x, u) := by rw [he, List.getElem?_map, hi]; rfl
      rw [List.getElem?_map] at h1
      cases h2 : es.toList[i]? with
      | none => rw [h2] at h1; simp at h1
      | some e =>
        rw [h2] at h1
        simp at h1
        have h3 : es[i]? = some e := by simpa using h2
        rw [h3]; simpa using h1.1
    refine ⟨.map (es.modify i fun e => { e with key := .int k x, val := v }) c, ?_, _, _, World.putObj_heap_same hlt, ?_, ?_, ?_⟩
    · simp only [Instr.mapUpdate, Sem.run_bind, run_underlying hm, Result.andThen_ok, MapKept.run_getObj_map hb, MapKept.run_checkKey hk (show MapKept.IsKey (.int k) (.int k x) from rfl), MapKept.run_findKey hk hf, hkey]
      simp [Instr.keyThatStays, Instr.sameBits, MapKept.run_setObj_map _ hb, World.putObj]
    · simp only [updL, hr]
      apply List.ext_getElem?
      intro j
      have hj := congrArg (fun l => l[j]?) he
      simp only [List.getElem?_map] at hj
      simp only [List.getElem?_map, Array.toList_modify, List.getElem?_modify, List.getElem?_set]
      by_cases e : i = j
      · subst e
        have hil : i < m.length := (List.getElem?_eq_some_iff.1 hi).1
        have hil2 : i < es.toList.length := by have := congrArg List.length he; simp at this; simp; omega
        simp [hil, List.getElem?_eq_getElem hil2]
      · simpa [e] using hj
    · simp only [updL, hr, List.map_set]
      have : (m.map (·.1)).set i x = m.map (·.1) := by
        apply List.ext_getElem?
        intro j
        rw [List.getElem?_set]
        by_cases e : i = j
        · subst e
          have hil : i < m.length := (List.getElem?_eq_some_iff.1 hi).1
          have h1 : m[i] = (x, u) := by have := List.getElem?_eq_getElem hil; rw [this] at hi; exact Option.some.inj hi
          simp [hil, h1]
        · simp [e]
      rw [this]; exact hn
    · have hbm : (es.modify i fun e => { e with key := .int k x, val := v }).toList.map (·.born) = es.toList.map (·.born) := by
        apply List.ext_getElem?
        intro j
        simp only [List.getElem?_map, Array.toList_modify, List.getElem?_modify]
        by_cases e : i = j
        · subst e; cases es.toList[i]? <;> simp
        · cases h : es.toList[j]? <;> simp [e]
      refine ⟨fun y hy => ?_, by rw [hbm]; exact hbn.2⟩
      have h1 : y.born ∈ (es.modify i fun e => { e with key := .int k x, val := v }).toList.map (·.born) := List.mem_map_of_mem hy
      rw [hbm] at h1
      obtain ⟨z, hz, e⟩ := List.mem_map.1 h1
      rw [← e]; exact hbn.1 z hz
/-- A delete. -/
theorem run_delete_ints (h : MapAt k W b m) {mt kt et ty : TypeId} {kt' : TypeId} (hm : P.underlying mt = some (.map kt et)) (hk : P.underlying kt = some (.int k)) (x : Int) :
    ∃ o, (Builtin.delete_ #[mt, kt'] ty #[.map (some b), .int k x]).run P W = .ok (.tuple #[]) (W.putObj b o) ∧ MapAt k (W.putObj b o) b (m.filter (fun p => !(p.1 == x))) := by
  have hlt := h.lt
  obtain ⟨es, c, hb, he, hn, hbn⟩ := h
  have hf := findNow_ints k x es.toList m 0 he
  cases hr : findL x m 0 with
  | none =>
    rw [hr] at hf
    refine ⟨.map es c, ?_, _, _, World.putObj_heap_same hlt, ?_, ?_, hbn⟩
    · simp [Builtin.delete_, Sem.run_bind, run_underlying hm, Result.andThen_ok, MapKept.run_getObj_map hb, MapKept.run_checkKey hk (show MapKept.IsKey (.int k) (.int k x) from rfl), MapKept.run_findKey hk hf, MapKept.run_setObj_map _ hb, World.putObj]
    · have := findL_none x m 0 hr
      rw [List.filter_eq_self.2, he]
      intro p hp
      have : p.1 ≠ x := fun e => this (by simp; exact ⟨p.2, e ▸ hp⟩)
      simpa using this
    · exact hn.sublist ((List.filter_sublist).map _)
  | some p =>
    obtain ⟨i, u⟩ := p
    rw [hr] at hf
    obtain ⟨_, hi⟩ := findL_some x m 0 i u hr
    rw [Nat.sub_zero] at hi
    have hil : i < m.length := (List.getElem?_eq_some_iff.1 hi).1
    refine ⟨.map (es.eraseIdxIfInBounds i) c, ?_, _, _, World.putObj_heap_same hlt, ?_, ?_, ?_⟩
    · simp [Builtin.delete_, Sem.run_bind, run_underlying hm, Result.andThen_ok, MapKept.run_getObj_map hb, MapKept.run_checkKey hk (show MapKept.IsKey (.int k) (.int k x) from rfl), MapKept.run_findKey hk hf, MapKept.run_setObj_map _ hb, World.putObj]
    · have e1 : m.filter (fun p => !(p.1 == x)) = m.eraseIdx i := by
        have hsplit : m = m.take i ++ (x, u) :: m.drop (i + 1) := by
          have h1 : m[i] = (x, u) := by have := List.getElem?_eq_getElem hil; rw [this] at hi; exact Option.some.inj hi
          rw [← h1, ← List.drop_eq_getElem_cons hil, List.take_append_drop]
        have hnd : (m.take i ++ (x, u) :: m.drop (i + 1)).map (·.1) |>.Nodup := by rw [← hsplit]; exact hn
        rw [List.map_append, List.map_cons, List.nodup_append] at hnd
        obtain ⟨h1, h2, h3⟩ := hnd
        rw [List.nodup_cons] at h2
        rw [List.eraseIdx_eq_take_drop_succ]
        conv => lhs; rw [hsplit]
        rw [List.filter_append, List.filter_cons]
        simp only [beq_self_eq_true, Bool.not_true, Bool.false_eq_true, if_false]
        rw [List.filter_eq_self.2, List.filter_eq_self.2]
        · intro p hp
          have hm : p.1 ∈ (m.drop (i + 1)).map (·.1) := List.mem_map_of_mem hp
          have : p.1 ≠ x := fun e => h2.1 (e ▸ hm)
          simpa using this
        · intro p hp
          have : p.1 ≠ x := fun e => h3 p.1 (List.mem_map_of_mem hp) x (by simp) e
          simpa using this
      rw [e1]
      have e2 : (es.eraseIdxIfInBounds i).toList = es.toList.eraseIdx i := by
        have hil2 : i < es.size := by have := congrArg List.length he; simp at this; omega
        simp [Array.eraseIdxIfInBounds, hil2]
      have mapErase : ∀ {α β : Type} (f : α → β) (l : List α) (i : Nat), (l.eraseIdx i).map f = (l.map f).eraseIdx i := by
        intro α β f l
        induction l with
        | nil => intro i; rfl
        | cons a l ih => intro i; cases i with
          | zero => rfl
          | succ i => simp [ih]
      rw [e2, mapErase, mapErase, he]
    · exact hn.sublist ((List.filter_sublist).map _)
    · have hsub : (es.eraseIdxIfInBounds i).toList.Sublist es.toList := by
        unfold Array.eraseIdxIfInBounds
        split
        · rw [Array.toList_eraseIdx]; exact List.eraseIdx_sublist _ _
        · exact List.Sublist.refl _
      exact ⟨fun y hy => hbn.1 y (hsub.subset hy), hbn.2.sublist (hsub.map _)⟩
end
end Go.Proofs.Ytoplchdnfmcbaaa
