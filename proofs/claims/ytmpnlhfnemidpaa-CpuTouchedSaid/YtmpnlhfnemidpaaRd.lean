/- Slices of whole numbers: what they read; arguments of such types, opened. -/
import Derived.Test.YtmpnlhfnemidpaaBase
import Derived.Deep.Slices
import Derived.Deep.AppendLies
import Derived.Deep.Onto
import Derived.Laws.OwnMore
namespace Go.Proofs.Ytmpnlhfnemidpaa
open Go.ChangeShapes Go.WideShapes Go.ChangeAt Go.RowKit Go.Shelf Go.Deep

/-- The slice at A reads the numbers l, out of a block below B. -/
structure Rd (W : World) (B : Nat) (k : IntKind) (A : Option Addr) (l : List Int) : Prop where
  some_ : 0 < l.length → ∃ g off, A = some ⟨g, off, none⟩ ∧ g < B
  cell : ∀ g off, A = some ⟨g, off, none⟩ → ∀ i x, l[i]? = some x → W.cell? ⟨g, off + i, none⟩ = some (.int k x)
theorem Rd.keep {W W' : World} {B : Nat} {k : IntKind} {A : Option Addr} {l : List Int} (h : Rd W B k A l) (hb : ∀ g, g < B → W'.heap[g]? = W.heap[g]?) : Rd W' B k A l :=
  ⟨h.some_, fun g off e i x hx => by
    obtain ⟨g', off', e', hlt⟩ := h.some_ (by have := (List.getElem?_eq_some_iff.1 hx).1; omega)
    have : g' = g := by rw [e] at e'; simp at e'; exact e'.1.symm
    subst this
    exact (World.cell?_of_block (hb _ hlt)).trans (h.cell _ off e i x hx)⟩
theorem Rd.below {W W' : World} {B n : Nat} {k : IntKind} {A : Option Addr} {l : List Int} (h : Rd W B k A l) (hb : Below n W W') (hn : B ≤ n) : Rd W' B k A l :=
  h.keep fun g hg => hb.block g (by omega)
theorem Rd.up {W : World} {B B' : Nat} {k : IntKind} {A : Option Addr} {l : List Int} (h : Rd W B k A l) (hn : B ≤ B') : Rd W B' k A l :=
  ⟨fun h0 => by obtain ⟨g, off, e, hlt⟩ := h.some_ h0; exact ⟨g, off, e, by omega⟩, h.cell⟩

theorem addr_add (g off j : Nat) : (⟨g, off, none⟩ : Addr).add j = ⟨g, off + j, none⟩ := by unfold Addr.add; split <;> simp_all
theorem Rd.of_own {W : World} {base : Nat} {e : TypeId} {g cap : Nat} {k : IntKind} {l : List Int} (h : W.ownsRow base e 1 (.slice (some ⟨g, 0, none⟩) l.length cap) l.length (l.map (Value.int k))) : Rd W W.heap.size k (some ⟨g, 0, none⟩) l :=
  ⟨fun _ => ⟨g, 0, rfl, (h.lt g rfl).2⟩, fun g' off e i x hx => by
    simp at e
    obtain ⟨rfl, rfl⟩ := e
    have hi : i < l.length := (List.getElem?_eq_some_iff.1 hx).1
    rw [Nat.zero_add, h.cellAt i (by omega)]
    simp [hx]⟩
theorem cells_get {W : World} {B : Nat} {t : TypeId} {l : List Int} {k : IntKind} (h : Cells W B t (intsA k l)) {j : Nat} (hj : j < l.length) : W.cell? ⟨B, j, none⟩ = some (.int k l[j]) :=
  (h.cell j).trans (intsA_get (List.getElem?_eq_getElem hj))
theorem intsA_set (k : IntKind) (l : List Int) (j : Nat) (x : Int) : (intsA k l).setIfInBounds j (.int k x) = intsA k (l.set j x) := by
  simp [intsA, List.map_set]

section
variable {H : Type} {enc : TypeId × Value → H} {P : Program} {w : World} {base : Nat} {spare : Nat → Bool} {held : Bool} {fuel : Nat}
/-- The cells of an array of whole numbers. -/
theorem cells_ints {t e : TypeId} {n : Nat} {k : IntKind} {cs : List Value} {x : DataW H × List MemPlace} (ht : P.underlying t = some (.array n e)) (hc : P.cellsOf e = 1) (hct : P.cellsOf t = n) (he : P.underlying e = some (.int k))
    (h : DataW.trod enc P w base spare held fuel t cs = some x) : ∃ l : List Int, cs = l.map (Value.int k) ∧ l.length = n ∧ ∀ x ∈ l, (Lit.int k x).wf = true := by
  obtain ⟨xs, m, _, _, hlen, hxs, hel⟩ := DataW.trod_array ht h
  have hall : ∀ v ∈ cs, ∃ a : Int, v = .int k a ∧ (Lit.int k a).wf = true := by
    intro v hv
    obtain ⟨i, hi, rfl⟩ := List.getElem_of_mem hv
    have hin : i < n := by rw [← hct, ← hlen]; exact hi
    have h1 := hel i hin
    rw [hc, Nat.mul_one, List.drop_eq_getElem_cons hi, List.take_succ_cons, List.take_zero, List.getElem?_eq_getElem (by omega)] at h1
    obtain ⟨a, e1, _, w1⟩ := DataW.trod_int he h1
    simp at e1
    exact ⟨a, e1, w1⟩
  have : ∀ L : List Value, (∀ v ∈ L, ∃ a : Int, v = .int k a ∧ (Lit.int k a).wf = true) → ∃ l : List Int, L = l.map (Value.int k) ∧ ∀ x ∈ l, (Lit.int k x).wf = true := by
    intro L
    induction L with
    | nil => exact fun _ => ⟨[], rfl, by simp⟩
    | cons v L ih =>
      intro hL
      obtain ⟨a, rfl, wa⟩ := hL v (by simp)
      obtain ⟨l, rfl, hl⟩ := ih (fun v hv => hL v (by simp [hv]))
      exact ⟨a :: l, rfl, by simpa using ⟨wa, hl⟩⟩
  obtain ⟨l, e1, hl⟩ := this _ hall
  exact ⟨l, e1, by rw [← hct, ← hlen, e1, List.length_map], hl⟩
/-- A slice, opened: the cells of each element below its length. -/
theorem open_elems {t e : TypeId} {r : Reach} {b0 : Nat} {v : Value} {d : DataW H} {ps : List MemPlace} (ht : P.underlying t = some (.slice e)) (hpos : 0 < P.cellsOf e) (hv : Value.okWide P w r b0 t v) (h : DataW.Trod enc P w base spare held t v d ps) :
    ∃ A len cap, v = .slice A len cap ∧ len ≤ cap ∧ cap ≤ maxLen ∧ (0 < len → ∃ g off, A = some ⟨g, off, none⟩ ∧ g < w.heap.size) ∧ (∀ g off, A = some ⟨g, off, none⟩ → ∀ i, i < len → ∃ cs n x, cs.length = P.cellsOf e ∧
      (∀ j, j < P.cellsOf e → w.cell? ⟨g, off + i * P.cellsOf e + j, none⟩ = cs[j]?) ∧ DataW.trod enc P w base spare held n e cs = some x) := by
  obtain ⟨A, len, cap, rfl⟩ := okWide_slice ht hv
  obtain ⟨fuel, hf⟩ := h
  have hf' : DataW.trod enc P w base spare held fuel t [.slice A len cap] = some (d, ps) := hf
  rcases open_slice ht hf' with ⟨h1, _⟩ | ⟨a, len', cap', m, n, D, Pl, h1, hb, hl, hm, hmm, _, hx⟩
  · simp at h1
    obtain ⟨rfl, rfl, rfl⟩ := h1
    exact ⟨none, 0, 0, rfl, Nat.le_refl _, by simp [maxLen], by omega, by simp⟩
  · simp at h1
    obtain ⟨rfl, rfl, rfl⟩ := h1
    have hlm : len ≤ m := by rw [hmm]; split <;> omega
    refine ⟨some a, len, cap, rfl, hl, hm, fun h0 => ?_, fun g off e i hi => ?_⟩
    · obtain ⟨cs, h2, h3⟩ := hx 0 (by omega)
      obtain ⟨_, hlen, hc⟩ := World.cells?_some h2
      have h4 := hc 0 hpos
      rw [List.getElem?_eq_getElem (by omega)] at h4
      have h5 := World.cell?_spot h4
      obtain ⟨g, off, spot⟩ := a
      have hsp : spot = none := by simpa [Addr.add] using h5
      subst hsp
      rw [addr_add, addr_add] at h4
      refine ⟨g, off, rfl, ?_⟩
      unfold World.cell? at h4
      cases ho : w.heap[g]? with
      | none => simp [ho] at h4
      | some o => exact (Array.getElem?_eq_some_iff.1 ho).1
    · simp at e
      subst e
      obtain ⟨cs, h2, h3⟩ := hx i (by omega)
      obtain ⟨_, hlen, hc⟩ := World.cells?_some h2
      refine ⟨cs, n, _, hlen, fun j hj => ?_, h3⟩
      have h4 := hc j hj
      rw [addr_add, addr_add] at h4
      exact h4
theorem choose_list {α : Type} {p : Nat → α → Prop} : ∀ (n : Nat), (∀ i, i < n → ∃ x, p i x) → ∃ l : List α, l.length = n ∧ ∀ i x, l[i]? = some x → p i x
  | 0, _ => ⟨[], rfl, by simp⟩
  | n + 1, h => by
    obtain ⟨l, h1, h2⟩ := choose_list n (fun i hi => h i (by omega))
    obtain ⟨x, hx⟩ := h n (by omega)
    refine ⟨l ++ [x], by simp [h1], fun i y hy => ?_⟩
    by_cases e : i < n
    · rw [List.getElem?_append_left (by omega)] at hy; exact h2 i y hy
    · have : i = n := by have := (List.getElem?_eq_some_iff.1 hy).1; simp at this; omega
      subst this
      rw [List.getElem?_append_right (by omega), h1] at hy
      simp at hy; subst hy; exact hx
/-- A slice of whole numbers. -/
theorem open_ints {t e : TypeId} {r : Reach} {b0 : Nat} {k : IntKind} {v : Value} {d : DataW H} {ps : List MemPlace} (ht : P.underlying t = some (.slice e)) (hc : P.cellsOf e = 1) (he : P.underlying e = some (.int k)) (hv : Value.okWide P w r b0 t v) (h : DataW.Trod enc P w base spare held t v d ps) :
    ∃ (A : Option Addr) (l : List Int) (cap : Nat), v = .slice A l.length cap ∧ l.length ≤ cap ∧ cap ≤ maxLen ∧ Rd w w.heap.size k A l ∧ ∀ x ∈ l, (Lit.int k x).wf = true := by
  obtain ⟨A, len, cap, rfl, h1, h2, h3, h4⟩ := open_elems ht (by omega) hv h
  have : ∀ i, i < len → ∃ x : Int, (∀ g off, A = some ⟨g, off, none⟩ → w.cell? ⟨g, off + i, none⟩ = some (.int k x)) ∧ (Lit.int k x).wf = true := by
    intro i hi
    obtain ⟨g, off, rfl, _⟩ := h3 (by omega)
    obtain ⟨cs, n, x, hl, hcell, htr⟩ := h4 g off rfl i hi
    obtain ⟨a, e1, _, w1⟩ := DataW.trod_int he htr
    subst e1
    refine ⟨a, fun g' off' e => ?_, w1⟩
    simp at e
    obtain ⟨rfl, rfl⟩ := e
    have := hcell 0 (by omega)
    rw [hc] at this
    simpa using this
  obtain ⟨l, hl, hp⟩ := choose_list len this
  subst hl
  refine ⟨A, l, cap, rfl, h1, h2, ⟨h3, fun g off e i x hx => (hp i x hx).1 g off e⟩, fun x hx => ?_⟩
  obtain ⟨i, hi⟩ := List.getElem?_of_mem hx
  exact (hp i x hi).2
end
end Go.Proofs.Ytmpnlhfnemidpaa
namespace Go.Proofs.Ytmpnlhfnemidpaa
open Go.RowKit

/-- Block b is a map whose entries are just these, in that order, no key twice. -/
def MapAt (k : IntKind) (W : World) (b : Nat) (m : List (Int × Value)) : Prop :=
  ∃ es clock, W.heap[b]? = some (.map es clock) ∧ es.toList.map (fun e => (e.key, e.val)) = m.map (fun p => (Value.int k p.1, p.2)) ∧ (m.map (·.1)).Nodup
theorem MapAt.lt {k : IntKind} {W : World} {b : Nat} {m : List (Int × Value)} (h : MapAt k W b m) : b < W.heap.size := by
  obtain ⟨es, c, hb, _⟩ := h; exact (Array.getElem?_eq_some_iff.1 hb).1
theorem MapAt.of_block {k : IntKind} {W W' : World} {b : Nat} {m : List (Int × Value)} (h : MapAt k W b m) (hb : W'.heap[b]? = W.heap[b]?) : MapAt k W' b m := by
  obtain ⟨es, c, h1, h2⟩ := h; exact ⟨es, c, hb.trans h1, h2⟩
theorem MapAt.new (k : IntKind) (W : World) : MapAt k (W.alloc (.map #[] 0)) W.heap.size [] := ⟨#[], 0, World.alloc_heap_new W _, rfl, List.nodup_nil⟩
/-- The place and the value of a key. -/
def findL (x : Int) : List (Int × Value) → Nat → Option (Nat × Value)
  | [], _ => none
  | p :: r, i => if x = p.1 then some (i, p.2) else findL x r (i + 1)
theorem findNow_ints (k : IntKind) (x : Int) : ∀ (es : List MapEntry) (m : List (Int × Value)) (i : Nat), es.map (fun e => (e.key, e.val)) = m.map (fun p => (Value.int k p.1, p.2)) →
    Instr.findNow (.int k) (.int k x) es i = some (findL x m i)
  | [], [], _, _ => rfl
  | [], _ :: _, _, h => by simp at h
  | _ :: _, [], _, h => by simp at h
  | e :: es, p :: m, i, h => by
    simp only [List.map_cons, List.cons.injEq, Prod.mk.injEq] at h
    obtain ⟨⟨h1, h2⟩, h3⟩ := h
    simp only [Instr.findNow, h1, Instr.sameNow, if_true, findL]
    by_cases hx : x = p.1
    · simp [hx, h2]
    · rw [show (x == p.1) = false by simpa using hx]
      simp only [hx, if_false]
      exact findNow_ints k x es m (i + 1) h3
theorem findL_lookup (x : Int) : ∀ (m : List (Int × Value)) (i : Nat), (findL x m i).map (·.2) = m.lookup x
  | [], _ => rfl
  | p :: m, i => by
    by_cases hx : x = p.1
    · simp [findL, List.lookup, hx]
    · simp only [findL, hx, if_false, List.lookup]
      rw [show (x == p.1) = false by simpa using hx]
      exact findL_lookup x m (i + 1)
theorem findL_some (x : Int) : ∀ (m : List (Int × Value)) (i j : Nat) (v : Value), findL x m i = some (j, v) → i ≤ j ∧ m[j - i]? = some (x, v)
  | [], _, _, _, h => by simp [findL] at h
  | p :: m, i, j, v, h => by
    by_cases hx : x = p.1
    · simp [findL, hx] at h
      obtain ⟨rfl, rfl⟩ := h
      exact ⟨Nat.le_refl _, by simp [hx]⟩
    · simp only [findL, hx, if_false] at h
      obtain ⟨h1, h2⟩ := findL_some x m (i + 1) j v h
      refine ⟨by omega, ?_⟩
      rw [show j - i = (j - (i + 1)) + 1 by omega]; simpa using h2
theorem findL_none (x : Int) : ∀ (m : List (Int × Value)) (i : Nat), findL x m i = none → x ∉ m.map (·.1)
  | [], _, _ => by simp
  | p :: m, i, h => by
    by_cases hx : x = p.1
    · simp [findL, hx] at h
    · simp only [findL, hx, if_false] at h
      have := findL_none x m (i + 1) h
      simp at this ⊢
      exact ⟨hx, this⟩
section
variable {P : Program} {k : IntKind} {W : World} {b : Nat} {m : List (Int × Value)}
/-- A look-up. -/
theorem run_lookup_ints (h : MapAt k W b m) {mt kt et : TypeId} {z : Value} (hm : P.underlying mt = some (.map kt et)) (hk : P.underlying kt = some (.int k)) (hz : (zeroValue et).run P W = .ok z W) (x : Int) :
    (Instr.lookup mt (.map (some b)) (.int k x) false).run P W = .ok ((m.lookup x).getD z) W := by
  obtain ⟨es, c, hb, he, _⟩ := h
  have hf := findNow_ints k x es.toList m 0 he
  have hl := findL_lookup x m 0
  cases hr : findL x m 0 with
  | none =>
    rw [hr] at hf hl
    simp only [Instr.lookup, Sem.run_bind, run_underlying hm, Result.andThen_ok, MapKept.run_getObj_map hb, MapKept.run_checkKey hk (show MapKept.IsKey (.int k) (.int k x) from rfl), MapKept.run_findKey hk hf, Sem.run_pure, hz]
    rw [← hl]; simp
  | some p =>
    rw [hr] at hf hl
    simp only [Instr.lookup, Sem.run_bind, run_underlying hm, Result.andThen_ok, MapKept.run_getObj_map hb, MapKept.run_checkKey hk (show MapKept.IsKey (.int k) (.int k x) from rfl), MapKept.run_findKey hk hf, Sem.run_pure]
    rw [← hl]; simp
theorem run_lookup_ints_ok (h : MapAt k W b m) {mt kt et : TypeId} {z : Value} (hm : P.underlying mt = some (.map kt et)) (hk : P.underlying kt = some (.int k)) (hz : (zeroValue et).run P W = .ok z W) (x : Int) :
    (Instr.lookup mt (.map (some b)) (.int k x) true).run P W = .ok (.tuple #[(m.lookup x).getD z, .bool (m.lookup x).isSome]) W := by
  obtain ⟨es, c, hb, he, _⟩ := h
  have hf := findNow_ints k x es.toList m 0 he
  have hl := findL_lookup x m 0
  cases hr : findL x m 0 with
  | none =>
    rw [hr] at hf hl
    simp only [Instr.lookup, Sem.run_bind, run_underlying hm, Result.andThen_ok, MapKept.run_getObj_map hb, MapKept.run_checkKey hk (show MapKept.IsKey (.int k) (.int k x) from rfl), MapKept.run_findKey hk hf, Sem.run_pure, hz]
    rw [← hl]; simp
  | some p =>
    rw [hr] at hf hl
    simp only [Instr.lookup, Sem.run_bind, run_underlying hm, Result.andThen_ok, MapKept.run_getObj_map hb, MapKept.run_checkKey hk (show MapKept.IsKey (.int k) (.int k x) from rfl), MapKept.run_findKey hk hf, Sem.run_pure]
    rw [← hl]; simp
/-- The list behind a store. -/
def updL (x : Int) (v : Value) (m : List (Int × Value)) : List (Int × Value) :=
  match findL x m 0 with
  | some (i, _) => m.set i (x, v)
  | none => m ++ [(x, v)]
/-- A store. -/
theorem run_mapUpdate_ints (h : MapAt k W b m) {mt kt et : TypeId} (hm : P.underlying mt = some (.map kt et)) (hk : P.underlying kt = some (.int k)) (x : Int) (v : Value) :
    ∃ o, (Instr.mapUpdate mt (.map (some b)) (.int k x) v).run P W = .ok () (W.putObj b o) ∧ MapAt k (W.putObj b o) b (updL x v m) := by
  have hlt := h.lt
  obtain ⟨es, c, hb, he, hn⟩ := h
  have hf := findNow_ints k x es.toList m 0 he
  cases hr : findL x m 0 with
  | none =>
    rw [hr] at hf
    refine ⟨.map (es.push { key := .int k x, val := v, born := c }) (c + 1), ?_, _, _, World.putObj_heap_same hlt, ?_, ?_⟩
    · simp only [Instr.mapUpdate, Sem.run_bind, run_underlying hm, Result.andThen_ok, MapKept.run_getObj_map hb, MapKept.run_checkKey hk (show MapKept.IsKey (.int k) (.int k x) from rfl), MapKept.run_findKey hk hf, MapKept.run_setObj_map _ hb]
      rfl
    · simp [updL, hr, he]
    · have := findL_none x m 0 hr
      simp only [updL, hr, List.map_append, List.map_cons, List.map_nil]
      refine List.nodup_append.2 ⟨hn, by simp, ?_⟩
      intro a ha b hb' e
      simp at hb'
      subst hb'; subst e
      exact this ha
  | some p =>
    obtain ⟨i, u⟩ := p
    rw [hr] at hf
    obtain ⟨_, hi⟩ := findL_some x m 0 i u hr
    rw [Nat.sub_zero] at hi
    have hkey : ((es[i]?).map (·.key)).getD (.int k x) = .int k x := by
      have h1 : (es.toList.map (fun e => (e.key, e.val)))[i]? = some (.int k x, u) := by rw [he, List.getElem?_map, hi]; rfl
      rw [List.getElem?_map] at h1
      cases h2 : es.toList[i]? with
      | none => rw [h2] at h1; simp at h1
      | some e =>
        rw [h2] at h1
        simp at h1
        have h3 : es[i]? = some e := by simpa using h2
        rw [h3]; simpa using h1.1
    refine ⟨.map (es.modify i fun e => { e with key := .int k x, val := v }) c, ?_, _, _, World.putObj_heap_same hlt, ?_, ?_⟩
    · simp only [Instr.mapUpdate, Sem.run_bind, run_underlying hm, Result.andThen_ok, MapKept.run_getObj_map hb, MapKept.run_checkKey hk (show MapKept.IsKey (.int k) (.int k x) from rfl), MapKept.run_findKey hk hf, hkey]
      simp [Instr.keyThatStays, Instr.sameBits, MapKept.run_setObj_map _ hb, World.putObj]
    · simp only [updL, hr]
      apply List.ext_getElem?
      intro j
      have hj := congrArg (fun l => l[j]?) he
      simp only [List.getElem?_map] at hj
      simp only [List.getElem?_map, Array.toList_modify, List.getElem?_modify, List.getElem?_set]
      by_cases e : i = j
      · subst e
        have hil : i < m.length := (List.getElem?_eq_some_iff.1 hi).1
        have hil2 : i < es.toList.length := by have := congrArg List.length he; simp at this; simp; omega
        simp [hil, List.getElem?_eq_getElem hil2]
      · simpa [e] using hj
    · simp only [updL, hr, List.map_set]
      have : (m.map (·.1)).set i x = m.map (·.1) := by
        apply List.ext_getElem?
        intro j
        rw [List.getElem?_set]
        by_cases e : i = j
        · subst e
          have hil : i < m.length := (List.getElem?_eq_some_iff.1 hi).1
          have h1 : m[i] = (x, u) := by have := List.getElem?_eq_getElem hil; rw [this] at hi; exact Option.some.inj hi
          simp [hil, h1]
        · simp [e]
      rw [this]; exact hn
/-- A delete. -/
theorem run_delete_ints (h : MapAt k W b m) {mt kt et ty : TypeId} {kt' : TypeId} (hm : P.underlying mt = some (.map kt et)) (hk : P.underlying kt = some (.int k)) (x : Int) :
    ∃ o, (Builtin.delete_ #[mt, kt'] ty #[.map (some b), .int k x]).run P W = .ok (.tuple #[]) (W.putObj b o) ∧ MapAt k (W.putObj b o) b (m.filter (fun p => !(p.1 == x))) := by
  have hlt := h.lt
  obtain ⟨es, c, hb, he, hn⟩ := h
  have hf := findNow_ints k x es.toList m 0 he
  cases hr : findL x m 0 with
  | none =>
    rw [hr] at hf
    refine ⟨.map es c, ?_, _, _, World.putObj_heap_same hlt, ?_, ?_⟩
    · simp [Builtin.delete_, Sem.run_bind, run_underlying hm, Result.andThen_ok, MapKept.run_getObj_map hb, MapKept.run_checkKey hk (show MapKept.IsKey (.int k) (.int k x) from rfl), MapKept.run_findKey hk hf, MapKept.run_setObj_map _ hb, World.putObj]
    · have := findL_none x m 0 hr
      rw [List.filter_eq_self.2, he]
      intro p hp
      have : p.1 ≠ x := fun e => this (by simp; exact ⟨p.2, e ▸ hp⟩)
      simpa using this
    · exact hn.sublist ((List.filter_sublist).map _)
  | some p =>
    obtain ⟨i, u⟩ := p
    rw [hr] at hf
    obtain ⟨_, hi⟩ := findL_some x m 0 i u hr
    rw [Nat.sub_zero] at hi
    have hil : i < m.length := (List.getElem?_eq_some_iff.1 hi).1
    refine ⟨.map (es.eraseIdxIfInBounds i) c, ?_, _, _, World.putObj_heap_same hlt, ?_, ?_⟩
    · simp [Builtin.delete_, Sem.run_bind, run_underlying hm, Result.andThen_ok, MapKept.run_getObj_map hb, MapKept.run_checkKey hk (show MapKept.IsKey (.int k) (.int k x) from rfl), MapKept.run_findKey hk hf, MapKept.run_setObj_map _ hb, World.putObj]
    · have e1 : m.filter (fun p => !(p.1 == x)) = m.eraseIdx i := by
        have hsplit : m = m.take i ++ (x, u) :: m.drop (i + 1) := by
          have h1 : m[i] = (x, u) := by have := List.getElem?_eq_getElem hil; rw [this] at hi; exact Option.some.inj hi
          rw [← h1, ← List.drop_eq_getElem_cons hil, List.take_append_drop]
        have hnd : (m.take i ++ (x, u) :: m.drop (i + 1)).map (·.1) |>.Nodup := by rw [← hsplit]; exact hn
        rw [List.map_append, List.map_cons, List.nodup_append] at hnd
        obtain ⟨h1, h2, h3⟩ := hnd
        rw [List.nodup_cons] at h2
        rw [List.eraseIdx_eq_take_drop_succ]
        conv => lhs; rw [hsplit]
        rw [List.filter_append, List.filter_cons]
        simp only [beq_self_eq_true, Bool.not_true, Bool.false_eq_true, if_false]
        rw [List.filter_eq_self.2, List.filter_eq_self.2]
        · intro p hp
          have hm : p.1 ∈ (m.drop (i + 1)).map (·.1) := List.mem_map_of_mem hp
          have : p.1 ≠ x := fun e => h2.1 (e ▸ hm)
          simpa using this
        · intro p hp
          have : p.1 ≠ x := fun e => h3 p.1 (List.mem_map_of_mem hp) x (by simp) e
          simpa using this
      rw [e1]
      have e2 : (es.eraseIdxIfInBounds i).toList = es.toList.eraseIdx i := by
        have hil2 : i < es.size := by have := congrArg List.length he; simp at this; omega
        simp [Array.eraseIdxIfInBounds, hil2]
      have mapErase : ∀ {α β : Type} (f : α → β) (l : List α) (i : Nat), (l.eraseIdx i).map f = (l.map f).eraseIdx i := by
        intro α β f l
        induction l with
        | nil => intro i; rfl
        | cons a l ih => intro i; cases i with
          | zero => rfl
          | succ i => simp [ih]
      rw [e2, mapErase, mapErase, he]
    · exact hn.sublist ((List.filter_sublist).map _)
end
end Go.Proofs.Ytmpnlhfnemidpaa
