/- Two maps of sectors held against each other: the plain law; the map as the shelf reads it. -/
import Derived.Test.YtoplchdnfmcbaaaVf
namespace Go.Proofs.Ytoplchdnfmcbaaa
open Go.RowKit Go.Shelf Go.Maps

/-- A map of whole numbers, as the shelf reads it: each value held as it is. -/
def RH : Value → Option (DataW Value × List MemPlace) := fun v => some (.held v, [])
def LH (m : List (Int × Value)) : List (Lit × DataW Value) := (m.map fun p => (Lit.int .i64 p.1, DataW.held p.2)).foldr DataW.insert []
def DH (m : List (Int × Value)) : DataW Value := .map (LH m)
theorem MapAt.ownsH {W : World} {b : Nat} {m : List (Int × Value)} (h : MapAt .i64 W b m) (hmax : m.length ≤ maxLen) {k : TypeId} (hk : Try.prog.underlying k = some (.int .i64)) (hw : ∀ p ∈ m, (Lit.int .i64 p.1).wf = true) : W.ownsMap Try.prog k RH b m.length (DH m) := by
  obtain ⟨es, c, hb, he, hn, hbn⟩ := h
  have hsz : es.size = m.length := by have := congrArg List.length he; simpa using this
  have hkey : ∀ p ∈ m, keyOf Try.prog k (.int .i64 p.1) = some (.int .i64 p.1) := fun p hp => by
    simp [keyOf, hk, mapKey, hw p hp]
  have hmem : ∀ x ∈ es.toList, ∃ p ∈ m, x.key = .int .i64 p.1 ∧ x.val = p.2 := fun x hx => by
    have : (x.key, x.val) ∈ es.toList.map (fun e => (e.key, e.val)) := List.mem_map.2 ⟨x, hx, rfl⟩
    rw [he] at this
    obtain ⟨p, hp, e⟩ := List.mem_map.1 this
    simp at e
    exact ⟨p, hp, e.1.symm, e.2.symm⟩
  have hrd : ∀ x ∈ es.toList, ∀ p ∈ m, x.key = .int .i64 p.1 → x.val = p.2 → Go.WideElems.rd Try.prog k RH x = some (.int .i64 p.1, .held p.2) := fun x hx p hp e e2 => by
    unfold Go.WideElems.rd
    rw [e, hkey p hp, e2]
    rfl
  refine ⟨es, c, hb, ⟨by omega, ⟨hbn.1, hbn.2, ?_⟩, fun x hx => ?_⟩, by omega, ?_⟩
  · have : es.toList.map (·.key) = m.map (fun p => Value.int .i64 p.1) := by
      have := congrArg (List.map Prod.fst) he
      simpa [List.map_map, Function.comp_def] using this
    rw [this]
    have h2 := hn
    rw [List.nodup_iff_pairwise_ne, List.pairwise_map] at h2 ⊢
    exact h2.imp fun h e => h (by simpa using e)
  · obtain ⟨p, hp, e, e2⟩ := hmem x hx
    exact ⟨_, hrd x hx p hp e e2⟩
  · unfold DH LH
    congr 2
    have h1 : es.toList.map (Go.WideElems.rg Try.prog k RH) = (es.toList.map fun e => (e.key, e.val)).map (fun q => ((keyOf Try.prog k q.1).getD (.bool false), DataW.held q.2)) := by
      rw [List.map_map]
      refine List.map_congr_left fun x hx => ?_
      obtain ⟨p, hp, e, e2⟩ := hmem x hx
      simp only [Function.comp_apply]
      rw [Go.WideElems.rg_of (hrd x hx p hp e e2), e, e2, hkey p hp]
      rfl
    rw [h1, he, List.map_map]
    exact List.map_congr_left fun p hp => by simp only [Function.comp_apply]; rw [hkey p hp]; rfl
theorem LH_mem {m : List (Int × Value)} {k : Lit} {d : DataW Value} : (k, d) ∈ LH m ↔ ∃ p ∈ m, k = .int .i64 p.1 ∧ d = .held p.2 := by
  unfold LH
  rw [(Go.WideShapes.sorted_perm _).mem_iff, List.mem_map]
  constructor
  · rintro ⟨p, hp, e⟩
    simp at e
    exact ⟨p, hp, e.1.symm, e.2.symm⟩
  · rintro ⟨p, hp, rfl, rfl⟩
    exact ⟨p, hp, rfl⟩
theorem DH_has {m : List (Int × Value)} {p : Int × Value} (hp : p ∈ m) : Maps.has (DH m) (.int .i64 p.1) = true :=
  List.any_eq_true.2 ⟨(_, _), LH_mem.2 ⟨p, hp, rfl, rfl⟩, Go.WideAt.sameKey_self (by trivial)⟩
theorem DH_size (m : List (Int × Value)) : Maps.size (DH m) = m.length := by
  unfold DH LH
  rw [Maps.size_eq, (Go.WideShapes.sorted_perm _).length_eq, List.length_map]
/-- Which entry has come. -/
theorem DH_came {m : List (Int × List Int)} {x : Int} {d : DataW Value} (h : ∀ zd, (DH (encM m)).atKey (.int .i64 x) zd = d) : ∃ l, (x, l) ∈ m ∧ d = .held (secV l) := by
  have hh := Maps.has_true_of_atKey h
  obtain ⟨q, hq, hs⟩ := List.any_eq_true.1 (show (LH (encM m)).any (fun p => p.1.sameKey (.int .i64 x)) = true from hh)
  have h0 := h .nil
  unfold DH DataW.atKey at h0
  simp only at h0
  cases hf : (LH (encM m)).find? (fun p => p.1.sameKey (.int .i64 x)) with
  | none => exact absurd hs (by simpa using List.find?_eq_none.1 hf q hq)
  | some r =>
    rw [hf] at h0
    simp only at h0
    have hr := List.mem_of_find?_eq_some hf
    have hk : r.1 = .int .i64 x := Go.WideAt.sameKey_eq (by simpa using List.find?_some hf)
    obtain ⟨p, hp, e1, e2⟩ := LH_mem.1 (show (r.1, r.2) ∈ LH (encM m) from hr)
    rw [hk] at e1
    simp at e1
    unfold encM at hp
    obtain ⟨s, hs, e⟩ := List.mem_map.1 hp
    subst e
    simp only at e1 e2
    exact ⟨s.2, by rw [e1]; exact hs, by rw [← h0, e2]⟩
theorem lookup_mem {m : List (Int × List Int)} (hn : (m.map (·.1)).Nodup) {x : Int} {l : List Int} (h : (x, l) ∈ m) : m.lookup x = some l := by
  induction m with
  | nil => cases h
  | cons p m ih =>
    rw [List.map_cons, List.nodup_cons] at hn
    simp only [List.lookup]
    rcases List.mem_cons.1 h with h | h
    · subst h; simp
    · have hne : x ≠ p.1 := fun e => hn.1 (List.mem_map.2 ⟨_, h, e⟩)
      rw [show (x == p.1) = false by simpa using hne]
      exact ih hn.2 h
theorem mem_lookup {m : List (Int × List Int)} {x : Int} {l : List Int} (h : m.lookup x = some l) : (x, l) ∈ m := by
  induction m with
  | nil => cases h
  | cons p m ih =>
    simp only [List.lookup] at h
    cases hh : x == p.1
    · rw [hh] at h; exact List.mem_cons_of_mem _ (ih h)
    · rw [hh] at h
      simp at h hh
      subst h; subst hh
      simp
theorem lookup_enc (m : List (Int × List Int)) (x : Int) : (encM m).lookup x = (m.lookup x).map secV := by
  induction m with
  | nil => rfl
  | cons p m ih =>
    simp only [encM, List.map_cons, List.lookup] at ih ⊢
    cases h : x == p.1
    · exact ih
    · rfl
theorem sub_back {α : Type} : ∀ {l k : List α}, l.Nodup → (∀ a ∈ l, a ∈ k) → k.length ≤ l.length → ∀ a ∈ k, a ∈ l
  | [], k, _, _, h => by
    have : k = [] := List.eq_nil_of_length_eq_zero (by simpa using h)
    subst this; intro a ha; cases ha
  | x :: l, k, hn, hs, h => by
    obtain ⟨s, t, rfl⟩ := List.append_of_mem (hs x (by simp))
    rw [List.nodup_cons] at hn
    have hb := sub_back (l := l) (k := s ++ t) hn.2 (fun a ha => by
      have h1 := hs a (by simp [ha])
      have : a ≠ x := fun e => hn.1 (e ▸ ha)
      simp at h1 ⊢
      rcases h1 with h1 | h1 | h1
      · exact .inl h1
      · exact absurd h1 this
      · exact .inr h1) (by simp at h ⊢; omega)
    intro a ha
    simp at ha
    rcases ha with ha | ha | ha
    · simp [hb a (by simp [ha])]
    · simp [ha]
    · simp [hb a (by simp [ha])]
theorem len_back {α : Type} : ∀ {l k : List α}, l.Nodup → (∀ a ∈ l, a ∈ k) → l.length ≤ k.length
  | [], _, _, _ => Nat.zero_le _
  | x :: l, k, hn, hs => by
    obtain ⟨s, t, rfl⟩ := List.append_of_mem (hs x (by simp))
    rw [List.nodup_cons] at hn
    have hb := len_back (l := l) (k := s ++ t) hn.2 (fun a ha => by
      have h1 := hs a (by simp [ha])
      have : a ≠ x := fun e => hn.1 (e ▸ ha)
      simp at h1 ⊢
      rcases h1 with h1 | h1 | h1
      · exact .inl h1
      · exact absurd h1 this
      · exact .inr h1)
    simp at hb ⊢; omega
theorem Good.mem {N : Int} {m : List (Int × List Int)} (hg : Good N m) (hn : (m.map (·.1)).Nodup) {x : Int} : x ∈ m.map (·.1) ↔ secL m x ≠ zeros := by
  constructor
  · intro h
    obtain ⟨p, hp, rfl⟩ := List.mem_map.1 h
    unfold secL
    rw [lookup_mem hn (show (p.1, p.2) ∈ m from hp)]
    exact (hg p hp).2.1
  · intro h
    unfold secL at h
    cases hl : m.lookup x with
    | none => rw [hl] at h; exact absurd rfl h
    | some l => exact List.mem_map.2 ⟨_, mem_lookup hl, rfl⟩
section
variable {N : Int} {m m' : List (Int × List Int)}
theorem alike_all (hg : Good N m) (hg' : Good N m') (hn : (m.map (·.1)).Nodup) (hn' : (m'.map (·.1)).Nodup) (hl : m.length = m'.length) (h : ∀ x l, (x, l) ∈ m → m'.lookup x = some l) (j : Int) : secL m j = secL m' j := by
  have hs : ∀ x ∈ m.map (·.1), x ∈ m'.map (·.1) := fun x hx => by
    obtain ⟨p, hp, rfl⟩ := List.mem_map.1 hx
    exact List.mem_map.2 ⟨_, mem_lookup (h p.1 p.2 hp), rfl⟩
  have hb := sub_back hn hs (by simp; omega)
  by_cases hj : j ∈ m.map (·.1)
  · obtain ⟨p, hp, rfl⟩ := List.mem_map.1 hj
    unfold secL
    rw [lookup_mem hn (show (p.1, p.2) ∈ m from hp), h p.1 p.2 hp]
  · have hj' : j ∉ m'.map (·.1) := fun e => hj (hb j e)
    rw [hg.mem hn] at hj
    rw [hg'.mem hn'] at hj'
    rw [Decidable.not_not.1 hj, Decidable.not_not.1 hj']
theorem Good.out (hg : Good N m) {j : Int} (hj : ¬ (0 ≤ j ∧ j < N)) : secL m j = zeros := by
  unfold secL
  cases hl : m.lookup j with
  | none => rfl
  | some l => exact absurd (hg _ (mem_lookup hl)).1 hj
theorem same_all (hg : Good N m) (hg' : Good N m') (h : ∀ j, 0 ≤ j ∧ j < N → secL m j = secL m' j) (j : Int) : secL m j = secL m' j := by
  by_cases hj : 0 ≤ j ∧ j < N
  · exact h j hj
  · rw [hg.out hj, hg'.out hj]
theorem alike_len (hg : Good N m) (hg' : Good N m') (hn : (m.map (·.1)).Nodup) (hn' : (m'.map (·.1)).Nodup) (h : ∀ j, secL m j = secL m' j) : m.length = m'.length := by
  have h1 := len_back hn (k := m'.map (·.1)) (fun x hx => (hg'.mem hn').2 (by rw [← h]; exact (hg.mem hn).1 hx))
  have h2 := len_back hn' (k := m.map (·.1)) (fun x hx => (hg.mem hn).2 (by rw [h]; exact (hg'.mem hn').1 hx))
  simp at h1 h2
  omega
theorem alike_look (hg : Good N m) (hn : (m.map (·.1)).Nodup) (h : ∀ j, secL m j = secL m' j) {x : Int} {l : List Int} (hx : (x, l) ∈ m) : m'.lookup x = some l := by
  have h1 : secL m x = l := by unfold secL; rw [lookup_mem hn hx]; rfl
  have h2 := (hg _ hx).2.1
  rw [h] at h1
  unfold secL at h1
  cases hl : m'.lookup x with
  | none => rw [hl] at h1; exact absurd h1.symm h2
  | some k => rw [hl] at h1; exact congrArg some h1
end
end Go.Proofs.Ytoplchdnfmcbaaa
