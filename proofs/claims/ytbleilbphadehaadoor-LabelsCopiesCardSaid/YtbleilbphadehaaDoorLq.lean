/- What a table answers: plain functions and their laws. -/
import Derived.Test.YtbleilbphadehaaDoorLk
namespace Go.Proofs.YtbleilbphadehaaDoor

/-- Keep: the sets behind it, a number, an error. -/
def keepR (most : Int) (L : List Int) (x : Int) : List Int × Int × Int :=
  if 65536 ≤ x then (L, 0, 2)
  else match idxL x L 0 with
    | some n => (L, n, 0)
    | none => if most ≤ L.length then (L, 0, 120) else (L ++ [x], L.length, 0)
def inR (L : List Int) (n : Int) : Prop := 0 ≤ n ∧ n < L.length
instance (L : List Int) (n : Int) : Decidable (inR L n) := by unfold inR; infer_instance
def setR (L : List Int) (n : Int) : Int × Int := if inR L n then (L.getD n.toNat 0, 0) else (0, 5)
def orZ (x y : Int) : Int := ((x.toNat ||| y.toNat : Nat) : Int)
def joinR (most : Int) (L : List Int) (a b : Int) : List Int × Int × Int :=
  if inR L a ∧ inR L b then keepR most L (orZ (L.getD a.toNat 0) (L.getD b.toNat 0)) else (L, 0, 5)
theorem inR_get {L : List Int} {n : Int} (h : inR L n) : L[n.toNat]? = some (L.getD n.toNat 0) := by
  obtain ⟨h0, h1⟩ := h
  rw [List.getD_eq_getElem?_getD, List.getElem?_eq_getElem (by omega)]; rfl
theorem orZ_lt {x y : Int} (hx : 0 ≤ x ∧ x < 65536) (hy : 0 ≤ y ∧ y < 65536) : 0 ≤ orZ x y ∧ orZ x y < 65536 := by
  have := or_lt16 (a := x.toNat) (b := y.toNat) (by omega) (by omega)
  unfold orZ; omega
theorem TOk.get {most : Int} {L : List Int} {J : List ((Int × Int) × Int)} (h : TOk most L J) {n : Int} (hn : inR L n) : 0 ≤ L.getD n.toNat 0 ∧ L.getD n.toNat 0 < 65536 :=
  h.sets _ (List.mem_of_getElem? (inR_get hn))
/-- A new set behind. -/
theorem TOk.push {most : Int} {L : List Int} {J : List ((Int × Int) × Int)} (h : TOk most L J) {x : Int} (hx : 0 ≤ x ∧ x < 65536) (hi : idxL x L 0 = none) (hl : (L.length : Int) < most) : TOk most (L ++ [x]) J where
  bnd := h.bnd
  pos := by simp
  len := by simp; omega
  nd := List.nodup_append.2 ⟨h.nd, by simp, fun a ha b hb e => by simp at hb; subst hb; subst e; exact idxL_none.1 hi ha⟩
  sets := fun y hy => by
    rw [List.mem_append] at hy
    rcases hy with hy | hy
    · exact h.sets y hy
    · simp at hy; subst hy; exact hx
  join := fun a b n hm => by
    obtain ⟨x', y', a0, b0, n0, ha, hb, hn⟩ := h.join a b n hm
    have up : ∀ {i : Nat} {v : Int}, L[i]? = some v → (L ++ [x])[i]? = some v := fun {i v} hv => by
      rw [List.getElem?_append_left (List.getElem?_eq_some_iff.1 hv).1]; exact hv
    exact ⟨x', y', a0, b0, n0, up ha, up hb, up hn⟩
/-- One more that was joined. -/
theorem TOk.joined {most : Int} {L : List Int} {J : List ((Int × Int) × Int)} (h : TOk most L J) {a b n : Int} {x y : Nat} (a0 : 0 ≤ a) (b0 : 0 ≤ b) (n0 : 0 ≤ n) (ha : L[a.toNat]? = some (x : Int)) (hb : L[b.toNat]? = some (y : Int)) (hn : L[n.toNat]? = some ((x ||| y : Nat) : Int)) : TOk most L (J ++ [((a, b), n)]) :=
  ⟨h.bnd, h.pos, h.len, h.nd, h.sets, fun a' b' n' hm => by
    rw [List.mem_append] at hm
    rcases hm with hm | hm
    · exact h.join a' b' n' hm
    · simp at hm
      obtain ⟨⟨rfl, rfl⟩, rfl⟩ := hm
      exact ⟨x, y, a0, b0, n0, ha, hb, hn⟩⟩
theorem orZ_comm (x y : Int) : orZ x y = orZ y x := by unfold orZ; rw [Nat.or_comm]
/-- What was joined is what Keep would tell. -/
theorem TOk.cached {most : Int} {L : List Int} {J : List ((Int × Int) × Int)} (h : TOk most L J) {a b n : Int} (ha : inR L a) (hb : inR L b) (hm : J.lookup (min a b, max a b) = some n) : joinR most L a b = (L, n, 0) := by
  have hmem : ((min a b, max a b), n) ∈ J := by
    have : ∀ (J : List ((Int × Int) × Int)), J.lookup (min a b, max a b) = some n → ((min a b, max a b), n) ∈ J := by
      intro J
      induction J with
      | nil => intro h; simp at h
      | cons p J ih =>
        intro h
        obtain ⟨k, v⟩ := p
        by_cases e : (min a b, max a b) = k
        · subst e; simp at h; subst h; simp
        · rw [List.lookup_cons, show ((min a b, max a b) == k) = false from by simpa using e] at h
          exact List.mem_cons_of_mem _ (ih h)
    exact this J hm
  obtain ⟨x, y, a0, b0, n0, hx, hy, hz⟩ := h.join _ _ _ hmem
  have hor : orZ (L.getD a.toNat 0) (L.getD b.toNat 0) = ((x ||| y : Nat) : Int) := by
    have ga := inR_get ha
    have gb := inR_get hb
    rcases Int.le_total a b with hab | hab
    · rw [Int.min_eq_left hab] at hx
      rw [Int.max_eq_right hab] at hy
      rw [hx] at ga; rw [hy] at gb
      rw [← Option.some.inj ga, ← Option.some.inj gb]; rfl
    · rw [Int.min_eq_right hab] at hx
      rw [Int.max_eq_left hab] at hy
      rw [hx] at gb; rw [hy] at ga
      rw [← Option.some.inj ga, ← Option.some.inj gb, orZ_comm]; rfl
  have hlt := orZ_lt (h.get ha) (h.get hb)
  unfold joinR
  rw [if_pos ⟨ha, hb⟩, hor]
  rw [hor] at hlt
  unfold keepR
  rw [if_neg (by omega), idxL_get h.nd hz 0]
  have : ((0 + n.toNat : Nat) : Int) = n := by omega
  simp only [this]
end Go.Proofs.YtbleilbphadehaaDoor
