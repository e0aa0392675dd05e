/- Used: contract. -/
import Derived.Test.YtoplchdnfmcbaaaVb
import Derived.Test.YtoplchdnfmcbaaaIter
import Derived.OwnWalkIn
import Derived.LoopNIn
import Derived.Deep.LoopGhost
import Derived.WalkSpells
namespace Go.Proofs.Ytoplchdnfmcbaaa
open Go.RowKit Go.Shelf Go.Maps Go.Sort

/-- A map of whole numbers, as the shelf reads it: the keys alone. -/
def RN : Value → Option (DataW Unit × List MemPlace) := fun _ => some (.lit (.bool true), [])
def DN (m : List (Int × Value)) : DataW Unit := .map ((m.map fun p => (Lit.int .i64 p.1, DataW.lit (.bool true))).foldr DataW.insert [])
theorem MapAt.owns {W : World} {b : Nat} {m : List (Int × Value)} (h : MapAt .i64 W b m) (hmax : m.length ≤ maxLen) {k : TypeId} (hk : Try.prog.underlying k = some (.int .i64)) (hw : ∀ p ∈ m, (Lit.int .i64 p.1).wf = true) : W.ownsMap Try.prog k RN b m.length (DN m) := by
  obtain ⟨es, c, hb, he, hn, hbn⟩ := h
  have hsz : es.size = m.length := by have := congrArg List.length he; simpa using this
  have hkey : ∀ p ∈ m, keyOf Try.prog k (.int .i64 p.1) = some (.int .i64 p.1) := fun p hp => by
    simp [keyOf, hk, mapKey, hw p hp]
  have hmem : ∀ x ∈ es.toList, ∃ p ∈ m, x.key = .int .i64 p.1 := fun x hx => by
    have : (x.key, x.val) ∈ es.toList.map (fun e => (e.key, e.val)) := List.mem_map.2 ⟨x, hx, rfl⟩
    rw [he] at this
    obtain ⟨p, hp, e⟩ := List.mem_map.1 this
    simp at e
    exact ⟨p, hp, e.1.symm⟩
  have hrd : ∀ x ∈ es.toList, ∀ p ∈ m, x.key = .int .i64 p.1 → Go.WideElems.rd Try.prog k RN x = some (.int .i64 p.1, .lit (.bool true)) := fun x hx p hp e => by
    unfold Go.WideElems.rd
    rw [e, hkey p hp]
    rfl
  refine ⟨es, c, hb, ⟨by omega, ⟨hbn.1, hbn.2, ?_⟩, fun x hx => ?_⟩, by omega, ?_⟩
  · have : es.toList.map (·.key) = m.map (fun p => Value.int .i64 p.1) := by
      have := congrArg (List.map Prod.fst) he
      simpa [List.map_map, Function.comp_def] using this
    rw [this]
    have h2 := hn
    rw [List.nodup_iff_pairwise_ne, List.pairwise_map] at h2 ⊢
    exact h2.imp fun h e => h (by simpa using e)
  · obtain ⟨p, hp, e⟩ := hmem x hx
    exact ⟨_, hrd x hx p hp e⟩
  · unfold DN
    congr 2
    have h1 : es.toList.map (Go.WideElems.rg Try.prog k RN) = (es.toList.map fun e => (e.key, e.val)).map (fun q => ((keyOf Try.prog k q.1).getD (.bool false), DataW.lit (.bool true))) := by
      rw [List.map_map]
      refine List.map_congr_left fun x hx => ?_
      obtain ⟨p, hp, e⟩ := hmem x hx
      simp only [Function.comp_apply]
      rw [Go.WideElems.rg_of (hrd x hx p hp e), e, hkey p hp]
      rfl
    rw [h1, he, List.map_map]
    exact List.map_congr_left fun p hp => by simp only [Function.comp_apply]; rw [hkey p hp]; rfl
theorem DN_keys (m : List (Int × Value)) : (intKeys (DN m)).Perm (m.map (·.1)) := by
  unfold DN intKeys
  refine ((Go.WideShapes.sorted_perm _).map _).trans ?_
  rw [List.map_map]
  exact List.Perm.of_eq (List.map_congr_left fun p _ => rfl)
theorem DN_size (m : List (Int × Value)) : Maps.size (DN m) = m.length := by
  unfold DN
  rw [Maps.size_eq, (Go.WideShapes.sorted_perm _).length_eq, List.length_map]
theorem used_keys {N : Nat} {m : List (Int × List Int)} (hg : Good N m) (hn : (m.map (·.1)).Nodup) {ss : List Int} (hp : ss.Perm (m.map (·.1))) : ss.mergeSort (fun x y => decide (x ≤ y)) = usedL (secL m) N := by
  have hs := usedL_sorted (secL m) N
  have hu : (m.map (·.1)).Perm (usedL (secL m) N) := by
    refine (List.perm_ext_iff_of_nodup hn (hs.imp fun h => by omega)).2 fun x => ?_
    rw [usedL_mem]
    constructor
    · intro hx
      obtain ⟨p, hp, rfl⟩ := List.mem_map.1 hx
      refine ⟨(hg p hp).1, ?_⟩
      have : ∀ (m : List (Int × List Int)), Good N m → p.1 ∈ m.map (·.1) → secL m p.1 ≠ zeros := by
        intro m
        induction m with
        | nil => intro _ h; simp at h
        | cons q m ih =>
          intro hg hx
          simp only [secL, List.lookup]
          cases hh : p.1 == q.1
          · refine ih (fun r hr => hg r (by simp [hr])) ?_
            rw [List.map_cons, List.mem_cons] at hx
            rcases hx with e | e
            · rw [e] at hh; simp at hh
            · exact e
          · exact (hg q (by simp)).2.1
      exact this m hg hx
    · rintro ⟨_, h⟩
      apply Classical.byContradiction
      intro hx
      apply h
      have : ∀ (m : List (Int × List Int)), x ∉ m.map (·.1) → m.lookup x = none := by
        intro m
        induction m with
        | nil => intro _; rfl
        | cons q m ih =>
          intro hx
          simp only [List.map_cons, List.mem_cons, not_or] at hx
          simp only [List.lookup]
          rw [show (x == q.1) = false by simpa using hx.1]
          exact ih hx.2
      simp only [secL, this m hx, Option.getD_none]
  refine (mergeSort_of_perm_i (hp.trans hu)).trans ?_
  refine List.mergeSort_of_pairwise ?_
  exact hs.imp fun h => by simp; omega
theorem own_base {w : World} {base base' : Nat} {e : TypeId} {size n : Nat} {v : Value} {xs : List Value} (h : w.ownsRow base e size v n xs) (hb : base' ≤ base) : w.ownsRow base' e size v n xs := by
  refine ⟨h.1, ?_⟩
  rcases h.2 with h | ⟨g, cap, cur, h1, h2, h3⟩
  · exact .inl h
  · exact .inr ⟨g, cap, cur, h1, by omega, h3⟩
theorem own_slice {w : World} {base : Nat} {e : TypeId} {size n : Nat} {v : Value} {xs : List Value} (h : w.ownsRow base e size v n xs) : ∃ A c, v = .slice A n c := by
  rcases h.2 with ⟨rfl, rfl⟩ | ⟨g, cap, cur, h1, h2, h3⟩
  · exact ⟨_, _, rfl⟩
  · exact ⟨_, _, h1⟩
theorem encM_keys (m : List (Int × List Int)) : (encM m).map (·.1) = m.map (·.1) := by simp [encM]
theorem used_len {N : Nat} {m : List (Int × List Int)} (hg : Good N m) (hn : (m.map (·.1)).Nodup) : m.length = (usedL (secL m) N).length := by
  rw [← used_keys hg hn (List.Perm.refl _), List.length_mergeSort, List.length_map]
theorem sortsA (m : Nat) : Go.Proofs.AnyZI.SortsIn Try.prog Try.sortedA_ren Fence.wide m :=
  ⟨fun blk off cap ss W hH hblk hsz => callsIn_wide.2 (AnyM.slices_Sort_int Try.sortA blk off cap ss W hH hblk hsz),
   fun p cap W => callsIn_wide.2 (AnyM.slices_Sort_int_none Try.sortA p cap W)⟩
set_option maxHeartbeats 1000000 in
set_option maxRecDepth 1000000 in
theorem c18 {w : World} {db mb N : Nat} {m : List (Int × List Int)} (h : IsDisk w db mb N m) : Calls Try.prog 18 #[.pointer (some ⟨db, 0, none⟩)] w fun e w' => ∃ q v, e = .returned (.func (.func 35) #[] #[.pointer (some ⟨q, 0, none⟩)]) ∧ w.heap.size ≤ q ∧ Cells w' q 51 #[v] ∧ w'.ownsRow w.heap.size 3 1 v (usedL (secL m) N).length ((usedL (secL m) N).map (Value.int .i64)) ∧ Below w.heap.size w w' := by
  refine (callsIn_wide (n := 6)).1 ?_
  have hm := h.hm
  have hml := hm.lt
  have hn : (m.map (·.1)).Nodup := by
    obtain ⟨es, c, _, _, hn, _⟩ := hm
    rw [← encM_keys]; exact hn
  have hlen := (used_len h.good hn).symm ▸ usedL_len (secL m) N
  have hN : N ≤ 32 := by have := h.hi; omega
  have hN1 : 1 ≤ N := by have := h.lo; omega
  have hel : (encM m).length = m.length := by simp [encM]
  have hown := hm.owns (k := 3) (by simp only [maxLen]; omega) Try.underlying3 (fun p hp => by
    have : p.1 ∈ (encM m).map (·.1) := List.mem_map.2 ⟨p, hp, rfl⟩
    rw [encM_keys] at this
    obtain ⟨q, hq, e⟩ := List.mem_map.1 this
    have : 0 ≤ p.1 ∧ p.1 < N := e ▸ (h.good q hq).1
    have a1 : IntKind.i64.min = -9223372036854775808 := by decide
    have a2 : IntKind.i64.max = 9223372036854775807 := by decide
    simp only [Lit.wf, Bool.and_eq_true, decide_eq_true_eq, a1, a2]; omega)
  have hseq : SeqGives Fence.wide 2 Try.prog 41 #[.pointer (some ⟨w.heap.size, 0, none⟩)] encZ (fun ss => ss.Perm (intKeys (DN (encM m)))) (Maps.size (DN (encM m))) (w.alloc (.cells #[.map (some mb)] 61)) :=
    AnyZI.keys_gives (ρ := Try.keysA_ren) { Try.keysA with } Fence.wide _ trivial rfl (by omega) w.heap.size mb (encM m).length _ _ (by simp) (by simp) (by
      obtain ⟨es, clock, hb, Ft, hs, hD⟩ := hown
      exact ⟨es, clock, (Below.heap_alloc _ _ mb hml).trans hb, Ft, hs, hD⟩)
  have cK : ∀ mb W, CallsIn Fence.wide 5 Try.prog 34 #[.map mb] W fun e w' => e = .returned (.func (.func 41) #[] #[.pointer (some ⟨W.heap.size, 0, none⟩)]) ∧ w' = W.alloc (.cells #[.map mb] 61) := fun mb W => AnyZI.keys_in Try.keysA Fence.wide 5 trivial rfl mb W
  have cS := AnyZI.sorted_in Try.sortedA Fence.wide 5 trivial trivial trivial trivial rfl (by omega) (sortsA _) (enters_of Try.func40 (by kernel_rfl) rfl) 41 #[.pointer (some ⟨w.heap.size, 0, none⟩)] trivial (enters_of Try.func41 (by kernel_rfl) rfl) _ _ (by rw [DN_size, hel]; simp only [maxLen]; omega) (by rw [DN_size, hel]; omega) _ hseq
  change CallsIn _ _ Try.prog 33 _ _ _ at cS
  have q1 := (h.hd.cell 1).trans (show _ = some (Value.map (some mb)) from rfl)
  have H23 := Lib.hid (c23 h)
  have HU := Lib.hid (fun ss => used_keys (ss := ss) h.good hn)
  have HS := Lib.hid cS
  have HK := Lib.hid cK
  have hz := zlit
  clear hn hlen hown hseq cK cS h hm hel
  have hf1 : Fence.wide.fn 23 := trivial
  have hf2 : Fence.wide.fn 34 := trivial
  have hf3 : Fence.wide.fn 33 := trivial
  refine callsIn_of_wp Try.func18 rfl trivial ?_ rfl
  simp only [Try.ntmps18, List.size_toArray, List.length_cons, List.length_nil, Nat.reduceAdd, Nat.reduceSub, Array.replicate_succ, Array.replicate_zero, List.push_toArray, List.append_toArray, List.nil_append, List.cons_append]
  gi_wp2_with (first
    | (gi_at_call 23; refine (callsIn_wide.2 H23.out).mono ?_; rintro e w' ⟨rfl, rfl⟩)
    | (gi_at_call 34; refine (HK.out _ _).mono ?_; rintro e w' ⟨rfl, rfl⟩)
    | (gi_at_call 33; refine HS.out.mono ?_; rintro e w1 ⟨v, ss, rfl, hS, hrow, hnil, hb⟩
       have hM := HU.out ss (hS.trans ((DN_keys _).trans (by rw [encM_keys])))
       have hR : w1.ownsRow w.heap.size 3 1 v (usedL (secL m) N).length ((usedL (secL m) N).map (Value.int .i64)) := by
         rw [← hM, List.length_mergeSort]
         exact own_base hrow (by simp)
       have hL : Below w.heap.size w w1 := ((Below.refl _ w).alloc (Nat.le_refl _) _).trans (hb.mono (by simp))
       obtain ⟨A, c, rfl⟩ := own_slice hR
       have HR := Lib.hid hR
       have HL := Lib.hid hL
       clear hS hrow hnil hb hM hR hL HK HS))
  go_ret
  have hb2 := (Below.refl _ w1).alloc (Nat.le_refl _) (.cells #[.slice A (usedL (secL m) N).length c] 51)
  exact ⟨_, _, rfl, HL.out.size, Cells.new _ _ _, own_below HR.out hb2, HL.out.trans (hb2.mono HL.out.size)⟩
end Go.Proofs.Ytoplchdnfmcbaaa
