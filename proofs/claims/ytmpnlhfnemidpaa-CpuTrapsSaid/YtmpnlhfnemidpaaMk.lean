/- The cpu's makes: the map of what Ops make, and its functions: contracts. -/
import Derived.Test.YtmpnlhfnemidpaaWo
import Derived.Test.YtmpnlhfnemidpaaMa
import Derived.Laws.EntriesVeiled
namespace Go.Proofs.Ytmpnlhfnemidpaa
open Go.RowKit Go.Shelf

/-- The world while the map is made: its entries so far, the blocks of the functions handed to 'two'. -/
structure MkAt (w W : World) (L : List (Int × Value)) (fs : List Value) : Prop where
  m : MapAt .i64 W w.heap.size L
  f : ∀ (j : Nat) (v : Value), fs[j]? = some v → Cells W (w.heap.size + 1 + j) 57 #[v]
  sz : W.heap.size = w.heap.size + 1 + fs.length
  low : Below w.heap.size w W
theorem below_putObj {w W : World} {n b : Nat} (h : Below n w W) (hb : n ≤ b) (o : Obj) : Below n w (W.putObj b o) :=
  ⟨h.os, h.tape, h.output, by simpa [World.putObj] using h.size, fun k hk => (World.putObj_heap_other (by omega)).trans (h.block k hk)⟩
theorem MkAt.put {w W : World} {L L' : List (Int × Value)} {fs : List Value} (h : MkAt w W L fs) {o : Obj} (hm : MapAt .i64 (W.putObj w.heap.size o) w.heap.size L') : MkAt w (W.putObj w.heap.size o) L' fs :=
  ⟨hm, fun j v hj => (h.f j v hj).put o (by omega), by rw [← h.sz]; simp [World.putObj], below_putObj h.low (Nat.le_refl _) o⟩
theorem MkAt.new (w : World) : MkAt w (w.alloc (.map #[] 0)) [] [] :=
  ⟨MapAt.new _ _, fun j v h => by simp at h, by simp, (Below.refl _ _).alloc (Nat.le_refl _) _⟩
theorem MkAt.more {w W : World} {L : List (Int × Value)} {fs : List Value} (h : MkAt w W L fs) (v : Value) : MkAt w (W.alloc (.cells #[v] 57)) L (fs ++ [v]) :=
  ⟨h.m.of_block (Below.heap_alloc W _ _ h.m.lt), fun j u hj => by
    rcases Nat.lt_or_ge j fs.length with hl | hl
    · rw [List.getElem?_append_left hl] at hj
      exact (h.f j u hj).alloc _
    · have e : j = fs.length := by have := (List.getElem?_eq_some_iff.1 hj).1; simp at this; omega
      subst e
      simp at hj
      subst hj
      rw [← h.sz]; exact Cells.new _ _ _, by simp [h.sz]; omega, h.low.alloc h.low.size _⟩
section
variable {ops : Array Oper} {rest : List Oper} {o : Oper} {a : Act} {w W : World} {Q : Exit → Act → World → Prop} {L : List (Int × Value)} {fs : List Value}
theorem wpList_insert_mk (hK : MkAt w W L fs) (hg : o.guard = none) (x y z : Operand) (ho : o.op = .insert 60 x y z) (hx : a.eval x = .map (some w.heap.size)) (k : Int) (hy : a.eval y = .int .i64 k) (v : Value) (hz : a.eval z = v) (hf : findL k L 0 = none)
    (hn : ∀ W', MkAt w W' (L ++ [(k, v)]) fs → wpList Try.prog ops Q rest (a.put o.dst undef) W') : wpList Try.prog ops Q (o :: rest) a W :=
  wpList_plain hg fun K hk => by
    obtain ⟨ob, hr, hm⟩ := run_mapUpdate_ints hK.m Try.underlying60 Try.underlying52 k v
    rw [show updL k v L = L ++ [(k, v)] by simp only [updL, hf]] at hm
    unfold Oper.wp execOp
    simp only [ho, hx, hy, hz, Sem.run_bind, hr, Result.andThen_ok, Sem.run_pure]
    exact hk _ _ (hn _ (hK.put hm))
end
theorem cTwo {w W : World} {L : List (Int × Value)} {fs : List Value} (hK : MkAt w W L fs) (g : FuncId) : Calls Try.prog 43 #[.func (.func g) #[] #[]] W fun e w' => e = .returned (.func (.func 44) #[] #[.pointer (some ⟨w.heap.size + 1 + fs.length, 0, none⟩)]) ∧ MkAt w w' L (fs ++ [.func (.func g) #[] #[]]) := by
  have hm := hK.more (.func (.func g) #[] #[])
  have hs := hK.sz
  have HS := Lib.hid hs
  have HM := Lib.hid hm
  clear hs hm hK
  go_enter Try.func43, Try.ntmps43
  go_wp2
  go_ret
  refine ⟨?_, HM.out⟩
  rw [← HS.out]; rfl
/-- The map's entries. -/
def mkL (B : Nat) : List (Int × Value) := [(2, .func (.func 45) #[] #[]), (3, .func (.func 46) #[] #[])] ++ (List.range 9).map fun (j : Nat) => ((j : Int) + 4, .func (.func 44) #[] #[.pointer (some ⟨B + 1 + j, 0, none⟩)])
def mkF : List Value := [.func (.func 21) #[] #[], .func (.func 47) #[] #[], .func (.func 25) #[] #[], .func (.func 48) #[] #[], .func (.func 49) #[] #[], .func (.func 50) #[] #[], .func (.func 51) #[] #[], .func (.func 53) #[] #[], .func (.func 55) #[] #[]]
set_option maxHeartbeats 1000000 in
theorem cMakes (w : World) : Calls Try.prog 22 #[] w fun e w' => e = .returned (.map (some w.heap.size)) ∧ MkAt w w' (mkL w.heap.size) mkF := by
  have hmm := @run_makeMap Try.prog
  have hK := MkAt.new w
  go_enter Try.func22, Try.ntmps22
  go_wp2_with (first
    | (refine wpList_insert_mk (by assumption) rfl _ _ _ rfl rfl _ rfl (.func (.func _) #[] _) rfl (by simp [findL]) ?_; intro W' hK')
    | (go_at_call 43; refine (cTwo (by assumption) _).mono ?_; rintro e w' ⟨rfl, hK'⟩))
  go_ret
  exact ⟨rfl, hK'⟩
end Go.Proofs.Ytmpnlhfnemidpaa
