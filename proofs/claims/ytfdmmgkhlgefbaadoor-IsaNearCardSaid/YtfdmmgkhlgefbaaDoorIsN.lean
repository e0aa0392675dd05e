/- IsaNear: its walk. -/
import Derived.Test.YtfdmmgkhlgefbaaDoorIsE
import Derived.BigRegion
import Derived.OneCell
import Derived.Maps.AppendAt
import Derived.Deep.DeepCutAuto
import Derived.Deep.LoopGhost
namespace Go.Proofs.YtfdmmgkhlgefbaaDoor
open Go.RowKit Go.Shelf

theorem info_inst : (Tryd.prog.info? 26).map (fun i => (i.zero, i.size, i.bytes)) = some (some (.agg (instA 0 0 0 0)), 4, 32) := by kernel_rfl
def flatI (l : List (Int × Int × Int × Int)) : List Value := l.flatMap fun x => [.int .i64 x.1, .int .i64 x.2.1, .int .i64 x.2.2.1, .int .i64 x.2.2.2]
def NearAt (B : Nat) (w : World) (n : Nat) (v : Value) (wr : World) : Prop :=
  ∃ (ls : List (Int × Int × Int × Int)) (ao : Option Addr) (cv : Nat), ls.length = n ∧ v = .slice ao ls.length cv ∧ wr.ownsRow B 26 4 v ls.length (flatI ls) ∧ Below B w wr
theorem NearAt.more {B : Nat} {w : World} {ls : List (Int × Int × Int × Int)} {v' : Value} {w3 : World} {o a b n : Int} (hown : w3.ownsRow B 26 4 v' (ls.length + 1) (flatI ls ++ [.int .i64 o, .int .i64 a, .int .i64 b, .int .i64 n])) (hb : Below B w w3) : NearAt B w (ls.length + 1) v' w3 := by
  obtain ⟨g3, cap3, hv3⟩ : ∃ g3 cap3, v' = .slice (some ⟨g3, 0, none⟩) (ls.length + 1) cap3 := by
    rcases hown.2 with ⟨_, h⟩ | ⟨g3, cap3, _, h, _⟩
    · omega
    · exact ⟨g3, cap3, h⟩
  exact ⟨ls ++ [(o, a, b, n)], some ⟨g3, 0, none⟩, cap3, by simp, by rw [hv3]; simp, by simpa [flatI] using hown, hb⟩
theorem cell_row_of (w : World) (l : List Value) (t : TypeId) : ∀ (j : Nat) u, l[j]? = some u → (w.alloc (.cells l.toArray t)).cell? ((⟨w.heap.size, 0, none⟩ : Addr).add j) = some u := by
  intro j u hj
  rw [addr_off, Nat.zero_add, (Cells.new w t l.toArray).cell j]
  simpa using hj
theorem flatI_get {l : List (Int × Int × Int × Int)} : ∀ {i : Nat} {x : Int × Int × Int × Int}, l[i]? = some x → (flatI l)[i * 4]? = some (.int .i64 x.1) ∧ (flatI l)[i * 4 + 1]? = some (.int .i64 x.2.1) ∧ (flatI l)[i * 4 + 2]? = some (.int .i64 x.2.2.1) ∧ (flatI l)[i * 4 + 3]? = some (.int .i64 x.2.2.2) := by
  induction l with
  | nil => intro i x h; simp at h
  | cons y l ih =>
    intro i x h
    cases i with
    | zero => simp at h; subst h; exact ⟨rfl, rfl, rfl, rfl⟩
    | succ i =>
      obtain ⟨h1, h2, h3, h4⟩ := ih (i := i) (x := x) (by simpa using h)
      have e : ∀ j, (flatI (y :: l))[(i + 1) * 4 + j]? = (flatI l)[i * 4 + j]? := fun j => by
        rw [show (i + 1) * 4 + j = (i * 4 + j) + 4 by omega]; rfl
      exact ⟨(e 0).trans h1, (e 1).trans h2, (e 2).trans h3, (e 3).trans h4⟩
theorem RdI.of_own {W : World} {base g cap : Nat} {l : List (Int × Int × Int × Int)} (h : W.ownsRow base 26 4 (.slice (some ⟨g, 0, none⟩) l.length cap) l.length (flatI l)) : RdI W W.heap.size (some ⟨g, 0, none⟩) l :=
  ⟨fun _ => ⟨g, 0, rfl, (h.lt g rfl).2⟩, fun g' off e i op a b n hx => by
    simp at e
    obtain ⟨rfl, rfl⟩ := e
    obtain ⟨h1, h2, h3, h4⟩ := flatI_get hx
    have hc := h.cells (g := g) rfl
    have k1 := hc _ _ h1
    have k2 := hc _ _ h2
    have k3 := hc _ _ h3
    have k4 := hc _ _ h4
    rw [addr_off] at k1 k2 k3 k4
    exact ⟨k1, by rw [Nat.add_assoc]; exact k2, by rw [Nat.add_assoc]; exact k3, by rw [Nat.add_assoc]; exact k4⟩⟩
structure TwoAt (W wx : World) (Ba Bb : Nat) (o a b n : Int) : Prop where
  ra : Cells wx Ba 26 (instA o a b n)
  rb : Cells wx Bb 26 (instA o a b n)
  low : Below W.heap.size W wx
  la : W.heap.size ≤ Ba
  lb : W.heap.size ≤ Bb
  ne : Ba ≠ Bb
def TwoCut (W : World) (o a b n : Int) (s5 s6 : Value) (wx : World) : Prop := ∃ Ba Bb, s5 = .pointer (some ⟨Ba, 0, none⟩) ∧ s6 = .pointer (some ⟨Bb, 0, none⟩) ∧ TwoAt W wx Ba Bb o a b n
theorem tab_at (k : Nat) (hk : k < 30) : ∃ va : Int, [Value.int .i64 0, .int .i64 1, .int .i64 (-1), .int .i64 32767, .int .i64 32768, .int .i64 (-32768), .int .i64 (-32769), .int .i64 5, .int .i64 6, .int .i64 65536][k / 3]? = some (.int .i64 va) := by
  rcases (show k / 3 = 0 ∨ k / 3 = 1 ∨ k / 3 = 2 ∨ k / 3 = 3 ∨ k / 3 = 4 ∨ k / 3 = 5 ∨ k / 3 = 6 ∨ k / 3 = 7 ∨ k / 3 = 8 ∨ k / 3 = 9 by omega) with h | h | h | h | h | h | h | h | h | h
  all_goals
    rw [h]
    exact ⟨_, rfl⟩
theorem NearAt.two {B : Nat} {w : World} {ls : List (Int × Int × Int × Int)} {v' : Value} {w3 : World} {o a b n o' a' b' n' : Int} (hown : w3.ownsRow B 26 4 v' (ls.length + 1 + 1) (flatI ls ++ [.int .i64 o, .int .i64 a, .int .i64 b, .int .i64 n] ++ [.int .i64 o', .int .i64 a', .int .i64 b', .int .i64 n'])) (hb : Below B w w3) : NearAt B w (ls.length + 2) v' w3 := by
  have := NearAt.more (ls := ls ++ [(o, a, b, n)]) (o := o') (a := a') (b := b') (n := n') (by simpa [flatI] using hown) hb
  simpa using this
theorem two_ab (W : World) (o a b n : Int) : TwoCut W o a b n (.pointer (some ⟨W.heap.size, 0, none⟩)) (.pointer (some ⟨W.heap.size + 1, 0, none⟩)) ((W.alloc (.cells (instA o a b n) 26)).alloc (.cells (instA o a b n) 26)).drew := by
  obtain ⟨k1, k2, k3, k4⟩ := cells2 W (instA o a b n) (instA o a b n) 26 26
  exact ⟨_, _, rfl, rfl, k1, k2, k3.drew, by omega, by omega, by omega⟩
theorem two_ba (W : World) (o a b n : Int) : TwoCut W o a b n (.pointer (some ⟨W.heap.size + 1, 0, none⟩)) (.pointer (some ⟨W.heap.size, 0, none⟩)) ((W.alloc (.cells (instA o a b n) 26)).alloc (.cells (instA o a b n) 26)).drew := by
  obtain ⟨k1, k2, k3, k4⟩ := cells2 W (instA o a b n) (instA o a b n) 26 26
  exact ⟨_, _, rfl, rfl, k2, k1, k3.drew, by omega, by omega, by omega⟩
set_option maxRecDepth 100000 in
set_option maxHeartbeats 4000000 in
theorem cIsaNear {o a b n : Int} {w : World} (ht : Tb w) : Calls Tryd.prog 6 #[.agg (instA o a b n)] w fun e w' => e = .returned (.bool true) ∧ Below w.heap.size w w' := by
  obtain ⟨i0, hi, hz0, hz1, hz2⟩ := info_parts info_inst
  obtain ⟨K1, hb0, s0⟩ := cells1 w (instA o a b n) 26
  have T1 := ht.b hb0
  go_enter Tryd.func6, Tryd.ntmps6
  go_wp2_with fail
  generalize w.alloc _ = W1 at *
  go_loopw [3, 4] (fun v i wr => ∃ k : Nat, k ≤ 30 ∧ i = .int .i64 k ∧ NearAt W1.heap.size W1 (2 * k) v wr) (fun _ i _ => 30 - (intOf i).toNat)
  case atStart => exact ⟨0, Nat.zero_le _, rfl, [], none, 0, rfl, rfl, World.ownsRow_nil _ _ _ _, Below.refl _ _⟩
  case round =>
    obtain ⟨k, hk, rfl, ls, ao, cv, hlen, rfl, hown, hb⟩ := hrel
    have hsize := hb.size
    have HL := Lib.hid hlen
    have hl60 : ls.length ≤ 60 := by omega
    clear hlen
    have K2 := K1.below hb K1.lt
    have y0 := (K2.cell 0).trans (show _ = some (Value.int .i64 o) from rfl)
    have y1 := (K2.cell 1).trans (show _ = some (Value.int .i64 a) from rfl)
    have y2 := (K2.cell 2).trans (show _ = some (Value.int .i64 b) from rfl)
    have y3 := (K2.cell 3).trans (show _ = some (Value.int .i64 n) from rfl)
    by_cases hlt : k < 30
    · have lw := K2.lt
      have b1 : ∀ X : Obj, Below wr.heap.size wr (wr.alloc X) := fun X => (Below.refl _ wr).alloc (Nat.le_refl _) X
      have b2 : ∀ X Y : Obj, Below wr.heap.size wr ((wr.alloc X).alloc Y) := fun X Y => (b1 X).alloc (by simp) Y
      have u0 : ∀ X : Obj, (wr.alloc X).cell? ⟨w.heap.size, 0, none⟩ = some (.int .i64 o) := fun X => ((b1 X).cell (p := ⟨w.heap.size, 0, none⟩) lw).trans y0
      have u1 : ∀ X : Obj, (wr.alloc X).cell? ⟨w.heap.size, 1, none⟩ = some (.int .i64 a) := fun X => ((b1 X).cell (p := ⟨w.heap.size, 1, none⟩) lw).trans y1
      have u2 : ∀ X : Obj, (wr.alloc X).cell? ⟨w.heap.size, 2, none⟩ = some (.int .i64 b) := fun X => ((b1 X).cell (p := ⟨w.heap.size, 2, none⟩) lw).trans y2
      have u3 : ∀ X : Obj, (wr.alloc X).cell? ⟨w.heap.size, 3, none⟩ = some (.int .i64 n) := fun X => ((b1 X).cell (p := ⟨w.heap.size, 3, none⟩) lw).trans y3
      have v0 : ∀ X Y : Obj, ((wr.alloc X).alloc Y).cell? ⟨w.heap.size, 0, none⟩ = some (.int .i64 o) := fun X Y => ((b2 X Y).cell (p := ⟨w.heap.size, 0, none⟩) lw).trans y0
      have v1 : ∀ X Y : Obj, ((wr.alloc X).alloc Y).cell? ⟨w.heap.size, 1, none⟩ = some (.int .i64 a) := fun X Y => ((b2 X Y).cell (p := ⟨w.heap.size, 1, none⟩) lw).trans y1
      have v2 : ∀ X Y : Obj, ((wr.alloc X).alloc Y).cell? ⟨w.heap.size, 2, none⟩ = some (.int .i64 b) := fun X Y => ((b2 X Y).cell (p := ⟨w.heap.size, 2, none⟩) lw).trans y2
      have v3 : ∀ X Y : Obj, ((wr.alloc X).alloc Y).cell? ⟨w.heap.size, 3, none⟩ = some (.int .i64 n) := fun X Y => ((b2 X Y).cell (p := ⟨w.heap.size, 3, none⟩) lw).trans y3
      have B1 := Lib.hid b1
      have B2 := Lib.hid b2
      clear b1 b2
      go_wp2_with fail
      go_cut [5, 6] (fun s5 s6 wx => TwoCut wr o a b n s5 s6 wx)
      case first =>
        go_region
        all_goals (go_wp2_with fail; go_meet)
        all_goals first | exact two_ab _ _ _ _ _ | exact two_ba _ _ _ _ _
      case rest =>
      clear u0 u1 u2 u3 v0 v1 v2 v3 y0 y1 y2 y3 B1 B2 K2
      obtain ⟨Ba, Bb, rfl, rfl, Tw⟩ := hcut
      have hob : ∀ q, (Value.slice ao ls.length cv).ownBlock = some q → q < wr.heap.size := fun q hq => (hown.lt q hq).2
      have hown1 := own_below hown Tw.low
      have hb1 := hb.trans (Tw.low.mono hsize)
      have Ka := Tw.ra
      have Kb := Tw.rb
      have _p0 := (Cells.cell Ka 0).trans (show _ = some (Value.int .i64 (o)) from rfl)
      have _p1 := (Cells.cell Ka 1).trans (show _ = some (Value.int .i64 (a)) from rfl)
      have _p2 := (Cells.cell Ka 2).trans (show _ = some (Value.int .i64 (b)) from rfl)
      have _p3 := (Cells.cell Ka 3).trans (show _ = some (Value.int .i64 (n)) from rfl)
      have fa := Ka.frozen 0
      go_upto_region 7 with (fail)
      have hown2 := ownsRow_setCell_other hown1 (a := ⟨Ba, 0, none⟩) (fun h => by have := hob _ h; have := Tw.la; simp at *; omega) (.int .i64 k)
      have Ka2 : Cells _ Ba 26 (instA k a b n) := Ka.set 0 (.int .i64 k)
      have Kb2 := Kb.other (a := ⟨Ba, 0, none⟩) (.int .i64 k) Tw.ne.symm
      have hb2 := hb1.setCell (p := ⟨Ba, 0, none⟩) (Nat.le_trans hsize Tw.la) (.int .i64 k)
      have hs2 := hb2.size
      generalize World.setCell _ _ _ = W2 at *
      clear hown1 hb1 Ka Kb fa _p0 _p1 _p2 _p3
      have _p0 := (Cells.cell Ka2 0).trans (show _ = some (Value.int .i64 (k)) from rfl)
      have _p1 := (Cells.cell Ka2 1).trans (show _ = some (Value.int .i64 (a)) from rfl)
      have _p2 := (Cells.cell Ka2 2).trans (show _ = some (Value.int .i64 (b)) from rfl)
      have _p3 := (Cells.cell Ka2 3).trans (show _ = some (Value.int .i64 (n)) from rfl)
      go_upto_region 8 with (first
        | (at_builtin; refine wpList_append_own_at _ rfl _ _ 34 rfl W1.heap.size 26 i0 (.agg (instA 0 0 0 0)) 4 32 Tryd.underlying34 hi hz0 hz1 hz2 rfl (by decide) _ _ _ rfl (hown2.alloc _) ⟨W2.heap.size, 0, none⟩ 1 1 [.int .i64 k, .int .i64 a, .int .i64 b, .int .i64 n] rfl rfl (cell_row_of _ _ _) (fun x hx => by simp at hx; rcases hx with rfl | rfl | rfl | rfl <;> rfl) (by unfold maxLen; omega) (by omega) (by simp; omega) ?_; intro v3 W3 hown3 hgrow3 hnil3 hat3))
      have hg3 : (W2.alloc (.cells #[.int .i64 k, .int .i64 a, .int .i64 b, .int .i64 n] 26)).grownBy W3 (Value.slice ao ls.length cv).ownBlock := hgrow3
      have hat : v3.ownBlock = (Value.slice ao ls.length cv).ownBlock ∨ v3.ownBlock = some (W2.heap.size + 1) := by
        rcases hat3 with h | h
        · exact .inl h
        · exact .inr (h.trans (by simp))
      have hbl : Bb < W2.heap.size := Kb2.lt
      have hne3 : v3.ownBlock ≠ some Bb := by
        intro h
        rcases hat with h' | h'
        · have := hob _ (h'.symm.trans h); have := Tw.lb; omega
        · rw [h] at h'; simp at h'; omega
      have Kb3 : Cells W3 Bb 26 (instA o a b n) := (hg3.block Bb (by simp; omega) (fun h => by have := hob _ h.symm; have := Tw.lb; omega)).trans (Kb2.alloc _)
      have hb3 : Below W1.heap.size W1 W3 := (hb2.alloc hs2 _).grown hg3 (by simp; omega) (fun q hq => (hown2.lt q hq).1)
      have hs3 := hb3.size
      have HT := Lib.hid Tw
      clear hgrow3 hnil3 hat3 hat hg3 Ka2 Kb2 hown2 hob Tw _p0 _p1 _p2 _p3 hown hb
      have _p0 := (Cells.cell Kb3 0).trans (show _ = some (Value.int .i64 (o)) from rfl)
      have _p1 := (Cells.cell Kb3 1).trans (show _ = some (Value.int .i64 (a)) from rfl)
      have _p2 := (Cells.cell Kb3 2).trans (show _ = some (Value.int .i64 (b)) from rfl)
      have _p3 := (Cells.cell Kb3 3).trans (show _ = some (Value.int .i64 (n)) from rfl)
      have f1 := Kb3.frozen 1
      have f2 := Kb3.frozen 2
      have f3 := Kb3.frozen 3
      have k0 : (0 : Int) ≤ (k : Int) := by omega
      rcases (show k % 3 = 0 ∨ k % 3 = 1 ∨ k % 3 = 2 by omega) with h3 | h3 | h3
      · have e0 : (((k : Int) % 3) == 0) = true := beq_iff_eq.2 (by omega)
        clear h3
        go_upto_region 15 with (fail)
        have KC : Cells _ Bb 26 (instA o ((k : Int) / 3 - 1) b n) := Kb3.set 1 (.int .i64 ((k : Int) / 3 - 1))
        have hown5 := ownsRow_setCell_other hown3 (a := ⟨Bb, 1, none⟩) hne3 (.int .i64 ((k : Int) / 3 - 1))
        have hb5 := hb3.setCell (p := ⟨Bb, 1, none⟩) (by have := HT.out.lb; simp; omega) (.int .i64 ((k : Int) / 3 - 1))
        have hs5 := hb5.size
        generalize World.setCell _ _ _ = W5 at *
        clear _p0 _p1 _p2 _p3 f1 f2 f3
        have _p0 := (Cells.cell KC 0).trans (show _ = some (Value.int .i64 (o)) from rfl)
        have _p1 := (Cells.cell KC 1).trans (show _ = some (Value.int .i64 (((k : Int) / 3 - 1))) from rfl)
        have _p2 := (Cells.cell KC 2).trans (show _ = some (Value.int .i64 (b)) from rfl)
        have _p3 := (Cells.cell KC 3).trans (show _ = some (Value.int .i64 (n)) from rfl)
        go_wp2_with (first
          | (at_builtin; refine wpList_append_own _ rfl _ _ 34 rfl W1.heap.size 26 i0 (.agg (instA 0 0 0 0)) 4 32 Tryd.underlying34 hi hz0 hz1 hz2 rfl (by decide) _ _ _ rfl (hown5.alloc _) ⟨W5.heap.size, 0, none⟩ 1 1 [.int .i64 (o), .int .i64 (((k : Int) / 3 - 1)), .int .i64 (b), .int .i64 (n)] rfl rfl (cell_row_of _ _ _) (fun x hx => by simp at hx; rcases hx with rfl | rfl | rfl | rfl <;> rfl) (by unfold maxLen; omega) (by omega) (by simp; omega) ?_; intro v6 W6 hown6 hgrow6 hnil6))
        have hb6 : Below W1.heap.size W1 W6 := (hb5.alloc hs5 _).grown hgrow6 (by simp; omega) (fun q hq => (hown5.lt q hq).1)
        have hm := NearAt.two hown6 hb6
        rw [HL.out, show 2 * k + 2 = 2 * (k + 1) by omega] at hm
        go_roundw
        case rel =>
          first
            | exact ⟨k + 1, by omega, by go_num, hm⟩
            | ((repeat apply Exists.intro); exact ⟨⟨k + 1, by omega, by go_num, hm⟩, rfl⟩)
        case measure => simp [intOf]; omega
      · have e0 : (((k : Int) % 3) == 0) = false := beq_eq_false_iff_ne.2 (by omega)
        have e1 : (((k : Int) % 3) == 1) = true := beq_iff_eq.2 (by omega)
        clear h3
        go_upto_region 15 with (fail)
        have KC : Cells _ Bb 26 (instA o a ((k : Int) / 3 - 1) n) := Kb3.set 2 (.int .i64 ((k : Int) / 3 - 1))
        have hown5 := ownsRow_setCell_other hown3 (a := ⟨Bb, 2, none⟩) hne3 (.int .i64 ((k : Int) / 3 - 1))
        have hb5 := hb3.setCell (p := ⟨Bb, 2, none⟩) (by have := HT.out.lb; simp; omega) (.int .i64 ((k : Int) / 3 - 1))
        have hs5 := hb5.size
        generalize World.setCell _ _ _ = W5 at *
        clear _p0 _p1 _p2 _p3 f1 f2 f3
        have _p0 := (Cells.cell KC 0).trans (show _ = some (Value.int .i64 (o)) from rfl)
        have _p1 := (Cells.cell KC 1).trans (show _ = some (Value.int .i64 (a)) from rfl)
        have _p2 := (Cells.cell KC 2).trans (show _ = some (Value.int .i64 (((k : Int) / 3 - 1))) from rfl)
        have _p3 := (Cells.cell KC 3).trans (show _ = some (Value.int .i64 (n)) from rfl)
        go_wp2_with (first
          | (at_builtin; refine wpList_append_own _ rfl _ _ 34 rfl W1.heap.size 26 i0 (.agg (instA 0 0 0 0)) 4 32 Tryd.underlying34 hi hz0 hz1 hz2 rfl (by decide) _ _ _ rfl (hown5.alloc _) ⟨W5.heap.size, 0, none⟩ 1 1 [.int .i64 (o), .int .i64 (a), .int .i64 (((k : Int) / 3 - 1)), .int .i64 (n)] rfl rfl (cell_row_of _ _ _) (fun x hx => by simp at hx; rcases hx with rfl | rfl | rfl | rfl <;> rfl) (by unfold maxLen; omega) (by omega) (by simp; omega) ?_; intro v6 W6 hown6 hgrow6 hnil6))
        have hb6 : Below W1.heap.size W1 W6 := (hb5.alloc hs5 _).grown hgrow6 (by simp; omega) (fun q hq => (hown5.lt q hq).1)
        have hm := NearAt.two hown6 hb6
        rw [HL.out, show 2 * k + 2 = 2 * (k + 1) by omega] at hm
        go_roundw
        case rel =>
          first
            | exact ⟨k + 1, by omega, by go_num, hm⟩
            | ((repeat apply Exists.intro); exact ⟨⟨k + 1, by omega, by go_num, hm⟩, rfl⟩)
        case measure => simp [intOf]; omega
      · have e0 : (((k : Int) % 3) == 0) = false := beq_eq_false_iff_ne.2 (by omega)
        have e1 : (((k : Int) % 3) == 1) = false := beq_eq_false_iff_ne.2 (by omega)
        have e2 : (((k : Int) % 3) == 2) = true := beq_iff_eq.2 (by omega)
        clear h3
        obtain ⟨va, hva⟩ := tab_at k (by omega)
        have cz : ∀ X : Obj, (W3.alloc X).cell? ⟨Bb, 3, none⟩ = some (.int .i64 n) := fun X => ((Kb3.alloc X).cell 3).trans (show _ = some (Value.int .i64 n) from rfl)
        have fz : ∀ X : Obj, (W3.alloc X).frozen? ⟨Bb, 3, none⟩ = false := fun X => (Kb3.alloc X).frozen 3
        go_upto_region 15 with (fail)
        clear cz fz
        have KA := Kb3.alloc (.cells #[.int .i64 0, .int .i64 1, .int .i64 (-1), .int .i64 32767, .int .i64 32768, .int .i64 (-32768), .int .i64 (-32769), .int .i64 5, .int .i64 6, .int .i64 65536] 3)
        have KC : Cells _ Bb 26 (instA o a b va) := KA.set 3 (.int .i64 va)
        have hown5 := ownsRow_setCell_other (hown3.alloc (.cells #[.int .i64 0, .int .i64 1, .int .i64 (-1), .int .i64 32767, .int .i64 32768, .int .i64 (-32768), .int .i64 (-32769), .int .i64 5, .int .i64 6, .int .i64 65536] 3)) (a := ⟨Bb, 3, none⟩) hne3 (.int .i64 va)
        have hb5 := (hb3.alloc hs3 (.cells #[.int .i64 0, .int .i64 1, .int .i64 (-1), .int .i64 32767, .int .i64 32768, .int .i64 (-32768), .int .i64 (-32769), .int .i64 5, .int .i64 6, .int .i64 65536] 3)).setCell (p := ⟨Bb, 3, none⟩) (by have := HT.out.lb; simp; omega) (.int .i64 va)
        clear KA hva
        have hs5 := hb5.size
        generalize World.setCell _ _ _ = W5 at *
        clear _p0 _p1 _p2 _p3 f1 f2 f3
        have _p0 := (Cells.cell KC 0).trans (show _ = some (Value.int .i64 (o)) from rfl)
        have _p1 := (Cells.cell KC 1).trans (show _ = some (Value.int .i64 (a)) from rfl)
        have _p2 := (Cells.cell KC 2).trans (show _ = some (Value.int .i64 (b)) from rfl)
        have _p3 := (Cells.cell KC 3).trans (show _ = some (Value.int .i64 (va)) from rfl)
        go_wp2_with (first
          | (at_builtin; refine wpList_append_own _ rfl _ _ 34 rfl W1.heap.size 26 i0 (.agg (instA 0 0 0 0)) 4 32 Tryd.underlying34 hi hz0 hz1 hz2 rfl (by decide) _ _ _ rfl (hown5.alloc _) ⟨W5.heap.size, 0, none⟩ 1 1 [.int .i64 (o), .int .i64 (a), .int .i64 (b), .int .i64 (va)] rfl rfl (cell_row_of _ _ _) (fun x hx => by simp at hx; rcases hx with rfl | rfl | rfl | rfl <;> rfl) (by unfold maxLen; omega) (by omega) (by simp; omega) ?_; intro v6 W6 hown6 hgrow6 hnil6))
        have hb6 : Below W1.heap.size W1 W6 := (hb5.alloc hs5 _).grown hgrow6 (by simp; omega) (fun q hq => (hown5.lt q hq).1)
        have hm := NearAt.two hown6 hb6
        rw [HL.out, show 2 * k + 2 = 2 * (k + 1) by omega] at hm
        go_roundw
        case rel =>
          first
            | exact ⟨k + 1, by omega, by go_num, hm⟩
            | ((repeat apply Exists.intro); exact ⟨⟨k + 1, by omega, by go_num, hm⟩, rfl⟩)
        case measure => simp [intOf]; omega
    · obtain rfl : k = 30 := by omega
      obtain ⟨g, rfl, hcap⟩ : ∃ g, ao = some ⟨g, 0, none⟩ ∧ ls.length ≤ cv ∧ cv ≤ maxLen := by
        rcases hown.2 with ⟨h, h'⟩ | ⟨g, cap, cur, h, hb, hh, hc, hm, _⟩
        · have := HL.out; omega
        · cases h; exact ⟨g, rfl, hc, hm⟩
      clear y0 y1 y2 y3 K2
      go_wp2_with fail
      refine (cIsaEncode (RdI.of_own hown) hcap.1 hcap.2 (T1.b hb)).mono ?_
      rintro e W5 ⟨rfl, hb5⟩
      go_wp2
      go_ret
      exact ⟨rfl, (hb0.trans (hb.mono hb0.size)).trans (hb5.mono (Nat.le_trans hb0.size hsize))⟩
end Go.Proofs.YtfdmmgkhlgefbaaDoor
