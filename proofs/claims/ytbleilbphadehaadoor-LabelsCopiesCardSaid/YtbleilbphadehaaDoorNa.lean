/- A table made; a slice of sets copied, compared; maps copied: contracts. -/
import Derived.Test.YtbleilbphadehaaDoorLr2
import Derived.Laws.EntriesVeiled
import Derived.WalkSpells
import Derived.Shelf.SlMaps.Clone
namespace Go.Proofs.YtbleilbphadehaaDoor
open Go.RowKit Go.Shelf

theorem cNew_bad {n : Int} (h : ¬ (1 ≤ n ∧ n ≤ 65536)) (w : World) : Calls Tryd.prog 10 #[.int .i64 n] w fun e w' => e = .returned (.tuple #[.pointer none, .int .i64 2]) ∧ w' = w := by
  by_cases h1 : n < 1
  · clear h
    go_enter Tryd.func10, Tryd.ntmps10
    go_wp2
    refine bodyPost_ret (results_tmp2 rfl _ _ _) rfl ?_
    exact ⟨rfl, rfl⟩
  · have h2 : 65536 < n := by omega
    clear h
    go_enter Tryd.func10, Tryd.ntmps10
    go_wp2
    refine bodyPost_ret (results_tmp2 rfl _ _ _) rfl ?_
    exact ⟨rfl, rfl⟩
theorem wpList_ins0 {ops : Array Oper} {rest : List Oper} {o : Oper} {a : Act} {W : World} {b : Nat} {Q : Exit → Act → World → Prop} (hK : MapAt .u32 W b []) (hg : o.guard = none) (x y z : Operand) (ho : o.op = .insert 60 x y z) (hx : a.eval x = .map (some b)) (hy : a.eval y = .int .u32 0) (hz : a.eval z = .int .i64 0)
    (hn : ∀ ob, MapAt .u32 (W.putObj b ob) b [(0, .int .i64 0)] → wpList Tryd.prog ops Q rest (a.put o.dst undef) (W.putObj b ob)) : wpList Tryd.prog ops Q (o :: rest) a W :=
  wpList_plain hg fun K hk => by
    obtain ⟨ob, hr, hm⟩ := run_mapUpdate_ints hK Tryd.underlying60 Tryd.underlying28 0 (.int .i64 0)
    rw [show updL 0 (.int .i64 0) [] = [(0, .int .i64 0)] from rfl] at hm
    unfold Oper.wp execOp
    simp only [ho, hx, hy, hz, Sem.run_bind, hr, Result.andThen_ok, Sem.run_pure]
    exact hk _ _ (hn _ hm)
theorem TOk.first {n : Int} (h1 : 1 ≤ n) (h2 : n ≤ 65536) : TOk n [0] [] :=
  ⟨⟨h1, h2⟩, by simp, by simpa using h1, by simp, fun x hx => by simp at hx; subst hx; omega, fun _ _ _ h => by cases h⟩
theorem tab_first {n : Int} {w W3 : World} (_ : 1 ≤ n) (c3 : Cells W3 w.heap.size 28 #[.int .u32 0]) (hm : MapAt .u32 W3 (w.heap.size + 1) [(0, .int .i64 0)]) (s3 : W3.heap.size = w.heap.size + 2) :
    TAt ((W3.alloc (.map #[] 0)).alloc (.cells #[.int .i64 n, .slice (some ⟨w.heap.size, 0, none⟩) 1 1, .map (some (w.heap.size + 1)), .map (some (w.heap.size + 2))] 63)) w.heap.size (w.heap.size + 3) (w.heap.size + 1) (w.heap.size + 2) (.slice (some ⟨w.heap.size, 0, none⟩) 1 1) n [0] [] where
  c := by
    have := Cells.new (W3.alloc (.map #[] 0)) 63 #[.int .i64 n, .slice (some ⟨w.heap.size, 0, none⟩) 1 1, .map (some (w.heap.size + 1)), .map (some (w.heap.size + 2))]
    rw [World.size_alloc, s3] at this; exact this
  s := ⟨rfl, .inr ⟨w.heap.size, 1, #[.int .u32 0], rfl, Nat.le_refl _, (c3.alloc _).alloc _, Nat.le_refl _, by simp [maxLen], rfl, rfl⟩⟩
  n := (hm.of_block (Below.heap_alloc W3 _ _ (by omega))).of_block (Below.heap_alloc _ _ _ (by rw [World.size_alloc]; omega))
  j := by
    have := JAt.new W3
    rw [s3] at this
    exact this.of_block (Below.heap_alloc _ _ _ (by rw [World.size_alloc]; omega))
  hp := by omega
  hn := by omega
  hj := by omega
  hne := by omega
set_option maxHeartbeats 1000000 in
set_option maxRecDepth 100000 in
theorem cNew {n : Int} (h1 : 1 ≤ n) (h2 : n ≤ 65536) (w : World) : Calls Tryd.prog 10 #[.int .i64 n] w fun e w' => ∃ p mn mj sv, e = .returned (.tuple #[.pointer (some ⟨p, 0, none⟩), .int .i64 0]) ∧ TAt w' w.heap.size p mn mj sv n [0] [] ∧ Below w.heap.size w w' := by
  have hmm := @run_makeMap Tryd.prog
  obtain ⟨c1, b1, s1⟩ := cells1 w #[.int .u32 0] 28
  have hmN : MapAt .u32 ((w.alloc (.cells #[.int .u32 0] 28)).alloc (.map #[] 0)) (w.heap.size + 1) [] := by
    rw [← s1]; exact MapAt.new _ _
  have c2 := c1.alloc (.map #[] 0)
  have b2 := b1.alloc b1.size (.map #[] 0)
  have s2 : ((w.alloc (.cells #[.int .u32 0] 28)).alloc (.map #[] 0)).heap.size = w.heap.size + 2 := by rw [World.size_alloc, s1]
  have HS := Lib.hid s2
  clear s1 s2
  go_enter Tryd.func10, Tryd.ntmps10
  go_wp2_with (refine wpList_ins0 hmN rfl _ _ _ rfl rfl rfl rfl ?_; intro ob hm; have c3 := c2.put (l := w.heap.size + 1) ob (by omega); have b3 := b2.trans ((KeptBut.put (W := (w.alloc (.cells #[.int .u32 0] 28)).alloc (.map #[] 0)) (S := fun k => w.heap.size ≤ k) (p := w.heap.size + 1) (by omega) ob).below (fun _ h => h) b2.size); have s3 := (World.putObj_size (w := (w.alloc (.cells #[.int .u32 0] 28)).alloc (.map #[] 0)) (r := w.heap.size + 1) (o := ob)).trans HS.out; clear hmN c1 b1 c2 b2 HS; generalize World.putObj _ _ ob = W3 at *; have HT := Lib.hid (tab_first h1 c3 hm s3); have HB := Lib.hid ((b3.alloc b3.size (.map #[] 0)).alloc (by rw [World.size_alloc]; have := b3.size; omega) (.cells #[.int .i64 n, .slice (some ⟨w.heap.size, 0, none⟩) 1 1, .map (some (w.heap.size + 1)), .map (some (w.heap.size + 2))] 63)); clear c3 hm b3)
  refine bodyPost_ret (results_tmp2 rfl _ _ _) rfl ?_
  exact ⟨_, _, _, _, rfl, HT.out, HB.out⟩
end Go.Proofs.YtbleilbphadehaaDoor
