/- The labels of a set, one by one: the iterator's contract; Labels. -/
import Derived.Test.YtbleilbphadehaaDoorNf
import Derived.Test.YtbleilbphadehaaDoorRin
import Derived.Maps.AppendAt
namespace Go.Proofs.YtbleilbphadehaaDoor
open Go.RowKit Go.Shelf
attribute [local go_sem] Oper.semAt_some

theorem cAllOf (a : Int) (w : World) : Calls Tryd.prog 29 #[.int .u32 a] w fun e w' => e = .returned (.func (.func 40) #[] #[.pointer (some ⟨w.heap.size, 0, none⟩)]) ∧ w.alloc (.cells #[.int .u32 a] 28) = w' := by
  go_enter Tryd.func29, Tryd.ntmps29
  go_wp2
  go_ret
  exact ⟨rfl, rfl⟩
theorem and1_u32 (n : Int) (h0 : 0 ≤ n) (h1 : n < 4294967296) : bits .and .u32 n 1 = n % 2 :=
  bits_mask .u32 32 (by decide) (fun n h h' => by rw [IntKind.wrap_u32]; omega) 1 (by decide) n h0 h1
theorem and1_bit (a k : Nat) (ha : a < 4294967296) : bits .and .u32 ((a : Int) / 2 ^ k) 1 = if a.testBit k then 1 else 0 := by
  have hq : a / 2 ^ k ≤ a := Nat.div_le_self _ _
  rw [show (a : Int) / 2 ^ k = ((a / 2 ^ k : Nat) : Int) by simp, ← bit_test]
  generalize a / 2 ^ k = q at *
  rw [and1_u32 _ (by omega) (by omega)]
  by_cases h : q % 2 = 1
  · simp [h]; omega
  · simp [h]; omega
set_option maxRecDepth 100000 in
set_option maxHeartbeats 1000000 in
theorem cAll1 {a : Nat} (ha : a < 4294967296) (l Bs : Nat) (J : Nat → World → Prop)
    (hJ : ∀ k W, J k W → W.cell? ⟨Bs, 0, none⟩ = some (.int .u32 a))
    (hN : ∀ k W, J k W → k < 16 → a.testBit k = false → J (k + 1) W)
    (hY : ∀ k W, J k W → k < 16 → a.testBit k = true → YieldAt Fence.wide 0 Tryd.prog l #[.int .i64 k] W fun e W' => e = .returned (.bool true) ∧ J (k + 1) W')
    (w : World) (hw : J 0 w) :
    Calls Tryd.prog 40 #[.func (.yield l) #[] #[], .pointer (some ⟨Bs, 0, none⟩)] w fun e w' => e = .returned (.tuple #[]) ∧ J 16 w' := by
  rw [← callsIn_wide (n := 1)]
  refine callsIn_of_wp Tryd.func40 rfl trivial ?_
  simp only [Tryd.ntmps40, List.size_toArray, List.length_cons, List.length_nil, Nat.reduceAdd, Nat.reduceSub, Array.replicate_succ, Array.replicate_zero, List.push_toArray, List.append_toArray, List.nil_append, List.cons_append]
  gi_wp2
  gi_loopw [4] (fun i wr => ∃ k : Nat, k ≤ 16 ∧ i = .int .i64 k ∧ J k wr) (fun i _ => 16 - (intOf i).toNat)
  case atStart => exact ⟨0, by omega, rfl, hw⟩
  case round =>
    obtain ⟨k, hk, rfl, hj⟩ := hrel
    have q1 := hJ k wr hj
    by_cases hlt : k < 16
    · have hb := and1_bit a k ha
      cases ht : a.testBit k
      · rw [ht] at hb
        have hj' := hN k wr hj hlt ht
        clear ht
        simp only [Bool.false_eq_true, if_false] at hb
        gi_wp2
        refine ⟨fun _ h => (by cases h), ?_⟩
        gi_wp2
        refine ⟨⟨k + 1, by omega, by go_num, hj'⟩, ?_⟩
        simp [intOf]; omega
      · rw [ht] at hb
        obtain ⟨fn, tmps, assign, body, hy, hR⟩ := hY k wr hj hlt ht
        clear ht
        simp only [if_true] at hb
        gi_wp2
        refine hR.mono ?_
        rintro e W' ⟨rfl, hj'⟩
        gi_wp2
        refine ⟨⟨k + 1, by omega, by go_num, hj'⟩, ?_⟩
        simp [intOf]; omega
    · obtain rfl : k = 16 := by omega
      gi_wp2_with fail
      go_end0
      exact ⟨rfl, hj⟩
/-- What holds behind k labels: what came is collected in a row of values. -/
structure JL (w : World) (a : Nat) (r : Loop) (tb te : TypeId) (f : Int → Value) (k : Nat) (W : World) : Prop where
  lp : W.heap[w.heap.size + 3]? = some (.loop r)
  dfr : W.heap[w.heap.size + 2]? = some (.deferred (some []))
  st : Cells W (w.heap.size + 1) 28 #[.int .u32 a]
  out : ∃ v, Cells W w.heap.size tb #[v] ∧ W.ownsRow (w.heap.size + 4) te 1 v (labsL a k).length ((labsL a k).map f) ∧ (labsL a k = [] → v = .slice none 0 0)
  low : Below w.heap.size w W
section
variable {w : World} {a : Nat} {r : Loop} {tb te : TypeId} {f : Int → Value} {k : Nat} {W W' : World}
theorem JL.keep (h : JL w a r tb te f k W) (hb : Below W.heap.size W W') : JL w a r tb te f k W' := by
  obtain ⟨h1, h2, h3, ⟨v, h4, h5, h6⟩, h7⟩ := h
  have l1 := (Array.getElem?_eq_some_iff.1 h1).1
  exact ⟨(hb.block _ l1).trans h1, (hb.block _ (by omega)).trans h2, h3.below hb h3.lt, ⟨v, h4.below hb h4.lt, h5.kept (row := none) ⟨hb.os, hb.tape, hb.output, hb.size, fun k hk _ => hb.block k hk⟩ (by cases v.ownBlock <;> simp), h6⟩, h7.trans (hb.mono h7.size)⟩
theorem JL.skip (h : JL w a r tb te f k W) (ht : a.testBit k = false) : JL w a r tb te f (k + 1) W := by
  obtain ⟨h1, h2, h3, h4, h7⟩ := h
  refine ⟨h1, h2, h3, ?_, h7⟩
  rw [show labsL a (k + 1) = labsL a k by simp [labsL, ht]]; exact h4
theorem JL.start : JL w a r tb te f 0 (((((w.alloc (.cells #[.slice none 0 0] tb)).alloc (.cells #[.int .u32 a] 28)).alloc (.deferred (some []))).alloc (.loop r))) := by
  obtain ⟨k1, k2, kb, ks⟩ := cells2 w #[.slice none 0 0] #[.int .u32 a] tb 28
  generalize (w.alloc _).alloc _ = W2 at *
  have hd := World.alloc_heap_new W2 (.deferred (some []))
  have hl := World.alloc_heap_new (W2.alloc (.deferred (some []))) (.loop r)
  have hd2 : ((W2.alloc (.deferred (some []))).alloc (.loop r)).heap[W2.heap.size]? = _ := (Below.heap_alloc _ _ _ (by rw [World.size_alloc]; omega)).trans hd
  rw [World.size_alloc, ks] at hl
  rw [ks] at hd2
  exact ⟨hl, hd2, (k2.alloc _).alloc _, ⟨_, (k1.alloc _).alloc _, World.ownsRow_nil _ _ _ _, fun _ => rfl⟩, (kb.alloc kb.size _).alloc (by rw [World.size_alloc]; have := kb.size; omega) _⟩
end
end Go.Proofs.YtbleilbphadehaaDoor
