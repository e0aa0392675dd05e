/- Ops' names, both ways: Name, Number, and IsaNames' walk. -/
import Derived.Test.YtfdmmgkhlgefbaaDoorIsU0
import Derived.Laws.Strings
namespace Go.Proofs.YtfdmmgkhlgefbaaDoor
open Go.ChangeShapes Go.WideShapes Go.ChangeAt Go.RowKit Go.Shelf

theorem cName {op : Int} (h : 1 ≤ op ∧ op ≤ 28) (w : World) : Calls Tryd.prog 17 #[.int .i64 op] w fun e w' => e = .returned (.tuple #[.string (nameL op), .bool true]) ∧ Below w.heap.size w w' := by
  go_enter Tryd.func17, Tryd.ntmps17
  go_wp2_with fail
  refine (cOf h w).mono ?_
  rintro e W ⟨rfl, hb⟩
  go_wp2
  go_ret2
  exact ⟨rfl, hb.alloc hb.size _⟩
theorem cName_out {op : Int} (h : ¬ (1 ≤ op ∧ op ≤ 28)) (w : World) : Calls Tryd.prog 17 #[.int .i64 op] w fun e w' => e = .returned (.tuple #[.string ⟨#[]⟩, .bool false]) ∧ Below w.heap.size w w' := by
  go_enter Tryd.func17, Tryd.ntmps17
  go_wp2_with fail
  refine (cOf_out h w).mono ?_
  rintro e W ⟨rfl, hb⟩
  go_wp2
  go_ret2
  exact ⟨rfl, hb.alloc hb.size _⟩
theorem index_row0 (w : World) : (Instr.index 63 (.agg rowsA) (.int .i64 0)).run Tryd.prog w = .ok (.agg #[.string ⟨#[]⟩, .int .i64 0]) w := by kernel_rfl
/-- No Op below k has that name. -/
def NoneB (s : ByteArray) (k : Nat) : Prop := ∀ j : Nat, 1 ≤ j → j < k → ¬ (nameL j).toList = s.toList
theorem nameL_0 : nameL 0 = ⟨#[]⟩ := rfl
set_option maxHeartbeats 1000000 in
theorem cNumber (s : ByteArray) (w : World) : Calls Tryd.prog 19 #[.string s] w fun e w' => Below w.heap.size w w' ∧
    ((∃ k : Nat, 1 ≤ k ∧ k ≤ 28 ∧ (nameL k).toList = s.toList ∧ e = .returned (.tuple #[.int .i64 k, .bool true])) ∨ (NoneB s 29 ∧ e = .returned (.tuple #[.int .i64 0, .bool false]))) := by
  go_enter Tryd.func19, Tryd.ntmps19
  go_wp2_with fail
  go_step3
  go_wp2_with fail
  go_step3
  go_wp2_with fail
  refine (cRows w).mono ?_
  rintro e W1 ⟨rfl, hb1⟩
  go_wp2_with fail
  go_loopw [4, 8] (fun v i wr => ∃ k : Nat, k ≤ 29 ∧ v = .int .i64 0 ∧ i = .int .i64 k ∧ NoneB s k ∧ Below w.heap.size w wr) (fun _ i _ => 29 - (intOf i).toNat)
  case atStart => exact ⟨0, by omega, rfl, rfl, fun j h1 h2 => by omega, hb1⟩
  case round =>
    obtain ⟨k, hk, rfl, rfl, hnone, hb⟩ := hrel
    have HN := Lib.hid hnone
    clear hnone
    by_cases hlt : k < 29
    · obtain ⟨nm, us, hrow, hnm⟩ : ∃ nm us, (∀ W, (Instr.index 63 (.agg rowsA) (.int .i64 k)).run Tryd.prog W = .ok (.agg #[.string nm, .int .i64 us]) W) ∧ nm = nameL k := by
        by_cases h0 : k = 0
        · subst h0; exact ⟨_, _, index_row0, rfl⟩
        · exact ⟨_, _, fun W => index_rows (op := (k : Int)) (by omega) W, rfl⟩
      have HM := Lib.hid hnm
      clear hnm
      by_cases h0 : k = 0
      · subst h0
        go_wp2_with (first
          | ((with_reducible refine wpList_run rfl 11 rfl (.agg #[.string ⟨#[]⟩, .int .i64 0]) ?_ ?_); (focus kernel_rfl); simp only [Act.put, List.setIfInBounds_toArray, List.set_cons_zero, List.set_cons_succ]))
        go_roundw
        case rel => exact ⟨1, by omega, rfl, by go_num, fun j h1 h2 => by omega, hb.alloc hb.size _⟩
        case measure => simp [intOf]
      · have h1 : 0 < k := by omega
        cases he : (nm.toList == s.toList)
        · go_wp2_with fail
          go_roundw
          case rel =>
            refine ⟨k + 1, by omega, rfl, by go_num, fun j h1 h2 => ?_, hb.alloc hb.size _⟩
            by_cases hj : j = k
            · subst hj; rw [← HM.out]; exact beq_eq_false_iff_ne.1 he
            · exact HN.out j h1 (by omega)
          case measure => simp [intOf]; omega
        · go_wp2_with fail
          have hk0 : ((k : Int) != 0) = true := by rw [bne_iff_ne]; omega
          go_wp2
          rw [Exit.noGoto_ret]
          go_ret2
          refine ⟨hb.alloc hb.size _, .inl ⟨k, h1, by omega, ?_, (show Ending.returned (.tuple #[.int .i64 k, .bool ((k : Int) != 0)]) = _ from by rw [hk0])⟩⟩
          rw [← HM.out]; exact beq_iff_eq.1 he
    · obtain rfl : k = 29 := by omega
      go_wp2_with fail
      rw [Exit.noGoto_ret]
      go_ret2
      exact ⟨hb, .inr ⟨HN.out, rfl⟩⟩
theorem name_of_toList {x y : Int} (h : 1 ≤ x ∧ x ≤ 28) (h' : 1 ≤ y ∧ y ≤ 28) (e : (nameL x).toList = (nameL y).toList) : x = y := by
  rw [ByteArray.toList_eq, ByteArray.toList_eq] at e
  exact name_inj h h' e
theorem cNumber_in {op : Int} (h : 1 ≤ op ∧ op ≤ 28) (w : World) : Calls Tryd.prog 19 #[.string (nameL op)] w fun e w' => e = .returned (.tuple #[.int .i64 op, .bool true]) ∧ Below w.heap.size w w' := by
  refine (cNumber _ w).mono ?_
  rintro e w' ⟨hb, ⟨k, h1, h2, he, rfl⟩ | ⟨hn, _⟩⟩
  · obtain rfl := name_of_toList (x := (k : Int)) ⟨by omega, by omega⟩ h he
    exact ⟨rfl, hb⟩
  · exact absurd (by rw [show ((op.toNat : Nat) : Int) = op by omega]) (hn op.toNat (by omega) (by omega))
theorem cNumber_none {s : ByteArray} (h : NoneB s 29) (w : World) : Calls Tryd.prog 19 #[.string s] w fun e w' => e = .returned (.tuple #[.int .i64 0, .bool false]) ∧ Below w.heap.size w w' := by
  refine (cNumber _ w).mono ?_
  rintro e w' ⟨hb, ⟨k, h1, h2, he, rfl⟩ | ⟨hn, rfl⟩⟩
  · exact absurd he (h k h1 (by omega))
  · exact ⟨rfl, hb⟩
theorem none_empty : NoneB ⟨#[]⟩ 29 := by
  intro j h1 h2 e
  have := name_ne (op := (j : Int)) ⟨by omega, by omega⟩
  rw [e] at this
  exact absurd this (by decide +kernel)
theorem cNumber_yes {s : ByteArray} {op : Int} (h : 1 ≤ op ∧ op ≤ 28) (e : (nameL op).toList = s.toList) (w : World) : Calls Tryd.prog 19 #[.string s] w fun e w' => e = .returned (.tuple #[.int .i64 op, .bool true]) ∧ Below w.heap.size w w' := by
  rw [ByteArray.toList_eq, ByteArray.toList_eq] at e
  rw [← show nameL op = s from ByteArray.ext (Array.ext' e)]
  exact cNumber_in h w

/-- The slice at A reads the strings l, out of a block below B. -/
structure RdS (W : World) (B : Nat) (A : Option Addr) (l : List ByteArray) : Prop where
  some_ : 0 < l.length → ∃ g off, A = some ⟨g, off, none⟩ ∧ g < B
  cell : ∀ g off, A = some ⟨g, off, none⟩ → ∀ i s, l[i]? = some s → W.cell? ⟨g, off + i, none⟩ = some (.string s)
theorem RdS.keep {W W' : World} {B : Nat} {A : Option Addr} {l : List ByteArray} (h : RdS W B A l) (hb : ∀ g, g < B → W'.heap[g]? = W.heap[g]?) : RdS W' B A l :=
  ⟨h.some_, fun g off e i s hx => by
    obtain ⟨g', off', e', hlt⟩ := h.some_ (by have := (List.getElem?_eq_some_iff.1 hx).1; omega)
    have : g' = g := by rw [e] at e'; simp at e'; exact e'.1.symm
    subst this
    exact (World.cell?_of_block (hb _ hlt)).trans (h.cell _ off e i s hx)⟩
theorem RdS.below {W W' : World} {B n : Nat} {A : Option Addr} {l : List ByteArray} (h : RdS W B A l) (hb : Below n W W') (hn : B ≤ n) : RdS W' B A l :=
  h.keep fun g hg => hb.block g (by omega)
theorem open_strs {H : Type} {enc : TypeId × Value → H} {w : World} {base : Nat} {spare : Nat → Bool} {held : Bool} {r : Reach} {b0 : Nat} {v : Value} {d : DataW H} {ps : List MemPlace} (hv : Value.okWide Tryd.prog w r b0 45 v) (h : DataW.Trod enc Tryd.prog w base spare held 45 v d ps) :
    ∃ (A : Option Addr) (l : List ByteArray) (cap : Nat), v = .slice A l.length cap ∧ l.length ≤ cap ∧ cap ≤ maxLen ∧ RdS w w.heap.size A l ∧ ∀ s ∈ l, s.size ≤ maxLen := by
  have hc : Tryd.prog.cellsOf 9 = 1 := by kernel_rfl
  obtain ⟨A, len, cap, rfl, h1, h2, h3, h4⟩ := open_elems Tryd.underlying45 (by rw [hc]; omega) hv h
  rw [hc] at h4
  have : ∀ i, i < len → ∃ x : ByteArray, (∀ g off, A = some ⟨g, off, none⟩ → w.cell? ⟨g, off + i, none⟩ = some (.string x)) ∧ x.size ≤ maxLen := by
    intro i hi
    obtain ⟨g, off, rfl, _⟩ := h3 (by omega)
    obtain ⟨cs, n, x, hl, hcell, htr⟩ := h4 g off rfl i hi
    obtain ⟨s, rfl, _, hs⟩ := DataW.trod_string Tryd.underlying9 htr
    refine ⟨s, fun g' off' e => ?_, hs⟩
    simp at e
    obtain ⟨rfl, rfl⟩ := e
    simpa using hcell 0 (by omega)
  obtain ⟨l, hl, hp⟩ := choose_list len this
  subst hl
  refine ⟨A, l, cap, rfl, h1, h2, ⟨h3, fun g off e i s hx => (hp i s hx).1 g off e⟩, fun s hs => ?_⟩
  obtain ⟨i, hi⟩ := List.getElem?_of_mem hs
  exact (hp i s hi).2
end Go.Proofs.YtfdmmgkhlgefbaaDoor
