/- A table's calls that keep it: none, Len, Set, Has; New: contracts. -/
import Derived.Test.YtbleilbphadehaaDoorLq
import Derived.WalkMore
import Derived.ScopeJumps
namespace Go.Proofs.YtbleilbphadehaaDoor
open Go.RowKit Go.Shelf

section
variable {W : World} {base p mn mj : Nat} {sv : Value} {most : Int} {L : List Int} {J : List ((Int × Int) × Int)}
theorem TAt.form (h : TAt W base p mn mj sv most L J) (hp : 0 < L.length) : ∃ g cap, sv = .slice (some ⟨g, 0, none⟩) L.length cap ∧ L.length ≤ cap ∧ cap ≤ maxLen := by
  rcases h.s.2 with ⟨_, h0⟩ | ⟨g, cap, cur, hv, _, _, h1, h2, _⟩
  · omega
  · exact ⟨g, cap, hv, h1, h2⟩
theorem TAt.elem {g cap : Nat} (h : TAt W base p mn mj (.slice (some ⟨g, 0, none⟩) L.length cap) most L J) (j : Nat) (hj : j < L.length) : W.cell? ⟨g, j, none⟩ = some (.int .u32 (L.getD j 0)) := by
  rw [h.s.cellAt j (by omega), List.getElem?_map, List.getD_eq_getElem?_getD, List.getElem?_eq_getElem hj]; rfl
theorem cNone (h : TAt W base p mn mj sv most L J) (hp : 0 < L.length) : Calls Tryd.prog 28 #[.pointer (some ⟨p, 0, none⟩)] W fun e w' => e = .returned (.bool false) ∧ w' = W := by
  obtain ⟨g, cap, rfl, _, _⟩ := h.form hp
  have c1 := h.c.cell 1
  have hz : ((L.length : Int) == 0) = false := by rw [beq_eq_false_iff_ne]; omega
  go_enter Tryd.func28, Tryd.ntmps28
  go_wp2
  go_ret
  refine ⟨?_, rfl⟩
  rw [← hz]; rfl
theorem cNone_nil (W : World) : Calls Tryd.prog 28 #[.pointer none] W fun e w' => e = .returned (.bool true) ∧ w' = W := by
  go_enter Tryd.func28, Tryd.ntmps28
  go_wp2
  go_ret
  exact ⟨rfl, rfl⟩
theorem cNone_z {x y z : Value} (h : Cells W p 63 #[x, .slice none 0 0, y, z]) : Calls Tryd.prog 28 #[.pointer (some ⟨p, 0, none⟩)] W fun e w' => e = .returned (.bool true) ∧ w' = W := by
  have c1 := h.cell 1
  go_enter Tryd.func28, Tryd.ntmps28
  go_wp2
  go_ret
  exact ⟨rfl, rfl⟩
theorem cLen (h : TAt W base p mn mj sv most L J) (hp : 0 < L.length) : Calls Tryd.prog 13 #[.pointer (some ⟨p, 0, none⟩)] W fun e w' => e = .returned (.int .i64 L.length) ∧ w' = W := by
  have h' := h
  obtain ⟨g, cap, rfl, _, _⟩ := h.form hp
  have c1 := h.c.cell 1
  go_enter Tryd.func13, Tryd.ntmps13
  go_wp2_with fail
  refine (cNone h' hp).mono ?_
  rintro e w' ⟨rfl, rfl⟩
  go_wp2
  go_ret
  exact ⟨rfl, rfl⟩
theorem cSet (h : TAt W base p mn mj sv most L J) (hp : 0 < L.length) (n : Int) : Calls Tryd.prog 20 #[.pointer (some ⟨p, 0, none⟩), .int .i64 n] W fun e w' => e = .returned (.tuple #[.int .u32 (setR L n).1, .int .i64 (setR L n).2]) ∧ w' = W := by
  have h' := h
  obtain ⟨g, cap, rfl, hcap, hmax⟩ := h.form hp
  have c1 := h.c.cell 1
  unfold setR
  by_cases hn : inR L n
  · rw [if_pos hn]
    obtain ⟨n0, n1⟩ := hn
    have ce := h.elem n.toNat (by omega)
    generalize L.getD n.toNat 0 = v at ce ⊢
    go_enter Tryd.func20, Tryd.ntmps20
    go_wp2_with fail
    go_step3
    go_wp2_with fail
    refine (cNone h' hp).mono ?_
    rintro e w' ⟨rfl, rfl⟩
    go_wp2
    rw [Exit.noGoto_ret]
    refine bodyPost_ret (results_tmp2 rfl _ _ _) rfl ?_
    exact ⟨rfl, rfl⟩
  · rw [if_neg hn]
    unfold inR at hn
    go_enter Tryd.func20, Tryd.ntmps20
    go_wp2_with fail
    refine wp_scope_jumps 0 (fun a' w' => w' = W ∧ ∃ u6 u7 u8 u9 u10 u11 u12 u13 u14 u15 u16 u17 u18 u19 u20 u21 u22 u23 u24 u25 u26 : Value, a' = { tmps := #[.pointer (some ⟨p, 0, none⟩), .int .i64 n, undef, undef, .int .u32 0, .int .i64 5, u6, u7, u8, u9, u10, u11, u12, u13, u14, u15, u16, u17, u18, u19, u20, u21, u22, u23, u24, u25, u26], defers := [] }) (fun _ _ => 0) rfl ?_ ?_
    · by_cases h0 : n < 0
      all_goals
        go_wp2_with fail
        refine (cNone h' hp).mono ?_
        rintro e w' ⟨rfl, rfl⟩
        go_wp2
        go_step3
        exact ⟨rfl, rfl, _, _, _, _, _, _, _, _, _, _, _, _, _, _, _, _, _, _, _, _, _, rfl⟩
    · rintro a' w' ⟨rfl, u6, u7, u8, u9, u10, u11, u12, u13, u14, u15, u16, u17, u18, u19, u20, u21, u22, u23, u24, u25, u26, rfl⟩
      go_wp2
      simp only [Exit.jump]
      refine bodyPost_ret (results_tmp2 rfl _ _ _) rfl ?_
      exact ⟨rfl, rfl⟩
theorem zero_int (W : World) : (zeroValue 3).run Tryd.prog W = .ok (.int .i64 0) W := by kernel_rfl
theorem cHas (h : TAt W base p mn mj sv most L J) (hp : 0 < L.length) (x : Int) : Calls Tryd.prog 11 #[.pointer (some ⟨p, 0, none⟩), .int .u32 x] W fun e w' => e = .returned (.tuple #[.int .i64 (((idxL x L 0).getD 0 : Nat) : Int), .bool (idxL x L 0).isSome]) ∧ w' = W := by
  have h' := h
  have c2 := h.c.cell 2
  have hl : (Instr.lookup 60 (.map (some mn)) (.int .u32 x) true).run Tryd.prog W = .ok (.tuple #[.int .i64 (((idxL x L 0).getD 0 : Nat) : Int), .bool (idxL x L 0).isSome]) W := by
    rw [run_lookup_ints_ok h.n Tryd.underlying60 Tryd.underlying28 (zero_int W) x, numL_lookup]
    cases idxL x L 0 <;> rfl
  generalize (((idxL x L 0).getD 0 : Nat) : Int) = v at hl ⊢
  generalize (idxL x L 0).isSome = b at hl ⊢
  go_enter Tryd.func11, Tryd.ntmps11
  go_wp2_with fail
  refine (cNone h' hp).mono ?_
  rintro e w' ⟨rfl, rfl⟩
  go_wp2
  refine bodyPost_ret (results_tmp2 rfl _ _ _) rfl ?_
  exact ⟨rfl, rfl⟩
end
end Go.Proofs.YtbleilbphadehaaDoor
