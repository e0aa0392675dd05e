/- A table that is not there answers ErrNil: the walk. -/
import Derived.Test.YtbleilbphadehaaDoorNo
import Derived.Test.YtbleilbphadehaaDoorNst
namespace Go.Proofs.YtbleilbphadehaaDoor
open Go.RowKit Go.Shelf

theorem cKeep_nil (x : Int) (W : World) : Calls Tryd.prog 12 #[.pointer none, .int .u32 x] W fun e w' => e = .returned (.tuple #[.int .i64 0, .int .i64 1]) ∧ w' = W := by
  go_enter Tryd.func12, Tryd.ntmps12
  go_wp2_with fail
  refine (cNone_nil _).mono ?_
  rintro e w' ⟨rfl, rfl⟩
  go_wp2
  refine bodyPost_ret (results_tmp2 rfl _ _ _) rfl ?_
  exact ⟨rfl, rfl⟩
theorem cSet_nil (n : Int) (W : World) : Calls Tryd.prog 20 #[.pointer none, .int .i64 n] W fun e w' => e = .returned (.tuple #[.int .u32 0, .int .i64 1]) ∧ w' = W := by
  go_enter Tryd.func20, Tryd.ntmps20
  go_wp2_with fail
  refine wp_scope_jumps 0 (fun a' w' => w' = W ∧ ∃ u6 u7 u8 u9 u10 u11 u12 u13 u14 u15 u16 u17 u18 u19 u20 u21 u22 u23 u24 u25 u26 : Value, a' = { tmps := #[.pointer none, .int .i64 n, undef, undef, .int .u32 0, .int .i64 1, u6, u7, u8, u9, u10, u11, u12, u13, u14, u15, u16, u17, u18, u19, u20, u21, u22, u23, u24, u25, u26], defers := [] }) (fun _ _ => 0) rfl ?_ ?_
  · go_wp2_with fail
    refine (cNone_nil _).mono ?_
    rintro e w' ⟨rfl, rfl⟩
    go_wp2
    go_step3
    exact ⟨rfl, rfl, _, _, _, _, _, _, _, _, _, _, _, _, _, _, _, _, _, _, _, _, _, rfl⟩
  · rintro a' w' ⟨rfl, u6, u7, u8, u9, u10, u11, u12, u13, u14, u15, u16, u17, u18, u19, u20, u21, u22, u23, u24, u25, u26, rfl⟩
    go_wp2
    simp only [Exit.jump]
    refine bodyPost_ret (results_tmp2 rfl _ _ _) rfl ?_
    exact ⟨rfl, rfl⟩
theorem cSet_z {W : World} {p : Nat} {x y z : Value} (h : Cells W p 63 #[x, .slice none 0 0, y, z]) (n : Int) : Calls Tryd.prog 20 #[.pointer (some ⟨p, 0, none⟩), .int .i64 n] W fun e w' => e = .returned (.tuple #[.int .u32 0, .int .i64 1]) ∧ w' = W := by
  go_enter Tryd.func20, Tryd.ntmps20
  go_wp2_with fail
  refine wp_scope_jumps 0 (fun a' w' => w' = W ∧ ∃ u6 u7 u8 u9 u10 u11 u12 u13 u14 u15 u16 u17 u18 u19 u20 u21 u22 u23 u24 u25 u26 : Value, a' = { tmps := #[.pointer (some ⟨p, 0, none⟩), .int .i64 n, undef, undef, .int .u32 0, .int .i64 1, u6, u7, u8, u9, u10, u11, u12, u13, u14, u15, u16, u17, u18, u19, u20, u21, u22, u23, u24, u25, u26], defers := [] }) (fun _ _ => 0) rfl ?_ ?_
  · go_wp2_with fail
    refine (cNone_z h).mono ?_
    rintro e w' ⟨rfl, rfl⟩
    go_wp2
    go_step3
    exact ⟨rfl, rfl, _, _, _, _, _, _, _, _, _, _, _, _, _, _, _, _, _, _, _, _, _, rfl⟩
  · rintro a' w' ⟨rfl, u6, u7, u8, u9, u10, u11, u12, u13, u14, u15, u16, u17, u18, u19, u20, u21, u22, u23, u24, u25, u26, rfl⟩
    go_wp2
    simp only [Exit.jump]
    refine bodyPost_ret (results_tmp2 rfl _ _ _) rfl ?_
    exact ⟨rfl, rfl⟩
theorem cJoin_nil (a b : Int) (W : World) : Calls Tryd.prog 21 #[.pointer none, .int .i64 a, .int .i64 b] W fun e w' => e = .returned (.tuple #[.int .i64 0, .int .i64 1]) ∧ w' = W := by
  go_enter Tryd.func21, Tryd.ntmps21
  go_wp2_with fail
  refine (cSet_nil _ _).mono ?_
  rintro e w' ⟨rfl, rfl⟩
  go_wp2
  refine bodyPost_ret (results_tmp2 rfl _ _ _) rfl ?_
  exact ⟨rfl, rfl⟩
theorem cHas_z {W : World} {p : Nat} {x y z : Value} (h : Cells W p 63 #[x, .slice none 0 0, y, z]) (n : Int) : Calls Tryd.prog 11 #[.pointer (some ⟨p, 0, none⟩), .int .u32 n] W fun e w' => e = .returned (.tuple #[.int .i64 0, .bool false]) ∧ w' = W := by
  go_enter Tryd.func11, Tryd.ntmps11
  go_wp2_with fail
  refine (cNone_z h).mono ?_
  rintro e w' ⟨rfl, rfl⟩
  go_wp2
  refine bodyPost_ret (results_tmp2 rfl _ _ _) rfl ?_
  exact ⟨rfl, rfl⟩
theorem cLen_nil (W : World) : Calls Tryd.prog 13 #[.pointer none] W fun e w' => e = .returned (.int .i64 0) ∧ w' = W := by
  go_enter Tryd.func13, Tryd.ntmps13
  go_wp2_with fail
  refine (cNone_nil _).mono ?_
  rintro e w' ⟨rfl, rfl⟩
  go_wp2
  go_ret
  exact ⟨rfl, rfl⟩
theorem cAll_z {W : World} {p : Nat} {x y z : Value} (h : Cells W p 63 #[x, .slice none 0 0, y, z]) : Calls Tryd.prog 22 #[.pointer (some ⟨p, 0, none⟩)] W fun e w' => e = .returned (.slice none 0 0) ∧ w' = W := by
  go_enter Tryd.func22, Tryd.ntmps22
  go_wp2_with fail
  refine (cNone_z h).mono ?_
  rintro e w' ⟨rfl, rfl⟩
  go_wp2
  go_ret
  exact ⟨rfl, rfl⟩
theorem cCopy_nil (W : World) : Calls Tryd.prog 26 #[.pointer none] W fun e w' => e = .returned (.pointer none) ∧ w' = W := by
  go_enter Tryd.func26, Tryd.ntmps26
  go_wp2_with fail
  refine (cNone_nil _).mono ?_
  rintro e w' ⟨rfl, rfl⟩
  go_wp2
  go_ret
  exact ⟨rfl, rfl⟩
set_option maxRecDepth 100000 in
set_option maxHeartbeats 4000000 in
theorem cLabelsNil (k a b x : Int) (w : World) : Calls Tryd.prog 8 #[.agg (stepA k a b x)] w fun e w' => e = .returned (.bool true) ∧ Below w.heap.size w w' := by
  unfold stepA
  obtain ⟨k1, k2, kb, ks⟩ := cells2 w #[.int .i64 k, .int .i64 a, .int .i64 b, .int .u32 x] #[.int .i64 0, .slice none 0 0, .map none, .map none] 45 63
  obtain ⟨W1, hW1⟩ : ∃ W1, (w.alloc (.cells #[.int .i64 k, .int .i64 a, .int .i64 b, .int .u32 x] 45)).alloc (.cells #[.int .i64 0, .slice none 0 0, .map none, .map none] 63) = W1 := ⟨_, rfl⟩
  rw [hW1] at k1 k2 kb ks
  have i1 := (k1.cell 1).trans (show _ = some (Value.int .i64 a) from rfl)
  have i2 := (k1.cell 2).trans (show _ = some (Value.int .i64 b) from rfl)
  have i3 := (k1.cell 3).trans (show _ = some (Value.int .u32 x) from rfl)
  have K2 := Lib.hid k2
  have KB := Lib.hid kb
  clear k1 k2 kb ks
  go_enter Tryd.func8, Tryd.ntmps8
  go_wp2_with fail
  refine (cKeep_nil _ _).mono ?_
  rintro e w' ⟨rfl, rfl⟩
  go_wp2_with fail
  refine (cSet_z K2.out _).mono ?_
  rintro e w' ⟨rfl, rfl⟩
  go_wp2_with fail
  refine (cJoin_nil _ _ _).mono ?_
  rintro e w' ⟨rfl, rfl⟩
  go_wp2_with fail
  refine (cHas_z K2.out _).mono ?_
  rintro e w' ⟨rfl, rfl⟩
  clear i1 i2 i3
  go_wp2_with fail
  refine (cNew (n := 1) (by decide) (by decide) _).mono ?_
  rintro e W2 ⟨p, mn, mj, sv, rfl, t, b2⟩
  have K3 := Lib.hid (K2.out.below b2 K2.out.lt)
  have B3 := Lib.hid (KB.out.trans (b2.mono KB.out.size))
  have T3 := Lib.hid t
  clear t b2 hW1
  go_wp2_with fail
  refine (cLen_nil _).mono ?_
  rintro e w' ⟨rfl, rfl⟩
  go_wp2_with fail
  refine (cAll_z K3.out).mono ?_
  rintro e w' ⟨rfl, rfl⟩
  go_wp2_with fail
  refine (cCopy_nil _).mono ?_
  rintro e w' ⟨rfl, rfl⟩
  go_wp2_with fail
  refine (cSame_nz K3.out).mono ?_
  rintro e w' ⟨rfl, rfl⟩
  go_wp2_with fail
  refine (cSame_nt T3.out (by decide)).mono ?_
  rintro e w' ⟨rfl, rfl⟩
  go_wp2_with fail
  refine (cSame_tz K3.out T3.out (by decide)).mono ?_
  rintro e w' ⟨rfl, rfl⟩
  go_wp2_with fail
  refine (cKnown _).mono ?_
  rintro e W4 ⟨rfl, hb4⟩
  have B4 := Lib.hid (B3.out.trans (hb4.mono B3.out.size))
  clear hb4
  go_wp2
  go_ret
  exact ⟨rfl, B4.out⟩
end Go.Proofs.YtbleilbphadehaaDoor
