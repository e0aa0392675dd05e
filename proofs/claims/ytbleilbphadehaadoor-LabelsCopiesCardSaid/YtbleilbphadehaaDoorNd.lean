/- Tables compared; two sets joined: contracts. -/
import Derived.Test.YtbleilbphadehaaDoorNc
namespace Go.Proofs.YtbleilbphadehaaDoor
open Go.RowKit Go.Shelf

theorem pair_part (x : Int × Int) (w : World) : (part 3 #[Value.int .i64 x.1, .int .i64 x.2] 0).run Tryd.prog w = .ok (.int .i64 x.1) w ∧ (part 3 #[Value.int .i64 x.1, .int .i64 x.2] 1).run Tryd.prog w = .ok (.int .i64 x.2) w :=
  ⟨run_part_plain w (by kernel_rfl) rfl, run_part_plain w (by kernel_rfl) rfl⟩
theorem pair_ck (e : Bool) (x : Int × Int) (w : World) : (Instr.checkKey e 10000 73 (pairV x)).run Tryd.prog w = .ok () w := by
  have hc : ∀ v : Int, (Instr.checkKey e 9999 3 (.int .i64 v)).run Tryd.prog w = .ok () w := fun v => MapKept.run_checkKey Tryd.underlying3 (show MapKept.IsKey (.int .i64) (.int .i64 v) from rfl) e 9998
  have hp := pair_part x w
  unfold Instr.checkKey
  simp only [Sem.run_bind, run_underlying Tryd.underlying73, Result.andThen_ok, pairV]
  rw [← Array.forIn_toList]
  simp only [List.forIn_cons, List.forIn_nil, Sem.run_bind, hp.1, hp.2, hc, Result.andThen_ok, Sem.run_pure, ne_eq, String.reduceEq, not_false_eq_true, if_true]
theorem pair_eq (x y : Int × Int) (w : World) : (Op.equal 73 (pairV x) (pairV y)).run Tryd.prog w = .ok (decide (x = y)) w := by
  obtain ⟨p1, p2⟩ := pair_part x w
  obtain ⟨q1, q2⟩ := pair_part y w
  have he : ∀ a b : Int, (Op.equalIn 9999 3 (.int .i64 a) (.int .i64 b)).run Tryd.prog w = .ok (a == b) w := fun a b => run_equalIn_int w 9998 3 .i64 .i64 a b Tryd.underlying3
  unfold Op.equal pairV
  rw [show Op.maxDepth = 9999 + 1 from rfl, run_equalIn_struct w 9999 73 _ _ (by kernel_rfl) (by kernel_rfl)]
  rw [show (Tryd.prog.fieldsOf 73).toList = [{ name := "a", type := 3, offset := 0, embedded := false, tag := "", pkgPath := "pomander/labels", byteOffset := 0 }, { name := "b", type := 3, offset := 1, embedded := false, tag := "", pkgPath := "pomander/labels", byteOffset := 8 }] by kernel_rfl]
  obtain ⟨a, b⟩ := x
  obtain ⟨c, d⟩ := y
  simp only at p1 p2 q1 q2
  simp only [Op.eqFields, Sem.run_bind, p1, q1, he, Result.andThen_ok, Sem.run_pure, ne_eq, String.reduceEq, not_false_eq_true, if_true, Sem.run_ite]
  by_cases h1 : a = c
  · simp only [h1, beq_self_eq_true, Bool.not_true, Bool.false_eq_true, if_false]
    rw [h1] at p2
    simp only [p2, q2, he, Result.andThen_ok]
    by_cases h2 : b = d <;> simp [h2]
  · simp [h1]
theorem pairKey : PairKey Tryd.prog 73 := ⟨⟨_, Tryd.underlying73⟩, pair_ck, pair_eq⟩
theorem or_u32 {x y : Int} (hx : 0 ≤ x ∧ x < 65536) (hy : 0 ≤ y ∧ y < 65536) : bits .or .u32 x y = orZ x y := by
  obtain ⟨a, rfl⟩ : ∃ a : Nat, x = a := ⟨x.toNat, by omega⟩
  obtain ⟨b, rfl⟩ : ∃ b : Nat, y = b := ⟨y.toNat, by omega⟩
  have hab := or_lt16 (a := a) (b := b) (by omega) (by omega)
  unfold bits orZ
  simp only [Int.toNat_natCast]
  show IntKind.u32.wrap ((BitVec.ofInt 32 (a : Int) ||| BitVec.ofInt 32 (b : Int)).toNat : Int) = _
  rw [BitVec.ofInt_natCast, BitVec.ofInt_natCast, BitVec.toNat_or, BitVec.toNat_ofNat, BitVec.toNat_ofNat, Nat.mod_eq_of_lt (by omega), Nat.mod_eq_of_lt (by omega), IntKind.wrap_u32]
  omega
theorem cSame_nt {W : World} {base p mn mj : Nat} {sv : Value} {most : Int} {L : List Int} {J : List ((Int × Int) × Int)} (h : TAt W base p mn mj sv most L J) (hp : 0 < L.length) : Calls Tryd.prog 27 #[.pointer none, .pointer (some ⟨p, 0, none⟩)] W fun e w' => e = .returned (.bool false) ∧ w' = W := by
  go_enter Tryd.func27, Tryd.ntmps27
  go_wp2_with fail
  refine (cNone_nil _).mono ?_
  rintro e w' ⟨rfl, rfl⟩
  go_wp2_with fail
  refine (cNone_nil _).mono ?_
  rintro e w' ⟨rfl, rfl⟩
  go_wp2_with fail
  refine (cNone h hp).mono ?_
  rintro e w' ⟨rfl, rfl⟩
  go_wp2
  go_ret
  exact ⟨rfl, rfl⟩
theorem cSame_nz {W : World} {p : Nat} {x y z : Value} (h : Cells W p 63 #[x, .slice none 0 0, y, z]) : Calls Tryd.prog 27 #[.pointer none, .pointer (some ⟨p, 0, none⟩)] W fun e w' => e = .returned (.bool true) ∧ w' = W := by
  go_enter Tryd.func27, Tryd.ntmps27
  go_wp2_with fail
  refine (cNone_nil _).mono ?_
  rintro e w' ⟨rfl, rfl⟩
  go_wp2_with fail
  refine (cNone_nil _).mono ?_
  rintro e w' ⟨rfl, rfl⟩
  go_wp2_with fail
  refine (cNone_z h).mono ?_
  rintro e w' ⟨rfl, rfl⟩
  go_wp2
  go_ret
  exact ⟨rfl, rfl⟩
theorem cSame_tz {W : World} {p' : Nat} {x y z : Value} (hz : Cells W p' 63 #[x, .slice none 0 0, y, z]) {base p mn mj : Nat} {sv : Value} {most : Int} {L : List Int} {J : List ((Int × Int) × Int)} (h : TAt W base p mn mj sv most L J) (hp : 0 < L.length) : Calls Tryd.prog 27 #[.pointer (some ⟨p, 0, none⟩), .pointer (some ⟨p', 0, none⟩)] W fun e w' => e = .returned (.bool false) ∧ w' = W := by
  go_enter Tryd.func27, Tryd.ntmps27
  go_wp2_with fail
  refine (cNone h hp).mono ?_
  rintro e w' ⟨rfl, rfl⟩
  go_wp2_with fail
  refine (cNone_z hz).mono ?_
  rintro e w' ⟨rfl, rfl⟩
  go_wp2_with fail
  refine (cNone h hp).mono ?_
  rintro e w' ⟨rfl, rfl⟩
  go_wp2
  go_ret
  exact ⟨rfl, rfl⟩
set_option maxRecDepth 100000 in
set_option maxHeartbeats 1000000 in
theorem cSame {W : World} {base p mn mj : Nat} {sv : Value} {most : Int} {L : List Int} {J : List ((Int × Int) × Int)} (h : TAt W base p mn mj sv most L J) (hp : 0 < L.length) (hL : L.length ≤ 65536)
    {base' p' mn' mj' : Nat} {sv' : Value} {most' : Int} {L' : List Int} {J' : List ((Int × Int) × Int)} (h' : TAt W base' p' mn' mj' sv' most' L' J') (hp' : 0 < L'.length) (hL' : L'.length ≤ 65536) :
    Calls Tryd.prog 27 #[.pointer (some ⟨p, 0, none⟩), .pointer (some ⟨p', 0, none⟩)] W fun e w' => e = .returned (.bool (decide (most = most' ∧ L = L'))) ∧ Below W.heap.size W w' := by
  have k := h
  have k' := h'
  obtain ⟨g, cap, rfl, hcap, hr⟩ := Rd.of_row h.s hp
  obtain ⟨g', cap', rfl, hcap', hr'⟩ := Rd.of_row h'.s hp'
  have a0 := fun x : Since W => x.cell (show W.cell? ⟨p, 0, none⟩ = some (.int .i64 most) from h.c.cell 0)
  have a1 := fun x : Since W => x.cell (show W.cell? ⟨p, 1, none⟩ = some (.slice (some ⟨g, 0, none⟩) L.length cap) from h.c.cell 1)
  have b0 := fun x : Since W => x.cell (show W.cell? ⟨p', 0, none⟩ = some (.int .i64 most') from h'.c.cell 0)
  have b1 := fun x : Since W => x.cell (show W.cell? ⟨p', 1, none⟩ = some (.slice (some ⟨g', 0, none⟩) L'.length cap') from h'.c.cell 1)
  have HR := Lib.hid hr
  have HR' := Lib.hid hr'
  clear h h' hr hr'
  by_cases hm : most = most'
  · have hq : (most == most') = true := by simp [hm]
    have HM := Lib.hid hm
    clear hm
    go_enter Tryd.func27, Tryd.ntmps27
    go_wp2_with fail
    refine (cNone k hp).mono ?_
    rintro e w' ⟨rfl, rfl⟩
    go_wp2_with fail
    refine (cNone k' hp').mono ?_
    rintro e w' ⟨rfl, rfl⟩
    go_wp2_with fail
    refine wp_region_since (by kernel_rfl) (by kernel_rfl) ?_
    repeat (go_big_quiet_step (first | (go_at_call 39; exact Since.of (cEqual ((HR.out.keep fun _ hg => (Since.low _).block _ hg).up (Since.low _).size) ((HR'.out.keep fun _ hg => (Since.low _).block _ hg).up (Since.low _).size) hL hL'))))
    refine wpQuiet_nil ?_
    rintro _ ⟨x, rfl⟩
    go_wp2
    go_ret
    exact ⟨ret_bool (by simp [HM.out]), x.low⟩
  · have hq : (most == most') = false := by simp [hm]
    have HM := Lib.hid hm
    clear hm
    go_enter Tryd.func27, Tryd.ntmps27
    go_wp2_with fail
    refine (cNone k hp).mono ?_
    rintro e w' ⟨rfl, rfl⟩
    go_wp2_with fail
    refine (cNone k' hp').mono ?_
    rintro e w' ⟨rfl, rfl⟩
    go_wp2_with fail
    refine wp_region_since (by kernel_rfl) (by kernel_rfl) ?_
    repeat (go_big_quiet_step (fail))
    refine wpQuiet_nil ?_
    rintro _ ⟨x, rfl⟩
    go_wp2
    go_ret
    exact ⟨ret_bool (by simp [HM.out]), x.low⟩
end Go.Proofs.YtbleilbphadehaaDoor
