/- Words and bytes are told back, what was added is taken away, moving up is a product, and order is that of the signs: the walk of the law, and its row. -/
import Derived.Test.YthimnljilgameaaC
import Derived.Test.YthimnljilgameaaRow
import Derived.Test.YthimnljilgameaaSin
namespace Go.Proofs.Ythimnljilgameaa.wordsAgain
open Go.ChangeShapes Go.WideShapes Go.ChangeAt Go.RowKit
theorem whole_back (a : Int) (h0 : 0 ≤ a) (h1 : a < 4294967296) : a % 256 + a / 256 % 256 * 256 + a / 65536 % 256 * 65536 + a / 16777216 % 256 * 16777216 = a := by omega
theorem bytes_back (x0 x1 x2 x3 : Int) (k0 : 0 ≤ x0 ∧ x0 < 256) (k1 : 0 ≤ x1 ∧ x1 < 256) (k2 : 0 ≤ x2 ∧ x2 < 256) (k3 : 0 ≤ x3 ∧ x3 < 256) (w : World) :
    (Op.equalIn 10000 28 (.agg (bytesZ (x0 + x1 * 256 + x2 * 65536 + x3 * 16777216))) (.agg #[.int .u8 x0, .int .u8 x1, .int .u8 x2, .int .u8 x3])).run Try.prog w = .ok true w := by
  rw [bytesZ, eql28, show (x0 + x1 * 256 + x2 * 65536 + x3 * 16777216) % 256 = x0 by omega, show (x0 + x1 * 256 + x2 * 65536 + x3 * 16777216) / 256 % 256 = x1 by omega,
    show (x0 + x1 * 256 + x2 * 65536 + x3 * 16777216) / 65536 % 256 = x2 by omega, show (x0 + x1 * 256 + x2 * 65536 + x3 * 16777216) / 16777216 % 256 = x3 by omega]
  simp
theorem byte0 (a n : Int) (h : n % 4 = 0) : byteZ a n = a % 256 := by rw [byteZ, h]; simp
theorem byte1 (a n : Int) (h : n % 4 = 1) : byteZ a n = a / 256 % 256 := by rw [byteZ, h]; simp
theorem byte2 (a n : Int) (h : n % 4 = 2) : byteZ a n = a / 65536 % 256 := by rw [byteZ, h]; simp
theorem byte3 (a n : Int) (h : n % 4 = 3) : byteZ a n = a / 16777216 % 256 := by rw [byteZ, h]; simp
theorem away (a b : Int) (h0 : 0 ≤ a) (h1 : a < 4294967296) : ((a + b) % 4294967296 - b) % 4294967296 = a := by omega

theorem walk (a0 : Int) (h00 : 0 ≤ a0) (h01 : a0 < 4294967296) (a1 : Int) (h10 : 0 ≤ a1) (h11 : a1 < 4294967296) (x0 : Int) (k0 : 0 ≤ x0 ∧ x0 < 256) (x1 : Int) (k1 : 0 ≤ x1 ∧ x1 < 256) (x2 : Int) (k2 : 0 ≤ x2 ∧ x2 < 256) (x3 : Int) (k3 : 0 ≤ x3 ∧ x3 < 256) (w : World) :
    Calls Try.prog 9 #[.int .u32 a0, .int .u32 a1, .agg #[.int .u8 x0, .int .u8 x1, .int .u8 x2, .int .u8 x3]] w fun e w' => e = .returned (.bool true) ∧ Below w.heap.size w w' := by
  have hB : Below w.heap.size w (w.alloc (.cells #[.int .u8 x0, .int .u8 x1, .int .u8 x2, .int .u8 x3] 28)) := (Below.refl _ _).alloc (Nat.le_refl _) _
  have C := Cells.new w 28 #[.int .u8 x0, .int .u8 x1, .int .u8 x2, .int .u8 x3]
  go_enter Try.func9, Try.ntmps9
  go_wp2_with fail
  generalize w.alloc _ = W at *
  refine (c29b _ h00 h01 _).mono ?_
  rintro e w1 ⟨rfl, hb⟩
  have C1 : Cells w1 w.heap.size 28 #[.int .u8 x0, .int .u8 x1, .int .u8 x2, .int .u8 x3] := (hb.block _ C.lt).trans C
  have hB1 := hB.trans (hb.mono hB.size)
  have lt1 := C1.lt
  clear hb C
  have hB2 : Below w.heap.size w (w1.alloc (.cells #[.int .u8 (a0 % 256), .int .u8 (a0 / 256 % 256), .int .u8 (a0 / 65536 % 256), .int .u8 (a0 / 16777216 % 256)] 28)) := hB1.alloc hB1.size _
  have D := Cells.new w1 28 #[.int .u8 (a0 % 256), .int .u8 (a0 / 256 % 256), .int .u8 (a0 / 65536 % 256), .int .u8 (a0 / 16777216 % 256)]
  have C2 := C1.alloc (.cells #[.int .u8 (a0 % 256), .int .u8 (a0 / 256 % 256), .int .u8 (a0 / 65536 % 256), .int .u8 (a0 / 16777216 % 256)] 28)
  clear C1
  show _
  simp only [bytesZ]
  go_wp2_with fail
  generalize w1.alloc _ = W2 at *
  go_loop [8, 9] (fun x i => ∃ k : Nat, (k : Int) ≤ a1 % 32 ∧ i = .int .u32 k ∧ x = .int .u32 (2 ^ k)) (fun _ i => 32 - (intOf i).toNat)
  case atStart => exact ⟨0, by omega, rfl, rfl⟩
  case round =>
    obtain ⟨k, hk, rfl, rfl⟩ := hrel
    have hp := pow_le31 k (by omega)
    by_cases hlt : (k : Int) < a1 % 32
    · have hp2 := pow_le31 (k + 1) (by omega)
      have es : (2 : Int) ^ (k + 1) = 2 ^ k * 2 := Int.pow_succ _ _
      have ES := Lib.hid es
      rw [es] at hp2
      clear es
      go_wp2_with fail
      go_round
      case rel => exact ⟨k + 1, by omega, by go_num, by rw [ES.out]⟩
      case measure => simp [intOf]; omega
    · have hs : shlZ a0 a1 = a0 * 2 ^ k % 4294967296 := by rw [shlZ, show (a1 % 32).toNat = k by omega]
      have e1 := whole_back a0 h00 h01
      have e2 := bytes_back x0 x1 x2 x3 k0 k1 k2 k3
      have e4 := away a0 a1 h00 h01
      have d0 := fun x : Since W2 => x.cell ((C2.cell 0).trans rfl)
      have d1 := fun x : Since W2 => x.cell ((C2.cell 1).trans rfl)
      have d2 := fun x : Since W2 => x.cell ((C2.cell 2).trans rfl)
      have d3 := fun x : Since W2 => x.cell ((C2.cell 3).trans rfl)
      have f0 := fun x : Since W2 => x.cell ((D.cell 0).trans rfl)
      have f1 := fun x : Since W2 => x.cell ((D.cell 1).trans rfl)
      have f2 := fun x : Since W2 => x.cell ((D.cell 2).trans rfl)
      have f3 := fun x : Since W2 => x.cell ((D.cell 3).trans rfl)
      go_wp2_with fail
      obtain hn | hn | hn | hn : a1 % 4 = 0 ∨ a1 % 4 = 1 ∨ a1 % 4 = 2 ∨ a1 % 4 = 3 := by omega
      all_goals
        first | have e3 := byte0 a0 a1 hn | have e3 := byte1 a0 a1 hn | have e3 := byte2 a0 a1 hn | have e3 := byte3 a0 a1 hn
        refine wp_region_since (by kernel_rfl) (by kernel_rfl) ?_
        repeat (go_big_quiet_step (first | (go_at_call 31; exact Since.of (c31 _ _ _ _ (by omega) (by omega) (by omega) (by omega) _)) | (go_at_call 29; exact Since.of (c29b _ (by omega) (by omega) _)) | (go_at_call 33; exact Since.same (c33 _ _ (by omega) (by omega) (by omega) (by omega) _)) | (go_at_call 19; exact Since.same (c19 _ _ _)) | (go_at_call 21; exact Since.same (c21 _ _ _)) | (go_at_call 17; exact Since.same (c17 _ _ _)) | (go_at_call 10; exact Since.same (c10 _ _ _ (by omega) (by omega))) | (go_at_call 23; exact Since.same (c23 _ _ _)) | (go_at_call 27; exact Since.same (c27 _ _)) | (go_at_call 12; exact Since.of (c12 _))))
        refine wpQuiet_nil ?_
        rintro _ ⟨x, rfl⟩
        go_wp2
        go_ret
        exact ⟨rfl, hB2.trans (x.low.mono hB2.size)⟩

set_option maxRecDepth 100000 in
theorem lifted (os : Os) (started : os.Started) (H : Type) (enc : TypeId × Value → H) :
    ReturnsInHanded {} Try.checked os 9 .any (Rows.wordsAgainSpec.pre6 enc Try.prog Try.f9 Rows.wordsAgainRow.domain false) (Rows.wordsAgainSpec.post enc Try.prog Try.f9 false true false false) := by
  refine returnsInHanded_of_change (C := Try.checked) Try.own started (by kernel_rfl) Try.func9
    (ChangeSpec.witness6 (enc := enc) (C := Try.checked) false ⟨#[], #[.int .u32 0, .int .u32 0, .agg #[.int .u8 0, .int .u8 0, .int .u8 0, .int .u8 0]], []⟩ 8 (by kernel_rfl) (by kernel_rfl) (by kernel_rfl) (by kernel_rfl)) ?_
  intro W base args ds gs before hval0 hW hcnd _
  have hval : ∀ (j : Nat) t v, Try.f9.params[j]? = some t → args[j]? = some v → Value.okWide Try.prog W .any base t v := hval0
  have hW' := hW
  obtain ⟨p, q, hA0, hV, rfl, hfz, hnd⟩ := hW
  have hA : DataW.TrodAll enc Try.prog W 0 (fun _ => true) true Try.f9.params.toList args.toList ds p := hA0
  rw [Try.params9] at hA hval
  obtain ⟨v0, vs0, d0, ds0, p0, q0, hargs, rfl, rfl, h0, r0⟩ := trodAll_cons hA
  obtain ⟨v1, vs1, d1, ds1, p1, q1, rfl, rfl, rfl, h1, r1⟩ := trodAll_cons r0
  obtain ⟨v2, vs2, d2, ds2, p2, q2, rfl, rfl, rfl, h2, r2⟩ := trodAll_cons r1
  obtain ⟨rfl, rfl, rfl⟩ := trodAll_nil r2
  obtain rfl : args = #[v0, v1, v2] := by cases args; simp_all
  obtain ⟨rfl, rfl⟩ := trodVars_none hV
  obtain ⟨a0, rfl, rfl, rfl, w0⟩ := open_int Try.underlying22 (hval 0 22 v0 rfl rfl) h0
  have bd0 := bounds_u32 w0
  obtain ⟨a1, rfl, rfl, rfl, w1⟩ := open_int Try.underlying22 (hval 1 22 v1 rfl rfl) h1
  have bd1 := bounds_u32 w1
  obtain ⟨l2, rfl, hl2, hb2⟩ := open_intsA Try.underlying28 (by kernel_rfl) (by kernel_rfl) Try.underlying5 (hval 2 28 v2 rfl rfl) h2
  obtain ⟨x0, x1, x2, x3, rfl⟩ := list4 l2 hl2
  have hx : ∀ x ∈ [x0, x1, x2, x3], 0 ≤ x ∧ x < 256 := fun x hx => by have := bounds_u8 (hb2 x hx); omega
  refine (walk a0 bd0.1 (by omega) a1 bd1.1 (by omega) x0 (hx x0 (by simp)) x1 (hx x1 (by simp)) x2 (hx x2 (by simp)) x3 (hx x3 (by simp)) W).mono fun e W' ⟨he, hb⟩ => ?_
  subst he
  exact ⟨_, rfl, law_post Try.laidOut rfl (by kernel_rfl) Try.underlying4 (by kernel_rfl) rfl hW' hb⟩

theorem proved : Rows.WordsAgainSaid :=
  OpenClaim.holds_of_wide 9 Try.f9 rfl rfl rfl rfl rfl rfl rfl ⟨rfl, rfl, rfl, rfl, rfl⟩ rfl rfl rfl rfl rfl (by kernel_rfl) Try.func9 (by kernel_rfl)
    (of_decide_eq_true (by kernel_rfl)) (by unfold Func.isWrapper; first | (rw [if_pos (by decide +kernel)]; kernel_rfl) | (rw [if_neg (by decide +kernel)]; exact ⟨rfl, rfl⟩))
    (fun os started H enc _ => lifted os started H enc)
#print axioms proved
end Go.Proofs.Ythimnljilgameaa.wordsAgain
