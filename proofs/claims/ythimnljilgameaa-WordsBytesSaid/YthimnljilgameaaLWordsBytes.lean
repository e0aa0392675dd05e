/- A word's bytes, one of them, and the word of bytes: the walk of the law, and its row. -/
import Derived.Test.YthimnljilgameaaC
import Derived.Test.YthimnljilgameaaRow
import Derived.Test.YthimnljilgameaaSin
namespace Go.Proofs.Ythimnljilgameaa.wordsBytes
open Go.ChangeShapes Go.WideShapes Go.ChangeAt Go.RowKit

theorem walk (a0 : Int) (h00 : 0 ≤ a0) (h01 : a0 < 4294967296) (x0 : Int) (k0 : 0 ≤ x0 ∧ x0 < 256) (x1 : Int) (k1 : 0 ≤ x1 ∧ x1 < 256) (x2 : Int) (k2 : 0 ≤ x2 ∧ x2 < 256) (x3 : Int) (k3 : 0 ≤ x3 ∧ x3 < 256) (a2 : Int) (h20 : 0 ≤ a2) (h21 : a2 < 4294967296) (w : World) :
    Calls Try.prog 8 #[.int .u32 a0, .agg #[.int .u8 x0, .int .u8 x1, .int .u8 x2, .int .u8 x3], .int .u32 a2] w fun e w' => e = .returned (.bool true) ∧ Below w.heap.size w w' := by
  have q : ∀ w, (Op.equalIn 10000 28 (.agg (bytesZ a0)) (.agg (bytesZ a0))).run Try.prog w = .ok true w := fun w => by rw [bytesZ, eql28]; simp
  have hB : Below w.heap.size w (w.alloc (.cells #[.int .u8 x0, .int .u8 x1, .int .u8 x2, .int .u8 x3] 28)) := (Below.refl _ _).alloc (Nat.le_refl _) _
  have C := Cells.new w 28 #[.int .u8 x0, .int .u8 x1, .int .u8 x2, .int .u8 x3]
  go_enter Try.func8, Try.ntmps8
  go_wp2
  generalize w.alloc _ = W at *
  have d0 := fun x : Since W => x.cell ((C.cell 0).trans rfl)
  have d1 := fun x : Since W => x.cell ((C.cell 1).trans rfl)
  have d2 := fun x : Since W => x.cell ((C.cell 2).trans rfl)
  have d3 := fun x : Since W => x.cell ((C.cell 3).trans rfl)
  refine wp_region_since (by kernel_rfl) (by kernel_rfl) ?_
  repeat (go_big_quiet_step (first | (go_at_call 29; exact Since.of (c29b _ (by omega) (by omega) _)) | (go_at_call 30; exact Since.of (c30 _ (by omega) (by omega) _)) | (go_at_call 31; exact Since.of (c31 _ _ _ _ (by omega) (by omega) (by omega) (by omega) _)) | (go_at_call 32; exact Since.of (c32 _ _ _ _ (by omega) (by omega) (by omega) (by omega) _)) | (go_at_call 33; exact Since.same (c33 _ _ (by omega) (by omega) (by omega) (by omega) _)) | (go_at_call 34; exact Since.of (c34 _ _ (by omega) (by omega) (by omega) (by omega) _)) | (go_at_call 12; exact Since.of (c12 _))))
  refine wpQuiet_nil ?_
  rintro _ ⟨x, rfl⟩
  go_wp2
  go_ret
  exact ⟨rfl, hB.trans (x.low.mono hB.size)⟩

set_option maxRecDepth 100000 in
theorem lifted (os : Os) (started : os.Started) (H : Type) (enc : TypeId × Value → H) :
    ReturnsInHanded {} Try.checked os 8 .any (Rows.wordsBytesSpec.pre6 enc Try.prog Try.f8 Rows.wordsBytesRow.domain false) (Rows.wordsBytesSpec.post enc Try.prog Try.f8 false true false false) := by
  refine returnsInHanded_of_change (C := Try.checked) Try.own started (by kernel_rfl) Try.func8
    (ChangeSpec.witness6 (enc := enc) (C := Try.checked) false ⟨#[], #[.int .u32 0, .agg #[.int .u8 0, .int .u8 0, .int .u8 0, .int .u8 0], .int .u32 0], []⟩ 8 (by kernel_rfl) (by kernel_rfl) (by kernel_rfl) (by kernel_rfl)) ?_
  intro W base args ds gs before hval0 hW hcnd _
  have hval : ∀ (j : Nat) t v, Try.f8.params[j]? = some t → args[j]? = some v → Value.okWide Try.prog W .any base t v := hval0
  have hW' := hW
  obtain ⟨p, q, hA0, hV, rfl, hfz, hnd⟩ := hW
  have hA : DataW.TrodAll enc Try.prog W 0 (fun _ => true) true Try.f8.params.toList args.toList ds p := hA0
  rw [Try.params8] at hA hval
  obtain ⟨v0, vs0, d0, ds0, p0, q0, hargs, rfl, rfl, h0, r0⟩ := trodAll_cons hA
  obtain ⟨v1, vs1, d1, ds1, p1, q1, rfl, rfl, rfl, h1, r1⟩ := trodAll_cons r0
  obtain ⟨v2, vs2, d2, ds2, p2, q2, rfl, rfl, rfl, h2, r2⟩ := trodAll_cons r1
  obtain ⟨rfl, rfl, rfl⟩ := trodAll_nil r2
  obtain rfl : args = #[v0, v1, v2] := by cases args; simp_all
  obtain ⟨rfl, rfl⟩ := trodVars_none hV
  obtain ⟨a0, rfl, rfl, rfl, w0⟩ := open_int Try.underlying22 (hval 0 22 v0 rfl rfl) h0
  have bd0 := bounds_u32 w0
  obtain ⟨l1, rfl, hl1, hb1⟩ := open_intsA Try.underlying28 (by kernel_rfl) (by kernel_rfl) Try.underlying5 (hval 1 28 v1 rfl rfl) h1
  obtain ⟨x0, x1, x2, x3, rfl⟩ := list4 l1 hl1
  have hx : ∀ x ∈ [x0, x1, x2, x3], 0 ≤ x ∧ x < 256 := fun x hx => by have := bounds_u8 (hb1 x hx); omega
  obtain ⟨a2, rfl, rfl, rfl, w2⟩ := open_int Try.underlying22 (hval 2 22 v2 rfl rfl) h2
  have bd2 := bounds_u32 w2
  refine (walk a0 bd0.1 (by omega) x0 (hx x0 (by simp)) x1 (hx x1 (by simp)) x2 (hx x2 (by simp)) x3 (hx x3 (by simp)) a2 bd2.1 (by omega) W).mono fun e W' ⟨he, hb⟩ => ?_
  subst he
  exact ⟨_, rfl, law_post Try.laidOut rfl (by kernel_rfl) Try.underlying4 (by kernel_rfl) rfl hW' hb⟩

theorem proved : Rows.WordsBytesSaid :=
  OpenClaim.holds_of_wide 8 Try.f8 rfl rfl rfl rfl rfl rfl rfl ⟨rfl, rfl, rfl, rfl, rfl⟩ rfl rfl rfl rfl rfl (by kernel_rfl) Try.func8 (by kernel_rfl)
    (of_decide_eq_true (by kernel_rfl)) (by unfold Func.isWrapper; first | (rw [if_pos (by decide +kernel)]; kernel_rfl) | (rw [if_neg (by decide +kernel)]; exact ⟨rfl, rfl⟩))
    (fun os started H enc _ => lifted os started H enc)
#print axioms proved
end Go.Proofs.Ythimnljilgameaa.wordsBytes
