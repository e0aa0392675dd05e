/- Which disks there are: the walk of the law, and its row. -/
import Derived.Test.YtoplchdnfmcbaaaVj
namespace Go.Proofs.Ytoplchdnfmcbaaa.diskMakes
open Go.ChangeShapes Go.WideShapes Go.ChangeAt Go.RowKit Go.Shelf Go.Deep

/-- A nil slice has no capacity. -/
theorem cap_nil {H : Type} {enc : TypeId × Value → H} {w : World} {base : Nat} {spare : Nat → Bool} {held : Bool} {A : Option Addr} {len cap : Nat} {d : DataW H} {ps : List MemPlace} (h : DataW.Trod enc Try.prog w base spare held 25 (.slice A len cap) d ps) : A = none → cap = 0 := by
  obtain ⟨fuel, hf⟩ := h
  have hf' : DataW.trod enc Try.prog w base spare held fuel 25 [.slice A len cap] = some (d, ps) := hf
  rcases open_slice Try.underlying25 hf' with ⟨h1, _⟩ | ⟨a, len', cap', m, n, D, Pl, h1, _⟩
  · simp at h1
    obtain ⟨rfl, rfl, rfl⟩ := h1
    exact fun _ => rfl
  · simp at h1
    obtain ⟨rfl, _⟩ := h1
    intro h; cases h


set_option maxRecDepth 100000 in
theorem walk_long {w : World} {A : Option Addr} {L c : Nat} (n : Int) (h5 : (5000 : Int) < L) :
    Calls Try.prog 7 #[.int .i64 n, .slice A L c] w fun e w' => e = .returned (.bool true) ∧ Below w.heap.size w w' := by
  go_enter Try.func7, Try.ntmps7
  go_wp2_with fail
  refine (c9 _).mono ?_
  rintro e W2 ⟨rfl, hb9⟩
  go_wp2
  go_ret
  exact ⟨rfl, hb9⟩
theorem walk {w : World} {A : Option Addr} {l : List Int} {c : Nat} (n : Int) (hA : A = none → c = 0) (hc : l.length ≤ c) (hr : Rd w w.heap.size .u8 A l) (hsec : ∀ x ∈ l, (Lit.int .u8 x).wf = true) :
    Calls Try.prog 7 #[.int .i64 n, .slice A l.length c] w fun e w' => e = .returned (.bool true) ∧ Below w.heap.size w w' := by
  by_cases h5 : l.length ≤ 5000
  · cases A with
    | none =>
      obtain rfl : l = [] := by
        cases l with
        | nil => rfl
        | cons x l => obtain ⟨g, off, e, _⟩ := hr.some_ (by simp); cases e
      obtain rfl := hA rfl
      by_cases hn : 1 ≤ n ∧ n ≤ 32
      · obtain ⟨n1, n2⟩ := hn
        obtain ⟨n, rfl⟩ := Int.eq_ofNat_of_zero_le (show 0 ≤ n by omega)
        exact makes_ni (by omega) (by omega)
      · exact makes_no (by omega)
    | some ad =>
      by_cases h : 64 ≤ l.length ∧ l.length ≤ 2048 ∧ l.length % 64 = 0
      · have hs : ∀ x ∈ l, 0 ≤ x ∧ x < 256 := fun x hx => by have := bounds_u8 (hsec x hx); omega
        by_cases hn : 1 ≤ n ∧ n ≤ 32
        · obtain ⟨n1, n2⟩ := hn
          obtain ⟨n, rfl⟩ := Int.eq_ofNat_of_zero_le (show 0 ≤ n by omega)
          exact makes_gi (N := l.length / 64) (by omega) (by omega) (by omega) (by omega) (by omega) hc hr hs
        · exact makes_go (N := l.length / 64) (by omega) (by omega) (by omega) (by omega) hc hr hs
      · by_cases hn : 1 ≤ n ∧ n ≤ 32
        · obtain ⟨n1, n2⟩ := hn
          obtain ⟨n, rfl⟩ := Int.eq_ofNat_of_zero_le (show 0 ≤ n by omega)
          exact makes_bi (by omega) (by omega) h5 h hr
        · exact makes_bo (by omega) h5 h hr
  · exact walk_long n (by omega)

set_option maxRecDepth 100000 in
theorem lifted (os : Os) (started : os.Started) (H : Type) (enc : TypeId × Value → H) :
    ReturnsInHanded {} Try.checked os 7 .any (Rows.diskMakesSpec.pre6 enc Try.prog Try.f7 Rows.diskMakesRow.domain false) (Rows.diskMakesSpec.post enc Try.prog Try.f7 false true false false) := by
  refine returnsInHanded_of_change (C := Try.checked) Try.own started (by kernel_rfl) Try.func7
    (ChangeSpec.witness6 (enc := enc) (C := Try.checked) false ⟨#[], #[.int .i64 0, .slice none 0 0], []⟩ 8 (by kernel_rfl) (by kernel_rfl) (by kernel_rfl) (by kernel_rfl)) ?_
  intro W base args ds gs before hval0 hW hcnd _
  have hval : ∀ (j : Nat) t v, Try.f7.params[j]? = some t → args[j]? = some v → Value.okWide Try.prog W .any base t v := hval0
  have hW' := hW
  obtain ⟨p, q, hA0, hV, rfl, hfz, hnd⟩ := hW
  have hA : DataW.TrodAll enc Try.prog W 0 (fun _ => true) true Try.f7.params.toList args.toList ds p := hA0
  rw [Try.params7] at hA hval
  obtain ⟨v0, vs0, d0, ds0, p0, q0, hargs, rfl, rfl, h0, r0⟩ := trodAll_cons hA
  obtain ⟨v1, vs1, d1, ds1, p1, q1, rfl, rfl, rfl, h1, r1⟩ := trodAll_cons r0
  obtain ⟨rfl, rfl, rfl⟩ := trodAll_nil r1
  obtain rfl : args = #[v0, v1] := by cases args; simp_all
  obtain ⟨rfl, rfl⟩ := trodVars_none hV
  obtain ⟨a0, rfl, rfl, rfl, w0⟩ := open_int Try.underlying3 (hval 0 3 v0 rfl rfl) h0
  obtain ⟨A1, l, c1, rfl, l1, m1, hr, wl⟩ := open_ints Try.underlying25 (by kernel_rfl) Try.underlying5 (hval 1 25 v1 rfl rfl) h1
  refine (walk a0 (cap_nil h1) l1 hr wl).mono fun e W' ⟨he, hb⟩ => ?_
  subst he
  exact ⟨_, rfl, law_post Try.laidOut rfl (by kernel_rfl) Try.underlying4 (by kernel_rfl) rfl hW' hb⟩

theorem proved : Rows.DiskMakesSaid :=
  OpenClaim.holds_of_wide 7 Try.f7 rfl rfl rfl rfl rfl rfl rfl ⟨rfl, rfl, rfl, rfl, rfl⟩ rfl rfl rfl rfl rfl (by kernel_rfl) Try.func7 (by kernel_rfl)
    (of_decide_eq_true (by kernel_rfl)) (by unfold Func.isWrapper; first | (rw [if_pos (by decide +kernel)]; kernel_rfl) | (rw [if_neg (by decide +kernel)]; exact ⟨rfl, rfl⟩))
    (fun os started H enc _ => lifted os started H enc)
#print axioms proved
end Go.Proofs.Ytoplchdnfmcbaaa.diskMakes
