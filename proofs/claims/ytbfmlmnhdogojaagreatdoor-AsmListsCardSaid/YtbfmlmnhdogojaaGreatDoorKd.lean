/- A line of a kind: contracts. -/
import Derived.Test.YtbfmlmnhdogojaaGreatDoorKa
namespace Go.Proofs.YtbfmlmnhdogojaaGreatDoor
open Go.RowKit Go.Shelf

/-- What stands ahead of the colon. -/
def cutC (s : ByteArray) : Bool := Lib.hasSuffix s.data.toList [58]
def cutN (s : ByteArray) : ByteArray := ⟨(Lib.trimSuffix s.data.toList [58]).toArray⟩
/-- No empty line, no comment, no line of a name. -/
structure Plain (s : ByteArray) : Prop where
  pos : 0 < s.size
  low : s.size < 4294967281
  hash : s[0]'pos ≠ 35
  name : cutC s = true → nameB (cutN s) = false
theorem ne_nil {s : ByteArray} (h : 0 < s.size) : (s.toList == []) = false := by
  rw [ByteArray.toList_eq]
  have := size_list s
  cases h : s.data.toList with
  | nil => rw [h] at this; simp at this; omega
  | cons a b => rfl
section
variable {W : World} {R pb : Nat} {vb vn vh : Value} {line : Int} {bs : List Int} {ns : List (ByteArray × Int)} {hs : List HoleV} {s : ByteArray}
theorem cCutS (hl : s.size < 4294967281) : Calls Tryz.prog 66 #[.string s, .string ⟨#[58]⟩] W fun e w' => e = .returned (.tuple #[.string (cutN s), .bool (cutC s)]) ∧ w' = W :=
  Tryz.strings_CutSuffix s ⟨#[58]⟩ W (by omega)
/-- A line cut at its first blank. -/
def CutsTo (s a b : ByteArray) : Prop := Lib.cut s.data.toList [32] = (a.data.toList, b.data.toList, true)
theorem cCut {a b : ByteArray} (hG : Gl W) (hl : s.size < 4294967281) (h : CutsTo s a b) : Calls Tryz.prog 70 #[.string s, .string ⟨#[32]⟩] W fun e w' => e = .returned (.tuple #[.string a, .string b, .bool true]) ∧ Below W.heap.size W w' := by
  obtain ⟨m, hm⟩ := hG.ml
  refine (Tryz.strings_Cut s ⟨#[32]⟩ m W hl hm).mono ?_
  rintro e w' ⟨rfl, n, rfl⟩
  unfold CutsTo at h
  rw [show (ByteArray.mk #[32]).data.toList = [32] from rfl, h]
  exact ⟨rfl, ⟨rfl, rfl, rfl, Nat.le_refl _, fun _ _ => rfl⟩⟩
theorem zero_kind (W : World) : (zeroValue 128).run Tryz.prog W = .ok .nilFunc W := by kernel_rfl
theorem look_kind {w : World} (h : KAt w W kindsE 4) (x : ByteArray) {r : Option (Nat × Value)} (hf : Instr.findNow .string (.string x) kindsE.toList 0 = some r) :
    (Instr.lookup 130 (.map (some w.heap.size)) (.string x) true).run Tryz.prog W = .ok (.tuple #[(r.map (·.2)).getD .nilFunc, .bool r.isSome]) W :=
  run_look h.b Tryz.underlying130 Tryz.underlying9 (zero_kind W) x hf
set_option maxRecDepth 100000 in
set_option maxHeartbeats 1000000 in
theorem cDoK2 {b : ByteArray} (hG : Gl W) (h : PS W R pb vb vn vh line bs ns hs) (hp : Plain s) (hcut : CutsTo s ⟨#[98, 121, 116, 101]⟩ b) (hs' : b.size < 4294967281) (hok : ∀ x ∈ wordsL b, x.size < 4294967281 ∧ numB x 0 255 = true) (hlen : bs.length + (wordsL b).length ≤ 2048) (hR : R ≤ W.heap.size) :
    Calls Tryz.prog 41 #[.pointer (some ⟨pb, 0, none⟩), .string s] W fun e W' => e = .returned (.tuple #[]) ∧ Step W W' R pb vb vn vh line (bs ++ (wordsL b).map numV) ns hs := by
  have hne := ne_nil hp.pos
  have hpos := hp.pos
  have hh : ((s[0]'hpos).toNat : Int) ≠ 35 := fun e => hp.hash (UInt8.toNat_inj.1 (by show _ = 35; omega))
  have HC := Lib.hid (cCutS (W := W) hp.low)
  have HM := Lib.hid hp.name
  have HL := Lib.hid hp.low
  have HP := Lib.hid h
  have HG := Lib.hid hG
  have HR := Lib.hid hR
  clear hp h hG hR
  go_enter Tryz.func41, Tryz.ntmps41
  go_wp2_with fail
  refine HC.out.mono ?_
  rintro e w' ⟨rfl, rfl⟩
  obtain ⟨m, hm⟩ : ∃ m, m = cutN s := ⟨_, rfl⟩
  rw [← hm] at HM ⊢
  clear hm
  have HW0 := Lib.hid ((Below.refl _ w').alloc (Nat.le_refl _) (.cells #[.string m] 9))
  cases hc : cutC s
  · go_wp2_with fail
    generalize World.alloc _ _ = W1 at *
    have HC2 := Lib.hid (cCut (HG.out.b HW0.out) HL.out hcut)
    clear HC HM HL hh hcut
    refine HC2.out.mono ?_
    rintro e W3 ⟨rfl, hb⟩
    have HW3 := Lib.hid (HW0.out.trans (hb.mono HW0.out.size))
    clear hb HW0 HC2
    go_wp2_with fail
    refine (cKinds _).mono ?_
    rintro e W4 ⟨rfl, hK⟩
    have hlk := look_kind hK ⟨#[98, 121, 116, 101]⟩ (r := some ((2, .func (.func 100) #[] #[]))) (by kernel_rfl)
    have HW4 := Lib.hid (HW3.out.trans (hK.low.mono HW3.out.size))
    clear hK HW3
    go_wp2_with fail
    refine (cMust _ _ _).mono ?_
    rintro e w' ⟨rfl, rfl⟩
    go_wp2_with fail
    have hb4 := HW4.out
    have hP4 := HP.out.below hb4
    have hG4 := HG.out.b hb4
    have hR4 := Nat.le_trans HR.out hb4.size
    refine (cKind2 hG4 hP4 hs' hok hlen hR4).mono ?_
    rintro e W5 ⟨rfl, hx⟩
    have HF := Lib.hid (Step.first hb4 (Step.ofB hx))
    clear hb4 hP4 hG4 hR4 hx
    go_wp2
    refine bodyPost_ret (results_none rfl _ _ _) rfl ?_
    exact ⟨rfl, HF.out⟩
  · have hq := HM.out hc
    go_wp2_with fail
    refine (cNm m _).mono ?_
    rintro e W2 ⟨rfl, hb⟩
    rw [hq]
    have HW1 := Lib.hid (HW0.out.trans (hb.mono HW0.out.size))
    clear hb HW0
    have HW0 := HW1
    clear HW1
    go_wp2_with fail
    generalize W2 = W1 at *
    have HC2 := Lib.hid (cCut (HG.out.b HW0.out) HL.out hcut)
    clear HC HM HL hh hcut
    refine HC2.out.mono ?_
    rintro e W3 ⟨rfl, hb⟩
    have HW3 := Lib.hid (HW0.out.trans (hb.mono HW0.out.size))
    clear hb HW0 HC2
    go_wp2_with fail
    refine (cKinds _).mono ?_
    rintro e W4 ⟨rfl, hK⟩
    have hlk := look_kind hK ⟨#[98, 121, 116, 101]⟩ (r := some ((2, .func (.func 100) #[] #[]))) (by kernel_rfl)
    have HW4 := Lib.hid (HW3.out.trans (hK.low.mono HW3.out.size))
    clear hK HW3
    go_wp2_with fail
    refine (cMust _ _ _).mono ?_
    rintro e w' ⟨rfl, rfl⟩
    go_wp2_with fail
    have hb4 := HW4.out
    have hP4 := HP.out.below hb4
    have hG4 := HG.out.b hb4
    have hR4 := Nat.le_trans HR.out hb4.size
    refine (cKind2 hG4 hP4 hs' hok hlen hR4).mono ?_
    rintro e W5 ⟨rfl, hx⟩
    have HF := Lib.hid (Step.first hb4 (Step.ofB hx))
    clear hb4 hP4 hG4 hR4 hx
    go_wp2
    refine bodyPost_ret (results_none rfl _ _ _) rfl ?_
    exact ⟨rfl, HF.out⟩
set_option maxRecDepth 100000 in
set_option maxHeartbeats 1000000 in
theorem cDoK3 {b : ByteArray} (hG : Gl W) (h : PS W R pb vb vn vh line bs ns hs) (hp : Plain s) (hcut : CutsTo s ⟨#[116, 101, 120, 116]⟩ b) (hs' : 0 < b.size) (hlen : bs.length + b.size ≤ 2048) (hR : R ≤ W.heap.size) :
    Calls Tryz.prog 41 #[.pointer (some ⟨pb, 0, none⟩), .string s] W fun e W' => e = .returned (.tuple #[]) ∧ Step W W' R pb vb vn vh line (bs ++ bytesOfS b) ns hs := by
  have hne := ne_nil hp.pos
  have hpos := hp.pos
  have hh : ((s[0]'hpos).toNat : Int) ≠ 35 := fun e => hp.hash (UInt8.toNat_inj.1 (by show _ = 35; omega))
  have HC := Lib.hid (cCutS (W := W) hp.low)
  have HM := Lib.hid hp.name
  have HL := Lib.hid hp.low
  have HP := Lib.hid h
  have HG := Lib.hid hG
  have HR := Lib.hid hR
  clear hp h hG hR
  go_enter Tryz.func41, Tryz.ntmps41
  go_wp2_with fail
  refine HC.out.mono ?_
  rintro e w' ⟨rfl, rfl⟩
  obtain ⟨m, hm⟩ : ∃ m, m = cutN s := ⟨_, rfl⟩
  rw [← hm] at HM ⊢
  clear hm
  have HW0 := Lib.hid ((Below.refl _ w').alloc (Nat.le_refl _) (.cells #[.string m] 9))
  cases hc : cutC s
  · go_wp2_with fail
    generalize World.alloc _ _ = W1 at *
    have HC2 := Lib.hid (cCut (HG.out.b HW0.out) HL.out hcut)
    clear HC HM HL hh hcut
    refine HC2.out.mono ?_
    rintro e W3 ⟨rfl, hb⟩
    have HW3 := Lib.hid (HW0.out.trans (hb.mono HW0.out.size))
    clear hb HW0 HC2
    go_wp2_with fail
    refine (cKinds _).mono ?_
    rintro e W4 ⟨rfl, hK⟩
    have hlk := look_kind hK ⟨#[116, 101, 120, 116]⟩ (r := some ((3, .func (.func 102) #[] #[]))) (by kernel_rfl)
    have HW4 := Lib.hid (HW3.out.trans (hK.low.mono HW3.out.size))
    clear hK HW3
    go_wp2_with fail
    refine (cMust _ _ _).mono ?_
    rintro e w' ⟨rfl, rfl⟩
    go_wp2_with fail
    have hb4 := HW4.out
    have hP4 := HP.out.below hb4
    have hG4 := HG.out.b hb4
    have hR4 := Nat.le_trans HR.out hb4.size
    refine (cKind3 hP4 hs' hlen hR4).mono ?_
    rintro e W5 ⟨rfl, hx⟩
    have HF := Lib.hid (Step.first hb4 (Step.ofB hx))
    clear hb4 hP4 hG4 hR4 hx
    go_wp2
    refine bodyPost_ret (results_none rfl _ _ _) rfl ?_
    exact ⟨rfl, HF.out⟩
  · have hq := HM.out hc
    go_wp2_with fail
    refine (cNm m _).mono ?_
    rintro e W2 ⟨rfl, hb⟩
    rw [hq]
    have HW1 := Lib.hid (HW0.out.trans (hb.mono HW0.out.size))
    clear hb HW0
    have HW0 := HW1
    clear HW1
    go_wp2_with fail
    generalize W2 = W1 at *
    have HC2 := Lib.hid (cCut (HG.out.b HW0.out) HL.out hcut)
    clear HC HM HL hh hcut
    refine HC2.out.mono ?_
    rintro e W3 ⟨rfl, hb⟩
    have HW3 := Lib.hid (HW0.out.trans (hb.mono HW0.out.size))
    clear hb HW0 HC2
    go_wp2_with fail
    refine (cKinds _).mono ?_
    rintro e W4 ⟨rfl, hK⟩
    have hlk := look_kind hK ⟨#[116, 101, 120, 116]⟩ (r := some ((3, .func (.func 102) #[] #[]))) (by kernel_rfl)
    have HW4 := Lib.hid (HW3.out.trans (hK.low.mono HW3.out.size))
    clear hK HW3
    go_wp2_with fail
    refine (cMust _ _ _).mono ?_
    rintro e w' ⟨rfl, rfl⟩
    go_wp2_with fail
    have hb4 := HW4.out
    have hP4 := HP.out.below hb4
    have hG4 := HG.out.b hb4
    have hR4 := Nat.le_trans HR.out hb4.size
    refine (cKind3 hP4 hs' hlen hR4).mono ?_
    rintro e W5 ⟨rfl, hx⟩
    have HF := Lib.hid (Step.first hb4 (Step.ofB hx))
    clear hb4 hP4 hG4 hR4 hx
    go_wp2
    refine bodyPost_ret (results_none rfl _ _ _) rfl ?_
    exact ⟨rfl, HF.out⟩
theorem Step.ofBH {W' : World} {bs' : List Int} {hs' : List HoleV} (h : ∃ vb' vh', PS W' R pb vb' vn vh' line bs' ns hs' ∧ KeptBut (fun k => k = pb ∨ vb.ownBlock = some k ∨ vh.ownBlock = some k) W W' ∧ (∀ k, vb'.ownBlock = some k → vb.ownBlock = some k ∨ W.heap.size ≤ k) ∧ ∀ k, vh'.ownBlock = some k → vh.ownBlock = some k ∨ W.heap.size ≤ k) : Step W W' R pb vb vn vh line bs' ns hs' := by
  obtain ⟨vb', vh', h1, h2, h3, h4⟩ := h
  refine ⟨vb', vn, vh', h1, h2.mono fun k _ e => ?_, fun k e => ?_⟩
  · rcases e with e | e | e
    · exact .inl e
    · exact .inr (.inl e)
    · exact .inr (.inr (.inr e))
  · rcases e with e | e | e | e
    · exact .inl (.inl e)
    · exact (h3 k e).imp (fun e => .inr (.inl e)) id
    · exact .inl (.inr (.inr (.inl e)))
    · exact (h4 k e).imp (fun e => .inr (.inr (.inr e))) id
set_option maxRecDepth 100000 in
set_option maxHeartbeats 1000000 in
theorem cDoK1 {b : ByteArray} (hG : Gl W) (h : PS W R pb vb vn vh line bs ns hs) (hp : Plain s) (hcut : CutsTo s ⟨#[119, 111, 114, 100]⟩ b) (hs' : b.size < 4294967281) (hok : ∀ x ∈ wordsL b, wordOk x) (hlen : bs.length + 4 * (wordsL b).length ≤ 2048) (hhl : hs.length ≤ 100000) (hR : R ≤ W.heap.size) :
    Calls Tryz.prog 41 #[.pointer (some ⟨pb, 0, none⟩), .string s] W fun e W' => e = .returned (.tuple #[]) ∧ Step W W' R pb vb vn vh line (bs ++ wordsB (wordsL b)) ns (hs ++ wordsH line bs.length (wordsL b)) := by
  have hne := ne_nil hp.pos
  have hpos := hp.pos
  have hh : ((s[0]'hpos).toNat : Int) ≠ 35 := fun e => hp.hash (UInt8.toNat_inj.1 (by show _ = 35; omega))
  have HC := Lib.hid (cCutS (W := W) hp.low)
  have HM := Lib.hid hp.name
  have HL := Lib.hid hp.low
  have HP := Lib.hid h
  have HG := Lib.hid hG
  have HR := Lib.hid hR
  clear hp h hG hR
  go_enter Tryz.func41, Tryz.ntmps41
  go_wp2_with fail
  refine HC.out.mono ?_
  rintro e w' ⟨rfl, rfl⟩
  obtain ⟨m, hm⟩ : ∃ m, m = cutN s := ⟨_, rfl⟩
  rw [← hm] at HM ⊢
  clear hm
  have HW0 := Lib.hid ((Below.refl _ w').alloc (Nat.le_refl _) (.cells #[.string m] 9))
  cases hc : cutC s
  · go_wp2_with fail
    generalize World.alloc _ _ = W1 at *
    have HC2 := Lib.hid (cCut (HG.out.b HW0.out) HL.out hcut)
    clear HC HM HL hh hcut
    refine HC2.out.mono ?_
    rintro e W3 ⟨rfl, hb⟩
    have HW3 := Lib.hid (HW0.out.trans (hb.mono HW0.out.size))
    clear hb HW0 HC2
    go_wp2_with fail
    refine (cKinds _).mono ?_
    rintro e W4 ⟨rfl, hK⟩
    have hlk := look_kind hK ⟨#[119, 111, 114, 100]⟩ (r := some ((1, .func (.func 95) #[] #[]))) (by kernel_rfl)
    have HW4 := Lib.hid (HW3.out.trans (hK.low.mono HW3.out.size))
    clear hK HW3
    go_wp2_with fail
    refine (cMust _ _ _).mono ?_
    rintro e w' ⟨rfl, rfl⟩
    go_wp2_with fail
    have hb4 := HW4.out
    have hP4 := HP.out.below hb4
    have hG4 := HG.out.b hb4
    have hR4 := Nat.le_trans HR.out hb4.size
    refine (cKind1 hG4 hP4 hs' hok hlen hhl hR4).mono ?_
    rintro e W5 ⟨rfl, hx⟩
    have HF := Lib.hid (Step.first hb4 (Step.ofBH hx))
    clear hb4 hP4 hG4 hR4 hx
    go_wp2
    refine bodyPost_ret (results_none rfl _ _ _) rfl ?_
    exact ⟨rfl, HF.out⟩
  · have hq := HM.out hc
    go_wp2_with fail
    refine (cNm m _).mono ?_
    rintro e W2 ⟨rfl, hb⟩
    rw [hq]
    have HW1 := Lib.hid (HW0.out.trans (hb.mono HW0.out.size))
    clear hb HW0
    have HW0 := HW1
    clear HW1
    go_wp2_with fail
    generalize W2 = W1 at *
    have HC2 := Lib.hid (cCut (HG.out.b HW0.out) HL.out hcut)
    clear HC HM HL hh hcut
    refine HC2.out.mono ?_
    rintro e W3 ⟨rfl, hb⟩
    have HW3 := Lib.hid (HW0.out.trans (hb.mono HW0.out.size))
    clear hb HW0 HC2
    go_wp2_with fail
    refine (cKinds _).mono ?_
    rintro e W4 ⟨rfl, hK⟩
    have hlk := look_kind hK ⟨#[119, 111, 114, 100]⟩ (r := some ((1, .func (.func 95) #[] #[]))) (by kernel_rfl)
    have HW4 := Lib.hid (HW3.out.trans (hK.low.mono HW3.out.size))
    clear hK HW3
    go_wp2_with fail
    refine (cMust _ _ _).mono ?_
    rintro e w' ⟨rfl, rfl⟩
    go_wp2_with fail
    have hb4 := HW4.out
    have hP4 := HP.out.below hb4
    have hG4 := HG.out.b hb4
    have hR4 := Nat.le_trans HR.out hb4.size
    refine (cKind1 hG4 hP4 hs' hok hlen hhl hR4).mono ?_
    rintro e W5 ⟨rfl, hx⟩
    have HF := Lib.hid (Step.first hb4 (Step.ofBH hx))
    clear hb4 hP4 hG4 hR4 hx
    go_wp2
    refine bodyPost_ret (results_none rfl _ _ _) rfl ?_
    exact ⟨rfl, HF.out⟩
end
end Go.Proofs.YtbfmlmnhdogojaaGreatDoor
