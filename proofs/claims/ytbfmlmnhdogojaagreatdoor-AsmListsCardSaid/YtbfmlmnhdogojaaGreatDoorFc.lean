/- some, where a word is given up with: contract. -/
import Derived.Test.YtbfmlmnhdogojaaGreatDoorKf
namespace Go.Proofs.YtbfmlmnhdogojaaGreatDoor
open Go.RowKit Go.Shelf

set_option maxHeartbeats 1000000 in
theorem cSomeP {w : World} {s : ByteArray} {p : Value} {gf : Nat} {lb : Array Value} (hG : Gl w) (hs : s.size < 4294967281) (eg : ∀ args w, (callFunc gf args).run Tryz.prog w = .ok (.enter gf args) w) (J : Nat → World → Prop)
    (h0 : ∀ W, Below w.heap.size w W → J 0 W) (hq : ∀ k W W', J k W → KeptBut (fun b => b = w.heap.size + 1) W W' → J k W') {m : Nat} {x : ByteArray} (hm : (wordsL s)[m]? = some x)
    (hon : ∀ k x W, k < m → J k W → (wordsL s)[k]? = some x → w.heap.size + 2 ≤ W.heap.size → Calls Tryz.prog gf (#[.string x] ++ lb) W fun e W' => e = .returned (.tuple #[]) ∧ J (k + 1) W' ∧ KeptBut (fun b => b ≠ w.heap.size ∧ b ≠ w.heap.size + 1) W W')
    {ch : List PanicEntry} {Z : World → Prop} (hbad : ∀ W, J m W → w.heap.size + 2 ≤ W.heap.size → Calls Tryz.prog gf (#[.string x] ++ lb) W fun e W' => e = .panicked ch ∧ Z W') :
    Calls Tryz.prog 96 #[p, .string s, .func (.func gf) #[] lb] w fun e w' => e = .panicked ch ∧ Z w' := by
  have hlen := wordsL_len s
  have HW := Lib.hid (cWords hG hs hlen)
  have hml : m < (wordsL s).length := (List.getElem?_eq_some_iff.1 hm).1
  have HON := Lib.hid hon
  have HBAD := Lib.hid hbad
  have HQ := Lib.hid hq
  have H0 := Lib.hid h0
  have HMX := Lib.hid hm
  clear hon hbad hq h0 hlen hm
  generalize wordsL s = ws at *
  go_enter Tryz.func96, Tryz.ntmps96
  go_wp2_with fail
  refine HW.out.mono ?_
  rintro e W1 ⟨rfl, hws, hb⟩
  obtain ⟨x0, hx⟩ : ∃ x, ws[0]? = some x := ⟨_, List.getElem?_eq_getElem (by omega)⟩
  have HN := Lib.hid (cNext hws hx)
  have HJ := Lib.hid (H0.out W1 hb)
  have HX := Lib.hid hx
  have HS1 := Lib.hid (show w.heap.size + 2 ≤ W1.heap.size by obtain ⟨_, _, _, _, h, _⟩ := hws; have := h.lt; omega)
  clear hb hx hws HW H0
  go_wp2_with fail
  refine HN.out.mono ?_
  rintro e W2 ⟨rfl, hws, hk⟩
  have HJ2 := Lib.hid (HQ.out 0 W1 W2 HJ.out hk)
  have HS2 := Lib.hid (Nat.le_trans HS1.out hk.size)
  clear hk HN HJ HS1
  go_wp2_with fail
  go_loopw [7, 8] (fun v b wr => ∃ k : Nat, k ≤ m ∧ J k wr ∧ w.heap.size + 2 ≤ wr.heap.size ∧ ∃ x, ws[k]? = some x ∧ v = .string x ∧ b = .bool true ∧ WS wr w.heap.size (w.heap.size + 1) ws (k + 1)) (fun _ b wr => leftN wr (w.heap.size + 1) b)
  case atStart => exact ⟨0, Nat.zero_le _, HJ2.out, HS2.out, x0, HX.out, rfl, rfl, hws⟩
  case round =>
    clear hws HJ2 HS2
    obtain ⟨k, hk, hj, hsz, y, hy, rfl, rfl, hws⟩ := hrel
    by_cases hkm : k < m
    · have HC := Lib.hid (HON.out k y wr hkm hj hy hsz)
      have HM := Lib.hid hws.leftN
      have HWS := Lib.hid hws
      clear hj hy hws
      go_wp2_with fail
      refine HC.out.mono ?_
      rintro e W3 ⟨rfl, hj3, hk3⟩
      have hws3 := HWS.out.kept hk3 (by simp) (by simp)
      have hsz3 := Nat.le_trans hsz hk3.size
      have HJ3 := Lib.hid hj3
      clear hj3 hk3 HC HWS
      obtain ⟨z, hz⟩ : ∃ z, ws[k + 1]? = some z := ⟨_, List.getElem?_eq_getElem (by omega)⟩
      have HN := Lib.hid (cNext hws3 hz)
      have HZ := Lib.hid hz
      clear hws3 hz
      go_wp2_with fail
      refine HN.out.mono ?_
      rintro e W4 ⟨rfl, hws4, hk4⟩
      have HF := Lib.hid (And.intro (HQ.out (k + 1) W3 W4 HJ3.out hk4) (And.intro (Nat.le_trans hsz3 hk4.size) hws4))
      clear hws4 hk4 HN
      go_wp2
      go_roundw
      case rel => exact ⟨k + 1, by omega, HF.out.1, HF.out.2.1, z, HZ.out, rfl, rfl, HF.out.2.2⟩
      case measure =>
        have m1 := HM.out true
        have m2 := HF.out.2.2.leftN true
        simp at m1 m2 ⊢
        omega
    · obtain rfl : k = m := by omega
      have e1 := HMX.out.symm.trans hy
      simp at e1
      subst e1
      have HC := Lib.hid (HBAD.out wr hj hsz)
      clear hj hy hws
      go_wp2_with fail
      refine HC.out.mono ?_
      rintro e W3 ⟨rfl, hz⟩
      exact ⟨rfl, rfl, hz⟩
end Go.Proofs.YtbfmlmnhdogojaaGreatDoor
namespace Go.Proofs.YtbfmlmnhdogojaaGreatDoor
open Go.RowKit Go.Shelf

theorem first_bad {α : Type} {f : α → Bool} : ∀ {l : List α}, l.all f = false → ∃ (m : Nat) (x : α), l[m]? = some x ∧ f x = false ∧ ∀ (k : Nat) (y : α), k < m → l[k]? = some y → f y = true
  | [], h => by simp at h
  | a :: l, h => by
    cases ha : f a with
    | false => exact ⟨0, a, rfl, ha, fun k y hk => by omega⟩
    | true =>
      have h' : l.all f = false := by rw [List.all_cons, ha] at h; simpa using h
      obtain ⟨m, x, h1, h2, h3⟩ := first_bad h'
      refine ⟨m + 1, x, by simpa using h1, h2, fun k y hk hy => ?_⟩
      cases k with
      | zero => simp at hy; subst hy; exact ha
      | succ k => exact h3 k y (by omega) (by simpa using hy)
theorem PS.after {W W' : World} {R pb : Nat} {vb vn vh : Value} {line : Int} {bs : List Int} {ns : List (ByteArray × Int)} {hs : List HoleV} (h : PS W R pb vb vn vh line bs ns hs) (hb : Below W.heap.size W W') : PS W' R pb vb vn vh line bs ns hs := h.below hb
set_option maxRecDepth 100000 in
set_option maxHeartbeats 1000000 in
theorem cByteWNo {W : World} {cp ca pb : Nat} {line : Int} {v1 v2 v3 : Value} {x : ByteArray} (hG : Gl W) (hs : x.size < 4294967281) (hn : numB x 0 255 = false) (hp : Cells W cp 79 #[.pointer (some ⟨pb, 0, none⟩)]) (hP : Cells W pb 82 #[.int .i64 line, v1, v2, v3]) :
    Calls Tryz.prog 101 #[.string x, .pointer (some ⟨cp, 0, none⟩), .pointer (some ⟨ca, 0, none⟩)] W fun e W' => e = .panicked (failC line 280) ∧ Below W.heap.size W W' := by
  have HN := Lib.hid (cNum (lo := 0) (hi := 255) hG hs)
  rw [hn] at HN
  have HP := Lib.hid hp
  have HPP := Lib.hid hP
  clear hn hp hP hG
  go_enter Tryz.func101, Tryz.ntmps101
  go_wp2_with fail
  refine HN.out.mono ?_
  rintro e W1 ⟨rfl, hb⟩
  have q0 := ((HP.out.below hb HP.out.lt).cell 0).trans (show _ = some (Value.pointer (some ⟨pb, 0, none⟩)) from rfl)
  have HM := Lib.hid (cMustNo (HPP.out.below hb HPP.out.lt) 280)
  have HB := Lib.hid hb
  clear hb HN HP
  go_wp2_with fail
  refine HM.out.mono ?_
  rintro e w' ⟨rfl, rfl⟩
  exact ⟨rfl, rfl, HB.out⟩
section
variable {W : World} {R pb : Nat} {vb vn vh : Value} {line : Int} {bs : List Int} {ns : List (ByteArray × Int)} {hs : List HoleV} {s : ByteArray} {t : StV}
theorem JB.q {P : Value} {xs : List Int} {W1 W2 : World} (hj : JB W P xs W1) (hk : KeptBut (fun b => b = W.heap.size + 2 + 1) W1 W2) : JB W P xs W2 := by
  obtain ⟨h1, h2, va, h3, h4⟩ := hj
  exact ⟨h1.trans (hk.below (n := W.heap.size) (fun q e => by omega) h1.size), hk.cells h2 (by omega), va, hk.cells h3 (by omega), hk.row h4 fun q e => by have := (h4.lt q e).1; omega⟩
theorem JB.on {P : Value} {xs : List Int} {x : ByteArray} {W1 : World} (hG : Gl W) (hx1 : x.size < 4294967281) (hx2 : numB x 0 255 = true) (hxl : xs.length ≤ 1000000000) (hsz : W.heap.size + 4 ≤ W1.heap.size) (hj : JB W P xs W1) :
    Calls Tryz.prog 101 #[.string x, .pointer (some ⟨W.heap.size, 0, none⟩), .pointer (some ⟨W.heap.size + 1, 0, none⟩)] W1 fun e W' => e = .returned (.tuple #[]) ∧ JB W P (xs ++ [numV x]) W' ∧ KeptBut (fun b => b ≠ W.heap.size + 2 ∧ b ≠ W.heap.size + 2 + 1) W1 W' := by
  obtain ⟨h1, h2, va, h3, h4⟩ := hj
  refine (cByteW (cp := W.heap.size) (ca := W.heap.size + 1) (hG.below h1 hG.sz (Nat.le_refl _)) hx1 hx2 h2 h3 h4 (by omega) (by omega) hxl).mono ?_
  rintro e W2 ⟨rfl, va', c1, o1, kb⟩
  refine ⟨rfl, ⟨h1.trans (kb.below (n := W.heap.size) (fun q e => e.elim (fun e => by omega) (fun e => by have := (h4.lt q e).1; omega)) h1.size), kb.cells h2 (fun e => e.elim (fun e => by omega) (fun e => by have := (h4.lt _ e).1; omega)), va', c1, o1⟩, kb.mono fun q _ e => ?_⟩
  rcases e with e | e
  · omega
  · have := (h4.lt q e).1; omega
theorem JB.start {P : Value} {W2 W3 : World} (e : W2 = (W.alloc (.cells #[P] 79)).alloc (.cells #[.slice none 0 0] 24)) (hb : Below W2.heap.size W2 W3) : JB W P [] W3 := by
  obtain ⟨k0, k1, hb2, s2⟩ := cells2 W #[P] #[.slice none 0 0] 79 24
  subst e
  exact ⟨hb2.trans (hb.mono hb2.size), k0.below hb k0.lt, _, k1.below hb k1.lt, World.ownsRow_nil _ _ _ _⟩
set_option maxRecDepth 100000 in
set_option maxHeartbeats 1000000 in
/-- There is no room. -/
theorem cKind2Much (hG : Gl W) (h : PS W R pb vb vn vh line bs ns hs) (hs' : s.size < 4294967281) (hok : ∀ x ∈ wordsL s, x.size < 4294967281 ∧ numB x 0 255 = true) (hwl : (wordsL s).length ≤ 1000000000) (hbl : bs.length ≤ 2048) (hlen : 2048 < bs.length + (wordsL s).length) :
    Calls Tryz.prog 100 #[.pointer (some ⟨pb, 0, none⟩), .string s] W fun e W' => e = .panicked (failC line 282) ∧ Below W.heap.size W W' := by
  obtain ⟨W2, hW2⟩ : ∃ W2, W2 = (W.alloc (.cells #[.pointer (some ⟨pb, 0, none⟩)] 79)).alloc (.cells #[.slice none 0 0] 24) := ⟨_, rfl⟩
  obtain ⟨k0, k1, hb2, s2⟩ := cells2 W #[.pointer (some ⟨pb, 0, none⟩)] #[.slice none 0 0] 79 24
  rw [← hW2] at hb2 s2
  have HP := Lib.hid h
  have HS := Lib.hid (cSome (w := W2) (s := s) (p := .pointer (some ⟨pb, 0, none⟩)) (gf := 101) (lb := #[.pointer (some ⟨W.heap.size, 0, none⟩), .pointer (some ⟨W.heap.size + 1, 0, none⟩)])
    (hG.b hb2) hs' (enters_of Tryz.func101 (by kernel_rfl) rfl) (fun k W' => JB W (.pointer (some ⟨pb, 0, none⟩)) ((wordsL s).take k |>.map numV) W')
    (fun W' hb => JB.start hW2 hb)
    (fun k W1 W2 hj hk => by rw [s2] at hk; exact hj.q hk)
    (fun k x W1 hj hx hsz => by
      obtain ⟨x1, x2⟩ := hok x (List.mem_of_getElem? hx)
      rw [s2] at hsz ⊢
      have hkl := (List.getElem?_eq_some_iff.1 hx).1
      have e1 : ((wordsL s).take (k + 1)).map numV = ((wordsL s).take k).map numV ++ [numV x] := by rw [List.take_add_one, hx]; simp
      rw [e1]
      exact hj.on hG x1 x2 (by simp; omega) hsz))
  clear k0 k1 hok hG h hb2
  go_enter Tryz.func100, Tryz.ntmps100
  go_wp2_with fail
  rw [← hW2]
  clear hW2 s2
  refine HS.out.mono ?_
  rintro e W3 ⟨rfl, hlow, hcp, va, hca, hrow⟩
  rw [List.take_length] at hrow
  have hxl : ((wordsL s).map numV).length = (wordsL s).length := by simp
  obtain ⟨A, cap, rfl⟩ := own_slice hrow
  rw [hxl] at hca
  have HPut := Lib.hid (cPutNo (A := A) (c := cap) (HP.out.below hlow) hwl (by omega) hlen)
  have q0 := (hcp.cell 0).trans (show _ = some (Value.pointer (some ⟨pb, 0, none⟩)) from rfl)
  have q1 := (hca.cell 0).trans (show _ = some (Value.slice A (wordsL s).length cap) from rfl)
  have HL := Lib.hid hlow
  clear hlow hcp hca hrow HS hxl
  go_wp2_with fail
  refine HPut.out.mono ?_
  rintro e W4 ⟨rfl, rfl⟩
  exact ⟨rfl, rfl, HL.out⟩
set_option maxRecDepth 100000 in
set_option maxHeartbeats 1000000 in
/-- A word is no byte. -/
theorem cKind2No (hG : Gl W) (h : PS W R pb vb vn vh line bs ns hs) (hs' : s.size < 4294967281) (hwl : (wordsL s).length ≤ 1000000000) (hbad : (wordsL s).all byteB = false) :
    Calls Tryz.prog 100 #[.pointer (some ⟨pb, 0, none⟩), .string s] W fun e W' => e = .panicked (failC line 280) ∧ Below W.heap.size W W' := by
  obtain ⟨m, x, hm, hx0, hlow⟩ := first_bad hbad
  obtain ⟨W2, hW2⟩ : ∃ W2, W2 = (W.alloc (.cells #[.pointer (some ⟨pb, 0, none⟩)] 79)).alloc (.cells #[.slice none 0 0] 24) := ⟨_, rfl⟩
  obtain ⟨k0, k1, hb2, s2⟩ := cells2 W #[.pointer (some ⟨pb, 0, none⟩)] #[.slice none 0 0] 79 24
  rw [← hW2] at hb2 s2
  have HP := Lib.hid h
  have HS := Lib.hid (cSomeP (w := W2) (s := s) (p := .pointer (some ⟨pb, 0, none⟩)) (gf := 101) (lb := #[.pointer (some ⟨W.heap.size, 0, none⟩), .pointer (some ⟨W.heap.size + 1, 0, none⟩)]) (Z := fun W' => Below W.heap.size W W') (ch := failC line 280)
    (hG.b hb2) hs' (enters_of Tryz.func101 (by kernel_rfl) rfl) (fun k W' => JB W (.pointer (some ⟨pb, 0, none⟩)) ((wordsL s).take k |>.map numV) W')
    (fun W' hb => JB.start hW2 hb)
    (fun k W1 W2 hj hk => by rw [s2] at hk; exact hj.q hk) hm
    (fun k y W1 hk hj hx hsz => by
      have x1 := wordsL_size (List.mem_of_getElem? hx)
      have x2 := hlow k y hk hx
      rw [s2] at hsz ⊢
      have hkl := (List.getElem?_eq_some_iff.1 hx).1
      have e1 : ((wordsL s).take (k + 1)).map numV = ((wordsL s).take k).map numV ++ [numV y] := by rw [List.take_add_one, hx]; simp
      rw [e1]
      exact hj.on hG (by omega) x2 (by simp; omega) hsz)
    (fun W1 hj hsz => by
      have x1 := wordsL_size (List.mem_of_getElem? hm)
      obtain ⟨h1, h2, va, h3, h4⟩ := hj
      exact (cByteWNo (hG.below h1 hG.sz (Nat.le_refl _)) (by omega) hx0 h2 (HP.out.below h1).c).mono fun e W' he => ⟨he.1, h1.trans (he.2.mono h1.size)⟩))
  clear k0 k1 hG h hb2 hlow hx0 hm
  go_enter Tryz.func100, Tryz.ntmps100
  go_wp2_with fail
  rw [← hW2]
  clear hW2 s2
  refine HS.out.mono ?_
  rintro e W3 ⟨rfl, hl⟩
  exact ⟨rfl, rfl, hl⟩
theorem OutI.low {W' : World} {e : Ending} {er : Int} (h : e = .panicked (failC line er) ∧ Below W.heap.size W W') : OutI W W' R pb vb vn vh line e (.error er) := ⟨h.1, KeptBut.of_below _ h.2⟩
theorem wordsL_le (s : ByteArray) : (wordsL s).length ≤ s.size + 1 := by
  rw [wordsL_len]
  have := Lib.countB_le ⟨#[32]⟩ (by decide) s.size s (Nat.le_refl _)
  omega
theorem putV_ok {xs : List Int} {ps : List HoleP} (h : t.bs.length + xs.length ≤ 2048) : putV t xs ps = .ok ⟨t.bs ++ xs, t.ns, t.hs ++ ps⟩ := by unfold putV; rw [if_pos h]
theorem putV_no {xs : List Int} {ps : List HoleP} (h : ¬ t.bs.length + xs.length ≤ 2048) : putV t xs ps = .error 282 := by unfold putV; rw [if_neg h]
/-- A line of bytes. -/
theorem cKindB (hG : Gl W) (h : PSI W R pb vb vn vh line t) (hs' : s.size < 1000000000) (hbl : t.bs.length ≤ 2048) (hR : R ≤ W.heap.size) :
    Calls Tryz.prog 100 #[.pointer (some ⟨pb, 0, none⟩), .string s] W fun e W' => OutI W W' R pb vb vn vh line e (if (wordsL s).all byteB = false then .error 280 else putV t ((wordsL s).map numV) []) := by
  obtain ⟨hv, hP, hH⟩ := h
  have hwl := wordsL_le s
  cases hall : (wordsL s).all byteB with
  | false =>
    rw [if_pos rfl]
    exact (cKind2No hG hP (by omega) (by omega) hall).mono fun e W' he => OutI.low he
  | true =>
    rw [if_neg (by simp)]
    have hok : ∀ x ∈ wordsL s, x.size < 4294967281 ∧ numB x 0 255 = true := fun x hx => ⟨by have := wordsL_size hx; omega, List.all_eq_true.1 hall x hx⟩
    by_cases hr : t.bs.length + (wordsL s).length ≤ 2048
    · rw [putV_ok (by simpa using hr)]
      exact (cKind2 hG hP (by omega) hok hr hR).mono fun e W' he => ⟨he.1, StI.of0 hH (Step.ofB he.2) (by simp)⟩
    · rw [putV_no (by simpa using hr)]
      exact (cKind2Much hG hP (by omega) hok (by omega) hbl (by omega)).mono fun e W' he => OutI.low he
end
end Go.Proofs.YtbfmlmnhdogojaaGreatDoor
namespace Go.Proofs.YtbfmlmnhdogojaaGreatDoor
open Go.RowKit Go.Shelf

set_option maxRecDepth 100000 in
set_option maxHeartbeats 1000000 in
theorem cWordBad {W : World} {ch cp ca pb : Nat} {line : Int} {v1 v2 v3 : Value} {x : ByteArray} (hG : Gl W) (hs : x.size < 4294967281) (hn : numB x (-2147483648) 4294967295 = false) (hm : nameB x = false) (hp : Cells W cp 79 #[.pointer (some ⟨pb, 0, none⟩)]) (hP : Cells W pb 82 #[.int .i64 line, v1, v2, v3]) :
    Calls Tryz.prog 97 #[.string x, .pointer (some ⟨ch, 0, none⟩), .pointer (some ⟨cp, 0, none⟩), .pointer (some ⟨ca, 0, none⟩)] W fun e W' => e = .panicked (failC line 280) ∧ Below W.heap.size W W' := by
  have HN := Lib.hid (cNum (lo := -2147483648) (hi := 4294967295) hG hs)
  rw [hn] at HN
  have HP := Lib.hid hp
  have HPP := Lib.hid hP
  clear hn hp hP hG
  go_enter Tryz.func97, Tryz.ntmps97
  go_wp2_with fail
  refine HN.out.mono ?_
  rintro e W1 ⟨rfl, hb⟩
  have HB1 := Lib.hid hb
  clear hb HN
  go_wp2_with fail
  refine (cNm x W1).mono ?_
  rintro e W2 ⟨rfl, hb⟩
  rw [hm]
  have HB := Lib.hid (HB1.out.trans (hb.mono HB1.out.size))
  clear hb HB1
  have q0 := ((HP.out.below HB.out HP.out.lt).cell 0).trans (show _ = some (Value.pointer (some ⟨pb, 0, none⟩)) from rfl)
  have HM := Lib.hid (cMustNo (HPP.out.below HB.out HPP.out.lt) 280)
  clear HP
  go_wp2_with fail
  refine HM.out.mono ?_
  rintro e w' ⟨rfl, rfl⟩
  exact ⟨rfl, rfl, HB.out⟩
section
variable {W : World} {R pb : Nat} {vb vn vh : Value} {line : Int} {bs : List Int} {ns : List (ByteArray × Int)} {hs : List HoleV} {s : ByteArray} {t : StV}
theorem JW.start {W3 W4 : World} {bl : Nat} (e : W3 = ((W.alloc (.cells #[.pointer (some ⟨pb, 0, none⟩)] 79)).alloc (.cells #[.slice none 0 0] 24)).alloc (.cells #[.slice none 0 0] 80)) (hb : Below W3.heap.size W3 W4) : JW W pb line bl [] W4 := by
  obtain ⟨k0, k1, k2, hb3, s3⟩ := cells3 W #[.pointer (some ⟨pb, 0, none⟩)] #[.slice none 0 0] #[.slice none 0 0] 79 24 80
  subst e
  exact ⟨hb3.trans (hb.mono hb3.size), k0.below hb k0.lt, _, _, k1.below hb k1.lt, World.ownsRow_nil _ _ _ _, k2.below hb k2.lt, World.ownsRow_nil _ _ _ _, fun k e => by simp [Value.ownBlock] at e, fun _ => rfl⟩
theorem wordB_ok {x : ByteArray} (hx : x.size < 4294967281) (h : wordB x = true) : wordOk x := by
  unfold wordB at h
  refine ⟨hx, ?_⟩
  cases hn : nameB x with
  | true => exact .inl rfl
  | false => rw [hn] at h; exact .inr ⟨rfl, h⟩
theorem wordB_no {x : ByteArray} (h : wordB x = false) : nameB x = false ∧ numB x (-2147483648) 4294967295 = false := by
  unfold wordB at h
  simpa using h
set_option maxRecDepth 100000 in
set_option maxHeartbeats 1000000 in
theorem cKind1Much (hG : Gl W) (h : PS W R pb vb vn vh line bs ns hs) (hs' : s.size < 4294967281) (_hok : ∀ x ∈ wordsL s, wordOk x) (hwl : (wordsL s).length ≤ 2000000) (hbl : bs.length ≤ 2048) (hlen : 2048 < bs.length + 4 * (wordsL s).length)
    (hon : ∀ k x W1, JW W pb line bs.length ((wordsL s).take k) W1 → (wordsL s)[k]? = some x → W.heap.size + 5 ≤ W1.heap.size → Calls Tryz.prog 97 #[.string x, .pointer (some ⟨W.heap.size + 2, 0, none⟩), .pointer (some ⟨W.heap.size, 0, none⟩), .pointer (some ⟨W.heap.size + 1, 0, none⟩)] W1 fun e W' => e = .returned (.tuple #[]) ∧ JW W pb line bs.length ((wordsL s).take (k + 1)) W' ∧ KeptBut (fun b => b ≠ W.heap.size + 3 ∧ b ≠ W.heap.size + 3 + 1) W1 W') :
    Calls Tryz.prog 95 #[.pointer (some ⟨pb, 0, none⟩), .string s] W fun e W' => e = .panicked (failC line 282) ∧ Below W.heap.size W W' := by
  obtain ⟨W3, hW3⟩ : ∃ W3, W3 = ((W.alloc (.cells #[.pointer (some ⟨pb, 0, none⟩)] 79)).alloc (.cells #[.slice none 0 0] 24)).alloc (.cells #[.slice none 0 0] 80) := ⟨_, rfl⟩
  obtain ⟨k0, k1, k2, hb3, s3⟩ := cells3 W #[.pointer (some ⟨pb, 0, none⟩)] #[.slice none 0 0] #[.slice none 0 0] 79 24 80
  rw [← hW3] at hb3 s3
  have HP := Lib.hid h
  have HS := Lib.hid (cSome (w := W3) (s := s) (p := .pointer (some ⟨pb, 0, none⟩)) (gf := 97) (lb := #[.pointer (some ⟨W.heap.size + 2, 0, none⟩), .pointer (some ⟨W.heap.size, 0, none⟩), .pointer (some ⟨W.heap.size + 1, 0, none⟩)])
    (hG.b hb3) hs' (enters_of Tryz.func97 (by kernel_rfl) rfl) (fun k W' => JW W pb line bs.length ((wordsL s).take k) W')
    (fun W' hb => JW.start hW3 hb)
    (fun k W1 W2 hj hk => hj.q (by rw [s3] at hk; exact hk))
    (fun k x W1 hj hx hsz => by
      rw [s3] at hsz ⊢
      exact hon k x W1 hj hx hsz))
  have hBl := wordsB_len (wordsL s)
  clear k0 k1 k2 _hok hG h hb3 hon
  go_enter Tryz.func95, Tryz.ntmps95
  go_wp2_with fail
  rw [← hW3]
  clear hW3 s3
  refine HS.out.mono ?_
  rintro e W4 ⟨rfl, hJ⟩
  rw [List.take_length] at hJ
  obtain ⟨hlow, hcp, va, vl, hca, hrow, hch, hrl, hd, h8⟩ := hJ
  obtain ⟨A, cap, rfl⟩ := own_slice hrow
  rw [hBl] at hca
  have HPut := Lib.hid (cPutNo (A := A) (c := cap) (n := 4 * (wordsL s).length) (HP.out.below hlow) (by omega) (by omega) hlen)
  have q0 := (hcp.cell 0).trans (show _ = some (Value.pointer (some ⟨pb, 0, none⟩)) from rfl)
  have q1 := (hca.cell 0).trans (show _ = some (Value.slice A (4 * (wordsL s).length) cap) from rfl)
  have HL := Lib.hid hlow
  clear hlow hcp hca hrow HS hBl hch hrl hd h8
  go_wp2_with fail
  refine HPut.out.mono ?_
  rintro e W4 ⟨rfl, rfl⟩
  exact ⟨rfl, rfl, HL.out⟩
set_option maxRecDepth 100000 in
set_option maxHeartbeats 1000000 in
theorem cKind1No (hG : Gl W) (h : PS W R pb vb vn vh line bs ns hs) (hs' : s.size < 4294967281) {m : Nat} {x : ByteArray} (hm : (wordsL s)[m]? = some x) (hx0 : wordB x = false)
    (hon : ∀ k x W1, k < m → JW W pb line bs.length ((wordsL s).take k) W1 → (wordsL s)[k]? = some x → W.heap.size + 5 ≤ W1.heap.size → Calls Tryz.prog 97 #[.string x, .pointer (some ⟨W.heap.size + 2, 0, none⟩), .pointer (some ⟨W.heap.size, 0, none⟩), .pointer (some ⟨W.heap.size + 1, 0, none⟩)] W1 fun e W' => e = .returned (.tuple #[]) ∧ JW W pb line bs.length ((wordsL s).take (k + 1)) W' ∧ KeptBut (fun b => b ≠ W.heap.size + 3 ∧ b ≠ W.heap.size + 3 + 1) W1 W') :
    Calls Tryz.prog 95 #[.pointer (some ⟨pb, 0, none⟩), .string s] W fun e W' => e = .panicked (failC line 280) ∧ Below W.heap.size W W' := by
  obtain ⟨W3, hW3⟩ : ∃ W3, W3 = ((W.alloc (.cells #[.pointer (some ⟨pb, 0, none⟩)] 79)).alloc (.cells #[.slice none 0 0] 24)).alloc (.cells #[.slice none 0 0] 80) := ⟨_, rfl⟩
  obtain ⟨k0, k1, k2, hb3, s3⟩ := cells3 W #[.pointer (some ⟨pb, 0, none⟩)] #[.slice none 0 0] #[.slice none 0 0] 79 24 80
  rw [← hW3] at hb3 s3
  have HP := Lib.hid h
  have HS := Lib.hid (cSomeP (w := W3) (s := s) (p := .pointer (some ⟨pb, 0, none⟩)) (gf := 97) (lb := #[.pointer (some ⟨W.heap.size + 2, 0, none⟩), .pointer (some ⟨W.heap.size, 0, none⟩), .pointer (some ⟨W.heap.size + 1, 0, none⟩)]) (Z := fun W' => Below W.heap.size W W') (ch := failC line 280)
    (hG.b hb3) hs' (enters_of Tryz.func97 (by kernel_rfl) rfl) (fun k W' => JW W pb line bs.length ((wordsL s).take k) W')
    (fun W' hb => JW.start hW3 hb)
    (fun k W1 W2 hj hk => hj.q (by rw [s3] at hk; exact hk)) hm
    (fun k y W1 hk hj hx hsz => by
      rw [s3] at hsz ⊢
      exact hon k y W1 hk hj hx hsz)
    (fun W1 hj hsz => by
      have x1 := wordsL_size (List.mem_of_getElem? hm)
      obtain ⟨h1, h2, va, vl, h3⟩ := hj
      obtain ⟨y1, y2⟩ := wordB_no hx0
      exact (cWordBad (hG.below h1 hG.sz (Nat.le_refl _)) (by omega) y2 y1 h2 (HP.out.below h1).c).mono fun e W' he => ⟨he.1, h1.trans (he.2.mono h1.size)⟩))
  clear k0 k1 k2 hG h hb3 hon hx0 hm
  go_enter Tryz.func95, Tryz.ntmps95
  go_wp2_with fail
  rw [← hW3]
  clear hW3 s3
  refine HS.out.mono ?_
  rintro e W3 ⟨rfl, hl⟩
  exact ⟨rfl, rfl, hl⟩
/-- A line of words. -/
theorem cKindW (hG : Gl W) (h : PSI W R pb vb vn vh line t) (hs' : s.size < 1500000) (hbl : t.bs.length ≤ 2048) (hhl : t.hs.length ≤ 100000) (hR : R ≤ W.heap.size) :
    Calls Tryz.prog 95 #[.pointer (some ⟨pb, 0, none⟩), .string s] W fun e W' => OutI W W' R pb vb vn vh line e (if (wordsL s).all wordB = false then .error 280 else putV t (wordsB (wordsL s)) (holesP line t.bs.length (wordsL s))) := by
  obtain ⟨hv, hP, hH⟩ := h
  have hwl := wordsL_le s
  have hBl := wordsB_len (wordsL s)
  have hon : ∀ k x W1, wordB x = true → JW W pb line t.bs.length ((wordsL s).take k) W1 → (wordsL s)[k]? = some x → W.heap.size + 5 ≤ W1.heap.size → Calls Tryz.prog 97 #[.string x, .pointer (some ⟨W.heap.size + 2, 0, none⟩), .pointer (some ⟨W.heap.size, 0, none⟩), .pointer (some ⟨W.heap.size + 1, 0, none⟩)] W1 fun e W' => e = .returned (.tuple #[]) ∧ JW W pb line t.bs.length ((wordsL s).take (k + 1)) W' ∧ KeptBut (fun b => b ≠ W.heap.size + 3 ∧ b ≠ W.heap.size + 3 + 1) W1 W' := fun k x W1 hx0 hj hx hsz => by
    have x1 := wordsL_size (List.mem_of_getElem? hx)
    have e1 : (wordsL s).take (k + 1) = (wordsL s).take k ++ [x] := by rw [List.take_add_one, hx]; rfl
    rw [e1]
    exact hj.on hG hP hbl (by simp; omega) (wordB_ok (by omega) hx0) hsz
  cases hall : (wordsL s).all wordB with
  | false =>
    rw [if_pos rfl]
    obtain ⟨m, x, hm, hx0, hlow⟩ := first_bad hall
    exact (cKind1No hG hP (by omega) hm hx0 (fun k y W1 hk hj hx hsz => hon k y W1 (hlow k y hk hx) hj hx hsz)).mono fun e W' he => OutI.low he
  | true =>
    rw [if_neg (by simp)]
    have hok : ∀ x ∈ wordsL s, wordOk x := fun x hx => wordB_ok (by have := wordsL_size hx; omega) (List.all_eq_true.1 hall x hx)
    by_cases hr : t.bs.length + 4 * (wordsL s).length ≤ 2048
    · rw [putV_ok (by omega)]
      refine (cKind1 hG hP (by omega) hok hr ?_ hR).mono fun e W' he => ⟨he.1, StI.of hH (Step.ofBH he.2) rfl (fun W S => words_holes W S R line (wordsL s) t.bs.length)⟩
      rw [hH.1]; exact hhl
    · rw [putV_no (by omega)]
      exact (cKind1Much hG hP (by omega) hok (by omega) hbl (by omega) (fun k x W1 hj hx hsz => hon k x W1 (List.all_eq_true.1 hall x (List.mem_of_getElem? hx)) hj hx hsz)).mono fun e W' he => OutI.low he
theorem cKind3Much (h : PS W R pb vb vn vh line bs ns hs) (hs' : s.size ≤ 1000000000) (hbl : bs.length ≤ 2048) (hlen : 2048 < bs.length + s.size) :
    Calls Tryz.prog 102 #[.pointer (some ⟨pb, 0, none⟩), .string s] W fun e W' => e = .panicked (failC line 282) ∧ Below W.heap.size W W' := by
  have cv := Lib.run_convert_string_bytes W 9 24 5 s Tryz.underlying9 Tryz.underlying24 Tryz.underlying5
  have hb : Below W.heap.size W (Lib.bytesWorld W 5 s) := Joins.below_bytesWorld _ _ _ _ (Nat.le_refl _)
  obtain ⟨cp, hcp⟩ : ∃ c, c = grownCap W s.size 0 5 := ⟨_, rfl⟩
  rw [← hcp] at cv
  have HPut := Lib.hid (cPutNo (A := some ⟨W.heap.size, 0, none⟩) (c := cp) (h.below hb) hs' (by omega) hlen)
  have HB := Lib.hid hb
  clear hb h hcp
  generalize Lib.bytesWorld W 5 s = W1 at *
  go_enter Tryz.func102, Tryz.ntmps102
  go_wp2_with fail
  refine HPut.out.mono ?_
  rintro e W4 ⟨rfl, rfl⟩
  exact ⟨rfl, rfl, HB.out⟩
theorem cKind3Z (h : PS W R pb vb vn vh line bs ns hs) (hs' : s.size = 0) (hlen : bs.length ≤ 2048) :
    Calls Tryz.prog 102 #[.pointer (some ⟨pb, 0, none⟩), .string s] W fun e W' => e = .returned (.tuple #[]) ∧ ∃ vb', PS W' R pb vb' vn vh line bs ns hs ∧ KeptBut (fun k => k = pb ∨ vb.ownBlock = some k) W W' ∧ ∀ k, vb'.ownBlock = some k → vb.ownBlock = some k ∨ W.heap.size ≤ k := by
  have cv := Lib.run_convert_string_bytes W 9 24 5 s Tryz.underlying9 Tryz.underlying24 Tryz.underlying5
  have hb : Below W.heap.size W (Lib.bytesWorld W 5 s) := Joins.below_bytesWorld _ _ _ _ (Nat.le_refl _)
  rw [hs'] at cv
  obtain ⟨cp, hcp⟩ : ∃ c, c = grownCap W 0 0 5 := ⟨_, rfl⟩
  rw [← hcp] at cv
  have HPut := Lib.hid (cPut0 (A := some ⟨W.heap.size, 0, none⟩) (c := cp) (h.below hb) hlen)
  have HB := Lib.hid hb
  clear hb h hcp
  generalize Lib.bytesWorld W 5 s = W1 at *
  go_enter Tryz.func102, Tryz.ntmps102
  go_wp2_with fail
  refine HPut.out.mono ?_
  rintro e W4 ⟨rfl, vb', ps, kb, ho⟩
  have HF := Lib.hid (And.intro ps (And.intro kb ho))
  clear ps kb ho
  go_wp2
  go_end0
  obtain ⟨ps, kb, ho⟩ := HF.out
  exact ⟨rfl, vb', ps, (KeptBut.of_below _ HB.out).trans kb, fun k e => (ho k e).imp id (fun h => Nat.le_trans HB.out.size h)⟩
/-- A line of text. -/
theorem cKindT (h : PSI W R pb vb vn vh line t) (hs' : s.size < 1000000000) (hbl : t.bs.length ≤ 2048) (hR : R ≤ W.heap.size) :
    Calls Tryz.prog 102 #[.pointer (some ⟨pb, 0, none⟩), .string s] W fun e W' => OutI W W' R pb vb vn vh line e (putV t (bytesOfS s) []) := by
  obtain ⟨hv, hP, hH⟩ := h
  have hl := bytesOfS_len s
  by_cases hr : t.bs.length + s.size ≤ 2048
  · rw [putV_ok (by omega)]
    rcases Nat.eq_zero_or_pos s.size with h0 | h0
    · have e0 : bytesOfS s = [] := List.length_eq_zero_iff.1 (by omega)
      rw [e0, List.append_nil]
      exact (cKind3Z hP h0 hbl).mono fun e W' he => ⟨he.1, StI.of0 hH (Step.ofB he.2) (by simp)⟩
    · exact (cKind3 hP h0 hr hR).mono fun e W' he => ⟨he.1, StI.of0 hH (Step.ofB he.2) (by simp)⟩
  · rw [putV_no (by omega)]
    exact (cKind3Much hP (by omega) hbl (by omega)).mono fun e W' he => OutI.low he
end
end Go.Proofs.YtbfmlmnhdogojaaGreatDoor
