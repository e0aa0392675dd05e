/- some: what is done with each word of a line: contract. -/
import Derived.Test.YtbfmlmnhdogojaaGreatDoorTx
import Derived.LoopTactic
import Derived.Lib.SplitLaws
import Derived.Lib.SmallJoins
namespace Go.Proofs.YtbfmlmnhdogojaaGreatDoor
open Go.RowKit Go.Shelf

theorem wordsL_len (s : ByteArray) : (wordsL s).length = Lib.countB s ⟨#[32]⟩ + 1 := Lib.splitB_all _ (by decide) 0 _ s rfl
/-- How many words are left. -/
def leftN (W : World) (q : Nat) (b : Value) : Nat := (match W.cell? ⟨q, 0, none⟩ with | some (.slice _ n _) => n | _ => 0) + (match b with | .bool true => 1 | _ => 0)
theorem WS.leftN {W : World} {g q : Nat} {ws : List ByteArray} {k : Nat} (h : WS W g q ws k) (b : Bool) : leftN W q (.bool b) + k = ws.length + (if b then 1 else 0) := by
  obtain ⟨_, a, n, hn, hq, _⟩ := h
  have e := (hq.cell 0).trans (show _ = some (Value.slice a n n) from rfl)
  unfold YtbfmlmnhdogojaaGreatDoor.leftN
  rw [e]
  cases b <;> simp <;> omega
set_option maxHeartbeats 1000000 in
theorem cSome {w : World} {s : ByteArray} {p : Value} {gf : Nat} {lb : Array Value} (hG : Gl w) (hs : s.size < 4294967281) (eg : ∀ args w, (callFunc gf args).run Tryz.prog w = .ok (.enter gf args) w) (J : Nat → World → Prop)
    (h0 : ∀ W, Below w.heap.size w W → J 0 W) (hq : ∀ k W W', J k W → KeptBut (fun b => b = w.heap.size + 1) W W' → J k W')
    (hon : ∀ k x W, J k W → (wordsL s)[k]? = some x → w.heap.size + 2 ≤ W.heap.size → Calls Tryz.prog gf (#[.string x] ++ lb) W fun e W' => e = .returned (.tuple #[]) ∧ J (k + 1) W' ∧ KeptBut (fun b => b ≠ w.heap.size ∧ b ≠ w.heap.size + 1) W W') :
    Calls Tryz.prog 96 #[p, .string s, .func (.func gf) #[] lb] w fun e w' => e = .returned (.tuple #[]) ∧ J (wordsL s).length w' := by
  have hlen := wordsL_len s
  have HW := Lib.hid (cWords hG hs hlen)
  have hpos : 0 < (wordsL s).length := by omega
  have HON := Lib.hid hon
  have HQ := Lib.hid hq
  have H0 := Lib.hid h0
  clear hon hq h0 hlen
  generalize wordsL s = ws at *
  go_enter Tryz.func96, Tryz.ntmps96
  go_wp2_with fail
  refine HW.out.mono ?_
  rintro e W1 ⟨rfl, hws, hb⟩
  obtain ⟨x, hx⟩ : ∃ x, ws[0]? = some x := ⟨_, List.getElem?_eq_getElem hpos⟩
  have HN := Lib.hid (cNext hws hx)
  have HJ := Lib.hid (H0.out W1 hb)
  have HX := Lib.hid hx
  have HS1 := Lib.hid (show w.heap.size + 2 ≤ W1.heap.size by obtain ⟨_, _, _, _, h, _⟩ := hws; have := h.lt; omega)
  clear hb hx hws HW H0
  go_wp2_with fail
  refine HN.out.mono ?_
  rintro e W2 ⟨rfl, hws, hk⟩
  have HJ2 := Lib.hid (HQ.out 0 W1 W2 HJ.out hk)
  have HS2 := Lib.hid (Nat.le_trans HS1.out hk.size)
  clear hk HN HJ HS1
  go_wp2_with fail
  go_loopw [7, 8] (fun v b wr => ∃ k : Nat, k ≤ ws.length ∧ J k wr ∧ w.heap.size + 2 ≤ wr.heap.size ∧ ((∃ x, ws[k]? = some x ∧ v = .string x ∧ b = .bool true ∧ WS wr w.heap.size (w.heap.size + 1) ws (k + 1)) ∨ (k = ws.length ∧ b = .bool false ∧ WS wr w.heap.size (w.heap.size + 1) ws k))) (fun _ b wr => leftN wr (w.heap.size + 1) b)
  case atStart => exact ⟨0, Nat.zero_le _, HJ2.out, HS2.out, .inl ⟨x, HX.out, rfl, rfl, hws⟩⟩
  case round =>
    clear hws HJ2 HS2
    obtain ⟨k, hk, hj, hsz, ⟨y, hy, rfl, rfl, hws⟩ | ⟨hke, rfl, hws⟩⟩ := hrel
    · have HC := Lib.hid (HON.out k y wr hj hy hsz)
      have HM := Lib.hid hws.leftN
      have HWS := Lib.hid hws
      have hlt : k < ws.length := (List.getElem?_eq_some_iff.1 hy).1
      clear hj hy hws
      go_wp2_with fail
      refine HC.out.mono ?_
      rintro e W3 ⟨rfl, hj3, hk3⟩
      have hws3 := HWS.out.kept hk3 (by simp) (by simp)
      have hsz3 := Nat.le_trans hsz hk3.size
      have HJ3 := Lib.hid hj3
      clear hj3 hk3 HC HWS
      rcases Nat.lt_or_ge (k + 1) ws.length with hl | hl
      · obtain ⟨z, hz⟩ : ∃ z, ws[k + 1]? = some z := ⟨_, List.getElem?_eq_getElem hl⟩
        have HN := Lib.hid (cNext hws3 hz)
        have HZ := Lib.hid hz
        clear hws3 hz
        go_wp2_with fail
        refine HN.out.mono ?_
        rintro e W4 ⟨rfl, hws4, hk4⟩
        have HF := Lib.hid (And.intro (HQ.out (k + 1) W3 W4 HJ3.out hk4) (And.intro (Nat.le_trans hsz3 hk4.size) hws4))
        clear hws4 hk4 HN
        go_wp2
        go_roundw
        case rel => exact ⟨k + 1, by omega, HF.out.1, HF.out.2.1, .inl ⟨z, HZ.out, rfl, rfl, HF.out.2.2⟩⟩
        case measure =>
          have m1 := HM.out true
          have m2 := HF.out.2.2.leftN true
          simp at m1 m2 ⊢
          omega
      · obtain he : ws.length = k + 1 := by omega
        have hws3' : WS W3 w.heap.size (w.heap.size + 1) ws ws.length := by rw [he]; exact hws3
        have HN := Lib.hid (cNext_end hws3')
        have HF := Lib.hid hws3'
        have HE := Lib.hid he
        clear hws3 hws3' he hl
        go_wp2_with fail
        refine HN.out.mono ?_
        rintro e w' ⟨rfl, rfl⟩
        go_wp2
        go_roundw
        case rel => exact ⟨ws.length, Nat.le_refl _, by rw [HE.out]; exact HJ3.out, hsz3, .inr ⟨rfl, rfl, HF.out⟩⟩
        case measure =>
          have m1 := HM.out true
          have m2 := HF.out.leftN false
          simp at m1 m2 ⊢
          omega
    · go_wp2_with fail
      go_end0
      exact ⟨rfl, by rw [← hke]; exact hj⟩
end Go.Proofs.YtbfmlmnhdogojaaGreatDoor
namespace Go.Proofs.YtbfmlmnhdogojaaGreatDoor
open Go.RowKit Go.Shelf

theorem cFormat {n : Int} (h0 : -9223372036854775808 ≤ n) (h1 : n ≤ 9223372036854775807) {w : World} (ht : Tb w) : Calls Tryz.prog 105 #[.int .i64 n, .int .i64 10] w fun e w' => e = .returned (.string (itoaB n)) ∧ Below w.heap.size w w' := by
  refine (Tryz.strconv_FormatInt_10 n h0 h1 w ht).mono ?_
  rintro e w' ⟨rfl, k, os, rfl⟩
  exact ⟨rfl, below_grown_sl _ _ _ _ (Nat.le_refl _)⟩
theorem cNum {s : ByteArray} {lo hi : Int} {w : World} (hG : Gl w) (hs : s.size < 4294967281) : Calls Tryz.prog 98 #[.string s, .int .i64 lo, .int .i64 hi] w fun e w' => e = .returned (.tuple #[.int .i64 (numV s), .bool (numB s lo hi)]) ∧ Below w.heap.size w w' := by
  match hp : Lib.parseIntB 64 s.data.toList with
  | .ok v =>
    have hv : numV s = v := by unfold numV; rw [hp]
    have hB : numB s lo hi = (((itoaB v).toList == s.toList) && (decide (lo ≤ v) && decide (v ≤ hi))) := by unfold numB; rw [hp]
    obtain ⟨b1, b2⟩ := parse_bounds hp
    rw [hv, hB]
    have HP := Lib.hid ((Tryz.strconv_ParseInt_10_at64_ok s (by omega) v hp w).mono (R' := fun e w' => e = .returned (.tuple #[.int .i64 v, .nilIface]) ∧ Below w.heap.size w w') (by
      rintro e w' ⟨rfl, rfl | ⟨t, rfl⟩⟩
      · exact ⟨rfl, Below.refl _ _⟩
      · exact ⟨rfl, Joins.below_bytesWorld _ _ _ _ (Nat.le_refl _)⟩))
    clear hv hB hp
    obtain ⟨t, ht⟩ : ∃ t, t = itoaB v := ⟨_, rfl⟩
    have HT := Lib.hid ht
    rw [← ht]
    clear ht
    go_enter Tryz.func98, Tryz.ntmps98
    go_wp2_with fail
    refine HP.out.mono ?_
    rintro e W ⟨rfl, hb⟩
    have HF := Lib.hid (cFormat b1 b2 (hG.b hb).tb)
    have HB := Lib.hid hb
    rw [← HT.out] at HF
    clear hb
    go_wp2_with fail
    refine HF.out.mono ?_
    rintro e W2 ⟨rfl, hb⟩
    have HB2 := Lib.hid (HB.out.trans (hb.mono HB.out.size))
    clear hb
    cases he : (t.toList == s.toList)
    · go_wp2
      go_ret2
      exact ⟨by simp [beq_eq_false_iff_ne.1 he], HB2.out⟩
    · by_cases h1 : lo ≤ v
      · by_cases h2 : v ≤ hi
        · go_wp2
          go_ret2
          exact ⟨by simp [beq_iff_eq.1 he, h1, h2], HB2.out⟩
        · go_wp2
          go_ret2
          exact ⟨by simp [beq_iff_eq.1 he, h1], HB2.out⟩
      · go_wp2
        go_ret2
        exact ⟨by simp; omega, HB2.out⟩
  | .syntax =>
    have hv : numV s = 0 := by unfold numV; rw [hp]
    have hB : numB s lo hi = false := by unfold numB; rw [hp]
    obtain ⟨tp, p, hes⟩ := hG.es
    rw [hv, hB]
    have HP := Lib.hid (Tryz.strconv_ParseInt_10_at64_syntax_var s (by omega) hp tp p w hes)
    clear hv hB hp
    go_enter Tryz.func98, Tryz.ntmps98
    go_wp2_with fail
    refine HP.out.mono ?_
    rintro e W ⟨N, rfl, -, -, hb⟩
    go_wp2
    go_ret2
    exact ⟨rfl, hb⟩
  | .range =>
    have hv : numV s = Lib.intSat 64 s.data.toList := by unfold numV; rw [hp]
    have hB : numB s lo hi = false := by unfold numB; rw [hp]
    obtain ⟨tp, p, hes⟩ := hG.er
    rw [hv, hB]
    have HP := Lib.hid (Tryz.strconv_ParseInt_10_at64_range_var s (by omega) hp tp p w hes)
    clear hv hB hp
    generalize Lib.intSat 64 s.data.toList = u at *
    go_enter Tryz.func98, Tryz.ntmps98
    go_wp2_with fail
    refine HP.out.mono ?_
    rintro e W ⟨N, rfl, -, -, hb⟩
    go_wp2
    go_ret2
    exact ⟨rfl, hb⟩
end Go.Proofs.YtbfmlmnhdogojaaGreatDoor
