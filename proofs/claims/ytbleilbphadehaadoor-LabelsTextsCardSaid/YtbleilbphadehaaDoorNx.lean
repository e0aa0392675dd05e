/- Labels to a set: contract; the sets and labels of a list, as texts: the walk. -/
import Derived.Test.YtbleilbphadehaaDoorNr
namespace Go.Proofs.YtbleilbphadehaaDoor
open Go.RowKit Go.Shelf

/-- May every one be a label? The set that they make. -/
def okP (l : List Int) : Bool := l.all fun x => decide (0 ≤ x) && decide (x < 16)
def setF (l : List Int) : Nat := l.foldl (fun s x => s ||| 2 ^ x.toNat) 0
theorem okP_take {l : List Int} {k : Nat} {x : Int} (h : l[k]? = some x) : okP (l.take (k + 1)) = (okP (l.take k) && (decide (0 ≤ x) && decide (x < 16))) := by
  rw [List.take_add_one, h]; simp [okP]
theorem setF_take {l : List Int} {k : Nat} {x : Int} (h : l[k]? = some x) : setF (l.take (k + 1)) = setF (l.take k) ||| 2 ^ x.toNat := by
  rw [List.take_add_one, h]; simp [setF]
theorem okP_false {l : List Int} {k : Nat} {x : Int} (h : l[k]? = some x) (hx : ¬ (0 ≤ x ∧ x < 16)) : okP l = false := by
  rw [← Bool.not_eq_true]
  intro h'
  have := List.all_eq_true.1 h' x (List.mem_of_getElem? h)
  simp at this
  exact hx this
/-- What Of answers. -/
def ofR (l : List Int) : Array Value := if okP l then #[.int .u32 (setF l : Int), .int .i64 0] else #[.int .u32 0, .int .i64 2]
theorem ofR_f {l : List Int} (h : okP l = false) : ofR l = #[.int .u32 0, .int .i64 2] := by unfold ofR; rw [h]; rfl
theorem ofR_t {l : List Int} (h : okP l = true) : ofR l = #[.int .u32 (setF l : Int), .int .i64 0] := by unfold ofR; rw [h]; rfl
theorem shl_or {s n : Nat} (hs : s < 65536) (hn : n < 16) : s ||| 2 ^ n < 65536 ∧ (2 : Int) ^ n % 4294967296 = ((2 ^ n : Nat) : Int) ∧ bits .or .u32 (s : Int) ((2 : Int) ^ n % 4294967296) = ((s ||| 2 ^ n : Nat) : Int) ∧ bits .or .u32 (s : Int) ((2 : Int) ^ n) = ((s ||| 2 ^ n : Nat) : Int) ∧ (2 : Int) ^ n = ((2 ^ n : Nat) : Int) := by
  have hpow : (2 : Nat) ^ n < 65536 := Nat.pow_lt_pow_right (n := 16) (by decide) hn
  have e : (2 : Int) ^ n = ((2 ^ n : Nat) : Int) := by simp
  rw [e]
  generalize 2 ^ n = q at *
  have hq : ((q : Nat) : Int) % 4294967296 = q := by omega
  have h := or_u32 (x := (s : Int)) (y := (q : Int)) ⟨by omega, by omega⟩ ⟨by omega, by omega⟩
  simp only [orZ, Int.toNat_natCast] at h
  exact ⟨or_lt16 hs hpow, hq, by rw [hq]; exact h, h, rfl⟩
set_option maxRecDepth 100000 in
set_option maxHeartbeats 2000000 in
theorem cOf {W : World} {B : Nat} {A : Option Addr} {l : List Int} {c : Nat} (hl : l.length ≤ 20) (hr : Rd W B .i64 A l) :
    Calls Tryd.prog 19 #[.slice A l.length c] W fun e w' => e = .returned (.tuple (ofR l)) ∧ w' = W := by
  go_enter Tryd.func19, Tryd.ntmps19
  go_wp2_with fail
  go_loop [4, 6, 9] (fun s _ i => ∃ k : Nat, k ≤ l.length ∧ i = .int .i64 k ∧ Hid (okP (l.take k) = true) ∧ setF (l.take k) < 65536 ∧ s = .int .u32 (setF (l.take k) : Int)) (fun _ _ i => l.length - (intOf i).toNat)
  case atStart => exact ⟨0, Nat.zero_le _, rfl, Lib.hid (by simp [okP]), by simp [setF], by simp [setF]⟩
  case round =>
    obtain ⟨k, hk, rfl, hok, hsf, rfl⟩ := hrel
    by_cases hlt : k < l.length
    · obtain ⟨x, hx⟩ : ∃ x, l[k]? = some x := ⟨_, List.getElem?_eq_getElem hlt⟩
      obtain ⟨g, off, rfl, hg⟩ := hr.some_ (by omega)
      have cx := hr.cell g off rfl k x hx
      have hS := Lib.hid (setF_take hx)
      have hP := Lib.hid (okP_take hx)
      have hF := Lib.hid (fun h => okP_false hx h)
      clear hx
      generalize setF (l.take k) = s at *
      by_cases h0 : x < 0
      · go_wp2
        refine bodyPost_ret (results_tmp2 rfl _ _ _) rfl ?_
        exact ⟨by rw [ofR_f (hF.out (by omega))]; rfl, rfl⟩
      · by_cases h1 : 16 ≤ x
        · go_wp2
          refine bodyPost_ret (results_tmp2 rfl _ _ _) rfl ?_
          exact ⟨by rw [ofR_f (hF.out (by omega))]; rfl, rfl⟩
        · obtain ⟨n, rfl⟩ : ∃ n : Nat, x = n := ⟨x.toNat, by omega⟩
          have hn : n < 16 := by omega
          obtain ⟨q1, -, q3, q4, -⟩ := shl_or hsf hn
          have hH := Lib.hid q3
          have hI := Lib.hid q4
          have hG := Lib.hid q1
          clear q1 q3 q4
          go_wp2
          go_round
          case rel => exact ⟨k + 1, by omega, by go_num, Lib.hid (by rw [hP.out, hok.out]; simp; omega), by rw [hS.out]; exact hG.out, by rw [hS.out]; first | exact congrArg _ hH.out | exact congrArg _ hI.out⟩
          case measure => simp [intOf]; omega
    · obtain rfl : k = l.length := by omega
      rw [List.take_length] at hok hsf ⊢
      have hO := Lib.hid hok.out
      clear hok
      go_wp2
      refine bodyPost_ret (results_tmp2 rfl _ _ _) rfl ?_
      exact ⟨by rw [ofR_t hO.out]; rfl, rfl⟩
/-- One set's labels and texts, asked of both: what is known so far. -/
structure Tx (w0 W : World) (p : Addr) (n : Nat) (LL : List Int) (a b : Option (Option Addr × Nat)) : Prop where
  low : Below w0.heap.size w0 W
  cx : W.cell? p = some (.int .u32 n)
  ra : ∀ A c, a = some (A, c) → Rd W W.heap.size .i64 A LL
  rb : ∀ A c, b = some (A, c) → Rd W W.heap.size .i64 A LL
theorem Tx.keep {w0 W W' : World} {p : Addr} {n : Nat} {LL : List Int} {a b : Option (Option Addr × Nat)} (h : Tx w0 W p n LL a b) (hp : p.block < w0.heap.size) (hb : Below W.heap.size W W') : Tx w0 W' p n LL a b :=
  ⟨h.low.trans (hb.mono h.low.size), (World.cell?_of_block (hb.block _ (by have := h.low.size; omega))).trans h.cx, fun A c e => ((h.ra A c e).below hb (Nat.le_refl _)).up hb.size, fun A c e => ((h.rb A c e).below hb (Nat.le_refl _)).up hb.size⟩
theorem Tx.labels {w0 W : World} {p : Addr} {n : Nat} {LL : List Int} {a b : Option (Option Addr × Nat)} (h : Tx w0 W p n LL a b) (hp : p.block < w0.heap.size) (hn : n < 4294967296) (hL : labsL n 16 = LL) :
    Calls Tryd.prog 14 #[.int .u32 n] W fun e W' => ∃ A c, e = .returned (.slice A LL.length c) ∧ Tx w0 W' p n LL (some (A, c)) b := by
  refine (cLabels hn W).mono ?_
  rintro e W' ⟨v, rfl, hown, _, hb⟩
  rw [hL] at hown
  obtain ⟨A, c, rfl, hr⟩ := Rd.of_own0 hown
  have k := h.keep hp hb
  exact ⟨A, c, rfl, k.low, k.cx, fun A' c' e => by cases e; exact hr, k.rb⟩
theorem Tx.rlabels {w0 W : World} {p : Addr} {n : Nat} {LL : List Int} {a b : Option (Option Addr × Nat)} (h : Tx w0 W p n LL a b) (hp : p.block < w0.heap.size) (hn : n < 4294967296) (hL : labsL n 16 = LL) :
    Calls Tryd.prog 15 #[.int .u32 n] W fun e W' => ∃ A c, e = .returned (.slice A LL.length c) ∧ Tx w0 W' p n LL a (some (A, c)) := by
  refine (rLabels hn W).mono ?_
  rintro e W' ⟨v, rfl, hown, _, hb⟩
  rw [hL] at hown
  obtain ⟨A, c, rfl, hr⟩ := Rd.of_own0 hown
  have k := h.keep hp hb
  exact ⟨A, c, rfl, k.low, k.cx, k.ra, fun A' c' e => by cases e; exact hr⟩
theorem Tx.text {w0 W : World} {p : Addr} {n : Nat} {LL : List Int} {a b : Option (Option Addr × Nat)} (h : Tx w0 W p n LL a b) (hp : p.block < w0.heap.size) (hn : n < 4294967296) (hL : labsL n 16 = LL) {T : ByteArray} (hT : textL LL = T) :
    Calls Tryd.prog 16 #[.int .u32 n] W fun e W' => e = .returned (.string T) ∧ Tx w0 W' p n LL a b := by
  refine (cText hn W).mono ?_
  rintro e W' ⟨rfl, hb⟩
  rw [hL, hT]
  exact ⟨rfl, h.keep hp hb⟩
theorem Tx.rtext {w0 W : World} {p : Addr} {n : Nat} {LL : List Int} {a b : Option (Option Addr × Nat)} (h : Tx w0 W p n LL a b) (hp : p.block < w0.heap.size) (hn : n < 4294967296) (hL : labsL n 16 = LL) {T : ByteArray} (hT : textL LL = T) :
    Calls Tryd.prog 17 #[.int .u32 n] W fun e W' => e = .returned (.string T) ∧ Tx w0 W' p n LL a b := by
  refine (rText hn W).mono ?_
  rintro e W' ⟨rfl, hb⟩
  rw [hL, hT]
  exact ⟨rfl, h.keep hp hb⟩
set_option maxRecDepth 100000 in
set_option maxHeartbeats 8000000 in
theorem cTexts_in {w : World} {A0 A1 : Option Addr} {u l : List Int} {c0 c1 : Nat} (h40 : u.length ≤ 40) (h20 : l.length ≤ 20) (hu : Rd w w.heap.size .u32 A0 u) (huf : ∀ x ∈ u, 0 ≤ x ∧ x < 4294967296) (hr : Rd w w.heap.size .i64 A1 l) :
    Calls Tryd.prog 4 #[.slice A0 u.length c0, .slice A1 l.length c1] w fun e w' => e = .returned (.bool true) ∧ Below w.heap.size w w' := by
  go_enter Tryd.func4, Tryd.ntmps4
  go_wp2_with fail
  go_loopw [5] (fun i wr => ∃ k : Nat, k ≤ u.length ∧ i = .int .i64 k ∧ Below w.heap.size w wr) (fun i _ => u.length - (intOf i).toNat)
  case atStart => exact ⟨0, Nat.zero_le _, rfl, Below.refl _ _⟩
  case round =>
    obtain ⟨k, hk, rfl, hb⟩ := hrel
    by_cases hlt : k < u.length
    · obtain ⟨x, hx⟩ : ∃ x, u[k]? = some x := ⟨_, List.getElem?_eq_getElem hlt⟩
      obtain ⟨x0, x1⟩ := huf x (List.mem_of_getElem? hx)
      obtain ⟨n, rfl⟩ : ∃ n : Nat, x = n := ⟨x.toNat, by omega⟩
      obtain ⟨g, off, rfl, hg⟩ := hu.some_ (by omega)
      have cx := (hu.below hb (Nat.le_refl _)).cell g off rfl k _ hx
      have hlen := labsL_len n 16
      obtain ⟨LL, hLL⟩ : ∃ LL, labsL n 16 = LL := ⟨_, rfl⟩
      obtain ⟨T, hTT⟩ : ∃ T, textL LL = T := ⟨_, rfl⟩
      rw [hLL] at hlen
      have hn : n < 4294967296 := by omega
      have X0 : Tx w wr.drew ⟨g, off + k, none⟩ n LL none none := Tx.keep ⟨hb, cx, fun _ _ e => (by cases e), fun _ _ e => (by cases e)⟩ hg (Below.refl _ wr).drew
      have HLL := Lib.hid hLL
      have HTT := Lib.hid hTT
      have S0 := X0.cx
      clear hx hLL hTT hb x0 x1
      go_wp2_with fail
      go_region_held3 (fun W => W.cell? ⟨g, off + k, none⟩ = some (.int .u32 n))
        (exact Tx.cx (by assumption))
        (first
          | ((with_reducible refine (Tx.labels (by assumption) hg hn HLL.out).mono ?_); rintro e W2 ⟨A2, k2, rfl, X2⟩)
          | ((with_reducible refine (Tx.rlabels (by assumption) hg hn HLL.out).mono ?_); rintro e W3 ⟨A3, k3, rfl, X3⟩))
      have X1 := X3.keep hg (Below.refl _ _).drew
      have S1 := X1.cx
      clear S0 X0 X2 X3
      go_wp2_with fail
      go_region_held3 (fun W => W.cell? ⟨g, off + k, none⟩ = some (.int .u32 n))
        (exact Tx.cx (by assumption))
        (first
          | ((with_reducible refine (Tx.text (by assumption) hg hn HLL.out HTT.out).mono ?_); rintro e W4 ⟨rfl, X4⟩)
          | ((with_reducible refine (Tx.rtext (by assumption) hg hn HLL.out HTT.out).mono ?_); rintro e W5 ⟨rfl, X5⟩))
      have HF := Lib.hid X5
      clear X1 S1 X4 X5
      go_wp2_with fail
      go_loopw [8] (fun i wr => ∃ j : Nat, j ≤ LL.length ∧ i = .int .i64 j ∧ Tx w wr ⟨g, off + k, none⟩ n LL (some (A2, k2)) (some (A3, k3))) (fun i _ => LL.length - (intOf i).toNat)
      case atStart => exact ⟨0, Nat.zero_le _, rfl, HF.out⟩
      case round =>
        clear HF
        obtain ⟨j, hj, rfl, hX⟩ := hrel
        have ha := hX.ra _ _ rfl
        have hb := hX.rb _ _ rfl
        have HX := Lib.hid hX
        by_cases hjl : j < LL.length
        · obtain ⟨y, hy⟩ : ∃ y, LL[j]? = some y := ⟨_, List.getElem?_eq_getElem hjl⟩
          obtain ⟨ga, oa, rfl, _⟩ := ha.some_ (by omega)
          obtain ⟨gb, ob, rfl, _⟩ := hb.some_ (by omega)
          have ca := ha.cell ga oa rfl j y hy
          have cb := hb.cell gb ob rfl j y hy
          clear hy hX
          go_wp2_with fail
          go_region
          go_wp2
          go_roundw
          case rel => exact ⟨j + 1, by omega, by go_num, HX.out.keep hg (Below.refl _ _).drew⟩
          case measure => simp [intOf]; omega
        · obtain rfl : j = LL.length := by omega
          clear hX
          go_wp2
          go_roundw
          case rel => exact ⟨k + 1, by omega, by go_num, HX.out.low⟩
          case measure => simp [intOf]; omega
    · obtain rfl : k = u.length := by omega
      have hr2 := hr.below hb (Nat.le_refl _)
      have HB := Lib.hid hb
      clear hb hu huf
      go_wp2_with fail
      generalize hwr : wr = W2 at *
      clear hwr
      go_loop [9, 10, 11] (fun s o i => ∃ k : Nat, k ≤ l.length ∧ i = .int .i64 k ∧ ∃ (q : Nat) (b : Bool), q < 65536 ∧ s = .int .u32 (q : Int) ∧ o = .bool b ∧ Hid (b = okP (l.take k)) ∧ Hid (b = true → q = setF (l.take k))) (fun _ _ i => l.length - (intOf i).toNat)
      case atStart => exact ⟨0, Nat.zero_le _, rfl, 0, true, by decide, rfl, rfl, Lib.hid (by simp [okP]), Lib.hid (fun _ => by simp [setF])⟩
      case round =>
        obtain ⟨k, hk, rfl, q, b, hq, rfl, rfl, hO, hS⟩ := hrel
        by_cases hlt : k < l.length
        · obtain ⟨x, hx⟩ : ∃ x, l[k]? = some x := ⟨_, List.getElem?_eq_getElem hlt⟩
          obtain ⟨g, off, rfl, hg⟩ := hr2.some_ (by omega)
          have cx := hr2.cell g off rfl k x hx
          have hP := Lib.hid (okP_take hx)
          have hT := Lib.hid (setF_take hx)
          clear hx
          cases b
          · go_wp2
            go_round
            case rel => exact ⟨k + 1, by omega, by go_num, q, false, hq, rfl, rfl, Lib.hid (by rw [hP.out, ← hO.out]; rfl), Lib.hid (fun h => by cases h)⟩
            case measure => simp [intOf]; omega
          · by_cases h0 : 0 ≤ x
            · by_cases h1 : x < 16
              · obtain ⟨n, rfl⟩ : ∃ n : Nat, x = n := ⟨x.toNat, by omega⟩
                have hn : n < 16 := by omega
                obtain ⟨q1, q2, -, -, q5⟩ := shl_or hq hn
                have hJ := rJoin hq (show 2 ^ n < 65536 from Nat.pow_lt_pow_right (n := 16) (by decide) hn) W2
                have hJ1 := hJ
                have hJ2 := hJ
                rw [← q2] at hJ1
                rw [← q5] at hJ2
                have HJ1 := Lib.hid hJ1
                have HJ2 := Lib.hid hJ2
                have HQ := Lib.hid q1
                clear hJ hJ1 hJ2 q1 q2 q5
                go_wp2_with fail
                first | refine HJ1.out.mono ?_ | refine HJ2.out.mono ?_
                rintro e w' ⟨rfl, rfl⟩
                go_wp2
                go_round
                case rel => exact ⟨k + 1, by omega, by go_num, q ||| 2 ^ n, true, HQ.out, rfl, rfl, Lib.hid (by rw [hP.out, ← hO.out]; simp; omega), Lib.hid (fun _ => by rw [hT.out, ← hS.out (by simp), Int.toNat_natCast])⟩
                case measure => simp [intOf]; omega
              · go_wp2
                go_round
                case rel => exact ⟨k + 1, by omega, by go_num, q, false, hq, rfl, rfl, Lib.hid (by rw [hP.out]; simp; intros; omega), Lib.hid (fun h => by cases h)⟩
                case measure => simp [intOf]; omega
            · go_wp2
              go_round
              case rel => exact ⟨k + 1, by omega, by go_num, q, false, hq, rfl, rfl, Lib.hid (by rw [hP.out]; simp; intros; omega), Lib.hid (fun h => by cases h)⟩
              case measure => simp [intOf]; omega
        · obtain rfl : k = l.length := by omega
          rw [List.take_length] at hO hS
          have hF := cOf (c := c1) h20 hr2
          cases b
          · rw [ofR_f hO.out.symm] at hF
            have HF := Lib.hid hF
            clear hF hO hS
            go_wp2_with fail
            refine HF.out.mono ?_
            rintro e w' ⟨rfl, rfl⟩
            go_wp2_with fail
            refine (cKnown _).mono ?_
            rintro e W5 ⟨rfl, hb5⟩
            have HE := Lib.hid (HB.out.trans (hb5.mono HB.out.size))
            clear hb5
            go_wp2
            go_ret
            exact ⟨rfl, HE.out⟩
          · rw [ofR_t hO.out.symm, ← hS.out (by simp)] at hF
            have HF := Lib.hid hF
            clear hF hO hS
            go_wp2_with fail
            refine HF.out.mono ?_
            rintro e w' ⟨rfl, rfl⟩
            go_wp2_with fail
            refine (cKnown _).mono ?_
            rintro e W5 ⟨rfl, hb5⟩
            have HE := Lib.hid (HB.out.trans (hb5.mono HB.out.size))
            clear hb5
            go_wp2
            go_ret
            exact ⟨rfl, HE.out⟩
set_option maxRecDepth 100000 in
set_option maxHeartbeats 2000000 in
theorem cLabelsTexts {w : World} {A0 A1 : Option Addr} {u l : List Int} {c0 c1 : Nat} (hu : Rd w w.heap.size .u32 A0 u) (huf : ∀ x ∈ u, 0 ≤ x ∧ x < 4294967296) (hr : Rd w w.heap.size .i64 A1 l) (hc0 : c0 ≤ maxLen) (hl0 : u.length ≤ c0) (hc1 : c1 ≤ maxLen) (hl1 : l.length ≤ c1) :
    Calls Tryd.prog 4 #[.slice A0 u.length c0, .slice A1 l.length c1] w fun e w' => e = .returned (.bool true) ∧ Below w.heap.size w w' := by
  simp only [maxLen] at hc0 hc1
  have hc : (u.length ≤ 40 ∧ l.length ≤ 20) ∨ (40 < (u.length : Int)) ∨ ((u.length : Int) ≤ 40 ∧ 20 < (l.length : Int)) := by omega
  rcases hc with ⟨h1, h2⟩ | h1 | ⟨h1, h2⟩
  · exact cTexts_in h1 h2 hu huf hr
  all_goals
    go_enter Tryd.func4, Tryd.ntmps4
    go_wp2_with fail
    refine (cKnown _).mono ?_
    rintro e W1 ⟨rfl, hb1⟩
    go_wp2
    go_ret
    exact ⟨rfl, hb1⟩
end Go.Proofs.YtbleilbphadehaaDoor
