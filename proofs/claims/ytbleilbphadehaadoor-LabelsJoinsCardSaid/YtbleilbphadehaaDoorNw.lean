/- To join does not hang on the order, nor on how often: the walk. -/
import Derived.Test.YtbleilbphadehaaDoorNp
import Derived.Test.YtbleilbphadehaaDoorNst
namespace Go.Proofs.YtbleilbphadehaaDoor
open Go.RowKit Go.Shelf

theorem bits_and32 (X Y : BitVec 32) : bits .and .u32 (X.toNat : Int) (Y.toNat : Int) = ((X &&& Y).toNat : Int) := by
  unfold bits
  show IntKind.u32.wrap ((BitVec.ofInt 32 (X.toNat : Int) &&& BitVec.ofInt 32 (Y.toNat : Int)).toNat : Int) = _
  rw [BitVec.ofInt_natCast, BitVec.ofInt_natCast, BitVec.ofNat_toNat, BitVec.ofNat_toNat, BitVec.setWidth_eq, BitVec.setWidth_eq, IntKind.wrap_u32]
  have := (X &&& Y).isLt
  omega
theorem bits_andNot32 (X Y : BitVec 32) : bits .andNot .u32 (X.toNat : Int) (Y.toNat : Int) = ((X &&& ~~~Y).toNat : Int) := by
  unfold bits
  show IntKind.u32.wrap ((BitVec.ofInt 32 (X.toNat : Int) &&& ~~~BitVec.ofInt 32 (Y.toNat : Int)).toNat : Int) = _
  rw [BitVec.ofInt_natCast, BitVec.ofInt_natCast, BitVec.ofNat_toNat, BitVec.ofNat_toNat, BitVec.setWidth_eq, BitVec.setWidth_eq, IntKind.wrap_u32]
  have := (X &&& ~~~Y).isLt
  omega
theorem join_bits {x y : Int} (hx : 0 ≤ x ∧ x < 65536) (hy : 0 ≤ y ∧ y < 65536) : bits .and .u32 (orZ x y) x = x ∧ bits .and .u32 (orZ x y) y = y ∧ bits .andNot .u32 (bits .andNot .u32 (orZ x y) x) y = 0 := by
  obtain ⟨X, hX⟩ : ∃ X : BitVec 32, x = (X.toNat : Int) := ⟨BitVec.ofNat 32 x.toNat, by rw [BitVec.toNat_ofNat, Nat.mod_eq_of_lt (by omega)]; omega⟩
  obtain ⟨Y, hY⟩ : ∃ Y : BitVec 32, y = (Y.toNat : Int) := ⟨BitVec.ofNat 32 y.toNat, by rw [BitVec.toNat_ofNat, Nat.mod_eq_of_lt (by omega)]; omega⟩
  have hZ : orZ x y = ((X ||| Y).toNat : Int) := by
    rw [hX, hY]; unfold orZ; simp
  rw [hZ, hX, hY, bits_and32, bits_and32, bits_andNot32, bits_andNot32]
  refine ⟨?_, ?_, ?_⟩
  · rw [show (X ||| Y) &&& X = X by ext i hi; simp only [BitVec.getElem_and, BitVec.getElem_or]; cases X[i] <;> cases Y[i] <;> rfl]
  · rw [show (X ||| Y) &&& Y = Y by ext i hi; simp only [BitVec.getElem_and, BitVec.getElem_or]; cases X[i] <;> cases Y[i] <;> rfl]
  · have : (X ||| Y) &&& ~~~X &&& ~~~Y = 0#32 := by ext i hi; simp only [BitVec.getElem_and, BitVec.getElem_or, BitVec.getElem_not, BitVec.getElem_zero]; cases X[i] <;> cases Y[i] <;> rfl
    rw [this]; rfl
theorem keepR_len (most : Int) (L : List Int) (x : Int) : (keepR most L x).1.length ≤ L.length + 1 := by
  unfold keepR
  split
  · simp
  · cases idxL x L 0 with
    | some n => simp
    | none => simp only []; split <;> simp
theorem joinR_len (most : Int) (L : List Int) (a b : Int) : (joinR most L a b).1.length ≤ L.length + 1 := by
  unfold joinR
  split
  · exact keepR_len _ _ _
  · simp
/-- Not full: both orders give one number, whose set is what either has. -/
theorem join_both {L : List Int} {J : List ((Int × Int) × Int)} (ok : TOk 65536 L J) (hl : L.length < 65536) {a b : Int} (ha : inR L a) (hb : inR L b) : ∃ (L1 : List Int) (n : Int), joinR 65536 L a b = (L1, n, 0) ∧ joinR 65536 L1 b a = (L1, n, 0) ∧ setR L1 n = (orZ (L.getD a.toNat 0) (L.getD b.toNat 0), 0) := by
  have hx := ok.get ha
  have hy := ok.get hb
  have hz := orZ_lt hx hy
  have e1 : joinR 65536 L a b = keepR 65536 L (orZ (L.getD a.toNat 0) (L.getD b.toNat 0)) := if_pos ⟨ha, hb⟩
  have ga := inR_get ha
  have gb := inR_get hb
  generalize L.getD a.toNat 0 = x at *
  generalize L.getD b.toNat 0 = y at *
  cases hi : idxL (orZ x y) L 0 with
  | some n =>
    have hg := (idxL_some hi).2
    have hn : n < L.length := by have := (List.getElem?_eq_some_iff.1 hg).1; omega
    have hk : keepR 65536 L (orZ x y) = (L, (n : Int), 0) := by unfold keepR; rw [if_neg (by omega), hi]
    refine ⟨L, n, e1.trans hk, ?_, ?_⟩
    · unfold joinR
      rw [if_pos ⟨hb, ha⟩, show L.getD b.toNat 0 = y by rw [List.getD_eq_getElem?_getD, gb]; rfl, show L.getD a.toNat 0 = x by rw [List.getD_eq_getElem?_getD, ga]; rfl, orZ_comm, hk]
    · unfold setR
      rw [if_pos ⟨by omega, by omega⟩, List.getD_eq_getElem?_getD, Int.toNat_natCast, show L[n]? = some (orZ x y) by simpa using hg]; rfl
  | none =>
    have hk : keepR 65536 L (orZ x y) = (L ++ [orZ x y], (L.length : Int), 0) := by unfold keepR; rw [if_neg (by omega), hi]; simp; omega
    have up : ∀ {i : Nat} {v : Int}, L[i]? = some v → (L ++ [orZ x y])[i]? = some v := fun {i v} hv => by
      rw [List.getElem?_append_left (List.getElem?_eq_some_iff.1 hv).1]; exact hv
    have ha1 : inR (L ++ [orZ x y]) a := ⟨ha.1, by have := ha.2; simp; omega⟩
    have hb1 : inR (L ++ [orZ x y]) b := ⟨hb.1, by have := hb.2; simp; omega⟩
    refine ⟨_, _, e1.trans hk, ?_, ?_⟩
    · unfold joinR
      rw [if_pos ⟨hb1, ha1⟩, show (L ++ [orZ x y]).getD b.toNat 0 = y by rw [List.getD_eq_getElem?_getD, up gb]; rfl, show (L ++ [orZ x y]).getD a.toNat 0 = x by rw [List.getD_eq_getElem?_getD, up ga]; rfl, orZ_comm y x]
      unfold keepR
      rw [if_neg (by omega), idx_push _ _ _ hi, Nat.zero_add]
    · unfold setR
      rw [if_pos ⟨by omega, by simp; omega⟩, List.getD_eq_getElem?_getD, Int.toNat_natCast, List.getElem?_append_right (by omega)]; simp
set_option maxRecDepth 100000 in
set_option maxHeartbeats 8000000 in
theorem cJoins_in {w : World} {A0 A1 : Option Addr} {u : List Int} {l : List St4} {c0 c1 : Nat} (h20 : u.length ≤ 20) (h30 : l.length ≤ 30) (hu : Rd w w.heap.size .u32 A0 u) (huf : ∀ x ∈ u, 0 ≤ x ∧ x < 4294967296) (hr : RdS w w.heap.size A1 l) :
    Calls Tryd.prog 5 #[.slice A0 u.length c0, .slice A1 l.length c1] w fun e w' => e = .returned (.bool true) ∧ Below w.heap.size w w' := by
  go_enter Tryd.func5, Tryd.ntmps5
  go_wp2_with fail
  refine (cNew (n := 65536) (by decide) (by decide) w).mono ?_
  rintro e W1 ⟨p, mn, mj, sv, rfl, t1, b1⟩
  have T1 := Lib.hid (⟨mn, mj, sv, [], t1, TOk.first (by decide) (by decide), b1⟩ : Tb0 w W1 p 65536 [0])
  clear t1 b1
  go_wp2_with fail
  go_loopw [7] (fun i wr => ∃ k : Nat, k ≤ u.length ∧ i = .int .i64 k ∧ ∃ L, L.length ≤ 1 + k ∧ Tb0 w wr p 65536 L) (fun i _ => u.length - (intOf i).toNat)
  case atStart => exact ⟨0, Nat.zero_le _, rfl, _, by simp, T1.out⟩
  case round =>
    clear T1
    obtain ⟨k, hk, rfl, L, hLk, mn, mj, sv, J, t, ok, b⟩ := hrel
    by_cases hlt : k < u.length
    · obtain ⟨x, hx⟩ : ∃ x, u[k]? = some x := ⟨_, List.getElem?_eq_getElem hlt⟩
      obtain ⟨x0, x1⟩ := huf x (List.mem_of_getElem? hx)
      obtain ⟨g, off, rfl, hg⟩ := hu.some_ (by omega)
      have cx := (hu.below b (Nat.le_refl _)).cell g off rfl k x hx
      have z0 : 0 ≤ x % 65536 := by omega
      have z1 : x % 65536 < 65536 := by omega
      have hK := Lib.hid (cKeep t ok z0)
      have hKL := keepR_len 65536 L (x % 65536)
      have HT := Lib.hid t
      have HB := Lib.hid b
      clear hx t b ok
      go_wp2_with fail
      refine hK.out.mono ?_
      rintro e W2 ⟨rfl, tt, ok'⟩
      have HE := Lib.hid (Tb0.step HT.out HB.out tt ok')
      clear tt ok' HB HT hK
      go_wp2
      go_roundw
      case rel => exact ⟨k + 1, by omega, by go_num, _, by omega, HE.out⟩
      case measure => simp [intOf]; omega
    · obtain rfl : k = u.length := by omega
      have T2 := Lib.hid (⟨mn, mj, sv, J, t, ok, b⟩ : Tb0 w wr p 65536 L)
      clear t ok b
      go_wp2_with fail
      generalize hwr : wr = W2 at *
      clear hwr
      go_loopw [8] (fun i wr => ∃ k : Nat, k ≤ l.length ∧ i = .int .i64 k ∧ ∃ L, L.length ≤ 21 + k ∧ Tb0 w wr p 65536 L) (fun i _ => l.length - (intOf i).toNat)
      case atStart => exact ⟨0, Nat.zero_le _, rfl, L, by omega, T2.out⟩
      case round =>
        clear T2 hLk
        obtain ⟨k, hk, rfl, L, hLk, mn, mj, sv, J, t, ok, b⟩ := hrel
        by_cases hlt : k < l.length
        · obtain ⟨⟨kd, aa, bb, x⟩, hx⟩ : ∃ x, l[k]? = some x := ⟨_, List.getElem?_eq_getElem hlt⟩
          obtain ⟨g, off, rfl, hg⟩ := hr.some_ (by omega)
          obtain ⟨x0, x1, x2, x3⟩ := (hr.below b (Nat.le_refl _)).cell g off rfl k kd aa bb x hx
          clear hx x0 x3
          have Td : TAt wr.drew w.heap.size p mn mj sv 65536 L J := t.below (Below.refl _ _).drew
          have HB := Lib.hid b.drew
          have HT := Lib.hid Td
          have HS1 := Lib.hid (cSet Td ok.pos aa)
          have HS2 := Lib.hid (cSet Td ok.pos bb)
          have HJ1 := Lib.hid (cJoin Td ok aa bb)
          by_cases hin : inR L aa ∧ inR L bb
          · obtain ⟨L1, n, e1, e2, e3⟩ := join_both ok (by omega) hin.1 hin.2
            obtain ⟨q1, q2, q3⟩ := join_bits (ok.get hin.1) (ok.get hin.2)
            have hjl := joinR_len 65536 L aa bb
            rw [e1] at HJ1 hjl
            rw [show setR L aa = (L.getD aa.toNat 0, 0) from if_pos hin.1] at HS1
            rw [show setR L bb = (L.getD bb.toNat 0, 0) from if_pos hin.2] at HS2
            have HE2 := Lib.hid e2
            have HE3 := Lib.hid e3
            clear e1 e2 e3 hin t Td ok b
            generalize L.getD aa.toNat 0 = y1 at *
            generalize L.getD bb.toNat 0 = y2 at *
            generalize orZ y1 y2 = z at *
            simp only at hjl
            go_wp2_with fail
            go_region
            go_wp2_with fail
            refine HS1.out.mono ?_
            rintro e w1 ⟨rfl, rfl⟩
            go_wp2_with fail
            refine HS2.out.mono ?_
            rintro e w1 ⟨rfl, rfl⟩
            go_wp2_with fail
            refine HJ1.out.mono ?_
            rintro e W3 ⟨rfl, J3, tt, ok3⟩
            have E3 := Lib.hid (Tb0.step HT.out HB.out tt ok3)
            clear tt ok3 HS1 HS2 HJ1 HB HT x1 x2
            obtain ⟨mn3, mj3, sv3, J3', t3, ok3, b3⟩ := E3.out
            have HJ2 := Lib.hid (cJoin t3 ok3 bb aa)
            rw [HE2.out] at HJ2
            have HT3 := Lib.hid t3
            have HB3 := Lib.hid b3
            clear t3 ok3 b3 E3
            go_wp2_with fail
            refine HJ2.out.mono ?_
            rintro e W4 ⟨rfl, J4, tt, ok4⟩
            have E4 := Lib.hid (Tb0.step HT3.out HB3.out tt ok4)
            clear tt ok4 HJ2 HB3 HT3
            obtain ⟨mn4, mj4, sv4, J4', t4, ok4, b4⟩ := E4.out
            have HS3 := Lib.hid (cSet t4 ok4.pos n)
            rw [HE3.out] at HS3
            clear t4 ok4 b4
            go_wp2_with fail
            refine HS3.out.mono ?_
            rintro e w1 ⟨rfl, rfl⟩
            go_wp2
            go_roundw
            case rel => exact ⟨k + 1, by omega, by go_num, L1, by omega, E4.out⟩
            case measure => simp [intOf]; omega
          · have e1 : joinR 65536 L aa bb = (L, 0, 5) := if_neg hin
            have e2 : joinR 65536 L bb aa = (L, 0, 5) := if_neg (fun h => hin ⟨h.2, h.1⟩)
            rw [e1] at HJ1
            have HE2 := Lib.hid e2
            have hcase : (setR L aa = (0, 5)) ∨ (setR L aa = (L.getD aa.toNat 0, 0) ∧ setR L bb = (0, 5)) := by
              by_cases h1 : inR L aa
              · exact .inr ⟨if_pos h1, if_neg fun h => hin ⟨h1, h⟩⟩
              · exact .inl (if_neg h1)
            clear e1 e2 hin t Td ok b
            rcases hcase with h5 | ⟨h5, h6⟩
            · rw [h5] at HS1
              clear h5
              generalize setR L bb = sb at *
              go_wp2_with fail
              go_region
              go_wp2_with fail
              refine HS1.out.mono ?_
              rintro e w1 ⟨rfl, rfl⟩
              go_wp2_with fail
              refine HS2.out.mono ?_
              rintro e w1 ⟨rfl, rfl⟩
              go_wp2_with fail
              refine HJ1.out.mono ?_
              rintro e W3 ⟨rfl, J3, tt, ok3⟩
              have E3 := Lib.hid (Tb0.step HT.out HB.out tt ok3)
              clear tt ok3 HS1 HS2 HJ1 HB HT x1 x2
              obtain ⟨mn3, mj3, sv3, J3', t3, ok3, b3⟩ := E3.out
              have HJ2 := Lib.hid (cJoin t3 ok3 bb aa)
              rw [HE2.out] at HJ2
              have HT3 := Lib.hid t3
              have HB3 := Lib.hid b3
              clear t3 ok3 b3 E3
              go_wp2_with fail
              refine HJ2.out.mono ?_
              rintro e W4 ⟨rfl, J4, tt, ok4⟩
              have E4 := Lib.hid (Tb0.step HT3.out HB3.out tt ok4)
              clear tt ok4 HJ2 HB3 HT3
              go_wp2
              go_roundw
              case rel => exact ⟨k + 1, by omega, by go_num, L, by omega, E4.out⟩
              case measure => simp [intOf]; omega
            · rw [h5] at HS1
              rw [h6] at HS2
              clear h5 h6
              generalize L.getD aa.toNat 0 = y1 at *
              go_wp2_with fail
              go_region
              go_wp2_with fail
              refine HS1.out.mono ?_
              rintro e w1 ⟨rfl, rfl⟩
              go_wp2_with fail
              refine HS2.out.mono ?_
              rintro e w1 ⟨rfl, rfl⟩
              go_wp2_with fail
              refine HJ1.out.mono ?_
              rintro e W3 ⟨rfl, J3, tt, ok3⟩
              have E3 := Lib.hid (Tb0.step HT.out HB.out tt ok3)
              clear tt ok3 HS1 HS2 HJ1 HB HT x1 x2
              obtain ⟨mn3, mj3, sv3, J3', t3, ok3, b3⟩ := E3.out
              have HJ2 := Lib.hid (cJoin t3 ok3 bb aa)
              rw [HE2.out] at HJ2
              have HT3 := Lib.hid t3
              have HB3 := Lib.hid b3
              clear t3 ok3 b3 E3
              go_wp2_with fail
              refine HJ2.out.mono ?_
              rintro e W4 ⟨rfl, J4, tt, ok4⟩
              have E4 := Lib.hid (Tb0.step HT3.out HB3.out tt ok4)
              clear tt ok4 HJ2 HB3 HT3
              go_wp2
              go_roundw
              case rel => exact ⟨k + 1, by omega, by go_num, L, by omega, E4.out⟩
              case measure => simp [intOf]; omega
        · obtain rfl : k = l.length := by omega
          have T3 := Lib.hid b
          have HA := Lib.hid (cAll t ok.pos (by omega))
          have HT := Lib.hid t
          have HO := Lib.hid ok
          clear t ok b
          go_wp2_with fail
          refine HA.out.mono ?_
          rintro e W3 ⟨g', cap', rfl, hown, hb3⟩
          have T4 := Lib.hid (HT.out.below hb3)
          have B4 := Lib.hid (T3.out.trans (hb3.mono T3.out.size))
          have hr3 := Rd.of_own hown
          clear HA hown hb3 HT T3
          go_wp2_with fail
          go_loop [22] (fun i => ∃ k : Nat, k ≤ L.length ∧ i = .int .i64 k) (fun i => L.length - (intOf i).toNat)
          case atStart => exact ⟨0, Nat.zero_le _, rfl⟩
          case round =>
            obtain ⟨k, hk, rfl⟩ := hrel
            by_cases hlt : k < L.length
            · obtain ⟨x, hx⟩ : ∃ x, L[k]? = some x := ⟨_, List.getElem?_eq_getElem hlt⟩
              have cx := hr3.cell g' 0 rfl k x hx
              rw [Nat.zero_add] at cx
              have hH := cHas T4.out HO.out.pos x
              rw [idxL_get HO.out.nd hx 0, Nat.zero_add] at hH
              simp only [Option.getD_some, Option.isSome_some] at hH
              have HH := Lib.hid hH
              clear hx hH
              go_wp2_with fail
              refine HH.out.mono ?_
              rintro e w1 ⟨rfl, rfl⟩
              go_wp2
              go_round
              case rel => exact ⟨k + 1, by omega, by go_num⟩
              case measure => simp [intOf]; omega
            · obtain rfl : k = L.length := by omega
              go_wp2_with fail
              refine (cKnown _).mono ?_
              rintro e W5 ⟨rfl, hb5⟩
              have HF := Lib.hid (B4.out.trans (hb5.mono B4.out.size))
              clear hb5
              go_wp2
              go_ret
              exact ⟨rfl, HF.out⟩
set_option maxRecDepth 100000 in
set_option maxHeartbeats 2000000 in
theorem cLabelsJoins {w : World} {A0 A1 : Option Addr} {u : List Int} {l : List St4} {c0 c1 : Nat} (hu : Rd w w.heap.size .u32 A0 u) (huf : ∀ x ∈ u, 0 ≤ x ∧ x < 4294967296) (hr : RdS w w.heap.size A1 l) (hc0 : c0 ≤ maxLen) (hl0 : u.length ≤ c0) (hc1 : c1 ≤ maxLen) (hl1 : l.length ≤ c1) :
    Calls Tryd.prog 5 #[.slice A0 u.length c0, .slice A1 l.length c1] w fun e w' => e = .returned (.bool true) ∧ Below w.heap.size w w' := by
  simp only [maxLen] at hc0 hc1
  have hc : (u.length ≤ 20 ∧ l.length ≤ 30) ∨ (20 < (u.length : Int)) ∨ ((u.length : Int) ≤ 20 ∧ 30 < (l.length : Int)) := by omega
  rcases hc with ⟨h1, h2⟩ | h1 | ⟨h1, h2⟩
  · exact cJoins_in h1 h2 hu huf hr
  all_goals
    go_enter Tryd.func5, Tryd.ntmps5
    go_wp2_with fail
    refine (cKnown _).mono ?_
    rintro e W1 ⟨rfl, hb1⟩
    go_wp2
    go_ret
    exact ⟨rfl, hb1⟩
end Go.Proofs.YtbleilbphadehaaDoor
