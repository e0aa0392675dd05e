/- A table keeps just so many unlike sets as its bound says: the walk. -/
import Derived.Test.YtbleilbphadehaaDoorNo
namespace Go.Proofs.YtbleilbphadehaaDoor
open Go.RowKit Go.Shelf

/-- A table whose blocks are new since a world. -/
def Tb0 (w W : World) (p : Nat) (most : Int) (L : List Int) : Prop :=
  ∃ mn mj sv J, TAt W w.heap.size p mn mj sv most L J ∧ TOk most L J ∧ Below w.heap.size w W
theorem Tb0.step {w W W' : World} {p mn mj : Nat} {sv : Value} {most : Int} {L L' : List Int} {J J' : List ((Int × Int) × Int)} (t : TAt W w.heap.size p mn mj sv most L J) (b : Below w.heap.size w W) (h : TabTo W W' w.heap.size p mn mj sv most L' J') (ok : TOk most L' J') : Tb0 w W' p most L' := by
  have hl := h.low t b.size
  obtain ⟨sv', t', _, _⟩ := h
  exact ⟨mn, mj, sv', J', t', ok, b.trans hl⟩
set_option maxRecDepth 100000 in
set_option maxHeartbeats 4000000 in
theorem cLabelsBound {w : World} {most : Int} {A : Option Addr} {l : List Int} {c : Nat} (hr : Rd w w.heap.size .u32 A l) (hwf : ∀ x ∈ l, 0 ≤ x ∧ x < 4294967296) (_ : c ≤ maxLen) (_ : l.length ≤ c) :
    Calls Tryd.prog 3 #[.int .i64 most, .slice A l.length c] w fun e w' => e = .returned (.bool true) ∧ Below w.heap.size w w' := by
  by_cases hb : (1 ≤ most ∧ most ≤ 60) ∧ l.length ≤ 100
  · obtain ⟨⟨m1, m2⟩, h100⟩ := hb
    go_enter Tryd.func3, Tryd.ntmps3
    go_wp2_with fail
    refine (cNew (n := most) m1 (by omega) w).mono ?_
    rintro e W1 ⟨p, mn, mj, sv, rfl, t1, b1⟩
    have T1 := Lib.hid (⟨mn, mj, sv, [], t1, TOk.first m1 (by omega), b1⟩ : Tb0 w W1 p most [0])
    clear t1 b1
    go_wp2_with fail
    go_loopw [7] (fun i wr => ∃ k : Nat, k ≤ l.length ∧ i = .int .i64 k ∧ ∃ L, Tb0 w wr p most L) (fun i _ => l.length - (intOf i).toNat)
    case atStart => exact ⟨0, Nat.zero_le _, rfl, _, T1.out⟩
    case round =>
      obtain ⟨k, hk, rfl, L, mn, mj, sv, J, t, ok, b⟩ := hrel
      have hpos := ok.pos
      by_cases hlt : k < l.length
      · obtain ⟨x, hx⟩ : ∃ x, l[k]? = some x := ⟨_, List.getElem?_eq_getElem hlt⟩
        obtain ⟨x0, x1⟩ := hwf x (List.mem_of_getElem? hx)
        obtain ⟨g, off, rfl, hg⟩ := hr.some_ (by omega)
        have cx := (hr.below b (Nat.le_refl _)).cell g off rfl k x hx
        have z0 : 0 ≤ x % 65536 := by omega
        have z1 : x % 65536 < 65536 := by omega
        have hH := cHas t ok.pos (x % 65536)
        have hK := cKeep t ok z0
        clear hx
        cases hi : idxL (x % 65536) L 0 with
        | some n =>
          rw [hi] at hH
          rw [show keepR most L (x % 65536) = (L, (n : Int), 0) by unfold keepR; rw [if_neg (by omega), hi]] at hK
          simp only [Option.getD_some, Option.isSome_some] at hH
          have HB := Lib.hid b
          have HT := Lib.hid t
          clear hi ok b t
          go_wp2_with fail
          refine hH.mono ?_
          clear hH
          rintro e W2 ⟨rfl, rfl⟩
          go_wp2_with fail
          refine hK.mono ?_
          clear hK
          rintro e W3 ⟨rfl, tt, ok'⟩
          have HE := Lib.hid (Tb0.step HT.out HB.out tt ok')
          clear tt ok' HB HT
          go_wp2
          go_roundw
          case rel => exact ⟨k + 1, by omega, by go_num, _, HE.out⟩
          case measure => simp [intOf]; omega
        | none =>
          rw [hi] at hH
          simp only [Option.getD_none, Option.isSome_none] at hH
          by_cases hm : most ≤ L.length
          · have hml : (L.length : Int) = most := by have := ok.len; omega
            rw [show keepR most L (x % 65536) = (L, 0, 120) by unfold keepR; rw [if_neg (by omega), hi]; simp [hm]] at hK
            have HB := Lib.hid b
            have HT := Lib.hid t
            have HM := Lib.hid hml
            clear hi ok b t hm hml
            go_wp2_with fail
            refine hH.mono ?_
            clear hH
            rintro e W2 ⟨rfl, rfl⟩
            go_wp2_with fail
            refine hK.mono ?_
            clear hK
            rintro e W3 ⟨rfl, tt, ok'⟩
            have hL := cLen tt.choose_spec.1 ok'.pos
            rw [HM.out] at hL
            have HE := Lib.hid (Tb0.step HT.out HB.out tt ok')
            clear tt ok' HB HT
            go_wp2_with fail
            refine hL.mono ?_
            rintro e W4 ⟨rfl, rfl⟩
            go_wp2_with fail
            refine hL.mono ?_
            rintro e W5 ⟨rfl, rfl⟩
            go_wp2
            go_roundw
            case rel => exact ⟨k + 1, by omega, by go_num, _, HE.out⟩
            case measure => simp [intOf]; omega
          · rw [show keepR most L (x % 65536) = (L ++ [x % 65536], (L.length : Int), 0) by unfold keepR; rw [if_neg (by omega), hi]; simp [hm]] at hK
            have HB := Lib.hid b
            have HT := Lib.hid t
            clear hi ok b t
            go_wp2_with fail
            refine hH.mono ?_
            clear hH
            rintro e W2 ⟨rfl, rfl⟩
            go_wp2_with fail
            refine hK.mono ?_
            clear hK
            rintro e W3 ⟨rfl, tt, ok'⟩
            have hL := cLen tt.choose_spec.1 ok'.pos
            rw [List.length_append, show ([x % 65536] : List Int).length = 1 from rfl] at hL
            have HE := Lib.hid (Tb0.step HT.out HB.out tt ok')
            clear tt ok' HB HT
            go_wp2_with fail
            refine hL.mono ?_
            rintro e W4 ⟨rfl, rfl⟩
            go_wp2_with fail
            refine hL.mono ?_
            rintro e W5 ⟨rfl, rfl⟩
            go_wp2
            go_roundw
            case rel => exact ⟨k + 1, by omega, by go_num, _, HE.out⟩
            case measure => simp [intOf]; omega
      · obtain rfl : k = l.length := by omega
        have hL := cLen t ok.pos
        have hle := ok.len
        have HB := Lib.hid b
        clear ok b t
        go_wp2_with fail
        refine hL.mono ?_
        clear hL
        rintro e W4 ⟨rfl, rfl⟩
        go_wp2_with fail
        refine (cKnown _).mono ?_
        rintro e W5 ⟨rfl, hb5⟩
        have HF := Lib.hid (HB.out.trans (hb5.mono HB.out.size))
        clear hb5
        go_wp2
        go_ret
        exact ⟨rfl, HF.out⟩
  · have hc : most < 1 ∨ (1 ≤ most ∧ 60 < most) ∨ ((1 ≤ most ∧ most ≤ 60) ∧ 100 < (l.length : Int)) := by omega
    clear hb
    rcases hc with h1 | ⟨h1, h2⟩ | ⟨⟨h1, h2⟩, h3⟩
    all_goals
      go_enter Tryd.func3, Tryd.ntmps3
      go_wp2_with fail
      refine (cKnown w).mono ?_
      rintro e W1 ⟨rfl, hb1⟩
      go_wp2
      go_ret
      exact ⟨rfl, hb1⟩
end Go.Proofs.YtbleilbphadehaaDoor
