/- A line of bytes: contracts. -/
import Derived.Test.YtbfmlmnhdogojaaGreatDoorPd
import Derived.Test.YtbfmlmnhdogojaaGreatDoorIs3
import Derived.Laws.Strings
import Derived.Test.YtbfmlmnhdogojaaGreatDoorBase
import Derived.Handy
import Derived.WalkLawsBesides
namespace Go.Proofs.YtbfmlmnhdogojaaGreatDoor
open Go.RowKit Go.Shelf

theorem numB_bounds {s : ByteArray} {lo hi : Int} (h : numB s lo hi = true) : lo ≤ numV s ∧ numV s ≤ hi := by
  unfold numB at h
  unfold numV
  split at h
  · rename_i v hv
    rw [hv]
    simp at h
    exact ⟨h.2.1, h.2.2⟩
  · cases h
theorem own_new {W W' : World} {base : Nat} {e : TypeId} {size n : Nat} {v : Value} {xs : List Value} (h : W.ownsRow base e size v n xs) (hb : Below W.heap.size W W') : W'.ownsRow base e size v n xs :=
  (KeptBut.of_below (fun _ => False) hb).row h (fun _ _ => id)
set_option maxRecDepth 100000 in
set_option maxHeartbeats 1000000 in
theorem cByteW {W : World} {base cp ca : Nat} {P va : Value} {xs : List Int} {x : ByteArray} (hG : Gl W) (hs : x.size < 4294967281) (hn : numB x 0 255 = true) (hp : Cells W cp 79 #[P]) (ha : Cells W ca 24 #[va])
    (ho : W.ownsRow base 5 1 va xs.length (xs.map (Value.int .u8))) (hca : ca < base) (hbase : base ≤ W.heap.size) (hlen : xs.length ≤ 1000000000) :
    Calls Tryz.prog 101 #[.string x, .pointer (some ⟨cp, 0, none⟩), .pointer (some ⟨ca, 0, none⟩)] W fun e W' => e = .returned (.tuple #[]) ∧ ∃ va', Cells W' ca 24 #[va'] ∧ W'.ownsRow base 5 1 va' (xs ++ [numV x]).length ((xs ++ [numV x]).map (Value.int .u8)) ∧ KeptBut (fun b => b = ca ∨ va.ownBlock = some b) W W' := by
  obtain ⟨i0, hi0, hz0, hz1, hz2⟩ := info_parts info_u8
  obtain ⟨n1, n2⟩ := numB_bounds hn
  have HN := Lib.hid (cNum (lo := 0) (hi := 255) hG hs)
  rw [hn] at HN
  obtain ⟨n, hnv⟩ : ∃ n, n = numV x := ⟨_, rfl⟩
  rw [← hnv] at HN n1 n2 ⊢
  have hwr : IntKind.u8.wrap n = n := by rw [IntKind.wrap_u8]; omega
  have HP := Lib.hid hp
  have HA := Lib.hid ha
  have HO := Lib.hid ho
  clear hnv hn hp ha ho hG
  obtain ⟨Aa, c, rfl⟩ := own_slice HO.out
  go_enter Tryz.func101, Tryz.ntmps101
  go_wp2_with fail
  refine HN.out.mono ?_
  rintro e W1 ⟨rfl, hb⟩
  have q0 := ((HP.out.below hb HP.out.lt).cell 0).trans (show _ = some P from rfl)
  have HA1 := Lib.hid (HA.out.below hb HA.out.lt)
  have HO1 := Lib.hid (own_new HO.out hb)
  have HB := Lib.hid hb
  clear hb HN HP HA HO
  go_wp2_with fail
  refine (cMust _ _ _).mono ?_
  rintro e w' ⟨rfl, rfl⟩
  have q1 := (HA1.out.cell 0).trans (show _ = some (Value.slice Aa xs.length c) from rfl)
  have hsz1 : base ≤ W1.heap.size := by have := HB.out.size; omega
  have HAA := Lib.hid (HA1.out.alloc (.cells #[.int .u8 n] 5))
  go_wp2_with (first
    | (at_builtin
       refine wpList_append_lies _ rfl _ _ 24 rfl base 5 i0 (.int .u8 0) 1 1 Tryz.underlying24 hi0 hz0 hz1 hz2 rfl (by decide) (.slice Aa xs.length c) _ _ rfl (HO1.out.alloc _) ⟨W1.heap.size, 0, none⟩ 1 1 [.int .u8 n] rfl rfl (cell_one_new _ _ _) (by simp [Value.oneCell']) (by decide) (by simp only [maxLen]; omega) (by omega) (by simp; omega) _ rfl ?_
       intro g' cap' w1 hown hgrow hat hlt
       have kg := (KeptBut.of_below (fun b => (Value.slice Aa xs.length c).ownBlock = some b) ((Below.refl _ W1).alloc (Nat.le_refl _) (.cells #[.int .u8 n] 5))).trans (KeptBut.of_grown hgrow (fun k e => e))
       have hna : ∀ k, (Value.slice Aa xs.length c).ownBlock = some k → k ≠ ca := fun k e => by have := (HO1.out.lt k e).1; omega
       have c1 := kg.cells HA1.out (fun e => hna _ e rfl)
       have q1 := c1.cell 0
       have f1 := c1.frozen 0
       simp at q1
       have hga : g' ≠ ca := by have := HA1.out.lt; rcases hat with e | e
                                · exact hna _ e
                                · rw [World.size_alloc] at e; omega
       have HF := Lib.hid (And.intro (And.intro c1 kg) (And.intro hown hga))
       clear c1 hown hgrow hat hlt kg hna hga))
  go_end0
  obtain ⟨⟨c1, kg⟩, hown, hga⟩ := HF.out
  refine ⟨rfl, _, c1.set 0 _, ?_, ((KeptBut.of_below _ HB.out).trans (kg.mono fun k _ e => .inr e)).trans (KeptBut.set (S := fun b => b = ca ∨ (Value.slice Aa xs.length c).ownBlock = some b) (.inl rfl) 0 _)⟩
  rw [List.length_append, List.map_append]
  exact own_set hown (fun k e => by simp [Value.ownBlock] at e; omega) _ _
/-- A line of bytes, on the way. -/
structure JB (W : World) (P : Value) (xs : List Int) (W' : World) : Prop where
  low : Below W.heap.size W W'
  cp : Cells W' W.heap.size 79 #[P]
  ca : ∃ va, Cells W' (W.heap.size + 1) 24 #[va] ∧ W'.ownsRow (W.heap.size + 4) 5 1 va xs.length (xs.map (Value.int .u8))
theorem rd_row {W : World} {base : Nat} {e : TypeId} {v : Value} {k : IntKind} {l : List Int} (h : W.ownsRow base e 1 v l.length (l.map (Value.int k))) (hp : 0 < l.length) : ∃ g cap, v = .slice (some ⟨g, 0, none⟩) l.length cap ∧ Rd W W.heap.size k (some ⟨g, 0, none⟩) l := by
  rcases h.2 with ⟨_, h0⟩ | ⟨g, cap, cur, hv, _⟩
  · omega
  · subst hv; exact ⟨g, cap, rfl, Rd.of_own h⟩
section
variable {W : World} {R pb : Nat} {vb vn vh : Value} {line : Int} {bs : List Int} {ns : List (ByteArray × Int)} {hs : List HoleV} {s : ByteArray}
set_option maxRecDepth 100000 in
set_option maxHeartbeats 1000000 in
theorem cKind2 (hG : Gl W) (h : PS W R pb vb vn vh line bs ns hs) (hs' : s.size < 4294967281) (hok : ∀ x ∈ wordsL s, x.size < 4294967281 ∧ numB x 0 255 = true) (hlen : bs.length + (wordsL s).length ≤ 2048) (hR : R ≤ W.heap.size) :
    Calls Tryz.prog 100 #[.pointer (some ⟨pb, 0, none⟩), .string s] W fun e W' => e = .returned (.tuple #[]) ∧ ∃ vb', PS W' R pb vb' vn vh line (bs ++ (wordsL s).map numV) ns hs ∧ KeptBut (fun k => k = pb ∨ vb.ownBlock = some k) W W' ∧ ∀ k, vb'.ownBlock = some k → vb.ownBlock = some k ∨ W.heap.size ≤ k := by
  obtain ⟨k0, k1, hb2, s2⟩ := cells2 W #[.pointer (some ⟨pb, 0, none⟩)] #[.slice none 0 0] 79 24
  have hpos : 0 < (wordsL s).length := by have := wordsL_len s; omega
  have HP := Lib.hid h
  have hG0 := hG
  have HS := Lib.hid ((cSome (w := (W.alloc (.cells #[.pointer (some ⟨pb, 0, none⟩)] 79)).alloc (.cells #[.slice none 0 0] 24)) (s := s) (p := .pointer (some ⟨pb, 0, none⟩)) (gf := 101) (lb := #[.pointer (some ⟨W.heap.size, 0, none⟩), .pointer (some ⟨W.heap.size + 1, 0, none⟩)])
    (hG.b hb2) hs' (enters_of Tryz.func101 (by kernel_rfl) rfl) (fun k W' => JB W (.pointer (some ⟨pb, 0, none⟩)) ((wordsL s).take k |>.map numV) W')
    (fun W' hb => ⟨hb2.trans (hb.mono hb2.size), k0.below hb k0.lt, _, k1.below hb k1.lt, World.ownsRow_nil _ _ _ _⟩)
    (fun k W1 W2 hj hk => by
      obtain ⟨h1, h2, va, h3, h4⟩ := hj
      rw [s2] at hk
      exact ⟨h1.trans (hk.below (n := W.heap.size) (fun q e => by omega) h1.size), hk.cells h2 (by omega), va, hk.cells h3 (by omega), hk.row h4 fun q e => by have := (h4.lt q e).1; omega⟩)
    (fun k x W1 hj hx hsz => by
      obtain ⟨h1, h2, va, h3, h4⟩ := hj
      obtain ⟨x1, x2⟩ := hok x (List.mem_of_getElem? hx)
      rw [s2] at hsz ⊢
      have hkl := (List.getElem?_eq_some_iff.1 hx).1
      refine (cByteW (cp := W.heap.size) (ca := W.heap.size + 1) (hG0.below h1 hG0.sz (Nat.le_refl _)) x1 x2 h2 h3 h4 (by omega) (by omega) (by simp; omega)).mono ?_
      rintro e W2 ⟨rfl, va', c1, o1, kb⟩
      refine ⟨rfl, ⟨h1.trans (kb.below (n := W.heap.size) (fun q e => e.elim (fun e => by omega) (fun e => by have := (h4.lt q e).1; omega)) h1.size), kb.cells h2 (fun e => e.elim (fun e => by omega) (fun e => by have := (h4.lt _ e).1; omega)), va', c1, ?_⟩, kb.mono fun q _ e => ?_⟩
      · have e1 : (wordsL s).take (k + 1) = (wordsL s).take k ++ [x] := by rw [List.take_add_one, hx]; rfl
        rw [e1, List.map_append]
        exact o1
      · rcases e with e | e
        · omega
        · have := (h4.lt q e).1; omega)))
  have HG := Lib.hid hG
  clear k0 k1 hok hG hG0 h
  go_enter Tryz.func100, Tryz.ntmps100
  go_wp2_with fail
  generalize World.alloc _ _ = W2 at *
  refine HS.out.mono ?_
  rintro e W3 ⟨rfl, hlow, hcp, va, hca, hrow⟩
  rw [List.take_length] at hrow
  have hxl : ((wordsL s).map numV).length = (wordsL s).length := by simp
  obtain ⟨xs, hxs⟩ : ∃ xs, xs = (wordsL s).map numV := ⟨_, rfl⟩
  rw [← hxs] at hrow hxl
  have HXS := Lib.hid hxs
  clear hxs
  obtain ⟨g, cap, rfl, hrd⟩ := rd_row hrow (by omega)
  have HPut := Lib.hid (cPut (c := cap) (HP.out.below hlow) hrd (by omega) (by omega) (Nat.le_trans hR hlow.size))
  have q0 := (hcp.cell 0).trans (show _ = some (Value.pointer (some ⟨pb, 0, none⟩)) from rfl)
  have q1 := (hca.cell 0).trans (show _ = some (Value.slice (some ⟨g, 0, none⟩) xs.length cap) from rfl)
  have HL := Lib.hid hlow
  clear hlow hcp hca hrow hrd HS hb2 s2 hxl
  go_wp2_with fail
  refine HPut.out.mono ?_
  rintro e W4 ⟨rfl, vb', ps, kb, ho⟩
  have HF := Lib.hid (And.intro ps (And.intro kb ho))
  clear ps kb ho
  go_wp2
  go_end0
  obtain ⟨ps, kb, ho⟩ := HF.out
  exact ⟨rfl, vb', by rw [← HXS.out]; exact ps, (KeptBut.of_below _ HL.out).trans kb, fun k e => (ho k e).imp id (fun h => Nat.le_trans HL.out.size h)⟩
end
end Go.Proofs.YtbfmlmnhdogojaaGreatDoor
namespace Go.Proofs.YtbfmlmnhdogojaaGreatDoor
open Go.ChangeShapes Go.WideShapes Go.ChangeAt Go.RowKit Go.Shelf

theorem name_inj {op op' : Int} (h : 1 ≤ op ∧ op ≤ 28) (h' : 1 ≤ op' ∧ op' ≤ 28) (e : (nameL op).data.toList = (nameL op').data.toList) : op = op' := by
  have key : ∀ i : Fin 28, ∀ j : Fin 28, (nameL ((i.val : Int) + 1)).data.toList = (nameL ((j.val : Int) + 1)).data.toList → i = j := by decide +kernel
  have := key ⟨(op - 1).toNat, by omega⟩ ⟨(op' - 1).toNat, by omega⟩ (by
    rw [show (((⟨(op - 1).toNat, by omega⟩ : Fin 28).val : Int) + 1) = op by simp; omega, show (((⟨(op' - 1).toNat, by omega⟩ : Fin 28).val : Int) + 1) = op' by simp; omega]; exact e)
  have := congrArg Fin.val this
  simp at this
  omega
theorem index_row0 (w : World) : (Instr.index 108 (.agg rowsA) (.int .i64 0)).run Tryz.prog w = .ok (.agg #[.string ⟨#[]⟩, .int .i64 0]) w := by kernel_rfl
/-- No Op below k has that name. -/
def NoneB (s : ByteArray) (k : Nat) : Prop := ∀ j : Nat, 1 ≤ j → j < k → ¬ (nameL j).toList = s.toList
theorem nameL_0 : nameL 0 = ⟨#[]⟩ := rfl
set_option maxHeartbeats 1000000 in
theorem cNumber (s : ByteArray) (w : World) : Calls Tryz.prog 25 #[.string s] w fun e w' => Below w.heap.size w w' ∧
    ((∃ k : Nat, 1 ≤ k ∧ k ≤ 28 ∧ (nameL k).toList = s.toList ∧ e = .returned (.tuple #[.int .i64 k, .bool true])) ∨ (NoneB s 29 ∧ e = .returned (.tuple #[.int .i64 0, .bool false]))) := by
  go_enter Tryz.func25, Tryz.ntmps25
  go_wp2_with fail
  go_step3
  go_wp2_with fail
  go_step3
  go_wp2_with fail
  refine (cRows w).mono ?_
  rintro e W1 ⟨rfl, hb1⟩
  go_wp2_with fail
  go_loopw [4, 8] (fun v i wr => ∃ k : Nat, k ≤ 29 ∧ v = .int .i64 0 ∧ i = .int .i64 k ∧ NoneB s k ∧ Below w.heap.size w wr) (fun _ i _ => 29 - (intOf i).toNat)
  case atStart => exact ⟨0, by omega, rfl, rfl, fun j h1 h2 => by omega, hb1⟩
  case round =>
    obtain ⟨k, hk, rfl, rfl, hnone, hb⟩ := hrel
    have HN := Lib.hid hnone
    clear hnone
    by_cases hlt : k < 29
    · obtain ⟨nm, us, hrow, hnm⟩ : ∃ nm us, (∀ W, (Instr.index 108 (.agg rowsA) (.int .i64 k)).run Tryz.prog W = .ok (.agg #[.string nm, .int .i64 us]) W) ∧ nm = nameL k := by
        by_cases h0 : k = 0
        · subst h0; exact ⟨_, _, index_row0, rfl⟩
        · exact ⟨_, _, fun W => index_rows (op := (k : Int)) (by omega) W, rfl⟩
      have HM := Lib.hid hnm
      clear hnm
      by_cases h0 : k = 0
      · subst h0
        go_wp2_with (first
          | ((with_reducible refine wpList_run rfl 11 rfl (.agg #[.string ⟨#[]⟩, .int .i64 0]) ?_ ?_); (focus kernel_rfl); simp only [Act.put, List.setIfInBounds_toArray, List.set_cons_zero, List.set_cons_succ]))
        go_roundw
        case rel => exact ⟨1, by omega, rfl, by go_num, fun j h1 h2 => by omega, hb.alloc hb.size _⟩
        case measure => simp [intOf]
      · have h1 : 0 < k := by omega
        cases he : (nm.toList == s.toList)
        · go_wp2_with fail
          go_roundw
          case rel =>
            refine ⟨k + 1, by omega, rfl, by go_num, fun j h1 h2 => ?_, hb.alloc hb.size _⟩
            by_cases hj : j = k
            · subst hj; rw [← HM.out]; exact beq_eq_false_iff_ne.1 he
            · exact HN.out j h1 (by omega)
          case measure => simp [intOf]; omega
        · go_wp2_with fail
          have hk0 : ((k : Int) != 0) = true := by rw [bne_iff_ne]; omega
          go_wp2
          rw [Exit.noGoto_ret]
          go_ret2
          refine ⟨hb.alloc hb.size _, .inl ⟨k, h1, by omega, ?_, (show Ending.returned (.tuple #[.int .i64 k, .bool ((k : Int) != 0)]) = _ from by rw [hk0])⟩⟩
          rw [← HM.out]; exact beq_iff_eq.1 he
    · obtain rfl : k = 29 := by omega
      go_wp2_with fail
      rw [Exit.noGoto_ret]
      go_ret2
      exact ⟨hb, .inr ⟨HN.out, rfl⟩⟩
theorem name_of_toList {x y : Int} (h : 1 ≤ x ∧ x ≤ 28) (h' : 1 ≤ y ∧ y ≤ 28) (e : (nameL x).toList = (nameL y).toList) : x = y := by
  rw [ByteArray.toList_eq, ByteArray.toList_eq] at e
  exact name_inj h h' e
theorem cNumber_in {op : Int} (h : 1 ≤ op ∧ op ≤ 28) (w : World) : Calls Tryz.prog 25 #[.string (nameL op)] w fun e w' => e = .returned (.tuple #[.int .i64 op, .bool true]) ∧ Below w.heap.size w w' := by
  refine (cNumber _ w).mono ?_
  rintro e w' ⟨hb, ⟨k, h1, h2, he, rfl⟩ | ⟨hn, _⟩⟩
  · obtain rfl := name_of_toList (x := (k : Int)) ⟨by omega, by omega⟩ h he
    exact ⟨rfl, hb⟩
  · exact absurd (by rw [show ((op.toNat : Nat) : Int) = op by omega]) (hn op.toNat (by omega) (by omega))
theorem cNumber_none {s : ByteArray} (h : NoneB s 29) (w : World) : Calls Tryz.prog 25 #[.string s] w fun e w' => e = .returned (.tuple #[.int .i64 0, .bool false]) ∧ Below w.heap.size w w' := by
  refine (cNumber _ w).mono ?_
  rintro e w' ⟨hb, ⟨k, h1, h2, he, rfl⟩ | ⟨hn, rfl⟩⟩
  · exact absurd he (h k h1 (by omega))
  · exact ⟨rfl, hb⟩
theorem none_empty : NoneB ⟨#[]⟩ 29 := by
  intro j h1 h2 e
  have := name_ne (op := (j : Int)) ⟨by omega, by omega⟩
  rw [e] at this
  exact absurd this (by decide +kernel)
theorem cNumber_yes {s : ByteArray} {op : Int} (h : 1 ≤ op ∧ op ≤ 28) (e : (nameL op).toList = s.toList) (w : World) : Calls Tryz.prog 25 #[.string s] w fun e w' => e = .returned (.tuple #[.int .i64 op, .bool true]) ∧ Below w.heap.size w w' := by
  rw [ByteArray.toList_eq, ByteArray.toList_eq] at e
  rw [← show nameL op = s from ByteArray.ext (Array.ext' e)]
  exact cNumber_in h w
end Go.Proofs.YtbfmlmnhdogojaaGreatDoor
namespace Go.Proofs.YtbfmlmnhdogojaaGreatDoor
open Go.RowKit Go.Shelf

/-- A register's number; -1: it is none. -/
def regL (s : ByteArray) : Int := match s.data.toList with
  | [a, b] => if a.toNat = 114 ∧ 48 ≤ b.toNat ∧ b.toNat ≤ 55 then (b.toNat : Int) - 48 else -1
  | _ => -1
theorem size_list (s : ByteArray) : s.data.toList.length = s.size := rfl
theorem str2 {s : ByteArray} (h : s.size = 2) : ∃ a b, s = ⟨#[a, b]⟩ := by
  have hl : s.data.toList.length = 2 := by rw [size_list]; exact h
  match hs : s.data.toList, hl with
  | [a, b], _ => exact ⟨a, b, ByteArray.ext (Array.ext' (by rw [hs]))⟩
theorem regL_ne {s : ByteArray} (h : s.size ≠ 2) : regL s = -1 := by
  have hl : s.data.toList.length ≠ 2 := by rw [size_list]; exact h
  unfold regL
  match hs : s.data.toList, hl with
  | [a, b], hl => simp at hl
  | [], _ => rfl
  | [a], _ => rfl
  | a :: b :: c :: l, _ => rfl
theorem regL2 (a b : UInt8) : regL ⟨#[a, b]⟩ = if a.toNat = 114 ∧ 48 ≤ b.toNat ∧ b.toNat ≤ 55 then (b.toNat : Int) - 48 else -1 := rfl
theorem cRegister (s : ByteArray) (w : World) : Calls Tryz.prog 23 #[.string s] w fun e w' => e = .returned (.int .i64 (regL s)) ∧ w = w' := by
  by_cases h : s.size = 2
  · obtain ⟨a, b, rfl⟩ := str2 h
    clear h
    have e0 : (⟨#[a, b]⟩ : ByteArray)[0]'(show 0 < 2 by omega) = a := rfl
    have e1 : (⟨#[a, b]⟩ : ByteArray)[1]'(show 1 < 2 by omega) = b := rfl
    go_enter Tryz.func23, Tryz.ntmps23
    go_wp2
    all_goals
      go_ret
      refine ⟨?_, rfl⟩
      rw [regL2]
      first
        | (rw [if_pos (by omega)]; simp)
        | (rw [if_neg (by omega)]; simp)
  · rw [regL_ne h]
    go_enter Tryz.func23, Tryz.ntmps23
    go_wp2
    go_ret
    exact ⟨rfl, rfl⟩
theorem rReg (s : ByteArray) (w : World) : Calls Tryz.prog 28 #[.string s] w fun e w' => e = .returned (.int .i64 (regL s)) ∧ w = w' := by
  by_cases h : s.size = 2
  · obtain ⟨a, b, rfl⟩ := str2 h
    clear h
    have e0 : (⟨#[a, b]⟩ : ByteArray)[0]'(show 0 < 2 by omega) = a := rfl
    have e1 : (⟨#[a, b]⟩ : ByteArray)[1]'(show 1 < 2 by omega) = b := rfl
    go_enter Tryz.func28, Tryz.ntmps28
    go_wp2
    all_goals
      go_ret
      refine ⟨?_, rfl⟩
      rw [regL2]
      first
        | (rw [if_pos (by omega)]; simp)
        | (rw [if_neg (by omega)]; simp)
  · rw [regL_ne h]
    go_enter Tryz.func28, Tryz.ntmps28
    go_wp2
    go_ret
    exact ⟨rfl, rfl⟩
/-- Is a byte a letter, a digit? -/
def isLet (n : Int) : Bool := decide (97 ≤ n) && decide (n ≤ 122)
def isDig (n : Int) : Bool := decide (48 ≤ n) && decide (n ≤ 57)
theorem rLetter (n : Int) (w : World) : Calls Tryz.prog 26 #[.int .u8 n] w fun e w' => e = .returned (.bool (isLet n)) ∧ w = w' := by
  by_cases h : 97 ≤ n <;> by_cases h2 : n ≤ 122
  all_goals
    go_enter Tryz.func26, Tryz.ntmps26
    go_wp2
    go_ret
    exact ⟨by simp [isLet, h, h2], rfl⟩
theorem rDigit (n : Int) (w : World) : Calls Tryz.prog 29 #[.int .u8 n] w fun e w' => e = .returned (.bool (isDig n)) ∧ w = w' := by
  by_cases h : 48 ≤ n <;> by_cases h2 : n ≤ 57
  all_goals
    go_enter Tryz.func29, Tryz.ntmps29
    go_wp2
    go_ret
    exact ⟨by simp [isDig, h, h2], rfl⟩
/-- What may not stand in a name. -/
def oddL (n : Int) : Bool := !isLet n && !isDig n
theorem cOdd (n : Int) (w : World) : Calls Tryz.prog 21 #[.int .i32 n] w fun e w' => e = .returned (.bool (oddL n)) ∧ w = w' := by
  by_cases h : n < 97 <;> by_cases h2 : 122 < n <;> by_cases h3 : n < 48 <;> by_cases h4 : 57 < n
  all_goals
    first
      | (exfalso; omega)
      | (go_enter Tryz.func21, Tryz.ntmps21
         go_wp2
         go_ret
         refine ⟨?_, rfl⟩
         simp [oddL, isLet, isDig]
         omega)
end Go.Proofs.YtbfmlmnhdogojaaGreatDoor
