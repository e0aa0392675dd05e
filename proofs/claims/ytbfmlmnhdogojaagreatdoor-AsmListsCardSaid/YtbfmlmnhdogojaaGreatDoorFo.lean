/- A name that stands twice: contract. -/
import Derived.Test.YtbfmlmnhdogojaaGreatDoorFl
import Derived.Test.YtbfmlmnhdogojaaGreatDoorGc
import Derived.Test.YtbfmlmnhdogojaaGreatDoorGd
import Derived.Test.YtbfmlmnhdogojaaGreatDoorBase
import Derived.StillTailTactics
import Derived.RangeFuncLeaves
import Derived.RecoverIn
namespace Go.Proofs.YtbfmlmnhdogojaaGreatDoor
open Go.RowKit Go.Shelf

section
variable {W : World} {R pb : Nat} {vb vn vh : Value} {line : Int} {bs : List Int} {ns : List (ByteArray × Int)} {hs : List HoleV} {s : ByteArray}
set_option maxRecDepth 100000 in
set_option maxHeartbeats 1000000 in
theorem cDoTwice (h : PS W R pb vb vn vh line bs ns hs) (h0 : 0 < s.size) (hl : s.size < 4294967281) (hne0 : s[0]'h0 ≠ 35) (hc : cutC s = true) (hm : nameB (cutN s) = true) (hat : 0 ≤ atL (cutN s) ns 0) (hnl : ns.length ≤ 100000) (hR : R ≤ W.heap.size) :
    Calls Tryz.prog 41 #[.pointer (some ⟨pb, 0, none⟩), .string s] W fun e W' => e = .panicked (failC line 281) ∧ Below W.heap.size W W' := by
  have hne := ne_nil h0
  have hh : ((s[0]'h0).toNat : Int) ≠ 35 := fun e => hne0 (UInt8.toNat_inj.1 (by show _ = 35; omega))
  have HC := Lib.hid (cCutS (W := W) hl)
  rw [hc] at HC
  have HP := Lib.hid h
  have HR := Lib.hid hR
  have HAT := Lib.hid hat
  clear h hR hc hat hl hne0
  go_enter Tryz.func41, Tryz.ntmps41
  go_wp2_with fail
  refine HC.out.mono ?_
  rintro e w' ⟨rfl, rfl⟩
  have hsz : w'.heap.size < (w'.alloc (.cells #[.string (cutN s)] 9)).heap.size := by rw [World.size_alloc]; omega
  have HW0 := Lib.hid ((Below.refl _ w').alloc (Nat.le_refl _) (.cells #[.string (cutN s)] 9))
  have HN0 := Lib.hid (Cells.new w' 9 #[.string (cutN s)])
  generalize hmm : cutN s = m at *
  have HMM := Lib.hid hmm
  clear hmm
  have q0 := HN0.out.cell 0
  go_wp2_with fail
  generalize World.alloc _ _ = W1 at *
  refine (cNm m _).mono ?_
  rintro e W2 ⟨rfl, hb⟩
  rw [hm]
  have HW2 := Lib.hid (HW0.out.trans (hb.mono HW0.out.size))
  have HN2 := Lib.hid (HN0.out.below hb HN0.out.lt)
  have HP2 := Lib.hid (HP.out.below HW2.out)
  clear hb HW0 HN0 q0 hsz
  obtain ⟨An, cn, rfl⟩ := own_slice HP2.out.n
  obtain ⟨Ab, cb, rfl⟩ := own_slice HP2.out.b
  have q1 := (HP2.out.c.cell 2).trans (show _ = some (Value.slice An ns.length cn) from rfl)
  go_wp2_with fail
  refine (cHasN (c := cn) (enters_of Tryz.func68 (by kernel_rfl) rfl) (cAsk1 HN2.out) (rdn_row HP2.out.n) (by omega)).mono ?_
  rintro e W3 ⟨rfl, hb⟩
  rw [decide_eq_true HAT.out]
  have HW3 := Lib.hid (HW2.out.trans (hb.mono HW2.out.size))
  have HN3 := Lib.hid (HN2.out.below hb HN2.out.lt)
  have HP3 := Lib.hid (HP2.out.below hb)
  clear hb HN2 HP2 q1 HW2 HAT
  go_wp2_with fail
  refine (cMustNo HP3.out.c 281).mono ?_
  rintro e w' ⟨rfl, rfl⟩
  exact ⟨rfl, rfl, HW3.out⟩
end
end Go.Proofs.YtbfmlmnhdogojaaGreatDoor
namespace Go.Proofs.YtbfmlmnhdogojaaGreatDoor
open Go.RowKit Go.Shelf

theorem kindB_cases {x : ByteArray} (h : kindB x = true) : x = ⟨#[97, 116]⟩ ∨ x = ⟨#[119, 111, 114, 100]⟩ ∨ x = ⟨#[98, 121, 116, 101]⟩ ∨ x = ⟨#[116, 101, 120, 116]⟩ := by
  unfold kindB kindsL at h
  have key : ∀ y : ByteArray, (y.toList == x.toList) = true → x = y := fun y e => by
    have e := beq_iff_eq.1 e
    rw [ByteArray.toList_eq, ByteArray.toList_eq] at e
    exact ByteArray.ext (Array.ext' e.symm)
  simp only [List.any_cons, List.any_nil, Bool.or_false, Bool.or_eq_true] at h
  rcases h with h | h | h | h
  · exact .inl (key _ h)
  · exact .inr (.inl (key _ h))
  · exact .inr (.inr (.inl (key _ h)))
  · exact .inr (.inr (.inr (key _ h)))
theorem head_none {s : ByteArray} (h : s.data.toList.head? = none) : s = ⟨#[]⟩ := by
  have : s.data.toList = [] := by cases e : s.data.toList with | nil => rfl | cons a l => rw [e] at h; simp at h
  exact ByteArray.ext (Array.ext' this)
theorem head_some {s : ByteArray} {x : UInt8} (h : s.data.toList.head? = some x) : ∃ h0 : 0 < s.size, s[0]'h0 = x := by
  cases e : s.data.toList with
  | nil => rw [e] at h; simp at h
  | cons a l =>
    rw [e] at h
    simp at h
    subst h
    have h0 : 0 < s.size := by rw [← size_list, e]; simp
    refine ⟨h0, ?_⟩
    show s.data[0]'h0 = a
    have : s.data.toList[0]? = some a := by rw [e]; rfl
    rw [Array.getElem?_toList] at this
    rw [Array.getElem?_eq_getElem h0] at this
    exact Option.some.inj this
theorem atL_lt {name : ByteArray} : ∀ (ns : List (ByteArray × Int)) (i : Nat), atL name ns i = -1 ∨ (i ≤ atL name ns i ∧ atL name ns i < i + ns.length)
  | [], _ => .inl rfl
  | p :: r, i => by
    unfold atL
    split
    · right; simp; omega
    · rcases atL_lt r (i + 1) with h | h
      · exact .inl h
      · right; simp; omega
theorem cutN_pos {s : ByteArray} (h : nameB (cutN s) = true) : 0 < s.size := by
  rcases Nat.eq_zero_or_pos s.size with e | e
  · have e0 : s = ⟨#[]⟩ := ByteArray.ext (Array.eq_empty_of_size_eq_zero e)
    subst e0
    exact absurd h (by decide +kernel)
  · exact e
section
variable {W : World} {R pb : Nat} {vb vn vh : Value} {line : Int} {s : ByteArray} {t : StV}
theorem cDo (hG : Gl W) (h : PSI W R pb vb vn vh line t) (hs' : s.size < 1500000) (hbl : t.bs.length ≤ 2048) (hhl : t.hs.length ≤ 100000) (hnl : t.ns.length ≤ 100000) (hR : R ≤ W.heap.size) :
    Calls Tryz.prog 41 #[.pointer (some ⟨pb, 0, none⟩), .string s] W fun e W' => OutI W W' R pb vb vn vh line e (doV line t s) := by
  have h0 := h
  obtain ⟨hv, hP, hH⟩ := h
  unfold doV
  by_cases hh : s.data.toList.head? = none ∨ s.data.toList.head? = some 35
  · rw [if_pos hh]
    rcases hh with hh | hh
    · exact (cDo0 hP (head_none hh)).mono fun e W' he => ⟨he.1, StI.of0 hH he.2 rfl⟩
    · obtain ⟨hp, e⟩ := head_some hh
      exact (cDoC hP hp e).mono fun e W' he => ⟨he.1, StI.of0 hH he.2 rfl⟩
  · rw [if_neg hh]
    have hpos : 0 < s.size := by
      rcases Nat.eq_zero_or_pos s.size with e | e
      · exact absurd (.inl (by rw [show s = ⟨#[]⟩ from ByteArray.ext (Array.eq_empty_of_size_eq_zero e)]; rfl)) hh
      · exact e
    have hne : s[0]'hpos ≠ 35 := fun e => hh (.inr (by
      rw [List.head?_eq_getElem?, Array.getElem?_toList, Array.getElem?_eq_getElem hpos]
      exact congrArg some e))
    cases hcn : cutC s && nameB (cutN s) with
    | true =>
      rw [if_pos rfl]
      obtain ⟨hc, hn⟩ := Bool.and_eq_true_iff.1 hcn
      by_cases hat : 0 ≤ atL (cutN s) t.ns 0
      · rw [if_pos hat]
        exact (cDoTwice hP hpos (by omega) hne hc hn hat hnl hR).mono fun e W' he => OutI.low he
      · rw [if_neg hat]
        have hat1 : atL (cutN s) t.ns 0 = -1 := by rcases atL_lt (name := cutN s) t.ns 0 with h | h <;> omega
        exact (cDoN hP hpos (by omega) hne hc hn hat1 hnl hR).mono fun e W' he => ⟨he.1, StI.of0 hH he.2 rfl⟩
    | false =>
      rw [if_neg (by simp)]
      have hp : Plain s := ⟨hpos, by omega, hne, fun hc => by rw [hc] at hcn; simpa using hcn⟩
      have hcut := cut_eq s
      have hrs := restW_size s
      cases hk : kindB (firstW s) with
      | false =>
        rw [if_neg (by simp)]
        exact cDoIX hG hp hcut (find_other hk) (fun W4 hb => cInstA (hG.b hb) (h0.below hb) (by omega) hbl hhl (Nat.le_trans hR hb.size))
      | true =>
        rw [if_pos rfl]
        have hkc := kindB_cases hk
        cases hm : moreW s with
        | false =>
          rw [if_pos rfl]
          rw [hm] at hcut
          rcases hkc with e | e | e | e
          · exact (cDoNoMore (i := 0) (f := 94) hG hP hp hcut (by rw [e]; kernel_rfl)).mono fun e W' he => OutI.low he
          · exact (cDoNoMore (i := 1) (f := 95) hG hP hp hcut (by rw [e]; kernel_rfl)).mono fun e W' he => OutI.low he
          · exact (cDoNoMore (i := 2) (f := 100) hG hP hp hcut (by rw [e]; kernel_rfl)).mono fun e W' he => OutI.low he
          · exact (cDoNoMore (i := 3) (f := 102) hG hP hp hcut (by rw [e]; kernel_rfl)).mono fun e W' he => OutI.low he
        | true =>
          rw [if_neg (by simp)]
          rw [hm] at hcut
          unfold kindV
          rcases hkc with e | e | e | e
          · rw [e] at hcut ⊢
            rw [if_pos rfl]
            exact cDoKX (i := 0) hG hp hcut (by kernel_rfl) (enters_of Tryz.func94 (by kernel_rfl) rfl) (fun W4 hb => cPlaced (hG.b hb) (h0.below hb) (by omega) hbl (Nat.le_trans hR hb.size))
          · rw [e] at hcut ⊢
            rw [if_neg (by decide), if_pos rfl]
            exact cDoKX (i := 1) hG hp hcut (by kernel_rfl) (enters_of Tryz.func95 (by kernel_rfl) rfl) (fun W4 hb => cKindW (hG.b hb) (h0.below hb) (by omega) hbl hhl (Nat.le_trans hR hb.size))
          · rw [e] at hcut ⊢
            rw [if_neg (by decide), if_neg (by decide), if_pos rfl]
            exact cDoKX (i := 2) hG hp hcut (by kernel_rfl) (enters_of Tryz.func100 (by kernel_rfl) rfl) (fun W4 hb => cKindB (hG.b hb) (h0.below hb) (by omega) hbl (Nat.le_trans hR hb.size))
          · rw [e] at hcut ⊢
            rw [if_neg (by decide), if_neg (by decide), if_neg (by decide)]
            exact cDoKX (i := 3) hG hp hcut (by kernel_rfl) (enters_of Tryz.func102 (by kernel_rfl) rfl) (fun W4 hb => cKindT (h0.below hb) (by omega) hbl (Nat.le_trans hR hb.size))
end
end Go.Proofs.YtbfmlmnhdogojaaGreatDoor
namespace Go.Proofs.YtbfmlmnhdogojaaGreatDoor
open Go.RowKit Go.Shelf

/-- What a hole must be. -/
structure HoleOk (n : Nat) (p : HoleP) : Prop where
  room : p.place + 4 ≤ n
  inst : ∀ op a b, p.inst = some (op, a, b) → (1 ≤ op ∧ op ≤ 28) ∧ ∀ i, -32768 ≤ i → i ≤ 32767 → mayL op a b i = true
structure StOk (t : StV) : Prop where
  len : t.bs.length ≤ 2048
  names : ∀ x n, (x, n) ∈ t.ns → 0 ≤ n ∧ n ≤ 2048
  holes : ∀ p ∈ t.hs, HoleOk t.bs.length p
  few : 4 * t.hs.length ≤ t.bs.length
theorem HoleOk.up {n m : Nat} {p : HoleP} (h : HoleOk n p) (hm : n ≤ m) : HoleOk m p := ⟨Nat.le_trans h.room hm, h.inst⟩
theorem atL_get {name : ByteArray} : ∀ (ns : List (ByteArray × Int)) (i : Nat), atL name ns i ≠ -1 → ∃ k : Nat, atL name ns i = i + k ∧ ∃ n, ns[k]? = some (name, n)
  | [], _, h => absurd rfl h
  | p :: r, i, h => by
    unfold atL at h ⊢
    by_cases hp : p.1 = name
    · rw [if_pos hp]
      exact ⟨0, by simp, p.2, by rw [← hp]; rfl⟩
    · rw [if_neg hp] at h ⊢
      obtain ⟨k, h1, n, h2⟩ := atL_get r (i + 1) h
      exact ⟨k + 1, by rw [h1]; omega, n, by simpa using h2⟩
theorem overV_len (bs : List Int) (at_ : Nat) (w : Int) : (overV bs at_ w).length = bs.length := by simp [overV]
section
variable {W : World} {R pb : Nat} {vb vn vh : Value} {line : Int} {bs : List Int} {ns : List (ByteArray × Int)} {hs : List HoleV} {ps : List HoleP}
/-- How a hole's filling ends. -/
def OutF (W W' : World) (R pb : Nat) (vb vn vh : Value) (ns : List (ByteArray × Int)) (hs : List HoleV) (ps : List HoleP) (line : Int) (e : Ending) : Except Int (List Int) → Prop
  | .ok bs' => e = .returned (.tuple #[]) ∧ PS W' R pb vb vn vh line bs' ns hs ∧ HolesAt W' (POwn pb vb vn vh) R hs ps ∧ KeptBut (fun q => q = pb ∨ R ≤ q) W W'
  | .error er => e = .panicked (failC line er) ∧ KeptBut (fun q => q = pb ∨ R ≤ q) W W'
theorem HolesAt.kept {W W' : World} {S S' : Nat → Prop} {R : Nat} (x : HolesAt W S R hs ps) (hk : KeptBut S' W W') (hc : ∀ ib c, S' ib → ¬ S ib → Cells W ib 69 c → ∃ n, Cells W' ib 69 (c.setIfInBounds 3 (.int .i64 n))) : HolesAt W' S R hs ps :=
  ⟨x.1, fun i h p e1 e2 => by
    have y := x.2 i h p e1 e2
    refine ⟨y.line, y.place, y.name, y.none_, fun op a b e => ?_⟩
    obtain ⟨ib, z1, z2, z3, c, z4⟩ := y.some_ op a b e
    by_cases hs : S' ib
    · obtain ⟨n, hn⟩ := hc ib _ hs z3 z4
      exact ⟨ib, z1, z2, z3, n, hn⟩
    · exact ⟨ib, z1, z2, z3, c, hk.cells z4 hs⟩⟩
theorem cFill {hv : HoleV} {hp : HoleP} (h : PS W R pb vb vn vh line bs ns hs) (hH : HolesAt W (POwn pb vb vn vh) R hs ps) (hat : HoleAt W (POwn pb vb vn vh) R hv hp) (hok : HoleOk bs.length hp) (hbl : bs.length ≤ 2048) (hnm : ∀ x n, (x, n) ∈ ns → 0 ≤ n ∧ n ≤ 2048) (hnl : ns.length ≤ 1000000) (hR : R ≤ W.heap.size) :
    Calls Tryz.prog 42 #[.pointer (some ⟨pb, 0, none⟩), .agg hv.cells.toArray] W fun e W' => OutF W W' R pb vb vn vh ns hs ps hp.line e (fillV ns bs hp) := by
  obtain ⟨ln, pl', ins, nm⟩ := hv
  obtain ⟨ln', pl, pin, nm'⟩ := hp
  obtain ⟨e1, e2, e3, e4, e5⟩ := hat
  simp only at e1 e2 e3 e4 e5
  subst e1 e2 e3
  have hroom : pl + 4 ≤ bs.length := hok.room
  have hown : ∀ q, vb.ownBlock = some q → q = pb ∨ R ≤ q := fun q e => .inr (h.b.lt q e).1
  unfold fillV
  simp only
  by_cases hneg : atL nm ns 0 < 0
  · rw [if_pos hneg]
    exact (cFillNo h (by omega) hneg).mono fun e W' he => ⟨he.1, he.2.mono fun q _ e => .inl e⟩
  · rw [if_neg hneg]
    obtain ⟨k, hk, n, hkn⟩ := atL_get (name := nm) ns 0 (by omega)
    have hk' : atL nm ns 0 = k := by rw [hk]; omega
    have hget : (ns.getD (atL nm ns 0).toNat (⟨#[]⟩, 0)).2 = n := by rw [hk', Int.toNat_natCast, List.getD_eq_getElem?_getD, hkn]; rfl
    have hn := hnm nm n (List.mem_of_getElem? hkn)
    rw [hget]
    cases pin with
    | none =>
      obtain rfl := e4 rfl
      refine (cFillW (ip := none) h (by omega) hk' hkn hn rfl hroom hbl hR).mono fun e W' he => ?_
      obtain ⟨h1, h2, h3, -⟩ := he
      refine ⟨h1, h2, hH.kept h3 (fun ib c hs hn _ => ?_), h3.mono fun q _ e => ?_⟩
      · rcases hs with e | e | e
        · exact absurd (.inl e) hn
        · exact absurd (.inr (.inl e)) hn
        · cases e
      · rcases e with e | e | e
        · exact .inl e
        · exact hown q e
        · cases e
    | some v =>
      obtain ⟨op, a, b⟩ := v
      obtain ⟨ib, rfl, hib, hio, c, hi⟩ := e5 op a b rfl
      obtain ⟨hop, hmay⟩ := hok.inst op a b rfl
      simp only
      have fin : ∀ {m x : Int} {e : Ending} {W' : World}, (e = .returned (.tuple #[]) ∧ PS W' R pb vb vn vh ln (overV bs pl x) ns hs ∧ KeptBut (fun q => q = pb ∨ vb.ownBlock = some q ∨ (some ⟨ib, 0, none⟩ : Option Addr) = some ⟨q, 0, none⟩) W W' ∧ Cells W' ib 69 #[.int .i64 op, .int .i64 a, .int .i64 b, .int .i64 m]) → OutF W W' R pb vb vn vh ns hs ps ln e (.ok (overV bs pl x)) := fun {m x e W'} he => by
        obtain ⟨h1, h2, h3, h4⟩ := he
        refine ⟨h1, h2, hH.kept h3 (fun ib' c' hs hn hc => ?_), h3.mono fun q _ e => ?_⟩
        · rcases hs with e | e | e
          · exact absurd (.inl e) hn
          · exact absurd (.inr (.inl e)) hn
          · simp at e
            subst e
            have : c' = #[.int .i64 op, .int .i64 a, .int .i64 b, .int .i64 c] := by
              have := hc.symm.trans hi
              simpa using this
            subst this
            exact ⟨m, h4⟩
        · rcases e with e | e | e
          · exact .inl e
          · exact hown q e
          · simp at e; subst e; exact .inr hib
      by_cases hbr : 17 ≤ op ∧ op ≤ 20
      · rw [if_pos hbr]
        by_cases hq : (n - (pl : Int)) % 4 = 0
        · rw [if_neg (by simpa using hq)]
          exact (cFillB (ip := some ⟨ib, 0, none⟩) h (by omega) hk' hkn hn rfl hroom hbl hR hi hio hbr hq (hmay _ (by omega) (by omega))).mono fun e W' he => fin he
        · rw [if_pos hq]
          exact (cFillFar (ip := some ⟨ib, 0, none⟩) h (by omega) hk' hkn hn rfl hroom hbl hR hi hio hbr hq).mono fun e W' he => ⟨he.1, he.2.mono fun q _ e => .inl e⟩
      · rw [if_neg hbr]
        exact (cFillI (ip := some ⟨ib, 0, none⟩) h (by omega) hk' hkn hn rfl hroom hbl hR hi hio hbr (hmay n (by omega) (by omega))).mono fun e W' he => fin he
end
end Go.Proofs.YtbfmlmnhdogojaaGreatDoor
namespace Go.Proofs.YtbfmlmnhdogojaaGreatDoor
open Go.RowKit Go.Shelf

theorem StOk.nil : StOk ⟨[], [], []⟩ := ⟨by simp, fun x n h => by simp at h, fun p h => by simp at h, by simp⟩
theorem putV_inv {t t' : StV} {xs : List Int} {ps : List HoleP} (h : StOk t) (hp : ∀ p ∈ ps, HoleOk (t.bs.length + xs.length) p) (hf : 4 * ps.length ≤ xs.length) (e : putV t xs ps = .ok t') : StOk t' ∧ t'.ns = t.ns := by
  unfold putV at e
  split at e
  · rename_i hr
    simp at e
    subst e
    refine ⟨⟨by simpa using hr, h.names, fun p hm => ?_, ?_⟩, rfl⟩
    · rcases List.mem_append.1 hm with hm | hm
      · exact (h.holes p hm).up (by simp)
      · have := hp p hm; simpa using this
    · have := h.few; simp; omega
  · simp at e
theorem holesP_len (line : Int) : ∀ (at_ : Nat) (ws : List ByteArray), (holesP line at_ ws).length ≤ ws.length
  | _, [] => Nat.le_refl _
  | at_, x :: ws => by
    have := holesP_len line (at_ + 4) ws
    unfold holesP
    rw [List.length_append, List.length_cons]
    split <;> simp <;> omega
theorem holesP_ok (line : Int) : ∀ (at_ : Nat) (ws : List ByteArray) (p : HoleP), p ∈ holesP line at_ ws → HoleOk (at_ + 4 * ws.length) p
  | _, [], p, h => by simp [holesP] at h
  | at_, x :: ws, p, h => by
    unfold holesP at h
    rcases List.mem_append.1 h with h | h
    · split at h
      · simp at h
        subst h
        exact ⟨by simp; omega, fun op a b e => by simp at e⟩
      · simp at h
    · exact (holesP_ok line (at_ + 4) ws p h).up (by simp; omega)
theorem instV_inv {line : Int} {t t' : StV} {s : ByteArray} (h : StOk t) (e : instV line t s = .ok t') : StOk t' ∧ t'.ns = t.ns := by
  unfold instV at e
  split at e
  · simp at e
  · rename_i op ho
    obtain ⟨hop, -⟩ := opV_some ho
    split at e
    · simp at e
    · split at e
      · exact putV_inv h (fun p hp => by simp at hp) (by simp) e
      · rename_i hu
        have hu3 : usesL op = 3 ∨ usesL op = 5 ∨ usesL op = 7 := (uses4 hop).resolve_left hu
        split at e
        · simp at e
        · rename_i hl
          have hl : (commaL (restW s)).length = (formsL (usesL op)).length := Decidable.of_not_not hl
          split at e
          · simp at e
          · rename_i hreg
            have hreg : regsB (formsL (usesL op)) (commaL (restW s)) = true := by simpa using hreg
            simp only at e
            split at e
            · rename_i hnm
              refine putV_inv h (fun p hp => ?_) (by simp [fourI]) e
              simp at hp
              subst hp
              refine ⟨by simp [fourI], fun op' a b e => ?_⟩
              simp at e
              obtain ⟨rfl, rfl, rfl⟩ := e
              refine ⟨hop, fun i i0 i1 => inst_may hop hu3 hl hreg ?_⟩
              rw [if_neg]
              · exact ⟨i0, i1⟩
              · intro e3
                rcases parts_cases hu3 hl with ⟨_, p, q, e2⟩ | ⟨e2, _⟩ | ⟨e2, _⟩
                · rw [e2, e3, show ([p, q] : List ByteArray).length = 2 from rfl, inst3] at hnm
                  exact absurd hnm (show ¬ nameB ⟨#[]⟩ = true by decide +kernel)
                · omega
                · omega
            · split at e
              · exact putV_inv h (fun p hp => by simp at hp) (by simp) e
              · split at e
                · simp at e
                · exact putV_inv h (fun p hp => by simp at hp) (by simp) e
theorem atV_inv {t t' : StV} {b : ByteArray} (h : StOk t) (e : atV t b = .ok t') : StOk t' ∧ t'.ns = t.ns := by
  unfold atV at e
  split at e
  · simp at e
  · rename_i hn
    have hn : numB b t.bs.length 99999999999 = true := by simpa using hn
    have hb := numB_bounds hn
    split at e
    · rename_i hm
      simp at e
      subst e
      have := h.few
      exact ⟨⟨by simp; omega, h.names, fun p hp => (h.holes p hp).up (by simp), by simp; omega⟩, rfl⟩
    · simp at e
theorem kindV_inv {line : Int} {t t' : StV} {a b : ByteArray} (h : StOk t) (e : kindV line t a b = .ok t') : StOk t' ∧ t'.ns = t.ns := by
  unfold kindV at e
  split at e
  · exact atV_inv h e
  · split at e
    · split at e
      · simp at e
      · have hB := wordsB_len (wordsL b)
        refine putV_inv h (fun p hp => ?_) ?_ e
        · have := holesP_ok _ _ _ _ hp
          rw [hB]; exact this
        · have := holesP_len line t.bs.length (wordsL b)
          omega
    · split at e
      · split at e
        · simp at e
        · exact putV_inv h (fun p hp => by simp at hp) (by simp) e
      · exact putV_inv h (fun p hp => by simp at hp) (by simp) e
theorem doV_inv {line : Int} {t t' : StV} {s : ByteArray} (h : StOk t) (e : doV line t s = .ok t') : StOk t' ∧ t'.ns.length ≤ t.ns.length + 1 := by
  unfold doV at e
  split at e
  · simp at e; subst e; exact ⟨h, by omega⟩
  · split at e
    · split at e
      · simp at e
      · simp at e
        subst e
        refine ⟨⟨h.len, fun x n hm => ?_, h.holes, h.few⟩, by simp⟩
        rcases List.mem_append.1 hm with hm | hm
        · exact h.names x n hm
        · simp at hm
          have := h.len
          obtain ⟨-, rfl⟩ := hm
          omega
    · split at e
      · split at e
        · simp at e
        · obtain ⟨h1, h2⟩ := kindV_inv h e
          exact ⟨h1, by rw [h2]; omega⟩
      · obtain ⟨h1, h2⟩ := instV_inv h e
        exact ⟨h1, by rw [h2]; omega⟩
theorem fillV_inv {ns : List (ByteArray × Int)} {bs bs' : List Int} {h : HoleP} (e : fillV ns bs h = .ok bs') : bs'.length = bs.length := by
  unfold fillV at e
  split at e
  · simp at e
  · simp only at e
    split at e
    · simp at e; rw [← e, overV_len]
    · split at e
      · split at e
        · simp at e
        · simp at e; rw [← e, overV_len]
      · simp at e; rw [← e, overV_len]
end Go.Proofs.YtbfmlmnhdogojaaGreatDoor
namespace Go.Proofs.YtbfmlmnhdogojaaGreatDoor
open Go.RowKit Go.Shelf

/-- A fence that bars nothing: the wide one, or a round of it. -/
def Free (F : Fence) : Prop := F = Fence.wide ∨ ∃ l, F = Fence.wide.inRound l
theorem Free.wide : Free Fence.wide := .inl rfl
theorem Free.round (l : Nat) : Free (Fence.wide.inRound l) := .inr ⟨l, rfl⟩
theorem Free.fn {F : Fence} (h : Free F) (f : FuncId) : F.fn f := by rcases h with rfl | ⟨l, rfl⟩ <;> trivial
theorem Free.depth {F : Fence} (h : Free F) : F.depth = none := by rcases h with rfl | ⟨l, rfl⟩ <;> rfl
theorem Free.calls {F : Fence} (h : Free F) {n : Nat} {P : Program} {f : FuncId} {args : Array Value} {w : World} {R : Ending → World → Prop} (hc : Calls P f args w R) : CallsIn F n P f args w R := by
  rcases h with rfl | ⟨l, rfl⟩
  · exact callsIn_wide.2 hc
  · exact CallsIn.inRound l (callsIn_wide.2 hc)
theorem Free.steps {F : Fence} (h : Free F) {P : Program} {m m' : Machine} (hs : Steps P m m') : StepsIn (Machine.fenced P F) P m m' := by
  rcases h with rfl | ⟨l, rfl⟩
  · exact stepsIn_wide.2 hs
  · rw [fenced_inRound]; exact stepsIn_wide.2 hs
theorem Free.rows {F : Fence} (h : Free F) {n : Nat} {P : Program} {row : String} {args : Array Value} {w : World} {R : Value → World → Prop} (hc : Rows P row args w R) : RowsIn F n P row args w R :=
  fun c cs _ => let ⟨v, w', r, s⟩ := hc c cs; ⟨v, w', r, h.steps s⟩
section
variable {P : Program} {ops : Array Oper} {Q : Exit → Act → World → Prop} {F : Fence} {n : Nat}
theorem wpIn_of_oper {o : Oper} {a : Act} {w : World} {next next' : Act → World → Prop} (hF : Free F) (hd : ∀ c, o.op ≠ .defer c) (hn : ∀ a w, next a w → next' a w) (h : o.wp P a w next Q) : o.wpIn F n P a w next' Q := by
  refine ⟨fun f _ => hF.fn f, ?_⟩
  rw [Oper.semAt_eq _ _ _ hd]
  unfold Oper.wp Oper.upon at h
  unfold Oper.uponIn
  split at h
  all_goals rename_i hr
  · rw [hr]; exact hn _ _ h
  · rw [hr]; exact hn _ _ h
  · rw [hr]; exact hn _ _ h
  · rw [hr]
    refine ⟨(fun h => by rw [hF.depth] at h; cases h), hF.calls (h.mono ?_)⟩
    rintro e w2 he
    cases e with
    | returned v => exact hn _ _ he
    | panicked c => exact he
    | outgrown => exact he
  · rw [hr]
    exact ⟨(fun h => by rw [hF.depth] at h; cases h), hF.rows (h.mono fun v w2 hv => hn _ _ hv)⟩
  · rw [hr]; exact h
  · exact h.elim
theorem wpOpsIn_of_wp (hF : Free F) (hd : ∀ (i : Nat) (o : Oper), ops[i]? = some o → ∀ c, o.op ≠ .defer c) (hq : ¬ LetsOut Q) : ∀ (l : List Nat) (a : Act) (w : World), wpOps P ops Q l a w → wpOpsIn F n P ops Q l a w
  | [], _, _, h => h
  | i :: rest, a, w, h => by
    simp only [wpOps] at h
    simp only [wpOpsIn]
    cases ho : ops[i]? with
    | none => rw [ho] at h; exact wpOpsIn_of_wp hF hd hq rest a w h
    | some o =>
      rw [ho] at h
      by_cases hw : Region.wanted o (yielded ops a.tmps) = true
      · simp only [hw, if_true] at h ⊢
        rcases h with h | h
        · exact wpIn_of_oper hF (hd i o ho) (fun a w h => wpOpsIn_of_wp hF hd hq rest a w h) h
        · exact absurd h.2 hq
      · simp only [hw, if_false, Bool.false_eq_true] at h ⊢
        exact ⟨fun f _ => hF.fn f, wpOpsIn_of_wp hF hd hq rest _ w h⟩
/-- No operation defers. -/
def noDefer (l : List Oper) : Bool := l.all fun o => match o.op with | .defer _ => false | _ => true
theorem noDefer_spec {l : List Oper} (h : noDefer l = true) (i : Nat) (o : Oper) (ho : l.toArray[i]? = some o) : ∀ c, o.op ≠ .defer c := by
  intro c e
  have := List.all_eq_true.1 h o (List.mem_of_getElem? (by simpa using ho))
  rw [e] at this
  cases this
theorem wpIn_region_of_any {id : Nat} {a : Act} {w : World} {l : List Oper} (hF : Free F) (hd : noDefer l = true) (hq : ¬ LetsOut Q) (hm : P.follows .mixedOrders = true)
    (h : wpAny P .any l.toArray Q l.toArray.size (Array.replicate l.toArray.size false) a { w with drawn := w.drawn + 1 }) : (Code.region id l.toArray true).wpIn F n P Q a w :=
  wpIn_region_draw fun t => by
    simp only [Region.schedule, hm, Bool.true_or, if_true]
    exact wpOpsIn_of_wp hF (noDefer_spec hd) hq _ _ _ (wpAny_sound l.toArray.size t _ a _ h)
/-- 'wp_region_still_tail', in such a fence. -/
theorem wpIn_region_still_tail {id : Nat} {a : Act} {w : World} {l : List Oper} (k : Nat) (hF : Free F) (hd : noDefer l = true) (hq : ¬ LetsOut Q) (hm : P.follows .mixedOrders = true) (hB : Region.lexTailB .any l.toArray k = true)
    (h : wpStill P l.toArray { w with drawn := w.drawn + 1 } (fun a' => wpList P l.toArray Q (l.drop k) a' { w with drawn := w.drawn + 1 }) (l.take k) a) : (Code.region id l.toArray true).wpIn F n P Q a w := by
  simp only [Region.lexTailB, Bool.and_eq_true, decide_eq_true_eq] at hB
  obtain ⟨⟨⟨⟨hsel, hn⟩, hs⟩, hc⟩, hlex⟩ := hB
  have hn' : k < l.length := by simpa using hn
  have htl : (l.take k).length = k := by simp; omega
  have hdl : (l.drop k).length = l.toArray.size - k := by simp
  have inv0 : HeadInv .any l.toArray k (Array.replicate l.toArray.size false) :=
    ⟨by simp, fun j oj _ hl => (by rw [getD_replicate_false] at hl; cases hl), fun t _ ht => getD_in (by simpa using ht) (getD_replicate_false _ _)⟩
  have H := wpAnyL_lex (md := .any) (g := l.toArray.size - k) hsel hs hc hn (l.take k) 0 _ a (fun j hj => by
    have hj' : j < k := by rw [htl] at hj; exact hj
    simp [hj']) (by simpa using htl) inv0 (by rw [htl]; exact hlex) h
  refine wpIn_region_of_any hF hd hq hm ?_
  have := wpAny_of_head (Q' := Q) (g := l.toArray.size - k) (fun listed a' hL => by
    have := wpAny_of_seq (md := .any) (Q' := Q) (l.drop k) k listed a' { w with drawn := w.drawn + 1 } (fun j => by simp [List.getElem?_drop]) (by rw [hdl]; exact hL.1) hL.2
    rwa [hdl] at this) _ _ _ H
  rw [htl, show k + (l.toArray.size - k) = l.toArray.size by omega] at this
  exact this
/-- 'wp_region_still_lit', in such a fence. -/
theorem wpIn_region_still {id : Nat} {a : Act} {w : World} {l : List Oper} (hF : Free F) (hd : noDefer l = true) (hq : ¬ LetsOut Q) (hm : P.follows .mixedOrders = true) (hB : Region.lexB .any l.toArray = true)
    (h : wpStill P l.toArray { w with drawn := w.drawn + 1 } (fun a' => Q .normal a' { w with drawn := w.drawn + 1 }) l a) : (Code.region id l.toArray true).wpIn F n P Q a w := by
  simp only [Region.lexB, Bool.and_eq_true] at hB
  refine wpIn_region_of_any hF hd hq hm (wpAny_of_still (Q := fun a' => Q .normal a' { w with drawn := w.drawn + 1 }) (fun _ h => h) _ _ _ ?_)
  have := wpAnyS_lex (md := .any) hB.1 l 0 (Array.replicate l.toArray.size false) a (by simp) (by simpa using hB.2) h
  simpa using this
end
end Go.Proofs.YtbfmlmnhdogojaaGreatDoor
namespace Go.Proofs.YtbfmlmnhdogojaaGreatDoor
open Go.RowKit Go.Shelf

/-- A walk in the frames of one function. -/
def wpF (f : FuncId) (P : Program) (c : Code) (Q : Exit → Act → World → Prop) (a : Act) (w : World) : Prop :=
  ∀ (b : Frame) (k : List Item) (cs : List Frame), b.fn = f → ∃ e a' w', Q e a' w' ∧ Arrives P (lone (b.at a (.code c :: k)) cs w) b k cs e a' w'
section
variable {f : FuncId} {P : Program} {c x y : Code} {Q : Exit → Act → World → Prop} {a : Act} {w : World}
theorem wpF_of_wp (h : c.wp P Q a w) : wpF f P c Q a w := fun b k cs _ => h b k cs
theorem wpF_seq (h : wpF f P x (Exit.then (wpF f P y Q) Q) a w) : wpF f P (.seq x y) Q a w := by
  intro b k cs hb
  obtain ⟨e, a1, w1, hq, harr⟩ := h b (.code y :: k) cs hb
  cases e with
  | normal =>
    obtain ⟨e2, a2, w2, hq2, harr2⟩ := hq b k cs hb
    exact ⟨e2, a2, w2, hq2, Arrives.of_steps (Steps.head step_seq harr) harr2⟩
  | exit id => exact ⟨_, a1, w1, hq, Arrives.of_steps (.one step_seq) (.pass (x := .code y) rfl (fun _ _ => .inl (by simp)) harr)⟩
  | goto l => exact ⟨_, a1, w1, hq, Arrives.of_steps (.one step_seq) (.pass (x := .code y) rfl (fun _ _ => .inl (by simp)) harr)⟩
  | ret => exact ⟨_, a1, w1, hq, Arrives.of_steps (.one step_seq) (.pass (x := .code y) rfl (fun _ _ => .inl (by simp)) harr)⟩
  | panic ch => exact ⟨_, a1, w1, hq, Arrives.of_steps (.one step_seq) (.pass (x := .code y) rfl (fun _ _ => .inl (by simp)) harr)⟩
  | outgrown => exact ⟨_, a1, w1, hq, Arrives.of_steps (.one step_seq) (.pass (x := .code y) rfl (fun _ _ => .inl (by simp)) harr)⟩
theorem wpF_mono {Q' : Exit → Act → World → Prop} (h : wpF f P c Q a w) (hq : ∀ e a w, Q e a w → Q' e a w) : wpF f P c Q' a w :=
  fun b k cs hb => let ⟨e, a', w', q, r⟩ := h b k cs hb; ⟨e, a', w', hq _ _ _ q, r⟩
end
/-- How the statement may be left when the iterator has ended. -/
def itPostP (l : Nat) (Q : Exit → Act → World → Prop) (a' : Act) : Ending → World → Prop
  | .returned _, W => ∃ r, W.heap[l]? = some (.loop r) ∧ r.state ≠ .busy ∧ r.pending = none ∧ Q .normal a' (W.putObj l (.loop { r with state := .exhausted }))
  | .panicked ch, W => Q (.panic ch) a' W
  | .outgrown, _ => False
theorem it_rangeP {f : FuncId} {P : Program} {g : Operand} {ps : Array Tmp} {assign body : Code} {Q : Exit → Act → World → Prop} {a : Act} {w : World} {gf : Nat} {lb : Array Value}
    (hg : a.eval g = .func (.func gf) #[] lb) (eg : ∀ args w, (callFunc gf args).run P w = .ok (.enter gf args) w)
    (h : ∀ (r : Loop), r = { state := .ready, pending := none, fn := f, tmps := a.tmps, params := ps, assign, body, defers := w.heap.size } →
      Calls P gf (#[.func (.yield (w.heap.size + 1)) #[] #[]] ++ lb) ((w.alloc (.deferred (some []))).alloc (.loop r))
      (itPostP (w.heap.size + 1) Q { a with defers := { target := .collected w.heap.size, args := #[] } :: a.defers })) :
    wpF f P (Code.rangeFunc g ps assign body) Q a w := by
  intro b0 k cs hb0
  obtain ⟨b, hb⟩ : ∃ b : Frame, b = { b0 with roundOf := none } := ⟨_, rfl⟩
  have hbn : b.roundOf = none := by rw [hb]
  have hbf : b.fn = f := by rw [hb]; exact hb0
  have hat : ∀ a todo, b0.at a todo = b.atR a todo := fun a todo => by rw [Frame.atR_of_none hbn, hb]; rfl
  have h' := h _ rfl
  have henter := stepR_rangeFunc (P := P) (b := b) (a := a) (k := k) (cs := cs) (w := w) (g := g) (ps := ps) (assign := assign) (body := body) (l := w.heap.size + 1) (mark := [{ target := .collected w.heap.size, args := #[] }]) (f := gf)
    (d := { target := .fn (.func gf) lb, args := #[.func (.yield (w.heap.size + 1)) #[] #[]] }) (args := #[.func (.yield (w.heap.size + 1)) #[] #[]] ++ lb)
    (w₁ := (w.alloc (.deferred (some []))).alloc (.loop { state := .ready, pending := none, fn := b.fn, tmps := a.tmps, params := ps, assign, body, defers := w.heap.size })) (w₁' := (w.alloc (.deferred (some []))).alloc (.loop { state := .ready, pending := none, fn := b.fn, tmps := a.tmps, params := ps, assign, body, defers := w.heap.size })) (w₂ := (w.alloc (.deferred (some []))).alloc (.loop { state := .ready, pending := none, fn := b.fn, tmps := a.tmps, params := ps, assign, body, defers := w.heap.size }))
    (by rw [hbn]; exact run_enterLoop_outer _ _ _ _ _) (by simp only [resolve, hg]; simp [go_sem]) (by simp [invoke, go_sem, eg])
  rw [hbf] at henter
  obtain ⟨e, w3, fr, hR, hsteps, -, hleave⟩ := h' (b.atR { a with defers := [{ target := .collected w.heap.size, args := #[] }] ++ a.defers } (.inRangeFunc (w.heap.size + 1) :: k) :: cs)
  rw [hat]
  cases e with
  | outgrown => exact hR.elim
  | returned v =>
    obtain ⟨r, hl, hbz, hp, hQ⟩ := hR
    have hend := (run_endLoop (P := P) hl hbz).trans (congrArg (fun j => Result.ok j (w3.putObj (w.heap.size + 1) (.loop { r with state := .exhausted }))) hp)
    refine ⟨.normal, _, _, hQ, ?_⟩
    have s1 : step P (lone fr (b.atR { a with defers := [{ target := .collected w.heap.size, args := #[] }] ++ a.defers } (.inRangeFunc (w.heap.size + 1) :: k) :: cs) w3) = .next (lone (b.atR { a with defers := [{ target := .collected w.heap.size, args := #[] }] ++ a.defers } (.endRangeFunc (w.heap.size + 1) :: k)) cs w3) := by
      rw [← finish_atR_inRangeFunc (w.heap.size + 1) v]; exact step_leave_returned hleave
    have s2 := stepR_endRangeFunc (b := b) (a := { a with defers := [{ target := .collected w.heap.size, args := #[] }] ++ a.defers }) (k := k) (cs := cs) hend
    show Steps P _ _
    rw [hat]
    exact Steps.trans (Steps.head henter hsteps) (Steps.head s1 (.one s2))
  | panicked ch =>
    refine ⟨.panic ch, _, w3, hR, .inRangeFunc (w.heap.size + 1) :: k, ?_⟩
    have s1 := step_leave_panicked (c := b.atR { a with defers := [{ target := .collected w.heap.size, args := #[] }] ++ a.defers } (.inRangeFunc (w.heap.size + 1) :: k)) (cs := cs) hleave
    rw [Frame.raise_atR] at s1
    rw [hat]
    exact Steps.trans (Steps.head henter hsteps) (.one s1)
/-- How a round's body may be left. -/
def rdPostP (rb : Loop) (l : Nat) (R : Ending → World → Prop) : Exit → Act → World → Prop
  | .normal, _, W => W.heap[l]? = some (.loop rb) ∧ R (.returned (.bool true)) (W.putObj l (.loop { rb with state := .ready, pending := none }))
  | .panic ch, a, W => a.defers = [] ∧ R (.panicked ch) W
  | _, _, _ => False
/-- ONE ROUND. -/
theorem it_roundP {P : Program} {m : Nat} {l : Nat} {r : Loop} {args : Array Value} {W : World} {R : Ending → World → Prop} (hf : ∃ f, P.funcs[r.fn]? = some f)
    (hl : W.heap[l]? = some (.loop r)) (hr : r.state = .ready) (hs : args.size = r.params.size)
    (h : ∀ rb : Loop, rb = { r with state := .busy } → r.assign.wpIn (Fence.wide.inRound l) m P (Exit.then (fun a1 W1 => ∃ W0, W1 = W0 ∧ W0.heap[l]? = some (.loop r) ∧ r.body.wpIn (Fence.wide.inRound l) m P (rdPostP rb l R) a1 (W0.putObj l (.loop rb))) (fun _ _ _ => False))
      { tmps := (r.params.zip args).foldl (fun tmps (t, a) => tmps.setIfInBounds t a) r.tmps, defers := [] } W) :
    YieldAt Fence.wide m P l args W R := by
  refine ⟨r.fn, _, r.assign, r.body, run_yield hl hs, trivial, fun c cs hroom => ?_⟩
  have hroom' : (Fence.wide.inRound l).room ((c :: cs).length + 1 + m) := hroom
  let b : Frame := { (default : Frame) with fn := r.fn, kind := .normal, roundOf := some l }
  have hb0 : Frame.round l r.fn ((r.params.zip args).foldl (fun tmps (t, a) => tmps.setIfInBounds t a) r.tmps) r.assign r.body .normal = b.atR { tmps := (r.params.zip args).foldl (fun tmps (t, a) => tmps.setIfInBounds t a) r.tmps, defers := [] } [.code r.assign, .beginRound, .code r.body] := by
    simp [Frame.round, Frame.atR, b]
  have hF : (Fence.wide.inRound l).fn b.fn := trivial
  obtain ⟨e, a1, w1, hq, harr⟩ := h _ rfl b [.beginRound, .code r.body] (c :: cs) rfl hF hroom'
  rw [← hb0] at harr
  cases e with
  | normal =>
    obtain ⟨w0, rfl, hl1, hbody⟩ := hq
    have s1 : StepsIn (Machine.fenced P (Fence.wide.inRound l)) P (lone (b.atR a1 [.beginRound, .code r.body]) (c :: cs) w1) (lone (b.atR a1 [.code r.body]) (c :: cs) (w1.putObj l (.loop { r with state := .busy }))) :=
      .one (fenced_calm (fr := b.atR a1 [.beginRound, .code r.body]) hF hroom' rfl) (stepR_beginRound rfl (run_beginRound hl1 hr))
    obtain ⟨e2, a2, w3, hq2, harr2⟩ := hbody b [] (c :: cs) rfl hF hroom'
    cases e2 with
    | normal =>
      obtain ⟨h1, h2⟩ := hq2
      exact ⟨.returned (.bool true), _, h2, (StepsIn.trans harr s1).trans (StepsIn.trans harr2 (.one (fenced_calm (fr := b.atR a2 []) hF hroom' rfl) (stepR_round_end rfl rfl (run_endRound none h1))))⟩
    | panic ch =>
      obtain ⟨h1, h2⟩ := hq2
      obtain ⟨todo, hs2⟩ := harr2
      have s3 := step_leave_panicked (P := P) (fr := { b.atR a2 todo with mode := .panicking ch }) (c := c) (cs := cs) (w := w3) (chain := ch) ⟨rfl, h1, hf⟩
      refine ⟨.panicked ch, w3, h2, ?_⟩
      show StepsIn _ _ _ _
      have all := (StepsIn.trans (StepsIn.trans harr s1) hs2).steps
      exact stepsIn_wide.2 (Steps.trans all (.one s3))
    | ret => exact hq2.elim
    | exit id => exact hq2.elim
    | goto t => exact hq2.elim
    | outgrown => exact hq2.elim
  | ret => exact hq.elim
  | exit id => exact hq.elim
  | goto t => exact hq.elim
  | panic ch => exact hq.elim
  | outgrown => exact hq.elim
/-- A function's contract out of such a walk. -/
theorem calls_of_wpF {f : FuncId} {P : Program} {fn : Func} {c : Code} {args : Array Value} {w : World} {R : Ending → World → Prop} (hf : P.funcs[f]? = some fn) (hb : fn.body = some c)
    (h : wpF f P c (bodyPostM Fence.wide 1 P fn R) { tmps := args ++ Array.replicate (fn.ntmps - args.size) undef, defers := [] } w) : Calls P f args w R := by
  intro cs
  let b : Frame := { (default : Frame) with fn := f, kind := .normal }
  have henter : Frame.enter P f args .normal = b.at { tmps := args ++ Array.replicate (fn.ntmps - args.size) undef, defers := [] } [.code c] := by
    simp [Frame.enter, Frame.at, hf, hb, b]
  obtain ⟨e, a', w', hq, harr⟩ := h b [] cs rfl
  rw [← henter] at harr
  have go : ∀ (u : FrameMode) (todo : List Item), Steps P (lone (Frame.enter P f args .normal) cs w) (lone { b.at a' todo with mode := u } cs w') → LeavesInM Fence.wide 1 P fn a'.tmps R a'.defers u w' → ∃ e w' fr, R e w' ∧ Comes P (lone (Frame.enter P f args .normal) cs w) (lone fr cs w') e ∧ fr.fn = f ∧ fr.leaving P w' e := fun u todo hs hq => by
    obtain ⟨e', w'', fr', hR, hs', hfn, hl⟩ := leaves_stepsInM (F := Fence.wide) (n := 1) a'.defers u w' { b.at a' todo with mode := u } cs rfl rfl rfl hf rfl trivial (room_wide _) hq
    exact ⟨e', w'', fr', hR, Comes.of_steps hs (comesIn_wide.1 hs'), hfn, hl⟩
  cases e with
  | normal => exact go .returning [] (Steps.trans harr (.one step_end)) hq
  | ret =>
    obtain ⟨todo, hs⟩ := harr
    exact go .returning todo hs hq
  | panic ch =>
    obtain ⟨todo, hs⟩ := harr
    exact go (.panicking ch) todo hs hq
  | exit id => exact hq.elim
  | goto l => exact hq.elim
  | outgrown => exact ⟨.outgrown, w', b, hq, harr.resolve_left (by simp [b]), rfl, trivial⟩
end Go.Proofs.YtbfmlmnhdogojaaGreatDoor
