/- A number in digits, out of one without a sign: contract. -/
import Derived.Test.YtbfmlmnhdogojaaGreatDoorPd
import Derived.Lib.Builder
import Derived.Lib.AppendStr
import Derived.Laws.Externs
import Derived.Test.YtbfmlmnhdogojaaGreatDoorFo
import Derived.Test.YtbfmlmnhdogojaaGreatDoorIs3
import Derived.Test.YtbfmlmnhdogojaaGreatDoorTx3
import Derived.BigRegionIn
namespace Go.Proofs.YtbfmlmnhdogojaaGreatDoor
open Go.RowKit Go.Shelf

theorem holds0 (w : World) (T : TypeId) (nd : Nat) (hs : nd ≤ 24) : Go.Sort.Holds (fun (b : UInt8) => Value.int .u8 (b.toNat : Int)) (w.alloc (.cells Lib.zeros24 T)) w.heap.size 0 (Array.replicate nd (0 : UInt8)) := fun j hj => by
  have hj' : j < nd := by simpa using hj
  refine ⟨?_, World.frozen?_alloc_new _ _ _ _⟩
  rw [World.cell?_alloc_new, Lib.zeros24_at _ (by omega), getElem!_pos _ j hj]
  simp
set_option maxRecDepth 100000 in
set_option maxHeartbeats 1000000 in
theorem cFormatUI {u : Nat} (h1 : u < 18446744073709551616) {w : World} (ht : Tb w) : Calls Tryz.prog 56 #[.int .u64 u, .int .i64 10] w fun e w' => e = .returned (.string (itoaB u)) ∧ Below w.heap.size w w' := by
  by_cases hs : u < 100
  · go_enter Tryz.func56, Tryz.ntmps56
    go_wp2_with fail
    refine (Tryz.internal_strconv_small u hs _).mono ?_
    rintro e w' ⟨rfl, rfl⟩
    go_wp2
    go_ret
    exact ⟨by unfold itoaB; rw [Lib.itoa_nonneg]; rfl, Below.refl _ _⟩
  · have hu1 : 1 ≤ u := by omega
    have hnd20 : Lib.nDigits u ≤ 20 := by have := Lib.numDigits_eq u hu1 h1; split at this <;> omega
    have hal : Tryz.prog.arrayLen 148 = 24 := by kernel_rfl
    have hsl : ∀ W, (Instr.sliceAt 148 (.pointer (some ⟨w.heap.size, 0, none⟩)) none (some (.int .i64 (Lib.nDigits u : Int))) none).run Tryz.prog W = .ok (.slice (some ⟨w.heap.size, 0, none⟩) (Lib.nDigits u) 24) W := fun W => by
      rw [run_sliceAt_array_h W 148 ⟨w.heap.size, 0, none⟩ (by kernel_rfl) .i64 (Lib.nDigits u : Int) (by omega) (by rw [hal]; omega)]
      go_simp
    have hH0 := holds0 w 148 (Lib.nDigits u) (by omega)
    have hfmt := Tryz.internal_strconv_formatBase10 w.heap.size 0 24 u (Array.replicate (Lib.nDigits u) 0) (w.alloc (.cells Lib.zeros24 148)) hH0 (by rw [Array.size_replicate]; exact Lib.lt_pow_nDigits u) h1 (by rw [Array.size_replicate]; omega)
    rw [Array.size_replicate] at hfmt
    have HH0 := Lib.hid hH0
    have hnum := Lib.hid (Tryz.internal_strconv_numDigits u hu1 h1 (w.alloc (.cells Lib.zeros24 148)) (Lib.tabIs_alloc ht _))
    have HFM := Lib.hid hfmt
    have hnd24 : Lib.nDigits u ≤ 24 := by omega
    clear hH0 hal hfmt
    go_enter Tryz.func56, Tryz.ntmps56
    go_wp2_with fail
    refine hnum.out.mono ?_
    rintro e w' ⟨rfl, rfl⟩
    go_wp2_with fail
    refine HFM.out.mono ?_
    rintro e w' ⟨rfl, k, v', dk, rfl, hF⟩
    have hcv : (convert 24 9 (.slice (some ⟨w.heap.size, 0, none⟩) (Lib.nDigits u) 24)).run Tryz.prog ((Go.Sort.putRow (fun (b : UInt8) => Value.int .u8 (b.toNat : Int)) (w.alloc (.cells Lib.zeros24 148)) w.heap.size 0 dk).drewN k) = .ok (.string ⟨(Lib.decDigits u).toArray⟩) ((Go.Sort.putRow (fun (b : UInt8) => Value.int .u8 (b.toNat : Int)) (w.alloc (.cells Lib.zeros24 148)) w.heap.size 0 dk).drewN k) := by
      have h := run_convert_bytes_back (P := Tryz.prog) ((Go.Sort.putRow (fun (b : UInt8) => Value.int .u8 (b.toNat : Int)) (w.alloc (.cells Lib.zeros24 148)) w.heap.size 0 dk).drewN k) 24 9 5 ⟨w.heap.size, 0, none⟩ 24 (Lib.decDigits u) Tryz.underlying24 Tryz.underlying5 Tryz.underlying9 (fun j hj => by
        rw [Lib.row_is_numeral hF j hj, Lib.add_plain, World.cell?_drewN]
        exact Go.Sort.cell?_putRow (fun (b : UInt8) => Value.int .u8 (b.toNat : Int)) _ w.heap.size 0 _ dk HH0.out (by rw [hF.size, Array.size_replicate]) j (by rw [hF.size]; rw [Lib.decDigits_length] at hj; exact hj))
      rw [Lib.decDigits_length] at h
      exact h
    go_wp2
    go_ret
    refine ⟨by unfold itoaB; rw [Lib.itoa_nonneg]; rfl, ?_⟩
    rw [Go.Sort.alloc_eq_grow]
    obtain ⟨os', _, e⟩ := Go.Sort.putRow_grow_new (fun (b : UInt8) => Value.int .u8 (b.toNat : Int)) w #[.cells Lib.zeros24 148] w.heap.size 0 dk (Nat.le_refl _)
    rw [e]
    exact below_grown_sl w.heap.size w k os' (Nat.le_refl _)
theorem cFormatU {u : Nat} (h1 : u < 18446744073709551616) {w : World} (ht : Tb w) : Calls Tryz.prog 33 #[.int .u64 u, .int .i64 10] w fun e w' => e = .returned (.string (itoaB u)) ∧ Below w.heap.size w w' := by
  have H := Lib.hid (cFormatUI h1 ht)
  obtain ⟨t, htt⟩ : ∃ t, t = itoaB u := ⟨_, rfl⟩
  rw [← htt] at H ⊢
  clear htt
  go_enter Tryz.func33, Tryz.ntmps33
  go_wp2_with fail
  refine H.out.mono ?_
  rintro e w' ⟨rfl, hb⟩
  go_wp2
  go_ret
  exact ⟨rfl, hb⟩
end Go.Proofs.YtbfmlmnhdogojaaGreatDoor
namespace Go.Proofs.YtbfmlmnhdogojaaGreatDoor
open Go.RowKit Go.Shelf

theorem size_bld : (Tryz.prog.info? 56).map (·.size) = some 2 := by kernel_rfl
theorem lies_bld : liesAt Tryz.prog Tryz.prog.depth 56 (2 / Tryz.prog.cellsOf 56) 0 56 1 = true := by kernel_rfl
theorem info_u8' : (Tryz.prog.info? 5).map (fun i => (i.zero, i.size, i.bytes)) = some (some (.int .u8 0), 1, 1) := by kernel_rfl
/-- A builder. -/
abbrev Bld (B b : Nat) (l : List UInt8) (w : World) : Prop := Lib.IsBuilder 56 5 B b (Lib.byteCells l) w
set_option maxRecDepth 100000 in
theorem cCheckUsed (b : Nat) (w : World) (h0 : w.cell? ⟨b, 0, none⟩ = some (.pointer (some ⟨b, 0, none⟩))) :
    Calls Tryz.prog 54 #[.pointer (some ⟨b, 0, none⟩)] w fun e w' => e = .returned (.tuple #[]) ∧ w' = w := by
  obtain ⟨j, hj, _⟩ := Option.map_eq_some_iff.1 size_bld
  go_enter Tryz.func54, Tryz.ntmps54
  go_wp2
  rw [Lib.run_neq_ptr_same w _ Tryz.underlying54 hj]
  go_wp2
  go_end0
  exact ⟨rfl, rfl⟩
set_option maxRecDepth 100000 in
theorem cCheckFresh (b : Nat) (w : World) (h0 : w.cell? ⟨b, 0, none⟩ = some (.pointer none)) (hsh : w.shape? b = some (56, 2)) (hfz : w.frozen? ⟨b, 0, none⟩ = false) :
    Calls Tryz.prog 54 #[.pointer (some ⟨b, 0, none⟩)] w fun e w' => e = .returned (.tuple #[]) ∧ w' = w.setCell ⟨b, 0, none⟩ (.pointer (some ⟨b, 0, none⟩)) := by
  obtain ⟨j, hj, hjs⟩ := Option.map_eq_some_iff.1 size_bld
  go_enter Tryz.func54, Tryz.ntmps54
  go_wp2
  rw [Lib.run_to_unsafe w ⟨b, 0, none⟩ Tryz.underlying54 Tryz.underlying145 hj (by rw [hjs]; decide) hsh (Nat.zero_lt_succ 1)]
  simp only [Result.andThen]
  rw [Oper.upon_value]
  go_wp2
  rw [run_callFunc_extern Tryz.func83 (by kernel_rfl) (by kernel_rfl) (by kernel_rfl) (e := Extern.AbiNoEscape.same) (by kernel_rfl)]
  rw [Lib.run_noEscape]
  simp only [Result.andThen]
  rw [Oper.upon_value]
  go_wp2
  rw [Lib.run_from_unsafe w ⟨b, 0, none⟩ Tryz.underlying145 Tryz.underlying54 hj hsh lies_bld]
  simp only [Result.andThen]
  rw [Oper.upon_value]
  go_wp2
  go_end0
  exact ⟨rfl, rfl⟩
/-- A builder in a block b, its bytes in a row from R on. -/
structure BldO (W : World) (R b : Nat) (v : Value) (l : List UInt8) : Prop where
  c : Cells W b 56 #[.pointer none, v] ∨ Cells W b 56 #[.pointer (some ⟨b, 0, none⟩), v]
  row : W.ownsRow R 5 1 v l.length (Lib.byteCells l)
  ne : v.ownBlock ≠ some b
  nil_ : l = [] → v = .slice none 0 0
theorem BldO.kept {S : Nat → Prop} {W W' : World} {R b : Nat} {v : Value} {l : List UInt8} (h : BldO W R b v l) (k : KeptBut S W W') (hb : ¬ S b) (hv : ∀ q, v.ownBlock = some q → ¬ S q) : BldO W' R b v l :=
  ⟨h.c.imp (fun c => k.cells c hb) (fun c => k.cells c hb), k.row h.row hv, h.ne, h.nil_⟩
theorem BldO.below {W W' : World} {R b : Nat} {v : Value} {l : List UInt8} (h : BldO W R b v l) (k : Below W.heap.size W W') : BldO W' R b v l := h.kept (KeptBut.of_below (fun _ => False) k) id (fun _ _ => id)
theorem BldO.lt {W : World} {R b : Nat} {v : Value} {l : List UInt8} (h : BldO W R b v l) : b < W.heap.size := h.c.elim (·.lt) (·.lt)
theorem BldO.is {W : World} {R b B : Nat} {v : Value} {l : List UInt8} (h : BldO W R b v l) (h1 : B ≤ b) (h2 : B ≤ R) : Bld B b l W := by
  have hr := own_base h.row h2
  have hr' : W.ownsRow B 5 1 v (Lib.byteCells l).length (Lib.byteCells l) := by rw [Lib.byteCells_length]; exact hr
  rcases h.c with c | c
  · exact .inl ⟨h1, v, c, hr', h.ne⟩
  · exact .inr ⟨h1, v, c, hr', h.ne⟩
theorem cCheckO {W : World} {R b : Nat} {v : Value} {l : List UInt8} (h : BldO W R b v l) :
    Calls Tryz.prog 54 #[.pointer (some ⟨b, 0, none⟩)] W fun e w' => e = .returned (.tuple #[]) ∧ Cells w' b 56 #[.pointer (some ⟨b, 0, none⟩), v] ∧ w'.ownsRow R 5 1 v l.length (Lib.byteCells l) ∧ KeptBut (fun q => q = b) W w' := by
  rcases h.c with c | c
  · have hsh : W.shape? b = some (56, 2) := by
      have : W.heap[b]? = some (.cells #[.pointer none, v] 56 (0, 0)) := c
      simp [World.shape?, this]
    refine (cCheckFresh b W ((c.cell 0).trans rfl) hsh (c.frozen 0)).mono ?_
    rintro e w' ⟨rfl, rfl⟩
    have k := KeptBut.set (W := W) (S := fun q => q = b) rfl 0 (.pointer (some ⟨b, 0, none⟩))
    exact ⟨rfl, c.set 0 _, k.row h.row (fun q e1 e2 => h.ne (e2 ▸ e1)), k⟩
  · refine (cCheckUsed b W ((c.cell 0).trans rfl)).mono ?_
    rintro e w' ⟨rfl, rfl⟩
    exact ⟨rfl, c, h.row, KeptBut.refl _ _⟩
theorem strCells_bytes (s : ByteArray) : Lib.strCells s = Lib.byteCells s.data.toList := by
  first | rfl | (unfold Lib.strCells Lib.byteCells; rfl)
set_option maxHeartbeats 1000000 in
set_option maxRecDepth 100000 in
/-- A text written. -/
theorem cWrite {W : World} {R b : Nat} {v : Value} {l : List UInt8} {s : ByteArray} (h : BldO W R b v l) (hl : l.length + s.size ≤ 140737488355328) (hs0 : 0 < s.size) (hR : R ≤ W.heap.size) (hbR : b < R) :
    Calls Tryz.prog 31 #[.pointer (some ⟨b, 0, none⟩), .string s] W fun e w' => e = .returned (.tuple #[.int .i64 s.size, .nilIface]) ∧ ∃ v', BldO w' R b v' (l ++ s.data.toList) ∧ KeptBut (fun q => q = b ∨ R ≤ q) W w' := by
  obtain ⟨i0, hi, hz0, hz1, hz2⟩ := info_parts info_u8'
  have hrb : ∀ q, v.ownBlock = some q → R ≤ q := fun q e => (h.row.lt q e).1
  have HNE := Lib.hid h.ne
  have HC := Lib.hid (cCheckO h)
  clear h
  go_enter Tryz.func31, Tryz.ntmps31
  go_wp2_with fail
  refine HC.out.mono ?_
  rintro e w1 ⟨rfl, hbk, hown, hk1⟩
  have c0 : w1.cell? ⟨b, 0, none⟩ = some (.pointer (some ⟨b, 0, none⟩)) := (hbk.cell 0).trans rfl
  have c1 : w1.cell? ⟨b, 1, none⟩ = some v := (hbk.cell 1).trans rfl
  have hR1 := Nat.le_trans hR hk1.size
  go_wp2_with (at_builtin; refine Lib.wpList_append_own_string _ rfl _ _ 24 9 rfl R 5 i0 Tryz.underlying24 Tryz.underlying9 hi hz0 hz1 hz2 _ _ _ rfl hown s rfl ?c3 ?c4 ?c5 ?_)
  case c3 => unfold maxLen; omega
  case c4 => omega
  case c5 => exact hR1
  intro v' w2 hown' hgrow hat
  have hk2 := KeptBut.of_grown (S := fun q => v.ownBlock = some q) hgrow (fun k e => e)
  have hb2 := hk2.cells hbk HNE.out
  have d0 : w2.cell? ⟨b, 0, none⟩ = some (.pointer (some ⟨b, 0, none⟩)) := (hb2.cell 0).trans rfl
  have d1 : w2.cell? ⟨b, 1, none⟩ = some v := (hb2.cell 1).trans rfl
  have f1 : w2.frozen? ⟨b, 1, none⟩ = false := hb2.frozen 1
  have hlr := hown'.lt
  obtain ⟨ao, n', cap, rfl⟩ : ∃ ao n' cap, v' = .slice ao n' cap := by
    rcases hown'.2 with ⟨hv, _⟩ | ⟨g, cap, cur, hv, _⟩
    · exact ⟨_, _, _, hv⟩
    · exact ⟨_, _, _, hv⟩
  have hne' : (Value.slice ao n' cap).ownBlock ≠ some b := fun e => by have := (hlr b e).1; omega
  have HF := Lib.hid (And.intro hb2 (And.intro hown' (And.intro hne' ((hk1.mono (S' := fun q => q = b ∨ R ≤ q) fun q _ e => .inl e).trans (hk2.mono fun q _ e => .inr (hrb q e))))))
  clear hb2 hown' hne' hk2 hgrow hat hlr hbk hown hk1
  go_wp2
  go_ret2
  obtain ⟨hb2, hown', hne', hk⟩ := HF.out
  have hne0 : l ++ s.data.toList ≠ [] := fun e => by
    have e2 := congrArg List.length e
    rw [List.length_append, show s.data.toList.length = s.size from rfl, List.length_nil] at e2
    omega
  refine ⟨rfl, _, ⟨.inr (hb2.set 1 _), ?_, hne', fun e => absurd e hne0⟩, hk.trans (KeptBut.set (.inl rfl) 1 _)⟩
  have e1 : Lib.byteCells l ++ Lib.strCells s = Lib.byteCells (l ++ s.data.toList) := by rw [strCells_bytes]; simp [Lib.byteCells]
  rw [← e1, List.length_append, show s.data.toList.length = s.size from rfl]
  exact own_set hown' (fun g e h => by rw [h] at e; exact hne' e) _ _
theorem cellsByte : Tryz.prog.cellsOf 5 = 1 := by kernel_rfl
theorem us_none (W : World) (q : Option Addr) : (Builtin.unsafeString_ #[117, 3] 9 #[.pointer q, .int .i64 0]).run Tryz.prog W = .ok (.string .empty) W := Lib.run_unsafeString_none W _ _ _ q
set_option maxHeartbeats 2000000 in
set_option maxRecDepth 100000 in
/-- What has been written. -/
theorem cString {W : World} {R b : Nat} {v : Value} {l : List UInt8} (h : BldO W R b v l) :
    Calls Tryz.prog 36 #[.pointer (some ⟨b, 0, none⟩)] W fun e w' => e = .returned (.string ⟨l.toArray⟩) ∧ KeptBut (fun q => R ≤ q) W w' := by
  by_cases h0 : l = []
  · have hv := h.nil_ h0
    have hUS := us_none
    have c1 : W.drew.cell? ⟨b, 1, none⟩ = some (.slice none 0 0) := by
      have e : (h.c.elim (fun c => c.cell 1) (fun c => c.cell 1)) = (h.c.elim (fun c => c.cell 1) (fun c => c.cell 1)) := rfl
      show W.cell? ⟨b, 1, none⟩ = _
      rw [← hv]
      exact h.c.elim (fun c => (c.cell 1).trans rfl) (fun c => (c.cell 1).trans rfl)
    have hSD : (Builtin.unsafeSliceData_ #[24] 117 #[.slice none 0 0]).run Tryz.prog W.drew = .ok (.pointer none) W.drew := rfl
    subst h0
    clear h hv
    go_enter Tryz.func36, Tryz.ntmps36
    go_wp2
    go_region
    all_goals (go_wp2; go_ret; exact ⟨rfl, KeptBut.of_below _ (Below.refl _ W).drew⟩)
  · have hl0 : l.length ≠ 0 := by simpa using h0
    obtain ⟨g, cap, cur, hv, hbg, hg, hnc, hcm, hcs, htake⟩ : ∃ g cap cur, v = .slice (some ⟨g, 0, none⟩) l.length cap ∧ R ≤ g ∧ W.heap[g]? = some (.cells cur 5 (0, 0)) ∧ l.length ≤ cap ∧ cap ≤ maxLen ∧ cur.size = cap * 1 ∧ cur.toList.take (l.length * 1) = Lib.byteCells l := by
      rcases h.row.2 with ⟨_, hz⟩ | ⟨g, cap, cur, hv, r⟩
      · exact absurd hz hl0
      · exact ⟨g, cap, cur, hv, r⟩
    subst hv
    have c1 : W.drew.cell? ⟨b, 1, none⟩ = some (.slice (some ⟨g, 0, none⟩) l.length cap) := by
      show W.cell? ⟨b, 1, none⟩ = _
      exact h.c.elim (fun c => (c.cell 1).trans rfl) (fun c => (c.cell 1).trans rfl)
    have hSD : (Builtin.unsafeSliceData_ #[24] 117 #[.slice (some ⟨g, 0, none⟩) l.length cap]).run Tryz.prog W.drew = .ok (.pointer (some ⟨g, 0, none⟩)) W.drew :=
      Lib.run_unsafeSliceData_row _ _ _ _ _ _ (by omega)
    have hUS : (Builtin.unsafeString_ #[117, 3] 9 #[.pointer (some ⟨g, 0, none⟩), .int .i64 l.length]).run Tryz.prog W.drew = .ok (.string ⟨l.toArray⟩) (W.drew.freeze ⟨g, 0, none⟩ l.length) := by
      refine Lib.run_unsafeString_row W.drew 117 3 9 5 Tryz.underlying117 cellsByte g cur.size (by have hg' : W.drew.heap[g]? = some (.cells cur 5 (0, 0)) := hg; simp [World.shape?, hg']) l h0 (by omega) (by unfold maxLen at hcm; omega) ?_
      intro j x hx
      exact h.row.cells (g := g) rfl j (.int .u8 x.toNat) (by simp [Lib.byteCells, hx])
    clear h hcs htake
    go_enter Tryz.func36, Tryz.ntmps36
    go_wp2
    go_region
    all_goals
      go_wp2
      go_ret
      have hb := Lib.below_freeze (B := R) (p := ⟨g, 0, none⟩) (Below.drew (Below.refl R W)) hbg l.length
      exact ⟨rfl, ⟨hb.os, hb.tape, hb.output, hb.size, fun k _ hk => hb.block k (by omega)⟩⟩
end Go.Proofs.YtbfmlmnhdogojaaGreatDoor
namespace Go.Proofs.YtbfmlmnhdogojaaGreatDoor
open Go.RowKit Go.Shelf
attribute [local go_sem] Oper.semAt_some

/-- The line of four bytes. -/
def lineW (x : Int) : ByteArray := if okL x then textB (dOp x) (dA x) (dB x) (dN x) else ⟨#[119, 111, 114, 100, 32]⟩ ++ itoaB x
def wordI (a b c d : Int) : Int := a + 256 * b + 65536 * c + 16777216 * d
/-- The line of the last bytes. -/
def restL (l : List Int) : List UInt8 := [98, 121, 116, 101] ++ l.flatMap (fun x => 32 :: (itoaB x).data.toList) ++ [10]
/-- The listing. -/
def listL : List Int → List UInt8
  | a :: b :: c :: d :: l => (lineW (wordI a b c d)).data.toList ++ [10] ++ listL l
  | [] => []
  | l => restL l
theorem cChunk (A : Option Addr) (L c : Nat) (w : World) : Calls Tryz.prog 30 #[.slice A L c, .int .i64 4] w fun e w' => e = .returned (.func (.func 53) #[] #[.pointer (some ⟨w.heap.size, 0, none⟩), .pointer (some ⟨w.heap.size + 1, 0, none⟩)]) ∧
    (w.alloc (.cells #[.slice A L c] 24)).alloc (.cells #[.int .i64 4] 3) = w' := by
  go_enter Tryz.func30, Tryz.ntmps30
  go_wp2
  go_ret
  exact ⟨rfl, rfl⟩
set_option maxRecDepth 100000 in
set_option maxHeartbeats 1000000 in
theorem cParts (A : Option Addr) (L c : Nat) (hA : 0 < L → ∃ g off, A = some ⟨g, off, none⟩) (hL : L ≤ 65536) (hcap : L ≤ c) (l Bs Bn : Nat) (J : Nat → World → Prop)
    (hJ : ∀ k W, J k W → W.cell? ⟨Bs, 0, none⟩ = some (.slice A L c) ∧ W.cell? ⟨Bn, 0, none⟩ = some (.int .i64 4))
    (hD : ∀ k W, J k W → J k W.drew)
    (hY : ∀ k W g off, J k W → 4 * k < L → A = some ⟨g, off, none⟩ → YieldAt Fence.wide 0 Tryz.prog l #[.slice (some ⟨g, off + 4 * k, none⟩) (min 4 (L - 4 * k)) (min 4 (L - 4 * k))] W fun e W' => e = .returned (.bool true) ∧ J (k + 1) W')
    (w : World) (hw : J 0 w) :
    Calls Tryz.prog 53 #[.func (.yield l) #[] #[], .pointer (some ⟨Bs, 0, none⟩), .pointer (some ⟨Bn, 0, none⟩)] w fun e w' => e = .returned (.tuple #[]) ∧ ∃ k, L ≤ 4 * k ∧ 4 * k < L + 4 ∧ J k w' := by
  rw [← callsIn_wide (n := 1)]
  refine callsIn_of_wp Tryz.func53 rfl trivial ?_
  simp only [Tryz.ntmps53, List.size_toArray, List.length_cons, List.length_nil, Nat.reduceAdd, Nat.reduceSub, Array.replicate_succ, Array.replicate_zero, List.push_toArray, List.append_toArray, List.nil_append, List.cons_append]
  gi_wp2
  gi_loopw [4] (fun i wr => ∃ k : Nat, 4 * k < L + 4 ∧ i = .int .i64 (4 * k) ∧ J k wr) (fun i _ => L + 4 - (intOf i).toNat)
  case atStart => exact ⟨0, by omega, rfl, hw⟩
  case round =>
    obtain ⟨k, hk, rfl, hj⟩ := hrel
    obtain ⟨q1, q2⟩ := hJ k wr hj
    obtain ⟨q1', q2'⟩ := hJ k wr.drew (hD k wr hj)
    by_cases hlt : 4 * k < L
    · obtain ⟨g, off, rfl⟩ := hA (by omega)
      have hY0 := hY k wr.drew g off (hD k wr hj) hlt rfl
      have s0 : (0 : Int) ≤ 4 * (k : Int) := by omega
      have s1 : 4 * (k : Int) ≤ (L : Int) := by omega
      have s2 : (4 * (k : Int)).toNat = 4 * k := by omega
      have s3 : ¬ c = 4 * k := by omega
      obtain ⟨m, hm⟩ : ∃ m, m = min 4 (L - 4 * k) := ⟨_, rfl⟩
      have hmin : min (4 : Int) ((L - 4 * k : Nat) : Int) = (m : Int) := by omega
      have hm0 : 0 < m := by omega
      have hmL : 4 * k + m ≤ L := by omega
      rw [← hm] at hY0
      have hm4 : m = 4 ∨ 4 * k + m = L := by omega
      clear hm
      gi_wp2_with fail
      refine wpIn_region_still Free.wide (by kernel_rfl) (by rintro ⟨_, _, h⟩; exact absurd h.1 (by simp)) (by kernel_rfl) (by kernel_rfl) ?_
      repeat still_step
      try refine wpStill_nil ?_
      obtain ⟨fn, tmps, assign, body, hy, hR⟩ := hY0
      change Exit.then _ _ .normal _ wr.drew
      have s5 : (0 : Int) ≤ 4 * (k : Int) + (m : Int) := by omega
      have s6 : 4 * (k : Int) + (m : Int) ≤ (c : Int) := by omega
      have s7 : (4 * (k : Int) + (m : Int)).toNat = 4 * k + m := by omega
      have s8 : 4 * k + m - 4 * k = m := by omega
      have s9 : 4 * (k : Int) ≤ 4 * (k : Int) + (m : Int) := by omega
      gi_wp2
      refine hR.mono ?_
      rintro e W' ⟨rfl, hj'⟩
      obtain ⟨_, r2⟩ := hJ (k + 1) W' hj'
      gi_wp2
      refine ⟨⟨k + 1, by omega, ?_, hj'⟩, ?_⟩
      · congr 1
      · simp [intOf]; omega
    · gi_wp2_with fail
      go_end0
      exact ⟨rfl, k, by omega, hk, hj⟩
end Go.Proofs.YtbfmlmnhdogojaaGreatDoor
