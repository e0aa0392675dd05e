/- Which disks there are: the other cases. -/
import Derived.Test.YtoplchdnfmcbaaaVg
namespace Go.Proofs.Ytoplchdnfmcbaaa
open Go.ChangeShapes Go.WideShapes Go.ChangeAt Go.RowKit Go.Shelf Go.Deep

theorem rd_news {W : World} {B : Nat} {a : Addr} {l : List Int} (hr : Rd W B .u8 (some a) l) : ∀ j u, (l.map (Value.int .u8))[j]? = some u → W.cell? (a.add j) = some u := by
  intro j u hu
  rw [List.getElem?_map] at hu
  obtain ⟨y, hy, rfl⟩ := Option.map_eq_some_iff.1 hu
  obtain ⟨g, off, e, _⟩ := hr.some_ (by have := (List.getElem?_eq_some_iff.1 hy).1; omega)
  cases e
  rw [addr_add]
  exact hr.cell g off rfl j y hy
theorem conv_any {W : World} {B : Nat} {A : Option Addr} {l : List Int} {c : Nat} (hr : Rd W B .u8 A l) : (convert 25 9 (.slice A l.length c)).run Try.prog W = .ok (.string (strOfNums l)) W := by
  rcases Nat.eq_zero_or_pos l.length with h | h
  · obtain rfl := List.eq_nil_of_length_eq_zero h
    cases A with
    | none => exact run_convert_bytes_nil W 25 5 Try.underlying25 Try.underlying5 0 c 9 Try.underlying9
    | some a =>
      have hl : (loadCells a 0).run Try.prog W = .ok (([] : List Int).map (Value.int .u8)).toArray W := by
        simpa using run_loadCells_list (P := Try.prog) W a ([] : List Value) (fun j v h => by simp at h)
      exact (run_convert_bytes_string W 25 9 5 (some a) 0 c Try.underlying25 Try.underlying5 Try.underlying9).trans (run_bytesToString W a 0 c [] hl)
  · exact conv_rd hr h
set_option maxRecDepth 100000 in
set_option maxHeartbeats 4000000 in
theorem makes_go {w : World} {A : Option Addr} {l : List Int} {c N : Nat} {n : Int} (hs : n < 1 ∨ 32 < n) (hl : l.length = 64 * N) (h1 : 1 ≤ N) (h2 : N ≤ 32) (hc : l.length ≤ c) (hr : Rd w w.heap.size .u8 A l) (hsec : ∀ x ∈ l, 0 ≤ x ∧ x < 256) :
    Calls Try.prog 7 #[.int .i64 n, .slice A l.length c] w fun e w' => e = .returned (.bool true) ∧ Below w.heap.size w w' := by
  obtain ⟨i0, hi0, hz0, hz1, hz2⟩ := info_parts info5
  obtain ⟨g, off, rfl, hg⟩ := hr.some_ (by omega)
  have hle : (l.length : Int) ≤ 2048 := by omega
  have hpos : 0 < l.length := by omega
  have HL := Lib.hid hl
  clear hl
  go_enter Try.func7, Try.ntmps7
  go_wp2_with fail
  refine (c22_out n hs w).mono ?_
  rintro e W1 ⟨rfl, hW⟩
  have hb1 : Below w.heap.size w W1 := hW ▸ Below.refl _ _
  have hs1 := hb1.size
  clear hW
  have hr1 := hr.below hb1 (Nat.le_refl _)
  have hown0 : (W1.alloc (.cells #[] 5)).ownsRow W1.heap.size 5 1 (.slice (some ⟨W1.heap.size, 0, none⟩) 0 0) 0 [] := World.ownsRow_lit (base := W1.heap.size) (size := 1) (e := 5) W1 #[] 0 (Nat.le_refl _) (by simp [maxLen]) rfl
  have hnews : ∀ j u, (l.map (Value.int .u8))[j]? = some u → (W1.alloc (.cells #[] 5)).cell? ((⟨g, off, none⟩ : Addr).add j) = some u := by
    intro j u hu
    rw [List.getElem?_map] at hu
    obtain ⟨y, hy, rfl⟩ := Option.map_eq_some_iff.1 hu
    have := (hr1.keep (W' := W1.alloc (.cells #[] 5)) (fun g hg => Below.heap_alloc _ _ _ (by omega))).cell g off rfl j y hy
    rw [addr_add]; exact this
  have HB1 := Lib.hid hb1
  clear hr1 hb1
  go_wp2_with (first
    | (at_builtin
       refine wpList_append_own_at _ rfl (.tmp 20) (.tmp 21) _ rfl W1.heap.size 5 i0 _ 1 1 Try.underlying25 hi0 hz0 hz1 hz2 rfl (by omega) (.slice (some ⟨W1.heap.size, 0, none⟩) 0 0) 0 [] rfl
         hown0 ⟨g, off, none⟩ l.length c (l.map (Value.int .u8)) rfl (by simp) hnews (by simp [Value.oneCell']) (by simp only [maxLen]; omega) (by omega) (by simp) ?_
       intro v1 w1 hown1 hg1 hnil1 hat1
       rw [Nat.zero_add, List.nil_append] at hown1
       obtain ⟨g1, cap1, rfl, hg1b, hg1l⟩ := hown1.form (by omega)
       have hB2 := Lib.hid (((Below.refl _ W1).alloc (Nat.le_refl _) _).grown hg1 (by simp) (fun b e => by simp [Value.ownBlock] at e; omega))
       have hs2 := hB2.out.size
       clear hg1 hnil1 hat1 hown0 hnews)
    | (at_builtin
       refine wpList_append_own_at _ rfl (.tmp 22) (.tmp 23) _ rfl W1.heap.size 5 i0 _ 1 1 Try.underlying25 hi0 hz0 hz1 hz2 rfl (by omega) (.slice (some ⟨g1, 0, none⟩) l.length cap1) l.length (l.map (Value.int .u8)) rfl
         (hown1.alloc _) ⟨w1.heap.size, 0, none⟩ 1 1 [.int .u8 77] rfl rfl (cell_one_new _ _ _) (by simp [Value.oneCell']) (by simp only [maxLen]; omega) (by omega) (by simp; omega) ?_
       intro v2 w2 hown2 hg2 hnil2 hat2
       obtain ⟨g2, cap2, rfl, hg2b, hg2l⟩ := hown2.form (by omega)
       have hB3 := Lib.hid ((hB2.out.alloc hs2 _).grown hg2 (by simp; omega) (fun b e => by simp [Value.ownBlock] at e; omega))
       have hs3 := hB3.out.size
       have hcp := own_cap hown2
       clear hg2 hnil2 hat2))
  have HB3 := Lib.hid (HB1.out.trans (hB3.out.mono hs1))
  have hlx : (l.map (Value.int .u8) ++ [Value.int .u8 77]).length = l.length + 1 := by simp
  have hrm : Rd w2 w2.heap.size .u8 (some ⟨g2, 0, none⟩) l := ⟨fun _ => ⟨g2, 0, rfl, hg2l⟩, fun g' off' e i x hx => by
    simp at e
    obtain ⟨rfl, rfl⟩ := e
    have hi : i < l.length := (List.getElem?_eq_some_iff.1 hx).1
    rw [Nat.zero_add, hown2.cellAt i (by omega), List.getElem?_append_left (by simpa using hi)]
    simp [hx]⟩
  have c77 : w2.cell? ⟨g2, l.length, none⟩ = some (.int .u8 77) := by
    rw [hown2.cellAt l.length (by omega), List.getElem?_append_right (by simp)]
    simp
  have H14 := Lib.hid (c14 HL.out h1 h2 (show l.length ≤ cap2 by omega) hrm hsec)
  have HRM := Lib.hid hrm
  have HOW := Lib.hid hown2
  have HC77 := Lib.hid c77
  clear hown1 hown2 hrm c77 hB2 hB3 HB1 hlx hg1b hg1l
  go_wp2_with fail
  refine H14.out.mono ?_
  rintro e W4 ⟨m, rfl, hb4, hd4, hrep4⟩
  have HB4 := Lib.hid (HB3.out.trans (hb4.mono HB3.out.size))
  have cvm := conv_rd (c := cap2) (HRM.out.below hb4 (Nat.le_refl _)) hpos
  have cvb := conv_rd (c := c) (hr.below HB4.out (Nat.le_refl _)) hpos
  have c77 := (hb4.cell (p := ⟨g2, l.length, none⟩) hg2l).trans HC77.out
  have how : W4.ownsRow W1.heap.size 5 1 (.slice (some ⟨g2, 0, none⟩) (l.length + 1) cap2) (l.length + 1) (l.map (Value.int .u8) ++ [Value.int .u8 77]) := own_below HOW.out hb4
  have HO4 := Lib.hid how
  have HE4 := Lib.hid (And.intro hd4 hrep4)
  have hcp' : (l.length : Int) + 1 ≤ cap2 := by omega
  have H25 := Lib.hid (fun W => c25_good HL.out h1 h2 W)
  clear H14 HRM HOW HC77 HB3 hb4 how hd4 hrep4
  generalize strOfNums l = T at *
  go_wp2_with (first
    | (go_at_call 13; refine (c13 _ _).mono ?_; rintro e w' ⟨rfl, rfl⟩)
    | (go_at_call 25; refine (H25.out _).mono ?_; rintro e w' ⟨rfl, rfl⟩))
  clear cvm cvb c77 hcp'
  go_loopw [10] (fun i wr => ∃ k : Nat, k ≤ l.length ∧ i = .int .i64 k ∧ ∃ vs : List Value, (∀ v ∈ vs, ∃ x, v = Value.int .u8 x) ∧ wr.ownsRow W1.heap.size 5 1 (.slice (some ⟨g2, 0, none⟩) (l.length + 1) cap2) (l.length + 1) vs ∧ IsDisk wr (w2.heap.size + 1) w2.heap.size N m ∧ Below w.heap.size w wr) (fun i _ => l.length - (intOf i).toNat)
  case atStart => exact ⟨0, Nat.zero_le _, rfl, _, vs_ints l, HO4.out, HE4.out.1, HB4.out⟩
  case round =>
    clear HO4 HB4
    obtain ⟨k, hk, rfl, vs, hvs, how, d2, hb⟩ := hrel
    by_cases hlt : k < l.length
    · have hvl : vs.length = l.length + 1 := by have := how.1; omega
      obtain ⟨v, hv⟩ : ∃ v, vs[k]? = some v := ⟨_, List.getElem?_eq_getElem (by omega)⟩
      obtain ⟨x, rfl⟩ := hvs v (List.mem_of_getElem? hv)
      have cx : wr.cell? ⟨g2, k, none⟩ = some (.int .u8 x) := (how.cellAt k (by omega)).trans hv
      have fx := how.frozenAt k
      have HX := Lib.hid (And.intro how (And.intro d2 (And.intro hb hvs)))
      clear how d2 hb hvs hv hvl
      go_wp2
      go_roundw
      case rel =>
        obtain ⟨how, d2, hb, hvs⟩ := HX.out
        exact ⟨k + 1, by omega, by go_num, _, (fun v hv => (List.mem_or_eq_of_mem_set hv).elim (hvs v) fun e => ⟨_, e⟩), (how.stored k _).1, d2.keep (Below.heap_setCell _ _ _ _ (by show w2.heap.size + 1 ≠ g2; omega)) (Below.heap_setCell _ _ _ _ (by show w2.heap.size ≠ g2; omega)), hb.setCell (by show w.heap.size ≤ g2; omega) _⟩
      case measure => simp [intOf]; omega
    · obtain rfl : k = l.length := by omega
      have H16 := Lib.hid (c16 (c := c) d2 HE4.out.2 ((hr.below hb (Nat.le_refl _)).up hb.size))
      have HB := Lib.hid hb
      clear how d2 hb hvs
      go_wp2_with (first
        | (go_at_call 13; refine (c13 _ _).mono ?_; rintro e w' ⟨rfl, rfl⟩))
      refine H16.out.mono ?_
      rintro e W5 ⟨rfl, hb5⟩
      have HB5 := Lib.hid (HB.out.trans (hb5.mono HB.out.size))
      clear hb5 H16 HB
      rcases hs with hn0 | hn1
      · go_wp2_with (first
          | (go_at_call 13; refine (c13 _ _).mono ?_; rintro e w' ⟨rfl, rfl⟩))
        refine (c9 _).mono ?_
        rintro e W8 ⟨rfl, hb9⟩
        have HB9 := Lib.hid (HB5.out.trans (hb9.mono HB5.out.size))
        clear hb9
        go_wp2
        go_ret
        exact ⟨rfl, HB9.out⟩
      · have hn0 : ¬ (n < 1) := by omega
        go_wp2_with (first
          | (go_at_call 13; refine (c13 _ _).mono ?_; rintro e w' ⟨rfl, rfl⟩))
        refine (c9 _).mono ?_
        rintro e W8 ⟨rfl, hb9⟩
        have HB9 := Lib.hid (HB5.out.trans (hb9.mono HB5.out.size))
        clear hb9
        go_wp2
        go_ret
        exact ⟨rfl, HB9.out⟩
end Go.Proofs.Ytoplchdnfmcbaaa
