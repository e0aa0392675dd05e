/- Which disks there are: no bytes at all, a nil slice. -/
import Derived.Test.YtoplchdnfmcbaaaVi
namespace Go.Proofs.Ytoplchdnfmcbaaa
open Go.ChangeShapes Go.WideShapes Go.ChangeAt Go.RowKit Go.Shelf Go.Deep

theorem rd_none (W : World) (B : Nat) (A : Option Addr) : Rd W B .u8 A [] := ⟨fun h => absurd h (by simp), fun _ _ _ i x hx => by simp at hx⟩
set_option maxRecDepth 100000 in
set_option maxHeartbeats 4000000 in
theorem makes_no {w : World} {n : Int} (hs : n < 1 ∨ 32 < n) :
    Calls Try.prog 7 #[.int .i64 n, .slice none 0 0] w fun e w' => e = .returned (.bool true) ∧ Below w.heap.size w w' := by
  obtain ⟨i0, hi0, hz0, hz1, hz2⟩ := info_parts info5
  have HBAD := Lib.hid (fun (A : Option Addr) (c : Nat) (W : World) => (show Calls Try.prog 14 #[.slice A 0 c] W fun e w' => e = .returned (.tuple #[.pointer none, .int .i64 2]) ∧ Below W.heap.size W w' from c14_bad A [] c (by simp) (by simp) W))
  have HCV := Lib.hid (fun (A : Option Addr) (c : Nat) (W : World) => (show (convert 25 9 (.slice A 0 c)).run Try.prog W = .ok (.string (strOfNums [])) W from conv_any (c := c) (rd_none W 0 A)))
  have H25 := Lib.hid (fun W => (show Calls Try.prog 25 #[.int .i64 0] W fun e w' => e = .returned (.bool false) ∧ W = w' from c25_bad (L := 0) (by simp) (by simp) W))
  go_enter Try.func7, Try.ntmps7
  go_wp2_with fail
  refine (c22_out n hs w).mono ?_
  rintro e W1 ⟨rfl, hW⟩
  have hb1 : Below w.heap.size w W1 := hW ▸ Below.refl _ _
  clear hW
  have hs1 := hb1.size
  have hown0 : (W1.alloc (.cells #[] 5)).ownsRow W1.heap.size 5 1 (.slice (some ⟨W1.heap.size, 0, none⟩) 0 0) 0 [] := World.ownsRow_lit (base := W1.heap.size) (size := 1) (e := 5) W1 #[] 0 (Nat.le_refl _) (by simp [maxLen]) rfl
  have HB1 := Lib.hid hb1
  have HB2 := Lib.hid ((Below.refl _ W1).alloc (Nat.le_refl _) (.cells #[] 5))
  have hs2 : W1.heap.size ≤ (W1.alloc (.cells #[] 5)).heap.size := by simp
  go_wp2_with (first
    | (at_builtin
       refine wpList_append_own_none rfl (.tmp 20) (.tmp 21) 25 rfl W1.heap.size 5 i0 1 Try.underlying25 hi0 (.slice (some ⟨W1.heap.size, 0, none⟩) 0 0) 0 [] rfl hown0 rfl ?_
       generalize W1.alloc (.cells #[] 5) = w1 at *)
    | (at_builtin
       refine wpList_append_own_at _ rfl (.tmp 22) (.tmp 23) _ rfl W1.heap.size 5 i0 _ 1 1 Try.underlying25 hi0 hz0 hz1 hz2 rfl (by omega) (.slice (some ⟨W1.heap.size, 0, none⟩) 0 0) 0 [] rfl
         (hown0.alloc _) ⟨w1.heap.size, 0, none⟩ 1 1 [.int .u8 77] rfl rfl (cell_one_new _ _ _) (by simp [Value.oneCell']) (by simp only [maxLen]; omega) (by omega) (by simp; omega) ?_
       intro v2 w2 hown2 hg2 hnil2 hat2
       rw [Nat.zero_add, List.nil_append] at hown2
       obtain ⟨g2, cap2, rfl, hg2b, hg2l⟩ := hown2.form (by omega)
       have hB3 := Lib.hid ((HB2.out.alloc hs2 _).grown hg2 (by simp; omega) (fun b e => by simp [Value.ownBlock] at e; omega))
       have hs3 := hB3.out.size
       have hcp := own_cap hown2
       clear hg2 hnil2 hat2))
  have c77 : w2.cell? ⟨g2, 0, none⟩ = some (.int .u8 77) := hown2.cellAt 0 (by omega)
  have HB3 := Lib.hid (HB1.out.trans (hB3.out.mono hs1))
  have HC := Lib.hid c77
  clear c77 hown2 hown0 HB2 HB1 hg2b
  go_wp2_with fail
  refine (HBAD.out _ _ _).mono ?_
  rintro e W4 ⟨rfl, hb4⟩
  have HB4 := Lib.hid (HB3.out.trans (hb4.mono HB3.out.size))
  have cvm := HCV.out (some ⟨g2, 0, none⟩) cap2 W4
  have cvb := HCV.out none 0 W4
  have c77 := (hb4.cell (p := ⟨g2, 0, none⟩) hg2l).trans HC.out
  have hcp' : (1 : Int) ≤ cap2 := by omega
  clear hb4 HB3 HC
  generalize strOfNums [] = T at *
  go_wp2_with (first
    | (go_at_call 13; refine (c13 _ _).mono ?_; rintro e w' ⟨rfl, rfl⟩)
    | (go_at_call 25; refine (H25.out _).mono ?_; rintro e w' ⟨rfl, rfl⟩))
  clear cvm cvb c77 hcp'
  go_loop [10] (fun i => i = .int .i64 0) (fun _ => 0)
  case atStart => rfl
  case round =>
    obtain rfl := hrel
    rcases hs with hn0 | hn1
    · skip
      go_wp2_with (first
        | (go_at_call 13; refine (c13 _ _).mono ?_; rintro e w' ⟨rfl, rfl⟩))
      refine (c9 _).mono ?_
      rintro e W8 ⟨rfl, hb9⟩
      have HB9 := Lib.hid (HB4.out.trans (hb9.mono HB4.out.size))
      clear hb9
      go_wp2
      go_ret
      exact ⟨rfl, HB9.out⟩
    · have hn0 : ¬ (n < 1) := by omega
      go_wp2_with (first
        | (go_at_call 13; refine (c13 _ _).mono ?_; rintro e w' ⟨rfl, rfl⟩))
      refine (c9 _).mono ?_
      rintro e W8 ⟨rfl, hb9⟩
      have HB9 := Lib.hid (HB4.out.trans (hb9.mono HB4.out.size))
      clear hb9
      go_wp2
      go_ret
      exact ⟨rfl, HB9.out⟩
set_option maxRecDepth 100000 in
set_option maxHeartbeats 4000000 in
theorem makes_ni {w : World} {n : Nat} (s1 : 1 ≤ n) (s2 : n ≤ 32) :
    Calls Try.prog 7 #[.int .i64 n, .slice none 0 0] w fun e w' => e = .returned (.bool true) ∧ Below w.heap.size w w' := by
  obtain ⟨i0, hi0, hz0, hz1, hz2⟩ := info_parts info5
  have HBAD := Lib.hid (fun (A : Option Addr) (c : Nat) (W : World) => (show Calls Try.prog 14 #[.slice A 0 c] W fun e w' => e = .returned (.tuple #[.pointer none, .int .i64 2]) ∧ Below W.heap.size W w' from c14_bad A [] c (by simp) (by simp) W))
  have HCV := Lib.hid (fun (A : Option Addr) (c : Nat) (W : World) => (show (convert 25 9 (.slice A 0 c)).run Try.prog W = .ok (.string (strOfNums [])) W from conv_any (c := c) (rd_none W 0 A)))
  have H25 := Lib.hid (fun W => (show Calls Try.prog 25 #[.int .i64 0] W fun e w' => e = .returned (.bool false) ∧ W = w' from c25_bad (L := 0) (by simp) (by simp) W))
  go_enter Try.func7, Try.ntmps7
  go_wp2_with fail
  refine (c22 n (by omega) (by omega) w).mono ?_
  rintro e W1 ⟨rfl, hb1, hd1⟩
  have HD1 := Lib.hid hd1
  clear hd1
  have hs1 := hb1.size
  have hown0 : (W1.alloc (.cells #[] 5)).ownsRow W1.heap.size 5 1 (.slice (some ⟨W1.heap.size, 0, none⟩) 0 0) 0 [] := World.ownsRow_lit (base := W1.heap.size) (size := 1) (e := 5) W1 #[] 0 (Nat.le_refl _) (by simp [maxLen]) rfl
  have HB1 := Lib.hid hb1
  have HB2 := Lib.hid ((Below.refl _ W1).alloc (Nat.le_refl _) (.cells #[] 5))
  have hs2 : W1.heap.size ≤ (W1.alloc (.cells #[] 5)).heap.size := by simp
  go_wp2_with (first
    | (at_builtin
       refine wpList_append_own_none rfl (.tmp 20) (.tmp 21) 25 rfl W1.heap.size 5 i0 1 Try.underlying25 hi0 (.slice (some ⟨W1.heap.size, 0, none⟩) 0 0) 0 [] rfl hown0 rfl ?_
       generalize W1.alloc (.cells #[] 5) = w1 at *)
    | (at_builtin
       refine wpList_append_own_at _ rfl (.tmp 22) (.tmp 23) _ rfl W1.heap.size 5 i0 _ 1 1 Try.underlying25 hi0 hz0 hz1 hz2 rfl (by omega) (.slice (some ⟨W1.heap.size, 0, none⟩) 0 0) 0 [] rfl
         (hown0.alloc _) ⟨w1.heap.size, 0, none⟩ 1 1 [.int .u8 77] rfl rfl (cell_one_new _ _ _) (by simp [Value.oneCell']) (by simp only [maxLen]; omega) (by omega) (by simp; omega) ?_
       intro v2 w2 hown2 hg2 hnil2 hat2
       rw [Nat.zero_add, List.nil_append] at hown2
       obtain ⟨g2, cap2, rfl, hg2b, hg2l⟩ := hown2.form (by omega)
       have hB3 := Lib.hid ((HB2.out.alloc hs2 _).grown hg2 (by simp; omega) (fun b e => by simp [Value.ownBlock] at e; omega))
       have hs3 := hB3.out.size
       have hcp := own_cap hown2
       clear hg2 hnil2 hat2))
  have c77 : w2.cell? ⟨g2, 0, none⟩ = some (.int .u8 77) := hown2.cellAt 0 (by omega)
  have HB3 := Lib.hid (HB1.out.trans (hB3.out.mono hs1))
  have HC := Lib.hid c77
  clear c77 hown2 hown0 HB2 HB1 hg2b
  go_wp2_with fail
  refine (HBAD.out _ _ _).mono ?_
  rintro e W4 ⟨rfl, hb4⟩
  have HB4 := Lib.hid (HB3.out.trans (hb4.mono HB3.out.size))
  have cvm := HCV.out (some ⟨g2, 0, none⟩) cap2 W4
  have cvb := HCV.out none 0 W4
  have c77 := (hb4.cell (p := ⟨g2, 0, none⟩) hg2l).trans HC.out
  have hcp' : (1 : Int) ≤ cap2 := by omega
  have HD5 := Lib.hid ((HD1.out.of_below hB3.out HD1.out.hd.lt HD1.out.hm.lt).below hb4)
  have hsz5 := HB4.out.size
  clear hb4 HB3 HC HD1
  generalize strOfNums [] = T at *
  go_wp2_with (first
    | (go_at_call 13; refine (c13 _ _).mono ?_; rintro e w' ⟨rfl, rfl⟩)
    | (go_at_call 25; refine (H25.out _).mono ?_; rintro e w' ⟨rfl, rfl⟩))
  clear cvm cvb c77 hcp'
  go_loop [10] (fun i => i = .int .i64 0) (fun _ => 0)
  case atStart => rfl
  case round =>
    obtain rfl := hrel
    have hn0 : ¬ ((n : Int) < 1) := by omega
    have hn1 : ¬ (32 < (n : Int)) := by omega
    have hm64 : IntKind.i64.wrap (64 * (n : Int)) = 64 * n := by rw [IntKind.wrap_i64]; omega
    go_wp2_with (first
      | (go_at_call 13; refine (c13 _ _).mono ?_; rintro e w' ⟨rfl, rfl⟩)
      | (at_make
         refine wpList_make_full_g _ (by first | rfl | (simp [Region.wanted, yielded]; done)) (.tmp 118) (.tmp 118) 25 rfl w.heap.size 5 i0 _ 1 Try.underlying25 hi0 hz0 hz1 .i64 .i64 _ _ (64 * n) rfl rfl (by omega) (by omega) (by rw [hz2]; omega) (by simp only [maxLen]; omega) hsz5 ?_
         intro W6 ho6 hg6))
    rw [zerosN] at ho6
    have hl6 : (List.replicate (64 * n) (0 : Int)).length = 64 * n := List.length_replicate
    have hd6 := HD5.out.keep (hg6.block _ HD5.out.hd.lt (by simp)) (hg6.block _ HD5.out.hm.lt (by simp))
    have hr6 := Rd.of_own (base := w.heap.size) (e := 5) (cap := 64 * n) (by rw [hl6]; exact ho6)
    have h16 := c16 (c := 64 * n) hd6 (rep_zeros n) hr6
    rw [hl6] at h16
    have HB6 := Lib.hid (HB4.out.grown hg6 hsz5 (by simp))
    have H16 := Lib.hid h16
    clear ho6 hl6 hd6 hr6 h16 hg6
    refine H16.out.mono ?_
    rintro e W7 ⟨rfl, hb7⟩
    have HB7 := Lib.hid (HB6.out.trans (hb7.mono HB6.out.size))
    clear hb7
    go_wp2_with fail
    refine (c9 _).mono ?_
    rintro e W8 ⟨rfl, hb9⟩
    have HB9 := Lib.hid (HB7.out.trans (hb9.mono HB7.out.size))
    clear hb9
    go_wp2
    go_ret
    exact ⟨rfl, HB9.out⟩
end Go.Proofs.Ytoplchdnfmcbaaa
