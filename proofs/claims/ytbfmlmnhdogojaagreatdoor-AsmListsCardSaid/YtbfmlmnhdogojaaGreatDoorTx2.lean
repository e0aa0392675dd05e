/- The isa: Text of an instruction that may be: its contract. -/
import Derived.Test.YtbfmlmnhdogojaaGreatDoorTx
import Derived.Deep.RegionHeld3
import Derived.Deep.DeepCutAuto
import Derived.Laws.AppendOwn
import Derived.Deep.Strs
import Derived.LoopTactic
namespace Go.Proofs.YtbfmlmnhdogojaaGreatDoor
open Go.RowKit Go.Shelf

theorem own_below {w w' : World} {base : Nat} {e : TypeId} {size n : Nat} {v : Value} {xs : List Value} (h : w.ownsRow base e size v n xs) (hb : Below w.heap.size w w') : w'.ownsRow base e size v n xs :=
  h.kept (row := none) ⟨hb.os, hb.tape, hb.output, hb.size, fun k hk _ => hb.block k hk⟩ (by cases v.ownBlock <;> simp)
theorem addr_off (g j : Nat) : (⟨g, 0, none⟩ : Addr).add j = ⟨g, 0 + j, none⟩ := by
  unfold Addr.add
  split <;> simp_all
theorem cell_one_of (w : World) (v : Value) (t : TypeId) : ∀ (j : Nat) u, [v][j]? = some u → (w.alloc (.cells #[v] t)).cell? ((⟨w.heap.size, 0, none⟩ : Addr).add j) = some u := by
  intro j u hj
  cases j with
  | zero => simp at hj; subst hj; exact (Cells.new w t #[v]).cell 0
  | succ j => simp at hj
structure TxAt (wx : World) (Ba Bb Bs Bi : Nat) (a b : Int) : Prop where
  ra : Cells wx Ba 3 #[.int .i64 a]
  rb : Cells wx Bb 3 #[.int .i64 b]
  rs : Cells wx Bs 73 #[.func (.func 60) #[] #[.pointer (some ⟨Ba, 0, none⟩)], .func (.func 60) #[] #[.pointer (some ⟨Bb, 0, none⟩)], .func (.func 61) #[] #[.pointer (some ⟨Bi, 0, none⟩)]]
theorem TxAt.keep {w w' : World} {Ba Bb Bs Bi : Nat} {a b : Int} (h : TxAt w Ba Bb Bs Bi a b) (hb : Below w.heap.size w w') : TxAt w' Ba Bb Bs Bi a b := ⟨h.ra.below hb h.ra.lt, h.rb.below hb h.rb.lt, h.rs.below hb h.rs.lt⟩
def TxCut (W : World) (Bi : Nat) (a b : Int) (s28 s29 s30 : Value) (wx : World) : Prop :=
  ∃ Ba Bb Bs, s28 = .slice (some ⟨Bs, 0, none⟩) 3 3 ∧ s29 = .int .i64 3 ∧ s30 = .int .i64 0 ∧ TxAt wx Ba Bb Bs Bi a b ∧ Below W.heap.size W wx
theorem tx_ab (W : World) (Bi : Nat) (a b : Int) : TxCut W Bi a b (.slice (some ⟨W.heap.size + 1 + 1, 0, none⟩) 3 3) (.int .i64 3) (.int .i64 0)
    (((W.alloc (.cells #[.int .i64 a] 3)).alloc (.cells #[.int .i64 b] 3)).alloc (.cells #[.func (.func 60) #[] #[.pointer (some ⟨W.heap.size, 0, none⟩)], .func (.func 60) #[] #[.pointer (some ⟨W.heap.size + 1, 0, none⟩)], .func (.func 61) #[] #[.pointer (some ⟨Bi, 0, none⟩)]] 73)).drew := by
  obtain ⟨k1, k2, k3, k4, k5⟩ := cells3 W #[.int .i64 a] #[.int .i64 b] #[.func (.func 60) #[] #[.pointer (some ⟨W.heap.size, 0, none⟩)], .func (.func 60) #[] #[.pointer (some ⟨W.heap.size + 1, 0, none⟩)], .func (.func 61) #[] #[.pointer (some ⟨Bi, 0, none⟩)]] 3 3 73
  exact ⟨W.heap.size, W.heap.size + 1, W.heap.size + 2, rfl, rfl, rfl, ⟨k1, k2, k3⟩, k4.drew⟩
theorem tx_ba (W : World) (Bi : Nat) (a b : Int) : TxCut W Bi a b (.slice (some ⟨W.heap.size + 1 + 1, 0, none⟩) 3 3) (.int .i64 3) (.int .i64 0)
    (((W.alloc (.cells #[.int .i64 b] 3)).alloc (.cells #[.int .i64 a] 3)).alloc (.cells #[.func (.func 60) #[] #[.pointer (some ⟨W.heap.size + 1, 0, none⟩)], .func (.func 60) #[] #[.pointer (some ⟨W.heap.size, 0, none⟩)], .func (.func 61) #[] #[.pointer (some ⟨Bi, 0, none⟩)]] 73)).drew := by
  obtain ⟨k1, k2, k3, k4, k5⟩ := cells3 W #[.int .i64 b] #[.int .i64 a] #[.func (.func 60) #[] #[.pointer (some ⟨W.heap.size + 1, 0, none⟩)], .func (.func 60) #[] #[.pointer (some ⟨W.heap.size, 0, none⟩)], .func (.func 61) #[] #[.pointer (some ⟨Bi, 0, none⟩)]] 3 3 73
  exact ⟨W.heap.size + 1, W.heap.size, W.heap.size + 2, rfl, rfl, rfl, ⟨k2, k1, k3⟩, k4.drew⟩
/-- The parts of a text, of the first k. -/
def txL (u a b n : Int) (k : Nat) : List ByteArray :=
  (if 0 < k ∧ hasU u 1 = true then [regB a] else []) ++ (if 1 < k ∧ hasU u 2 = true then [regB b] else []) ++ (if 2 < k ∧ hasU u 4 = true then [itoaB n] else [])
theorem txL_len (u a b n : Int) (k : Nat) : (txL u a b n k).length ≤ 3 := by
  unfold txL; simp only [List.length_append]; split <;> split <;> split <;> simp
/-- A text. -/
def textB (op a b n : Int) : ByteArray :=
  if txL (usesL op) a b n 3 = [] then nameL op else nameL op ++ ⟨#[32]⟩ ++ ⟨(Lib.join ((txL (usesL op) a b n 3).map (·.data.toList)) [44, 32]).toArray⟩
theorem info_str : (Tryz.prog.info? 9).map (fun i => (i.zero, i.size, i.bytes)) = some (some (.string ByteArray.empty), 1, 16) := by kernel_rfl
theorem bit0 (u : Int) (hu : u = 0 ∨ u = 3 ∨ u = 5 ∨ u = 7) : bits .and .i64 u 1 = if hasU u 1 then 1 else 0 := by rcases hu with rfl | rfl | rfl | rfl <;> decide +kernel
theorem bit1 (u : Int) (hu : u = 0 ∨ u = 3 ∨ u = 5 ∨ u = 7) : bits .and .i64 (u / 2) 1 = if hasU u 2 then 1 else 0 := by rcases hu with rfl | rfl | rfl | rfl <;> decide +kernel
theorem bit2 (u : Int) (hu : u = 0 ∨ u = 3 ∨ u = 5 ∨ u = 7) : bits .and .i64 (u / 4) 1 = if hasU u 4 then 1 else 0 := by rcases hu with rfl | rfl | rfl | rfl <;> decide +kernel
theorem name_size {op : Int} (h : 1 ≤ op ∧ op ≤ 28) : (nameL op).size ≤ 5 := by
  rcases cases28 h with rfl | rfl | rfl | rfl | rfl | rfl | rfl | rfl | rfl | rfl | rfl | rfl | rfl | rfl | rfl | rfl | rfl | rfl | rfl | rfl | rfl | rfl | rfl | rfl | rfl | rfl | rfl | rfl <;> decide +kernel
theorem join_len {u a b n : Int} (ha : 0 ≤ a ∧ a ≤ 7) (hb : 0 ≤ b ∧ b ≤ 7) (hn : -32768 ≤ n ∧ n ≤ 32767) : (Lib.join ((txL u a b n 3).map (·.data.toList)) [44, 32]).length ≤ 80 := by
  have h1 := regB_size (n := a) (by omega) (by omega)
  have h2 := regB_size (n := b) (by omega) (by omega)
  have h3 := itoaB_size (n := n) (by omega) (by omega)
  unfold txL
  split <;> split <;> split <;> simp [Lib.join, List.intercalate, List.intersperse] <;> omega
set_option maxHeartbeats 1000000 in
theorem cText_in {op a b n : Int} (h : mayL op a b n = true) {w : World} (ht : Tb w) : Calls Tryz.prog 35 #[.agg (instA op a b n)] w fun e w' => e = .returned (.tuple #[.string (textB op a b n), .int .i64 0]) ∧ Below w.heap.size w w' := by
  obtain ⟨i0, hi, hz0, hz1, hz2⟩ := info_parts info_str
  obtain ⟨K1, Hb, hs⟩ := cells1 w (instA op a b n) 69
  have i0' := (K1.cell 0).trans (show _ = some (Value.int .i64 op) from rfl)
  have i1 := (K1.cell 1).trans (show _ = some (Value.int .i64 a) from rfl)
  have i2 := (K1.cell 2).trans (show _ = some (Value.int .i64 b) from rfl)
  have i3 := (K1.cell 3).trans (show _ = some (Value.int .i64 n) from rfl)
  obtain ⟨bop, ⟨a1, a2⟩, ⟨b1, b2⟩, ⟨n1, n2⟩⟩ := may_bounds h
  have HT := Lib.hid (show textB op a b n = if txL (usesL op) a b n 3 = [] then nameL op else nameL op ++ ⟨#[32]⟩ ++ ⟨(Lib.join ((txL (usesL op) a b n 3).map (·.data.toList)) [44, 32]).toArray⟩ from rfl)
  generalize textB op a b n = tx at *
  have H := Lib.hid h
  clear h
  go_enter Tryz.func35, Tryz.ntmps35
  go_wp2_with fail
  refine (cMay _ _ _ _ _).mono ?_
  rw [H.out]
  rintro e W2 ⟨rfl, hb2⟩
  have B2 := Hb.trans (hb2.mono Hb.size)
  have T2 := ht.b B2
  have K2 := K1.below hb2 K1.lt
  clear K1 Hb hb2 hs i0' i1 i2 i3
  have i0' := (K2.cell 0).trans (show _ = some (Value.int .i64 op) from rfl)
  go_wp2_with fail
  refine (cOf bop _).mono ?_
  rintro e W3 ⟨rfl, hb3⟩
  have B3 := B2.trans (hb3.mono B2.size)
  have T3 := T2.b hb3
  have K3 := K2.below hb3 K2.lt
  clear i0' K2 hb3 T2 B2
  have hu := uses4 bop
  have hnz := name_size bop
  generalize usesL op = u at *
  generalize nameL op = nm at *
  obtain ⟨R4, hb4, s4⟩ := cells1 W3 #[.string nm, .int .i64 u] 107
  have B4 := B3.trans (hb4.mono B3.size)
  have T4 := T3.b hb4
  have K4 := K3.below hb4 K3.lt
  have l4 := K3.lt
  go_wp2_with fail
  generalize W3.alloc _ = W4 at *
  clear T3 B3 hb4 K3 s4 ht
  have j1 := (K4.cell 1).trans (show _ = some (Value.int .i64 a) from rfl)
  have j2 := (K4.cell 2).trans (show _ = some (Value.int .i64 b) from rfl)
  have k1 : ∀ X Y Z : Obj, (((W4.alloc X).alloc Y).alloc Z).drew.cell? ⟨w.heap.size, 1, none⟩ = some (.int .i64 a) := fun X Y Z => ((((Below.refl _ W4).alloc (Nat.le_refl _) X).alloc (by simp) Y).alloc (by simp; omega) Z).drew.cell (p := ⟨w.heap.size, 1, none⟩) K4.lt |>.trans j1
  have k2 : ∀ X Y Z : Obj, (((W4.alloc X).alloc Y).alloc Z).drew.cell? ⟨w.heap.size, 2, none⟩ = some (.int .i64 b) := fun X Y Z => ((((Below.refl _ W4).alloc (Nat.le_refl _) X).alloc (by simp) Y).alloc (by simp; omega) Z).drew.cell (p := ⟨w.heap.size, 2, none⟩) K4.lt |>.trans j2
  have k3 : ∀ X Y : Obj, ((W4.alloc X).alloc Y).drew.cell? ⟨w.heap.size, 1, none⟩ = some (.int .i64 a) := fun X Y => (((Below.refl _ W4).alloc (Nat.le_refl _) X).alloc (by simp) Y).drew.cell (p := ⟨w.heap.size, 1, none⟩) K4.lt |>.trans j1
  have k4 : ∀ X Y : Obj, ((W4.alloc X).alloc Y).drew.cell? ⟨w.heap.size, 2, none⟩ = some (.int .i64 b) := fun X Y => (((Below.refl _ W4).alloc (Nat.le_refl _) X).alloc (by simp) Y).drew.cell (p := ⟨w.heap.size, 2, none⟩) K4.lt |>.trans j2
  have k5 : ∀ X : Obj, (W4.alloc X).drew.cell? ⟨w.heap.size, 1, none⟩ = some (.int .i64 a) := fun X => ((Below.refl _ W4).alloc (Nat.le_refl _) X).drew.cell (p := ⟨w.heap.size, 1, none⟩) K4.lt |>.trans j1
  have k6 : ∀ X : Obj, (W4.alloc X).drew.cell? ⟨w.heap.size, 2, none⟩ = some (.int .i64 b) := fun X => ((Below.refl _ W4).alloc (Nat.le_refl _) X).drew.cell (p := ⟨w.heap.size, 2, none⟩) K4.lt |>.trans j2
  go_cut [28, 29, 30] (fun s28 s29 s30 wx => TxCut W4 w.heap.size a b s28 s29 s30 wx)
  case first =>
    go_region_held3 (fun w' => w'.cell? ⟨w.heap.size, 1, none⟩ = some (.int .i64 a) ∧ w'.cell? ⟨w.heap.size, 2, none⟩ = some (.int .i64 b))
      (first | exact ⟨j1, j2⟩ | exact ⟨k5 _, k6 _⟩ | exact ⟨k3 _ _, k4 _ _⟩ | exact ⟨k1 _ _ _, k2 _ _ _⟩)
      ((go_at_call 59; refine (cReg _ _).mono ?_; rintro e w' ⟨rfl, rfl⟩))
    all_goals (go_wp2_with fail; go_meet)
    all_goals first | exact tx_ab _ _ _ _ | exact tx_ba _ _ _ _
  case rest =>
  clear k1 k2 k3 k4 k5 k6 j1 j2
  obtain ⟨Ba, Bb, Bs, rfl, rfl, rfl, T, hbx⟩ := hcut
  have R5 := R4.below hbx R4.lt
  have K5 := K4.below hbx K4.lt
  have T5 := T4.b hbx
  have B5 := B4.trans (hbx.mono B4.size)
  clear R4 K4 T4 B4 hbx
  have P0 := bit0 u hu
  have P1 := bit1 u hu
  have P2 := bit2 u hu
  have HU := Lib.hid hu
  have P0' := Lib.hid P0
  have P1' := Lib.hid P1
  have P2' := Lib.hid P2
  clear hu P0 P1 P2
  go_wp2_with fail
  go_loopw [7, 30] (fun v i wr => ∃ (k : Nat) (ao : Option Addr) (cv : Nat), k ≤ 3 ∧ i = .int .i64 k ∧ v = .slice ao (txL u a b n k).length cv ∧ wr.ownsRow wc.heap.size 9 1 v (txL u a b n k).length ((txL u a b n k).map Value.string) ∧ Below wc.heap.size wc wr)
    (fun _ i _ => 3 - (intOf i).toNat)
  case atStart => exact ⟨0, none, 0, Nat.zero_le _, rfl, rfl, World.ownsRow_nil _ _ _ _, Below.refl _ _⟩
  case round =>
    obtain ⟨k, ao, cv, hk, rfl, rfl, hown, hnx⟩ := hrel
    have hsize := hnx.size
    have Tr := T.keep hnx
    have Kr := K5.below hnx K5.lt
    have Tbr := T5.b hnx
    have Rr := R5.below hnx R5.lt
    have r0 := (Rr.cell 0).trans (show _ = some (Value.string nm) from rfl)
    have r1 := (Rr.cell 1).trans (show _ = some (Value.int .i64 u) from rfl)
    have q0 := Tr.rs.cell 0
    have q1 := Tr.rs.cell 1
    have q2 := Tr.rs.cell 2
    simp at q0 q1 q2
    have p0 := P0'.out
    have p1 := P1'.out
    have p2 := P2'.out
    rcases (show k = 0 ∨ k = 1 ∨ k = 2 ∨ k = 3 from by omega) with rfl | rfl | rfl | rfl
    · skip
      have hpl := txL_len u a b n 0
      cases hbit : hasU u 1
      · rw [hbit] at p0
        have hpk : txL u a b n 1 = txL u a b n 0 := by simp [txL, hbit]
        have HP := Lib.hid hpk
        clear hpk hbit
        go_wp2_with fail
        have hpk := HP.out
        go_roundw
        case rel =>
          first
            | exact ⟨1, ao, cv, by omega, by first | rfl | simp, by rw [hpk], by rw [hpk]; exact hown, hnx⟩
            | ((repeat apply Exists.intro); exact ⟨⟨1, ao, cv, by omega, by first | rfl | simp, by rw [hpk], by rw [hpk]; exact hown, hnx⟩, rfl⟩)
        case measure => simp [intOf]
      · rw [hbit] at p0
        have hpk : txL u a b n 1 = txL u a b n 0 ++ [regB a] := by simp [txL, hbit]
        have HP := Lib.hid hpk
        clear hpk hbit
        go_wp2_with fail
        refine (cReg1 a1 (by omega) Tr.ra Tbr).mono ?_
        rintro e W5 ⟨rfl, hb5⟩
        have hown5 := own_below hown hb5
        have hnx5 := hnx.trans (hb5.mono hsize)
        have hsize5 := hnx5.size
        clear p0 p1 p2 q0 q1 q2 r1 Tr Kr Tbr
        go_wp2_with (first
          | (at_builtin; refine wpList_append_own _ rfl _ _ 49 rfl wc.heap.size 9 i0 (.string ByteArray.empty) 1 16 Tryz.underlying49 hi hz0 hz1 hz2 rfl (by decide) _ _ _ rfl (hown5.alloc _) ⟨W5.heap.size, 0, none⟩ 1 1 [.string (regB a)] rfl rfl (cell_one_of _ _ _) (fun x hx => by simp at hx; subst hx; rfl) (by unfold maxLen; omega) (by omega) (by simp; omega) ?_; intro v' w3 hown' hgrow3 hnil3))
        have hpk := HP.out
        go_roundw
        case rel =>
          obtain ⟨g3, cap3, hv3⟩ : ∃ g3 cap3, v' = .slice (some ⟨g3, 0, none⟩) ((txL u a b n 0).length + 1) cap3 := by
            rcases hown'.2 with ⟨_, h⟩ | ⟨g3, cap3, _, h, _⟩
            · omega
            · exact ⟨g3, cap3, h⟩
          have R : 1 ≤ 3 ∧ Value.int .i64 (0 + 1) = .int .i64 ((1 : Nat) : Int) ∧ v' = .slice (some ⟨g3, 0, none⟩) (txL u a b n 1).length cap3 ∧ w3.ownsRow wc.heap.size 9 1 v' (txL u a b n 1).length ((txL u a b n 1).map Value.string) ∧ Below wc.heap.size wc w3 :=
            ⟨by omega, by first | rfl | simp, by rw [hv3, hpk]; simp, by rw [hpk, List.map_append, List.length_append]; exact hown', (hnx5.alloc hnx5.size _).grown hgrow3 (by simp; omega) (fun q hq => (hown5.lt q hq).1)⟩
          first
            | exact ⟨1, some ⟨g3, 0, none⟩, cap3, R⟩
            | ((repeat apply Exists.intro); exact ⟨⟨1, some ⟨g3, 0, none⟩, cap3, R⟩, rfl⟩)
        case measure => simp [intOf]
    · skip
      have hpl := txL_len u a b n 1
      cases hbit : hasU u 2
      · rw [hbit] at p1
        have hpk : txL u a b n 2 = txL u a b n 1 := by simp [txL, hbit]
        have HP := Lib.hid hpk
        clear hpk hbit
        go_wp2_with fail
        have hpk := HP.out
        go_roundw
        case rel =>
          first
            | exact ⟨2, ao, cv, by omega, by first | rfl | simp, by rw [hpk], by rw [hpk]; exact hown, hnx⟩
            | ((repeat apply Exists.intro); exact ⟨⟨2, ao, cv, by omega, by first | rfl | simp, by rw [hpk], by rw [hpk]; exact hown, hnx⟩, rfl⟩)
        case measure => simp [intOf]
      · rw [hbit] at p1
        have hpk : txL u a b n 2 = txL u a b n 1 ++ [regB b] := by simp [txL, hbit]
        have HP := Lib.hid hpk
        clear hpk hbit
        go_wp2_with fail
        refine (cReg1 b1 (by omega) Tr.rb Tbr).mono ?_
        rintro e W5 ⟨rfl, hb5⟩
        have hown5 := own_below hown hb5
        have hnx5 := hnx.trans (hb5.mono hsize)
        have hsize5 := hnx5.size
        clear p0 p1 p2 q0 q1 q2 r1 Tr Kr Tbr
        go_wp2_with (first
          | (at_builtin; refine wpList_append_own _ rfl _ _ 49 rfl wc.heap.size 9 i0 (.string ByteArray.empty) 1 16 Tryz.underlying49 hi hz0 hz1 hz2 rfl (by decide) _ _ _ rfl (hown5.alloc _) ⟨W5.heap.size, 0, none⟩ 1 1 [.string (regB b)] rfl rfl (cell_one_of _ _ _) (fun x hx => by simp at hx; subst hx; rfl) (by unfold maxLen; omega) (by omega) (by simp; omega) ?_; intro v' w3 hown' hgrow3 hnil3))
        have hpk := HP.out
        go_roundw
        case rel =>
          obtain ⟨g3, cap3, hv3⟩ : ∃ g3 cap3, v' = .slice (some ⟨g3, 0, none⟩) ((txL u a b n 1).length + 1) cap3 := by
            rcases hown'.2 with ⟨_, h⟩ | ⟨g3, cap3, _, h, _⟩
            · omega
            · exact ⟨g3, cap3, h⟩
          have R : 2 ≤ 3 ∧ Value.int .i64 (1 + 1) = .int .i64 ((2 : Nat) : Int) ∧ v' = .slice (some ⟨g3, 0, none⟩) (txL u a b n 2).length cap3 ∧ w3.ownsRow wc.heap.size 9 1 v' (txL u a b n 2).length ((txL u a b n 2).map Value.string) ∧ Below wc.heap.size wc w3 :=
            ⟨by omega, by first | rfl | simp, by rw [hv3, hpk]; simp, by rw [hpk, List.map_append, List.length_append]; exact hown', (hnx5.alloc hnx5.size _).grown hgrow3 (by simp; omega) (fun q hq => (hown5.lt q hq).1)⟩
          first
            | exact ⟨2, some ⟨g3, 0, none⟩, cap3, R⟩
            | ((repeat apply Exists.intro); exact ⟨⟨2, some ⟨g3, 0, none⟩, cap3, R⟩, rfl⟩)
        case measure => simp [intOf]
    · skip
      have hpl := txL_len u a b n 2
      cases hbit : hasU u 4
      · rw [hbit] at p2
        have hpk : txL u a b n 3 = txL u a b n 2 := by simp [txL, hbit]
        have HP := Lib.hid hpk
        clear hpk hbit
        go_wp2_with fail
        have hpk := HP.out
        go_roundw
        case rel =>
          first
            | exact ⟨3, ao, cv, by omega, by first | rfl | simp, by rw [hpk], by rw [hpk]; exact hown, hnx⟩
            | ((repeat apply Exists.intro); exact ⟨⟨3, ao, cv, by omega, by first | rfl | simp, by rw [hpk], by rw [hpk]; exact hown, hnx⟩, rfl⟩)
        case measure => simp [intOf]
      · rw [hbit] at p2
        have hpk : txL u a b n 3 = txL u a b n 2 ++ [itoaB n] := by simp [txL, hbit]
        have HP := Lib.hid hpk
        clear hpk hbit
        go_wp2_with fail
        refine (cImm1 ⟨n1, n2⟩ Kr Tbr).mono ?_
        rintro e W5 ⟨rfl, hb5⟩
        have hown5 := own_below hown hb5
        have hnx5 := hnx.trans (hb5.mono hsize)
        have hsize5 := hnx5.size
        clear p0 p1 p2 q0 q1 q2 r1 Tr Kr Tbr
        go_wp2_with (first
          | (at_builtin; refine wpList_append_own _ rfl _ _ 49 rfl wc.heap.size 9 i0 (.string ByteArray.empty) 1 16 Tryz.underlying49 hi hz0 hz1 hz2 rfl (by decide) _ _ _ rfl (hown5.alloc _) ⟨W5.heap.size, 0, none⟩ 1 1 [.string (itoaB n)] rfl rfl (cell_one_of _ _ _) (fun x hx => by simp at hx; subst hx; rfl) (by unfold maxLen; omega) (by omega) (by simp; omega) ?_; intro v' w3 hown' hgrow3 hnil3))
        have hpk := HP.out
        go_roundw
        case rel =>
          obtain ⟨g3, cap3, hv3⟩ : ∃ g3 cap3, v' = .slice (some ⟨g3, 0, none⟩) ((txL u a b n 2).length + 1) cap3 := by
            rcases hown'.2 with ⟨_, h⟩ | ⟨g3, cap3, _, h, _⟩
            · omega
            · exact ⟨g3, cap3, h⟩
          have R : 3 ≤ 3 ∧ Value.int .i64 (2 + 1) = .int .i64 ((3 : Nat) : Int) ∧ v' = .slice (some ⟨g3, 0, none⟩) (txL u a b n 3).length cap3 ∧ w3.ownsRow wc.heap.size 9 1 v' (txL u a b n 3).length ((txL u a b n 3).map Value.string) ∧ Below wc.heap.size wc w3 :=
            ⟨by omega, by first | rfl | simp, by rw [hv3, hpk]; simp, by rw [hpk, List.map_append, List.length_append]; exact hown', (hnx5.alloc hnx5.size _).grown hgrow3 (by simp; omega) (fun q hq => (hown5.lt q hq).1)⟩
          first
            | exact ⟨3, some ⟨g3, 0, none⟩, cap3, R⟩
            | ((repeat apply Exists.intro); exact ⟨⟨3, some ⟨g3, 0, none⟩, cap3, R⟩, rfl⟩)
        case measure => simp [intOf]
    · have hjl := join_len (u := u) ⟨a1, a2⟩ ⟨b1, b2⟩ ⟨n1, n2⟩
      have hxl := txL_len u a b n 3
      generalize txL u a b n 3 = xs at *
      have r1 := r1
      clear p0 p1 p2 q0 q1 q2 r1 Tr Kr Tbr P0' P1' P2' HU
      cases xs with
      | nil =>
        have hT := HT.out
        rw [if_pos rfl] at hT
        subst hT
        go_wp2
        go_ret2
        exact ⟨rfl, B5.trans (hnx.mono B5.size)⟩
      | cons x0 xr =>
        have hT := HT.out
        rw [if_neg (by simp)] at hT
        have hne : (((x0 :: xr).length : Int) == 0) = false := by simp; omega
        generalize x0 :: xr = xs at *
        obtain ⟨g, rfl, hg⟩ : ∃ g, ao = some ⟨g, 0, none⟩ ∧ xs.length ≤ cv ∧ wc.heap.size ≤ g := by
          rcases hown.2 with ⟨h, h'⟩ | ⟨g, cap, cur, h, hb, hh, hc, _⟩
          · rw [h'] at hne; simp at hne
          · cases h; exact ⟨g, rfl, hc, hb⟩
        have hgl := (hown.lt g rfl).2
        have hcl := hown.cells (g := g) rfl
        generalize hj : (⟨(Lib.join (xs.map (·.data.toList)) [44, 32]).toArray⟩ : ByteArray) = jb at *
        have hjz : jb.size ≤ 80 := by rw [← hj]; simpa [ByteArray.size] using hjl
        have cJ : ∀ x : Since wr, Calls Tryz.prog 62 #[.slice (some ⟨g, 0, none⟩) xs.length cv, .string ⟨#[44, 32]⟩] x.val fun e w' => e = .returned (.string jb) ∧ Below x.val.heap.size x.val w' := by
          intro x
          have h := Tryz.strings_Join g 0 cv xs ⟨#[44, 32]⟩ x.val (fun j y hy => by
            have h1 : wr.cell? ⟨g, 0 + j, none⟩ = some (.string y) := by rw [← addr_off]; exact hcl j (.string y) (by simpa using hy)
            have h2 := x.low.cell (p := ⟨g, 0 + j, none⟩) hgl
            rw [h2]; exact h1) (by have := x.low.size; omega) (by omega) hg.1 (by simpa using Nat.le_trans hjl (by decide))
          rw [show (⟨#[44, 32]⟩ : ByteArray).data.toList = [44, 32] from rfl, hj] at h
          exact h
        have HJ := Lib.hid cJ
        have HN := Lib.hid hT
        clear hT cJ hj hjl hcl
        have r0 : ∀ x : Since wr, x.val.cell? ⟨W3.heap.size, 0, none⟩ = some (.string nm) := fun x => x.cell r0
        have z1 : (nm ++ (⟨#[32]⟩ : ByteArray)).size ≤ 6 := by rw [ByteArray.size_append]; have : (⟨#[32]⟩ : ByteArray).size = 1 := rfl; omega
        go_wp2_with fail
        refine wp_region_since (by kernel_rfl) (by kernel_rfl) ?_
        repeat (go_big_quiet_step (first | (go_at_call 62; exact Since.of (HJ.out _))))
        refine wpQuiet_nil ?_
        rintro _ ⟨x, rfl⟩
        go_wp2
        go_ret2
        refine ⟨?_, B5.trans ((hnx.trans (x.low.mono hnx.size)).mono B5.size)⟩
        rw [HN.out]; rfl
end Go.Proofs.YtbfmlmnhdogojaaGreatDoor
