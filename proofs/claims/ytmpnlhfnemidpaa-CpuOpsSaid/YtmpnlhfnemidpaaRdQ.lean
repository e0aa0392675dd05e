/- The document's Done: whole. -/
import Derived.Test.YtmpnlhfnemidpaaDq
import Derived.Test.YtmpnlhfnemidpaaRdM
import Derived.Test.YtmpnlhfnemidpaaRdN
import Derived.Test.YtmpnlhfnemidpaaRdR
import Derived.Test.YtmpnlhfnemidpaaRdS
import Derived.Test.YtmpnlhfnemidpaaRdT
import Derived.Test.YtmpnlhfnemidpaaRdU
import Derived.Test.YtmpnlhfnemidpaaRt
namespace Go.Proofs.Ytmpnlhfnemidpaa
open Go.RowKit Go.Shelf
theorem odd_eq (a : Int) : (a % 2 == 1) = (a % 2 != 0) := by
  rcases (show a % 2 = 0 ∨ a % 2 = 1 by omega) with h | h <;> rw [h] <;> rfl
theorem rDq1 {s : St} (hs : s.ok) {x : Int} (h0 : 0 ≤ x) (h1 : x < 4294967296) (hk : ((planL s x).kind == 1) = false) (e1 : dOp x = 1) {told : Int} (_ht : u32? told) (w : World) : Calls Try.prog 30 #[.agg (stA s), .int .u32 x, .int .u32 told] w fun e w' => e = .returned (.agg (stA (doneW s 1 (dA x) (reg s (dA x)) (reg s (dB x)) (dN x) told))) ∧ Below w.heap.size w w' := by
  have hok := plan_ok hk
  obtain ⟨_, ⟨a0, a1⟩, ⟨b0, b1⟩, bn⟩ := ok_bounds hok
  obtain ⟨ka, e2⟩ : ∃ k : Nat, dA x = k := ⟨_, (Int.toNat_of_nonneg a0).symm⟩
  obtain ⟨kb, e3⟩ : ∃ k : Nat, dB x = k := ⟨_, (Int.toNat_of_nonneg b0).symm⟩
  obtain ⟨n, e4⟩ : ∃ n, dN x = n := ⟨_, rfl⟩
  have hka : ka < 8 := by omega
  have hkb : kb < 8 := by omega
  rw [e4] at bn
  refine (rDone1 hs hok h0 h1 hka hkb bn e1 e2 e3 e4 (hs.reg (dA x)) (hs.reg (dB x)) (by rw [← e2]) (by rw [← e3]) rfl hk w).mono ?_
  rintro e w' ⟨rfl, hb⟩
  refine ⟨?_, hb⟩
  rw [e4, e2, e3]
  simp only [doneW, takenL, putL]
  simp
theorem rDq2 {s : St} (hs : s.ok) {x : Int} (h0 : 0 ≤ x) (h1 : x < 4294967296) (hk : ((planL s x).kind == 1) = false) (e1 : dOp x = 2) {told : Int} (_ht : u32? told) (w : World) : Calls Try.prog 30 #[.agg (stA s), .int .u32 x, .int .u32 told] w fun e w' => e = .returned (.agg (stA (doneW s 2 (dA x) (reg s (dA x)) (reg s (dB x)) (dN x) told))) ∧ Below w.heap.size w w' := by
  have hok := plan_ok hk
  obtain ⟨_, ⟨a0, a1⟩, ⟨b0, b1⟩, bn⟩ := ok_bounds hok
  obtain ⟨ka, e2⟩ : ∃ k : Nat, dA x = k := ⟨_, (Int.toNat_of_nonneg a0).symm⟩
  obtain ⟨kb, e3⟩ : ∃ k : Nat, dB x = k := ⟨_, (Int.toNat_of_nonneg b0).symm⟩
  obtain ⟨n, e4⟩ : ∃ n, dN x = n := ⟨_, rfl⟩
  have hka : ka < 8 := by omega
  have hkb : kb < 8 := by omega
  rw [e4] at bn
  refine (rDone2 hs hok h0 h1 hka hkb bn e1 e2 e3 e4 (hs.reg (dA x)) (hs.reg (dB x)) (by rw [← e2]) (by rw [← e3]) rfl hk w).mono ?_
  rintro e w' ⟨rfl, hb⟩
  refine ⟨?_, hb⟩
  rw [e4, e2, e3]
  simp only [doneW, takenL, putL]
  simp
theorem rDq3 {s : St} (hs : s.ok) {x : Int} (h0 : 0 ≤ x) (h1 : x < 4294967296) (hk : ((planL s x).kind == 1) = false) (e1 : dOp x = 3) {told : Int} (_ht : u32? told) (w : World) : Calls Try.prog 30 #[.agg (stA s), .int .u32 x, .int .u32 told] w fun e w' => e = .returned (.agg (stA (doneW s 3 (dA x) (reg s (dA x)) (reg s (dB x)) (dN x) told))) ∧ Below w.heap.size w w' := by
  have hok := plan_ok hk
  obtain ⟨_, ⟨a0, a1⟩, ⟨b0, b1⟩, bn⟩ := ok_bounds hok
  obtain ⟨ka, e2⟩ : ∃ k : Nat, dA x = k := ⟨_, (Int.toNat_of_nonneg a0).symm⟩
  obtain ⟨kb, e3⟩ : ∃ k : Nat, dB x = k := ⟨_, (Int.toNat_of_nonneg b0).symm⟩
  obtain ⟨n, e4⟩ : ∃ n, dN x = n := ⟨_, rfl⟩
  have hka : ka < 8 := by omega
  have hkb : kb < 8 := by omega
  rw [e4] at bn
  refine (rDone3 hs hok h0 h1 hka hkb bn e1 e2 e3 e4 (hs.reg (dA x)) (hs.reg (dB x)) (by rw [← e2]) (by rw [← e3]) rfl hk w).mono ?_
  rintro e w' ⟨rfl, hb⟩
  refine ⟨?_, hb⟩
  rw [e4, e2, e3]
  simp only [doneW, takenL, putL]
  simp
theorem rDq4 {s : St} (hs : s.ok) {x : Int} (h0 : 0 ≤ x) (h1 : x < 4294967296) (hk : ((planL s x).kind == 1) = false) (e1 : dOp x = 4) {told : Int} (_ht : u32? told) (w : World) : Calls Try.prog 30 #[.agg (stA s), .int .u32 x, .int .u32 told] w fun e w' => e = .returned (.agg (stA (doneW s 4 (dA x) (reg s (dA x)) (reg s (dB x)) (dN x) told))) ∧ Below w.heap.size w w' := by
  have hok := plan_ok hk
  obtain ⟨_, ⟨a0, a1⟩, ⟨b0, b1⟩, bn⟩ := ok_bounds hok
  obtain ⟨ka, e2⟩ : ∃ k : Nat, dA x = k := ⟨_, (Int.toNat_of_nonneg a0).symm⟩
  obtain ⟨kb, e3⟩ : ∃ k : Nat, dB x = k := ⟨_, (Int.toNat_of_nonneg b0).symm⟩
  obtain ⟨n, e4⟩ : ∃ n, dN x = n := ⟨_, rfl⟩
  have hka : ka < 8 := by omega
  have hkb : kb < 8 := by omega
  rw [e4] at bn
  refine (rDone4 hs hok h0 h1 hka hkb bn e1 e2 e3 e4 (hs.reg (dA x)) (hs.reg (dB x)) (by rw [← e2]) (by rw [← e3]) rfl hk w).mono ?_
  rintro e w' ⟨rfl, hb⟩
  refine ⟨?_, hb⟩
  rw [e4, e2, e3]
  simp only [doneW, takenL, putL]
  simp
theorem rDq5 {s : St} (hs : s.ok) {x : Int} (h0 : 0 ≤ x) (h1 : x < 4294967296) (hk : ((planL s x).kind == 1) = false) (e1 : dOp x = 5) {told : Int} (_ht : u32? told) (w : World) : Calls Try.prog 30 #[.agg (stA s), .int .u32 x, .int .u32 told] w fun e w' => e = .returned (.agg (stA (doneW s 5 (dA x) (reg s (dA x)) (reg s (dB x)) (dN x) told))) ∧ Below w.heap.size w w' := by
  have hok := plan_ok hk
  obtain ⟨_, ⟨a0, a1⟩, ⟨b0, b1⟩, bn⟩ := ok_bounds hok
  obtain ⟨ka, e2⟩ : ∃ k : Nat, dA x = k := ⟨_, (Int.toNat_of_nonneg a0).symm⟩
  obtain ⟨kb, e3⟩ : ∃ k : Nat, dB x = k := ⟨_, (Int.toNat_of_nonneg b0).symm⟩
  obtain ⟨n, e4⟩ : ∃ n, dN x = n := ⟨_, rfl⟩
  have hka : ka < 8 := by omega
  have hkb : kb < 8 := by omega
  rw [e4] at bn
  refine (rDone5 hs hok h0 h1 hka hkb bn e1 e2 e3 e4 (hs.reg (dA x)) (hs.reg (dB x)) (by rw [← e2]) (by rw [← e3]) rfl hk w).mono ?_
  rintro e w' ⟨rfl, hb⟩
  refine ⟨?_, hb⟩
  rw [e4, e2, e3]
  simp only [doneW, takenL, putL]
  simp
theorem rDq6 {s : St} (hs : s.ok) {x : Int} (h0 : 0 ≤ x) (h1 : x < 4294967296) (hk : ((planL s x).kind == 1) = false) (e1 : dOp x = 6) {told : Int} (_ht : u32? told) (w : World) : Calls Try.prog 30 #[.agg (stA s), .int .u32 x, .int .u32 told] w fun e w' => e = .returned (.agg (stA (doneW s 6 (dA x) (reg s (dA x)) (reg s (dB x)) (dN x) told))) ∧ Below w.heap.size w w' := by
  have hok := plan_ok hk
  obtain ⟨_, ⟨a0, a1⟩, ⟨b0, b1⟩, bn⟩ := ok_bounds hok
  obtain ⟨ka, e2⟩ : ∃ k : Nat, dA x = k := ⟨_, (Int.toNat_of_nonneg a0).symm⟩
  obtain ⟨kb, e3⟩ : ∃ k : Nat, dB x = k := ⟨_, (Int.toNat_of_nonneg b0).symm⟩
  obtain ⟨n, e4⟩ : ∃ n, dN x = n := ⟨_, rfl⟩
  have hka : ka < 8 := by omega
  have hkb : kb < 8 := by omega
  rw [e4] at bn
  refine (rDone6 hs hok h0 h1 hka hkb bn e1 e2 e3 e4 (hs.reg (dA x)) (hs.reg (dB x)) (by rw [← e2]) (by rw [← e3]) rfl hk w).mono ?_
  rintro e w' ⟨rfl, hb⟩
  refine ⟨?_, hb⟩
  rw [e4, e2, e3]
  simp only [doneW, takenL, putL]
  simp
theorem rDq7 {s : St} (hs : s.ok) {x : Int} (h0 : 0 ≤ x) (h1 : x < 4294967296) (hk : ((planL s x).kind == 1) = false) (e1 : dOp x = 7) {told : Int} (_ht : u32? told) (w : World) : Calls Try.prog 30 #[.agg (stA s), .int .u32 x, .int .u32 told] w fun e w' => e = .returned (.agg (stA (doneW s 7 (dA x) (reg s (dA x)) (reg s (dB x)) (dN x) told))) ∧ Below w.heap.size w w' := by
  have hok := plan_ok hk
  obtain ⟨_, ⟨a0, a1⟩, ⟨b0, b1⟩, bn⟩ := ok_bounds hok
  obtain ⟨ka, e2⟩ : ∃ k : Nat, dA x = k := ⟨_, (Int.toNat_of_nonneg a0).symm⟩
  obtain ⟨kb, e3⟩ : ∃ k : Nat, dB x = k := ⟨_, (Int.toNat_of_nonneg b0).symm⟩
  obtain ⟨n, e4⟩ : ∃ n, dN x = n := ⟨_, rfl⟩
  have hka : ka < 8 := by omega
  have hkb : kb < 8 := by omega
  rw [e4] at bn
  refine (rDone7 hs hok h0 h1 hka hkb bn e1 e2 e3 e4 (hs.reg (dA x)) (hs.reg (dB x)) (by rw [← e2]) (by rw [← e3]) rfl hk w).mono ?_
  rintro e w' ⟨rfl, hb⟩
  refine ⟨?_, hb⟩
  rw [e4, e2, e3]
  simp only [doneW, takenL, putL]
  simp
theorem rDq8 {s : St} (hs : s.ok) {x : Int} (h0 : 0 ≤ x) (h1 : x < 4294967296) (hk : ((planL s x).kind == 1) = false) (e1 : dOp x = 8) {told : Int} (_ht : u32? told) (w : World) : Calls Try.prog 30 #[.agg (stA s), .int .u32 x, .int .u32 told] w fun e w' => e = .returned (.agg (stA (doneW s 8 (dA x) (reg s (dA x)) (reg s (dB x)) (dN x) told))) ∧ Below w.heap.size w w' := by
  have hok := plan_ok hk
  obtain ⟨_, ⟨a0, a1⟩, ⟨b0, b1⟩, bn⟩ := ok_bounds hok
  obtain ⟨ka, e2⟩ : ∃ k : Nat, dA x = k := ⟨_, (Int.toNat_of_nonneg a0).symm⟩
  obtain ⟨kb, e3⟩ : ∃ k : Nat, dB x = k := ⟨_, (Int.toNat_of_nonneg b0).symm⟩
  obtain ⟨n, e4⟩ : ∃ n, dN x = n := ⟨_, rfl⟩
  have hka : ka < 8 := by omega
  have hkb : kb < 8 := by omega
  rw [e4] at bn
  refine (rDone8 hs hok h0 h1 hka hkb bn e1 e2 e3 e4 (hs.reg (dA x)) (hs.reg (dB x)) (by rw [← e2]) (by rw [← e3]) rfl hk w).mono ?_
  rintro e w' ⟨rfl, hb⟩
  refine ⟨?_, hb⟩
  rw [e4, e2, e3]
  simp only [doneW, takenL, putL]
  simp
theorem rDq9 {s : St} (hs : s.ok) {x : Int} (h0 : 0 ≤ x) (h1 : x < 4294967296) (hk : ((planL s x).kind == 1) = false) (e1 : dOp x = 9) {told : Int} (_ht : u32? told) (w : World) : Calls Try.prog 30 #[.agg (stA s), .int .u32 x, .int .u32 told] w fun e w' => e = .returned (.agg (stA (doneW s 9 (dA x) (reg s (dA x)) (reg s (dB x)) (dN x) told))) ∧ Below w.heap.size w w' := by
  have hok := plan_ok hk
  obtain ⟨_, ⟨a0, a1⟩, ⟨b0, b1⟩, bn⟩ := ok_bounds hok
  obtain ⟨ka, e2⟩ : ∃ k : Nat, dA x = k := ⟨_, (Int.toNat_of_nonneg a0).symm⟩
  obtain ⟨kb, e3⟩ : ∃ k : Nat, dB x = k := ⟨_, (Int.toNat_of_nonneg b0).symm⟩
  obtain ⟨n, e4⟩ : ∃ n, dN x = n := ⟨_, rfl⟩
  have hka : ka < 8 := by omega
  have hkb : kb < 8 := by omega
  rw [e4] at bn
  refine (rDone9 hs hok h0 h1 hka hkb bn e1 e2 e3 e4 (hs.reg (dA x)) (hs.reg (dB x)) (by rw [← e2]) (by rw [← e3]) rfl hk w).mono ?_
  rintro e w' ⟨rfl, hb⟩
  refine ⟨?_, hb⟩
  rw [e4, e2, e3]
  simp only [doneW, takenL, putL]
  simp
theorem rDq10 {s : St} (hs : s.ok) {x : Int} (h0 : 0 ≤ x) (h1 : x < 4294967296) (hk : ((planL s x).kind == 1) = false) (e1 : dOp x = 10) {told : Int} (_ht : u32? told) (w : World) : Calls Try.prog 30 #[.agg (stA s), .int .u32 x, .int .u32 told] w fun e w' => e = .returned (.agg (stA (doneW s 10 (dA x) (reg s (dA x)) (reg s (dB x)) (dN x) told))) ∧ Below w.heap.size w w' := by
  have hok := plan_ok hk
  obtain ⟨_, ⟨a0, a1⟩, ⟨b0, b1⟩, bn⟩ := ok_bounds hok
  obtain ⟨ka, e2⟩ : ∃ k : Nat, dA x = k := ⟨_, (Int.toNat_of_nonneg a0).symm⟩
  obtain ⟨kb, e3⟩ : ∃ k : Nat, dB x = k := ⟨_, (Int.toNat_of_nonneg b0).symm⟩
  obtain ⟨n, e4⟩ : ∃ n, dN x = n := ⟨_, rfl⟩
  have hka : ka < 8 := by omega
  have hkb : kb < 8 := by omega
  rw [e4] at bn
  refine (rDone10 hs hok h0 h1 hka hkb bn e1 e2 e3 e4 (hs.reg (dA x)) (hs.reg (dB x)) (by rw [← e2]) (by rw [← e3]) rfl hk w).mono ?_
  rintro e w' ⟨rfl, hb⟩
  refine ⟨?_, hb⟩
  rw [e4, e2, e3]
  simp only [doneW, takenL, putL]
  simp
theorem rDq11 {s : St} (hs : s.ok) {x : Int} (h0 : 0 ≤ x) (h1 : x < 4294967296) (hk : ((planL s x).kind == 1) = false) (e1 : dOp x = 11) {told : Int} (_ht : u32? told) (w : World) : Calls Try.prog 30 #[.agg (stA s), .int .u32 x, .int .u32 told] w fun e w' => e = .returned (.agg (stA (doneW s 11 (dA x) (reg s (dA x)) (reg s (dB x)) (dN x) told))) ∧ Below w.heap.size w w' := by
  have hok := plan_ok hk
  obtain ⟨_, ⟨a0, a1⟩, ⟨b0, b1⟩, bn⟩ := ok_bounds hok
  obtain ⟨ka, e2⟩ : ∃ k : Nat, dA x = k := ⟨_, (Int.toNat_of_nonneg a0).symm⟩
  obtain ⟨kb, e3⟩ : ∃ k : Nat, dB x = k := ⟨_, (Int.toNat_of_nonneg b0).symm⟩
  obtain ⟨n, e4⟩ : ∃ n, dN x = n := ⟨_, rfl⟩
  have hka : ka < 8 := by omega
  have hkb : kb < 8 := by omega
  rw [e4] at bn
  refine (rDone11 hs hok h0 h1 hka hkb bn e1 e2 e3 e4 (hs.reg (dA x)) (hs.reg (dB x)) (by rw [← e2]) (by rw [← e3]) rfl hk w).mono ?_
  rintro e w' ⟨rfl, hb⟩
  refine ⟨?_, hb⟩
  rw [e4, e2, e3]
  simp only [doneW, takenL, putL]
  simp
theorem rDq12 {s : St} (hs : s.ok) {x : Int} (h0 : 0 ≤ x) (h1 : x < 4294967296) (hk : ((planL s x).kind == 1) = false) (e1 : dOp x = 12) {told : Int} (_ht : u32? told) (w : World) : Calls Try.prog 30 #[.agg (stA s), .int .u32 x, .int .u32 told] w fun e w' => e = .returned (.agg (stA (doneW s 12 (dA x) (reg s (dA x)) (reg s (dB x)) (dN x) told))) ∧ Below w.heap.size w w' := by
  have hok := plan_ok hk
  obtain ⟨_, ⟨a0, a1⟩, ⟨b0, b1⟩, bn⟩ := ok_bounds hok
  obtain ⟨ka, e2⟩ : ∃ k : Nat, dA x = k := ⟨_, (Int.toNat_of_nonneg a0).symm⟩
  obtain ⟨kb, e3⟩ : ∃ k : Nat, dB x = k := ⟨_, (Int.toNat_of_nonneg b0).symm⟩
  obtain ⟨n, e4⟩ : ∃ n, dN x = n := ⟨_, rfl⟩
  have hka : ka < 8 := by omega
  have hkb : kb < 8 := by omega
  rw [e4] at bn
  refine (rDone12 hs hok h0 h1 hka hkb bn e1 e2 e3 e4 (hs.reg (dA x)) (hs.reg (dB x)) (by rw [← e2]) (by rw [← e3]) rfl hk w).mono ?_
  rintro e w' ⟨rfl, hb⟩
  refine ⟨?_, hb⟩
  rw [e4, e2, e3]
  simp only [doneW, takenL, putL]
  simp
theorem rDq13 {s : St} (hs : s.ok) {x : Int} (h0 : 0 ≤ x) (h1 : x < 4294967296) (hk : ((planL s x).kind == 1) = false) (e1 : dOp x = 13) {told : Int} (_ht : u32? told) (w : World) : Calls Try.prog 30 #[.agg (stA s), .int .u32 x, .int .u32 told] w fun e w' => e = .returned (.agg (stA (doneW s 13 (dA x) (reg s (dA x)) (reg s (dB x)) (dN x) told))) ∧ Below w.heap.size w w' := by
  have hok := plan_ok hk
  obtain ⟨_, ⟨a0, a1⟩, ⟨b0, b1⟩, bn⟩ := ok_bounds hok
  obtain ⟨ka, e2⟩ : ∃ k : Nat, dA x = k := ⟨_, (Int.toNat_of_nonneg a0).symm⟩
  obtain ⟨kb, e3⟩ : ∃ k : Nat, dB x = k := ⟨_, (Int.toNat_of_nonneg b0).symm⟩
  obtain ⟨n, e4⟩ : ∃ n, dN x = n := ⟨_, rfl⟩
  have hka : ka < 8 := by omega
  have hkb : kb < 8 := by omega
  rw [e4] at bn
  refine (rDone13 hs hok h0 h1 hka hkb bn e1 e2 e3 e4 (hs.reg (dA x)) (hs.reg (dB x)) (by rw [← e2]) (by rw [← e3]) rfl hk w).mono ?_
  rintro e w' ⟨rfl, hb⟩
  refine ⟨?_, hb⟩
  rw [e4, e2, e3]
  simp only [doneW, takenL, putL]
  simp
theorem rDq14 {s : St} (hs : s.ok) {x : Int} (h0 : 0 ≤ x) (h1 : x < 4294967296) (hk : ((planL s x).kind == 1) = false) (e1 : dOp x = 14) {told : Int} (_ht : u32? told) (w : World) : Calls Try.prog 30 #[.agg (stA s), .int .u32 x, .int .u32 told] w fun e w' => e = .returned (.agg (stA (doneW s 14 (dA x) (reg s (dA x)) (reg s (dB x)) (dN x) told))) ∧ Below w.heap.size w w' := by
  have hok := plan_ok hk
  obtain ⟨_, ⟨a0, a1⟩, ⟨b0, b1⟩, bn⟩ := ok_bounds hok
  obtain ⟨ka, e2⟩ : ∃ k : Nat, dA x = k := ⟨_, (Int.toNat_of_nonneg a0).symm⟩
  obtain ⟨kb, e3⟩ : ∃ k : Nat, dB x = k := ⟨_, (Int.toNat_of_nonneg b0).symm⟩
  obtain ⟨n, e4⟩ : ∃ n, dN x = n := ⟨_, rfl⟩
  have hka : ka < 8 := by omega
  have hkb : kb < 8 := by omega
  rw [e4] at bn
  refine (rDone14 hs hok h0 h1 hka hkb bn e1 e2 e3 e4 (hs.reg (dA x)) (hs.reg (dB x)) (by rw [← e2]) (by rw [← e3]) rfl hk w).mono ?_
  rintro e w' ⟨rfl, hb⟩
  refine ⟨?_, hb⟩
  rw [e4, e2, e3]
  simp only [doneW, takenL, putL]
  simp
theorem rDq15 {s : St} (hs : s.ok) {x : Int} (h0 : 0 ≤ x) (h1 : x < 4294967296) (hk : ((planL s x).kind == 1) = false) (e1 : dOp x = 15) {told : Int} (ht : u32? told) (w : World) : Calls Try.prog 30 #[.agg (stA s), .int .u32 x, .int .u32 told] w fun e w' => e = .returned (.agg (stA (doneW s 15 (dA x) (reg s (dA x)) (reg s (dB x)) (dN x) told))) ∧ Below w.heap.size w w' := by
  have hok := plan_ok hk
  obtain ⟨_, ⟨a0, a1⟩, ⟨b0, b1⟩, bn⟩ := ok_bounds hok
  obtain ⟨ka, e2⟩ : ∃ k : Nat, dA x = k := ⟨_, (Int.toNat_of_nonneg a0).symm⟩
  obtain ⟨kb, e3⟩ : ∃ k : Nat, dB x = k := ⟨_, (Int.toNat_of_nonneg b0).symm⟩
  obtain ⟨n, e4⟩ : ∃ n, dN x = n := ⟨_, rfl⟩
  have hka : ka < 8 := by omega
  have hkb : kb < 8 := by omega
  rw [e4] at bn
  refine (rDone15 hs hok h0 h1 hka hkb bn e1 e2 e3 e4 (hs.reg (dA x)) (hs.reg (dB x)) (by rw [← e2]) (by rw [← e3]) rfl hk ht w).mono ?_
  rintro e w' ⟨rfl, hb⟩
  refine ⟨?_, hb⟩
  rw [e4, e2, e3]
  simp only [doneW, takenL, putL]
  simp
theorem rDq16 {s : St} (hs : s.ok) {x : Int} (h0 : 0 ≤ x) (h1 : x < 4294967296) (hk : ((planL s x).kind == 1) = false) (e1 : dOp x = 16) {told : Int} (_ht : u32? told) (w : World) : Calls Try.prog 30 #[.agg (stA s), .int .u32 x, .int .u32 told] w fun e w' => e = .returned (.agg (stA (doneW s 16 (dA x) (reg s (dA x)) (reg s (dB x)) (dN x) told))) ∧ Below w.heap.size w w' := by
  have hok := plan_ok hk
  obtain ⟨_, ⟨a0, a1⟩, ⟨b0, b1⟩, bn⟩ := ok_bounds hok
  obtain ⟨ka, e2⟩ : ∃ k : Nat, dA x = k := ⟨_, (Int.toNat_of_nonneg a0).symm⟩
  obtain ⟨kb, e3⟩ : ∃ k : Nat, dB x = k := ⟨_, (Int.toNat_of_nonneg b0).symm⟩
  obtain ⟨n, e4⟩ : ∃ n, dN x = n := ⟨_, rfl⟩
  have hka : ka < 8 := by omega
  have hkb : kb < 8 := by omega
  rw [e4] at bn
  refine (rDone16 hs hok h0 h1 hka hkb bn e1 e2 e3 e4 (hs.reg (dA x)) (hs.reg (dB x)) (by rw [← e2]) (by rw [← e3]) rfl hk w).mono ?_
  rintro e w' ⟨rfl, hb⟩
  refine ⟨?_, hb⟩
  rw [e4, e2, e3]
  simp only [doneW, takenL, putL]
  simp
theorem rDq17 {s : St} (hs : s.ok) {x : Int} (h0 : 0 ≤ x) (h1 : x < 4294967296) (hk : ((planL s x).kind == 1) = false) (e1 : dOp x = 17) {told : Int} (_ht : u32? told) (w : World) : Calls Try.prog 30 #[.agg (stA s), .int .u32 x, .int .u32 told] w fun e w' => e = .returned (.agg (stA (doneW s 17 (dA x) (reg s (dA x)) (reg s (dB x)) (dN x) told))) ∧ Below w.heap.size w w' := by
  have hok := plan_ok hk
  obtain ⟨_, ⟨a0, a1⟩, ⟨b0, b1⟩, bn⟩ := ok_bounds hok
  obtain ⟨ka, e2⟩ : ∃ k : Nat, dA x = k := ⟨_, (Int.toNat_of_nonneg a0).symm⟩
  obtain ⟨kb, e3⟩ : ∃ k : Nat, dB x = k := ⟨_, (Int.toNat_of_nonneg b0).symm⟩
  obtain ⟨n, e4⟩ : ∃ n, dN x = n := ⟨_, rfl⟩
  have hka : ka < 8 := by omega
  have hkb : kb < 8 := by omega
  rw [e4] at bn
  cases ht2 : (reg s (dA x) == reg s (dB x))
  · refine (rDone17n hs hok h0 h1 hka hkb bn e1 e2 e3 e4 (hs.reg (dA x)) (hs.reg (dB x)) (by rw [← e2]) (by rw [← e3]) rfl hk ht2 w).mono ?_
    rintro e w' ⟨rfl, hb⟩
    refine ⟨?_, hb⟩
    rw [e4, e2, e3]
    simp only [doneW, takenL, putL]
    rw [e2, e3] at ht2
    (try simp at ht2)
    (try simp)
    (try simp [ht2])
    (try rw [if_neg (Int.not_lt.2 ht2)])
  · refine (rDone17y hs hok h0 h1 hka hkb bn e1 e2 e3 e4 (hs.reg (dA x)) (hs.reg (dB x)) (by rw [← e2]) (by rw [← e3]) rfl hk ht2 w).mono ?_
    rintro e w' ⟨rfl, hb⟩
    refine ⟨?_, hb⟩
    rw [e4, e2, e3]
    simp only [doneW, takenL, putL]
    rw [e2, e3] at ht2
    (try simp at ht2)
    (try simp)
    (try simp [ht2])
    (try rw [if_neg (Int.not_lt.2 ht2)])

theorem rDq18 {s : St} (hs : s.ok) {x : Int} (h0 : 0 ≤ x) (h1 : x < 4294967296) (hk : ((planL s x).kind == 1) = false) (e1 : dOp x = 18) {told : Int} (_ht : u32? told) (w : World) : Calls Try.prog 30 #[.agg (stA s), .int .u32 x, .int .u32 told] w fun e w' => e = .returned (.agg (stA (doneW s 18 (dA x) (reg s (dA x)) (reg s (dB x)) (dN x) told))) ∧ Below w.heap.size w w' := by
  have hok := plan_ok hk
  obtain ⟨_, ⟨a0, a1⟩, ⟨b0, b1⟩, bn⟩ := ok_bounds hok
  obtain ⟨ka, e2⟩ : ∃ k : Nat, dA x = k := ⟨_, (Int.toNat_of_nonneg a0).symm⟩
  obtain ⟨kb, e3⟩ : ∃ k : Nat, dB x = k := ⟨_, (Int.toNat_of_nonneg b0).symm⟩
  obtain ⟨n, e4⟩ : ∃ n, dN x = n := ⟨_, rfl⟩
  have hka : ka < 8 := by omega
  have hkb : kb < 8 := by omega
  rw [e4] at bn
  cases ht2 : (reg s (dA x) != reg s (dB x))
  · refine (rDone18n hs hok h0 h1 hka hkb bn e1 e2 e3 e4 (hs.reg (dA x)) (hs.reg (dB x)) (by rw [← e2]) (by rw [← e3]) rfl hk ht2 w).mono ?_
    rintro e w' ⟨rfl, hb⟩
    refine ⟨?_, hb⟩
    rw [e4, e2, e3]
    simp only [doneW, takenL, putL]
    rw [e2, e3] at ht2
    (try simp at ht2)
    (try simp)
    (try simp [ht2])
    (try rw [if_neg (Int.not_lt.2 ht2)])
  · refine (rDone18y hs hok h0 h1 hka hkb bn e1 e2 e3 e4 (hs.reg (dA x)) (hs.reg (dB x)) (by rw [← e2]) (by rw [← e3]) rfl hk ht2 w).mono ?_
    rintro e w' ⟨rfl, hb⟩
    refine ⟨?_, hb⟩
    rw [e4, e2, e3]
    simp only [doneW, takenL, putL]
    rw [e2, e3] at ht2
    (try simp at ht2)
    (try simp)
    (try simp [ht2])
    (try rw [if_neg (Int.not_lt.2 ht2)])

theorem rDq19 {s : St} (hs : s.ok) {x : Int} (h0 : 0 ≤ x) (h1 : x < 4294967296) (hk : ((planL s x).kind == 1) = false) (e1 : dOp x = 19) {told : Int} (_ht : u32? told) (w : World) : Calls Try.prog 30 #[.agg (stA s), .int .u32 x, .int .u32 told] w fun e w' => e = .returned (.agg (stA (doneW s 19 (dA x) (reg s (dA x)) (reg s (dB x)) (dN x) told))) ∧ Below w.heap.size w w' := by
  have hok := plan_ok hk
  obtain ⟨_, ⟨a0, a1⟩, ⟨b0, b1⟩, bn⟩ := ok_bounds hok
  obtain ⟨ka, e2⟩ : ∃ k : Nat, dA x = k := ⟨_, (Int.toNat_of_nonneg a0).symm⟩
  obtain ⟨kb, e3⟩ : ∃ k : Nat, dB x = k := ⟨_, (Int.toNat_of_nonneg b0).symm⟩
  obtain ⟨n, e4⟩ : ∃ n, dN x = n := ⟨_, rfl⟩
  have hka : ka < 8 := by omega
  have hkb : kb < 8 := by omega
  rw [e4] at bn
  cases ht2 : (decide (wrap32 (reg s (dA x)) < wrap32 (reg s (dB x))))
  · refine (rDone19n hs hok h0 h1 hka hkb bn e1 e2 e3 e4 (hs.reg (dA x)) (hs.reg (dB x)) (by rw [← e2]) (by rw [← e3]) rfl hk ht2 w).mono ?_
    rintro e w' ⟨rfl, hb⟩
    refine ⟨?_, hb⟩
    rw [e4, e2, e3]
    simp only [doneW, takenL, putL]
    rw [e2, e3] at ht2
    (try simp at ht2)
    (try simp)
    (try simp [ht2])
    (try rw [if_neg (Int.not_lt.2 ht2)])
  · refine (rDone19y hs hok h0 h1 hka hkb bn e1 e2 e3 e4 (hs.reg (dA x)) (hs.reg (dB x)) (by rw [← e2]) (by rw [← e3]) rfl hk ht2 w).mono ?_
    rintro e w' ⟨rfl, hb⟩
    refine ⟨?_, hb⟩
    rw [e4, e2, e3]
    simp only [doneW, takenL, putL]
    rw [e2, e3] at ht2
    (try simp at ht2)
    (try simp)
    (try simp [ht2])
    (try rw [if_neg (Int.not_lt.2 ht2)])

theorem rDq20 {s : St} (hs : s.ok) {x : Int} (h0 : 0 ≤ x) (h1 : x < 4294967296) (hk : ((planL s x).kind == 1) = false) (e1 : dOp x = 20) {told : Int} (_ht : u32? told) (w : World) : Calls Try.prog 30 #[.agg (stA s), .int .u32 x, .int .u32 told] w fun e w' => e = .returned (.agg (stA (doneW s 20 (dA x) (reg s (dA x)) (reg s (dB x)) (dN x) told))) ∧ Below w.heap.size w w' := by
  have hok := plan_ok hk
  obtain ⟨_, ⟨a0, a1⟩, ⟨b0, b1⟩, bn⟩ := ok_bounds hok
  obtain ⟨ka, e2⟩ : ∃ k : Nat, dA x = k := ⟨_, (Int.toNat_of_nonneg a0).symm⟩
  obtain ⟨kb, e3⟩ : ∃ k : Nat, dB x = k := ⟨_, (Int.toNat_of_nonneg b0).symm⟩
  obtain ⟨n, e4⟩ : ∃ n, dN x = n := ⟨_, rfl⟩
  have hka : ka < 8 := by omega
  have hkb : kb < 8 := by omega
  rw [e4] at bn
  refine (rDone20 hs hok h0 h1 hka hkb bn e1 e2 e3 e4 (hs.reg (dA x)) (hs.reg (dB x)) (by rw [← e2]) (by rw [← e3]) rfl hk w).mono ?_
  rintro e w' ⟨rfl, hb⟩
  refine ⟨?_, hb⟩
  rw [e4, e2, e3]
  simp only [doneW, takenL, putL]
  simp
theorem rDq21 {s : St} (hs : s.ok) {x : Int} (h0 : 0 ≤ x) (h1 : x < 4294967296) (hk : ((planL s x).kind == 1) = false) (e1 : dOp x = 21) {told : Int} (_ht : u32? told) (w : World) : Calls Try.prog 30 #[.agg (stA s), .int .u32 x, .int .u32 told] w fun e w' => e = .returned (.agg (stA (doneW s 21 (dA x) (reg s (dA x)) (reg s (dB x)) (dN x) told))) ∧ Below w.heap.size w w' := by
  have hok := plan_ok hk
  obtain ⟨_, ⟨a0, a1⟩, ⟨b0, b1⟩, bn⟩ := ok_bounds hok
  obtain ⟨ka, e2⟩ : ∃ k : Nat, dA x = k := ⟨_, (Int.toNat_of_nonneg a0).symm⟩
  obtain ⟨kb, e3⟩ : ∃ k : Nat, dB x = k := ⟨_, (Int.toNat_of_nonneg b0).symm⟩
  obtain ⟨n, e4⟩ : ∃ n, dN x = n := ⟨_, rfl⟩
  have hka : ka < 8 := by omega
  have hkb : kb < 8 := by omega
  rw [e4] at bn
  refine (rDone21 hs hok h0 h1 hka hkb bn e1 e2 e3 e4 (hs.reg (dA x)) (hs.reg (dB x)) (by rw [← e2]) (by rw [← e3]) rfl hk w).mono ?_
  rintro e w' ⟨rfl, hb⟩
  refine ⟨?_, hb⟩
  rw [e4, e2, e3]
  simp only [doneW, takenL, putL]
  simp
theorem rDq22 {s : St} (hs : s.ok) {x : Int} (h0 : 0 ≤ x) (h1 : x < 4294967296) (hk : ((planL s x).kind == 1) = false) (e1 : dOp x = 22) {told : Int} (_ht : u32? told) (w : World) : Calls Try.prog 30 #[.agg (stA s), .int .u32 x, .int .u32 told] w fun e w' => e = .returned (.agg (stA (doneW s 22 (dA x) (reg s (dA x)) (reg s (dB x)) (dN x) told))) ∧ Below w.heap.size w w' := by
  have hok := plan_ok hk
  obtain ⟨_, ⟨a0, a1⟩, ⟨b0, b1⟩, bn⟩ := ok_bounds hok
  obtain ⟨ka, e2⟩ : ∃ k : Nat, dA x = k := ⟨_, (Int.toNat_of_nonneg a0).symm⟩
  obtain ⟨kb, e3⟩ : ∃ k : Nat, dB x = k := ⟨_, (Int.toNat_of_nonneg b0).symm⟩
  obtain ⟨n, e4⟩ : ∃ n, dN x = n := ⟨_, rfl⟩
  have hka : ka < 8 := by omega
  have hkb : kb < 8 := by omega
  rw [e4] at bn
  refine (rDone22 hs hok h0 h1 hka hkb bn e1 e2 e3 e4 (hs.reg (dA x)) (hs.reg (dB x)) (by rw [← e2]) (by rw [← e3]) rfl hk w).mono ?_
  rintro e w' ⟨rfl, hb⟩
  refine ⟨?_, hb⟩
  rw [e4, e2, e3]
  simp only [doneW, takenL, putL]
  simp
theorem rDq23 {s : St} (hs : s.ok) {x : Int} (h0 : 0 ≤ x) (h1 : x < 4294967296) (hk : ((planL s x).kind == 1) = false) (e1 : dOp x = 23) {told : Int} (_ht : u32? told) (w : World) : Calls Try.prog 30 #[.agg (stA s), .int .u32 x, .int .u32 told] w fun e w' => e = .returned (.agg (stA (doneW s 23 (dA x) (reg s (dA x)) (reg s (dB x)) (dN x) told))) ∧ Below w.heap.size w w' := by
  have hok := plan_ok hk
  obtain ⟨_, ⟨a0, a1⟩, ⟨b0, b1⟩, bn⟩ := ok_bounds hok
  obtain ⟨ka, e2⟩ : ∃ k : Nat, dA x = k := ⟨_, (Int.toNat_of_nonneg a0).symm⟩
  obtain ⟨kb, e3⟩ : ∃ k : Nat, dB x = k := ⟨_, (Int.toNat_of_nonneg b0).symm⟩
  obtain ⟨n, e4⟩ : ∃ n, dN x = n := ⟨_, rfl⟩
  have hka : ka < 8 := by omega
  have hkb : kb < 8 := by omega
  rw [e4] at bn
  refine (rDone23 hs hok h0 h1 hka hkb bn e1 e2 e3 e4 (hs.reg (dA x)) (hs.reg (dB x)) (by rw [← e2]) (by rw [← e3]) rfl hk w).mono ?_
  rintro e w' ⟨rfl, hb⟩
  refine ⟨?_, hb⟩
  rw [e4, e2, e3]
  simp only [doneW, takenL, putL]
  simp
theorem rDq25 {s : St} (hs : s.ok) {x : Int} (h0 : 0 ≤ x) (h1 : x < 4294967296) (hk : ((planL s x).kind == 1) = false) (e1 : dOp x = 25) {told : Int} (_ht : u32? told) (w : World) : Calls Try.prog 30 #[.agg (stA s), .int .u32 x, .int .u32 told] w fun e w' => e = .returned (.agg (stA (doneW s 25 (dA x) (reg s (dA x)) (reg s (dB x)) (dN x) told))) ∧ Below w.heap.size w w' := by
  have hok := plan_ok hk
  obtain ⟨_, ⟨a0, a1⟩, ⟨b0, b1⟩, bn⟩ := ok_bounds hok
  obtain ⟨ka, e2⟩ : ∃ k : Nat, dA x = k := ⟨_, (Int.toNat_of_nonneg a0).symm⟩
  obtain ⟨kb, e3⟩ : ∃ k : Nat, dB x = k := ⟨_, (Int.toNat_of_nonneg b0).symm⟩
  obtain ⟨n, e4⟩ : ∃ n, dN x = n := ⟨_, rfl⟩
  have hka : ka < 8 := by omega
  have hkb : kb < 8 := by omega
  rw [e4] at bn
  refine (rDone25 hs hok h0 h1 hka hkb bn e1 e2 e3 e4 (hs.reg (dA x)) (hs.reg (dB x)) (by rw [← e2]) (by rw [← e3]) rfl hk w).mono ?_
  rintro e w' ⟨rfl, hb⟩
  refine ⟨?_, hb⟩
  rw [e4, e2, e3]
  simp only [doneW, takenL, putL]
  simp
theorem rDq26 {s : St} (hs : s.ok) {x : Int} (h0 : 0 ≤ x) (h1 : x < 4294967296) (hk : ((planL s x).kind == 1) = false) (e1 : dOp x = 26) {told : Int} (_ht : u32? told) (w : World) : Calls Try.prog 30 #[.agg (stA s), .int .u32 x, .int .u32 told] w fun e w' => e = .returned (.agg (stA (doneW s 26 (dA x) (reg s (dA x)) (reg s (dB x)) (dN x) told))) ∧ Below w.heap.size w w' := by
  have hok := plan_ok hk
  obtain ⟨_, ⟨a0, a1⟩, ⟨b0, b1⟩, bn⟩ := ok_bounds hok
  obtain ⟨ka, e2⟩ : ∃ k : Nat, dA x = k := ⟨_, (Int.toNat_of_nonneg a0).symm⟩
  obtain ⟨kb, e3⟩ : ∃ k : Nat, dB x = k := ⟨_, (Int.toNat_of_nonneg b0).symm⟩
  obtain ⟨n, e4⟩ : ∃ n, dN x = n := ⟨_, rfl⟩
  have hka : ka < 8 := by omega
  have hkb : kb < 8 := by omega
  rw [e4] at bn
  have hn := plan_imm hk (.inl e1)
  rw [e4] at hn
  have hc : n = 0 ∨ n = 1 ∨ n = 2 ∨ n = 3 ∨ n = 4 ∨ n = 5 := by omega
  rcases hc with rfl | rfl | rfl | rfl | rfl | rfl
  · refine (rDone26_0 hs hok h0 h1 hka hkb bn e1 e2 e3 e4 (hs.reg (dA x)) (hs.reg (dB x)) (by rw [← e2]) (by rw [← e3]) rfl hk w).mono ?_
    rintro e w' ⟨rfl, hb⟩
    refine ⟨?_, hb⟩
    rw [e4, e2, e3]
    simp only [doneW, takenL, putL, gotL]
    simp
  · refine (rDone26_1 hs hok h0 h1 hka hkb bn e1 e2 e3 e4 (hs.reg (dA x)) (hs.reg (dB x)) (by rw [← e2]) (by rw [← e3]) rfl hk w).mono ?_
    rintro e w' ⟨rfl, hb⟩
    refine ⟨?_, hb⟩
    rw [e4, e2, e3]
    simp only [doneW, takenL, putL, gotL]
    simp
  · refine (rDone26_2 hs hok h0 h1 hka hkb bn e1 e2 e3 e4 (hs.reg (dA x)) (hs.reg (dB x)) (by rw [← e2]) (by rw [← e3]) rfl hk w).mono ?_
    rintro e w' ⟨rfl, hb⟩
    refine ⟨?_, hb⟩
    rw [e4, e2, e3]
    simp only [doneW, takenL, putL, gotL]
    simp
  · refine (rDone26_3 hs hok h0 h1 hka hkb bn e1 e2 e3 e4 (hs.reg (dA x)) (hs.reg (dB x)) (by rw [← e2]) (by rw [← e3]) rfl hk w).mono ?_
    rintro e w' ⟨rfl, hb⟩
    refine ⟨?_, hb⟩
    rw [e4, e2, e3]
    simp only [doneW, takenL, putL, gotL]
    simp
  · refine (rDone26_4 hs hok h0 h1 hka hkb bn e1 e2 e3 e4 (hs.reg (dA x)) (hs.reg (dB x)) (by rw [← e2]) (by rw [← e3]) rfl hk w).mono ?_
    rintro e w' ⟨rfl, hb⟩
    refine ⟨?_, hb⟩
    rw [e4, e2, e3]
    simp only [doneW, takenL, putL, gotL]
    simp
  · refine (rDone26_5 hs hok h0 h1 hka hkb bn e1 e2 e3 e4 (hs.reg (dA x)) (hs.reg (dB x)) (by rw [← e2]) (by rw [← e3]) rfl hk w).mono ?_
    rintro e w' ⟨rfl, hb⟩
    refine ⟨?_, hb⟩
    rw [e4, e2, e3]
    simp only [doneW, takenL, putL, gotL]
    simp

theorem rDq27 {s : St} (hs : s.ok) {x : Int} (h0 : 0 ≤ x) (h1 : x < 4294967296) (hk : ((planL s x).kind == 1) = false) (e1 : dOp x = 27) {told : Int} (_ht : u32? told) (w : World) : Calls Try.prog 30 #[.agg (stA s), .int .u32 x, .int .u32 told] w fun e w' => e = .returned (.agg (stA (doneW s 27 (dA x) (reg s (dA x)) (reg s (dB x)) (dN x) told))) ∧ Below w.heap.size w w' := by
  have hok := plan_ok hk
  obtain ⟨_, ⟨a0, a1⟩, ⟨b0, b1⟩, bn⟩ := ok_bounds hok
  obtain ⟨ka, e2⟩ : ∃ k : Nat, dA x = k := ⟨_, (Int.toNat_of_nonneg a0).symm⟩
  obtain ⟨kb, e3⟩ : ∃ k : Nat, dB x = k := ⟨_, (Int.toNat_of_nonneg b0).symm⟩
  obtain ⟨n, e4⟩ : ∃ n, dN x = n := ⟨_, rfl⟩
  have hka : ka < 8 := by omega
  have hkb : kb < 8 := by omega
  rw [e4] at bn
  have hn := plan_imm hk (.inr e1)
  rw [e4] at hn
  have hc : n = 0 ∨ n = 1 ∨ n = 2 ∨ n = 3 ∨ n = 4 ∨ n = 5 := by omega
  rcases hc with rfl | rfl | rfl | rfl | rfl | rfl
  · refine (rDone27_0 hs hok h0 h1 hka hkb bn e1 e2 e3 e4 (hs.reg (dA x)) (hs.reg (dB x)) (by rw [← e2]) (by rw [← e3]) rfl hk w).mono ?_
    rintro e w' ⟨rfl, hb⟩
    refine ⟨?_, hb⟩
    rw [e4, e2, e3]
    simp only [doneW, takenL, putL]
    simp
  · refine (rDone27_1 hs hok h0 h1 hka hkb bn e1 e2 e3 e4 (hs.reg (dA x)) (hs.reg (dB x)) (by rw [← e2]) (by rw [← e3]) rfl hk w).mono ?_
    rintro e w' ⟨rfl, hb⟩
    refine ⟨?_, hb⟩
    rw [e4, e2, e3]
    simp only [doneW, takenL, putL]
    simp
  · refine (rDone27_2 hs hok h0 h1 hka hkb bn e1 e2 e3 e4 (hs.reg (dA x)) (hs.reg (dB x)) (by rw [← e2]) (by rw [← e3]) rfl hk w).mono ?_
    rintro e w' ⟨rfl, hb⟩
    refine ⟨?_, hb⟩
    rw [e4, e2, e3]
    simp only [doneW, takenL, putL]
    simp
  · refine (rDone27_3 hs hok h0 h1 hka hkb bn e1 e2 e3 e4 (hs.reg (dA x)) (hs.reg (dB x)) (by rw [← e2]) (by rw [← e3]) rfl hk w).mono ?_
    rintro e w' ⟨rfl, hb⟩
    refine ⟨?_, hb⟩
    rw [e4, e2, e3]
    simp only [doneW, takenL, putL]
    simp
  · refine (rDone27_4 hs hok h0 h1 hka hkb bn e1 e2 e3 e4 (hs.reg (dA x)) (hs.reg (dB x)) (by rw [← e2]) (by rw [← e3]) rfl hk w).mono ?_
    rintro e w' ⟨rfl, hb⟩
    refine ⟨?_, hb⟩
    rw [e4, e2, e3]
    simp only [doneW, takenL, putL]
    simp [odd_eq]
  · refine (rDone27_5 hs hok h0 h1 hka hkb bn e1 e2 e3 e4 (hs.reg (dA x)) (hs.reg (dB x)) (by rw [← e2]) (by rw [← e3]) rfl hk w).mono ?_
    rintro e w' ⟨rfl, hb⟩
    refine ⟨?_, hb⟩
    rw [e4, e2, e3]
    simp only [doneW, takenL, putL]
    simp

theorem rDq28 {s : St} (hs : s.ok) {x : Int} (h0 : 0 ≤ x) (h1 : x < 4294967296) (hk : ((planL s x).kind == 1) = false) (e1 : dOp x = 28) {told : Int} (_ht : u32? told) (w : World) : Calls Try.prog 30 #[.agg (stA s), .int .u32 x, .int .u32 told] w fun e w' => e = .returned (.agg (stA (doneW s 28 (dA x) (reg s (dA x)) (reg s (dB x)) (dN x) told))) ∧ Below w.heap.size w w' := by
  have hok := plan_ok hk
  obtain ⟨_, ⟨a0, a1⟩, ⟨b0, b1⟩, bn⟩ := ok_bounds hok
  obtain ⟨ka, e2⟩ : ∃ k : Nat, dA x = k := ⟨_, (Int.toNat_of_nonneg a0).symm⟩
  obtain ⟨kb, e3⟩ : ∃ k : Nat, dB x = k := ⟨_, (Int.toNat_of_nonneg b0).symm⟩
  obtain ⟨n, e4⟩ : ∃ n, dN x = n := ⟨_, rfl⟩
  have hka : ka < 8 := by omega
  have hkb : kb < 8 := by omega
  rw [e4] at bn
  refine (rDone28 hs hok h0 h1 hka hkb bn e1 e2 e3 e4 (hs.reg (dA x)) (hs.reg (dB x)) (by rw [← e2]) (by rw [← e3]) rfl hk w).mono ?_
  rintro e w' ⟨rfl, hb⟩
  refine ⟨?_, hb⟩
  rw [e4, e2, e3]
  simp only [doneW, takenL, putL]
  simp
theorem rDone {s : St} (hs : s.ok) {x : Int} (h0 : 0 ≤ x) (h1 : x < 4294967296) {told : Int} (ht : u32? told) (w : World) : Calls Try.prog 30 #[.agg (stA s), .int .u32 x, .int .u32 told] w fun e w' => e = .returned (.agg (stA (doneL s x told))) ∧ Below w.heap.size w w' := by
  unfold doneL
  cases hk : ((planL s x).kind == 1)
  · have hok := plan_ok hk
    obtain ⟨⟨o0, o1⟩, _⟩ := ok_bounds hok
    have h24 : dOp x ≠ 24 := by
      intro h
      unfold planL planW at hk
      rw [if_pos hok, if_pos h] at hk
      split at hk <;> simp [trapW] at hk
    rw [if_neg (by decide)]
    have hc : dOp x = 1 ∨ dOp x = 2 ∨ dOp x = 3 ∨ dOp x = 4 ∨ dOp x = 5 ∨ dOp x = 6 ∨ dOp x = 7 ∨ dOp x = 8 ∨ dOp x = 9 ∨ dOp x = 10 ∨ dOp x = 11 ∨ dOp x = 12 ∨ dOp x = 13 ∨ dOp x = 14 ∨ dOp x = 15 ∨ dOp x = 16 ∨ dOp x = 17 ∨ dOp x = 18 ∨ dOp x = 19 ∨ dOp x = 20 ∨ dOp x = 21 ∨ dOp x = 22 ∨ dOp x = 23 ∨ dOp x = 25 ∨ dOp x = 26 ∨ dOp x = 27 ∨ dOp x = 28 := by omega
    rcases hc with e1 | e1 | e1 | e1 | e1 | e1 | e1 | e1 | e1 | e1 | e1 | e1 | e1 | e1 | e1 | e1 | e1 | e1 | e1 | e1 | e1 | e1 | e1 | e1 | e1 | e1 | e1
    · rw [e1]; exact rDq1 hs h0 h1 hk e1 ht w
    · rw [e1]; exact rDq2 hs h0 h1 hk e1 ht w
    · rw [e1]; exact rDq3 hs h0 h1 hk e1 ht w
    · rw [e1]; exact rDq4 hs h0 h1 hk e1 ht w
    · rw [e1]; exact rDq5 hs h0 h1 hk e1 ht w
    · rw [e1]; exact rDq6 hs h0 h1 hk e1 ht w
    · rw [e1]; exact rDq7 hs h0 h1 hk e1 ht w
    · rw [e1]; exact rDq8 hs h0 h1 hk e1 ht w
    · rw [e1]; exact rDq9 hs h0 h1 hk e1 ht w
    · rw [e1]; exact rDq10 hs h0 h1 hk e1 ht w
    · rw [e1]; exact rDq11 hs h0 h1 hk e1 ht w
    · rw [e1]; exact rDq12 hs h0 h1 hk e1 ht w
    · rw [e1]; exact rDq13 hs h0 h1 hk e1 ht w
    · rw [e1]; exact rDq14 hs h0 h1 hk e1 ht w
    · rw [e1]; exact rDq15 hs h0 h1 hk e1 ht w
    · rw [e1]; exact rDq16 hs h0 h1 hk e1 ht w
    · rw [e1]; exact rDq17 hs h0 h1 hk e1 ht w
    · rw [e1]; exact rDq18 hs h0 h1 hk e1 ht w
    · rw [e1]; exact rDq19 hs h0 h1 hk e1 ht w
    · rw [e1]; exact rDq20 hs h0 h1 hk e1 ht w
    · rw [e1]; exact rDq21 hs h0 h1 hk e1 ht w
    · rw [e1]; exact rDq22 hs h0 h1 hk e1 ht w
    · rw [e1]; exact rDq23 hs h0 h1 hk e1 ht w
    · rw [e1]; exact rDq25 hs h0 h1 hk e1 ht w
    · rw [e1]; exact rDq26 hs h0 h1 hk e1 ht w
    · rw [e1]; exact rDq27 hs h0 h1 hk e1 ht w
    · rw [e1]; exact rDq28 hs h0 h1 hk e1 ht w
  · rw [if_pos rfl]
    exact rDone_trap hs h0 h1 rfl hk w
end Go.Proofs.Ytmpnlhfnemidpaa
