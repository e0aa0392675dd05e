/- The cpu's Done: whole. -/
import Derived.Test.YtmpnlhfnemidpaaDnM
import Derived.Test.YtmpnlhfnemidpaaDnR
import Derived.Test.YtmpnlhfnemidpaaDnS
import Derived.Test.YtmpnlhfnemidpaaDnT
import Derived.Test.YtmpnlhfnemidpaaDnU
namespace Go.Proofs.Ytmpnlhfnemidpaa
open Go.RowKit Go.Shelf
def doneW (s : St) (op ka a b n told : Int) : St :=
  let o : St := { s with pc := if takenL op a b then (s.pc + 4 * immL n) % 4294967296 else (s.pc + 4) % 4294967296 }
  if 2 ≤ op ∧ op ≤ 12 then { o with regs := s.regs.set ka.toNat (makesL op a b (immL n)) }
  else if op = 13 ∨ op = 22 then { o with regs := s.regs.set ka.toNat told }
  else if op = 15 then { o with regs := s.regs.set ka.toNat (told % 256) }
  else if op = 20 then { o with regs := s.regs.set ka.toNat ((s.pc + 4) % 4294967296) }
  else if op = 21 then { o with pc := b, regs := s.regs.set ka.toNat ((s.pc + 4) % 4294967296) }
  else if op = 26 then { o with regs := s.regs.set ka.toNat (gotL s n) }
  else if op = 27 then putL o n a
  else if op = 25 then { o with pc := s.epc, sup := s.prev, en := true }
  else o
def doneL (s : St) (x told : Int) : St :=
  if ((planL s x).kind == 1) = true then trapL s (planL s x).cause else doneW s (dOp x) (dA x) (reg s (dA x)) (reg s (dB x)) (dN x) told
theorem plan_ok {s : St} {x : Int} (hk : ((planL s x).kind == 1) = false) : okL x = true := by
  by_cases h : okL x = true
  · exact h
  · unfold planL at hk
    rw [if_neg h] at hk
    exact absurd hk (by decide)
theorem plan_imm {s : St} {x : Int} (hk : ((planL s x).kind == 1) = false) (h : dOp x = 26 ∨ dOp x = 27) : 0 ≤ dN x ∧ dN x ≤ 5 := by
  have hok := plan_ok hk
  by_cases hn : 0 ≤ dN x ∧ dN x ≤ 5
  · exact hn
  · exfalso
    have h2 : dN x < 0 ∨ 5 < dN x := by omega
    unfold planL planW at hk
    rw [if_pos hok] at hk
    have h24 : ¬ dOp x = 24 := by omega
    have h13 : ¬ (((dOp x = 13 ∨ dOp x = 14) ∧ atL s x % 4 ≠ 0) ∨ (dOp x = 21 ∧ reg s (dB x) % 4 ≠ 0)) := by omega
    rw [if_neg h24, if_neg h13, if_pos (show (dOp x = 26 ∨ dOp x = 27) ∧ (dN x < 0 ∨ 5 < dN x) from ⟨h, h2⟩)] at hk
    split at hk <;> simp [trapW] at hk
theorem cDq1 {s : St} (hs : s.ok) {x : Int} (h0 : 0 ≤ x) (h1 : x < 4294967296) (hk : ((planL s x).kind == 1) = false) (e1 : dOp x = 1) {told : Int} (_ht : u32? told) (w : World) : Calls Try.prog 12 #[.agg (stA s), .int .u32 x, .int .u32 told] w fun e w' => e = .returned (.agg (stA (doneW s 1 (dA x) (reg s (dA x)) (reg s (dB x)) (dN x) told))) ∧ Below w.heap.size w w' := by
  have hok := plan_ok hk
  obtain ⟨_, ⟨a0, a1⟩, ⟨b0, b1⟩, bn⟩ := ok_bounds hok
  obtain ⟨ka, e2⟩ : ∃ k : Nat, dA x = k := ⟨_, (Int.toNat_of_nonneg a0).symm⟩
  obtain ⟨kb, e3⟩ : ∃ k : Nat, dB x = k := ⟨_, (Int.toNat_of_nonneg b0).symm⟩
  obtain ⟨n, e4⟩ : ∃ n, dN x = n := ⟨_, rfl⟩
  have hka : ka < 8 := by omega
  have hkb : kb < 8 := by omega
  rw [e4] at bn
  refine (cDone1 hs hok h0 h1 hka hkb bn e1 e2 e3 e4 (hs.reg (dA x)) (hs.reg (dB x)) (by rw [← e2]) (by rw [← e3]) rfl hk w).mono ?_
  rintro e w' ⟨rfl, hb⟩
  refine ⟨?_, hb⟩
  rw [e4, e2, e3]
  simp only [doneW, takenL, putL]
  simp
theorem cDq2 {s : St} (hs : s.ok) {x : Int} (h0 : 0 ≤ x) (h1 : x < 4294967296) (hk : ((planL s x).kind == 1) = false) (e1 : dOp x = 2) {told : Int} (_ht : u32? told) (w : World) : Calls Try.prog 12 #[.agg (stA s), .int .u32 x, .int .u32 told] w fun e w' => e = .returned (.agg (stA (doneW s 2 (dA x) (reg s (dA x)) (reg s (dB x)) (dN x) told))) ∧ Below w.heap.size w w' := by
  have hok := plan_ok hk
  obtain ⟨_, ⟨a0, a1⟩, ⟨b0, b1⟩, bn⟩ := ok_bounds hok
  obtain ⟨ka, e2⟩ : ∃ k : Nat, dA x = k := ⟨_, (Int.toNat_of_nonneg a0).symm⟩
  obtain ⟨kb, e3⟩ : ∃ k : Nat, dB x = k := ⟨_, (Int.toNat_of_nonneg b0).symm⟩
  obtain ⟨n, e4⟩ : ∃ n, dN x = n := ⟨_, rfl⟩
  have hka : ka < 8 := by omega
  have hkb : kb < 8 := by omega
  rw [e4] at bn
  refine (cDone2 hs hok h0 h1 hka hkb bn e1 e2 e3 e4 (hs.reg (dA x)) (hs.reg (dB x)) (by rw [← e2]) (by rw [← e3]) rfl hk told w).mono ?_
  rintro e w' ⟨rfl, hb⟩
  refine ⟨?_, hb⟩
  rw [e4, e2, e3]
  simp only [doneW, takenL, putL]
  simp
theorem cDq3 {s : St} (hs : s.ok) {x : Int} (h0 : 0 ≤ x) (h1 : x < 4294967296) (hk : ((planL s x).kind == 1) = false) (e1 : dOp x = 3) {told : Int} (_ht : u32? told) (w : World) : Calls Try.prog 12 #[.agg (stA s), .int .u32 x, .int .u32 told] w fun e w' => e = .returned (.agg (stA (doneW s 3 (dA x) (reg s (dA x)) (reg s (dB x)) (dN x) told))) ∧ Below w.heap.size w w' := by
  have hok := plan_ok hk
  obtain ⟨_, ⟨a0, a1⟩, ⟨b0, b1⟩, bn⟩ := ok_bounds hok
  obtain ⟨ka, e2⟩ : ∃ k : Nat, dA x = k := ⟨_, (Int.toNat_of_nonneg a0).symm⟩
  obtain ⟨kb, e3⟩ : ∃ k : Nat, dB x = k := ⟨_, (Int.toNat_of_nonneg b0).symm⟩
  obtain ⟨n, e4⟩ : ∃ n, dN x = n := ⟨_, rfl⟩
  have hka : ka < 8 := by omega
  have hkb : kb < 8 := by omega
  rw [e4] at bn
  refine (cDone3 hs hok h0 h1 hka hkb bn e1 e2 e3 e4 (hs.reg (dA x)) (hs.reg (dB x)) (by rw [← e2]) (by rw [← e3]) rfl hk told w).mono ?_
  rintro e w' ⟨rfl, hb⟩
  refine ⟨?_, hb⟩
  rw [e4, e2, e3]
  simp only [doneW, takenL, putL]
  simp
theorem cDq4 {s : St} (hs : s.ok) {x : Int} (h0 : 0 ≤ x) (h1 : x < 4294967296) (hk : ((planL s x).kind == 1) = false) (e1 : dOp x = 4) {told : Int} (_ht : u32? told) (w : World) : Calls Try.prog 12 #[.agg (stA s), .int .u32 x, .int .u32 told] w fun e w' => e = .returned (.agg (stA (doneW s 4 (dA x) (reg s (dA x)) (reg s (dB x)) (dN x) told))) ∧ Below w.heap.size w w' := by
  have hok := plan_ok hk
  obtain ⟨_, ⟨a0, a1⟩, ⟨b0, b1⟩, bn⟩ := ok_bounds hok
  obtain ⟨ka, e2⟩ : ∃ k : Nat, dA x = k := ⟨_, (Int.toNat_of_nonneg a0).symm⟩
  obtain ⟨kb, e3⟩ : ∃ k : Nat, dB x = k := ⟨_, (Int.toNat_of_nonneg b0).symm⟩
  obtain ⟨n, e4⟩ : ∃ n, dN x = n := ⟨_, rfl⟩
  have hka : ka < 8 := by omega
  have hkb : kb < 8 := by omega
  rw [e4] at bn
  refine (cDone4 hs hok h0 h1 hka hkb bn e1 e2 e3 e4 (hs.reg (dA x)) (hs.reg (dB x)) (by rw [← e2]) (by rw [← e3]) rfl hk told w).mono ?_
  rintro e w' ⟨rfl, hb⟩
  refine ⟨?_, hb⟩
  rw [e4, e2, e3]
  simp only [doneW, takenL, putL]
  simp
theorem cDq5 {s : St} (hs : s.ok) {x : Int} (h0 : 0 ≤ x) (h1 : x < 4294967296) (hk : ((planL s x).kind == 1) = false) (e1 : dOp x = 5) {told : Int} (_ht : u32? told) (w : World) : Calls Try.prog 12 #[.agg (stA s), .int .u32 x, .int .u32 told] w fun e w' => e = .returned (.agg (stA (doneW s 5 (dA x) (reg s (dA x)) (reg s (dB x)) (dN x) told))) ∧ Below w.heap.size w w' := by
  have hok := plan_ok hk
  obtain ⟨_, ⟨a0, a1⟩, ⟨b0, b1⟩, bn⟩ := ok_bounds hok
  obtain ⟨ka, e2⟩ : ∃ k : Nat, dA x = k := ⟨_, (Int.toNat_of_nonneg a0).symm⟩
  obtain ⟨kb, e3⟩ : ∃ k : Nat, dB x = k := ⟨_, (Int.toNat_of_nonneg b0).symm⟩
  obtain ⟨n, e4⟩ : ∃ n, dN x = n := ⟨_, rfl⟩
  have hka : ka < 8 := by omega
  have hkb : kb < 8 := by omega
  rw [e4] at bn
  refine (cDone5 hs hok h0 h1 hka hkb bn e1 e2 e3 e4 (hs.reg (dA x)) (hs.reg (dB x)) (by rw [← e2]) (by rw [← e3]) rfl hk told w).mono ?_
  rintro e w' ⟨rfl, hb⟩
  refine ⟨?_, hb⟩
  rw [e4, e2, e3]
  simp only [doneW, takenL, putL]
  simp
theorem cDq6 {s : St} (hs : s.ok) {x : Int} (h0 : 0 ≤ x) (h1 : x < 4294967296) (hk : ((planL s x).kind == 1) = false) (e1 : dOp x = 6) {told : Int} (_ht : u32? told) (w : World) : Calls Try.prog 12 #[.agg (stA s), .int .u32 x, .int .u32 told] w fun e w' => e = .returned (.agg (stA (doneW s 6 (dA x) (reg s (dA x)) (reg s (dB x)) (dN x) told))) ∧ Below w.heap.size w w' := by
  have hok := plan_ok hk
  obtain ⟨_, ⟨a0, a1⟩, ⟨b0, b1⟩, bn⟩ := ok_bounds hok
  obtain ⟨ka, e2⟩ : ∃ k : Nat, dA x = k := ⟨_, (Int.toNat_of_nonneg a0).symm⟩
  obtain ⟨kb, e3⟩ : ∃ k : Nat, dB x = k := ⟨_, (Int.toNat_of_nonneg b0).symm⟩
  obtain ⟨n, e4⟩ : ∃ n, dN x = n := ⟨_, rfl⟩
  have hka : ka < 8 := by omega
  have hkb : kb < 8 := by omega
  rw [e4] at bn
  refine (cDone6 hs hok h0 h1 hka hkb bn e1 e2 e3 e4 (hs.reg (dA x)) (hs.reg (dB x)) (by rw [← e2]) (by rw [← e3]) rfl hk told w).mono ?_
  rintro e w' ⟨rfl, hb⟩
  refine ⟨?_, hb⟩
  rw [e4, e2, e3]
  simp only [doneW, takenL, putL]
  simp
theorem cDq7 {s : St} (hs : s.ok) {x : Int} (h0 : 0 ≤ x) (h1 : x < 4294967296) (hk : ((planL s x).kind == 1) = false) (e1 : dOp x = 7) {told : Int} (_ht : u32? told) (w : World) : Calls Try.prog 12 #[.agg (stA s), .int .u32 x, .int .u32 told] w fun e w' => e = .returned (.agg (stA (doneW s 7 (dA x) (reg s (dA x)) (reg s (dB x)) (dN x) told))) ∧ Below w.heap.size w w' := by
  have hok := plan_ok hk
  obtain ⟨_, ⟨a0, a1⟩, ⟨b0, b1⟩, bn⟩ := ok_bounds hok
  obtain ⟨ka, e2⟩ : ∃ k : Nat, dA x = k := ⟨_, (Int.toNat_of_nonneg a0).symm⟩
  obtain ⟨kb, e3⟩ : ∃ k : Nat, dB x = k := ⟨_, (Int.toNat_of_nonneg b0).symm⟩
  obtain ⟨n, e4⟩ : ∃ n, dN x = n := ⟨_, rfl⟩
  have hka : ka < 8 := by omega
  have hkb : kb < 8 := by omega
  rw [e4] at bn
  refine (cDone7 hs hok h0 h1 hka hkb bn e1 e2 e3 e4 (hs.reg (dA x)) (hs.reg (dB x)) (by rw [← e2]) (by rw [← e3]) rfl hk told w).mono ?_
  rintro e w' ⟨rfl, hb⟩
  refine ⟨?_, hb⟩
  rw [e4, e2, e3]
  simp only [doneW, takenL, putL]
  simp
theorem cDq8 {s : St} (hs : s.ok) {x : Int} (h0 : 0 ≤ x) (h1 : x < 4294967296) (hk : ((planL s x).kind == 1) = false) (e1 : dOp x = 8) {told : Int} (_ht : u32? told) (w : World) : Calls Try.prog 12 #[.agg (stA s), .int .u32 x, .int .u32 told] w fun e w' => e = .returned (.agg (stA (doneW s 8 (dA x) (reg s (dA x)) (reg s (dB x)) (dN x) told))) ∧ Below w.heap.size w w' := by
  have hok := plan_ok hk
  obtain ⟨_, ⟨a0, a1⟩, ⟨b0, b1⟩, bn⟩ := ok_bounds hok
  obtain ⟨ka, e2⟩ : ∃ k : Nat, dA x = k := ⟨_, (Int.toNat_of_nonneg a0).symm⟩
  obtain ⟨kb, e3⟩ : ∃ k : Nat, dB x = k := ⟨_, (Int.toNat_of_nonneg b0).symm⟩
  obtain ⟨n, e4⟩ : ∃ n, dN x = n := ⟨_, rfl⟩
  have hka : ka < 8 := by omega
  have hkb : kb < 8 := by omega
  rw [e4] at bn
  refine (cDone8 hs hok h0 h1 hka hkb bn e1 e2 e3 e4 (hs.reg (dA x)) (hs.reg (dB x)) (by rw [← e2]) (by rw [← e3]) rfl hk told w).mono ?_
  rintro e w' ⟨rfl, hb⟩
  refine ⟨?_, hb⟩
  rw [e4, e2, e3]
  simp only [doneW, takenL, putL]
  simp
theorem cDq9 {s : St} (hs : s.ok) {x : Int} (h0 : 0 ≤ x) (h1 : x < 4294967296) (hk : ((planL s x).kind == 1) = false) (e1 : dOp x = 9) {told : Int} (_ht : u32? told) (w : World) : Calls Try.prog 12 #[.agg (stA s), .int .u32 x, .int .u32 told] w fun e w' => e = .returned (.agg (stA (doneW s 9 (dA x) (reg s (dA x)) (reg s (dB x)) (dN x) told))) ∧ Below w.heap.size w w' := by
  have hok := plan_ok hk
  obtain ⟨_, ⟨a0, a1⟩, ⟨b0, b1⟩, bn⟩ := ok_bounds hok
  obtain ⟨ka, e2⟩ : ∃ k : Nat, dA x = k := ⟨_, (Int.toNat_of_nonneg a0).symm⟩
  obtain ⟨kb, e3⟩ : ∃ k : Nat, dB x = k := ⟨_, (Int.toNat_of_nonneg b0).symm⟩
  obtain ⟨n, e4⟩ : ∃ n, dN x = n := ⟨_, rfl⟩
  have hka : ka < 8 := by omega
  have hkb : kb < 8 := by omega
  rw [e4] at bn
  refine (cDone9 hs hok h0 h1 hka hkb bn e1 e2 e3 e4 (hs.reg (dA x)) (hs.reg (dB x)) (by rw [← e2]) (by rw [← e3]) rfl hk told w).mono ?_
  rintro e w' ⟨rfl, hb⟩
  refine ⟨?_, hb⟩
  rw [e4, e2, e3]
  simp only [doneW, takenL, putL]
  simp
theorem cDq10 {s : St} (hs : s.ok) {x : Int} (h0 : 0 ≤ x) (h1 : x < 4294967296) (hk : ((planL s x).kind == 1) = false) (e1 : dOp x = 10) {told : Int} (_ht : u32? told) (w : World) : Calls Try.prog 12 #[.agg (stA s), .int .u32 x, .int .u32 told] w fun e w' => e = .returned (.agg (stA (doneW s 10 (dA x) (reg s (dA x)) (reg s (dB x)) (dN x) told))) ∧ Below w.heap.size w w' := by
  have hok := plan_ok hk
  obtain ⟨_, ⟨a0, a1⟩, ⟨b0, b1⟩, bn⟩ := ok_bounds hok
  obtain ⟨ka, e2⟩ : ∃ k : Nat, dA x = k := ⟨_, (Int.toNat_of_nonneg a0).symm⟩
  obtain ⟨kb, e3⟩ : ∃ k : Nat, dB x = k := ⟨_, (Int.toNat_of_nonneg b0).symm⟩
  obtain ⟨n, e4⟩ : ∃ n, dN x = n := ⟨_, rfl⟩
  have hka : ka < 8 := by omega
  have hkb : kb < 8 := by omega
  rw [e4] at bn
  refine (cDone10 hs hok h0 h1 hka hkb bn e1 e2 e3 e4 (hs.reg (dA x)) (hs.reg (dB x)) (by rw [← e2]) (by rw [← e3]) rfl hk told w).mono ?_
  rintro e w' ⟨rfl, hb⟩
  refine ⟨?_, hb⟩
  rw [e4, e2, e3]
  simp only [doneW, takenL, putL]
  simp
theorem cDq11 {s : St} (hs : s.ok) {x : Int} (h0 : 0 ≤ x) (h1 : x < 4294967296) (hk : ((planL s x).kind == 1) = false) (e1 : dOp x = 11) {told : Int} (_ht : u32? told) (w : World) : Calls Try.prog 12 #[.agg (stA s), .int .u32 x, .int .u32 told] w fun e w' => e = .returned (.agg (stA (doneW s 11 (dA x) (reg s (dA x)) (reg s (dB x)) (dN x) told))) ∧ Below w.heap.size w w' := by
  have hok := plan_ok hk
  obtain ⟨_, ⟨a0, a1⟩, ⟨b0, b1⟩, bn⟩ := ok_bounds hok
  obtain ⟨ka, e2⟩ : ∃ k : Nat, dA x = k := ⟨_, (Int.toNat_of_nonneg a0).symm⟩
  obtain ⟨kb, e3⟩ : ∃ k : Nat, dB x = k := ⟨_, (Int.toNat_of_nonneg b0).symm⟩
  obtain ⟨n, e4⟩ : ∃ n, dN x = n := ⟨_, rfl⟩
  have hka : ka < 8 := by omega
  have hkb : kb < 8 := by omega
  rw [e4] at bn
  refine (cDone11 hs hok h0 h1 hka hkb bn e1 e2 e3 e4 (hs.reg (dA x)) (hs.reg (dB x)) (by rw [← e2]) (by rw [← e3]) rfl hk told w).mono ?_
  rintro e w' ⟨rfl, hb⟩
  refine ⟨?_, hb⟩
  rw [e4, e2, e3]
  simp only [doneW, takenL, putL]
  simp
theorem cDq12 {s : St} (hs : s.ok) {x : Int} (h0 : 0 ≤ x) (h1 : x < 4294967296) (hk : ((planL s x).kind == 1) = false) (e1 : dOp x = 12) {told : Int} (_ht : u32? told) (w : World) : Calls Try.prog 12 #[.agg (stA s), .int .u32 x, .int .u32 told] w fun e w' => e = .returned (.agg (stA (doneW s 12 (dA x) (reg s (dA x)) (reg s (dB x)) (dN x) told))) ∧ Below w.heap.size w w' := by
  have hok := plan_ok hk
  obtain ⟨_, ⟨a0, a1⟩, ⟨b0, b1⟩, bn⟩ := ok_bounds hok
  obtain ⟨ka, e2⟩ : ∃ k : Nat, dA x = k := ⟨_, (Int.toNat_of_nonneg a0).symm⟩
  obtain ⟨kb, e3⟩ : ∃ k : Nat, dB x = k := ⟨_, (Int.toNat_of_nonneg b0).symm⟩
  obtain ⟨n, e4⟩ : ∃ n, dN x = n := ⟨_, rfl⟩
  have hka : ka < 8 := by omega
  have hkb : kb < 8 := by omega
  rw [e4] at bn
  refine (cDone12 hs hok h0 h1 hka hkb bn e1 e2 e3 e4 (hs.reg (dA x)) (hs.reg (dB x)) (by rw [← e2]) (by rw [← e3]) rfl hk told w).mono ?_
  rintro e w' ⟨rfl, hb⟩
  refine ⟨?_, hb⟩
  rw [e4, e2, e3]
  simp only [doneW, takenL, putL]
  simp
theorem cDq13 {s : St} (hs : s.ok) {x : Int} (h0 : 0 ≤ x) (h1 : x < 4294967296) (hk : ((planL s x).kind == 1) = false) (e1 : dOp x = 13) {told : Int} (_ht : u32? told) (w : World) : Calls Try.prog 12 #[.agg (stA s), .int .u32 x, .int .u32 told] w fun e w' => e = .returned (.agg (stA (doneW s 13 (dA x) (reg s (dA x)) (reg s (dB x)) (dN x) told))) ∧ Below w.heap.size w w' := by
  have hok := plan_ok hk
  obtain ⟨_, ⟨a0, a1⟩, ⟨b0, b1⟩, bn⟩ := ok_bounds hok
  obtain ⟨ka, e2⟩ : ∃ k : Nat, dA x = k := ⟨_, (Int.toNat_of_nonneg a0).symm⟩
  obtain ⟨kb, e3⟩ : ∃ k : Nat, dB x = k := ⟨_, (Int.toNat_of_nonneg b0).symm⟩
  obtain ⟨n, e4⟩ : ∃ n, dN x = n := ⟨_, rfl⟩
  have hka : ka < 8 := by omega
  have hkb : kb < 8 := by omega
  rw [e4] at bn
  refine (cDone13 hs hok h0 h1 hka hkb bn e1 e2 e3 e4 (hs.reg (dA x)) (hs.reg (dB x)) (by rw [← e2]) (by rw [← e3]) rfl hk w).mono ?_
  rintro e w' ⟨rfl, hb⟩
  refine ⟨?_, hb⟩
  rw [e4, e2, e3]
  simp only [doneW, takenL, putL]
  simp
theorem cDq14 {s : St} (hs : s.ok) {x : Int} (h0 : 0 ≤ x) (h1 : x < 4294967296) (hk : ((planL s x).kind == 1) = false) (e1 : dOp x = 14) {told : Int} (_ht : u32? told) (w : World) : Calls Try.prog 12 #[.agg (stA s), .int .u32 x, .int .u32 told] w fun e w' => e = .returned (.agg (stA (doneW s 14 (dA x) (reg s (dA x)) (reg s (dB x)) (dN x) told))) ∧ Below w.heap.size w w' := by
  have hok := plan_ok hk
  obtain ⟨_, ⟨a0, a1⟩, ⟨b0, b1⟩, bn⟩ := ok_bounds hok
  obtain ⟨ka, e2⟩ : ∃ k : Nat, dA x = k := ⟨_, (Int.toNat_of_nonneg a0).symm⟩
  obtain ⟨kb, e3⟩ : ∃ k : Nat, dB x = k := ⟨_, (Int.toNat_of_nonneg b0).symm⟩
  obtain ⟨n, e4⟩ : ∃ n, dN x = n := ⟨_, rfl⟩
  have hka : ka < 8 := by omega
  have hkb : kb < 8 := by omega
  rw [e4] at bn
  refine (cDone14 hs hok h0 h1 hka hkb bn e1 e2 e3 e4 (hs.reg (dA x)) (hs.reg (dB x)) (by rw [← e2]) (by rw [← e3]) rfl hk w).mono ?_
  rintro e w' ⟨rfl, hb⟩
  refine ⟨?_, hb⟩
  rw [e4, e2, e3]
  simp only [doneW, takenL, putL]
  simp
theorem cDq15 {s : St} (hs : s.ok) {x : Int} (h0 : 0 ≤ x) (h1 : x < 4294967296) (hk : ((planL s x).kind == 1) = false) (e1 : dOp x = 15) {told : Int} (ht : u32? told) (w : World) : Calls Try.prog 12 #[.agg (stA s), .int .u32 x, .int .u32 told] w fun e w' => e = .returned (.agg (stA (doneW s 15 (dA x) (reg s (dA x)) (reg s (dB x)) (dN x) told))) ∧ Below w.heap.size w w' := by
  have hok := plan_ok hk
  obtain ⟨_, ⟨a0, a1⟩, ⟨b0, b1⟩, bn⟩ := ok_bounds hok
  obtain ⟨ka, e2⟩ : ∃ k : Nat, dA x = k := ⟨_, (Int.toNat_of_nonneg a0).symm⟩
  obtain ⟨kb, e3⟩ : ∃ k : Nat, dB x = k := ⟨_, (Int.toNat_of_nonneg b0).symm⟩
  obtain ⟨n, e4⟩ : ∃ n, dN x = n := ⟨_, rfl⟩
  have hka : ka < 8 := by omega
  have hkb : kb < 8 := by omega
  rw [e4] at bn
  refine (cDone15 hs hok h0 h1 hka hkb bn e1 e2 e3 e4 (hs.reg (dA x)) (hs.reg (dB x)) (by rw [← e2]) (by rw [← e3]) rfl hk ht w).mono ?_
  rintro e w' ⟨rfl, hb⟩
  refine ⟨?_, hb⟩
  rw [e4, e2, e3]
  simp only [doneW, takenL, putL]
  simp
theorem cDq16 {s : St} (hs : s.ok) {x : Int} (h0 : 0 ≤ x) (h1 : x < 4294967296) (hk : ((planL s x).kind == 1) = false) (e1 : dOp x = 16) {told : Int} (_ht : u32? told) (w : World) : Calls Try.prog 12 #[.agg (stA s), .int .u32 x, .int .u32 told] w fun e w' => e = .returned (.agg (stA (doneW s 16 (dA x) (reg s (dA x)) (reg s (dB x)) (dN x) told))) ∧ Below w.heap.size w w' := by
  have hok := plan_ok hk
  obtain ⟨_, ⟨a0, a1⟩, ⟨b0, b1⟩, bn⟩ := ok_bounds hok
  obtain ⟨ka, e2⟩ : ∃ k : Nat, dA x = k := ⟨_, (Int.toNat_of_nonneg a0).symm⟩
  obtain ⟨kb, e3⟩ : ∃ k : Nat, dB x = k := ⟨_, (Int.toNat_of_nonneg b0).symm⟩
  obtain ⟨n, e4⟩ : ∃ n, dN x = n := ⟨_, rfl⟩
  have hka : ka < 8 := by omega
  have hkb : kb < 8 := by omega
  rw [e4] at bn
  refine (cDone16 hs hok h0 h1 hka hkb bn e1 e2 e3 e4 (hs.reg (dA x)) (hs.reg (dB x)) (by rw [← e2]) (by rw [← e3]) rfl hk w).mono ?_
  rintro e w' ⟨rfl, hb⟩
  refine ⟨?_, hb⟩
  rw [e4, e2, e3]
  simp only [doneW, takenL, putL]
  simp
theorem cDq17 {s : St} (hs : s.ok) {x : Int} (h0 : 0 ≤ x) (h1 : x < 4294967296) (hk : ((planL s x).kind == 1) = false) (e1 : dOp x = 17) {told : Int} (_ht : u32? told) (w : World) : Calls Try.prog 12 #[.agg (stA s), .int .u32 x, .int .u32 told] w fun e w' => e = .returned (.agg (stA (doneW s 17 (dA x) (reg s (dA x)) (reg s (dB x)) (dN x) told))) ∧ Below w.heap.size w w' := by
  have hok := plan_ok hk
  obtain ⟨_, ⟨a0, a1⟩, ⟨b0, b1⟩, bn⟩ := ok_bounds hok
  obtain ⟨ka, e2⟩ : ∃ k : Nat, dA x = k := ⟨_, (Int.toNat_of_nonneg a0).symm⟩
  obtain ⟨kb, e3⟩ : ∃ k : Nat, dB x = k := ⟨_, (Int.toNat_of_nonneg b0).symm⟩
  obtain ⟨n, e4⟩ : ∃ n, dN x = n := ⟨_, rfl⟩
  have hka : ka < 8 := by omega
  have hkb : kb < 8 := by omega
  rw [e4] at bn
  cases ht2 : (reg s (dA x) == reg s (dB x))
  · refine (cDone17n hs hok h0 h1 hka hkb bn e1 e2 e3 e4 (hs.reg (dA x)) (hs.reg (dB x)) (by rw [← e2]) (by rw [← e3]) rfl hk ht2 w).mono ?_
    rintro e w' ⟨rfl, hb⟩
    refine ⟨?_, hb⟩
    rw [e4, e2, e3]
    simp only [doneW, takenL, putL]
    rw [e2, e3] at ht2
    (try simp at ht2)
    (try simp)
    (try simp [ht2])
    (try rw [if_neg (Int.not_lt.2 ht2)])
  · refine (cDone17y hs hok h0 h1 hka hkb bn e1 e2 e3 e4 (hs.reg (dA x)) (hs.reg (dB x)) (by rw [← e2]) (by rw [← e3]) rfl hk ht2 w).mono ?_
    rintro e w' ⟨rfl, hb⟩
    refine ⟨?_, hb⟩
    rw [e4, e2, e3]
    simp only [doneW, takenL, putL]
    rw [e2, e3] at ht2
    (try simp at ht2)
    (try simp)
    (try simp [ht2])
    (try rw [if_neg (Int.not_lt.2 ht2)])

theorem cDq18 {s : St} (hs : s.ok) {x : Int} (h0 : 0 ≤ x) (h1 : x < 4294967296) (hk : ((planL s x).kind == 1) = false) (e1 : dOp x = 18) {told : Int} (_ht : u32? told) (w : World) : Calls Try.prog 12 #[.agg (stA s), .int .u32 x, .int .u32 told] w fun e w' => e = .returned (.agg (stA (doneW s 18 (dA x) (reg s (dA x)) (reg s (dB x)) (dN x) told))) ∧ Below w.heap.size w w' := by
  have hok := plan_ok hk
  obtain ⟨_, ⟨a0, a1⟩, ⟨b0, b1⟩, bn⟩ := ok_bounds hok
  obtain ⟨ka, e2⟩ : ∃ k : Nat, dA x = k := ⟨_, (Int.toNat_of_nonneg a0).symm⟩
  obtain ⟨kb, e3⟩ : ∃ k : Nat, dB x = k := ⟨_, (Int.toNat_of_nonneg b0).symm⟩
  obtain ⟨n, e4⟩ : ∃ n, dN x = n := ⟨_, rfl⟩
  have hka : ka < 8 := by omega
  have hkb : kb < 8 := by omega
  rw [e4] at bn
  cases ht2 : (reg s (dA x) != reg s (dB x))
  · refine (cDone18n hs hok h0 h1 hka hkb bn e1 e2 e3 e4 (hs.reg (dA x)) (hs.reg (dB x)) (by rw [← e2]) (by rw [← e3]) rfl hk ht2 w).mono ?_
    rintro e w' ⟨rfl, hb⟩
    refine ⟨?_, hb⟩
    rw [e4, e2, e3]
    simp only [doneW, takenL, putL]
    rw [e2, e3] at ht2
    (try simp at ht2)
    (try simp)
    (try simp [ht2])
    (try rw [if_neg (Int.not_lt.2 ht2)])
  · refine (cDone18y hs hok h0 h1 hka hkb bn e1 e2 e3 e4 (hs.reg (dA x)) (hs.reg (dB x)) (by rw [← e2]) (by rw [← e3]) rfl hk ht2 w).mono ?_
    rintro e w' ⟨rfl, hb⟩
    refine ⟨?_, hb⟩
    rw [e4, e2, e3]
    simp only [doneW, takenL, putL]
    rw [e2, e3] at ht2
    (try simp at ht2)
    (try simp)
    (try simp [ht2])
    (try rw [if_neg (Int.not_lt.2 ht2)])

theorem cDq19 {s : St} (hs : s.ok) {x : Int} (h0 : 0 ≤ x) (h1 : x < 4294967296) (hk : ((planL s x).kind == 1) = false) (e1 : dOp x = 19) {told : Int} (_ht : u32? told) (w : World) : Calls Try.prog 12 #[.agg (stA s), .int .u32 x, .int .u32 told] w fun e w' => e = .returned (.agg (stA (doneW s 19 (dA x) (reg s (dA x)) (reg s (dB x)) (dN x) told))) ∧ Below w.heap.size w w' := by
  have hok := plan_ok hk
  obtain ⟨_, ⟨a0, a1⟩, ⟨b0, b1⟩, bn⟩ := ok_bounds hok
  obtain ⟨ka, e2⟩ : ∃ k : Nat, dA x = k := ⟨_, (Int.toNat_of_nonneg a0).symm⟩
  obtain ⟨kb, e3⟩ : ∃ k : Nat, dB x = k := ⟨_, (Int.toNat_of_nonneg b0).symm⟩
  obtain ⟨n, e4⟩ : ∃ n, dN x = n := ⟨_, rfl⟩
  have hka : ka < 8 := by omega
  have hkb : kb < 8 := by omega
  rw [e4] at bn
  cases ht2 : (decide (wrap32 (reg s (dA x)) < wrap32 (reg s (dB x))))
  · refine (cDone19n hs hok h0 h1 hka hkb bn e1 e2 e3 e4 (hs.reg (dA x)) (hs.reg (dB x)) (by rw [← e2]) (by rw [← e3]) rfl hk ht2 w).mono ?_
    rintro e w' ⟨rfl, hb⟩
    refine ⟨?_, hb⟩
    rw [e4, e2, e3]
    simp only [doneW, takenL, putL]
    rw [e2, e3] at ht2
    (try simp at ht2)
    (try simp)
    (try simp [ht2])
    (try rw [if_neg (Int.not_lt.2 ht2)])
  · refine (cDone19y hs hok h0 h1 hka hkb bn e1 e2 e3 e4 (hs.reg (dA x)) (hs.reg (dB x)) (by rw [← e2]) (by rw [← e3]) rfl hk ht2 w).mono ?_
    rintro e w' ⟨rfl, hb⟩
    refine ⟨?_, hb⟩
    rw [e4, e2, e3]
    simp only [doneW, takenL, putL]
    rw [e2, e3] at ht2
    (try simp at ht2)
    (try simp)
    (try simp [ht2])
    (try rw [if_neg (Int.not_lt.2 ht2)])

theorem cDq20 {s : St} (hs : s.ok) {x : Int} (h0 : 0 ≤ x) (h1 : x < 4294967296) (hk : ((planL s x).kind == 1) = false) (e1 : dOp x = 20) {told : Int} (_ht : u32? told) (w : World) : Calls Try.prog 12 #[.agg (stA s), .int .u32 x, .int .u32 told] w fun e w' => e = .returned (.agg (stA (doneW s 20 (dA x) (reg s (dA x)) (reg s (dB x)) (dN x) told))) ∧ Below w.heap.size w w' := by
  have hok := plan_ok hk
  obtain ⟨_, ⟨a0, a1⟩, ⟨b0, b1⟩, bn⟩ := ok_bounds hok
  obtain ⟨ka, e2⟩ : ∃ k : Nat, dA x = k := ⟨_, (Int.toNat_of_nonneg a0).symm⟩
  obtain ⟨kb, e3⟩ : ∃ k : Nat, dB x = k := ⟨_, (Int.toNat_of_nonneg b0).symm⟩
  obtain ⟨n, e4⟩ : ∃ n, dN x = n := ⟨_, rfl⟩
  have hka : ka < 8 := by omega
  have hkb : kb < 8 := by omega
  rw [e4] at bn
  refine (cDone20 hs hok h0 h1 hka hkb bn e1 e2 e3 e4 (hs.reg (dA x)) (hs.reg (dB x)) (by rw [← e2]) (by rw [← e3]) rfl hk w).mono ?_
  rintro e w' ⟨rfl, hb⟩
  refine ⟨?_, hb⟩
  rw [e4, e2, e3]
  simp only [doneW, takenL, putL]
  simp
theorem cDq21 {s : St} (hs : s.ok) {x : Int} (h0 : 0 ≤ x) (h1 : x < 4294967296) (hk : ((planL s x).kind == 1) = false) (e1 : dOp x = 21) {told : Int} (_ht : u32? told) (w : World) : Calls Try.prog 12 #[.agg (stA s), .int .u32 x, .int .u32 told] w fun e w' => e = .returned (.agg (stA (doneW s 21 (dA x) (reg s (dA x)) (reg s (dB x)) (dN x) told))) ∧ Below w.heap.size w w' := by
  have hok := plan_ok hk
  obtain ⟨_, ⟨a0, a1⟩, ⟨b0, b1⟩, bn⟩ := ok_bounds hok
  obtain ⟨ka, e2⟩ : ∃ k : Nat, dA x = k := ⟨_, (Int.toNat_of_nonneg a0).symm⟩
  obtain ⟨kb, e3⟩ : ∃ k : Nat, dB x = k := ⟨_, (Int.toNat_of_nonneg b0).symm⟩
  obtain ⟨n, e4⟩ : ∃ n, dN x = n := ⟨_, rfl⟩
  have hka : ka < 8 := by omega
  have hkb : kb < 8 := by omega
  rw [e4] at bn
  refine (cDone21 hs hok h0 h1 hka hkb bn e1 e2 e3 e4 (hs.reg (dA x)) (hs.reg (dB x)) (by rw [← e2]) (by rw [← e3]) rfl hk w).mono ?_
  rintro e w' ⟨rfl, hb⟩
  refine ⟨?_, hb⟩
  rw [e4, e2, e3]
  simp only [doneW, takenL, putL]
  simp
theorem cDq22 {s : St} (hs : s.ok) {x : Int} (h0 : 0 ≤ x) (h1 : x < 4294967296) (hk : ((planL s x).kind == 1) = false) (e1 : dOp x = 22) {told : Int} (_ht : u32? told) (w : World) : Calls Try.prog 12 #[.agg (stA s), .int .u32 x, .int .u32 told] w fun e w' => e = .returned (.agg (stA (doneW s 22 (dA x) (reg s (dA x)) (reg s (dB x)) (dN x) told))) ∧ Below w.heap.size w w' := by
  have hok := plan_ok hk
  obtain ⟨_, ⟨a0, a1⟩, ⟨b0, b1⟩, bn⟩ := ok_bounds hok
  obtain ⟨ka, e2⟩ : ∃ k : Nat, dA x = k := ⟨_, (Int.toNat_of_nonneg a0).symm⟩
  obtain ⟨kb, e3⟩ : ∃ k : Nat, dB x = k := ⟨_, (Int.toNat_of_nonneg b0).symm⟩
  obtain ⟨n, e4⟩ : ∃ n, dN x = n := ⟨_, rfl⟩
  have hka : ka < 8 := by omega
  have hkb : kb < 8 := by omega
  rw [e4] at bn
  refine (cDone22 hs hok h0 h1 hka hkb bn e1 e2 e3 e4 (hs.reg (dA x)) (hs.reg (dB x)) (by rw [← e2]) (by rw [← e3]) rfl hk w).mono ?_
  rintro e w' ⟨rfl, hb⟩
  refine ⟨?_, hb⟩
  rw [e4, e2, e3]
  simp only [doneW, takenL, putL]
  simp
theorem cDq23 {s : St} (hs : s.ok) {x : Int} (h0 : 0 ≤ x) (h1 : x < 4294967296) (hk : ((planL s x).kind == 1) = false) (e1 : dOp x = 23) {told : Int} (_ht : u32? told) (w : World) : Calls Try.prog 12 #[.agg (stA s), .int .u32 x, .int .u32 told] w fun e w' => e = .returned (.agg (stA (doneW s 23 (dA x) (reg s (dA x)) (reg s (dB x)) (dN x) told))) ∧ Below w.heap.size w w' := by
  have hok := plan_ok hk
  obtain ⟨_, ⟨a0, a1⟩, ⟨b0, b1⟩, bn⟩ := ok_bounds hok
  obtain ⟨ka, e2⟩ : ∃ k : Nat, dA x = k := ⟨_, (Int.toNat_of_nonneg a0).symm⟩
  obtain ⟨kb, e3⟩ : ∃ k : Nat, dB x = k := ⟨_, (Int.toNat_of_nonneg b0).symm⟩
  obtain ⟨n, e4⟩ : ∃ n, dN x = n := ⟨_, rfl⟩
  have hka : ka < 8 := by omega
  have hkb : kb < 8 := by omega
  rw [e4] at bn
  refine (cDone23 hs hok h0 h1 hka hkb bn e1 e2 e3 e4 (hs.reg (dA x)) (hs.reg (dB x)) (by rw [← e2]) (by rw [← e3]) rfl hk w).mono ?_
  rintro e w' ⟨rfl, hb⟩
  refine ⟨?_, hb⟩
  rw [e4, e2, e3]
  simp only [doneW, takenL, putL]
  simp
theorem cDq25 {s : St} (hs : s.ok) {x : Int} (h0 : 0 ≤ x) (h1 : x < 4294967296) (hk : ((planL s x).kind == 1) = false) (e1 : dOp x = 25) {told : Int} (_ht : u32? told) (w : World) : Calls Try.prog 12 #[.agg (stA s), .int .u32 x, .int .u32 told] w fun e w' => e = .returned (.agg (stA (doneW s 25 (dA x) (reg s (dA x)) (reg s (dB x)) (dN x) told))) ∧ Below w.heap.size w w' := by
  have hok := plan_ok hk
  obtain ⟨_, ⟨a0, a1⟩, ⟨b0, b1⟩, bn⟩ := ok_bounds hok
  obtain ⟨ka, e2⟩ : ∃ k : Nat, dA x = k := ⟨_, (Int.toNat_of_nonneg a0).symm⟩
  obtain ⟨kb, e3⟩ : ∃ k : Nat, dB x = k := ⟨_, (Int.toNat_of_nonneg b0).symm⟩
  obtain ⟨n, e4⟩ : ∃ n, dN x = n := ⟨_, rfl⟩
  have hka : ka < 8 := by omega
  have hkb : kb < 8 := by omega
  rw [e4] at bn
  refine (cDone25 hs hok h0 h1 hka hkb bn e1 e2 e3 e4 (hs.reg (dA x)) (hs.reg (dB x)) (by rw [← e2]) (by rw [← e3]) rfl hk w).mono ?_
  rintro e w' ⟨rfl, hb⟩
  refine ⟨?_, hb⟩
  rw [e4, e2, e3]
  simp only [doneW, takenL, putL]
  simp
theorem cDq26 {s : St} (hs : s.ok) {x : Int} (h0 : 0 ≤ x) (h1 : x < 4294967296) (hk : ((planL s x).kind == 1) = false) (e1 : dOp x = 26) {told : Int} (_ht : u32? told) (w : World) : Calls Try.prog 12 #[.agg (stA s), .int .u32 x, .int .u32 told] w fun e w' => e = .returned (.agg (stA (doneW s 26 (dA x) (reg s (dA x)) (reg s (dB x)) (dN x) told))) ∧ Below w.heap.size w w' := by
  have hok := plan_ok hk
  obtain ⟨_, ⟨a0, a1⟩, ⟨b0, b1⟩, bn⟩ := ok_bounds hok
  obtain ⟨ka, e2⟩ : ∃ k : Nat, dA x = k := ⟨_, (Int.toNat_of_nonneg a0).symm⟩
  obtain ⟨kb, e3⟩ : ∃ k : Nat, dB x = k := ⟨_, (Int.toNat_of_nonneg b0).symm⟩
  obtain ⟨n, e4⟩ : ∃ n, dN x = n := ⟨_, rfl⟩
  have hka : ka < 8 := by omega
  have hkb : kb < 8 := by omega
  rw [e4] at bn
  have hn := plan_imm hk (.inl e1)
  rw [e4] at hn
  refine (cDone26 hs hok h0 h1 hka hkb bn e1 e2 e3 e4 (hs.reg (dA x)) (hs.reg (dB x)) (by rw [← e2]) (by rw [← e3]) rfl hk hn w).mono ?_
  rintro e w' ⟨rfl, hb⟩
  refine ⟨?_, hb⟩
  rw [e4, e2, e3]
  simp only [doneW, takenL, putL]
  simp
theorem cDq27 {s : St} (hs : s.ok) {x : Int} (h0 : 0 ≤ x) (h1 : x < 4294967296) (hk : ((planL s x).kind == 1) = false) (e1 : dOp x = 27) {told : Int} (_ht : u32? told) (w : World) : Calls Try.prog 12 #[.agg (stA s), .int .u32 x, .int .u32 told] w fun e w' => e = .returned (.agg (stA (doneW s 27 (dA x) (reg s (dA x)) (reg s (dB x)) (dN x) told))) ∧ Below w.heap.size w w' := by
  have hok := plan_ok hk
  obtain ⟨_, ⟨a0, a1⟩, ⟨b0, b1⟩, bn⟩ := ok_bounds hok
  obtain ⟨ka, e2⟩ : ∃ k : Nat, dA x = k := ⟨_, (Int.toNat_of_nonneg a0).symm⟩
  obtain ⟨kb, e3⟩ : ∃ k : Nat, dB x = k := ⟨_, (Int.toNat_of_nonneg b0).symm⟩
  obtain ⟨n, e4⟩ : ∃ n, dN x = n := ⟨_, rfl⟩
  have hka : ka < 8 := by omega
  have hkb : kb < 8 := by omega
  rw [e4] at bn
  have hn := plan_imm hk (.inr e1)
  rw [e4] at hn
  have hc : n = 0 ∨ n = 1 ∨ n = 2 ∨ n = 3 ∨ n = 4 ∨ n = 5 := by omega
  rcases hc with hc | hc | hc | hc | hc | hc
  · refine (cDone27_0 hs hok h0 h1 hka hkb bn e1 e2 e3 e4 (hs.reg (dA x)) (hs.reg (dB x)) (by rw [← e2]) (by rw [← e3]) rfl hk hc w).mono ?_
    rintro e w' ⟨rfl, hb⟩
    refine ⟨?_, hb⟩
    rw [e4, e2, e3]
    simp only [doneW, takenL, putL, hc]
    simp
  · refine (cDone27_1 hs hok h0 h1 hka hkb bn e1 e2 e3 e4 (hs.reg (dA x)) (hs.reg (dB x)) (by rw [← e2]) (by rw [← e3]) rfl hk hc w).mono ?_
    rintro e w' ⟨rfl, hb⟩
    refine ⟨?_, hb⟩
    rw [e4, e2, e3]
    simp only [doneW, takenL, putL, hc]
    simp
  · refine (cDone27_2 hs hok h0 h1 hka hkb bn e1 e2 e3 e4 (hs.reg (dA x)) (hs.reg (dB x)) (by rw [← e2]) (by rw [← e3]) rfl hk hc w).mono ?_
    rintro e w' ⟨rfl, hb⟩
    refine ⟨?_, hb⟩
    rw [e4, e2, e3]
    simp only [doneW, takenL, putL, hc]
    simp
  · refine (cDone27_3 hs hok h0 h1 hka hkb bn e1 e2 e3 e4 (hs.reg (dA x)) (hs.reg (dB x)) (by rw [← e2]) (by rw [← e3]) rfl hk hc w).mono ?_
    rintro e w' ⟨rfl, hb⟩
    refine ⟨?_, hb⟩
    rw [e4, e2, e3]
    simp only [doneW, takenL, putL, hc]
    simp
  · refine (cDone27_4 hs hok h0 h1 hka hkb bn e1 e2 e3 e4 (hs.reg (dA x)) (hs.reg (dB x)) (by rw [← e2]) (by rw [← e3]) rfl hk hc w).mono ?_
    rintro e w' ⟨rfl, hb⟩
    refine ⟨?_, hb⟩
    rw [e4, e2, e3]
    simp only [doneW, takenL, putL, hc]
    simp
  · refine (cDone27_5 hs hok h0 h1 hka hkb bn e1 e2 e3 e4 (hs.reg (dA x)) (hs.reg (dB x)) (by rw [← e2]) (by rw [← e3]) rfl hk hc w).mono ?_
    rintro e w' ⟨rfl, hb⟩
    refine ⟨?_, hb⟩
    rw [e4, e2, e3]
    simp only [doneW, takenL, putL, hc]
    simp

theorem cDq28 {s : St} (hs : s.ok) {x : Int} (h0 : 0 ≤ x) (h1 : x < 4294967296) (hk : ((planL s x).kind == 1) = false) (e1 : dOp x = 28) {told : Int} (_ht : u32? told) (w : World) : Calls Try.prog 12 #[.agg (stA s), .int .u32 x, .int .u32 told] w fun e w' => e = .returned (.agg (stA (doneW s 28 (dA x) (reg s (dA x)) (reg s (dB x)) (dN x) told))) ∧ Below w.heap.size w w' := by
  have hok := plan_ok hk
  obtain ⟨_, ⟨a0, a1⟩, ⟨b0, b1⟩, bn⟩ := ok_bounds hok
  obtain ⟨ka, e2⟩ : ∃ k : Nat, dA x = k := ⟨_, (Int.toNat_of_nonneg a0).symm⟩
  obtain ⟨kb, e3⟩ : ∃ k : Nat, dB x = k := ⟨_, (Int.toNat_of_nonneg b0).symm⟩
  obtain ⟨n, e4⟩ : ∃ n, dN x = n := ⟨_, rfl⟩
  have hka : ka < 8 := by omega
  have hkb : kb < 8 := by omega
  rw [e4] at bn
  refine (cDone28 hs hok h0 h1 hka hkb bn e1 e2 e3 e4 (hs.reg (dA x)) (hs.reg (dB x)) (by rw [← e2]) (by rw [← e3]) rfl hk w).mono ?_
  rintro e w' ⟨rfl, hb⟩
  refine ⟨?_, hb⟩
  rw [e4, e2, e3]
  simp only [doneW, takenL, putL]
  simp
theorem cDone {s : St} (hs : s.ok) {x : Int} (h0 : 0 ≤ x) (h1 : x < 4294967296) {told : Int} (ht : u32? told) (w : World) : Calls Try.prog 12 #[.agg (stA s), .int .u32 x, .int .u32 told] w fun e w' => e = .returned (.agg (stA (doneL s x told))) ∧ Below w.heap.size w w' := by
  unfold doneL
  cases hk : ((planL s x).kind == 1)
  · have hok := plan_ok hk
    obtain ⟨⟨o0, o1⟩, _⟩ := ok_bounds hok
    have h24 : dOp x ≠ 24 := by
      intro h
      unfold planL planW at hk
      rw [if_pos hok, if_pos h] at hk
      split at hk <;> simp [trapW] at hk
    rw [if_neg (by decide)]
    have hc : dOp x = 1 ∨ dOp x = 2 ∨ dOp x = 3 ∨ dOp x = 4 ∨ dOp x = 5 ∨ dOp x = 6 ∨ dOp x = 7 ∨ dOp x = 8 ∨ dOp x = 9 ∨ dOp x = 10 ∨ dOp x = 11 ∨ dOp x = 12 ∨ dOp x = 13 ∨ dOp x = 14 ∨ dOp x = 15 ∨ dOp x = 16 ∨ dOp x = 17 ∨ dOp x = 18 ∨ dOp x = 19 ∨ dOp x = 20 ∨ dOp x = 21 ∨ dOp x = 22 ∨ dOp x = 23 ∨ dOp x = 25 ∨ dOp x = 26 ∨ dOp x = 27 ∨ dOp x = 28 := by omega
    rcases hc with e1 | e1 | e1 | e1 | e1 | e1 | e1 | e1 | e1 | e1 | e1 | e1 | e1 | e1 | e1 | e1 | e1 | e1 | e1 | e1 | e1 | e1 | e1 | e1 | e1 | e1 | e1
    · rw [e1]; exact cDq1 hs h0 h1 hk e1 ht w
    · rw [e1]; exact cDq2 hs h0 h1 hk e1 ht w
    · rw [e1]; exact cDq3 hs h0 h1 hk e1 ht w
    · rw [e1]; exact cDq4 hs h0 h1 hk e1 ht w
    · rw [e1]; exact cDq5 hs h0 h1 hk e1 ht w
    · rw [e1]; exact cDq6 hs h0 h1 hk e1 ht w
    · rw [e1]; exact cDq7 hs h0 h1 hk e1 ht w
    · rw [e1]; exact cDq8 hs h0 h1 hk e1 ht w
    · rw [e1]; exact cDq9 hs h0 h1 hk e1 ht w
    · rw [e1]; exact cDq10 hs h0 h1 hk e1 ht w
    · rw [e1]; exact cDq11 hs h0 h1 hk e1 ht w
    · rw [e1]; exact cDq12 hs h0 h1 hk e1 ht w
    · rw [e1]; exact cDq13 hs h0 h1 hk e1 ht w
    · rw [e1]; exact cDq14 hs h0 h1 hk e1 ht w
    · rw [e1]; exact cDq15 hs h0 h1 hk e1 ht w
    · rw [e1]; exact cDq16 hs h0 h1 hk e1 ht w
    · rw [e1]; exact cDq17 hs h0 h1 hk e1 ht w
    · rw [e1]; exact cDq18 hs h0 h1 hk e1 ht w
    · rw [e1]; exact cDq19 hs h0 h1 hk e1 ht w
    · rw [e1]; exact cDq20 hs h0 h1 hk e1 ht w
    · rw [e1]; exact cDq21 hs h0 h1 hk e1 ht w
    · rw [e1]; exact cDq22 hs h0 h1 hk e1 ht w
    · rw [e1]; exact cDq23 hs h0 h1 hk e1 ht w
    · rw [e1]; exact cDq25 hs h0 h1 hk e1 ht w
    · rw [e1]; exact cDq26 hs h0 h1 hk e1 ht w
    · rw [e1]; exact cDq27 hs h0 h1 hk e1 ht w
    · rw [e1]; exact cDq28 hs h0 h1 hk e1 ht w
  · rw [if_pos rfl]
    exact cDone_trap hs h0 h1 rfl hk w
end Go.Proofs.Ytmpnlhfnemidpaa
