/- The law CpuRuns: the walk. -/
import Derived.Test.YtmpnlhfnemidpaaLw
namespace Go.Proofs.Ytmpnlhfnemidpaa
open Go.RowKit Go.Shelf
theorem wp_load_rowX {P : Program} {o : Oper} {a : Act} {w : World} {K : Act → World → Prop} {Q : Exit → Act → World → Prop} (ty : TypeId) (x : Operand) (ho : o.op = .load ty x) (g : Nat) (hx : a.eval x = .pointer (some ⟨g, 0, none⟩)) (t : TypeId) (cs : Array Value) (d : TypeDesc) (hg : Cells w g t cs)
    (hu : P.underlying ty = some d) (hd : (match d with | .struct _ | .array _ _ => true | _ => false) = true) (hi : (P.info? ty).map (·.size) = some cs.size) (h : K (a.put o.dst (.agg cs)) w) : o.wp P a w K Q := by
  unfold Oper.wp
  rw [exec_load_row ty x ho g hx t cs d hg hu hd hi]
  exact h
theorem plan_causeW {op a b at_ n : Int} {sup : Bool} : (planW op a b at_ n sup).cause = 0 ∨ (planW op a b at_ n sup).cause = 1 ∨ (planW op a b at_ n sup).cause = 2 ∨ (planW op a b at_ n sup).cause = 6 ∨ (planW op a b at_ n sup).cause = 8 := by
  unfold planW
  by_cases g1 : highL op = true ∧ sup = false
  · rw [if_pos g1]; simp [trapW]
  rw [if_neg g1]
  by_cases g2 : op = 24
  · rw [if_pos g2]; simp [trapW]
  rw [if_neg g2]
  by_cases g3 : ((op = 13 ∨ op = 14) ∧ at_ % 4 ≠ 0) ∨ (op = 21 ∧ b % 4 ≠ 0)
  · rw [if_pos g3]; simp [trapW]
  rw [if_neg g3]
  by_cases g4 : (op = 26 ∨ op = 27) ∧ (n < 0 ∨ 5 < n)
  · rw [if_pos g4]; simp [trapW]
  rw [if_neg g4]
  left
  by_cases h1 : op = 13
  · rw [if_pos h1]
  rw [if_neg h1]
  by_cases h2 : op = 15
  · rw [if_pos h2]
  rw [if_neg h2]
  by_cases h3 : op = 14
  · rw [if_pos h3]
  rw [if_neg h3]
  by_cases h4 : op = 16
  · rw [if_pos h4]
  rw [if_neg h4]
  by_cases h5 : op = 22
  · rw [if_pos h5]
  rw [if_neg h5]
  by_cases h6 : op = 23
  · rw [if_pos h6]
  rw [if_neg h6]
  by_cases h7 : op = 1
  · rw [if_pos h7]
  rw [if_neg h7]
  by_cases h8 : op = 28
  · rw [if_pos h8]
  rw [if_neg h8]
theorem plan_cause {s : St} {x : Int} : u32? (planL s x).cause := by
  unfold planL
  by_cases hok : okL x = true
  · rw [if_pos hok]
    unfold u32?
    have := @plan_causeW (dOp x) (reg s (dA x)) (reg s (dB x)) (atL s x) (dN x) s.sup
    omega
  · rw [if_neg hok]; exact ⟨by decide, by decide⟩
theorem u32_mod (a : Int) : u32? (a % 4294967296) := by unfold u32?; omega
theorem u32_bits (op : BinOp) (a b : Int) : u32? (bits op .u32 a b) := u32_of_wf (wf_bits _ _ _ _)
theorem makesL_u32 {op a b n : Int} (ha : u32? a) : u32? (makesL op a b n) := by
  unfold makesL
  repeat' split
  all_goals first
    | exact u32_mod _
    | exact u32_bits _ _ _
    | exact ⟨by decide, by decide⟩
    | skip
  unfold shrZ u32?
  obtain ⟨a0, a1⟩ := ha
  have h2 : (0 : Int) < 2 ^ (b % 32).toNat := Int.pow_pos (by decide)
  exact ⟨Int.ediv_nonneg a0 (Int.le_of_lt h2), Int.lt_of_le_of_lt (Int.ediv_le_self _ a0) a1⟩
theorem statusL_u32 (s : St) : u32? (statusL s) := by
  unfold statusL u32?
  repeat' split
  all_goals omega
theorem gotL_u32 {s : St} (hs : s.ok) (n : Int) : u32? (gotL s n) := by
  unfold gotL
  repeat' split
  · exact hs.epc
  · exact hs.cause
  · exact hs.vec
  · exact hs.table
  · exact statusL_u32 s
  · exact hs.pc
theorem regs_set {s : St} (hs : s.ok) (k : Nat) {v : Int} (hv : u32? v) : ∀ x ∈ s.regs.set k v, u32? x := by
  intro x hx
  rcases List.mem_or_eq_of_mem_set hx with h | rfl
  · exact hs.regs x h
  · exact hv
theorem ok_set {s : St} (hs : s.ok) (k : Nat) {v p : Int} (hv : u32? v) (hp : u32? p) : St.ok { s with pc := p, regs := s.regs.set k v } :=
  ⟨by rw [List.length_set]; exact hs.len, regs_set hs k hv, hp, hs.epc, hs.cause, hs.vec, hs.table⟩
theorem doneW_ok {s : St} (hs : s.ok) {op ka a b n told : Int} (ha : u32? a) (hb : u32? b) (ht : u32? told) : (doneW s op ka a b n told).ok := by
  unfold doneW
  have hp : u32? (if takenL op a b = true then (s.pc + 4 * immL n) % 4294967296 else (s.pc + 4) % 4294967296) := by split <;> exact u32_mod _
  have h256 : u32? (told % 256) := by obtain ⟨t0, t1⟩ := ht; unfold u32?; omega
  generalize (if takenL op a b = true then (s.pc + 4 * immL n) % 4294967296 else (s.pc + 4) % 4294967296) = p at *
  have ho : St.ok { s with pc := p } := ⟨hs.len, hs.regs, hp, hs.epc, hs.cause, hs.vec, hs.table⟩
  by_cases h1 : 2 ≤ op ∧ op ≤ 12
  · rw [if_pos h1]; exact ok_set hs _ (makesL_u32 ha) hp
  rw [if_neg h1]
  by_cases h2 : op = 13 ∨ op = 22
  · rw [if_pos h2]; exact ok_set hs _ ht hp
  rw [if_neg h2]
  by_cases h3 : op = 15
  · rw [if_pos h3]; exact ok_set hs _ h256 hp
  rw [if_neg h3]
  by_cases h4 : op = 20
  · rw [if_pos h4]; exact ok_set hs _ (u32_mod _) hp
  rw [if_neg h4]
  by_cases h5 : op = 21
  · rw [if_pos h5]; exact ok_set hs _ (u32_mod _) hb
  rw [if_neg h5]
  by_cases h6 : op = 26
  · rw [if_pos h6]; exact ok_set hs _ (gotL_u32 hs _) hp
  rw [if_neg h6]
  by_cases h7 : op = 27
  · rw [if_pos h7]
    unfold putL
    repeat' split
    · exact ⟨hs.len, hs.regs, hp, ha, hs.cause, hs.vec, hs.table⟩
    · exact ⟨hs.len, hs.regs, hp, hs.epc, ha, hs.vec, hs.table⟩
    · exact ⟨hs.len, hs.regs, hp, hs.epc, hs.cause, ha, hs.table⟩
    · exact ⟨hs.len, hs.regs, hp, hs.epc, hs.cause, hs.vec, ha⟩
    · exact ⟨hs.len, hs.regs, hp, hs.epc, hs.cause, hs.vec, hs.table⟩
    · exact ho
  rw [if_neg h7]
  by_cases h8 : op = 25
  · rw [if_pos h8]; exact ⟨hs.len, hs.regs, hs.epc, hs.epc, hs.cause, hs.vec, hs.table⟩
  rw [if_neg h8]; exact ho
theorem doneL_ok {s : St} (hs : s.ok) {x told : Int} (ht : u32? told) : (doneL s x told).ok := by
  unfold doneL
  split
  · exact ⟨hs.len, hs.regs, hs.vec, hs.pc, plan_cause, hs.vec, hs.table⟩
  · exact doneW_ok hs (hs.reg _) (hs.reg _) ht
set_option maxRecDepth 100000 in
set_option maxHeartbeats 4000000 in
theorem cCpuRuns {s : St} (hs : s.ok) {w : World} {A : Option Addr} {l : List (Int × Int)} {c : Nat} (hl : RdP w w.heap.size A l) (hw : ∀ p ∈ l, u32? p.1 ∧ u32? p.2) (_hlen : l.length ≤ c) (_hcap : c ≤ maxLen) :
    Calls Try.prog 5 #[.agg (stA s), .slice A l.length c] w fun e w' => e = .returned (.bool true) ∧ Below w.heap.size w w' := by
  obtain ⟨K1, Hb, hsz⟩ := cells1 w (stA s) 25
  have HL := Lib.hid hl
  have HW := Lib.hid hw
  have h8 := hs.len
  clear hl hw hsz
  by_cases h1 : l.length ≤ 60
  · have h1' : ¬ (60 < (l.length : Int)) := by omega
    have HS := Lib.hid hs
    clear hs
    go_enter Try.func5, Try.ntmps5
    go_wp2_with fail
    generalize w.alloc _ = W at *
    have AS : StAt W w.heap.size s := ⟨K1, h8⟩
    clear K1 h8
    go_loopw [5] (fun i wr => ∃ (k : Nat) (s : St), k ≤ l.length ∧ i = .int .i64 k ∧ s.ok ∧ StAt wr w.heap.size s ∧ Below w.heap.size w wr) (fun i _ => l.length - (intOf i).toNat)
    case atStart => exact ⟨0, s, Nat.zero_le _, rfl, HS.out, AS, Hb⟩
    case round =>
      clear AS HS Hb
      obtain ⟨k, s, hk, rfl, hs, AS, hb⟩ := hrel
      have hi := hi25 hs.len
      by_cases hlt : k < l.length
      · obtain ⟨⟨x, t⟩, hx⟩ : ∃ x, l[k]? = some x := ⟨_, List.getElem?_eq_getElem hlt⟩
        obtain ⟨hxu, htu⟩ := HW.out _ (List.mem_of_getElem? hx)
        have hl0 := HL.out.below hb (Nat.le_refl _)
        obtain ⟨g, off, rfl, hg⟩ := hl0.some_ (by omega)
        obtain ⟨c0, c1⟩ := hl0.cell g off rfl k x t hx
        have rr := Lib.hid AS.row
        have d0 := fun y : Since wr => y.cell c0
        have d1 := fun y : Since wr => y.cell c1
        have hk0 : (0 : Int) ≤ (k : Int) := by omega
        have hk1 : (k : Int) < (l.length : Int) := by omega
        have B1 := Lib.hid hb
        have HO := Lib.hid (fun W => cOne hs hxu htu W)
        have HDN := Lib.hid (fun W => cDone hs hxu.1 hxu.2 htu W)
        have HSO := Lib.hid (doneL_ok hs (x := x) htu)
        clear hx hl0 hb hs
        go_upto_region 6 with (fail)
        refine wp_region_since (by kernel_rfl) (by kernel_rfl) ?_
        (try simp only [Act.put])
        (refine wpQuiet_plain rfl (fun K hK => ?_); refine quiet_of_run (fun x => exec_load_row 25 (.tmp 2) rfl w.heap.size rfl 25 (stA s) _ (Since.cells rr.out x) Try.underlying25 rfl hi) ?_; refine hK _ ?_; clear hK K; simp only [Act.put, List.setIfInBounds_toArray, List.set_cons_zero, List.set_cons_succ])
        iterate 4 (go_big_quiet_step (fail))
        go_big_quiet_step ((go_at_call 16; exact Since.of (HO.out _)))
        go_big_quiet_step (fail)
        refine wpQuiet_nil ?_
        rintro _ ⟨y, rfl⟩
        have B2 := B1.out.trans (y.low.mono B1.out.size)
        have A2 := AS.below y.low AS.lt
        have e0 := d0 y
        have e1 := d1 y
        clear d0 d1 rr B1 HO AS c0 c1
        generalize y.val = W6 at *
        go_upto_region 8 with (fail)
        have B3 := B2.drew
        have A3 := A2.drew
        have hlt2 := A2.lt
        have hne : ¬ g = w.heap.size := by omega
        obtain ⟨P1, hP1, hPb, hPs, hH0⟩ : ∃ P1 : World → Prop, (∀ w0, P1 w0 → w0.cell? ⟨g, off + k * 2, none⟩ = some (.int .u32 x) ∧ w0.cell? ⟨g, off + k * 2 + 1, none⟩ = some (.int .u32 t)) ∧ (∀ w0 w1, P1 w0 → Below w0.heap.size w0 w1 → P1 w1) ∧ (∀ w0 vs, P1 w0 → P1 (w0.setCells w.heap.size 0 vs)) ∧ P1 W6.drew :=
          ⟨fun w0 => w0.cell? ⟨g, off + k * 2, none⟩ = some (.int .u32 x) ∧ w0.cell? ⟨g, off + k * 2 + 1, none⟩ = some (.int .u32 t), fun _ h => h, fun w0 w1 h hb => ⟨Since.cell h.1 ⟨w1, hb⟩, Since.cell h.2 ⟨w1, hb⟩⟩, fun w0 vs h => ⟨(World.cell?_of_block (heap_setCells_other w.heap.size vs 0 w0 g hne)).trans h.1, (World.cell?_of_block (heap_setCells_other w.heap.size vs 0 w0 g hne)).trans h.2⟩, e0, e1⟩
        have HP1 := Lib.hid hP1
        have HPb := Lib.hid hPb
        have HPs := Lib.hid hPs
        have HB3 := Lib.hid B3
        clear hP1 hPb hPs e0 e1 B2 A2 B3 hne hlt2
        have hA3 : Cells W6.drew w.heap.size 25 (stA s) := A3.row
        refine wp_region_noPanic ?_
        refine wp_region_held_drew (S := P1) (by kernel_rfl) hH0 (fun hHeld => ?_)
        clear hH0
        refine wpAnyH_take (i := 1) (oi := ⟨some 24, _, _, _, _, _⟩) (v := ?_) rfl (by as_aux_lemma => kernel_rfl) (by as_aux_lemma => kernel_rfl) (by as_aux_lemma => kernel_rfl) (fun _ _ _ h => h) (Or.inl ⟨by kernel_rfl, ?_⟩) (by assumption) ?_
        rotate_left
        · ((intro w0 hw; have c0 := (HP1.out w0 hw).1; have c1 := (HP1.out w0 hw).2; go_simp) <;> with_reducible rfl)
        simp only [Act.put, List.setIfInBounds_toArray, List.set_cons_zero, List.set_cons_succ]
        refine wpAnyH_take (i := 2) (oi := ⟨some 25, _, _, _, _, _⟩) (v := ?_) rfl (by as_aux_lemma => kernel_rfl) (by as_aux_lemma => kernel_rfl) (by as_aux_lemma => kernel_rfl) (fun _ _ _ h => h) (Or.inl ⟨by kernel_rfl, ?_⟩) (by assumption) ?_
        rotate_left
        · ((intro w0 hw; have c0 := (HP1.out w0 hw).1; have c1 := (HP1.out w0 hw).2; go_simp) <;> with_reducible rfl)
        simp only [Act.put, List.setIfInBounds_toArray, List.set_cons_zero, List.set_cons_succ]
        refine wpAnyH_take (i := 3) (oi := ⟨some 26, _, _, _, _, _⟩) (v := ?_) rfl (by as_aux_lemma => kernel_rfl) (by as_aux_lemma => kernel_rfl) (by as_aux_lemma => kernel_rfl) (fun _ _ _ h => h) (Or.inl ⟨by kernel_rfl, ?_⟩) (by assumption) ?_
        rotate_left
        · ((intro w0 hw; have c0 := (HP1.out w0 hw).1; have c1 := (HP1.out w0 hw).2; go_simp) <;> with_reducible rfl)
        simp only [Act.put, List.setIfInBounds_toArray, List.set_cons_zero, List.set_cons_succ]
        refine wpAnyH_take (i := 4) (oi := ⟨some 27, _, _, _, _, _⟩) (v := ?_) rfl (by as_aux_lemma => kernel_rfl) (by as_aux_lemma => kernel_rfl) (by as_aux_lemma => kernel_rfl) (fun _ _ _ h => h) (Or.inl ⟨by kernel_rfl, ?_⟩) (by assumption) ?_
        rotate_left
        · ((intro w0 hw; have c0 := (HP1.out w0 hw).1; have c1 := (HP1.out w0 hw).2; go_simp) <;> with_reducible rfl)
        simp only [Act.put, List.setIfInBounds_toArray, List.set_cons_zero, List.set_cons_succ]
        refine wpAnyH_take (i := 5) (oi := ⟨some 28, _, _, _, _, _⟩) (v := ?_) rfl (by as_aux_lemma => kernel_rfl) (by as_aux_lemma => kernel_rfl) (by as_aux_lemma => kernel_rfl) (fun _ _ _ h => h) (Or.inl ⟨by kernel_rfl, ?_⟩) (by assumption) ?_
        rotate_left
        · ((intro w0 hw; have c0 := (HP1.out w0 hw).1; have c1 := (HP1.out w0 hw).2; go_simp) <;> with_reducible rfl)
        simp only [Act.put, List.setIfInBounds_toArray, List.set_cons_zero, List.set_cons_succ]
        refine wpAnyH_take (i := 6) (oi := ⟨some 29, _, _, _, _, _⟩) (v := ?_) rfl (by as_aux_lemma => kernel_rfl) (by as_aux_lemma => kernel_rfl) (by as_aux_lemma => kernel_rfl) (fun _ _ _ h => h) (Or.inl ⟨by kernel_rfl, ?_⟩) (by assumption) ?_
        rotate_left
        · ((intro w0 hw; have c0 := (HP1.out w0 hw).1; have c1 := (HP1.out w0 hw).2; go_simp) <;> with_reducible rfl)
        simp only [Act.put, List.setIfInBounds_toArray, List.set_cons_zero, List.set_cons_succ]
        refine wpAnyH_take (i := 7) (oi := ⟨some 30, _, _, _, _, _⟩) (v := ?_) rfl (by as_aux_lemma => kernel_rfl) (by as_aux_lemma => kernel_rfl) (by as_aux_lemma => kernel_rfl) (fun _ _ _ h => h) (Or.inl ⟨by kernel_rfl, ?_⟩) (by assumption) ?_
        rotate_left
        · ((intro w0 hw; have c0 := (HP1.out w0 hw).1; have c1 := (HP1.out w0 hw).2; go_simp) <;> with_reducible rfl)
        simp only [Act.put, List.setIfInBounds_toArray, List.set_cons_zero, List.set_cons_succ]
        refine wpAnyH_take (i := 8) (oi := ⟨some 31, _, _, _, _, _⟩) (v := ?_) rfl (by as_aux_lemma => kernel_rfl) (by as_aux_lemma => kernel_rfl) (by as_aux_lemma => kernel_rfl) (fun _ _ _ h => h) (Or.inl ⟨by kernel_rfl, ?_⟩) (by assumption) ?_
        rotate_left
        · ((intro w0 hw; have c0 := (HP1.out w0 hw).1; have c1 := (HP1.out w0 hw).2; go_simp) <;> with_reducible rfl)
        simp only [Act.put, List.setIfInBounds_toArray, List.set_cons_zero, List.set_cons_succ]
        refine wpAnyH_take (i := 9) (oi := ⟨some 32, _, _, _, _, _⟩) (v := ?_) rfl (by as_aux_lemma => kernel_rfl) (by as_aux_lemma => kernel_rfl) (by as_aux_lemma => kernel_rfl) (fun _ _ _ h => h) (Or.inl ⟨by kernel_rfl, ?_⟩) (by assumption) ?_
        rotate_left
        · ((intro w0 hw; have c0 := (HP1.out w0 hw).1; have c1 := (HP1.out w0 hw).2; go_simp) <;> with_reducible rfl)
        simp only [Act.put, List.setIfInBounds_toArray, List.set_cons_zero, List.set_cons_succ]
        refine wpAnyH_take (i := 10) (oi := ⟨some 33, _, _, _, _, _⟩) (v := ?_) rfl (by as_aux_lemma => kernel_rfl) (by as_aux_lemma => kernel_rfl) (by as_aux_lemma => kernel_rfl) (fun _ _ _ h => h) (Or.inl ⟨by kernel_rfl, ?_⟩) (by assumption) ?_
        rotate_left
        · ((intro w0 hw; have c0 := (HP1.out w0 hw).1; have c1 := (HP1.out w0 hw).2; go_simp) <;> with_reducible rfl)
        simp only [Act.put, List.setIfInBounds_toArray, List.set_cons_zero, List.set_cons_succ]
        refine wpAnyH_ready (rs := [0]) (by as_aux_lemma => kernel_rfl) (by simp) ?_
        refine AllReadyH.cons rfl (fun K hK => ?_) AllReadyH.nil
        rw [if_pos (by kernel_rfl)]
        refine wp_load_rowX 25 (.tmp 2) rfl w.heap.size rfl 25 (stA s) _ hA3 Try.underlying25 rfl hi ?_
        refine hK.out _ _ hHeld (fun hHeld => ?_)
        clear hK K
        simp only [Act.put, List.setIfInBounds_toArray, List.set_cons_zero, List.set_cons_succ]
        refine wpAnyH_ready (rs := [11]) (by as_aux_lemma => kernel_rfl) (by simp) ?_
        refine AllReadyH.cons rfl (fun K hK => ?_) AllReadyH.nil
        go_simp
        (go_at_call 12; refine (HDN.out _).mono ?_; rintro e w1 ⟨rfl, hb⟩; go_wp2_with fail)
        have hH := HPb.out _ _ hHeld hb
        have B4 := HB3.out.trans (hb.mono HB3.out.size)
        have A4 := A3.below hb A3.lt
        clear hb hHeld
        refine hK.out _ _ hH (fun hHeld => ?_)
        clear hK K hH
        (try simp only [Act.put, List.setIfInBounds_toArray, List.set_cons_zero, List.set_cons_succ])
        have hso := HSO.out
        have hi2 := hi25 hso.len
        have T4 : w1.there w.heap.size 0 (stA (doneL s x t)).size := by rw [stA_size hso.len, ← stA_size A4.len]; exact A4.row.there
        refine wpAnyH_ready (rs := [12]) (by as_aux_lemma => kernel_rfl) (by simp) ?_
        refine AllReadyH.cons rfl (fun K hK => ?_) AllReadyH.nil
        rw [if_pos (by kernel_rfl)]
        refine wp_store_mid 25 (.tmp 2) (.tmp 34) rfl w.heap.size 0 (stA (doneL s x t)) rfl rfl T4 hi2 (stA_one _) ?_
        refine hK.out _ _ (HPs.out _ _ hHeld) (fun hHeld => ?_)
        clear hK K
        (try simp only [Act.put, List.setIfInBounds_toArray, List.set_cons_zero, List.set_cons_succ])
        refine wpAnyH_done (by as_aux_lemma => kernel_rfl) ?_ _
        refine NoPanic.normal ?_
        have A5 : StAt (w1.setCells w.heap.size 0 (stA (doneL s x t)).toList) w.heap.size (doneL s x t) := ⟨by
          have := A4.row.setAll (stA (doneL s x t)).toList (by rw [Array.length_toList, stA_size hso.len, stA_size A4.len])
          rwa [Array.toArray_toList] at this, hso.len⟩
        have B5 := Lib.hid (below_setCells (stA (doneL s x t)).toList 0 B4 (Nat.le_refl _))
        clear hHeld A4 B4 T4 hi2 A3 hA3 HP1 HPb HPs HB3
        generalize World.setCells _ _ _ _ = W8 at *
        go_wp2_with fail
        go_roundw
        case rel => exact ⟨k + 1, doneL s x t, by omega, by go_num, hso, A5, B5.out⟩
        case measure => simp [intOf]; omega
      · obtain rfl : k = l.length := by omega
        go_wp2_with fail
        refine (cKnown _).mono ?_
        rintro e W1 ⟨rfl, hb1⟩
        go_wp2
        go_ret
        exact ⟨rfl, hb.trans (hb1.mono hb.size)⟩
  · have h1' : 60 < (l.length : Int) := by omega
    go_enter Try.func5, Try.ntmps5
    go_wp2_with fail
    refine (cKnown _).mono ?_
    rintro e W1 ⟨rfl, hb1⟩
    go_wp2
    go_ret
    exact ⟨rfl, Hb.trans (hb1.mono Hb.size)⟩
end Go.Proofs.Ytmpnlhfnemidpaa
