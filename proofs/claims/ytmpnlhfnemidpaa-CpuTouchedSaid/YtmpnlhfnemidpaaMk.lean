/- The cpu's makes: the map of what Ops make, and its functions: contracts. -/
import Derived.Test.YtmpnlhfnemidpaaWo
import Derived.Test.YtmpnlhfnemidpaaRd
import Derived.Laws.EntriesVeiled
import Derived.Test.YtmpnlhfnemidpaaPl
namespace Go.Proofs.Ytmpnlhfnemidpaa
open Go.RowKit Go.Shelf

/-- The world while the map is made: its entries so far, the blocks of the functions handed to 'two'. -/
structure MkAt (w W : World) (L : List (Int × Value)) (fs : List Value) : Prop where
  m : MapAt .i64 W w.heap.size L
  f : ∀ (j : Nat) (v : Value), fs[j]? = some v → Cells W (w.heap.size + 1 + j) 57 #[v]
  sz : W.heap.size = w.heap.size + 1 + fs.length
  low : Below w.heap.size w W
theorem below_putObj {w W : World} {n b : Nat} (h : Below n w W) (hb : n ≤ b) (o : Obj) : Below n w (W.putObj b o) :=
  ⟨h.os, h.tape, h.output, by simpa [World.putObj] using h.size, fun k hk => (World.putObj_heap_other (by omega)).trans (h.block k hk)⟩
theorem MkAt.put {w W : World} {L L' : List (Int × Value)} {fs : List Value} (h : MkAt w W L fs) {o : Obj} (hm : MapAt .i64 (W.putObj w.heap.size o) w.heap.size L') : MkAt w (W.putObj w.heap.size o) L' fs :=
  ⟨hm, fun j v hj => (h.f j v hj).put o (by omega), by rw [← h.sz]; simp [World.putObj], below_putObj h.low (Nat.le_refl _) o⟩
theorem MkAt.new (w : World) : MkAt w (w.alloc (.map #[] 0)) [] [] :=
  ⟨MapAt.new _ _, fun j v h => by simp at h, by simp, (Below.refl _ _).alloc (Nat.le_refl _) _⟩
theorem MkAt.more {w W : World} {L : List (Int × Value)} {fs : List Value} (h : MkAt w W L fs) (v : Value) : MkAt w (W.alloc (.cells #[v] 57)) L (fs ++ [v]) :=
  ⟨h.m.of_block (Below.heap_alloc W _ _ h.m.lt), fun j u hj => by
    rcases Nat.lt_or_ge j fs.length with hl | hl
    · rw [List.getElem?_append_left hl] at hj
      exact (h.f j u hj).alloc _
    · have e : j = fs.length := by have := (List.getElem?_eq_some_iff.1 hj).1; simp at this; omega
      subst e
      simp at hj
      subst hj
      rw [← h.sz]; exact Cells.new _ _ _, by simp [h.sz]; omega, h.low.alloc h.low.size _⟩
section
variable {ops : Array Oper} {rest : List Oper} {o : Oper} {a : Act} {w W : World} {Q : Exit → Act → World → Prop} {L : List (Int × Value)} {fs : List Value}
theorem wpList_insert_mk (hK : MkAt w W L fs) (hg : o.guard = none) (x y z : Operand) (ho : o.op = .insert 60 x y z) (hx : a.eval x = .map (some w.heap.size)) (k : Int) (hy : a.eval y = .int .i64 k) (v : Value) (hz : a.eval z = v) (hf : findL k L 0 = none)
    (hn : ∀ W', MkAt w W' (L ++ [(k, v)]) fs → wpList Try.prog ops Q rest (a.put o.dst undef) W') : wpList Try.prog ops Q (o :: rest) a W :=
  wpList_plain hg fun K hk => by
    obtain ⟨ob, hr, hm⟩ := run_mapUpdate_ints hK.m Try.underlying60 Try.underlying52 k v
    rw [show updL k v L = L ++ [(k, v)] by simp only [updL, hf]] at hm
    unfold Oper.wp execOp
    simp only [ho, hx, hy, hz, Sem.run_bind, hr, Result.andThen_ok, Sem.run_pure]
    exact hk _ _ (hn _ (hK.put hm))
end
theorem cTwo {w W : World} {L : List (Int × Value)} {fs : List Value} (hK : MkAt w W L fs) (g : FuncId) : Calls Try.prog 43 #[.func (.func g) #[] #[]] W fun e w' => e = .returned (.func (.func 44) #[] #[.pointer (some ⟨w.heap.size + 1 + fs.length, 0, none⟩)]) ∧ MkAt w w' L (fs ++ [.func (.func g) #[] #[]]) := by
  have hm := hK.more (.func (.func g) #[] #[])
  have hs := hK.sz
  have HS := Lib.hid hs
  have HM := Lib.hid hm
  clear hs hm hK
  go_enter Try.func43, Try.ntmps43
  go_wp2
  go_ret
  refine ⟨?_, HM.out⟩
  rw [← HS.out]; rfl
/-- The map's entries. -/
def mkL (B : Nat) : List (Int × Value) := [(2, .func (.func 45) #[] #[]), (3, .func (.func 46) #[] #[])] ++ (List.range 9).map fun (j : Nat) => ((j : Int) + 4, .func (.func 44) #[] #[.pointer (some ⟨B + 1 + j, 0, none⟩)])
def mkF : List Value := [.func (.func 21) #[] #[], .func (.func 47) #[] #[], .func (.func 25) #[] #[], .func (.func 48) #[] #[], .func (.func 49) #[] #[], .func (.func 50) #[] #[], .func (.func 51) #[] #[], .func (.func 53) #[] #[], .func (.func 55) #[] #[]]
set_option maxHeartbeats 1000000 in
theorem cMakes (w : World) : Calls Try.prog 22 #[] w fun e w' => e = .returned (.map (some w.heap.size)) ∧ MkAt w w' (mkL w.heap.size) mkF := by
  have hmm := @run_makeMap Try.prog
  have hK := MkAt.new w
  go_enter Try.func22, Try.ntmps22
  go_wp2_with (first
    | (refine wpList_insert_mk (by assumption) rfl _ _ _ rfl rfl _ rfl (.func (.func _) #[] _) rfl (by simp [findL]) ?_; intro W' hK')
    | (go_at_call 43; refine (cTwo (by assumption) _).mono ?_; rintro e w' ⟨rfl, hK'⟩))
  go_ret
  exact ⟨rfl, hK'⟩
end Go.Proofs.Ytmpnlhfnemidpaa
namespace Go.Proofs.Ytmpnlhfnemidpaa
open Go.RowKit Go.Shelf

/-- What an Op makes of A, B, Imm. -/
def makesL (op a b n : Int) : Int :=
  if op = 2 then n * 65536 % 4294967296
  else if op = 3 then (b + n) % 4294967296
  else if op = 4 then (a + b) % 4294967296
  else if op = 5 then (a - b) % 4294967296
  else if op = 6 then a * b % 4294967296
  else if op = 7 then bits .and .u32 a b
  else if op = 8 then bits .or .u32 a b
  else if op = 9 then bits .xor .u32 a b
  else if op = 10 then shlZ a b
  else if op = 11 then shrZ a b
  else if wrap32 a < wrap32 b then 1 else 0
theorem cM2 (a b n : Int) (w : World) : Calls Try.prog 45 #[.int .u32 a, .int .u32 b, .int .u32 n] w fun e w' => e = .returned (.int .u32 (makesL 2 a b n)) ∧ w = w' := by
  go_enter Try.func45, Try.ntmps45
  go_wp2_with (go_at_call 25; refine (cMul _ _ _).mono ?_; rintro e w' ⟨rfl, rfl⟩)
  go_ret
  exact ⟨rfl, rfl⟩
theorem cM3 (a b n : Int) (w : World) : Calls Try.prog 46 #[.int .u32 a, .int .u32 b, .int .u32 n] w fun e w' => e = .returned (.int .u32 (makesL 3 a b n)) ∧ w = w' := by
  go_enter Try.func46, Try.ntmps46
  go_wp2_with (go_at_call 21; refine (cAdd _ _ _).mono ?_; rintro e w' ⟨rfl, rfl⟩)
  go_ret
  exact ⟨rfl, rfl⟩
theorem mod_mod32 (b : Int) : b % 32 % 32 = b % 32 := by omega
theorem cAnd (a b : Int) (w : World) : Calls Try.prog 48 #[.int .u32 a, .int .u32 b] w fun e w' => e = .returned (.int .u32 (bits .and .u32 a b)) ∧ w = w' := by
  go_enter Try.func48, Try.ntmps48
  go_wp2
  go_ret
  exact ⟨rfl, rfl⟩
theorem cOr (a b : Int) (w : World) : Calls Try.prog 49 #[.int .u32 a, .int .u32 b] w fun e w' => e = .returned (.int .u32 (bits .or .u32 a b)) ∧ w = w' := by
  go_enter Try.func49, Try.ntmps49
  go_wp2
  go_ret
  exact ⟨rfl, rfl⟩
theorem cXor (a b : Int) (w : World) : Calls Try.prog 50 #[.int .u32 a, .int .u32 b] w fun e w' => e = .returned (.int .u32 (bits .xor .u32 a b)) ∧ w = w' := by
  go_enter Try.func50, Try.ntmps50
  go_wp2
  go_ret
  exact ⟨rfl, rfl⟩
theorem cShlM {a b : Int} (hb : u32? b) (w : World) : Calls Try.prog 51 #[.int .u32 a, .int .u32 b] w fun e w' => e = .returned (.int .u32 (shlZ a b)) ∧ w = w' := by
  have hb1 := hb.1
  have hb2 := hb.2
  have hm := and31 b hb1 hb2
  have hs := fun W => cShl a (b % 32) W (by omega) (by omega)
  rw [show shlZ a (b % 32) = shlZ a b by unfold shlZ; rw [mod_mod32]] at hs
  have HS := Lib.hid hs
  clear hs
  go_enter Try.func51, Try.ntmps51
  go_wp2_with (go_at_call 52; refine (HS.out _).mono ?_; rintro e w' ⟨rfl, rfl⟩)
  go_ret
  exact ⟨rfl, rfl⟩
theorem cShrM {a b : Int} (hb : u32? b) (w : World) : Calls Try.prog 53 #[.int .u32 a, .int .u32 b] w fun e w' => e = .returned (.int .u32 (shrZ a b)) ∧ w = w' := by
  have hb1 := hb.1
  have hb2 := hb.2
  have hm := and31 b hb1 hb2
  have hs := fun W => cShr a (b % 32) W (by omega) (by omega)
  rw [show shrZ a (b % 32) = shrZ a b by unfold shrZ; rw [mod_mod32]] at hs
  have HS := Lib.hid hs
  clear hs
  go_enter Try.func53, Try.ntmps53
  go_wp2_with (go_at_call 54; refine (HS.out _).mono ?_; rintro e w' ⟨rfl, rfl⟩)
  go_ret
  exact ⟨rfl, rfl⟩
theorem cSltM (a b : Int) (w : World) : Calls Try.prog 55 #[.int .u32 a, .int .u32 b] w fun e w' => e = .returned (.int .u32 (if wrap32 a < wrap32 b then 1 else 0)) ∧ w = w' := by
  have hl := cLess a b w
  by_cases h : wrap32 a < wrap32 b
  · rw [decide_eq_true h] at hl
    rw [if_pos h]
    have HL := Lib.hid hl
    clear hl h
    go_enter Try.func55, Try.ntmps55
    go_wp2_with (go_at_call 56; refine HL.out.mono ?_; rintro e w' ⟨rfl, rfl⟩)
    go_ret
    exact ⟨rfl, rfl⟩
  · rw [decide_eq_false h] at hl
    rw [if_neg h]
    have HL := Lib.hid hl
    clear hl h
    go_enter Try.func55, Try.ntmps55
    go_wp2_with (go_at_call 56; refine HL.out.mono ?_; rintro e w' ⟨rfl, rfl⟩)
    go_ret
    exact ⟨rfl, rfl⟩
theorem cM4 {a b : Int} (ha : u32? a) (hb : u32? b) (n : Int) {B : Nat} {w : World} (hc : Cells w B 57 #[.func (.func 21) #[] #[]]) : Calls Try.prog 44 #[.int .u32 a, .int .u32 b, .int .u32 n, .pointer (some ⟨B, 0, none⟩)] w fun e w' => e = .returned (.int .u32 (makesL 4 a b n)) ∧ w = w' := by
  have hall := And.intro ha hb
  clear hall
  have c0 := (hc.cell 0).trans (show _ = some (Value.func (.func 21) #[] #[]) from rfl)
  have hf : Calls Try.prog 21 #[.int .u32 a, .int .u32 b] w fun e w' => e = .returned (.int .u32 (makesL 4 a b n)) ∧ w = w' := cAdd a b w
  have HF := Lib.hid hf
  clear hf
  go_enter Try.func44, Try.ntmps44
  go_wp2_with (go_at_call 21; refine HF.out.mono ?_; rintro e w' ⟨rfl, rfl⟩)
  go_ret
  exact ⟨rfl, rfl⟩
theorem cM5 {a b : Int} (ha : u32? a) (hb : u32? b) (n : Int) {B : Nat} {w : World} (hc : Cells w B 57 #[.func (.func 47) #[] #[]]) : Calls Try.prog 44 #[.int .u32 a, .int .u32 b, .int .u32 n, .pointer (some ⟨B, 0, none⟩)] w fun e w' => e = .returned (.int .u32 (makesL 5 a b n)) ∧ w = w' := by
  have hall := And.intro ha hb
  clear hall
  have c0 := (hc.cell 0).trans (show _ = some (Value.func (.func 47) #[] #[]) from rfl)
  have hf : Calls Try.prog 47 #[.int .u32 a, .int .u32 b] w fun e w' => e = .returned (.int .u32 (makesL 5 a b n)) ∧ w = w' := cSub a b w
  have HF := Lib.hid hf
  clear hf
  go_enter Try.func44, Try.ntmps44
  go_wp2_with (go_at_call 47; refine HF.out.mono ?_; rintro e w' ⟨rfl, rfl⟩)
  go_ret
  exact ⟨rfl, rfl⟩
theorem cM6 {a b : Int} (ha : u32? a) (hb : u32? b) (n : Int) {B : Nat} {w : World} (hc : Cells w B 57 #[.func (.func 25) #[] #[]]) : Calls Try.prog 44 #[.int .u32 a, .int .u32 b, .int .u32 n, .pointer (some ⟨B, 0, none⟩)] w fun e w' => e = .returned (.int .u32 (makesL 6 a b n)) ∧ w = w' := by
  have hall := And.intro ha hb
  clear hall
  have c0 := (hc.cell 0).trans (show _ = some (Value.func (.func 25) #[] #[]) from rfl)
  have hf : Calls Try.prog 25 #[.int .u32 a, .int .u32 b] w fun e w' => e = .returned (.int .u32 (makesL 6 a b n)) ∧ w = w' := cMul a b w
  have HF := Lib.hid hf
  clear hf
  go_enter Try.func44, Try.ntmps44
  go_wp2_with (go_at_call 25; refine HF.out.mono ?_; rintro e w' ⟨rfl, rfl⟩)
  go_ret
  exact ⟨rfl, rfl⟩
theorem cM7 {a b : Int} (ha : u32? a) (hb : u32? b) (n : Int) {B : Nat} {w : World} (hc : Cells w B 57 #[.func (.func 48) #[] #[]]) : Calls Try.prog 44 #[.int .u32 a, .int .u32 b, .int .u32 n, .pointer (some ⟨B, 0, none⟩)] w fun e w' => e = .returned (.int .u32 (makesL 7 a b n)) ∧ w = w' := by
  have hall := And.intro ha hb
  clear hall
  have c0 := (hc.cell 0).trans (show _ = some (Value.func (.func 48) #[] #[]) from rfl)
  have hf : Calls Try.prog 48 #[.int .u32 a, .int .u32 b] w fun e w' => e = .returned (.int .u32 (makesL 7 a b n)) ∧ w = w' := cAnd a b w
  have HF := Lib.hid hf
  clear hf
  go_enter Try.func44, Try.ntmps44
  go_wp2_with (go_at_call 48; refine HF.out.mono ?_; rintro e w' ⟨rfl, rfl⟩)
  go_ret
  exact ⟨rfl, rfl⟩
theorem cM8 {a b : Int} (ha : u32? a) (hb : u32? b) (n : Int) {B : Nat} {w : World} (hc : Cells w B 57 #[.func (.func 49) #[] #[]]) : Calls Try.prog 44 #[.int .u32 a, .int .u32 b, .int .u32 n, .pointer (some ⟨B, 0, none⟩)] w fun e w' => e = .returned (.int .u32 (makesL 8 a b n)) ∧ w = w' := by
  have hall := And.intro ha hb
  clear hall
  have c0 := (hc.cell 0).trans (show _ = some (Value.func (.func 49) #[] #[]) from rfl)
  have hf : Calls Try.prog 49 #[.int .u32 a, .int .u32 b] w fun e w' => e = .returned (.int .u32 (makesL 8 a b n)) ∧ w = w' := cOr a b w
  have HF := Lib.hid hf
  clear hf
  go_enter Try.func44, Try.ntmps44
  go_wp2_with (go_at_call 49; refine HF.out.mono ?_; rintro e w' ⟨rfl, rfl⟩)
  go_ret
  exact ⟨rfl, rfl⟩
theorem cM9 {a b : Int} (ha : u32? a) (hb : u32? b) (n : Int) {B : Nat} {w : World} (hc : Cells w B 57 #[.func (.func 50) #[] #[]]) : Calls Try.prog 44 #[.int .u32 a, .int .u32 b, .int .u32 n, .pointer (some ⟨B, 0, none⟩)] w fun e w' => e = .returned (.int .u32 (makesL 9 a b n)) ∧ w = w' := by
  have hall := And.intro ha hb
  clear hall
  have c0 := (hc.cell 0).trans (show _ = some (Value.func (.func 50) #[] #[]) from rfl)
  have hf : Calls Try.prog 50 #[.int .u32 a, .int .u32 b] w fun e w' => e = .returned (.int .u32 (makesL 9 a b n)) ∧ w = w' := cXor a b w
  have HF := Lib.hid hf
  clear hf
  go_enter Try.func44, Try.ntmps44
  go_wp2_with (go_at_call 50; refine HF.out.mono ?_; rintro e w' ⟨rfl, rfl⟩)
  go_ret
  exact ⟨rfl, rfl⟩
theorem cM10 {a b : Int} (ha : u32? a) (hb : u32? b) (n : Int) {B : Nat} {w : World} (hc : Cells w B 57 #[.func (.func 51) #[] #[]]) : Calls Try.prog 44 #[.int .u32 a, .int .u32 b, .int .u32 n, .pointer (some ⟨B, 0, none⟩)] w fun e w' => e = .returned (.int .u32 (makesL 10 a b n)) ∧ w = w' := by
  have hall := And.intro ha hb
  clear hall
  have c0 := (hc.cell 0).trans (show _ = some (Value.func (.func 51) #[] #[]) from rfl)
  have hf : Calls Try.prog 51 #[.int .u32 a, .int .u32 b] w fun e w' => e = .returned (.int .u32 (makesL 10 a b n)) ∧ w = w' := cShlM hb w
  have HF := Lib.hid hf
  clear hf
  go_enter Try.func44, Try.ntmps44
  go_wp2_with (go_at_call 51; refine HF.out.mono ?_; rintro e w' ⟨rfl, rfl⟩)
  go_ret
  exact ⟨rfl, rfl⟩
theorem cM11 {a b : Int} (ha : u32? a) (hb : u32? b) (n : Int) {B : Nat} {w : World} (hc : Cells w B 57 #[.func (.func 53) #[] #[]]) : Calls Try.prog 44 #[.int .u32 a, .int .u32 b, .int .u32 n, .pointer (some ⟨B, 0, none⟩)] w fun e w' => e = .returned (.int .u32 (makesL 11 a b n)) ∧ w = w' := by
  have hall := And.intro ha hb
  clear hall
  have c0 := (hc.cell 0).trans (show _ = some (Value.func (.func 53) #[] #[]) from rfl)
  have hf : Calls Try.prog 53 #[.int .u32 a, .int .u32 b] w fun e w' => e = .returned (.int .u32 (makesL 11 a b n)) ∧ w = w' := cShrM hb w
  have HF := Lib.hid hf
  clear hf
  go_enter Try.func44, Try.ntmps44
  go_wp2_with (go_at_call 53; refine HF.out.mono ?_; rintro e w' ⟨rfl, rfl⟩)
  go_ret
  exact ⟨rfl, rfl⟩
theorem cM12 {a b : Int} (ha : u32? a) (hb : u32? b) (n : Int) {B : Nat} {w : World} (hc : Cells w B 57 #[.func (.func 55) #[] #[]]) : Calls Try.prog 44 #[.int .u32 a, .int .u32 b, .int .u32 n, .pointer (some ⟨B, 0, none⟩)] w fun e w' => e = .returned (.int .u32 (makesL 12 a b n)) ∧ w = w' := by
  have hall := And.intro ha hb
  clear hall
  have c0 := (hc.cell 0).trans (show _ = some (Value.func (.func 55) #[] #[]) from rfl)
  have hf : Calls Try.prog 55 #[.int .u32 a, .int .u32 b] w fun e w' => e = .returned (.int .u32 (makesL 12 a b n)) ∧ w = w' := cSltM a b w
  have HF := Lib.hid hf
  clear hf
  go_enter Try.func44, Try.ntmps44
  go_wp2_with (go_at_call 55; refine HF.out.mono ?_; rintro e w' ⟨rfl, rfl⟩)
  go_ret
  exact ⟨rfl, rfl⟩
/-- Is a branch taken? -/
def takenL (op a b : Int) : Bool := decide (op = 17 ∧ a = b ∨ op = 18 ∧ a ≠ b ∨ op = 19 ∧ wrap32 a < wrap32 b ∨ op = 20)
theorem cTaken_no {op : Int} (h : op ≠ 17 ∧ op ≠ 18 ∧ op ≠ 19 ∧ op ≠ 20) (a b : Int) (w : World) : Calls Try.prog 24 #[.int .i64 op, .int .u32 a, .int .u32 b] w fun e w' => e = .returned (.bool false) ∧ w = w' := by
  have h1 : (op == 17) = false := by simpa using h.1
  have h2 : (op == 18) = false := by simpa using h.2.1
  have h3 : (op == 19) = false := by simpa using h.2.2.1
  have h4 : (op == 20) = false := by simpa using h.2.2.2
  clear h
  go_enter Try.func24, Try.ntmps24
  go_wp2
  go_ret
  exact ⟨rfl, rfl⟩
theorem cTaken17 (a b : Int) (w : World) : Calls Try.prog 24 #[.int .i64 17, .int .u32 a, .int .u32 b] w fun e w' => e = .returned (.bool (a == b)) ∧ w = w' := by
  cases h : (a == b)
  all_goals
    go_enter Try.func24, Try.ntmps24
    go_wp2
    go_ret
    exact ⟨rfl, rfl⟩
theorem cTaken18 (a b : Int) (w : World) : Calls Try.prog 24 #[.int .i64 18, .int .u32 a, .int .u32 b] w fun e w' => e = .returned (.bool (a != b)) ∧ w = w' := by
  cases h : (a != b)
  all_goals
    go_enter Try.func24, Try.ntmps24
    go_wp2
    go_ret
    exact ⟨rfl, rfl⟩
theorem cTaken19 (a b : Int) (w : World) : Calls Try.prog 24 #[.int .i64 19, .int .u32 a, .int .u32 b] w fun e w' => e = .returned (.bool (decide (wrap32 a < wrap32 b))) ∧ w = w' := by
  have hl := cLess a b w
  cases h : (decide (wrap32 a < wrap32 b))
  all_goals
    rw [h] at hl
    have HL := Lib.hid hl
    clear hl h
    go_enter Try.func24, Try.ntmps24
    go_wp2_with (go_at_call 56; refine HL.out.mono ?_; rintro e w' ⟨rfl, rfl⟩)
    go_ret
    exact ⟨rfl, rfl⟩
theorem cTaken20 (a b : Int) (w : World) : Calls Try.prog 24 #[.int .i64 20, .int .u32 a, .int .u32 b] w fun e w' => e = .returned (.bool true) ∧ w = w' := by
  go_enter Try.func24, Try.ntmps24
  go_wp2
  go_ret
  exact ⟨rfl, rfl⟩
end Go.Proofs.Ytmpnlhfnemidpaa
