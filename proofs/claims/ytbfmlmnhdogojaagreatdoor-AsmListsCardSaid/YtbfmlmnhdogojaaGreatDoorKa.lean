/- What lines do by their first words: the map, contract. -/
import Derived.Test.YtbfmlmnhdogojaaGreatDoorPi
import Derived.Laws.EntriesVeiled
namespace Go.Proofs.YtbfmlmnhdogojaaGreatDoor
open Go.RowKit Go.Shelf

section
variable {P : Program} {W : World} {b : Nat} {es : Array MapEntry} {clock : Nat} {mt kt et : TypeId}
/-- A store under a new text. -/
theorem run_ins (hb : W.heap[b]? = some (.map es clock)) (hm : P.underlying mt = some (.map kt et)) (hk : P.underlying kt = some .string) (x : ByteArray) (v : Value) (hf : Instr.findNow .string (.string x) es.toList 0 = some none) :
    (Instr.mapUpdate mt (.map (some b)) (.string x) v).run P W = .ok () (W.putObj b (.map (es.push { key := .string x, val := v, born := clock }) (clock + 1))) := by
  simp only [Instr.mapUpdate, Sem.run_bind, run_underlying hm, Result.andThen_ok, MapKept.run_getObj_map hb, MapKept.run_checkKey hk (show MapKept.IsKey .string (.string x) from trivial), MapKept.run_findKey hk hf, MapKept.run_setObj_map _ hb]
  rfl
/-- A look-up of a text. -/
theorem run_look {z : Value} (hb : W.heap[b]? = some (.map es clock)) (hm : P.underlying mt = some (.map kt et)) (hk : P.underlying kt = some .string) (hz : (zeroValue et).run P W = .ok z W) (x : ByteArray) {r : Option (Nat × Value)} (hf : Instr.findNow .string (.string x) es.toList 0 = some r) :
    (Instr.lookup mt (.map (some b)) (.string x) true).run P W = .ok (.tuple #[(r.map (·.2)).getD z, .bool r.isSome]) W := by
  cases r with
  | none => simp only [Instr.lookup, Sem.run_bind, run_underlying hm, Result.andThen_ok, MapKept.run_getObj_map hb, MapKept.run_checkKey hk (show MapKept.IsKey .string (.string x) from trivial), MapKept.run_findKey hk hf, Sem.run_pure, hz]; rfl
  | some p => simp only [Instr.lookup, Sem.run_bind, run_underlying hm, Result.andThen_ok, MapKept.run_getObj_map hb, MapKept.run_checkKey hk (show MapKept.IsKey .string (.string x) from trivial), MapKept.run_findKey hk hf, Sem.run_pure]; rfl
end
/-- The map while it is made. -/
structure KAt (w W : World) (es : Array MapEntry) (c : Nat) : Prop where
  b : W.heap[w.heap.size]? = some (.map es c)
  low : Below w.heap.size w W
theorem KAt.new (w : World) : KAt w (w.alloc (.map #[] 0)) #[] 0 := ⟨World.alloc_heap_new w _, (Below.refl _ _).alloc (Nat.le_refl _) _⟩
section
variable {ops : Array Oper} {rest : List Oper} {o : Oper} {a : Act} {w W : World} {Q : Exit → Act → World → Prop} {es : Array MapEntry} {c : Nat}
theorem wpList_ins_k (hK : KAt w W es c) (hg : o.guard = none) (x y z : Operand) (ho : o.op = .insert 130 x y z) (hx : a.eval x = .map (some w.heap.size)) (k : ByteArray) (hy : a.eval y = .string k) (v : Value) (hz : a.eval z = v) (hf : Instr.findNow .string (.string k) es.toList 0 = some none)
    (hn : ∀ W', KAt w W' (es.push { key := .string k, val := v, born := c }) (c + 1) → wpList Tryz.prog ops Q rest (a.put o.dst undef) W') : wpList Tryz.prog ops Q (o :: rest) a W :=
  wpList_plain hg fun K hk => by
    have hr := run_ins hK.b Tryz.underlying130 Tryz.underlying9 k v hf
    have hlt : w.heap.size < W.heap.size := (Array.getElem?_eq_some_iff.1 hK.b).1
    unfold Oper.wp execOp
    simp only [ho, hx, hy, hz, Sem.run_bind, hr, Result.andThen_ok, Sem.run_pure]
    exact hk _ _ (hn _ ⟨World.putObj_heap_same hlt, ⟨hK.low.os, hK.low.tape, hK.low.output, by simpa [World.putObj] using hK.low.size, fun k hk => (World.putObj_heap_other (by omega)).trans (hK.low.block k hk)⟩⟩)
end
/-- Its entries. -/
def kindsE : Array MapEntry := #[⟨.string ⟨#[97, 116]⟩, .func (.func 94) #[] #[], 0⟩, ⟨.string ⟨#[119, 111, 114, 100]⟩, .func (.func 95) #[] #[], 1⟩, ⟨.string ⟨#[98, 121, 116, 101]⟩, .func (.func 100) #[] #[], 2⟩, ⟨.string ⟨#[116, 101, 120, 116]⟩, .func (.func 102) #[] #[], 3⟩]
set_option maxRecDepth 100000 in
theorem cKinds (w : World) : Calls Tryz.prog 71 #[] w fun e w' => e = .returned (.map (some w.heap.size)) ∧ KAt w w' kindsE 4 := by
  have hmm := @run_makeMap Tryz.prog
  have hK := KAt.new w
  go_enter Tryz.func71, Tryz.ntmps71
  go_wp2_with (refine wpList_ins_k (by assumption) rfl _ _ _ rfl rfl _ rfl (.func (.func _) #[] #[]) rfl (by kernel_rfl) ?_; intro W' hK')
  go_ret
  exact ⟨rfl, hK'⟩
end Go.Proofs.YtbfmlmnhdogojaaGreatDoor
namespace Go.Proofs.YtbfmlmnhdogojaaGreatDoor
open Go.RowKit Go.Shelf

/-- The slice at A reads these names and places, out of a block below B. -/
structure RdN (W : World) (B : Nat) (A : Option Addr) (l : List (ByteArray × Int)) : Prop where
  some_ : 0 < l.length → ∃ g off, A = some ⟨g, off, none⟩ ∧ g < B
  cell : ∀ g off, A = some ⟨g, off, none⟩ → ∀ i x y, l[i]? = some (x, y) → W.cell? ⟨g, off + i * 2, none⟩ = some (.string x) ∧ W.cell? ⟨g, off + i * 2 + 1, none⟩ = some (.int .i64 y)
theorem RdN.keep {W W' : World} {B : Nat} {A : Option Addr} {l : List (ByteArray × Int)} (h : RdN W B A l) (hb : ∀ g, g < B → W'.heap[g]? = W.heap[g]?) : RdN W' B A l :=
  ⟨h.some_, fun g off e i x y hx => by
    obtain ⟨g', off', e', hlt⟩ := h.some_ (by have := (List.getElem?_eq_some_iff.1 hx).1; omega)
    have : g' = g := by rw [e] at e'; simp at e'; exact e'.1.symm
    subst this
    obtain ⟨h1, h2⟩ := h.cell _ off e i x y hx
    exact ⟨(World.cell?_of_block (hb _ hlt)).trans h1, (World.cell?_of_block (hb _ hlt)).trans h2⟩⟩
theorem RdN.below {W W' : World} {B n : Nat} {A : Option Addr} {l : List (ByteArray × Int)} (h : RdN W B A l) (hb : Below n W W') (hn : B ≤ n) : RdN W' B A l :=
  h.keep fun g hg => hb.block g (by omega)
theorem namesV_len : ∀ ns : List (ByteArray × Int), (namesV ns).length = ns.length * 2
  | [] => rfl
  | p :: ns => by
    have := namesV_len ns
    have e : namesV (p :: ns) = [.string p.1, .int .i64 p.2] ++ namesV ns := rfl
    have e2 : (namesV (p :: ns)).length = 2 + (namesV ns).length := by rw [e, List.length_append]; rfl
    rw [e2, this, List.length_cons]
    omega
theorem namesV_get : ∀ (ns : List (ByteArray × Int)) (i : Nat) (x : ByteArray) (y : Int), ns[i]? = some (x, y) → (namesV ns)[i * 2]? = some (.string x) ∧ (namesV ns)[i * 2 + 1]? = some (.int .i64 y)
  | [], i, x, y, h => by simp at h
  | p :: ns, 0, x, y, h => by simp at h; subst h; exact ⟨rfl, rfl⟩
  | p :: ns, i + 1, x, y, h => by
    have := namesV_get ns i x y (by simpa using h)
    have e : namesV (p :: ns) = [.string p.1, .int .i64 p.2] ++ namesV ns := rfl
    rw [e, show (i + 1) * 2 = i * 2 + 2 by omega, List.getElem?_append_right (by simp), List.getElem?_append_right (by simp)]
    exact this
theorem rdn_row {W : World} {base : Nat} {ns : List (ByteArray × Int)} {A : Option Addr} {c : Nat} (h : W.ownsRow base 44 2 (.slice A ns.length c) ns.length (namesV ns)) : RdN W W.heap.size A ns := by
  refine ⟨fun hp => ?_, fun g off e i x y hx => ?_⟩
  · rcases h.2 with ⟨h0, h1⟩ | ⟨g, cap, cur, hv, hg, hb, _⟩
    · omega
    · simp at hv
      exact ⟨g, 0, hv.1, (Array.getElem?_eq_some_iff.1 hb).1⟩
  · have hi := (List.getElem?_eq_some_iff.1 hx).1
    obtain ⟨h1, h2⟩ := namesV_get ns i x y hx
    have hz : off = 0 := by
      rcases h.2 with ⟨h0, _⟩ | ⟨g', cap, cur, hv, _⟩
      · omega
      · simp at hv
        rw [e] at hv
        simp at hv
        exact hv.1.2
    subst e; subst hz
    rw [Nat.zero_add, h.cellAt (i * 2) (by omega), h.cellAt (i * 2 + 1) (by omega)]
    exact ⟨h1, h2⟩
theorem beq_bytes (x y : ByteArray) : (x.toList == y.toList) = decide (x = y) := by
  rw [ByteArray.toList_eq, ByteArray.toList_eq]
  by_cases h : x = y
  · subst h; simp
  · have : x.data.toList ≠ y.data.toList := fun e => h (ByteArray.ext (Array.ext' e))
    rw [beq_eq_false_iff_ne.2 this, decide_eq_false h]
/-- A closure that asks for a name. -/
def AsksN (W : World) (f : FuncId) (cap : Value) (name : ByteArray) : Prop :=
  ∀ W' x y, Below W.heap.size W W' → Calls Tryz.prog f #[.agg #[.string x, .int .i64 y], cap] W' fun e w' => e = .returned (.bool (decide (x = name))) ∧ Below W'.heap.size W' w'
theorem cAsk1 {W : World} {b : Nat} {name : ByteArray} (h : Cells W b 9 #[.string name]) : AsksN W 68 (.pointer (some ⟨b, 0, none⟩)) name := by
  intro W' x y hb
  have q0 := ((h.below hb h.lt).alloc (.cells #[.string x, .int .i64 y] 44)).cell 0
  have HB := Lib.hid ((Below.refl _ W').alloc (Nat.le_refl _) (.cells #[.string x, .int .i64 y] 44))
  clear h hb
  go_enter Tryz.func68, Tryz.ntmps68
  go_wp2
  go_ret
  exact ⟨ret_bool (beq_bytes x name), HB.out⟩
theorem cAsk2 {W : World} {b : Nat} {l p i : Value} {name : ByteArray} (h : Cells W b 89 #[l, p, i, .string name]) : AsksN W 74 (.pointer (some ⟨b, 0, none⟩)) name := by
  intro W' x y hb
  have q0 := ((h.below hb h.lt).alloc (.cells #[.string x, .int .i64 y] 44)).cell 3
  have HB := Lib.hid ((Below.refl _ W').alloc (Nat.le_refl _) (.cells #[.string x, .int .i64 y] 44))
  clear h hb
  go_enter Tryz.func74, Tryz.ntmps74
  go_wp2
  go_ret
  exact ⟨ret_bool (beq_bytes x name), HB.out⟩
/-- Where a name is, the first one. -/
def atL (name : ByteArray) : List (ByteArray × Int) → Nat → Int
  | [], _ => -1
  | p :: r, i => if p.1 = name then i else atL name r (i + 1)
theorem atL_drop {name : ByteArray} {ns : List (ByteArray × Int)} {k : Nat} {x : ByteArray} {y : Int} (h : ns[k]? = some (x, y)) : atL name (ns.drop k) k = if x = name then (k : Int) else atL name (ns.drop (k + 1)) (k + 1) := by
  have hl := (List.getElem?_eq_some_iff.1 h).1
  have he : ns[k] = (x, y) := by have := List.getElem?_eq_getElem hl; rw [this] at h; exact Option.some.inj h
  rw [List.drop_eq_getElem_cons hl, he]
  rfl
set_option maxRecDepth 100000 in
theorem cIdxN {W : World} {f : FuncId} {cap : Value} {name : ByteArray} {A : Option Addr} {ns : List (ByteArray × Int)} {c : Nat} (eg : ∀ args w, (callFunc f args).run Tryz.prog w = .ok (.enter f args) w) (hf : AsksN W f cap name) (hr : RdN W W.heap.size A ns) (hl : ns.length ≤ 1000000000) :
    Calls Tryz.prog 73 #[.slice A ns.length c, .func (.func f) #[] #[cap]] W fun e w' => e = .returned (.int .i64 (atL name ns 0)) ∧ Below W.heap.size W w' := by
  have HF := Lib.hid hf
  have HR := Lib.hid hr
  clear hf hr
  go_enter Tryz.func73, Tryz.ntmps73
  go_wp2_with fail
  go_loopw [8] (fun i wr => ∃ k : Nat, k ≤ ns.length ∧ i = .int .i64 k ∧ Hid (atL name ns 0 = atL name (ns.drop k) k) ∧ Below W.heap.size W wr) (fun i _ => ns.length - (intOf i).toNat)
  case atStart => exact ⟨0, Nat.zero_le _, rfl, Lib.hid rfl, Below.refl _ _⟩
  case round =>
    obtain ⟨k, hk, rfl, he, hb⟩ := hrel
    by_cases hlt : k < ns.length
    · obtain ⟨⟨x, y⟩, hx⟩ : ∃ p, ns[k]? = some p := ⟨_, List.getElem?_eq_getElem hlt⟩
      obtain ⟨g, off, rfl, hg⟩ := HR.out.some_ (by omega)
      obtain ⟨c0, c1⟩ := (HR.out.below hb (Nat.le_refl _)).cell g off rfl k x y hx
      have HA := Lib.hid (HF.out wr x y hb)
      have HE := Lib.hid (he.out.trans (atL_drop hx))
      have HB := Lib.hid hb
      clear he hx hb
      go_wp2_with fail
      refine HA.out.mono ?_
      rintro e W2 ⟨rfl, hb2⟩
      have HB2 := Lib.hid (HB.out.trans (hb2.mono HB.out.size))
      clear hb2 HA HB c0 c1
      by_cases hxn : x = name
      · rw [decide_eq_true hxn]
        rw [if_pos hxn] at HE
        clear hxn
        go_wp2
        go_ret
        exact ⟨ret_int HE.out.symm, HB2.out⟩
      · rw [decide_eq_false hxn]
        rw [if_neg hxn] at HE
        clear hxn
        go_wp2
        go_roundw
        case rel => exact ⟨k + 1, by omega, by go_num, HE, HB2.out⟩
        case measure => simp [intOf]; omega
    · obtain rfl : k = ns.length := by omega
      go_wp2_with fail
      go_ret
      refine ⟨ret_int ?_, hb⟩
      rw [he.out, List.drop_length]
      rfl
end Go.Proofs.YtbfmlmnhdogojaaGreatDoor
namespace Go.Proofs.YtbfmlmnhdogojaaGreatDoor
open Go.RowKit Go.Shelf

theorem cHasN {W : World} {f : FuncId} {cap : Value} {name : ByteArray} {A : Option Addr} {ns : List (ByteArray × Int)} {c : Nat} (eg : ∀ args w, (callFunc f args).run Tryz.prog w = .ok (.enter f args) w) (hf : AsksN W f cap name) (hr : RdN W W.heap.size A ns) (hl : ns.length ≤ 1000000000) :
    Calls Tryz.prog 67 #[.slice A ns.length c, .func (.func f) #[] #[cap]] W fun e w' => e = .returned (.bool (decide (0 ≤ atL name ns 0))) ∧ Below W.heap.size W w' := by
  have HC := Lib.hid (cIdxN (c := c) eg hf hr hl)
  clear hf hr
  go_enter Tryz.func67, Tryz.ntmps67
  go_wp2_with fail
  refine HC.out.mono ?_
  rintro e W2 ⟨rfl, hb⟩
  have HB := Lib.hid hb
  clear hb HC
  obtain ⟨r, hr⟩ : ∃ r, r = atL name ns 0 := ⟨_, rfl⟩
  rw [← hr]
  have HR := Lib.hid hr
  clear hr
  by_cases h : 0 ≤ r
  · go_wp2
    go_ret
    exact ⟨ret_bool (by rw [← HR.out]; simp [h]), HB.out⟩
  · go_wp2
    go_ret
    exact ⟨ret_bool (by simp [HR.out.symm]), HB.out⟩
/-- The program behind a step. -/
def Step (W W' : World) (R pb : Nat) (vb vn vh : Value) (line : Int) (bs : List Int) (ns : List (ByteArray × Int)) (hs : List HoleV) : Prop :=
  ∃ vb' vn' vh', PS W' R pb vb' vn' vh' line bs ns hs ∧ KeptBut (POwn pb vb vn vh) W W' ∧ ∀ k, POwn pb vb' vn' vh' k → POwn pb vb vn vh k ∨ W.heap.size ≤ k
section
variable {W : World} {R pb : Nat} {vb vn vh : Value} {line : Int} {bs : List Int} {ns : List (ByteArray × Int)} {hs : List HoleV} {s : ByteArray}
theorem Step.refl (h : PS W R pb vb vn vh line bs ns hs) : Step W W R pb vb vn vh line bs ns hs := ⟨vb, vn, vh, h, KeptBut.refl _ W, fun _ h => .inl h⟩
theorem Step.ofB {W' : World} {bs' : List Int} (h : ∃ vb', PS W' R pb vb' vn vh line bs' ns hs ∧ KeptBut (fun k => k = pb ∨ vb.ownBlock = some k) W W' ∧ ∀ k, vb'.ownBlock = some k → vb.ownBlock = some k ∨ W.heap.size ≤ k) : Step W W' R pb vb vn vh line bs' ns hs := by
  obtain ⟨vb', h1, h2, h3⟩ := h
  refine ⟨vb', vn, vh, h1, h2.mono fun k _ e => e.elim .inl (fun e => .inr (.inl e)), fun k e => ?_⟩
  rcases e with e | e | e
  · exact .inl (.inl e)
  · exact (h3 k e).imp (fun e => .inr (.inl e)) id
  · exact .inl (.inr (.inr e))
theorem Step.first {W1 W2 : World} (hb : Below W.heap.size W W1) (h : Step W1 W2 R pb vb vn vh line bs ns hs) : Step W W2 R pb vb vn vh line bs ns hs := by
  obtain ⟨vb', vn', vh', h1, h2, h3⟩ := h
  exact ⟨vb', vn', vh', h1, (KeptBut.of_below _ hb).trans h2, fun k e => (h3 k e).imp id (fun e => Nat.le_trans hb.size e)⟩
/-- Lines of no bytes. -/
theorem cDo0 (h : PS W R pb vb vn vh line bs ns hs) (he : s = ⟨#[]⟩) :
    Calls Tryz.prog 41 #[.pointer (some ⟨pb, 0, none⟩), .string s] W fun e W' => e = .returned (.tuple #[]) ∧ Step W W' R pb vb vn vh line bs ns hs := by
  have H := Lib.hid h
  clear h
  subst he
  go_enter Tryz.func41, Tryz.ntmps41
  go_wp2
  refine bodyPost_ret (results_none rfl _ _ _) rfl ?_
  exact ⟨rfl, Step.refl H.out⟩
theorem cDoC (h : PS W R pb vb vn vh line bs ns hs) (h0 : 0 < s.size) (he : s[0]'h0 = 35) :
    Calls Tryz.prog 41 #[.pointer (some ⟨pb, 0, none⟩), .string s] W fun e W' => e = .returned (.tuple #[]) ∧ Step W W' R pb vb vn vh line bs ns hs := by
  have H := Lib.hid h
  have hne : (s.toList == []) = false := by
    rw [ByteArray.toList_eq]
    have := size_list s
    cases h : s.data.toList with
    | nil => rw [h] at this; simp at this; omega
    | cons a b => rfl
  clear h
  go_enter Tryz.func41, Tryz.ntmps41
  go_wp2
  refine bodyPost_ret (results_none rfl _ _ _) rfl ?_
  exact ⟨rfl, Step.refl H.out⟩
end
end Go.Proofs.YtbfmlmnhdogojaaGreatDoor
