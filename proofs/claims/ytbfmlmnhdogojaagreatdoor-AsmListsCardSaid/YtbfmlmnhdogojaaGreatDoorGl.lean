/- How Assemble leaves: contracts. -/
import Derived.Test.YtbfmlmnhdogojaaGreatDoorGi
namespace Go.Proofs.YtbfmlmnhdogojaaGreatDoor
open Go.RowKit Go.Shelf

/-- What Assemble answers. -/
def AsmOut (w w' : World) (e : Ending) : Except (Int × Int) (List Int × List (ByteArray × Int)) → Prop
  | .ok (bs, ns) => ∃ vb vn, e = .returned (.tuple #[.agg #[vb, vn], .int .i64 0, .int .i64 0]) ∧ w'.ownsRow w.heap.size 5 1 vb bs.length (bs.map (Value.int .u8)) ∧ w'.ownsRow w.heap.size 44 2 vn ns.length (namesV ns)
  | .error (ln, er) => e = .returned (.tuple #[.agg #[.slice none 0 0, .slice none 0 0], .int .i64 ln, .int .i64 er])
theorem results_asm {W : World} {xb lb eb : Nat} {x1 x2 : Value} {ln er : Int} (h : ResAt W xb lb eb x1 x2 ln er) {tmps : Array Value} (h2 : tmps.getD 2 undef = .pointer (some ⟨xb, 0, none⟩)) (h3 : tmps.getD 3 undef = .pointer (some ⟨lb, 0, none⟩)) (h4 : tmps.getD 4 undef = .pointer (some ⟨eb, 0, none⟩)) :
    (results Tryz.f16 tmps).run Tryz.prog W = .ok (.tuple #[.agg #[x1, x2], .int .i64 ln, .int .i64 er]) W := by
  have c0 := (h.x.cell 0).trans (show _ = some x1 from rfl)
  have c1 := (h.x.cell 1).trans (show _ = some x2 from rfl)
  have cl := (h.l.cell 0).trans (show _ = some (Value.int .i64 ln) from rfl)
  have ce := (h.e.cell 0).trans (show _ = some (Value.int .i64 er) from rfl)
  have l1 : (loadVar 33 ⟨xb, 0, none⟩).run Tryz.prog W = .ok (.agg #[x1, x2]) W := by
    obtain ⟨i, hi, hs2⟩ : ∃ i, Tryz.prog.info? 33 = some i ∧ i.size = 2 := by
      obtain ⟨i, hi, hz⟩ := Option.map_eq_some_iff.1 (show (Tryz.prog.info? 33).map (·.size) = some 2 by kernel_rfl)
      exact ⟨i, hi, hz⟩
    simp [loadVar, Sem.run_bind, Tryz.isAgg33, sizeOf, typeInfo, hi, hs2, loadCells, loadCellsFrom, run_load, c0, c1, Addr.add]
  have l2 : (loadVar 3 ⟨lb, 0, none⟩).run Tryz.prog W = .ok (.int .i64 ln) W := by
    simp [loadVar, run_load, Sem.run_bind, Tryz.isAgg3, cl]
  have l3 : (loadVar 25 ⟨eb, 0, none⟩).run Tryz.prog W = .ok (.int .i64 er) W := by
    simp [loadVar, run_load, Sem.run_bind, Tryz.isAgg25, ce]
  have p2 : tmps[2]?.getD undef = .pointer (some ⟨xb, 0, none⟩) := by simpa using h2
  have p3 : tmps[3]?.getD undef = .pointer (some ⟨lb, 0, none⟩) := by simpa using h3
  have p4 : tmps[4]?.getD undef = .pointer (some ⟨eb, 0, none⟩) := by simpa using h4
  simp [results, Tryz.results16, p2, p3, p4, asAddr, l1, l2, l3]
theorem below_put' {w W : World} {n : Nat} (h : Below n w W) (q : Nat) (o : Obj) (hq : n ≤ q) : Below n w (W.putObj q o) :=
  ⟨h.os, h.tape, h.output, by simpa using h.size, fun k hk => (World.putObj_heap_other (by omega)).trans (h.block k hk)⟩
theorem ResAt.put {W : World} {xb lb eb : Nat} {x1 x2 : Value} {ln er : Int} (h : ResAt W xb lb eb x1 x2 ln er) (q : Nat) (o : Obj) (h1 : xb ≠ q) (h2 : lb ≠ q) (h3 : eb ≠ q) : ResAt (W.putObj q o) xb lb eb x1 x2 ln er :=
  ⟨h.x.put o h1, h.l.put o h2, h.e.put o h3, h.xl, h.xe, h.le⟩
theorem holesV_get : ∀ (hs : List HoleV) (i : Nat) (h : HoleV), hs[i]? = some h → (holesV hs)[i * 4]? = some (.int .i64 h.line) ∧ (holesV hs)[i * 4 + 1]? = some (.int .i64 h.place) ∧ (holesV hs)[i * 4 + 2]? = some (.pointer (h.inst.map fun b => ⟨b, 0, none⟩)) ∧ (holesV hs)[i * 4 + 3]? = some (.string h.name)
  | [], i, h, e => by simp at e
  | p :: hs, 0, h, e => by simp at e; subst e; exact ⟨rfl, rfl, rfl, rfl⟩
  | p :: hs, i + 1, h, e => by
    have := holesV_get hs i h (by simpa using e)
    have e2 : holesV (p :: hs) = p.cells ++ holesV hs := rfl
    have e3 : p.cells.length = 4 := rfl
    rw [e2, show (i + 1) * 4 = i * 4 + 4 by omega, List.getElem?_append_right (by rw [e3]; omega), List.getElem?_append_right (by rw [e3]; omega), List.getElem?_append_right (by rw [e3]; omega), List.getElem?_append_right (by rw [e3]; omega), e3]
    exact this
/-- What is to be filled in, read out of its row. -/
theorem hole_row {W : World} {base : Nat} {hs : List HoleV} {A : Option Addr} {c : Nat} (h : W.ownsRow base 89 4 (.slice A hs.length c) hs.length (holesV hs)) {i : Nat} {x : HoleV} (hx : hs[i]? = some x) :
    ∃ g off, A = some ⟨g, off, none⟩ ∧ W.cell? ⟨g, off + i * 4, none⟩ = some (.int .i64 x.line) ∧ W.cell? ⟨g, off + i * 4 + 1, none⟩ = some (.int .i64 x.place) ∧ W.cell? ⟨g, off + i * 4 + 2, none⟩ = some (.pointer (x.inst.map fun b => ⟨b, 0, none⟩)) ∧ W.cell? ⟨g, off + i * 4 + 3, none⟩ = some (.string x.name) := by
  have hi := (List.getElem?_eq_some_iff.1 hx).1
  obtain ⟨h1, h2, h3, h4⟩ := holesV_get hs i x hx
  rcases h.2 with ⟨_, h0⟩ | ⟨g, cap, cur, hv, _⟩
  · omega
  · simp at hv
    obtain ⟨rfl, rfl⟩ := hv
    refine ⟨g, 0, rfl, ?_, ?_, ?_, ?_⟩
    · rw [Nat.zero_add, h.cellAt _ (by omega)]; exact h1
    · rw [Nat.zero_add, h.cellAt _ (by omega)]; exact h2
    · rw [Nat.zero_add, h.cellAt _ (by omega)]; exact h3
    · rw [Nat.zero_add, h.cellAt _ (by omega)]; exact h4
theorem fillsV_drop {ns : List (ByteArray × Int)} {bs : List Int} {hs : List HoleP} {i : Nat} {p : HoleP} (h : hs[i]? = some p) : fillsV ns bs (hs.drop i) = match fillV ns bs p with
    | .ok bs' => fillsV ns bs' (hs.drop (i + 1))
    | .error e => .error (p.line, e) := by
  have hl := (List.getElem?_eq_some_iff.1 h).1
  rw [List.drop_eq_getElem_cons hl]
  have e : hs[i] = p := by rw [List.getElem?_eq_getElem hl] at h; exact Option.some.inj h
  rw [e]
  rfl
theorem asmV_line {s : ByteArray} (h : s.size ≤ 1048576) {x : Int × Int} (e : linesV 0 ⟨[], [], []⟩ (linesL s) = .error x) : asmV s = .error x := by unfold asmV; rw [if_neg (by omega), e]
theorem asmV_fill {s : ByteArray} (h : s.size ≤ 1048576) {t : StV} {x : Int × Int} (e : linesV 0 ⟨[], [], []⟩ (linesL s) = .ok t) (f : fillsV t.ns t.bs t.hs = .error x) : asmV s = .error x := by unfold asmV; rw [if_neg (by omega), e]; simp only; rw [f]
theorem asmV_ok {s : ByteArray} (h : s.size ≤ 1048576) {t : StV} {bs : List Int} (e : linesV 0 ⟨[], [], []⟩ (linesL s) = .ok t) (f : fillsV t.ns t.bs t.hs = .ok bs) : asmV s = .ok (bs, t.ns) := by unfold asmV; rw [if_neg (by omega), e]; simp only; rw [f]
section
variable {w W : World} {xb lb eb pb pp qs qp qv S R : Nat} {r : Loop}
/-- Given up with. -/
theorem leaveErr (o : JO w xb lb eb pb pp qs qp qv S R) (h : JF w xb lb eb pb pp qp qv S R r W) {ln er : Int} {tmps : Array Value} (h2 : tmps.getD 2 undef = .pointer (some ⟨xb, 0, none⟩)) (h3 : tmps.getD 3 undef = .pointer (some ⟨lb, 0, none⟩)) (h4 : tmps.getD 4 undef = .pointer (some ⟨eb, 0, none⟩)) {Rr : Ending → World → Prop}
    (hR : ∀ W', Below w.heap.size w W' → Rr (.returned (.tuple #[.agg #[.slice none 0 0, .slice none 0 0], .int .i64 ln, .int .i64 er])) W') :
    LeavesInM Fence.wide 1 Tryz.prog Tryz.f16 tmps Rr [{ target := .collected S, args := #[] }, { target := .fn (.func 39) #[.pointer (some ⟨xb, 0, none⟩), .pointer (some ⟨lb, 0, none⟩), .pointer (some ⟨eb, 0, none⟩)], args := #[] }] (.panicking (failC ln er)) W := by
  obtain ⟨o1, o2, o3, o4⟩ := o
  have r1 := h.res.put S (.deferred none) (by omega) (by omega) (by omega)
  have b1 := below_put' h.low S (.deferred none) (by omega)
  refine ⟨by simp, .inl ⟨S, _, rfl, run_takeDeferred h.dfr, by simp, .inr ⟨fun _ => Nat.le_refl _, .func 39, _, 39, _, rfl, by simp [invoke, go_sem]; rfl, fun g hg => trivial, ?_⟩⟩⟩
  refine (cCatch r1).mono ?_
  rintro e u' W' ⟨rfl, rfl, hr, hk⟩
  exact ⟨_, results_asm hr h2 h3 h4, hR W' (b1.trans (hk.below (n := w.heap.size) (fun q e => by omega) b1.size))⟩
/-- Nothing given up with. -/
theorem leaveOk (o : JO w xb lb eb pb pp qs qp qv S R) (hd : W.heap[S]? = some (.deferred (some []))) {x1 x2 : Value} (hres : ResAt W xb lb eb x1 x2 0 0) {tmps : Array Value} (h2 : tmps.getD 2 undef = .pointer (some ⟨xb, 0, none⟩)) (h3 : tmps.getD 3 undef = .pointer (some ⟨lb, 0, none⟩)) (h4 : tmps.getD 4 undef = .pointer (some ⟨eb, 0, none⟩)) {Rr : Ending → World → Prop}
    (hR : Rr (.returned (.tuple #[.agg #[x1, x2], .int .i64 0, .int .i64 0])) (W.putObj S (.deferred none))) :
    LeavesInM Fence.wide 1 Tryz.prog Tryz.f16 tmps Rr [{ target := .collected S, args := #[] }, { target := .fn (.func 39) #[.pointer (some ⟨xb, 0, none⟩), .pointer (some ⟨lb, 0, none⟩), .pointer (some ⟨eb, 0, none⟩)], args := #[] }] .returning W := by
  obtain ⟨o1, o2, o3, o4⟩ := o
  have r1 := hres.put S (.deferred none) (by omega) (by omega) (by omega)
  refine ⟨by simp, .inl ⟨S, _, rfl, run_takeDeferred hd, by simp, .inr ⟨fun _ => Nat.le_refl _, .func 39, _, 39, _, rfl, by simp [invoke, go_sem]; rfl, fun g hg => trivial, ?_⟩⟩⟩
  refine (cCatchNot _ rfl _).mono ?_
  rintro e u' W' ⟨rfl, rfl, rfl⟩
  exact ⟨_, results_asm r1 h2 h3 h4, hR⟩
/-- The results laid. -/
theorem lay3 (h : ResAt W xb lb eb (.slice none 0 0) (.slice none 0 0) 0 0) (a b : Value) : ∃ W', W' = (((W.setCell ⟨xb, 0, none⟩ a).setCell ⟨xb, 1, none⟩ b).setCell ⟨lb, 0, none⟩ (.int .i64 0)).setCell ⟨eb, 0, none⟩ (.int .i64 0) ∧
    ResAt W' xb lb eb a b 0 0 ∧ KeptBut (fun k => k = xb ∨ k = lb ∨ k = eb) W W' := by
  obtain ⟨hx, hl, he, n1, n2, n3⟩ := h
  refine ⟨_, rfl, ⟨?_, ?_, ?_, n1, n2, n3⟩, ((((KeptBut.refl _ W).trans (KeptBut.set (.inl rfl) 0 _)).trans (KeptBut.set (.inl rfl) 1 _)).trans (KeptBut.set (.inr (.inl rfl)) 0 _)).trans (KeptBut.set (.inr (.inr rfl)) 0 _)⟩
  · exact (((hx.set 0 a).set 1 b).other (a := ⟨lb, 0, none⟩) _ n1).other (a := ⟨eb, 0, none⟩) _ n2
  · exact (((hl.other (a := ⟨xb, 0, none⟩) a (Ne.symm n1)).other (a := ⟨xb, 1, none⟩) b (Ne.symm n1)).set 0 (.int .i64 0)).other (a := ⟨eb, 0, none⟩) _ n3
  · exact (((he.other (a := ⟨xb, 0, none⟩) a (Ne.symm n2)).other (a := ⟨xb, 1, none⟩) b (Ne.symm n2)).other (a := ⟨lb, 0, none⟩) (.int .i64 0) (Ne.symm n3)).set 0 (.int .i64 0)
end
end Go.Proofs.YtbfmlmnhdogojaaGreatDoor
