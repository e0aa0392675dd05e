/- A line of words: contract. -/
import Derived.Test.YtbfmlmnhdogojaaGreatDoorPf
import Derived.Laws.OwnMore
namespace Go.Proofs.YtbfmlmnhdogojaaGreatDoor
open Go.RowKit Go.Shelf

/-- May a word of such a line stand? -/
def wordOk (x : ByteArray) : Prop := x.size < 4294967281 ∧ (nameB x = true ∨ nameB x = false ∧ numB x (-2147483648) 4294967295 = true)
/-- Its bytes, and what is to be filled in. -/
def wordV (x : ByteArray) : Int := if nameB x then 0 else numV x
def wordsB (ws : List ByteArray) : List Int := ws.flatMap fun x => fourI (wordV x)
def wordsH (line at_ : Int) : List ByteArray → List HoleV
  | [] => []
  | x :: ws => (if nameB x then [⟨line, at_, none, x⟩] else []) ++ wordsH line (at_ + 4) ws
theorem wordsB_len : ∀ ws : List ByteArray, (wordsB ws).length = 4 * ws.length
  | [] => rfl
  | x :: ws => by
    have h := wordsB_len ws
    have h4 : (fourI (wordV x)).length = 4 := rfl
    have e : wordsB (x :: ws) = fourI (wordV x) ++ wordsB ws := rfl
    rw [e, List.length_append, h, h4, List.length_cons]
    omega
theorem wordsB_snoc (ws : List ByteArray) (x : ByteArray) : wordsB (ws ++ [x]) = wordsB ws ++ fourI (wordV x) := by simp [wordsB]
theorem wordsH_snoc (line : Int) (x : ByteArray) : ∀ (ws : List ByteArray) (at_ : Int), wordsH line at_ (ws ++ [x]) = wordsH line at_ ws ++ if nameB x then [⟨line, at_ + 4 * ws.length, none, x⟩] else []
  | [], at_ => by simp [wordsH]
  | y :: ws, at_ => by
    have := wordsH_snoc line x ws (at_ + 4)
    simp only [List.cons_append, wordsH, this, List.length_cons, List.append_assoc]
    congr 2
    have : at_ + 4 + 4 * (ws.length : Int) = at_ + 4 * ((ws.length + 1 : Nat) : Int) := by omega
    rw [this]
theorem wordsH_len (line : Int) : ∀ (ws : List ByteArray) (at_ : Int), (wordsH line at_ ws).length ≤ ws.length
  | [], _ => Nat.le_refl _
  | x :: ws, at_ => by
    have := wordsH_len line ws (at_ + 4)
    simp only [wordsH, List.length_append, List.length_cons]
    split <;> simp <;> omega
/-- A line of words, on the way. -/
structure JW (W : World) (pb : Nat) (line : Int) (bl : Nat) (ws : List ByteArray) (W' : World) : Prop where
  low : Below W.heap.size W W'
  cp : Cells W' W.heap.size 79 #[.pointer (some ⟨pb, 0, none⟩)]
  rest : ∃ va vl, Cells W' (W.heap.size + 1) 24 #[va] ∧ W'.ownsRow (W.heap.size + 5) 5 1 va (wordsB ws).length ((wordsB ws).map (Value.int .u8)) ∧
    Cells W' (W.heap.size + 2) 80 #[vl] ∧ W'.ownsRow (W.heap.size + 5) 89 4 vl (wordsH line bl ws).length (holesV (wordsH line bl ws)) ∧ (∀ k, va.ownBlock = some k → vl.ownBlock ≠ some k) ∧ (wordsH line bl ws = [] → vl = .slice none 0 0)
section
variable {W W1 W2 : World} {R pb : Nat} {vb vn vh : Value} {line : Int} {bs : List Int} {ns : List (ByteArray × Int)} {hs : List HoleV} {s : ByteArray} {ws : List ByteArray} {x : ByteArray}
theorem JW.q (h : JW W pb line bs.length ws W1) (hk : KeptBut (fun b => b = W.heap.size + 3 + 1) W1 W2) : JW W pb line bs.length ws W2 := by
  obtain ⟨h1, h2, va, vl, h3, h4, h5, h6, h7, h8⟩ := h
  exact ⟨h1.trans (hk.below (n := W.heap.size) (fun q e => by omega) h1.size), hk.cells h2 (by omega), va, vl, hk.cells h3 (by omega), hk.row h4 (fun q e => by have := (h4.lt q e).1; omega), hk.cells h5 (by omega), hk.row h6 (fun q e => by have := (h6.lt q e).1; omega), h7, h8⟩
theorem JW.on (hG : Gl W) (hP : PS W R pb vb vn vh line bs ns hs) (hbl : bs.length ≤ 2048) (hws : ws.length ≤ 2000000) (hx : wordOk x) (hsz : W.heap.size + 5 ≤ W1.heap.size) (h : JW W pb line bs.length ws W1) :
    Calls Tryz.prog 97 #[.string x, .pointer (some ⟨W.heap.size + 2, 0, none⟩), .pointer (some ⟨W.heap.size, 0, none⟩), .pointer (some ⟨W.heap.size + 1, 0, none⟩)] W1 fun e W' => e = .returned (.tuple #[]) ∧ JW W pb line bs.length (ws ++ [x]) W' ∧ KeptBut (fun b => b ≠ W.heap.size + 3 ∧ b ≠ W.heap.size + 3 + 1) W1 W' := by
  obtain ⟨h1, h2, va, vl, h3, h4, h5, h6, h7, h8⟩ := h
  obtain ⟨x1, x2⟩ := hx
  have hG1 := hG.below h1 hG.sz (Nat.le_refl _)
  have hlt := hP.c.lt
  have hB := wordsB_len ws
  have hH := wordsH_len line ws bs.length
  rcases x2 with hm | ⟨hm, hn⟩
  · refine (cWordM (base := W.heap.size + 5) (ch := W.heap.size + 2) (cp := W.heap.size) (ca := W.heap.size + 1) hG1 x1 hm h2 h3 h5 (hP.below h1) h4 h6 (by omega) (by omega) (by omega) h7 hsz (by omega) (by omega) (by omega) (by omega) (by omega) (by omega) hbl).mono ?_
    rintro e W' ⟨rfl, va', vl', ⟨c1, o1⟩, ⟨c2, o2⟩, kb, hd⟩
    have e1 : wordsB (ws ++ [x]) = wordsB ws ++ fourI 0 := by rw [wordsB_snoc]; unfold wordV; rw [if_pos hm]
    have e2 : wordsH line bs.length (ws ++ [x]) = wordsH line bs.length ws ++ [⟨line, bs.length + (wordsB ws).length, none, x⟩] := by
      rw [wordsH_snoc, if_pos hm, hB]; simp
    refine ⟨rfl, ⟨h1.trans (kb.below (n := W.heap.size) (fun q e => ?_) h1.size), kb.cells h2 (fun e => ?_), va', vl', c1, by rw [e1]; exact o1, c2, by rw [e2]; exact o2, hd, fun e => by rw [e2] at e; simp at e⟩, kb.mono fun q _ e => ?_⟩
    · rcases e with e | e | e | e
      · omega
      · omega
      · have := (h4.lt q e).1; omega
      · have := (h6.lt q e).1; omega
    · rcases e with e | e | e | e
      · omega
      · omega
      · have := (h4.lt _ e).1; omega
      · have := (h6.lt _ e).1; omega
    · rcases e with e | e | e | e
      · omega
      · omega
      · have := (h4.lt q e).1; omega
      · have := (h6.lt q e).1; omega
  · refine (cWordN (base := W.heap.size + 5) (ch := W.heap.size + 2) (cp := W.heap.size) (ca := W.heap.size + 1) hG1 x1 hn hm h2 h3 h4 (by omega) hsz (by omega)).mono ?_
    rintro e W' ⟨rfl, va', c1, o1, kb, hd⟩
    have e1 : wordsB (ws ++ [x]) = wordsB ws ++ fourI (numV x) := by rw [wordsB_snoc]; unfold wordV; rw [if_neg (by rw [hm]; simp)]
    have e2 : wordsH line bs.length (ws ++ [x]) = wordsH line bs.length ws := by
      rw [wordsH_snoc, if_neg (by rw [hm]; simp), List.append_nil]
    refine ⟨rfl, ⟨h1.trans (kb.below (n := W.heap.size) (fun q e => ?_) h1.size), kb.cells h2 (fun e => ?_), va', vl, c1, by rw [e1]; exact o1, kb.cells h5 (fun e => ?_), by rw [e2]; exact kb.row h6 (fun q e f => f.elim (fun f => by have := (h6.lt q e).1; omega) (fun f => h7 q f e)), fun k e q => ?_, fun e => h8 (by rw [← e2]; exact e)⟩, kb.mono fun q _ e => ?_⟩
    · rcases e with e | e
      · omega
      · have := (h4.lt q e).1; omega
    · rcases e with e | e
      · omega
      · have := (h4.lt _ e).1; omega
    · rcases e with e | e
      · omega
      · have := (h4.lt _ e).1; omega
    · rcases hd k e with e | e
      · exact h7 k e q
      · have := (h6.lt k q).2; omega
    · rcases e with e | e
      · omega
      · have := (h4.lt q e).1; omega
end
end Go.Proofs.YtbfmlmnhdogojaaGreatDoor
namespace Go.Proofs.YtbfmlmnhdogojaaGreatDoor
open Go.RowKit Go.Shelf

theorem holesV_append (a b : List HoleV) : holesV (a ++ b) = holesV a ++ holesV b := by simp [holesV]
theorem holesV_len : ∀ hs : List HoleV, (holesV hs).length = hs.length * 4
  | [] => rfl
  | h :: hs => by
    have := holesV_len hs
    have e : holesV (h :: hs) = h.cells ++ holesV hs := rfl
    rw [e, List.length_append, this, List.length_cons]
    show 4 + hs.length * 4 = _
    omega
/-- What is to be filled in laid behind, and its row's new place kept. -/
theorem PS.putH {W w1 : World} {R pb : Nat} {vb vn vh : Value} {line : Int} {bs : List Int} {ns : List (ByteArray × Int)} {hs ls : List HoleV} (h : PS W R pb vb vn vh line bs ns hs) {g n cap : Nat} (hn : n = hs.length + ls.length)
    (hown : w1.ownsRow R 89 4 (.slice (some ⟨g, 0, none⟩) n cap) n (holesV hs ++ holesV ls)) (hgrow : W.grownBy w1 vh.ownBlock) (hat : vh.ownBlock = some g ∨ g = W.heap.size) :
    ∃ vh', .slice (some ⟨g, 0, none⟩) n cap = vh' ∧ PS (w1.setCell ⟨pb, 3, none⟩ vh') R pb vb vn vh' line bs ns (hs ++ ls) ∧ KeptBut (fun k => k = pb ∨ vh.ownBlock = some k) W (w1.setCell ⟨pb, 3, none⟩ vh') ∧ ∀ k, vh'.ownBlock = some k → vh.ownBlock = some k ∨ W.heap.size ≤ k := by
  have kg := KeptBut.of_grown (S := fun k => vh.ownBlock = some k) hgrow (fun k e => e)
  have hg : ∀ k, (Value.slice (some ⟨g, 0, none⟩) n cap).ownBlock = some k → vh.ownBlock = some k ∨ W.heap.size ≤ k := fun k e => by
    simp [Value.ownBlock] at e
    subst e
    rcases hat with e | e
    · exact .inl e
    · exact .inr (by omega)
  have hgp : g ≠ pb := by
    rcases hat with e | e
    · exact h.np g (.inr (.inr e))
    · have := h.c.lt; omega
  have hnl := fun k (e : vn.ownBlock = some k) => (h.n.lt k e).2
  have hbl := fun k (e : vb.ownBlock = some k) => (h.b.lt k e).2
  have ks := KeptBut.set (W := w1) (S := fun k => k = pb) rfl 3 (.slice (some ⟨g, 0, none⟩) n cap)
  refine ⟨_, rfl, ⟨(kg.cells h.c fun e => h.np pb (.inr (.inr e)) rfl).set 3 _, ?_, ?_, ?_, h.bn, ?_, ?_, h.hp⟩, (kg.mono fun k _ e => .inr e).trans (ks.mono fun k _ e => .inl e), hg⟩
  · exact own_set (kg.row h.b fun k e q => h.bh k e q) (fun k e => h.np k (.inl e)) _ _
  · exact own_set (kg.row h.n fun k e q => h.nh k e q) (fun k e => h.np k (.inr (.inl e))) _ _
  · rw [List.length_append, holesV_append, ← hn]
    exact own_set hown (fun k e => by simp [Value.ownBlock] at e; omega) _ _
  · intro k e q
    rcases hg k q with q | q
    · exact h.bh k e q
    · have := hbl k e; omega
  · intro k e q
    rcases hg k q with q | q
    · exact h.nh k e q
    · have := hnl k e; omega
theorem wp_append_none {o : Oper} {a : Act} {w : World} {K : Act → World → Prop} {Q : Exit → Act → World → Prop} (s x : Operand) (t : TypeId)
    (ho : o.op = .call { callee := .builtin .append, args := #[s, x], argTypes := #[t, t] }) (base : Nat) (e : TypeId) (i : TypeInfo) (size : Nat) (ht : Tryz.prog.underlying t = some (.slice e)) (hi : Tryz.prog.info? e = some i)
    (v : Value) (n : Nat) (xs : List Value) (hs : a.eval s = v) (hown : w.ownsRow base e size v n xs) (hx : a.eval x = .slice none 0 0) (h : K (a.put o.dst v) w) : o.wp Tryz.prog a w K Q := by
  have hrun := run_append_owned_none (P := Tryz.prog) (w := w) base t o.type e i size ht hi v n xs hown
  unfold Oper.wp
  simp [execOp, ho, resolve, invoke, builtin, hs, hx, hrun, Result.andThen]
  exact h
section
variable {W : World} {R pb : Nat} {vb vn vh : Value} {line : Int} {bs : List Int} {ns : List (ByteArray × Int)} {hs : List HoleV} {s : ByteArray}
set_option maxRecDepth 100000 in
set_option maxHeartbeats 2000000 in
theorem cKind1 (hG : Gl W) (h : PS W R pb vb vn vh line bs ns hs) (hs' : s.size < 4294967281) (hok : ∀ x ∈ wordsL s, wordOk x) (hlen : bs.length + 4 * (wordsL s).length ≤ 2048) (hhl : hs.length ≤ 100000) (hR : R ≤ W.heap.size) :
    Calls Tryz.prog 95 #[.pointer (some ⟨pb, 0, none⟩), .string s] W fun e W' => e = .returned (.tuple #[]) ∧ ∃ vb' vh', PS W' R pb vb' vn vh' line (bs ++ wordsB (wordsL s)) ns (hs ++ wordsH line bs.length (wordsL s)) ∧ KeptBut (fun k => k = pb ∨ vb.ownBlock = some k ∨ vh.ownBlock = some k) W W' ∧ (∀ k, vb'.ownBlock = some k → vb.ownBlock = some k ∨ W.heap.size ≤ k) ∧ ∀ k, vh'.ownBlock = some k → vh.ownBlock = some k ∨ W.heap.size ≤ k := by
  obtain ⟨k0, k1, k2, hb3, s3⟩ := cells3 W #[.pointer (some ⟨pb, 0, none⟩)] #[.slice none 0 0] #[.slice none 0 0] 79 24 80
  have hpos : 0 < (wordsL s).length := by have := wordsL_len s; omega
  have HP := Lib.hid h
  have hG0 := hG
  have hpl := h.c.lt
  have HS := Lib.hid ((cSome (w := ((W.alloc (.cells #[.pointer (some ⟨pb, 0, none⟩)] 79)).alloc (.cells #[.slice none 0 0] 24)).alloc (.cells #[.slice none 0 0] 80)) (s := s) (p := .pointer (some ⟨pb, 0, none⟩)) (gf := 97) (lb := #[.pointer (some ⟨W.heap.size + 2, 0, none⟩), .pointer (some ⟨W.heap.size, 0, none⟩), .pointer (some ⟨W.heap.size + 1, 0, none⟩)])
    (hG.b hb3) hs' (enters_of Tryz.func97 (by kernel_rfl) rfl) (fun k W' => JW W pb line bs.length ((wordsL s).take k) W')
    (fun W' hb => ⟨hb3.trans (hb.mono hb3.size), k0.below hb k0.lt, _, _, k1.below hb k1.lt, World.ownsRow_nil _ _ _ _, k2.below hb k2.lt, World.ownsRow_nil _ _ _ _, fun k e => by simp [Value.ownBlock] at e, fun _ => rfl⟩)
    (fun k W1 W2 hj hk => hj.q (by rw [s3] at hk; exact hk))
    (fun k x W1 hj hx hsz => by
      rw [s3] at hsz ⊢
      have hkl := (List.getElem?_eq_some_iff.1 hx).1
      have e1 : (wordsL s).take (k + 1) = (wordsL s).take k ++ [x] := by rw [List.take_add_one, hx]; rfl
      rw [e1]
      exact hj.on hG0 HP.out (by omega) (by simp; omega) (hok x (List.mem_of_getElem? hx)) hsz)))
  have HG := Lib.hid hG
  clear k0 k1 k2 hok hG hG0 h
  go_enter Tryz.func95, Tryz.ntmps95
  go_wp2_with fail
  generalize World.alloc _ _ = W3 at *
  refine HS.out.mono ?_
  rintro e W4 ⟨rfl, hJ⟩
  rw [List.take_length] at hJ
  obtain ⟨low, hcp, va, vl, hca, hrow, hch, hrl, hd, h8⟩ := hJ
  have hBl := wordsB_len (wordsL s)
  have hHl := wordsH_len line (wordsL s) bs.length
  obtain ⟨xs, hxs⟩ : ∃ xs, xs = wordsB (wordsL s) := ⟨_, rfl⟩
  obtain ⟨ls, hls⟩ : ∃ ls, ls = wordsH line bs.length (wordsL s) := ⟨_, rfl⟩
  rw [← hxs] at hrow hBl
  rw [← hls] at hrl hHl h8
  have HXS := Lib.hid hxs
  have HLS := Lib.hid hls
  have hxl : xs.length ≤ 2048 := by omega
  have hll : ls.length ≤ 2048 := by omega
  obtain ⟨g, cap, rfl, hrd⟩ := rd_row hrow (by omega)
  have HPut := Lib.hid (cPut (c := cap) (HP.out.below low) hrd (by omega) (by omega) (Nat.le_trans hR low.size))
  have p0 := (hcp.cell 0).trans (show _ = some (Value.pointer (some ⟨pb, 0, none⟩)) from rfl)
  have p1 := (hca.cell 0).trans (show _ = some (Value.slice (some ⟨g, 0, none⟩) xs.length cap) from rfl)
  have HL := Lib.hid low
  have HC := Lib.hid (And.intro hcp (And.intro hch (And.intro hrl h8)))
  clear low hcp hca hrow hrl hch hrd HS hb3 s3 hBl hHl hd h8 hxs hls
  go_wp2_with fail
  refine HPut.out.mono ?_
  rintro e W5 ⟨rfl, vb', ps, kb, ho⟩
  obtain ⟨hcp, hch, hrl, h8⟩ := HC.out
  have hnb : ∀ k, vb.ownBlock = some k → k < W.heap.size := fun k e => (HP.out.b.lt k e).2
  have hnh : ∀ k, vh.ownBlock = some k → k < W.heap.size := fun k e => (HP.out.h.lt k e).2
  have c5 := kb.cells hcp (fun e => e.elim (fun e => by omega) (fun e => by have := hnb _ e; omega))
  have h5 := kb.cells hch (fun e => e.elim (fun e => by omega) (fun e => by have := hnb _ e; omega))
  have r5 := kb.row hrl (fun q e f => by have := (hrl.lt q e).1; exact f.elim (fun e => by omega) (fun e => by have := hnb _ e; omega))
  have q0 : W5.drew.cell? ⟨W.heap.size, 0, none⟩ = some (.pointer (some ⟨pb, 0, none⟩)) := (c5.cell 0).trans rfl
  have q1 : W5.drew.cell? ⟨W.heap.size + 1 + 1, 0, none⟩ = some vl := (h5.cell 0).trans rfl
  have q2 : W5.drew.cell? ⟨pb, 3, none⟩ = some vh := (ps.c.cell 3).trans rfl
  have f2 : W5.drew.frozen? ⟨pb, 3, none⟩ = false := ps.c.frozen 3
  have n1 : vh.ownBlock ≠ some W.heap.size := fun e => by have := hnh _ e; omega
  have n2 : vh.ownBlock ≠ some (W.heap.size + 2) := fun e => by have := hnh _ e; omega
  have n3 : vh.ownBlock ≠ some pb := fun e => HP.out.np pb (.inr (.inr e)) rfl
  have l0 := c5.lt
  have l2 := h5.lt
  have l3 := ps.c.lt
  have hR5 : R ≤ W5.heap.size := by omega
  have HK := Lib.hid (And.intro kb (And.intro ho ps))
  have HR5 := Lib.hid r5
  clear p0 p1 kb ho c5 h5 r5 hcp hch hrl hnb hnh HPut HC
  obtain ⟨j0, hj0, hy0, hy1, hy2⟩ := info_parts info_hole
  obtain ⟨Ah, ch, rfl⟩ := own_slice HP.out.h
  go_wp2_with fail
  by_cases hl : ls = []
  · obtain rfl := h8 hl
    refine wp_region_noPanic ?_
    refine wp_region_held_drew (S := fun w' => w'.cell? ⟨W.heap.size, 0, none⟩ = some (.pointer (some ⟨pb, 0, none⟩)) ∧ w'.cell? ⟨W.heap.size + 1 + 1, 0, none⟩ = some (.slice none 0 0)) (by kernel_rfl) ⟨q0, q1⟩ (fun hHeld => ?_)
    refine wpAnyH_take (i := 0) (oi := ⟨some 13, _, _, _, _, _⟩) (v := ?_) rfl (by as_aux_lemma => kernel_rfl) (by as_aux_lemma => kernel_rfl) (by as_aux_lemma => kernel_rfl) (fun _ _ _ h => h) (Or.inl ⟨by kernel_rfl, ?_⟩) (by assumption) ?_
    rotate_left
    · ((intro w0 hw; obtain ⟨c0, c1⟩ := hw; go_simp) <;> with_reducible rfl)
    simp only [Act.put, List.setIfInBounds_toArray, List.set_cons_zero, List.set_cons_succ]
    refine wpAnyH_take (i := 1) (oi := ⟨some 14, _, _, _, _, _⟩) (v := ?_) rfl (by as_aux_lemma => kernel_rfl) (by as_aux_lemma => kernel_rfl) (by as_aux_lemma => kernel_rfl) (fun _ _ _ h => h) (Or.inl ⟨by kernel_rfl, ?_⟩) (by assumption) ?_
    rotate_left
    · ((intro w0 hw; obtain ⟨c0, c1⟩ := hw; go_simp) <;> with_reducible rfl)
    simp only [Act.put, List.setIfInBounds_toArray, List.set_cons_zero, List.set_cons_succ]
    refine wpAnyH_take (i := 2) (oi := ⟨some 15, _, _, _, _, _⟩) (v := ?_) rfl (by as_aux_lemma => kernel_rfl) (by as_aux_lemma => kernel_rfl) (by as_aux_lemma => kernel_rfl) (fun _ _ _ h => h) (Or.inl ⟨by kernel_rfl, ?_⟩) (by assumption) ?_
    rotate_left
    · ((intro w0 hw; obtain ⟨c0, c1⟩ := hw; go_simp) <;> with_reducible rfl)
    simp only [Act.put, List.setIfInBounds_toArray, List.set_cons_zero, List.set_cons_succ]
    refine wpAnyH_take (i := 3) (oi := ⟨some 16, _, _, _, _, _⟩) (v := ?_) rfl (by as_aux_lemma => kernel_rfl) (by as_aux_lemma => kernel_rfl) (by as_aux_lemma => kernel_rfl) (fun _ _ _ h => h) (Or.inl ⟨by kernel_rfl, ?_⟩) (by assumption) ?_
    rotate_left
    · ((intro w0 hw; obtain ⟨c0, c1⟩ := hw; go_simp) <;> with_reducible rfl)
    simp only [Act.put, List.setIfInBounds_toArray, List.set_cons_zero, List.set_cons_succ]
    refine wpAnyH_take (i := 5) (oi := ⟨some 18, _, _, _, _, _⟩) (v := ?_) rfl (by as_aux_lemma => kernel_rfl) (by as_aux_lemma => kernel_rfl) (by as_aux_lemma => kernel_rfl) (fun _ _ _ h => h) (Or.inl ⟨by kernel_rfl, ?_⟩) (by assumption) ?_
    rotate_left
    · ((intro w0 hw; obtain ⟨c0, c1⟩ := hw; go_simp) <;> with_reducible rfl)
    simp only [Act.put, List.setIfInBounds_toArray, List.set_cons_zero, List.set_cons_succ]
    refine wpAnyH_ready (rs := [4]) (by as_aux_lemma => kernel_rfl) (by simp) ?_
    refine AllReadyH.cons rfl (fun K hK => ?_) AllReadyH.nil
    go_simp
    refine hK.out _ _ hHeld (fun hHeld => ?_)
    clear hK K
    (try simp only [Act.put, List.setIfInBounds_toArray, List.set_cons_zero, List.set_cons_succ])
    refine wpAnyH_ready (rs := [6]) (by as_aux_lemma => kernel_rfl) (by simp) ?_
    refine AllReadyH.cons rfl (fun K hK => ?_) AllReadyH.nil
    rw [if_pos (by kernel_rfl)]
    refine wp_append_none (.tmp 17) (.tmp 18) 80 rfl R 89 j0 4 Tryz.underlying80 hj0 (.slice Ah hs.length ch) hs.length (holesV hs) rfl HK.out.2.2.h.drew rfl ?_
    refine hK.out _ _ hHeld (fun hHeld => ?_)
    clear hK K
    (try simp only [Act.put, List.setIfInBounds_toArray])
    refine wpAnyH_take (i := 7) (oi := ⟨some 20, _, _, _, _, _⟩) (v := ?_) rfl (by as_aux_lemma => kernel_rfl) (by as_aux_lemma => kernel_rfl) (by as_aux_lemma => kernel_rfl) (fun _ _ _ h => h) (Or.inl ⟨by kernel_rfl, ?_⟩) (by assumption) ?_
    rotate_left
    · ((intro w0 hw; obtain ⟨c0, c1⟩ := hw; go_simp) <;> with_reducible rfl)
    simp only [Act.put]
    refine wpAnyH_take (i := 8) (oi := ⟨some 21, _, _, _, _, _⟩) (v := ?_) rfl (by as_aux_lemma => kernel_rfl) (by as_aux_lemma => kernel_rfl) (by as_aux_lemma => kernel_rfl) (fun _ _ _ h => h) (Or.inl ⟨by kernel_rfl, ?_⟩) (by assumption) ?_
    rotate_left
    · ((intro w0 hw; obtain ⟨c0, c1⟩ := hw; go_simp) <;> with_reducible rfl)
    simp only [Act.put]
    refine wpAnyH_ready (rs := [9]) (by as_aux_lemma => kernel_rfl) (by simp) ?_
    refine AllReadyH.cons rfl (fun K hK => ?_) AllReadyH.nil
    go_simp
    have hs2 : ∀ j, j ≠ pb → (W5.drew.setCell ⟨pb, 3, none⟩ (.slice Ah hs.length ch)).heap[j]? = W5.heap[j]? := fun j hj => Below.heap_setCell _ _ _ _ hj
    refine hK.out _ _ ⟨(World.cell?_of_block (hs2 W.heap.size (by omega))).trans q0, (World.cell?_of_block (hs2 (W.heap.size + 1 + 1) (by omega))).trans q1⟩ (fun _ => ?_)
    clear hK K hs2
    (try simp only [Act.put, List.setIfInBounds_toArray])
    refine wpAnyH_done (by as_aux_lemma => kernel_rfl) ?_ _
    refine NoPanic.normal ?_
    go_wp2_with fail
    go_end0
    obtain ⟨kb, ho, ps⟩ := HK.out
    have k6 : KeptBut (fun k => k = pb) W5 (W5.drew.setCell ⟨pb, 3, none⟩ (.slice Ah hs.length ch)) := (KeptBut.of_below _ (Below.refl _ W5).drew).trans (KeptBut.set (S := fun k => k = pb) rfl 3 _)
    refine ⟨rfl, vb', .slice Ah hs.length ch, by rw [← HXS.out, ← HLS.out]; exact ⟨Cells.set (W := W5.drew) ps.c 3 _, k6.row ps.b (fun k e => ps.np k (.inl e)), k6.row ps.n (fun k e => ps.np k (.inr (.inl e))), by rw [hl, List.append_nil]; exact k6.row ps.h (fun k e => ps.np k (.inr (.inr e))), ps.bn, ps.bh, ps.nh, ps.hp⟩, ?_, fun k e => (ho k e).imp id (fun h => Nat.le_trans HL.out.size h), fun k e => .inl e⟩
    · exact ((KeptBut.of_below _ HL.out).trans (kb.mono fun k _ e => e.imp id .inl)).trans (k6.mono fun k _ e => .inl e)
  · have hlp : 0 < ls.length := List.length_pos_iff.2 hl
    obtain ⟨gl, cl, hvl, -, -⟩ := HR5.out.form hlp
    subst hvl
    refine wp_region_noPanic ?_
    refine wp_region_held_drew (S := fun w' => w'.cell? ⟨W.heap.size, 0, none⟩ = some (.pointer (some ⟨pb, 0, none⟩)) ∧ w'.cell? ⟨W.heap.size + 1 + 1, 0, none⟩ = some (.slice (some ⟨gl, 0, none⟩) ls.length cl)) (by kernel_rfl) ⟨q0, q1⟩ (fun hHeld => ?_)
    refine wpAnyH_take (i := 0) (oi := ⟨some 13, _, _, _, _, _⟩) (v := ?_) rfl (by as_aux_lemma => kernel_rfl) (by as_aux_lemma => kernel_rfl) (by as_aux_lemma => kernel_rfl) (fun _ _ _ h => h) (Or.inl ⟨by kernel_rfl, ?_⟩) (by assumption) ?_
    rotate_left
    · ((intro w0 hw; obtain ⟨c0, c1⟩ := hw; go_simp) <;> with_reducible rfl)
    simp only [Act.put, List.setIfInBounds_toArray, List.set_cons_zero, List.set_cons_succ]
    refine wpAnyH_take (i := 1) (oi := ⟨some 14, _, _, _, _, _⟩) (v := ?_) rfl (by as_aux_lemma => kernel_rfl) (by as_aux_lemma => kernel_rfl) (by as_aux_lemma => kernel_rfl) (fun _ _ _ h => h) (Or.inl ⟨by kernel_rfl, ?_⟩) (by assumption) ?_
    rotate_left
    · ((intro w0 hw; obtain ⟨c0, c1⟩ := hw; go_simp) <;> with_reducible rfl)
    simp only [Act.put, List.setIfInBounds_toArray, List.set_cons_zero, List.set_cons_succ]
    refine wpAnyH_take (i := 2) (oi := ⟨some 15, _, _, _, _, _⟩) (v := ?_) rfl (by as_aux_lemma => kernel_rfl) (by as_aux_lemma => kernel_rfl) (by as_aux_lemma => kernel_rfl) (fun _ _ _ h => h) (Or.inl ⟨by kernel_rfl, ?_⟩) (by assumption) ?_
    rotate_left
    · ((intro w0 hw; obtain ⟨c0, c1⟩ := hw; go_simp) <;> with_reducible rfl)
    simp only [Act.put, List.setIfInBounds_toArray, List.set_cons_zero, List.set_cons_succ]
    refine wpAnyH_take (i := 3) (oi := ⟨some 16, _, _, _, _, _⟩) (v := ?_) rfl (by as_aux_lemma => kernel_rfl) (by as_aux_lemma => kernel_rfl) (by as_aux_lemma => kernel_rfl) (fun _ _ _ h => h) (Or.inl ⟨by kernel_rfl, ?_⟩) (by assumption) ?_
    rotate_left
    · ((intro w0 hw; obtain ⟨c0, c1⟩ := hw; go_simp) <;> with_reducible rfl)
    simp only [Act.put, List.setIfInBounds_toArray, List.set_cons_zero, List.set_cons_succ]
    refine wpAnyH_take (i := 5) (oi := ⟨some 18, _, _, _, _, _⟩) (v := ?_) rfl (by as_aux_lemma => kernel_rfl) (by as_aux_lemma => kernel_rfl) (by as_aux_lemma => kernel_rfl) (fun _ _ _ h => h) (Or.inl ⟨by kernel_rfl, ?_⟩) (by assumption) ?_
    rotate_left
    · ((intro w0 hw; obtain ⟨c0, c1⟩ := hw; go_simp) <;> with_reducible rfl)
    simp only [Act.put, List.setIfInBounds_toArray, List.set_cons_zero, List.set_cons_succ]
    refine wpAnyH_ready (rs := [4]) (by as_aux_lemma => kernel_rfl) (by simp) ?_
    refine AllReadyH.cons rfl (fun K hK => ?_) AllReadyH.nil
    go_simp
    refine hK.out _ _ hHeld (fun hHeld => ?_)
    clear hK K
    (try simp only [Act.put, List.setIfInBounds_toArray, List.set_cons_zero, List.set_cons_succ])
    refine wpAnyH_ready (rs := [6]) (by as_aux_lemma => kernel_rfl) (by simp) ?_
    refine AllReadyH.cons rfl (fun K hK => ?_) AllReadyH.nil
    rw [if_pos (by kernel_rfl)]
    refine wp_append_lies _ (.tmp 17) (.tmp 18) 80 rfl R 89 j0 (.agg #[.int .i64 0, .int .i64 0, .pointer none, .string ⟨#[]⟩]) 4 40 Tryz.underlying80 hj0 hy0 hy1 hy2 rfl (by decide) (.slice Ah hs.length ch) hs.length (holesV hs) rfl HK.out.2.2.h.drew ⟨gl, 0, none⟩ ls.length cl (holesV ls) rfl (holesV_len ls) (HR5.out.drew.cells rfl) (fun u hu => by
      obtain ⟨h, -, hu⟩ := List.mem_flatMap.1 hu
      simp [HoleV.cells] at hu
      rcases hu with rfl | rfl | rfl | rfl <;> simp [Value.oneCell']) hlp (by unfold maxLen; omega) (by omega) hR5 W5.heap.size rfl ?_
    intro g2 cap2 w1 hown hgrow hat hlt
    have y0 : w1.cell? ⟨pb, 3, none⟩ = some (.slice Ah hs.length ch) := (hgrow.cell_far _ l3 (Ne.symm n3)).trans q2
    have yz : w1.frozen? ⟨pb, 3, none⟩ = false := (World.frozen?_of_block (hgrow.block pb l3 (Ne.symm n3))).trans f2
    have s0 := (hgrow.cell_far (⟨W.heap.size, 0, none⟩ : Addr) l0 (Ne.symm n1)).trans q0
    have s1 := (hgrow.cell_far (⟨W.heap.size + 1 + 1, 0, none⟩ : Addr) l2 (Ne.symm n2)).trans q1
    refine hK.out _ _ ⟨s0, s1⟩ (fun hHeld => ?_)
    clear hK K
    (try simp only [Act.put, List.setIfInBounds_toArray])
    refine wpAnyH_take (i := 7) (oi := ⟨some 20, _, _, _, _, _⟩) (v := ?_) rfl (by as_aux_lemma => kernel_rfl) (by as_aux_lemma => kernel_rfl) (by as_aux_lemma => kernel_rfl) (fun _ _ _ h => h) (Or.inl ⟨by kernel_rfl, ?_⟩) (by assumption) ?_
    rotate_left
    · ((intro w0 hw; obtain ⟨c0, c1⟩ := hw; go_simp) <;> with_reducible rfl)
    simp only [Act.put]
    refine wpAnyH_take (i := 8) (oi := ⟨some 21, _, _, _, _, _⟩) (v := ?_) rfl (by as_aux_lemma => kernel_rfl) (by as_aux_lemma => kernel_rfl) (by as_aux_lemma => kernel_rfl) (fun _ _ _ h => h) (Or.inl ⟨by kernel_rfl, ?_⟩) (by assumption) ?_
    rotate_left
    · ((intro w0 hw; obtain ⟨c0, c1⟩ := hw; go_simp) <;> with_reducible rfl)
    simp only [Act.put]
    refine wpAnyH_ready (rs := [9]) (by as_aux_lemma => kernel_rfl) (by simp) ?_
    refine AllReadyH.cons rfl (fun K hK => ?_) AllReadyH.nil
    go_simp
    have hs2 : ∀ j, j ≠ pb → (w1.setCell ⟨pb, 3, none⟩ (.slice (some ⟨g2, 0, none⟩) (hs.length + ls.length) cap2)).heap[j]? = w1.heap[j]? := fun j hj => Below.heap_setCell _ _ _ _ hj
    refine hK.out _ _ ⟨(World.cell?_of_block (hs2 W.heap.size (by omega))).trans s0, (World.cell?_of_block (hs2 (W.heap.size + 1 + 1) (by omega))).trans s1⟩ (fun _ => ?_)
    clear hK K hs2
    (try simp only [Act.put, List.setIfInBounds_toArray])
    refine wpAnyH_done (by as_aux_lemma => kernel_rfl) ?_ _
    refine NoPanic.normal ?_
    have HF := Lib.hid (PS.putH (W := W5.drew) (ls := ls) (HK.out.2.2.below (Below.refl _ W5).drew) rfl hown hgrow hat)
    clear hown hgrow hat hlt y0 yz s0 s1
    go_wp2_with fail
    go_end0
    obtain ⟨kb, ho, ps⟩ := HK.out
    obtain ⟨vh', e, h1, h2, h3⟩ := HF.out
    rw [e]
    have hz5 := Nat.le_trans HL.out.size kb.size
    exact ⟨rfl, vb', vh', by rw [← HXS.out, ← HLS.out]; exact h1, (((KeptBut.of_below _ HL.out).trans (kb.mono fun k _ e => e.imp id .inl)).trans (KeptBut.of_below _ (Below.refl _ W5).drew)).trans (h2.mono fun k _ e => e.imp id .inr), fun k e => (ho k e).imp id (fun h => Nat.le_trans HL.out.size h), fun k e => (h3 k e).imp id (fun h => Nat.le_trans hz5 h)⟩
end
end Go.Proofs.YtbfmlmnhdogojaaGreatDoor
namespace Go.Proofs.YtbfmlmnhdogojaaGreatDoor
open Go.RowKit Go.Shelf

theorem rd_lit (W : World) (t : TypeId) (k : IntKind) (l : List Int) : Rd (W.alloc (.cells ((l.map (Value.int k)).toArray) t)) (W.alloc (.cells ((l.map (Value.int k)).toArray) t)).heap.size k (some ⟨W.heap.size, 0, none⟩) l := by
  refine ⟨fun _ => ⟨_, _, rfl, by rw [World.size_alloc]; omega⟩, fun g off e i x hx => ?_⟩
  simp at e
  obtain ⟨rfl, rfl⟩ := e
  have := cell_lit W t (l.map (Value.int k)) i (.int k x) (by rw [List.getElem?_map, hx]; rfl)
  rw [addr_add] at this
  exact this
section
variable {W : World} {R pb : Nat} {vb vn vh : Value} {line : Int} {bs : List Int} {ns : List (ByteArray × Int)} {hs : List HoleV}
set_option maxRecDepth 100000 in
set_option maxHeartbeats 1000000 in
theorem cWord (h : PS W R pb vb vn vh line bs ns hs) {x : Int} (h0 : 0 ≤ x) (h1 : x < 4294967296) (hlen : bs.length + 4 ≤ 2048) (hR : R ≤ W.heap.size) :
    Calls Tryz.prog 103 #[.pointer (some ⟨pb, 0, none⟩), .int .u32 x] W fun e W' => e = .returned (.tuple #[]) ∧ ∃ vb', PS W' R pb vb' vn vh line (bs ++ fourI x) ns hs ∧ KeptBut (fun k => k = pb ∨ vb.ownBlock = some k) W W' ∧ ∀ k, vb'.ownBlock = some k → vb.ownBlock = some k ∨ W.heap.size ≤ k := by
  have H := Lib.hid h
  clear h
  go_enter Tryz.func103, Tryz.ntmps103
  go_wp2_with fail
  have e4 : x / 16777216 = x / 16777216 % 256 := by omega
  rw [e4]
  clear e4
  have hb : Below W.heap.size W (W.alloc (.cells (((fourI x).map (Value.int .u8)).toArray) 5)) := (Below.refl _ W).alloc (Nat.le_refl _) _
  refine (cPut (c := 4) (H.out.below hb) (rd_lit W 5 .u8 (fourI x)) (show 0 < 4 by omega) hlen (Nat.le_trans hR hb.size)).mono ?_
  rintro e W4 ⟨rfl, vb', ps, kb, ho⟩
  have HF := Lib.hid (And.intro ps (And.intro kb ho))
  have HB := Lib.hid hb
  clear ps kb ho hb
  go_wp2
  go_end0
  obtain ⟨ps, kb, ho⟩ := HF.out
  exact ⟨rfl, vb', ps, (KeptBut.of_below _ HB.out).trans kb, fun k e => (ho k e).imp id (fun h => Nat.le_trans HB.out.size h)⟩
end
end Go.Proofs.YtbfmlmnhdogojaaGreatDoor
namespace Go.Proofs.YtbfmlmnhdogojaaGreatDoor
open Go.RowKit Go.Shelf

/-- What is given up with. -/
def failC (line er : Int) : List PanicEntry := [{ v := .iface 78 (.agg #[.int .i64 line, .int .i64 er]), recovered := false }]
theorem cMustNo {W : World} {pb : Nat} {line : Int} {v1 v2 v3 : Value} (h : Cells W pb 82 #[.int .i64 line, v1, v2, v3]) (er : Int) : Calls Tryz.prog 69 #[.pointer (some ⟨pb, 0, none⟩), .bool false, .int .i64 er] W fun e w' => e = .panicked (failC line er) ∧ W = w' := by
  have q0 := (h.cell 0).trans (show _ = some (Value.int .i64 line) from rfl)
  clear h
  go_enter Tryz.func69, Tryz.ntmps69
  go_wp2
  exact ⟨rfl, rfl, rfl⟩
theorem run_append_zero {P : Program} {w : World} (base : Nat) (t ty e : TypeId) (i : TypeInfo) (size : Nat) (ht : P.underlying t = some (.slice e)) (hi : P.info? e = some i)
    (v : Value) (n : Nat) (xs : List Value) (A : Option Addr) (c : Nat) (hown : w.ownsRow base e size v n xs) :
    (Builtin.append_ #[t, t] ty #[v, .slice A 0 c]).run P w = .ok v w := by
  have hl : ∀ a : Addr, (loadCells a 0).run P w = .ok #[] w := fun a => rfl
  cases A with
  | none =>
    rcases hown.2 with ⟨rfl, rfl⟩ | ⟨g, cap, cur, rfl, _, _, hnc, _⟩
    · simp [Builtin.append_, run_underlying ht, sizeOf, typeInfo, hi, Builtin.lenOf, Builtin.firstCells]
    · simp [Builtin.append_, run_underlying ht, sizeOf, typeInfo, hi, Builtin.lenOf, Builtin.firstCells, hnc, storeCells]
  | some a =>
    rcases hown.2 with ⟨rfl, rfl⟩ | ⟨g, cap, cur, rfl, _, _, hnc, _⟩
    · simp [Builtin.append_, run_underlying ht, sizeOf, typeInfo, hi, Builtin.lenOf, Builtin.firstCells, hl]
    · simp [Builtin.append_, run_underlying ht, sizeOf, typeInfo, hi, Builtin.lenOf, Builtin.firstCells, hnc, storeCells, hl]
theorem wpList_append_zero {P : Program} {w : World} {ops : Array Oper} {rest : List Oper} {o : Oper} {a : Act} {Q : Exit → Act → World → Prop} (hgd : o.guard = none) (s x : Operand) (t : TypeId)
    (ho : o.op = .call { callee := .builtin .append, args := #[s, x], argTypes := #[t, t] })
    (base : Nat) (e : TypeId) (i : TypeInfo) (size : Nat) (ht : P.underlying t = some (.slice e)) (hi : P.info? e = some i)
    (v : Value) (n : Nat) (xs : List Value) (hs : a.eval s = v) (hown : w.ownsRow base e size v n xs) (A : Option Addr) (c : Nat) (hx : a.eval x = .slice A 0 c)
    (h : wpList P ops Q rest (a.put o.dst v) w) : wpList P ops Q (o :: rest) a w := by
  refine wpList_plain hgd fun K hK => ?_
  have hrun := run_append_zero (P := P) (w := w) base t o.type e i size ht hi v n xs A c hown
  unfold Oper.wp
  simp [execOp, ho, resolve, invoke, builtin, hs, hx, hrun, Result.andThen]
  exact hK _ _ h
section
variable {W : World} {R pb : Nat} {vb vn vh : Value} {line : Int} {bs : List Int} {ns : List (ByteArray × Int)} {hs : List HoleV}
set_option maxRecDepth 100000 in
set_option maxHeartbeats 1000000 in
theorem cPutNo (h : PS W R pb vb vn vh line bs ns hs) {A : Option Addr} {n c : Nat} (hx : n ≤ 1000000000) (hb0 : bs.length ≤ 1000000000) (hlen : 2048 < bs.length + n) :
    Calls Tryz.prog 99 #[.pointer (some ⟨pb, 0, none⟩), .slice A n c] W fun e W' => e = .panicked (failC line 282) ∧ W = W' := by
  obtain ⟨Ab, cb, rfl⟩ := own_slice h.b
  have q1 := (h.c.cell 1).trans (show _ = some (Value.slice Ab bs.length cb) from rfl)
  have hle : ¬ ((bs.length : Int) + n) ≤ 2048 := by omega
  have HM := Lib.hid (cMustNo h.c 282)
  clear h
  go_enter Tryz.func99, Tryz.ntmps99
  go_wp2_with fail
  refine HM.out.mono ?_
  rintro e w' ⟨rfl, rfl⟩
  exact ⟨rfl, rfl, rfl⟩
set_option maxRecDepth 100000 in
set_option maxHeartbeats 1000000 in
theorem cPut0 (h : PS W R pb vb vn vh line bs ns hs) {A : Option Addr} {c : Nat} (hlen : bs.length ≤ 2048) :
    Calls Tryz.prog 99 #[.pointer (some ⟨pb, 0, none⟩), .slice A 0 c] W fun e W' => e = .returned (.tuple #[]) ∧ ∃ vb', PS W' R pb vb' vn vh line bs ns hs ∧ KeptBut (fun k => k = pb ∨ vb.ownBlock = some k) W W' ∧ ∀ k, vb'.ownBlock = some k → vb.ownBlock = some k ∨ W.heap.size ≤ k := by
  obtain ⟨i0, hi0, hz0, hz1, hz2⟩ := info_parts info_u8
  obtain ⟨Ab, cb, rfl⟩ := own_slice h.b
  have q1 := (h.c.cell 1).trans (show _ = some (Value.slice Ab bs.length cb) from rfl)
  have f1 := h.c.frozen 1
  have hle : (bs.length : Int) ≤ 2048 := by omega
  have H := Lib.hid h
  clear h
  go_enter Tryz.func99, Tryz.ntmps99
  go_wp2_with fail
  refine (cMust _ _ _).mono ?_
  rintro e w' ⟨rfl, rfl⟩
  go_wp2_with (first
    | (at_builtin
       refine wpList_append_zero rfl _ _ 24 rfl R 5 i0 1 Tryz.underlying24 hi0 (.slice Ab bs.length cb) _ _ rfl H.out.b A c rfl ?_))
  go_end0
  have ks := KeptBut.set (W := W) (S := fun k => k = pb) rfl 1 (.slice Ab bs.length cb)
  exact ⟨rfl, _, ⟨H.out.c.set 1 _, ks.row H.out.b (fun k e => H.out.np k (.inl e)), ks.row H.out.n (fun k e => H.out.np k (.inr (.inl e))), ks.row H.out.h (fun k e => H.out.np k (.inr (.inr e))), H.out.bn, H.out.bh, H.out.nh, H.out.hp⟩, ks.mono fun k _ e => .inl e, fun k e => .inl e⟩
set_option maxRecDepth 100000 in
set_option maxHeartbeats 1000000 in
theorem cWordNo (h : PS W R pb vb vn vh line bs ns hs) {x : Int} (hb0 : bs.length ≤ 2048) (hlen : 2048 < bs.length + 4) :
    Calls Tryz.prog 103 #[.pointer (some ⟨pb, 0, none⟩), .int .u32 x] W fun e W' => e = .panicked (failC line 282) ∧ Below W.heap.size W W' := by
  have H := Lib.hid h
  clear h
  go_enter Tryz.func103, Tryz.ntmps103
  go_wp2_with fail
  have hb : Below W.heap.size W (W.alloc (.cells #[.int .u8 (x % 256), .int .u8 (x / 256 % 256), .int .u8 (x / 65536 % 256), .int .u8 (x / 16777216 % 256)] 5)) := (Below.refl _ W).alloc (Nat.le_refl _) _
  refine (cPutNo (H.out.below hb) (by omega) (by omega) hlen).mono ?_
  rintro e w' ⟨rfl, rfl⟩
  exact ⟨rfl, rfl, hb⟩
end
end Go.Proofs.YtbfmlmnhdogojaaGreatDoor
