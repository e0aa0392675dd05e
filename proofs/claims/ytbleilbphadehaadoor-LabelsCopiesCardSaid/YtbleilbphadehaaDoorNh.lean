/- The document's table: New, Keep, Joined: contracts. -/
import Derived.Test.YtbleilbphadehaaDoorNf
namespace Go.Proofs.YtbleilbphadehaaDoor
open Go.RowKit Go.Shelf

theorem res_row_tmp2 {P : Program} {fn : Func} {p t0 t1 : Tmp} {ty : TypeId} (h : fn.results = #[.cell p ty, .tmp t0, .tmp t1]) (tmps : Array Value) (w : World) (g : Nat) (t : TypeId) (cs : Array Value) (d : TypeDesc)
    (hp : tmps.getD p undef = .pointer (some ⟨g, 0, none⟩)) (hg : Cells w g t cs)
    (hu : P.underlying ty = some d) (hd : (match d with | .struct _ | .array _ _ => true | _ => false) = true) (hi : (P.info? ty).map (·.size) = some cs.size) :
    (results fn tmps).run P w = .ok (.tuple #[.agg cs, tmps.getD t0 undef, tmps.getD t1 undef]) w := by
  have hp' : tmps[p]?.getD undef = .pointer (some ⟨g, 0, none⟩) := by simpa using hp
  simp [results, h, hp', asAddr, run_loadVar_row w g t ty cs (0, 0) d hg hu hd hi]
theorem res_row {P : Program} {fn : Func} {p : Tmp} {ty : TypeId} (h : fn.results = #[.cell p ty]) (tmps : Array Value) (w : World) (g : Nat) (t : TypeId) (cs : Array Value) (d : TypeDesc)
    (hp : tmps.getD p undef = .pointer (some ⟨g, 0, none⟩)) (hg : Cells w g t cs)
    (hu : P.underlying ty = some d) (hd : (match d with | .struct _ | .array _ _ => true | _ => false) = true) (hi : (P.info? ty).map (·.size) = some cs.size) :
    (results fn tmps).run P w = .ok (.agg cs) w := by
  have hp' : tmps[p]?.getD undef = .pointer (some ⟨g, 0, none⟩) := by simpa using hp
  simp [results, h, hp', asAddr, run_loadVar_row w g t ty cs (0, 0) d hg hu hd hi]
theorem info_rt (m v : Value) : (Tryd.prog.info? 51).map (·.size) = some (#[m, v] : Array Value).size := by kernel_rfl
/-- The document's table: a bound, and a slice that reads the sets. -/
def rtV (most : Int) (A : Option Addr) (L : List Int) (cap : Nat) : Value := .agg #[.int .i64 most, .slice A L.length cap]
/-- What has become of the sets: as they were, or a new row. -/
def Anew (W W' : World) (A A' : Option Addr) (L : List Int) : Prop := Rd W' W'.heap.size .u32 A' L ∧ (A' = A ∨ ∀ g off, A' = some ⟨g, off, none⟩ → W.heap.size ≤ g) ∧ Below W.heap.size W W'
theorem rNew {n : Int} (W : World) : Calls Tryd.prog 23 #[.int .i64 n] W fun e w' => ∃ A cap, e = .returned (rtV n A [0] cap) ∧ Anew W w' none A [0] := by
  go_enter Tryd.func23, Tryd.ntmps23
  go_wp2
  refine bodyPost_ret (v := rtV n (some ⟨W.heap.size + 1, 0, none⟩) [0] 1) (by simp [results, Tryd.results23, go_sem, rtV]) rfl ?_
  obtain ⟨k1, k2, kb, ks⟩ := cells2 W #[.int .i64 n, .slice (some ⟨W.heap.size + 1, 0, none⟩) 1 1] #[.int .u32 0] 51 28
  refine ⟨_, _, rfl, ⟨fun _ => ⟨_, _, rfl, by omega⟩, fun g off e i x hx => ?_⟩, .inr fun g off e => ?_, kb⟩
  · cases e
    cases i with
    | zero => simp at hx; subst hx; exact k2.cell 0
    | succ i => simp at hx
  · cases e; omega
theorem two_set {W : World} {B : Nat} {t : TypeId} {a b c d : Value} (h : Cells W B t #[a, b]) : Cells ((W.setCell ⟨B, 0, none⟩ c).setCell ⟨B, 1, none⟩ d) B t #[c, d] := (h.set 0 c).set 1 d
theorem two_below {n B : Nat} {W0 W : World} {c d : Value} (h : Below n W0 W) (hB : n ≤ B) : Below n W0 ((W.setCell ⟨B, 0, none⟩ c).setCell ⟨B, 1, none⟩ d) :=
  (h.setCell (p := ⟨B, 0, none⟩) hB _).setCell (p := ⟨B, 1, none⟩) hB _
theorem Rd.far {W : World} {n B : Nat} {k : IntKind} {A : Option Addr} {l : List Int} (h : Rd W n k A l) (hB : n ≤ B) (c d : Value) : Rd ((W.setCell ⟨B, 0, none⟩ c).setCell ⟨B, 1, none⟩ d) n k A l :=
  h.keep fun g hg => (Below.heap_setCell _ _ _ _ (by simp; omega)).trans (Below.heap_setCell _ _ _ _ (by simp; omega))
theorem size_two {W : World} {B : Nat} {c d : Value} : ((W.setCell ⟨B, 0, none⟩ c).setCell ⟨B, 1, none⟩ d).heap.size = W.heap.size := by simp [World.setCell]
section
variable {W : World} {A : Option Addr} {cap : Nat} {most : Int} {L : List Int}
theorem Anew.of_below {W' : World} (hr : Rd W W.heap.size .u32 A L) (h : Below W.heap.size W W') : Anew W W' A A L := ⟨(hr.below h (Nat.le_refl _)).up h.size, .inl rfl, h⟩
set_option maxHeartbeats 1000000 in
theorem rKeep_arg (hr : Rd W W.heap.size .u32 A L) {x : Int} (hx : 65536 ≤ x) : Calls Tryd.prog 34 #[rtV most A L cap, .int .u32 x] W fun e w' => e = .returned (.tuple #[rtV most A L cap, .int .i64 0, .int .i64 2]) ∧ Anew W w' A A L := by
  unfold rtV
  have HR := Lib.hid hr
  clear hr
  go_enter Tryd.func34, Tryd.ntmps34
  go_wp2
  refine bodyPost_ret (v := .tuple #[.agg #[.int .i64 most, .slice A L.length cap], .int .i64 0, .int .i64 2]) (by simp [results, Tryd.results34, go_sem]) rfl ?_
  exact ⟨rfl, .of_below HR.out (((Below.refl _ W).alloc (Nat.le_refl _) _).alloc (by simp) _)⟩
set_option maxHeartbeats 1000000 in
theorem rKeep_is (hr : Rd W W.heap.size .u32 A L) (hL : L.length ≤ 65536) {x : Int} (hx : x < 65536) {n : Nat} (hi : idxL x L 0 = some n) : Calls Tryd.prog 34 #[rtV most A L cap, .int .u32 x] W fun e w' => e = .returned (.tuple #[rtV most A L cap, .int .i64 n, .int .i64 0]) ∧ Anew W w' A A L := by
  unfold rtV
  obtain ⟨k1, k2, kb, ks⟩ := cells2 W #[.int .i64 most, .slice A L.length cap] #[.int .i64 0, .slice none 0 0] 51 51
  have hh := rHas (cap := cap) (most := most) ((hr.below kb (Nat.le_refl _)).up kb.size) hL x
  rw [show hasR L x = n by unfold hasR; rw [hi]] at hh
  have HR := Lib.hid hr
  have HK1 := Lib.hid k1
  have HK2 := Lib.hid k2
  have HB := Lib.hid kb
  have HS := Lib.hid ks
  clear hr k1 k2 kb ks hi
  go_enter Tryd.func34, Tryd.ntmps34
  go_wp2_with fail
  refine hh.mono ?_
  clear hh
  rintro e W2 ⟨rfl, hb⟩
  have l1 := HK1.out.below hb HK1.out.lt
  have l2 := HK2.out.below hb HK2.out.lt
  have HB2 := Lib.hid (HB.out.trans (hb.mono HB.out.size))
  have c0 := (l1.cell 0).trans (show _ = some (Value.int .i64 most) from rfl)
  have c1 := (l1.cell 1).trans (show _ = some (Value.slice A L.length cap) from rfl)
  have d0 := (l2.cell 0).trans (show _ = some (Value.int .i64 0) from rfl)
  have d1 := (l2.cell 1).trans (show _ = some (Value.slice none 0 0) from rfl)
  have f0 := l2.frozen 0
  have f1 := l2.frozen 1
  have HL2 := Lib.hid l2
  clear l1 l2 hb HK1 HK2 HB HS
  go_wp2
  refine bodyPost_ret (res_row_tmp2 rfl _ _ (W.heap.size + 1) _ _ _ rfl (two_set HL2.out) Tryd.underlying51 rfl (info_rt _ _)) rfl ?_
  exact ⟨rfl, .of_below HR.out (two_below HB2.out (by omega))⟩
set_option maxHeartbeats 1000000 in
theorem rKeep_full (hr : Rd W W.heap.size .u32 A L) (hL : L.length ≤ 65536) {x : Int} (hx : x < 65536) (hi : idxL x L 0 = none) (hm : most ≤ L.length) : Calls Tryd.prog 34 #[rtV most A L cap, .int .u32 x] W fun e w' => e = .returned (.tuple #[rtV most A L cap, .int .i64 0, .int .i64 120]) ∧ Anew W w' A A L := by
  unfold rtV
  obtain ⟨k1, k2, kb, ks⟩ := cells2 W #[.int .i64 most, .slice A L.length cap] #[.int .i64 0, .slice none 0 0] 51 51
  have hh := rHas (cap := cap) (most := most) ((hr.below kb (Nat.le_refl _)).up kb.size) hL x
  rw [show hasR L x = -1 by unfold hasR; rw [hi]] at hh
  have HR := Lib.hid hr
  have HK1 := Lib.hid k1
  have HK2 := Lib.hid k2
  have HB := Lib.hid kb
  have HS := Lib.hid ks
  clear hr k1 k2 kb ks hi
  go_enter Tryd.func34, Tryd.ntmps34
  go_wp2_with fail
  refine hh.mono ?_
  clear hh
  rintro e W2 ⟨rfl, hb⟩
  have l1 := HK1.out.below hb HK1.out.lt
  have l2 := HK2.out.below hb HK2.out.lt
  have HB2 := Lib.hid (HB.out.trans (hb.mono HB.out.size))
  have c0 := (l1.cell 0).trans (show _ = some (Value.int .i64 most) from rfl)
  have c1 := (l1.cell 1).trans (show _ = some (Value.slice A L.length cap) from rfl)
  have d0 := (l2.cell 0).trans (show _ = some (Value.int .i64 0) from rfl)
  have d1 := (l2.cell 1).trans (show _ = some (Value.slice none 0 0) from rfl)
  have f0 := l2.frozen 0
  have f1 := l2.frozen 1
  have HL2 := Lib.hid l2
  clear l1 l2 hb HK1 HK2 HB HS
  go_wp2
  refine bodyPost_ret (res_row_tmp2 rfl _ _ (W.heap.size + 1) _ _ _ rfl (two_set HL2.out) Tryd.underlying51 rfl (info_rt _ _)) rfl ?_
  exact ⟨rfl, .of_below HR.out (two_below HB2.out (by omega))⟩
end
end Go.Proofs.YtbleilbphadehaaDoor
