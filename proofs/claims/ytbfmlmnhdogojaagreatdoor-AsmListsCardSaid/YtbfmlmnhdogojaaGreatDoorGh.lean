/- A text's lines, one by one: contracts. -/
import Derived.Test.YtbfmlmnhdogojaaGreatDoorFo
namespace Go.Proofs.YtbfmlmnhdogojaaGreatDoor
open Go.RowKit Go.Shelf
attribute [local go_sem] Oper.semAt_some

theorem cLines (s : ByteArray) (w : World) : Calls Tryz.prog 40 #[.string s] w fun e w' => e = .returned (.func (.func 112) #[] #[.pointer (some ⟨w.heap.size + 1, 0, none⟩), .pointer (some ⟨w.heap.size, 0, none⟩), .pointer (some ⟨w.heap.size + 2, 0, none⟩)]) ∧
    w' = ((w.alloc (.cells #[.string s] 9)).alloc (.cells #[.string ⟨#[10]⟩] 9)).alloc (.cells #[.int .i64 0] 3) := by
  go_enter Tryz.func40, Tryz.ntmps40
  go_wp2
  go_ret
  exact ⟨rfl, rfl⟩
/-- How long the text in a cell is. -/
def strSz (W : World) (q : Nat) : Nat := match W.cell? ⟨q, 0, none⟩ with
  | some (.string s) => s.size
  | _ => 0
theorem strSz_of {W : World} {q : Nat} {s : ByteArray} (h : Cells W q 9 #[.string s]) : strSz W q = s.size := by
  unfold strSz
  rw [(h.cell 0).trans (show _ = some (Value.string s) from rfl)]
theorem linesL_len (s : ByteArray) : (linesL s).length = Lib.countB s ⟨#[10]⟩ + 1 := Lib.splitB_all _ (by decide) 0 _ s rfl
theorem Cells.same {W W' : World} {B : Nat} {t : TypeId} {c : Array Value} (h : Cells W B t c) (e : W'.heap[B]? = W.heap[B]?) : Cells W' B t c := e.trans h
set_option maxRecDepth 100000 in
set_option maxHeartbeats 1000000 in
theorem cSeq {s : ByteArray} (l qs qp qv : Nat) (J : Nat → World → Prop) (Z : List PanicEntry → World → Prop)
    (hB : ∀ k W, J k W → Cells W qp 9 #[.string ⟨#[10]⟩] ∧ Cells W qv 3 #[.int .i64 0]) (hset : ∀ k W v, J k W → J k (W.setCell ⟨qs, 0, none⟩ v))
    (hY : ∀ k x W, J k W → (linesL s)[k]? = some x → YieldAt Fence.wide 0 Tryz.prog l #[.string x] W fun e W' => (e = .returned (.bool true) ∧ J (k + 1) W' ∧ W'.heap[qs]? = W.heap[qs]?) ∨ ∃ ch, e = .panicked ch ∧ Z ch W')
    (w : World) (hw : J 0 w) (hq : Cells w qs 9 #[.string s]) (hs : s.size < 4294967281) :
    Calls Tryz.prog 112 #[.func (.yield l) #[] #[], .pointer (some ⟨qp, 0, none⟩), .pointer (some ⟨qs, 0, none⟩), .pointer (some ⟨qv, 0, none⟩)] w fun e w' => (e = .returned (.tuple #[]) ∧ J (linesL s).length w') ∨ ∃ ch, e = .panicked ch ∧ Z ch w' := by
  rw [← callsIn_wide (n := 1)]
  have p0 := ((hB 0 w hw).1.cell 0).trans (show _ = some (Value.string ⟨#[10]⟩) from rfl)
  have HQ := Lib.hid hq
  have HB := Lib.hid hB
  have HSET := Lib.hid hset
  have HY := Lib.hid hY
  have HW := Lib.hid hw
  have hlen := linesL_len s
  clear hq hB hset hY hw
  refine callsIn_of_wp Tryz.func112 rfl trivial ?_
  simp only [Tryz.ntmps112, List.size_toArray, List.length_cons, List.length_nil, Nat.reduceAdd, Nat.reduceSub, Array.replicate_succ, Array.replicate_zero, List.push_toArray, List.append_toArray, List.nil_append, List.cons_append]
  gi_wp2
  clear p0
  gi_loopw [7] (fun _ wr => ∃ (k : Nat) (r : ByteArray), k + Lib.countB r ⟨#[10]⟩ + 1 = (linesL s).length ∧ (linesL s).drop k = Lib.splitB ⟨#[10]⟩ 0 (Lib.countB r ⟨#[10]⟩) r ∧ J k wr ∧ Cells wr qs 9 #[.string r] ∧ r.size ≤ s.size) (fun _ wr => strSz wr qs)
  case atStart => exact ⟨0, s, by omega, rfl, HW.out, HQ.out, Nat.le_refl _⟩
  case round =>
    clear HW HQ
    obtain ⟨k, r, hkc, hdrop, hj, hq, hrs⟩ := hrel
    obtain ⟨hp, hv⟩ := HB.out k wr hj
    have q1 := (hq.cell 0).trans (show _ = some (Value.string r) from rfl)
    have q2 := (hp.cell 0).trans (show _ = some (Value.string ⟨#[10]⟩) from rfl)
    have q3 := (hv.cell 0).trans (show _ = some (Value.int .i64 0) from rfl)
    have hidx : Calls Tryz.prog 114 #[.string r, .string ⟨#[10]⟩] wr fun e w' => e = .returned (.int .i64 (Lib.indexB r ⟨#[10]⟩)) ∧ wr = w' := (Tryz.strings_Index_one r 10 wr).mono fun e w' he => ⟨by rw [he.1, ← Lib.index_one], he.2.symm⟩
    have HJ := Lib.hid hj
    have HCQ := Lib.hid hq
    have HD := Lib.hid hdrop
    have HKC := Lib.hid hkc
    clear hj hq hp hv hdrop hkc
    rcases Lib.indexB_cases r ⟨#[10]⟩ with hm | ⟨i, hi, hir⟩
    · rw [hm] at hidx
      have hc0 := Lib.countB_miss _ _ hm
      have hget : (linesL s)[k]? = some r := by
        have e := HD.out
        rw [hc0] at e
        have : (linesL s)[k]? = ((linesL s).drop k)[0]? := by rw [List.getElem?_drop]; simp
        rw [this, e]; rfl
      have hk1 : k + 1 = (linesL s).length := by have := HKC.out; omega
      have HI := Lib.hid hidx
      have HG := Lib.hid (And.intro hget hk1)
      clear hidx hm hc0 hget hk1
      gi_wp2_with fail
      refine ⟨trivial, (callsIn_wide.2 HI.out).mono ?_⟩
      rintro e w' ⟨rfl, rfl⟩
      obtain ⟨fn, tmps, assign, body, hy, hR⟩ := HY.out k r wr HJ.out HG.out.1
      gi_wp2
      refine hR.mono ?_
      rintro e W' (⟨rfl, hj', -⟩ | ⟨ch, rfl, hz⟩)
      · gi_wp2
        go_end0
        exact .inl ⟨rfl, by rw [← HG.out.2]; exact hj'⟩
      · exact ⟨rfl, .inr ⟨ch, rfl, hz⟩⟩
    · rw [hi] at hidx
      have hc1 := Lib.countB_hit r ⟨#[10]⟩ i (by decide) hi
      have hd1 := HD.out
      rw [hc1, Nat.add_comm 1, Lib.splitB_hit _ _ _ _ i hi] at hd1
      have hget : (linesL s)[k]? = some (r.extract 0 i) := by
        have : (linesL s)[k]? = ((linesL s).drop k)[0]? := by rw [List.getElem?_drop]; simp
        rw [this, hd1]; rfl
      have hnext : (linesL s).drop (k + 1) = Lib.splitB ⟨#[10]⟩ 0 (Lib.countB (r.extract (i + 1) r.size) ⟨#[10]⟩) (r.extract (i + 1) r.size) := by
        rw [← List.drop_drop, hd1]; rfl
      have hir' : i + 1 ≤ r.size := hir
      have hsz : (r.extract (i + 1) r.size).size = r.size - (i + 1) := by rw [ByteArray.size_extract]; omega
      have hk1 : k + 1 + Lib.countB (r.extract (i + 1) r.size) ⟨#[10]⟩ + 1 = (linesL s).length := by
        have := HKC.out
        have e : Lib.countB r ⟨#[10]⟩ = 1 + Lib.countB (r.extract (i + 1) r.size) ⟨#[10]⟩ := hc1
        omega
      have HI := Lib.hid hidx
      have HG := Lib.hid (And.intro hget (And.intro hnext (And.intro hk1 hsz)))
      clear hidx hi hc1 hd1 hget hnext hk1 hsz hir
      gi_wp2_with fail
      refine ⟨trivial, (callsIn_wide.2 HI.out).mono ?_⟩
      rintro e w' ⟨rfl, rfl⟩
      obtain ⟨fn, tmps, assign, body, hy, hR⟩ := HY.out k _ wr HJ.out HG.out.1
      gi_wp2
      refine hR.mono ?_
      rintro e W' (⟨rfl, hj', hsame⟩ | ⟨ch, rfl, hz⟩)
      · have hq' := HCQ.out.same hsame
        obtain ⟨hp', hv'⟩ := HB.out (k + 1) W' hj'
        have p1 := (hq'.cell 0).trans (show _ = some (Value.string r) from rfl)
        have p2 := (hp'.cell 0).trans (show _ = some (Value.string ⟨#[10]⟩) from rfl)
        have pf := hq'.frozen 0
        have HF := Lib.hid (And.intro (HSET.out _ _ (.string (r.extract (i + 1) r.size)) hj') (And.intro (hq'.set 0 (.string (r.extract (i + 1) r.size))) (strSz_of HCQ.out)))
        clear hq' hp' hv' hj' hsame hR
        gi_wp2
        obtain ⟨f1, f2, f3⟩ := HF.out
        obtain ⟨g1, g2, g3, g4⟩ := HG.out
        refine ⟨⟨k + 1, _, g3, g2, f1, f2, by rw [g4]; omega⟩, ?_⟩
        rw [f3, strSz_of (s := r.extract (i + 1) r.size) f2, g4]
        omega
      · exact ⟨rfl, .inr ⟨ch, rfl, hz⟩⟩
end Go.Proofs.YtbfmlmnhdogojaaGreatDoor
