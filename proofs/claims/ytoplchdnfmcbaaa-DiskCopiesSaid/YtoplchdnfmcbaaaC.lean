/- The contracts of the document's Read and Write, over slices of bytes. -/
import Derived.Test.YtoplchdnfmcbaaaB
import Derived.Test.YtoplchdnfmcbaaaRd
import Derived.Deep.Cut
import Derived.Maps.AppendAt
import Derived.Deep.AppendLies
import Derived.Deep.Onto
namespace Go.Proofs.Ytoplchdnfmcbaaa
open Go.RowKit Go.Shelf

/-- What Read answers. -/
def inL (l : List Int) (n : Int) : Prop := 0 ≤ n ∧ n < (l.length : Int) / 64
instance (l : List Int) (n : Int) : Decidable (inL l n) := inferInstanceAs (Decidable (_ ∧ _))
def cutL (l : List Int) (n : Int) : List Int := (l.drop (64 * n.toNat)).take 64
def readL (l : List Int) (n : Int) : List Int := if inL l n then cutL l n else zeros
theorem cutL_len {l : List Int} {n : Int} (h : inL l n) : (cutL l n).length = 64 := by
  have := h.1; have := h.2
  simp only [cutL, List.length_take, List.length_drop]; omega
theorem cutL_get {l : List Int} {n : Int} {j : Nat} (hj : j < 64) : (cutL l n)[j]? = l[64 * n.toNat + j]? := by
  simp [cutL, List.getElem?_take, hj]

set_option maxRecDepth 100000 in
theorem c12_out {w : World} {A : Option Addr} {l : List Int} {c : Nat} (hL : l.length < 9223372036854775808) (n : Int) (hn : ¬ inL l n) :
    Calls Try.prog 12 #[.slice A l.length c, .int .i64 n] w fun e w' => e = .returned (.tuple #[secV zeros, .int .i64 4]) ∧ Below w.heap.size w w' := by
  have hz := zlit
  obtain ⟨K1, K2, Hb, hs⟩ := cells2 w (intsA .u8 zeros) (intsA .u8 zeros) 28 28
  have hi0 := size28 (l := zeros) rfl
  have T1 := K1.there
  have K2' : ((w.alloc (.cells (intsA .u8 zeros) 28)).alloc (.cells (intsA .u8 zeros) 28)).heap[w.heap.size + 1]? = some (.cells (intsA .u8 zeros) 28 (0, 0)) := K2
  have hn' : n < 0 ∨ (l.length : Int) / 64 ≤ n := by unfold inL at hn; omega
  clear hn
  by_cases h1 : n < 0
  all_goals
    have h2 : 0 ≤ n → (l.length : Int) / 64 ≤ n := by omega
    try (have h3 := h2 (by omega))
    clear h2 hn'
    go_enter Try.func12, Try.ntmps12
    have o5 := K1.setAll (intsA .u8 zeros).toList (by simp [intsA])
    rw [Array.toArray_toList] at o5
    go_wp2_with (first
      | (with_reducible refine wpList_load_row rfl 28 (.tmp 6) rfl (w.heap.size + 1) rfl 28 (intsA .u8 zeros) (0, 0) _ K2' Try.underlying28 rfl hi0 ?_)
      | (with_reducible refine wpList_store_mid rfl 28 (.tmp 4) (.tmp 17) rfl w.heap.size 0 (intsA .u8 zeros) rfl rfl T1 hi0 (intsA_one _ _) ?_)
      | exact bodyPost_ret (results_row_tmp (p := 4) (t0 := 5) rfl _ _ w.heap.size 28 (intsA .u8 zeros) _ rfl o5 Try.underlying28 rfl hi0) rfl ⟨rfl, below_setCells _ 0 Hb (by omega)⟩)
set_option maxRecDepth 100000 in
theorem c12_in {w : World} {A : Option Addr} {l : List Int} {c : Nat} (hL : l.length < 9223372036854775808) (hr : Rd w w.heap.size .u8 A l) (n : Int) (hn : inL l n) :
    Calls Try.prog 12 #[.slice A l.length c, .int .i64 n] w fun e w' => e = .returned (.tuple #[secV (cutL l n), .int .i64 0]) ∧ Below w.heap.size w w' := by
  have hz := zlit
  obtain ⟨K1, K2, Hb, hs⟩ := cells2 w (intsA .u8 zeros) (intsA .u8 zeros) 28 28
  obtain ⟨n, rfl⟩ := Int.eq_ofNat_of_zero_le hn.1
  obtain ⟨g, off, rfl, hg⟩ := hr.some_ (by have := hn.2; omega)
  have hn2 := hn.2
  have hn3 : 64 * n + 64 ≤ l.length := by omega
  go_enter Try.func12, Try.ntmps12
  go_upto_region 4 with (fail)
  generalize (w.alloc _).alloc _ = W at *
  have hrW := hr.below Hb (Nat.le_refl _)
  go_wp2_with fail
  go_loopw [7] (fun i wr => ∃ k : Nat, k ≤ 64 ∧ i = .int .i64 k ∧ ∃ cl : List Int, Cells wr (w.heap.size + 1) 28 (intsA .u8 cl) ∧ cl.length = 64 ∧ (∀ j, j < k → cl[j]? = l[64 * n + j]?) ∧
      Cells wr w.heap.size 28 (intsA .u8 zeros) ∧ Below w.heap.size w wr) (fun i _ => 64 - (intOf i).toNat)
  case atStart => exact ⟨0, by omega, rfl, zeros, K2, rfl, by omega, K1, Hb⟩
  case round =>
    obtain ⟨k, hk, rfl, cl, C2, hcl, hj, C1, hb⟩ := hrel
    rcases Nat.lt_or_ge k 64 with hk' | hk'
    · have hcx : wr.cell? ⟨g, off + (64 * n + k), none⟩ = some (.int .u8 l[64 * n + k]) := ((hr.below hb (Nat.le_refl _)).cell g off rfl (64 * n + k) _ (List.getElem?_eq_getElem (by omega)))
      have hcy := cells_get C2 (j := k) (by omega)
      have hfy := C2.frozen k
      go_wp2
      refine ⟨⟨k + 1, by omega, rfl, cl.set k l[64 * n + k], ?_, by simpa using hcl, ?_, C1.other _ (by simp), hb.setCell (by simp) _⟩, by simp [intOf]; omega⟩
      · rw [← intsA_set]; exact C2.set k _
      · intro j hjk
        by_cases e : j = k
        · subst e
          rw [List.getElem?_set_self (by omega), List.getElem?_eq_getElem]
        · rw [List.getElem?_set_ne (by omega)]; exact hj j (by omega)
    · obtain rfl : k = 64 := by omega
      obtain rfl : cl = cutL l n := by
        apply List.ext_getElem?
        intro j
        by_cases e : j < 64
        · rw [hj j e, cutL_get e]; simp
        · rw [List.getElem?_eq_none (by omega), List.getElem?_eq_none (by rw [cutL_len hn]; omega)]
      have hi := size28 hcl
      have C2' : wr.heap[w.heap.size + 1]? = some (.cells (intsA .u8 (cutL l n)) 28 (0, 0)) := C2
      have T1 : wr.there w.heap.size 0 (intsA .u8 (cutL l n)).size := by rw [intsA_size, hcl]; exact C1.there
      have o5 := C1.setAll (intsA .u8 (cutL l n)).toList (by simp [intsA, hcl, zeros])
      rw [Array.toArray_toList] at o5
      go_wp2_with (first
        | (with_reducible refine wpList_load_row rfl 28 (.tmp 6) rfl (w.heap.size + 1) rfl 28 (intsA .u8 (cutL l n)) (0, 0) _ C2' Try.underlying28 rfl hi ?_)
        | (with_reducible refine wpList_store_mid rfl 28 (.tmp 4) (.tmp 31) rfl w.heap.size 0 (intsA .u8 (cutL l n)) rfl rfl T1 hi (intsA_one _ _) ?_)
        | exact bodyPost_ret (results_row_tmp (p := 4) (t0 := 5) rfl _ _ w.heap.size 28 (intsA .u8 (cutL l n)) _ rfl o5 Try.underlying28 rfl hi) rfl ⟨rfl, below_setCells _ 0 hb (by omega)⟩)

/-! ### the document's Write -/
theorem info5 : (Try.prog.info? 5).map (fun i => (i.zero, i.size, i.bytes)) = some (some (.int .u8 0), 1, 1) := by kernel_rfl
/-- What Write leaves: of l, the bytes from o on, m of them, are those of x. -/
def Laid (l l' x : List Int) (o m : Nat) : Prop := l'.length = l.length ∧ ∀ j, l'[j]? = if o ≤ j ∧ j < o + m then x[j - o]? else l[j]?
theorem Laid.step {l l' x : List Int} {o m : Nat} (h : Laid l l' x o m) (v : Int) (hv : x[m]? = some v) (hl : o + m < l.length) : Laid l (l'.set (o + m) v) x o (m + 1) := by
  refine ⟨by simpa using h.1, fun j => ?_⟩
  by_cases e : j = o + m
  · subst e
    rw [List.getElem?_set_self (by rw [h.1]; exact hl), if_pos (by omega), show o + m - o = m by omega, hv]
  · rw [List.getElem?_set_ne (by omega), h.2 j]
    by_cases c : o ≤ j ∧ j < o + m
    · rw [if_pos c, if_pos (by omega)]
    · rw [if_neg c, if_neg (by omega)]
theorem c20_out {w : World} {A : Option Addr} {l : List Int} {c : Nat} (hL : l.length < 9223372036854775808) (n : Int) (hn : ¬ inL l n) (x : List Int) :
    Calls Try.prog 20 #[.slice A l.length c, .int .i64 n, secV x] w fun e w' => e = .returned (.tuple #[.slice A l.length c, .int .i64 4]) ∧ Below w.heap.size w w' := by
  have hn' : n < 0 ∨ (l.length : Int) / 64 ≤ n := by unfold inL at hn; omega
  obtain ⟨K1, Hb, hs⟩ := cells1 w (intsA .u8 x) 28
  clear hn
  unfold secV
  by_cases h1 : n < 0
  all_goals
    have h2 : 0 ≤ n → (l.length : Int) / 64 ≤ n := by omega
    try (have h3 := h2 (by omega))
    clear h2 hn'
    go_enter Try.func20, Try.ntmps20
    go_wp2
    go_ret2
    exact ⟨rfl, Hb⟩
set_option maxRecDepth 100000 in
theorem c20_in {w : World} {A : Option Addr} {l : List Int} {c : Nat} (hL : l.length ≤ 65536) (hr : Rd w w.heap.size .u8 A l) (n : Int) (hn : inL l n) (x : List Int) (hx : x.length = 64) :
    Calls Try.prog 20 #[.slice A l.length c, .int .i64 n, secV x] w fun e w' => ∃ g cap l', e = .returned (.tuple #[.slice (some ⟨g, 0, none⟩) l'.length cap, .int .i64 0]) ∧ Below w.heap.size w w' ∧
      Laid l l' x (64 * n.toNat) 64 ∧ w'.ownsRow w.heap.size 5 1 (.slice (some ⟨g, 0, none⟩) l'.length cap) l'.length (l'.map (Value.int .u8)) := by
  obtain ⟨i0, hi0, hz0, hz1, hz2⟩ := info_parts info5
  obtain ⟨K1, Hb, hs⟩ := cells1 w (intsA .u8 x) 28
  obtain ⟨n, rfl⟩ := Int.eq_ofNat_of_zero_le hn.1
  obtain ⟨g, off, rfl, hg⟩ := hr.some_ (by have := hn.2; omega)
  have hn2 := hn.2
  have hn3 : 64 * n + 64 ≤ l.length := by omega
  have hlt : ¬ ((n : Int) < 0) := by omega
  unfold secV
  go_enter Try.func20, Try.ntmps20
  go_upto_region 3 with (fail)
  generalize w.alloc _ = W at *
  have hrW := hr.below Hb (Nat.le_refl _)
  have hown0 : (W.alloc (.cells #[] 5)).ownsRow (w.heap.size + 1) 5 1 (.slice (some ⟨w.heap.size + 1, 0, none⟩) 0 0) 0 [] := by
    have := World.ownsRow_lit (base := w.heap.size + 1) (size := 1) (e := 5) W #[] 0 (by omega) (by simp [maxLen]) rfl
    rw [hs] at this; exact this
  have hnews : ∀ j u, (l.map (Value.int .u8))[j]? = some u → (W.alloc (.cells #[] 5)).cell? ((⟨g, off, none⟩ : Addr).add j) = some u := by
    intro j u hu
    rw [List.getElem?_map] at hu
    obtain ⟨y, hy, rfl⟩ := Option.map_eq_some_iff.1 hu
    have := (hrW.keep (W' := W.alloc (.cells #[] 5)) (fun g hg => Below.heap_alloc _ _ _ (by omega))).cell g off rfl j y hy
    rw [addr_add]; exact this
  have hbs : w.heap.size + 1 ≤ (W.alloc (.cells #[] 5)).heap.size := by simp; omega
  go_wp2_with (first
    | (at_builtin
       refine wpList_append_own_at _ rfl (.tmp 20) (.tmp 21) _ rfl (w.heap.size + 1) 5 i0 _ 1 1 Try.underlying25 hi0 hz0 hz1 hz2 rfl (by omega) (.slice (some ⟨w.heap.size + 1, 0, none⟩) 0 0) 0 [] rfl
         hown0 ⟨g, off, none⟩ l.length c (l.map (Value.int .u8)) rfl (by simp) hnews (by simp [Value.oneCell']) (by simp only [maxLen]; omega) (by omega) hbs ?_
       intro v1 w1 hown1 hg1 hnil1 hat1))
  rw [Nat.zero_add, List.nil_append] at hown1
  obtain ⟨g1, cap1, rfl, hg1b, hg1l⟩ := hown1.form (by omega)
  have Hb1 : Below w.heap.size w w1 := (Hb.alloc (by omega) _).grown hg1 (by omega) (by simp [Value.ownBlock])
  have K1' : Cells w1 w.heap.size 28 (intsA .u8 x) := (hg1.block _ (by rw [World.size_alloc]; omega) (by simp [Value.ownBlock])).trans (K1.alloc _)
  clear hg1 hnil1 hat1 hown0 hnews hbs
  go_loopw [9] (fun i wr => ∃ k : Nat, k ≤ 64 ∧ i = .int .i64 k ∧ ∃ l', Laid l l' x (64 * n) k ∧ wr.ownsRow (w.heap.size + 1) 5 1 (.slice (some ⟨g1, 0, none⟩) l.length cap1) l.length (l'.map (Value.int .u8)) ∧
      Cells wr w.heap.size 28 (intsA .u8 x) ∧ Below w.heap.size w wr) (fun i _ => 64 - (intOf i).toNat)
  case atStart => exact ⟨0, by omega, rfl, l, ⟨rfl, fun j => by rw [if_neg (by omega)]⟩, hown1, K1', Hb1⟩
  case round =>
    obtain ⟨k, hk, rfl, l', hl', hown, C1, hb⟩ := hrel
    rcases Nat.lt_or_ge k 64 with hk' | hk'
    · have hcx := cells_get C1 (j := k) (by omega)
      have hcy : wr.cell? ⟨g1, 64 * n + k, none⟩ = some (.int .u8 (l'[64 * n + k]'(by rw [hl'.1]; omega))) := by
        rw [hown.cellAt _ (by omega), List.getElem?_map, List.getElem?_eq_getElem (by rw [hl'.1]; omega)]; rfl
      have hfy := hown.frozenAt (64 * n + k)
      go_wp2
      have hs1 := (hown.stored (64 * n + k) (Value.int .u8 x[k])).1
      refine ⟨⟨k + 1, by omega, rfl, l'.set (64 * n + k) x[k], hl'.step _ (List.getElem?_eq_getElem (by omega)) (by omega), ?_, C1.other _ (by simp; omega), hb.setCell (by simp; omega) _⟩, by simp [intOf]; omega⟩
      rw [List.map_set]; exact hs1
    · obtain rfl : k = 64 := by omega
      go_wp2
      go_ret2
      refine ⟨g1, cap1, l', ?_, hb, hl', ?_⟩
      · rw [hl'.1]; rfl
      · rw [hl'.1]; exact hown.mono (by omega)
end Go.Proofs.Ytoplchdnfmcbaaa
