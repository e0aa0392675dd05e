/- The law CpuWords: the walk. -/
import Derived.Test.YtmpnlhfnemidpaaSn
import Derived.Test.YtmpnlhfnemidpaaKn
import Derived.Test.YtmpnlhfnemidpaaOp
namespace Go.Proofs.Ytmpnlhfnemidpaa
open Go.RowKit Go.Shelf
set_option maxRecDepth 100000 in
set_option maxHeartbeats 4000000 in
theorem cCpuWords {s : St} (hs : s.ok) {w : World} {A : Option Addr} {l : List (Int × Int)} {c : Nat} (hl : RdP w w.heap.size A l) (hw : ∀ p ∈ l, u32? p.1 ∧ u32? p.2) (_hlen : l.length ≤ c) (_hcap : c ≤ maxLen) :
    Calls Try.prog 4 #[.agg (stA s), .slice A l.length c] w fun e w' => e = .returned (.bool true) ∧ Below w.heap.size w w' := by
  obtain ⟨K1, Hb, hsz⟩ := cells1 w (stA s) 25
  have HO := Lib.hid (fun (x t : Int) (hx : u32? x) (ht : u32? t) W => cOne hs hx ht W)
  have HL := Lib.hid (hl.below Hb (Nat.le_refl _))
  have HW := Lib.hid hw
  have h8 := hs.len
  have hi := hi25 hs.len
  clear hl hw hs
  by_cases h1 : l.length ≤ 60
  · have h1' : ¬ (60 < (l.length : Int)) := by omega
    go_enter Try.func4, Try.ntmps4
    go_wp2_with fail
    generalize w.alloc _ = W at *
    have AS : StAt W w.heap.size s := ⟨K1, h8⟩
    clear K1
    go_loopw [5] (fun i wr => ∃ k : Nat, k ≤ l.length ∧ i = .int .i64 k ∧ Below W.heap.size W wr) (fun i _ => l.length - (intOf i).toNat)
    case atStart => exact ⟨0, Nat.zero_le _, rfl, Below.refl _ _⟩
    case round =>
      obtain ⟨k, hk, rfl, hb⟩ := hrel
      by_cases hlt : k < l.length
      · obtain ⟨⟨x, t⟩, hx⟩ : ∃ x, l[k]? = some x := ⟨_, List.getElem?_eq_getElem hlt⟩
        obtain ⟨hxu, htu⟩ := HW.out _ (List.mem_of_getElem? hx)
        have hl0 := HL.out.below hb Hb.size
        obtain ⟨g, off, rfl, hg⟩ := hl0.some_ (by omega)
        obtain ⟨c0, c1⟩ := hl0.cell g off rfl k x t hx
        have rr := Lib.hid (AS.below hb AS.lt).row
        have d0 := fun y : Since wr => y.cell c0
        have d1 := fun y : Since wr => y.cell c1
        have hk0 : (0 : Int) ≤ (k : Int) := by omega
        have hk1 : (k : Int) < (l.length : Int) := by omega
        have B1 := Lib.hid hb
        clear hx hl0 hb c0 c1
        go_upto_region 6 with (fail)
        refine wp_region_since (by kernel_rfl) (by kernel_rfl) ?_
        (try simp only [Act.put])
        (refine wpQuiet_plain rfl (fun K hK => ?_); refine quiet_of_run (fun x => exec_load_row 25 (.tmp 2) rfl w.heap.size rfl 25 (stA s) _ (Since.cells rr.out x) Try.underlying25 rfl hi) ?_; refine hK _ ?_; clear hK K; simp only [Act.put, List.setIfInBounds_toArray, List.set_cons_zero, List.set_cons_succ])
        iterate 4 (go_big_quiet_step (fail))
        go_big_quiet_step ((go_at_call 16; exact Since.of (HO.out x t hxu htu _)))
        go_big_quiet_step (fail)
        refine wpQuiet_nil ?_
        rintro _ ⟨y, rfl⟩
        have B2 := Lib.hid (B1.out.trans (y.low.mono B1.out.size))
        clear d0 d1 rr
        go_wp2_with fail
        go_roundw
        case rel => exact ⟨k + 1, by omega, by go_num, B2.out⟩
        case measure => simp [intOf]; omega
      · obtain rfl : k = l.length := by omega
        go_wp2_with fail
        refine (cKnown _).mono ?_
        rintro e W1 ⟨rfl, hb1⟩
        go_wp2
        go_ret
        exact ⟨rfl, Hb.trans ((hb.trans (hb1.mono hb.size)).mono Hb.size)⟩
  · have h1' : 60 < (l.length : Int) := by omega
    go_enter Try.func4, Try.ntmps4
    go_wp2_with fail
    refine (cKnown _).mono ?_
    rintro e W1 ⟨rfl, hb1⟩
    go_wp2
    go_ret
    exact ⟨rfl, Hb.trans (hb1.mono Hb.size)⟩
end Go.Proofs.Ytmpnlhfnemidpaa
