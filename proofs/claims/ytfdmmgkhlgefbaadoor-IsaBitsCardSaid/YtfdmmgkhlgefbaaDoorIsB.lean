/- IsaBits: its walk. -/
import Derived.Test.YtfdmmgkhlgefbaaDoorIsL
namespace Go.Proofs.YtfdmmgkhlgefbaaDoor
open Go.RowKit Go.Shelf

theorem info_u32 : (Tryd.prog.info? 29).map (fun i => (i.zero, i.size, i.bytes)) = some (some (.int .u32 0), 1, 4) := by kernel_rfl
def BitsAt (w : World) (n : Nat) (v : Value) (wr : World) : Prop :=
  ∃ (ls : List Int) (ao : Option Addr) (cv : Nat), ls.length = n ∧ v = .slice ao ls.length cv ∧ (∀ y ∈ ls, 0 ≤ y ∧ y < 4294967296) ∧ wr.ownsRow w.heap.size 29 1 v ls.length (ls.map (Value.int .u32)) ∧ Below w.heap.size w wr
theorem BitsAt.more {w : World} {ls : List Int} {v' : Value} {w3 : World} {y : Int} (hls : ∀ y ∈ ls, 0 ≤ y ∧ y < 4294967296) (h0 : 0 ≤ y) (h1 : y ≤ 4294967295) (hown : w3.ownsRow w.heap.size 29 1 v' (ls.length + 1) (ls.map (Value.int .u32) ++ [.int .u32 y])) (hb : Below w.heap.size w w3) : BitsAt w (ls.length + 1) v' w3 := by
  obtain ⟨g3, cap3, hv3⟩ : ∃ g3 cap3, v' = .slice (some ⟨g3, 0, none⟩) (ls.length + 1) cap3 := by
    rcases hown.2 with ⟨_, h⟩ | ⟨g3, cap3, _, h, _⟩
    · omega
    · exact ⟨g3, cap3, h⟩
  refine ⟨ls ++ [y], some ⟨g3, 0, none⟩, cap3, by simp, by rw [hv3]; simp, ?_, by simpa using hown, hb⟩
  intro z hz
  rcases List.mem_append.1 hz with hz | hz
  · exact hls z hz
  · simp at hz; omega
theorem cIsaBits {x : Int} (h0 : 0 ≤ x) (h1 : x < 4294967296) {w : World} (ht : Tb w) : Calls Tryd.prog 7 #[.int .u32 x] w fun e w' => e = .returned (.bool true) ∧ Below w.heap.size w w' := by
  obtain ⟨i0, hi, hz0, hz1, hz2⟩ := info_parts info_u32
  go_enter Tryd.func7, Tryd.ntmps7
  go_wp2_with fail
  go_loopw [3, 4] (fun v i wr => ∃ k : Nat, k ≤ 32 ∧ i = .int .i64 k ∧ BitsAt w k v wr) (fun _ i _ => 32 - (intOf i).toNat)
  case atStart => exact ⟨0, Nat.zero_le _, rfl, [], none, 0, rfl, rfl, by simp, World.ownsRow_nil _ _ _ _, Below.refl _ _⟩
  case round =>
    obtain ⟨k, hk, rfl, ls, ao, cv, hlen, rfl, hls, hown, hb⟩ := hrel
    have hsize := hb.size
    have HL := Lib.hid hlen
    have hl32 : ls.length ≤ 32 := by omega
    clear hlen
    by_cases hlt : k < 32
    · go_wp2_with (first
        | (at_builtin; refine wpList_append_own _ rfl _ _ 22 rfl w.heap.size 29 i0 (.int .u32 0) 1 4 Tryd.underlying22 hi hz0 hz1 hz2 rfl (by decide) _ _ _ rfl (hown.alloc _) ⟨wr.heap.size, 0, none⟩ 1 1 [.int .u32 _] rfl rfl (cell_one_of _ _ _) (fun x hx => by simp at hx; subst hx; rfl) (by unfold maxLen; omega) (by omega) (by simp; omega) ?_; intro v' w3 hown' hgrow3 hnil3))
      have hm := BitsAt.more hls (bits_lo_u32 _ _ _) (bits_hi_u32 _ _ _) hown' ((hb.alloc hsize _).grown hgrow3 (by simp; omega) (fun q hq => (hown.lt q hq).1))
      rw [HL.out] at hm
      go_roundw
      case rel => exact ⟨k + 1, by omega, by go_num, hm⟩
      case measure => simp [intOf]; omega
    · obtain rfl : k = 32 := by omega
      go_wp2_with (first
        | (at_builtin; refine wpList_append_own _ rfl _ _ 22 rfl w.heap.size 29 i0 (.int .u32 0) 1 4 Tryd.underlying22 hi hz0 hz1 hz2 rfl (by decide) _ _ _ rfl (hown.alloc _) ⟨wr.heap.size, 0, none⟩ 1 1 [.int .u32 x] rfl rfl (cell_one_of _ _ _) (fun x hx => by simp at hx; subst hx; rfl) (by unfold maxLen; omega) (by omega) (by simp; omega) ?_; intro v' w3 hown' hgrow3 hnil3)
        | fail)
      obtain ⟨ls', ao', cv', hlen', rfl, hls', hown4, hb4⟩ := BitsAt.more hls h0 (by omega) hown' ((hb.alloc hsize _).grown hgrow3 (by simp; omega) (fun q hq => (hown.lt q hq).1))
      obtain ⟨g, rfl, hcap⟩ : ∃ g, ao' = some ⟨g, 0, none⟩ ∧ ls'.length ≤ cv' ∧ cv' ≤ maxLen := by
        rcases hown4.2 with ⟨h, h'⟩ | ⟨g, cap, cur, h, hb, hh, hc, hm, _⟩
        · omega
        · cases h; exact ⟨g, rfl, hc, hm⟩
      clear hown' hgrow3 hnil3 hlen'
      go_wp2_with fail
      refine (cIsaDecode (Rd.of_own hown4) hls' hcap.1 hcap.2 (ht.b hb4)).mono ?_
      rintro e W5 ⟨rfl, hb5⟩
      go_wp2
      go_ret
      exact ⟨rfl, hb4.trans (hb5.mono hb4.size)⟩
end Go.Proofs.YtfdmmgkhlgefbaaDoor
