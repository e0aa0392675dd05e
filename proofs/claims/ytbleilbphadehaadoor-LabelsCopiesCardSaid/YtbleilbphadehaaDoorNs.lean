/- A table held against the document's; what a call does to both: contracts. -/
import Derived.Test.YtbleilbphadehaaDoorNe
import Derived.Test.YtbleilbphadehaaDoorNk
import Derived.Test.YtbleilbphadehaaDoorNst
namespace Go.Proofs.YtbleilbphadehaaDoor
open Go.RowKit Go.Shelf

section
variable {W : World} {base p mn mj : Nat} {sv : Value} {most : Int} {L : List Int} {J : List ((Int × Int) × Int)} {A : Option Addr}
set_option maxRecDepth 100000 in
set_option maxHeartbeats 2000000 in
theorem cSameG (h : TAt W base p mn mj sv most L J) (hp : 0 < L.length) (hL : L.length ≤ 65536) (hr : Rd W W.heap.size .u32 A L) {mo : Int} {cap : Nat} : Calls Tryd.prog 24 #[.pointer (some ⟨p, 0, none⟩), rtV mo A L cap] W fun e w' => e = .returned (.bool true) ∧ Below W.heap.size W w' := by
  unfold rtV
  obtain ⟨k1, kb, ks⟩ := cells1 W #[.int .i64 mo, .slice A L.length cap] 51
  have h1 := h.below kb
  have r1 := hr.below kb (Nat.le_refl _)
  obtain ⟨W1, hW1⟩ : ∃ W1, W.alloc (.cells #[.int .i64 mo, .slice A L.length cap] 51) = W1 := ⟨_, rfl⟩
  rw [hW1] at k1 kb ks h1 r1
  have HA := Lib.hid (cAll h1 hp hL)
  have HLen := Lib.hid (fun (W' : World) (hb : Below W1.heap.size W1 W') => cLen (h1.below hb) hp)
  have HS := Lib.hid ks
  clear h h1 hr ks
  go_enter Tryd.func24, Tryd.ntmps24
  go_wp2_with fail
  refine HA.out.mono ?_
  rintro e W2 ⟨g', cap', rfl, hown, hb⟩
  have r2 := r1.below hb (by have := HS.out; omega)
  have o2 := Rd.of_own hown
  have c1 := ((k1.below hb k1.lt).cell 1).trans (show _ = some (Value.slice A L.length cap) from rfl)
  have b2 := kb.trans (hb.mono kb.size)
  have K2 := Lib.hid (k1.below hb k1.lt)
  have HL2 := Lib.hid (HLen.out W2 hb)
  clear hW1 hown k1 r1 hb kb HA HLen
  go_wp2_with fail
  refine HL2.out.mono ?_
  rintro e W3 ⟨rfl, rfl⟩
  clear c1
  go_wp2_with fail
  go_loopw [6] (fun i wr => ∃ k : Nat, k ≤ L.length ∧ i = .int .i64 k ∧ Below W3.heap.size W3 wr) (fun i _ => L.length - (intOf i).toNat)
  case atStart => exact ⟨0, Nat.zero_le _, rfl, Below.refl _ _⟩
  case round =>
    obtain ⟨k, hk, rfl, hbr⟩ := hrel
    by_cases hlt : k < L.length
    · obtain ⟨x, hx⟩ : ∃ x, L[k]? = some x := ⟨_, List.getElem?_eq_getElem hlt⟩
      obtain ⟨g, off, rfl, hg⟩ := r2.some_ (by omega)
      have cx := (r2.below hbr b2.size).cell g off rfl k x hx
      have cy := (o2.below hbr (Nat.le_refl _)).cell g' 0 rfl k x hx
      rw [Nat.zero_add] at cy
      have c1 := ((K2.out.below hbr K2.out.lt).cell 1).trans (show _ = some (Value.slice (some ⟨g, off, none⟩) L.length cap) from rfl)
      clear hx
      go_wp2_with fail
      go_region
      go_wp2
      go_roundw
      case rel => exact ⟨k + 1, by omega, by go_num, hbr.drew⟩
      case measure => simp [intOf]; omega
    · obtain rfl : k = L.length := by omega
      go_wp2_with fail
      go_ret
      exact ⟨rfl, b2.trans (hbr.mono b2.size)⟩
end
end Go.Proofs.YtbleilbphadehaaDoor
