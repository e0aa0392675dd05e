/- The document's listing: contract. -/
import Derived.Test.YtbfmlmnhdogojaaGreatDoorHd
import Derived.LoopTactic
import Derived.BigQuiet
namespace Go.Proofs.YtbfmlmnhdogojaaGreatDoor
open Go.RowKit Go.Shelf

def sliceLen : Value → Nat
  | .slice _ n _ => n
  | _ => 0
theorem Rd.drop4 {W : World} {B : Nat} {g off : Nat} {a b c d : Int} {l : List Int} (h : Rd W B .u8 (some ⟨g, off, none⟩) (a :: b :: c :: d :: l)) : Rd W B .u8 (some ⟨g, off + 4, none⟩) l :=
  ⟨fun _ => by obtain ⟨g', off', e, hg⟩ := h.some_ (by simp); simp at e; exact ⟨g, off + 4, rfl, by omega⟩, fun g' off' e i x hx => by
    simp at e
    obtain ⟨rfl, rfl⟩ := e
    have := h.cell g off rfl (i + 4) x (by simpa using hx)
    rw [show off + 4 + i = off + (i + 4) by omega]
    exact this⟩
theorem listL_last : ∀ l : List Int, 0 < l.length → l.length < 4 → listL l = restL l
  | [], h, _ => by simp at h
  | [_], _, _ => rfl
  | [_, _], _, _ => rfl
  | [_, _, _], _, _ => rfl
  | _ :: _ :: _ :: _ :: _, _, h => by simp at h; omega
set_option maxRecDepth 100000 in
set_option maxHeartbeats 2000000 in
theorem rListing {xs : List Int} {A : Option Addr} {c : Nat} {w : World} (hG : Gl w) (hr0 : Rd w w.heap.size .u8 A xs) (hx8 : ∀ x ∈ xs, 0 ≤ x ∧ x < 256) (hL : xs.length ≤ 2048) (hcap : xs.length ≤ c) (_hmax : c ≤ maxLen) :
    Calls Tryz.prog 14 #[.slice A xs.length c] w fun e w' => e = .returned (.string ⟨(listL xs).toArray⟩) ∧ Below w.heap.size w w' := by
  have HG := Lib.hid hG
  have HX := Lib.hid hx8
  have HR := Lib.hid hr0
  clear hG hx8 hr0
  go_enter Tryz.func14, Tryz.ntmps14
  go_wp2_with fail
  go_loopw [0, 3] (fun b o wr => ∃ (A' : Option Addr) (l : List Int) (c' : Nat) (O : ByteArray), b = .slice A' l.length c' ∧ o = .string O ∧ Hid (Rd w w.heap.size .u8 A' l) ∧ l.length ≤ c' ∧ c' ≤ c ∧ Hid (∀ x ∈ l, 0 ≤ x ∧ x < 256) ∧ Hid (listL xs = O.data.toList ++ listL l) ∧ O.size + 256 * l.length ≤ 256 * xs.length ∧ Below w.heap.size w wr) (fun b _ _ => sliceLen b)
  case atStart => exact ⟨A, xs, c, ⟨#[]⟩, rfl, rfl, HR, hcap, Nat.le_refl _, HX, Lib.hid rfl, by have : (ByteArray.mk #[]).size = 0 := rfl; omega, Below.refl _ _⟩
  case round =>
    obtain ⟨A', l, c', O, rfl, rfl, hr, hlc, hcc, hx8, hlist, hO, hb⟩ := hrel
    by_cases h4 : 4 ≤ l.length
    · obtain ⟨a, b, y, z, l', hl⟩ : ∃ a b y z l', l = a :: b :: y :: z :: l' := by
        match l, h4 with
        | a :: b :: y :: z :: l', _ => exact ⟨a, b, y, z, l', rfl⟩
      obtain ⟨g, off, rfl, hg⟩ := hr.out.some_ (by omega)
      have hrw := hr.out.below hb (Nat.le_refl _)
      have k0 := hrw.cell g off rfl 0 a (by rw [hl]; rfl)
      have k1 := hrw.cell g off rfl 1 b (by rw [hl]; rfl)
      have k2 := hrw.cell g off rfl 2 y (by rw [hl]; rfl)
      have k3 := hrw.cell g off rfl 3 z (by rw [hl]; rfl)
      rw [Nat.add_zero] at k0
      obtain ⟨a0, a1⟩ := hx8.out a (by rw [hl]; simp)
      obtain ⟨b0, b1⟩ := hx8.out b (by rw [hl]; simp)
      obtain ⟨y0, y1⟩ := hx8.out y (by rw [hl]; simp)
      obtain ⟨z0, z1⟩ := hx8.out z (by rw [hl]; simp)
      have HLL := Lib.hid hl
      clear hrw hl
      go_wp2_with fail
      go_quiet (fail)
      rename_i nq
      have hx0 : 0 ≤ wordI a b y z ∧ wordI a b y z < 4294967296 := by unfold wordI; omega
      have hwx : a + 256 * b + 65536 * y + 16777216 * z = wordI a b y z := rfl
      clear k0 k1 k2 k3 a0 a1 b0 b1 y0 y1 z0 z1
      obtain ⟨x, hx⟩ : ∃ x, wordI a b y z = x := ⟨_, rfl⟩
      rw [hwx, hx]
      rw [hx] at hx0
      have HWX := Lib.hid hx
      clear hwx hx
      have hbn : ∀ n, Below w.heap.size w (wr.drewN n) := fun n => ⟨hb.os, hb.tape, hb.output, hb.size, hb.block⟩
      clear hb
      obtain ⟨nq', hnq⟩ : ∃ n, n = nq := ⟨_, rfl⟩
      have hb1 := hbn nq
      clear hbn hnq nq'
      generalize wr.drewN nq = W1 at *
      have hz : ∀ x y : ByteArray, (x ++ y).size = x.size + y.size := fun x y => ByteArray.size_append
      cases hok : okL x with
      | true =>
        have htx : lineW x = textB (dOp x) (dA x) (dB x) (dN x) := by unfold lineW; rw [if_pos hok]
        have hdec := rDecode_in (x := x) hok (by omega) (by omega) W1
        have HDEC := Lib.hid hdec
        have HTX := Lib.hid htx
        have HMAY := Lib.hid (show mayL (dOp x) (dA x) (dB x) (dN x) = true from hok)
        clear hdec htx hok
        go_wp2_with fail
        refine HDEC.out.mono ?_
        rintro e W2 ⟨rfl, hb2⟩
        have B2 := Lib.hid (hb1.trans (hb2.mono hb1.size))
        have B2' := Lib.hid ((B2.out).alloc (B := w.heap.size) B2.out.size (.cells (instA (dOp x) (dA x) (dB x) (dN x)) 69))
        have hI := Cells.new W2 69 (instA (dOp x) (dA x) (dB x) (dN x))
        have i0 := (hI.cell 0).trans (show _ = some (Value.int .i64 (dOp x)) from rfl)
        have i1 := (hI.cell 1).trans (show _ = some (Value.int .i64 (dA x)) from rfl)
        have i2 := (hI.cell 2).trans (show _ = some (Value.int .i64 (dB x)) from rfl)
        have i3 := (hI.cell 3).trans (show _ = some (Value.int .i64 (dN x)) from rfl)
        clear hb1 hb2 hI HDEC
        go_wp2_with fail
        refine (rText HMAY.out (HG.out.b B2'.out).tb).mono ?_
        rintro e W3 ⟨rfl, hb3⟩
        rw [← HTX.out]
        have hls := lineW_size hx0.1 hx0.2
        have B3 := Lib.hid (B2'.out.trans (hb3.mono B2'.out.size))
        clear i0 i1 i2 i3 hb3 B2 B2' HTX HMAY hx0
        obtain ⟨T, hT⟩ : ∃ T, lineW x = T := ⟨_, rfl⟩
        rw [hT] at hls
        rw [hT]
        have HT := Lib.hid hT
        clear hT
        go_wp2_with fail
        have hll : l.length = l'.length + 4 := by rw [HLL.out]; rfl
        refine ⟨⟨if c' = 4 then some ⟨g, off, none⟩ else some ⟨g, off + 4, none⟩, l', c' - 4, O ++ T ++ ⟨#[10]⟩, by rw [hll, Nat.add_sub_cancel], rfl, Lib.hid ?_, by omega, by omega, Lib.hid (fun v hv => hx8.out v (by rw [HLL.out]; simp [hv])), Lib.hid ?_, ?_, B3.out⟩, by simp only [sliceLen]; omega⟩
        · split
          · have hnil : l' = [] := List.eq_nil_of_length_eq_zero (by omega)
            rw [hnil]
            exact ⟨fun h => absurd h (by simp), fun _ _ _ i x hx => by simp at hx⟩
          · exact Rd.drop4 (HLL.out ▸ hr.out)
        · rw [hlist.out, HLL.out, listL, HWX.out, HT.out]
          simp [ByteArray.data_append]
        · rw [hz, hz]
          have : (ByteArray.mk #[10]).size = 1 := rfl
          omega
      | false =>
        obtain ⟨n, rfl⟩ := Int.eq_ofNat_of_zero_le hx0.1
        have htx : lineW (n : Int) = ⟨#[119, 111, 114, 100, 32]⟩ ++ itoaB n := by unfold lineW; rw [if_neg (by rw [hok]; decide)]
        have hdec := rDecode_out (x := (n : Int)) hok (by omega) (by omega) W1
        have HDEC := Lib.hid hdec
        have HTX := Lib.hid htx
        clear hdec htx hok
        go_wp2_with fail
        refine HDEC.out.mono ?_
        rintro e W2 ⟨rfl, hb2⟩
        have B2 := Lib.hid (hb1.trans (hb2.mono hb1.size))
        have B2' := Lib.hid ((B2.out).alloc (B := w.heap.size) B2.out.size (.cells (instA 0 0 0 0) 69))
        clear hb1 hb2 HDEC
        have hsz := itoaB_size (n := (n : Int)) (by omega) (by omega)
        go_wp2_with fail
        refine (cFormatU (u := n) (by omega) (HG.out.b B2'.out).tb).mono ?_
        rintro e W3 ⟨rfl, hb3⟩
        have B3 := Lib.hid (B2'.out.trans (hb3.mono B2'.out.size))
        clear hb3 B2 B2' hx0
        obtain ⟨T, hT⟩ : ∃ T, itoaB (n : Int) = T := ⟨_, rfl⟩
        rw [hT] at hsz
        rw [hT]
        have HT := Lib.hid hT
        clear hT
        go_wp2_with fail
        have hll : l.length = l'.length + 4 := by rw [HLL.out]; rfl
        refine ⟨⟨if c' = 4 then some ⟨g, off, none⟩ else some ⟨g, off + 4, none⟩, l', c' - 4, O ++ ⟨#[119, 111, 114, 100, 32]⟩ ++ T ++ ⟨#[10]⟩, by rw [hll, Nat.add_sub_cancel], rfl, Lib.hid ?_, by omega, by omega, Lib.hid (fun v hv => hx8.out v (by rw [HLL.out]; simp [hv])), Lib.hid ?_, ?_, B3.out⟩, by simp only [sliceLen]; omega⟩
        · split
          · have hnil : l' = [] := List.eq_nil_of_length_eq_zero (by omega)
            rw [hnil]
            exact ⟨fun h => absurd h (by simp), fun _ _ _ i x hx => by simp at hx⟩
          · exact Rd.drop4 (HLL.out ▸ hr.out)
        · rw [hlist.out, HLL.out, listL, HWX.out, HTX.out, HT.out]
          simp [ByteArray.data_append]
        · rw [hz, hz, hz]
          have : (ByteArray.mk #[10]).size = 1 := rfl
          have : (ByteArray.mk #[119, 111, 114, 100, 32]).size = 5 := rfl
          omega
    · have hz : ∀ x y : ByteArray, (x ++ y).size = x.size + y.size := fun x y => ByteArray.size_append
      by_cases hl0 : l.length = 0
      · have hnil : l = [] := List.eq_nil_of_length_eq_zero hl0
        have HB := Lib.hid hb
        clear hb
        go_wp2_with fail
        go_ret
        refine ⟨?_, HB.out⟩
        have he : (listL xs).toArray = O.data := by rw [hlist.out, hnil, listL, List.append_nil, Array.toArray_toList]
        rw [he]
        rfl
      · have HB := Lib.hid hb
        clear hb
        have hl0b : ((l.length : Int) == 0) = false := by simpa using hl0
        go_wp2_with fail
        go_loopw [7, 3] (fun i o wr2 => ∃ (k : Nat) (O2 : ByteArray), k ≤ l.length ∧ i = .int .i64 k ∧ o = .string O2 ∧ Hid (O2.data.toList = O.data.toList ++ [98, 121, 116, 101] ++ (l.take k).flatMap (fun x => 32 :: (itoaB x).data.toList)) ∧ O2.size ≤ O.size + 4 + 30 * k ∧ Below w.heap.size w wr2) (fun i _ _ => l.length - (intOf i).toNat)
        case atStart =>
          refine ⟨0, _, Nat.zero_le _, rfl, rfl, Lib.hid ?_, ?_, HB.out⟩
          · simp [ByteArray.data_append]
          · rw [hz]
            have : (ByteArray.mk #[98, 121, 116, 101]).size = 4 := rfl
            omega
        case round =>
          obtain ⟨k, O2, hk, rfl, rfl, hO2, hs2, hb2⟩ := hrel
          by_cases hlt : k < l.length
          · obtain ⟨x, hx⟩ : ∃ x, l[k]? = some x := ⟨_, List.getElem?_eq_getElem hlt⟩
            obtain ⟨g, off, rfl, hg⟩ := hr.out.some_ (by omega)
            have kx := (hr.out.below hb2 (Nat.le_refl _)).cell g off rfl k x hx
            obtain ⟨x0, x1⟩ := hx8.out x (List.mem_of_getElem? hx)
            have HK := Lib.hid hx
            have HB2 := Lib.hid hb2
            clear hx hb2
            have hsz := itoaB_size (n := x) (by omega) (by omega)
            go_wp2_with fail
            refine (cItoa (n := x) (by omega) (by omega) (HG.out.b HB2.out).tb).mono ?_
            rintro e W3 ⟨rfl, hb3⟩
            have HB3 := Lib.hid (HB2.out.trans (hb3.mono HB2.out.size))
            clear hb3 kx HB2
            obtain ⟨T, hT⟩ : ∃ T, itoaB x = T := ⟨_, rfl⟩
            rw [hT] at hsz
            rw [hT]
            have HT := Lib.hid hT
            clear hT
            go_wp2_with fail
            refine ⟨⟨k + 1, _, by omega, by go_num, rfl, Lib.hid ?_, ?_, HB3.out⟩, by simp [intOf]; omega⟩
            · have ht : l.take (k + 1) = l.take k ++ [x] := by rw [List.take_add_one, HK.out]; rfl
              rw [ht, List.flatMap_append, List.flatMap_cons, List.flatMap_nil, HT.out]
              simp [ByteArray.data_append, hO2.out]
            · rw [hz, hz]
              have : (ByteArray.mk #[32]).size = 1 := rfl
              omega
          · obtain rfl : k = l.length := by omega
            have HB2 := Lib.hid hb2
            clear hb2
            go_wp2_with fail
            go_ret
            refine ⟨?_, HB2.out⟩
            have he : (listL xs).toArray = (O2 ++ ⟨#[10]⟩).data := by
              rw [hlist.out, listL_last l (by omega) (by omega), restL, ← Array.toArray_toList (xs := (O2 ++ ⟨#[10]⟩).data)]
              have h1 := hO2.out
              rw [List.take_of_length_le (Nat.le_refl _)] at h1
              simp [ByteArray.data_append, h1]
            rw [he]
            rfl
end Go.Proofs.YtbfmlmnhdogojaaGreatDoor
