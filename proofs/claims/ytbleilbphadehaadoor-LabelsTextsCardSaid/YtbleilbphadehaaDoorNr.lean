/- The document's Labels and Text; Of: contracts. -/
import Derived.Test.YtbleilbphadehaaDoorNo
namespace Go.Proofs.YtbleilbphadehaaDoor
open Go.RowKit Go.Shelf

set_option maxRecDepth 100000 in
set_option maxHeartbeats 2000000 in
theorem rLabels {a : Nat} (ha : a < 4294967296) (w : World) : Calls Tryd.prog 15 #[.int .u32 a] w fun e w' => ∃ v, e = .returned v ∧ w'.ownsRow w.heap.size 3 1 v (labsL a 16).length ((labsL a 16).map (Value.int .i64)) ∧ (labsL a 16 = [] → v = .slice none 0 0) ∧ Below w.heap.size w w' := by
  obtain ⟨i0, hi0, hz0, hz1, hz2⟩ := info_parts info_int
  go_enter Tryd.func15, Tryd.ntmps15
  go_wp2
  go_loopw [3, 4] (fun v i wr => ∃ k : Nat, k ≤ 16 ∧ i = .int .i64 k ∧ wr.ownsRow w.heap.size 3 1 v (labsL a k).length ((labsL a k).map (Value.int .i64)) ∧ Hid (labsL a k = [] → v = .slice none 0 0) ∧ Below w.heap.size w wr) (fun _ i _ => 16 - (intOf i).toNat)
  case atStart => exact ⟨0, Nat.zero_le _, rfl, World.ownsRow_nil _ _ _ _, Lib.hid fun _ => rfl, Below.refl _ _⟩
  case round =>
    obtain ⟨k, hk, rfl, hown, hnil, hb⟩ := hrel
    by_cases hlt : k < 16
    · have hB := rBit (a := a) (n := k) ha (by omega) wr
      have hlen := labsL_len a k
      have hs := hb.size
      cases ht : a.testBit k
      · rw [ht] at hB
        have HL := Lib.hid (show labsL a (k + 1) = labsL a k by simp [labsL, ht])
        clear ht
        go_wp2_with fail
        refine hB.mono ?_
        clear hB
        rintro e w' ⟨rfl, rfl⟩
        go_wp2
        go_roundw
        case rel => exact ⟨k + 1, by omega, by go_num, by rw [HL.out]; exact hown, Lib.hid (by rw [HL.out]; exact hnil.out), hb⟩
        case measure => simp [intOf]; omega
      · rw [ht] at hB
        have HL := Lib.hid (show labsL a (k + 1) = labsL a k ++ [(k : Int)] by simp [labsL, ht])
        clear ht
        go_wp2_with fail
        refine hB.mono ?_
        clear hB
        rintro e w' ⟨rfl, rfl⟩
        go_wp2_with (at_builtin; refine wpList_append_lies _ rfl _ _ 35 rfl w.heap.size 3 i0 (.int .i64 0) 1 8 Tryd.underlying35 hi0 hz0 hz1 hz2 rfl (by decide) _ _ _ rfl (hown.alloc _) ⟨w'.heap.size, 0, none⟩ 1 1 [.int .i64 k] rfl rfl (cell_one_new _ _ _) (by simp [Value.oneCell']) (by decide) (by simp only [maxLen]; omega) (by omega) (by simp; omega) _ rfl ?_; intro g' cap' w3 hown' hgrow hat hlt')
        have hb3 : Below w.heap.size w w3 := (hb.alloc hs _).grown hgrow (by simp; omega) (fun b e => (hown.lt b e).1)
        go_roundw
        case rel => exact ⟨k + 1, by omega, by go_num, by rw [HL.out, List.length_append, List.map_append]; exact hown', Lib.hid (by rw [HL.out]; intro h; simp at h), hb3⟩
        case measure => simp [intOf]; omega
    · obtain rfl : k = 16 := by omega
      have HN := Lib.hid hnil.out
      obtain ⟨LL, hLL⟩ : ∃ LL, labsL a 16 = LL := ⟨_, rfl⟩
      rw [hLL] at hown HN
      have HLL := Lib.hid hLL
      clear hLL hnil
      go_wp2_with fail
      go_ret
      exact ⟨_, rfl, by rw [HLL.out]; exact hown, by rw [HLL.out]; exact HN.out, hb⟩
/-- What is joined so far. -/
def joinB (l : List Int) (k : Nat) : List UInt8 := Lib.join (((l.take k).map decB).map (·.data.toList)) [32]
theorem join_snoc : ∀ (xs : List (List UInt8)) (x : List UInt8), Lib.join (xs ++ [x]) [32] = (if xs = [] then [] else Lib.join xs [32] ++ [32]) ++ x
  | [], x => by simp [Lib.join, List.intercalate]
  | [y], x => by simp [Lib.join, List.intercalate, List.intersperse]
  | y :: z :: xs, x => by
    have ih := join_snoc (z :: xs) x
    simp only [List.cons_append] at ih ⊢
    simp only [Lib.join, List.intercalate] at ih ⊢
    rw [List.intersperse_cons_cons, List.intersperse_cons_cons]
    simp only [List.flatten_cons] at ih ⊢
    rw [ih]
    simp
theorem joinB_succ {l : List Int} {k : Nat} {x : Int} (h : l[k]? = some x) : joinB l (k + 1) = (if k = 0 then [] else joinB l k ++ [32]) ++ (decB x).data.toList := by
  have hk := (List.getElem?_eq_some_iff.1 h).1
  unfold joinB
  rw [List.take_add_one, h]
  simp only [Option.toList_some, List.map_append, List.map_cons, List.map_nil]
  rw [join_snoc]
  congr 1
  by_cases e : k = 0
  · simp [e]
  · have hl : l ≠ [] := by rintro rfl; simp at hk
    simp [e, hl]
theorem decB_size {n : Int} (h : n < 100) : (decB n).size ≤ 2 := decDigits_len2 (n := n.toNat) (by omega)
theorem Rd.of_own0 {W : World} {base : Nat} {e : TypeId} {v : Value} {k : IntKind} {l : List Int} (h : W.ownsRow base e 1 v l.length (l.map (Value.int k))) : ∃ A cap, v = .slice A l.length cap ∧ Rd W W.heap.size k A l := by
  rcases h.2 with ⟨rfl, h0⟩ | ⟨g, cap, cur, hv, _⟩
  · exact ⟨none, 0, by rw [h0], ⟨fun h => by omega, fun _ _ e => by cases e⟩⟩
  · subst hv; exact ⟨_, cap, rfl, Rd.of_own h⟩
theorem app_list (S T : ByteArray) : (S ++ T).data.toList = S.data.toList ++ T.data.toList := by simp
theorem bytes_ext {S : ByteArray} {l : List UInt8} (h : S.data.toList = l) : S = ⟨l.toArray⟩ := by
  apply ByteArray.ext; subst h; simp
set_option maxRecDepth 100000 in
set_option maxHeartbeats 2000000 in
theorem rText {a : Nat} (ha : a < 4294967296) (w : World) : Calls Tryd.prog 17 #[.int .u32 a] w fun e w' => e = .returned (.string (textL (labsL a 16))) ∧ Below w.heap.size w w' := by
  go_enter Tryd.func17, Tryd.ntmps17
  go_wp2_with fail
  refine (rLabels ha w).mono ?_
  rintro e W1 ⟨v, rfl, hown, hnil, hb⟩
  have hlen := labsL_len a 16
  have hmem := labsL_mem a 16
  obtain ⟨LL, hLL⟩ : ∃ LL, labsL a 16 = LL := ⟨_, rfl⟩
  rw [hLL] at hown hlen hmem
  have HLL := Lib.hid hLL
  clear hLL hnil
  obtain ⟨A, cap, rfl, hr⟩ := Rd.of_own0 hown
  have HB := Lib.hid hb
  have HM := Lib.hid hmem
  clear hown hb hmem
  go_wp2_with fail
  go_loop [3, 5] (fun s i => ∃ (k : Nat) (S : ByteArray), k ≤ LL.length ∧ i = .int .i64 k ∧ s = .string S ∧ Hid (S.data.toList = joinB LL k) ∧ S.size ≤ 3 * k) (fun _ i => LL.length - (intOf i).toNat)
  case atStart => exact ⟨0, ⟨#[]⟩, Nat.zero_le _, rfl, rfl, Lib.hid (by simp [joinB, Lib.join]), by decide⟩
  case round =>
    obtain ⟨k, S, hk, rfl, rfl, hS, hsz⟩ := hrel
    by_cases hlt : k < LL.length
    · obtain ⟨x, hx⟩ : ∃ x, LL[k]? = some x := ⟨_, List.getElem?_eq_getElem hlt⟩
      have hxm := HM.out x (List.mem_of_getElem? hx)
      obtain ⟨n, rfl⟩ : ∃ n : Nat, x = n := ⟨x.toNat, by omega⟩
      obtain ⟨g, off, rfl, hg⟩ := hr.some_ (by omega)
      have cx := hr.cell g off rfl k _ hx
      have hJ := joinB_succ hx
      have hds : (decB (n : Int)).size ≤ 2 := decB_size (by omega)
      have HI := Lib.hid (show Calls Tryd.prog 31 #[.int .i64 n] W1 fun e w' => e = .returned (.string (decB n)) ∧ w' = W1 from Tryd.strconv_Itoa_small n (by omega) W1)
      have HJ := Lib.hid hJ
      clear hx hJ
      by_cases hk0 : k = 0
      · subst hk0
        rw [Nat.add_zero] at cx
        go_wp2_with fail
        refine HI.out.mono ?_
        rintro e w' ⟨rfl, rfl⟩
        go_wp2
        go_round
        case rel => exact ⟨1, S ++ decB n, by omega, by first | rfl | go_num, rfl, Lib.hid (by rw [app_list, HJ.out, hS.out]; simp [joinB, Lib.join]), by rw [ByteArray.size_append]; omega⟩
        case measure => simp [intOf]; omega
      · have hk1 : 0 < k := by omega
        have HK := Lib.hid hk0
        clear hk0
        go_wp2_with fail
        refine HI.out.mono ?_
        rintro e w' ⟨rfl, rfl⟩
        go_wp2
        go_round
        case rel => exact ⟨k + 1, S ++ ⟨#[32]⟩ ++ decB n, by omega, by go_num, rfl, Lib.hid (by rw [app_list, app_list, HJ.out, hS.out, if_neg HK.out]), by rw [ByteArray.size_append, ByteArray.size_append]; have : (⟨#[32]⟩ : ByteArray).size = 1 := rfl; omega⟩
        case measure => simp [intOf]; omega
    · obtain rfl : k = LL.length := by omega
      by_cases h0 : LL = []
      · subst h0
        obtain rfl : S = ⟨#[]⟩ := by
          have := bytes_ext hS.out
          simpa [joinB, Lib.join] using this
        clear hS
        go_wp2
        go_ret
        rw [HLL.out]
        exact ⟨rfl, HB.out⟩
      · have hT : textL LL = S := by
          unfold textL
          rw [if_neg h0, bytes_ext hS.out, joinB, List.take_length]
        have hne : S.data.toList ≠ [] := by
          rw [hS.out]
          obtain ⟨n, hn⟩ : ∃ n, LL.length = n + 1 := ⟨LL.length - 1, by have := List.length_pos_iff.2 h0; omega⟩
          obtain ⟨x, hx⟩ : ∃ x, LL[n]? = some x := ⟨_, List.getElem?_eq_getElem (by omega)⟩
          rw [hn, joinB_succ hx]
          have hd : (decB x).data.toList ≠ [] := by
            unfold decB
            simp only []
            rw [Lib.decDigits]
            split <;> simp
          simp [hd]
        have HT := Lib.hid hT
        have he : S.toList.isEmpty = false := by rw [ByteArray.toList_eq]; cases h : S.data.toList with
          | nil => exact absurd h hne
          | cons _ _ => rfl
        have he2 : ¬ S.toList = [] := by rw [ByteArray.toList_eq]; exact hne
        clear hS hT hne h0
        go_wp2
        go_ret
        exact ⟨by rw [HLL.out, HT.out]; rfl, HB.out⟩
end Go.Proofs.YtbleilbphadehaaDoor
