/- Keep, whole: what it tells and the table behind it. -/
import Derived.Test.YtbleilbphadehaaDoorLn
namespace Go.Proofs.YtbleilbphadehaaDoor
open Go.RowKit Go.Shelf
theorem cKeep {W : World} {base p mn mj : Nat} {sv : Value} {most : Int} {L : List Int} {J : List ((Int × Int) × Int)} (h : TAt W base p mn mj sv most L J) (ok : TOk most L J) {x : Int} (hx : 0 ≤ x) : Calls Tryd.prog 12 #[.pointer (some ⟨p, 0, none⟩), .int .u32 x] W fun e w' => e = .returned (.tuple #[.int .i64 (keepR most L x).2.1, .int .i64 (keepR most L x).2.2]) ∧ TabTo W w' base p mn mj sv most (keepR most L x).1 J ∧ TOk most (keepR most L x).1 J := by
  unfold keepR
  by_cases h1 : 65536 ≤ x
  · rw [if_pos h1]
    refine (cKeep_arg h ok.pos h1).mono ?_
    rintro e w' ⟨rfl, rfl⟩
    exact ⟨rfl, h.to (Below.refl _ _), ok⟩
  · rw [if_neg h1]
    cases hi : idxL x L 0 with
    | some n =>
      refine (cKeep_is h ok.pos (by omega) hi).mono ?_
      rintro e w' ⟨rfl, rfl⟩
      exact ⟨rfl, h.to (Below.refl _ _), ok⟩
    | none =>
      by_cases hm : most ≤ L.length
      · simp only [if_pos hm]
        refine (cKeep_full h ok.pos (by omega) hi hm).mono ?_
        rintro e w' ⟨rfl, hb⟩
        exact ⟨rfl, h.to hb, ok⟩
      · simp only [if_neg hm]
        refine (cKeep_new h ok.pos (by omega) hi (by omega) ok.bnd.2).mono ?_
        rintro e w' ⟨rfl, ht⟩
        exact ⟨rfl, ht, ok.push ⟨hx, by omega⟩ hi (by omega)⟩
end Go.Proofs.YtbleilbphadehaaDoor
