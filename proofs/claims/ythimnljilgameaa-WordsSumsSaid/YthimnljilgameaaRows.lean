/-
  No cell of these rows narrows 'for every input' (looked for: loops, veiled, ifaces, maps, wideKeys, modest, calm, conditions, laid).
  DERIVED. THE GIVEN ROWS OF THIS SEAT. 7 by the template 'for every input the law returns true; each argument reads behind the call as it read before'; 0 by the template 'total and deterministic' (their statements: YthimnljilgameaaTotals.lean).
  GIVEN WITH THE SEED: the statements are not yours to turn. If you find one false, say at which input.
  Laid BY PROGRAM, IN A SANDBOX (cutbox-rows.mjs): the forced cells as the released guide's own fill.sh prints them over the translation b5d7ab8ecbac5681… (all of the seat's roots in one cut). By AI agents, Wed Nov 11 2026. No macro, syntax, notation, axiom, sorry.
-/
import Derived.Test.YthimnljilgameaaChecked
import GoSem.Claim
import GoSem.ClaimJoined
import GoSem.ClaimMapViews
import Derived.JoinedTies
import Derived.KernelRfl
namespace Go.Proofs.Ythimnljilgameaa
/- THE CELL 'sum', in the pinned program and in every row, IS THE sha256 OF THE DUMP (.gsa) THAT YthimnljilgameaaProg.lean LOADS. Nothing in Lean hashes anything: it is a label: what it is worth is what the hold of that sum in a sandbox is worth. -/
noncomputable def Try.pinned : Pinned := { name := "ythimnljilgameaa", sum := "b5d7ab8ecbac56811e9afe2cf2b453b6448c07a6201573bab3bbea7f4d01ad02", checked := Try.checked }
namespace Rows
def none {H : Type} : Left H := { results := [], args := [] }

/-- 'pomanderlaw01.WordsMoves': WHATEVER THE INPUT: true; the input reads as it did. -/
def wordsMovesSpec : ChangeSpec := { name := "wordsMoves", fn := fun _ => fun
  | [d1, d2] => { results := [.lit (.bool true)], args := [d1, d2] }
  | _ => none }
def wordsMovesRow : OpenClaim := { program := "ythimnljilgameaa", sum := "b5d7ab8ecbac56811e9afe2cf2b453b6448c07a6201573bab3bbea7f4d01ad02", func := "pomander/pomanderlaw01.WordsMoves", spec := "wordsMoves", unfollowed := true, recurses := true, apart := false }
def WordsMovesSaid : Prop := wordsMovesRow.holds Try.pinned (OpenSpec.ofChange wordsMovesSpec)

/-- ITS FALSE NEIGHBOUR: 'it returns false'. Refute it at one input. -/
def wordsMovesWrong : ChangeSpec := { name := "wordsMoves", fn := fun _ => fun
  | [d1, d2] => { results := [.lit (.bool false)], args := [d1, d2] }
  | _ => none }
def WordsMovesWrongFalsely : Prop := wordsMovesRow.holds Try.pinned (OpenSpec.ofChange wordsMovesWrong)

/-- 'pomanderlaw01.WordsFalls': WHATEVER THE INPUT: true; the input reads as it did. -/
def wordsFallsSpec : ChangeSpec := { name := "wordsFalls", fn := fun _ => fun
  | [d1, d2] => { results := [.lit (.bool true)], args := [d1, d2] }
  | _ => none }
def wordsFallsRow : OpenClaim := { program := "ythimnljilgameaa", sum := "b5d7ab8ecbac56811e9afe2cf2b453b6448c07a6201573bab3bbea7f4d01ad02", func := "pomander/pomanderlaw01.WordsFalls", spec := "wordsFalls", unfollowed := true, recurses := true, apart := false }
def WordsFallsSaid : Prop := wordsFallsRow.holds Try.pinned (OpenSpec.ofChange wordsFallsSpec)

/-- ITS FALSE NEIGHBOUR: 'it returns false'. Refute it at one input. -/
def wordsFallsWrong : ChangeSpec := { name := "wordsFalls", fn := fun _ => fun
  | [d1, d2] => { results := [.lit (.bool false)], args := [d1, d2] }
  | _ => none }
def WordsFallsWrongFalsely : Prop := wordsFallsRow.holds Try.pinned (OpenSpec.ofChange wordsFallsWrong)

/-- 'pomanderlaw01.WordsProducts': WHATEVER THE INPUT: true; the input reads as it did. -/
def wordsProductsSpec : ChangeSpec := { name := "wordsProducts", fn := fun _ => fun
  | [d1, d2, d3] => { results := [.lit (.bool true)], args := [d1, d2, d3] }
  | _ => none }
def wordsProductsRow : OpenClaim := { program := "ythimnljilgameaa", sum := "b5d7ab8ecbac56811e9afe2cf2b453b6448c07a6201573bab3bbea7f4d01ad02", func := "pomander/pomanderlaw01.WordsProducts", spec := "wordsProducts", unfollowed := true, recurses := true, apart := false }
def WordsProductsSaid : Prop := wordsProductsRow.holds Try.pinned (OpenSpec.ofChange wordsProductsSpec)

/-- ITS FALSE NEIGHBOUR: 'it returns false'. Refute it at one input. -/
def wordsProductsWrong : ChangeSpec := { name := "wordsProducts", fn := fun _ => fun
  | [d1, d2, d3] => { results := [.lit (.bool false)], args := [d1, d2, d3] }
  | _ => none }
def WordsProductsWrongFalsely : Prop := wordsProductsRow.holds Try.pinned (OpenSpec.ofChange wordsProductsWrong)

/-- 'pomanderlaw01.WordsSums': WHATEVER THE INPUT: true; the input reads as it did. -/
def wordsSumsSpec : ChangeSpec := { name := "wordsSums", fn := fun _ => fun
  | [d1, d2] => { results := [.lit (.bool true)], args := [d1, d2] }
  | _ => none }
def wordsSumsRow : OpenClaim := { program := "ythimnljilgameaa", sum := "b5d7ab8ecbac56811e9afe2cf2b453b6448c07a6201573bab3bbea7f4d01ad02", func := "pomander/pomanderlaw01.WordsSums", spec := "wordsSums", unfollowed := true, recurses := true, apart := false }
def WordsSumsSaid : Prop := wordsSumsRow.holds Try.pinned (OpenSpec.ofChange wordsSumsSpec)

/-- ITS FALSE NEIGHBOUR: 'it returns false'. Refute it at one input. -/
def wordsSumsWrong : ChangeSpec := { name := "wordsSums", fn := fun _ => fun
  | [d1, d2] => { results := [.lit (.bool false)], args := [d1, d2] }
  | _ => none }
def WordsSumsWrongFalsely : Prop := wordsSumsRow.holds Try.pinned (OpenSpec.ofChange wordsSumsWrong)

/-- 'pomanderlaw01.WordsOrders': WHATEVER THE INPUT: true; the input reads as it did. -/
def wordsOrdersSpec : ChangeSpec := { name := "wordsOrders", fn := fun _ => fun
  | [d1, d2] => { results := [.lit (.bool true)], args := [d1, d2] }
  | _ => none }
def wordsOrdersRow : OpenClaim := { program := "ythimnljilgameaa", sum := "b5d7ab8ecbac56811e9afe2cf2b453b6448c07a6201573bab3bbea7f4d01ad02", func := "pomander/pomanderlaw01.WordsOrders", spec := "wordsOrders", unfollowed := true, recurses := true, apart := false }
def WordsOrdersSaid : Prop := wordsOrdersRow.holds Try.pinned (OpenSpec.ofChange wordsOrdersSpec)

/-- ITS FALSE NEIGHBOUR: 'it returns false'. Refute it at one input. -/
def wordsOrdersWrong : ChangeSpec := { name := "wordsOrders", fn := fun _ => fun
  | [d1, d2] => { results := [.lit (.bool false)], args := [d1, d2] }
  | _ => none }
def WordsOrdersWrongFalsely : Prop := wordsOrdersRow.holds Try.pinned (OpenSpec.ofChange wordsOrdersWrong)

/-- 'pomanderlaw01.WordsBytes': WHATEVER THE INPUT: true; the input reads as it did. -/
def wordsBytesSpec : ChangeSpec := { name := "wordsBytes", fn := fun _ => fun
  | [d1, d2, d3] => { results := [.lit (.bool true)], args := [d1, d2, d3] }
  | _ => none }
def wordsBytesRow : OpenClaim := { program := "ythimnljilgameaa", sum := "b5d7ab8ecbac56811e9afe2cf2b453b6448c07a6201573bab3bbea7f4d01ad02", func := "pomander/pomanderlaw01.WordsBytes", spec := "wordsBytes", unfollowed := true, recurses := true, apart := false }
def WordsBytesSaid : Prop := wordsBytesRow.holds Try.pinned (OpenSpec.ofChange wordsBytesSpec)

/-- ITS FALSE NEIGHBOUR: 'it returns false'. Refute it at one input. -/
def wordsBytesWrong : ChangeSpec := { name := "wordsBytes", fn := fun _ => fun
  | [d1, d2, d3] => { results := [.lit (.bool false)], args := [d1, d2, d3] }
  | _ => none }
def WordsBytesWrongFalsely : Prop := wordsBytesRow.holds Try.pinned (OpenSpec.ofChange wordsBytesWrong)

/-- 'pomanderlaw01.WordsAgain': WHATEVER THE INPUT: true; the input reads as it did. -/
def wordsAgainSpec : ChangeSpec := { name := "wordsAgain", fn := fun _ => fun
  | [d1, d2, d3] => { results := [.lit (.bool true)], args := [d1, d2, d3] }
  | _ => none }
def wordsAgainRow : OpenClaim := { program := "ythimnljilgameaa", sum := "b5d7ab8ecbac56811e9afe2cf2b453b6448c07a6201573bab3bbea7f4d01ad02", func := "pomander/pomanderlaw01.WordsAgain", spec := "wordsAgain", unfollowed := true, recurses := true, apart := false }
def WordsAgainSaid : Prop := wordsAgainRow.holds Try.pinned (OpenSpec.ofChange wordsAgainSpec)

/-- ITS FALSE NEIGHBOUR: 'it returns false'. Refute it at one input. -/
def wordsAgainWrong : ChangeSpec := { name := "wordsAgain", fn := fun _ => fun
  | [d1, d2, d3] => { results := [.lit (.bool false)], args := [d1, d2, d3] }
  | _ => none }
def WordsAgainWrongFalsely : Prop := wordsAgainRow.holds Try.pinned (OpenSpec.ofChange wordsAgainWrong)

/- THE SECOND FORM. 'bulk': how many values and letters a reading holds, each counted each time it is reached (what is shared counts as often as it is met; a slice's spare places count too). A statement '..UptoSaid' is the law's where the arguments, and the package variables that the reading takes, are together of bulk at most 1048576: NARROWER than '..Said'. Prove '..Said' where nothing that the law and all that it calls make is longer than what came in: it says more and counts as full. Else prove '..UptoSaid'. A law counts once. -/
mutual
def uptoBulk {H : Type} : DataW H → Nat
  | .lit (.string bytes) => bytes.length + 1
  | .lit _ => 1
  | .nil => 1
  | .ptr d => uptoBulk d + 1
  | .slice elems spare => uptoBulkAll elems + uptoBulkAll spare + 1
  | .agg parts => uptoBulkAll parts + 1
  | .iface _ d => uptoBulk d + 1
  | .map entries => uptoBulkEntries entries + 1
  | .held _ => 1
def uptoBulkAll {H : Type} : List (DataW H) → Nat
  | [] => 0
  | d :: r => uptoBulk d + uptoBulkAll r
def uptoBulkEntries {H : Type} : List (Lit × DataW H) → Nat
  | [] => 0
  | x :: r => uptoBulkEntry x + uptoBulkEntries r
def uptoBulkEntry {H : Type} : Lit × DataW H → Nat
  | (.string bytes, d) => bytes.length + uptoBulk d + 1
  | (_, d) => uptoBulk d + 1
 end
def uptoSmall : (H : Type) → List (DataW H) → Bool := fun _ ds => decide (uptoBulkAll ds ≤ 1048576)
def OpenSpec.upto (s : _root_.Go.ChangeSpec) : _root_.Go.OpenSpec := { _root_.Go.OpenSpec.ofChange s with cond := some uptoSmall }

/-- 'pomanderlaw01.WordsMoves', WHERE WHAT IT READS IS OF BULK AT MOST 1048576: true; the input reads as it did. -/
def wordsMovesUptoRow : OpenClaim := { program := "ythimnljilgameaa", sum := "b5d7ab8ecbac56811e9afe2cf2b453b6448c07a6201573bab3bbea7f4d01ad02", func := "pomander/pomanderlaw01.WordsMoves", spec := "wordsMoves", unfollowed := true, recurses := true, apart := false, narrowed := true }
def WordsMovesUptoSaid : Prop := wordsMovesUptoRow.holds Try.pinned (OpenSpec.upto wordsMovesSpec)

/-- 'pomanderlaw01.WordsFalls', WHERE WHAT IT READS IS OF BULK AT MOST 1048576: true; the input reads as it did. -/
def wordsFallsUptoRow : OpenClaim := { program := "ythimnljilgameaa", sum := "b5d7ab8ecbac56811e9afe2cf2b453b6448c07a6201573bab3bbea7f4d01ad02", func := "pomander/pomanderlaw01.WordsFalls", spec := "wordsFalls", unfollowed := true, recurses := true, apart := false, narrowed := true }
def WordsFallsUptoSaid : Prop := wordsFallsUptoRow.holds Try.pinned (OpenSpec.upto wordsFallsSpec)

/-- 'pomanderlaw01.WordsProducts', WHERE WHAT IT READS IS OF BULK AT MOST 1048576: true; the input reads as it did. -/
def wordsProductsUptoRow : OpenClaim := { program := "ythimnljilgameaa", sum := "b5d7ab8ecbac56811e9afe2cf2b453b6448c07a6201573bab3bbea7f4d01ad02", func := "pomander/pomanderlaw01.WordsProducts", spec := "wordsProducts", unfollowed := true, recurses := true, apart := false, narrowed := true }
def WordsProductsUptoSaid : Prop := wordsProductsUptoRow.holds Try.pinned (OpenSpec.upto wordsProductsSpec)

/-- 'pomanderlaw01.WordsSums', WHERE WHAT IT READS IS OF BULK AT MOST 1048576: true; the input reads as it did. -/
def wordsSumsUptoRow : OpenClaim := { program := "ythimnljilgameaa", sum := "b5d7ab8ecbac56811e9afe2cf2b453b6448c07a6201573bab3bbea7f4d01ad02", func := "pomander/pomanderlaw01.WordsSums", spec := "wordsSums", unfollowed := true, recurses := true, apart := false, narrowed := true }
def WordsSumsUptoSaid : Prop := wordsSumsUptoRow.holds Try.pinned (OpenSpec.upto wordsSumsSpec)

/-- 'pomanderlaw01.WordsOrders', WHERE WHAT IT READS IS OF BULK AT MOST 1048576: true; the input reads as it did. -/
def wordsOrdersUptoRow : OpenClaim := { program := "ythimnljilgameaa", sum := "b5d7ab8ecbac56811e9afe2cf2b453b6448c07a6201573bab3bbea7f4d01ad02", func := "pomander/pomanderlaw01.WordsOrders", spec := "wordsOrders", unfollowed := true, recurses := true, apart := false, narrowed := true }
def WordsOrdersUptoSaid : Prop := wordsOrdersUptoRow.holds Try.pinned (OpenSpec.upto wordsOrdersSpec)

/-- 'pomanderlaw01.WordsBytes', WHERE WHAT IT READS IS OF BULK AT MOST 1048576: true; the input reads as it did. -/
def wordsBytesUptoRow : OpenClaim := { program := "ythimnljilgameaa", sum := "b5d7ab8ecbac56811e9afe2cf2b453b6448c07a6201573bab3bbea7f4d01ad02", func := "pomander/pomanderlaw01.WordsBytes", spec := "wordsBytes", unfollowed := true, recurses := true, apart := false, narrowed := true }
def WordsBytesUptoSaid : Prop := wordsBytesUptoRow.holds Try.pinned (OpenSpec.upto wordsBytesSpec)

/-- 'pomanderlaw01.WordsAgain', WHERE WHAT IT READS IS OF BULK AT MOST 1048576: true; the input reads as it did. -/
def wordsAgainUptoRow : OpenClaim := { program := "ythimnljilgameaa", sum := "b5d7ab8ecbac56811e9afe2cf2b453b6448c07a6201573bab3bbea7f4d01ad02", func := "pomander/pomanderlaw01.WordsAgain", spec := "wordsAgain", unfollowed := true, recurses := true, apart := false, narrowed := true }
def WordsAgainUptoSaid : Prop := wordsAgainUptoRow.holds Try.pinned (OpenSpec.upto wordsAgainSpec)

end Rows
end Go.Proofs.Ythimnljilgameaa
