/-
  DERIVED. GIVEN WITH THE SEED: THE CARDS: each row of YtbfmlmnhdogojaaGreatDoorRows.lean that lists a variable, with what it lists TIED to the program's text (the seventh form; the later family's looks); each row that meets fmt, with fmt's text TOLD by the authors' own Lean function (tested against real Go, not proved from fmt's source: count such statements apart). THE CARD IS WHAT COUNTS. Prove the row's statement (the work); the ties are given (YtbfmlmnhdogojaaGreatDoorTie.lean); close each card by the builder's one call (the guide's Derived/Test/ToyasCard.lean, 'card_holds'). Laid BY PROGRAM, IN A SANDBOX (cutbox-door.mjs). By AI agents, Wed Nov 11 2026. No macro, syntax, notation, axiom, sorry.
-/
import Derived.Test.YtbfmlmnhdogojaaGreatDoorRows
import GoSem.ClaimSeven
namespace Go.Proofs.YtbfmlmnhdogojaaGreatDoor
namespace Rows

/-- THE TIED CARD OF 'pomanderlaw18.AsmNames'. -/
def asmNamesCard : Claim7 := { stood := { row := asmNamesRow, standIns := [], harness := (true, "0f5828926724d4176fde0a832e3a174fefc6a86a804fe10e57bc5d328ec758e2"), looks := true }, kinds := [], alts := [], laidByText := true, laidKinds := [.data, .data, .data, .data, .sentinel, .sentinel, .pinned], laidTests := true, laidLooks := .later }
def AsmNamesCardSaid : Prop := Claim7.holds Tryz.pinned (.plain (OpenSpec.ofChange asmNamesSpec)) asmNamesCard

/-- THE TIED CARD OF 'pomanderlaw18.AsmLists'. -/
def asmListsCard : Claim7 := { stood := { row := asmListsRow, standIns := [], harness := (true, "0f5828926724d4176fde0a832e3a174fefc6a86a804fe10e57bc5d328ec758e2"), looks := true }, kinds := [], alts := [], laidByText := true, laidKinds := [.data, .data, .data, .data, .sentinel, .sentinel, .pinned], laidTests := true, laidLooks := .later }
def AsmListsCardSaid : Prop := Claim7.holds Tryz.pinned (.plain (OpenSpec.ofChange asmListsSpec)) asmListsCard

/-- THE TIED CARD OF 'pomanderlaw18.AsmBounds'. -/
def asmBoundsCard : Claim7 := { stood := { row := asmBoundsRow, standIns := [], harness := (true, "0f5828926724d4176fde0a832e3a174fefc6a86a804fe10e57bc5d328ec758e2"), looks := true }, kinds := [], alts := [], laidByText := true, laidKinds := [.data, .data, .data, .data, .sentinel, .sentinel, .pinned], laidTests := true, laidLooks := .later }
def AsmBoundsCardSaid : Prop := Claim7.holds Tryz.pinned (.plain (OpenSpec.ofChange asmBoundsSpec)) asmBoundsCard

/-- THE TIED CARD OF 'pomanderlaw18.AsmTwo'. -/
def asmTwoCard : Claim7 := { stood := { row := asmTwoRow, standIns := [], harness := (true, "0f5828926724d4176fde0a832e3a174fefc6a86a804fe10e57bc5d328ec758e2"), looks := true }, kinds := [], alts := [], laidByText := true, laidKinds := [.data, .data, .data, .data, .sentinel, .sentinel, .pinned], laidTests := true, laidLooks := .later }
def AsmTwoCardSaid : Prop := Claim7.holds Tryz.pinned (.plain (OpenSpec.ofChange asmTwoSpec)) asmTwoCard

/-- THE TIED CARD OF 'pomanderlaw18.AsmFar'. -/
def asmFarCard : Claim7 := { stood := { row := asmFarRow, standIns := [], harness := (true, "0f5828926724d4176fde0a832e3a174fefc6a86a804fe10e57bc5d328ec758e2"), looks := true }, kinds := [], alts := [], laidByText := true, laidKinds := [.data, .data, .data, .data, .sentinel, .sentinel, .pinned], laidTests := true, laidLooks := .later }
def AsmFarCardSaid : Prop := Claim7.holds Tryz.pinned (.plain (OpenSpec.ofChange asmFarSpec)) asmFarCard

/-- THE TIED CARD OF 'pomanderlaw18.AsmBack'. -/
def asmBackCard : Claim7 := { stood := { row := asmBackRow, standIns := [], harness := (true, "0f5828926724d4176fde0a832e3a174fefc6a86a804fe10e57bc5d328ec758e2"), looks := true }, kinds := [], alts := [], laidByText := true, laidKinds := [.data, .data, .data, .data, .sentinel, .sentinel, .pinned], laidTests := true, laidLooks := .later }
def AsmBackCardSaid : Prop := Claim7.holds Tryz.pinned (.plain (OpenSpec.ofChange asmBackSpec)) asmBackCard

/-- THE TIED CARD OF 'pomanderlaw18.AsmSame'. -/
def asmSameCard : Claim7 := { stood := { row := asmSameRow, standIns := [], harness := (true, "0f5828926724d4176fde0a832e3a174fefc6a86a804fe10e57bc5d328ec758e2"), looks := true }, kinds := [], alts := [], laidByText := true, laidKinds := [.data, .data, .data, .data, .sentinel, .sentinel, .pinned], laidTests := true, laidLooks := .later }
def AsmSameCardSaid : Prop := Claim7.holds Tryz.pinned (.plain (OpenSpec.ofChange asmSameSpec)) asmSameCard

/-- THE SECOND FORM's CARD OF 'pomanderlaw18.AsmNames'. -/
def asmNamesUptoCard : Claim7 := { stood := { row := asmNamesUptoRow, standIns := [], harness := (true, "0f5828926724d4176fde0a832e3a174fefc6a86a804fe10e57bc5d328ec758e2"), looks := true }, kinds := [], alts := [], laidByText := true, laidKinds := [.data, .data, .data, .data, .sentinel, .sentinel, .pinned], laidTests := true, laidLooks := .later }
def AsmNamesUptoCardSaid : Prop := Claim7.holds Tryz.pinned (.plain (OpenSpec.upto asmNamesSpec)) asmNamesUptoCard

/-- THE SECOND FORM's CARD OF 'pomanderlaw18.AsmLists'. -/
def asmListsUptoCard : Claim7 := { stood := { row := asmListsUptoRow, standIns := [], harness := (true, "0f5828926724d4176fde0a832e3a174fefc6a86a804fe10e57bc5d328ec758e2"), looks := true }, kinds := [], alts := [], laidByText := true, laidKinds := [.data, .data, .data, .data, .sentinel, .sentinel, .pinned], laidTests := true, laidLooks := .later }
def AsmListsUptoCardSaid : Prop := Claim7.holds Tryz.pinned (.plain (OpenSpec.upto asmListsSpec)) asmListsUptoCard

/-- THE SECOND FORM's CARD OF 'pomanderlaw18.AsmBounds'. -/
def asmBoundsUptoCard : Claim7 := { stood := { row := asmBoundsUptoRow, standIns := [], harness := (true, "0f5828926724d4176fde0a832e3a174fefc6a86a804fe10e57bc5d328ec758e2"), looks := true }, kinds := [], alts := [], laidByText := true, laidKinds := [.data, .data, .data, .data, .sentinel, .sentinel, .pinned], laidTests := true, laidLooks := .later }
def AsmBoundsUptoCardSaid : Prop := Claim7.holds Tryz.pinned (.plain (OpenSpec.upto asmBoundsSpec)) asmBoundsUptoCard

/-- THE SECOND FORM's CARD OF 'pomanderlaw18.AsmTwo'. -/
def asmTwoUptoCard : Claim7 := { stood := { row := asmTwoUptoRow, standIns := [], harness := (true, "0f5828926724d4176fde0a832e3a174fefc6a86a804fe10e57bc5d328ec758e2"), looks := true }, kinds := [], alts := [], laidByText := true, laidKinds := [.data, .data, .data, .data, .sentinel, .sentinel, .pinned], laidTests := true, laidLooks := .later }
def AsmTwoUptoCardSaid : Prop := Claim7.holds Tryz.pinned (.plain (OpenSpec.upto asmTwoSpec)) asmTwoUptoCard

/-- THE SECOND FORM's CARD OF 'pomanderlaw18.AsmFar'. -/
def asmFarUptoCard : Claim7 := { stood := { row := asmFarUptoRow, standIns := [], harness := (true, "0f5828926724d4176fde0a832e3a174fefc6a86a804fe10e57bc5d328ec758e2"), looks := true }, kinds := [], alts := [], laidByText := true, laidKinds := [.data, .data, .data, .data, .sentinel, .sentinel, .pinned], laidTests := true, laidLooks := .later }
def AsmFarUptoCardSaid : Prop := Claim7.holds Tryz.pinned (.plain (OpenSpec.upto asmFarSpec)) asmFarUptoCard

/-- THE SECOND FORM's CARD OF 'pomanderlaw18.AsmBack'. -/
def asmBackUptoCard : Claim7 := { stood := { row := asmBackUptoRow, standIns := [], harness := (true, "0f5828926724d4176fde0a832e3a174fefc6a86a804fe10e57bc5d328ec758e2"), looks := true }, kinds := [], alts := [], laidByText := true, laidKinds := [.data, .data, .data, .data, .sentinel, .sentinel, .pinned], laidTests := true, laidLooks := .later }
def AsmBackUptoCardSaid : Prop := Claim7.holds Tryz.pinned (.plain (OpenSpec.upto asmBackSpec)) asmBackUptoCard

/-- THE SECOND FORM's CARD OF 'pomanderlaw18.AsmSame'. -/
def asmSameUptoCard : Claim7 := { stood := { row := asmSameUptoRow, standIns := [], harness := (true, "0f5828926724d4176fde0a832e3a174fefc6a86a804fe10e57bc5d328ec758e2"), looks := true }, kinds := [], alts := [], laidByText := true, laidKinds := [.data, .data, .data, .data, .sentinel, .sentinel, .pinned], laidTests := true, laidLooks := .later }
def AsmSameUptoCardSaid : Prop := Claim7.holds Tryz.pinned (.plain (OpenSpec.upto asmSameSpec)) asmSameUptoCard
end Rows
end Go.Proofs.YtbfmlmnhdogojaaGreatDoor
