/-
  DERIVED. GIVEN WITH THE SEED: THE CARDS: each row of YtfdmmgkhlgefbaaDoorRows.lean that lists a variable, with what it lists TIED to the program's text (the seventh form; the later family's looks); each row that meets fmt, with fmt's text TOLD by the authors' own Lean function (tested against real Go, not proved from fmt's source: count such statements apart). THE CARD IS WHAT COUNTS. Prove the row's statement (the work); the ties are given (YtfdmmgkhlgefbaaDoorTie.lean); close each card by the builder's one call (the guide's Derived/Test/ToyasCard.lean, 'card_holds'). Laid BY PROGRAM, IN A SANDBOX (cutbox-door.mjs). By AI agents, Wed Nov 11 2026. No macro, syntax, notation, axiom, sorry.
-/
import Derived.Test.YtfdmmgkhlgefbaaDoorRows
import GoSem.ClaimSeven
namespace Go.Proofs.YtfdmmgkhlgefbaaDoor
namespace Rows

/-- THE TIED CARD OF 'pomanderlaw04.IsaDecode'. -/
def isaDecodeCard : Claim7 := { stood := { row := isaDecodeRow, standIns := [], harness := (true, "34e228eb76d0548d176202ee6bbab36bfc9f9fa6cb1ee66d5e1c9cc6cb45e4aa"), looks := false }, kinds := [], alts := [], laidByText := true, laidKinds := [.data, .data, .data], laidTests := true, laidLooks := .later }
def IsaDecodeCardSaid : Prop := Claim7.holds Tryd.pinned (.plain (OpenSpec.ofChange isaDecodeSpec)) isaDecodeCard

/-- THE TIED CARD OF 'pomanderlaw04.IsaEncode'. -/
def isaEncodeCard : Claim7 := { stood := { row := isaEncodeRow, standIns := [], harness := (true, "34e228eb76d0548d176202ee6bbab36bfc9f9fa6cb1ee66d5e1c9cc6cb45e4aa"), looks := false }, kinds := [], alts := [], laidByText := true, laidKinds := [.data, .data, .data], laidTests := true, laidLooks := .later }
def IsaEncodeCardSaid : Prop := Claim7.holds Tryd.pinned (.plain (OpenSpec.ofChange isaEncodeSpec)) isaEncodeCard

/-- THE TIED CARD OF 'pomanderlaw04.IsaUnlike'. -/
def isaUnlikeCard : Claim7 := { stood := { row := isaUnlikeRow, standIns := [], harness := (true, "34e228eb76d0548d176202ee6bbab36bfc9f9fa6cb1ee66d5e1c9cc6cb45e4aa"), looks := false }, kinds := [], alts := [], laidByText := true, laidKinds := [.data, .data, .data], laidTests := true, laidLooks := .later }
def IsaUnlikeCardSaid : Prop := Claim7.holds Tryd.pinned (.plain (OpenSpec.ofChange isaUnlikeSpec)) isaUnlikeCard

/-- THE TIED CARD OF 'pomanderlaw04.IsaNear'. -/
def isaNearCard : Claim7 := { stood := { row := isaNearRow, standIns := [], harness := (true, "34e228eb76d0548d176202ee6bbab36bfc9f9fa6cb1ee66d5e1c9cc6cb45e4aa"), looks := false }, kinds := [], alts := [], laidByText := true, laidKinds := [.data, .data, .data], laidTests := true, laidLooks := .later }
def IsaNearCardSaid : Prop := Claim7.holds Tryd.pinned (.plain (OpenSpec.ofChange isaNearSpec)) isaNearCard

/-- THE TIED CARD OF 'pomanderlaw04.IsaBits'. -/
def isaBitsCard : Claim7 := { stood := { row := isaBitsRow, standIns := [], harness := (true, "34e228eb76d0548d176202ee6bbab36bfc9f9fa6cb1ee66d5e1c9cc6cb45e4aa"), looks := false }, kinds := [], alts := [], laidByText := true, laidKinds := [.data, .data, .data], laidTests := true, laidLooks := .later }
def IsaBitsCardSaid : Prop := Claim7.holds Tryd.pinned (.plain (OpenSpec.ofChange isaBitsSpec)) isaBitsCard

/-- THE TIED CARD OF 'pomanderlaw04.IsaNames'. -/
def isaNamesCard : Claim7 := { stood := { row := isaNamesRow, standIns := [], harness := (true, "34e228eb76d0548d176202ee6bbab36bfc9f9fa6cb1ee66d5e1c9cc6cb45e4aa"), looks := false }, kinds := [], alts := [], laidByText := true, laidKinds := [.data, .data, .data], laidTests := true, laidLooks := .later }
def IsaNamesCardSaid : Prop := Claim7.holds Tryd.pinned (.plain (OpenSpec.ofChange isaNamesSpec)) isaNamesCard

/-- THE SECOND FORM's CARD OF 'pomanderlaw04.IsaDecode'. -/
def isaDecodeUptoCard : Claim7 := { stood := { row := isaDecodeUptoRow, standIns := [], harness := (true, "34e228eb76d0548d176202ee6bbab36bfc9f9fa6cb1ee66d5e1c9cc6cb45e4aa"), looks := false }, kinds := [], alts := [], laidByText := true, laidKinds := [.data, .data, .data], laidTests := true, laidLooks := .later }
def IsaDecodeUptoCardSaid : Prop := Claim7.holds Tryd.pinned (.plain (OpenSpec.upto isaDecodeSpec)) isaDecodeUptoCard

/-- THE SECOND FORM's CARD OF 'pomanderlaw04.IsaEncode'. -/
def isaEncodeUptoCard : Claim7 := { stood := { row := isaEncodeUptoRow, standIns := [], harness := (true, "34e228eb76d0548d176202ee6bbab36bfc9f9fa6cb1ee66d5e1c9cc6cb45e4aa"), looks := false }, kinds := [], alts := [], laidByText := true, laidKinds := [.data, .data, .data], laidTests := true, laidLooks := .later }
def IsaEncodeUptoCardSaid : Prop := Claim7.holds Tryd.pinned (.plain (OpenSpec.upto isaEncodeSpec)) isaEncodeUptoCard

/-- THE SECOND FORM's CARD OF 'pomanderlaw04.IsaUnlike'. -/
def isaUnlikeUptoCard : Claim7 := { stood := { row := isaUnlikeUptoRow, standIns := [], harness := (true, "34e228eb76d0548d176202ee6bbab36bfc9f9fa6cb1ee66d5e1c9cc6cb45e4aa"), looks := false }, kinds := [], alts := [], laidByText := true, laidKinds := [.data, .data, .data], laidTests := true, laidLooks := .later }
def IsaUnlikeUptoCardSaid : Prop := Claim7.holds Tryd.pinned (.plain (OpenSpec.upto isaUnlikeSpec)) isaUnlikeUptoCard

/-- THE SECOND FORM's CARD OF 'pomanderlaw04.IsaNear'. -/
def isaNearUptoCard : Claim7 := { stood := { row := isaNearUptoRow, standIns := [], harness := (true, "34e228eb76d0548d176202ee6bbab36bfc9f9fa6cb1ee66d5e1c9cc6cb45e4aa"), looks := false }, kinds := [], alts := [], laidByText := true, laidKinds := [.data, .data, .data], laidTests := true, laidLooks := .later }
def IsaNearUptoCardSaid : Prop := Claim7.holds Tryd.pinned (.plain (OpenSpec.upto isaNearSpec)) isaNearUptoCard

/-- THE SECOND FORM's CARD OF 'pomanderlaw04.IsaBits'. -/
def isaBitsUptoCard : Claim7 := { stood := { row := isaBitsUptoRow, standIns := [], harness := (true, "34e228eb76d0548d176202ee6bbab36bfc9f9fa6cb1ee66d5e1c9cc6cb45e4aa"), looks := false }, kinds := [], alts := [], laidByText := true, laidKinds := [.data, .data, .data], laidTests := true, laidLooks := .later }
def IsaBitsUptoCardSaid : Prop := Claim7.holds Tryd.pinned (.plain (OpenSpec.upto isaBitsSpec)) isaBitsUptoCard

/-- THE SECOND FORM's CARD OF 'pomanderlaw04.IsaNames'. -/
def isaNamesUptoCard : Claim7 := { stood := { row := isaNamesUptoRow, standIns := [], harness := (true, "34e228eb76d0548d176202ee6bbab36bfc9f9fa6cb1ee66d5e1c9cc6cb45e4aa"), looks := false }, kinds := [], alts := [], laidByText := true, laidKinds := [.data, .data, .data], laidTests := true, laidLooks := .later }
def IsaNamesUptoCardSaid : Prop := Claim7.holds Tryd.pinned (.plain (OpenSpec.upto isaNamesSpec)) isaNamesUptoCard
end Rows
end Go.Proofs.YtfdmmgkhlgefbaaDoor
