/-
  DERIVED. GIVEN WITH THE SEED: THE CARDS: each row of YtbleilbphadehaaDoorRows.lean that lists a variable, with what it lists TIED to the program's text (the seventh form; the later family's looks); each row that meets fmt, with fmt's text TOLD by the authors' own Lean function (tested against real Go, not proved from fmt's source: count such statements apart). THE CARD IS WHAT COUNTS. Prove the row's statement (the work); the ties are given (YtbleilbphadehaaDoorTie.lean); close each card by the builder's one call (the guide's Derived/Test/ToyasCard.lean, 'card_holds'). Laid BY PROGRAM, IN A SANDBOX (cutbox-door.mjs). By AI agents, Wed Nov 11 2026. No macro, syntax, notation, axiom, sorry.
-/
import Derived.Test.YtbleilbphadehaaDoorRows
import GoSem.ClaimSeven
namespace Go.Proofs.YtbleilbphadehaaDoor
namespace Rows

/-- THE TIED CARD OF 'pomanderlaw02.LabelsBound'. -/
def labelsBoundCard : Claim7 := { stood := { row := labelsBoundRow, standIns := [], harness := (true, "05b9db9f55078dfe4fe7e0d30ec8a427c9738ed95ad65c3981bc59f7d8b44312"), looks := true }, kinds := [], alts := [], laidByText := true, laidKinds := [.data, .data, .data], laidTests := true, laidLooks := .later }
def LabelsBoundCardSaid : Prop := Claim7.holds Tryd.pinned (.plain (OpenSpec.ofChange labelsBoundSpec)) labelsBoundCard

/-- THE TIED CARD OF 'pomanderlaw02.LabelsTexts'. -/
def labelsTextsCard : Claim7 := { stood := { row := labelsTextsRow, standIns := [], harness := (true, "05b9db9f55078dfe4fe7e0d30ec8a427c9738ed95ad65c3981bc59f7d8b44312"), looks := true }, kinds := [], alts := [], laidByText := true, laidKinds := [.data, .data, .data], laidTests := true, laidLooks := .later }
def LabelsTextsCardSaid : Prop := Claim7.holds Tryd.pinned (.plain (OpenSpec.ofChange labelsTextsSpec)) labelsTextsCard

/-- THE TIED CARD OF 'pomanderlaw02.LabelsJoins'. -/
def labelsJoinsCard : Claim7 := { stood := { row := labelsJoinsRow, standIns := [], harness := (true, "05b9db9f55078dfe4fe7e0d30ec8a427c9738ed95ad65c3981bc59f7d8b44312"), looks := true }, kinds := [], alts := [], laidByText := true, laidKinds := [.data, .data, .data], laidTests := true, laidLooks := .later }
def LabelsJoinsCardSaid : Prop := Claim7.holds Tryd.pinned (.plain (OpenSpec.ofChange labelsJoinsSpec)) labelsJoinsCard

/-- THE TIED CARD OF 'pomanderlaw02.LabelsPlay'. -/
def labelsPlayCard : Claim7 := { stood := { row := labelsPlayRow, standIns := [], harness := (true, "05b9db9f55078dfe4fe7e0d30ec8a427c9738ed95ad65c3981bc59f7d8b44312"), looks := true }, kinds := [], alts := [], laidByText := true, laidKinds := [.data, .data, .data], laidTests := true, laidLooks := .later }
def LabelsPlayCardSaid : Prop := Claim7.holds Tryd.pinned (.plain (OpenSpec.ofChange labelsPlaySpec)) labelsPlayCard

/-- THE TIED CARD OF 'pomanderlaw02.LabelsCopies'. -/
def labelsCopiesCard : Claim7 := { stood := { row := labelsCopiesRow, standIns := [], harness := (true, "05b9db9f55078dfe4fe7e0d30ec8a427c9738ed95ad65c3981bc59f7d8b44312"), looks := true }, kinds := [], alts := [], laidByText := true, laidKinds := [.data, .data, .data], laidTests := true, laidLooks := .later }
def LabelsCopiesCardSaid : Prop := Claim7.holds Tryd.pinned (.plain (OpenSpec.ofChange labelsCopiesSpec)) labelsCopiesCard

/-- THE TIED CARD OF 'pomanderlaw02.LabelsNil'. -/
def labelsNilCard : Claim7 := { stood := { row := labelsNilRow, standIns := [], harness := (true, "05b9db9f55078dfe4fe7e0d30ec8a427c9738ed95ad65c3981bc59f7d8b44312"), looks := true }, kinds := [], alts := [], laidByText := true, laidKinds := [.data, .data, .data], laidTests := true, laidLooks := .later }
def LabelsNilCardSaid : Prop := Claim7.holds Tryd.pinned (.plain (OpenSpec.ofChange labelsNilSpec)) labelsNilCard

/-- THE SECOND FORM's CARD OF 'pomanderlaw02.LabelsBound'. -/
def labelsBoundUptoCard : Claim7 := { stood := { row := labelsBoundUptoRow, standIns := [], harness := (true, "05b9db9f55078dfe4fe7e0d30ec8a427c9738ed95ad65c3981bc59f7d8b44312"), looks := true }, kinds := [], alts := [], laidByText := true, laidKinds := [.data, .data, .data], laidTests := true, laidLooks := .later }
def LabelsBoundUptoCardSaid : Prop := Claim7.holds Tryd.pinned (.plain (OpenSpec.upto labelsBoundSpec)) labelsBoundUptoCard

/-- THE SECOND FORM's CARD OF 'pomanderlaw02.LabelsTexts'. -/
def labelsTextsUptoCard : Claim7 := { stood := { row := labelsTextsUptoRow, standIns := [], harness := (true, "05b9db9f55078dfe4fe7e0d30ec8a427c9738ed95ad65c3981bc59f7d8b44312"), looks := true }, kinds := [], alts := [], laidByText := true, laidKinds := [.data, .data, .data], laidTests := true, laidLooks := .later }
def LabelsTextsUptoCardSaid : Prop := Claim7.holds Tryd.pinned (.plain (OpenSpec.upto labelsTextsSpec)) labelsTextsUptoCard

/-- THE SECOND FORM's CARD OF 'pomanderlaw02.LabelsJoins'. -/
def labelsJoinsUptoCard : Claim7 := { stood := { row := labelsJoinsUptoRow, standIns := [], harness := (true, "05b9db9f55078dfe4fe7e0d30ec8a427c9738ed95ad65c3981bc59f7d8b44312"), looks := true }, kinds := [], alts := [], laidByText := true, laidKinds := [.data, .data, .data], laidTests := true, laidLooks := .later }
def LabelsJoinsUptoCardSaid : Prop := Claim7.holds Tryd.pinned (.plain (OpenSpec.upto labelsJoinsSpec)) labelsJoinsUptoCard

/-- THE SECOND FORM's CARD OF 'pomanderlaw02.LabelsPlay'. -/
def labelsPlayUptoCard : Claim7 := { stood := { row := labelsPlayUptoRow, standIns := [], harness := (true, "05b9db9f55078dfe4fe7e0d30ec8a427c9738ed95ad65c3981bc59f7d8b44312"), looks := true }, kinds := [], alts := [], laidByText := true, laidKinds := [.data, .data, .data], laidTests := true, laidLooks := .later }
def LabelsPlayUptoCardSaid : Prop := Claim7.holds Tryd.pinned (.plain (OpenSpec.upto labelsPlaySpec)) labelsPlayUptoCard

/-- THE SECOND FORM's CARD OF 'pomanderlaw02.LabelsCopies'. -/
def labelsCopiesUptoCard : Claim7 := { stood := { row := labelsCopiesUptoRow, standIns := [], harness := (true, "05b9db9f55078dfe4fe7e0d30ec8a427c9738ed95ad65c3981bc59f7d8b44312"), looks := true }, kinds := [], alts := [], laidByText := true, laidKinds := [.data, .data, .data], laidTests := true, laidLooks := .later }
def LabelsCopiesUptoCardSaid : Prop := Claim7.holds Tryd.pinned (.plain (OpenSpec.upto labelsCopiesSpec)) labelsCopiesUptoCard

/-- THE SECOND FORM's CARD OF 'pomanderlaw02.LabelsNil'. -/
def labelsNilUptoCard : Claim7 := { stood := { row := labelsNilUptoRow, standIns := [], harness := (true, "05b9db9f55078dfe4fe7e0d30ec8a427c9738ed95ad65c3981bc59f7d8b44312"), looks := true }, kinds := [], alts := [], laidByText := true, laidKinds := [.data, .data, .data], laidTests := true, laidLooks := .later }
def LabelsNilUptoCardSaid : Prop := Claim7.holds Tryd.pinned (.plain (OpenSpec.upto labelsNilSpec)) labelsNilUptoCard
end Rows
end Go.Proofs.YtbleilbphadehaaDoor
