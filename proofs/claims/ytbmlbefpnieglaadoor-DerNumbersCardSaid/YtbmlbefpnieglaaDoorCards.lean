/-
  DERIVED. GIVEN WITH THE SEED: THE CARDS: each row of YtbmlbefpnieglaaDoorRows.lean that lists a variable, with what it lists TIED to the program's text (the seventh form; the later family's looks); each row that meets fmt, with fmt's text TOLD by the authors' own Lean function (tested against real Go, not proved from fmt's source: count such statements apart). THE CARD IS WHAT COUNTS. Prove the row's statement (the work); the ties are given (YtbmlbefpnieglaaDoorTie.lean); close each card by the builder's one call (the guide's Derived/Test/ToyasCard.lean, 'card_holds'). Laid BY PROGRAM, IN A SANDBOX (cutbox-door.mjs). By AI agents, Wed Nov 11 2026. No macro, syntax, notation, axiom, sorry.
-/
import Derived.Test.YtbmlbefpnieglaaDoorRows
import GoSem.ClaimSeven
namespace Go.Proofs.YtbmlbefpnieglaaDoor
namespace Rows

/-- THE TIED CARD OF 'postmarklaw03.DerBack'. -/
def derBackCard : Claim7 := { stood := { row := derBackRow, standIns := [], harness := (true, "6d02ae6eb806fdb31d414d3d5223968ae3a957523f9fd58214280be58123c6dc"), looks := true }, kinds := [], alts := [], laidByText := true, laidKinds := [.data, .pinned], laidTests := true, laidLooks := .later }
def DerBackCardSaid : Prop := Claim7.holds Tryd.pinned (.plain (OpenSpec.ofChange derBackSpec)) derBackCard

/-- THE TIED CARD OF 'postmarklaw03.DerCut'. -/
def derCutCard : Claim7 := { stood := { row := derCutRow, standIns := [], harness := (true, "6d02ae6eb806fdb31d414d3d5223968ae3a957523f9fd58214280be58123c6dc"), looks := true }, kinds := [], alts := [], laidByText := true, laidKinds := [.data, .pinned], laidTests := true, laidLooks := .later }
def DerCutCardSaid : Prop := Claim7.holds Tryd.pinned (.plain (OpenSpec.ofChange derCutSpec)) derCutCard

/-- THE TIED CARD OF 'postmarklaw03.DerDeep'. -/
def derDeepCard : Claim7 := { stood := { row := derDeepRow, standIns := [], harness := (true, "6d02ae6eb806fdb31d414d3d5223968ae3a957523f9fd58214280be58123c6dc"), looks := true }, kinds := [], alts := [], laidByText := true, laidKinds := [.data, .pinned], laidTests := true, laidLooks := .later }
def DerDeepCardSaid : Prop := Claim7.holds Tryd.pinned (.plain (OpenSpec.ofChange derDeepSpec)) derDeepCard

/-- THE TIED CARD OF 'postmarklaw03.DerLengths'. -/
def derLengthsCard : Claim7 := { stood := { row := derLengthsRow, standIns := [], harness := (true, "6d02ae6eb806fdb31d414d3d5223968ae3a957523f9fd58214280be58123c6dc"), looks := true }, kinds := [], alts := [], laidByText := true, laidKinds := [.data, .pinned], laidTests := true, laidLooks := .later }
def DerLengthsCardSaid : Prop := Claim7.holds Tryd.pinned (.plain (OpenSpec.ofChange derLengthsSpec)) derLengthsCard

/-- THE TIED CARD OF 'postmarklaw03.DerWrites'. -/
def derWritesCard : Claim7 := { stood := { row := derWritesRow, standIns := [], harness := (true, "6d02ae6eb806fdb31d414d3d5223968ae3a957523f9fd58214280be58123c6dc"), looks := true }, kinds := [], alts := [], laidByText := true, laidKinds := [.data, .pinned], laidTests := true, laidLooks := .later }
def DerWritesCardSaid : Prop := Claim7.holds Tryd.pinned (.plain (OpenSpec.ofChange derWritesSpec)) derWritesCard

/-- THE TIED CARD OF 'postmarklaw03.DerMakes'. -/
def derMakesCard : Claim7 := { stood := { row := derMakesRow, standIns := [], harness := (true, "6d02ae6eb806fdb31d414d3d5223968ae3a957523f9fd58214280be58123c6dc"), looks := true }, kinds := [], alts := [], laidByText := true, laidKinds := [.data, .pinned], laidTests := true, laidLooks := .later }
def DerMakesCardSaid : Prop := Claim7.holds Tryd.pinned (.plain (OpenSpec.ofChange derMakesSpec)) derMakesCard

/-- THE TIED CARD OF 'postmarklaw03.DerAsked'. -/
def derAskedCard : Claim7 := { stood := { row := derAskedRow, standIns := [], harness := (true, "6d02ae6eb806fdb31d414d3d5223968ae3a957523f9fd58214280be58123c6dc"), looks := true }, kinds := [], alts := [], laidByText := true, laidKinds := [.data, .pinned], laidTests := true, laidLooks := .later }
def DerAskedCardSaid : Prop := Claim7.holds Tryd.pinned (.plain (OpenSpec.ofChange derAskedSpec)) derAskedCard

/-- THE TIED CARD OF 'postmarklaw03.DerNumbers'. -/
def derNumbersCard : Claim7 := { stood := { row := derNumbersRow, standIns := [], harness := (true, "6d02ae6eb806fdb31d414d3d5223968ae3a957523f9fd58214280be58123c6dc"), looks := true }, kinds := [], alts := [], laidByText := true, laidKinds := [.data, .pinned], laidTests := true, laidLooks := .later }
def DerNumbersCardSaid : Prop := Claim7.holds Tryd.pinned (.plain (OpenSpec.ofChange derNumbersSpec)) derNumbersCard

/-- THE TIED CARD OF 'postmarklaw03.DerNumbersBack'. -/
def derNumbersBackCard : Claim7 := { stood := { row := derNumbersBackRow, standIns := [], harness := (true, "6d02ae6eb806fdb31d414d3d5223968ae3a957523f9fd58214280be58123c6dc"), looks := true }, kinds := [], alts := [], laidByText := true, laidKinds := [.data, .pinned], laidTests := true, laidLooks := .later }
def DerNumbersBackCardSaid : Prop := Claim7.holds Tryd.pinned (.plain (OpenSpec.ofChange derNumbersBackSpec)) derNumbersBackCard

/-- THE TIED CARD OF 'postmarklaw03.DerSets'. -/
def derSetsCard : Claim7 := { stood := { row := derSetsRow, standIns := [], harness := (true, "6d02ae6eb806fdb31d414d3d5223968ae3a957523f9fd58214280be58123c6dc"), looks := true }, kinds := [], alts := [], laidByText := true, laidKinds := [.data, .pinned], laidTests := true, laidLooks := .later }
def DerSetsCardSaid : Prop := Claim7.holds Tryd.pinned (.plain (OpenSpec.ofChange derSetsSpec)) derSetsCard

/-- THE SECOND FORM's CARD OF 'postmarklaw03.DerBack'. -/
def derBackUptoCard : Claim7 := { stood := { row := derBackUptoRow, standIns := [], harness := (true, "6d02ae6eb806fdb31d414d3d5223968ae3a957523f9fd58214280be58123c6dc"), looks := true }, kinds := [], alts := [], laidByText := true, laidKinds := [.data, .pinned], laidTests := true, laidLooks := .later }
def DerBackUptoCardSaid : Prop := Claim7.holds Tryd.pinned (.plain (OpenSpec.upto derBackSpec)) derBackUptoCard

/-- THE SECOND FORM's CARD OF 'postmarklaw03.DerCut'. -/
def derCutUptoCard : Claim7 := { stood := { row := derCutUptoRow, standIns := [], harness := (true, "6d02ae6eb806fdb31d414d3d5223968ae3a957523f9fd58214280be58123c6dc"), looks := true }, kinds := [], alts := [], laidByText := true, laidKinds := [.data, .pinned], laidTests := true, laidLooks := .later }
def DerCutUptoCardSaid : Prop := Claim7.holds Tryd.pinned (.plain (OpenSpec.upto derCutSpec)) derCutUptoCard

/-- THE SECOND FORM's CARD OF 'postmarklaw03.DerDeep'. -/
def derDeepUptoCard : Claim7 := { stood := { row := derDeepUptoRow, standIns := [], harness := (true, "6d02ae6eb806fdb31d414d3d5223968ae3a957523f9fd58214280be58123c6dc"), looks := true }, kinds := [], alts := [], laidByText := true, laidKinds := [.data, .pinned], laidTests := true, laidLooks := .later }
def DerDeepUptoCardSaid : Prop := Claim7.holds Tryd.pinned (.plain (OpenSpec.upto derDeepSpec)) derDeepUptoCard

/-- THE SECOND FORM's CARD OF 'postmarklaw03.DerLengths'. -/
def derLengthsUptoCard : Claim7 := { stood := { row := derLengthsUptoRow, standIns := [], harness := (true, "6d02ae6eb806fdb31d414d3d5223968ae3a957523f9fd58214280be58123c6dc"), looks := true }, kinds := [], alts := [], laidByText := true, laidKinds := [.data, .pinned], laidTests := true, laidLooks := .later }
def DerLengthsUptoCardSaid : Prop := Claim7.holds Tryd.pinned (.plain (OpenSpec.upto derLengthsSpec)) derLengthsUptoCard

/-- THE SECOND FORM's CARD OF 'postmarklaw03.DerWrites'. -/
def derWritesUptoCard : Claim7 := { stood := { row := derWritesUptoRow, standIns := [], harness := (true, "6d02ae6eb806fdb31d414d3d5223968ae3a957523f9fd58214280be58123c6dc"), looks := true }, kinds := [], alts := [], laidByText := true, laidKinds := [.data, .pinned], laidTests := true, laidLooks := .later }
def DerWritesUptoCardSaid : Prop := Claim7.holds Tryd.pinned (.plain (OpenSpec.upto derWritesSpec)) derWritesUptoCard

/-- THE SECOND FORM's CARD OF 'postmarklaw03.DerMakes'. -/
def derMakesUptoCard : Claim7 := { stood := { row := derMakesUptoRow, standIns := [], harness := (true, "6d02ae6eb806fdb31d414d3d5223968ae3a957523f9fd58214280be58123c6dc"), looks := true }, kinds := [], alts := [], laidByText := true, laidKinds := [.data, .pinned], laidTests := true, laidLooks := .later }
def DerMakesUptoCardSaid : Prop := Claim7.holds Tryd.pinned (.plain (OpenSpec.upto derMakesSpec)) derMakesUptoCard

/-- THE SECOND FORM's CARD OF 'postmarklaw03.DerAsked'. -/
def derAskedUptoCard : Claim7 := { stood := { row := derAskedUptoRow, standIns := [], harness := (true, "6d02ae6eb806fdb31d414d3d5223968ae3a957523f9fd58214280be58123c6dc"), looks := true }, kinds := [], alts := [], laidByText := true, laidKinds := [.data, .pinned], laidTests := true, laidLooks := .later }
def DerAskedUptoCardSaid : Prop := Claim7.holds Tryd.pinned (.plain (OpenSpec.upto derAskedSpec)) derAskedUptoCard

/-- THE SECOND FORM's CARD OF 'postmarklaw03.DerNumbers'. -/
def derNumbersUptoCard : Claim7 := { stood := { row := derNumbersUptoRow, standIns := [], harness := (true, "6d02ae6eb806fdb31d414d3d5223968ae3a957523f9fd58214280be58123c6dc"), looks := true }, kinds := [], alts := [], laidByText := true, laidKinds := [.data, .pinned], laidTests := true, laidLooks := .later }
def DerNumbersUptoCardSaid : Prop := Claim7.holds Tryd.pinned (.plain (OpenSpec.upto derNumbersSpec)) derNumbersUptoCard

/-- THE SECOND FORM's CARD OF 'postmarklaw03.DerNumbersBack'. -/
def derNumbersBackUptoCard : Claim7 := { stood := { row := derNumbersBackUptoRow, standIns := [], harness := (true, "6d02ae6eb806fdb31d414d3d5223968ae3a957523f9fd58214280be58123c6dc"), looks := true }, kinds := [], alts := [], laidByText := true, laidKinds := [.data, .pinned], laidTests := true, laidLooks := .later }
def DerNumbersBackUptoCardSaid : Prop := Claim7.holds Tryd.pinned (.plain (OpenSpec.upto derNumbersBackSpec)) derNumbersBackUptoCard

/-- THE SECOND FORM's CARD OF 'postmarklaw03.DerSets'. -/
def derSetsUptoCard : Claim7 := { stood := { row := derSetsUptoRow, standIns := [], harness := (true, "6d02ae6eb806fdb31d414d3d5223968ae3a957523f9fd58214280be58123c6dc"), looks := true }, kinds := [], alts := [], laidByText := true, laidKinds := [.data, .pinned], laidTests := true, laidLooks := .later }
def DerSetsUptoCardSaid : Prop := Claim7.holds Tryd.pinned (.plain (OpenSpec.upto derSetsSpec)) derSetsUptoCard
end Rows
end Go.Proofs.YtbmlbefpnieglaaDoor
