/-
  DERIVED. GIVEN WITH THE SEED: THE CARDS: each row of YtmngjbefnloljaaDoorRows.lean that lists a variable, with what it lists TIED to the program's text (the seventh form; the later family's looks); each row that meets fmt, with fmt's text TOLD by the authors' own Lean function (tested against real Go, not proved from fmt's source: count such statements apart). THE CARD IS WHAT COUNTS. Prove the row's statement (the work); the ties are given (YtmngjbefnloljaaDoorTie.lean); close each card by the builder's one call (the guide's Derived/Test/ToyasCard.lean, 'card_holds'). Laid BY PROGRAM, IN A SANDBOX (cutbox-door.mjs). By AI agents, Wed Nov 11 2026. No macro, syntax, notation, axiom, sorry.
-/
import Derived.Test.YtmngjbefnloljaaDoorRows
import GoSem.ClaimSeven
namespace Go.Proofs.YtmngjbefnloljaaDoor
namespace Rows

/-- THE TIED CARD OF 'postmarklaw03.DerWrites'. -/
def derWritesCard : Claim7 := { stood := { row := derWritesRow, standIns := [], harness := (true, "910e929e6b87164f6008c16a79e53fc163a26e07751ece211c0b4c9de4b85635"), looks := true }, kinds := [], alts := [], laidByText := true, laidKinds := [.data, .pinned], laidTests := true, laidLooks := .later }
def DerWritesCardSaid : Prop := Claim7.holds Tryd.pinned (.plain (OpenSpec.ofChange derWritesSpec)) derWritesCard

/-- THE TIED CARD OF 'postmarklaw03.DerAsked'. -/
def derAskedCard : Claim7 := { stood := { row := derAskedRow, standIns := [], harness := (true, "910e929e6b87164f6008c16a79e53fc163a26e07751ece211c0b4c9de4b85635"), looks := true }, kinds := [], alts := [], laidByText := true, laidKinds := [.data, .pinned], laidTests := true, laidLooks := .later }
def DerAskedCardSaid : Prop := Claim7.holds Tryd.pinned (.plain (OpenSpec.ofChange derAskedSpec)) derAskedCard

/-- THE TIED CARD OF 'postmarklaw03.DerNumbersBack'. -/
def derNumbersBackCard : Claim7 := { stood := { row := derNumbersBackRow, standIns := [], harness := (true, "910e929e6b87164f6008c16a79e53fc163a26e07751ece211c0b4c9de4b85635"), looks := true }, kinds := [], alts := [], laidByText := true, laidKinds := [.data, .pinned], laidTests := true, laidLooks := .later }
def DerNumbersBackCardSaid : Prop := Claim7.holds Tryd.pinned (.plain (OpenSpec.ofChange derNumbersBackSpec)) derNumbersBackCard

/-- THE TIED CARD OF 'postmarklaw03.DerSets'. -/
def derSetsCard : Claim7 := { stood := { row := derSetsRow, standIns := [], harness := (true, "910e929e6b87164f6008c16a79e53fc163a26e07751ece211c0b4c9de4b85635"), looks := true }, kinds := [], alts := [], laidByText := true, laidKinds := [.data, .pinned], laidTests := true, laidLooks := .later }
def DerSetsCardSaid : Prop := Claim7.holds Tryd.pinned (.plain (OpenSpec.ofChange derSetsSpec)) derSetsCard

/-- THE TIED CARD OF 'postmarklaw05.RsaOnce'. -/
def rsaOnceCard : Claim7 := { stood := { row := rsaOnceRow, standIns := [], harness := (true, "910e929e6b87164f6008c16a79e53fc163a26e07751ece211c0b4c9de4b85635"), looks := true }, kinds := [], alts := [], laidByText := true, laidKinds := [.data, .pinned], laidTests := true, laidLooks := .later }
def RsaOnceCardSaid : Prop := Claim7.holds Tryd.pinned (.plain (OpenSpec.ofChange rsaOnceSpec)) rsaOnceCard

/-- THE SECOND FORM's CARD OF 'postmarklaw03.DerWrites'. -/
def derWritesUptoCard : Claim7 := { stood := { row := derWritesUptoRow, standIns := [], harness := (true, "910e929e6b87164f6008c16a79e53fc163a26e07751ece211c0b4c9de4b85635"), looks := true }, kinds := [], alts := [], laidByText := true, laidKinds := [.data, .pinned], laidTests := true, laidLooks := .later }
def DerWritesUptoCardSaid : Prop := Claim7.holds Tryd.pinned (.plain (OpenSpec.upto derWritesSpec)) derWritesUptoCard

/-- THE SECOND FORM's CARD OF 'postmarklaw03.DerAsked'. -/
def derAskedUptoCard : Claim7 := { stood := { row := derAskedUptoRow, standIns := [], harness := (true, "910e929e6b87164f6008c16a79e53fc163a26e07751ece211c0b4c9de4b85635"), looks := true }, kinds := [], alts := [], laidByText := true, laidKinds := [.data, .pinned], laidTests := true, laidLooks := .later }
def DerAskedUptoCardSaid : Prop := Claim7.holds Tryd.pinned (.plain (OpenSpec.upto derAskedSpec)) derAskedUptoCard

/-- THE SECOND FORM's CARD OF 'postmarklaw03.DerNumbersBack'. -/
def derNumbersBackUptoCard : Claim7 := { stood := { row := derNumbersBackUptoRow, standIns := [], harness := (true, "910e929e6b87164f6008c16a79e53fc163a26e07751ece211c0b4c9de4b85635"), looks := true }, kinds := [], alts := [], laidByText := true, laidKinds := [.data, .pinned], laidTests := true, laidLooks := .later }
def DerNumbersBackUptoCardSaid : Prop := Claim7.holds Tryd.pinned (.plain (OpenSpec.upto derNumbersBackSpec)) derNumbersBackUptoCard

/-- THE SECOND FORM's CARD OF 'postmarklaw03.DerSets'. -/
def derSetsUptoCard : Claim7 := { stood := { row := derSetsUptoRow, standIns := [], harness := (true, "910e929e6b87164f6008c16a79e53fc163a26e07751ece211c0b4c9de4b85635"), looks := true }, kinds := [], alts := [], laidByText := true, laidKinds := [.data, .pinned], laidTests := true, laidLooks := .later }
def DerSetsUptoCardSaid : Prop := Claim7.holds Tryd.pinned (.plain (OpenSpec.upto derSetsSpec)) derSetsUptoCard

/-- THE SECOND FORM's CARD OF 'postmarklaw05.RsaOnce'. -/
def rsaOnceUptoCard : Claim7 := { stood := { row := rsaOnceUptoRow, standIns := [], harness := (true, "910e929e6b87164f6008c16a79e53fc163a26e07751ece211c0b4c9de4b85635"), looks := true }, kinds := [], alts := [], laidByText := true, laidKinds := [.data, .pinned], laidTests := true, laidLooks := .later }
def RsaOnceUptoCardSaid : Prop := Claim7.holds Tryd.pinned (.plain (OpenSpec.upto rsaOnceSpec)) rsaOnceUptoCard
end Rows
end Go.Proofs.YtmngjbefnloljaaDoor
