/-
  DERIVED. GIVEN WITH THE SEED: THE CARDS: each row of YtldbjnhfkjicjaaDoorRows.lean that lists a variable, with what it lists TIED to the program's text (the seventh form; the later family's looks); each row that meets fmt, with fmt's text TOLD by the authors' own Lean function (tested against real Go, not proved from fmt's source: count such statements apart). THE CARD IS WHAT COUNTS. Prove the row's statement (the work); the ties are given (YtldbjnhfkjicjaaDoorTie.lean); close each card by the builder's one call (the guide's Derived/Test/ToyasCard.lean, 'card_holds'). Laid BY PROGRAM, IN A SANDBOX (cutbox-door.mjs). By AI agents, Wed Nov 11 2026. No macro, syntax, notation, axiom, sorry.
-/
import Derived.Test.YtldbjnhfkjicjaaDoorRows
import GoSem.ClaimSeven
namespace Go.Proofs.YtldbjnhfkjicjaaDoor
namespace Rows

/-- THE TIED CARD OF 'postmarklaw03.DerSets'. -/
def derSetsCard : Claim7 := { stood := { row := derSetsRow, standIns := [], harness := (true, "9aa39628360a5d8356902dbea262e6b7b727281678ba1ee43a407f3f553794b1"), looks := true }, kinds := [], alts := [], laidByText := true, laidKinds := [.data, .pinned], laidTests := true, laidLooks := .later }
def DerSetsCardSaid : Prop := Claim7.holds Tryd.pinned (.plain (OpenSpec.ofChange derSetsSpec)) derSetsCard

/-- THE SECOND FORM's CARD OF 'postmarklaw03.DerSets'. -/
def derSetsUptoCard : Claim7 := { stood := { row := derSetsUptoRow, standIns := [], harness := (true, "9aa39628360a5d8356902dbea262e6b7b727281678ba1ee43a407f3f553794b1"), looks := true }, kinds := [], alts := [], laidByText := true, laidKinds := [.data, .pinned], laidTests := true, laidLooks := .later }
def DerSetsUptoCardSaid : Prop := Claim7.holds Tryd.pinned (.plain (OpenSpec.upto derSetsSpec)) derSetsUptoCard
end Rows
end Go.Proofs.YtldbjnhfkjicjaaDoor
