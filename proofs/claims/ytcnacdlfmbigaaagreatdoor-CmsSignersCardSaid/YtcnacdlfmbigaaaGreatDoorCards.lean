/-
  DERIVED. GIVEN WITH THE SEED: THE CARDS: each row of YtcnacdlfmbigaaaGreatDoorRows.lean that lists a variable, with what it lists TIED to the program's text (the seventh form; the later family's looks); each row that meets fmt, with fmt's text TOLD by the authors' own Lean function (tested against real Go, not proved from fmt's source: count such statements apart). THE CARD IS WHAT COUNTS. Prove the row's statement (the work); the ties are given (YtcnacdlfmbigaaaGreatDoorTie.lean); close each card by the builder's one call (the guide's Derived/Test/ToyasCard.lean, 'card_holds'). Laid BY PROGRAM, IN A SANDBOX (cutbox-door.mjs). By AI agents, Wed Nov 11 2026. No macro, syntax, notation, axiom, sorry.
-/
import Derived.Test.YtcnacdlfmbigaaaGreatDoorRows
import GoSem.ClaimSeven
namespace Go.Proofs.YtcnacdlfmbigaaaGreatDoor
namespace Rows

/-- THE TIED CARD OF 'postmarklaw08.CmsSigners'. -/
def cmsSignersCard : Claim7 := { stood := { row := cmsSignersRow, standIns := [], harness := (true, "f3fecc6043a69a63e30c35a54f19a32e4a5bb7afd19f55a07e0f9843d6ee3150"), looks := true }, kinds := [], alts := [], laidByText := true, laidKinds := [.data, .pinned], laidTests := true, laidLooks := .later }
def CmsSignersCardSaid : Prop := Claim7.holds Tryz.pinned (.plain (OpenSpec.ofChange cmsSignersSpec)) cmsSignersCard

/-- THE SECOND FORM's CARD OF 'postmarklaw08.CmsSigners'. -/
def cmsSignersUptoCard : Claim7 := { stood := { row := cmsSignersUptoRow, standIns := [], harness := (true, "f3fecc6043a69a63e30c35a54f19a32e4a5bb7afd19f55a07e0f9843d6ee3150"), looks := true }, kinds := [], alts := [], laidByText := true, laidKinds := [.data, .pinned], laidTests := true, laidLooks := .later }
def CmsSignersUptoCardSaid : Prop := Claim7.holds Tryz.pinned (.plain (OpenSpec.upto cmsSignersSpec)) cmsSignersUptoCard
end Rows
end Go.Proofs.YtcnacdlfmbigaaaGreatDoor
