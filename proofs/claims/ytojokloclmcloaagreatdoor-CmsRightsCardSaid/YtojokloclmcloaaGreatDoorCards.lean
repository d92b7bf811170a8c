/-
  DERIVED. GIVEN WITH THE SEED: THE CARDS: each row of YtojokloclmcloaaGreatDoorRows.lean that lists a variable, with what it lists TIED to the program's text (the seventh form; the later family's looks); each row that meets fmt, with fmt's text TOLD by the authors' own Lean function (tested against real Go, not proved from fmt's source: count such statements apart). THE CARD IS WHAT COUNTS. Prove the row's statement (the work); the ties are given (YtojokloclmcloaaGreatDoorTie.lean); close each card by the builder's one call (the guide's Derived/Test/ToyasCard.lean, 'card_holds'). Laid BY PROGRAM, IN A SANDBOX (cutbox-door.mjs). By AI agents, Wed Nov 11 2026. No macro, syntax, notation, axiom, sorry.
-/
import Derived.Test.YtojokloclmcloaaGreatDoorRows
import GoSem.ClaimSeven
namespace Go.Proofs.YtojokloclmcloaaGreatDoor
namespace Rows

/-- THE TIED CARD OF 'postmarklaw08.CmsRights'. -/
def cmsRightsCard : Claim7 := { stood := { row := cmsRightsRow, standIns := [], harness := (true, "fb76853274afb3210ca84dc93d75b684710c064f6b2b0d86269a2cf920edabb4"), looks := true }, kinds := [], alts := [], laidByText := true, laidKinds := [.data, .pinned], laidTests := true, laidLooks := .later }
def CmsRightsCardSaid : Prop := Claim7.holds Tryz.pinned (.plain (OpenSpec.ofChange cmsRightsSpec)) cmsRightsCard

/-- THE SECOND FORM's CARD OF 'postmarklaw08.CmsRights'. -/
def cmsRightsUptoCard : Claim7 := { stood := { row := cmsRightsUptoRow, standIns := [], harness := (true, "fb76853274afb3210ca84dc93d75b684710c064f6b2b0d86269a2cf920edabb4"), looks := true }, kinds := [], alts := [], laidByText := true, laidKinds := [.data, .pinned], laidTests := true, laidLooks := .later }
def CmsRightsUptoCardSaid : Prop := Claim7.holds Tryz.pinned (.plain (OpenSpec.upto cmsRightsSpec)) cmsRightsUptoCard
end Rows
end Go.Proofs.YtojokloclmcloaaGreatDoor
