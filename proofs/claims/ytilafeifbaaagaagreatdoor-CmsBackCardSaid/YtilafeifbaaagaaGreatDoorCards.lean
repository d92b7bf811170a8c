/-
  DERIVED. GIVEN WITH THE SEED: THE CARDS: each row of YtilafeifbaaagaaGreatDoorRows.lean that lists a variable, with what it lists TIED to the program's text (the seventh form; the later family's looks); each row that meets fmt, with fmt's text TOLD by the authors' own Lean function (tested against real Go, not proved from fmt's source: count such statements apart). THE CARD IS WHAT COUNTS. Prove the row's statement (the work); the ties are given (YtilafeifbaaagaaGreatDoorTie.lean); close each card by the builder's one call (the guide's Derived/Test/ToyasCard.lean, 'card_holds'). Laid BY PROGRAM, IN A SANDBOX (cutbox-door.mjs). By AI agents, Wed Nov 11 2026. No macro, syntax, notation, axiom, sorry.
-/
import Derived.Test.YtilafeifbaaagaaGreatDoorRows
import GoSem.ClaimSeven
namespace Go.Proofs.YtilafeifbaaagaaGreatDoor
namespace Rows

/-- THE TIED CARD OF 'postmarklaw08.CmsParses'. -/
def cmsParsesCard : Claim7 := { stood := { row := cmsParsesRow, standIns := [], harness := (true, "356d061c27ce8d9231176262a7351c1c24826a2e181a7a7f450968f84d3851d8"), looks := true }, kinds := [], alts := [], laidByText := true, laidKinds := [.data, .pinned], laidTests := true, laidLooks := .later }
def CmsParsesCardSaid : Prop := Claim7.holds Tryz.pinned (.plain (OpenSpec.ofChange cmsParsesSpec)) cmsParsesCard

/-- THE TIED CARD OF 'postmarklaw08.CmsBack'. -/
def cmsBackCard : Claim7 := { stood := { row := cmsBackRow, standIns := [], harness := (true, "356d061c27ce8d9231176262a7351c1c24826a2e181a7a7f450968f84d3851d8"), looks := true }, kinds := [], alts := [], laidByText := true, laidKinds := [.data, .pinned], laidTests := true, laidLooks := .later }
def CmsBackCardSaid : Prop := Claim7.holds Tryz.pinned (.plain (OpenSpec.ofChange cmsBackSpec)) cmsBackCard

/-- THE TIED CARD OF 'postmarklaw08.CmsSorts'. -/
def cmsSortsCard : Claim7 := { stood := { row := cmsSortsRow, standIns := [], harness := (true, "356d061c27ce8d9231176262a7351c1c24826a2e181a7a7f450968f84d3851d8"), looks := true }, kinds := [], alts := [], laidByText := true, laidKinds := [.data, .pinned], laidTests := true, laidLooks := .later }
def CmsSortsCardSaid : Prop := Claim7.holds Tryz.pinned (.plain (OpenSpec.ofChange cmsSortsSpec)) cmsSortsCard

/-- THE TIED CARD OF 'postmarklaw08.CmsOnce'. -/
def cmsOnceCard : Claim7 := { stood := { row := cmsOnceRow, standIns := [], harness := (true, "356d061c27ce8d9231176262a7351c1c24826a2e181a7a7f450968f84d3851d8"), looks := true }, kinds := [], alts := [], laidByText := true, laidKinds := [.data, .pinned], laidTests := true, laidLooks := .later }
def CmsOnceCardSaid : Prop := Claim7.holds Tryz.pinned (.plain (OpenSpec.ofChange cmsOnceSpec)) cmsOnceCard

/-- THE SECOND FORM's CARD OF 'postmarklaw08.CmsParses'. -/
def cmsParsesUptoCard : Claim7 := { stood := { row := cmsParsesUptoRow, standIns := [], harness := (true, "356d061c27ce8d9231176262a7351c1c24826a2e181a7a7f450968f84d3851d8"), looks := true }, kinds := [], alts := [], laidByText := true, laidKinds := [.data, .pinned], laidTests := true, laidLooks := .later }
def CmsParsesUptoCardSaid : Prop := Claim7.holds Tryz.pinned (.plain (OpenSpec.upto cmsParsesSpec)) cmsParsesUptoCard

/-- THE SECOND FORM's CARD OF 'postmarklaw08.CmsBack'. -/
def cmsBackUptoCard : Claim7 := { stood := { row := cmsBackUptoRow, standIns := [], harness := (true, "356d061c27ce8d9231176262a7351c1c24826a2e181a7a7f450968f84d3851d8"), looks := true }, kinds := [], alts := [], laidByText := true, laidKinds := [.data, .pinned], laidTests := true, laidLooks := .later }
def CmsBackUptoCardSaid : Prop := Claim7.holds Tryz.pinned (.plain (OpenSpec.upto cmsBackSpec)) cmsBackUptoCard

/-- THE SECOND FORM's CARD OF 'postmarklaw08.CmsSorts'. -/
def cmsSortsUptoCard : Claim7 := { stood := { row := cmsSortsUptoRow, standIns := [], harness := (true, "356d061c27ce8d9231176262a7351c1c24826a2e181a7a7f450968f84d3851d8"), looks := true }, kinds := [], alts := [], laidByText := true, laidKinds := [.data, .pinned], laidTests := true, laidLooks := .later }
def CmsSortsUptoCardSaid : Prop := Claim7.holds Tryz.pinned (.plain (OpenSpec.upto cmsSortsSpec)) cmsSortsUptoCard

/-- THE SECOND FORM's CARD OF 'postmarklaw08.CmsOnce'. -/
def cmsOnceUptoCard : Claim7 := { stood := { row := cmsOnceUptoRow, standIns := [], harness := (true, "356d061c27ce8d9231176262a7351c1c24826a2e181a7a7f450968f84d3851d8"), looks := true }, kinds := [], alts := [], laidByText := true, laidKinds := [.data, .pinned], laidTests := true, laidLooks := .later }
def CmsOnceUptoCardSaid : Prop := Claim7.holds Tryz.pinned (.plain (OpenSpec.upto cmsOnceSpec)) cmsOnceUptoCard
end Rows
end Go.Proofs.YtilafeifbaaagaaGreatDoor
