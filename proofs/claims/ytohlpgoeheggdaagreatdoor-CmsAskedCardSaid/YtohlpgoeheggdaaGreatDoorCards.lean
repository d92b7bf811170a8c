/-
  DERIVED. GIVEN WITH THE SEED: THE CARDS: each row of YtohlpgoeheggdaaGreatDoorRows.lean that lists a variable, with what it lists TIED to the program's text (the seventh form; the later family's looks); each row that meets fmt, with fmt's text TOLD by the authors' own Lean function (tested against real Go, not proved from fmt's source: count such statements apart). THE CARD IS WHAT COUNTS. Prove the row's statement (the work); the ties are given (YtohlpgoeheggdaaGreatDoorTie.lean); close each card by the builder's one call (the guide's Derived/Test/ToyasCard.lean, 'card_holds'). Laid BY PROGRAM, IN A SANDBOX (cutbox-door.mjs). By AI agents, Wed Nov 11 2026. No macro, syntax, notation, axiom, sorry.
-/
import Derived.Test.YtohlpgoeheggdaaGreatDoorRows
import GoSem.ClaimSeven
namespace Go.Proofs.YtohlpgoeheggdaaGreatDoor
namespace Rows

/-- THE TIED CARD OF 'postmarklaw08.CmsFields'. -/
def cmsFieldsCard : Claim7 := { stood := { row := cmsFieldsRow, standIns := [], harness := (true, "3439ee8eb51ecea9ac5fccca78f69643bdde4d206d179b54931acbf3f1eb32d2"), looks := true }, kinds := [], alts := [], laidByText := true, laidKinds := [.data, .pinned], laidTests := true, laidLooks := .later }
def CmsFieldsCardSaid : Prop := Claim7.holds Tryz.pinned (.plain (OpenSpec.ofChange cmsFieldsSpec)) cmsFieldsCard

/-- THE TIED CARD OF 'postmarklaw08.CmsSigners'. -/
def cmsSignersCard : Claim7 := { stood := { row := cmsSignersRow, standIns := [], harness := (true, "3439ee8eb51ecea9ac5fccca78f69643bdde4d206d179b54931acbf3f1eb32d2"), looks := true }, kinds := [], alts := [], laidByText := true, laidKinds := [.data, .pinned], laidTests := true, laidLooks := .later }
def CmsSignersCardSaid : Prop := Claim7.holds Tryz.pinned (.plain (OpenSpec.ofChange cmsSignersSpec)) cmsSignersCard

/-- THE TIED CARD OF 'postmarklaw08.CmsAsked'. -/
def cmsAskedCard : Claim7 := { stood := { row := cmsAskedRow, standIns := [], harness := (true, "3439ee8eb51ecea9ac5fccca78f69643bdde4d206d179b54931acbf3f1eb32d2"), looks := true }, kinds := [], alts := [], laidByText := true, laidKinds := [.data, .pinned], laidTests := true, laidLooks := .later }
def CmsAskedCardSaid : Prop := Claim7.holds Tryz.pinned (.plain (OpenSpec.ofChange cmsAskedSpec)) cmsAskedCard

/-- THE SECOND FORM's CARD OF 'postmarklaw08.CmsFields'. -/
def cmsFieldsUptoCard : Claim7 := { stood := { row := cmsFieldsUptoRow, standIns := [], harness := (true, "3439ee8eb51ecea9ac5fccca78f69643bdde4d206d179b54931acbf3f1eb32d2"), looks := true }, kinds := [], alts := [], laidByText := true, laidKinds := [.data, .pinned], laidTests := true, laidLooks := .later }
def CmsFieldsUptoCardSaid : Prop := Claim7.holds Tryz.pinned (.plain (OpenSpec.upto cmsFieldsSpec)) cmsFieldsUptoCard

/-- THE SECOND FORM's CARD OF 'postmarklaw08.CmsSigners'. -/
def cmsSignersUptoCard : Claim7 := { stood := { row := cmsSignersUptoRow, standIns := [], harness := (true, "3439ee8eb51ecea9ac5fccca78f69643bdde4d206d179b54931acbf3f1eb32d2"), looks := true }, kinds := [], alts := [], laidByText := true, laidKinds := [.data, .pinned], laidTests := true, laidLooks := .later }
def CmsSignersUptoCardSaid : Prop := Claim7.holds Tryz.pinned (.plain (OpenSpec.upto cmsSignersSpec)) cmsSignersUptoCard

/-- THE SECOND FORM's CARD OF 'postmarklaw08.CmsAsked'. -/
def cmsAskedUptoCard : Claim7 := { stood := { row := cmsAskedUptoRow, standIns := [], harness := (true, "3439ee8eb51ecea9ac5fccca78f69643bdde4d206d179b54931acbf3f1eb32d2"), looks := true }, kinds := [], alts := [], laidByText := true, laidKinds := [.data, .pinned], laidTests := true, laidLooks := .later }
def CmsAskedUptoCardSaid : Prop := Claim7.holds Tryz.pinned (.plain (OpenSpec.upto cmsAskedSpec)) cmsAskedUptoCard
end Rows
end Go.Proofs.YtohlpgoeheggdaaGreatDoor
