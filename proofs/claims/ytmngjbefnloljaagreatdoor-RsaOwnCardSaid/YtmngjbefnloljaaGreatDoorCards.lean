/-
  DERIVED. GIVEN WITH THE SEED: THE CARDS: each row of YtmngjbefnloljaaGreatDoorRows.lean that lists a variable, with what it lists TIED to the program's text (the seventh form; the later family's looks); each row that meets fmt, with fmt's text TOLD by the authors' own Lean function (tested against real Go, not proved from fmt's source: count such statements apart). THE CARD IS WHAT COUNTS. Prove the row's statement (the work); the ties are given (YtmngjbefnloljaaGreatDoorTie.lean); close each card by the builder's one call (the guide's Derived/Test/ToyasCard.lean, 'card_holds'). Laid BY PROGRAM, IN A SANDBOX (cutbox-door.mjs). By AI agents, Wed Nov 11 2026. No macro, syntax, notation, axiom, sorry.
-/
import Derived.Test.YtmngjbefnloljaaGreatDoorRows
import GoSem.ClaimSeven
namespace Go.Proofs.YtmngjbefnloljaaGreatDoor
namespace Rows

/-- THE TIED CARD OF 'postmarklaw05.RsaForms'. -/
def rsaFormsCard : Claim7 := { stood := { row := rsaFormsRow, standIns := [], harness := (true, "9104b9ec2c7f7fa10b8d90d87e136e102e62e3de984366bbb753904f4eb8f5e8"), looks := true }, kinds := [], alts := [], laidByText := true, laidKinds := [.data, .pinned], laidTests := true, laidLooks := .later }
def RsaFormsCardSaid : Prop := Claim7.holds Tryz.pinned (.plain (OpenSpec.ofChange rsaFormsSpec)) rsaFormsCard

/-- THE TIED CARD OF 'postmarklaw05.RsaSigns'. -/
def rsaSignsCard : Claim7 := { stood := { row := rsaSignsRow, standIns := [], harness := (true, "9104b9ec2c7f7fa10b8d90d87e136e102e62e3de984366bbb753904f4eb8f5e8"), looks := true }, kinds := [], alts := [], laidByText := true, laidKinds := [.data, .pinned], laidTests := true, laidLooks := .later }
def RsaSignsCardSaid : Prop := Claim7.holds Tryz.pinned (.plain (OpenSpec.ofChange rsaSignsSpec)) rsaSignsCard

/-- THE TIED CARD OF 'postmarklaw05.RsaProves'. -/
def rsaProvesCard : Claim7 := { stood := { row := rsaProvesRow, standIns := [], harness := (true, "9104b9ec2c7f7fa10b8d90d87e136e102e62e3de984366bbb753904f4eb8f5e8"), looks := true }, kinds := [], alts := [], laidByText := true, laidKinds := [.data, .pinned], laidTests := true, laidLooks := .later }
def RsaProvesCardSaid : Prop := Claim7.holds Tryz.pinned (.plain (OpenSpec.ofChange rsaProvesSpec)) rsaProvesCard

/-- THE TIED CARD OF 'postmarklaw05.RsaOther'. -/
def rsaOtherCard : Claim7 := { stood := { row := rsaOtherRow, standIns := [], harness := (true, "9104b9ec2c7f7fa10b8d90d87e136e102e62e3de984366bbb753904f4eb8f5e8"), looks := true }, kinds := [], alts := [], laidByText := true, laidKinds := [.data, .pinned], laidTests := true, laidLooks := .later }
def RsaOtherCardSaid : Prop := Claim7.holds Tryz.pinned (.plain (OpenSpec.ofChange rsaOtherSpec)) rsaOtherCard

/-- THE TIED CARD OF 'postmarklaw05.RsaOwn'. -/
def rsaOwnCard : Claim7 := { stood := { row := rsaOwnRow, standIns := [], harness := (true, "9104b9ec2c7f7fa10b8d90d87e136e102e62e3de984366bbb753904f4eb8f5e8"), looks := true }, kinds := [], alts := [], laidByText := true, laidKinds := [.data, .pinned], laidTests := true, laidLooks := .later }
def RsaOwnCardSaid : Prop := Claim7.holds Tryz.pinned (.plain (OpenSpec.ofChange rsaOwnSpec)) rsaOwnCard

/-- THE TIED CARD OF 'postmarklaw05.RsaBytes'. -/
def rsaBytesCard : Claim7 := { stood := { row := rsaBytesRow, standIns := [], harness := (true, "9104b9ec2c7f7fa10b8d90d87e136e102e62e3de984366bbb753904f4eb8f5e8"), looks := true }, kinds := [], alts := [], laidByText := true, laidKinds := [.data, .pinned], laidTests := true, laidLooks := .later }
def RsaBytesCardSaid : Prop := Claim7.holds Tryz.pinned (.plain (OpenSpec.ofChange rsaBytesSpec)) rsaBytesCard

/-- THE TIED CARD OF 'postmarklaw05.RsaBack'. -/
def rsaBackCard : Claim7 := { stood := { row := rsaBackRow, standIns := [], harness := (true, "9104b9ec2c7f7fa10b8d90d87e136e102e62e3de984366bbb753904f4eb8f5e8"), looks := true }, kinds := [], alts := [], laidByText := true, laidKinds := [.data, .pinned], laidTests := true, laidLooks := .later }
def RsaBackCardSaid : Prop := Claim7.holds Tryz.pinned (.plain (OpenSpec.ofChange rsaBackSpec)) rsaBackCard

/-- THE SECOND FORM's CARD OF 'postmarklaw05.RsaForms'. -/
def rsaFormsUptoCard : Claim7 := { stood := { row := rsaFormsUptoRow, standIns := [], harness := (true, "9104b9ec2c7f7fa10b8d90d87e136e102e62e3de984366bbb753904f4eb8f5e8"), looks := true }, kinds := [], alts := [], laidByText := true, laidKinds := [.data, .pinned], laidTests := true, laidLooks := .later }
def RsaFormsUptoCardSaid : Prop := Claim7.holds Tryz.pinned (.plain (OpenSpec.upto rsaFormsSpec)) rsaFormsUptoCard

/-- THE SECOND FORM's CARD OF 'postmarklaw05.RsaSigns'. -/
def rsaSignsUptoCard : Claim7 := { stood := { row := rsaSignsUptoRow, standIns := [], harness := (true, "9104b9ec2c7f7fa10b8d90d87e136e102e62e3de984366bbb753904f4eb8f5e8"), looks := true }, kinds := [], alts := [], laidByText := true, laidKinds := [.data, .pinned], laidTests := true, laidLooks := .later }
def RsaSignsUptoCardSaid : Prop := Claim7.holds Tryz.pinned (.plain (OpenSpec.upto rsaSignsSpec)) rsaSignsUptoCard

/-- THE SECOND FORM's CARD OF 'postmarklaw05.RsaProves'. -/
def rsaProvesUptoCard : Claim7 := { stood := { row := rsaProvesUptoRow, standIns := [], harness := (true, "9104b9ec2c7f7fa10b8d90d87e136e102e62e3de984366bbb753904f4eb8f5e8"), looks := true }, kinds := [], alts := [], laidByText := true, laidKinds := [.data, .pinned], laidTests := true, laidLooks := .later }
def RsaProvesUptoCardSaid : Prop := Claim7.holds Tryz.pinned (.plain (OpenSpec.upto rsaProvesSpec)) rsaProvesUptoCard

/-- THE SECOND FORM's CARD OF 'postmarklaw05.RsaOther'. -/
def rsaOtherUptoCard : Claim7 := { stood := { row := rsaOtherUptoRow, standIns := [], harness := (true, "9104b9ec2c7f7fa10b8d90d87e136e102e62e3de984366bbb753904f4eb8f5e8"), looks := true }, kinds := [], alts := [], laidByText := true, laidKinds := [.data, .pinned], laidTests := true, laidLooks := .later }
def RsaOtherUptoCardSaid : Prop := Claim7.holds Tryz.pinned (.plain (OpenSpec.upto rsaOtherSpec)) rsaOtherUptoCard

/-- THE SECOND FORM's CARD OF 'postmarklaw05.RsaOwn'. -/
def rsaOwnUptoCard : Claim7 := { stood := { row := rsaOwnUptoRow, standIns := [], harness := (true, "9104b9ec2c7f7fa10b8d90d87e136e102e62e3de984366bbb753904f4eb8f5e8"), looks := true }, kinds := [], alts := [], laidByText := true, laidKinds := [.data, .pinned], laidTests := true, laidLooks := .later }
def RsaOwnUptoCardSaid : Prop := Claim7.holds Tryz.pinned (.plain (OpenSpec.upto rsaOwnSpec)) rsaOwnUptoCard

/-- THE SECOND FORM's CARD OF 'postmarklaw05.RsaBytes'. -/
def rsaBytesUptoCard : Claim7 := { stood := { row := rsaBytesUptoRow, standIns := [], harness := (true, "9104b9ec2c7f7fa10b8d90d87e136e102e62e3de984366bbb753904f4eb8f5e8"), looks := true }, kinds := [], alts := [], laidByText := true, laidKinds := [.data, .pinned], laidTests := true, laidLooks := .later }
def RsaBytesUptoCardSaid : Prop := Claim7.holds Tryz.pinned (.plain (OpenSpec.upto rsaBytesSpec)) rsaBytesUptoCard

/-- THE SECOND FORM's CARD OF 'postmarklaw05.RsaBack'. -/
def rsaBackUptoCard : Claim7 := { stood := { row := rsaBackUptoRow, standIns := [], harness := (true, "9104b9ec2c7f7fa10b8d90d87e136e102e62e3de984366bbb753904f4eb8f5e8"), looks := true }, kinds := [], alts := [], laidByText := true, laidKinds := [.data, .pinned], laidTests := true, laidLooks := .later }
def RsaBackUptoCardSaid : Prop := Claim7.holds Tryz.pinned (.plain (OpenSpec.upto rsaBackSpec)) rsaBackUptoCard
end Rows
end Go.Proofs.YtmngjbefnloljaaGreatDoor
