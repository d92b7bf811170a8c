/-
  NARROWER THAN 'FOR EVERY INPUT', by the rows' own cells (each row's printed sentence says how): RsaForms: laid · RsaSigns: laid · RsaProves: laid · RsaOther: laid · RsaOwn: laid · RsaBytes: laid · RsaBack: laid.
  DERIVED. THE GIVEN ROWS OF THIS SEAT. 7 by the template 'for every input the law returns true; each argument reads behind the call as it read before'; 0 by the template 'total and deterministic' (their statements: YtmngjbefnloljaaGreatDoorTotals.lean).
  GIVEN WITH THE SEED: the statements are not yours to turn. If you find one false, say at which input.
  Laid BY PROGRAM, IN A SANDBOX (cutbox-rows.mjs): the forced cells as the released guide's own fill.sh prints them over the translation 7d0b82a26f5607d8… (all of the seat's roots in one cut). By AI agents, Wed Nov 11 2026. No macro, syntax, notation, axiom, sorry.
-/
import Derived.Test.YtmngjbefnloljaaGreatDoorChecked
import GoSem.PinnedTables
import GoSem.Claim
import GoSem.ClaimJoined
import GoSem.ClaimMapViews
import Derived.JoinedTies
import Derived.KernelRfl
namespace Go.Proofs.YtmngjbefnloljaaGreatDoor
/- THE CELL 'sum', in the pinned program and in every row, IS THE sha256 OF THE DUMP (.gsa) THAT YtmngjbefnloljaaGreatDoorProg.lean LOADS. Nothing in Lean hashes anything: it is a label: what it is worth is what the hold of that sum in a sandbox is worth. -/
noncomputable def Tryz.pinned : Pinned := { name := "ytmngjbefnloljaagreatdoor", sum := "7d0b82a26f5607d83c421308e707bac99dff38baa32124529c7f9532ee901369", checked := Tryz.checked }
namespace Rows
def none {H : Type} : Left H := { results := [], args := [] }

/- WHAT THE LISTED PACKAGE-LEVEL VARIABLES READ AS WHEN THE CALL BEGINS. Each datum BY PROGRAM (the guide's laid-datum.mjs) off the statement by which the dump's own 'gosem.cut.vars' lays the variable. In a bare row this is a premise. The card (YtmngjbefnloljaaGreatDoorCards.lean) ties it to the program's text. -/
def laid_unicode_utf8_acceptRanges {H : Type} : DataW H := .agg [.agg [.lit (.int .u8 128), .lit (.int .u8 191)], .agg [.lit (.int .u8 160), .lit (.int .u8 191)], .agg [.lit (.int .u8 128), .lit (.int .u8 159)], .agg [.lit (.int .u8 144), .lit (.int .u8 191)], .agg [.lit (.int .u8 128), .lit (.int .u8 143)], .agg [.lit (.int .u8 0), .lit (.int .u8 0)], .agg [.lit (.int .u8 0), .lit (.int .u8 0)], .agg [.lit (.int .u8 0), .lit (.int .u8 0)], .agg [.lit (.int .u8 0), .lit (.int .u8 0)], .agg [.lit (.int .u8 0), .lit (.int .u8 0)], .agg [.lit (.int .u8 0), .lit (.int .u8 0)], .agg [.lit (.int .u8 0), .lit (.int .u8 0)], .agg [.lit (.int .u8 0), .lit (.int .u8 0)], .agg [.lit (.int .u8 0), .lit (.int .u8 0)], .agg [.lit (.int .u8 0), .lit (.int .u8 0)], .agg [.lit (.int .u8 0), .lit (.int .u8 0)]]
/-- One of Go's own tables, pinned by name: the form's constant. -/
def laid_unicode_utf8_first : DataW Unit := Go.Pinned.utf8First

/-- 'postmarklaw05.RsaForms': WHATEVER THE INPUT: true; the input reads as it did. -/
def rsaFormsSpec : ChangeSpec := { name := "rsaForms", fn := fun _ => fun
  | [d1, d2, d3] => { results := [.lit (.bool true)], args := [d1, d2, d3] }
  | _ => none }
def rsaFormsRow : OpenClaim := { program := "ytmngjbefnloljaagreatdoor", sum := "7d0b82a26f5607d83c421308e707bac99dff38baa32124529c7f9532ee901369", func := "postmark/postmarklaw05.RsaForms", spec := "rsaForms", inPlace := ["internal/bytealg.IndexByteString", "internal/bytealg.IndexString", "internal/bytealg.Compare", "internal/bytealg.MakeNoZero"], unfollowed := true, recurses := true, named := ["unicode/utf8.first", "unicode/utf8.acceptRanges", "internal/bytealg.MaxLen"], apart := false, laid := [("unicode/utf8.acceptRanges", laid_unicode_utf8_acceptRanges), ("unicode/utf8.first", laid_unicode_utf8_first)] }
def RsaFormsSaid : Prop := rsaFormsRow.holds Tryz.pinned (OpenSpec.ofChange rsaFormsSpec)

/-- ITS FALSE NEIGHBOUR: 'it returns false'. Refute it at one input. -/
def rsaFormsWrong : ChangeSpec := { name := "rsaForms", fn := fun _ => fun
  | [d1, d2, d3] => { results := [.lit (.bool false)], args := [d1, d2, d3] }
  | _ => none }
def RsaFormsWrongFalsely : Prop := rsaFormsRow.holds Tryz.pinned (OpenSpec.ofChange rsaFormsWrong)

/-- 'postmarklaw05.RsaSigns': WHATEVER THE INPUT: true; the input reads as it did. -/
def rsaSignsSpec : ChangeSpec := { name := "rsaSigns", fn := fun _ => fun
  | [d1, d2, d3] => { results := [.lit (.bool true)], args := [d1, d2, d3] }
  | _ => none }
def rsaSignsRow : OpenClaim := { program := "ytmngjbefnloljaagreatdoor", sum := "7d0b82a26f5607d83c421308e707bac99dff38baa32124529c7f9532ee901369", func := "postmark/postmarklaw05.RsaSigns", spec := "rsaSigns", inPlace := ["internal/bytealg.IndexByteString", "internal/bytealg.IndexString", "internal/bytealg.Compare", "internal/bytealg.MakeNoZero"], unfollowed := true, recurses := true, named := ["unicode/utf8.first", "unicode/utf8.acceptRanges", "internal/bytealg.MaxLen"], apart := false, laid := [("unicode/utf8.acceptRanges", laid_unicode_utf8_acceptRanges), ("unicode/utf8.first", laid_unicode_utf8_first)] }
def RsaSignsSaid : Prop := rsaSignsRow.holds Tryz.pinned (OpenSpec.ofChange rsaSignsSpec)

/-- ITS FALSE NEIGHBOUR: 'it returns false'. Refute it at one input. -/
def rsaSignsWrong : ChangeSpec := { name := "rsaSigns", fn := fun _ => fun
  | [d1, d2, d3] => { results := [.lit (.bool false)], args := [d1, d2, d3] }
  | _ => none }
def RsaSignsWrongFalsely : Prop := rsaSignsRow.holds Tryz.pinned (OpenSpec.ofChange rsaSignsWrong)

/-- 'postmarklaw05.RsaProves': WHATEVER THE INPUT: true; the input reads as it did. -/
def rsaProvesSpec : ChangeSpec := { name := "rsaProves", fn := fun _ => fun
  | [d1, d2, d3, d4] => { results := [.lit (.bool true)], args := [d1, d2, d3, d4] }
  | _ => none }
def rsaProvesRow : OpenClaim := { program := "ytmngjbefnloljaagreatdoor", sum := "7d0b82a26f5607d83c421308e707bac99dff38baa32124529c7f9532ee901369", func := "postmark/postmarklaw05.RsaProves", spec := "rsaProves", inPlace := ["internal/bytealg.IndexByteString", "internal/bytealg.IndexString", "internal/bytealg.Compare", "internal/bytealg.MakeNoZero"], unfollowed := true, recurses := true, named := ["unicode/utf8.first", "unicode/utf8.acceptRanges", "internal/bytealg.MaxLen"], apart := false, laid := [("unicode/utf8.acceptRanges", laid_unicode_utf8_acceptRanges), ("unicode/utf8.first", laid_unicode_utf8_first)] }
def RsaProvesSaid : Prop := rsaProvesRow.holds Tryz.pinned (OpenSpec.ofChange rsaProvesSpec)

/-- ITS FALSE NEIGHBOUR: 'it returns false'. Refute it at one input. -/
def rsaProvesWrong : ChangeSpec := { name := "rsaProves", fn := fun _ => fun
  | [d1, d2, d3, d4] => { results := [.lit (.bool false)], args := [d1, d2, d3, d4] }
  | _ => none }
def RsaProvesWrongFalsely : Prop := rsaProvesRow.holds Tryz.pinned (OpenSpec.ofChange rsaProvesWrong)

/-- 'postmarklaw05.RsaOther': WHATEVER THE INPUT: true; the input reads as it did. -/
def rsaOtherSpec : ChangeSpec := { name := "rsaOther", fn := fun _ => fun
  | [d1, d2, d3] => { results := [.lit (.bool true)], args := [d1, d2, d3] }
  | _ => none }
def rsaOtherRow : OpenClaim := { program := "ytmngjbefnloljaagreatdoor", sum := "7d0b82a26f5607d83c421308e707bac99dff38baa32124529c7f9532ee901369", func := "postmark/postmarklaw05.RsaOther", spec := "rsaOther", inPlace := ["internal/bytealg.IndexByteString", "internal/bytealg.IndexString", "internal/bytealg.Compare", "internal/bytealg.MakeNoZero"], unfollowed := true, recurses := true, named := ["unicode/utf8.first", "unicode/utf8.acceptRanges", "internal/bytealg.MaxLen"], apart := false, laid := [("unicode/utf8.acceptRanges", laid_unicode_utf8_acceptRanges), ("unicode/utf8.first", laid_unicode_utf8_first)] }
def RsaOtherSaid : Prop := rsaOtherRow.holds Tryz.pinned (OpenSpec.ofChange rsaOtherSpec)

/-- ITS FALSE NEIGHBOUR: 'it returns false'. Refute it at one input. -/
def rsaOtherWrong : ChangeSpec := { name := "rsaOther", fn := fun _ => fun
  | [d1, d2, d3] => { results := [.lit (.bool false)], args := [d1, d2, d3] }
  | _ => none }
def RsaOtherWrongFalsely : Prop := rsaOtherRow.holds Tryz.pinned (OpenSpec.ofChange rsaOtherWrong)

/-- 'postmarklaw05.RsaOwn': WHATEVER THE INPUT: true; the input reads as it did. -/
def rsaOwnSpec : ChangeSpec := { name := "rsaOwn", fn := fun _ => fun
  | [d1, d2, d3, d4] => { results := [.lit (.bool true)], args := [d1, d2, d3, d4] }
  | _ => none }
def rsaOwnRow : OpenClaim := { program := "ytmngjbefnloljaagreatdoor", sum := "7d0b82a26f5607d83c421308e707bac99dff38baa32124529c7f9532ee901369", func := "postmark/postmarklaw05.RsaOwn", spec := "rsaOwn", inPlace := ["internal/bytealg.IndexByteString", "internal/bytealg.IndexString", "internal/bytealg.Compare", "internal/bytealg.MakeNoZero"], unfollowed := true, recurses := true, named := ["unicode/utf8.first", "unicode/utf8.acceptRanges", "internal/bytealg.MaxLen"], apart := false, laid := [("unicode/utf8.acceptRanges", laid_unicode_utf8_acceptRanges), ("unicode/utf8.first", laid_unicode_utf8_first)] }
def RsaOwnSaid : Prop := rsaOwnRow.holds Tryz.pinned (OpenSpec.ofChange rsaOwnSpec)

/-- ITS FALSE NEIGHBOUR: 'it returns false'. Refute it at one input. -/
def rsaOwnWrong : ChangeSpec := { name := "rsaOwn", fn := fun _ => fun
  | [d1, d2, d3, d4] => { results := [.lit (.bool false)], args := [d1, d2, d3, d4] }
  | _ => none }
def RsaOwnWrongFalsely : Prop := rsaOwnRow.holds Tryz.pinned (OpenSpec.ofChange rsaOwnWrong)

/-- 'postmarklaw05.RsaBytes': WHATEVER THE INPUT: true; the input reads as it did. -/
def rsaBytesSpec : ChangeSpec := { name := "rsaBytes", fn := fun _ => fun
  | [d1, d2] => { results := [.lit (.bool true)], args := [d1, d2] }
  | _ => none }
def rsaBytesRow : OpenClaim := { program := "ytmngjbefnloljaagreatdoor", sum := "7d0b82a26f5607d83c421308e707bac99dff38baa32124529c7f9532ee901369", func := "postmark/postmarklaw05.RsaBytes", spec := "rsaBytes", inPlace := ["internal/bytealg.IndexByteString", "internal/bytealg.IndexString", "internal/bytealg.Compare", "internal/bytealg.MakeNoZero"], unfollowed := true, recurses := true, named := ["unicode/utf8.first", "unicode/utf8.acceptRanges", "internal/bytealg.MaxLen"], apart := false, laid := [("unicode/utf8.acceptRanges", laid_unicode_utf8_acceptRanges), ("unicode/utf8.first", laid_unicode_utf8_first)] }
def RsaBytesSaid : Prop := rsaBytesRow.holds Tryz.pinned (OpenSpec.ofChange rsaBytesSpec)

/-- ITS FALSE NEIGHBOUR: 'it returns false'. Refute it at one input. -/
def rsaBytesWrong : ChangeSpec := { name := "rsaBytes", fn := fun _ => fun
  | [d1, d2] => { results := [.lit (.bool false)], args := [d1, d2] }
  | _ => none }
def RsaBytesWrongFalsely : Prop := rsaBytesRow.holds Tryz.pinned (OpenSpec.ofChange rsaBytesWrong)

/-- 'postmarklaw05.RsaBack': WHATEVER THE INPUT: true; the input reads as it did. -/
def rsaBackSpec : ChangeSpec := { name := "rsaBack", fn := fun _ => fun
  | [d1, d2, d3] => { results := [.lit (.bool true)], args := [d1, d2, d3] }
  | _ => none }
def rsaBackRow : OpenClaim := { program := "ytmngjbefnloljaagreatdoor", sum := "7d0b82a26f5607d83c421308e707bac99dff38baa32124529c7f9532ee901369", func := "postmark/postmarklaw05.RsaBack", spec := "rsaBack", inPlace := ["internal/bytealg.IndexByteString", "internal/bytealg.IndexString", "internal/bytealg.Compare", "internal/bytealg.MakeNoZero"], unfollowed := true, recurses := true, named := ["unicode/utf8.first", "unicode/utf8.acceptRanges", "internal/bytealg.MaxLen"], apart := false, laid := [("unicode/utf8.acceptRanges", laid_unicode_utf8_acceptRanges), ("unicode/utf8.first", laid_unicode_utf8_first)] }
def RsaBackSaid : Prop := rsaBackRow.holds Tryz.pinned (OpenSpec.ofChange rsaBackSpec)

/-- ITS FALSE NEIGHBOUR: 'it returns false'. Refute it at one input. -/
def rsaBackWrong : ChangeSpec := { name := "rsaBack", fn := fun _ => fun
  | [d1, d2, d3] => { results := [.lit (.bool false)], args := [d1, d2, d3] }
  | _ => none }
def RsaBackWrongFalsely : Prop := rsaBackRow.holds Tryz.pinned (OpenSpec.ofChange rsaBackWrong)

/- THE SECOND FORM. 'bulk': how many values and letters a reading holds, each counted each time it is reached (what is shared counts as often as it is met; a slice's spare places count too). A statement '..UptoSaid' is the law's where the arguments, and the package variables that the reading takes, are together of bulk at most 1048576: NARROWER than '..Said'. Prove '..Said' where nothing that the law and all that it calls make is longer than what came in: it says more and counts as full. Else prove '..UptoSaid'. A law counts once. -/
mutual
def uptoBulk {H : Type} : DataW H → Nat
  | .lit (.string bytes) => bytes.length + 1
  | .lit _ => 1
  | .nil => 1
  | .ptr d => uptoBulk d + 1
  | .slice elems spare => uptoBulkAll elems + uptoBulkAll spare + 1
  | .agg parts => uptoBulkAll parts + 1
  | .iface _ d => uptoBulk d + 1
  | .map entries => uptoBulkEntries entries + 1
  | .held _ => 1
def uptoBulkAll {H : Type} : List (DataW H) → Nat
  | [] => 0
  | d :: r => uptoBulk d + uptoBulkAll r
def uptoBulkEntries {H : Type} : List (Lit × DataW H) → Nat
  | [] => 0
  | x :: r => uptoBulkEntry x + uptoBulkEntries r
def uptoBulkEntry {H : Type} : Lit × DataW H → Nat
  | (.string bytes, d) => bytes.length + uptoBulk d + 1
  | (_, d) => uptoBulk d + 1
 end
def uptoSmall : (H : Type) → List (DataW H) → Bool := fun _ ds => decide (uptoBulkAll ds ≤ 1048576)
def OpenSpec.upto (s : _root_.Go.ChangeSpec) : _root_.Go.OpenSpec := { _root_.Go.OpenSpec.ofChange s with cond := some uptoSmall }

/-- 'postmarklaw05.RsaForms', WHERE WHAT IT READS IS OF BULK AT MOST 1048576: true; the input reads as it did. -/
def rsaFormsUptoRow : OpenClaim := { program := "ytmngjbefnloljaagreatdoor", sum := "7d0b82a26f5607d83c421308e707bac99dff38baa32124529c7f9532ee901369", func := "postmark/postmarklaw05.RsaForms", spec := "rsaForms", inPlace := ["internal/bytealg.IndexByteString", "internal/bytealg.IndexString", "internal/bytealg.Compare", "internal/bytealg.MakeNoZero"], unfollowed := true, recurses := true, named := ["unicode/utf8.first", "unicode/utf8.acceptRanges", "internal/bytealg.MaxLen"], apart := false, laid := [("unicode/utf8.acceptRanges", laid_unicode_utf8_acceptRanges), ("unicode/utf8.first", laid_unicode_utf8_first)], narrowed := true }
def RsaFormsUptoSaid : Prop := rsaFormsUptoRow.holds Tryz.pinned (OpenSpec.upto rsaFormsSpec)

/-- 'postmarklaw05.RsaSigns', WHERE WHAT IT READS IS OF BULK AT MOST 1048576: true; the input reads as it did. -/
def rsaSignsUptoRow : OpenClaim := { program := "ytmngjbefnloljaagreatdoor", sum := "7d0b82a26f5607d83c421308e707bac99dff38baa32124529c7f9532ee901369", func := "postmark/postmarklaw05.RsaSigns", spec := "rsaSigns", inPlace := ["internal/bytealg.IndexByteString", "internal/bytealg.IndexString", "internal/bytealg.Compare", "internal/bytealg.MakeNoZero"], unfollowed := true, recurses := true, named := ["unicode/utf8.first", "unicode/utf8.acceptRanges", "internal/bytealg.MaxLen"], apart := false, laid := [("unicode/utf8.acceptRanges", laid_unicode_utf8_acceptRanges), ("unicode/utf8.first", laid_unicode_utf8_first)], narrowed := true }
def RsaSignsUptoSaid : Prop := rsaSignsUptoRow.holds Tryz.pinned (OpenSpec.upto rsaSignsSpec)

/-- 'postmarklaw05.RsaProves', WHERE WHAT IT READS IS OF BULK AT MOST 1048576: true; the input reads as it did. -/
def rsaProvesUptoRow : OpenClaim := { program := "ytmngjbefnloljaagreatdoor", sum := "7d0b82a26f5607d83c421308e707bac99dff38baa32124529c7f9532ee901369", func := "postmark/postmarklaw05.RsaProves", spec := "rsaProves", inPlace := ["internal/bytealg.IndexByteString", "internal/bytealg.IndexString", "internal/bytealg.Compare", "internal/bytealg.MakeNoZero"], unfollowed := true, recurses := true, named := ["unicode/utf8.first", "unicode/utf8.acceptRanges", "internal/bytealg.MaxLen"], apart := false, laid := [("unicode/utf8.acceptRanges", laid_unicode_utf8_acceptRanges), ("unicode/utf8.first", laid_unicode_utf8_first)], narrowed := true }
def RsaProvesUptoSaid : Prop := rsaProvesUptoRow.holds Tryz.pinned (OpenSpec.upto rsaProvesSpec)

/-- 'postmarklaw05.RsaOther', WHERE WHAT IT READS IS OF BULK AT MOST 1048576: true; the input reads as it did. -/
def rsaOtherUptoRow : OpenClaim := { program := "ytmngjbefnloljaagreatdoor", sum := "7d0b82a26f5607d83c421308e707bac99dff38baa32124529c7f9532ee901369", func := "postmark/postmarklaw05.RsaOther", spec := "rsaOther", inPlace := ["internal/bytealg.IndexByteString", "internal/bytealg.IndexString", "internal/bytealg.Compare", "internal/bytealg.MakeNoZero"], unfollowed := true, recurses := true, named := ["unicode/utf8.first", "unicode/utf8.acceptRanges", "internal/bytealg.MaxLen"], apart := false, laid := [("unicode/utf8.acceptRanges", laid_unicode_utf8_acceptRanges), ("unicode/utf8.first", laid_unicode_utf8_first)], narrowed := true }
def RsaOtherUptoSaid : Prop := rsaOtherUptoRow.holds Tryz.pinned (OpenSpec.upto rsaOtherSpec)

/-- 'postmarklaw05.RsaOwn', WHERE WHAT IT READS IS OF BULK AT MOST 1048576: true; the input reads as it did. -/
def rsaOwnUptoRow : OpenClaim := { program := "ytmngjbefnloljaagreatdoor", sum := "7d0b82a26f5607d83c421308e707bac99dff38baa32124529c7f9532ee901369", func := "postmark/postmarklaw05.RsaOwn", spec := "rsaOwn", inPlace := ["internal/bytealg.IndexByteString", "internal/bytealg.IndexString", "internal/bytealg.Compare", "internal/bytealg.MakeNoZero"], unfollowed := true, recurses := true, named := ["unicode/utf8.first", "unicode/utf8.acceptRanges", "internal/bytealg.MaxLen"], apart := false, laid := [("unicode/utf8.acceptRanges", laid_unicode_utf8_acceptRanges), ("unicode/utf8.first", laid_unicode_utf8_first)], narrowed := true }
def RsaOwnUptoSaid : Prop := rsaOwnUptoRow.holds Tryz.pinned (OpenSpec.upto rsaOwnSpec)

/-- 'postmarklaw05.RsaBytes', WHERE WHAT IT READS IS OF BULK AT MOST 1048576: true; the input reads as it did. -/
def rsaBytesUptoRow : OpenClaim := { program := "ytmngjbefnloljaagreatdoor", sum := "7d0b82a26f5607d83c421308e707bac99dff38baa32124529c7f9532ee901369", func := "postmark/postmarklaw05.RsaBytes", spec := "rsaBytes", inPlace := ["internal/bytealg.IndexByteString", "internal/bytealg.IndexString", "internal/bytealg.Compare", "internal/bytealg.MakeNoZero"], unfollowed := true, recurses := true, named := ["unicode/utf8.first", "unicode/utf8.acceptRanges", "internal/bytealg.MaxLen"], apart := false, laid := [("unicode/utf8.acceptRanges", laid_unicode_utf8_acceptRanges), ("unicode/utf8.first", laid_unicode_utf8_first)], narrowed := true }
def RsaBytesUptoSaid : Prop := rsaBytesUptoRow.holds Tryz.pinned (OpenSpec.upto rsaBytesSpec)

/-- 'postmarklaw05.RsaBack', WHERE WHAT IT READS IS OF BULK AT MOST 1048576: true; the input reads as it did. -/
def rsaBackUptoRow : OpenClaim := { program := "ytmngjbefnloljaagreatdoor", sum := "7d0b82a26f5607d83c421308e707bac99dff38baa32124529c7f9532ee901369", func := "postmark/postmarklaw05.RsaBack", spec := "rsaBack", inPlace := ["internal/bytealg.IndexByteString", "internal/bytealg.IndexString", "internal/bytealg.Compare", "internal/bytealg.MakeNoZero"], unfollowed := true, recurses := true, named := ["unicode/utf8.first", "unicode/utf8.acceptRanges", "internal/bytealg.MaxLen"], apart := false, laid := [("unicode/utf8.acceptRanges", laid_unicode_utf8_acceptRanges), ("unicode/utf8.first", laid_unicode_utf8_first)], narrowed := true }
def RsaBackUptoSaid : Prop := rsaBackUptoRow.holds Tryz.pinned (OpenSpec.upto rsaBackSpec)

end Rows
end Go.Proofs.YtmngjbefnloljaaGreatDoor
