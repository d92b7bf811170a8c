/-
  NARROWER THAN 'FOR EVERY INPUT', by the rows' own cells (each row's printed sentence says how): DerWrites: loops, laid · DerAsked: loops, laid · DerNumbersBack: laid · DerSets: loops, laid · RsaOnce: laid.
  DERIVED. THE GIVEN ROWS OF THIS SEAT. 5 by the template 'for every input the law returns true; each argument reads behind the call as it read before'; 0 by the template 'total and deterministic' (their statements: YtmngjbefnloljaaDoorTotals.lean).
  GIVEN WITH THE SEED: the statements are not yours to turn. If you find one false, say at which input.
  Laid BY PROGRAM, IN A SANDBOX (cutbox-rows.mjs): the forced cells as the released guide's own fill.sh prints them over the translation 69b35c789e0e72dd… (all of the seat's roots in one cut). By AI agents, Wed Nov 11 2026. No macro, syntax, notation, axiom, sorry.
-/
import Derived.Test.YtmngjbefnloljaaDoorChecked
import GoSem.PinnedTables
import GoSem.Claim
import GoSem.ClaimJoined
import GoSem.ClaimMapViews
import Derived.JoinedTies
import Derived.KernelRfl
namespace Go.Proofs.YtmngjbefnloljaaDoor
/- THE CELL 'sum', in the pinned program and in every row, IS THE sha256 OF THE DUMP (.gsa) THAT YtmngjbefnloljaaDoorProg.lean LOADS. Nothing in Lean hashes anything: it is a label: what it is worth is what the hold of that sum in a sandbox is worth. -/
noncomputable def Tryd.pinned : Pinned := { name := "ytmngjbefnloljaadoor", sum := "69b35c789e0e72dd5e18149d2b194f539935fbbc797d846486ed862bd11667d2", checked := Tryd.checked }
namespace Rows
def none {H : Type} : Left H := { results := [], args := [] }

/- WHAT THE LISTED PACKAGE-LEVEL VARIABLES READ AS WHEN THE CALL BEGINS. Each datum BY PROGRAM (the guide's laid-datum.mjs) off the statement by which the dump's own 'gosem.cut.vars' lays the variable. In a bare row this is a premise. The card (YtmngjbefnloljaaDoorCards.lean) ties it to the program's text. -/
def laid_unicode_utf8_acceptRanges {H : Type} : DataW H := .agg [.agg [.lit (.int .u8 128), .lit (.int .u8 191)], .agg [.lit (.int .u8 160), .lit (.int .u8 191)], .agg [.lit (.int .u8 128), .lit (.int .u8 159)], .agg [.lit (.int .u8 144), .lit (.int .u8 191)], .agg [.lit (.int .u8 128), .lit (.int .u8 143)], .agg [.lit (.int .u8 0), .lit (.int .u8 0)], .agg [.lit (.int .u8 0), .lit (.int .u8 0)], .agg [.lit (.int .u8 0), .lit (.int .u8 0)], .agg [.lit (.int .u8 0), .lit (.int .u8 0)], .agg [.lit (.int .u8 0), .lit (.int .u8 0)], .agg [.lit (.int .u8 0), .lit (.int .u8 0)], .agg [.lit (.int .u8 0), .lit (.int .u8 0)], .agg [.lit (.int .u8 0), .lit (.int .u8 0)], .agg [.lit (.int .u8 0), .lit (.int .u8 0)], .agg [.lit (.int .u8 0), .lit (.int .u8 0)], .agg [.lit (.int .u8 0), .lit (.int .u8 0)]]
/-- One of Go's own tables, pinned by name: the form's constant. -/
def laid_unicode_utf8_first : DataW Unit := Go.Pinned.utf8First

/-- 'postmarklaw03.DerWrites': WHATEVER THE INPUT: true; the input reads as it did. -/
def derWritesSpec : ChangeSpec := { name := "derWrites", fn := fun _ => fun
  | [d] => { results := [.lit (.bool true)], args := [d] }
  | _ => none }
def derWritesRow : OpenClaim := { program := "ytmngjbefnloljaadoor", sum := "69b35c789e0e72dd5e18149d2b194f539935fbbc797d846486ed862bd11667d2", func := "postmark/postmarklaw03.DerWrites", spec := "derWrites", inPlace := ["internal/bytealg.Compare"], unfollowed := true, recurses := true, named := ["unicode/utf8.first", "unicode/utf8.acceptRanges"], loops := true, apart := false, laid := [("unicode/utf8.acceptRanges", laid_unicode_utf8_acceptRanges), ("unicode/utf8.first", laid_unicode_utf8_first)] }
def DerWritesSaid : Prop := derWritesRow.holds Tryd.pinned (OpenSpec.ofChange derWritesSpec)

/-- ITS FALSE NEIGHBOUR: 'it returns false'. Refute it at one input. -/
def derWritesWrong : ChangeSpec := { name := "derWrites", fn := fun _ => fun
  | [d] => { results := [.lit (.bool false)], args := [d] }
  | _ => none }
def DerWritesWrongFalsely : Prop := derWritesRow.holds Tryd.pinned (OpenSpec.ofChange derWritesWrong)

/-- 'postmarklaw03.DerAsked': WHATEVER THE INPUT: true; the input reads as it did. -/
def derAskedSpec : ChangeSpec := { name := "derAsked", fn := fun _ => fun
  | [d] => { results := [.lit (.bool true)], args := [d] }
  | _ => none }
def derAskedRow : OpenClaim := { program := "ytmngjbefnloljaadoor", sum := "69b35c789e0e72dd5e18149d2b194f539935fbbc797d846486ed862bd11667d2", func := "postmark/postmarklaw03.DerAsked", spec := "derAsked", inPlace := ["internal/bytealg.Compare"], unfollowed := true, recurses := true, named := ["unicode/utf8.first", "unicode/utf8.acceptRanges"], loops := true, apart := false, laid := [("unicode/utf8.acceptRanges", laid_unicode_utf8_acceptRanges), ("unicode/utf8.first", laid_unicode_utf8_first)] }
def DerAskedSaid : Prop := derAskedRow.holds Tryd.pinned (OpenSpec.ofChange derAskedSpec)

/-- ITS FALSE NEIGHBOUR: 'it returns false'. Refute it at one input. -/
def derAskedWrong : ChangeSpec := { name := "derAsked", fn := fun _ => fun
  | [d] => { results := [.lit (.bool false)], args := [d] }
  | _ => none }
def DerAskedWrongFalsely : Prop := derAskedRow.holds Tryd.pinned (OpenSpec.ofChange derAskedWrong)

/-- 'postmarklaw03.DerNumbersBack': WHATEVER THE INPUT: true; the input reads as it did. -/
def derNumbersBackSpec : ChangeSpec := { name := "derNumbersBack", fn := fun _ => fun
  | [d1, d2] => { results := [.lit (.bool true)], args := [d1, d2] }
  | _ => none }
def derNumbersBackRow : OpenClaim := { program := "ytmngjbefnloljaadoor", sum := "69b35c789e0e72dd5e18149d2b194f539935fbbc797d846486ed862bd11667d2", func := "postmark/postmarklaw03.DerNumbersBack", spec := "derNumbersBack", inPlace := ["internal/bytealg.Compare"], unfollowed := true, recurses := true, named := ["unicode/utf8.first", "unicode/utf8.acceptRanges"], apart := false, laid := [("unicode/utf8.acceptRanges", laid_unicode_utf8_acceptRanges), ("unicode/utf8.first", laid_unicode_utf8_first)] }
def DerNumbersBackSaid : Prop := derNumbersBackRow.holds Tryd.pinned (OpenSpec.ofChange derNumbersBackSpec)

/-- ITS FALSE NEIGHBOUR: 'it returns false'. Refute it at one input. -/
def derNumbersBackWrong : ChangeSpec := { name := "derNumbersBack", fn := fun _ => fun
  | [d1, d2] => { results := [.lit (.bool false)], args := [d1, d2] }
  | _ => none }
def DerNumbersBackWrongFalsely : Prop := derNumbersBackRow.holds Tryd.pinned (OpenSpec.ofChange derNumbersBackWrong)

/-- 'postmarklaw03.DerSets': WHATEVER THE INPUT: true; the input reads as it did. -/
def derSetsSpec : ChangeSpec := { name := "derSets", fn := fun _ => fun
  | [d1, d2] => { results := [.lit (.bool true)], args := [d1, d2] }
  | _ => none }
def derSetsRow : OpenClaim := { program := "ytmngjbefnloljaadoor", sum := "69b35c789e0e72dd5e18149d2b194f539935fbbc797d846486ed862bd11667d2", func := "postmark/postmarklaw03.DerSets", spec := "derSets", inPlace := ["internal/bytealg.Compare"], unfollowed := true, recurses := true, named := ["unicode/utf8.first", "unicode/utf8.acceptRanges"], loops := true, apart := false, laid := [("unicode/utf8.acceptRanges", laid_unicode_utf8_acceptRanges), ("unicode/utf8.first", laid_unicode_utf8_first)] }
def DerSetsSaid : Prop := derSetsRow.holds Tryd.pinned (OpenSpec.ofChange derSetsSpec)

/-- ITS FALSE NEIGHBOUR: 'it returns false'. Refute it at one input. -/
def derSetsWrong : ChangeSpec := { name := "derSets", fn := fun _ => fun
  | [d1, d2] => { results := [.lit (.bool false)], args := [d1, d2] }
  | _ => none }
def DerSetsWrongFalsely : Prop := derSetsRow.holds Tryd.pinned (OpenSpec.ofChange derSetsWrong)

/-- 'postmarklaw05.RsaOnce': WHATEVER THE INPUT: true; the input reads as it did. -/
def rsaOnceSpec : ChangeSpec := { name := "rsaOnce", fn := fun _ => fun
  | [d1, d2, d3, d4, d5, d6] => { results := [.lit (.bool true)], args := [d1, d2, d3, d4, d5, d6] }
  | _ => none }
def rsaOnceRow : OpenClaim := { program := "ytmngjbefnloljaadoor", sum := "69b35c789e0e72dd5e18149d2b194f539935fbbc797d846486ed862bd11667d2", func := "postmark/postmarklaw05.RsaOnce", spec := "rsaOnce", inPlace := ["internal/bytealg.IndexByteString", "internal/bytealg.IndexString", "internal/bytealg.Compare", "internal/bytealg.MakeNoZero"], unfollowed := true, recurses := true, named := ["unicode/utf8.first", "unicode/utf8.acceptRanges", "internal/bytealg.MaxLen"], apart := false, laid := [("unicode/utf8.acceptRanges", laid_unicode_utf8_acceptRanges), ("unicode/utf8.first", laid_unicode_utf8_first)] }
def RsaOnceSaid : Prop := rsaOnceRow.holds Tryd.pinned (OpenSpec.ofChange rsaOnceSpec)

/-- ITS FALSE NEIGHBOUR: 'it returns false'. Refute it at one input. -/
def rsaOnceWrong : ChangeSpec := { name := "rsaOnce", fn := fun _ => fun
  | [d1, d2, d3, d4, d5, d6] => { results := [.lit (.bool false)], args := [d1, d2, d3, d4, d5, d6] }
  | _ => none }
def RsaOnceWrongFalsely : Prop := rsaOnceRow.holds Tryd.pinned (OpenSpec.ofChange rsaOnceWrong)

/- THE SECOND FORM. 'bulk': how many values and letters a reading holds, each counted each time it is reached (what is shared counts as often as it is met; a slice's spare places count too). A statement '..UptoSaid' is the law's where the arguments, and the package variables that the reading takes, are together of bulk at most 1048576: NARROWER than '..Said'. Prove '..Said' where nothing that the law and all that it calls make is longer than what came in: it says more and counts as full. Else prove '..UptoSaid'. A law counts once. -/
mutual
def uptoBulk {H : Type} : DataW H → Nat
  | .lit (.string bytes) => bytes.length + 1
  | .lit _ => 1
  | .nil => 1
  | .ptr d => uptoBulk d + 1
  | .slice elems spare => uptoBulkAll elems + uptoBulkAll spare + 1
  | .agg parts => uptoBulkAll parts + 1
  | .iface _ d => uptoBulk d + 1
  | .map entries => uptoBulkEntries entries + 1
  | .held _ => 1
def uptoBulkAll {H : Type} : List (DataW H) → Nat
  | [] => 0
  | d :: r => uptoBulk d + uptoBulkAll r
def uptoBulkEntries {H : Type} : List (Lit × DataW H) → Nat
  | [] => 0
  | x :: r => uptoBulkEntry x + uptoBulkEntries r
def uptoBulkEntry {H : Type} : Lit × DataW H → Nat
  | (.string bytes, d) => bytes.length + uptoBulk d + 1
  | (_, d) => uptoBulk d + 1
 end
def uptoSmall : (H : Type) → List (DataW H) → Bool := fun _ ds => decide (uptoBulkAll ds ≤ 1048576)
def OpenSpec.upto (s : _root_.Go.ChangeSpec) : _root_.Go.OpenSpec := { _root_.Go.OpenSpec.ofChange s with cond := some uptoSmall }

/-- 'postmarklaw03.DerWrites', WHERE WHAT IT READS IS OF BULK AT MOST 1048576: true; the input reads as it did. -/
def derWritesUptoRow : OpenClaim := { program := "ytmngjbefnloljaadoor", sum := "69b35c789e0e72dd5e18149d2b194f539935fbbc797d846486ed862bd11667d2", func := "postmark/postmarklaw03.DerWrites", spec := "derWrites", inPlace := ["internal/bytealg.Compare"], unfollowed := true, recurses := true, named := ["unicode/utf8.first", "unicode/utf8.acceptRanges"], loops := true, apart := false, laid := [("unicode/utf8.acceptRanges", laid_unicode_utf8_acceptRanges), ("unicode/utf8.first", laid_unicode_utf8_first)], narrowed := true }
def DerWritesUptoSaid : Prop := derWritesUptoRow.holds Tryd.pinned (OpenSpec.upto derWritesSpec)

/-- 'postmarklaw03.DerAsked', WHERE WHAT IT READS IS OF BULK AT MOST 1048576: true; the input reads as it did. -/
def derAskedUptoRow : OpenClaim := { program := "ytmngjbefnloljaadoor", sum := "69b35c789e0e72dd5e18149d2b194f539935fbbc797d846486ed862bd11667d2", func := "postmark/postmarklaw03.DerAsked", spec := "derAsked", inPlace := ["internal/bytealg.Compare"], unfollowed := true, recurses := true, named := ["unicode/utf8.first", "unicode/utf8.acceptRanges"], loops := true, apart := false, laid := [("unicode/utf8.acceptRanges", laid_unicode_utf8_acceptRanges), ("unicode/utf8.first", laid_unicode_utf8_first)], narrowed := true }
def DerAskedUptoSaid : Prop := derAskedUptoRow.holds Tryd.pinned (OpenSpec.upto derAskedSpec)

/-- 'postmarklaw03.DerNumbersBack', WHERE WHAT IT READS IS OF BULK AT MOST 1048576: true; the input reads as it did. -/
def derNumbersBackUptoRow : OpenClaim := { program := "ytmngjbefnloljaadoor", sum := "69b35c789e0e72dd5e18149d2b194f539935fbbc797d846486ed862bd11667d2", func := "postmark/postmarklaw03.DerNumbersBack", spec := "derNumbersBack", inPlace := ["internal/bytealg.Compare"], unfollowed := true, recurses := true, named := ["unicode/utf8.first", "unicode/utf8.acceptRanges"], apart := false, laid := [("unicode/utf8.acceptRanges", laid_unicode_utf8_acceptRanges), ("unicode/utf8.first", laid_unicode_utf8_first)], narrowed := true }
def DerNumbersBackUptoSaid : Prop := derNumbersBackUptoRow.holds Tryd.pinned (OpenSpec.upto derNumbersBackSpec)

/-- 'postmarklaw03.DerSets', WHERE WHAT IT READS IS OF BULK AT MOST 1048576: true; the input reads as it did. -/
def derSetsUptoRow : OpenClaim := { program := "ytmngjbefnloljaadoor", sum := "69b35c789e0e72dd5e18149d2b194f539935fbbc797d846486ed862bd11667d2", func := "postmark/postmarklaw03.DerSets", spec := "derSets", inPlace := ["internal/bytealg.Compare"], unfollowed := true, recurses := true, named := ["unicode/utf8.first", "unicode/utf8.acceptRanges"], loops := true, apart := false, laid := [("unicode/utf8.acceptRanges", laid_unicode_utf8_acceptRanges), ("unicode/utf8.first", laid_unicode_utf8_first)], narrowed := true }
def DerSetsUptoSaid : Prop := derSetsUptoRow.holds Tryd.pinned (OpenSpec.upto derSetsSpec)

/-- 'postmarklaw05.RsaOnce', WHERE WHAT IT READS IS OF BULK AT MOST 1048576: true; the input reads as it did. -/
def rsaOnceUptoRow : OpenClaim := { program := "ytmngjbefnloljaadoor", sum := "69b35c789e0e72dd5e18149d2b194f539935fbbc797d846486ed862bd11667d2", func := "postmark/postmarklaw05.RsaOnce", spec := "rsaOnce", inPlace := ["internal/bytealg.IndexByteString", "internal/bytealg.IndexString", "internal/bytealg.Compare", "internal/bytealg.MakeNoZero"], unfollowed := true, recurses := true, named := ["unicode/utf8.first", "unicode/utf8.acceptRanges", "internal/bytealg.MaxLen"], apart := false, laid := [("unicode/utf8.acceptRanges", laid_unicode_utf8_acceptRanges), ("unicode/utf8.first", laid_unicode_utf8_first)], narrowed := true }
def RsaOnceUptoSaid : Prop := rsaOnceUptoRow.holds Tryd.pinned (OpenSpec.upto rsaOnceSpec)

end Rows
end Go.Proofs.YtmngjbefnloljaaDoor
