/-
  NARROWER THAN 'FOR EVERY INPUT', by the rows' own cells (each row's printed sentence says how): DerBack: loops, laid · DerCut: loops, laid · DerDeep: laid · DerLengths: laid · DerWrites: loops, laid · DerMakes: loops, laid · DerAsked: loops, laid · DerNumbers: laid · DerNumbersBack: laid · DerSets: loops, laid.
  DERIVED. THE GIVEN ROWS OF THIS SEAT. 10 by the template 'for every input the law returns true; each argument reads behind the call as it read before'; 0 by the template 'total and deterministic' (their statements: YtbmlbefpnieglaaDoorTotals.lean).
  GIVEN WITH THE SEED: the statements are not yours to turn. If you find one false, say at which input.
  Laid BY PROGRAM, IN A SANDBOX (cutbox-rows.mjs): the forced cells as the released guide's own fill.sh prints them over the translation 098450e89a4692d7… (all of the seat's roots in one cut). By AI agents, Wed Nov 11 2026. No macro, syntax, notation, axiom, sorry.
-/
import Derived.Test.YtbmlbefpnieglaaDoorChecked
import GoSem.PinnedTables
import GoSem.Claim
import GoSem.ClaimJoined
import GoSem.ClaimMapViews
import Derived.JoinedTies
import Derived.KernelRfl
namespace Go.Proofs.YtbmlbefpnieglaaDoor
/- THE CELL 'sum', in the pinned program and in every row, IS THE sha256 OF THE DUMP (.gsa) THAT YtbmlbefpnieglaaDoorProg.lean LOADS. Nothing in Lean hashes anything: it is a label: what it is worth is what the hold of that sum in a sandbox is worth. -/
noncomputable def Tryd.pinned : Pinned := { name := "ytbmlbefpnieglaadoor", sum := "098450e89a4692d73d35595b65c7ddbf439394429e55ee27ae3c3e69efb23cbc", checked := Tryd.checked }
namespace Rows
def none {H : Type} : Left H := { results := [], args := [] }

/- WHAT THE LISTED PACKAGE-LEVEL VARIABLES READ AS WHEN THE CALL BEGINS. Each datum BY PROGRAM (the guide's laid-datum.mjs) off the statement by which the dump's own 'gosem.cut.vars' lays the variable. In a bare row this is a premise. The card (YtbmlbefpnieglaaDoorCards.lean) ties it to the program's text. -/
def laid_unicode_utf8_acceptRanges {H : Type} : DataW H := .agg [.agg [.lit (.int .u8 128), .lit (.int .u8 191)], .agg [.lit (.int .u8 160), .lit (.int .u8 191)], .agg [.lit (.int .u8 128), .lit (.int .u8 159)], .agg [.lit (.int .u8 144), .lit (.int .u8 191)], .agg [.lit (.int .u8 128), .lit (.int .u8 143)], .agg [.lit (.int .u8 0), .lit (.int .u8 0)], .agg [.lit (.int .u8 0), .lit (.int .u8 0)], .agg [.lit (.int .u8 0), .lit (.int .u8 0)], .agg [.lit (.int .u8 0), .lit (.int .u8 0)], .agg [.lit (.int .u8 0), .lit (.int .u8 0)], .agg [.lit (.int .u8 0), .lit (.int .u8 0)], .agg [.lit (.int .u8 0), .lit (.int .u8 0)], .agg [.lit (.int .u8 0), .lit (.int .u8 0)], .agg [.lit (.int .u8 0), .lit (.int .u8 0)], .agg [.lit (.int .u8 0), .lit (.int .u8 0)], .agg [.lit (.int .u8 0), .lit (.int .u8 0)]]
/-- One of Go's own tables, pinned by name: the form's constant. -/
def laid_unicode_utf8_first : DataW Unit := Go.Pinned.utf8First

/-- 'postmarklaw03.DerBack': WHATEVER THE INPUT: true; the input reads as it did. -/
def derBackSpec : ChangeSpec := { name := "derBack", fn := fun _ => fun
  | [d1, d2] => { results := [.lit (.bool true)], args := [d1, d2] }
  | _ => none }
def derBackRow : OpenClaim := { program := "ytbmlbefpnieglaadoor", sum := "098450e89a4692d73d35595b65c7ddbf439394429e55ee27ae3c3e69efb23cbc", func := "postmark/postmarklaw03.DerBack", spec := "derBack", inPlace := ["internal/bytealg.Compare"], unfollowed := true, recurses := true, named := ["unicode/utf8.first", "unicode/utf8.acceptRanges"], loops := true, apart := false, laid := [("unicode/utf8.acceptRanges", laid_unicode_utf8_acceptRanges), ("unicode/utf8.first", laid_unicode_utf8_first)] }
def DerBackSaid : Prop := derBackRow.holds Tryd.pinned (OpenSpec.ofChange derBackSpec)

/-- ITS FALSE NEIGHBOUR: 'it returns false'. Refute it at one input. -/
def derBackWrong : ChangeSpec := { name := "derBack", fn := fun _ => fun
  | [d1, d2] => { results := [.lit (.bool false)], args := [d1, d2] }
  | _ => none }
def DerBackWrongFalsely : Prop := derBackRow.holds Tryd.pinned (OpenSpec.ofChange derBackWrong)

/-- 'postmarklaw03.DerCut': WHATEVER THE INPUT: true; the input reads as it did. -/
def derCutSpec : ChangeSpec := { name := "derCut", fn := fun _ => fun
  | [d1, d2, d3] => { results := [.lit (.bool true)], args := [d1, d2, d3] }
  | _ => none }
def derCutRow : OpenClaim := { program := "ytbmlbefpnieglaadoor", sum := "098450e89a4692d73d35595b65c7ddbf439394429e55ee27ae3c3e69efb23cbc", func := "postmark/postmarklaw03.DerCut", spec := "derCut", inPlace := ["internal/bytealg.Compare"], unfollowed := true, recurses := true, named := ["unicode/utf8.first", "unicode/utf8.acceptRanges"], loops := true, apart := false, laid := [("unicode/utf8.acceptRanges", laid_unicode_utf8_acceptRanges), ("unicode/utf8.first", laid_unicode_utf8_first)] }
def DerCutSaid : Prop := derCutRow.holds Tryd.pinned (OpenSpec.ofChange derCutSpec)

/-- ITS FALSE NEIGHBOUR: 'it returns false'. Refute it at one input. -/
def derCutWrong : ChangeSpec := { name := "derCut", fn := fun _ => fun
  | [d1, d2, d3] => { results := [.lit (.bool false)], args := [d1, d2, d3] }
  | _ => none }
def DerCutWrongFalsely : Prop := derCutRow.holds Tryd.pinned (OpenSpec.ofChange derCutWrong)

/-- 'postmarklaw03.DerDeep': WHATEVER THE INPUT: true; the input reads as it did. -/
def derDeepSpec : ChangeSpec := { name := "derDeep", fn := fun _ => fun
  | [d1, d2] => { results := [.lit (.bool true)], args := [d1, d2] }
  | _ => none }
def derDeepRow : OpenClaim := { program := "ytbmlbefpnieglaadoor", sum := "098450e89a4692d73d35595b65c7ddbf439394429e55ee27ae3c3e69efb23cbc", func := "postmark/postmarklaw03.DerDeep", spec := "derDeep", inPlace := ["internal/bytealg.Compare"], unfollowed := true, recurses := true, named := ["unicode/utf8.first", "unicode/utf8.acceptRanges"], apart := false, laid := [("unicode/utf8.acceptRanges", laid_unicode_utf8_acceptRanges), ("unicode/utf8.first", laid_unicode_utf8_first)] }
def DerDeepSaid : Prop := derDeepRow.holds Tryd.pinned (OpenSpec.ofChange derDeepSpec)

/-- ITS FALSE NEIGHBOUR: 'it returns false'. Refute it at one input. -/
def derDeepWrong : ChangeSpec := { name := "derDeep", fn := fun _ => fun
  | [d1, d2] => { results := [.lit (.bool false)], args := [d1, d2] }
  | _ => none }
def DerDeepWrongFalsely : Prop := derDeepRow.holds Tryd.pinned (OpenSpec.ofChange derDeepWrong)

/-- 'postmarklaw03.DerLengths': WHATEVER THE INPUT: true; the input reads as it did. -/
def derLengthsSpec : ChangeSpec := { name := "derLengths", fn := fun _ => fun
  | [d1, d2] => { results := [.lit (.bool true)], args := [d1, d2] }
  | _ => none }
def derLengthsRow : OpenClaim := { program := "ytbmlbefpnieglaadoor", sum := "098450e89a4692d73d35595b65c7ddbf439394429e55ee27ae3c3e69efb23cbc", func := "postmark/postmarklaw03.DerLengths", spec := "derLengths", inPlace := ["internal/bytealg.Compare"], unfollowed := true, recurses := true, named := ["unicode/utf8.first", "unicode/utf8.acceptRanges"], apart := false, laid := [("unicode/utf8.acceptRanges", laid_unicode_utf8_acceptRanges), ("unicode/utf8.first", laid_unicode_utf8_first)] }
def DerLengthsSaid : Prop := derLengthsRow.holds Tryd.pinned (OpenSpec.ofChange derLengthsSpec)

/-- ITS FALSE NEIGHBOUR: 'it returns false'. Refute it at one input. -/
def derLengthsWrong : ChangeSpec := { name := "derLengths", fn := fun _ => fun
  | [d1, d2] => { results := [.lit (.bool false)], args := [d1, d2] }
  | _ => none }
def DerLengthsWrongFalsely : Prop := derLengthsRow.holds Tryd.pinned (OpenSpec.ofChange derLengthsWrong)

/-- 'postmarklaw03.DerWrites': WHATEVER THE INPUT: true; the input reads as it did. -/
def derWritesSpec : ChangeSpec := { name := "derWrites", fn := fun _ => fun
  | [d] => { results := [.lit (.bool true)], args := [d] }
  | _ => none }
def derWritesRow : OpenClaim := { program := "ytbmlbefpnieglaadoor", sum := "098450e89a4692d73d35595b65c7ddbf439394429e55ee27ae3c3e69efb23cbc", func := "postmark/postmarklaw03.DerWrites", spec := "derWrites", inPlace := ["internal/bytealg.Compare"], unfollowed := true, recurses := true, named := ["unicode/utf8.first", "unicode/utf8.acceptRanges"], loops := true, apart := false, laid := [("unicode/utf8.acceptRanges", laid_unicode_utf8_acceptRanges), ("unicode/utf8.first", laid_unicode_utf8_first)] }
def DerWritesSaid : Prop := derWritesRow.holds Tryd.pinned (OpenSpec.ofChange derWritesSpec)

/-- ITS FALSE NEIGHBOUR: 'it returns false'. Refute it at one input. -/
def derWritesWrong : ChangeSpec := { name := "derWrites", fn := fun _ => fun
  | [d] => { results := [.lit (.bool false)], args := [d] }
  | _ => none }
def DerWritesWrongFalsely : Prop := derWritesRow.holds Tryd.pinned (OpenSpec.ofChange derWritesWrong)

/-- 'postmarklaw03.DerMakes': WHATEVER THE INPUT: true; the input reads as it did. -/
def derMakesSpec : ChangeSpec := { name := "derMakes", fn := fun _ => fun
  | [d1, d2, d3, d4] => { results := [.lit (.bool true)], args := [d1, d2, d3, d4] }
  | _ => none }
def derMakesRow : OpenClaim := { program := "ytbmlbefpnieglaadoor", sum := "098450e89a4692d73d35595b65c7ddbf439394429e55ee27ae3c3e69efb23cbc", func := "postmark/postmarklaw03.DerMakes", spec := "derMakes", inPlace := ["internal/bytealg.Compare"], unfollowed := true, recurses := true, named := ["unicode/utf8.first", "unicode/utf8.acceptRanges"], loops := true, apart := false, laid := [("unicode/utf8.acceptRanges", laid_unicode_utf8_acceptRanges), ("unicode/utf8.first", laid_unicode_utf8_first)] }
def DerMakesSaid : Prop := derMakesRow.holds Tryd.pinned (OpenSpec.ofChange derMakesSpec)

/-- ITS FALSE NEIGHBOUR: 'it returns false'. Refute it at one input. -/
def derMakesWrong : ChangeSpec := { name := "derMakes", fn := fun _ => fun
  | [d1, d2, d3, d4] => { results := [.lit (.bool false)], args := [d1, d2, d3, d4] }
  | _ => none }
def DerMakesWrongFalsely : Prop := derMakesRow.holds Tryd.pinned (OpenSpec.ofChange derMakesWrong)

/-- 'postmarklaw03.DerAsked': WHATEVER THE INPUT: true; the input reads as it did. -/
def derAskedSpec : ChangeSpec := { name := "derAsked", fn := fun _ => fun
  | [d] => { results := [.lit (.bool true)], args := [d] }
  | _ => none }
def derAskedRow : OpenClaim := { program := "ytbmlbefpnieglaadoor", sum := "098450e89a4692d73d35595b65c7ddbf439394429e55ee27ae3c3e69efb23cbc", func := "postmark/postmarklaw03.DerAsked", spec := "derAsked", inPlace := ["internal/bytealg.Compare"], unfollowed := true, recurses := true, named := ["unicode/utf8.first", "unicode/utf8.acceptRanges"], loops := true, apart := false, laid := [("unicode/utf8.acceptRanges", laid_unicode_utf8_acceptRanges), ("unicode/utf8.first", laid_unicode_utf8_first)] }
def DerAskedSaid : Prop := derAskedRow.holds Tryd.pinned (OpenSpec.ofChange derAskedSpec)

/-- ITS FALSE NEIGHBOUR: 'it returns false'. Refute it at one input. -/
def derAskedWrong : ChangeSpec := { name := "derAsked", fn := fun _ => fun
  | [d] => { results := [.lit (.bool false)], args := [d] }
  | _ => none }
def DerAskedWrongFalsely : Prop := derAskedRow.holds Tryd.pinned (OpenSpec.ofChange derAskedWrong)

/-- 'postmarklaw03.DerNumbers': WHATEVER THE INPUT: true; the input reads as it did. -/
def derNumbersSpec : ChangeSpec := { name := "derNumbers", fn := fun _ => fun
  | [d1, d2] => { results := [.lit (.bool true)], args := [d1, d2] }
  | _ => none }
def derNumbersRow : OpenClaim := { program := "ytbmlbefpnieglaadoor", sum := "098450e89a4692d73d35595b65c7ddbf439394429e55ee27ae3c3e69efb23cbc", func := "postmark/postmarklaw03.DerNumbers", spec := "derNumbers", inPlace := ["internal/bytealg.Compare"], unfollowed := true, recurses := true, named := ["unicode/utf8.first", "unicode/utf8.acceptRanges"], apart := false, laid := [("unicode/utf8.acceptRanges", laid_unicode_utf8_acceptRanges), ("unicode/utf8.first", laid_unicode_utf8_first)] }
def DerNumbersSaid : Prop := derNumbersRow.holds Tryd.pinned (OpenSpec.ofChange derNumbersSpec)

/-- ITS FALSE NEIGHBOUR: 'it returns false'. Refute it at one input. -/
def derNumbersWrong : ChangeSpec := { name := "derNumbers", fn := fun _ => fun
  | [d1, d2] => { results := [.lit (.bool false)], args := [d1, d2] }
  | _ => none }
def DerNumbersWrongFalsely : Prop := derNumbersRow.holds Tryd.pinned (OpenSpec.ofChange derNumbersWrong)

/-- 'postmarklaw03.DerNumbersBack': WHATEVER THE INPUT: true; the input reads as it did. -/
def derNumbersBackSpec : ChangeSpec := { name := "derNumbersBack", fn := fun _ => fun
  | [d1, d2] => { results := [.lit (.bool true)], args := [d1, d2] }
  | _ => none }
def derNumbersBackRow : OpenClaim := { program := "ytbmlbefpnieglaadoor", sum := "098450e89a4692d73d35595b65c7ddbf439394429e55ee27ae3c3e69efb23cbc", func := "postmark/postmarklaw03.DerNumbersBack", spec := "derNumbersBack", inPlace := ["internal/bytealg.Compare"], unfollowed := true, recurses := true, named := ["unicode/utf8.first", "unicode/utf8.acceptRanges"], apart := false, laid := [("unicode/utf8.acceptRanges", laid_unicode_utf8_acceptRanges), ("unicode/utf8.first", laid_unicode_utf8_first)] }
def DerNumbersBackSaid : Prop := derNumbersBackRow.holds Tryd.pinned (OpenSpec.ofChange derNumbersBackSpec)

/-- ITS FALSE NEIGHBOUR: 'it returns false'. Refute it at one input. -/
def derNumbersBackWrong : ChangeSpec := { name := "derNumbersBack", fn := fun _ => fun
  | [d1, d2] => { results := [.lit (.bool false)], args := [d1, d2] }
  | _ => none }
def DerNumbersBackWrongFalsely : Prop := derNumbersBackRow.holds Tryd.pinned (OpenSpec.ofChange derNumbersBackWrong)

/-- 'postmarklaw03.DerSets': WHATEVER THE INPUT: true; the input reads as it did. -/
def derSetsSpec : ChangeSpec := { name := "derSets", fn := fun _ => fun
  | [d1, d2] => { results := [.lit (.bool true)], args := [d1, d2] }
  | _ => none }
def derSetsRow : OpenClaim := { program := "ytbmlbefpnieglaadoor", sum := "098450e89a4692d73d35595b65c7ddbf439394429e55ee27ae3c3e69efb23cbc", func := "postmark/postmarklaw03.DerSets", spec := "derSets", inPlace := ["internal/bytealg.Compare"], unfollowed := true, recurses := true, named := ["unicode/utf8.first", "unicode/utf8.acceptRanges"], loops := true, apart := false, laid := [("unicode/utf8.acceptRanges", laid_unicode_utf8_acceptRanges), ("unicode/utf8.first", laid_unicode_utf8_first)] }
def DerSetsSaid : Prop := derSetsRow.holds Tryd.pinned (OpenSpec.ofChange derSetsSpec)

/-- ITS FALSE NEIGHBOUR: 'it returns false'. Refute it at one input. -/
def derSetsWrong : ChangeSpec := { name := "derSets", fn := fun _ => fun
  | [d1, d2] => { results := [.lit (.bool false)], args := [d1, d2] }
  | _ => none }
def DerSetsWrongFalsely : Prop := derSetsRow.holds Tryd.pinned (OpenSpec.ofChange derSetsWrong)

/- THE SECOND FORM. 'bulk': how many values and letters a reading holds, each counted each time it is reached (what is shared counts as often as it is met; a slice's spare places count too). A statement '..UptoSaid' is the law's where the arguments, and the package variables that the reading takes, are together of bulk at most 1048576: NARROWER than '..Said'. Prove '..Said' where nothing that the law and all that it calls make is longer than what came in: it says more and counts as full. Else prove '..UptoSaid'. A law counts once. -/
mutual
def uptoBulk {H : Type} : DataW H → Nat
  | .lit (.string bytes) => bytes.length + 1
  | .lit _ => 1
  | .nil => 1
  | .ptr d => uptoBulk d + 1
  | .slice elems spare => uptoBulkAll elems + uptoBulkAll spare + 1
  | .agg parts => uptoBulkAll parts + 1
  | .iface _ d => uptoBulk d + 1
  | .map entries => uptoBulkEntries entries + 1
  | .held _ => 1
def uptoBulkAll {H : Type} : List (DataW H) → Nat
  | [] => 0
  | d :: r => uptoBulk d + uptoBulkAll r
def uptoBulkEntries {H : Type} : List (Lit × DataW H) → Nat
  | [] => 0
  | x :: r => uptoBulkEntry x + uptoBulkEntries r
def uptoBulkEntry {H : Type} : Lit × DataW H → Nat
  | (.string bytes, d) => bytes.length + uptoBulk d + 1
  | (_, d) => uptoBulk d + 1
 end
def uptoSmall : (H : Type) → List (DataW H) → Bool := fun _ ds => decide (uptoBulkAll ds ≤ 1048576)
def OpenSpec.upto (s : _root_.Go.ChangeSpec) : _root_.Go.OpenSpec := { _root_.Go.OpenSpec.ofChange s with cond := some uptoSmall }

/-- 'postmarklaw03.DerBack', WHERE WHAT IT READS IS OF BULK AT MOST 1048576: true; the input reads as it did. -/
def derBackUptoRow : OpenClaim := { program := "ytbmlbefpnieglaadoor", sum := "098450e89a4692d73d35595b65c7ddbf439394429e55ee27ae3c3e69efb23cbc", func := "postmark/postmarklaw03.DerBack", spec := "derBack", inPlace := ["internal/bytealg.Compare"], unfollowed := true, recurses := true, named := ["unicode/utf8.first", "unicode/utf8.acceptRanges"], loops := true, apart := false, laid := [("unicode/utf8.acceptRanges", laid_unicode_utf8_acceptRanges), ("unicode/utf8.first", laid_unicode_utf8_first)], narrowed := true }
def DerBackUptoSaid : Prop := derBackUptoRow.holds Tryd.pinned (OpenSpec.upto derBackSpec)

/-- 'postmarklaw03.DerCut', WHERE WHAT IT READS IS OF BULK AT MOST 1048576: true; the input reads as it did. -/
def derCutUptoRow : OpenClaim := { program := "ytbmlbefpnieglaadoor", sum := "098450e89a4692d73d35595b65c7ddbf439394429e55ee27ae3c3e69efb23cbc", func := "postmark/postmarklaw03.DerCut", spec := "derCut", inPlace := ["internal/bytealg.Compare"], unfollowed := true, recurses := true, named := ["unicode/utf8.first", "unicode/utf8.acceptRanges"], loops := true, apart := false, laid := [("unicode/utf8.acceptRanges", laid_unicode_utf8_acceptRanges), ("unicode/utf8.first", laid_unicode_utf8_first)], narrowed := true }
def DerCutUptoSaid : Prop := derCutUptoRow.holds Tryd.pinned (OpenSpec.upto derCutSpec)

/-- 'postmarklaw03.DerDeep', WHERE WHAT IT READS IS OF BULK AT MOST 1048576: true; the input reads as it did. -/
def derDeepUptoRow : OpenClaim := { program := "ytbmlbefpnieglaadoor", sum := "098450e89a4692d73d35595b65c7ddbf439394429e55ee27ae3c3e69efb23cbc", func := "postmark/postmarklaw03.DerDeep", spec := "derDeep", inPlace := ["internal/bytealg.Compare"], unfollowed := true, recurses := true, named := ["unicode/utf8.first", "unicode/utf8.acceptRanges"], apart := false, laid := [("unicode/utf8.acceptRanges", laid_unicode_utf8_acceptRanges), ("unicode/utf8.first", laid_unicode_utf8_first)], narrowed := true }
def DerDeepUptoSaid : Prop := derDeepUptoRow.holds Tryd.pinned (OpenSpec.upto derDeepSpec)

/-- 'postmarklaw03.DerLengths', WHERE WHAT IT READS IS OF BULK AT MOST 1048576: true; the input reads as it did. -/
def derLengthsUptoRow : OpenClaim := { program := "ytbmlbefpnieglaadoor", sum := "098450e89a4692d73d35595b65c7ddbf439394429e55ee27ae3c3e69efb23cbc", func := "postmark/postmarklaw03.DerLengths", spec := "derLengths", inPlace := ["internal/bytealg.Compare"], unfollowed := true, recurses := true, named := ["unicode/utf8.first", "unicode/utf8.acceptRanges"], apart := false, laid := [("unicode/utf8.acceptRanges", laid_unicode_utf8_acceptRanges), ("unicode/utf8.first", laid_unicode_utf8_first)], narrowed := true }
def DerLengthsUptoSaid : Prop := derLengthsUptoRow.holds Tryd.pinned (OpenSpec.upto derLengthsSpec)

/-- 'postmarklaw03.DerWrites', WHERE WHAT IT READS IS OF BULK AT MOST 1048576: true; the input reads as it did. -/
def derWritesUptoRow : OpenClaim := { program := "ytbmlbefpnieglaadoor", sum := "098450e89a4692d73d35595b65c7ddbf439394429e55ee27ae3c3e69efb23cbc", func := "postmark/postmarklaw03.DerWrites", spec := "derWrites", inPlace := ["internal/bytealg.Compare"], unfollowed := true, recurses := true, named := ["unicode/utf8.first", "unicode/utf8.acceptRanges"], loops := true, apart := false, laid := [("unicode/utf8.acceptRanges", laid_unicode_utf8_acceptRanges), ("unicode/utf8.first", laid_unicode_utf8_first)], narrowed := true }
def DerWritesUptoSaid : Prop := derWritesUptoRow.holds Tryd.pinned (OpenSpec.upto derWritesSpec)

/-- 'postmarklaw03.DerMakes', WHERE WHAT IT READS IS OF BULK AT MOST 1048576: true; the input reads as it did. -/
def derMakesUptoRow : OpenClaim := { program := "ytbmlbefpnieglaadoor", sum := "098450e89a4692d73d35595b65c7ddbf439394429e55ee27ae3c3e69efb23cbc", func := "postmark/postmarklaw03.DerMakes", spec := "derMakes", inPlace := ["internal/bytealg.Compare"], unfollowed := true, recurses := true, named := ["unicode/utf8.first", "unicode/utf8.acceptRanges"], loops := true, apart := false, laid := [("unicode/utf8.acceptRanges", laid_unicode_utf8_acceptRanges), ("unicode/utf8.first", laid_unicode_utf8_first)], narrowed := true }
def DerMakesUptoSaid : Prop := derMakesUptoRow.holds Tryd.pinned (OpenSpec.upto derMakesSpec)

/-- 'postmarklaw03.DerAsked', WHERE WHAT IT READS IS OF BULK AT MOST 1048576: true; the input reads as it did. -/
def derAskedUptoRow : OpenClaim := { program := "ytbmlbefpnieglaadoor", sum := "098450e89a4692d73d35595b65c7ddbf439394429e55ee27ae3c3e69efb23cbc", func := "postmark/postmarklaw03.DerAsked", spec := "derAsked", inPlace := ["internal/bytealg.Compare"], unfollowed := true, recurses := true, named := ["unicode/utf8.first", "unicode/utf8.acceptRanges"], loops := true, apart := false, laid := [("unicode/utf8.acceptRanges", laid_unicode_utf8_acceptRanges), ("unicode/utf8.first", laid_unicode_utf8_first)], narrowed := true }
def DerAskedUptoSaid : Prop := derAskedUptoRow.holds Tryd.pinned (OpenSpec.upto derAskedSpec)

/-- 'postmarklaw03.DerNumbers', WHERE WHAT IT READS IS OF BULK AT MOST 1048576: true; the input reads as it did. -/
def derNumbersUptoRow : OpenClaim := { program := "ytbmlbefpnieglaadoor", sum := "098450e89a4692d73d35595b65c7ddbf439394429e55ee27ae3c3e69efb23cbc", func := "postmark/postmarklaw03.DerNumbers", spec := "derNumbers", inPlace := ["internal/bytealg.Compare"], unfollowed := true, recurses := true, named := ["unicode/utf8.first", "unicode/utf8.acceptRanges"], apart := false, laid := [("unicode/utf8.acceptRanges", laid_unicode_utf8_acceptRanges), ("unicode/utf8.first", laid_unicode_utf8_first)], narrowed := true }
def DerNumbersUptoSaid : Prop := derNumbersUptoRow.holds Tryd.pinned (OpenSpec.upto derNumbersSpec)

/-- 'postmarklaw03.DerNumbersBack', WHERE WHAT IT READS IS OF BULK AT MOST 1048576: true; the input reads as it did. -/
def derNumbersBackUptoRow : OpenClaim := { program := "ytbmlbefpnieglaadoor", sum := "098450e89a4692d73d35595b65c7ddbf439394429e55ee27ae3c3e69efb23cbc", func := "postmark/postmarklaw03.DerNumbersBack", spec := "derNumbersBack", inPlace := ["internal/bytealg.Compare"], unfollowed := true, recurses := true, named := ["unicode/utf8.first", "unicode/utf8.acceptRanges"], apart := false, laid := [("unicode/utf8.acceptRanges", laid_unicode_utf8_acceptRanges), ("unicode/utf8.first", laid_unicode_utf8_first)], narrowed := true }
def DerNumbersBackUptoSaid : Prop := derNumbersBackUptoRow.holds Tryd.pinned (OpenSpec.upto derNumbersBackSpec)

/-- 'postmarklaw03.DerSets', WHERE WHAT IT READS IS OF BULK AT MOST 1048576: true; the input reads as it did. -/
def derSetsUptoRow : OpenClaim := { program := "ytbmlbefpnieglaadoor", sum := "098450e89a4692d73d35595b65c7ddbf439394429e55ee27ae3c3e69efb23cbc", func := "postmark/postmarklaw03.DerSets", spec := "derSets", inPlace := ["internal/bytealg.Compare"], unfollowed := true, recurses := true, named := ["unicode/utf8.first", "unicode/utf8.acceptRanges"], loops := true, apart := false, laid := [("unicode/utf8.acceptRanges", laid_unicode_utf8_acceptRanges), ("unicode/utf8.first", laid_unicode_utf8_first)], narrowed := true }
def DerSetsUptoSaid : Prop := derSetsUptoRow.holds Tryd.pinned (OpenSpec.upto derSetsSpec)

end Rows
end Go.Proofs.YtbmlbefpnieglaaDoor
