/- Walks: the reference's numbers: bits, bytes. -/
import Derived.Test.YtmngjbefnloljaaDoorNumC
set_option linter.unusedSimpArgs false
set_option linter.unusedVariables false
set_option linter.constructorNameAsVariable false
namespace Go.Proofs.YtmngjbefnloljaaDoor
open Go Go.RowKit
set_option maxRecDepth 100000



theorem ofNat_mod8 (n : Nat) : UInt8.ofNat (n % 256) = UInt8.ofNat n := by
  apply UInt8.toNat_inj.1
  simp
end Go.Proofs.YtmngjbefnloljaaDoor
