/- The table of closed facts on this program's types. -/
import Derived.Test.YtmngjbefnloljaaDoorChecked
import Derived.Test.YtmngjbefnloljaaDoorSht
set_option linter.unusedSimpArgs false
set_option linter.unusedVariables false
set_option linter.constructorNameAsVariable false
namespace Go.Proofs.YtmngjbefnloljaaDoor
open Go Go.RowKit
instance tbl_ : Tbl Tryd.prog := ⟨[(22, 5, 1), (23, 25, 5), (35, 69, 1), (75, 100, 1), (77, 80, 6), (84, 22, 1)], [(25, 0, 0), (25, 1, 1), (25, 2, 2), (25, 3, 3), (25, 4, 4), (52, 0, 0), (52, 1, 1), (52, 2, 2), (62, 0, 0), (62, 1, 1), (80, 0, 0), (80, 1, 1), (95, 0, 0), (95, 1, 1), (115, 0, 0), (175, 0, 0)], by kernel_rfl, by kernel_rfl⟩
end Go.Proofs.YtmngjbefnloljaaDoor
