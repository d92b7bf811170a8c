/- The table of closed facts on this program's types. -/
import Derived.Test.YtbmlbefpnieglaaDoorChecked
import Derived.Test.YtbmlbefpnieglaaDoorSht
set_option linter.unusedSimpArgs false
set_option linter.unusedVariables false
set_option linter.constructorNameAsVariable false
namespace Go.Proofs.YtbmlbefpnieglaaDoor
open Go Go.RowKit
instance tbl_ : Tbl Tryd.prog := ⟨[(22, 5, 1), (23, 25, 5), (50, 79, 1), (84, 99, 1), (86, 88, 6), (92, 22, 1)], [(25, 0, 0), (25, 1, 1), (25, 2, 2), (25, 3, 3), (25, 4, 4), (32, 0, 0), (32, 1, 1), (66, 0, 0), (66, 1, 1), (71, 0, 0), (71, 1, 1), (88, 0, 0), (88, 1, 1), (95, 0, 0)], by kernel_rfl, by kernel_rfl⟩
end Go.Proofs.YtbmlbefpnieglaaDoor
