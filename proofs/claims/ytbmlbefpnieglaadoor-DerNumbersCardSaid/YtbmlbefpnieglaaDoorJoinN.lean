/- The join: numbers of many digits as arguments. -/
import Derived.Test.YtbmlbefpnieglaaDoorJoinD
set_option linter.unusedSimpArgs false
set_option linter.unusedVariables false
set_option linter.constructorNameAsVariable false
namespace Go.Proofs.YtbmlbefpnieglaaDoor
open Go Go.RowKit Go.ChangeShapes Go.WideShapes Go.Lib Go.ChangeAt
theorem cells_u32 : Tryd.prog.cellsOf 79 = 1 := by kernel_rfl
theorem bytes_u32 : 0 < Tryd.prog.bytesOf 79 := Nat.lt_of_lt_of_eq (by decide : 0 < 4) (show 4 = Tryd.prog.bytesOf 79 by kernel_rfl)
theorem opens_nat (n : Nat) : Opens Tryd.prog (n + 1) 50 (slR u32R 1) 1 (fun l => (l.map fun _ => 1).sum + 1) := opens_slice Tryd.underlying50 cells_u32 (by decide) bytes_u32 (opens_u32 Tryd.underlying79)
def plainTsN : List TypeId := [79, 5, 3, 2, 4, 22, 50, 23, 25]
theorem plainTsN_ok : plainB Tryd.prog plainTsN = true := by kernel_rfl
end Go.Proofs.YtbmlbefpnieglaaDoor
