/- The join: numbers of many digits as arguments. -/
import Derived.Test.YtmngjbefnloljaaDoorJoinD
set_option linter.unusedSimpArgs false
set_option linter.unusedVariables false
set_option linter.constructorNameAsVariable false
namespace Go.Proofs.YtmngjbefnloljaaDoor
open Go Go.RowKit Go.ChangeShapes Go.WideShapes Go.Lib Go.ChangeAt
theorem cells_u32 : Tryd.prog.cellsOf 69 = 1 := by kernel_rfl
theorem bytes_u32 : 0 < Tryd.prog.bytesOf 69 := Nat.lt_of_lt_of_eq (by decide : 0 < 4) (show 4 = Tryd.prog.bytesOf 69 by kernel_rfl)
theorem opens_nat (n : Nat) : Opens Tryd.prog (n + 1) 35 (slR u32R 1) 1 (fun l => (l.map fun _ => 1).sum + 1) := opens_slice Tryd.underlying35 cells_u32 (by decide) bytes_u32 (opens_u32 Tryd.underlying69)
def plainTsN : List TypeId := [69, 5, 3, 2, 4, 22, 35, 23, 25]
theorem plainTsN_ok : plainB Tryd.prog plainTsN = true := by kernel_rfl
end Go.Proofs.YtmngjbefnloljaaDoor
