/- 'or' of a multiple of 256 and a byte, whatever the sign. -/
import Derived.Test.YtmngjbefnloljaaDoorNumG
set_option linter.unusedSimpArgs false
set_option linter.unusedVariables false
set_option linter.constructorNameAsVariable false
namespace Go.Proofs.YtmngjbefnloljaaDoor
open Go Go.RowKit
theorem bits_join256 (x y : Int) (hx : x % 256 = 0) (hx0 : -9223372036854775808 ≤ x) (hx1 : x ≤ 9223372036854775807) (hy0 : 0 ≤ y) (hy1 : y < 256) : bits .or .i64 x y = x + y := by
  have e1 : (BitVec.ofInt 64 x).toNat = (x % 18446744073709551616).toNat := by rw [BitVec.toNat_ofInt]; rfl
  have e2 : (BitVec.ofInt 64 y).toNat = y.toNat := by rw [BitVec.toNat_ofInt, show (((2 ^ 64 : Nat) : Int)) = 18446744073709551616 from rfl]; omega
  show IntKind.i64.wrap (((BitVec.ofInt 64 x) ||| (BitVec.ofInt 64 y)).toNat : Nat) = x + y
  rw [BitVec.toNat_or, e1, e2]
  obtain ⟨q, hq⟩ : ∃ q : Nat, (x % 18446744073709551616).toNat = 2 ^ 8 * q := ⟨(x % 18446744073709551616).toNat / 256, by omega⟩
  rw [hq, ← Nat.two_pow_add_eq_or_of_lt (show y.toNat < 2 ^ 8 by omega) q, IntKind.wrap_i64]
  omega
end Go.Proofs.YtmngjbefnloljaaDoor
