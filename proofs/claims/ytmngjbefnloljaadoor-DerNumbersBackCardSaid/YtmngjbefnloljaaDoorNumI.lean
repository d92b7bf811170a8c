/- Plain: what an integer's bytes say; the rules that der.IntOf wants. -/
import Derived.Test.YtmngjbefnloljaaDoorNumH
set_option linter.unusedSimpArgs false
set_option linter.unusedVariables false
set_option linter.constructorNameAsVariable false
namespace Go.Proofs.YtmngjbefnloljaaDoor
open Go Go.RowKit
theorem ib_at (n : Int) : ∀ (j i : Nat), i < j → byteAt (ibytes n j) i = (n / 256 ^ (j - 1 - i) % 256).toNat
  | j + 1, 0, _ => by rw [ib_top]; rfl
  | j + 1, i + 1, h => by
    have := ib_at n j i (by omega)
    rw [show j + 1 - 1 - (i + 1) = j - 1 - i by omega, ← this]
    rfl
theorem ib_step (n : Int) (j i : Nat) (h : i < j) : n / 256 ^ (j - (i + 1)) = n / 256 ^ (j - i) * 256 + byteAt (ibytes n j) i := by
  have hd := div_step n (j - (i + 1))
  rw [show j - (i + 1) + 1 = j - i by omega] at hd
  rw [ib_at n j i h, hd, show j - 1 - i = j - (i + 1) by omega]
  omega
theorem RunV.join256 {f : Fr} {S : Sig} {h : Part} {L : List Ent} {ty T yt : TypeId} {x y : Operand} {p q : Int} (hx : ev S x = some (.int .i64 p)) (hy : ev S y = some (.int .i64 q)) (hp : p % 256 = 0) (h0 : -9223372036854775808 ≤ p) (h1 : p ≤ 9223372036854775807) (hq0 : 0 ≤ q) (hq : q < 256) : RunV f S h L (.binOp .or T x y yt) ty (.int .i64 (p + q)) := by
  have := RunV.or_ (f := f) (h := h) (L := L) (ty := ty) (T := T) (yt := yt) hx hy
  rwa [bits_join256 p q hp h0 h1 hq0 hq] at this
end Go.Proofs.YtmngjbefnloljaaDoor
