/- What each kind of operation yields: numbers, bools, addresses, fields. -/
import Derived.Test.YtmngjbefnloljaaDoorOps
set_option linter.unusedSimpArgs false
set_option linter.unusedVariables false
set_option linter.constructorNameAsVariable false
namespace Go.Proofs.YtmngjbefnloljaaDoor
open Go Go.RowKit

/-! closed facts on types -/
def convI (P : Program) (src dst : TypeId) : Option IntKind :=
  match (P.underlying src).isSome, P.underlying dst with
  | true, some (.int k) => some k
  | _, _ => none
def fieldOff (P : Program) (T i : Nat) : Option Nat :=
  match P.underlying T with
  | some (.struct fs) => match fs[i]? with
    | some fd => match P.info? fd.type with
      | some inf => if inf.size = 0 then none else some fd.offset
      | none => none
    | none => none
  | _ => none

section
variable {f : Fr} {S : Sig} {h : Part} {L : List Ent} {ty : TypeId}

theorem RunV.move {x : Operand} {v : Value} (hx : ev S x = some v) : RunV f S h L (.move x) ty v := fun a w s _ _ _ _ => by simp [execOp, s.eval hx]
theorem RunV.assign {x : Operand} {v : Value} (hx : ev S x = some v) : RunV f S h L (.assign x) ty v := fun a w s _ _ _ _ => by simp [execOp, s.eval hx]
theorem RunV.pick_t {c x y : Operand} {v : Value} (hc : ev S c = some (.bool true)) (hx : ev S x = some v) : RunV f S h L (.pick c x y) ty v := fun a w s _ _ _ _ => by simp [execOp, s.eval hx, s.eval hc, asBool]
theorem RunV.pick_f {c x y : Operand} {v : Value} (hc : ev S c = some (.bool false)) (hx : ev S y = some v) : RunV f S h L (.pick c x y) ty v := fun a w s _ _ _ _ => by simp [execOp, s.eval hx, s.eval hc, asBool]
theorem RunV.not_ {x : Operand} {b : Bool} {T : TypeId} (hx : ev S x = some (.bool b)) : RunV f S h L (.unOp .not T x) ty (.bool (!b)) := fun a w s _ _ _ _ => by simp [execOp, s.eval hx, Op.unary]
theorem RunV.nilCheck {x : Operand} {a0 : Addr} (hx : ev S x = some (.pointer (some a0))) : RunV f S h L (.nilCheck x) ty (.pointer (some a0)) := fun a w s _ _ _ _ => by simp [execOp, s.eval hx]
theorem RunV.extract {x : Operand} {vs : Array Value} {i : Nat} {v : Value} (hx : ev S x = some (.tuple vs)) (hi : vs[i]? = some v) : RunV f S h L (.extract x i) ty v := fun a w s _ _ _ _ => by simp [execOp, s.eval hx, Instr.extract, hi]

theorem RunV.bin {o : BinOp} {T yt : TypeId} {x y : Operand} {u v r : Value} (hx : ev S x = some u) (hy : ev S y = some v)
    (hr : ∀ w, (do eqGuard o T x y u v; binOp o T u v : Sem Value).run f.P w = .ok r w) : RunV f S h L (.binOp o T x y yt) ty r := fun a w s _ _ _ _ => by
  have := hr w
  simp only [execOp, s.eval hx, s.eval hy]
  simp only [Sem.run_bind] at this ⊢
  cases hg : (eqGuard o T x y u v).run f.P w with
  | halt hh w' => rw [hg] at this; cases this
  | ok u' w' =>
    rw [hg] at this
    simp only [Result.andThen] at this ⊢
    rw [this]
    simp

section ints
variable {T yt : TypeId} {x y : Operand} {k : IntKind} {p q : Int}
theorem RunV.add (hx : ev S x = some (.int k p)) (hy : ev S y = some (.int k q)) : RunV f S h L (.binOp .add T x y yt) ty (.int k (k.wrap (p + q))) := RunV.bin hx hy fun w => by simp [go_sem, Op.intArith]
theorem RunV.sub (hx : ev S x = some (.int k p)) (hy : ev S y = some (.int k q)) : RunV f S h L (.binOp .sub T x y yt) ty (.int k (k.wrap (p - q))) := RunV.bin hx hy fun w => by simp [go_sem, Op.intArith]
theorem RunV.mul (hx : ev S x = some (.int k p)) (hy : ev S y = some (.int k q)) : RunV f S h L (.binOp .mul T x y yt) ty (.int k (k.wrap (p * q))) := RunV.bin hx hy fun w => by simp [go_sem, Op.intArith]
theorem RunV.quo (hx : ev S x = some (.int k p)) (hy : ev S y = some (.int k q)) (hq : q ≠ 0) : RunV f S h L (.binOp .quo T x y yt) ty (.int k (k.wrap (p.tdiv q))) := RunV.bin hx hy fun w => by simp [go_sem, Op.intDiv, hq]
theorem RunV.rem (hx : ev S x = some (.int k p)) (hy : ev S y = some (.int k q)) (hq : q ≠ 0) : RunV f S h L (.binOp .rem T x y yt) ty (.int k (p.tmod q)) := RunV.bin hx hy fun w => by simp [go_sem, Op.intDiv, hq]
theorem RunV.and_ (hx : ev S x = some (.int k p)) (hy : ev S y = some (.int k q)) : RunV f S h L (.binOp .and T x y yt) ty (.int k (bits .and k p q)) := RunV.bin hx hy fun w => by simp [go_sem]
theorem RunV.or_ (hx : ev S x = some (.int k p)) (hy : ev S y = some (.int k q)) : RunV f S h L (.binOp .or T x y yt) ty (.int k (bits .or k p q)) := RunV.bin hx hy fun w => by simp [go_sem]
theorem RunV.xor_ (hx : ev S x = some (.int k p)) (hy : ev S y = some (.int k q)) : RunV f S h L (.binOp .xor T x y yt) ty (.int k (bits .xor k p q)) := RunV.bin hx hy fun w => by simp [go_sem]
theorem RunV.andNot (hx : ev S x = some (.int k p)) (hy : ev S y = some (.int k q)) : RunV f S h L (.binOp .andNot T x y yt) ty (.int k (bits .andNot k p q)) := RunV.bin hx hy fun w => by simp [go_sem]
theorem RunV.shr {yk : IntKind} (hx : ev S x = some (.int k p)) (hy : ev S y = some (.int yk q)) (h0 : 0 ≤ q) (h1 : q ≤ k.bits) : RunV f S h L (.binOp .shr T x y yt) ty (.int k (p / 2 ^ q.toNat)) :=
  RunV.bin hx hy fun w => by rw [binOp_shr, shift_shr k yk p q h0 h1]; simp [go_sem]
theorem RunV.shl {yk : IntKind} (hx : ev S x = some (.int k p)) (hy : ev S y = some (.int yk q)) (h0 : 0 ≤ q) (h1 : q ≤ k.bits) : RunV f S h L (.binOp .shl T x y yt) ty (.int k (k.wrap (p * 2 ^ q.toNat))) :=
  RunV.bin hx hy fun w => by rw [binOp_shl, shift_shl k yk p q h0 h1]; simp [go_sem]
theorem RunV.lss (hx : ev S x = some (.int k p)) (hy : ev S y = some (.int k q)) : RunV f S h L (.binOp .lss T x y yt) ty (.bool (decide (p < q))) := RunV.bin hx hy fun w => by simp [go_sem]
theorem RunV.leq (hx : ev S x = some (.int k p)) (hy : ev S y = some (.int k q)) : RunV f S h L (.binOp .leq T x y yt) ty (.bool (decide (p ≤ q))) := RunV.bin hx hy fun w => by simp [go_sem]
theorem RunV.gtr (hx : ev S x = some (.int k p)) (hy : ev S y = some (.int k q)) : RunV f S h L (.binOp .gtr T x y yt) ty (.bool (decide (q < p))) := RunV.bin hx hy fun w => by simp [go_sem]
theorem RunV.geq (hx : ev S x = some (.int k p)) (hy : ev S y = some (.int k q)) : RunV f S h L (.binOp .geq T x y yt) ty (.bool (decide (q ≤ p))) := RunV.bin hx hy fun w => by simp [go_sem]
theorem RunV.eql (hx : ev S x = some (.int k p)) (hy : ev S y = some (.int k q)) : RunV f S h L (.binOp .eql T x y yt) ty (.bool (decide (p = q))) := RunV.bin hx hy fun w => by simp [go_sem]; rfl
theorem RunV.neq (hx : ev S x = some (.int k p)) (hy : ev S y = some (.int k q)) : RunV f S h L (.binOp .neq T x y yt) ty (.bool (decide (p ≠ q))) := RunV.bin hx hy fun w => by simp [go_sem]; by_cases hpq : p = q <;> simp [hpq, bne]
theorem RunV.neg (hx : ev S x = some (.int k p)) : RunV f S h L (.unOp .neg T x) ty (.int k (k.wrap (-p))) := fun a w s _ _ _ _ => by simp [execOp, s.eval hx, Op.unary, Op.intArith]
/-- A conversion between kinds of integers. -/
theorem RunV.conv {src dst : TypeId} {k' : IntKind} (hc : convI f.P src dst = some k') (hx : ev S x = some (.int k p)) :
    RunV f S h L (.convert src dst x) ty (.int k' (k'.wrap p)) := fun a w s _ _ _ _ => by
  unfold convI at hc
  split at hc <;> try cases hc
  rename_i k0 hs hd
  obtain ⟨ds, hs⟩ := Option.isSome_iff_exists.1 hs
  simp [execOp, s.eval hx, convert, run_underlying hs, run_underlying hd, Conv.intToInt]
end ints

section bools
variable {T yt : TypeId} {x y : Operand} {p q : Bool}
theorem RunV.eqlB (hT : f.P.underlying T = some .bool) (hx : ev S x = some (.bool p)) (hy : ev S y = some (.bool q)) : RunV f S h L (.binOp .eql T x y yt) ty (.bool (p == q)) :=
  RunV.bin hx hy fun w => by simp [go_sem, run_eql_bool w T p q hT]
theorem RunV.neqB (hT : f.P.underlying T = some .bool) (hx : ev S x = some (.bool p)) (hy : ev S y = some (.bool q)) : RunV f S h L (.binOp .neq T x y yt) ty (.bool (!(p == q))) :=
  RunV.bin hx hy fun w => by simp [go_sem, run_neq_bool w T p q hT]
end bools

/-- A field's address. -/
theorem RunV.fieldAddr {T : TypeId} {x : Operand} {i o : Nat} {a0 : Addr} (hf : fieldOff f.P T i = some o) (hx : ev S x = some (.pointer (some a0))) : RunV f S h L (.fieldAddr T x i) ty (.pointer (some (a0.add o))) := fun a w s _ _ _ _ => by
  unfold fieldOff at hf
  split at hf <;> try cases hf
  rename_i fs hT
  split at hf <;> try cases hf
  rename_i fd hfd
  split at hf <;> try cases hf
  rename_i inf hi
  split at hf <;> cases hf
  rename_i hz
  simp [execOp, s.eval hx, Instr.fieldAt, run_underlying hT, hfd, Instr.sureAddr, fieldPlace, sizeOf, typeInfo, hi, hz]
end
theorem wrap_i64 (n : Int) (h0 : -9223372036854775808 ≤ n) (h1 : n ≤ 9223372036854775807) : IntKind.i64.wrap n = n := by unfold IntKind.wrap; simp [IntKind.signed, IntKind.bits]; omega
theorem wrap_i32 (n : Int) (h0 : -2147483648 ≤ n) (h1 : n ≤ 2147483647) : IntKind.i32.wrap n = n := by unfold IntKind.wrap; simp [IntKind.signed, IntKind.bits]; omega
theorem wrap_u8 (n : Int) (h0 : 0 ≤ n) (h1 : n ≤ 255) : IntKind.u8.wrap n = n := by unfold IntKind.wrap; simp [IntKind.signed, IntKind.bits]; omega
theorem wrap_u16 (n : Int) (h0 : 0 ≤ n) (h1 : n ≤ 65535) : IntKind.u16.wrap n = n := by unfold IntKind.wrap; simp [IntKind.signed, IntKind.bits]; omega
theorem wrap_u32 (n : Int) (h0 : 0 ≤ n) (h1 : n ≤ 4294967295) : IntKind.u32.wrap n = n := by unfold IntKind.wrap; simp [IntKind.signed, IntKind.bits]; omega
theorem wrap_u64 (n : Int) (h0 : 0 ≤ n) (h1 : n ≤ 18446744073709551615) : IntKind.u64.wrap n = n := by unfold IntKind.wrap; simp [IntKind.signed, IntKind.bits]; omega
theorem RunV.add_i64 {f : Fr} {S : Sig} {h : Part} {L : List Ent} {ty T yt : TypeId} {x y : Operand} {p q : Int} (hx : ev S x = some (.int .i64 p)) (hy : ev S y = some (.int .i64 q)) (h0 : -9223372036854775808 ≤ p + q) (h1 : p + q ≤ 9223372036854775807) : RunV f S h L (.binOp .add T x y yt) ty (.int .i64 (p + q)) := by
  have := RunV.add (f := f) (h := h) (L := L) (ty := ty) (T := T) (yt := yt) hx hy
  rwa [wrap_i64 _ h0 h1] at this
theorem RunV.add_i32 {f : Fr} {S : Sig} {h : Part} {L : List Ent} {ty T yt : TypeId} {x y : Operand} {p q : Int} (hx : ev S x = some (.int .i32 p)) (hy : ev S y = some (.int .i32 q)) (h0 : -2147483648 ≤ p + q) (h1 : p + q ≤ 2147483647) : RunV f S h L (.binOp .add T x y yt) ty (.int .i32 (p + q)) := by
  have := RunV.add (f := f) (h := h) (L := L) (ty := ty) (T := T) (yt := yt) hx hy
  rwa [wrap_i32 _ h0 h1] at this
theorem RunV.add_u8 {f : Fr} {S : Sig} {h : Part} {L : List Ent} {ty T yt : TypeId} {x y : Operand} {p q : Int} (hx : ev S x = some (.int .u8 p)) (hy : ev S y = some (.int .u8 q)) (h0 : 0 ≤ p + q) (h1 : p + q ≤ 255) : RunV f S h L (.binOp .add T x y yt) ty (.int .u8 (p + q)) := by
  have := RunV.add (f := f) (h := h) (L := L) (ty := ty) (T := T) (yt := yt) hx hy
  rwa [wrap_u8 _ h0 h1] at this
theorem RunV.add_u16 {f : Fr} {S : Sig} {h : Part} {L : List Ent} {ty T yt : TypeId} {x y : Operand} {p q : Int} (hx : ev S x = some (.int .u16 p)) (hy : ev S y = some (.int .u16 q)) (h0 : 0 ≤ p + q) (h1 : p + q ≤ 65535) : RunV f S h L (.binOp .add T x y yt) ty (.int .u16 (p + q)) := by
  have := RunV.add (f := f) (h := h) (L := L) (ty := ty) (T := T) (yt := yt) hx hy
  rwa [wrap_u16 _ h0 h1] at this
theorem RunV.add_u32 {f : Fr} {S : Sig} {h : Part} {L : List Ent} {ty T yt : TypeId} {x y : Operand} {p q : Int} (hx : ev S x = some (.int .u32 p)) (hy : ev S y = some (.int .u32 q)) (h0 : 0 ≤ p + q) (h1 : p + q ≤ 4294967295) : RunV f S h L (.binOp .add T x y yt) ty (.int .u32 (p + q)) := by
  have := RunV.add (f := f) (h := h) (L := L) (ty := ty) (T := T) (yt := yt) hx hy
  rwa [wrap_u32 _ h0 h1] at this
theorem RunV.add_u64 {f : Fr} {S : Sig} {h : Part} {L : List Ent} {ty T yt : TypeId} {x y : Operand} {p q : Int} (hx : ev S x = some (.int .u64 p)) (hy : ev S y = some (.int .u64 q)) (h0 : 0 ≤ p + q) (h1 : p + q ≤ 18446744073709551615) : RunV f S h L (.binOp .add T x y yt) ty (.int .u64 (p + q)) := by
  have := RunV.add (f := f) (h := h) (L := L) (ty := ty) (T := T) (yt := yt) hx hy
  rwa [wrap_u64 _ h0 h1] at this
theorem RunV.sub_i64 {f : Fr} {S : Sig} {h : Part} {L : List Ent} {ty T yt : TypeId} {x y : Operand} {p q : Int} (hx : ev S x = some (.int .i64 p)) (hy : ev S y = some (.int .i64 q)) (h0 : -9223372036854775808 ≤ p - q) (h1 : p - q ≤ 9223372036854775807) : RunV f S h L (.binOp .sub T x y yt) ty (.int .i64 (p - q)) := by
  have := RunV.sub (f := f) (h := h) (L := L) (ty := ty) (T := T) (yt := yt) hx hy
  rwa [wrap_i64 _ h0 h1] at this
theorem RunV.sub_i32 {f : Fr} {S : Sig} {h : Part} {L : List Ent} {ty T yt : TypeId} {x y : Operand} {p q : Int} (hx : ev S x = some (.int .i32 p)) (hy : ev S y = some (.int .i32 q)) (h0 : -2147483648 ≤ p - q) (h1 : p - q ≤ 2147483647) : RunV f S h L (.binOp .sub T x y yt) ty (.int .i32 (p - q)) := by
  have := RunV.sub (f := f) (h := h) (L := L) (ty := ty) (T := T) (yt := yt) hx hy
  rwa [wrap_i32 _ h0 h1] at this
theorem RunV.sub_u8 {f : Fr} {S : Sig} {h : Part} {L : List Ent} {ty T yt : TypeId} {x y : Operand} {p q : Int} (hx : ev S x = some (.int .u8 p)) (hy : ev S y = some (.int .u8 q)) (h0 : 0 ≤ p - q) (h1 : p - q ≤ 255) : RunV f S h L (.binOp .sub T x y yt) ty (.int .u8 (p - q)) := by
  have := RunV.sub (f := f) (h := h) (L := L) (ty := ty) (T := T) (yt := yt) hx hy
  rwa [wrap_u8 _ h0 h1] at this
theorem RunV.sub_u16 {f : Fr} {S : Sig} {h : Part} {L : List Ent} {ty T yt : TypeId} {x y : Operand} {p q : Int} (hx : ev S x = some (.int .u16 p)) (hy : ev S y = some (.int .u16 q)) (h0 : 0 ≤ p - q) (h1 : p - q ≤ 65535) : RunV f S h L (.binOp .sub T x y yt) ty (.int .u16 (p - q)) := by
  have := RunV.sub (f := f) (h := h) (L := L) (ty := ty) (T := T) (yt := yt) hx hy
  rwa [wrap_u16 _ h0 h1] at this
theorem RunV.sub_u32 {f : Fr} {S : Sig} {h : Part} {L : List Ent} {ty T yt : TypeId} {x y : Operand} {p q : Int} (hx : ev S x = some (.int .u32 p)) (hy : ev S y = some (.int .u32 q)) (h0 : 0 ≤ p - q) (h1 : p - q ≤ 4294967295) : RunV f S h L (.binOp .sub T x y yt) ty (.int .u32 (p - q)) := by
  have := RunV.sub (f := f) (h := h) (L := L) (ty := ty) (T := T) (yt := yt) hx hy
  rwa [wrap_u32 _ h0 h1] at this
theorem RunV.sub_u64 {f : Fr} {S : Sig} {h : Part} {L : List Ent} {ty T yt : TypeId} {x y : Operand} {p q : Int} (hx : ev S x = some (.int .u64 p)) (hy : ev S y = some (.int .u64 q)) (h0 : 0 ≤ p - q) (h1 : p - q ≤ 18446744073709551615) : RunV f S h L (.binOp .sub T x y yt) ty (.int .u64 (p - q)) := by
  have := RunV.sub (f := f) (h := h) (L := L) (ty := ty) (T := T) (yt := yt) hx hy
  rwa [wrap_u64 _ h0 h1] at this
theorem RunV.mul_i64 {f : Fr} {S : Sig} {h : Part} {L : List Ent} {ty T yt : TypeId} {x y : Operand} {p q : Int} (hx : ev S x = some (.int .i64 p)) (hy : ev S y = some (.int .i64 q)) (h0 : -9223372036854775808 ≤ p * q) (h1 : p * q ≤ 9223372036854775807) : RunV f S h L (.binOp .mul T x y yt) ty (.int .i64 (p * q)) := by
  have := RunV.mul (f := f) (h := h) (L := L) (ty := ty) (T := T) (yt := yt) hx hy
  rwa [wrap_i64 _ h0 h1] at this
theorem RunV.mul_i32 {f : Fr} {S : Sig} {h : Part} {L : List Ent} {ty T yt : TypeId} {x y : Operand} {p q : Int} (hx : ev S x = some (.int .i32 p)) (hy : ev S y = some (.int .i32 q)) (h0 : -2147483648 ≤ p * q) (h1 : p * q ≤ 2147483647) : RunV f S h L (.binOp .mul T x y yt) ty (.int .i32 (p * q)) := by
  have := RunV.mul (f := f) (h := h) (L := L) (ty := ty) (T := T) (yt := yt) hx hy
  rwa [wrap_i32 _ h0 h1] at this
theorem RunV.mul_u8 {f : Fr} {S : Sig} {h : Part} {L : List Ent} {ty T yt : TypeId} {x y : Operand} {p q : Int} (hx : ev S x = some (.int .u8 p)) (hy : ev S y = some (.int .u8 q)) (h0 : 0 ≤ p * q) (h1 : p * q ≤ 255) : RunV f S h L (.binOp .mul T x y yt) ty (.int .u8 (p * q)) := by
  have := RunV.mul (f := f) (h := h) (L := L) (ty := ty) (T := T) (yt := yt) hx hy
  rwa [wrap_u8 _ h0 h1] at this
theorem RunV.mul_u16 {f : Fr} {S : Sig} {h : Part} {L : List Ent} {ty T yt : TypeId} {x y : Operand} {p q : Int} (hx : ev S x = some (.int .u16 p)) (hy : ev S y = some (.int .u16 q)) (h0 : 0 ≤ p * q) (h1 : p * q ≤ 65535) : RunV f S h L (.binOp .mul T x y yt) ty (.int .u16 (p * q)) := by
  have := RunV.mul (f := f) (h := h) (L := L) (ty := ty) (T := T) (yt := yt) hx hy
  rwa [wrap_u16 _ h0 h1] at this
theorem RunV.mul_u32 {f : Fr} {S : Sig} {h : Part} {L : List Ent} {ty T yt : TypeId} {x y : Operand} {p q : Int} (hx : ev S x = some (.int .u32 p)) (hy : ev S y = some (.int .u32 q)) (h0 : 0 ≤ p * q) (h1 : p * q ≤ 4294967295) : RunV f S h L (.binOp .mul T x y yt) ty (.int .u32 (p * q)) := by
  have := RunV.mul (f := f) (h := h) (L := L) (ty := ty) (T := T) (yt := yt) hx hy
  rwa [wrap_u32 _ h0 h1] at this
theorem RunV.mul_u64 {f : Fr} {S : Sig} {h : Part} {L : List Ent} {ty T yt : TypeId} {x y : Operand} {p q : Int} (hx : ev S x = some (.int .u64 p)) (hy : ev S y = some (.int .u64 q)) (h0 : 0 ≤ p * q) (h1 : p * q ≤ 18446744073709551615) : RunV f S h L (.binOp .mul T x y yt) ty (.int .u64 (p * q)) := by
  have := RunV.mul (f := f) (h := h) (L := L) (ty := ty) (T := T) (yt := yt) hx hy
  rwa [wrap_u64 _ h0 h1] at this
theorem RunV.conv_i64 {f : Fr} {S : Sig} {h : Part} {L : List Ent} {ty src dst : TypeId} {x : Operand} {k : IntKind} {p : Int} (hc : convI f.P src dst = some .i64) (hx : ev S x = some (.int k p)) (h0 : -9223372036854775808 ≤ p) (h1 : p ≤ 9223372036854775807) : RunV f S h L (.convert src dst x) ty (.int .i64 p) := by
  have := RunV.conv (f := f) (h := h) (L := L) (ty := ty) hc hx
  rwa [wrap_i64 _ h0 h1] at this
theorem RunV.convb_i64 {f : Fr} {S : Sig} {h : Part} {L : List Ent} {ty src dst : TypeId} {x : Operand} {k : IntKind} {b : UInt8} (hc : convI f.P src dst = some .i64) (hx : ev S x = some (.int k (b.toNat : Int))) : RunV f S h L (.convert src dst x) ty (.int .i64 (b.toNat : Int)) := by
  have := UInt8.toNat_lt b
  exact RunV.conv_i64 hc hx (by omega) (by omega)
theorem RunV.conv_i32 {f : Fr} {S : Sig} {h : Part} {L : List Ent} {ty src dst : TypeId} {x : Operand} {k : IntKind} {p : Int} (hc : convI f.P src dst = some .i32) (hx : ev S x = some (.int k p)) (h0 : -2147483648 ≤ p) (h1 : p ≤ 2147483647) : RunV f S h L (.convert src dst x) ty (.int .i32 p) := by
  have := RunV.conv (f := f) (h := h) (L := L) (ty := ty) hc hx
  rwa [wrap_i32 _ h0 h1] at this
theorem RunV.convb_i32 {f : Fr} {S : Sig} {h : Part} {L : List Ent} {ty src dst : TypeId} {x : Operand} {k : IntKind} {b : UInt8} (hc : convI f.P src dst = some .i32) (hx : ev S x = some (.int k (b.toNat : Int))) : RunV f S h L (.convert src dst x) ty (.int .i32 (b.toNat : Int)) := by
  have := UInt8.toNat_lt b
  exact RunV.conv_i32 hc hx (by omega) (by omega)
theorem RunV.conv_u8 {f : Fr} {S : Sig} {h : Part} {L : List Ent} {ty src dst : TypeId} {x : Operand} {k : IntKind} {p : Int} (hc : convI f.P src dst = some .u8) (hx : ev S x = some (.int k p)) (h0 : 0 ≤ p) (h1 : p ≤ 255) : RunV f S h L (.convert src dst x) ty (.int .u8 p) := by
  have := RunV.conv (f := f) (h := h) (L := L) (ty := ty) hc hx
  rwa [wrap_u8 _ h0 h1] at this
theorem RunV.conv_u16 {f : Fr} {S : Sig} {h : Part} {L : List Ent} {ty src dst : TypeId} {x : Operand} {k : IntKind} {p : Int} (hc : convI f.P src dst = some .u16) (hx : ev S x = some (.int k p)) (h0 : 0 ≤ p) (h1 : p ≤ 65535) : RunV f S h L (.convert src dst x) ty (.int .u16 p) := by
  have := RunV.conv (f := f) (h := h) (L := L) (ty := ty) hc hx
  rwa [wrap_u16 _ h0 h1] at this
theorem RunV.convb_u16 {f : Fr} {S : Sig} {h : Part} {L : List Ent} {ty src dst : TypeId} {x : Operand} {k : IntKind} {b : UInt8} (hc : convI f.P src dst = some .u16) (hx : ev S x = some (.int k (b.toNat : Int))) : RunV f S h L (.convert src dst x) ty (.int .u16 (b.toNat : Int)) := by
  have := UInt8.toNat_lt b
  exact RunV.conv_u16 hc hx (by omega) (by omega)
theorem RunV.conv_u32 {f : Fr} {S : Sig} {h : Part} {L : List Ent} {ty src dst : TypeId} {x : Operand} {k : IntKind} {p : Int} (hc : convI f.P src dst = some .u32) (hx : ev S x = some (.int k p)) (h0 : 0 ≤ p) (h1 : p ≤ 4294967295) : RunV f S h L (.convert src dst x) ty (.int .u32 p) := by
  have := RunV.conv (f := f) (h := h) (L := L) (ty := ty) hc hx
  rwa [wrap_u32 _ h0 h1] at this
theorem RunV.convb_u32 {f : Fr} {S : Sig} {h : Part} {L : List Ent} {ty src dst : TypeId} {x : Operand} {k : IntKind} {b : UInt8} (hc : convI f.P src dst = some .u32) (hx : ev S x = some (.int k (b.toNat : Int))) : RunV f S h L (.convert src dst x) ty (.int .u32 (b.toNat : Int)) := by
  have := UInt8.toNat_lt b
  exact RunV.conv_u32 hc hx (by omega) (by omega)
theorem RunV.conv_u64 {f : Fr} {S : Sig} {h : Part} {L : List Ent} {ty src dst : TypeId} {x : Operand} {k : IntKind} {p : Int} (hc : convI f.P src dst = some .u64) (hx : ev S x = some (.int k p)) (h0 : 0 ≤ p) (h1 : p ≤ 18446744073709551615) : RunV f S h L (.convert src dst x) ty (.int .u64 p) := by
  have := RunV.conv (f := f) (h := h) (L := L) (ty := ty) hc hx
  rwa [wrap_u64 _ h0 h1] at this
theorem RunV.convb_u64 {f : Fr} {S : Sig} {h : Part} {L : List Ent} {ty src dst : TypeId} {x : Operand} {k : IntKind} {b : UInt8} (hc : convI f.P src dst = some .u64) (hx : ev S x = some (.int k (b.toNat : Int))) : RunV f S h L (.convert src dst x) ty (.int .u64 (b.toNat : Int)) := by
  have := UInt8.toNat_lt b
  exact RunV.conv_u64 hc hx (by omega) (by omega)
theorem RunV.convw_i64 {f : Fr} {S : Sig} {h : Part} {L : List Ent} {ty src dst : TypeId} {x : Operand} {k : IntKind} {b : UInt32} (hc : convI f.P src dst = some .i64) (hx : ev S x = some (.int k (b.toNat : Int))) : RunV f S h L (.convert src dst x) ty (.int .i64 (b.toNat : Int)) := by
  have := UInt32.toNat_lt b
  exact RunV.conv_i64 hc hx (by omega) (by omega)
theorem RunV.convw_u64 {f : Fr} {S : Sig} {h : Part} {L : List Ent} {ty src dst : TypeId} {x : Operand} {k : IntKind} {b : UInt32} (hc : convI f.P src dst = some .u64) (hx : ev S x = some (.int k (b.toNat : Int))) : RunV f S h L (.convert src dst x) ty (.int .u64 (b.toNat : Int)) := by
  have := UInt32.toNat_lt b
  exact RunV.conv_u64 hc hx (by omega) (by omega)
theorem RunV.quo_i64 {f : Fr} {S : Sig} {h : Part} {L : List Ent} {ty T yt : TypeId} {x y : Operand} {p q : Int} (hx : ev S x = some (.int .i64 p)) (hy : ev S y = some (.int .i64 q)) (h0 : 0 ≤ p) (h1 : p ≤ 9223372036854775807) (hq : 0 < q) : RunV f S h L (.binOp .quo T x y yt) ty (.int .i64 (p / q)) := by
  have := RunV.quo (f := f) (h := h) (L := L) (ty := ty) (T := T) (yt := yt) hx hy (by omega)
  have h2 : 0 ≤ p / q := Int.ediv_nonneg h0 (by omega)
  have h3 : p / q ≤ p := Int.ediv_le_self _ h0
  rwa [Int.tdiv_eq_ediv_of_nonneg h0, wrap_i64 _ (by omega) (by omega)] at this
theorem RunV.rem_i64 {f : Fr} {S : Sig} {h : Part} {L : List Ent} {ty T yt : TypeId} {x y : Operand} {p q : Int} (hx : ev S x = some (.int .i64 p)) (hy : ev S y = some (.int .i64 q)) (h0 : 0 ≤ p) (hq : 0 < q) : RunV f S h L (.binOp .rem T x y yt) ty (.int .i64 (p % q)) := by
  have := RunV.rem (f := f) (h := h) (L := L) (ty := ty) (T := T) (yt := yt) hx hy (by omega)
  rwa [Int.tmod_eq_emod_of_nonneg h0] at this
theorem RunV.quo_i32 {f : Fr} {S : Sig} {h : Part} {L : List Ent} {ty T yt : TypeId} {x y : Operand} {p q : Int} (hx : ev S x = some (.int .i32 p)) (hy : ev S y = some (.int .i32 q)) (h0 : 0 ≤ p) (h1 : p ≤ 2147483647) (hq : 0 < q) : RunV f S h L (.binOp .quo T x y yt) ty (.int .i32 (p / q)) := by
  have := RunV.quo (f := f) (h := h) (L := L) (ty := ty) (T := T) (yt := yt) hx hy (by omega)
  have h2 : 0 ≤ p / q := Int.ediv_nonneg h0 (by omega)
  have h3 : p / q ≤ p := Int.ediv_le_self _ h0
  rwa [Int.tdiv_eq_ediv_of_nonneg h0, wrap_i32 _ (by omega) (by omega)] at this
theorem RunV.rem_i32 {f : Fr} {S : Sig} {h : Part} {L : List Ent} {ty T yt : TypeId} {x y : Operand} {p q : Int} (hx : ev S x = some (.int .i32 p)) (hy : ev S y = some (.int .i32 q)) (h0 : 0 ≤ p) (hq : 0 < q) : RunV f S h L (.binOp .rem T x y yt) ty (.int .i32 (p % q)) := by
  have := RunV.rem (f := f) (h := h) (L := L) (ty := ty) (T := T) (yt := yt) hx hy (by omega)
  rwa [Int.tmod_eq_emod_of_nonneg h0] at this
theorem RunV.quo_u8 {f : Fr} {S : Sig} {h : Part} {L : List Ent} {ty T yt : TypeId} {x y : Operand} {p q : Int} (hx : ev S x = some (.int .u8 p)) (hy : ev S y = some (.int .u8 q)) (h0 : 0 ≤ p) (h1 : p ≤ 255) (hq : 0 < q) : RunV f S h L (.binOp .quo T x y yt) ty (.int .u8 (p / q)) := by
  have := RunV.quo (f := f) (h := h) (L := L) (ty := ty) (T := T) (yt := yt) hx hy (by omega)
  have h2 : 0 ≤ p / q := Int.ediv_nonneg h0 (by omega)
  have h3 : p / q ≤ p := Int.ediv_le_self _ h0
  rwa [Int.tdiv_eq_ediv_of_nonneg h0, wrap_u8 _ (by omega) (by omega)] at this
theorem RunV.rem_u8 {f : Fr} {S : Sig} {h : Part} {L : List Ent} {ty T yt : TypeId} {x y : Operand} {p q : Int} (hx : ev S x = some (.int .u8 p)) (hy : ev S y = some (.int .u8 q)) (h0 : 0 ≤ p) (hq : 0 < q) : RunV f S h L (.binOp .rem T x y yt) ty (.int .u8 (p % q)) := by
  have := RunV.rem (f := f) (h := h) (L := L) (ty := ty) (T := T) (yt := yt) hx hy (by omega)
  rwa [Int.tmod_eq_emod_of_nonneg h0] at this
theorem RunV.quo_u16 {f : Fr} {S : Sig} {h : Part} {L : List Ent} {ty T yt : TypeId} {x y : Operand} {p q : Int} (hx : ev S x = some (.int .u16 p)) (hy : ev S y = some (.int .u16 q)) (h0 : 0 ≤ p) (h1 : p ≤ 65535) (hq : 0 < q) : RunV f S h L (.binOp .quo T x y yt) ty (.int .u16 (p / q)) := by
  have := RunV.quo (f := f) (h := h) (L := L) (ty := ty) (T := T) (yt := yt) hx hy (by omega)
  have h2 : 0 ≤ p / q := Int.ediv_nonneg h0 (by omega)
  have h3 : p / q ≤ p := Int.ediv_le_self _ h0
  rwa [Int.tdiv_eq_ediv_of_nonneg h0, wrap_u16 _ (by omega) (by omega)] at this
theorem RunV.rem_u16 {f : Fr} {S : Sig} {h : Part} {L : List Ent} {ty T yt : TypeId} {x y : Operand} {p q : Int} (hx : ev S x = some (.int .u16 p)) (hy : ev S y = some (.int .u16 q)) (h0 : 0 ≤ p) (hq : 0 < q) : RunV f S h L (.binOp .rem T x y yt) ty (.int .u16 (p % q)) := by
  have := RunV.rem (f := f) (h := h) (L := L) (ty := ty) (T := T) (yt := yt) hx hy (by omega)
  rwa [Int.tmod_eq_emod_of_nonneg h0] at this
theorem RunV.quo_u32 {f : Fr} {S : Sig} {h : Part} {L : List Ent} {ty T yt : TypeId} {x y : Operand} {p q : Int} (hx : ev S x = some (.int .u32 p)) (hy : ev S y = some (.int .u32 q)) (h0 : 0 ≤ p) (h1 : p ≤ 4294967295) (hq : 0 < q) : RunV f S h L (.binOp .quo T x y yt) ty (.int .u32 (p / q)) := by
  have := RunV.quo (f := f) (h := h) (L := L) (ty := ty) (T := T) (yt := yt) hx hy (by omega)
  have h2 : 0 ≤ p / q := Int.ediv_nonneg h0 (by omega)
  have h3 : p / q ≤ p := Int.ediv_le_self _ h0
  rwa [Int.tdiv_eq_ediv_of_nonneg h0, wrap_u32 _ (by omega) (by omega)] at this
theorem RunV.rem_u32 {f : Fr} {S : Sig} {h : Part} {L : List Ent} {ty T yt : TypeId} {x y : Operand} {p q : Int} (hx : ev S x = some (.int .u32 p)) (hy : ev S y = some (.int .u32 q)) (h0 : 0 ≤ p) (hq : 0 < q) : RunV f S h L (.binOp .rem T x y yt) ty (.int .u32 (p % q)) := by
  have := RunV.rem (f := f) (h := h) (L := L) (ty := ty) (T := T) (yt := yt) hx hy (by omega)
  rwa [Int.tmod_eq_emod_of_nonneg h0] at this
theorem RunV.quo_u64 {f : Fr} {S : Sig} {h : Part} {L : List Ent} {ty T yt : TypeId} {x y : Operand} {p q : Int} (hx : ev S x = some (.int .u64 p)) (hy : ev S y = some (.int .u64 q)) (h0 : 0 ≤ p) (h1 : p ≤ 18446744073709551615) (hq : 0 < q) : RunV f S h L (.binOp .quo T x y yt) ty (.int .u64 (p / q)) := by
  have := RunV.quo (f := f) (h := h) (L := L) (ty := ty) (T := T) (yt := yt) hx hy (by omega)
  have h2 : 0 ≤ p / q := Int.ediv_nonneg h0 (by omega)
  have h3 : p / q ≤ p := Int.ediv_le_self _ h0
  rwa [Int.tdiv_eq_ediv_of_nonneg h0, wrap_u64 _ (by omega) (by omega)] at this
theorem RunV.rem_u64 {f : Fr} {S : Sig} {h : Part} {L : List Ent} {ty T yt : TypeId} {x y : Operand} {p q : Int} (hx : ev S x = some (.int .u64 p)) (hy : ev S y = some (.int .u64 q)) (h0 : 0 ≤ p) (hq : 0 < q) : RunV f S h L (.binOp .rem T x y yt) ty (.int .u64 (p % q)) := by
  have := RunV.rem (f := f) (h := h) (L := L) (ty := ty) (T := T) (yt := yt) hx hy (by omega)
  rwa [Int.tmod_eq_emod_of_nonneg h0] at this
theorem RunV.shr_u8 {f : Fr} {S : Sig} {h : Part} {L : List Ent} {ty T yt : TypeId} {x y : Operand} {p q : Int} {yk : IntKind} (D : Int) (hx : ev S x = some (.int .u8 p)) (hy : ev S y = some (.int yk q)) (h0 : 0 ≤ q) (h1 : q ≤ 8) (hD : (2 : Int) ^ q.toNat = D) : RunV f S h L (.binOp .shr T x y yt) ty (.int .u8 (p / D)) := by
  subst hD
  exact RunV.shr hx hy h0 h1
theorem RunV.shl_u8 {f : Fr} {S : Sig} {h : Part} {L : List Ent} {ty T yt : TypeId} {x y : Operand} {p q : Int} {yk : IntKind} (D : Int) (hx : ev S x = some (.int .u8 p)) (hy : ev S y = some (.int yk q)) (h0 : 0 ≤ q) (h1 : q ≤ 8) (hD : (2 : Int) ^ q.toNat = D) (h2 : 0 ≤ p * D) (h3 : p * D ≤ 255) : RunV f S h L (.binOp .shl T x y yt) ty (.int .u8 (p * D)) := by
  subst hD
  have := RunV.shl (f := f) (h := h) (L := L) (ty := ty) (T := T) (yt := yt) hx hy h0 h1
  rwa [wrap_u8 _ h2 h3] at this
theorem RunV.shr_u32 {f : Fr} {S : Sig} {h : Part} {L : List Ent} {ty T yt : TypeId} {x y : Operand} {p q : Int} {yk : IntKind} (D : Int) (hx : ev S x = some (.int .u32 p)) (hy : ev S y = some (.int yk q)) (h0 : 0 ≤ q) (h1 : q ≤ 32) (hD : (2 : Int) ^ q.toNat = D) : RunV f S h L (.binOp .shr T x y yt) ty (.int .u32 (p / D)) := by
  subst hD
  exact RunV.shr hx hy h0 h1
theorem RunV.shl_u32 {f : Fr} {S : Sig} {h : Part} {L : List Ent} {ty T yt : TypeId} {x y : Operand} {p q : Int} {yk : IntKind} (D : Int) (hx : ev S x = some (.int .u32 p)) (hy : ev S y = some (.int yk q)) (h0 : 0 ≤ q) (h1 : q ≤ 32) (hD : (2 : Int) ^ q.toNat = D) (h2 : 0 ≤ p * D) (h3 : p * D ≤ 4294967295) : RunV f S h L (.binOp .shl T x y yt) ty (.int .u32 (p * D)) := by
  subst hD
  have := RunV.shl (f := f) (h := h) (L := L) (ty := ty) (T := T) (yt := yt) hx hy h0 h1
  rwa [wrap_u32 _ h2 h3] at this
theorem RunV.shr_u64 {f : Fr} {S : Sig} {h : Part} {L : List Ent} {ty T yt : TypeId} {x y : Operand} {p q : Int} {yk : IntKind} (D : Int) (hx : ev S x = some (.int .u64 p)) (hy : ev S y = some (.int yk q)) (h0 : 0 ≤ q) (h1 : q ≤ 64) (hD : (2 : Int) ^ q.toNat = D) : RunV f S h L (.binOp .shr T x y yt) ty (.int .u64 (p / D)) := by
  subst hD
  exact RunV.shr hx hy h0 h1
theorem RunV.shl_u64 {f : Fr} {S : Sig} {h : Part} {L : List Ent} {ty T yt : TypeId} {x y : Operand} {p q : Int} {yk : IntKind} (D : Int) (hx : ev S x = some (.int .u64 p)) (hy : ev S y = some (.int yk q)) (h0 : 0 ≤ q) (h1 : q ≤ 64) (hD : (2 : Int) ^ q.toNat = D) (h2 : 0 ≤ p * D) (h3 : p * D ≤ 18446744073709551615) : RunV f S h L (.binOp .shl T x y yt) ty (.int .u64 (p * D)) := by
  subst hD
  have := RunV.shl (f := f) (h := h) (L := L) (ty := ty) (T := T) (yt := yt) hx hy h0 h1
  rwa [wrap_u64 _ h2 h3] at this
theorem RunV.shr_i64 {f : Fr} {S : Sig} {h : Part} {L : List Ent} {ty T yt : TypeId} {x y : Operand} {p q : Int} {yk : IntKind} (D : Int) (hx : ev S x = some (.int .i64 p)) (hy : ev S y = some (.int yk q)) (h0 : 0 ≤ q) (h1 : q ≤ 64) (hD : (2 : Int) ^ q.toNat = D) : RunV f S h L (.binOp .shr T x y yt) ty (.int .i64 (p / D)) := by
  subst hD
  exact RunV.shr hx hy h0 h1
theorem RunV.shl_i64 {f : Fr} {S : Sig} {h : Part} {L : List Ent} {ty T yt : TypeId} {x y : Operand} {p q : Int} {yk : IntKind} (D : Int) (hx : ev S x = some (.int .i64 p)) (hy : ev S y = some (.int yk q)) (h0 : 0 ≤ q) (h1 : q ≤ 64) (hD : (2 : Int) ^ q.toNat = D) (h2 : -9223372036854775808 ≤ p * D) (h3 : p * D ≤ 9223372036854775807) : RunV f S h L (.binOp .shl T x y yt) ty (.int .i64 (p * D)) := by
  subst hD
  have := RunV.shl (f := f) (h := h) (L := L) (ty := ty) (T := T) (yt := yt) hx hy h0 h1
  rwa [wrap_i64 _ h2 h3] at this
theorem RunV.fieldAt {f : Fr} {S : Sig} {h : Part} {L : List Ent} {ty T : TypeId} {x : Operand} {i o b o0 : Nat} (hf : fieldOff f.P T i = some o) (hx : ev S x = some (.pointer (some ⟨b, o0, none⟩))) : RunV f S h L (.fieldAddr T x i) ty (.pointer (some ⟨b, o0 + o, none⟩)) := by
  have := RunV.fieldAddr (f := f) (h := h) (L := L) (ty := ty) hf hx
  rwa [Addr.add_lit] at this
theorem RunV.fieldAt0 {f : Fr} {S : Sig} {h : Part} {L : List Ent} {ty T : TypeId} {x : Operand} {i o b : Nat} (hf : fieldOff f.P T i = some o) (hx : ev S x = some (.pointer (some ⟨b, 0, none⟩))) : RunV f S h L (.fieldAddr T x i) ty (.pointer (some ⟨b, o, none⟩)) := by
  have := RunV.fieldAt (f := f) (h := h) (L := L) (ty := ty) hf hx
  rwa [Nat.zero_add] at this
end Go.Proofs.YtmngjbefnloljaaDoor
