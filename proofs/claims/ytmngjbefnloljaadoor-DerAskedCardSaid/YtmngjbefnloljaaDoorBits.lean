/- Bitwise operations that are arithmetic. -/
import Derived.Test.YtmngjbefnloljaaDoorRng
import Derived.Laws.BitsLemmas
set_option linter.unusedSimpArgs false
set_option linter.unusedVariables false
set_option linter.constructorNameAsVariable false
namespace Go.Proofs.YtmngjbefnloljaaDoor
open Go Go.RowKit

theorem wraps_u32' (n : Int) (h0 : 0 ≤ n) (h1 : n < 2 ^ 32) : IntKind.u32.wrap n = n := wrap_u32 n h0 (by omega)
theorem wraps_u64' (n : Int) (h0 : 0 ≤ n) (h1 : n < 2 ^ 64) : IntKind.u64.wrap n = n := wrap_u64 n h0 (by omega)
theorem wraps_i64' (n : Int) (h0 : 0 ≤ n) (h1 : n < 2 ^ 63) : IntKind.i64.wrap n = n := wrap_i64 n (by omega) (by omega)

section
variable {f : Fr} {S : Sig} {h : Part} {L : List Ent} {ty T yt : TypeId} {x y : Operand} {p q M : Int}
theorem RunV.mask_u8 (i : Nat) (D : Int) (hx : ev S x = some (.int .u8 p)) (hy : ev S y = some (.int .u8 M)) (hM : (2 : Int) ^ i - 1 = M) (hD : (2 : Int) ^ i = D) (hi : i ≤ 8) (h0 : 0 ≤ p) (h1 : p ≤ 255) : RunV f S h L (.binOp .and T x y yt) ty (.int .u8 (p % D)) := by
  subst hM
  have := RunV.and_ (f := f) (h := h) (L := L) (ty := ty) (T := T) (yt := yt) hx hy
  rwa [bits_mask .u8 8 (by decide) wraps_u8 i hi p h0 (by omega), hD] at this
theorem RunV.maskb_u8 {b : UInt8} (i : Nat) (D : Int) (hx : ev S x = some (.int .u8 (b.toNat : Int))) (hy : ev S y = some (.int .u8 M)) (hM : (2 : Int) ^ i - 1 = M) (hD : (2 : Int) ^ i = D) (hi : i ≤ 8) : RunV f S h L (.binOp .and T x y yt) ty (.int .u8 ((b.toNat : Int) % D)) :=
  RunV.mask_u8 i D hx hy hM hD hi (by omega) (by have := b.toNat_lt; omega)
theorem RunV.mask_u32 (i : Nat) (D : Int) (hx : ev S x = some (.int .u32 p)) (hy : ev S y = some (.int .u32 M)) (hM : (2 : Int) ^ i - 1 = M) (hD : (2 : Int) ^ i = D) (hi : i ≤ 32) (h0 : 0 ≤ p) (h1 : p ≤ 4294967295) : RunV f S h L (.binOp .and T x y yt) ty (.int .u32 (p % D)) := by
  subst hM
  have := RunV.and_ (f := f) (h := h) (L := L) (ty := ty) (T := T) (yt := yt) hx hy
  rwa [bits_mask .u32 32 (by decide) wraps_u32' i hi p h0 (by omega), hD] at this
theorem RunV.mask_u64 (i : Nat) (D : Int) (hx : ev S x = some (.int .u64 p)) (hy : ev S y = some (.int .u64 M)) (hM : (2 : Int) ^ i - 1 = M) (hD : (2 : Int) ^ i = D) (hi : i ≤ 64) (h0 : 0 ≤ p) (h1 : p ≤ 18446744073709551615) : RunV f S h L (.binOp .and T x y yt) ty (.int .u64 (p % D)) := by
  subst hM
  have := RunV.and_ (f := f) (h := h) (L := L) (ty := ty) (T := T) (yt := yt) hx hy
  rwa [bits_mask .u64 64 (by decide) wraps_u64' i hi p h0 (by omega), hD] at this
theorem RunV.mask_i64 (i : Nat) (D : Int) (hx : ev S x = some (.int .i64 p)) (hy : ev S y = some (.int .i64 M)) (hM : (2 : Int) ^ i - 1 = M) (hD : (2 : Int) ^ i = D) (hi : i ≤ 63) (h0 : 0 ≤ p) (h1 : p ≤ 9223372036854775807) : RunV f S h L (.binOp .and T x y yt) ty (.int .i64 (p % D)) := by
  subst hM
  have := RunV.and_ (f := f) (h := h) (L := L) (ty := ty) (T := T) (yt := yt) hx hy
  rwa [bits_mask .i64 63 (by decide) wraps_i64' i hi p h0 (by omega), hD] at this
theorem RunV.join_u8 (i : Nat) (D : Int) (hx : ev S x = some (.int .u8 p)) (hy : ev S y = some (.int .u8 q)) (hD : (2 : Int) ^ i = D) (h0 : 0 ≤ p) (hp : p % D = 0) (h1 : p ≤ 255) (hq0 : 0 ≤ q) (hq : q < D) (hq1 : q ≤ 255) : RunV f S h L (.binOp .or T x y yt) ty (.int .u8 (p + q)) := by
  have := RunV.or_ (f := f) (h := h) (L := L) (ty := ty) (T := T) (yt := yt) hx hy
  rwa [bits_join .u8 8 (by decide) wraps_u8 i p q h0 (by rw [hD]; exact hp) (by omega) hq0 (by rw [hD]; exact hq) (by omega)] at this
theorem RunV.join_u32 (i : Nat) (D : Int) (hx : ev S x = some (.int .u32 p)) (hy : ev S y = some (.int .u32 q)) (hD : (2 : Int) ^ i = D) (h0 : 0 ≤ p) (hp : p % D = 0) (h1 : p ≤ 4294967295) (hq0 : 0 ≤ q) (hq : q < D) (hq1 : q ≤ 4294967295) : RunV f S h L (.binOp .or T x y yt) ty (.int .u32 (p + q)) := by
  have := RunV.or_ (f := f) (h := h) (L := L) (ty := ty) (T := T) (yt := yt) hx hy
  rwa [bits_join .u32 32 (by decide) wraps_u32' i p q h0 (by rw [hD]; exact hp) (by omega) hq0 (by rw [hD]; exact hq) (by omega)] at this
theorem RunV.join_u64 (i : Nat) (D : Int) (hx : ev S x = some (.int .u64 p)) (hy : ev S y = some (.int .u64 q)) (hD : (2 : Int) ^ i = D) (h0 : 0 ≤ p) (hp : p % D = 0) (h1 : p ≤ 18446744073709551615) (hq0 : 0 ≤ q) (hq : q < D) (hq1 : q ≤ 18446744073709551615) : RunV f S h L (.binOp .or T x y yt) ty (.int .u64 (p + q)) := by
  have := RunV.or_ (f := f) (h := h) (L := L) (ty := ty) (T := T) (yt := yt) hx hy
  rwa [bits_join .u64 64 (by decide) wraps_u64' i p q h0 (by rw [hD]; exact hp) (by omega) hq0 (by rw [hD]; exact hq) (by omega)] at this
theorem RunV.join_i64 (i : Nat) (D : Int) (hx : ev S x = some (.int .i64 p)) (hy : ev S y = some (.int .i64 q)) (hD : (2 : Int) ^ i = D) (h0 : 0 ≤ p) (hp : p % D = 0) (h1 : p ≤ 9223372036854775807) (hq0 : 0 ≤ q) (hq : q < D) (hq1 : q ≤ 9223372036854775807) : RunV f S h L (.binOp .or T x y yt) ty (.int .i64 (p + q)) := by
  have := RunV.or_ (f := f) (h := h) (L := L) (ty := ty) (T := T) (yt := yt) hx hy
  rwa [bits_join .i64 63 (by decide) wraps_i64' i p q h0 (by rw [hD]; exact hp) (by omega) hq0 (by rw [hD]; exact hq) (by omega)] at this
/-- 'byte(n)' -/
theorem RunV.toByte (m : Nat) {src dst : TypeId} {k : IntKind} (hc : convI f.P src dst = some .u8) (hx : ev S x = some (.int k p)) (hm : p = (m : Int)) : RunV f S h L (.convert src dst x) ty (.int .u8 ((UInt8.ofNat m).toNat : Int)) := by
  subst hm
  have := RunV.conv (f := f) (h := h) (L := L) (ty := ty) hc hx
  have e : IntKind.u8.wrap (m : Int) = ((UInt8.ofNat m).toNat : Int) := by rw [IntKind.wrap_u8]; simp
  rwa [e] at this
set_option maxRecDepth 100000 in
theorem and32_ : ∀ m : Fin 256, bits .and .u8 (m.val : Int) 32 = 32 * ((m.val : Int) / 32 % 2) := by decide
theorem RunV.and32 (hx : ev S x = some (.int .u8 p)) (h0 : 0 ≤ p) (h1 : p ≤ 255) : RunV f S h L (.binOp .and T x (.const (.int .u8 32)) yt) ty (.int .u8 (32 * (p / 32 % 2))) := by
  have := RunV.and_ (f := f) (h := h) (L := L) (ty := ty) (T := T) (yt := yt) (y := .const (.int .u8 32)) hx rfl
  obtain ⟨m, rfl⟩ := Int.eq_ofNat_of_zero_le h0
  have e := and32_ ⟨m, by omega⟩
  simp only at e
  rwa [e] at this
set_option maxRecDepth 100000 in
theorem or32_ : ∀ m : Fin 224, m.val % 64 < 32 → bits .or .u8 ((UInt8.ofNat m.val).toNat : Int) 32 = ((UInt8.ofNat (m.val + 32)).toNat : Int) := by decide
theorem RunV.or32 (m : Nat) (hx : ev S x = some (.int .u8 ((UInt8.ofNat m).toNat : Int))) (hm : m < 224) (h64 : m % 64 < 32) : RunV f S h L (.binOp .or T x (.const (.int .u8 32)) yt) ty (.int .u8 ((UInt8.ofNat (m + 32)).toNat : Int)) := by
  have := RunV.or_ (f := f) (h := h) (L := L) (ty := ty) (T := T) (yt := yt) (y := .const (.int .u8 32)) hx rfl
  rwa [or32_ ⟨m, hm⟩ h64] at this
end
section
variable {f : Fr} {n : Post} {x : Nat → Post} {S : Sig} {h : Part} {L L' : List Ent} {l0 : List Oper} {ops : Array Oper}
theorem Ok.toRow {e : Env} {w : World} {b t sz m : Nat} {cs : List Value} (k : Ok e h (.blk b t cs :: L) w) (hl : cs.length = m * sz) (hm : m ≤ maxLen) : Ok e h (.row (some ⟨b, 0, none⟩) m t sz m cs :: L) w :=
  k.turn rfl rfl rfl (Nat.le_refl _) (fun _ _ _ => rfl) ⟨hl, .inr ⟨b, m, cs.toArray, rfl, Nat.zero_le _, k.own _ (List.mem_cons_self ..), Nat.le_refl _, hm, by simpa using hl, by rw [← hl]; simp⟩⟩ (fun b' hb' => .inl hb')
/-- '[]byte{x}' is a row that may grow. -/
theorem JL.rowB {b t : Nat} {y : UInt8} (u : Del (.blk b t [.int .u8 (y.toNat : Int)]) L L') (k : JL f ops n x l0 S h (.row (some ⟨b, 0, none⟩) 1 t 1 [y].length (u8s [y]) :: L')) : JL f ops n x l0 S h L := fun ac w s =>
  k ac w (s.with ((s.ok.perm u.perm).toRow (m := 1) (sz := 1) rfl (by decide)))
end
end Go.Proofs.YtmngjbefnloljaaDoor
