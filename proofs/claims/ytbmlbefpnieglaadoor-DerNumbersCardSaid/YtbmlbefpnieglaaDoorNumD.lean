/- Walks: the reference's numbers: bits, bytes. -/
import Derived.Test.YtbmlbefpnieglaaDoorNumC
set_option linter.unusedSimpArgs false
set_option linter.unusedVariables false
set_option linter.constructorNameAsVariable false
namespace Go.Proofs.YtbmlbefpnieglaaDoor
open Go Go.RowKit
set_option maxRecDepth 100000
theorem ca_54 : callT Tryd.prog 54 = true := by kernel_rfl
theorem ca_57 : callT Tryd.prog 57 = true := by kernel_rfl
theorem ca_72 : callT Tryd.prog 72 = true := by kernel_rfl
theorem cv_99_5 : convI Tryd.prog 99 5 = some .u8 := by kernel_rfl

theorem digit_fn {a : Option Addr} {c i : Nat} {l : List UInt64} {h : Part} (hl : SlR u64R 1 h a c l) : Pure Tryd.prog 72 [.slice a l.length c, .int .i64 i] h (.int .u64 (d64 l i : Nat)) := by
  have hll := hl.big
  refine Fn.intro Tryd.func72 rfl Tryd.ntmps72 rfl (fun e he => ?_)
  refine J.weak [(0, _), (1, _)] ⟨rfl, rfl, trivial⟩ ?_
  refine Sr ?_
  refine Ru 1 rfl ?_
  refine JL.nil ?_
  refine J.seq ?_
  refine Sr ?_
  refine Ru 4 rfl ?_
  refine JL.nil ?_
  refine Cs rfl (fun hc1 => ?_) fun hc1 => ?_
  ·
   refine Sr ?_
   refine Ru 2 rfl ?_
   refine JL.ope (RunE.index sl_84 rfl rfl (by first | with_reducible rfl | exact (Int.toNat_of_nonneg (by omega)).symm) (by assumption) rfl (by omega)) rfl ?_
   rintro _ ⟨b2, o2, hi2, rfl, hE2⟩
   refine JL.op (RunV.ld_u64 ag_99 rfl (by assumption)) rfl ?_
   rw [d64_at]
   refine Ru 1 rfl ?_
   refine Nk [4] rfl ?_
   exact J.retP (RetV.one rfl rfl) rfl rfl
  ·
   refine J.skip ?_
   refine Kp [4] rfl ?_
   refine Sr ?_
   refine Ru 1 rfl ?_
   refine JL.nil ?_
   exact J.retP (RetV.one rfl rfl) (by rw [d64_out l i (by omega)]; rfl) rfl
theorem digit_fn' {a : Option Addr} {c i : Nat} {q : Int} {l : List UInt64} {h : Part} (hl : SlR u64R 1 h a c l) (hq : q = (i : Int)) : Pure Tryd.prog 72 [.slice a l.length c, .int .i64 q] h (.int .u64 (d64 l i : Nat)) := by
  subst hq; exact digit_fn hl
/-- Halving until nothing is left. -/
theorem rbits_fn {a : Option Addr} {c : Nat} {l : List UInt32} {h : Part} (hl : SlR u32R 1 h a c l) (hlen : l.length ≤ 1000000) : FnR Tryd.prog 54 [.slice a l.length c] h (fun v _ => v = .int .i64 (nbits (d32 l) l.length : Nat)) := by
  have hll := hl.big
  have ht := tsz_le (d32 l) l.length
  have hdl := digsB_len l
  refine Fn.intro Tryd.func54 rfl Tryd.ntmps54 rfl (fun e he => ?_)
  refine J.weak [(0, _)] ⟨rfl, trivial⟩ ?_
  have hh0 := Part.le.refl h
  refine Sr ?_
  refine Ru 1 rfl ?_
  refine JL.nil ?_
  refine Sr ?_
  refine Ru 1 rfl ?_
  refine JL.callR ca_57 rfl (digits32_fn (by assumption) (by omega)) rfl ?_
  rintro _ h1 hle1 ⟨a1, c1, rfl, hS1⟩
  replace hl := hl.mono hle1
  replace hh0 := hh0.mono hle1
  refine Ru 1 rfl ?_
  refine JL.nil ?_
  refine J.seq ?_
  refine Sr ?_
  refine Ru 3 rfl ?_
  refine Nk [10, 3, 2] rfl ?_
  refine Cs rfl (fun hc2 => ?_) fun hc2 => ?_
  ·
   have hz : nbits (d32 l) l.length = 0 := if_pos (by omega)
   refine Sr ?_
   refine Ru 1 rfl ?_
   refine JL.nil ?_
   exact J.retR (RetV.one rfl rfl) (by rw [hz]; rfl)
  ·
   have hz : nbits (d32 l) l.length = 32 * (tsz (d32 l) l.length - 1) + bl (d32 l (tsz (d32 l) l.length - 1)) := if_neg (by omega); have hb := bl_le32 l (tsz (d32 l) l.length - 1)
   refine J.skip ?_
   refine Sr ?_
   refine Ru 2 rfl ?_
   refine JL.op (by first | exact RunV.sub_i64 rfl rfl (by omega) (by omega) | exact RunV.sub rfl rfl) rfl ?_
   refine JL.op (by first | exact RunV.mul_i64 rfl rfl (by omega) (by omega) | exact RunV.mul rfl rfl) rfl ?_
   refine Ru 1 rfl ?_
   refine Nk [4, 3, 2] rfl ?_
   refine J.seq ?_
   refine Sr ?_
   refine Ru 3 rfl ?_
   refine JL.op (by first | exact RunV.sub_i64 rfl rfl (by omega) (by omega) | exact RunV.sub rfl rfl) rfl ?_
   refine JL.ope (RunE.index sl_84 rfl rfl (by first | with_reducible rfl | exact (Int.toNat_of_nonneg (by omega)).symm) (by assumption) rfl (by omega)) rfl ?_
   rintro _ ⟨b3, o3, hi3, rfl, hE3⟩
   refine JL.op (RunV.ld_u64 ag_99 rfl (by assumption)) rfl ?_
   rw [d64_at, show (((digsB l).length : Int) - 1).toNat = tsz (d32 l) l.length - 1 by omega, digsB_at]
   refine Ru 1 rfl ?_
   refine Nk [5, 4, 2] rfl ?_
   refine J.block ?_
   refine J.loop (fun t_ S_ h_ L_ => ∃ (m : Nat), t_ = m + 1 ∧ S_ = [(4, .int .i64 ((32 * (tsz (d32 l) l.length - 1) + bl (d32 l (tsz (d32 l) l.length - 1)) : Nat) - (bl m : Nat) : Int)), (5, .int .u64 m)] ∧ h1 = h_ ∧ L_ = [] ∧ (m < 4294967296)) ⟨_, _, ?_, ⟨d32 l (tsz (d32 l) l.length - 1), rfl, rfl, rfl, rfl, d32_lt _ _⟩⟩ ?_
   ·
    repeat (first | exact trivial | refine ⟨rfl, ?_⟩ | refine ⟨(by exact some_int (by omega)), ?_⟩)
   rintro _ _ _ _ ⟨m, rfl, rfl, rfl, rfl, hm⟩
   have hbm := bl_le 32 m hm
   refine J.seq ?_
   refine Sr ?_
   refine Ru 2 rfl ?_
   refine JL.nil ?_
   refine Cs rfl (fun hc5 => ?_) fun hc5 => ?_
   ·
    have hbh := bl_half m (by omega)
    refine J.skip ?_
    refine J.seq ?_
    refine J.block ?_
    refine Rg ?_
    refine Ru 1 rfl ?_
    refine JL.op (by first | exact RunV.add_i64 rfl rfl (by omega) (by omega) | exact RunV.add rfl rfl) rfl ?_
    refine Ru 1 rfl ?_
    refine JL.nil ?_
    refine Rg ?_
    refine Ru 1 rfl ?_
    refine JL.op (by first | exact RunV.quo_u64 rfl rfl (by omega) (by omega) (by omega) | exact RunV.quo rfl rfl (by omega)) rfl ?_
    refine Ru 1 rfl ?_
    refine JL.nil ?_
    refine ⟨_, ?_, _, ?_, ⟨m / 2, rfl, rfl, rfl, rfl, by omega⟩⟩
    ·
     omega
    ·
     repeat (first | exact trivial | refine ⟨rfl, ?_⟩ | refine ⟨(by exact some_int (by omega)), ?_⟩)
   ·
    have hm0 : m = 0 := (by omega); subst hm0
    refine J.exit ?_
    refine Sr ?_
    refine Ru 2 rfl ?_
    refine Nk [2] rfl ?_
    exact J.retR (RetV.one rfl rfl) (by rw [hz]; exact congrArg (Value.int .i64) (by show _ - ((0 : Nat) : Int) = _; omega))




theorem ofNat_mod8 (n : Nat) : UInt8.ofNat (n % 256) = UInt8.ofNat n := by
  apply UInt8.toNat_inj.1
  simp
theorem rwrite_fn {a : Option Addr} {c k : Nat} {l : List UInt32} {h : Part} (hl : SlR u32R 1 h a c l) (hlen : l.length ≤ 1000000) (hk : k ≤ 65536) (hb : nbits (d32 l) l.length ≤ 8 * k) :
    FnR Tryd.prog 55 [.slice a l.length c, .int .i64 k] h (fun v h' => ∃ a' c', v = .tuple #[.slice a' (natW (d32 l) k).length c', .int .i64 0] ∧ SlR u8R 1 h' a' c' (natW (d32 l) k)) := by
  have hll := hl.big
  refine Fn.intro Tryd.func55 rfl Tryd.ntmps55 rfl (fun e he => ?_)
  refine J.weak [(0, _), (1, _)] ⟨rfl, rfl, trivial⟩ ?_
  have hh0 := Part.le.refl h
  refine Sr ?_
  refine Ru 2 rfl ?_
  refine JL.nil ?_
  refine J.seq ?_
  refine Sr ?_
  refine Ru 3 rfl ?_
  apply On 13 16 3 [5, 4, 0, 1] rfl rfl
  rotate_left
  ·
   intro hb1 hc1
   refine Ru 3 rfl ?_
   exact Ae (om_f hb1 rfl) rfl
  rotate_right
  ·
   exact fun hb1 _ => Ru 3 rfl (Ae (om_t hb1 rfl) rfl)
  refine JL.nil ?_
  refine Cs rfl (fun hc2 => ?_) fun hc2 => ?_
  ·
   exfalso; omega
  refine J.skip ?_
  refine Sr ?_
  refine Ru 1 rfl ?_
  refine JL.callR ca_57 rfl (digits32_fn (by assumption) (by omega)) rfl ?_
  rintro _ h3 hle3 ⟨da, dc, rfl, hD⟩
  replace hl := hl.mono hle3
  replace hh0 := hh0.mono hle3
  refine Ru 1 rfl ?_
  refine JL.nil ?_
  refine J.seq ?_
  refine Sr ?_
  refine Ru 1 rfl ?_
  refine JL.callR ca_54 rfl (rbits_fn (by assumption) (by omega)) rfl ?_
  rintro _ h4 hle4 rfl
  replace hl := hl.mono hle4
  replace hh0 := hh0.mono hle4
  replace hD := hD.mono hle4
  refine Ru 1 rfl ?_
  refine JL.op (by first | exact RunV.mul_i64 rfl rfl (by omega) (by omega) | exact RunV.mul rfl rfl) rfl ?_
  refine Ru 1 rfl ?_
  refine Nk [23, 6, 5, 4, 1] rfl ?_
  refine Cs rfl (fun hc5 => ?_) fun hc5 => ?_
  ·
   exfalso; omega
  refine J.skip ?_
  refine Sr ?_
  refine Ru 1 rfl ?_
  refine JL.make1 mk_22 rfl rfl (m := k) rfl rfl (by omega) rfl rfl (fun b1 => ?_); rw [replicate_u8]
  refine Ru 1 rfl ?_
  refine JL.nil ?_
  refine J.seq ?_
  refine Sr ?_
  refine Ru 1 rfl ?_
  refine JL.nil ?_
  refine J.block ?_
  refine J.loop (fun t_ S_ h_ L_ => ∃ (i : Nat) (out : List UInt8), t_ = k - i ∧ S_ = [(1, .int .i64 k), (6, .slice da (digsB l).length dc), (7, .slice (some ⟨b1, 0, none⟩) k k), (8, .int .i64 i)] ∧ h4 = h_ ∧ L_ = [.row (some ⟨b1, 0, none⟩) k 5 1 k (u8s out)] ∧ (i ≤ k ∧ out = List.replicate (k - i) 0 ++ natW (d32 l) i)) ⟨_, _, ?_, ⟨0, _, rfl, rfl, rfl, rfl, ⟨by omega, by simp [natW]⟩⟩⟩ ?_
  ·
   repeat (first | exact trivial | refine ⟨rfl, ?_⟩)
  rintro _ _ _ _ ⟨i, out, rfl, rfl, rfl, rfl, hi, ho⟩
  refine J.seq ?_
  refine Sr ?_
  refine Ru 3 rfl ?_
  refine JL.nil ?_
  refine Cs rfl (fun hc7 => ?_) fun hc7 => ?_
  ·
   have hol : out.length = k := (by rw [ho, List.length_append, List.length_replicate, natW_len]; omega); have hdl := d32_lt l (i / 4); obtain ⟨m, hm⟩ : ∃ m, k - i = m + 1 := ⟨k - i - 1, by omega⟩; have hset : out.set (k - 1 - i) (wB (d32 l) i) = List.replicate (k - (i + 1)) 0 ++ natW (d32 l) (i + 1) := (by rw [ho, hm, show k - 1 - i = m by omega, set_rep, show k - (i + 1) = m by omega]; rfl)
   refine J.skip ?_
   refine J.seq ?_
   refine J.block ?_
   refine Sr ?_
   refine Ru 2 rfl ?_
   refine JL.op (by first | exact RunV.quo_i64 rfl rfl (by omega) (by omega) (by omega) | exact RunV.quo rfl rfl (by omega)) rfl ?_
   refine JL.callP ca_72 rfl (digit_fn' (i := i / 4) hD (by omega)) rfl ?_
   rw [digsB_at]
   refine Ru 1 rfl ?_
   refine JL.nil ?_
   refine J.seq ?_
   refine Sr ?_
   refine Ru 1 rfl ?_
   refine JL.nil ?_
   refine J.block ?_
   refine J.loop (fun t_ S_ h_ L_ => ∃ (j y : Nat), t_ = i % 4 - j ∧ S_ = [(1, .int .i64 k), (6, .slice da (digsB l).length dc), (7, .slice (some ⟨b1, 0, none⟩) k k), (8, .int .i64 i), (9, .int .u64 (y : Nat)), (10, .int .i64 j)] ∧ h4 = h_ ∧ L_ = [.row (some ⟨b1, 0, none⟩) k 5 1 k (u8s out)] ∧ (j ≤ i % 4 ∧ y = d32 l (i / 4) / 256 ^ j ∧ y < 4294967296)) ⟨_, _, ?_, ⟨0, d32 l (i / 4), rfl, rfl, rfl, rfl, ⟨by omega, by simp, hdl⟩⟩⟩ ?_
   ·
    repeat (first | exact trivial | refine ⟨rfl, ?_⟩)
   rintro _ _ _ _ ⟨j, y, rfl, rfl, rfl, rfl, hj, hy, hy2⟩
   refine J.seq ?_
   refine Sr ?_
   refine Ru 2 rfl ?_
   refine JL.op (by first | exact RunV.rem_i64 rfl rfl (by omega) (by omega) | exact RunV.rem rfl rfl (by omega)) rfl ?_
   refine Ru 1 rfl ?_
   refine JL.nil ?_
   refine Cs rfl (fun hc9 => ?_) fun hc9 => ?_
   ·
    refine J.skip ?_
    refine J.seq ?_
    refine J.block ?_
    refine Rg ?_
    refine Ru 1 rfl ?_
    refine JL.op (by first | exact RunV.quo_u64 rfl rfl (by omega) (by omega) (by omega) | exact RunV.quo rfl rfl (by omega)) rfl ?_
    refine Ru 1 rfl ?_
    refine JL.nil ?_
    refine Rg ?_
    refine Ru 1 rfl ?_
    refine JL.op (by first | exact RunV.add_i64 rfl rfl (by omega) (by omega) | exact RunV.add rfl rfl) rfl ?_
    refine Ru 1 rfl ?_
    refine JL.nil ?_
    refine ⟨_, ?_, _, ?_, ⟨j + 1, y / 256, rfl, rfl, rfl, rfl, ⟨by omega, by rw [hy, Nat.pow_succ, ← Nat.div_div_eq_div_mul], by omega⟩⟩⟩
    ·
     omega
    ·
     repeat (first | exact trivial | refine ⟨rfl, ?_⟩)
   ·
    have hj4 : j = i % 4 := (by omega); subst hj4
    refine J.exit ?_
    refine Rg ?_
    refine Ru 2 rfl ?_
    refine JL.op (by first | exact RunV.sub_i64 rfl rfl (by omega) (by omega) | exact RunV.sub rfl rfl) rfl ?_
    refine Ru 1 rfl ?_
    refine JL.op (by first | exact RunV.sub_i64 rfl rfl (by omega) (by omega) | exact RunV.sub rfl rfl) rfl ?_
    refine Ru 1 rfl ?_
    refine JL.op (by first | exact RunV.rem_u64 rfl rfl (by omega) (by omega) | exact RunV.rem rfl rfl (by omega)) rfl ?_
    refine JL.op (RunV.toByte (y % 256) cv_99_5 rfl (by omega)) rfl ?_
    rw [ofNat_mod8, hy]
    refine JL.op (RunV.index_at sl_22 (m := k - 1 - i) rfl rfl (by omega) (by omega)) rfl ?_
    refine JL.storeRow ag_5 rfl rfl rfl (by repeat (first | exact Del.here | apply Del.there)) (show k - 1 - i < (u8s out).length by rw [u8s_length]; omega) ?_; rw [u8s_set]
    refine JL.nil ?_
    refine Rg ?_
    refine Ru 1 rfl ?_
    refine JL.op (by first | exact RunV.add_i64 rfl rfl (by omega) (by omega) | exact RunV.add rfl rfl) rfl ?_
    refine Ru 1 rfl ?_
    refine JL.nil ?_
    refine ⟨_, ?_, _, ?_, ⟨i + 1, _, rfl, rfl, rfl, rfl, ⟨by omega, hset⟩⟩⟩
    ·
     omega
    ·
     repeat (first | exact trivial | refine ⟨rfl, ?_⟩)
  ·
   refine J.exit ?_
   refine Kp [7] rfl ?_
   refine Sr ?_
   have hik : i = k := (by omega); have ho2 : out = natW (d32 l) k := (by rw [ho, hik, Nat.sub_self]; rfl); have hkl := natW_len (d32 l) k; subst ho2; refine JL.pub (R := u8R) (l := natW (d32 l) k) (by repeat (first | exact Del.here | apply Del.there)) CellsR.of_u8 (by omega) (by omega) (fun h9 hle9 hS9 => ?_)
   refine Ru 3 rfl ?_
   refine JL.nil ?_
   exact J.retR (RetV.two rfl rfl rfl) ⟨_, _, by rw [hkl], hS9⟩
end Go.Proofs.YtbmlbefpnieglaaDoor
