/- Walks: the program's numbers: bits, bytes. -/
import Derived.Test.YtmngjbefnloljaaDoorNumA
set_option linter.unusedSimpArgs false
set_option linter.unusedVariables false
set_option linter.constructorNameAsVariable false
namespace Go.Proofs.YtmngjbefnloljaaDoor
open Go Go.RowKit
set_option maxRecDepth 100000
theorem ag_5 : aggT Tryd.prog 5 = some none := by kernel_rfl
theorem ca_41 : callT Tryd.prog 41 = true := by kernel_rfl
theorem ca_68 : callT Tryd.prog 68 = true := by kernel_rfl
theorem ca_69 : callT Tryd.prog 69 = true := by kernel_rfl
theorem mk_22 : mkT Tryd.prog 22 = some (5, .int .u8 0, 1) := by kernel_rfl
theorem sl_22 : slT Tryd.prog 22 = some (5, 1) := by kernel_rfl

def nbits (f : Nat → Nat) (n : Nat) : Nat := if tsz f n = 0 then 0 else 32 * (tsz f n - 1) + bl (f (tsz f n - 1))
theorem natbits_fn {a : Option Addr} {c : Nat} {l : List UInt32} {h : Part} (hl : SlR u32R 1 h a c l) : Pure Tryd.prog 41 [.slice a l.length c] h (.int .i64 (nbits (d32 l) l.length : Nat)) := by
  have hll := hl.big
  have ht := tsz_le (d32 l) l.length
  have hb := bl_le32 l (tsz (d32 l) l.length - 1)
  refine Fn.intro Tryd.func41 rfl Tryd.ntmps41 rfl (fun e he => ?_)
  refine J.weak [(0, _)] ⟨rfl, trivial⟩ ?_
  refine Sr ?_
  refine Ru 1 rfl ?_
  refine JL.nil ?_
  refine Sr ?_
  refine Ru 1 rfl ?_
  refine JL.callP ca_68 rfl (natsize_fn (by assumption)) rfl ?_
  refine Ru 1 rfl ?_
  refine JL.nil ?_
  refine J.seq ?_
  refine Sr ?_
  refine Ru 2 rfl ?_
  refine JL.nil ?_
  refine Cs rfl (fun hc2 => ?_) fun hc2 => ?_
  ·
   have hz : nbits (d32 l) l.length = 0 := if_pos (by omega)
   refine Sr ?_
   refine Ru 1 rfl ?_
   refine Nk [2, 3, 0] rfl ?_
   exact J.retP (RetV.one rfl rfl) (by rw [hz]; rfl) rfl
  ·
   have hz : nbits (d32 l) l.length = 32 * (tsz (d32 l) l.length - 1) + bl (d32 l (tsz (d32 l) l.length - 1)) := if_neg (by omega)
   refine J.skip ?_
   refine Kp [3, 2, 0] rfl ?_
   refine Sr ?_
   refine Ru 1 rfl ?_
   refine JL.op (by first | exact RunV.sub_i64 rfl rfl (by omega) (by omega) | exact RunV.sub rfl rfl) rfl ?_
   refine JL.op (by first | exact RunV.mul_i64 rfl rfl (by omega) (by omega) | exact RunV.mul rfl rfl) rfl ?_
   refine Ru 2 rfl ?_
   refine JL.op (by first | exact RunV.sub_i64 rfl rfl (by omega) (by omega) | exact RunV.sub rfl rfl) rfl ?_
   refine JL.ope (RunE.index sl_35 rfl rfl (by first | with_reducible rfl | exact (Int.toNat_of_nonneg (by omega)).symm) (by assumption) rfl (by omega)) rfl ?_
   rintro _ ⟨b3, o3, hi3, rfl, hE3⟩
   refine JL.op (RunV.ld_u32 ag_69 rfl (by assumption)) rfl ?_
   rw [d32_at, show ((tsz (d32 l) l.length : Int) - 1).toNat = tsz (d32 l) l.length - 1 by omega]
   refine JL.callP ca_69 rfl (len32_fn (d32_lt _ _)) rfl ?_
   refine JL.op (by first | exact RunV.add_i64 rfl rfl (by omega) (by omega) | exact RunV.add rfl rfl) rfl ?_
   refine Ru 1 rfl ?_
   refine Nk [2] rfl ?_
   exact J.retP (RetV.one rfl rfl) (by rw [hz]; exact congrArg (Value.int .i64) (by omega)) rfl




/-- Byte i of the number, from the least. -/
def wB (f : Nat → Nat) (i : Nat) : UInt8 := UInt8.ofNat (f (i / 4) / 256 ^ (i % 4))
def natW (f : Nat → Nat) : Nat → List UInt8
  | 0 => []
  | k + 1 => wB f k :: natW f k
theorem natW_len (f : Nat → Nat) : ∀ k, (natW f k).length = k
  | 0 => rfl
  | k + 1 => by simp [natW, natW_len f k]
theorem shr_d (i : Nat) : (2 : Int) ^ (8 * ((i : Int) % 4)).toNat = 256 ^ (i % 4) := by
  have : (8 * ((i : Int) % 4)).toNat = 8 * (i % 4) := by omega
  rw [this, Int.pow_mul]; rfl
theorem set_rep (m : Nat) (t : List UInt8) (x : UInt8) : (List.replicate (m + 1) 0 ++ t).set m x = List.replicate m 0 ++ x :: t := by
  rw [List.replicate_succ', List.append_assoc, List.set_append_right _ _ (by simp)]
  simp
theorem rep_one (m : Nat) (t : List UInt8) : (List.replicate (m + 1) 0 ++ t : List UInt8) = List.replicate m 0 ++ 0 :: t := by
  rw [List.replicate_succ', List.append_assoc]; rfl
theorem natwrite_fn {a : Option Addr} {c k : Nat} {l : List UInt32} {h : Part} (hl : SlR u32R 1 h a c l) (hk : k ≤ 65536) (hb : (nbits (d32 l) l.length + 7) / 8 ≤ k) :
    FnR Tryd.prog 42 [.slice a l.length c, .int .i64 k] h (fun v h' => ∃ a' c', v = .tuple #[.slice a' (natW (d32 l) k).length c', .int .i64 0] ∧ SlR u8R 1 h' a' c' (natW (d32 l) k)) := by
  have hll := hl.big
  refine Fn.intro Tryd.func42 rfl Tryd.ntmps42 rfl (fun e he => ?_)
  refine J.weak [(0, _), (1, _)] ⟨rfl, rfl, trivial⟩ ?_
  have hh0 := Part.le.refl h
  refine Sr ?_
  refine Ru 2 rfl ?_
  refine JL.nil ?_
  refine J.seq ?_
  refine Sr ?_
  refine Ru 3 rfl ?_
  apply On 10 13 3 [5, 4, 0, 1] rfl rfl
  rotate_left
  ·
   intro hb1 hc1
   refine Ru 3 rfl ?_
   exact Ae (om_f hb1 rfl) rfl
  rotate_right
  ·
   exact fun hb1 _ => Ru 3 rfl (Ae (om_t hb1 rfl) rfl)
  refine JL.nil ?_
  refine Cs rfl (fun hc2 => ?_) fun hc2 => ?_
  ·
   exfalso; omega
  refine J.skip ?_
  refine J.seq ?_
  refine Sr ?_
  refine Ru 1 rfl ?_
  refine JL.callP ca_41 rfl (natbits_fn (by assumption)) rfl ?_
  refine JL.op (by first | exact RunV.add_i64 rfl rfl (by omega) (by omega) | exact RunV.add rfl rfl) rfl ?_
  refine JL.op (by first | exact RunV.quo_i64 rfl rfl (by omega) (by omega) (by omega) | exact RunV.quo rfl rfl (by omega)) rfl ?_
  refine Ru 2 rfl ?_
  refine Nk [19, 5, 4, 0, 1] rfl ?_
  refine Cs rfl (fun hc4 => ?_) fun hc4 => ?_
  ·
   exfalso; omega
  refine J.skip ?_
  refine Sr ?_
  refine Ru 1 rfl ?_
  refine JL.make1 mk_22 rfl rfl (m := k) rfl rfl (by omega) rfl rfl (fun b1 => ?_); rw [replicate_u8]
  refine Ru 1 rfl ?_
  refine JL.nil ?_
  refine J.seq ?_
  refine Sr ?_
  refine Ru 2 rfl ?_
  refine JL.nil ?_
  refine J.block ?_
  refine J.loop (fun t_ S_ h_ L_ => ∃ (i : Nat) (out : List UInt8), t_ = k - i ∧ S_ = [(0, .slice a l.length c), (1, .int .i64 k), (6, .slice (some ⟨b1, 0, none⟩) k k), (22, .int .i64 k), (23, .int .i64 i)] ∧ h = h_ ∧ L_ = [.row (some ⟨b1, 0, none⟩) k 5 1 k (u8s out)] ∧ (i ≤ k ∧ out = List.replicate (k - i) 0 ++ natW (d32 l) i)) ⟨_, _, ?_, ⟨0, _, rfl, rfl, rfl, rfl, ⟨by omega, by simp [natW]⟩⟩⟩ ?_
  ·
   repeat (first | exact trivial | refine ⟨rfl, ?_⟩)
  rintro _ _ _ _ ⟨i, out, rfl, rfl, rfl, rfl, hi, ho⟩
  refine Sr ?_
  refine Ru 1 rfl ?_
  refine JL.nil ?_
  refine J.seq ?_
  refine Cs rfl (fun hc6 => ?_) fun hc6 => ?_
  ·
   have hol : out.length = k := (by rw [ho, List.length_append, List.length_replicate, natW_len]; omega); have hdl := d32_lt l (i / 4)
   refine J.skip ?_
   refine J.seq ?_
   refine J.block ?_
   refine Sr ?_
   refine Ru 2 rfl ?_
   refine JL.nil ?_
   refine Sr ?_
   refine Ru 1 rfl ?_
   refine JL.op (by first | exact RunV.quo_i64 rfl rfl (by omega) (by omega) (by omega) | exact RunV.quo rfl rfl (by omega)) rfl ?_
   refine Ru 3 rfl ?_
   refine JL.nil ?_
   refine Cs rfl (fun hc7 => ?_) fun hc7 => ?_
   ·
    obtain ⟨m, hm⟩ : ∃ m, k - i = m + 1 := ⟨k - i - 1, by omega⟩; have hset : out.set (k - 1 - i) (wB (d32 l) i) = List.replicate (k - (i + 1)) 0 ++ natW (d32 l) (i + 1) := (by rw [ho, hm, show k - 1 - i = m by omega, set_rep, show k - (i + 1) = m by omega]; rfl)
    refine Rg ?_
    refine Ru 2 rfl ?_
    refine JL.op (by first | exact RunV.sub_i64 rfl rfl (by omega) (by omega) | exact RunV.sub rfl rfl) rfl ?_
    refine Ru 1 rfl ?_
    refine JL.op (by first | exact RunV.sub_i64 rfl rfl (by omega) (by omega) | exact RunV.sub rfl rfl) rfl ?_
    refine Ru 2 rfl ?_
    refine JL.op (by first | exact RunV.quo_i64 rfl rfl (by omega) (by omega) (by omega) | exact RunV.quo rfl rfl (by omega)) rfl ?_
    refine JL.ope (RunE.index sl_35 rfl rfl (by first | with_reducible rfl | exact (Int.toNat_of_nonneg (by omega)).symm) (by assumption) rfl (by omega)) rfl ?_
    rintro _ ⟨b8, o8, hi8, rfl, hE8⟩
    refine JL.op (RunV.ld_u32 ag_69 rfl (by assumption)) rfl ?_
    rw [d32_at, show ((i : Int) / 4).toNat = i / 4 by omega]
    refine Ru 1 rfl ?_
    refine JL.op (by first | exact RunV.rem_i64 rfl rfl (by omega) (by omega) | exact RunV.rem rfl rfl (by omega)) rfl ?_
    refine JL.op (by first | exact RunV.mul_i64 rfl rfl (by omega) (by omega) | exact RunV.mul rfl rfl) rfl ?_
    refine JL.op (RunV.shr_u32 (256 ^ (i % 4)) rfl rfl (by omega) (by omega) (shr_d i)) rfl ?_
    refine JL.op (RunV.toByte (d32 l (i / 4) / 256 ^ (i % 4)) cv_69_5 rfl (by rw [Int.natCast_ediv, Int.natCast_pow]; rfl)) rfl ?_
    refine JL.op (RunV.index_at sl_22 (m := k - 1 - i) rfl rfl (by omega) (by omega)) rfl ?_
    refine JL.storeRow ag_5 rfl rfl rfl (by repeat (first | exact Del.here | apply Del.there)) (show k - 1 - i < (u8s out).length by rw [u8s_length]; omega) ?_; rw [u8s_set]
    refine JL.nil ?_
    refine Rg ?_
    refine JL.op (by first | exact RunV.add_i64 rfl rfl (by omega) (by omega) | exact RunV.add rfl rfl) rfl ?_
    refine Ru 1 rfl ?_
    refine JL.nil ?_
    refine ⟨_, ?_, _, ?_, ⟨i + 1, _, rfl, rfl, rfl, rfl, ⟨by omega, hset⟩⟩⟩
    ·
     omega
    ·
     repeat (first | exact trivial | refine ⟨rfl, ?_⟩)
   ·
    obtain ⟨m, hm⟩ : ∃ m, k - i = m + 1 := ⟨k - i - 1, by omega⟩; have hset : out = List.replicate (k - (i + 1)) 0 ++ natW (d32 l) (i + 1) := (by rw [ho, hm, rep_one, show k - (i + 1) = m by omega, natW, wB, d32_out l (i / 4) (by omega), Nat.zero_div]; rfl)
    refine J.skip ?_
    refine Rg ?_
    refine JL.op (by first | exact RunV.add_i64 rfl rfl (by omega) (by omega) | exact RunV.add rfl rfl) rfl ?_
    refine Ru 1 rfl ?_
    refine JL.nil ?_
    refine ⟨_, ?_, _, ?_, ⟨i + 1, _, rfl, rfl, rfl, rfl, ⟨by omega, hset⟩⟩⟩
    ·
     omega
    ·
     repeat (first | exact trivial | refine ⟨rfl, ?_⟩)
  ·
   refine J.exit ?_
   refine Kp [6] rfl ?_
   refine Sr ?_
   have hik : i = k := (by omega); have ho2 : out = natW (d32 l) k := (by rw [ho, hik, Nat.sub_self]; rfl); have hkl := natW_len (d32 l) k; subst ho2; refine JL.pub (R := u8R) (l := natW (d32 l) k) (by repeat (first | exact Del.here | apply Del.there)) CellsR.of_u8 (by omega) (by omega) (fun h9 hle9 hS9 => ?_)
   refine Ru 3 rfl ?_
   refine JL.nil ?_
   exact J.retR (RetV.two rfl rfl rfl) ⟨_, _, by rw [hkl], hS9⟩



end Go.Proofs.YtmngjbefnloljaaDoor
