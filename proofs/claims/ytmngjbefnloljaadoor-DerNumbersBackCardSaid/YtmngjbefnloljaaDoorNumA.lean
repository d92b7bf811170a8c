/- Walks: numbers of many digits: sizes, bits. -/
import Derived.Test.YtmngjbefnloljaaDoorMk
import Derived.Test.YtmngjbefnloljaaDoorSha
import Derived.Test.YtmngjbefnloljaaDoorBits
import Derived.Test.YtmngjbefnloljaaDoorChr
set_option linter.unusedSimpArgs false
set_option linter.unusedVariables false
set_option linter.constructorNameAsVariable false
namespace Go.Proofs.YtmngjbefnloljaaDoor
open Go Go.RowKit
set_option maxRecDepth 100000
theorem ag_69 : aggT Tryd.prog 69 = some none := by kernel_rfl
theorem cv_69_5 : convI Tryd.prog 69 5 = some .u8 := by kernel_rfl
theorem sl_35 : slT Tryd.prog 35 = some (69, 1) := by kernel_rfl

def d32 (l : List UInt32) (i : Nat) : Nat := (l.getD i 0).toNat
def d64 (l : List UInt64) (i : Nat) : Nat := (l.getD i 0).toNat
theorem d32_at (l : List UInt32) (i : Nat) (h : i < l.length) : ((l[i]'h).toNat : Int) = d32 l i := by simp [d32, h]
theorem d64_at (l : List UInt64) (i : Nat) (h : i < l.length) : ((l[i]'h).toNat : Int) = d64 l i := by simp [d64, h]
theorem d32_lt (l : List UInt32) (i : Nat) : d32 l i < 4294967296 := UInt32.toNat_lt _
theorem d64_lt (l : List UInt64) (i : Nat) : d64 l i < 18446744073709551616 := UInt64.toNat_lt _
theorem d32_out (l : List UInt32) (i : Nat) (h : l.length ≤ i) : d32 l i = 0 := by
  unfold d32; rw [List.getD_eq_getElem?_getD, List.getElem?_eq_none h]; rfl
theorem d64_out (l : List UInt64) (i : Nat) (h : l.length ≤ i) : d64 l i = 0 := by
  unfold d64; rw [List.getD_eq_getElem?_getD, List.getElem?_eq_none h]; rfl
/-- The digits, without the zeros above. -/
def tsz (f : Nat → Nat) : Nat → Nat
  | 0 => 0
  | n + 1 => if f n = 0 then tsz f n else n + 1
theorem tsz_le (f : Nat → Nat) : ∀ n, tsz f n ≤ n
  | 0 => Nat.le_refl _
  | n + 1 => by unfold tsz; split; (have := tsz_le f n; omega); exact Nat.le_refl _
theorem tsz_top (f : Nat → Nat) : ∀ n, tsz f n ≠ 0 → f (tsz f n - 1) ≠ 0
  | 0, h => absurd rfl h
  | n + 1, h => by
    unfold tsz at h ⊢
    by_cases hf : f n = 0
    · rw [if_pos hf] at h ⊢; exact tsz_top f n h
    · rw [if_neg hf]; exact hf
theorem tsz_zero (f : Nat → Nat) : ∀ n i, tsz f n ≤ i → i < n → f i = 0
  | 0, i, _, h => by omega
  | n + 1, i, h, h2 => by
    unfold tsz at h
    by_cases hf : f n = 0
    · rw [if_pos hf] at h
      by_cases hi : i = n
      · subst hi; exact hf
      · exact tsz_zero f n i h (by omega)
    · rw [if_neg hf] at h; omega
theorem tsz_stop (f : Nat → Nat) (n : Nat) (h : ¬ (0 < n ∧ f (n - 1) = 0)) : tsz f n = n := by
  cases n with
  | zero => rfl
  | succ n => unfold tsz; exact if_neg (fun hf => h ⟨by omega, hf⟩)
theorem tsz_go (f : Nat → Nat) (n : Nat) (h : 0 < n ∧ f (n - 1) = 0) : tsz f n = tsz f (n - 1) := by
  obtain ⟨m, rfl⟩ : ∃ m, n = m + 1 := ⟨n - 1, by omega⟩
  conv => lhs; unfold tsz
  exact if_pos h.2
/-- How many bits. -/
def bl (n : Nat) : Nat := if n = 0 then 0 else n.log2 + 1
theorem bl_half (n : Nat) (h : 0 < n) : bl n = bl (n / 2) + 1 := by
  unfold bl
  rw [if_neg (by omega), Nat.log2_def]
  split
  · rw [if_neg (by omega)]
  · rw [if_pos (by omega)]
theorem bl_shift (k n : Nat) : 2 ^ k ≤ n → bl n = k + bl (n / 2 ^ k) := by
  induction k generalizing n with
  | zero => intro _; simp
  | succ k ih =>
    intro h
    rw [Nat.pow_succ] at h
    have hp : 0 < 2 ^ k := Nat.two_pow_pos k
    rw [bl_half n (by omega), ih (n / 2) (by omega), Nat.div_div_eq_div_mul, Nat.pow_succ, Nat.mul_comm 2]
    omega
theorem bl_le (k n : Nat) (h : n < 2 ^ k) : bl n ≤ k := by
  unfold bl
  split
  · omega
  · have := (Nat.log2_lt (by assumption)).2 h; omega
theorem bl_le32 (l : List UInt32) (i : Nat) : bl (d32 l i) ≤ 32 := bl_le 32 _ (d32_lt l i)
def tab8 : List UInt8 := [0, 1] ++ List.replicate 2 2 ++ List.replicate 4 3 ++ List.replicate 8 4 ++ List.replicate 16 5 ++ List.replicate 32 6 ++ List.replicate 64 7 ++ List.replicate 128 8
theorem tab8_len : tab8.length = 256 := by decide +kernel
theorem tab8_at (n : Nat) (h : n < 256) : byteAt tab8 n = bl n := by
  have : ∀ i : Fin 256, byteAt tab8 i.val = bl i.val := by decide +kernel
  exact this ⟨n, h⟩

theorem natsize_fn {a : Option Addr} {c : Nat} {l : List UInt32} {h : Part} (hl : SlR u32R 1 h a c l) : Pure Tryd.prog 68 [.slice a l.length c] h (.int .i64 (tsz (d32 l) l.length : Nat)) := by
  have hll := hl.big
  refine Fn.intro Tryd.func68 rfl Tryd.ntmps68 rfl (fun e he => ?_)
  refine J.weak [(0, _)] ⟨rfl, trivial⟩ ?_
  refine Sr ?_
  refine Ru 1 rfl ?_
  refine JL.nil ?_
  refine Sr ?_
  refine Ru 3 rfl ?_
  refine JL.nil ?_
  refine J.seq ?_
  refine J.block ?_
  refine J.loop (fun t_ S_ h_ L_ => ∃ (n : Nat), t_ = n + 1 ∧ S_ = [(0, .slice a l.length c), (3, .int .i64 n)] ∧ h = h_ ∧ L_ = [] ∧ (n ≤ l.length ∧ tsz (d32 l) l.length = tsz (d32 l) n)) ⟨_, _, ?_, ⟨l.length, rfl, rfl, rfl, rfl, ⟨Nat.le_refl _, rfl⟩⟩⟩ ?_
  ·
   repeat (first | exact trivial | refine ⟨rfl, ?_⟩ | refine ⟨(by exact some_int (by omega)), ?_⟩)
  rintro _ _ _ _ ⟨n, rfl, rfl, rfl, rfl, hn, he⟩
  refine J.seq ?_
  refine J.seq ?_
  refine J.meet [(15, .bool (decide (0 < n ∧ d32 l (n - 1) = 0)))] [(0, _), (3, _)] ⟨rfl, rfl, trivial⟩ ?_ ?_
  ·
   refine Rg ?_
   refine Ru 3 rfl ?_
   refine Bs 8 rfl (fun hc1 => ?_) fun hc1 => ?_
   ·
    refine Ru 2 rfl ?_
    refine JL.opg rfl rfl  (by first | exact RunV.sub_i64 rfl rfl (by omega) (by omega) | exact RunV.sub rfl rfl) rfl ?_
    refine JL.opeg rfl rfl  (RunE.index sl_35 rfl rfl (by first | with_reducible rfl | exact (Int.toNat_of_nonneg (by omega)).symm) (by assumption) rfl (by omega)) rfl ?_
    rintro _ ⟨b2, o2, hi2, rfl, hE2⟩
    refine JL.opg rfl rfl  (RunV.ld_u32 ag_69 rfl (by assumption)) rfl ?_
    rw [d32_at, show ((n : Int) - 1).toNat = n - 1 by omega]
    refine Ru 2 rfl ?_
    refine JL.nil ?_
    refine ⟨rfl, rfl, ?_⟩
    repeat (first | exact trivial | refine ⟨rfl, ?_⟩ | refine ⟨(by exact some_bool (by first | (rw [decide_eq_decide]; omega) | exact (decide_eq_false (by omega)).symm | exact decide_eq_false (by omega))), ?_⟩)
   ·
    refine Ru 7 rfl ?_
    refine JL.nil ?_
    refine ⟨rfl, rfl, ?_⟩
    repeat (first | exact trivial | refine ⟨rfl, ?_⟩ | refine ⟨(by exact some_bool (by first | (rw [decide_eq_decide]; omega) | exact (decide_eq_false (by omega)).symm | exact decide_eq_false (by omega))), ?_⟩)
  ·
   refine Cs rfl (fun hc4 => ?_) fun hc4 => ?_
   ·
    refine J.skip ?_
    refine J.block ?_
    refine Rg ?_
    refine Ru 1 rfl ?_
    refine JL.op (by first | exact RunV.sub_i64 rfl rfl (by omega) (by omega) | exact RunV.sub rfl rfl) rfl ?_
    refine Ru 1 rfl ?_
    refine JL.nil ?_
    refine ⟨_, ?_, _, ?_, ⟨n - 1, rfl, rfl, rfl, rfl, ⟨by omega, by rw [he, tsz_go _ _ (by omega)]⟩⟩⟩
    ·
     omega
    ·
     repeat (first | exact trivial | refine ⟨rfl, ?_⟩ | refine ⟨(by exact some_int (by omega)), ?_⟩)
   ·
    refine J.exit ?_
    refine Sr ?_
    refine Ru 2 rfl ?_
    refine Nk [2] rfl ?_
    exact J.retP (RetV.one rfl rfl) (by rw [he, tsz_stop _ _ (by omega)]) rfl



def hiQ (D n : Nat) : Nat := if D ≤ n then n / D else n
def hiA (D k n : Nat) : Nat := if D ≤ n then k else 0
theorem hi_bl (k n : Nat) : bl n = hiA (2 ^ k) k n + bl (hiQ (2 ^ k) n) := by
  unfold hiA hiQ
  split
  · exact bl_shift k n (by assumption)
  · simp
theorem hi_pos {D n : Nat} (k : Nat) (h : D ≤ n) : hiQ D n = n / D ∧ hiA D k n = k := ⟨if_pos h, if_pos h⟩
theorem hi_neg {D n : Nat} (k : Nat) (h : ¬ D ≤ n) : hiQ D n = n ∧ hiA D k n = 0 := ⟨if_neg h, if_neg h⟩
theorem hiA_le (D k n : Nat) : hiA D k n ≤ k := by unfold hiA; split <;> omega
theorem len32_fn {n : Nat} {h : Part} (hn : n < 4294967296) : Pure Tryd.prog 69 [.int .u32 n] h (.int .i64 (bl n : Nat)) := by
  have htl := tab8_len
  have h1 : hiQ 65536 n < 65536 := by unfold hiQ; split <;> omega
  have h2 : hiQ 256 (hiQ 65536 n) < 256 := (show ∀ m, m < 65536 → hiQ 256 m < 256 from fun m hm => by unfold hiQ; split <;> omega) _ h1
  have e1 : bl n = hiA 65536 16 n + bl (hiQ 65536 n) := hi_bl 16 n
  have e2 : bl (hiQ 65536 n) = hiA 256 8 (hiQ 65536 n) + bl (hiQ 256 (hiQ 65536 n)) := hi_bl 8 _
  have l1 := hiA_le 65536 16 n
  have l2 := hiA_le 256 8 (hiQ 65536 n)
  have l3 := tab8_at _ h2
  have l4 := bl_le 8 _ h2
  refine Fn.intro Tryd.func69 rfl Tryd.ntmps69 rfl (fun e he => ?_)
  refine J.weak [(0, _)] ⟨rfl, trivial⟩ ?_
  refine Sr ?_
  refine Ru 1 rfl ?_
  refine JL.nil ?_
  refine J.seq ?_
  refine Sr ?_
  refine Ru 2 rfl ?_
  refine JL.nil ?_
  refine J.meet [(0, .int .u32 (hiQ 65536 n : Nat)), (2, .int .i64 (hiA 65536 16 n : Nat))] [] trivial ?_ ?_
  ·
   refine Cs rfl (fun hc1 => ?_) fun hc1 => ?_
   ·
    have q := hi_pos (D := 65536) (n := n) 16 (by omega)
    refine Sr ?_
    refine Ru 1 rfl ?_
    refine JL.op (RunV.shr_u32 65536 rfl rfl (by decide) (by decide) (by decide)) rfl ?_
    refine Ru 1 rfl ?_
    refine Nk [0, 2] rfl ?_
    refine Rg ?_
    refine Ru 1 rfl ?_
    refine JL.nil ?_
    refine ⟨rfl, rfl, ?_⟩
    repeat (first | exact trivial | refine ⟨rfl, ?_⟩ | refine ⟨(by exact some_int (by omega)), ?_⟩)
   ·
    have q := hi_neg (D := 65536) (n := n) 16 (by omega)
    refine J.skip ?_
    refine ⟨rfl, rfl, ?_⟩
    repeat (first | exact trivial | refine ⟨rfl, ?_⟩ | refine ⟨(by exact some_int (by omega)), ?_⟩)
  ·
   refine J.seq ?_
   refine Sr ?_
   refine Ru 2 rfl ?_
   refine JL.nil ?_
   refine J.meet [(0, .int .u32 (hiQ 256 (hiQ 65536 n) : Nat)), (2, .int .i64 (hiA 65536 16 n + hiA 256 8 (hiQ 65536 n) : Nat))] [] trivial ?_ ?_
   ·
    refine Cs rfl (fun hc2 => ?_) fun hc2 => ?_
    ·
     have q := hi_pos (D := 256) (n := hiQ 65536 n) 8 (by omega)
     refine Sr ?_
     refine Ru 1 rfl ?_
     refine JL.op (RunV.shr_u32 256 rfl rfl (by decide) (by decide) (by decide)) rfl ?_
     refine Ru 1 rfl ?_
     refine Nk [0, 2] rfl ?_
     refine Rg ?_
     refine Ru 1 rfl ?_
     refine JL.op (by first | exact RunV.add_i64 rfl rfl (by omega) (by omega) | exact RunV.add rfl rfl) rfl ?_
     refine Ru 1 rfl ?_
     refine JL.nil ?_
     refine ⟨rfl, rfl, ?_⟩
     repeat (first | exact trivial | refine ⟨rfl, ?_⟩ | refine ⟨(by exact some_int (by omega)), ?_⟩)
    ·
     have q := hi_neg (D := 256) (n := hiQ 65536 n) 8 (by omega)
     refine J.skip ?_
     refine ⟨rfl, rfl, ?_⟩
     repeat (first | exact trivial | refine ⟨rfl, ?_⟩ | refine ⟨(by exact some_int (by omega)), ?_⟩)
   ·
    refine Sr ?_
    refine Ru 2 rfl ?_
    refine JL.op (by first | exact RunV.conv_u8 cv_69_5 rfl (by omega) (by omega) | exact RunV.conv cv_69_5 rfl) rfl ?_
    refine JL.op (RunV.strIndex (p := tab8) (m := hiQ 256 (hiQ 65536 n)) un_9 (by kernel_rfl) rfl rfl (by omega)) rfl ?_
    rw [l3]
    refine JL.op (by first | exact RunV.convb_i64 cv_5_3 rfl | exact RunV.conv_i64 cv_5_3 rfl (by omega) (by omega) | exact RunV.conv cv_5_3 rfl) rfl ?_
    refine JL.op (by first | exact RunV.add_i64 rfl rfl (by omega) (by omega) | exact RunV.add rfl rfl) rfl ?_
    refine Ru 1 rfl ?_
    refine Nk [2] rfl ?_
    exact J.retP (RetV.one rfl rfl) (by rw [e1, e2, Int.natCast_add, Int.natCast_add, Int.natCast_add, Int.add_assoc]) rfl



end Go.Proofs.YtmngjbefnloljaaDoor
