/- Walks: numbers of many digits: sizes, bits. -/
import Derived.Test.YtmngjbefnloljaaDoorMk
import Derived.Test.YtmngjbefnloljaaDoorSha
import Derived.Test.YtmngjbefnloljaaDoorBits
import Derived.Test.YtmngjbefnloljaaDoorChr
set_option linter.unusedSimpArgs false
set_option linter.unusedVariables false
set_option linter.constructorNameAsVariable false
namespace Go.Proofs.YtmngjbefnloljaaDoor
open Go Go.RowKit
set_option maxRecDepth 100000
theorem ag_100 : aggT Tryd.prog 100 = some none := by kernel_rfl
theorem ag_5 : aggT Tryd.prog 5 = some none := by kernel_rfl
theorem ag_69 : aggT Tryd.prog 69 = some none := by kernel_rfl
theorem ap_75 : apT Tryd.prog 75 = some (100, 1, 8) := by kernel_rfl
theorem ca_41 : callT Tryd.prog 41 = true := by kernel_rfl
theorem ca_68 : callT Tryd.prog 68 = true := by kernel_rfl
theorem ca_69 : callT Tryd.prog 69 = true := by kernel_rfl
theorem ca_70 : callT Tryd.prog 70 = true := by kernel_rfl
theorem cv_69_100 : convI Tryd.prog 69 100 = some .u64 := by kernel_rfl
theorem cv_69_5 : convI Tryd.prog 69 5 = some .u8 := by kernel_rfl
theorem mk_22 : mkT Tryd.prog 22 = some (5, .int .u8 0, 1) := by kernel_rfl
theorem sl_22 : slT Tryd.prog 22 = some (5, 1) := by kernel_rfl
theorem sl_35 : slT Tryd.prog 35 = some (69, 1) := by kernel_rfl
theorem sl_75 : slT Tryd.prog 75 = some (100, 1) := by kernel_rfl
theorem zr_100 : zeroT Tryd.prog 100 = some [.int .u64 0] := by kernel_rfl

def d32 (l : List UInt32) (i : Nat) : Nat := (l.getD i 0).toNat
def d64 (l : List UInt64) (i : Nat) : Nat := (l.getD i 0).toNat
theorem d32_at (l : List UInt32) (i : Nat) (h : i < l.length) : ((l[i]'h).toNat : Int) = d32 l i := by simp [d32, h]
theorem d64_at (l : List UInt64) (i : Nat) (h : i < l.length) : ((l[i]'h).toNat : Int) = d64 l i := by simp [d64, h]
theorem d32_lt (l : List UInt32) (i : Nat) : d32 l i < 4294967296 := UInt32.toNat_lt _
theorem d64_lt (l : List UInt64) (i : Nat) : d64 l i < 18446744073709551616 := UInt64.toNat_lt _
theorem d32_out (l : List UInt32) (i : Nat) (h : l.length ≤ i) : d32 l i = 0 := by
  unfold d32; rw [List.getD_eq_getElem?_getD, List.getElem?_eq_none h]; rfl
theorem d64_out (l : List UInt64) (i : Nat) (h : l.length ≤ i) : d64 l i = 0 := by
  unfold d64; rw [List.getD_eq_getElem?_getD, List.getElem?_eq_none h]; rfl
/-- The digits, without the zeros above. -/
def tsz (f : Nat → Nat) : Nat → Nat
  | 0 => 0
  | n + 1 => if f n = 0 then tsz f n else n + 1
theorem tsz_le (f : Nat → Nat) : ∀ n, tsz f n ≤ n
  | 0 => Nat.le_refl _
  | n + 1 => by unfold tsz; split; (have := tsz_le f n; omega); exact Nat.le_refl _
theorem tsz_top (f : Nat → Nat) : ∀ n, tsz f n ≠ 0 → f (tsz f n - 1) ≠ 0
  | 0, h => absurd rfl h
  | n + 1, h => by
    unfold tsz at h ⊢
    by_cases hf : f n = 0
    · rw [if_pos hf] at h ⊢; exact tsz_top f n h
    · rw [if_neg hf]; exact hf
theorem tsz_zero (f : Nat → Nat) : ∀ n i, tsz f n ≤ i → i < n → f i = 0
  | 0, i, _, h => by omega
  | n + 1, i, h, h2 => by
    unfold tsz at h
    by_cases hf : f n = 0
    · rw [if_pos hf] at h
      by_cases hi : i = n
      · subst hi; exact hf
      · exact tsz_zero f n i h (by omega)
    · rw [if_neg hf] at h; omega
theorem tsz_stop (f : Nat → Nat) (n : Nat) (h : ¬ (0 < n ∧ f (n - 1) = 0)) : tsz f n = n := by
  cases n with
  | zero => rfl
  | succ n => unfold tsz; exact if_neg (fun hf => h ⟨by omega, hf⟩)
theorem tsz_go (f : Nat → Nat) (n : Nat) (h : 0 < n ∧ f (n - 1) = 0) : tsz f n = tsz f (n - 1) := by
  obtain ⟨m, rfl⟩ : ∃ m, n = m + 1 := ⟨n - 1, by omega⟩
  conv => lhs; unfold tsz
  exact if_pos h.2
/-- How many bits. -/
def bl (n : Nat) : Nat := if n = 0 then 0 else n.log2 + 1
theorem bl_half (n : Nat) (h : 0 < n) : bl n = bl (n / 2) + 1 := by
  unfold bl
  rw [if_neg (by omega), Nat.log2_def]
  split
  · rw [if_neg (by omega)]
  · rw [if_pos (by omega)]
theorem bl_shift (k n : Nat) : 2 ^ k ≤ n → bl n = k + bl (n / 2 ^ k) := by
  induction k generalizing n with
  | zero => intro _; simp
  | succ k ih =>
    intro h
    rw [Nat.pow_succ] at h
    have hp : 0 < 2 ^ k := Nat.two_pow_pos k
    rw [bl_half n (by omega), ih (n / 2) (by omega), Nat.div_div_eq_div_mul, Nat.pow_succ, Nat.mul_comm 2]
    omega
theorem bl_le (k n : Nat) (h : n < 2 ^ k) : bl n ≤ k := by
  unfold bl
  split
  · omega
  · have := (Nat.log2_lt (by assumption)).2 h; omega
theorem bl_le32 (l : List UInt32) (i : Nat) : bl (d32 l i) ≤ 32 := bl_le 32 _ (d32_lt l i)
def tab8 : List UInt8 := [0, 1] ++ List.replicate 2 2 ++ List.replicate 4 3 ++ List.replicate 8 4 ++ List.replicate 16 5 ++ List.replicate 32 6 ++ List.replicate 64 7 ++ List.replicate 128 8
theorem tab8_len : tab8.length = 256 := by decide +kernel
theorem tab8_at (n : Nat) (h : n < 256) : byteAt tab8 n = bl n := by
  have : ∀ i : Fin 256, byteAt tab8 i.val = bl i.val := by decide +kernel
  exact this ⟨n, h⟩

theorem natsize_fn {a : Option Addr} {c : Nat} {l : List UInt32} {h : Part} (hl : SlR u32R 1 h a c l) : Pure Tryd.prog 68 [.slice a l.length c] h (.int .i64 (tsz (d32 l) l.length : Nat)) := by
  have hll := hl.big
  refine Fn.intro Tryd.func68 rfl Tryd.ntmps68 rfl (fun e he => ?_)
  refine J.weak [(0, _)] ⟨rfl, trivial⟩ ?_
  refine Sr ?_
  refine Ru 1 rfl ?_
  refine JL.nil ?_
  refine Sr ?_
  refine Ru 3 rfl ?_
  refine JL.nil ?_
  refine J.seq ?_
  refine J.block ?_
  refine J.loop (fun t_ S_ h_ L_ => ∃ (n : Nat), t_ = n + 1 ∧ S_ = [(0, .slice a l.length c), (3, .int .i64 n)] ∧ h = h_ ∧ L_ = [] ∧ (n ≤ l.length ∧ tsz (d32 l) l.length = tsz (d32 l) n)) ⟨_, _, ?_, ⟨l.length, rfl, rfl, rfl, rfl, ⟨Nat.le_refl _, rfl⟩⟩⟩ ?_
  ·
   repeat (first | exact trivial | refine ⟨rfl, ?_⟩ | refine ⟨(by exact some_int (by omega)), ?_⟩)
  rintro _ _ _ _ ⟨n, rfl, rfl, rfl, rfl, hn, he⟩
  refine J.seq ?_
  refine J.seq ?_
  refine J.meet [(15, .bool (decide (0 < n ∧ d32 l (n - 1) = 0)))] [(0, _), (3, _)] ⟨rfl, rfl, trivial⟩ ?_ ?_
  ·
   refine Rg ?_
   refine Ru 3 rfl ?_
   refine Bs 8 rfl (fun hc1 => ?_) fun hc1 => ?_
   ·
    refine Ru 2 rfl ?_
    refine JL.opg rfl rfl  (by first | exact RunV.sub_i64 rfl rfl (by omega) (by omega) | exact RunV.sub rfl rfl) rfl ?_
    refine JL.opeg rfl rfl  (RunE.index sl_35 rfl rfl (by first | with_reducible rfl | exact (Int.toNat_of_nonneg (by omega)).symm) (by assumption) rfl (by omega)) rfl ?_
    rintro _ ⟨b2, o2, hi2, rfl, hE2⟩
    refine JL.opg rfl rfl  (RunV.ld_u32 ag_69 rfl (by assumption)) rfl ?_
    rw [d32_at, show ((n : Int) - 1).toNat = n - 1 by omega]
    refine Ru 2 rfl ?_
    refine JL.nil ?_
    refine ⟨rfl, rfl, ?_⟩
    repeat (first | exact trivial | refine ⟨rfl, ?_⟩ | refine ⟨(by exact some_bool (by first | (rw [decide_eq_decide]; omega) | exact (decide_eq_false (by omega)).symm | exact decide_eq_false (by omega))), ?_⟩)
   ·
    refine Ru 7 rfl ?_
    refine JL.nil ?_
    refine ⟨rfl, rfl, ?_⟩
    repeat (first | exact trivial | refine ⟨rfl, ?_⟩ | refine ⟨(by exact some_bool (by first | (rw [decide_eq_decide]; omega) | exact (decide_eq_false (by omega)).symm | exact decide_eq_false (by omega))), ?_⟩)
  ·
   refine Cs rfl (fun hc4 => ?_) fun hc4 => ?_
   ·
    refine J.skip ?_
    refine J.block ?_
    refine Rg ?_
    refine Ru 1 rfl ?_
    refine JL.op (by first | exact RunV.sub_i64 rfl rfl (by omega) (by omega) | exact RunV.sub rfl rfl) rfl ?_
    refine Ru 1 rfl ?_
    refine JL.nil ?_
    refine ⟨_, ?_, _, ?_, ⟨n - 1, rfl, rfl, rfl, rfl, ⟨by omega, by rw [he, tsz_go _ _ (by omega)]⟩⟩⟩
    ·
     omega
    ·
     repeat (first | exact trivial | refine ⟨rfl, ?_⟩ | refine ⟨(by exact some_int (by omega)), ?_⟩)
   ·
    refine J.exit ?_
    refine Sr ?_
    refine Ru 2 rfl ?_
    refine Nk [2] rfl ?_
    exact J.retP (RetV.one rfl rfl) (by rw [he, tsz_stop _ _ (by omega)]) rfl



def hiQ (D n : Nat) : Nat := if D ≤ n then n / D else n
def hiA (D k n : Nat) : Nat := if D ≤ n then k else 0
theorem hi_bl (k n : Nat) : bl n = hiA (2 ^ k) k n + bl (hiQ (2 ^ k) n) := by
  unfold hiA hiQ
  split
  · exact bl_shift k n (by assumption)
  · simp
theorem hi_pos {D n : Nat} (k : Nat) (h : D ≤ n) : hiQ D n = n / D ∧ hiA D k n = k := ⟨if_pos h, if_pos h⟩
theorem hi_neg {D n : Nat} (k : Nat) (h : ¬ D ≤ n) : hiQ D n = n ∧ hiA D k n = 0 := ⟨if_neg h, if_neg h⟩
theorem hiA_le (D k n : Nat) : hiA D k n ≤ k := by unfold hiA; split <;> omega
theorem len32_fn {n : Nat} {h : Part} (hn : n < 4294967296) : Pure Tryd.prog 69 [.int .u32 n] h (.int .i64 (bl n : Nat)) := by
  have htl := tab8_len
  have h1 : hiQ 65536 n < 65536 := by unfold hiQ; split <;> omega
  have h2 : hiQ 256 (hiQ 65536 n) < 256 := (show ∀ m, m < 65536 → hiQ 256 m < 256 from fun m hm => by unfold hiQ; split <;> omega) _ h1
  have e1 : bl n = hiA 65536 16 n + bl (hiQ 65536 n) := hi_bl 16 n
  have e2 : bl (hiQ 65536 n) = hiA 256 8 (hiQ 65536 n) + bl (hiQ 256 (hiQ 65536 n)) := hi_bl 8 _
  have l1 := hiA_le 65536 16 n
  have l2 := hiA_le 256 8 (hiQ 65536 n)
  have l3 := tab8_at _ h2
  have l4 := bl_le 8 _ h2
  refine Fn.intro Tryd.func69 rfl Tryd.ntmps69 rfl (fun e he => ?_)
  refine J.weak [(0, _)] ⟨rfl, trivial⟩ ?_
  refine Sr ?_
  refine Ru 1 rfl ?_
  refine JL.nil ?_
  refine J.seq ?_
  refine Sr ?_
  refine Ru 2 rfl ?_
  refine JL.nil ?_
  refine J.meet [(0, .int .u32 (hiQ 65536 n : Nat)), (2, .int .i64 (hiA 65536 16 n : Nat))] [] trivial ?_ ?_
  ·
   refine Cs rfl (fun hc1 => ?_) fun hc1 => ?_
   ·
    have q := hi_pos (D := 65536) (n := n) 16 (by omega)
    refine Sr ?_
    refine Ru 1 rfl ?_
    refine JL.op (RunV.shr_u32 65536 rfl rfl (by decide) (by decide) (by decide)) rfl ?_
    refine Ru 1 rfl ?_
    refine Nk [0, 2] rfl ?_
    refine Rg ?_
    refine Ru 1 rfl ?_
    refine JL.nil ?_
    refine ⟨rfl, rfl, ?_⟩
    repeat (first | exact trivial | refine ⟨rfl, ?_⟩ | refine ⟨(by exact some_int (by omega)), ?_⟩)
   ·
    have q := hi_neg (D := 65536) (n := n) 16 (by omega)
    refine J.skip ?_
    refine ⟨rfl, rfl, ?_⟩
    repeat (first | exact trivial | refine ⟨rfl, ?_⟩ | refine ⟨(by exact some_int (by omega)), ?_⟩)
  ·
   refine J.seq ?_
   refine Sr ?_
   refine Ru 2 rfl ?_
   refine JL.nil ?_
   refine J.meet [(0, .int .u32 (hiQ 256 (hiQ 65536 n) : Nat)), (2, .int .i64 (hiA 65536 16 n + hiA 256 8 (hiQ 65536 n) : Nat))] [] trivial ?_ ?_
   ·
    refine Cs rfl (fun hc2 => ?_) fun hc2 => ?_
    ·
     have q := hi_pos (D := 256) (n := hiQ 65536 n) 8 (by omega)
     refine Sr ?_
     refine Ru 1 rfl ?_
     refine JL.op (RunV.shr_u32 256 rfl rfl (by decide) (by decide) (by decide)) rfl ?_
     refine Ru 1 rfl ?_
     refine Nk [0, 2] rfl ?_
     refine Rg ?_
     refine Ru 1 rfl ?_
     refine JL.op (by first | exact RunV.add_i64 rfl rfl (by omega) (by omega) | exact RunV.add rfl rfl) rfl ?_
     refine Ru 1 rfl ?_
     refine JL.nil ?_
     refine ⟨rfl, rfl, ?_⟩
     repeat (first | exact trivial | refine ⟨rfl, ?_⟩ | refine ⟨(by exact some_int (by omega)), ?_⟩)
    ·
     have q := hi_neg (D := 256) (n := hiQ 65536 n) 8 (by omega)
     refine J.skip ?_
     refine ⟨rfl, rfl, ?_⟩
     repeat (first | exact trivial | refine ⟨rfl, ?_⟩ | refine ⟨(by exact some_int (by omega)), ?_⟩)
   ·
    refine Sr ?_
    refine Ru 2 rfl ?_
    refine JL.op (by first | exact RunV.conv_u8 cv_69_5 rfl (by omega) (by omega) | exact RunV.conv cv_69_5 rfl) rfl ?_
    refine JL.op (RunV.strIndex (p := tab8) (m := hiQ 256 (hiQ 65536 n)) un_9 (by kernel_rfl) rfl rfl (by omega)) rfl ?_
    rw [l3]
    refine JL.op (by first | exact RunV.convb_i64 cv_5_3 rfl | exact RunV.conv_i64 cv_5_3 rfl (by omega) (by omega) | exact RunV.conv cv_5_3 rfl) rfl ?_
    refine JL.op (by first | exact RunV.add_i64 rfl rfl (by omega) (by omega) | exact RunV.add rfl rfl) rfl ?_
    refine Ru 1 rfl ?_
    refine Nk [2] rfl ?_
    exact J.retP (RetV.one rfl rfl) (by rw [e1, e2, Int.natCast_add, Int.natCast_add, Int.natCast_add, Int.add_assoc]) rfl




def nbits (f : Nat → Nat) (n : Nat) : Nat := if tsz f n = 0 then 0 else 32 * (tsz f n - 1) + bl (f (tsz f n - 1))
theorem natbits_fn {a : Option Addr} {c : Nat} {l : List UInt32} {h : Part} (hl : SlR u32R 1 h a c l) : Pure Tryd.prog 41 [.slice a l.length c] h (.int .i64 (nbits (d32 l) l.length : Nat)) := by
  have hll := hl.big
  have ht := tsz_le (d32 l) l.length
  have hb := bl_le32 l (tsz (d32 l) l.length - 1)
  refine Fn.intro Tryd.func41 rfl Tryd.ntmps41 rfl (fun e he => ?_)
  refine J.weak [(0, _)] ⟨rfl, trivial⟩ ?_
  refine Sr ?_
  refine Ru 1 rfl ?_
  refine JL.nil ?_
  refine Sr ?_
  refine Ru 1 rfl ?_
  refine JL.callP ca_68 rfl (natsize_fn (by assumption)) rfl ?_
  refine Ru 1 rfl ?_
  refine JL.nil ?_
  refine J.seq ?_
  refine Sr ?_
  refine Ru 2 rfl ?_
  refine JL.nil ?_
  refine Cs rfl (fun hc2 => ?_) fun hc2 => ?_
  ·
   have hz : nbits (d32 l) l.length = 0 := if_pos (by omega)
   refine Sr ?_
   refine Ru 1 rfl ?_
   refine Nk [2, 3, 0] rfl ?_
   exact J.retP (RetV.one rfl rfl) (by rw [hz]; rfl) rfl
  ·
   have hz : nbits (d32 l) l.length = 32 * (tsz (d32 l) l.length - 1) + bl (d32 l (tsz (d32 l) l.length - 1)) := if_neg (by omega)
   refine J.skip ?_
   refine Kp [3, 2, 0] rfl ?_
   refine Sr ?_
   refine Ru 1 rfl ?_
   refine JL.op (by first | exact RunV.sub_i64 rfl rfl (by omega) (by omega) | exact RunV.sub rfl rfl) rfl ?_
   refine JL.op (by first | exact RunV.mul_i64 rfl rfl (by omega) (by omega) | exact RunV.mul rfl rfl) rfl ?_
   refine Ru 2 rfl ?_
   refine JL.op (by first | exact RunV.sub_i64 rfl rfl (by omega) (by omega) | exact RunV.sub rfl rfl) rfl ?_
   refine JL.ope (RunE.index sl_35 rfl rfl (by first | with_reducible rfl | exact (Int.toNat_of_nonneg (by omega)).symm) (by assumption) rfl (by omega)) rfl ?_
   rintro _ ⟨b3, o3, hi3, rfl, hE3⟩
   refine JL.op (RunV.ld_u32 ag_69 rfl (by assumption)) rfl ?_
   rw [d32_at, show ((tsz (d32 l) l.length : Int) - 1).toNat = tsz (d32 l) l.length - 1 by omega]
   refine JL.callP ca_69 rfl (len32_fn (d32_lt _ _)) rfl ?_
   refine JL.op (by first | exact RunV.add_i64 rfl rfl (by omega) (by omega) | exact RunV.add rfl rfl) rfl ?_
   refine Ru 1 rfl ?_
   refine Nk [2] rfl ?_
   exact J.retP (RetV.one rfl rfl) (by rw [hz]; exact congrArg (Value.int .i64) (by omega)) rfl




/-- Byte i of the number, from the least. -/
def wB (f : Nat → Nat) (i : Nat) : UInt8 := UInt8.ofNat (f (i / 4) / 256 ^ (i % 4))
def natW (f : Nat → Nat) : Nat → List UInt8
  | 0 => []
  | k + 1 => wB f k :: natW f k
theorem natW_len (f : Nat → Nat) : ∀ k, (natW f k).length = k
  | 0 => rfl
  | k + 1 => by simp [natW, natW_len f k]
theorem shr_d (i : Nat) : (2 : Int) ^ (8 * ((i : Int) % 4)).toNat = 256 ^ (i % 4) := by
  have : (8 * ((i : Int) % 4)).toNat = 8 * (i % 4) := by omega
  rw [this, Int.pow_mul]; rfl
theorem set_rep (m : Nat) (t : List UInt8) (x : UInt8) : (List.replicate (m + 1) 0 ++ t).set m x = List.replicate m 0 ++ x :: t := by
  rw [List.replicate_succ', List.append_assoc, List.set_append_right _ _ (by simp)]
  simp
theorem rep_one (m : Nat) (t : List UInt8) : (List.replicate (m + 1) 0 ++ t : List UInt8) = List.replicate m 0 ++ 0 :: t := by
  rw [List.replicate_succ', List.append_assoc]; rfl
theorem natwrite_fn {a : Option Addr} {c k : Nat} {l : List UInt32} {h : Part} (hl : SlR u32R 1 h a c l) (hk : k ≤ 65536) (hb : (nbits (d32 l) l.length + 7) / 8 ≤ k) :
    FnR Tryd.prog 42 [.slice a l.length c, .int .i64 k] h (fun v h' => ∃ a' c', v = .tuple #[.slice a' (natW (d32 l) k).length c', .int .i64 0] ∧ SlR u8R 1 h' a' c' (natW (d32 l) k)) := by
  have hll := hl.big
  refine Fn.intro Tryd.func42 rfl Tryd.ntmps42 rfl (fun e he => ?_)
  refine J.weak [(0, _), (1, _)] ⟨rfl, rfl, trivial⟩ ?_
  have hh0 := Part.le.refl h
  refine Sr ?_
  refine Ru 2 rfl ?_
  refine JL.nil ?_
  refine J.seq ?_
  refine Sr ?_
  refine Ru 3 rfl ?_
  apply On 10 13 3 [5, 4, 0, 1] rfl rfl
  rotate_left
  ·
   intro hb1 hc1
   refine Ru 3 rfl ?_
   exact Ae (om_f hb1 rfl) rfl
  rotate_right
  ·
   exact fun hb1 _ => Ru 3 rfl (Ae (om_t hb1 rfl) rfl)
  refine JL.nil ?_
  refine Cs rfl (fun hc2 => ?_) fun hc2 => ?_
  ·
   exfalso; omega
  refine J.skip ?_
  refine J.seq ?_
  refine Sr ?_
  refine Ru 1 rfl ?_
  refine JL.callP ca_41 rfl (natbits_fn (by assumption)) rfl ?_
  refine JL.op (by first | exact RunV.add_i64 rfl rfl (by omega) (by omega) | exact RunV.add rfl rfl) rfl ?_
  refine JL.op (by first | exact RunV.quo_i64 rfl rfl (by omega) (by omega) (by omega) | exact RunV.quo rfl rfl (by omega)) rfl ?_
  refine Ru 2 rfl ?_
  refine Nk [19, 5, 4, 0, 1] rfl ?_
  refine Cs rfl (fun hc4 => ?_) fun hc4 => ?_
  ·
   exfalso; omega
  refine J.skip ?_
  refine Sr ?_
  refine Ru 1 rfl ?_
  refine JL.make1 mk_22 rfl rfl (m := k) rfl rfl (by omega) rfl rfl (fun b1 => ?_); rw [replicate_u8]
  refine Ru 1 rfl ?_
  refine JL.nil ?_
  refine J.seq ?_
  refine Sr ?_
  refine Ru 2 rfl ?_
  refine JL.nil ?_
  refine J.block ?_
  refine J.loop (fun t_ S_ h_ L_ => ∃ (i : Nat) (out : List UInt8), t_ = k - i ∧ S_ = [(0, .slice a l.length c), (1, .int .i64 k), (6, .slice (some ⟨b1, 0, none⟩) k k), (22, .int .i64 k), (23, .int .i64 i)] ∧ h = h_ ∧ L_ = [.row (some ⟨b1, 0, none⟩) k 5 1 k (u8s out)] ∧ (i ≤ k ∧ out = List.replicate (k - i) 0 ++ natW (d32 l) i)) ⟨_, _, ?_, ⟨0, _, rfl, rfl, rfl, rfl, ⟨by omega, by simp [natW]⟩⟩⟩ ?_
  ·
   repeat (first | exact trivial | refine ⟨rfl, ?_⟩)
  rintro _ _ _ _ ⟨i, out, rfl, rfl, rfl, rfl, hi, ho⟩
  refine Sr ?_
  refine Ru 1 rfl ?_
  refine JL.nil ?_
  refine J.seq ?_
  refine Cs rfl (fun hc6 => ?_) fun hc6 => ?_
  ·
   have hol : out.length = k := (by rw [ho, List.length_append, List.length_replicate, natW_len]; omega); have hdl := d32_lt l (i / 4)
   refine J.skip ?_
   refine J.seq ?_
   refine J.block ?_
   refine Sr ?_
   refine Ru 2 rfl ?_
   refine JL.nil ?_
   refine Sr ?_
   refine Ru 1 rfl ?_
   refine JL.op (by first | exact RunV.quo_i64 rfl rfl (by omega) (by omega) (by omega) | exact RunV.quo rfl rfl (by omega)) rfl ?_
   refine Ru 3 rfl ?_
   refine JL.nil ?_
   refine Cs rfl (fun hc7 => ?_) fun hc7 => ?_
   ·
    obtain ⟨m, hm⟩ : ∃ m, k - i = m + 1 := ⟨k - i - 1, by omega⟩; have hset : out.set (k - 1 - i) (wB (d32 l) i) = List.replicate (k - (i + 1)) 0 ++ natW (d32 l) (i + 1) := (by rw [ho, hm, show k - 1 - i = m by omega, set_rep, show k - (i + 1) = m by omega]; rfl)
    refine Rg ?_
    refine Ru 2 rfl ?_
    refine JL.op (by first | exact RunV.sub_i64 rfl rfl (by omega) (by omega) | exact RunV.sub rfl rfl) rfl ?_
    refine Ru 1 rfl ?_
    refine JL.op (by first | exact RunV.sub_i64 rfl rfl (by omega) (by omega) | exact RunV.sub rfl rfl) rfl ?_
    refine Ru 2 rfl ?_
    refine JL.op (by first | exact RunV.quo_i64 rfl rfl (by omega) (by omega) (by omega) | exact RunV.quo rfl rfl (by omega)) rfl ?_
    refine JL.ope (RunE.index sl_35 rfl rfl (by first | with_reducible rfl | exact (Int.toNat_of_nonneg (by omega)).symm) (by assumption) rfl (by omega)) rfl ?_
    rintro _ ⟨b8, o8, hi8, rfl, hE8⟩
    refine JL.op (RunV.ld_u32 ag_69 rfl (by assumption)) rfl ?_
    rw [d32_at, show ((i : Int) / 4).toNat = i / 4 by omega]
    refine Ru 1 rfl ?_
    refine JL.op (by first | exact RunV.rem_i64 rfl rfl (by omega) (by omega) | exact RunV.rem rfl rfl (by omega)) rfl ?_
    refine JL.op (by first | exact RunV.mul_i64 rfl rfl (by omega) (by omega) | exact RunV.mul rfl rfl) rfl ?_
    refine JL.op (RunV.shr_u32 (256 ^ (i % 4)) rfl rfl (by omega) (by omega) (shr_d i)) rfl ?_
    refine JL.op (RunV.toByte (d32 l (i / 4) / 256 ^ (i % 4)) cv_69_5 rfl (by rw [Int.natCast_ediv, Int.natCast_pow]; rfl)) rfl ?_
    refine JL.op (RunV.index_at sl_22 (m := k - 1 - i) rfl rfl (by omega) (by omega)) rfl ?_
    refine JL.storeRow ag_5 rfl rfl rfl (by repeat (first | exact Del.here | apply Del.there)) (show k - 1 - i < (u8s out).length by rw [u8s_length]; omega) ?_; rw [u8s_set]
    refine JL.nil ?_
    refine Rg ?_
    refine JL.op (by first | exact RunV.add_i64 rfl rfl (by omega) (by omega) | exact RunV.add rfl rfl) rfl ?_
    refine Ru 1 rfl ?_
    refine JL.nil ?_
    refine ⟨_, ?_, _, ?_, ⟨i + 1, _, rfl, rfl, rfl, rfl, ⟨by omega, hset⟩⟩⟩
    ·
     omega
    ·
     repeat (first | exact trivial | refine ⟨rfl, ?_⟩)
   ·
    obtain ⟨m, hm⟩ : ∃ m, k - i = m + 1 := ⟨k - i - 1, by omega⟩; have hset : out = List.replicate (k - (i + 1)) 0 ++ natW (d32 l) (i + 1) := (by rw [ho, hm, rep_one, show k - (i + 1) = m by omega, natW, wB, d32_out l (i / 4) (by omega), Nat.zero_div]; rfl)
    refine J.skip ?_
    refine Rg ?_
    refine JL.op (by first | exact RunV.add_i64 rfl rfl (by omega) (by omega) | exact RunV.add rfl rfl) rfl ?_
    refine Ru 1 rfl ?_
    refine JL.nil ?_
    refine ⟨_, ?_, _, ?_, ⟨i + 1, _, rfl, rfl, rfl, rfl, ⟨by omega, hset⟩⟩⟩
    ·
     omega
    ·
     repeat (first | exact trivial | refine ⟨rfl, ?_⟩)
  ·
   refine J.exit ?_
   refine Kp [6] rfl ?_
   refine Sr ?_
   have hik : i = k := (by omega); have ho2 : out = natW (d32 l) k := (by rw [ho, hik, Nat.sub_self]; rfl); have hkl := natW_len (d32 l) k; subst ho2; refine JL.pub (R := u8R) (l := natW (d32 l) k) (by repeat (first | exact Del.here | apply Del.there)) CellsR.of_u8 (by omega) (by omega) (fun h9 hle9 hS9 => ?_)
   refine Ru 3 rfl ?_
   refine JL.nil ?_
   exact J.retR (RetV.two rfl rfl rfl) ⟨_, _, by rw [hkl], hS9⟩




def cutZ (l : List UInt64) : List UInt64 := l.take (tsz (d64 l) l.length)
def m64 (x : UInt32) : UInt64 := UInt64.ofNat x.toNat
theorem m64_nat (x : UInt32) : (m64 x).toNat = x.toNat := by
  have := UInt32.toNat_lt x
  unfold m64; rw [UInt64.toNat_ofNat']; omega
theorem d64_map (l : List UInt32) (i : Nat) : d64 (l.map m64) i = d32 l i := by
  unfold d64 d32
  by_cases h : i < l.length
  · simp [h, m64_nat]
  · simp [h]
theorem tsz_congr {f g : Nat → Nat} (h : ∀ i, f i = g i) (n : Nat) : tsz f n = tsz g n := by rw [show f = g from funext h]
theorem d64_take (l : List UInt64) (k i : Nat) (h : ∀ i, k ≤ i → i < l.length → d64 l i = 0) : d64 (l.take k) i = d64 l i := by
  by_cases hi : i < k
  · unfold d64; simp [List.getElem?_take, hi]
  · by_cases hl : i < l.length
    · rw [h i (by omega) hl, d64_out _ _ (by rw [List.length_take]; omega)]
    · rw [d64_out l _ (by omega), d64_out _ _ (by rw [List.length_take]; omega)]
def digsB (l : List UInt32) : List UInt64 := cutZ (l.map m64)
theorem digsB_len (l : List UInt32) : (digsB l).length = tsz (d32 l) l.length := by
  unfold digsB cutZ
  have := tsz_le (d64 (l.map m64)) (l.map m64).length
  rw [List.length_take, Nat.min_eq_left this, tsz_congr (d64_map l), List.length_map]
theorem digsB_at (l : List UInt32) (i : Nat) : d64 (digsB l) i = d32 l i := by
  unfold digsB cutZ
  rw [d64_take _ _ _ (fun i h1 h2 => tsz_zero _ _ i h1 h2), d64_map]
theorem cut_fn {a : Option Addr} {c : Nat} {l : List UInt64} {h : Part} (hl : SlR u64R 1 h a c l) : FnR Tryd.prog 70 [.slice a l.length c] h (fun v h' => ∃ a' c', v = .slice a' (cutZ l).length c' ∧ SlR u64R 1 h' a' c' (cutZ l)) := by
  have hll := hl.big
  have hh0 := Part.le.refl h
  refine Fn.intro Tryd.func70 rfl Tryd.ntmps70 rfl (fun e he => ?_)
  refine J.weak [(0, _)] ⟨rfl, trivial⟩ ?_
  refine Sr ?_
  refine Ru 1 rfl ?_
  refine JL.nil ?_
  refine Sr ?_
  refine Ru 3 rfl ?_
  refine JL.nil ?_
  refine J.seq ?_
  refine J.block ?_
  refine J.loop (fun t_ S_ h_ L_ => ∃ (n : Nat), t_ = n + 1 ∧ S_ = [(0, .slice a l.length c), (3, .int .i64 n)] ∧ h = h_ ∧ L_ = [] ∧ (n ≤ l.length ∧ tsz (d64 l) l.length = tsz (d64 l) n)) ⟨_, _, ?_, ⟨l.length, rfl, rfl, rfl, rfl, ⟨Nat.le_refl _, rfl⟩⟩⟩ ?_
  ·
   repeat (first | exact trivial | refine ⟨rfl, ?_⟩ | refine ⟨(by exact some_int (by omega)), ?_⟩)
  rintro _ _ _ _ ⟨n, rfl, rfl, rfl, rfl, hn, he⟩
  refine J.seq ?_
  refine J.seq ?_
  refine J.meet [(15, .bool (decide (0 < n ∧ d64 l (n - 1) = 0)))] [(0, _), (3, _)] ⟨rfl, rfl, trivial⟩ ?_ ?_
  ·
   refine Rg ?_
   refine Ru 3 rfl ?_
   refine Bs 8 rfl (fun hc1 => ?_) fun hc1 => ?_
   ·
    refine Ru 2 rfl ?_
    refine JL.opg rfl rfl  (by first | exact RunV.sub_i64 rfl rfl (by omega) (by omega) | exact RunV.sub rfl rfl) rfl ?_
    refine JL.opeg rfl rfl  (RunE.index sl_75 rfl rfl (by first | with_reducible rfl | exact (Int.toNat_of_nonneg (by omega)).symm) (by assumption) rfl (by omega)) rfl ?_
    rintro _ ⟨b2, o2, hi2, rfl, hE2⟩
    refine JL.opg rfl rfl  (RunV.ld_u64 ag_100 rfl (by assumption)) rfl ?_
    rw [d64_at, show ((n : Int) - 1).toNat = n - 1 by omega]
    refine Ru 2 rfl ?_
    refine JL.nil ?_
    refine ⟨rfl, rfl, ?_⟩
    repeat (first | exact trivial | refine ⟨rfl, ?_⟩ | refine ⟨(by exact some_bool (by first | (rw [decide_eq_decide]; omega) | exact (decide_eq_false (by omega)).symm | exact decide_eq_false (by omega))), ?_⟩)
   ·
    refine Ru 7 rfl ?_
    refine JL.nil ?_
    refine ⟨rfl, rfl, ?_⟩
    repeat (first | exact trivial | refine ⟨rfl, ?_⟩ | refine ⟨(by exact some_bool (by first | (rw [decide_eq_decide]; omega) | exact (decide_eq_false (by omega)).symm | exact decide_eq_false (by omega))), ?_⟩)
  ·
   refine Cs rfl (fun hc4 => ?_) fun hc4 => ?_
   ·
    refine J.skip ?_
    refine J.block ?_
    refine Rg ?_
    refine Ru 1 rfl ?_
    refine JL.op (by first | exact RunV.sub_i64 rfl rfl (by omega) (by omega) | exact RunV.sub rfl rfl) rfl ?_
    refine Ru 1 rfl ?_
    refine JL.nil ?_
    refine ⟨_, ?_, _, ?_, ⟨n - 1, rfl, rfl, rfl, rfl, ⟨by omega, by rw [he, tsz_go _ _ (by omega)]⟩⟩⟩
    ·
     omega
    ·
     repeat (first | exact trivial | refine ⟨rfl, ?_⟩ | refine ⟨(by exact some_int (by omega)), ?_⟩)
   ·
    have hcz : l.take n = cutZ l := (by unfold cutZ; rw [he, tsz_stop _ _ (by omega)])
    refine J.exit ?_
    refine Sr ?_
    refine Ru 2 rfl ?_
    refine JL.ope (RunE.cut_h sl_75 (m := n) rfl rfl rfl (by assumption) rfl (by omega)) rfl ?_
    rintro _ ⟨a9, c9, rfl, hS9⟩
    rw [hcz] at hS9 ⊢
    refine Ru 1 rfl ?_
    refine Nk [2] rfl ?_
    exact J.retR (RetV.one rfl rfl) ⟨_, _, rfl, hS9⟩



theorem digits32_fn {a : Option Addr} {c : Nat} {l : List UInt32} {h : Part} (hl : SlR u32R 1 h a c l) (hlen : l.length ≤ 1000000) : FnR Tryd.prog 44 [.slice a l.length c] h (fun v h' => ∃ a' c', v = .slice a' (digsB l).length c' ∧ SlR u64R 1 h' a' c' (digsB l)) := by
  have hll := hl.big
  refine Fn.intro Tryd.func44 rfl Tryd.ntmps44 rfl (fun e he => ?_)
  refine J.weak [(0, _)] ⟨rfl, trivial⟩ ?_
  refine Sr ?_
  refine Ru 1 rfl ?_
  refine JL.nil ?_
  refine Sr ?_
  refine Ru 1 rfl ?_
  refine JL.nil ?_
  refine J.seq ?_
  refine Sr ?_
  refine JL.row_nil 100 1 ?_
  refine Ru 1 rfl ?_
  refine JL.nil ?_
  refine J.block ?_
  refine J.loop (fun t_ S_ h_ L_ => ∃ (g : Part) (i : Nat) (ao : Option Addr) (co : Nat) (xs : List Value), t_ = l.length - i ∧ S_ = [(0, .slice a l.length c), (3, .slice ao ((l.map m64).take i).length co), (4, .int .i64 i)] ∧ g = h_ ∧ L_ = [.row ao co 100 1 ((l.map m64).take i).length xs] ∧ (h.le g ∧ i ≤ l.length ∧ CellsR u64R 1 g xs ((l.map m64).take i))) ⟨_, _, ?_, ⟨_, 0, _, _, _, rfl, rfl, rfl, rfl, ⟨Part.le.refl _, by omega, CellsR.nil⟩⟩⟩ ?_
  ·
   repeat (first | exact trivial | refine ⟨rfl, ?_⟩)
  rintro _ _ _ _ ⟨g, i, ao, co, xs, rfl, rfl, rfl, rfl, hhg, hi, hC⟩
  have hl := hl.mono hhg
  refine J.seq ?_
  refine Sr ?_
  refine Ru 4 rfl ?_
  refine JL.nil ?_
  refine Cs rfl (fun hc1 => ?_) fun hc1 => ?_
  ·
   have hi2 : i < l.length := (by omega); have hi' : i < (l.map m64).length := (by rw [List.length_map]; omega); have htl : ((l.map m64).take i).length = i := (by rw [List.length_take, List.length_map]; omega); have hke : (l.map m64).take i ++ [m64 (l[i]'hi2)] = (l.map m64).take (i + 1) := (by rw [List.take_succ_eq_append_getElem hi', List.getElem_map])
   refine J.skip ?_
   refine J.seq ?_
   refine J.block ?_
   refine Rg ?_
   refine Ru 3 rfl ?_
   refine JL.ope (RunE.index sl_35 rfl rfl (by first | with_reducible rfl | exact (Int.toNat_of_nonneg (by omega)).symm) (by assumption) rfl (by omega)) rfl ?_
   rintro _ ⟨b2, o2, hi2, rfl, hE2⟩
   refine JL.op (RunV.ld_u32 ag_69 rfl (by assumption)) rfl ?_
   refine JL.op (by first | exact RunV.convw_u64 cv_69_100 rfl | exact RunV.conv_u64 cv_69_100 rfl (by omega) (by omega) | exact RunV.conv cv_69_100 rfl) rfl ?_
   refine JL.lit1 ap_75 zr_100 rfl rfl rfl rfl rfl (fun b4 => ?_)
   refine JL.append1 ap_75 rfl rfl (by assumption) rfl (by repeat (first | exact Del.here | apply Del.there)) (by repeat (first | exact Del.here | apply Del.there)) rfl ((by show _ = _; rw [m64_nat] : u64R _ [.int .u64 (l[i].toNat : Int)] (m64 l[i]))) (by first | omega | (simp only [List.length_append, List.length_cons, List.length_nil]; omega)) rfl rfl (fun a5 c5 xs5 hC5 hN5 => ?_)
   rw [hke] at *
   refine Ru 1 rfl ?_
   refine JL.nil ?_
   refine Rg ?_
   refine Ru 1 rfl ?_
   refine JL.op (by first | exact RunV.add_i64 rfl rfl (by omega) (by omega) | exact RunV.add rfl rfl) rfl ?_
   refine Ru 1 rfl ?_
   refine JL.nil ?_
   refine ⟨_, ?_, _, ?_, ⟨_, i + 1, _, _, _, rfl, rfl, rfl, rfl, ⟨by assumption, by omega, by assumption⟩⟩⟩
   ·
    omega
   ·
    repeat (first | exact trivial | refine ⟨rfl, ?_⟩)
  ·
   refine J.exit ?_
   refine Kp [3] rfl ?_
   refine Sr ?_
   refine Ru 1 rfl ?_
   have hke : (l.map m64).take i = l.map m64 := List.take_of_length_le (by rw [List.length_map]; omega); have hml : (l.map m64).length = l.length := List.length_map ..; rw [hke] at hC ⊢; refine JL.pub (R := u64R) (by repeat (first | exact Del.here | apply Del.there)) (by assumption) rfl (by omega) (fun h9 hle9 hS9 => ?_); replace hl := hl.mono hle9; replace hC := hC.mono hle9; replace hhg := hhg.mono hle9
   refine JL.callR ca_70 rfl (cut_fn (by assumption)) rfl ?_
   rintro _ h6 hle6 ⟨a6, c6, rfl, hS6⟩
   replace hl := hl.mono hle6
   replace hhg := hhg.mono hle6
   replace hC := hC.mono hle6
   refine Ru 1 rfl ?_
   refine JL.nil ?_
   exact J.retR (RetV.one rfl rfl) ⟨_, _, rfl, by assumption⟩





theorem ofNat_mod8 (n : Nat) : UInt8.ofNat (n % 256) = UInt8.ofNat n := by
  apply UInt8.toNat_inj.1
  simp
end Go.Proofs.YtmngjbefnloljaaDoor
