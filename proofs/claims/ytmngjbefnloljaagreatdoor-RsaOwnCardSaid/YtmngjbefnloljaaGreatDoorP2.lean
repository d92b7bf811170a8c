/- Walks: numbers of many digits: sizes, bits; Walks: the reference's lengths; the law DerLengths; Walks: numbers as nodes; the law DerNumbers; Plain: the value of digits of 2 to the 32, and of bytes; Walks: numbers out of bytes; integers and numbers out of nodes; Walks: the program's arithmetic: comparison, product, shift, division by one digit; Walks: the program's division: a digit of a quotient, the quotient, the power; Walks: the program's division and power; Walks: the program's power; Walks: the reference's texts: characters; Walks: the reference's object identifiers. -/
import Derived.Test.YtmngjbefnloljaaGreatDoorP1
set_option linter.unusedSimpArgs false
set_option linter.unusedVariables false
set_option linter.constructorNameAsVariable false
namespace Go.Proofs.YtmngjbefnloljaaGreatDoor
open Go Go.RowKit
theorem z9_ {p : Prop} (u : p := by first | exact RunV.conv_u64 cv_103_63 rfl (by omega) (by omega) | exact RunV.convw_u64 cv_103_63 rfl | exact RunV.conv cv_103_63 rfl) : p := u
theorem z38_ {p : Prop} (u : p := by repeat (first | exact trivial | refine ⟨rfl, ?_⟩ | refine ⟨(by exact some_bool (by first | (rw [decide_eq_decide]; omega) | exact (decide_eq_false (by omega)).symm | exact decide_eq_false (by omega))), ?_⟩)) : p := u
end Go.Proofs.YtmngjbefnloljaaGreatDoor
namespace Go.Proofs.YtmngjbefnloljaaGreatDoor
open Go Go.RowKit
set_option maxRecDepth 100000
theorem ag_103 : aggT Tryz.prog 103 = some none := by kernel_rfl
theorem ca_40 : callT Tryz.prog 40 = true := by kernel_rfl
theorem ca_45 : callT Tryz.prog 45 = true := by kernel_rfl
theorem ca_56 : callT Tryz.prog 56 = true := by kernel_rfl
theorem ca_57 : callT Tryz.prog 57 = true := by kernel_rfl
theorem ca_84 : callT Tryz.prog 84 = true := by kernel_rfl
theorem ca_85 : callT Tryz.prog 85 = true := by kernel_rfl
theorem ca_97 : callT Tryz.prog 97 = true := by kernel_rfl
theorem cv_103_5 : convI Tryz.prog 103 5 = some .u8 := by kernel_rfl
theorem cv_103_63 : convI Tryz.prog 103 63 = some .u64 := by kernel_rfl
theorem mk_22 : mkT Tryz.prog 22 = some (5, .int .u8 0, 1) := by kernel_rfl
theorem sl_30 : slT Tryz.prog 30 = some (103, 1) := by kernel_rfl
def d32 (l : List UInt32) (i : Nat) : Nat := (l.getD i 0).toNat
def d64 (l : List UInt64) (i : Nat) : Nat := (l.getD i 0).toNat
theorem d32_at (l : List UInt32) (i : Nat) (h : i < l.length) : ((l[i]'h).toNat : Int) = d32 l i := by simp [d32, h]
theorem d64_at (l : List UInt64) (i : Nat) (h : i < l.length) : ((l[i]'h).toNat : Int) = d64 l i := by simp [d64, h]
theorem d32_lt (l : List UInt32) (i : Nat) : d32 l i < 4294967296 := UInt32.toNat_lt _
theorem d32_out (l : List UInt32) (i : Nat) (h : l.length ≤ i) : d32 l i = 0 := by
  unfold d32; rw [List.getD_eq_getElem?_getD, List.getElem?_eq_none h]; rfl
theorem d64_out (l : List UInt64) (i : Nat) (h : l.length ≤ i) : d64 l i = 0 := by
  unfold d64; rw [List.getD_eq_getElem?_getD, List.getElem?_eq_none h]; rfl
def tsz (f : Nat → Nat) : Nat → Nat
  | 0 => 0
  | n + 1 => if f n = 0 then tsz f n else n + 1
theorem tsz_le (f : Nat → Nat) : ∀ n, tsz f n ≤ n
  | 0 => Nat.le_refl _
  | n + 1 => by unfold tsz; split; (have := tsz_le f n; omega); exact Nat.le_refl _
theorem tsz_top (f : Nat → Nat) : ∀ n, tsz f n ≠ 0 → f (tsz f n - 1) ≠ 0
  | 0, h => absurd rfl h
  | n + 1, h => by
    unfold tsz at h ⊢
    by_cases hf : f n = 0
    · rw [if_pos hf] at h ⊢; exact tsz_top f n h
    · rw [if_neg hf]; exact hf
theorem tsz_zero (f : Nat → Nat) : ∀ n i, tsz f n ≤ i → i < n → f i = 0
  | 0, i, _, h => by omega
  | n + 1, i, h, h2 => by
    unfold tsz at h
    by_cases hf : f n = 0
    · rw [if_pos hf] at h
      by_cases hi : i = n
      · subst hi; exact hf
      · exact tsz_zero f n i h (by omega)
    · rw [if_neg hf] at h; omega
theorem tsz_stop (f : Nat → Nat) (n : Nat) (h : ¬ (0 < n ∧ f (n - 1) = 0)) : tsz f n = n := by
  cases n with
  | zero => rfl
  | succ n => unfold tsz; exact if_neg (fun hf => h ⟨by omega, hf⟩)
theorem tsz_go (f : Nat → Nat) (n : Nat) (h : 0 < n ∧ f (n - 1) = 0) : tsz f n = tsz f (n - 1) := by
  obtain ⟨m, rfl⟩ : ∃ m, n = m + 1 := ⟨n - 1, by omega⟩
  conv => lhs; unfold tsz
  exact if_pos h.2
def bl (n : Nat) : Nat := if n = 0 then 0 else n.log2 + 1
theorem bl_half (n : Nat) (h : 0 < n) : bl n = bl (n / 2) + 1 := by
  unfold bl
  rw [if_neg (by omega), Nat.log2_def]
  split
  · rw [if_neg (by omega)]
  · rw [if_pos (by omega)]
theorem bl_shift (k n : Nat) : 2 ^ k ≤ n → bl n = k + bl (n / 2 ^ k) := by
  induction k generalizing n with
  | zero => intro _; simp
  | succ k ih =>
    intro h
    rw [Nat.pow_succ] at h
    have hp : 0 < 2 ^ k := Nat.two_pow_pos k
    rw [bl_half n (by omega), ih (n / 2) (by omega), Nat.div_div_eq_div_mul, Nat.pow_succ, Nat.mul_comm 2]
    omega
theorem bl_le (k n : Nat) (h : n < 2 ^ k) : bl n ≤ k := by
  unfold bl
  split
  · omega
  · have := (Nat.log2_lt (by assumption)).2 h; omega
theorem bl_le32 (l : List UInt32) (i : Nat) : bl (d32 l i) ≤ 32 := bl_le 32 _ (d32_lt l i)
def tab8 : List UInt8 := [0, 1] ++ List.replicate 2 2 ++ List.replicate 4 3 ++ List.replicate 8 4 ++ List.replicate 16 5 ++ List.replicate 32 6 ++ List.replicate 64 7 ++ List.replicate 128 8
theorem tab8_len : tab8.length = 256 := by decide +kernel
theorem tab8_at (n : Nat) (h : n < 256) : byteAt tab8 n = bl n := by
  have : ∀ i : Fin 256, byteAt tab8 i.val = bl i.val := by decide +kernel
  exact this ⟨n, h⟩
theorem natsize_fn {a : Option Addr} {c : Nat} {l : List UInt32} {h : Part} (hl : SlR u32R 1 h a c l) : Pure Tryz.prog 84 [.slice a l.length c] h (.int .i64 (tsz (d32 l) l.length : Nat)) := by
  have hll := hl.big
  refine Fn.intro Tryz.func84 rfl Tryz.ntmps84 rfl (fun e he => ?_)
  refine J.weak [(0, _)] ⟨rfl, trivial⟩ ?_
  refine Sr ?_
  refine Ru 1 rfl ?_
  refine JL.nil ?_
  refine Sr ?_
  refine Ru 3 rfl ?_
  refine JL.nil ?_
  refine J.seq ?_
  refine J.block ?_
  refine J.loop (fun t_ S_ h_ L_ => ∃ (n : Nat), t_ = n + 1 ∧ S_ = [(0, .slice a l.length c), (3, .int .i64 n)] ∧ h = h_ ∧ L_ = [] ∧ (n ≤ l.length ∧ tsz (d32 l) l.length = tsz (d32 l) n)) ⟨_, _, ?_, ⟨l.length, rfl, rfl, rfl, rfl, ⟨Nat.le_refl _, rfl⟩⟩⟩ ?_
  ·
   exact z2_
  rintro _ _ _ _ ⟨n, rfl, rfl, rfl, rfl, hn, he⟩
  refine J.seq ?_
  refine J.seq ?_
  refine J.meet [(15, .bool (decide (0 < n ∧ d32 l (n - 1) = 0)))] [(0, _), (3, _)] ⟨rfl, rfl, trivial⟩ ?_ ?_
  ·
   refine Rg ?_
   refine Ru 3 rfl ?_
   refine Bs 8 rfl (fun hc1 => ?_) fun hc1 => ?_
   ·
    refine Ru 2 rfl ?_
    refine JL.opg rfl rfl  si_ rfl ?_
    refine JL.opeg rfl rfl  (RunE.index sl_30 rfl rfl z8_ (by assumption) rfl (by omega)) rfl ?_
    rintro _ ⟨b2, o2, hi2, rfl, hE2⟩
    refine JL.opg rfl rfl  (RunV.ld_u32 ag_103 rfl (by assumption)) rfl ?_
    rw [d32_at, show ((n : Int) - 1).toNat = n - 1 by omega]
    refine Ru 2 rfl ?_
    refine JL.nil ?_
    refine ⟨rfl, rfl, ?_⟩
    exact z38_
   refine Ru 7 rfl ?_
   refine JL.nil ?_
   refine ⟨rfl, rfl, ?_⟩
   exact z38_
  refine Cs rfl (fun hc4 => ?_) fun hc4 => ?_
  ·
   refine J.skip ?_
   refine J.block ?_
   refine Rg ?_
   refine Ru 1 rfl ?_
   refine JL.op si_ rfl ?_
   refine Ru 1 rfl ?_
   refine JL.nil ?_
   refine ⟨_, ?_, _, ?_, ⟨n - 1, rfl, rfl, rfl, rfl, ⟨by omega, by rw [he, tsz_go _ _ (by omega)]⟩⟩⟩
   ·
    omega
   exact z2_
  refine J.exit ?_
  refine Sr ?_
  refine Ru 2 rfl ?_
  refine Nk [2] rfl ?_
  exact J.retP (RetV.one rfl rfl) (by rw [he, tsz_stop _ _ (by omega)]) rfl
def hiQ (D n : Nat) : Nat := if D ≤ n then n / D else n
def hiA (D k n : Nat) : Nat := if D ≤ n then k else 0
theorem hi_bl (k n : Nat) : bl n = hiA (2 ^ k) k n + bl (hiQ (2 ^ k) n) := by
  unfold hiA hiQ
  split
  · exact bl_shift k n (by assumption)
  · simp
theorem hi_pos {D n : Nat} (k : Nat) (h : D ≤ n) : hiQ D n = n / D ∧ hiA D k n = k := ⟨if_pos h, if_pos h⟩
theorem hi_neg {D n : Nat} (k : Nat) (h : ¬ D ≤ n) : hiQ D n = n ∧ hiA D k n = 0 := ⟨if_neg h, if_neg h⟩
theorem hiA_le (D k n : Nat) : hiA D k n ≤ k := by unfold hiA; split <;> omega
theorem len32_fn {n : Nat} {h : Part} (hn : n < 4294967296) : Pure Tryz.prog 85 [.int .u32 n] h (.int .i64 (bl n : Nat)) := by
  have htl := tab8_len
  have h1 : hiQ 65536 n < 65536 := by unfold hiQ; split <;> omega
  have h2 : hiQ 256 (hiQ 65536 n) < 256 := (show ∀ m, m < 65536 → hiQ 256 m < 256 from fun m hm => by unfold hiQ; split <;> omega) _ h1
  have e1 : bl n = hiA 65536 16 n + bl (hiQ 65536 n) := hi_bl 16 n
  have e2 : bl (hiQ 65536 n) = hiA 256 8 (hiQ 65536 n) + bl (hiQ 256 (hiQ 65536 n)) := hi_bl 8 _
  have l1 := hiA_le 65536 16 n
  have l2 := hiA_le 256 8 (hiQ 65536 n)
  have l3 := tab8_at _ h2
  have l4 := bl_le 8 _ h2
  refine Fn.intro Tryz.func85 rfl Tryz.ntmps85 rfl (fun e he => ?_)
  refine J.weak [(0, _)] ⟨rfl, trivial⟩ ?_
  refine Sr ?_
  refine Ru 1 rfl ?_
  refine JL.nil ?_
  refine J.seq ?_
  refine Sr ?_
  refine Ru 2 rfl ?_
  refine JL.nil ?_
  refine J.meet [(0, .int .u32 (hiQ 65536 n : Nat)), (2, .int .i64 (hiA 65536 16 n : Nat))] [] trivial ?_ ?_
  ·
   refine Cs rfl (fun hc1 => ?_) fun hc1 => ?_
   ·
    have q := hi_pos (D := 65536) (n := n) 16 (by omega)
    refine Sr ?_
    refine Ru 1 rfl ?_
    refine JL.op (RunV.shr_u32 65536 rfl rfl (by decide) (by decide) (by decide)) rfl ?_
    refine Ru 1 rfl ?_
    refine Nk [0, 2] rfl ?_
    refine Rg ?_
    refine Ru 1 rfl ?_
    refine JL.nil ?_
    refine ⟨rfl, rfl, ?_⟩
    exact z2_
   have q := hi_neg (D := 65536) (n := n) 16 (by omega)
   refine J.skip ?_
   refine ⟨rfl, rfl, ?_⟩
   exact z2_
  refine J.seq ?_
  refine Sr ?_
  refine Ru 2 rfl ?_
  refine JL.nil ?_
  refine J.meet [(0, .int .u32 (hiQ 256 (hiQ 65536 n) : Nat)), (2, .int .i64 (hiA 65536 16 n + hiA 256 8 (hiQ 65536 n) : Nat))] [] trivial ?_ ?_
  ·
   refine Cs rfl (fun hc2 => ?_) fun hc2 => ?_
   ·
    have q := hi_pos (D := 256) (n := hiQ 65536 n) 8 (by omega)
    refine Sr ?_
    refine Ru 1 rfl ?_
    refine JL.op (RunV.shr_u32 256 rfl rfl (by decide) (by decide) (by decide)) rfl ?_
    refine Ru 1 rfl ?_
    refine Nk [0, 2] rfl ?_
    refine Rg ?_
    refine Ru 1 rfl ?_
    refine JL.op ai_ rfl ?_
    refine Ru 1 rfl ?_
    refine JL.nil ?_
    refine ⟨rfl, rfl, ?_⟩
    exact z2_
   have q := hi_neg (D := 256) (n := hiQ 65536 n) 8 (by omega)
   refine J.skip ?_
   refine ⟨rfl, rfl, ?_⟩
   exact z2_
  refine Sr ?_
  refine Ru 2 rfl ?_
  refine JL.op (by first | exact RunV.conv_u8 cv_103_5 rfl (by omega) (by omega) | exact RunV.conv cv_103_5 rfl) rfl ?_
  refine JL.op (RunV.strIndex (p := tab8) (m := hiQ 256 (hiQ 65536 n)) un_9 (by kernel_rfl) rfl rfl (by omega)) rfl ?_
  rw [l3]
  refine JL.op z17_ rfl ?_
  refine JL.op ai_ rfl ?_
  refine Ru 1 rfl ?_
  refine Nk [2] rfl ?_
  exact J.retP (RetV.one rfl rfl) (by rw [e1, e2, Int.natCast_add, Int.natCast_add, Int.natCast_add, Int.add_assoc]) rfl
def nbits (f : Nat → Nat) (n : Nat) : Nat := if tsz f n = 0 then 0 else 32 * (tsz f n - 1) + bl (f (tsz f n - 1))
theorem natbits_fn {a : Option Addr} {c : Nat} {l : List UInt32} {h : Part} (hl : SlR u32R 1 h a c l) : Pure Tryz.prog 40 [.slice a l.length c] h (.int .i64 (nbits (d32 l) l.length : Nat)) := by
  have hll := hl.big
  have ht := tsz_le (d32 l) l.length
  have hb := bl_le32 l (tsz (d32 l) l.length - 1)
  refine Fn.intro Tryz.func40 rfl Tryz.ntmps40 rfl (fun e he => ?_)
  refine J.weak [(0, _)] ⟨rfl, trivial⟩ ?_
  refine Sr ?_
  refine Ru 1 rfl ?_
  refine JL.nil ?_
  refine Sr ?_
  refine Ru 1 rfl ?_
  refine JL.callP ca_84 rfl (natsize_fn (by assumption)) rfl ?_
  refine Ru 1 rfl ?_
  refine JL.nil ?_
  refine J.seq ?_
  refine Sr ?_
  refine Ru 2 rfl ?_
  refine JL.nil ?_
  refine Cs rfl (fun hc2 => ?_) fun hc2 => ?_
  ·
   have hz : nbits (d32 l) l.length = 0 := if_pos (by omega)
   refine Sr ?_
   refine Ru 1 rfl ?_
   refine Nk [2, 3, 0] rfl ?_
   exact J.retP (RetV.one rfl rfl) (by rw [hz]; rfl) rfl
  have hz : nbits (d32 l) l.length = 32 * (tsz (d32 l) l.length - 1) + bl (d32 l (tsz (d32 l) l.length - 1)) := if_neg (by omega)
  refine J.skip ?_
  refine Kp [3, 2, 0] rfl ?_
  refine Sr ?_
  refine Ru 1 rfl ?_
  refine JL.op si_ rfl ?_
  refine JL.op z10_ rfl ?_
  refine Ru 2 rfl ?_
  refine JL.op si_ rfl ?_
  refine JL.ope (RunE.index sl_30 rfl rfl z8_ (by assumption) rfl (by omega)) rfl ?_
  rintro _ ⟨b3, o3, hi3, rfl, hE3⟩
  refine JL.op (RunV.ld_u32 ag_103 rfl (by assumption)) rfl ?_
  rw [d32_at, show ((tsz (d32 l) l.length : Int) - 1).toNat = tsz (d32 l) l.length - 1 by omega]
  refine JL.callP ca_85 rfl (len32_fn (d32_lt _ _)) rfl ?_
  refine JL.op ai_ rfl ?_
  refine Ru 1 rfl ?_
  refine Nk [2] rfl ?_
  exact J.retP (RetV.one rfl rfl) (by rw [hz]; exact congrArg (Value.int .i64) (by omega)) rfl
def wB (f : Nat → Nat) (i : Nat) : UInt8 := UInt8.ofNat (f (i / 4) / 256 ^ (i % 4))
def natW (f : Nat → Nat) : Nat → List UInt8
  | 0 => []
  | k + 1 => wB f k :: natW f k
theorem natW_len (f : Nat → Nat) : ∀ k, (natW f k).length = k
  | 0 => rfl
  | k + 1 => by simp [natW, natW_len f k]
theorem shr_d (i : Nat) : (2 : Int) ^ (8 * ((i : Int) % 4)).toNat = 256 ^ (i % 4) := by
  have : (8 * ((i : Int) % 4)).toNat = 8 * (i % 4) := by omega
  rw [this, Int.pow_mul]; rfl
theorem set_rep (m : Nat) (t : List UInt8) (x : UInt8) : (List.replicate (m + 1) 0 ++ t).set m x = List.replicate m 0 ++ x :: t := by
  rw [List.replicate_succ', List.append_assoc, List.set_append_right _ _ (by simp)]
  simp
theorem rep_one (m : Nat) (t : List UInt8) : (List.replicate (m + 1) 0 ++ t : List UInt8) = List.replicate m 0 ++ 0 :: t := by
  rw [List.replicate_succ', List.append_assoc]; rfl
theorem natwrite_fn {a : Option Addr} {c k : Nat} {l : List UInt32} {h : Part} (hl : SlR u32R 1 h a c l) (hk : k ≤ 65536) (hb : (nbits (d32 l) l.length + 7) / 8 ≤ k) :
    FnR Tryz.prog 43 [.slice a l.length c, .int .i64 k] h (fun v h' => ∃ a' c', v = .tuple #[.slice a' (natW (d32 l) k).length c', .int .i64 0] ∧ SlR u8R 1 h' a' c' (natW (d32 l) k)) := by
  have hll := hl.big
  refine Fn.intro Tryz.func43 rfl Tryz.ntmps43 rfl (fun e he => ?_)
  refine J.weak [(0, _), (1, _)] ⟨rfl, rfl, trivial⟩ ?_
  have hh0 := Part.le.refl h
  refine Sr ?_
  refine Ru 2 rfl ?_
  refine JL.nil ?_
  refine J.seq ?_
  refine Sr ?_
  refine Ru 3 rfl ?_
  apply On 10 13 3 [5, 4, 0, 1] rfl rfl
  rotate_left
  ·
   intro hb1 hc1
   refine Ru 3 rfl ?_
   exact Ae (om_f hb1 rfl) rfl
  rotate_right
  ·
   exact fun hb1 _ => Ru 3 rfl (Ae (om_t hb1 rfl) rfl)
  refine JL.nil ?_
  refine Cs rfl (fun hc2 => ?_) fun hc2 => ?_
  ·
   exfalso; omega
  refine J.skip ?_
  refine J.seq ?_
  refine Sr ?_
  refine Ru 1 rfl ?_
  refine JL.callP ca_40 rfl (natbits_fn (by assumption)) rfl ?_
  refine JL.op ai_ rfl ?_
  refine JL.op z12_ rfl ?_
  refine Ru 2 rfl ?_
  refine Nk [19, 5, 4, 0, 1] rfl ?_
  refine Cs rfl (fun hc4 => ?_) fun hc4 => ?_
  ·
   exfalso; omega
  refine J.skip ?_
  refine Sr ?_
  refine Ru 1 rfl ?_
  refine JL.make1 mk_22 rfl rfl (m := k) rfl rfl (by omega) rfl rfl (fun b1 => ?_); rw [replicate_u8]
  refine Ru 1 rfl ?_
  refine JL.nil ?_
  refine J.seq ?_
  refine Sr ?_
  refine Ru 2 rfl ?_
  refine JL.nil ?_
  refine J.block ?_
  refine J.loop (fun t_ S_ h_ L_ => ∃ (i : Nat) (out : List UInt8), t_ = k - i ∧ S_ = [(0, .slice a l.length c), (1, .int .i64 k), (6, .slice (some ⟨b1, 0, none⟩) k k), (22, .int .i64 k), (23, .int .i64 i)] ∧ h = h_ ∧ L_ = [.row (some ⟨b1, 0, none⟩) k 5 1 k (u8s out)] ∧ (i ≤ k ∧ out = List.replicate (k - i) 0 ++ natW (d32 l) i)) ⟨_, _, ?_, ⟨0, _, rfl, rfl, rfl, rfl, ⟨by omega, by simp [natW]⟩⟩⟩ ?_
  ·
   exact z5_
  rintro _ _ _ _ ⟨i, out, rfl, rfl, rfl, rfl, hi, ho⟩
  refine Sr ?_
  refine Ru 1 rfl ?_
  refine JL.nil ?_
  refine J.seq ?_
  refine Cs rfl (fun hc6 => ?_) fun hc6 => ?_
  ·
   have hol : out.length = k := (by rw [ho, List.length_append, List.length_replicate, natW_len]; omega); have hdl := d32_lt l (i / 4)
   refine J.skip ?_
   refine J.seq ?_
   refine J.block ?_
   refine Sr ?_
   refine Ru 2 rfl ?_
   refine JL.nil ?_
   refine Sr ?_
   refine Ru 1 rfl ?_
   refine JL.op z12_ rfl ?_
   refine Ru 3 rfl ?_
   refine JL.nil ?_
   refine Cs rfl (fun hc7 => ?_) fun hc7 => ?_
   ·
    obtain ⟨m, hm⟩ : ∃ m, k - i = m + 1 := ⟨k - i - 1, by omega⟩; have hset : out.set (k - 1 - i) (wB (d32 l) i) = List.replicate (k - (i + 1)) 0 ++ natW (d32 l) (i + 1) := (by rw [ho, hm, show k - 1 - i = m by omega, set_rep, show k - (i + 1) = m by omega]; rfl)
    refine Rg ?_
    refine Ru 2 rfl ?_
    refine JL.op si_ rfl ?_
    refine Ru 1 rfl ?_
    refine JL.op si_ rfl ?_
    refine Ru 2 rfl ?_
    refine JL.op z12_ rfl ?_
    refine JL.ope (RunE.index sl_30 rfl rfl z8_ (by assumption) rfl (by omega)) rfl ?_
    rintro _ ⟨b8, o8, hi8, rfl, hE8⟩
    refine JL.op (RunV.ld_u32 ag_103 rfl (by assumption)) rfl ?_
    rw [d32_at, show ((i : Int) / 4).toNat = i / 4 by omega]
    refine Ru 1 rfl ?_
    refine JL.op z22_ rfl ?_
    refine JL.op z10_ rfl ?_
    refine JL.op (RunV.shr_u32 (256 ^ (i % 4)) rfl rfl (by omega) (by omega) (shr_d i)) rfl ?_
    refine JL.op (RunV.toByte (d32 l (i / 4) / 256 ^ (i % 4)) cv_103_5 rfl (by rw [Int.natCast_ediv, Int.natCast_pow]; rfl)) rfl ?_
    refine JL.op (RunV.index_at sl_22 (m := k - 1 - i) rfl rfl (by omega) (by omega)) rfl ?_
    refine JL.storeRow ag_5 rfl rfl rfl dl_ (show k - 1 - i < (u8s out).length by rw [u8s_length]; omega) ?_; rw [u8s_set]
    refine JL.nil ?_
    refine Rg ?_
    refine JL.op ai_ rfl ?_
    refine Ru 1 rfl ?_
    refine JL.nil ?_
    refine ⟨_, ?_, _, ?_, ⟨i + 1, _, rfl, rfl, rfl, rfl, ⟨by omega, hset⟩⟩⟩
    ·
     omega
    exact z5_
   obtain ⟨m, hm⟩ : ∃ m, k - i = m + 1 := ⟨k - i - 1, by omega⟩; have hset : out = List.replicate (k - (i + 1)) 0 ++ natW (d32 l) (i + 1) := (by rw [ho, hm, rep_one, show k - (i + 1) = m by omega, natW, wB, d32_out l (i / 4) (by omega), Nat.zero_div]; rfl)
   refine J.skip ?_
   refine Rg ?_
   refine JL.op ai_ rfl ?_
   refine Ru 1 rfl ?_
   refine JL.nil ?_
   refine ⟨_, ?_, _, ?_, ⟨i + 1, _, rfl, rfl, rfl, rfl, ⟨by omega, hset⟩⟩⟩
   ·
    omega
   exact z5_
  refine J.exit ?_
  refine Kp [6] rfl ?_
  refine Sr ?_
  have hik : i = k := (by omega); have ho2 : out = natW (d32 l) k := (by rw [ho, hik, Nat.sub_self]; rfl); have hkl := natW_len (d32 l) k; subst ho2; refine JL.pub (R := u8R) (l := natW (d32 l) k) dl_ CellsR.of_u8 (by omega) (by omega) (fun h9 hle9 hS9 => ?_)
  refine Ru 3 rfl ?_
  refine JL.nil ?_
  exact J.retR (RetV.two rfl rfl rfl) ⟨_, _, by rw [hkl], hS9⟩
def cutZ (l : List UInt64) : List UInt64 := l.take (tsz (d64 l) l.length)
def m64 (x : UInt32) : UInt64 := UInt64.ofNat x.toNat
theorem m64_nat (x : UInt32) : (m64 x).toNat = x.toNat := by
  have := UInt32.toNat_lt x
  unfold m64; rw [UInt64.toNat_ofNat']; omega
theorem d64_map (l : List UInt32) (i : Nat) : d64 (l.map m64) i = d32 l i := by
  unfold d64 d32
  by_cases h : i < l.length
  · simp [h, m64_nat]
  · simp [h]
theorem tsz_congr {f g : Nat → Nat} (h : ∀ i, f i = g i) (n : Nat) : tsz f n = tsz g n := by rw [show f = g from funext h]
theorem d64_take (l : List UInt64) (k i : Nat) (h : ∀ i, k ≤ i → i < l.length → d64 l i = 0) : d64 (l.take k) i = d64 l i := by
  by_cases hi : i < k
  · unfold d64; simp [List.getElem?_take, hi]
  · by_cases hl : i < l.length
    · rw [h i (by omega) hl, d64_out _ _ (by rw [List.length_take]; omega)]
    · rw [d64_out l _ (by omega), d64_out _ _ (by rw [List.length_take]; omega)]
def digsB (l : List UInt32) : List UInt64 := cutZ (l.map m64)
theorem digsB_len (l : List UInt32) : (digsB l).length = tsz (d32 l) l.length := by
  unfold digsB cutZ
  have := tsz_le (d64 (l.map m64)) (l.map m64).length
  rw [List.length_take, Nat.min_eq_left this, tsz_congr (d64_map l), List.length_map]
theorem digsB_at (l : List UInt32) (i : Nat) : d64 (digsB l) i = d32 l i := by
  unfold digsB cutZ
  rw [d64_take _ _ _ (fun i h1 h2 => tsz_zero _ _ i h1 h2), d64_map]
theorem cut_fn {a : Option Addr} {c : Nat} {l : List UInt64} {h : Part} (hl : SlR u64R 1 h a c l) : FnR Tryz.prog 97 [.slice a l.length c] h (fun v h' => ∃ a' c', v = .slice a' (cutZ l).length c' ∧ SlR u64R 1 h' a' c' (cutZ l)) := by
  have hll := hl.big
  have hh0 := Part.le.refl h
  refine Fn.intro Tryz.func97 rfl Tryz.ntmps97 rfl (fun e he => ?_)
  refine J.weak [(0, _)] ⟨rfl, trivial⟩ ?_
  refine Sr ?_
  refine Ru 1 rfl ?_
  refine JL.nil ?_
  refine Sr ?_
  refine Ru 3 rfl ?_
  refine JL.nil ?_
  refine J.seq ?_
  refine J.block ?_
  refine J.loop (fun t_ S_ h_ L_ => ∃ (n : Nat), t_ = n + 1 ∧ S_ = [(0, .slice a l.length c), (3, .int .i64 n)] ∧ h = h_ ∧ L_ = [] ∧ (n ≤ l.length ∧ tsz (d64 l) l.length = tsz (d64 l) n)) ⟨_, _, ?_, ⟨l.length, rfl, rfl, rfl, rfl, ⟨Nat.le_refl _, rfl⟩⟩⟩ ?_
  ·
   exact z2_
  rintro _ _ _ _ ⟨n, rfl, rfl, rfl, rfl, hn, he⟩
  refine J.seq ?_
  refine J.seq ?_
  refine J.meet [(15, .bool (decide (0 < n ∧ d64 l (n - 1) = 0)))] [(0, _), (3, _)] ⟨rfl, rfl, trivial⟩ ?_ ?_
  ·
   refine Rg ?_
   refine Ru 3 rfl ?_
   refine Bs 8 rfl (fun hc1 => ?_) fun hc1 => ?_
   ·
    refine Ru 2 rfl ?_
    refine JL.opg rfl rfl  si_ rfl ?_
    refine JL.opeg rfl rfl  (RunE.index sl_66 rfl rfl z8_ (by assumption) rfl (by omega)) rfl ?_
    rintro _ ⟨b2, o2, hi2, rfl, hE2⟩
    refine JL.opg rfl rfl  (RunV.ld_u64 ag_63 rfl (by assumption)) rfl ?_
    rw [d64_at, show ((n : Int) - 1).toNat = n - 1 by omega]
    refine Ru 2 rfl ?_
    refine JL.nil ?_
    refine ⟨rfl, rfl, ?_⟩
    exact z38_
   refine Ru 7 rfl ?_
   refine JL.nil ?_
   refine ⟨rfl, rfl, ?_⟩
   exact z38_
  refine Cs rfl (fun hc4 => ?_) fun hc4 => ?_
  ·
   refine J.skip ?_
   refine J.block ?_
   refine Rg ?_
   refine Ru 1 rfl ?_
   refine JL.op si_ rfl ?_
   refine Ru 1 rfl ?_
   refine JL.nil ?_
   refine ⟨_, ?_, _, ?_, ⟨n - 1, rfl, rfl, rfl, rfl, ⟨by omega, by rw [he, tsz_go _ _ (by omega)]⟩⟩⟩
   ·
    omega
   exact z2_
  have hcz : l.take n = cutZ l := (by unfold cutZ; rw [he, tsz_stop _ _ (by omega)])
  refine J.exit ?_
  refine Sr ?_
  refine Ru 2 rfl ?_
  refine JL.ope (RunE.cut_h sl_66 (m := n) rfl rfl rfl (by assumption) rfl (by omega)) rfl ?_
  rintro _ ⟨a9, c9, rfl, hS9⟩
  rw [hcz] at hS9 ⊢
  refine Ru 1 rfl ?_
  refine Nk [2] rfl ?_
  exact J.retR (RetV.one rfl rfl) ⟨_, _, rfl, hS9⟩
theorem digits32_fn {a : Option Addr} {c : Nat} {l : List UInt32} {h : Part} (hl : SlR u32R 1 h a c l) (hlen : l.length ≤ 1000000) : FnR Tryz.prog 56 [.slice a l.length c] h (fun v h' => ∃ a' c', v = .slice a' (digsB l).length c' ∧ SlR u64R 1 h' a' c' (digsB l)) := by
  have hll := hl.big
  refine Fn.intro Tryz.func56 rfl Tryz.ntmps56 rfl (fun e he => ?_)
  refine J.weak [(0, _)] ⟨rfl, trivial⟩ ?_
  refine Sr ?_
  refine Ru 1 rfl ?_
  refine JL.nil ?_
  refine Sr ?_
  refine Ru 1 rfl ?_
  refine JL.nil ?_
  refine J.seq ?_
  refine Sr ?_
  refine JL.row_nil 63 1 ?_
  refine Ru 1 rfl ?_
  refine JL.nil ?_
  refine J.block ?_
  refine J.loop (fun t_ S_ h_ L_ => ∃ (g : Part) (i : Nat) (ao : Option Addr) (co : Nat) (xs : List Value), t_ = l.length - i ∧ S_ = [(0, .slice a l.length c), (3, .slice ao ((l.map m64).take i).length co), (4, .int .i64 i)] ∧ g = h_ ∧ L_ = [.row ao co 63 1 ((l.map m64).take i).length xs] ∧ (h.le g ∧ i ≤ l.length ∧ CellsR u64R 1 g xs ((l.map m64).take i))) ⟨_, _, ?_, ⟨_, 0, _, _, _, rfl, rfl, rfl, rfl, ⟨Part.le.refl _, by omega, CellsR.nil⟩⟩⟩ ?_
  ·
   exact z5_
  rintro _ _ _ _ ⟨g, i, ao, co, xs, rfl, rfl, rfl, rfl, hhg, hi, hC⟩
  have hl := hl.mono hhg
  refine J.seq ?_
  refine Sr ?_
  refine Ru 4 rfl ?_
  refine JL.nil ?_
  refine Cs rfl (fun hc1 => ?_) fun hc1 => ?_
  ·
   have hi2 : i < l.length := (by omega); have hi' : i < (l.map m64).length := (by rw [List.length_map]; omega); have htl : ((l.map m64).take i).length = i := (by rw [List.length_take, List.length_map]; omega); have hke : (l.map m64).take i ++ [m64 (l[i]'hi2)] = (l.map m64).take (i + 1) := (by rw [List.take_succ_eq_append_getElem hi', List.getElem_map])
   refine J.skip ?_
   refine J.seq ?_
   refine J.block ?_
   refine Rg ?_
   refine Ru 3 rfl ?_
   refine JL.ope (RunE.index sl_30 rfl rfl z8_ (by assumption) rfl (by omega)) rfl ?_
   rintro _ ⟨b2, o2, hi2, rfl, hE2⟩
   refine JL.op (RunV.ld_u32 ag_103 rfl (by assumption)) rfl ?_
   refine JL.op z9_ rfl ?_
   refine JL.lit1 ap_66 zr_63 rfl rfl rfl rfl rfl (fun b4 => ?_)
   refine JL.append1 ap_66 rfl rfl (by assumption) rfl dl_ dl_ rfl ((by show _ = _; rw [m64_nat] : u64R _ [.int .u64 (l[i].toNat : Int)] (m64 l[i]))) z3_ rfl rfl (fun a5 c5 xs5 hC5 hN5 => ?_)
   rw [hke] at *
   refine Ru 1 rfl ?_
   refine JL.nil ?_
   refine Rg ?_
   refine Ru 1 rfl ?_
   refine JL.op ai_ rfl ?_
   refine Ru 1 rfl ?_
   refine JL.nil ?_
   refine ⟨_, ?_, _, ?_, ⟨_, i + 1, _, _, _, rfl, rfl, rfl, rfl, ⟨by assumption, by omega, by assumption⟩⟩⟩
   ·
    omega
   exact z5_
  refine J.exit ?_
  refine Kp [3] rfl ?_
  refine Sr ?_
  refine Ru 1 rfl ?_
  have hke : (l.map m64).take i = l.map m64 := List.take_of_length_le (by rw [List.length_map]; omega); have hml : (l.map m64).length = l.length := List.length_map ..; rw [hke] at hC ⊢; refine JL.pub (R := u64R) dl_ (by assumption) rfl (by omega) (fun h9 hle9 hS9 => ?_); replace hl := hl.mono hle9; replace hC := hC.mono hle9; replace hhg := hhg.mono hle9
  refine JL.callR ca_97 rfl (cut_fn (by assumption)) rfl ?_
  rintro _ h6 hle6 ⟨a6, c6, rfl, hS6⟩
  replace hl := hl.mono hle6
  replace hhg := hhg.mono hle6
  replace hC := hC.mono hle6
  refine Ru 1 rfl ?_
  refine JL.nil ?_
  exact J.retR (RetV.one rfl rfl) ⟨_, _, rfl, by assumption⟩
theorem digit_fn {a : Option Addr} {c i : Nat} {l : List UInt64} {h : Part} (hl : SlR u64R 1 h a c l) : Pure Tryz.prog 57 [.slice a l.length c, .int .i64 i] h (.int .u64 (d64 l i : Nat)) := by
  have hll := hl.big
  refine Fn.intro Tryz.func57 rfl Tryz.ntmps57 rfl (fun e he => ?_)
  refine J.weak [(0, _), (1, _)] ⟨rfl, rfl, trivial⟩ ?_
  refine Sr ?_
  refine Ru 1 rfl ?_
  refine JL.nil ?_
  refine J.seq ?_
  refine Sr ?_
  refine Ru 4 rfl ?_
  refine JL.nil ?_
  refine Cs rfl (fun hc1 => ?_) fun hc1 => ?_
  ·
   refine Sr ?_
   refine Ru 2 rfl ?_
   refine JL.ope (RunE.index sl_66 rfl rfl z8_ (by assumption) rfl (by omega)) rfl ?_
   rintro _ ⟨b2, o2, hi2, rfl, hE2⟩
   refine JL.op (RunV.ld_u64 ag_63 rfl (by assumption)) rfl ?_
   rw [d64_at]
   refine Ru 1 rfl ?_
   refine Nk [4] rfl ?_
   exact J.retP (RetV.one rfl rfl) rfl rfl
  refine J.skip ?_
  refine Kp [4] rfl ?_
  refine Sr ?_
  refine Ru 1 rfl ?_
  refine JL.nil ?_
  exact J.retP (RetV.one rfl rfl) (by rw [d64_out l i (by omega)]; rfl) rfl
theorem rbits_fn {a : Option Addr} {c : Nat} {l : List UInt32} {h : Part} (hl : SlR u32R 1 h a c l) (hlen : l.length ≤ 1000000) : FnR Tryz.prog 45 [.slice a l.length c] h (fun v _ => v = .int .i64 (nbits (d32 l) l.length : Nat)) := by
  have hll := hl.big
  have ht := tsz_le (d32 l) l.length
  have hdl := digsB_len l
  refine Fn.intro Tryz.func45 rfl Tryz.ntmps45 rfl (fun e he => ?_)
  refine J.weak [(0, _)] ⟨rfl, trivial⟩ ?_
  have hh0 := Part.le.refl h
  refine Sr ?_
  refine Ru 1 rfl ?_
  refine JL.nil ?_
  refine Sr ?_
  refine Ru 1 rfl ?_
  refine JL.callR ca_56 rfl (digits32_fn (by assumption) (by omega)) rfl ?_
  rintro _ h1 hle1 ⟨a1, c1, rfl, hS1⟩
  replace hl := hl.mono hle1
  replace hh0 := hh0.mono hle1
  refine Ru 1 rfl ?_
  refine JL.nil ?_
  refine J.seq ?_
  refine Sr ?_
  refine Ru 3 rfl ?_
  refine Nk [10, 3, 2] rfl ?_
  refine Cs rfl (fun hc2 => ?_) fun hc2 => ?_
  ·
   have hz : nbits (d32 l) l.length = 0 := if_pos (by omega)
   refine Sr ?_
   refine Ru 1 rfl ?_
   refine JL.nil ?_
   exact J.retR (RetV.one rfl rfl) (by rw [hz]; rfl)
  have hz : nbits (d32 l) l.length = 32 * (tsz (d32 l) l.length - 1) + bl (d32 l (tsz (d32 l) l.length - 1)) := if_neg (by omega); have hb := bl_le32 l (tsz (d32 l) l.length - 1)
  refine J.skip ?_
  refine Sr ?_
  refine Ru 2 rfl ?_
  refine JL.op si_ rfl ?_
  refine JL.op z10_ rfl ?_
  refine Ru 1 rfl ?_
  refine Nk [4, 3, 2] rfl ?_
  refine J.seq ?_
  refine Sr ?_
  refine Ru 3 rfl ?_
  refine JL.op si_ rfl ?_
  refine JL.ope (RunE.index sl_66 rfl rfl z8_ (by assumption) rfl (by omega)) rfl ?_
  rintro _ ⟨b3, o3, hi3, rfl, hE3⟩
  refine JL.op (RunV.ld_u64 ag_63 rfl (by assumption)) rfl ?_
  rw [d64_at, show (((digsB l).length : Int) - 1).toNat = tsz (d32 l) l.length - 1 by omega, digsB_at]
  refine Ru 1 rfl ?_
  refine Nk [5, 4, 2] rfl ?_
  refine J.block ?_
  refine J.loop (fun t_ S_ h_ L_ => ∃ (m : Nat), t_ = m + 1 ∧ S_ = [(4, .int .i64 ((32 * (tsz (d32 l) l.length - 1) + bl (d32 l (tsz (d32 l) l.length - 1)) : Nat) - (bl m : Nat) : Int)), (5, .int .u64 m)] ∧ h1 = h_ ∧ L_ = [] ∧ (m < 4294967296)) ⟨_, _, ?_, ⟨d32 l (tsz (d32 l) l.length - 1), rfl, rfl, rfl, rfl, d32_lt _ _⟩⟩ ?_
  ·
   exact z2_
  rintro _ _ _ _ ⟨m, rfl, rfl, rfl, rfl, hm⟩
  have hbm := bl_le 32 m hm
  refine J.seq ?_
  refine Sr ?_
  refine Ru 2 rfl ?_
  refine JL.nil ?_
  refine Cs rfl (fun hc5 => ?_) fun hc5 => ?_
  ·
   have hbh := bl_half m (by omega)
   refine J.skip ?_
   refine J.seq ?_
   refine J.block ?_
   refine Rg ?_
   refine Ru 1 rfl ?_
   refine JL.op ai_ rfl ?_
   refine Ru 1 rfl ?_
   refine JL.nil ?_
   refine Rg ?_
   refine Ru 1 rfl ?_
   refine JL.op z16_ rfl ?_
   refine Ru 1 rfl ?_
   refine JL.nil ?_
   refine ⟨_, ?_, _, ?_, ⟨m / 2, rfl, rfl, rfl, rfl, by omega⟩⟩
   ·
    omega
   exact z2_
  have hm0 : m = 0 := (by omega); subst hm0
  refine J.exit ?_
  refine Sr ?_
  refine Ru 2 rfl ?_
  refine Nk [2] rfl ?_
  exact J.retR (RetV.one rfl rfl) (by rw [hz]; exact congrArg (Value.int .i64) (by show _ - ((0 : Nat) : Int) = _; omega))
end Go.Proofs.YtmngjbefnloljaaGreatDoor
namespace Go.Proofs.YtmngjbefnloljaaGreatDoor
open Go Go.RowKit
set_option maxRecDepth 100000
theorem ofNat_mod (n : Nat) : UInt8.ofNat (n % 256) = UInt8.ofNat n := by
  apply UInt8.toNat_inj.1
  simp
theorem nby_gt0 (n j : Nat) (hn : n ≤ 140737488355328) (h0 : 128 ≤ n) (h2 : j ≤ nby n) : 0 < n / 256 ^ j ↔ j < nby n := by
  cases j with
  | zero => have := nby_bd n; simp; omega
  | succ j => exact nby_gt n (j + 1) hn (by omega) h2
theorem length_fn {n : Nat} {h : Part} (hn : n ≤ 140737488355328) : FnR Tryz.prog 105 [.int .i64 n] h (fun v h' => ∃ a c, v = .slice a (lenB n).length c ∧ SlR u8R 1 h' a c (lenB n)) := by
  have hk := nby_bd n
  refine Fn.intro Tryz.func105 rfl Tryz.ntmps105 rfl (fun e he => ?_)
  refine J.weak [(0, _)] ⟨rfl, trivial⟩ ?_
  have hh0 := Part.le.refl h
  refine Sr ?_
  refine Ru 1 rfl ?_
  refine JL.nil ?_
  refine J.seq ?_
  refine Sr ?_
  refine Ru 2 rfl ?_
  refine JL.nil ?_
  refine Cs rfl (fun hc1 => ?_) fun hc1 => ?_
  ·
   have hlb1 : lenB n = [UInt8.ofNat n] := if_pos (by omega)
   refine Sr ?_
   refine Ru 1 rfl ?_
   refine JL.op (RunV.toByte n cv_3_5 rfl rfl) rfl ?_
   refine JL.lit1 ap_22 zr_5 rfl rfl rfl rfl rfl (fun b2 => ?_)
   refine JL.pubB (R := u8R) (sz := 1) (l := [UInt8.ofNat n]) dl_ (cells_lit (by first | kernel_rfl | rfl)) (by first | decide | omega | (simp; done)) (fun h3 hle3 hQ => ?_)
   replace hh0 := hh0.mono hle3
   refine Ru 1 rfl ?_
   refine Nk [2, 0] rfl ?_
   rw [hlb1]; exact J.retR (RetV.one rfl rfl) ⟨some ⟨b2, 0, none⟩, 1, rfl, hQ⟩
  refine J.skip ?_
  refine Sr ?_
  refine Ru 1 rfl ?_
  refine JL.nil ?_
  refine J.seq ?_
  refine J.block ?_
  refine J.loop (fun t_ S_ h_ L_ => ∃ (g : Part) (j : Nat) (la : Option Addr) (lc : Nat), t_ = 7 - j ∧ S_ = [(0, .int .i64 (n / 256 ^ j : Nat)), (3, .slice la (be j n).length lc)] ∧ g = h_ ∧ L_ = [] ∧ (h.le g ∧ j ≤ nby n ∧ SlR u8R 1 g la lc (be j n))) ⟨_, _, ?_, ⟨_, 0, none, 0, rfl, rfl, rfl, rfl, ⟨by assumption, by omega, SlR.nil_⟩⟩⟩ ?_
  ·
   repeat (first | exact trivial | refine ⟨rfl, ?_⟩ | refine ⟨(by exact some_int (by first | (simp; done) | (rw [Nat.pow_succ, ← Nat.div_div_eq_div_mul]; omega))), ?_⟩)
  rintro _ _ _ _ ⟨g, j, la, lc, rfl, rfl, rfl, rfl, hhg, hj, hL⟩
  have hgt := nby_gt0 n j hn (by omega) hj; have hlb := be_len j n; have hlb3 := be_len (j + 1) n; have hle := Nat.div_le_self n (256 ^ j)
  refine J.seq ?_
  refine Sr ?_
  refine Ru 2 rfl ?_
  refine JL.nil ?_
  refine Cs rfl (fun hc4 => ?_) fun hc4 => ?_
  ·
   refine J.skip ?_
   refine J.block ?_
   refine Sr ?_
   refine Ru 1 rfl ?_
   refine JL.nil ?_
   refine Sr ?_
   refine Ru 2 rfl ?_
   refine JL.op z22_ rfl ?_
   refine JL.op (RunV.toByte (n / 256 ^ j % 256) cv_3_5 rfl (by omega)) rfl ?_
   rw [ofNat_mod]
   refine JL.lit1 ap_22 zr_5 rfl rfl rfl rfl rfl (fun b5 => ?_)
   refine JL.row_nil 5 1 ?_
   refine JL.append1 ap_22 rfl rfl (CellsR.nil (R := u8R)) rfl dl_ dl_ rfl (rfl) z3_ rfl rfl (fun a6 c6 xs6 hC6 hN6 => ?_)
   obtain rfl := hC6.u8
   refine Ru 1 rfl ?_
   refine JL.nil ?_
   refine Sr ?_
   refine Ru 2 rfl ?_
   refine JL.append ap_22 rfl rfl CellsR.of_u8 rfl (by assumption) rfl dl_ z3_ rfl rfl (fun a7 c7 xs7 hC7 hN7 => ?_)
   obtain rfl := hC7.u8
   refine JL.pub (R := u8R) (l := be (j + 1) n) dl_ CellsR.of_u8 rfl z3_ (fun h8 hle8 hP8 => ?_)
   replace hhg := hhg.mono hle8
   replace hL := hL.mono hle8
   refine Ru 1 rfl ?_
   refine JL.nil ?_
   refine Rg ?_
   refine Ru 1 rfl ?_
   refine JL.op z12_ rfl ?_
   refine Ru 1 rfl ?_
   refine JL.nil ?_
   refine ⟨_, ?_, _, ?_, ⟨_, j + 1, _, _, rfl, rfl, rfl, rfl, ⟨by assumption, by omega, by assumption⟩⟩⟩
   ·
    omega
   repeat (first | exact trivial | refine ⟨rfl, ?_⟩ | refine ⟨(by exact some_int (by first | (simp; done) | (rw [Nat.pow_succ, ← Nat.div_div_eq_div_mul]; omega))), ?_⟩)
  have hjn : j = nby n := (by omega); subst hjn; have hlb1 : lenB n = UInt8.ofNat (128 + nby n) :: be (nby n) n := if_neg (by omega)
  refine J.exit ?_
  refine Sr ?_
  refine Ru 2 rfl ?_
  refine JL.op ai_ rfl ?_
  refine JL.op (RunV.toByte (128 + nby n) cv_3_5 rfl (by rw [hlb]; omega)) rfl ?_
  refine JL.lit1 ap_22 zr_5 rfl rfl rfl rfl rfl (fun b9 => ?_)
  refine Ru 1 rfl ?_
  refine Nk [5, 3] rfl ?_
  refine Sr ?_
  refine Ru 2 rfl ?_
  refine JL.rowB (b := b9) dl_ ?_
  refine JL.append ap_22 rfl rfl CellsR.of_u8 rfl (by assumption) rfl dl_ z3_ rfl rfl (fun a10 c10 xs10 hC10 hN10 => ?_)
  obtain rfl := hC10.u8
  refine JL.pub (R := u8R) (l := UInt8.ofNat (128 + nby n) :: be (nby n) n) dl_ CellsR.of_u8 rfl z3_ (fun h11 hle11 hP11 => ?_)
  replace hhg := hhg.mono hle11
  replace hL := hL.mono hle11
  refine Ru 1 rfl ?_
  refine Nk [2] rfl ?_
  rw [hlb1]; exact J.retR (RetV.one rfl rfl) ⟨_, _, rfl, by assumption⟩
end Go.Proofs.YtmngjbefnloljaaGreatDoor
namespace Go.Proofs.YtmngjbefnloljaaGreatDoor
open Go Go.RowKit
set_option maxRecDepth 100000
theorem ap_30 : apT Tryz.prog 30 = some (103, 1, 4) := by kernel_rfl
theorem ca_43 : callT Tryz.prog 43 = true := by kernel_rfl
theorem ca_58 : callT Tryz.prog 58 = true := by kernel_rfl
theorem ca_77 : callT Tryz.prog 77 = true := by kernel_rfl
theorem cv_63_103 : convI Tryz.prog 63 103 = some .u32 := by kernel_rfl
theorem zr_103 : zeroT Tryz.prog 103 = some [.int .u32 0] := by kernel_rfl
def fitI (n : Int) (j : Nat) : Prop := -128 ≤ n / 256 ^ (j - 1) ∧ n / 256 ^ (j - 1) < 128
instance (n : Int) (j : Nat) : Decidable (fitI n j) := by unfold fitI; infer_instance
def trimL (l : List UInt32) : List UInt32 := l.take (tsz (d32 l) l.length)
def n32 (x : UInt64) : UInt32 := UInt32.ofNat x.toNat
theorem n32_m64 (x : UInt32) : n32 (m64 x) = x := by
  unfold n32; rw [m64_nat]; simp
theorem n32_nat (x : UInt64) (h : x.toNat < 4294967296) : (n32 x).toNat = x.toNat := by
  unfold n32; rw [UInt32.toNat_ofNat']; omega
theorem cutZ_len (l : List UInt64) : (cutZ l).length ≤ l.length := by unfold cutZ; rw [List.length_take]; omega
theorem cutZ_at (l : List UInt64) (i : Nat) : d64 (cutZ l) i = d64 l i := d64_take _ _ _ (fun i h1 h2 => tsz_zero _ _ i h1 h2)
theorem number_fn {a : Option Addr} {c : Nat} {L : List UInt64} {h : Part} (hl : SlR u64R 1 h a c L) (hd : ∀ i, d64 L i < 4294967296) (hlen : L.length ≤ 1000000) : FnR Tryz.prog 58 [.slice a L.length c] h (fun v h' => ∃ a' c', v = .slice a' ((cutZ L).map n32).length c' ∧ SlR u32R 1 h' a' c' ((cutZ L).map n32)) := by
  have hcl := cutZ_len L
  obtain ⟨K, hK⟩ : ∃ K, K = cutZ L := ⟨_, rfl⟩
  have hdK : ∀ i, d64 K i < 4294967296 := fun i => by rw [hK, cutZ_at]; exact hd i
  rw [← hK] at hcl ⊢
  have hml : (K.map n32).length = K.length := List.length_map ..
  refine Fn.intro Tryz.func58 rfl Tryz.ntmps58 rfl (fun e he => ?_)
  refine J.weak [(0, _)] ⟨rfl, trivial⟩ ?_
  refine Sr ?_
  refine Ru 1 rfl ?_
  refine JL.nil ?_
  refine Sr ?_
  refine Ru 1 rfl ?_
  refine JL.callR ca_97 rfl ((hK ▸ cut_fn (by assumption) : FnR _ _ _ _ (fun v h' => ∃ a' c', v = .slice a' K.length c' ∧ SlR u64R 1 h' a' c' K))) rfl ?_
  rintro _ h1 hle1 ⟨da, dc, rfl, hD⟩
  replace hl := hl.mono hle1
  refine Ru 1 rfl ?_
  refine JL.nil ?_
  refine Sr ?_
  refine Ru 1 rfl ?_
  refine JL.nil ?_
  refine J.seq ?_
  refine Sr ?_
  refine JL.row_nil 103 1 ?_
  refine Ru 1 rfl ?_
  refine JL.nil ?_
  refine J.block ?_
  refine J.loop (fun t_ S_ h_ L_ => ∃ (g : Part) (i : Nat) (ao : Option Addr) (co : Nat) (xs : List Value), t_ = K.length - i ∧ S_ = [(0, .slice da K.length dc), (3, .slice ao ((K.map n32).take i).length co), (4, .int .i64 i)] ∧ g = h_ ∧ L_ = [.row ao co 103 1 ((K.map n32).take i).length xs] ∧ (h1.le g ∧ i ≤ K.length ∧ CellsR u32R 1 g xs ((K.map n32).take i))) ⟨_, _, ?_, ⟨_, 0, _, _, _, rfl, rfl, rfl, rfl, ⟨Part.le.refl _, by omega, CellsR.nil⟩⟩⟩ ?_
  ·
   exact z5_
  rintro _ _ _ _ ⟨g, i, ao, co, xs, rfl, rfl, rfl, rfl, hhg, hi, hC⟩
  have hD := hD.mono hhg
  refine J.seq ?_
  refine Sr ?_
  refine Ru 4 rfl ?_
  refine JL.nil ?_
  refine Cs rfl (fun hc2 => ?_) fun hc2 => ?_
  ·
   have hi2 : i < K.length := (by omega); have hi' : i < (K.map n32).length := (by omega); have htl : ((K.map n32).take i).length = i := (by rw [List.length_take]; omega); have hke : (K.map n32).take i ++ [n32 (K[i]'hi2)] = (K.map n32).take (i + 1) := (by rw [List.take_succ_eq_append_getElem hi', List.getElem_map]); have hki : (K[i]'hi2).toNat < 4294967296 := (by have := hdK i; have e := d64_at K i hi2; omega)
   refine J.skip ?_
   refine J.seq ?_
   refine J.block ?_
   refine Rg ?_
   refine Ru 3 rfl ?_
   refine JL.ope (RunE.index sl_66 rfl rfl z8_ (by assumption) rfl (by omega)) rfl ?_
   rintro _ ⟨b3, o3, hi3, rfl, hE3⟩
   refine JL.op (RunV.ld_u64 ag_63 rfl (by assumption)) rfl ?_
   refine JL.op (by first | exact RunV.conv_u32 cv_63_103 rfl (by omega) (by omega) | exact RunV.conv cv_63_103 rfl) rfl ?_
   refine JL.lit1 ap_30 zr_103 rfl rfl rfl rfl rfl (fun b5 => ?_)
   refine JL.append1 ap_30 rfl rfl (by assumption) rfl dl_ dl_ rfl ((by show _ = _; rw [n32_nat _ hki] : u32R _ [.int .u32 (K[i].toNat : Int)] (n32 K[i]))) z3_ rfl rfl (fun a6 c6 xs6 hC6 hN6 => ?_)
   rw [hke] at *
   refine Ru 1 rfl ?_
   refine JL.nil ?_
   refine Rg ?_
   refine Ru 1 rfl ?_
   refine JL.op ai_ rfl ?_
   refine Ru 1 rfl ?_
   refine JL.nil ?_
   refine ⟨_, ?_, _, ?_, ⟨_, i + 1, _, _, _, rfl, rfl, rfl, rfl, ⟨by assumption, by omega, by assumption⟩⟩⟩
   ·
    omega
   exact z5_
  refine J.exit ?_
  refine Kp [3] rfl ?_
  refine Sr ?_
  refine Ru 1 rfl ?_
  have hke : (K.map n32).take i = K.map n32 := List.take_of_length_le (by omega); rw [hke] at hC ⊢; refine JL.pub (R := u32R) dl_ (by assumption) rfl (by omega) (fun h9 hle9 hS9 => ?_)
  refine Ru 1 rfl ?_
  refine JL.nil ?_
  exact J.retR (RetV.one rfl rfl) ⟨_, _, rfl, by assumption⟩
end Go.Proofs.YtmngjbefnloljaaGreatDoor
namespace Go.Proofs.YtmngjbefnloljaaGreatDoor
open Go Go.RowKit
set_option maxRecDepth 100000
def vL : List UInt32 → Nat
  | [] => 0
  | x :: r => x.toNat + 4294967296 * vL r
theorem vL_append (l r : List UInt32) : vL (l ++ r) = vL l + 4294967296 ^ l.length * vL r := by
  induction l with
  | nil => simp [vL]
  | cons x t ih =>
    simp only [List.cons_append, vL, ih, List.length_cons, Nat.pow_succ]
    rw [Nat.mul_add, ← Nat.mul_assoc, Nat.mul_comm (4294967296 ^ t.length), Nat.add_assoc]
theorem vL_lt (l : List UInt32) : vL l < 4294967296 ^ l.length := by
  induction l with
  | nil => simp [vL]
  | cons x t ih =>
    have hx := UInt32.toNat_lt x
    simp only [vL, List.length_cons, Nat.pow_succ]
    omega
theorem vL_set (l : List UInt32) (i : Nat) (x : UInt32) (h : i < l.length) : vL (l.set i x) + d32 l i * 4294967296 ^ i = vL l + x.toNat * 4294967296 ^ i := by
  induction l generalizing i with
  | nil => simp at h
  | cons y t ih =>
    cases i with
    | zero => simp [vL, d32]; omega
    | succ i =>
      have := ih i (by simpa using h)
      simp only [List.set_cons_succ, vL, Nat.pow_succ]
      have e : d32 (y :: t) (i + 1) = d32 t i := rfl
      rw [e, ← Nat.mul_assoc, ← Nat.mul_assoc]
      omega
theorem vL_digit (l : List UInt32) (i : Nat) : vL l / 4294967296 ^ i % 4294967296 = d32 l i := by
  induction l generalizing i with
  | nil => simp [vL, d32]
  | cons y t ih =>
    have hy := UInt32.toNat_lt y
    cases i with
    | zero => simp only [vL, Nat.pow_zero, Nat.div_one]; show _ = y.toNat; omega
    | succ i =>
      have e : d32 (y :: t) (i + 1) = d32 t i := rfl
      rw [e, ← ih i, Nat.pow_succ, Nat.mul_comm (4294967296 ^ i), ← Nat.div_div_eq_div_mul]
      congr 2
      simp only [vL]
      omega
theorem vL_take_drop (l : List UInt32) (k : Nat) (h : k ≤ l.length) : vL l = vL (l.take k) + 4294967296 ^ k * vL (l.drop k) := by
  have := vL_append (l.take k) (l.drop k)
  rw [List.take_append_drop, List.length_take, Nat.min_eq_left h] at this
  exact this
theorem vL_zero (l : List UInt32) (h : ∀ i, i < l.length → d32 l i = 0) : vL l = 0 := by
  induction l with
  | nil => rfl
  | cons x t ih =>
    have h0 : x.toNat = 0 := h 0 (by simp)
    have := ih (fun i hi => h (i + 1) (by simpa using hi))
    simp only [vL]; omega
theorem d32_drop (l : List UInt32) (k i : Nat) : d32 (l.drop k) i = d32 l (k + i) := by
  unfold d32; simp
def digN : Nat → Nat → List UInt32
  | 0, _ => []
  | m + 1, v => UInt32.ofNat v :: digN m (v / 4294967296)
theorem digN_len (m v : Nat) : (digN m v).length = m := by induction m generalizing v with
  | zero => rfl
  | succ m ih => simp [digN, ih]
theorem vL_digN (m v : Nat) : vL (digN m v) = v % 4294967296 ^ m := by
  induction m generalizing v with
  | zero => simp [vL, digN, Nat.mod_one]
  | succ m ih =>
    simp only [digN, vL, ih, UInt32.toNat_ofNat']
    rw [show (4294967296 : Nat) ^ (m + 1) = 4294967296 * 4294967296 ^ m by rw [Nat.pow_succ, Nat.mul_comm], Nat.mod_mul]
theorem digN_vL (l : List UInt32) : digN l.length (vL l) = l := by
  induction l with
  | nil => rfl
  | cons x t ih =>
    have hx := UInt32.toNat_lt x
    simp only [List.length_cons, digN, vL]
    rw [show (x.toNat + 4294967296 * vL t) / 4294967296 = vL t by omega, ih]
    congr 1
    apply UInt32.toNat_inj.1
    rw [UInt32.toNat_ofNat']
    omega
theorem vL_inj {l r : List UInt32} (h : l.length = r.length) (e : vL l = vL r) : l = r := by
  rw [← digN_vL l, ← digN_vL r, h, e]
theorem digN_at (m v i : Nat) (h : i < m) : d32 (digN m v) i = v / 4294967296 ^ i % 4294967296 := by
  rw [← vL_digit, vL_digN]
  obtain ⟨k, rfl⟩ : ∃ k, m = i + (k + 1) := ⟨m - i - 1, by omega⟩
  rw [Nat.pow_add, Nat.mod_mul_right_div_self, Nat.pow_succ, Nat.mod_mul_left_mod]
theorem lt_bl (n : Nat) : n < 2 ^ bl n := by
  unfold bl
  split
  · rename_i h; subst h; decide
  · exact Nat.lt_log2_self
theorem bl_ge (n k : Nat) (h : 2 ^ k ≤ n) : k + 1 ≤ bl n := by
  rcases Nat.lt_or_ge k (bl n) with h1 | h1
  · exact h1
  · have h2 := lt_bl n
    have := Nat.pow_le_pow_right (show 0 < 2 by decide) h1
    omega
theorem bl_pos (n : Nat) (h : 0 < n) : 2 ^ (bl n - 1) ≤ n ∧ 1 ≤ bl n := by
  unfold bl
  rw [if_neg (by omega)]
  exact ⟨Nat.log2_self_le (by omega), by omega⟩
def nd (n : Nat) : Nat := (bl n + 31) / 32
def toL (n : Nat) : List UInt32 := digN (nd n) n
theorem pow32 (k : Nat) : (4294967296 : Nat) ^ k = 2 ^ (32 * k) := by rw [Nat.pow_mul]
theorem lt_nd (n : Nat) : n < 4294967296 ^ nd n := by
  rw [pow32]
  exact Nat.lt_of_lt_of_le (lt_bl n) (Nat.pow_le_pow_right (by decide) (by unfold nd; omega))
theorem vL_toL (n : Nat) : vL (toL n) = n := by
  unfold toL
  rw [vL_digN, Nat.mod_eq_of_lt (lt_nd n)]
theorem nd_eq (n t : Nat) (h : n < 4294967296 ^ (t + 1)) (h0 : 4294967296 ^ t ≤ n) : nd n = t + 1 := by
  rw [pow32] at h h0
  have h1 := bl_le _ _ h
  have h2 := bl_ge _ _ h0
  unfold nd; omega
theorem nd_le (n t : Nat) (h : n < 4294967296 ^ t) : nd n ≤ t := by
  rw [pow32] at h
  have h1 := bl_le _ _ h
  unfold nd; omega
theorem toL_len (n : Nat) : (toL n).length = nd n := digN_len _ _
theorem nd_zero : nd 0 = 0 := rfl
theorem nd_pos (n : Nat) (h : 0 < n) : 4294967296 ^ (nd n - 1) ≤ n ∧ 1 ≤ nd n := by
  have h1 := bl_pos n h
  rw [pow32]
  exact ⟨Nat.le_trans (Nat.pow_le_pow_right (by decide) (by unfold nd; omega)) h1.1, by unfold nd; omega⟩
theorem vL_tsz (l : List UInt32) : vL l = vL (trimL l) := by
  have ht := tsz_le (d32 l) l.length
  have hz : vL (l.drop (tsz (d32 l) l.length)) = 0 := vL_zero _ (fun i hi => by
    rw [d32_drop]
    rw [List.length_drop] at hi
    exact tsz_zero (d32 l) l.length _ (by omega) (by omega))
  rw [vL_take_drop l _ ht, hz]
  rfl
theorem d32_take (l : List UInt32) (k i : Nat) (h : i < k) : d32 (l.take k) i = d32 l i := by
  unfold d32; simp [h]
theorem tsz_nd (l : List UInt32) : tsz (d32 l) l.length = nd (vL l) := by
  have ht := tsz_le (d32 l) l.length
  have htop := tsz_top (d32 l) l.length
  have hlt := vL_lt (trimL l)
  have hlen : (trimL l).length = tsz (d32 l) l.length := by unfold trimL; rw [List.length_take]; omega
  rw [vL_tsz l]
  cases hk : tsz (d32 l) l.length with
  | zero =>
    have : trimL l = [] := List.eq_nil_of_length_eq_zero (by omega)
    rw [this]; rfl
  | succ t =>
    rw [hk] at htop hlen
    have h0 := htop (by omega)
    rw [show t + 1 - 1 = t from rfl] at h0
    have h1 : vL (trimL l) / 4294967296 ^ t % 4294967296 ≠ 0 := by
      rw [vL_digit]; unfold trimL; rw [hk, d32_take _ _ _ (by omega)]; exact h0
    rw [hlen] at hlt
    refine (nd_eq _ _ hlt ?_).symm
    rcases Nat.lt_or_ge (vL (trimL l)) (4294967296 ^ t) with h2 | h2
    · rw [Nat.div_eq_of_lt h2] at h1; simp at h1
    · exact h2
theorem trim_toL (l : List UInt32) : trimL l = toL (vL l) := by
  have ht := tsz_le (d32 l) l.length
  have hlen : (trimL l).length = nd (vL l) := by unfold trimL; rw [List.length_take, ← tsz_nd]; omega
  unfold toL
  rw [← hlen, vL_tsz l, digN_vL]
theorem nbits_vL (l : List UInt32) : nbits (d32 l) l.length = bl (vL l) := by
  unfold nbits
  rw [tsz_nd]
  split
  · rename_i h
    rcases Nat.eq_zero_or_pos (vL l) with h0 | h0
    · rw [h0]; rfl
    · have := nd_pos _ h0; omega
  · rename_i h
    have h0 : 0 < vL l := by
      rcases Nat.eq_zero_or_pos (vL l) with h0 | h0
      · rw [h0] at h; exact absurd rfl h
      · exact h0
    have h1 := nd_pos _ h0
    rw [pow32] at h1
    rw [bl_shift _ _ h1.1]
    congr 2
    rw [← pow32, ← vL_digit]
    refine Nat.mod_eq_of_lt ?_
    have h2 := lt_nd (vL l)
    obtain ⟨t, e⟩ : ∃ t, nd (vL l) = t + 1 := ⟨nd (vL l) - 1, by omega⟩
    rw [e] at h2 ⊢
    rw [Nat.pow_succ] at h2
    exact Nat.div_lt_of_lt_mul h2
def beV (b : List UInt8) : Nat := b.foldl (fun v c => v * 256 + c.toNat) 0
theorem beV_from (b : List UInt8) (v : Nat) : b.foldl (fun v c => v * 256 + c.toNat) v = v * 256 ^ b.length + beV b := by
  induction b generalizing v with
  | nil => simp [beV]
  | cons x t ih =>
    unfold beV
    simp only [List.foldl_cons, List.length_cons, Nat.zero_mul, Nat.zero_add]
    rw [ih, ih x.toNat, Nat.pow_succ, Nat.add_mul, Nat.mul_assoc, Nat.mul_comm 256, Nat.add_assoc]
theorem beV_cons (x : UInt8) (t : List UInt8) : beV (x :: t) = x.toNat * 256 ^ t.length + beV t := by
  show t.foldl _ _ = _
  rw [beV_from]; simp
theorem beV_lt (b : List UInt8) : beV b < 256 ^ b.length := by
  induction b with
  | nil => simp [beV]
  | cons x t ih =>
    have hx := UInt8.toNat_lt x
    rw [beV_cons, List.length_cons, Nat.pow_succ]
    have : x.toNat * 256 ^ t.length ≤ 255 * 256 ^ t.length := Nat.mul_le_mul_right _ (by omega)
    omega
theorem beV_be (k n : Nat) : beV (be k n) = n % 256 ^ k := by
  induction k with
  | zero => simp [be, beV, Nat.mod_one]
  | succ k ih =>
    simp only [be]
    rw [beV_cons, ih, be_len, UInt8.toNat_ofNat', show (256 : Nat) ^ (k + 1) = 256 ^ k * 256 from Nat.pow_succ .., Nat.mod_mul, Nat.mul_comm, Nat.add_comm]
theorem be_mod (k n : Nat) : be k (n % 256 ^ k) = be k n := by
  have key : ∀ j, j ≤ k → be j (n % 256 ^ k) = be j n := by
    intro j
    induction j with
    | zero => intro _; rfl
    | succ j ih =>
      intro hj
      simp only [be]
      rw [ih (by omega)]
      congr 1
      apply UInt8.toNat_inj.1
      rw [UInt8.toNat_ofNat', UInt8.toNat_ofNat']
      obtain ⟨i, rfl⟩ : ∃ i, k = j + (i + 1) := ⟨k - j - 1, by omega⟩
      rw [Nat.pow_add, Nat.mod_mul_right_div_self, Nat.pow_succ]
      exact Nat.mod_mul_left_mod _ _ _
  exact key k (Nat.le_refl _)
theorem be_beV (b : List UInt8) : be b.length (beV b) = b := by
  induction b with
  | nil => rfl
  | cons x t ih =>
    have hx := UInt8.toNat_lt x
    have ht := beV_lt t
    simp only [List.length_cons, be]
    rw [beV_cons]
    congr 1
    · apply UInt8.toNat_inj.1
      rw [UInt8.toNat_ofNat', Nat.mul_comm, Nat.mul_add_div (Nat.pow_pos (by decide)), Nat.div_eq_of_lt ht]
      omega
    · rw [← be_mod, Nat.mul_comm, Nat.mul_add_mod, Nat.mod_eq_of_lt ht, ih]
theorem wB_vL (l : List UInt32) (i : Nat) : wB (d32 l) i = UInt8.ofNat (vL l / 256 ^ i) := by
  apply UInt8.toNat_inj.1
  unfold wB
  rw [UInt8.toNat_ofNat', UInt8.toNat_ofNat', ← vL_digit]
  obtain ⟨q, r, hr, rfl⟩ : ∃ q r, r < 4 ∧ i = 4 * q + r := ⟨i / 4, i % 4, by omega, by omega⟩
  rw [show (4 * q + r) / 4 = q by omega, show (4 * q + r) % 4 = r by omega, Nat.pow_add, Nat.pow_mul, ← Nat.div_div_eq_div_mul]
  rw [show (256 : Nat) ^ 4 = 4294967296 from rfl]
  generalize vL l / 4294967296 ^ q = v
  have : r = 0 ∨ r = 1 ∨ r = 2 ∨ r = 3 := by omega
  rcases this with rfl | rfl | rfl | rfl <;> simp only [Nat.reducePow] <;> omega
theorem natW_be (l : List UInt32) (k : Nat) : natW (d32 l) k = be k (vL l) := by
  induction k with
  | zero => rfl
  | succ k ih => simp only [natW, be, ih, wB_vL]
theorem beV_drop (b : List UInt8) (i : Nat) (h : i < b.length) : beV (b.drop (b.length - (i + 1))) = byteAt b (b.length - 1 - i) * 256 ^ i + beV (b.drop (b.length - i)) := by
  have e : b.drop (b.length - (i + 1)) = b[b.length - 1 - i] :: b.drop (b.length - i) := by
    rw [show b.length - (i + 1) = b.length - 1 - i by omega, List.drop_eq_getElem_cons (by omega)]
    congr 2; omega
  rw [e, beV_cons, List.length_drop, show b.length - (b.length - i) = i by omega]
  unfold byteAt
  rw [List.getD_eq_getElem?_getD, List.getElem?_eq_getElem (by omega)]
  rfl
theorem beV_drop_lt (b : List UInt8) (i : Nat) (h : i ≤ b.length) : beV (b.drop (b.length - i)) < 256 ^ i := by
  have := beV_lt (b.drop (b.length - i))
  rwa [List.length_drop, show b.length - (b.length - i) = i by omega] at this
theorem digN_byte (m v c i : Nat) (hv : v < 256 ^ i) (hc : c < 256) (hm : i / 4 < m) : digN m (v + c * 256 ^ i) = (digN m v).set (i / 4) (UInt32.ofNat (v / 4294967296 ^ (i / 4) + c * 256 ^ (i % 4))) ∧ v / 4294967296 ^ (i / 4) < 256 ^ (i % 4) := by
  obtain ⟨q, r, hr, rfl⟩ : ∃ q r, r < 4 ∧ i = 4 * q + r := ⟨i / 4, i % 4, by omega, by omega⟩
  have e1 : (4 * q + r) / 4 = q := by omega
  have e2 : (4 * q + r) % 4 = r := by omega
  have e3 : (256 : Nat) ^ (4 * q + r) = 4294967296 ^ q * 256 ^ r := by rw [Nat.pow_add, Nat.pow_mul]
  rw [e1] at hm
  rw [e1, e2]
  rw [e3] at hv ⊢
  have hB : 0 < 4294967296 ^ q := Nat.pow_pos (by decide)
  have hlow : v / 4294967296 ^ q < 256 ^ r := Nat.div_lt_of_lt_mul hv
  refine ⟨?_, hlow⟩
  have hr4 : (256 : Nat) ^ r * 256 ≤ 4294967296 := by
    have : r = 0 ∨ r = 1 ∨ r = 2 ∨ r = 3 := by omega
    rcases this with rfl | rfl | rfl | rfl <;> decide
  have hcr : c * 256 ^ r ≤ 255 * 256 ^ r := Nat.mul_le_mul_right _ (by omega)
  have hsum : v / 4294967296 ^ q + c * 256 ^ r < 4294967296 := by omega
  refine vL_inj (by simp [digN_len]) ?_
  have hs := vL_set (digN m v) q (UInt32.ofNat (v / 4294967296 ^ q + c * 256 ^ r)) (by rw [digN_len]; exact hm)
  rw [digN_at m v q hm, vL_digN, UInt32.toNat_ofNat', Nat.mod_eq_of_lt (show v / 4294967296 ^ q < 4294967296 by omega)] at hs
  have hsz : (2 : Nat) ^ 32 = 4294967296 := rfl
  rw [hsz, Nat.mod_eq_of_lt hsum] at hs
  have hpm : 4294967296 ^ q * 4294967296 ≤ 4294967296 ^ m := by
    rw [← Nat.pow_succ]; exact Nat.pow_le_pow_right (by decide) hm
  have hbig : v + c * (4294967296 ^ q * 256 ^ r) < 4294967296 ^ m := by
    have h1 : c * (4294967296 ^ q * 256 ^ r) ≤ 4294967296 ^ q * (255 * 256 ^ r) := by
      rw [Nat.mul_left_comm]; exact Nat.mul_le_mul_left _ hcr
    have h2 : 4294967296 ^ q * (256 ^ r * 256) ≤ 4294967296 ^ q * 4294967296 := Nat.mul_le_mul_left _ hr4
    have h3 : 4294967296 ^ q * (256 ^ r * 256) = 4294967296 ^ q * (255 * 256 ^ r) + 4294967296 ^ q * 256 ^ r := by
      rw [← Nat.mul_add]; congr 1; omega
    omega
  have hvm : v < 4294967296 ^ m := by omega
  rw [vL_digN, Nat.mod_eq_of_lt hbig]
  rw [Nat.mod_eq_of_lt hvm, Nat.add_mul] at hs
  have : c * 256 ^ r * 4294967296 ^ q = c * (4294967296 ^ q * 256 ^ r) := by rw [Nat.mul_assoc, Nat.mul_comm (256 ^ r)]
  omega
theorem vL_put (l : List UInt32) (p t : Nat) (h : p < l.length) : vL (l.set p (UInt32.ofNat t)) + t / 4294967296 * 4294967296 ^ (p + 1) + d32 l p * 4294967296 ^ p = vL l + t * 4294967296 ^ p := by
  have hs := vL_set l p (UInt32.ofNat t) h
  rw [UInt32.toNat_ofNat', show (2 : Nat) ^ 32 = 4294967296 from rfl] at hs
  have e : t * 4294967296 ^ p = (t % 4294967296) * 4294967296 ^ p + t / 4294967296 * 4294967296 ^ (p + 1) := by
    rw [Nat.pow_succ, Nat.mul_comm _ 4294967296, ← Nat.mul_assoc, ← Nat.add_mul]
    congr 1
    omega
  omega
theorem vL_take_succ (l : List UInt32) (k : Nat) : vL (l.take (k + 1)) = vL (l.take k) + d32 l k * 4294967296 ^ k := by
  rcases Nat.lt_or_ge k l.length with h | h
  case inr => rw [List.take_of_length_le (by omega), List.take_of_length_le h, d32_out l k h]; simp
  rw [List.take_succ_eq_append_getElem h, vL_append, List.length_take, Nat.min_eq_left (by omega)]
  have : d32 l k = l[k].toNat := by unfold d32; rw [List.getD_eq_getElem?_getD, List.getElem?_eq_getElem h]; rfl
  rw [this]
  simp [vL, Nat.mul_comm]
theorem mul_step {out b : List UInt32} {V x c i k : Nat} (hk : k < b.length) (hp : i + k < out.length) (h : vL out + c * 4294967296 ^ (i + k) = V + x * vL (b.take k) * 4294967296 ^ i) :
    vL (out.set (i + k) (UInt32.ofNat (c + x * d32 b k + d32 out (i + k)))) + (c + x * d32 b k + d32 out (i + k)) / 4294967296 * 4294967296 ^ (i + (k + 1)) = V + x * vL (b.take (k + 1)) * 4294967296 ^ i := by
  have hv := vL_put out (i + k) (c + x * d32 b k + d32 out (i + k)) hp
  rw [vL_take_succ b k]
  rw [Nat.add_mul, Nat.add_mul] at hv
  rw [Nat.mul_add, Nat.add_mul, show x * (d32 b k * 4294967296 ^ k) * 4294967296 ^ i = x * d32 b k * 4294967296 ^ (i + k) by rw [Nat.pow_add]; grind]
  rw [← Nat.add_assoc i k 1]
  omega
theorem carry_lt {c x y z : Nat} (hc : c < 4294967296) (hx : x < 4294967296) (hy : y < 4294967296) (hz : z < 4294967296) : c + x * y + z < 18446744073709551616 := by
  have : x * y ≤ 4294967295 * 4294967295 := Nat.mul_le_mul (by omega) (by omega)
  omega
theorem d32_set (l : List UInt32) (p j : Nat) (x : UInt32) (h : p < l.length) : d32 (l.set p x) j = if p = j then x.toNat else d32 l j := by
  unfold d32
  rw [List.getD_eq_getElem?_getD, List.getElem?_set]
  split
  · rename_i e; subst e; simp [h]
  · simp
theorem mul_row {out a b : List UInt32} {V c i : Nat} (hi : i < a.length) (hp : i + b.length < out.length) (hz : d32 out (i + b.length) = 0) (hc : c < 4294967296) (hV : V = vL (a.take i) * vL b)
    (h : vL out + c * 4294967296 ^ (i + b.length) = V + d32 a i * vL (b.take b.length) * 4294967296 ^ i) : vL (out.set (i + b.length) (UInt32.ofNat c)) = vL (a.take (i + 1)) * vL b := by
  have hs := vL_put out (i + b.length) c hp
  rw [hz, Nat.div_eq_of_lt hc] at hs
  rw [List.take_length] at h
  rw [vL_take_succ a i, Nat.add_mul, ← hV, show d32 a i * 4294967296 ^ i * vL b = d32 a i * vL b * 4294967296 ^ i by grind]
  omega
theorem guess_lo (w V k m : Nat) (hV : 0 < V) : w / (V * 4294967296 ^ k) * (V / 4294967296 ^ m) ≤ w / 4294967296 ^ (k + m) := by
  have hB : 0 < 4294967296 ^ (k + m) := Nat.pow_pos (by decide)
  rw [Nat.le_div_iff_mul_le hB]
  have h1 := Nat.div_mul_le_self w (V * 4294967296 ^ k)
  have h2 := Nat.div_mul_le_self V (4294967296 ^ m)
  have h3 : w / (V * 4294967296 ^ k) * (V / 4294967296 ^ m) * 4294967296 ^ (k + m) = w / (V * 4294967296 ^ k) * (V / 4294967296 ^ m * 4294967296 ^ m * 4294967296 ^ k) := by rw [Nat.pow_add]; grind
  rw [h3]
  exact Nat.le_trans (Nat.mul_le_mul_left _ (Nat.mul_le_mul_right _ h2)) h1
theorem guess_hi (w V k m g : Nat) (hg : g < 4294967296) (hS : g * (V / 4294967296 ^ m) ≤ w / 4294967296 ^ (k + m)) (hV : 4294967296 ^ (m + 1) ≤ V) : g ≤ w / (V * 4294967296 ^ k) + 1 := by
  have hB : 0 < 4294967296 ^ (k + m) := Nat.pow_pos (by decide)
  have hBm : 0 < 4294967296 ^ m := Nat.pow_pos (by decide)
  have hBk : 0 < 4294967296 ^ k := Nat.pow_pos (by decide)
  have hV0 : 0 < V := Nat.lt_of_lt_of_le (Nat.pow_pos (by decide)) hV
  have h1 := (Nat.le_div_iff_mul_le hB).1 hS
  have h2 : V < (V / 4294967296 ^ m + 1) * 4294967296 ^ m := by
    have := Nat.lt_div_mul_add hBm (a := V)
    rw [Nat.add_mul]; omega
  cases g with
  | zero => exact Nat.zero_le _
  | succ g =>
    refine Nat.succ_le_succ ((Nat.le_div_iff_mul_le (Nat.mul_pos hV0 hBk)).2 ?_)
    -- g V B^k ≤ (g+1) V B^k - V B^k ≤ (g+1)(S+1) B^m B^k - V B^k ≤ w + (g+1) B^(m+k) - V B^k ≤ w
    have h3 : (g + 1) * V ≤ (g + 1) * ((V / 4294967296 ^ m + 1) * 4294967296 ^ m) := Nat.mul_le_mul_left _ (Nat.le_of_lt h2)
    have h4 : (g + 1) * 4294967296 ^ m ≤ V := by
      refine Nat.le_trans ?_ hV
      rw [Nat.pow_succ, Nat.mul_comm]
      exact Nat.mul_le_mul_left _ (by omega)
    have h5 : (g + 1) * ((V / 4294967296 ^ m + 1) * 4294967296 ^ m) = (g + 1) * (V / 4294967296 ^ m) * 4294967296 ^ m + (g + 1) * 4294967296 ^ m := by grind
    have h6 : g * V ≤ (g + 1) * (V / 4294967296 ^ m) * 4294967296 ^ m := by
      have : (g + 1) * V = g * V + V := Nat.succ_mul ..
      omega
    have h7 : g * (V * 4294967296 ^ k) ≤ (g + 1) * (V / 4294967296 ^ m) * 4294967296 ^ (k + m) := by
      rw [← Nat.mul_assoc, Nat.pow_add, Nat.mul_comm (4294967296 ^ k), ← Nat.mul_assoc]
      exact Nat.mul_le_mul_right _ h6
    exact Nat.le_trans h7 h1
theorem guess_ref (w V k m : Nat) : w / 4294967296 ^ (k + m) / (V / 4294967296 ^ m + 1) * (V * 4294967296 ^ k) ≤ w := by
  have hB : 0 < 4294967296 ^ (k + m) := Nat.pow_pos (by decide)
  have hBm : 0 < 4294967296 ^ m := Nat.pow_pos (by decide)
  have h2 : V ≤ (V / 4294967296 ^ m + 1) * 4294967296 ^ m := by
    have := Nat.lt_div_mul_add hBm (a := V)
    rw [Nat.add_mul]; omega
  generalize hg : w / 4294967296 ^ (k + m) / (V / 4294967296 ^ m + 1) = g
  have h1 : g * (V / 4294967296 ^ m + 1) ≤ w / 4294967296 ^ (k + m) := by rw [← hg]; exact Nat.div_mul_le_self _ _
  have h3 := (Nat.le_div_iff_mul_le hB).1 h1
  refine Nat.le_trans ?_ h3
  rw [Nat.pow_add, Nat.mul_comm (4294967296 ^ k), ← Nat.mul_assoc, ← Nat.mul_assoc]
  refine Nat.mul_le_mul_right _ ?_
  rw [Nat.mul_assoc]
  exact Nat.mul_le_mul_left _ h2
theorem sub_step {out v : List UInt32} {W g c k i b e r : Nat} (hp : k + i < out.length) (h : vL out + g * vL (v.take i) * 4294967296 ^ k = W + (c + b) * 4294967296 ^ (k + i))
    (hr : r < 4294967296) (he : d32 out (k + i) + e * 4294967296 = b + (c + g * d32 v i) % 4294967296 + r) :
    vL (out.set (k + i) (UInt32.ofNat r)) + g * vL (v.take (i + 1)) * 4294967296 ^ k = W + ((c + g * d32 v i) / 4294967296 + e) * 4294967296 ^ (k + (i + 1)) := by
  have hs := vL_put out (k + i) r hp
  rw [Nat.div_eq_of_lt hr] at hs
  rw [vL_take_succ v i, ← Nat.add_assoc k i 1, Nat.pow_succ, Nat.mul_add, Nat.add_mul, show g * (d32 v i * 4294967296 ^ i) * 4294967296 ^ k = g * d32 v i * 4294967296 ^ (k + i) by rw [Nat.pow_add]; grind]
  generalize 4294967296 ^ (k + i) = P at *
  have hdm : c + g * d32 v i = (c + g * d32 v i) % 4294967296 + 4294967296 * ((c + g * d32 v i) / 4294967296) := (Nat.mod_add_div _ _).symm
  generalize (c + g * d32 v i) % 4294967296 = lo at *
  generalize (c + g * d32 v i) / 4294967296 = hi2 at *
  generalize d32 out (k + i) = u at *
  have h9 : (u + e * 4294967296) * P = (b + lo + r) * P := by rw [he]
  have h10 : (c + g * d32 v i) * P = (lo + 4294967296 * hi2) * P := by rw [← hdm]
  grind
theorem add_step {out v : List UInt32} {W c k i : Nat} (hp : k + i < out.length) (h : vL out + c * 4294967296 ^ (k + i) = W + vL (v.take i) * 4294967296 ^ k) :
    vL (out.set (k + i) (UInt32.ofNat (c + d32 out (k + i) + d32 v i))) + (c + d32 out (k + i) + d32 v i) / 4294967296 * 4294967296 ^ (k + (i + 1)) = W + vL (v.take (i + 1)) * 4294967296 ^ k := by
  have hs := vL_put out (k + i) (c + d32 out (k + i) + d32 v i) hp
  rw [vL_take_succ v i, ← Nat.add_assoc k i 1, Nat.add_mul, show d32 v i * 4294967296 ^ i * 4294967296 ^ k = d32 v i * 4294967296 ^ (k + i) by rw [Nat.pow_add]; grind]
  generalize 4294967296 ^ (k + i + 1) = P at *
  grind
theorem vL_lt_zero {l : List UInt32} {m : Nat} (h : ∀ j, m ≤ j → d32 l j = 0) : vL l < 4294967296 ^ m := by
  rcases Nat.lt_or_ge l.length m with hl | hl
  · exact Nat.lt_of_lt_of_le (vL_lt l) (Nat.pow_le_pow_right (by decide) (by omega))
  · rw [vL_take_drop l m hl, vL_zero (l.drop m) (fun i _ => by rw [d32_drop]; exact h _ (by omega))]
    have := vL_lt (l.take m)
    rw [List.length_take, Nat.min_eq_left hl] at this
    omega
theorem vL_zero_above {l : List UInt32} {m : Nat} (h : vL l < 4294967296 ^ m) (j : Nat) (hj : m ≤ j) : d32 l j = 0 := by
  rw [← vL_digit, Nat.div_eq_of_lt (Nat.lt_of_lt_of_le h (Nat.pow_le_pow_right (by decide) hj))]
theorem digN_fix {l : List UInt32} {N x : Nat} (h : l.length = N) (e : vL l = x) : l = digN N x := by
  subst h e; exact (digN_vL l).symm
theorem step_ok1 {U : List UInt32} {w D k n g c b N : Nat} (hN : U.length = N) (hk : k + n < N) (h : vL U + g * D = w + (c + b) * 4294967296 ^ (k + n)) (hle : c + b ≤ d32 U (k + n)) (hq : w / D ≤ g) (hD : 0 < D) :
    U.set (k + n) (UInt32.ofNat (d32 U (k + n) - (c + b))) = digN N (w % D) ∧ g = w / D := by
  have hs := vL_put U (k + n) (d32 U (k + n) - (c + b)) (by omega)
  have hd := d32_lt U (k + n)
  rw [Nat.div_eq_of_lt (by omega), Nat.sub_mul] at hs
  have hm : (c + b) * 4294967296 ^ (k + n) ≤ d32 U (k + n) * 4294967296 ^ (k + n) := Nat.mul_le_mul_right _ hle
  have e : vL (U.set (k + n) (UInt32.ofNat (d32 U (k + n) - (c + b)))) + g * D = w := by omega
  have hg : g = w / D := by
    refine Nat.le_antisymm ((Nat.le_div_iff_mul_le hD).2 (by omega)) hq
  refine ⟨digN_fix (by simp [hN]) ?_, hg⟩
  have := Nat.div_add_mod w D
  rw [← hg, Nat.mul_comm] at this
  omega
theorem step_ok2 {U W : List UInt32} {w D V k n g c b c2 N : Nat} (hN : U.length = N) (hNW : W.length = N) (hk : k + n < N) (hVD : D = V * 4294967296 ^ k) (hV : V < 4294967296 ^ n) (h : vL U + g * D = w + (c + b) * 4294967296 ^ (k + n)) (hz : ∀ j, k + n < j → d32 U j = 0) (hgt : d32 U (k + n) < c + b) (hcb : c + b ≤ d32 U (k + n) + 4294967296)
    (hq : w / D ≤ g) (hq2 : g ≤ w / D + 1) (hD : 0 < D) (hc2 : c2 ≤ 1) (hW : vL W + c2 * 4294967296 ^ (k + n) = vL (U.set (k + n) (UInt32.ofNat (d32 U (k + n) + 4294967296 - (c + b)))) + V * 4294967296 ^ k)
    (hWd : d32 W (k + n) = (d32 U (k + n) + 4294967296 - (c + b)) % 4294967296) (hWz : ∀ j, k + n < j → d32 W j = 0) :
    W.set (k + n) (UInt32.ofNat (d32 W (k + n) + c2)) = digN N (w % D) ∧ g = w / D + 1 := by
  have hP : (4294967296 : Nat) ^ (k + n + 1) = 4294967296 ^ (k + n) * 4294967296 := Nat.pow_succ ..
  have hDlt : D < 4294967296 ^ (k + n) := by
    rw [hVD, Nat.pow_add, Nat.mul_comm]; exact Nat.mul_lt_mul_of_pos_left hV (Nat.pow_pos (by decide))
  have hs := vL_put U (k + n) (d32 U (k + n) + 4294967296 - (c + b)) (by omega)
  have hs2 := vL_put W (k + n) (d32 W (k + n) + c2) (by omega)
  have hU := vL_lt_zero (l := U) (m := k + n + 1) (fun j hj => hz j (by omega))
  have hdm := Nat.div_add_mod w D
  have hml := Nat.mod_lt w hD
  have hWlt := vL_lt_zero (l := W) (m := k + n + 1) (fun j hj => hWz j (by omega))
  have hge : g = w / D + 1 := by
    rcases Nat.lt_or_ge (w / D) g with h1 | h1
    · omega
    · -- then g D ≤ w, and nothing is borrowed
      exfalso
      have hgD : g * D ≤ w := Nat.le_trans (Nat.mul_le_mul_right _ h1) (Nat.div_mul_le_self _ _)
      have h2 : (d32 U (k + n) + 1) * 4294967296 ^ (k + n) ≤ (c + b) * 4294967296 ^ (k + n) := Nat.mul_le_mul_right _ hgt
      have h3 := vL_take_drop U (k + n) (by omega)
      have h4 : vL (U.drop (k + n)) = d32 U (k + n) := by
        have := vL_take_succ (U.drop (k + n)) 0
        have h5 : vL ((U.drop (k + n)).drop 1) = 0 := vL_zero _ (fun i _ => by rw [d32_drop, d32_drop]; exact hz _ (by omega))
        have h6 := vL_take_drop (U.drop (k + n)) 1 (by rw [List.length_drop]; omega)
        rw [h5] at h6
        rw [this] at h6
        rw [d32_drop] at h6
        simpa [vL] using h6
      have h5 := vL_lt (U.take (k + n))
      rw [List.length_take, Nat.min_eq_left (by omega)] at h5
      rw [h4, Nat.mul_comm] at h3
      rw [Nat.add_mul] at h2
      omega
  refine ⟨digN_fix (by simp [hNW]) ?_, hge⟩
  rw [← hVD] at hW
  generalize 4294967296 ^ (k + n) = P at *
  rw [hP] at hs hs2 hU hWlt
  have hgD : g * D = D * (w / D) + D := by rw [hge, Nat.add_mul, Nat.mul_comm, Nat.one_mul]
  generalize he : d32 U (k + n) + 4294967296 - (c + b) = e at *
  have hdl := d32_lt U (k + n)
  have he2 : e * P + (c + b) * P = d32 U (k + n) * P + 4294967296 * P := by rw [← Nat.add_mul, ← Nat.add_mul]; congr 1; omega
  have hel : e < 4294967296 := by omega
  rw [Nat.div_eq_of_lt hel] at hs
  rw [Nat.mod_eq_of_lt hel] at hWd
  rw [hWd] at hs2 ⊢
  rw [Nat.add_mul] at hs2
  -- vL W' + K P B = B P + w % D
  have hK : (e + c2) / 4294967296 ≤ 1 := by omega
  have hWz2 := vL_lt_zero (l := W.set (k + n) (UInt32.ofNat (e + c2))) (m := k + n + 1) (fun j hj => by rw [d32_set _ _ _ _ (by omega), if_neg (by omega)]; exact hWz j (by omega))
  rw [hP] at hWz2
  have hK01 : (e + c2) / 4294967296 = 0 ∨ (e + c2) / 4294967296 = 1 := by omega
  rcases hK01 with hk0 | hk1
  · rw [hk0] at hs2; omega
  · rw [hk1] at hs2; omega
theorem take_ok {U : List UInt32} {w D k n c b g N : Nat} (hN : U.length = N) (h : vL U + g * D = w + (c + b) * 4294967296 ^ (k + (n + 1))) (hz : ∀ j, k + n < j → d32 U j = 0) (hle : g * D ≤ w) : U = digN N (w - g * D) := by
  have hU := vL_lt_zero (l := U) (m := k + (n + 1)) (fun j hj => hz j (by omega))
  have hcb : c + b = 0 := by
    rcases Nat.eq_zero_or_pos (c + b) with h0 | h0
    · exact h0
    · have : 1 * 4294967296 ^ (k + (n + 1)) ≤ (c + b) * 4294967296 ^ (k + (n + 1)) := Nat.mul_le_mul_right _ h0
      omega
  rw [hcb] at h
  exact digN_fix hN (by omega)
def ws (k : IntKind) (l : List UInt32) : List Value := l.map fun x => .int k (x.toNat : Int)
theorem ws_len (k : IntKind) (l : List UInt32) : (ws k l).length = l.length := by simp [ws]
theorem ws_set (k : IntKind) (l : List UInt32) (i : Nat) (x : UInt32) : (ws k l).set i (.int k (x.toNat : Int)) = ws k (l.set i x) := by simp [ws, List.map_set]
theorem d32_get (l : List UInt32) (i : Nat) (h : i < l.length) : d32 l i = l[i].toNat := by unfold d32; simp [h]
theorem ws_at (k : IntKind) (l : List UInt32) (i : Nat) (h : i < l.length) : (ws k l)[i]? = some (.int k (d32 l i : Nat)) := by
  rw [d32_get l i h]; simp [ws, h]
theorem digN_zero : ∀ m, digN m 0 = List.replicate m 0
  | 0 => rfl
  | m + 1 => by rw [digN, Nat.zero_div, digN_zero m]; rfl
theorem ws_zero (k : IntKind) (m : Nat) : List.replicate m (Value.int k 0) = ws k (digN m 0) := by rw [digN_zero]; simp [ws]
theorem CellsR.of_ws32 {h : Part} {l : List UInt32} : CellsR u32R 1 h (ws .u32 l) l := ⟨by simp [ws], fun i x hx => by
  unfold u32R
  rw [Nat.mul_one, List.take_one, List.head?_drop]
  simp [ws, hx]⟩
theorem CellsR.of_ws64 {h : Part} {l : List UInt32} : CellsR u64R 1 h (ws .u64 l) (l.map m64) := ⟨by simp [ws], fun i x hx => by
  unfold u64R
  rw [List.getElem?_map, Option.map_eq_some_iff] at hx
  obtain ⟨y, hy, rfl⟩ := hx
  rw [Nat.mul_one, List.take_one, List.head?_drop, m64_nat]
  simp [ws, hy]⟩
theorem cutZ_map (l : List UInt32) : cutZ (l.map m64) = (toL (vL l)).map m64 := by
  rw [← trim_toL]
  unfold cutZ trimL
  rw [tsz_congr (d64_map l), List.length_map, List.map_take]
theorem map_n32 (l : List UInt32) : (l.map m64).map n32 = l := by
  rw [List.map_map]
  conv => rhs; rw [← List.map_id l]
  exact List.map_congr_left (fun x _ => n32_m64 x)
section
variable {f : Fr} {n : Post} {x : Nat → Post} {S : Sig} {h : Part} {L L' : List Ent} {ops : Array Oper} {rest : List Oper}
variable {ty : TypeId} {pos : String} {af : Array Edge} {d : Nat} {v : Value} {T : TypeId} {xo yo : Operand}
theorem RunV.wload {g c t m i : Nat} {k : IntKind} {l : List UInt32} (hT : aggT f.P T = some none) (hx : ev S xo = some (.pointer (some ⟨g, i, none⟩))) (hm : Ent.row (some ⟨g, 0, none⟩) c t 1 m (ws k l) ∈ L) (hi : i < l.length) : RunV f S h L (.load T xo) ty (.int k (d32 l i : Nat)) :=
  RunV.rowload hT hx hm (ws_at k l i hi)
theorem JL.storeW (t0 : Nat) {g c t m i : Nat} {k : IntKind} {p : Int} {l : List UInt32} (hT : aggT f.P T = some none) (hx : ev S xo = some (.pointer (some ⟨g, i, none⟩))) (hy : ev S yo = some (.int k p)) (hp : p = ((t0 % 4294967296 : Nat) : Int)) (u : Del (.row (some ⟨g, 0, none⟩) c t 1 m (ws k l)) L L') (hi : i < l.length)
    (kk : JL f ops n x rest S h (.row (some ⟨g, 0, none⟩) c t 1 m (ws k (l.set i (UInt32.ofNat t0))) :: L')) : JL f ops n x (⟨none, .store T xo yo, ty, pos, af, none⟩ :: rest) S h L := by
  refine JL.storeRow hT hx hy rfl u (by rw [ws_len]; exact hi) ?_
  have e : p = ((UInt32.ofNat t0).toNat : Int) := by rw [hp, UInt32.toNat_ofNat']
  rw [e, ws_set]
  exact kk
theorem RunV.index_off {e g o ln c m : Nat} {k : IntKind} {i : Int} (hT : slT f.P T = some (e, 1)) (hx : ev S xo = some (.slice (some ⟨g, o, none⟩) ln c)) (hy : ev S yo = some (.int k i)) (hi : i = (m : Int)) (h1 : m < ln) :
    RunV f S h L (.indexAddr T xo yo) ty (.pointer (some ⟨g, o + m, none⟩)) := fun ac w s _ _ _ _ => by
  subst hi
  obtain ⟨hu, inf, hi, hs⟩ := slT_spec hT
  have h0 : (0 : Int) ≤ m := by omega
  have h2 : (m : Int) < ln := by omega
  simp [execOp, s.eval hx, s.eval hy, Instr.indexAt, run_underlying hu, asIntOf, sizeOf, typeInfo, hi, hs, h1, Addr.add_lit]
theorem JL.pub32 {a : Option Addr} {c t m : Nat} {l : List UInt32} {l0 : List Oper} (u : Del (.row a c t 1 m (ws .u32 l)) L L') (hn : m = l.length) (hb : l.length ≤ 140737488355328) (k : ∀ h', h.le h' → SlR u32R 1 h' a c l → JL f ops n x l0 S h' L') : JL f ops n x l0 S h L :=
  JL.pub u CellsR.of_ws32 hn hb k
theorem JL.pub64 {a : Option Addr} {c t m : Nat} {l : List UInt32} {l0 : List Oper} (u : Del (.row a c t 1 m (ws .u64 l)) L L') (hn : m = l.length) (hb : l.length ≤ 140737488355328) (k : ∀ h', h.le h' → SlR u64R 1 h' a c (l.map m64) → JL f ops n x l0 S h' L') : JL f ops n x l0 S h L :=
  JL.pub u CellsR.of_ws64 (by rw [hn, List.length_map]) (by rw [List.length_map]; exact hb) k
end
end Go.Proofs.YtmngjbefnloljaaGreatDoor
namespace Go.Proofs.YtmngjbefnloljaaGreatDoor
open Go Go.RowKit
theorem z30_ {p : Prop} (u : p := by rw [← Int.natCast_mul]; omega) : p := u
end Go.Proofs.YtmngjbefnloljaaGreatDoor
namespace Go.Proofs.YtmngjbefnloljaaGreatDoor
open Go Go.RowKit
set_option maxRecDepth 100000
theorem ca_42 : callT Tryz.prog 42 = true := by kernel_rfl
theorem ca_59 : callT Tryz.prog 59 = true := by kernel_rfl
theorem cv_5_103 : convI Tryz.prog 5 103 = some .u32 := by kernel_rfl
theorem mk_30 : mkT Tryz.prog 30 = some (103, .int .u32 0, 4) := by kernel_rfl
theorem nattrim_fn {a : Option Addr} {c : Nat} {l : List UInt32} {h : Part} (hl : SlR u32R 1 h a c l) (hlb : l.length ≤ 1073741824) : FnR Tryz.prog 59 [.slice a l.length c] h (fun v h' => ∃ a' c', v = .slice a' (toL (vL l)).length c' ∧ SlR u32R 1 h' a' c' (toL (vL l))) := by
  have hll := hl.big
  have ht := tsz_le (d32 l) l.length
  have htr : l.take (tsz (d32 l) l.length) = toL (vL l) := trim_toL l
  have hlen : (toL (vL l)).length = tsz (d32 l) l.length := by rw [toL_len, tsz_nd]
  refine Fn.intro Tryz.func59 rfl Tryz.ntmps59 rfl (fun e he => ?_)
  refine J.weak [(0, _)] ⟨rfl, trivial⟩ ?_
  have hh0 := Part.le.refl h
  refine Sr ?_
  refine Ru 1 rfl ?_
  refine JL.nil ?_
  refine Sr ?_
  refine Ru 1 rfl ?_
  refine JL.callP ca_84 rfl (natsize_fn (by assumption)) rfl ?_
  refine Ru 1 rfl ?_
  refine JL.nil ?_
  refine J.seq ?_
  refine Sr ?_
  refine Ru 2 rfl ?_
  refine JL.nil ?_
  refine Cs rfl (fun hc2 => ?_) fun hc2 => ?_
  ·
   have h0 : toL (vL l) = [] := List.eq_nil_of_length_eq_zero (by omega)
   refine Sr ?_
   refine Ru 1 rfl ?_
   refine Nk [2, 3, 0] rfl ?_
   rw [h0]; exact J.retR (RetV.one rfl rfl) ⟨none, 0, rfl, SlR.nil_⟩
  refine J.skip ?_
  refine Kp [3, 2, 0] rfl ?_
  refine Sr ?_
  refine Ru 2 rfl ?_
  refine JL.ope (RunE.cut_h sl_30 (m := tsz (d32 l) l.length) rfl rfl rfl hl rfl (by omega)) rfl ?_
  rintro _ ⟨a9, c9, rfl, hS9⟩
  rw [htr] at hS9 ⊢; refine JL.row_nil 103 1 ?_
  refine JL.append (R := u32R) ap_30 rfl rfl CellsR.nil rfl hS9 rfl dl_ (by simp only [List.length_nil]; omega) rfl rfl (fun a8 c8 xs8 hC8 hN8 => ?_)
  simp only [List.nil_append] at hC8 ⊢; refine JL.pub (R := u32R) dl_ hC8 rfl (by omega) (fun h9 hle9 hP9 => ?_)
  refine Ru 1 rfl ?_
  refine Nk [2] rfl ?_
  exact J.retR (RetV.one rfl rfl) ⟨_, _, rfl, hP9⟩
theorem nattrim_fn' {a : Option Addr} {c n : Nat} {l : List UInt32} {h : Part} (hl : SlR u32R 1 h a c l) (hn : n = l.length) (hlb : n ≤ 1073741824) : FnR Tryz.prog 59 [.slice a n c] h (fun v h' => ∃ a' c', v = .slice a' (toL (vL l)).length c' ∧ SlR u32R 1 h' a' c' (toL (vL l))) := by
  subst hn; exact nattrim_fn hl hlb
theorem shl8 (i : Nat) : (2 : Int) ^ (8 * ((i : Int) % 4)).toNat = ((256 ^ (i % 4) : Nat) : Int) := by
  have : (8 * ((i : Int) % 4)).toNat = 8 * (i % 4) := by omega
  rw [this, Int.natCast_pow, Int.pow_mul]; rfl
theorem two8 (j : Nat) : (2 : Int) ^ (8 * j) = ((256 ^ j : Nat) : Int) := by rw [Int.natCast_pow, Int.pow_mul]; rfl
theorem bits_or_comm (k : IntKind) (p q : Int) : bits .or k p q = bits .or k q p := by
  show k.wrap _ = k.wrap _
  rw [BitVec.or_comm]
theorem RunV.joinr_u32 {f : Fr} {S : Sig} {h : Part} {L : List Ent} {ty T yt : TypeId} {x y : Operand} {p q : Int} (i : Nat) (D : Int) (hx : ev S x = some (.int .u32 p)) (hy : ev S y = some (.int .u32 q)) (hD : (2 : Int) ^ i = D) (h0 : 0 ≤ q) (hp : q % D = 0) (h1 : q ≤ 4294967295) (hq0 : 0 ≤ p) (hq : p < D) (hq1 : p ≤ 4294967295) : RunV f S h L (.binOp .or T x y yt) ty (.int .u32 (p + q)) := by
  have := RunV.or_ (f := f) (h := h) (L := L) (ty := ty) (T := T) (yt := yt) hx hy
  rwa [bits_or_comm, bits_join .u32 32 (by decide) wraps_u32' i q p h0 (by rw [hD]; exact hp) (by omega) hq0 (by rw [hD]; exact hq) (by omega), Int.add_comm] at this
theorem pow4 (r : Nat) (h : r < 4) : 256 ^ r = 1 ∨ 256 ^ r = 256 ∨ 256 ^ r = 65536 ∨ 256 ^ r = 16777216 := by
  have : r = 0 ∨ r = 1 ∨ r = 2 ∨ r = 3 := by omega
  rcases this with rfl | rfl | rfl | rfl <;> simp
theorem natread_fn {a : Option Addr} {c : Nat} {l : List UInt8} {h : Part} (hl : SlR u8R 1 h a c l) (hlen : l.length ≤ 1073741824) : FnR Tryz.prog 42 [.slice a l.length c] h (fun v h' => ∃ a' c', v = .slice a' (toL (beV l)).length c' ∧ SlR u32R 1 h' a' c' (toL (beV l))) := by
  refine Fn.intro Tryz.func42 rfl Tryz.ntmps42 rfl (fun e he => ?_)
  refine J.weak [(0, _)] ⟨rfl, trivial⟩ ?_
  have hh0 := Part.le.refl h
  refine Sr ?_
  refine Ru 1 rfl ?_
  refine JL.nil ?_
  refine Sr ?_
  refine Ru 2 rfl ?_
  refine JL.op ai_ rfl ?_
  refine JL.op z12_ rfl ?_
  refine JL.make1 mk_30 rfl rfl (m := (l.length + 3) / 4) (by omega) (by omega) (by omega) rfl rfl (fun b1 => ?_); rw [ws_zero]
  refine Ru 1 rfl ?_
  refine Nk [3, 2, 0] rfl ?_
  refine J.seq ?_
  refine Sr ?_
  refine Ru 3 rfl ?_
  refine JL.nil ?_
  refine J.block ?_
  refine J.loop (fun t_ S_ h_ L_ => ∃ (i v : Nat), t_ = l.length - i ∧ S_ = [(0, .slice a l.length c), (3, .slice (some ⟨b1, 0, none⟩) ((l.length + 3) / 4) ((l.length + 3) / 4)), (12, .int .i64 l.length), (13, .int .i64 i)] ∧ h = h_ ∧ L_ = [.row (some ⟨b1, 0, none⟩) ((l.length + 3) / 4) 103 1 ((l.length + 3) / 4) (ws .u32 (digN ((l.length + 3) / 4) v))] ∧ (i ≤ l.length ∧ v = beV (l.drop (l.length - i)))) ⟨_, _, ?_, ⟨0, 0, rfl, rfl, rfl, rfl, ⟨by omega, by simp [beV]⟩⟩⟩ ?_
  ·
   exact z5_
  rintro _ _ _ _ ⟨i, v, rfl, rfl, rfl, rfl, hi, hv⟩
  refine Sr ?_
  refine Ru 1 rfl ?_
  refine JL.nil ?_
  refine J.seq ?_
  refine Cs rfl (fun hc2 => ?_) fun hc2 => ?_
  ·
   have hi' : i < l.length := (by omega); have hvl := beV_drop_lt l i (by omega); have hbl := byteAt_lt l (l.length - 1 - i); have hdb := digN_byte ((l.length + 3) / 4) _ _ i hvl hbl (by omega); have hst := beV_drop l i hi'; have hd0 := digN_at ((l.length + 3) / 4) (beV (l.drop (l.length - i))) (i / 4) (by omega); have hr4 := pow4 (i % 4) (by omega); have hbe := byteAt_eq l (l.length - 1 - i) (by omega); rw [← hv] at hvl hdb hst hd0; have hsb : byteAt l (l.length - 1 - i) * 256 ^ (i % 4) ≤ 4278190080 := (by rcases hr4 with e | e | e | e <;> rw [e] <;> omega); have hsum : v / 4294967296 ^ (i / 4) + byteAt l (l.length - 1 - i) * 256 ^ (i % 4) < 4294967296 := (by have := hdb.2; rcases hr4 with e | e | e | e <;> rw [e] at this ⊢ <;> omega); have hdd : d32 (digN ((l.length + 3) / 4) v) (i / 4) = v / 4294967296 ^ (i / 4) := (by rw [hd0]; exact Nat.mod_eq_of_lt (by omega))
   refine J.skip ?_
   refine J.seq ?_
   refine J.block ?_
   refine Sr ?_
   refine Ru 2 rfl ?_
   refine JL.nil ?_
   refine Sr ?_
   refine Ru 2 rfl ?_
   refine JL.op si_ rfl ?_
   refine Ru 1 rfl ?_
   refine JL.op si_ rfl ?_
   refine Ru 1 rfl ?_
   refine JL.nil ?_
   refine J.held ([]) 17 mixed_ rfl (fun h00 => ?_)
   refine JH.take 0 rfl (by kernel_rfl) (by kernel_rfl) (by kernel_rfl) (fun _ _ _ _ hh => hh) (br_ h00) (RunV.move rfl) rfl ?_
   refine JH.take 1 rfl (by kernel_rfl) (by kernel_rfl) (by kernel_rfl) (fun _ _ _ _ hh => hh) (br_ h00) (RunV.move rfl) rfl ?_
   refine JH.take 2 rfl (by kernel_rfl) (by kernel_rfl) (by kernel_rfl) (fun _ _ _ _ hh => hh) (br_ h00) z12_ rfl ?_
   refine JH.take 3 rfl (by kernel_rfl) (by kernel_rfl) (by kernel_rfl) (fun _ _ _ _ hh => hh) (br_ h00) (RunV.index_at sl_30 (m := i / 4) rfl rfl (by omega) (by omega)) rfl ?_
   refine JH.take 5 rfl (by kernel_rfl) (by kernel_rfl) (by kernel_rfl) (fun _ _ _ _ hh => hh) (br_ h00) (RunV.move rfl) rfl ?_
   refine JH.take 6 rfl (by kernel_rfl) (by kernel_rfl) (by kernel_rfl) (fun _ _ _ _ hh => hh) (br_ h00) (RunV.move rfl) rfl ?_
   refine JH.takeE 7 rfl (by kernel_rfl) (by kernel_rfl) (by kernel_rfl) (fun _ _ _ _ hh => hh) (br_ h00) (RunE.index (m := l.length - 1 - i) sl_22 rfl rfl (by omega) hl rfl (by omega)) rfl ?_
   rintro _ ⟨b8, o8, hi8, rfl, hE8⟩
   refine JH.take 8 rfl (by kernel_rfl) (by kernel_rfl) (by kernel_rfl) (fun _ _ _ _ hh => hh) (br_ h00) ((hbe ▸ RunV.ld_u8 ag_5 rfl hE8 : RunV _ _ _ _ _ _ (.int .u8 (byteAt l (l.length - 1 - i) : Nat)))) rfl ?_
   refine JH.take 9 rfl (by kernel_rfl) (by kernel_rfl) (by kernel_rfl) (fun _ _ _ _ hh => hh) (br_ h00) (RunV.conv_u32 cv_5_103 rfl (by omega) (by omega)) rfl ?_
   refine JH.take 10 rfl (by kernel_rfl) (by kernel_rfl) (by kernel_rfl) (fun _ _ _ _ hh => hh) (br_ h00) (RunV.move rfl) rfl ?_
   refine JH.take 11 rfl (by kernel_rfl) (by kernel_rfl) (by kernel_rfl) (fun _ _ _ _ hh => hh) (br_ h00) z22_ rfl ?_
   refine JH.take 12 rfl (by kernel_rfl) (by kernel_rfl) (by kernel_rfl) (fun _ _ _ _ hh => hh) (br_ h00) z10_ rfl ?_
   refine JH.take 13 rfl (by kernel_rfl) (by kernel_rfl) (by kernel_rfl) (fun _ _ _ _ hh => hh) (br_ h00) (RunV.shl_u32 ((256 ^ (i % 4) : Nat) : Int) rfl rfl (by omega) (by omega) (shl8 i) z30_ z30_) rfl ?_
   refine JH.all1 4 (by kernel_rfl) rfl ?_
   unfold One
   refine JL.op (RunV.wload ag_103 rfl mm_ (by rw [digN_len]; omega)) rfl ?_
   refine JL.nil ⟨(br_ h00), ?_⟩
   refine JH.take 14 rfl (by kernel_rfl) (by kernel_rfl) (by kernel_rfl) (fun _ _ _ _ hh => hh) (br_ h00) (RunV.joinr_u32 (8 * (i % 4)) ((256 ^ (i % 4) : Nat) : Int) rfl rfl (two8 (i % 4)) z30_ (Int.mul_emod_left _ _) z30_ (by omega) (by have := hdb.2; omega) (by omega)) rfl ?_
   refine JH.take 15 rfl (by kernel_rfl) (by kernel_rfl) (by kernel_rfl) (fun _ _ _ _ hh => hh) (br_ h00) (RunV.index_at sl_30 (m := i / 4) rfl rfl (by omega) (by omega)) rfl ?_
   refine JH.all1 16 (by kernel_rfl) rfl ?_
   unfold One
   refine JL.storeW (v / 4294967296 ^ (i / 4) + byteAt l (l.length - 1 - i) * 256 ^ (i % 4)) ag_103 rfl rfl (by rw [Nat.mod_eq_of_lt hsum, hdd, ← Int.natCast_mul, ← Int.natCast_add]) dl_ (by rw [digN_len]; omega) ?_
   rw [← hdb.1]
   refine JL.nil ⟨(br_ h00), ?_⟩
   refine JH.done (by kernel_rfl) ?_
   refine Rg ?_
   refine JL.op ai_ rfl ?_
   refine Ru 1 rfl ?_
   refine JL.nil ?_
   refine ⟨_, ?_, _, ?_, ⟨i + 1, v + byteAt l (l.length - 1 - i) * 256 ^ i, rfl, rfl, rfl, rfl, ⟨by omega, by rw [hst, Nat.add_comm]⟩⟩⟩
   ·
    omega
   exact z5_
  refine J.exit ?_
  refine Kp [3] rfl ?_
  refine Sr ?_
  refine Ru 1 rfl ?_
  refine JL.pub32 dl_ (by rw [digN_len]) (by rw [digN_len]; omega) (fun h9 hle9 hP9 => ?_); replace hl := hl.mono hle9; replace hh0 := hh0.mono hle9; have hve : vL (digN ((l.length + 3) / 4) v) = beV l := (by rw [vL_digN, hv, show l.length - i = 0 by omega, List.drop_zero]; refine Nat.mod_eq_of_lt (Nat.lt_of_lt_of_le (beV_lt l) ?_); rw [show (4294967296 : Nat) = 256 ^ 4 from rfl, ← Nat.pow_mul]; exact Nat.pow_le_pow_right (by decide) (by omega))
  refine JL.callR ca_59 rfl (nattrim_fn' hP9 (by rw [digN_len]) (by omega)) rfl ?_
  rintro _ h5 hle5 ⟨ra, rc, rfl, hR⟩
  replace hl := hl.mono hle5
  replace hh0 := hh0.mono hle5
  refine Ru 1 rfl ?_
  refine JL.nil ?_
  rw [hve] at hR ⊢; exact J.retR (RetV.one rfl rfl) ⟨_, _, rfl, hR⟩
end Go.Proofs.YtmngjbefnloljaaGreatDoor
namespace Go.Proofs.YtmngjbefnloljaaGreatDoor
open Go Go.RowKit
theorem z7_ {p : Prop} (u : p := by first | decide | omega | (rw [digN_len]; decide) | (simp; done) | (simp [digN_len]; done)) : p := u
end Go.Proofs.YtmngjbefnloljaaGreatDoor
namespace Go.Proofs.YtmngjbefnloljaaGreatDoor
open Go Go.RowKit
set_option maxRecDepth 100000
def cmpI3 (m n : Nat) : Int := if m < n then -1 else if n < m then 1 else 0
theorem nd_lt {m n : Nat} (h : nd m < nd n) : m < n := by
  have h0 : 0 < n := by
    rcases Nat.eq_zero_or_pos n with rfl | h0
    · rw [nd_zero] at h; omega
    · exact h0
  have h1 := (nd_pos n h0).1
  exact Nat.lt_of_lt_of_le (lt_nd m) (Nat.le_trans (Nat.pow_le_pow_right (by decide) (by omega)) h1)
theorem div_low (x j : Nat) : x / 4294967296 ^ j = x / 4294967296 ^ (j + 1) * 4294967296 + x / 4294967296 ^ j % 4294967296 := by
  rw [Nat.pow_succ, ← Nat.div_div_eq_div_mul]
  omega
theorem lt_of_div {x y d : Nat} (h : x / d < y / d) : x < y := by
  rcases Nat.lt_or_ge x y with h1 | h1
  · exact h1
  · have := Nat.div_le_div_right (c := d) h1; omega
section
variable {f : Fr} {S : Sig} {h : Part} {L : List Ent} {ty src dst : TypeId} {x : Operand} {k : IntKind} {p : Int}
theorem RunV.toW (t : Nat) (hc : convI f.P src dst = some .u32) (hx : ev S x = some (.int k p)) (hp : p = (t : Int)) : RunV f S h L (.convert src dst x) ty (.int .u32 ((t % 4294967296 : Nat) : Int)) := by
  have := RunV.conv (f := f) (h := h) (L := L) (ty := ty) hc hx
  rwa [hp, IntKind.wrap_u32, show ((t : Int) % 4294967296) = ((t % 4294967296 : Nat) : Int) from rfl] at this
theorem RunV.toWI (t : Nat) (hc : convI f.P src dst = some .u32) (hx : ev S x = some (.int k p)) (hp : p % 4294967296 = (t : Int)) : RunV f S h L (.convert src dst x) ty (.int .u32 (t : Int)) := by
  have := RunV.conv (f := f) (h := h) (L := L) (ty := ty) hc hx
  rwa [IntKind.wrap_u32, hp] at this
end
theorem natcmp_fn {a b : Option Addr} {ca cb : Nat} {l r : List UInt32} {h : Part} (hl : SlR u32R 1 h a ca l) (hr : SlR u32R 1 h b cb r) : Pure Tryz.prog 47 [.slice a l.length ca, .slice b r.length cb] h (.int .i64 (cmpI3 (vL l) (vL r))) := by
  have hll := hl.big
  have hrl := hr.big
  have t1 := tsz_le (d32 l) l.length
  have t2 := tsz_le (d32 r) r.length
  have e1 := tsz_nd l
  have e2 := tsz_nd r
  refine Fn.intro Tryz.func47 rfl Tryz.ntmps47 rfl (fun e he => ?_)
  refine J.weak [(0, _), (1, _)] ⟨rfl, rfl, trivial⟩ ?_
  refine Sr ?_
  refine Ru 1 rfl ?_
  refine JL.nil ?_
  refine Sr ?_
  refine Ru 1 rfl ?_
  refine JL.callP ca_84 rfl (natsize_fn (by assumption)) rfl ?_
  refine Ru 1 rfl ?_
  refine JL.callP ca_84 rfl (natsize_fn (by assumption)) rfl ?_
  refine Ru 2 rfl ?_
  refine JL.nil ?_
  refine J.seq ?_
  refine Sr ?_
  refine Ru 3 rfl ?_
  refine Nk [14, 6, 5, 4, 0, 1] rfl ?_
  refine Cs rfl (fun hc3 => ?_) fun hc3 => ?_
  ·
   refine J.seq ?_
   refine Sr ?_
   refine Ru 3 rfl ?_
   refine Nk [17, 5, 4, 0, 1] rfl ?_
   refine Cs rfl (fun hc4 => ?_) fun hc4 => ?_
   ·
    have hlt := nd_lt (m := vL l) (n := vL r) (by omega)
    refine Sr ?_
    refine Ru 1 rfl ?_
    refine JL.nil ?_
    exact J.retP (RetV.one rfl rfl) (by unfold cmpI3; rw [if_pos hlt]) rfl
   have hlt := nd_lt (m := vL r) (n := vL l) (by omega)
   refine J.skip ?_
   refine Sr ?_
   refine Ru 1 rfl ?_
   refine JL.nil ?_
   exact J.retP (RetV.one rfl rfl) (by unfold cmpI3; rw [if_neg (by omega), if_pos hlt]) rfl
  refine J.skip ?_
  refine J.seq ?_
  refine Sr ?_
  refine Ru 1 rfl ?_
  refine JL.op si_ rfl ?_
  refine Ru 1 rfl ?_
  refine Nk [7, 4, 0, 1] rfl ?_
  refine J.block ?_
  refine J.loop (fun t_ S_ h_ L_ => ∃ (j : Nat), t_ = j + 1 ∧ S_ = [(0, .slice a l.length ca), (1, .slice b r.length cb), (7, .int .i64 ((j : Int) - 1))] ∧ h = h_ ∧ L_ = [] ∧ (j ≤ tsz (d32 l) l.length ∧ vL l / 4294967296 ^ j = vL r / 4294967296 ^ j)) ⟨_, _, ?_, ⟨tsz (d32 l) l.length, rfl, rfl, rfl, rfl, ⟨Nat.le_refl _, by rw [e1, Nat.div_eq_of_lt (lt_nd _), show nd (vL l) = nd (vL r) by omega, Nat.div_eq_of_lt (lt_nd _)]⟩⟩⟩ ?_
  ·
   exact z2_
  rintro _ _ _ _ ⟨j, rfl, rfl, rfl, rfl, hj, he⟩
  refine J.seq ?_
  refine Sr ?_
  refine Ru 2 rfl ?_
  refine JL.nil ?_
  refine Cs rfl (fun hc5 => ?_) fun hc5 => ?_
  ·
   obtain ⟨i, rfl⟩ : ∃ i, j = i + 1 := ⟨j - 1, by omega⟩; have dl := div_low (vL l) i; have dr := div_low (vL r) i; rw [vL_digit] at dl dr; rw [he] at dl; have al := d32_at l i (by omega); have ar := d32_at r i (by omega)
   refine J.skip ?_
   refine J.seq ?_
   refine J.block ?_
   refine J.seq ?_
   refine J.drawn mixed_ (by kernel_rfl) ?_
   refine Rq 2 rfl ?_
   refine JQ.ope (RunE.index (m := i) sl_30 rfl rfl (by omega) hl rfl (by omega)) rfl ?_
   rintro _ ⟨b6, o6, hi6, rfl, hE6⟩
   refine JQ.op (RunV.ld_u32 ag_103 rfl (by assumption)) rfl ?_
   refine Rq 2 rfl ?_
   refine JQ.ope (RunE.index (m := i) sl_30 rfl rfl (by omega) hr rfl (by omega)) rfl ?_
   rintro _ ⟨b8, o8, hi8, rfl, hE8⟩
   refine JQ.op (RunV.ld_u32 ag_103 rfl (by assumption)) rfl ?_
   refine Rq 1 rfl ?_
   refine JQ.nil ?_
   refine Cs rfl (fun hc10 => ?_) fun hc10 => ?_
   ·
    refine J.seq ?_
    refine J.seq ?_
    refine J.drawn mixed_ (by kernel_rfl) ?_
    refine Rq 2 rfl ?_
    refine JQ.ope (RunE.index (m := i) sl_30 rfl rfl (by omega) hl rfl (by omega)) rfl ?_
    rintro _ ⟨b11, o11, hi11, rfl, hE11⟩
    refine JQ.op (RunV.ld_u32 ag_103 rfl (by assumption)) rfl ?_
    refine Rq 2 rfl ?_
    refine JQ.ope (RunE.index (m := i) sl_30 rfl rfl (by omega) hr rfl (by omega)) rfl ?_
    rintro _ ⟨b13, o13, hi13, rfl, hE13⟩
    refine JQ.op (RunV.ld_u32 ag_103 rfl (by assumption)) rfl ?_
    refine Rq 1 rfl ?_
    refine JQ.nil ?_
    refine Cs rfl (fun hc15 => ?_) fun hc15 => ?_
    ·
     have hlt := lt_of_div (x := vL l) (y := vL r) (d := 4294967296 ^ i) (by omega)
     refine Sr ?_
     refine Ru 1 rfl ?_
     refine JL.nil ?_
     exact J.retP (RetV.one rfl rfl) (by unfold cmpI3; rw [if_pos hlt]) rfl
    have hlt := lt_of_div (x := vL r) (y := vL l) (d := 4294967296 ^ i) (by omega)
    refine J.skip ?_
    refine Sr ?_
    refine Ru 1 rfl ?_
    refine JL.nil ?_
    exact J.retP (RetV.one rfl rfl) (by unfold cmpI3; rw [if_neg (by omega), if_pos hlt]) rfl
   refine J.skip ?_
   refine Rg ?_
   refine Ru 1 rfl ?_
   refine JL.op si_ rfl ?_
   refine Ru 1 rfl ?_
   refine JL.nil ?_
   refine ⟨_, ?_, _, ?_, ⟨i, rfl, rfl, rfl, rfl, ⟨by omega, by omega⟩⟩⟩
   ·
    omega
   exact z2_
  have hj0 : j = 0 := (by omega); rw [hj0, Nat.pow_zero, Nat.div_one, Nat.div_one] at he
  refine J.exit ?_
  refine Kp [] rfl ?_
  refine Sr ?_
  refine Ru 1 rfl ?_
  refine JL.nil ?_
  exact J.retP (RetV.one rfl rfl) (by unfold cmpI3; rw [if_neg (by omega), if_neg (by omega)]) rfl
theorem natOf_fn {n : Nat} {h : Part} (hn : n < 18446744073709551616) : FnR Tryz.prog 87 [.int .u64 n] h (fun v h' => ∃ a c, v = .slice a (toL n).length c ∧ SlR u32R 1 h' a c (toL n)) := by
  refine Fn.intro Tryz.func87 rfl Tryz.ntmps87 rfl (fun e he => ?_)
  refine J.weak [(0, _)] ⟨rfl, trivial⟩ ?_
  have hh0 := Part.le.refl h
  refine Sr ?_
  refine Ru 1 rfl ?_
  refine JL.nil ?_
  refine Sr ?_
  refine Ru 1 rfl ?_
  refine JL.op (RunV.toW n cv_63_103 rfl rfl) rfl ?_
  refine Ru 1 rfl ?_
  refine JL.op (RunV.shr_u64 4294967296 rfl rfl (by decide) (by decide) (by decide)) rfl ?_
  refine JL.op (RunV.toW (n / 4294967296) cv_63_103 rfl rfl) rfl ?_
  refine JL.lit1 ap_30 zr_103 rfl rfl rfl rfl rfl (fun b1 => ?_)
  refine JL.pubB (R := u32R) (sz := 1) (l := digN 2 n) dl_ ((show CellsR u32R 1 _ [.int .u32 ((n % 4294967296 : Nat) : Int), .int .u32 ((n / 4294967296 % 4294967296 : Nat) : Int)] (digN 2 n) from (show ws .u32 (digN 2 n) = [.int .u32 ((n % 4294967296 : Nat) : Int), .int .u32 ((n / 4294967296 % 4294967296 : Nat) : Int)] from by simp [ws, digN]) ▸ CellsR.of_ws32)) z7_ (fun h2 hle2 hQ => ?_)
  replace hh0 := hh0.mono hle2
  refine JL.callR ca_59 rfl (nattrim_fn' hQ (by rw [digN_len]) (by omega)) rfl ?_
  rintro _ h3 hle3 ⟨ra, rc, rfl, hR⟩
  replace hh0 := hh0.mono hle3
  replace hQ := hQ.mono hle3
  refine Ru 1 rfl ?_
  refine Nk [2] rfl ?_
  have hv : vL (digN 2 n) = n := (by rw [vL_digN]; exact Nat.mod_eq_of_lt (by simp only [Nat.reducePow]; omega)); rw [hv] at hR ⊢; exact J.retR (RetV.one rfl rfl) ⟨_, _, rfl, hR⟩
theorem mul_bound {x y i k : Nat} (hx : x < 4294967296 ^ i) (hy : y < 4294967296 ^ k) : x * y < 4294967296 ^ (i + k) := by
  rw [Nat.pow_add]
  exact Nat.mul_lt_mul'' hx hy
theorem vL_take_lt (l : List UInt32) (i : Nat) : vL (l.take i) < 4294967296 ^ i := by
  refine Nat.lt_of_lt_of_le (vL_lt _) (Nat.pow_le_pow_right (by decide) ?_)
  rw [List.length_take]; omega
theorem natmul_fn {a b : Option Addr} {ca cb : Nat} {l r : List UInt32} {h : Part} (hl : SlR u32R 1 h a ca l) (hr : SlR u32R 1 h b cb r) (hlb : l.length ≤ 100000) (hrb : r.length ≤ 100000) : FnR Tryz.prog 88 [.slice a l.length ca, .slice b r.length cb] h (fun v h' => ∃ a c, v = .slice a (toL (vL l * vL r)).length c ∧ SlR u32R 1 h' a c (toL (vL l * vL r))) := by
  have t1 := tsz_le (d32 l) l.length
  have t2 := tsz_le (d32 r) r.length
  have x1 : l.take (tsz (d32 l) l.length) = toL (vL l) := trim_toL l
  have x2 : r.take (tsz (d32 r) r.length) = toL (vL r) := trim_toL r
  have v1 : vL (toL (vL l)) = vL l := vL_toL _
  have v2 : vL (toL (vL r)) = vL r := vL_toL _
  have n1 : (toL (vL l)).length ≤ 100000 := by rw [toL_len, ← tsz_nd]; omega
  have n2 : (toL (vL r)).length ≤ 100000 := by rw [toL_len, ← tsz_nd]; omega
  refine Fn.intro Tryz.func88 rfl Tryz.ntmps88 rfl (fun e he => ?_)
  refine J.weak [(0, _), (1, _)] ⟨rfl, rfl, trivial⟩ ?_
  have hh0 := Part.le.refl h
  refine Sr ?_
  refine Ru 1 rfl ?_
  refine JL.nil ?_
  refine J.seq ?_
  refine J.drawn mixed_ (by kernel_rfl) ?_
  refine Rq 2 rfl ?_
  refine JQ.callP ca_84 rfl (natsize_fn (by assumption)) rfl ?_
  refine JQ.ope (RunE.cut_h sl_30 (m := tsz (d32 l) l.length) rfl rfl rfl hl rfl (by omega)) rfl ?_
  rintro _ ⟨a8, c8, rfl, hA⟩
  rw [x1] at hA ⊢; generalize toL (vL l) = A at *
  refine Rq 2 rfl ?_
  refine JQ.callP ca_84 rfl (natsize_fn (by assumption)) rfl ?_
  refine JQ.ope (RunE.cut_h sl_30 (m := tsz (d32 r) r.length) rfl rfl rfl hr rfl (by omega)) rfl ?_
  rintro _ ⟨a9, c9, rfl, hB⟩
  rw [x2] at hB ⊢; generalize toL (vL r) = B at *; rw [← v1, ← v2]
  refine Rq 2 rfl ?_
  refine Nq [1, 0, 4] rfl ?_
  refine Sr ?_
  refine Ru 4 rfl ?_
  refine JL.op ai_ rfl ?_
  refine JL.make1 mk_30 rfl rfl (m := A.length + B.length) (by omega) (by omega) (by omega) rfl rfl (fun b1 => ?_); rw [ws_zero]
  refine Ru 1 rfl ?_
  refine Nk [5, 1, 0, 4] rfl ?_
  refine J.seq ?_
  refine Sr ?_
  refine Ru 3 rfl ?_
  refine JL.nil ?_
  refine J.block ?_
  refine J.loop (fun t_ S_ h_ L_ => ∃ (i : Nat) (out : List UInt32), t_ = A.length - i ∧ S_ = [(1, .slice a9 B.length c9), (5, .slice (some ⟨b1, 0, none⟩) (A.length + B.length) (A.length + B.length)), (25, .slice a8 A.length c8), (26, .int .i64 A.length), (27, .int .i64 i)] ∧ h = h_ ∧ L_ = [.row (some ⟨b1, 0, none⟩) (A.length + B.length) 103 1 (A.length + B.length) (ws .u32 out)] ∧ (i ≤ A.length ∧ out.length = A.length + B.length ∧ vL out = vL (A.take i) * vL B)) ⟨_, _, ?_, ⟨0, _, rfl, rfl, rfl, rfl, ⟨by omega, digN_len _ _, by rw [vL_digN]; simp [vL]⟩⟩⟩ ?_
  ·
   exact z5_
  rintro _ _ _ _ ⟨i, out, rfl, rfl, rfl, rfl, hi, hol, hv⟩
  refine Sr ?_
  refine Ru 1 rfl ?_
  refine JL.nil ?_
  refine J.seq ?_
  refine Cs rfl (fun hc6 => ?_) fun hc6 => ?_
  ·
   have hi' : i < A.length := (by omega); have hz := vL_zero_above (l := out) (m := i + B.length) (by rw [hv]; exact mul_bound (vL_take_lt A i) (vL_lt B)) (i + B.length) (Nat.le_refl _); have hai := d32_lt A i
   refine J.skip ?_
   refine J.seq ?_
   refine J.block ?_
   refine Sr ?_
   refine Ru 1 rfl ?_
   refine JL.ope (RunE.index sl_30 rfl rfl z8_ (by assumption) rfl (by omega)) rfl ?_
   rintro _ ⟨b7, o7, hi7, rfl, hE7⟩
   refine JL.op (RunV.ld_u32 ag_103 rfl (by assumption)) rfl ?_
   rw [d32_at]
   refine Ru 2 rfl ?_
   refine JL.nil ?_
   refine Sr ?_
   refine Ru 1 rfl ?_
   refine JL.nil ?_
   refine J.seq ?_
   refine Sr ?_
   refine Ru 3 rfl ?_
   refine JL.nil ?_
   refine J.block ?_
   refine J.loop (fun t_ S_ h_ L_ => ∃ (k c : Nat) (o2 : List UInt32), t_ = B.length - k ∧ S_ = [(1, .slice a9 B.length c9), (5, .slice (some ⟨b1, 0, none⟩) (A.length + B.length) (A.length + B.length)), (6, .int .i64 i), (7, .int .u32 (d32 A i : Nat)), (8, .int .u64 c), (25, .slice a8 A.length c8), (26, .int .i64 A.length), (27, .int .i64 i), (32, .slice a9 B.length c9), (33, .int .i64 B.length), (34, .int .i64 k)] ∧ h = h_ ∧ L_ = [.row (some ⟨b1, 0, none⟩) (A.length + B.length) 103 1 (A.length + B.length) (ws .u32 o2)] ∧ (k ≤ B.length ∧ o2.length = A.length + B.length ∧ c < 4294967296 ∧ d32 o2 (i + B.length) = 0 ∧ vL o2 + c * 4294967296 ^ (i + k) = vL out + d32 A i * vL (B.take k) * 4294967296 ^ i)) ⟨_, _, ?_, ⟨0, 0, out, rfl, rfl, rfl, rfl, ⟨by omega, hol, by omega, hz, by simp [vL]⟩⟩⟩ ?_
   ·
    exact z2_
   rintro _ _ _ _ ⟨k, c, o2, rfl, rfl, rfl, rfl, hk, ho2, hc, hz2, hv2⟩
   refine Sr ?_
   refine Ru 1 rfl ?_
   refine JL.nil ?_
   refine J.seq ?_
   refine Cs rfl (fun hc9 => ?_) fun hc9 => ?_
   ·
    have hk' : k < B.length := (by omega); have hbk := d32_lt B k; have hdo := d32_lt o2 (i + k); have hcl := carry_lt hc hai hbk hdo; have hst := mul_step (b := B) hk' (by omega) hv2
    refine J.skip ?_
    refine J.seq ?_
    refine J.block ?_
    refine Sr ?_
    refine Ru 1 rfl ?_
    refine JL.ope (RunE.index sl_30 rfl rfl z8_ (by assumption) rfl (by omega)) rfl ?_
    rintro _ ⟨b10, o10, hi10, rfl, hE10⟩
    refine JL.op (RunV.ld_u32 ag_103 rfl (by assumption)) rfl ?_
    rw [d32_at]
    refine Ru 2 rfl ?_
    refine JL.nil ?_
    refine Sr ?_
    refine Ru 2 rfl ?_
    refine JL.op z9_ rfl ?_
    refine Ru 1 rfl ?_
    refine JL.op z9_ rfl ?_
    refine JL.op (RunV.mul_u64 rfl rfl z30_ z30_) rfl ?_
    refine Ru 3 rfl ?_
    refine JL.op ai_ rfl ?_
    refine JL.op (RunV.index_at sl_30 (m := i + k) rfl rfl (by omega) (by omega)) rfl ?_
    refine JL.op (RunV.wload ag_103 rfl mm_ (by omega)) rfl ?_
    refine JL.op (RunV.conv_u64 cv_103_63 rfl (by omega) (by omega)) rfl ?_
    refine JL.op (RunV.add_u64 rfl rfl z30_ z30_) rfl ?_
    refine JL.op (RunV.add_u64 rfl rfl z30_ z30_) rfl ?_
    rw [show (c : Int) + ((d32 A i : Int) * (d32 B k : Int) + (d32 o2 (i + k) : Int)) = ((c + d32 A i * d32 B k + d32 o2 (i + k) : Nat) : Int) from by rw [Int.natCast_add, Int.natCast_add, Int.natCast_mul, Int.add_assoc]]
    refine Ru 1 rfl ?_
    refine JL.nil ?_
    refine Sr ?_
    refine Ru 3 rfl ?_
    refine JL.op ai_ rfl ?_
    refine Ru 1 rfl ?_
    refine JL.op (RunV.toW (c + d32 A i * d32 B k + d32 o2 (i + k)) cv_63_103 rfl rfl) rfl ?_
    refine JL.op (RunV.index_at sl_30 (m := i + k) rfl rfl (by omega) (by omega)) rfl ?_
    refine JL.storeW (c + d32 A i * d32 B k + d32 o2 (i + k)) ag_103 rfl rfl rfl dl_ (by omega) ?_
    refine JL.nil ?_
    refine Rg ?_
    refine Ru 1 rfl ?_
    refine JL.op (RunV.shr_u64 4294967296 rfl rfl (by decide) (by decide) (by decide)) rfl ?_
    refine Ru 1 rfl ?_
    refine JL.nil ?_
    refine Rg ?_
    refine JL.op ai_ rfl ?_
    refine Ru 1 rfl ?_
    refine JL.nil ?_
    refine ⟨_, ?_, _, ?_, ⟨k + 1, (c + d32 A i * d32 B k + d32 o2 (i + k)) / 4294967296, _, rfl, rfl, rfl, rfl, ⟨by omega, by rw [List.length_set]; exact ho2, by omega, by rw [d32_set _ _ _ _ (by omega), if_neg (by omega)]; exact hz2, hst⟩⟩⟩
    ·
     omega
    exact z2_
   have hke : k = B.length := (by omega); subst hke; have hrow := mul_row hi' (by omega) hz2 hc hv hv2
   refine J.exit ?_
   refine Rg ?_
   refine Ru 4 rfl ?_
   refine JL.op ai_ rfl ?_
   refine Ru 1 rfl ?_
   refine JL.op (RunV.toW c cv_63_103 rfl rfl) rfl ?_
   refine JL.op (RunV.index_at sl_30 (m := i + B.length) rfl rfl (by omega) (by omega)) rfl ?_
   refine JL.storeW c ag_103 rfl rfl rfl dl_ (by omega) ?_
   refine JL.nil ?_
   refine Rg ?_
   refine JL.op ai_ rfl ?_
   refine Ru 1 rfl ?_
   refine JL.nil ?_
   refine ⟨_, ?_, _, ?_, ⟨i + 1, _, rfl, rfl, rfl, rfl, ⟨by omega, by rw [List.length_set]; exact ho2, hrow⟩⟩⟩
   ·
    omega
   exact z5_
  have hie : i = A.length := (by omega); rw [hie, List.take_length] at hv
  refine J.exit ?_
  refine Kp [5] rfl ?_
  refine Sr ?_
  refine Ru 1 rfl ?_
  refine JL.pub32 dl_ hol.symm (by omega) (fun h9 hle9 hP9 => ?_); replace hh0 := hh0.mono hle9; replace hl := hl.mono hle9; replace hr := hr.mono hle9; replace hA := hA.mono hle9; replace hB := hB.mono hle9
  refine JL.callR ca_59 rfl (nattrim_fn' hP9 hol.symm (by omega)) rfl ?_
  rintro _ h14 hle14 ⟨ra, rc, rfl, hR⟩
  replace hl := hl.mono hle14
  replace hr := hr.mono hle14
  replace hh0 := hh0.mono hle14
  replace hA := hA.mono hle14
  replace hB := hB.mono hle14
  refine Ru 1 rfl ?_
  refine JL.nil ?_
  rw [hv] at hR ⊢; exact J.retR (RetV.one rfl rfl) ⟨_, _, rfl, hR⟩
end Go.Proofs.YtmngjbefnloljaaGreatDoor
namespace Go.Proofs.YtmngjbefnloljaaGreatDoor
open Go Go.RowKit
theorem z6_ {p : Prop} (u : p := by repeat (first | exact trivial | refine ⟨rfl, ?_⟩ | refine ⟨(by exact some_bool (by first | exact decide_eq_decide.2 (by omega) | exact (decide_eq_false (by omega)).symm | exact (decide_eq_true (by omega)).symm)), ?_⟩)) : p := u
theorem z37_ {p : Prop} (u : p := by first | exact RunV.conv_i64 cv_103_2 rfl (by omega) (by omega) | exact RunV.convw_i64 cv_103_2 rfl | exact RunV.conv cv_103_2 rfl) : p := u
end Go.Proofs.YtmngjbefnloljaaGreatDoor
namespace Go.Proofs.YtmngjbefnloljaaGreatDoor
open Go Go.RowKit
set_option maxRecDepth 100000
theorem cv_103_2 : convI Tryz.prog 103 2 = some .i64 := by kernel_rfl
theorem cv_2_103 : convI Tryz.prog 2 103 = some .u32 := by kernel_rfl
theorem cv_63_2 : convI Tryz.prog 63 2 = some .i64 := by kernel_rfl
theorem jx_at {l : Nat} {K : Post} {x : Nat → Post} {S : Sig} {h : Part} {L : List Ent} (k : K S h L) : jx l K x (l + 1000000) S h L := by
  unfold jx
  have hb : Nat.beq (l + 1000000) (l + 1000000) = true := Nat.beq_refl _
  rw [hb]; exact k
theorem g_dec {Q gg v1 v2 rr top u2 S T : Nat} (hS : S = v1 * 4294967296 + v2) (hT : T = top * 4294967296 + u2) (h1 : gg * v1 + rr = top) (hQ : Q * S ≤ T) (hQB : Q < 4294967296) (hc : 4294967296 ≤ gg ∨ rr * 4294967296 + u2 < gg * v2) : Q + 1 ≤ gg := by
  rcases hc with hc | hc
  · omega
  · have h2 : gg * S = gg * v1 * 4294967296 + gg * v2 := by rw [hS, Nat.mul_add, Nat.mul_assoc]
    have h3 : T < gg * S := by
      rw [h2, hT, ← h1, Nat.add_mul, Nat.add_assoc]
      exact Nat.add_lt_add_left hc _
    have h4 : Q * S < gg * S := Nat.lt_of_le_of_lt hQ h3
    have h5 : Q < gg := Nat.lt_of_mul_lt_mul_right h4
    omega
theorem g_init {Q v1 v2 top u2 S T : Nat} (hS : S = v1 * 4294967296 + v2) (hT : T = top * 4294967296 + u2) (hQ : Q * S ≤ T) (hu : u2 < 4294967296) : Q * v1 ≤ top := by
  have h2 : Q * S = Q * v1 * 4294967296 + Q * v2 := by rw [hS, Nat.mul_add, Nat.mul_assoc]
  omega
theorem g_fin1 {gg v1 v2 rr top u2 S T : Nat} (hS : S = v1 * 4294967296 + v2) (hT : T = top * 4294967296 + u2) (h1 : gg * v1 + rr = top) (hc : ¬ (4294967296 ≤ gg ∨ rr * 4294967296 + u2 < gg * v2)) : gg < 4294967296 ∧ gg * S ≤ T := by
  have h2 : gg * S = gg * v1 * 4294967296 + gg * v2 := by rw [hS, Nat.mul_add, Nat.mul_assoc]
  refine ⟨by omega, ?_⟩
  rw [h2, hT, ← h1, Nat.add_mul]; omega
theorem g_fin2 {gg v1 v2 rr top u2 S T : Nat} (hS : S = v1 * 4294967296 + v2) (hT : T = top * 4294967296 + u2) (h1 : gg * v1 + rr = top) (hv2 : v2 < 4294967296) (hr : 4294967296 ≤ rr) (ht : top < (v1 + 1) * 4294967296) : gg < 4294967296 ∧ gg * S ≤ T := by
  have h2 : gg * S = gg * v1 * 4294967296 + gg * v2 := by rw [hS, Nat.mul_add, Nat.mul_assoc]
  have hg : gg < 4294967296 := by
    rcases Nat.lt_or_ge gg 4294967296 with h | h
    · exact h
    · have := Nat.mul_le_mul_right v1 h; omega
  refine ⟨hg, ?_⟩
  have h3 : gg * v2 ≤ 4294967295 * 4294967295 := Nat.mul_le_mul (by omega) (by omega)
  rw [h2, hT, ← h1, Nat.add_mul]; omega
theorem top_bound {w V k q : Nat} (hw : w < V * 4294967296 ^ (k + 1)) : w / 4294967296 ^ (k + (q + 1)) < (V / 4294967296 ^ (q + 1) + 1) * 4294967296 := by
  have hB : 0 < 4294967296 ^ (q + 1) := Nat.pow_pos (by decide)
  have h2 : V ≤ (V / 4294967296 ^ (q + 1) + 1) * 4294967296 ^ (q + 1) := by
    have := Nat.lt_div_mul_add hB (a := V)
    rw [Nat.add_mul]; omega
  refine Nat.div_lt_of_lt_mul (Nat.lt_of_lt_of_le hw (Nat.le_trans (Nat.mul_le_mul_right _ h2) (Nat.le_of_eq ?_)))
  rw [Nat.pow_add 4294967296 k 1, Nat.pow_add 4294967296 k (q + 1)]
  grind
theorem dq_lt {w V k : Nat} (hw : w < V * 4294967296 ^ (k + 1)) : w / (V * 4294967296 ^ k) < 4294967296 := by
  refine Nat.div_lt_of_lt_mul (Nat.lt_of_lt_of_le hw (Nat.le_of_eq ?_))
  rw [Nat.pow_succ]; grind
section
variable {f : Fr} {S : Sig} {h : Part} {L : List Ent} {ty T : TypeId} {xo lo hi : Operand}
theorem RunV.window {e g ln c k m : Nat} {k1 k2 : IntKind} {i j : Int} (hT : slT f.P T = some (e, 1)) (hx : ev S xo = some (.slice (some ⟨g, 0, none⟩) ln c)) (hl : ev S lo = some (.int k1 i)) (hh : ev S hi = some (.int k2 j)) (hi' : i = (k : Int)) (hj : j = (m : Int)) (h1 : k ≤ m) (h2 : m ≤ c) (h3 : k < c) :
    RunV f S h L (.slice T xo (some lo) (some hi) none) ty (.slice (some ⟨g, k, none⟩) (m - k) (c - k)) := fun ac w s _ _ _ _ => by
  subst hi' hj
  obtain ⟨hu, inf, hi', hs⟩ := slT_spec hT
  have e1 : (k : Int) ≤ m := by omega
  have e2 : (m : Int) ≤ c := by omega
  have e3 : ¬ (c = k) := by omega
  simp [execOp, s.eval hx, s.eval hl, s.eval hh, Instr.sliceAt, Instr.slice, run_underlying hu, Instr.sliceBounds, Instr.sliceBound, asIntOf, sizeOf, typeInfo, hi', hs, e1, e2, h1, h2, e3, Addr.add_lit]
end
set_option maxHeartbeats 2000000 in
theorem natstep_fn {g k q cw cr N w : Nat} {av : Option Addr} {cv : Nat} {l : List UInt32} {h : Part} (hl : SlR u32R 1 h av cv l) (hn : l.length = q + 2) (hV : 4294967296 ^ (q + 1) ≤ vL l) (hw : w < vL l * 4294967296 ^ (k + 1)) (hk : k + (q + 2) < N) (hN : N ≤ 1000000) :
    Fn Tryz.prog 123 [.slice (some ⟨g, k, none⟩) (q + 3) cw, .slice av l.length cv] h [.row (some ⟨g, 0, none⟩) cr 103 1 N (ws .u32 (digN N w))]
      (Rets fun v _ Lo => v = .int .u32 ((w / (vL l * 4294967296 ^ k) : Nat) : Int) ∧ Lo = [.row (some ⟨g, 0, none⟩) cr 103 1 N (ws .u32 (digN N (w % (vL l * 4294967296 ^ k))))]) := by
  have hVlt : vL l < 4294967296 ^ (q + 2) := hn ▸ vL_lt l
  have hV0 : 0 < vL l := Nat.lt_of_lt_of_le (Nat.pow_pos (by decide)) hV
  have hwB : w < 4294967296 ^ (k + (q + 2) + 1) := by
    refine Nat.lt_of_lt_of_le hw ?_
    rw [show k + (q + 2) + 1 = (q + 2) + (k + 1) by omega, Nat.pow_add 4294967296 (q + 2) (k + 1)]
    exact Nat.mul_le_mul_right _ (Nat.le_of_lt hVlt)
  have hdig : ∀ j, j < N → d32 (digN N w) j = w / 4294967296 ^ j % 4294967296 := fun j hj => digN_at N w j hj
  have hlow := div_low w (k + q)
  have hlow1 := div_low w (k + (q + 1))
  have hS := div_low (vL l) q
  rw [vL_digit] at hS
  rw [← hdig (k + q) (by omega)] at hlow
  rw [show k + (q + 1) + 1 = k + (q + 2) by omega, ← hdig (k + (q + 1)) (by omega)] at hlow1
  rw [show k + q + 1 = k + (q + 1) by omega] at hlow
  have htopd : d32 (digN N w) (k + (q + 2)) = w / 4294967296 ^ (k + (q + 2)) := by
    rw [hdig _ (by omega)]
    exact Nat.mod_eq_of_lt (Nat.div_lt_of_lt_mul (by rw [Nat.pow_succ] at hwB; exact hwB))
  have hv1 : d32 l (q + 1) = vL l / 4294967296 ^ (q + 1) := by
    rw [← vL_digit]
    exact Nat.mod_eq_of_lt (Nat.div_lt_of_lt_mul (by rw [Nat.pow_succ 4294967296 (q + 1)] at hVlt; exact hVlt))
  have hv10 : 0 < d32 l (q + 1) := by rw [hv1]; exact Nat.div_pos hV (Nat.pow_pos (by decide))
  have hgl := guess_lo w (vL l) k q hV0
  have htb := top_bound (q := q) hw
  have hqB := dq_lt hw
  have b1 := d32_lt l (q + 1); have b2 := d32_lt l q; have b3 := d32_lt (digN N w) (k + (q + 2)); have b4 := d32_lt (digN N w) (k + (q + 1)); have b5 := d32_lt (digN N w) (k + q)
  have hzD : ∀ j, k + (q + 2) < j → d32 (digN N w) j = 0 := fun j hj => vL_zero_above (m := k + (q + 2) + 1) (by rw [vL_digN]; exact Nat.lt_of_le_of_lt (Nat.mod_le _ _) hwB) j (by omega)
  have hvw : vL (digN N w) = w := by rw [vL_digN]; exact Nat.mod_eq_of_lt (Nat.lt_of_lt_of_le hwB (Nat.pow_le_pow_right (by decide) (by omega)))
  have hdl : (digN N w).length = N := digN_len _ _
  have hD0 : 0 < vL l * 4294967296 ^ k := Nat.mul_pos hV0 (Nat.pow_pos (by decide))
  have ea1 := d32_at l (q + 1) (by omega)
  have ea0 := d32_at l q (by omega)
  rw [← hv1] at hS htb
  generalize hQ : w / (vL l * 4294967296 ^ k) = Q at *
  obtain ⟨top, htop⟩ : ∃ top, top = w / 4294967296 ^ (k + (q + 1)) := ⟨_, rfl⟩
  rw [← htop] at hlow hlow1 htb
  rw [htopd] at b3
  refine Fn.intro Tryz.func123 rfl Tryz.ntmps123 rfl (fun e he => ?_)
  refine J.weak [(0, _), (1, _)] ⟨rfl, rfl, trivial⟩ ?_
  refine Sr ?_
  refine Ru 1 rfl ?_
  refine JL.nil ?_
  refine J.scope 0 (fun t_ S_ h_ L_ => ∃ (gg rr : Nat), t_ = gg + 1 ∧ S_ = [(0, .slice (some ⟨g, k, none⟩) (q + 3) cw), (1, .slice av l.length cv), (5, .int .i64 l.length), (7, .int .u64 gg), (8, .int .u64 rr)] ∧ h = h_ ∧ L_ = [.row (some ⟨g, 0, none⟩) cr 103 1 N (ws .u32 (digN N w))] ∧ (gg * d32 l (q + 1) + rr = top ∧ rr < 4294967296 ∧ Q ≤ gg ∧ gg ≤ top)) rfl (fun _ _ _ _ hh => hh) ?_ (fun again => ?_)
  ·
   rintro _ _ _ _ ⟨gg, rr, rfl, rfl, rfl, rfl, hgr, hrr, hQg, hgt⟩
   have hgv : gg < 4294967296 → gg * d32 l q ≤ 18446744065119617025 := (fun hh => Nat.mul_le_mul (show gg ≤ 4294967295 by omega) (show d32 l q ≤ 4294967295 by omega)); have ea0 := d32_at l q (by omega); have ea1 := d32_at l (q + 1) (by omega)
   refine J.seq ?_
   refine J.seq ?_
   refine J.meet [(69, .bool (decide (4294967296 ≤ gg ∨ rr * 4294967296 + d32 (digN N w) (k + q) < gg * d32 l q)))] [(0, _), (1, _), (5, _), (7, _), (8, _)] ⟨rfl, rfl, rfl, rfl, rfl, trivial⟩ ?_ ?_
   ·
    refine J.drawn mixed_ (by kernel_rfl) ?_
    refine Rq 1 rfl ?_
    refine JQ.op (RunV.shr_u64 4294967296 rfl rfl (by decide) (by decide) (by decide)) rfl ?_
    refine Rq 2 rfl ?_
    refine Bq 50 rfl (fun hc1 => ?_) fun hc1 => ?_
    ·
     refine Rq 19 rfl ?_
     refine JQ.nil ?_
     refine ⟨rfl, rfl, ?_⟩
     exact z6_
    refine Rq 3 rfl ?_
    refine JQ.opg rfl rfl  si_ rfl ?_
    refine JQ.opeg rfl rfl  (RunE.index (m := q) sl_30 rfl rfl (by omega) hl rfl (by omega)) rfl ?_
    rintro _ ⟨b2, o2, hi2, rfl, hE2⟩
    refine JQ.opg rfl rfl  (RunV.ld_u32 ag_103 rfl (by assumption)) rfl ?_
    rw [ea0]
    refine JQ.opg rfl rfl  z9_ rfl ?_
    refine JQ.opg rfl rfl  (RunV.mul_u64 rfl rfl z30_ (by rw [← Int.natCast_mul]; have := hgv (by omega); omega)) rfl ?_
    rw [← Int.natCast_mul]
    refine Rq 1 rfl ?_
    refine JQ.opg rfl rfl  (RunV.shl_u64 4294967296 rfl rfl (by decide) (by decide) (by decide) (by omega) (by omega)) rfl ?_
    refine Rq 2 rfl ?_
    refine JQ.opg rfl rfl  si_ rfl ?_
    refine JQ.opg rfl rfl  (RunV.index_off sl_30 (m := q) rfl rfl (by omega) (by omega)) rfl ?_
    refine JQ.opg rfl rfl  (RunV.wload ag_103 rfl mm_ (by omega)) rfl ?_
    refine JQ.opg rfl rfl  z9_ rfl ?_
    refine JQ.opg rfl rfl  (RunV.join_u64 32 4294967296 rfl rfl (by decide) (by omega) (by omega) (by omega) (by omega) (by omega) (by omega)) rfl ?_
    refine Rq 2 rfl ?_
    refine JQ.nil ?_
    refine ⟨rfl, rfl, ?_⟩
    exact z6_
   refine Cs rfl (fun hc4 => ?_) fun hc4 => ?_
   ·
    have hdec := g_dec hS hlow hgr hgl hqB hc4; have hgm : (gg - 1) * d32 l (q + 1) + d32 l (q + 1) = gg * d32 l (q + 1) := (by rw [← Nat.succ_mul]; congr 1; omega)
    refine Sr ?_
    refine Ru 1 rfl ?_
    refine JL.op z33_ rfl ?_
    rw [show (gg : Int) - 1 = ((gg - 1 : Nat) : Int) by omega]
    refine Ru 1 rfl ?_
    refine JL.nil ?_
    refine Sr ?_
    refine Ru 3 rfl ?_
    refine JL.op si_ rfl ?_
    refine JL.ope (RunE.index (m := q + 1) sl_30 rfl rfl (by omega) hl rfl (by omega)) rfl ?_
    rintro _ ⟨b5, o5, hi5, rfl, hE5⟩
    refine JL.op (RunV.ld_u32 ag_103 rfl (by assumption)) rfl ?_
    rw [ea1]
    refine JL.op z9_ rfl ?_
    refine JL.op z20_ rfl ?_
    rw [← Int.natCast_add]
    refine Ru 1 rfl ?_
    refine JL.nil ?_
    refine Sr ?_
    refine Ru 1 rfl ?_
    refine JL.op (RunV.shr_u64 4294967296 rfl rfl (by decide) (by decide) (by decide)) rfl ?_
    refine Ru 1 rfl ?_
    refine JL.nil ?_
    refine Cs rfl (fun hc7 => ?_) fun hc7 => ?_
    ·
     refine J.goto (jx_at (l := 0) (Again.mk _ ?_ _ ?_ ⟨gg - 1, rr + d32 l (q + 1), rfl, rfl, rfl, rfl, ⟨by omega, by omega, by omega, by omega⟩⟩))
     ·
      omega
     exact z5_
    obtain ⟨hGB, hGT⟩ := g_fin2 (gg := gg - 1) (rr := rr + d32 l (q + 1)) hS hlow (by omega) b2 (by omega) htb; obtain ⟨G, hG⟩ : ∃ G, G = gg - 1 := ⟨_, rfl⟩; rw [← hG] at hGB hGT ⊢; have hGQ : Q ≤ G := (by omega); have hG1 := guess_hi w (vL l) k q G hGB hGT hV; rw [hQ] at hG1
    refine J.skip ?_
    refine Sr ?_
    refine Ru 1 rfl ?_
    refine JL.nil ?_
    refine Sr ?_
    refine Ru 1 rfl ?_
    refine JL.nil ?_
    refine J.seq ?_
    refine Sr ?_
    refine Ru 2 rfl ?_
    refine JL.nil ?_
    refine J.block ?_
    refine J.loop (fun t_ S_ h_ L_ => ∃ (i c b : Nat) (U : List UInt32), t_ = q + 2 - i ∧ S_ = [(0, .slice (some ⟨g, k, none⟩) (q + 3) cw), (1, .slice av l.length cv), (5, .int .i64 l.length), (7, .int .u64 G), (9, .int .i64 b), (10, .int .u64 c), (83, .int .i64 l.length), (84, .int .i64 i)] ∧ h = h_ ∧ L_ = [.row (some ⟨g, 0, none⟩) cr 103 1 N (ws .u32 U)] ∧ (i ≤ q + 2 ∧ U.length = N ∧ c < 4294967296 ∧ b ≤ 1 ∧ (∀ j, k + i ≤ j → d32 U j = d32 (digN N w) j) ∧ vL U + G * vL (l.take i) * 4294967296 ^ k = w + (c + b) * 4294967296 ^ (k + i))) ⟨_, _, ?_, ⟨0, 0, 0, digN N w, rfl, rfl, rfl, rfl, ⟨by omega, hdl, by omega, by omega, fun _ _ => rfl, by rw [hvw]; simp [vL]⟩⟩⟩ ?_
    ·
     exact z2_
    rintro _ _ _ _ ⟨i, c, b, U, rfl, rfl, rfl, rfl, hi, hUl, hc, hb, hUj, hv⟩
    refine Sr ?_
    refine Ru 1 rfl ?_
    refine JL.nil ?_
    refine J.seq ?_
    refine Cs rfl (fun hc8 => ?_) fun hc8 => ?_
    ·
     have hi' : i < q + 2 := (by omega); have bi := d32_lt l i; have bu := d32_lt U (k + i); have hCl := carry_lt hc hGB bi (show 0 < 4294967296 by decide); obtain ⟨C, hC⟩ : ∃ C, C = c + G * d32 l i := ⟨_, rfl⟩; have hC64 : C < 18446744073709551616 := (by omega); have ei := d32_at l i (by omega); obtain ⟨dd, hdd⟩ : ∃ dd : Int, dd = (d32 U (k + i) : Int) - b - ((C % 4294967296 : Nat) : Int) := ⟨_, rfl⟩; have hdr : -4294967296 ≤ dd ∧ dd ≤ 4294967295 := (by omega); obtain ⟨r, hr⟩ : ∃ r : Nat, dd % 4294967296 = (r : Int) := ⟨(dd % 4294967296).toNat, by omega⟩; obtain ⟨ee, hee, he1⟩ : ∃ e : Nat, (e : Int) = -(dd / 4294967296) ∧ e ≤ 1 := ⟨(-(dd / 4294967296)).toNat, by omega, by omega⟩; have hrB : r < 4294967296 := (by omega); have hre : d32 U (k + i) + ee * 4294967296 = b + C % 4294967296 + r := (by omega); rw [hC] at hre; have hst := sub_step (g := G) (by omega) hv hrB hre; rw [← hC] at hst hre
     refine J.skip ?_
     refine J.seq ?_
     refine J.block ?_
     refine Sr ?_
     refine Ru 2 rfl ?_
     refine JL.nil ?_
     refine Sr ?_
     refine Ru 4 rfl ?_
     refine JL.ope (RunE.index sl_30 rfl rfl z8_ (by assumption) rfl (by omega)) rfl ?_
     rintro _ ⟨b9, o9, hi9, rfl, hE9⟩
     refine JL.op (RunV.ld_u32 ag_103 rfl (by assumption)) rfl ?_
     rw [ei]
     refine JL.op z9_ rfl ?_
     refine JL.op (RunV.mul_u64 rfl rfl z30_ z30_) rfl ?_
     refine JL.op (RunV.add_u64 rfl rfl z30_ z30_) rfl ?_
     rw [show (c : Int) + (G : Int) * (d32 l i : Int) = (C : Int) by rw [hC, Int.natCast_add, Int.natCast_mul]]
     refine Ru 1 rfl ?_
     refine JL.nil ?_
     refine Sr ?_
     refine Ru 2 rfl ?_
     refine JL.op (RunV.index_off sl_30 (m := i) rfl rfl (by omega) (by omega)) rfl ?_
     refine JL.op (RunV.wload ag_103 rfl mm_ (by omega)) rfl ?_
     refine JL.op z37_ rfl ?_
     refine Ru 1 rfl ?_
     refine JL.op si_ rfl ?_
     refine Ru 1 rfl ?_
     refine JL.op (RunV.toW C cv_63_103 rfl rfl) rfl ?_
     refine JL.op z37_ rfl ?_
     refine JL.op si_ rfl ?_
     rw [← hdd]
     refine Ru 1 rfl ?_
     refine JL.nil ?_
     refine Sr ?_
     refine Ru 1 rfl ?_
     refine JL.op (RunV.shr_u64 4294967296 rfl rfl (by decide) (by decide) (by decide)) rfl ?_
     refine Ru 1 rfl ?_
     refine JL.nil ?_
     refine Sr ?_
     refine Ru 3 rfl ?_
     refine JL.op (RunV.toWI r cv_2_103 rfl hr) rfl ?_
     refine JL.op (RunV.index_off sl_30 (m := i) rfl rfl (by omega) (by omega)) rfl ?_
     refine JL.storeW (r) ag_103 rfl rfl (by rw [Nat.mod_eq_of_lt hrB]) dl_ (by omega) ?_
     refine JL.nil ?_
     refine Rg ?_
     refine Ru 1 rfl ?_
     refine JL.op (RunV.shr_i64 4294967296 rfl rfl (by decide) (by decide) (by decide)) rfl ?_
     refine JL.op (RunV.neg rfl) rfl ?_
     rw [show IntKind.i64.wrap (-(dd / 4294967296)) = (ee : Int) from by rw [wrap_i64 _ (by omega) (by omega)]; omega]
     refine Ru 1 rfl ?_
     refine JL.nil ?_
     refine Rg ?_
     refine JL.op ai_ rfl ?_
     refine Ru 1 rfl ?_
     refine JL.nil ?_
     refine ⟨_, ?_, _, ?_, ⟨i + 1, C / 4294967296, ee, U.set (k + i) (UInt32.ofNat r), rfl, rfl, rfl, rfl, ⟨by omega, by rw [List.length_set]; exact hUl, by omega, by omega, fun j hj => by rw [d32_set _ _ _ _ (by omega), if_neg (by omega)]; exact hUj j (by omega), hst⟩⟩⟩
     ·
      omega
     exact z2_
    have hie : i = q + 2 := (by omega); subst hie; rw [List.take_of_length_le (by omega), Nat.mul_assoc] at hv; have hun := hUj (k + (q + 2)) (Nat.le_refl _); have bu := d32_lt U (k + (q + 2)); have hUz : ∀ j, k + (q + 2) < j → d32 U j = 0 := (fun j hj => by rw [hUj j (by omega)]; exact hzD j hj); obtain ⟨dd, hdd⟩ : ∃ dd : Int, dd = (d32 U (k + (q + 2)) : Int) - b - c := ⟨_, rfl⟩; have hdr : -4294967296 ≤ dd ∧ dd ≤ 4294967295 := (by omega); obtain ⟨r, hr⟩ : ∃ r : Nat, dd % 4294967296 = (r : Int) := ⟨(dd % 4294967296).toNat, by omega⟩; have hrB : r < 4294967296 := (by omega)
    refine J.exit ?_
    refine Sr ?_
    refine Ru 2 rfl ?_
    refine JL.op (RunV.index_off sl_30 (m := q + 2) rfl rfl (by omega) (by omega)) rfl ?_
    refine JL.op (RunV.wload ag_103 rfl mm_ (by omega)) rfl ?_
    refine JL.op z37_ rfl ?_
    refine Ru 1 rfl ?_
    refine JL.op si_ rfl ?_
    refine Ru 1 rfl ?_
    refine JL.op (by first | exact RunV.conv_i64 cv_63_2 rfl (by omega) (by omega) | exact RunV.conv cv_63_2 rfl) rfl ?_
    refine JL.op si_ rfl ?_
    rw [← hdd]
    refine Ru 1 rfl ?_
    refine JL.nil ?_
    refine Sr ?_
    refine Ru 3 rfl ?_
    refine JL.op (RunV.toWI r cv_2_103 rfl hr) rfl ?_
    refine JL.op (RunV.index_off sl_30 (m := q + 2) rfl rfl (by omega) (by omega)) rfl ?_
    refine JL.storeW (r) ag_103 rfl rfl (by rw [Nat.mod_eq_of_lt hrB]) dl_ (by omega) ?_
    refine JL.nil ?_
    refine J.seq ?_
    refine Sr ?_
    refine Ru 2 rfl ?_
    refine JL.nil ?_
    refine Cs rfl (fun hc13 => ?_) fun hc13 => ?_
    ·
     have hrr2 : r = d32 U (k + (q + 2)) - (c + b) := (by omega); have hok := step_ok1 (D := vL l * 4294967296 ^ k) (n := q + 2) hUl (by omega) hv (by omega) (by rw [hQ]; exact hGQ) hD0; rw [← hrr2, hQ] at hok; rw [hok.1]
     refine Sr ?_
     refine Ru 1 rfl ?_
     refine JL.op (RunV.toW G cv_63_103 rfl rfl) rfl ?_
     refine Ru 1 rfl ?_
     refine JL.nil ?_
     exact J.ret ⟨_, [_], _, (RetV.one rfl rfl), .cons .here .nil, _, rfl, congrArg (Value.int .u32) (by omega), rfl⟩
    have hrr2 : r = d32 U (k + (q + 2)) + 4294967296 - (c + b) := (by omega); obtain ⟨W0, hW0⟩ : ∃ W0, W0 = U.set (k + (q + 2)) (UInt32.ofNat r) := ⟨_, rfl⟩; have hW0d : d32 W0 (k + (q + 2)) = r := (by rw [hW0, d32_set _ _ _ _ (by omega), if_pos rfl, UInt32.toNat_ofNat']; exact Nat.mod_eq_of_lt hrB); have hW0z : ∀ j, k + (q + 2) < j → d32 W0 j = 0 := (fun j hj => by rw [hW0, d32_set _ _ _ _ (by omega), if_neg (by omega)]; exact hUz j hj); have hW0l : W0.length = N := (by rw [hW0, List.length_set]; exact hUl); rw [← hW0]
    refine J.skip ?_
    refine Sr ?_
    refine Ru 1 rfl ?_
    refine JL.nil ?_
    refine J.seq ?_
    refine Sr ?_
    refine Ru 2 rfl ?_
    refine JL.nil ?_
    refine J.block ?_
    refine J.loop (fun t_ S_ h_ L_ => ∃ (z y : Nat) (W : List UInt32), t_ = q + 2 - z ∧ S_ = [(0, .slice (some ⟨g, k, none⟩) (q + 3) cw), (1, .slice av l.length cv), (5, .int .i64 l.length), (7, .int .u64 G), (14, .int .u64 y), (137, .int .i64 l.length), (138, .int .i64 z)] ∧ h = h_ ∧ L_ = [.row (some ⟨g, 0, none⟩) cr 103 1 N (ws .u32 W)] ∧ (z ≤ q + 2 ∧ W.length = N ∧ y ≤ 1 ∧ (∀ j, k + z ≤ j → d32 W j = d32 W0 j) ∧ vL W + y * 4294967296 ^ (k + z) = vL W0 + vL (l.take z) * 4294967296 ^ k)) ⟨_, _, ?_, ⟨0, 0, W0, rfl, rfl, rfl, rfl, ⟨by omega, hW0l, by omega, fun _ _ => rfl, by simp [vL]⟩⟩⟩ ?_
    ·
     exact z2_
    rintro _ _ _ _ ⟨z, y, W, rfl, rfl, rfl, rfl, hz, hWl, hy, hWj, hvW⟩
    refine Sr ?_
    refine Ru 1 rfl ?_
    refine JL.nil ?_
    refine J.seq ?_
    refine Cs rfl (fun hc14 => ?_) fun hc14 => ?_
    ·
     have hz' : z < q + 2 := (by omega); have bz := d32_lt l z; have bw := d32_lt W (k + z); have ez := d32_at l z (by omega); have hst := add_step (v := l) (by omega) hvW
     refine J.skip ?_
     refine J.seq ?_
     refine J.block ?_
     refine Sr ?_
     refine Ru 2 rfl ?_
     refine JL.nil ?_
     refine J.seq ?_
     refine J.drawn mixed_ (by kernel_rfl) ?_
     refine Rq 3 rfl ?_
     refine JQ.op (RunV.index_off sl_30 (m := z) rfl rfl (by omega) (by omega)) rfl ?_
     refine JQ.op (RunV.wload ag_103 rfl mm_ (by omega)) rfl ?_
     refine JQ.op z9_ rfl ?_
     refine Rq 2 rfl ?_
     refine JQ.ope (RunE.index sl_30 rfl rfl z8_ (by assumption) rfl (by omega)) rfl ?_
     rintro _ ⟨b15, o15, hi15, rfl, hE15⟩
     refine JQ.op (RunV.ld_u32 ag_103 rfl (by assumption)) rfl ?_
     rw [ez]
     refine JQ.op z9_ rfl ?_
     refine JQ.op z20_ rfl ?_
     refine JQ.op z20_ rfl ?_
     rw [show (y : Int) + ((d32 W (k + z) : Int) + (d32 l z : Int)) = ((y + d32 W (k + z) + d32 l z : Nat) : Int) by omega]
     refine Rq 1 rfl ?_
     refine JQ.nil ?_
     refine Sr ?_
     refine Ru 3 rfl ?_
     refine JL.op (RunV.toW (y + d32 W (k + z) + d32 l z) cv_63_103 rfl rfl) rfl ?_
     refine JL.op (RunV.index_off sl_30 (m := z) rfl rfl (by omega) (by omega)) rfl ?_
     refine JL.storeW (y + d32 W (k + z) + d32 l z) ag_103 rfl rfl (rfl) dl_ (by omega) ?_
     refine JL.nil ?_
     refine Rg ?_
     refine Ru 1 rfl ?_
     refine JL.op (RunV.shr_u64 4294967296 rfl rfl (by decide) (by decide) (by decide)) rfl ?_
     refine Ru 1 rfl ?_
     refine JL.nil ?_
     refine Rg ?_
     refine JL.op ai_ rfl ?_
     refine Ru 1 rfl ?_
     refine JL.nil ?_
     refine ⟨_, ?_, _, ?_, ⟨z + 1, (y + d32 W (k + z) + d32 l z) / 4294967296, _, rfl, rfl, rfl, rfl, ⟨by omega, by rw [List.length_set]; exact hWl, by omega, fun j hj => by rw [d32_set _ _ _ _ (by omega), if_neg (by omega)]; exact hWj j (by omega), hst⟩⟩⟩
     ·
      omega
     exact z2_
    have hze : z = q + 2 := (by omega); subst hze; rw [List.take_of_length_le (by omega)] at hvW; have hWd := hWj (k + (q + 2)) (Nat.le_refl _); have hok := step_ok2 (D := vL l * 4294967296 ^ k) (V := vL l) (n := q + 2) hUl hWl (by omega) rfl hVlt hv hUz (by omega) (by omega) (by rw [hQ]; exact hGQ) (by rw [hQ]; exact hG1) hD0 hy (by rw [hvW, hW0, hrr2]) (by rw [hWd, hW0d, ← hrr2, Nat.mod_eq_of_lt hrB]) (fun j hj => by rw [hWj j (by omega)]; exact hW0z j hj); rw [hQ] at hok
    refine J.exit ?_
    refine Sr ?_
    refine Ru 2 rfl ?_
    refine JL.op (RunV.index_off sl_30 (m := q + 2) rfl rfl (by omega) (by omega)) rfl ?_
    refine JL.op (RunV.wload ag_103 rfl mm_ (by omega)) rfl ?_
    refine Ru 1 rfl ?_
    refine JL.op (RunV.toW y cv_63_103 rfl rfl) rfl ?_
    refine JL.op (RunV.add rfl rfl) rfl ?_
    refine JL.op (RunV.index_off sl_30 (m := q + 2) rfl rfl (by omega) (by omega)) rfl ?_
    refine JL.storeW (d32 W (k + (q + 2)) + y) ag_103 rfl rfl (by rw [IntKind.wrap_u32]; omega) dl_ (by omega) ?_
    rw [hok.1]
    refine JL.nil ?_
    refine Sr ?_
    refine Ru 1 rfl ?_
    refine JL.op z33_ rfl ?_
    refine JL.op (RunV.toW (G - 1) cv_63_103 rfl (by omega)) rfl ?_
    refine Ru 1 rfl ?_
    refine JL.nil ?_
    exact J.ret ⟨_, [_], _, (RetV.one rfl rfl), .cons .here .nil, _, rfl, congrArg (Value.int .u32) (by omega), rfl⟩
   obtain ⟨hGB, hGT⟩ := g_fin1 hS hlow hgr hc4; obtain ⟨G, hG⟩ : ∃ G, G = gg := ⟨_, rfl⟩; rw [← hG] at hGB hGT ⊢; have hGQ : Q ≤ G := (by omega); have hG1 := guess_hi w (vL l) k q G hGB hGT hV; rw [hQ] at hG1
   refine J.skip ?_
   refine Sr ?_
   refine Ru 1 rfl ?_
   refine JL.nil ?_
   refine Sr ?_
   refine Ru 1 rfl ?_
   refine JL.nil ?_
   refine J.seq ?_
   refine Sr ?_
   refine Ru 2 rfl ?_
   refine JL.nil ?_
   refine J.block ?_
   refine J.loop (fun t_ S_ h_ L_ => ∃ (i c b : Nat) (U : List UInt32), t_ = q + 2 - i ∧ S_ = [(0, .slice (some ⟨g, k, none⟩) (q + 3) cw), (1, .slice av l.length cv), (5, .int .i64 l.length), (7, .int .u64 G), (9, .int .i64 b), (10, .int .u64 c), (83, .int .i64 l.length), (84, .int .i64 i)] ∧ h = h_ ∧ L_ = [.row (some ⟨g, 0, none⟩) cr 103 1 N (ws .u32 U)] ∧ (i ≤ q + 2 ∧ U.length = N ∧ c < 4294967296 ∧ b ≤ 1 ∧ (∀ j, k + i ≤ j → d32 U j = d32 (digN N w) j) ∧ vL U + G * vL (l.take i) * 4294967296 ^ k = w + (c + b) * 4294967296 ^ (k + i))) ⟨_, _, ?_, ⟨0, 0, 0, digN N w, rfl, rfl, rfl, rfl, ⟨by omega, hdl, by omega, by omega, fun _ _ => rfl, by rw [hvw]; simp [vL]⟩⟩⟩ ?_
   ·
    exact z2_
   rintro _ _ _ _ ⟨i, c, b, U, rfl, rfl, rfl, rfl, hi, hUl, hc, hb, hUj, hv⟩
   refine Sr ?_
   refine Ru 1 rfl ?_
   refine JL.nil ?_
   refine J.seq ?_
   refine Cs rfl (fun hc19 => ?_) fun hc19 => ?_
   ·
    have hi' : i < q + 2 := (by omega); have bi := d32_lt l i; have bu := d32_lt U (k + i); have hCl := carry_lt hc hGB bi (show 0 < 4294967296 by decide); obtain ⟨C, hC⟩ : ∃ C, C = c + G * d32 l i := ⟨_, rfl⟩; have hC64 : C < 18446744073709551616 := (by omega); have ei := d32_at l i (by omega); obtain ⟨dd, hdd⟩ : ∃ dd : Int, dd = (d32 U (k + i) : Int) - b - ((C % 4294967296 : Nat) : Int) := ⟨_, rfl⟩; have hdr : -4294967296 ≤ dd ∧ dd ≤ 4294967295 := (by omega); obtain ⟨r, hr⟩ : ∃ r : Nat, dd % 4294967296 = (r : Int) := ⟨(dd % 4294967296).toNat, by omega⟩; obtain ⟨ee, hee, he1⟩ : ∃ e : Nat, (e : Int) = -(dd / 4294967296) ∧ e ≤ 1 := ⟨(-(dd / 4294967296)).toNat, by omega, by omega⟩; have hrB : r < 4294967296 := (by omega); have hre : d32 U (k + i) + ee * 4294967296 = b + C % 4294967296 + r := (by omega); rw [hC] at hre; have hst := sub_step (g := G) (by omega) hv hrB hre; rw [← hC] at hst hre
    refine J.skip ?_
    refine J.seq ?_
    refine J.block ?_
    refine Sr ?_
    refine Ru 2 rfl ?_
    refine JL.nil ?_
    refine Sr ?_
    refine Ru 4 rfl ?_
    refine JL.ope (RunE.index sl_30 rfl rfl z8_ (by assumption) rfl (by omega)) rfl ?_
    rintro _ ⟨b20, o20, hi20, rfl, hE20⟩
    refine JL.op (RunV.ld_u32 ag_103 rfl (by assumption)) rfl ?_
    rw [ei]
    refine JL.op z9_ rfl ?_
    refine JL.op (RunV.mul_u64 rfl rfl z30_ z30_) rfl ?_
    refine JL.op (RunV.add_u64 rfl rfl z30_ z30_) rfl ?_
    rw [show (c : Int) + (G : Int) * (d32 l i : Int) = (C : Int) by rw [hC, Int.natCast_add, Int.natCast_mul]]
    refine Ru 1 rfl ?_
    refine JL.nil ?_
    refine Sr ?_
    refine Ru 2 rfl ?_
    refine JL.op (RunV.index_off sl_30 (m := i) rfl rfl (by omega) (by omega)) rfl ?_
    refine JL.op (RunV.wload ag_103 rfl mm_ (by omega)) rfl ?_
    refine JL.op z37_ rfl ?_
    refine Ru 1 rfl ?_
    refine JL.op si_ rfl ?_
    refine Ru 1 rfl ?_
    refine JL.op (RunV.toW C cv_63_103 rfl rfl) rfl ?_
    refine JL.op z37_ rfl ?_
    refine JL.op si_ rfl ?_
    rw [← hdd]
    refine Ru 1 rfl ?_
    refine JL.nil ?_
    refine Sr ?_
    refine Ru 1 rfl ?_
    refine JL.op (RunV.shr_u64 4294967296 rfl rfl (by decide) (by decide) (by decide)) rfl ?_
    refine Ru 1 rfl ?_
    refine JL.nil ?_
    refine Sr ?_
    refine Ru 3 rfl ?_
    refine JL.op (RunV.toWI r cv_2_103 rfl hr) rfl ?_
    refine JL.op (RunV.index_off sl_30 (m := i) rfl rfl (by omega) (by omega)) rfl ?_
    refine JL.storeW (r) ag_103 rfl rfl (by rw [Nat.mod_eq_of_lt hrB]) dl_ (by omega) ?_
    refine JL.nil ?_
    refine Rg ?_
    refine Ru 1 rfl ?_
    refine JL.op (RunV.shr_i64 4294967296 rfl rfl (by decide) (by decide) (by decide)) rfl ?_
    refine JL.op (RunV.neg rfl) rfl ?_
    rw [show IntKind.i64.wrap (-(dd / 4294967296)) = (ee : Int) from by rw [wrap_i64 _ (by omega) (by omega)]; omega]
    refine Ru 1 rfl ?_
    refine JL.nil ?_
    refine Rg ?_
    refine JL.op ai_ rfl ?_
    refine Ru 1 rfl ?_
    refine JL.nil ?_
    refine ⟨_, ?_, _, ?_, ⟨i + 1, C / 4294967296, ee, U.set (k + i) (UInt32.ofNat r), rfl, rfl, rfl, rfl, ⟨by omega, by rw [List.length_set]; exact hUl, by omega, by omega, fun j hj => by rw [d32_set _ _ _ _ (by omega), if_neg (by omega)]; exact hUj j (by omega), hst⟩⟩⟩
    ·
     omega
    exact z2_
   have hie : i = q + 2 := (by omega); subst hie; rw [List.take_of_length_le (by omega), Nat.mul_assoc] at hv; have hun := hUj (k + (q + 2)) (Nat.le_refl _); have bu := d32_lt U (k + (q + 2)); have hUz : ∀ j, k + (q + 2) < j → d32 U j = 0 := (fun j hj => by rw [hUj j (by omega)]; exact hzD j hj); obtain ⟨dd, hdd⟩ : ∃ dd : Int, dd = (d32 U (k + (q + 2)) : Int) - b - c := ⟨_, rfl⟩; have hdr : -4294967296 ≤ dd ∧ dd ≤ 4294967295 := (by omega); obtain ⟨r, hr⟩ : ∃ r : Nat, dd % 4294967296 = (r : Int) := ⟨(dd % 4294967296).toNat, by omega⟩; have hrB : r < 4294967296 := (by omega)
   refine J.exit ?_
   refine Sr ?_
   refine Ru 2 rfl ?_
   refine JL.op (RunV.index_off sl_30 (m := q + 2) rfl rfl (by omega) (by omega)) rfl ?_
   refine JL.op (RunV.wload ag_103 rfl mm_ (by omega)) rfl ?_
   refine JL.op z37_ rfl ?_
   refine Ru 1 rfl ?_
   refine JL.op si_ rfl ?_
   refine Ru 1 rfl ?_
   refine JL.op (by first | exact RunV.conv_i64 cv_63_2 rfl (by omega) (by omega) | exact RunV.conv cv_63_2 rfl) rfl ?_
   refine JL.op si_ rfl ?_
   rw [← hdd]
   refine Ru 1 rfl ?_
   refine JL.nil ?_
   refine Sr ?_
   refine Ru 3 rfl ?_
   refine JL.op (RunV.toWI r cv_2_103 rfl hr) rfl ?_
   refine JL.op (RunV.index_off sl_30 (m := q + 2) rfl rfl (by omega) (by omega)) rfl ?_
   refine JL.storeW (r) ag_103 rfl rfl (by rw [Nat.mod_eq_of_lt hrB]) dl_ (by omega) ?_
   refine JL.nil ?_
   refine J.seq ?_
   refine Sr ?_
   refine Ru 2 rfl ?_
   refine JL.nil ?_
   refine Cs rfl (fun hc24 => ?_) fun hc24 => ?_
   ·
    have hrr2 : r = d32 U (k + (q + 2)) - (c + b) := (by omega); have hok := step_ok1 (D := vL l * 4294967296 ^ k) (n := q + 2) hUl (by omega) hv (by omega) (by rw [hQ]; exact hGQ) hD0; rw [← hrr2, hQ] at hok; rw [hok.1]
    refine Sr ?_
    refine Ru 1 rfl ?_
    refine JL.op (RunV.toW G cv_63_103 rfl rfl) rfl ?_
    refine Ru 1 rfl ?_
    refine JL.nil ?_
    exact J.ret ⟨_, [_], _, (RetV.one rfl rfl), .cons .here .nil, _, rfl, congrArg (Value.int .u32) (by omega), rfl⟩
   have hrr2 : r = d32 U (k + (q + 2)) + 4294967296 - (c + b) := (by omega); obtain ⟨W0, hW0⟩ : ∃ W0, W0 = U.set (k + (q + 2)) (UInt32.ofNat r) := ⟨_, rfl⟩; have hW0d : d32 W0 (k + (q + 2)) = r := (by rw [hW0, d32_set _ _ _ _ (by omega), if_pos rfl, UInt32.toNat_ofNat']; exact Nat.mod_eq_of_lt hrB); have hW0z : ∀ j, k + (q + 2) < j → d32 W0 j = 0 := (fun j hj => by rw [hW0, d32_set _ _ _ _ (by omega), if_neg (by omega)]; exact hUz j hj); have hW0l : W0.length = N := (by rw [hW0, List.length_set]; exact hUl); rw [← hW0]
   refine J.skip ?_
   refine Sr ?_
   refine Ru 1 rfl ?_
   refine JL.nil ?_
   refine J.seq ?_
   refine Sr ?_
   refine Ru 2 rfl ?_
   refine JL.nil ?_
   refine J.block ?_
   refine J.loop (fun t_ S_ h_ L_ => ∃ (z y : Nat) (W : List UInt32), t_ = q + 2 - z ∧ S_ = [(0, .slice (some ⟨g, k, none⟩) (q + 3) cw), (1, .slice av l.length cv), (5, .int .i64 l.length), (7, .int .u64 G), (14, .int .u64 y), (137, .int .i64 l.length), (138, .int .i64 z)] ∧ h = h_ ∧ L_ = [.row (some ⟨g, 0, none⟩) cr 103 1 N (ws .u32 W)] ∧ (z ≤ q + 2 ∧ W.length = N ∧ y ≤ 1 ∧ (∀ j, k + z ≤ j → d32 W j = d32 W0 j) ∧ vL W + y * 4294967296 ^ (k + z) = vL W0 + vL (l.take z) * 4294967296 ^ k)) ⟨_, _, ?_, ⟨0, 0, W0, rfl, rfl, rfl, rfl, ⟨by omega, hW0l, by omega, fun _ _ => rfl, by simp [vL]⟩⟩⟩ ?_
   ·
    exact z2_
   rintro _ _ _ _ ⟨z, y, W, rfl, rfl, rfl, rfl, hz, hWl, hy, hWj, hvW⟩
   refine Sr ?_
   refine Ru 1 rfl ?_
   refine JL.nil ?_
   refine J.seq ?_
   refine Cs rfl (fun hc25 => ?_) fun hc25 => ?_
   ·
    have hz' : z < q + 2 := (by omega); have bz := d32_lt l z; have bw := d32_lt W (k + z); have ez := d32_at l z (by omega); have hst := add_step (v := l) (by omega) hvW
    refine J.skip ?_
    refine J.seq ?_
    refine J.block ?_
    refine Sr ?_
    refine Ru 2 rfl ?_
    refine JL.nil ?_
    refine J.seq ?_
    refine J.drawn mixed_ (by kernel_rfl) ?_
    refine Rq 3 rfl ?_
    refine JQ.op (RunV.index_off sl_30 (m := z) rfl rfl (by omega) (by omega)) rfl ?_
    refine JQ.op (RunV.wload ag_103 rfl mm_ (by omega)) rfl ?_
    refine JQ.op z9_ rfl ?_
    refine Rq 2 rfl ?_
    refine JQ.ope (RunE.index sl_30 rfl rfl z8_ (by assumption) rfl (by omega)) rfl ?_
    rintro _ ⟨b26, o26, hi26, rfl, hE26⟩
    refine JQ.op (RunV.ld_u32 ag_103 rfl (by assumption)) rfl ?_
    rw [ez]
    refine JQ.op z9_ rfl ?_
    refine JQ.op z20_ rfl ?_
    refine JQ.op z20_ rfl ?_
    rw [show (y : Int) + ((d32 W (k + z) : Int) + (d32 l z : Int)) = ((y + d32 W (k + z) + d32 l z : Nat) : Int) by omega]
    refine Rq 1 rfl ?_
    refine JQ.nil ?_
    refine Sr ?_
    refine Ru 3 rfl ?_
    refine JL.op (RunV.toW (y + d32 W (k + z) + d32 l z) cv_63_103 rfl rfl) rfl ?_
    refine JL.op (RunV.index_off sl_30 (m := z) rfl rfl (by omega) (by omega)) rfl ?_
    refine JL.storeW (y + d32 W (k + z) + d32 l z) ag_103 rfl rfl (rfl) dl_ (by omega) ?_
    refine JL.nil ?_
    refine Rg ?_
    refine Ru 1 rfl ?_
    refine JL.op (RunV.shr_u64 4294967296 rfl rfl (by decide) (by decide) (by decide)) rfl ?_
    refine Ru 1 rfl ?_
    refine JL.nil ?_
    refine Rg ?_
    refine JL.op ai_ rfl ?_
    refine Ru 1 rfl ?_
    refine JL.nil ?_
    refine ⟨_, ?_, _, ?_, ⟨z + 1, (y + d32 W (k + z) + d32 l z) / 4294967296, _, rfl, rfl, rfl, rfl, ⟨by omega, by rw [List.length_set]; exact hWl, by omega, fun j hj => by rw [d32_set _ _ _ _ (by omega), if_neg (by omega)]; exact hWj j (by omega), hst⟩⟩⟩
    ·
     omega
    exact z2_
   have hze : z = q + 2 := (by omega); subst hze; rw [List.take_of_length_le (by omega)] at hvW; have hWd := hWj (k + (q + 2)) (Nat.le_refl _); have hok := step_ok2 (D := vL l * 4294967296 ^ k) (V := vL l) (n := q + 2) hUl hWl (by omega) rfl hVlt hv hUz (by omega) (by omega) (by rw [hQ]; exact hGQ) (by rw [hQ]; exact hG1) hD0 hy (by rw [hvW, hW0, hrr2]) (by rw [hWd, hW0d, ← hrr2, Nat.mod_eq_of_lt hrB]) (fun j hj => by rw [hWj j (by omega)]; exact hW0z j hj); rw [hQ] at hok
   refine J.exit ?_
   refine Sr ?_
   refine Ru 2 rfl ?_
   refine JL.op (RunV.index_off sl_30 (m := q + 2) rfl rfl (by omega) (by omega)) rfl ?_
   refine JL.op (RunV.wload ag_103 rfl mm_ (by omega)) rfl ?_
   refine Ru 1 rfl ?_
   refine JL.op (RunV.toW y cv_63_103 rfl rfl) rfl ?_
   refine JL.op (RunV.add rfl rfl) rfl ?_
   refine JL.op (RunV.index_off sl_30 (m := q + 2) rfl rfl (by omega) (by omega)) rfl ?_
   refine JL.storeW (d32 W (k + (q + 2)) + y) ag_103 rfl rfl (by rw [IntKind.wrap_u32]; omega) dl_ (by omega) ?_
   rw [hok.1]
   refine JL.nil ?_
   refine Sr ?_
   refine Ru 1 rfl ?_
   refine JL.op z33_ rfl ?_
   refine JL.op (RunV.toW (G - 1) cv_63_103 rfl (by omega)) rfl ?_
   refine Ru 1 rfl ?_
   refine JL.nil ?_
   exact J.ret ⟨_, [_], _, (RetV.one rfl rfl), .cons .here .nil, _, rfl, congrArg (Value.int .u32) (by omega), rfl⟩
  refine J.seq ?_
  refine Rg ?_
  refine Ru 3 rfl ?_
  refine JL.nil ?_
  refine J.seq ?_
  refine J.drawn mixed_ (by kernel_rfl) ?_
  refine Rq 2 rfl ?_
  refine JQ.op (RunV.index_off sl_30 (m := q + 2) rfl rfl (by omega) (by omega)) rfl ?_
  refine JQ.op (RunV.wload ag_103 rfl mm_ (by omega)) rfl ?_
  rw [htopd]
  refine JQ.op z9_ rfl ?_
  refine JQ.op (RunV.shl_u64 4294967296 rfl rfl (by decide) (by decide) (by decide) (by omega) (by omega)) rfl ?_
  refine Rq 2 rfl ?_
  refine JQ.op si_ rfl ?_
  refine JQ.op (RunV.index_off sl_30 (m := q + 1) rfl rfl (by omega) (by omega)) rfl ?_
  refine JQ.op (RunV.wload ag_103 rfl mm_ (by omega)) rfl ?_
  refine JQ.op z9_ rfl ?_
  refine JQ.op (RunV.join_u64 32 4294967296 rfl rfl (by decide) (by omega) (by omega) (by omega) (by omega) (by omega) (by omega)) rfl ?_
  rw [show ((w / 4294967296 ^ (k + (q + 2)) : Nat) : Int) * 4294967296 + (d32 (digN N w) (k + (q + 1)) : Nat) = (top : Int) by omega]
  refine Rq 1 rfl ?_
  refine JQ.nil ?_
  refine J.seq ?_
  refine Rg ?_
  refine Ru 3 rfl ?_
  refine JL.op si_ rfl ?_
  refine JL.ope (RunE.index (m := q + 1) sl_30 rfl rfl (by omega) hl rfl (by omega)) rfl ?_
  rintro _ ⟨b30, o30, hi30, rfl, hE30⟩
  refine JL.op (RunV.ld_u32 ag_103 rfl (by assumption)) rfl ?_
  rw [ea1]
  refine JL.op z9_ rfl ?_
  refine JL.op (RunV.quo_u64 rfl rfl (by omega) (by omega) (by omega)) rfl ?_
  refine Ru 1 rfl ?_
  refine JL.nil ?_
  refine J.seq ?_
  refine Rg ?_
  refine Ru 3 rfl ?_
  refine JL.op si_ rfl ?_
  refine JL.ope (RunE.index (m := q + 1) sl_30 rfl rfl (by omega) hl rfl (by omega)) rfl ?_
  rintro _ ⟨b32, o32, hi32, rfl, hE32⟩
  refine JL.op (RunV.ld_u32 ag_103 rfl (by assumption)) rfl ?_
  rw [ea1]
  refine JL.op z9_ rfl ?_
  refine JL.op (RunV.rem_u64 rfl rfl (by omega) (by omega)) rfl ?_
  refine Ru 1 rfl ?_
  refine JL.nil ?_
  refine J.seq ?_
  refine J.label ?_
  refine J.weak _ ?_ (again _ _ _ _ ⟨top / d32 l (q + 1), top % d32 l (q + 1), rfl, rfl, rfl, rfl, ⟨by rw [Nat.mul_comm]; exact Nat.div_add_mod _ _, Nat.lt_of_lt_of_le (Nat.mod_lt _ hv10) (by omega), (Nat.le_div_iff_mul_le hv10).2 (g_init hS hlow hgl b5), Nat.div_le_self _ _⟩⟩)
  exact z5_
end Go.Proofs.YtmngjbefnloljaaGreatDoor
namespace Go.Proofs.YtmngjbefnloljaaGreatDoor
open Go Go.RowKit
theorem z41_ {p : Prop} (u : p := by first | exact RunV.conv_u64 cv_3_93 rfl (by omega) (by omega) | exact RunV.conv cv_3_93 rfl) : p := u
end Go.Proofs.YtmngjbefnloljaaGreatDoor
namespace Go.Proofs.YtmngjbefnloljaaGreatDoor
open Go Go.RowKit
set_option maxRecDepth 100000
theorem ca_120 : callT Tryz.prog 120 = true := by kernel_rfl
theorem ca_121 : callT Tryz.prog 121 = true := by kernel_rfl
theorem ca_122 : callT Tryz.prog 122 = true := by kernel_rfl
theorem ca_123 : callT Tryz.prog 123 = true := by kernel_rfl
theorem ca_47 : callT Tryz.prog 47 = true := by kernel_rfl
theorem ca_87 : callT Tryz.prog 87 = true := by kernel_rfl
theorem cv_3_93 : convI Tryz.prog 3 93 = some .u64 := by kernel_rfl
theorem two_le32 (s : Nat) (h : s ≤ 31) : 1 ≤ 2 ^ s ∧ 2 ^ s ≤ 2147483648 := ⟨Nat.one_le_two_pow, Nat.le_trans (Nat.pow_le_pow_right (by decide) h) (by decide)⟩
theorem two_split (s : Nat) (h : s ≤ 31) : 2 ^ s * 2 ^ (32 - s) = 4294967296 := by
  rw [← Nat.pow_add, show s + (32 - s) = 32 by omega]
theorem shift_mod {x s : Nat} (h : s ≤ 31) : x * 2 ^ s % 4294967296 % 2 ^ s = 0 := by
  rw [← two_split s h, Nat.mul_comm x, Nat.mul_mod_mul_left]
  exact Nat.mul_mod_right _ _
theorem shift_low {V s i : Nat} (h : V < 4294967296 ^ i) : V * 2 ^ s / 4294967296 ^ i < 2 ^ s := Nat.div_lt_of_lt_mul (Nat.mul_lt_mul_of_pos_right h (Nat.two_pow_pos s))
theorem natshifted_fn {a : Option Addr} {c s : Nat} {l : List UInt32} {h : Part} (hl : SlR u32R 1 h a c l) (hs : s ≤ 31) (hlb : l.length ≤ 1000000) : Fn Tryz.prog 122 [.slice a l.length c, .int .u64 s] h []
    (Rets fun v _ Lo => ∃ b, v = .slice (some ⟨b, 0, none⟩) (l.length + 1) (l.length + 1) ∧ Lo = [.row (some ⟨b, 0, none⟩) (l.length + 1) 103 1 (l.length + 1) (ws .u32 (digN (l.length + 1) (vL l * 2 ^ s)))]) := by
  have h2s := two_le32 s hs
  refine Fn.intro Tryz.func122 rfl Tryz.ntmps122 rfl (fun e he => ?_)
  refine J.weak [(0, _), (1, _)] ⟨rfl, rfl, trivial⟩ ?_
  have hh0 := Part.le.refl h
  refine Sr ?_
  refine Ru 1 rfl ?_
  refine JL.nil ?_
  refine Sr ?_
  refine Ru 2 rfl ?_
  refine JL.op ai_ rfl ?_
  refine JL.make1 mk_30 rfl rfl (m := l.length + 1) (by omega) (by omega) (by omega) rfl rfl (fun b1 => ?_); rw [ws_zero]
  refine Ru 1 rfl ?_
  refine JL.nil ?_
  refine J.seq ?_
  refine Sr ?_
  refine Ru 3 rfl ?_
  refine Nk [15, 14, 13, 5, 4, 1] rfl ?_
  refine J.block ?_
  refine J.loop (fun t_ S_ h_ L_ => ∃ (i : Nat) (out : List UInt32), t_ = l.length - i ∧ S_ = [(1, .int .u64 s), (5, .slice (some ⟨b1, 0, none⟩) (l.length + 1) (l.length + 1)), (13, .slice a l.length c), (14, .int .i64 l.length), (15, .int .i64 i)] ∧ h = h_ ∧ L_ = [.row (some ⟨b1, 0, none⟩) (l.length + 1) 103 1 (l.length + 1) (ws .u32 out)] ∧ (i ≤ l.length ∧ out.length = l.length + 1 ∧ vL out = vL (l.take i) * 2 ^ s)) ⟨_, _, ?_, ⟨0, _, rfl, rfl, rfl, rfl, ⟨by omega, digN_len _ _, by rw [vL_digN]; simp [vL]⟩⟩⟩ ?_
  ·
   exact z5_
  rintro _ _ _ _ ⟨i, out, rfl, rfl, rfl, rfl, hi, hol, hv⟩
  refine Sr ?_
  refine Ru 1 rfl ?_
  refine JL.nil ?_
  refine J.seq ?_
  refine Cs rfl (fun hc2 => ?_) fun hc2 => ?_
  ·
   have hi' : i < l.length := (by omega); have bi := d32_lt l i; have ei := d32_at l i hi'; obtain ⟨y, hy⟩ : ∃ y, y = d32 l i * 2 ^ s := ⟨_, rfl⟩; have hyb : y ≤ 4294967295 * 2147483648 := (by rw [hy]; exact Nat.mul_le_mul (by omega) h2s.2); have hlow : d32 out i < 2 ^ s := (by rw [← vL_digit, hv]; exact Nat.lt_of_le_of_lt (Nat.mod_le _ _) (shift_low (vL_take_lt l i))); have hym : y % 4294967296 % 2 ^ s = 0 := (by rw [hy]; exact shift_mod hs); have hzt : vL out < 4294967296 ^ (i + 1) := (by rw [hv, Nat.pow_succ]; exact Nat.mul_lt_mul'' (vL_take_lt l i) (by omega)); have hz1 := vL_zero_above hzt (i + 1) (Nat.le_refl _); have hsum : d32 out i + y % 4294967296 < 4294967296 := (by have e1 := two_split s hs; have h3 : y % 4294967296 = 2 ^ s * (y % 4294967296 / 2 ^ s) := (by have := Nat.div_add_mod (y % 4294967296) (2 ^ s); omega); have h4 : y % 4294967296 / 2 ^ s < 2 ^ (32 - s) := Nat.div_lt_of_lt_mul (by rw [e1]; omega); have h5 : 2 ^ s * (y % 4294967296 / 2 ^ s) + 2 ^ s ≤ 2 ^ s * 2 ^ (32 - s) := (by rw [← Nat.mul_succ]; exact Nat.mul_le_mul_left _ h4); rw [e1] at h5; omega)
   refine J.skip ?_
   refine J.seq ?_
   refine J.block ?_
   refine Sr ?_
   refine Ru 1 rfl ?_
   refine JL.ope (RunE.index sl_30 rfl rfl z8_ (by assumption) rfl (by omega)) rfl ?_
   rintro _ ⟨b3, o3, hi3, rfl, hE3⟩
   refine JL.op (RunV.ld_u32 ag_103 rfl (by assumption)) rfl ?_
   rw [ei]
   refine Ru 2 rfl ?_
   refine JL.nil ?_
   refine Sr ?_
   refine Ru 1 rfl ?_
   refine JL.op z9_ rfl ?_
   refine Ru 1 rfl ?_
   refine JL.op (RunV.shl_u64 ((2 ^ s : Nat) : Int) rfl rfl (by omega) (by omega) (by rw [Int.toNat_natCast, Int.natCast_pow]; rfl) z30_ z30_) rfl ?_
   rw [← Int.natCast_mul, ← hy]
   refine Ru 1 rfl ?_
   refine JL.nil ?_
   refine Sr ?_
   refine Ru 2 rfl ?_
   refine JL.op (RunV.index_at sl_30 (m := i) rfl rfl (by omega) (by omega)) rfl ?_
   refine JL.op (RunV.wload ag_103 rfl mm_ (by omega)) rfl ?_
   refine Ru 1 rfl ?_
   refine JL.op (RunV.toW y cv_63_103 rfl rfl) rfl ?_
   refine JL.op (RunV.joinr_u32 s ((2 ^ s : Nat) : Int) rfl rfl (by rw [Int.natCast_pow]; rfl) (by omega) (by rw [← Int.natCast_emod, hym]; rfl) (by omega) (by omega) (by omega) (by omega)) rfl ?_
   refine JL.op (RunV.index_at sl_30 (m := i) rfl rfl (by omega) (by omega)) rfl ?_
   refine JL.storeW (d32 out i + y % 4294967296) ag_103 rfl rfl (by rw [Nat.mod_eq_of_lt hsum]; omega) dl_ (by omega) ?_
   obtain ⟨o2, ho2⟩ : ∃ o2, o2 = out.set i (UInt32.ofNat (d32 out i + y % 4294967296)) := ⟨_, rfl⟩; have hp1 := vL_put out i (d32 out i + y % 4294967296) (by omega); rw [← ho2, Nat.div_eq_of_lt hsum] at hp1; have ho2l : o2.length = l.length + 1 := (by rw [ho2, List.length_set]; exact hol); have hz2 : d32 o2 (i + 1) = 0 := (by rw [ho2, d32_set _ _ _ _ (by omega), if_neg (by omega)]; exact hz1); have hp2 := vL_put o2 (i + 1) (y / 4294967296) (by omega); rw [hz2, Nat.div_eq_of_lt (show y / 4294967296 < 4294967296 by omega)] at hp2; rw [← ho2]
   refine JL.nil ?_
   refine Rg ?_
   refine Ru 2 rfl ?_
   refine JL.op ai_ rfl ?_
   refine Ru 1 rfl ?_
   refine JL.op (RunV.shr_u64 4294967296 rfl rfl (by decide) (by decide) (by decide)) rfl ?_
   refine JL.op (RunV.toW (y / 4294967296) cv_63_103 rfl rfl) rfl ?_
   refine JL.op (RunV.index_at sl_30 (m := i + 1) rfl rfl (by omega) (by omega)) rfl ?_
   refine JL.storeW (y / 4294967296) ag_103 rfl rfl rfl dl_ (by omega) ?_
   refine JL.nil ?_
   refine Rg ?_
   refine JL.op ai_ rfl ?_
   refine Ru 1 rfl ?_
   refine JL.nil ?_
   refine ⟨_, ?_, _, ?_, ⟨i + 1, _, rfl, rfl, rfl, rfl, ⟨by omega, by rw [List.length_set]; exact ho2l, by rw [vL_take_succ, Nat.add_mul, ← hv]; have e2 : y * 4294967296 ^ i = (y % 4294967296) * 4294967296 ^ i + y / 4294967296 * 4294967296 ^ (i + 1) := (by rw [Nat.pow_succ, Nat.mul_comm _ 4294967296, ← Nat.mul_assoc, ← Nat.add_mul]; congr 1; omega); have e3 : d32 l i * 4294967296 ^ i * 2 ^ s = y * 4294967296 ^ i := (by rw [hy]; grind); rw [Nat.add_mul] at hp1; omega⟩⟩⟩
   ·
    omega
   exact z5_
  have hie : i = l.length := (by omega); rw [hie, List.take_length] at hv; have hoe := digN_fix hol hv; rw [hoe]
  refine J.exit ?_
  refine Kp [5] rfl ?_
  refine Sr ?_
  refine Ru 2 rfl ?_
  refine JL.nil ?_
  exact J.ret ⟨_, [_], _, (RetV.one rfl rfl), .cons .here .nil, _, rfl, _, rfl, rfl⟩
theorem short_step {X j b r : Nat} (hb : 0 < b) (hr : r = X / 4294967296 ^ (j + 1) % b) : X / 4294967296 ^ j / b = X / 4294967296 ^ (j + 1) / b * 4294967296 + (r * 4294967296 + X / 4294967296 ^ j % 4294967296) / b ∧ X / 4294967296 ^ j % b = (r * 4294967296 + X / 4294967296 ^ j % 4294967296) % b := by
  have h1 := div_low X j
  generalize X / 4294967296 ^ (j + 1) = Y at *
  generalize X / 4294967296 ^ j % 4294967296 = d at *
  have h2 := Nat.div_add_mod Y b
  rw [h1]
  have e : Y * 4294967296 + d = b * (Y / b * 4294967296) + (r * 4294967296 + d) := by
    subst hr
    conv => lhs; rw [← h2]
    rw [Nat.add_mul, Nat.mul_assoc]; omega
  rw [e, Nat.mul_add_div hb, Nat.mul_add_mod]
  exact ⟨rfl, rfl⟩
theorem natshort_fn {a : Option Addr} {c b : Nat} {l : List UInt32} {h : Part} (hl : SlR u32R 1 h a c l) (hb0 : 0 < b) (hb : b < 4294967296) (hlb : l.length ≤ 1000000) : FnR Tryz.prog 120 [.slice a l.length c, .int .u32 b] h
    (fun v h' => ∃ a1 c1 a2 c2, v = .tuple #[.slice a1 (toL (vL l / b)).length c1, .slice a2 (toL (vL l % b)).length c2, .int .i64 0] ∧ SlR u32R 1 h' a1 c1 (toL (vL l / b)) ∧ SlR u32R 1 h' a2 c2 (toL (vL l % b))) := by
  refine Fn.intro Tryz.func120 rfl Tryz.ntmps120 rfl (fun e he => ?_)
  refine J.weak [(0, _), (1, _)] ⟨rfl, rfl, trivial⟩ ?_
  have hh0 := Part.le.refl h
  refine Sr ?_
  refine Ru 3 rfl ?_
  refine JL.nil ?_
  refine Sr ?_
  refine Ru 2 rfl ?_
  refine JL.make1 mk_30 rfl rfl (m := l.length) (by omega) (by omega) (by omega) rfl rfl (fun b1 => ?_); rw [ws_zero]
  refine Ru 1 rfl ?_
  refine JL.nil ?_
  refine Sr ?_
  refine Ru 1 rfl ?_
  refine JL.nil ?_
  refine J.seq ?_
  refine Sr ?_
  refine Ru 2 rfl ?_
  refine JL.op si_ rfl ?_
  refine Ru 1 rfl ?_
  refine Nk [9, 8, 7, 6, 5, 4, 0, 1] rfl ?_
  refine J.block ?_
  refine J.loop (fun t_ S_ h_ L_ => ∃ (j r : Nat) (out : List UInt32), t_ = j + 1 ∧ S_ = [(0, .slice a l.length c), (1, .int .u32 b), (7, .slice (some ⟨b1, 0, none⟩) l.length l.length), (8, .int .u64 r), (9, .int .i64 ((j : Int) - 1))] ∧ h = h_ ∧ L_ = [.row (some ⟨b1, 0, none⟩) l.length 103 1 l.length (ws .u32 out)] ∧ (j ≤ l.length ∧ out.length = l.length ∧ r = vL l / 4294967296 ^ j % b ∧ vL out = vL l / 4294967296 ^ j / b * 4294967296 ^ j)) ⟨_, _, ?_, ⟨l.length, 0, _, rfl, rfl, rfl, rfl, ⟨Nat.le_refl _, digN_len _ _, by rw [Nat.div_eq_of_lt (vL_lt l)]; simp, by rw [vL_digN, Nat.div_eq_of_lt (vL_lt l)]; simp⟩⟩⟩ ?_
  ·
   exact z2_
  rintro _ _ _ _ ⟨j, r, out, rfl, rfl, rfl, rfl, hj, hol, hr, hv⟩
  refine J.seq ?_
  refine Sr ?_
  refine Ru 2 rfl ?_
  refine JL.nil ?_
  refine Cs rfl (fun hc2 => ?_) fun hc2 => ?_
  ·
   obtain ⟨i, rfl⟩ : ∃ i, j = i + 1 := ⟨j - 1, by omega⟩; have bi := d32_lt l i; have ei := d32_at l i (by omega); have hrb : r < b := (by rw [hr]; exact Nat.mod_lt _ hb0); obtain ⟨s1, s2⟩ := short_step (j := i) hb0 hr; rw [vL_digit] at s1 s2; obtain ⟨t, ht⟩ : ∃ t, t = r * 4294967296 + d32 l i := ⟨_, rfl⟩; rw [← ht] at s1 s2; have htq : t / b < 4294967296 := Nat.div_lt_of_lt_mul (by have := Nat.mul_le_mul_right 4294967296 (show r + 1 ≤ b by omega); omega); have hz : d32 out i = 0 := (by rw [← vL_digit, hv, Nat.pow_succ, Nat.mul_comm (4294967296 ^ i), ← Nat.mul_assoc, Nat.mul_div_cancel _ (Nat.pow_pos (by decide))]; exact Nat.mul_mod_left _ _); have hp := vL_put out i (t / b) (by omega); rw [hz, Nat.div_eq_of_lt htq] at hp; have ht64 : t < 18446744073709551616 := (by omega)
   refine J.skip ?_
   refine J.seq ?_
   refine J.block ?_
   refine Sr ?_
   refine Ru 1 rfl ?_
   refine JL.op (RunV.shl_u64 4294967296 rfl rfl (by decide) (by decide) (by decide) (by omega) (by omega)) rfl ?_
   refine Ru 2 rfl ?_
   refine JL.ope (RunE.index (m := i) sl_30 rfl rfl (by omega) hl rfl (by omega)) rfl ?_
   rintro _ ⟨b3, o3, hi3, rfl, hE3⟩
   refine JL.op (RunV.ld_u32 ag_103 rfl (by assumption)) rfl ?_
   rw [ei]
   refine JL.op z9_ rfl ?_
   refine JL.op (RunV.join_u64 32 4294967296 rfl rfl (by decide) (by omega) (by omega) (by omega) (by omega) (by omega) (by omega)) rfl ?_
   rw [show (r : Int) * 4294967296 + (d32 l i : Int) = (t : Int) by omega]
   refine Ru 1 rfl ?_
   refine JL.nil ?_
   refine Sr ?_
   refine Ru 4 rfl ?_
   refine JL.op z9_ rfl ?_
   refine JL.op (RunV.quo_u64 rfl rfl (by omega) (by omega) (by omega)) rfl ?_
   refine JL.op (RunV.toW (t / b) cv_63_103 rfl (by rw [Int.natCast_ediv])) rfl ?_
   refine JL.op (RunV.index_at sl_30 (m := i) rfl rfl (by omega) (by omega)) rfl ?_
   refine JL.storeW (t / b) ag_103 rfl rfl rfl dl_ (by omega) ?_
   refine JL.nil ?_
   refine Rg ?_
   refine Ru 2 rfl ?_
   refine JL.op z9_ rfl ?_
   refine JL.op (RunV.rem_u64 rfl rfl (by omega) (by omega)) rfl ?_
   rw [← Int.natCast_emod]
   refine Ru 1 rfl ?_
   refine JL.nil ?_
   refine Rg ?_
   refine Ru 1 rfl ?_
   refine JL.op si_ rfl ?_
   refine Ru 1 rfl ?_
   refine JL.nil ?_
   refine ⟨_, ?_, _, ?_, ⟨i, t % b, _, rfl, rfl, rfl, rfl, ⟨by omega, by rw [List.length_set]; exact hol, s2.symm, by rw [s1, Nat.add_mul, Nat.mul_assoc, Nat.mul_comm 4294967296, ← Nat.pow_succ, ← hv]; omega⟩⟩⟩
   ·
    omega
   exact z2_
  have hj0 : j = 0 := (by omega); subst hj0; rw [Nat.pow_zero, Nat.div_one] at hr hv; rw [Nat.mul_one] at hv
  refine J.exit ?_
  refine Kp [7, 8] rfl ?_
  refine Sr ?_
  refine Ru 1 rfl ?_
  refine JL.pub32 dl_ hol.symm (by omega) (fun h9 hle9 hP9 => ?_); replace hh0 := hh0.mono hle9; replace hl := hl.mono hle9
  refine JL.callR ca_59 rfl (nattrim_fn' hP9 hol.symm (by omega)) rfl ?_
  rintro _ h6 hle6 ⟨ra, rc, rfl, hR⟩
  replace hl := hl.mono hle6
  replace hh0 := hh0.mono hle6
  refine Ru 1 rfl ?_
  rw [hv] at hR ⊢; have hrb : r < b := (by rw [hr]; exact Nat.mod_lt _ hb0)
  refine JL.callR ca_87 rfl (natOf_fn (by omega)) rfl ?_
  rintro _ h7 hle7 ⟨sa, sc, rfl, hS⟩
  replace hl := hl.mono hle7
  replace hh0 := hh0.mono hle7
  replace hR := hR.mono hle7
  refine Ru 3 rfl ?_
  refine Nk [6, 5, 4] rfl ?_
  rw [hr] at hS ⊢; exact J.retR (RetV.three rfl rfl rfl rfl) ⟨_, _, _, _, rfl, hR, hS⟩
theorem lz_fn {n : Nat} {h : Part} (hn : n < 4294967296) : Pure Tryz.prog 121 [.int .u32 n] h (.int .i64 ((32 - bl n : Nat) : Int)) := by
  have hb := bl_le 32 n hn
  refine Fn.intro Tryz.func121 rfl Tryz.ntmps121 rfl (fun e he => ?_)
  refine J.weak [(0, _)] ⟨rfl, trivial⟩ ?_
  refine Sr ?_
  refine Ru 1 rfl ?_
  refine JL.nil ?_
  refine Sr ?_
  refine Ru 1 rfl ?_
  refine JL.callP ca_85 rfl (len32_fn hn) rfl ?_
  refine JL.op si_ rfl ?_
  refine Ru 1 rfl ?_
  refine Nk [2] rfl ?_
  exact J.retP (RetV.one rfl rfl) (congrArg (Value.int .i64) (by omega)) rfl
theorem SlR.takeN {α : Type} {R : Rep α} {sz : Nat} {h : Part} {a : Option Addr} {c : Nat} {l : List α} (k : SlR R sz h a c l) (m : Nat) : SlR R sz h a c (l.take m) :=
  ⟨by have := k.len; rw [List.length_take]; omega, k.cap, by have := k.big; rw [List.length_take]; omega, k.nil, fun i x hx => k.elt i x (by
    rw [List.getElem?_take] at hx
    split at hx
    · exact hx
    · cases hx)⟩
theorem digN_take (m k v : Nat) : (digN (m + k) v).take m = digN m v := by
  induction m generalizing v with
  | zero => simp [digN]
  | succ m ih => rw [show m + 1 + k = (m + k) + 1 by omega]; simp only [digN, List.take_succ_cons, ih]
section
variable {f : Fr} {S : Sig} {h : Part} {L : List Ent} {ty T : TypeId} {xo hi : Operand}
theorem RunV.cutv {e sz ln c m : Nat} {a : Option Addr} {k2 : IntKind} {j : Int} (hT : slT f.P T = some (e, sz)) (hx : ev S xo = some (.slice a ln c)) (hh : ev S hi = some (.int k2 j)) (hj : j = (m : Int)) (h2 : m ≤ c) (h3 : 0 < c) :
    RunV f S h L (.slice T xo none (some hi) none) ty (.slice a m c) := fun ac w s _ _ _ _ => by
  subst hj
  obtain ⟨hu, inf, hi', hs⟩ := slT_spec hT
  have e1 : (m : Int) ≤ c := by omega
  have e3 : ¬ (c = 0) := by omega
  simp [execOp, s.eval hx, s.eval hh, Instr.sliceAt, Instr.slice, run_underlying hu, Instr.sliceBounds, Instr.sliceBound, asIntOf, sizeOf, typeInfo, hi', hs, e1, h2, e3]
  cases a with
  | none => rfl
  | some x => simp only [Option.map_some, Addr.add_zero']
end
theorem natstep_fn' {g k n cw cr N w : Nat} {av : Option Addr} {cv : Nat} {l : List UInt32} {h : Part} (hl : SlR u32R 1 h av cv l) (hn : n = l.length) (h2 : 2 ≤ n) (hV : 4294967296 ^ (n - 1) ≤ vL l) (hw : w < vL l * 4294967296 ^ (k + 1)) (hk : k + n < N) (hN : N ≤ 1000000) :
    Fn Tryz.prog 123 [.slice (some ⟨g, k, none⟩) (n + 1) cw, .slice av n cv] h [.row (some ⟨g, 0, none⟩) cr 103 1 N (ws .u32 (digN N w))]
      (Rets fun v _ Lo => v = .int .u32 ((w / (vL l * 4294967296 ^ k) : Nat) : Int) ∧ Lo = [.row (some ⟨g, 0, none⟩) cr 103 1 N (ws .u32 (digN N (w % (vL l * 4294967296 ^ k))))]) := by
  obtain ⟨q, rfl⟩ : ∃ q, n = q + 2 := ⟨n - 2, by omega⟩
  have := natstep_fn (g := g) (cw := cw) (cr := cr) hl hn.symm hV hw (by omega) hN
  rw [← hn] at this
  exact this
def dr (X Y : Nat) : Nat := if Y = 0 then 0 else X % Y
theorem norm_ok {Y n s d : Nat} (hn : n = nd Y) (hY : 0 < Y) (hd : d = Y / 4294967296 ^ (n - 1)) (hs : s = 32 - bl d) : s ≤ 31 ∧ Y * 2 ^ s < 4294967296 ^ n ∧ 2147483648 * 4294967296 ^ (n - 1) ≤ Y * 2 ^ s ∧ 0 < d ∧ d < 4294967296 := by
  obtain ⟨p1, p2⟩ := nd_pos Y hY
  rw [← hn] at p1 p2
  obtain ⟨m, rfl⟩ : ∃ m, n = m + 1 := ⟨n - 1, by omega⟩
  rw [Nat.add_sub_cancel] at *
  have hB : 0 < 4294967296 ^ m := Nat.pow_pos (by decide)
  have hlt := lt_nd Y
  rw [← hn, Nat.pow_succ] at hlt
  have hd0 : 0 < d := by rw [hd]; exact Nat.div_pos p1 hB
  have hdB : d < 4294967296 := by rw [hd]; exact Nat.div_lt_of_lt_mul hlt
  obtain ⟨q1, q2⟩ := bl_pos d hd0
  have q3 := lt_bl d
  have q4 := bl_le 32 d hdB
  have hs31 : s ≤ 31 := by omega
  have e1 : 2 ^ (bl d - 1) * 2 ^ s = 2147483648 := by rw [← Nat.pow_add, show bl d - 1 + s = 31 by omega]
  have e2 : 2 ^ bl d * 2 ^ s = 4294967296 := by rw [← Nat.pow_add, show bl d + s = 32 by omega]
  have h1 : 2147483648 ≤ d * 2 ^ s := by rw [← e1]; exact Nat.mul_le_mul_right _ q1
  have h2 : (d + 1) * 2 ^ s ≤ 4294967296 := by rw [← e2]; exact Nat.mul_le_mul_right _ q3
  have h3 : d * 4294967296 ^ m ≤ Y := by rw [hd]; exact Nat.div_mul_le_self _ _
  have h4 : Y < (d + 1) * 4294967296 ^ m := by
    have := Nat.lt_div_mul_add hB (a := Y)
    rw [← hd] at this
    rw [Nat.add_mul]; omega
  refine ⟨hs31, ?_, ?_, hd0, hdB⟩
  · have h5 : Y * 2 ^ s < (d + 1) * 4294967296 ^ m * 2 ^ s := Nat.mul_lt_mul_of_pos_right h4 (Nat.two_pow_pos s)
    have h6 : (d + 1) * 4294967296 ^ m * 2 ^ s = (d + 1) * 2 ^ s * 4294967296 ^ m := by grind
    have h7 := Nat.mul_le_mul_right (4294967296 ^ m) h2
    rw [Nat.pow_succ, Nat.mul_comm (4294967296 ^ m)]
    omega
  · have h5 := Nat.mul_le_mul_right (2 ^ s) h3
    have h6 : d * 4294967296 ^ m * 2 ^ s = d * 2 ^ s * 4294967296 ^ m := by grind
    have h7 := Nat.mul_le_mul_right (4294967296 ^ m) h1
    omega
theorem u_bound {X Y s la lb : Nat} (hX : X < 4294967296 ^ la) (hs : 2 ^ s ≤ 2147483648) (h1 : 1 ≤ lb) (hle : lb ≤ la) (hV : 2147483648 * 4294967296 ^ (lb - 1) ≤ Y * 2 ^ s) : X * 2 ^ s < Y * 2 ^ s * 4294967296 ^ (la - lb + 1) := by
  have e : 4294967296 ^ la = 4294967296 ^ (lb - 1) * 4294967296 ^ (la - lb + 1) := by rw [← Nat.pow_add]; congr 1; omega
  have h3 : X * 2 ^ s ≤ X * 2147483648 := Nat.mul_le_mul_left _ hs
  have h4 : X * 2147483648 < 4294967296 ^ la * 2147483648 := Nat.mul_lt_mul_of_pos_right hX (by decide)
  have h5 := Nat.mul_le_mul_right (4294967296 ^ (la - lb + 1)) hV
  have h6 : 2147483648 * 4294967296 ^ (lb - 1) * 4294967296 ^ (la - lb + 1) = 4294967296 ^ la * 2147483648 := by rw [e]; grind
  omega
theorem nd_mono {X Y : Nat} (hY : 0 < Y) (h : Y ≤ X) : nd Y ≤ nd X := by
  rcases Nat.lt_or_ge (nd X) (nd Y) with h1 | h1
  · have := nd_lt h1; omega
  · exact h1
theorem q_step {U D k : Nat} (hD : 0 < D) : U % (D * 4294967296 ^ (k + 1)) % (D * 4294967296 ^ k) = U % (D * 4294967296 ^ k) ∧ U / (D * 4294967296 ^ k) = U / (D * 4294967296 ^ (k + 1)) * 4294967296 + U % (D * 4294967296 ^ (k + 1)) / (D * 4294967296 ^ k) := by
  have e : D * 4294967296 ^ (k + 1) = D * 4294967296 ^ k * 4294967296 := by rw [Nat.pow_succ, Nat.mul_assoc]
  have hP : 0 < D * 4294967296 ^ k := Nat.mul_pos hD (Nat.pow_pos (by decide))
  rw [e]
  generalize D * 4294967296 ^ k = P at *
  have h1 := Nat.mod_mul (a := P) (b := 4294967296) (x := U)
  refine ⟨by rw [h1, Nat.add_mul_mod_self_left, Nat.mod_mod], ?_⟩
  rw [h1, Nat.add_mul_div_left _ _ hP, Nat.div_eq_of_lt (Nat.mod_lt _ hP), ← Nat.div_div_eq_div_mul]
  have := Nat.div_add_mod (U / P) 4294967296
  omega
theorem r_digit {w s i : Nat} (hs : s ≤ 31) : ((w / 4294967296 ^ (i + 1) % 4294967296) * 4294967296 + w / 4294967296 ^ i % 4294967296) / 2 ^ s % 4294967296 = w / 2 ^ s / 4294967296 ^ i % 4294967296 := by
  rw [Nat.div_div_eq_div_mul w (2 ^ s), Nat.mul_comm (2 ^ s), ← Nat.div_div_eq_div_mul, Nat.pow_succ, ← Nat.div_div_eq_div_mul w]
  generalize w / 4294967296 ^ i = y
  have e1 := two_split s hs
  have hp : 0 < 2 ^ s := Nat.two_pow_pos s
  have e2 : y = (y / 4294967296 % 4294967296 * 4294967296 + y % 4294967296) + 2 ^ s * (4294967296 * (2 ^ (32 - s) * (y / 18446744073709551616))) := by
    have e3 : 2 ^ s * (4294967296 * (2 ^ (32 - s) * (y / 18446744073709551616))) = 18446744073709551616 * (y / 18446744073709551616) := by
      have : 2 ^ s * (4294967296 * (2 ^ (32 - s) * (y / 18446744073709551616))) = (2 ^ s * 2 ^ (32 - s)) * (4294967296 * (y / 18446744073709551616)) := by grind
      rw [this, e1]; omega
    rw [e3]; omega
  conv => rhs; rw [e2]
  rw [Nat.add_mul_div_left _ _ hp, Nat.add_mul_mod_self_left]
set_option maxHeartbeats 2000000 in
theorem natdiv_fn {a b : Option Addr} {ca cb : Nat} {l r : List UInt32} {h : Part} (hl : SlR u32R 1 h a ca l) (hr : SlR u32R 1 h b cb r) (hlb : l.length ≤ 400000) (hrb : r.length ≤ 400000) : FnR Tryz.prog 86 [.slice a l.length ca, .slice b r.length cb] h
    (fun v h' => ∃ a1 c1 a2 c2, v = .tuple #[.slice a1 (toL (vL l / vL r)).length c1, .slice a2 (toL (dr (vL l) (vL r))).length c2, .int .i64 (if vL r = 0 then 10 else 0)] ∧ SlR u32R 1 h' a1 c1 (toL (vL l / vL r)) ∧ SlR u32R 1 h' a2 c2 (toL (dr (vL l) (vL r)))) := by
  have t1 := tsz_le (d32 l) l.length
  have t2 := tsz_le (d32 r) r.length
  have x1 : l.take (tsz (d32 l) l.length) = toL (vL l) := trim_toL l
  have x2 : r.take (tsz (d32 r) r.length) = toL (vL r) := trim_toL r
  have n1 : (toL (vL l)).length ≤ 400000 := by rw [toL_len, ← tsz_nd]; omega
  have n2 : (toL (vL r)).length ≤ 400000 := by rw [toL_len, ← tsz_nd]; omega
  have m1 := toL_len (vL l)
  have m2 := toL_len (vL r)
  have v1 : vL (toL (vL l)) = vL l := vL_toL _
  have v2 : vL (toL (vL r)) = vL r := vL_toL _
  refine Fn.intro Tryz.func86 rfl Tryz.ntmps86 rfl (fun e he => ?_)
  refine J.weak [(0, _), (1, _)] ⟨rfl, rfl, trivial⟩ ?_
  have hh0 := Part.le.refl h
  refine Sr ?_
  refine Ru 3 rfl ?_
  refine JL.nil ?_
  refine J.seq ?_
  refine J.drawn mixed_ (by kernel_rfl) ?_
  refine Rq 2 rfl ?_
  refine JQ.callP ca_84 rfl (natsize_fn (by assumption)) rfl ?_
  refine JQ.ope (RunE.cut_h sl_30 (m := tsz (d32 l) l.length) rfl rfl rfl hl rfl (by omega)) rfl ?_
  rintro _ ⟨a8, c8, rfl, hA⟩
  rw [x1] at hA ⊢; generalize hXA : toL (vL l) = A at *; generalize vL l = X at *
  refine Rq 2 rfl ?_
  refine JQ.callP ca_84 rfl (natsize_fn (by assumption)) rfl ?_
  refine JQ.ope (RunE.cut_h sl_30 (m := tsz (d32 r) r.length) rfl rfl rfl hr rfl (by omega)) rfl ?_
  rintro _ ⟨a9, c9, rfl, hB⟩
  rw [x2] at hB ⊢; generalize hYB : toL (vL r) = B at *; generalize vL r = Y at *; have hXlt := vL_lt A; rw [v1] at hXlt; have hYlt := vL_lt B; rw [v2] at hYlt
  refine Rq 2 rfl ?_
  refine Nq [1, 0, 6, 5, 4] rfl ?_
  refine J.seq ?_
  refine J.block ?_
  refine Sr ?_
  refine Ru 4 rfl ?_
  refine JL.nil ?_
  refine Cs rfl (fun hc5 => ?_) fun hc5 => ?_
  ·
   have hY0 : Y = 0 := (by rcases Nat.eq_zero_or_pos Y with h0 | h0; exact h0; have := nd_pos Y h0; omega); have hq : toL (X / Y) = [] := (by rw [hY0, Nat.div_zero]; rfl); have hd : toL (dr X Y) = [] := (by rw [dr, if_pos hY0]; rfl)
   refine Sr ?_
   refine Ru 3 rfl ?_
   refine Nk [6, 5, 4, 1, 0] rfl ?_
   rw [hq, hd, if_pos hY0]; exact J.retR (RetV.three rfl rfl rfl rfl) ⟨none, 0, none, 0, rfl, SlR.nil_, SlR.nil_⟩
  have hY0 : 0 < Y := (by rcases Nat.eq_zero_or_pos Y with h0 | h0; (exfalso; rw [h0, nd_zero] at m2; omega); exact h0)
  refine Sr ?_
  refine Ru 2 rfl ?_
  refine JL.callP ca_47 rfl (natcmp_fn hA hB) rfl ?_
  rw [v1, v2]
  refine Ru 2 rfl ?_
  refine Nk [26, 1, 0, 6, 5, 4] rfl ?_
  refine Cs rfl (fun hc7 => ?_) fun hc7 => ?_
  ·
   have hXY : X < Y := (by unfold cmpI3 at hc7; split at hc7; assumption; split at hc7 <;> omega); have hq : toL (X / Y) = [] := (by rw [Nat.div_eq_of_lt hXY]; rfl); have hd : toL (dr X Y) = toL X := (by rw [dr, if_neg (by omega), Nat.mod_eq_of_lt hXY])
   refine Sr ?_
   refine Ru 1 rfl ?_
   refine JL.callR ca_59 rfl (nattrim_fn' hA rfl (by omega)) rfl ?_
   rintro _ h8 hle8 ⟨ra, rc, rfl, hR⟩
   replace hl := hl.mono hle8
   replace hr := hr.mono hle8
   replace hh0 := hh0.mono hle8
   replace hA := hA.mono hle8
   replace hB := hB.mono hle8
   rw [v1, ← hd] at hR ⊢
   refine Ru 3 rfl ?_
   refine Nk [6, 5, 4, 1, 0] rfl ?_
   rw [hq, if_neg (by omega)]; exact J.retR (RetV.three rfl rfl rfl rfl) ⟨none, 0, _, _, rfl, SlR.nil_, hR⟩
  have hXY : Y ≤ X := (by unfold cmpI3 at hc7; split at hc7; omega; omega)
  refine Sr ?_
  refine Ru 4 rfl ?_
  refine Nk [33, 1, 0, 6, 5, 4] rfl ?_
  refine Cs rfl (fun hc9 => ?_) fun hc9 => ?_
  ·
   refine Sr ?_
   refine Ru 2 rfl ?_
   refine JL.ope (RunE.index sl_30 rfl rfl (show _ = ((0 : Nat) : Int) from rfl) (by assumption) rfl (by omega)) rfl ?_
   rintro _ ⟨b10, o10, hi10, rfl, hE10⟩
   refine JL.op (RunV.ld_u32 ag_103 rfl (by assumption)) rfl ?_
   rw [d32_at]
   refine JL.callR ca_120 rfl (natshort_fn (b := d32 B 0) hA (by have := vL_digit B 0; rw [v2] at this; rw [show B.length = 1 by omega] at hYlt; simp only [Nat.pow_zero, Nat.div_one, Nat.pow_one] at this hYlt; omega) (d32_lt B 0) (by omega)) rfl ?_
   rintro _ h12 hle12 ⟨qa, qc, ra, rc, rfl, hQ, hR⟩
   replace hl := hl.mono hle12
   replace hr := hr.mono hle12
   replace hh0 := hh0.mono hle12
   replace hA := hA.mono hle12
   replace hB := hB.mono hle12
   have hb0 : d32 B 0 = Y := (by have := vL_digit B 0; rw [v2] at this; rw [show B.length = 1 by omega] at hYlt; simp only [Nat.pow_zero, Nat.div_one, Nat.pow_one] at this hYlt; omega); rw [v1, hb0] at hQ hR ⊢; have hd : X % Y = dr X Y := (by rw [dr, if_neg (by omega)]); rw [hd] at hR ⊢
   refine Ru 6 rfl ?_
   refine Nk [6, 5, 4, 1, 0] rfl ?_
   rw [if_neg (by omega)]; exact J.retR (RetV.three rfl rfl rfl rfl) ⟨_, _, _, _, rfl, hQ, hR⟩
  have hB2 : 2 ≤ B.length := (by omega)
  refine J.skip ?_
  refine Sr ?_
  refine Ru 3 rfl ?_
  refine JL.op si_ rfl ?_
  refine JL.ope (RunE.index (m := B.length - 1) sl_30 rfl rfl (by omega) hB rfl (by omega)) rfl ?_
  rintro _ ⟨b13, o13, hi13, rfl, hE13⟩
  refine JL.op (RunV.ld_u32 ag_103 rfl (by assumption)) rfl ?_
  rw [d32_at]; obtain ⟨s, hs⟩ : ∃ s, s = 32 - bl (d32 B (B.length - 1)) := ⟨_, rfl⟩; have hdtop : d32 B (B.length - 1) = Y / 4294967296 ^ (B.length - 1) := (by rw [← vL_digit, v2]; exact Nat.mod_eq_of_lt (Nat.div_lt_of_lt_mul (by rw [← Nat.pow_succ, show (B.length - 1).succ = B.length by omega]; exact hYlt))); obtain ⟨s31, hV1, hV2, hd0, hdB⟩ := norm_ok m2 hY0 hdtop hs; have h2s := two_le32 s s31
  refine JL.callP ca_121 rfl (lz_fn hdB) rfl ?_
  rw [← hs]
  refine JL.op z41_ rfl ?_
  refine Ru 1 rfl ?_
  refine Nk [7, 1, 0, 6, 5, 4] rfl ?_
  refine J.seq ?_
  refine J.held ([]) 11 mixed_ rfl (fun h00 => ?_)
  refine JH.take 0 rfl (by kernel_rfl) (by kernel_rfl) (by kernel_rfl) (fun _ _ _ _ hh => hh) (br_ h00) (RunV.move rfl) rfl ?_
  refine JH.take 1 rfl (by kernel_rfl) (by kernel_rfl) (by kernel_rfl) (fun _ _ _ _ hh => hh) (br_ h00) (RunV.move rfl) rfl ?_
  refine JH.take 3 rfl (by kernel_rfl) (by kernel_rfl) (by kernel_rfl) (fun _ _ _ _ hh => hh) (br_ h00) (RunV.move rfl) rfl ?_
  refine JH.take 4 rfl (by kernel_rfl) (by kernel_rfl) (by kernel_rfl) (fun _ _ _ _ hh => hh) (br_ h00) (RunV.move rfl) rfl ?_
  refine JH.take 6 rfl (by kernel_rfl) (by kernel_rfl) (by kernel_rfl) (fun _ _ _ _ hh => hh) (br_ h00) (RunV.move rfl) rfl ?_
  refine JH.take 7 rfl (by kernel_rfl) (by kernel_rfl) (by kernel_rfl) (fun _ _ _ _ hh => hh) (br_ h00) (RunV.len sl_30 rfl) rfl ?_
  refine JH.all1 2 (by kernel_rfl) rfl ?_
  unfold One
  refine JL.call ca_122 rfl (natshifted_fn hA s31 (by omega)) pt_ rfl ?_
  rintro _ h16 Lo16 hle16 ⟨ub, rfl, rfl⟩
  replace hl := hl.mono hle16
  replace hr := hr.mono hle16
  replace hh0 := hh0.mono hle16
  replace hA := hA.mono hle16
  replace hB := hB.mono hle16
  refine JL.nil ⟨(br_ h00), ?_⟩
  refine JH.all1 5 (by kernel_rfl) rfl ?_
  unfold One
  refine JL.call ca_122 rfl (natshifted_fn hB s31 (by omega)) pt_ rfl ?_
  rintro _ h17 Lo17 hle17 ⟨vb, rfl, rfl⟩
  replace hl := hl.mono hle17
  replace hr := hr.mono hle17
  replace hh0 := hh0.mono hle17
  replace hA := hA.mono hle17
  replace hB := hB.mono hle17
  refine JL.nil ⟨(br_ h00), ?_⟩
  refine JH.take 8 rfl (by kernel_rfl) (by kernel_rfl) (by kernel_rfl) (fun _ _ _ _ hh => hh) (br_ h00) (RunV.cutv sl_30 rfl rfl rfl (by omega) (by omega)) rfl ?_
  refine JH.take 9 rfl (by kernel_rfl) (by kernel_rfl) (by kernel_rfl) (fun _ _ _ _ hh => hh) (br_ h00) (RunV.assign rfl) rfl ?_
  refine JH.take 10 rfl (by kernel_rfl) (by kernel_rfl) (by kernel_rfl) (fun _ _ _ _ hh => hh) (br_ h00) (RunV.assign rfl) rfl ?_
  refine JH.done (by kernel_rfl) ?_
  refine Kp [9, 8, 7, 1, 0, 6, 5, 4] rfl ?_
  refine Sr ?_
  have hle12 : B.length ≤ A.length := (by have := nd_mono hY0 hXY; omega); have hXU := u_bound hXlt h2s.2 (by omega) hle12 hV2; have hV0 : 0 < Y * 2 ^ s := Nat.mul_pos hY0 (Nat.two_pow_pos s); rw [v1, v2]; refine JL.pub32 (a := some ⟨vb, 0, none⟩) (l := digN (B.length + 1) (Y * 2 ^ s)) dl_ (by rw [digN_len]) (by rw [digN_len]; omega) (fun h9 hle9 hP9 => ?_); replace hl := hl.mono hle9; replace hr := hr.mono hle9; replace hh0 := hh0.mono hle9; replace hA := hA.mono hle9; replace hB := hB.mono hle9; have hV9 := hP9.takeN B.length; rw [digN_take B.length 1] at hV9; have hvV : vL (digN B.length (Y * 2 ^ s)) = Y * 2 ^ s := (by rw [vL_digN]; exact Nat.mod_eq_of_lt hV1); obtain ⟨M, hM⟩ : ∃ M, M = A.length - B.length + 1 := ⟨_, rfl⟩; rw [← hM] at hXU
  refine Ru 4 rfl ?_
  refine JL.op si_ rfl ?_
  refine JL.op ai_ rfl ?_
  refine JL.make1 mk_30 rfl rfl (m := M) (by omega) (by omega) (by omega) rfl rfl (fun bq => ?_); rw [ws_zero]
  refine Ru 1 rfl ?_
  refine Nk [10, 9, 8, 7, 1, 6, 5, 4] rfl ?_
  refine J.seq ?_
  refine Sr ?_
  refine Ru 2 rfl ?_
  refine JL.op si_ rfl ?_
  refine Ru 1 rfl ?_
  refine JL.nil ?_
  refine J.block ?_
  refine J.loop (fun t_ S_ h_ L_ => ∃ (g : Part) (j w : Nat) (qs : List UInt32), t_ = j + 1 ∧ S_ = [(1, .slice a9 B.length c9), (7, .int .u64 s), (8, .slice (some ⟨ub, 0, none⟩) (A.length + 1) (A.length + 1)), (9, .slice (some ⟨vb, 0, none⟩) B.length (B.length + 1)), (10, .slice (some ⟨bq, 0, none⟩) M M), (11, .int .i64 ((j : Int) - 1))] ∧ g = h_ ∧ L_ = [.row (some ⟨bq, 0, none⟩) M 103 1 M (ws .u32 qs), .row (some ⟨ub, 0, none⟩) (A.length + 1) 103 1 (A.length + 1) (ws .u32 (digN (A.length + 1) w))] ∧ (h.le g ∧ SlR u32R 1 g (some ⟨vb, 0, none⟩) (B.length + 1) (digN B.length (Y * 2 ^ s)) ∧ j ≤ M ∧ qs.length = M ∧ w = X * 2 ^ s % (Y * 2 ^ s * 4294967296 ^ j) ∧ vL qs = X * 2 ^ s / (Y * 2 ^ s * 4294967296 ^ j) * 4294967296 ^ j)) ⟨_, _, ?_, ⟨_, M, X * 2 ^ s, _, rfl, rfl, rfl, rfl, ⟨hh0, hV9, Nat.le_refl _, digN_len _ _, by rw [Nat.mod_eq_of_lt hXU], by rw [vL_digN, Nat.div_eq_of_lt hXU]; simp⟩⟩⟩ ?_
  ·
   exact z2_
  rintro _ _ _ _ ⟨g, j, w, qs, rfl, rfl, rfl, rfl, hhg, hV9, hj, hql, hw0, hqv⟩
  refine J.seq ?_
  refine Sr ?_
  refine Ru 2 rfl ?_
  refine JL.nil ?_
  refine Cs rfl (fun hc19 => ?_) fun hc19 => ?_
  ·
   obtain ⟨i, rfl⟩ : ∃ i, j = i + 1 := ⟨j - 1, by omega⟩; have hwl : w < Y * 2 ^ s * 4294967296 ^ (i + 1) := (by rw [hw0]; exact Nat.mod_lt _ (Nat.mul_pos hV0 (Nat.pow_pos (by decide)))); obtain ⟨s1, s2⟩ := q_step (U := X * 2 ^ s) (k := i) hV0; rw [← hw0] at s1 s2; have htq := dq_lt hwl; obtain ⟨t, ht⟩ : ∃ t, t = w / (Y * 2 ^ s * 4294967296 ^ i) := ⟨_, rfl⟩; rw [← ht] at s2 htq; have hz : d32 qs i = 0 := (by rw [← vL_digit, hqv, Nat.pow_succ, Nat.mul_comm (4294967296 ^ i), ← Nat.mul_assoc, Nat.mul_div_cancel _ (Nat.pow_pos (by decide))]; exact Nat.mul_mod_left _ _); have hp := vL_put qs i t (by omega); rw [hz, Nat.div_eq_of_lt htq] at hp
   refine J.skip ?_
   refine J.seq ?_
   refine J.block ?_
   refine Rg ?_
   refine Ru 7 rfl ?_
   refine JL.op ai_ rfl ?_
   refine JL.op ai_ rfl ?_
   refine JL.op (RunV.window sl_30 (k := i) (m := i + B.length + 1) rfl rfl rfl (by omega) (by omega) (by omega) (by omega) (by omega)) rfl ?_
   rw [show i + B.length + 1 - i = B.length + 1 by omega]
   refine Ru 1 rfl ?_
   refine JL.call ca_123 rfl (natstep_fn' (N := A.length + 1) (w := w) (k := i) hV9 (by rw [digN_len]) hB2 (by rw [hvV]; omega) (by rw [hvV]; exact hwl) (by omega) (by omega)) pt_ rfl ?_
   rintro _ h20 Lo20 hle20 ⟨rfl, rfl⟩
   replace hhg := hhg.mono hle20
   replace hV9 := hV9.mono hle20
   rw [hvV, ← ht]
   refine JL.op (RunV.index_at sl_30 (m := i) rfl rfl (by omega) (by omega)) rfl ?_
   refine JL.storeW t ag_103 rfl rfl (by rw [Nat.mod_eq_of_lt htq]) dl_ (by omega) ?_
   refine JL.nil ?_
   refine Rg ?_
   refine Ru 1 rfl ?_
   refine JL.op si_ rfl ?_
   refine Ru 1 rfl ?_
   refine JL.nil ?_
   refine ⟨_, ?_, _, ?_, ⟨_, i, _, _, rfl, rfl, rfl, rfl, ⟨hhg, hV9, by omega, by rw [List.length_set]; exact hql, s1, by rw [s2, Nat.add_mul, Nat.mul_assoc, Nat.mul_comm 4294967296, ← Nat.pow_succ, ← hqv]; omega⟩⟩⟩
   ·
    omega
   exact z2_
  have hj0 : j = 0 := (by omega); subst hj0; rw [Nat.pow_zero, Nat.mul_one] at hw0 hqv; rw [Nat.mul_one, Nat.mul_div_mul_right _ _ (Nat.two_pow_pos s)] at hqv; rw [Nat.mul_mod_mul_right] at hw0; have hR0 : w / 2 ^ s = dr X Y := (by rw [hw0, dr, if_neg (by omega)]; exact Nat.mul_div_cancel _ (Nat.two_pow_pos s)); have hRl : dr X Y < 4294967296 ^ B.length := (by rw [dr, if_neg (by omega)]; exact Nat.lt_trans (Nat.mod_lt _ hY0) hYlt)
  refine J.exit ?_
  refine Kp [1, 7, 8, 10] rfl ?_
  refine Sr ?_
  refine Ru 2 rfl ?_
  refine JL.make1 mk_30 rfl rfl (m := B.length) (by omega) (by omega) (by omega) rfl rfl (fun br => ?_); rw [ws_zero]
  refine Ru 1 rfl ?_
  refine JL.nil ?_
  refine J.seq ?_
  refine Sr ?_
  refine Ru 3 rfl ?_
  refine Nk [94, 93, 12, 7, 8, 10] rfl ?_
  refine J.block ?_
  refine J.loop (fun t_ S_ h_ L_ => ∃ (i : Nat) (out : List UInt32), t_ = B.length - i ∧ S_ = [(7, .int .u64 s), (8, .slice (some ⟨ub, 0, none⟩) (A.length + 1) (A.length + 1)), (10, .slice (some ⟨bq, 0, none⟩) M M), (12, .slice (some ⟨br, 0, none⟩) B.length B.length), (93, .int .i64 B.length), (94, .int .i64 i)] ∧ g = h_ ∧ L_ = [.row (some ⟨br, 0, none⟩) B.length 103 1 B.length (ws .u32 out), .row (some ⟨bq, 0, none⟩) M 103 1 M (ws .u32 qs), .row (some ⟨ub, 0, none⟩) (A.length + 1) 103 1 (A.length + 1) (ws .u32 (digN (A.length + 1) w))] ∧ (i ≤ B.length ∧ out.length = B.length ∧ vL out = dr X Y % 4294967296 ^ i)) ⟨_, _, ?_, ⟨0, _, rfl, rfl, rfl, rfl, ⟨by omega, digN_len _ _, by rw [vL_digN]; simp [Nat.mod_one]⟩⟩⟩ ?_
  ·
   exact z5_
  rintro _ _ _ _ ⟨i, out, rfl, rfl, rfl, rfl, hi, hol, hov⟩
  refine Sr ?_
  refine Ru 1 rfl ?_
  refine JL.nil ?_
  refine J.seq ?_
  refine Cs rfl (fun hc23 => ?_) fun hc23 => ?_
  ·
   have hi' : i < B.length := (by omega); have hu1 := digN_at (A.length + 1) w (i + 1) (by omega); have hu0 := digN_at (A.length + 1) w i (by omega); have rd := r_digit (w := w) (i := i) s31; rw [hR0] at rd; obtain ⟨d1, hd1⟩ : ∃ d, d = w / 4294967296 ^ (i + 1) % 4294967296 := ⟨_, rfl⟩; obtain ⟨d0', hd0'⟩ : ∃ d, d = w / 4294967296 ^ i % 4294967296 := ⟨_, rfl⟩; rw [← hd1] at hu1 rd; rw [← hd0'] at hu0 rd; have hb1 : d1 < 4294967296 := (by omega); have hb2 : d0' < 4294967296 := (by omega); have hzo : d32 out i = 0 := vL_zero_above (m := i) (by rw [hov]; exact Nat.mod_lt _ (Nat.pow_pos (by decide))) i (Nat.le_refl _); have hp := vL_put out i (dr X Y / 4294967296 ^ i % 4294967296) (by omega); rw [hzo, Nat.div_eq_of_lt (show dr X Y / 4294967296 ^ i % 4294967296 < 4294967296 by omega)] at hp; obtain ⟨y, hy⟩ : ∃ y, y = d1 * 4294967296 + d0' := ⟨_, rfl⟩; rw [← hy] at rd
   refine J.skip ?_
   refine J.seq ?_
   refine J.block ?_
   refine Sr ?_
   refine Ru 2 rfl ?_
   refine JL.nil ?_
   refine J.held ([.row (some ⟨ub, 0, none⟩) (A.length + 1) 103 1 (A.length + 1) (ws .u32 (digN (A.length + 1) w))]) 20 mixed_ rfl (fun h00 => ?_)
   refine JH.take 0 rfl (by kernel_rfl) (by kernel_rfl) (by kernel_rfl) (fun _ _ _ _ hh => hh) (br_ h00) (RunV.move rfl) rfl ?_
   refine JH.take 1 rfl (by kernel_rfl) (by kernel_rfl) (by kernel_rfl) (fun _ _ _ _ hh => hh) (br_ h00) (RunV.move rfl) rfl ?_
   refine JH.take 2 rfl (by kernel_rfl) (by kernel_rfl) (by kernel_rfl) (fun _ _ _ _ hh => hh) (br_ h00) (RunV.move rfl) rfl ?_
   refine JH.take 3 rfl (by kernel_rfl) (by kernel_rfl) (by kernel_rfl) (fun _ _ _ _ hh => hh) (br_ h00) (RunV.move rfl) rfl ?_
   refine JH.take 4 rfl (by kernel_rfl) (by kernel_rfl) (by kernel_rfl) (fun _ _ _ _ hh => hh) (br_ h00) ai_ rfl ?_
   refine JH.take 5 rfl (by kernel_rfl) (by kernel_rfl) (by kernel_rfl) (fun _ _ _ _ hh => hh) (br_ h00) (RunV.index_at sl_30 (m := i + 1) rfl rfl (by omega) (by omega)) rfl ?_
   refine JH.take 6 rfl (by kernel_rfl) (by kernel_rfl) (by kernel_rfl) (fun _ _ _ _ hh => hh) (br_ h00) (RunV.wload ag_103 rfl mm_ (by rw [digN_len]; omega)) rfl ?_
   rw [hu1]
   refine JH.take 7 rfl (by kernel_rfl) (by kernel_rfl) (by kernel_rfl) (fun _ _ _ _ hh => hh) (br_ h00) z9_ rfl ?_
   refine JH.take 8 rfl (by kernel_rfl) (by kernel_rfl) (by kernel_rfl) (fun _ _ _ _ hh => hh) (br_ h00) (RunV.shl_u64 4294967296 rfl rfl (by decide) (by decide) (by decide) (by omega) (by omega)) rfl ?_
   refine JH.take 9 rfl (by kernel_rfl) (by kernel_rfl) (by kernel_rfl) (fun _ _ _ _ hh => hh) (br_ h00) (RunV.move rfl) rfl ?_
   refine JH.take 10 rfl (by kernel_rfl) (by kernel_rfl) (by kernel_rfl) (fun _ _ _ _ hh => hh) (br_ h00) (RunV.move rfl) rfl ?_
   refine JH.take 11 rfl (by kernel_rfl) (by kernel_rfl) (by kernel_rfl) (fun _ _ _ _ hh => hh) (br_ h00) (RunV.index_at sl_30 (m := i) rfl rfl (by omega) (by omega)) rfl ?_
   refine JH.take 12 rfl (by kernel_rfl) (by kernel_rfl) (by kernel_rfl) (fun _ _ _ _ hh => hh) (br_ h00) (RunV.wload ag_103 rfl mm_ (by rw [digN_len]; omega)) rfl ?_
   rw [hu0]
   refine JH.take 13 rfl (by kernel_rfl) (by kernel_rfl) (by kernel_rfl) (fun _ _ _ _ hh => hh) (br_ h00) z9_ rfl ?_
   refine JH.take 14 rfl (by kernel_rfl) (by kernel_rfl) (by kernel_rfl) (fun _ _ _ _ hh => hh) (br_ h00) (RunV.join_u64 32 4294967296 rfl rfl (by decide) (by omega) (by omega) (by omega) (by omega) (by omega) (by omega)) rfl ?_
   rw [show (d1 : Int) * 4294967296 + (d0' : Int) = (y : Int) by omega]
   refine JH.take 15 rfl (by kernel_rfl) (by kernel_rfl) (by kernel_rfl) (fun _ _ _ _ hh => hh) (br_ h00) (RunV.move rfl) rfl ?_
   refine JH.take 16 rfl (by kernel_rfl) (by kernel_rfl) (by kernel_rfl) (fun _ _ _ _ hh => hh) (br_ h00) (RunV.shr_u64 ((2 ^ s : Nat) : Int) rfl rfl (by omega) (by omega) (by rw [Int.toNat_natCast, Int.natCast_pow]; rfl)) rfl ?_
   refine JH.take 17 rfl (by kernel_rfl) (by kernel_rfl) (by kernel_rfl) (fun _ _ _ _ hh => hh) (br_ h00) (RunV.toW (y / 2 ^ s) cv_63_103 rfl (by rw [Int.natCast_ediv])) rfl ?_
   refine JH.take 18 rfl (by kernel_rfl) (by kernel_rfl) (by kernel_rfl) (fun _ _ _ _ hh => hh) (br_ h00) (RunV.index_at sl_30 (m := i) rfl rfl (by omega) (by omega)) rfl ?_
   refine JH.all1 19 (by kernel_rfl) rfl ?_
   unfold One
   refine JL.storeW (dr X Y / 4294967296 ^ i % 4294967296) ag_103 rfl rfl (by rw [rd, Nat.mod_mod]) dl_ (by omega) ?_
   refine JL.nil ⟨(br_ h00), ?_⟩
   refine JH.done (by kernel_rfl) ?_
   refine Rg ?_
   refine JL.op ai_ rfl ?_
   refine Ru 1 rfl ?_
   refine JL.nil ?_
   refine ⟨_, ?_, _, ?_, ⟨i + 1, _, rfl, rfl, rfl, rfl, ⟨by omega, by rw [List.length_set]; exact hol, by rw [Nat.mod_pow_succ, Nat.mul_comm (4294967296 ^ i), ← hov]; omega⟩⟩⟩
   ·
    omega
   exact z5_
  have hie : i = B.length := (by omega); rw [hie, Nat.mod_eq_of_lt hRl] at hov
  refine J.exit ?_
  refine Kp [10, 12] rfl ?_
  refine Sr ?_
  refine JL.pub32 (a := some ⟨bq, 0, none⟩) (l := qs) dl_ hql.symm (by omega) (fun hp hlep hPq => ?_); replace hhg := hhg.mono hlep; replace hV9 := hV9.mono hlep; refine JL.pub32 (a := some ⟨br, 0, none⟩) (l := out) dl_ hol.symm (by omega) (fun hp2 hlep2 hPr => ?_); replace hhg := hhg.mono hlep2; replace hV9 := hV9.mono hlep2; replace hPq := hPq.mono hlep2
  refine Ru 1 rfl ?_
  refine JL.callR ca_59 rfl (nattrim_fn' hPq hql.symm (by omega)) rfl ?_
  rintro _ h25 hle25 ⟨qa, qc, rfl, hQ⟩
  replace hhg := hhg.mono hle25
  replace hV9 := hV9.mono hle25
  replace hPq := hPq.mono hle25
  replace hPr := hPr.mono hle25
  refine Ru 1 rfl ?_
  refine JL.callR ca_59 rfl (nattrim_fn' hPr hol.symm (by omega)) rfl ?_
  rintro _ h26 hle26 ⟨ra, rc, rfl, hR⟩
  replace hhg := hhg.mono hle26
  replace hV9 := hV9.mono hle26
  replace hPq := hPq.mono hle26
  replace hPr := hPr.mono hle26
  replace hQ := hQ.mono hle26
  refine Ru 3 rfl ?_
  refine Nk [6, 5, 4] rfl ?_
  rw [hqv] at hQ ⊢; rw [hov] at hR ⊢; rw [if_neg (by omega)]; exact J.retR (RetV.three rfl rfl rfl rfl) ⟨_, _, _, _, rfl, hQ, hR⟩
end Go.Proofs.YtmngjbefnloljaaGreatDoor
namespace Go.Proofs.YtmngjbefnloljaaGreatDoor
open Go Go.RowKit
set_option maxRecDepth 100000
theorem ca_86 : callT Tryz.prog 86 = true := by kernel_rfl
theorem ca_88 : callT Tryz.prog 88 = true := by kernel_rfl
theorem bl_len' (l : List UInt32) : bl (vL l) ≤ 32 * l.length := by
  have := vL_lt l
  rw [pow32] at this
  exact bl_le _ _ this
def powV (X E N : Nat) : Nat := if N = 0 then 0 else X ^ E % N
theorem bit_at (m : List UInt32) (i : Nat) : d32 m (i / 32) / 2 ^ (i % 32) % 2 = vL m / 2 ^ i % 2 := by
  rw [← vL_digit]
  have e : vL m / 2 ^ i = vL m / 4294967296 ^ (i / 32) / 2 ^ (i % 32) := by
    rw [Nat.div_div_eq_div_mul, pow32, ← Nat.pow_add]; congr 2; omega
  rw [e]
  generalize vL m / 4294967296 ^ (i / 32) = y
  have hr : i % 32 < 32 := Nat.mod_lt _ (by decide)
  generalize i % 32 = r at *
  have e1 : 2 ^ r * (2 * 2 ^ (31 - r)) = 4294967296 := by rw [← Nat.pow_succ', ← Nat.pow_add, show r + (31 - r).succ = 32 by omega]
  have hp : 0 < 2 ^ r := Nat.two_pow_pos r
  have e2 : y = y % 4294967296 + 2 ^ r * (2 * (2 ^ (31 - r) * (y / 4294967296))) := by
    have e3 : 2 ^ r * (2 * (2 ^ (31 - r) * (y / 4294967296))) = (2 ^ r * (2 * 2 ^ (31 - r))) * (y / 4294967296) := by grind
    rw [e3, e1]; omega
  conv => rhs; rw [e2]
  rw [Nat.add_mul_div_left _ _ hp, Nat.add_mul_mod_self_left]
theorem half_bit (E i : Nat) : E / 2 ^ i = 2 * (E / 2 ^ (i + 1)) + E / 2 ^ i % 2 := by
  rw [Nat.pow_succ, ← Nat.div_div_eq_div_mul]; omega
theorem pow_sq (X E N i : Nat) : (X ^ (E / 2 ^ (i + 1)) % N) * (X ^ (E / 2 ^ (i + 1)) % N) % N = X ^ (2 * (E / 2 ^ (i + 1))) % N := by
  rw [← Nat.mul_mod, ← Nat.pow_add, Nat.two_mul]
theorem pow_one (X Z N : Nat) : (X ^ Z % N) * (X % N) % N = X ^ (Z + 1) % N := by
  rw [← Nat.mul_mod, ← Nat.pow_succ]
theorem toL_le {v : Nat} {r : List UInt32} (h : v < vL r) : (toL v).length ≤ r.length := by
  rw [toL_len]; exact nd_le _ _ (Nat.lt_trans h (vL_lt r))
theorem mul_len {r : List UInt32} {x y N : Nat} (h0 : 0 < vL r) (hx : x < vL r) (hy : y < vL r) (hr : r.length ≤ N) : (toL (x * y)).length ≤ N + N := by
  rw [toL_len]
  exact Nat.le_trans (nd_le _ _ (mul_bound (Nat.lt_trans hx (vL_lt r)) (Nat.lt_trans hy (vL_lt r)))) (by omega)
theorem natpow_fn {a b d : Option Addr} {ca cb cd : Nat} {l m r : List UInt32} {h : Part} (hl : SlR u32R 1 h a ca l) (hm : SlR u32R 1 h b cb m) (hr : SlR u32R 1 h d cd r) (hlb : l.length ≤ 100000) (hmb : m.length ≤ 100000) (hrb : r.length ≤ 100000) : FnR Tryz.prog 41 [.slice a l.length ca, .slice b m.length cb, .slice d r.length cd] h
    (fun v h' => ∃ a1 c1, v = .tuple #[.slice a1 (toL (powV (vL l) (vL m) (vL r))).length c1, .int .i64 (if vL r = 0 then 10 else 0)] ∧ SlR u32R 1 h' a1 c1 (toL (powV (vL l) (vL m) (vL r)))) := by
  have hbl := bl_len' m
  have v1 : vL (toL 1) = 1 := vL_toL 1
  have l1 : (toL 1).length = 1 := by kernel_rfl
  refine Fn.intro Tryz.func41 rfl Tryz.ntmps41 rfl (fun e he => ?_)
  refine J.weak [(0, _), (1, _), (2, _)] ⟨rfl, rfl, rfl, trivial⟩ ?_
  have hh0 := Part.le.refl h
  refine Sr ?_
  refine Ru 2 rfl ?_
  refine JL.nil ?_
  refine Sr ?_
  refine Ru 2 rfl ?_
  refine JL.callR ca_86 rfl (natdiv_fn hl hr (by omega) (by omega)) rfl ?_
  rintro _ h1 hle1 ⟨qa, qc, xa, xc, rfl, hQ, hX⟩
  replace hl := hl.mono hle1
  replace hm := hm.mono hle1
  replace hr := hr.mono hle1
  replace hh0 := hh0.mono hle1
  refine Ru 7 rfl ?_
  refine Nk [10, 9, 7, 6, 1, 2] rfl ?_
  refine J.seq ?_
  refine Sr ?_
  refine Ru 2 rfl ?_
  refine JL.nil ?_
  refine Cs rfl (fun hc2 => ?_) fun hc2 => ?_
  ·
   have hN0 : vL r = 0 := (by by_cases hz : vL r = 0; exact hz; rw [if_neg hz] at hc2; exact absurd rfl hc2); have hp : toL (powV (vL l) (vL m) (vL r)) = [] := (by rw [powV, if_pos hN0]; rfl)
   refine Sr ?_
   refine Ru 3 rfl ?_
   refine Nk [7, 6, 9, 1, 2] rfl ?_
   rw [hp]; exact J.retR (RetV.two rfl rfl rfl) ⟨none, 0, rfl, SlR.nil_⟩
  have hN0 : 0 < vL r := (by by_cases hz : vL r = 0; (rw [if_pos hz] at hc2; exact absurd hc2 (by decide)); omega); have hdr : ∀ z, dr z (vL r) = z % vL r := (fun z => if_neg (by omega)); rw [hdr] at hX ⊢
  refine J.skip ?_
  refine Sr ?_
  refine JL.callR ca_87 rfl (natOf_fn (n := 1) (by decide)) rfl ?_
  rintro _ h3 hle3 ⟨oa, oc, rfl, hO1⟩
  replace hl := hl.mono hle3
  replace hm := hm.mono hle3
  replace hr := hr.mono hle3
  replace hh0 := hh0.mono hle3
  replace hX := hX.mono hle3
  refine Ru 1 rfl ?_
  refine JL.callR ca_86 rfl (natdiv_fn hO1 hr (by omega) (by omega)) rfl ?_
  rintro _ h4 hle4 ⟨qa2, qc2, ya, yc, rfl, hQ2, hY⟩
  replace hl := hl.mono hle4
  replace hm := hm.mono hle4
  replace hr := hr.mono hle4
  replace hh0 := hh0.mono hle4
  replace hX := hX.mono hle4
  replace hO1 := hO1.mono hle4
  rw [v1, hdr] at hY ⊢
  refine Ru 7 rfl ?_
  refine Nk [12, 9, 7, 6, 1, 2] rfl ?_
  refine J.seq ?_
  refine Sr ?_
  refine Ru 1 rfl ?_
  refine JL.callP ca_40 rfl (natbits_fn (by assumption)) rfl ?_
  rw [nbits_vL]
  refine JL.op si_ rfl ?_
  refine Ru 1 rfl ?_
  refine JL.nil ?_
  refine J.block ?_
  refine J.loop (fun t_ S_ h_ L_ => ∃ (g : Part) (j : Nat) (O : List UInt32) (oa2 : Option Addr) (oc2 : Nat), t_ = j + 1 ∧ S_ = [(1, .slice b m.length cb), (2, .slice d r.length cd), (9, .slice xa (toL (vL l % vL r)).length xc), (12, .slice oa2 O.length oc2), (14, .int .i64 ((j : Int) - 1))] ∧ g = h_ ∧ L_ = [] ∧ (h.le g ∧ SlR u32R 1 g b cb m ∧ SlR u32R 1 g d cd r ∧ SlR u32R 1 g xa xc (toL (vL l % vL r)) ∧ SlR u32R 1 g oa2 oc2 O ∧ j ≤ bl (vL m) ∧ O = toL (vL l ^ (vL m / 2 ^ j) % vL r))) ⟨_, _, ?_, ⟨_, bl (vL m), _, ya, yc, rfl, rfl, rfl, rfl, ⟨hh0, hm, hr, hX, hY, Nat.le_refl _, by rw [Nat.div_eq_of_lt (lt_bl (vL m)), Nat.pow_zero]⟩⟩⟩ ?_
  ·
   exact z2_
  rintro _ _ _ _ ⟨g, j, O, oa2, oc2, rfl, rfl, rfl, rfl, hhg, hm, hr, hX, hO, hj, hOe⟩
  refine J.seq ?_
  refine Sr ?_
  refine Ru 2 rfl ?_
  refine JL.nil ?_
  refine Cs rfl (fun hc6 => ?_) fun hc6 => ?_
  ·
   obtain ⟨i, rfl⟩ : ∃ i, j = i + 1 := ⟨j - 1, by omega⟩; subst hOe; obtain ⟨Z, hZ⟩ : ∃ Z, Z = vL m / 2 ^ (i + 1) := ⟨_, rfl⟩; have hsq := pow_sq (vL l) (vL m) (vL r) i; have hhb := half_bit (vL m) i; have hba := bit_at m i; obtain ⟨bq, hbq⟩ : ∃ bq, bq = d32 m (i / 32) / 2 ^ (i % 32) := ⟨_, rfl⟩; have hbq2 : bq ≤ d32 m (i / 32) := (by rw [hbq]; exact Nat.div_le_self _ _); rw [← hbq] at hba; rw [← hZ] at hO hsq hhb; rw [← hZ]; have hlen1 := toL_le (r := r) (Nat.mod_lt (vL l ^ Z) hN0); have hlen2 := toL_le (r := r) (Nat.mod_lt (vL l) hN0); have hlen3 := toL_le (r := r) (Nat.mod_lt (vL l ^ (2 * Z)) hN0)
   refine J.skip ?_
   refine J.seq ?_
   refine J.block ?_
   refine Sr ?_
   refine Ru 2 rfl ?_
   refine JL.callR ca_88 rfl (natmul_fn hO hO (by omega) (by omega)) rfl ?_
   rintro _ h7 hle7 ⟨pa, pc, rfl, hP⟩
   replace hhg := hhg.mono hle7
   replace hm := hm.mono hle7
   replace hr := hr.mono hle7
   replace hX := hX.mono hle7
   replace hO := hO.mono hle7
   rw [vL_toL] at hP ⊢; have hlenP : (toL (vL l ^ Z % vL r * (vL l ^ Z % vL r))).length ≤ 200000 := (mul_len hN0 (Nat.mod_lt _ hN0) (Nat.mod_lt _ hN0) hrb)
   refine Ru 1 rfl ?_
   refine JL.callR ca_86 rfl (natdiv_fn hP hr (by omega) (by omega)) rfl ?_
   rintro _ h8 hle8 ⟨qa3, qc3, sa, sc, rfl, hQ3, hS⟩
   replace hhg := hhg.mono hle8
   replace hm := hm.mono hle8
   replace hr := hr.mono hle8
   replace hX := hX.mono hle8
   replace hO := hO.mono hle8
   replace hP := hP.mono hle8
   rw [vL_toL, hdr, hsq] at hS ⊢
   refine Ru 5 rfl ?_
   refine JL.nil ?_
   refine Sr ?_
   refine Ru 2 rfl ?_
   refine JL.op z12_ rfl ?_
   refine JL.ope (RunE.index (m := i / 32) sl_30 rfl rfl (by omega) hm rfl (by omega)) rfl ?_
   rintro _ ⟨b9, o9, hi9, rfl, hE9⟩
   refine JL.op (RunV.ld_u32 ag_103 rfl (by assumption)) rfl ?_
   rw [d32_at]; have bi32 := d32_lt m (i / 32)
   refine Ru 1 rfl ?_
   refine JL.op z22_ rfl ?_
   refine JL.op (RunV.shr_u32 ((2 ^ (i % 32) : Nat) : Int) rfl rfl (by omega) (by omega) (by rw [show ((((i + 1 : Nat) : Int) - 1) % 32).toNat = i % 32 by omega, Int.natCast_pow]; rfl)) rfl ?_
   rw [show ((d32 m (i / 32) : Nat) : Int) / ((2 ^ (i % 32) : Nat) : Int) = ((d32 m (i / 32) / 2 ^ (i % 32) : Nat) : Int) from rfl, ← hbq]
   refine JL.op (RunV.mask_u32 1 2 rfl rfl (by decide) (by decide) (by decide) (by omega) (by omega)) rfl ?_
   refine Ru 1 rfl ?_
   refine JL.nil ?_
   refine Cs rfl (fun hc11 => ?_) fun hc11 => ?_
   ·
    have hbit : vL m / 2 ^ i = 2 * Z + 1 := (by omega); have hp1 := pow_one (vL l) (2 * Z) (vL r)
    refine Rg ?_
    refine Ru 2 rfl ?_
    refine JL.callR ca_88 rfl (natmul_fn hS hX (by omega) (by omega)) rfl ?_
    rintro _ h12 hle12 ⟨pa4, pc4, rfl, hP4⟩
    replace hhg := hhg.mono hle12
    replace hm := hm.mono hle12
    replace hr := hr.mono hle12
    replace hX := hX.mono hle12
    replace hO := hO.mono hle12
    replace hP := hP.mono hle12
    replace hS := hS.mono hle12
    rw [vL_toL, vL_toL] at hP4 ⊢; have hlenP4 : (toL (vL l ^ (2 * Z) % vL r * (vL l % vL r))).length ≤ 200000 := (mul_len hN0 (Nat.mod_lt _ hN0) (Nat.mod_lt _ hN0) hrb)
    refine Ru 1 rfl ?_
    refine JL.callR ca_86 rfl (natdiv_fn hP4 hr (by omega) (by omega)) rfl ?_
    rintro _ h13 hle13 ⟨qa5, qc5, ta, tc, rfl, hQ5, hT⟩
    replace hhg := hhg.mono hle13
    replace hm := hm.mono hle13
    replace hr := hr.mono hle13
    replace hX := hX.mono hle13
    replace hO := hO.mono hle13
    replace hP := hP.mono hle13
    replace hS := hS.mono hle13
    replace hP4 := hP4.mono hle13
    rw [vL_toL, hdr, hp1, ← hbit] at hT ⊢
    refine Ru 5 rfl ?_
    refine Nk [12, 65, 58, 63, 62, 61, 60, 59, 57, 56, 55, 54, 53, 52, 51, 50, 49, 48, 46, 39, 44, 43, 42, 41, 40, 36, 35, 1, 2, 9, 14] rfl ?_
    refine Rg ?_
    refine Ru 1 rfl ?_
    refine JL.op si_ rfl ?_
    refine Ru 1 rfl ?_
    refine JL.nil ?_
    refine ⟨_, ?_, _, ?_, ⟨_, i, _, ta, tc, rfl, rfl, rfl, rfl, ⟨hhg, hm, hr, hX, hT, by omega, rfl⟩⟩⟩
    ·
     omega
    exact z2_
   have hbit : vL m / 2 ^ i = 2 * Z := (by omega); rw [← hbit] at hS ⊢
   refine J.skip ?_
   refine Kp [57, 56, 55, 54, 53, 52, 51, 50, 49, 48, 12, 46, 39, 44, 43, 42, 41, 40, 36, 35, 1, 2, 9, 14] rfl ?_
   refine Rg ?_
   refine Ru 1 rfl ?_
   refine JL.op si_ rfl ?_
   refine Ru 1 rfl ?_
   refine JL.nil ?_
   refine ⟨_, ?_, _, ?_, ⟨_, i, _, sa, sc, rfl, rfl, rfl, rfl, ⟨hhg, hm, hr, hX, hS, by omega, rfl⟩⟩⟩
   ·
    omega
   exact z2_
  have hj0 : j = 0 := (by omega); subst hj0; subst hOe; rw [Nat.pow_zero, Nat.div_one] at hO ⊢; have hpv : powV (vL l) (vL m) (vL r) = vL l ^ vL m % vL r := if_neg (by omega)
  refine J.exit ?_
  refine Kp [12] rfl ?_
  refine Sr ?_
  refine Ru 3 rfl ?_
  refine JL.nil ?_
  rw [hpv, if_neg (by omega)]; exact J.retR (RetV.two rfl rfl rfl) ⟨_, _, rfl, hO⟩
end Go.Proofs.YtmngjbefnloljaaGreatDoor
namespace Go.Proofs.YtmngjbefnloljaaGreatDoor
open Go Go.RowKit
theorem z36_ {p : Prop} (u : p := by repeat (first | exact trivial | refine ⟨rfl, ?_⟩ | refine ⟨(by exact some_int (by first | omega | (unfold nC; (repeat' split) <;> omega) | (unfold vC; (repeat' split) <;> omega) | (unfold lC; (repeat' split) <;> omega))), ?_⟩)) : p := u
end Go.Proofs.YtmngjbefnloljaaGreatDoor
namespace Go.Proofs.YtmngjbefnloljaaGreatDoor
open Go Go.RowKit
theorem ca_160 : callT Tryz.prog 160 = true := by kernel_rfl
theorem ca_161 : callT Tryz.prog 161 = true := by kernel_rfl
theorem between_fn (n lo hi : Int) (h : Part) : Pure Tryz.prog 161 [.int .i64 n, .int .i64 lo, .int .i64 hi] h (.bool (decide (lo ≤ n ∧ n ≤ hi))) := by
  refine Fn.intro Tryz.func161 rfl Tryz.ntmps161 rfl (fun e he => ?_)
  refine J.weak [(0, _), (1, _), (2, _)] ⟨rfl, rfl, rfl, trivial⟩ ?_
  refine Sr ?_
  refine Ru 1 rfl ?_
  refine JL.nil ?_
  refine Sr ?_
  refine Ru 4 rfl ?_
  apply An 10 14 4 [6] rfl rfl
  ·
   intro hb1 hc1
   refine Ru 4 rfl ?_
   exact Ae (am_t hb1 rfl) rfl
  ·
   exact fun hb1 _ => Ru 4 rfl (Ae (am_f hb1 rfl) rfl)
  refine Ru 1 rfl ?_
  refine JL.nil ?_
  exact J.retP (RetV.one rfl rfl) (by rw [Bool.decide_and]) rfl
def nC (b : Nat) : Int := if 192 ≤ b ∧ b ≤ 223 then 2 else if 224 ≤ b ∧ b ≤ 239 then 3 else if 240 ≤ b ∧ b ≤ 247 then 4 else 0
def lC (b : Nat) : Int := if 192 ≤ b ∧ b ≤ 223 then 128 else if 224 ≤ b ∧ b ≤ 239 then 2048 else if 240 ≤ b ∧ b ≤ 247 then 65536 else 0
def vC (b : Nat) : Int := if 192 ≤ b ∧ b ≤ 223 then b - 192 else if 224 ≤ b ∧ b ≤ 239 then b - 224 else if 240 ≤ b ∧ b ≤ 247 then b - 240 else b
def cont (s : List UInt8) (v : Int) : Nat → Int
  | 0 => v
  | j + 1 => cont s v j * 64 + byteAt s (j + 1) - 128
def contOk (s : List UInt8) : Nat → Bool
  | 0 => true
  | j + 1 => contOk s j && decide (128 ≤ byteAt s (j + 1) ∧ byteAt s (j + 1) ≤ 191)
theorem cont_bd (s : List UInt8) (v : Int) (h0 : 0 ≤ v) (h1 : v ≤ 255) : ∀ j, j ≤ 3 → contOk s j = true → 0 ≤ cont s v j ∧ cont s v j + 1 ≤ 300 * 64 ^ j
  | 0, _, _ => by simp [cont]; omega
  | j + 1, hj, hk => by
    simp only [contOk, Bool.and_eq_true, decide_eq_true_eq] at hk
    have := cont_bd s v h0 h1 j (by omega) hk.1
    have e : (64 : Int) ^ (j + 1) = 64 ^ j * 64 := by rw [Int.pow_succ]
    have hp : (1 : Int) ≤ 64 ^ j := Int.pow_pos (by decide)
    have hb := byteAt_lt s (j + 1)
    simp only [cont]
    omega
theorem contOk_le (s : List UInt8) {k : Nat} : ∀ {m}, k ≤ m → contOk s k = false → contOk s m = false
  | 0, h, e => by have : k = 0 := (by omega); subst this; exact e
  | m + 1, h, e => by
    by_cases hk : k = m + 1
    · subst hk; exact e
    · simp only [contOk, contOk_le s (k := k) (m := m) (by omega) e, Bool.false_and]
theorem contOk_no (s : List UInt8) (j : Nat) (h : ¬ (128 ≤ byteAt s (j + 1) ∧ byteAt s (j + 1) ≤ 191)) : contOk s (j + 1) = false := by
  simp only [contOk, decide_eq_false h, Bool.and_false]
def charM (s : List UInt8) : Int × Int :=
  if byteAt s 0 < 128 then (byteAt s 0, 1) else if nC (byteAt s 0) = 0 ∨ (s.length : Int) < nC (byteAt s 0) then (0, 0)
  else if contOk s (nC (byteAt s 0) - 1).toNat = false then (0, 0)
  else if cont s (vC (byteAt s 0)) (nC (byteAt s 0) - 1).toNat < lC (byteAt s 0) ∨ 1114111 < cont s (vC (byteAt s 0)) (nC (byteAt s 0) - 1).toNat ∨ (55296 ≤ cont s (vC (byteAt s 0)) (nC (byteAt s 0) - 1).toNat ∧ cont s (vC (byteAt s 0)) (nC (byteAt s 0) - 1).toNat ≤ 57343) then (0, 0)
  else (cont s (vC (byteAt s 0)) (nC (byteAt s 0) - 1).toNat, nC (byteAt s 0))
theorem dec_s (s : List UInt8) : Go.Lib.decodeL s = Go.Lib.decodeN s.length (byteAt s 0) (byteAt s 1) (byteAt s 2) (byteAt s 3) := by
  unfold Go.Lib.decodeL
  rw [Go.Lib.decode_at]
  simp only [get!_list, bsize, Nat.sub_zero, Nat.zero_add]
  rfl
def charR (s : List UInt8) : Int × Int := if chr s = 65533 ∧ wid s = 1 then (0, 0) else (chr s, wid s)
theorem pk_good {D : Nat × Nat} {a b : Nat} (h : D = (a, b)) (hb : b ≠ 1) : (if D.1 = 65533 ∧ D.2 = 1 then ((0, 0) : Int × Int) else (D.1, D.2)) = ((a : Int), (b : Int)) := by
  subst h; rw [if_neg (fun k => hb k.2)]
theorem pk_bad {D : Nat × Nat} (h : D = (65533, 1)) : (if D.1 = 65533 ∧ D.2 = 1 then ((0, 0) : Int × Int) else (D.1, D.2)) = (0, 0) := by
  subst h; rfl
theorem charM_eq (s : List UInt8) (h : s ≠ []) : charM s = charR s := by
  have hl := List.length_pos_iff.2 h
  have h0 := byteAt_lt s 0; have h1 := byteAt_lt s 1; have h2 := byteAt_lt s 2; have h3 := byteAt_lt s 3
  unfold charR
  simp only [chr, wid, dec_s]
  generalize hb0 : byteAt s 0 = b0 at *
  generalize hb1 : byteAt s 1 = b1 at *
  generalize hb2 : byteAt s 2 = b2 at *
  generalize hb3 : byteAt s 3 = b3 at *
  unfold charM
  rw [hb0]
  by_cases c0 : b0 < 128
  · rw [if_pos c0]
    simp only [Go.Lib.decodeN, if_pos c0]
    rw [if_neg (by omega)]
    rfl
  · rw [if_neg c0]
    by_cases c2 : 192 ≤ b0 ∧ b0 ≤ 223
    · have hn : nC b0 = 2 := if_pos c2
      have hv : vC b0 = b0 - 192 := if_pos c2
      have hll : lC b0 = 128 := if_pos c2
      rw [hn, hv, hll]
      simp only [show ((2 : Int) - 1).toNat = 1 from rfl, contOk, cont, Bool.true_and, Nat.zero_add, hb1, decide_eq_false_iff_not]
      by_cases k1 : 1 < s.length ∧ b1 / 64 = 2
      · have e : b0 / 32 = 6 ∧ 1 < s.length ∧ b1 / 64 = 2 := ⟨by omega, k1⟩
        by_cases g : b0 % 32 * 64 + b1 % 64 ≥ 128
        · rw [pk_good (a := b0 % 32 * 64 + b1 % 64) (b := 2) (by unfold Go.Lib.decodeN; rw [if_neg c0, if_pos e, if_pos g]) (by decide), if_neg (by omega), if_neg (by omega), if_neg (by omega)]
          simp only [Prod.mk.injEq]
          omega
        · rw [pk_bad (by unfold Go.Lib.decodeN; rw [if_neg c0, if_pos e, if_neg g]), if_neg (by omega), if_neg (by omega), if_pos (by omega)]
      · rw [pk_bad (by unfold Go.Lib.decodeN; rw [if_neg c0, if_neg (by omega), if_neg (by omega), if_neg (by omega)])]
        split
        · rfl
        · rw [if_pos (by omega)]
    · by_cases c3 : 224 ≤ b0 ∧ b0 ≤ 239
      · have hn : nC b0 = 3 := by unfold nC; rw [if_neg c2, if_pos c3]
        have hv : vC b0 = b0 - 224 := by unfold vC; rw [if_neg c2, if_pos c3]
        have hll : lC b0 = 2048 := by unfold lC; rw [if_neg c2, if_pos c3]
        rw [hn, hv, hll]
        simp only [show ((3 : Int) - 1).toNat = 2 from rfl, contOk, cont, Bool.true_and, Nat.zero_add, hb1, hb2, Bool.and_eq_false_iff, decide_eq_false_iff_not, Nat.reduceAdd]
        by_cases k1 : (1 < s.length ∧ b1 / 64 = 2) ∧ (2 < s.length ∧ b2 / 64 = 2)
        · have e : b0 / 16 = 14 ∧ (1 < s.length ∧ b1 / 64 = 2) ∧ (2 < s.length ∧ b2 / 64 = 2) := ⟨by omega, k1⟩
          by_cases g : b0 % 16 * 4096 + b1 % 64 * 64 + b2 % 64 ≥ 2048 ∧ (b0 % 16 * 4096 + b1 % 64 * 64 + b2 % 64 < 55296 ∨ (57344 ≤ b0 % 16 * 4096 + b1 % 64 * 64 + b2 % 64 ∧ b0 % 16 * 4096 + b1 % 64 * 64 + b2 % 64 ≤ 1114111))
          · rw [pk_good (a := b0 % 16 * 4096 + b1 % 64 * 64 + b2 % 64) (b := 3) (by unfold Go.Lib.decodeN; rw [if_neg c0, if_neg (by omega), if_pos e, if_pos g]) (by decide), if_neg (by omega), if_neg (by omega), if_neg (by omega)]
            simp only [Prod.mk.injEq]
            omega
          · rw [pk_bad (by unfold Go.Lib.decodeN; rw [if_neg c0, if_neg (by omega), if_pos e, if_neg g]), if_neg (by omega), if_neg (by omega), if_pos (by omega)]
        · rw [pk_bad (by unfold Go.Lib.decodeN; rw [if_neg c0, if_neg (by omega), if_neg (by omega), if_neg (by omega)])]
          split
          · rfl
          · rw [if_pos (by omega)]
      · by_cases c4 : 240 ≤ b0 ∧ b0 ≤ 247
        · have hn : nC b0 = 4 := by unfold nC; rw [if_neg c2, if_neg c3, if_pos c4]
          have hv : vC b0 = b0 - 240 := by unfold vC; rw [if_neg c2, if_neg c3, if_pos c4]
          have hll : lC b0 = 65536 := by unfold lC; rw [if_neg c2, if_neg c3, if_pos c4]
          rw [hn, hv, hll]
          simp only [show ((4 : Int) - 1).toNat = 3 from rfl, contOk, cont, Bool.true_and, Nat.zero_add, hb1, hb2, hb3, Bool.and_eq_false_iff, decide_eq_false_iff_not, Nat.reduceAdd]
          by_cases k1 : (1 < s.length ∧ b1 / 64 = 2) ∧ (2 < s.length ∧ b2 / 64 = 2) ∧ (3 < s.length ∧ b3 / 64 = 2)
          · have e : b0 / 8 = 30 ∧ (1 < s.length ∧ b1 / 64 = 2) ∧ (2 < s.length ∧ b2 / 64 = 2) ∧ (3 < s.length ∧ b3 / 64 = 2) := ⟨by omega, k1⟩
            by_cases g : b0 % 8 * 262144 + b1 % 64 * 4096 + b2 % 64 * 64 + b3 % 64 ≥ 65536 ∧ (b0 % 8 * 262144 + b1 % 64 * 4096 + b2 % 64 * 64 + b3 % 64 < 55296 ∨ (57344 ≤ b0 % 8 * 262144 + b1 % 64 * 4096 + b2 % 64 * 64 + b3 % 64 ∧ b0 % 8 * 262144 + b1 % 64 * 4096 + b2 % 64 * 64 + b3 % 64 ≤ 1114111))
            · rw [pk_good (a := b0 % 8 * 262144 + b1 % 64 * 4096 + b2 % 64 * 64 + b3 % 64) (b := 4) (by unfold Go.Lib.decodeN; rw [if_neg c0, if_neg (by omega), if_neg (by omega), if_pos e, if_pos g]) (by decide), if_neg (by omega), if_neg (by omega), if_neg (by omega)]
              simp only [Prod.mk.injEq]
              omega
            · rw [pk_bad (by unfold Go.Lib.decodeN; rw [if_neg c0, if_neg (by omega), if_neg (by omega), if_pos e, if_neg g]), if_neg (by omega), if_neg (by omega), if_pos (by omega)]
          · rw [pk_bad (by unfold Go.Lib.decodeN; rw [if_neg c0, if_neg (by omega), if_neg (by omega), if_neg (by omega)])]
            split
            · rfl
            · rw [if_pos (by omega)]
        · have hn : nC b0 = 0 := by unfold nC; rw [if_neg c2, if_neg c3, if_neg c4]
          rw [hn, if_pos (.inl rfl), pk_bad]
          unfold Go.Lib.decodeN
          rw [if_neg c0, if_neg (by omega), if_neg (by omega), if_neg (by omega)]
theorem nC_bd (b : Nat) (h : b < 256) (h1 : 128 ≤ b) : (nC b = 0 ∨ 2 ≤ nC b) ∧ nC b ≤ 4 ∧ 0 ≤ vC b ∧ vC b ≤ 255 ∧ 0 ≤ lC b ∧ lC b ≤ 65536 := by
  unfold nC vC lC
  (repeat' split) <;> omega
theorem char_fn (s : List UInt8) (h : Part) (hs : s ≠ []) (hl : s.length ≤ 140737488355328) : Pure Tryz.prog 160 [.string ⟨s.toArray⟩] h (.tuple #[.int .i64 (charR s).1, .int .i64 (charR s).2]) := by
  have hs1 := List.length_pos_iff.2 hs
  have hb := byteAt_lt s 0
  have hb0 : byteAt s 0 = (s.getD 0 0).toNat := rfl
  rw [← charM_eq s hs]
  refine Fn.intro Tryz.func160 rfl Tryz.ntmps160 rfl (fun e he => ?_)
  refine J.weak [(0, _)] ⟨rfl, trivial⟩ ?_
  refine Sr ?_
  refine Ru 2 rfl ?_
  refine JL.nil ?_
  refine Sr ?_
  refine Ru 1 rfl ?_
  refine JL.op (RunV.strIndex un_9 rfl rfl (show _ = ((0 : Nat) : Int) from rfl) (by omega)) rfl ?_
  refine JL.op z17_ rfl ?_
  refine Ru 1 rfl ?_
  refine JL.nil ?_
  refine J.seq ?_
  refine Sr ?_
  refine Ru 2 rfl ?_
  refine JL.nil ?_
  refine Cs rfl (fun hc1 => ?_) fun hc1 => ?_
  ·
   have hcm : charM s = ((byteAt s 0 : Int), 1) := (by unfold charM; rw [if_pos (by omega)])
   refine Sr ?_
   refine Ru 3 rfl ?_
   refine Nk [3, 2, 4, 0] rfl ?_
   exact J.retP (RetV.two rfl rfl rfl) (by rw [hcm]; rfl) rfl
  have hnb := nC_bd (byteAt s 0) hb (by omega)
  refine J.skip ?_
  refine Kp [4, 3, 2, 0] rfl ?_
  refine Sr ?_
  refine Ru 1 rfl ?_
  refine JL.nil ?_
  refine Sr ?_
  refine Ru 1 rfl ?_
  refine JL.nil ?_
  refine J.seq ?_
  refine J.block ?_
  refine Sr ?_
  refine Ru 1 rfl ?_
  refine JL.callP ca_161 rfl (between_fn _ _ _ _) rfl ?_
  refine Ru 1 rfl ?_
  refine JL.nil ?_
  refine J.meet [(5, .int .i64 (nC (byteAt s 0))), (6, .int .i64 (lC (byteAt s 0))), (4, .int .i64 (vC (byteAt s 0)))] [(3, _), (2, _), (0, _)] ⟨rfl, rfl, rfl, trivial⟩ ?_ ?_
  ·
   refine Cs rfl (fun hc3 => ?_) fun hc3 => ?_
   ·
    refine Rg ?_
    refine Ru 1 rfl ?_
    refine JL.op si_ rfl ?_
    refine Ru 3 rfl ?_
    refine JL.nil ?_
    refine ⟨rfl, rfl, ?_⟩
    exact z36_
   refine Sr ?_
   refine Ru 1 rfl ?_
   refine JL.callP ca_161 rfl (between_fn _ _ _ _) rfl ?_
   refine Ru 1 rfl ?_
   refine Nk [20, 6, 5, 4, 3, 2, 0] rfl ?_
   refine Cs rfl (fun hc5 => ?_) fun hc5 => ?_
   ·
    refine Rg ?_
    refine Ru 1 rfl ?_
    refine JL.op si_ rfl ?_
    refine Ru 3 rfl ?_
    refine JL.nil ?_
    refine ⟨rfl, rfl, ?_⟩
    exact z36_
   refine Sr ?_
   refine Ru 1 rfl ?_
   refine JL.callP ca_161 rfl (between_fn _ _ _ _) rfl ?_
   refine Ru 1 rfl ?_
   refine JL.nil ?_
   refine Cs rfl (fun hc7 => ?_) fun hc7 => ?_
   ·
    refine Rg ?_
    refine Ru 1 rfl ?_
    refine JL.op si_ rfl ?_
    refine Ru 3 rfl ?_
    refine JL.nil ?_
    refine ⟨rfl, rfl, ?_⟩
    exact z36_
   refine J.skip ?_
   refine ⟨rfl, rfl, ?_⟩
   exact z36_
  refine J.seq ?_
  refine Sr ?_
  refine Ru 3 rfl ?_
  apply On 32 37 5 [5, 6, 4, 3, 2, 0] rfl rfl
  rotate_left
  ·
   intro hb8 hc8
   refine Ru 1 rfl ?_
   refine JL.opg rfl rfl  (RunV.lenS un_9 rfl) rfl ?_
   refine Ru 3 rfl ?_
   exact Ae (om_f hb8 rfl) rfl
  rotate_right
  ·
   exact fun hb8 _ => Ru 5 rfl (Ae (om_t hb8 rfl) rfl)
  refine JL.nil ?_
  refine Cs rfl (fun hc9 => ?_) fun hc9 => ?_
  ·
   have hcm : charM s = (0, 0) := (by unfold charM; rw [if_neg (by omega), if_pos (by omega)])
   refine Sr ?_
   refine Ru 2 rfl ?_
   refine JL.nil ?_
   exact J.retP (RetV.two rfl rfl rfl) (by rw [hcm]) rfl
  refine J.skip ?_
  refine J.seq ?_
  refine Sr ?_
  refine Ru 1 rfl ?_
  refine JL.nil ?_
  refine J.block ?_
  refine J.loop (fun t_ S_ h_ L_ => ∃ (j : Nat), t_ = 5 - j ∧ S_ = [(0, .string ⟨s.toArray⟩), (4, .int .i64 (cont s (vC (byteAt s 0)) j)), (5, .int .i64 (nC (byteAt s 0))), (6, .int .i64 (lC (byteAt s 0))), (7, .int .i64 ((j : Int) + 1))] ∧ h = h_ ∧ L_ = [] ∧ ((j : Int) + 1 ≤ nC (byteAt s 0) ∧ contOk s j = true)) ⟨_, _, ?_, ⟨0, rfl, rfl, rfl, rfl, ⟨by omega, rfl⟩⟩⟩ ?_
  ·
   exact z5_
  rintro _ _ _ _ ⟨j, rfl, rfl, rfl, rfl, hj, hok⟩
  have hcb := cont_bd s (vC (byteAt s 0)) (by omega) (by omega) j (by omega) hok; have hbj := byteAt_lt s (j + 1); have hbj0 : byteAt s (j + 1) = (s.getD (j + 1) 0).toNat := rfl; have hp : (64 : Int) ^ j ≤ 262144 := (by have : j = 0 ∨ j = 1 ∨ j = 2 ∨ j = 3 := (by omega); rcases this with rfl | rfl | rfl | rfl <;> decide)
  refine J.seq ?_
  refine Sr ?_
  refine Ru 3 rfl ?_
  refine JL.nil ?_
  refine Cs rfl (fun hc10 => ?_) fun hc10 => ?_
  ·
   refine J.skip ?_
   refine J.seq ?_
   refine J.block ?_
   refine Sr ?_
   refine Ru 2 rfl ?_
   refine JL.op (RunV.strIndex (m := j + 1) un_9 rfl rfl (by omega) (by omega)) rfl ?_
   refine JL.op z17_ rfl ?_
   refine Ru 1 rfl ?_
   refine JL.nil ?_
   refine J.seq ?_
   refine Sr ?_
   refine Ru 1 rfl ?_
   refine JL.callP ca_161 rfl (between_fn _ _ _ _) rfl ?_
   refine Ru 1 rfl ?_
   refine JL.nil ?_
   refine Cs rfl (fun hc12 => ?_) fun hc12 => ?_
   ·
    have hcm : charM s = (0, 0) := (by unfold charM; rw [if_neg (by omega), if_neg (by omega), if_pos (contOk_le s (k := j + 1) (by omega) (contOk_no s j (by omega)))])
    refine Sr ?_
    refine Ru 2 rfl ?_
    refine JL.nil ?_
    exact J.retP (RetV.two rfl rfl rfl) (by rw [hcm]) rfl
   refine J.skip ?_
   refine Rg ?_
   refine Ru 1 rfl ?_
   refine JL.op z10_ rfl ?_
   refine Ru 1 rfl ?_
   refine JL.op ai_ rfl ?_
   refine JL.op si_ rfl ?_
   refine Ru 1 rfl ?_
   refine JL.nil ?_
   refine Rg ?_
   refine Ru 1 rfl ?_
   refine JL.op ai_ rfl ?_
   refine Ru 1 rfl ?_
   refine JL.nil ?_
   refine ⟨_, ?_, _, ?_, ⟨j + 1, rfl, rfl, rfl, rfl, ⟨by omega, by simp only [contOk, hok, Bool.true_and]; exact decide_eq_true (by omega)⟩⟩⟩
   ·
    omega
   exact z5_
  have hjn : (nC (byteAt s 0) - 1).toNat = j := (by omega)
  refine J.exit ?_
  refine Kp [4, 5, 6] rfl ?_
  refine J.seq ?_
  refine Sr ?_
  refine Ru 4 rfl ?_
  apply On 58 61 3 [4, 5] rfl rfl
  rotate_left
  ·
   intro hb13 hc13
   refine Ru 3 rfl ?_
   exact Ae (om_f hb13 rfl) rfl
  rotate_right
  ·
   exact fun hb13 _ => Ru 3 rfl (Ae (om_t hb13 rfl) rfl)
  refine Ru 1 rfl ?_
  apply On 62 65 3 [4, 5] rfl rfl
  rotate_left
  ·
   intro hb14 hc14
   refine Ru 1 rfl ?_
   refine JL.callPg rfl rfl  ca_161 rfl (between_fn _ _ _ _) rfl ?_
   refine Ru 1 rfl ?_
   exact Ae (om_f hb14 rfl) rfl
  rotate_right
  ·
   exact fun hb14 _ => Ru 3 rfl (Ae (om_t hb14 rfl) rfl)
  refine JL.nil ?_
  refine Cs rfl (fun hc16 => ?_) fun hc16 => ?_
  ·
   have hcm : charM s = (0, 0) := (by unfold charM; rw [if_neg (by omega), if_neg (by omega), hjn, if_neg (by rw [hok]; decide), if_pos (by omega)])
   refine Sr ?_
   refine Ru 2 rfl ?_
   refine JL.nil ?_
   exact J.retP (RetV.two rfl rfl rfl) (by rw [hcm]) rfl
  have hcm : charM s = (cont s (vC (byteAt s 0)) j, nC (byteAt s 0)) := (by unfold charM; rw [if_neg (by omega), if_neg (by omega), hjn, if_neg (by rw [hok]; decide), if_neg (by omega)])
  refine J.skip ?_
  refine Sr ?_
  refine Ru 4 rfl ?_
  refine Nk [3, 2] rfl ?_
  exact J.retP (RetV.two rfl rfl rfl) (by rw [hcm]) rfl
theorem rutf8_fn (s : List UInt8) (h : Part) (hl : s.length ≤ 140737488355328) : Pure Tryz.prog 136 [.string ⟨s.toArray⟩] h (.bool (runes (fun c n => !decide (c = 65533 ∧ n = 1)) s 0)) := by
  refine Fn.intro Tryz.func136 rfl Tryz.ntmps136 rfl (fun e he => ?_)
  refine J.weak [(0, _)] ⟨rfl, trivial⟩ ?_
  refine Sr ?_
  refine Ru 1 rfl ?_
  refine JL.nil ?_
  refine J.seq ?_
  refine Sr ?_
  refine Ru 1 rfl ?_
  refine JL.nil ?_
  refine J.block ?_
  refine J.loop (fun t_ S_ h_ L_ => ∃ (p : Nat), t_ = s.length - p ∧ S_ = [(0, .string ⟨s.toArray⟩), (3, .int .i64 p)] ∧ h = h_ ∧ L_ = [] ∧ (p ≤ s.length ∧ runes (fun c n => !decide (c = 65533 ∧ n = 1)) s 0 = runes (fun c n => !decide (c = 65533 ∧ n = 1)) (s.drop p) 0)) ⟨_, _, ?_, ⟨0, rfl, rfl, rfl, rfl, ⟨by omega, rfl⟩⟩⟩ ?_
  ·
   exact z2_
  rintro _ _ _ _ ⟨p, rfl, rfl, rfl, rfl, hp, hq⟩
  refine J.seq ?_
  refine Sr ?_
  refine Ru 2 rfl ?_
  refine JL.op (RunV.lenS un_9 rfl) rfl ?_
  refine Ru 1 rfl ?_
  refine JL.nil ?_
  refine Cs rfl (fun hc1 => ?_) fun hc1 => ?_
  ·
   have hne : s.drop p ≠ [] := (by intro hh; have := congrArg List.length hh; simp at this; omega); have hw := wid_pos (s.drop p); have hwl := wid_le (s.drop p) hne; have hst := runes_step (fun c n => !decide (c = 65533 ∧ n = 1)) s p (by omega); rw [List.length_drop] at hwl; obtain ⟨cc, cn, hcr⟩ : ∃ a b, charR (s.drop p) = (a, b) := ⟨_, _, rfl⟩; have hcr2 := hcr; unfold charR at hcr2
   refine J.skip ?_
   refine J.block ?_
   refine Sr ?_
   refine Ru 2 rfl ?_
   refine JL.op (RunV.strCut_l un_9 rfl rfl z8_ (by omega)) rfl ?_
   refine JL.callP ca_160 rfl (char_fn _ _ (by assumption) (by try (simp only [List.length_drop]); omega)) rfl ?_
   rw [hcr]
   refine Ru 5 rfl ?_
   refine JL.nil ?_
   refine J.seq ?_
   refine Sr ?_
   refine Ru 2 rfl ?_
   refine JL.nil ?_
   refine Cs rfl (fun hc3 => ?_) fun hc3 => ?_
   ·
    have hz : chr (s.drop p) = 65533 ∧ wid (s.drop p) = 1 := (by by_cases hz : chr (s.drop p) = 65533 ∧ wid (s.drop p) = 1; exact hz; rw [if_neg hz] at hcr2; injection hcr2 with q1 q2; omega)
    refine Sr ?_
    refine Ru 1 rfl ?_
    refine JL.nil ?_
    exact J.retP (RetV.one rfl rfl) (by rw [hq, hst, decide_eq_true hz]; rfl) rfl
   have hz : ¬ (chr (s.drop p) = 65533 ∧ wid (s.drop p) = 1) := (fun hz => by rw [if_pos hz] at hcr2; injection hcr2 with q1 q2; omega); rw [if_neg hz] at hcr2; injection hcr2 with q1 q2
   refine J.skip ?_
   refine Rg ?_
   refine Ru 2 rfl ?_
   refine JL.op ai_ rfl ?_
   refine Ru 1 rfl ?_
   refine JL.nil ?_
   refine ⟨_, ?_, _, ?_, ⟨p + wid (s.drop p), rfl, rfl, rfl, rfl, ⟨by omega, by rw [hq, hst, decide_eq_false hz]; rfl⟩⟩⟩
   ·
    omega
   exact z2_
  refine J.exit ?_
  refine Kp [] rfl ?_
  refine Sr ?_
  refine Ru 1 rfl ?_
  refine JL.nil ?_
  exact J.retP (RetV.one rfl rfl) (by rw [hq, runes_end _ _ _ (by omega)]) rfl
theorem runes_all {P : Nat → Bool} (hP : ∀ c, P c = true → c < 128) : ∀ (n : Nat) (s : List UInt8), s.length ≤ n → runes (fun c _ => P c) s 0 = s.all fun b => P b.toNat := by
  intro n
  induction n with
  | zero => intro s hs; have : s = [] := List.eq_nil_of_length_eq_zero (by omega); subst this; rfl
  | succ n ih =>
    intro s hs
    cases s with
    | nil => rfl
    | cons b r =>
      have h0 : byteAt (b :: r) 0 = b.toNat := rfl
      by_cases hb : b.toNat < 128
      · have hd : Go.Lib.decodeL (b :: r) = (b.toNat, 1) := by rw [dec_s, h0]; unfold Go.Lib.decodeN; rw [if_pos hb]
        have hc : chr (b :: r) = b.toNat := by show (Go.Lib.decodeL (b :: r)).1 = _; rw [hd]
        have hw : wid (b :: r) = 1 := by show (Go.Lib.decodeL (b :: r)).2 = _; rw [hd]
        simp only [runes, hc, hw, Nat.sub_self, List.all_cons]
        rw [ih r (by simp at hs; omega)]
      · have hf : P b.toNat = false := by
          cases hp : P b.toNat with
          | false => rfl
          | true => exact absurd (hP _ hp) hb
        have hc : 128 ≤ chr (b :: r) := by
          show 128 ≤ (Go.Lib.decodeL (b :: r)).1
          rw [dec_s, h0]
          unfold Go.Lib.decodeN
          rw [if_neg hb]
          (repeat' split) <;> simp <;> omega
        have hf2 : P (chr (b :: r)) = false := by
          cases hp : P (chr (b :: r)) with
          | false => rfl
          | true => have := hP _ hp; omega
        simp only [runes, hf2, Bool.false_and, List.all_cons, hf]
theorem all_step (P : Nat → Bool) (s : List UInt8) (p : Nat) (h : p < s.length) : ((s.drop p).all fun b => P b.toNat) = (P (byteAt s p) && (s.drop (p + 1)).all fun b => P b.toNat) := by
  rw [List.drop_eq_getElem_cons h, List.all_cons, byteAt_eq s p h]
theorem ria5_fn (s : List UInt8) (h : Part) (hl : s.length ≤ 140737488355328) : Pure Tryz.prog 138 [.string ⟨s.toArray⟩] h (.bool (runes (fun c _ => decide (c ≤ 127)) s 0)) := by
  rw [runes_all (P := fun c => decide (c ≤ 127)) (fun c hc => by have := of_decide_eq_true hc; omega) _ s (Nat.le_refl _)]
  refine Fn.intro Tryz.func138 rfl Tryz.ntmps138 rfl (fun e he => ?_)
  refine J.weak [(0, _)] ⟨rfl, trivial⟩ ?_
  refine Sr ?_
  refine Ru 1 rfl ?_
  refine JL.nil ?_
  refine J.seq ?_
  refine Sr ?_
  refine Ru 1 rfl ?_
  refine JL.nil ?_
  refine J.block ?_
  refine J.loop (fun t_ S_ h_ L_ => ∃ (p : Nat), t_ = s.length - p ∧ S_ = [(0, .string ⟨s.toArray⟩), (3, .int .i64 p)] ∧ h = h_ ∧ L_ = [] ∧ (p ≤ s.length ∧ (s.all fun b => decide (b.toNat ≤ 127)) = (s.drop p).all fun b => decide (b.toNat ≤ 127))) ⟨_, _, ?_, ⟨0, rfl, rfl, rfl, rfl, ⟨by omega, rfl⟩⟩⟩ ?_
  ·
   exact z5_
  rintro _ _ _ _ ⟨p, rfl, rfl, rfl, rfl, hp, hq⟩
  refine J.seq ?_
  refine Sr ?_
  refine Ru 2 rfl ?_
  refine JL.op (RunV.lenS un_9 rfl) rfl ?_
  refine Ru 1 rfl ?_
  refine JL.nil ?_
  refine Cs rfl (fun hc1 => ?_) fun hc1 => ?_
  ·
   have hst := all_step (fun c => decide (c ≤ 127)) s p (by omega)
   refine J.skip ?_
   refine J.seq ?_
   refine J.block ?_
   refine Sr ?_
   refine Ru 2 rfl ?_
   refine JL.op (RunV.strIndex un_9 rfl rfl z8_ (by omega)) rfl ?_
   refine Ru 1 rfl ?_
   refine JL.nil ?_
   refine Cs rfl (fun hc2 => ?_) fun hc2 => ?_
   ·
    refine Sr ?_
    refine Ru 1 rfl ?_
    refine JL.nil ?_
    exact J.retP (RetV.one rfl rfl) (by rw [hq, hst, decide_eq_false (by omega)]; rfl) rfl
   refine J.skip ?_
   refine Rg ?_
   refine Ru 1 rfl ?_
   refine JL.op ai_ rfl ?_
   refine Ru 1 rfl ?_
   refine JL.nil ?_
   refine ⟨_, ?_, _, ?_, ⟨p + 1, rfl, rfl, rfl, rfl, ⟨by omega, by rw [hq, hst, decide_eq_true (by omega), Bool.true_and]⟩⟩⟩
   ·
    omega
   exact z5_
  refine J.exit ?_
  refine Kp [] rfl ?_
  refine Sr ?_
  refine Ru 1 rfl ?_
  refine JL.nil ?_
  exact J.retP (RetV.one rfl rfl) (by rw [hq, List.drop_of_length_le (by omega)]; rfl) rfl
end Go.Proofs.YtmngjbefnloljaaGreatDoor
namespace Go.Proofs.YtmngjbefnloljaaGreatDoor
open Go Go.RowKit
theorem z14_ {p : Prop} (u : p := by repeat (first | exact trivial | refine ⟨rfl, ?_⟩ | refine ⟨(by exact some_bool (by rw [oidOk_eq]; first | (have q0 := e0 (by omega); have q1 := e1 (by omega); first | exact decide_eq_decide.2 (by omega) | exact (decide_eq_false (by omega)).symm | exact (decide_eq_true (by omega)).symm) | exact (decide_eq_false (by omega)).symm)), ?_⟩)) : p := u
theorem z28_ {p : Prop} (u : p := by repeat (first | exact trivial | refine ⟨rfl, ?_⟩ | refine ⟨(by exact some_bool (by first | exact decide_eq_decide.2 (by omega) | exact (decide_eq_false (by omega)).symm | exact (decide_eq_true (by omega)).symm | (rw [eq_comm]; exact decide_eq_true (by omega)) | (rw [eq_comm]; exact decide_eq_false (by omega)))), ?_⟩)) : p := u
theorem z47_ {p : Prop} (u : p := by repeat (first | exact trivial | refine ⟨rfl, ?_⟩ | refine ⟨(by exact some_int (by first | rfl | (rw [numV_take s i (by omega)]; omega))), ?_⟩)) : p := u
end Go.Proofs.YtmngjbefnloljaaGreatDoor
namespace Go.Proofs.YtmngjbefnloljaaGreatDoor
open Go Go.RowKit
set_option maxRecDepth 100000
theorem ca_119 : callT Tryz.prog 119 = true := by kernel_rfl
theorem ca_147 : callT Tryz.prog 147 = true := by kernel_rfl
theorem ca_148 : callT Tryz.prog 148 = true := by kernel_rfl
theorem ca_159 : callT Tryz.prog 159 = true := by kernel_rfl
theorem ca_168 : callT Tryz.prog 168 = true := by kernel_rfl
theorem dgo_stop {f m len least : Nat} (h : ¬ (0 < m ∨ len < least)) : dgo f m len least = [] := dgo_end h
theorem rdigits_fn {n least : Nat} {h : Part} (hn : n < 18446744073709551616) (hl : least ≤ 20) : Pure Tryz.prog 159 [.int .u64 n, .int .i64 least] h (.string ⟨(dgs n least).toArray⟩) := by
  refine Pure.ofV ?_
  refine Fn.intro Tryz.func159 rfl Tryz.ntmps159 rfl (fun e he => ?_)
  refine J.weak [(0, _), (1, _)] ⟨rfl, rfl, trivial⟩ ?_
  have hh0 := Part.le.refl h
  refine Sr ?_
  refine Ru 1 rfl ?_
  refine JL.nil ?_
  refine Sr ?_
  refine Ru 1 rfl ?_
  refine JL.nil ?_
  refine J.seq ?_
  refine J.block ?_
  refine J.loop (fun t_ S_ h_ L_ => ∃ (g : Part) (f m : Nat) (s : List UInt8), t_ = f + m ∧ S_ = [(0, .int .u64 m), (1, .int .i64 least), (5, .string ⟨s.toArray⟩)] ∧ g = h_ ∧ L_ = [] ∧ (h.le g ∧ s.length + f = 20 ∧ m < 18446744073709551616 ∧ m < 10 ^ f ∧ dgs n least = dgo f m s.length least ++ s)) ⟨_, _, ?_, ⟨_, 20, n, [], rfl, rfl, rfl, rfl, ⟨by assumption, rfl, hn, by simp only [Nat.reducePow]; omega, by simp [dgs]⟩⟩⟩ ?_
  ·
   exact z5_
  rintro _ _ _ _ ⟨g, f, m, s, rfl, rfl, rfl, rfl, hhg, hf, hm1, hm, he⟩
  refine J.seq ?_
  refine J.seq ?_
  refine J.meet [(13, .bool (decide (0 < m ∨ s.length < least)))] [(0, _), (1, _), (5, _)] ⟨rfl, rfl, rfl, trivial⟩ ?_ ?_
  ·
   refine Rg ?_
   refine Ru 3 rfl ?_
   refine Bs 8 rfl (fun hc1 => ?_) fun hc1 => ?_
   ·
    refine Ru 5 rfl ?_
    refine JL.nil ?_
    refine ⟨rfl, rfl, ?_⟩
    exact z6_
   refine Ru 1 rfl ?_
   refine JL.opg rfl rfl  (RunV.lenS un_9 rfl) rfl ?_
   refine Ru 3 rfl ?_
   refine JL.nil ?_
   refine ⟨rfl, rfl, ?_⟩
   exact z6_
  refine Cs rfl (fun hc2 => ?_) fun hc2 => ?_
  ·
   obtain ⟨f', rfl⟩ : ∃ f', f = f' + 1 := ⟨f - 1, by have : f ≠ 0 := (by rintro rfl; simp at hm; omega); omega⟩; rw [Nat.pow_succ] at hm
   refine J.skip ?_
   refine J.block ?_
   refine Sr ?_
   refine Ru 1 rfl ?_
   refine JL.op z31_ rfl ?_
   refine JL.op z20_ rfl ?_
   refine JL.op (RunV.toByte (48 + m % 10) cv_63_5 rfl (by omega)) rfl ?_
   refine JL.lit1 ap_22 zr_5 rfl rfl rfl rfl rfl (fun b3 => ?_)
   refine JL.pubB (R := u8R) (sz := 1) (l := [UInt8.ofNat (48 + m % 10)]) dl_ (cells_lit (by first | kernel_rfl | rfl)) (by first | decide | omega | (simp; done)) (fun h4 hle4 hQ => ?_)
   replace hhg := hhg.mono hle4
   refine JL.op (RunV.strB (l := [UInt8.ofNat (48 + m % 10)]) sb_22_9 rfl hQ rfl) rfl ?_
   refine Ru 1 rfl ?_
   refine JL.op (RunV.addS rfl rfl (by simp; omega)) rfl ?_
   refine Ru 1 rfl ?_
   refine JL.nil ?_
   refine Rg ?_
   refine Ru 1 rfl ?_
   refine JL.op z16_ rfl ?_
   refine Ru 1 rfl ?_
   refine JL.nil ?_
   refine ⟨_, ?_, _, ?_, ⟨_, f', m / 10, [UInt8.ofNat (48 + m % 10)] ++ s, rfl, rfl, rfl, rfl, ⟨by assumption, by simp; omega, by omega, by omega, by rw [he, dgo, if_pos (by omega)]; simp⟩⟩⟩
   ·
    omega
   exact z5_
  have hds : dgs n least = s := (by rw [he, dgo_stop (by omega)]; rfl)
  refine J.exit ?_
  refine Sr ?_
  refine Ru 2 rfl ?_
  refine Nk [4] rfl ?_
  exact J.retV (RetV.one rfl rfl) (by rw [hds])
theorem rdigits_fn' {n least : Nat} {N Q : Int} {h : Part} (hN : N = (n : Int)) (hQ : Q = (least : Int)) (hn : n < 18446744073709551616) (hl : least ≤ 20) : Pure Tryz.prog 159 [.int .u64 N, .int .i64 Q] h (.string ⟨(dgs n least).toArray⟩) := by
  subst hN hQ; exact rdigits_fn hn hl
def numR (s : List UInt8) : Nat := if numBad s || !s.all dig then 0 else numV s
theorem numR_bad {s : List UInt8} (h : s.length = 0 ∨ 19 < s.length ∨ 1 < s.length ∧ byteAt s 0 = 48) : numR s = 0 ∧ numB s = none := by
  have hb : numBad s = true := decide_eq_true h
  simp [numR, numB, hb]
theorem numR_no {s : List UInt8} {i : Nat} (h : i < s.length) (hd : ¬ (48 ≤ byteAt s i ∧ byteAt s i ≤ 57)) : numR s = 0 ∧ numB s = none := by
  have hb : s.all dig = false := by
    rw [List.all_eq_false]
    refine ⟨s[i], List.getElem_mem _, ?_⟩
    have e := byteAt_eq s i h
    unfold dig
    rw [decide_eq_false (by omega)]
    decide
  unfold numR numB; rw [hb]; simp
theorem numR_ok {s : List UInt8} (h : ¬ (s.length = 0 ∨ 19 < s.length ∨ 1 < s.length ∧ byteAt s 0 = 48)) (hd : s.all dig = true) : numR s = numV s ∧ (numB s).isSome = decide (numV s < 9223372036854775808) := by
  have hb : numBad s = false := decide_eq_false h
  unfold numR numB; rw [hb, hd]
  simp only [Bool.not_true, Bool.or_self, Bool.false_eq_true, if_false]
  refine ⟨trivial, ?_⟩
  split
  · rename_i hh; rw [decide_eq_true hh]; rfl
  · rename_i hh; rw [decide_eq_false hh]; rfl
theorem numV_take (s : List UInt8) (i : Nat) (h : i < s.length) : numV (s.take (i + 1)) = numV (s.take i) * 10 + (byteAt s i - 48) := by
  rw [List.take_succ_eq_append_getElem h, numV_snoc, byteAt_eq s i h]
theorem all_take (s : List UInt8) (i : Nat) (h : i < s.length) : (s.take (i + 1)).all dig = ((s.take i).all dig && decide (48 ≤ byteAt s i ∧ byteAt s i ≤ 57)) := by
  rw [List.take_succ_eq_append_getElem h, List.all_append]
  simp [dig, byteAt_eq s i h]
theorem rnumber_fn (s : List UInt8) (h : Part) (hl : s.length ≤ 140737488355328) : Pure Tryz.prog 168 [.string ⟨s.toArray⟩] h (.tuple #[.int .u64 (numR s : Nat), .bool (numB s).isSome]) := by
  have hb0 : byteAt s 0 = (s.getD 0 0).toNat := rfl
  refine Fn.intro Tryz.func168 rfl Tryz.ntmps168 rfl (fun e he => ?_)
  refine J.weak [(0, _)] ⟨rfl, trivial⟩ ?_
  refine Sr ?_
  refine Ru 2 rfl ?_
  refine JL.nil ?_
  refine J.seq ?_
  refine J.seq ?_
  refine J.meet [(23, .bool (decide (s.length = 0 ∨ 19 < s.length ∨ 1 < s.length ∧ byteAt s 0 = 48)))] [(3, _), (2, _), (0, _)] ⟨rfl, rfl, rfl, trivial⟩ ?_ ?_
  ·
   refine Rg ?_
   refine Ru 1 rfl ?_
   refine JL.op (RunV.lenS un_9 rfl) rfl ?_
   refine Ru 2 rfl ?_
   refine Bs 9 rfl (fun hc1 => ?_) fun hc1 => ?_
   ·
    refine Ru 14 rfl ?_
    refine JL.nil ?_
    refine ⟨rfl, rfl, ?_⟩
    exact z28_
   refine Ru 1 rfl ?_
   refine JL.opg rfl rfl  (RunV.lenS un_9 rfl) rfl ?_
   refine Ru 3 rfl ?_
   refine Bs 14 rfl (fun hc2 => ?_) fun hc2 => ?_
   ·
    refine Ru 9 rfl ?_
    refine JL.nil ?_
    refine ⟨rfl, rfl, ?_⟩
    exact z28_
   refine Ru 1 rfl ?_
   refine JL.opg rfl rfl  (RunV.lenS un_9 rfl) rfl ?_
   refine Ru 2 rfl ?_
   refine Bs 18 rfl (fun hc3 => ?_) fun hc3 => ?_
   ·
    refine Ru 1 rfl ?_
    refine JL.opg rfl rfl  (RunV.strIndex un_9 rfl rfl (show _ = ((0 : Nat) : Int) from rfl) (by omega)) rfl ?_
    refine Ru 3 rfl ?_
    refine JL.nil ?_
    refine ⟨rfl, rfl, ?_⟩
    exact z28_
   refine Ru 5 rfl ?_
   refine JL.nil ?_
   refine ⟨rfl, rfl, ?_⟩
   exact z28_
  refine Cs rfl (fun hc4 => ?_) fun hc4 => ?_
  ·
   have hnr := numR_bad hc4
   refine Sr ?_
   refine Ru 2 rfl ?_
   refine JL.nil ?_
   exact J.retP (RetV.two rfl rfl rfl) (by rw [hnr.1, hnr.2]; rfl) rfl
  have hok := hc4
  refine J.skip ?_
  refine Sr ?_
  refine Ru 1 rfl ?_
  refine JL.nil ?_
  refine J.seq ?_
  refine Sr ?_
  refine Ru 1 rfl ?_
  refine JL.nil ?_
  refine J.block ?_
  refine J.loop (fun t_ S_ h_ L_ => ∃ (i : Nat), t_ = s.length - i ∧ S_ = [(0, .string ⟨s.toArray⟩), (4, .int .u64 (numV (s.take i) : Nat)), (5, .int .i64 i)] ∧ h = h_ ∧ L_ = [] ∧ (i ≤ s.length ∧ (s.take i).all dig = true ∧ numV (s.take i) < 10 ^ i)) ⟨_, _, ?_, ⟨0, rfl, rfl, rfl, rfl, ⟨by omega, by simp, by simp [numV]⟩⟩⟩ ?_
  ·
   exact z47_
  rintro _ _ _ _ ⟨i, rfl, rfl, rfl, rfl, hi, hd, hv⟩
  refine J.seq ?_
  refine Sr ?_
  refine Ru 2 rfl ?_
  refine JL.op (RunV.lenS un_9 rfl) rfl ?_
  refine Ru 1 rfl ?_
  refine JL.nil ?_
  refine Cs rfl (fun hc5 => ?_) fun hc5 => ?_
  ·
   have hi' : i < s.length := (by omega); have hst := numV_take s i hi'; have hat := all_take s i hi'; have hp : 10 ^ i ≤ 1000000000000000000 := Nat.le_trans (Nat.pow_le_pow_right (by decide) (show i ≤ 18 by omega)) (by decide); have hbl := byteAt_lt s i; have hbi : byteAt s i = (s.getD i 0).toNat := rfl
   refine J.skip ?_
   refine J.seq ?_
   refine J.block ?_
   refine J.seq ?_
   refine Sr ?_
   refine Ru 2 rfl ?_
   refine JL.op (RunV.strIndex (m := i) un_9 rfl rfl (by omega) (by omega)) rfl ?_
   refine JL.op z17_ rfl ?_
   refine JL.callP ca_161 rfl (between_fn _ _ _ _) rfl ?_
   refine Ru 1 rfl ?_
   refine JL.nil ?_
   refine Cs rfl (fun hc7 => ?_) fun hc7 => ?_
   ·
    have hnr := numR_no hi' (show ¬ (48 ≤ byteAt s i ∧ byteAt s i ≤ 57) by omega)
    refine Sr ?_
    refine Ru 2 rfl ?_
    refine JL.nil ?_
    exact J.retP (RetV.two rfl rfl rfl) (by rw [hnr.1, hnr.2]; rfl) rfl
   refine J.skip ?_
   refine Rg ?_
   refine Ru 1 rfl ?_
   refine JL.op z29_ rfl ?_
   refine Ru 2 rfl ?_
   refine JL.op (RunV.strIndex (m := i) un_9 rfl rfl (by omega) (by omega)) rfl ?_
   refine JL.op (by first | exact RunV.sub_u8 rfl rfl (by omega) (by omega) | exact RunV.sub rfl rfl) rfl ?_
   refine JL.op z42_ rfl ?_
   refine JL.op z20_ rfl ?_
   refine Ru 1 rfl ?_
   refine JL.nil ?_
   refine Rg ?_
   refine Ru 1 rfl ?_
   refine JL.op ai_ rfl ?_
   refine Ru 1 rfl ?_
   refine JL.nil ?_
   refine ⟨_, ?_, _, ?_, ⟨i + 1, rfl, rfl, rfl, rfl, ⟨by omega, by rw [hat, hd, decide_eq_true (by omega)]; rfl, by rw [hst, Nat.pow_succ]; omega⟩⟩⟩
   ·
    omega
   exact z47_
  have hie : s.take i = s := List.take_of_length_le (by omega); rw [hie] at hd hv ⊢; have hnr := numR_ok hok hd
  refine J.exit ?_
  refine Kp [4] rfl ?_
  refine Sr ?_
  refine Ru 5 rfl ?_
  refine JL.nil ?_
  exact J.retP (RetV.two rfl rfl rfl) (by rw [hnr.1, hnr.2]; exact congrArg (fun b => Value.tuple #[.int .u64 (numV s : Nat), .bool b]) (decide_eq_decide.2 (by omega))) rfl
theorem rb128_fn {n : Nat} {h : Part} (hn : n < 18446744073709551616) : Fn Tryz.prog 148 [.int .u64 n] h [] (Rets fun v _ Lo => ∃ a c, v = .slice a (b128 n).length c ∧ Lo = [.row a c 5 1 (b128 n).length (u8s (b128 n))]) := by
  refine Fn.intro Tryz.func148 rfl Tryz.ntmps148 rfl (fun e he => ?_)
  refine J.weak [(0, _)] ⟨rfl, trivial⟩ ?_
  have hh0 := Part.le.refl h
  refine Sr ?_
  refine Ru 1 rfl ?_
  refine JL.nil ?_
  refine Sr ?_
  refine Ru 1 rfl ?_
  refine JL.op z31_ rfl ?_
  refine JL.op (RunV.toByte (n % 128) cv_63_5 rfl (by omega)) rfl ?_
  refine JL.lit1 ap_22 zr_5 rfl rfl rfl rfl rfl (fun b1 => ?_)
  refine JL.rowB (b := b1) dl_ ?_
  refine Ru 1 rfl ?_
  refine JL.nil ?_
  refine J.seq ?_
  refine Sr ?_
  refine Ru 1 rfl ?_
  refine JL.op z16_ rfl ?_
  refine Ru 1 rfl ?_
  refine Nk [0, 3, 2] rfl ?_
  refine J.block ?_
  refine J.loop (fun t_ S_ h_ L_ => ∃ (g : Part) (f m : Nat) (out : List UInt8) (la : Option Addr) (lc : Nat), t_ = m + 1 ∧ S_ = [(0, .int .u64 m), (3, .slice la out.length lc)] ∧ g = h_ ∧ L_ = [.row la lc 5 1 out.length (u8s out)] ∧ (h.le g ∧ m < 18446744073709551616 ∧ out.length + f = 11 ∧ m < 128 ^ f ∧ b128 n = hiB m ++ out)) ⟨_, _, ?_, ⟨_, 10, n / 128, [UInt8.ofNat (n % 128)], _, _, rfl, rfl, rfl, rfl, ⟨by assumption, by omega, rfl, by simp only [Nat.reducePow]; omega, rfl⟩⟩⟩ ?_
  ·
   exact z5_
  rintro _ _ _ _ ⟨g, f, m, out, la, lc, rfl, rfl, rfl, rfl, hhg, hm, hol, hmf, he⟩
  refine J.seq ?_
  refine Sr ?_
  refine Ru 2 rfl ?_
  refine JL.nil ?_
  refine Cs rfl (fun hc2 => ?_) fun hc2 => ?_
  ·
   have hst := hiB_step m (by simp only [Nat.reducePow]; omega) (by omega); obtain ⟨f', rfl⟩ : ∃ f', f = f' + 1 := ⟨f - 1, by have : f ≠ 0 := (by rintro rfl; simp at hmf; omega); omega⟩; rw [Nat.pow_succ] at hmf
   refine J.skip ?_
   refine J.seq ?_
   refine J.block ?_
   refine Sr ?_
   refine Ru 1 rfl ?_
   refine JL.nil ?_
   refine Sr ?_
   refine Ru 2 rfl ?_
   refine JL.op z31_ rfl ?_
   refine JL.op (RunV.toByte (m % 128) cv_63_5 rfl (by omega)) rfl ?_
   refine JL.op (RunV.add_u8 rfl rfl (by rw [ofNat_toNat8 (by omega)]; omega) (by rw [ofNat_toNat8 (by omega)]; omega)) rfl ?_
   rw [show ((UInt8.ofNat (m % 128)).toNat : Int) + 128 = ((UInt8.ofNat (m % 128 + 128)).toNat : Int) from by rw [ofNat_toNat8 (by omega), ofNat_toNat8 (by omega)]; omega]
   refine JL.lit1 ap_22 zr_5 rfl rfl rfl rfl rfl (fun b3 => ?_)
   refine JL.row_nil 5 1 ?_
   refine JL.append1 ap_22 rfl rfl (CellsR.nil (R := u8R)) rfl dl_ dl_ rfl (rfl) z3_ rfl rfl (fun a4 c4 xs4 hC4 hN4 => ?_)
   obtain rfl := hC4.u8
   refine Ru 1 rfl ?_
   refine JL.nil ?_
   refine Rg ?_
   refine Ru 2 rfl ?_
   refine JL.pub (R := u8R) (l := out) dl_ CellsR.of_u8 rfl (by omega) (fun h9 hle9 hP9 => ?_); replace hhg := hhg.mono hle9
   refine JL.append ap_22 rfl rfl CellsR.of_u8 rfl (by assumption) rfl dl_ z3_ rfl rfl (fun a5 c5 xs5 hC5 hN5 => ?_)
   obtain rfl := hC5.u8
   refine Ru 1 rfl ?_
   refine JL.nil ?_
   refine Rg ?_
   refine Ru 1 rfl ?_
   refine JL.op z16_ rfl ?_
   refine Ru 1 rfl ?_
   refine JL.nil ?_
   refine ⟨_, ?_, _, ?_, ⟨_, f', m / 128, _, _, _, rfl, rfl, rfl, rfl, ⟨by assumption, by omega, by simp; omega, by omega, by rw [he, hst]; simp⟩⟩⟩
   ·
    omega
   exact z5_
  have hm0 : m = 0 := (by omega); have hbe : b128 n = out := (by rw [he, hm0]; rfl)
  refine J.exit ?_
  refine Sr ?_
  refine Ru 2 rfl ?_
  refine Nk [2] rfl ?_
  rw [hbe]; exact J.ret ⟨_, [_], _, (RetV.one rfl rfl), .cons .here .nil, _, rfl, _, _, rfl, rfl⟩
theorem rb128_fn' {n : Nat} {N : Int} {h : Part} (hN : N = (n : Int)) (hn : n < 18446744073709551616) : Fn Tryz.prog 148 [.int .u64 N] h [] (Rets fun v _ Lo => ∃ a c, v = .slice a (b128 n).length c ∧ Lo = [.row a c 5 1 (b128 n).length (u8s (b128 n))]) := by
  subst hN; exact rb128_fn hn
theorem numB_some {s : List UInt8} (h : (numB s).isSome = true) : numB s = some (numR s) ∧ numR s < 9223372036854775808 := by
  unfold numB numR at *
  split at h
  · cases h
  · rename_i hb
    split at h
    · rename_i hh
      rw [if_neg hb]
      simp only [if_neg hb, if_pos hh]
      exact ⟨trivial, hh⟩
    · cases h
theorem numB_none {s : List UInt8} (h : (numB s).isSome = false) : numB s = none := by
  cases hn : numB s with
  | none => rfl
  | some x => rw [hn] at h; cases h
theorem numsGo_char (s cur : List UInt8) (i : Nat) (h : i < s.length) (hc : byteAt s i ≠ 46) : numsGo (s.drop i) cur = numsGo (s.drop (i + 1)) (cur ++ [s[i]]) := by
  rw [List.drop_eq_getElem_cons h, numsGo, if_neg]
  intro e
  have := byteAt_eq s i h
  rw [e] at this
  exact hc this.symm
theorem numsGo_dot (s cur : List UInt8) (i : Nat) (h : i < s.length) (hc : byteAt s i = 46) : numsGo (s.drop i) cur = match numB cur with | none => none | some n => (numsGo (s.drop (i + 1)) []).map (n :: ·) := by
  have := byteAt_eq s i h
  rw [List.drop_eq_getElem_cons h, numsGo, if_pos (UInt8.toNat_inj.1 ((this.trans hc).trans rfl))]
  cases numB cur <;> rfl
theorem cur_next (s : List UInt8) (fr i : Nat) (h : i < s.length) (hf : fr ≤ i) : (s.drop fr).take (i + 1 - fr) = (s.drop fr).take (i - fr) ++ [s[i]] := by
  rw [show i + 1 - fr = (i - fr) + 1 by omega, List.take_succ_eq_append_getElem (by rw [List.length_drop]; omega)]
  congr 2
  rw [List.getElem_drop]
  congr 1; omega
def numsL (s : List UInt8) : List Nat × Bool := match numsGo s [] with
  | none => ([], false)
  | some l => (l, oidOk l)
theorem oidOk_eq (l : List Nat) : oidOk l = decide (2 ≤ l.length ∧ (l.getD 0 0 = 2 ∧ l.getD 1 0 < 9223372036854775728 ∨ l.getD 0 0 < 2 ∧ l.getD 1 0 < 40)) := by
  unfold oidOk; rw [← Bool.decide_or, ← Bool.decide_and]
def u64L (l : List Nat) : List UInt64 := l.map UInt64.ofNat
theorem u64L_at (l : List Nat) (i : Nat) (hl : ∀ x ∈ l, x < 9223372036854775808) (h : i < (u64L l).length) : ((u64L l)[i]'h).toNat = l.getD i 0 := by
  have hi : i < l.length := by simpa [u64L] using h
  have := hl l[i] (List.getElem_mem hi)
  simp only [u64L, List.getElem_map, UInt64.toNat_ofNat', List.getD_eq_getElem?_getD, List.getElem?_eq_getElem hi, Option.getD_some]
  omega
theorem rnumbers_fn (s : List UInt8) (h : Part) (hl : s.length ≤ 1000000000) : FnR Tryz.prog 147 [.string ⟨s.toArray⟩] h (fun v h' => ∃ a c, v = .tuple #[.slice a (u64L (numsL s).1).length c, .bool (numsL s).2] ∧ SlR u64R 1 h' a c (u64L (numsL s).1) ∧ (∀ x ∈ (numsL s).1, x < 9223372036854775808) ∧ (numsL s).1.length ≤ 1000000001) := by
  refine Fn.intro Tryz.func147 rfl Tryz.ntmps147 rfl (fun e he => ?_)
  refine J.weak [(0, _)] ⟨rfl, trivial⟩ ?_
  have hh0 := Part.le.refl h
  refine Sr ?_
  refine Ru 2 rfl ?_
  refine JL.nil ?_
  refine Sr ?_
  refine JL.row_nil 63 1 ?_
  refine Ru 1 rfl ?_
  refine JL.nil ?_
  refine Sr ?_
  refine Ru 1 rfl ?_
  refine JL.nil ?_
  refine J.seq ?_
  refine Sr ?_
  refine Ru 1 rfl ?_
  refine JL.nil ?_
  refine J.block ?_
  refine J.loop (fun t_ S_ h_ L_ => ∃ (g : Part) (i fr : Nat) (acc : List Nat) (ao : Option Addr) (co : Nat) (xs : List Value), t_ = s.length + 1 - i ∧ S_ = [(0, .string ⟨s.toArray⟩), (4, .slice ao (u64L acc).length co), (5, .int .i64 fr), (6, .int .i64 i)] ∧ g = h_ ∧ L_ = [.row ao co 63 1 (u64L acc).length xs] ∧ (h.le g ∧ i ≤ s.length + 1 ∧ fr ≤ i ∧ acc.length ≤ i ∧ CellsR u64R 1 g xs (u64L acc) ∧ (∀ x ∈ acc, x < 9223372036854775808) ∧ (i ≤ s.length → numsGo s [] = (numsGo (s.drop i) ((s.drop fr).take (i - fr))).map (acc ++ ·)) ∧ (s.length < i → numsGo s [] = some acc))) ⟨_, _, ?_, ⟨_, 0, 0, [], _, _, _, rfl, rfl, rfl, rfl, ⟨by assumption, by omega, by omega, by simp, CellsR.nil, by simp, fun _ => by simp, fun hh => by omega⟩⟩⟩ ?_
  ·
   exact z5_
  rintro _ _ _ _ ⟨g, i, fr, acc, ao, co, xs, rfl, rfl, rfl, rfl, hhg, hi, hfr, hal, hC, hx, hq1, hq2⟩
  have hul : (u64L acc).length = acc.length := List.length_map ..
  refine J.seq ?_
  refine Sr ?_
  refine Ru 2 rfl ?_
  refine JL.op (RunV.lenS un_9 rfl) rfl ?_
  refine Ru 1 rfl ?_
  refine JL.nil ?_
  refine Cs rfl (fun hc1 => ?_) fun hc1 => ?_
  ·
   refine J.skip ?_
   refine J.seq ?_
   refine J.block ?_
   refine J.seq ?_
   refine J.seq ?_
   refine J.meet [(25, .bool (decide (i < s.length ∧ byteAt s i ≠ 46)))] [(13, _), (12, _), (11, _), (10, _), (0, _), (4, _), (5, _), (6, _)] ⟨rfl, rfl, rfl, rfl, rfl, rfl, rfl, rfl, trivial⟩ ?_ ?_
   ·
    refine Rg ?_
    refine Ru 2 rfl ?_
    refine JL.op (RunV.lenS un_9 rfl) rfl ?_
    refine Ru 2 rfl ?_
    refine Bs 20 rfl (fun hc2 => ?_) fun hc2 => ?_
    ·
     refine Ru 2 rfl ?_
     refine JL.opg rfl rfl  (RunV.strIndex (m := i) un_9 rfl rfl (by omega) (by omega)) rfl ?_
     refine Ru 2 rfl ?_
     refine JL.nil ?_
     refine ⟨rfl, rfl, ?_⟩
     exact z6_
    refine Ru 5 rfl ?_
    refine JL.nil ?_
    refine ⟨rfl, rfl, ?_⟩
    exact z6_
   refine Cs rfl (fun hc3 => ?_) fun hc3 => ?_
   ·
    refine J.exit ?_
    refine Rg ?_
    refine Ru 1 rfl ?_
    refine JL.op ai_ rfl ?_
    refine Ru 1 rfl ?_
    refine JL.nil ?_
    refine ⟨_, ?_, _, ?_, ⟨_, i + 1, fr, acc, _, _, _, rfl, rfl, rfl, rfl, ⟨by assumption, by omega, by omega, by omega, by assumption, hx, fun _ => by rw [hq1 (by omega), numsGo_char s _ i (by omega) (by omega), cur_next s fr i (by omega) hfr], fun hh => by omega⟩⟩⟩
    ·
     omega
    exact z5_
   obtain ⟨cur, hcur⟩ : ∃ cur, cur = (s.drop fr).take (i - fr) := ⟨_, rfl⟩; have hq := hq1 (by omega); rw [← hcur] at hq
   refine J.skip ?_
   refine Sr ?_
   refine Ru 3 rfl ?_
   refine JL.op (RunV.strCut_lh un_9 rfl rfl rfl z8_ z8_ (by omega) (by omega)) rfl ?_
   refine JL.callP ca_168 rfl (rnumber_fn _ _ (by try (simp only [List.length_take, List.length_drop]); omega)) rfl ?_
   refine Ru 5 rfl ?_
   refine JL.nil ?_
   refine J.seq ?_
   refine Sr ?_
   refine Ru 2 rfl ?_
   refine JL.nil ?_
   refine Cs rfl (fun hc5 => ?_) fun hc5 => ?_
   ·
    have hnone : numsGo s [] = none := (by have hnb := numB_none (s := cur) (by rw [hcur]; exact hc5); rw [hq]; rcases Nat.lt_or_ge i s.length with hlt | hge; rw [numsGo_dot s _ i hlt (by omega), hnb]; rfl; rw [List.drop_of_length_le hge, numsGo, hnb]; rfl); have hnl : numsL s = ([], false) := (by unfold numsL; rw [hnone])
    refine Sr ?_
    refine Ru 2 rfl ?_
    refine JL.nil ?_
    rw [hnl]; exact J.retR (RetV.two rfl rfl rfl) ⟨none, 0, rfl, SlR.nil_, by simp, by simp⟩
   have hsome := numB_some (s := cur) (by rw [hcur]; exact hc5); rw [hcur] at hsome; have hke : u64L acc ++ [UInt64.ofNat (numR ((s.drop fr).take (i - fr)))] = u64L (acc ++ [numR ((s.drop fr).take (i - fr))]) := (by simp [u64L])
   refine J.skip ?_
   refine Sr ?_
   refine Ru 2 rfl ?_
   refine JL.lit1 ap_66 zr_63 rfl rfl rfl rfl rfl (fun b6 => ?_)
   refine JL.append1 ap_66 rfl rfl (by assumption) rfl dl_ dl_ rfl ((by show _ = _; rw [UInt64.toNat_ofNat', Nat.mod_eq_of_lt (by omega)] : u64R _ [.int .u64 (numR ((s.drop fr).take (i - fr)) : Nat)] (UInt64.ofNat (numR ((s.drop fr).take (i - fr)))))) z3_ rfl rfl (fun a7 c7 xs7 hC7 hN7 => ?_)
   rw [hke] at *
   refine Ru 1 rfl ?_
   refine JL.nil ?_
   refine Rg ?_
   refine Ru 1 rfl ?_
   refine JL.op ai_ rfl ?_
   refine Ru 1 rfl ?_
   refine JL.nil ?_
   refine Rg ?_
   refine Ru 1 rfl ?_
   refine JL.op ai_ rfl ?_
   refine Ru 1 rfl ?_
   refine JL.nil ?_
   refine ⟨_, ?_, _, ?_, ⟨_, i + 1, i + 1, acc ++ [numR ((s.drop fr).take (i - fr))], _, _, _, rfl, rfl, rfl, rfl, ⟨by assumption, by omega, by omega, by simp; omega, by assumption, by (intro y hy; rcases List.mem_append.1 hy with hy | hy; exact hx y hy; simp at hy; subst hy; exact hsome.2), fun hh => by rw [hq, numsGo_dot s _ i (by omega) (by omega), hcur, hsome.1]; simp only [Nat.sub_self, List.take_zero, Option.map_map]; congr 1; funext z; simp, fun hh => by rw [hq, List.drop_of_length_le (by omega), numsGo, hcur, hsome.1]; rfl⟩⟩⟩
   ·
    omega
   exact z5_
  have hnl : numsL s = (acc, oidOk acc) := (by unfold numsL; rw [hq2 (by omega)]); refine J.pub (R := u64R) dl_ hC rfl (by omega) (fun h9 hle9 hP9 => ?_); have e0 := u64L_at acc 0 hx; have e1 := u64L_at acc 1 hx
  refine J.exit ?_
  refine Kp [4] rfl ?_
  refine J.seq ?_
  refine J.meet [(9, .bool (oidOk acc))] [(4, _)] ⟨rfl, trivial⟩ ?_ ?_
  ·
   refine Rg ?_
   refine Ru 4 rfl ?_
   refine Bs 45 rfl (fun hc8 => ?_) fun hc8 => ?_
   ·
    refine Ru 1 rfl ?_
    refine JL.opeg rfl rfl  (RunE.index sl_66 rfl rfl (show _ = ((0 : Nat) : Int) from rfl) (by assumption) rfl (by omega)) rfl ?_
    rintro _ ⟨b9, o9, hi9, rfl, hE9⟩
    refine JL.opg rfl rfl  (RunV.ld_u64 ag_63 rfl (by assumption)) rfl ?_
    refine Ru 3 rfl ?_
    refine Bs 51 rfl (fun hc11 => ?_) fun hc11 => ?_
    ·
     refine Ru 1 rfl ?_
     refine JL.opeg rfl rfl  (RunE.index sl_66 rfl rfl (show _ = ((0 : Nat) : Int) from rfl) (by assumption) rfl (by omega)) rfl ?_
     rintro _ ⟨b12, o12, hi12, rfl, hE12⟩
     refine JL.opg rfl rfl  (RunV.ld_u64 ag_63 rfl (by assumption)) rfl ?_
     refine Ru 2 rfl ?_
     refine Bs 56 rfl (fun hc14 => ?_) fun hc14 => ?_
     ·
      refine Ru 1 rfl ?_
      refine JL.opeg rfl rfl  (RunE.index sl_66 rfl rfl (show _ = ((1 : Nat) : Int) from rfl) (by assumption) rfl (by omega)) rfl ?_
      rintro _ ⟨b15, o15, hi15, rfl, hE15⟩
      refine JL.opg rfl rfl  (RunV.ld_u64 ag_63 rfl (by assumption)) rfl ?_
      refine Ru 3 rfl ?_
      refine Bs 62 rfl (fun hc17 => ?_) fun hc17 => ?_
      ·
       refine Ru 13 rfl ?_
       refine JL.nil ?_
       refine ⟨rfl, rfl, ?_⟩
       exact z14_
      refine Ru 1 rfl ?_
      refine JL.opeg rfl rfl  (RunE.index sl_66 rfl rfl (show _ = ((0 : Nat) : Int) from rfl) (by assumption) rfl (by omega)) rfl ?_
      rintro _ ⟨b18, o18, hi18, rfl, hE18⟩
      refine JL.opg rfl rfl  (RunV.ld_u64 ag_63 rfl (by assumption)) rfl ?_
      refine Ru 2 rfl ?_
      refine Bs 67 rfl (fun hc20 => ?_) fun hc20 => ?_
      ·
       refine Ru 1 rfl ?_
       refine JL.opeg rfl rfl  (RunE.index sl_66 rfl rfl (show _ = ((1 : Nat) : Int) from rfl) (by assumption) rfl (by omega)) rfl ?_
       rintro _ ⟨b21, o21, hi21, rfl, hE21⟩
       refine JL.opg rfl rfl  (RunV.ld_u64 ag_63 rfl (by assumption)) rfl ?_
       refine Ru 5 rfl ?_
       refine JL.nil ?_
       refine ⟨rfl, rfl, ?_⟩
       exact z14_
      refine Ru 8 rfl ?_
      refine JL.nil ?_
      refine ⟨rfl, rfl, ?_⟩
      exact z14_
     refine Ru 7 rfl ?_
     refine JL.opeg rfl rfl  (RunE.index sl_66 rfl rfl (show _ = ((0 : Nat) : Int) from rfl) (by assumption) rfl (by omega)) rfl ?_
     rintro _ ⟨b23, o23, hi23, rfl, hE23⟩
     refine JL.opg rfl rfl  (RunV.ld_u64 ag_63 rfl (by assumption)) rfl ?_
     refine Ru 2 rfl ?_
     refine Bs 67 rfl (fun hc25 => ?_) fun hc25 => ?_
     ·
      refine Ru 1 rfl ?_
      refine JL.opeg rfl rfl  (RunE.index sl_66 rfl rfl (show _ = ((1 : Nat) : Int) from rfl) (by assumption) rfl (by omega)) rfl ?_
      rintro _ ⟨b26, o26, hi26, rfl, hE26⟩
      refine JL.opg rfl rfl  (RunV.ld_u64 ag_63 rfl (by assumption)) rfl ?_
      refine Ru 5 rfl ?_
      refine JL.nil ?_
      refine ⟨rfl, rfl, ?_⟩
      exact z14_
     refine Ru 8 rfl ?_
     refine JL.nil ?_
     refine ⟨rfl, rfl, ?_⟩
     exact z14_
    refine Ru 24 rfl ?_
    refine JL.nil ?_
    refine ⟨rfl, rfl, ?_⟩
    exact z14_
   refine Ru 30 rfl ?_
   refine JL.nil ?_
   refine ⟨rfl, rfl, ?_⟩
   exact z14_
  refine Sr ?_
  refine Ru 4 rfl ?_
  refine JL.nil ?_
  rw [hnl]; exact J.retR (RetV.two rfl rfl rfl) ⟨_, _, rfl, by assumption, hx, by simp only; omega⟩
theorem take2_succ (l : List Nat) (i : Nat) (h2 : 2 ≤ i) (hi : i < l.length) : (l.drop 2).take (i + 1 - 2) = (l.drop 2).take (i - 2) ++ [l.getD i 0] := by
  rw [show i + 1 - 2 = (i - 2) + 1 by omega, List.take_succ_eq_append_getElem (by rw [List.length_drop]; omega), List.getElem_drop]
  congr 2
  simp [show 2 + (i - 2) = i by omega, hi]
theorem roidbytes_fn (s : List UInt8) (h : Part) (hl : s.length ≤ 1000000000) : FnR Tryz.prog 119 [.string ⟨s.toArray⟩] h (fun v h' => ∃ a c, v = .tuple #[.slice a ((oidB s).getD []).length c, .int .i64 (if (oidB s).isSome then 0 else 20)] ∧ SlR u8R 1 h' a c ((oidB s).getD [])) := by
  obtain ⟨L, ok, hL⟩ : ∃ L ok, numsL s = (L, ok) := ⟨_, _, rfl⟩
  have hB : oidB s = if ok then some (enc ((40 * L.getD 0 0 + L.getD 1 0) :: L.drop 2)) else none := by
    unfold oidB; unfold numsL at hL
    cases hn : numsGo s [] with
    | none => rw [hn] at hL; simp only [Prod.mk.injEq] at hL; rw [← hL.2]; rfl
    | some l => rw [hn] at hL; simp only [Prod.mk.injEq] at hL; obtain ⟨rfl, rfl⟩ := hL; rfl
  have hok : ok = true → 2 ≤ L.length ∧ (L.getD 0 0 = 2 ∧ L.getD 1 0 < 9223372036854775728 ∨ L.getD 0 0 < 2 ∧ L.getD 1 0 < 40) := fun hk => by
    unfold numsL at hL
    cases hn : numsGo s [] with
    | none => rw [hn] at hL; simp only [Prod.mk.injEq] at hL; rw [← hL.2] at hk; cases hk
    | some l => rw [hn] at hL; simp only [Prod.mk.injEq] at hL; obtain ⟨rfl, rfl⟩ := hL; rw [oidOk_eq] at hk; exact of_decide_eq_true hk
  have hul : (u64L L).length = L.length := List.length_map ..
  refine Fn.intro Tryz.func119 rfl Tryz.ntmps119 rfl (fun e he => ?_)
  refine J.weak [(0, _)] ⟨rfl, trivial⟩ ?_
  have hh0 := Part.le.refl h
  refine Sr ?_
  refine Ru 2 rfl ?_
  refine JL.nil ?_
  refine Sr ?_
  refine Ru 1 rfl ?_
  refine JL.callR ca_147 rfl (rnumbers_fn s _ (by omega)) rfl ?_
  rintro _ h1 hle1 ⟨a2, c2, rfl, hS2, hx2, hn2⟩
  replace hh0 := hh0.mono hle1
  rw [hL] at hx2 hn2 hS2 ⊢; simp only at hx2 hn2 hS2 ⊢; have e1 := u64L_at L 1 hx2; have e0 := u64L_at L 0 hx2
  refine Ru 5 rfl ?_
  refine Nk [5, 4, 3, 2] rfl ?_
  refine J.seq ?_
  refine Sr ?_
  refine Ru 2 rfl ?_
  refine JL.nil ?_
  refine Cs rfl (fun hc2 => ?_) fun hc2 => ?_
  ·
   have hb : oidB s = none := (by rw [hB]; simp_all)
   refine Sr ?_
   refine Ru 2 rfl ?_
   refine Nk [3, 2, 4] rfl ?_
   rw [hb]; exact J.retR (RetV.two rfl rfl rfl) ⟨none, 0, rfl, SlR.nil_⟩
  have hkt : ok = true := (by simp_all); have hoo := hok hkt; have hb : oidB s = some (enc ((40 * L.getD 0 0 + L.getD 1 0) :: L.drop 2)) := (by rw [hB, hkt]; rfl); have q0 := e0 (by omega); have q1 := e1 (by omega)
  refine J.skip ?_
  refine J.seq ?_
  refine J.held ([]) 10 mixed_ rfl (fun h00 => ?_)
  refine JH.take 0 rfl (by kernel_rfl) (by kernel_rfl) (by kernel_rfl) (fun _ _ _ _ hh => hh) (br_ h00) (RunV.move rfl) rfl ?_
  refine JH.takeE 1 rfl (by kernel_rfl) (by kernel_rfl) (by kernel_rfl) (fun _ _ _ _ hh => hh) (br_ h00) (RunE.index sl_66 rfl rfl (show _ = ((0 : Nat) : Int) from rfl) (by assumption) rfl (by omega)) rfl ?_
  rintro _ ⟨b3, o3, hi3, rfl, hE3⟩
  refine JH.take 2 rfl (by kernel_rfl) (by kernel_rfl) (by kernel_rfl) (fun _ _ _ _ hh => hh) (br_ h00) (RunV.ld_u64 ag_63 rfl (by assumption)) rfl ?_
  refine JH.take 3 rfl (by kernel_rfl) (by kernel_rfl) (by kernel_rfl) (fun _ _ _ _ hh => hh) (br_ h00) z29_ rfl ?_
  refine JH.take 4 rfl (by kernel_rfl) (by kernel_rfl) (by kernel_rfl) (fun _ _ _ _ hh => hh) (br_ h00) (RunV.move rfl) rfl ?_
  refine JH.takeE 5 rfl (by kernel_rfl) (by kernel_rfl) (by kernel_rfl) (fun _ _ _ _ hh => hh) (br_ h00) (RunE.index sl_66 rfl rfl (show _ = ((1 : Nat) : Int) from rfl) (by assumption) rfl (by omega)) rfl ?_
  rintro _ ⟨b5, o5, hi5, rfl, hE5⟩
  refine JH.take 6 rfl (by kernel_rfl) (by kernel_rfl) (by kernel_rfl) (fun _ _ _ _ hh => hh) (br_ h00) (RunV.ld_u64 ag_63 rfl (by assumption)) rfl ?_
  refine JH.take 7 rfl (by kernel_rfl) (by kernel_rfl) (by kernel_rfl) (fun _ _ _ _ hh => hh) (br_ h00) z20_ rfl ?_
  refine JH.all1 8 (by kernel_rfl) rfl ?_
  unfold One
  refine JL.call ca_148 rfl (rb128_fn' (n := 40 * L.getD 0 0 + L.getD 1 0) (by omega) (by omega)) pt_ rfl ?_
  rintro _ h7 Lo7 hle7 ⟨a7, c7, rfl, rfl⟩
  replace hh0 := hh0.mono hle7
  replace hS2 := hS2.mono hle7
  refine JL.nil ⟨(br_ h00), ?_⟩
  refine JH.take 9 rfl (by kernel_rfl) (by kernel_rfl) (by kernel_rfl) (fun _ _ _ _ hh => hh) (br_ h00) (RunV.assign rfl) rfl ?_
  refine JH.done (by kernel_rfl) ?_
  refine Kp [6, 4, 3, 2] rfl ?_
  refine J.seq ?_
  refine Sr ?_
  refine Ru 1 rfl ?_
  refine JL.nil ?_
  refine J.block ?_
  refine J.loop (fun t_ S_ h_ L_ => ∃ (g : Part) (i : Nat) (out : List UInt8) (la : Option Addr) (lc : Nat), t_ = L.length - i ∧ S_ = [(4, .slice a2 (u64L L).length c2), (6, .slice la out.length lc), (7, .int .i64 i)] ∧ g = h_ ∧ L_ = [.row la lc 5 1 out.length (u8s out)] ∧ (h.le g ∧ SlR u64R 1 g a2 c2 (u64L L) ∧ 2 ≤ i ∧ i ≤ L.length ∧ out = enc ((40 * L.getD 0 0 + L.getD 1 0) :: (L.drop 2).take (i - 2)))) ⟨_, _, ?_, ⟨_, 2, _, _, _, rfl, rfl, rfl, rfl, ⟨by assumption, by assumption, by omega, by omega, by simp [enc]⟩⟩⟩ ?_
  ·
   exact z5_
  rintro _ _ _ _ ⟨g, i, out, la, lc, rfl, rfl, rfl, rfl, hhg, hS2, hi2, hi, ho⟩
  refine J.seq ?_
  refine Sr ?_
  refine Ru 4 rfl ?_
  refine JL.nil ?_
  refine Cs rfl (fun hc8 => ?_) fun hc8 => ?_
  ·
   have hi' : i < L.length := (by omega); have qi := u64L_at L i hx2 (by omega); have hxi := hx2 (L.getD i 0) (by simp [hi']); have htk := take2_succ L i hi2 hi'; have hel := enc_len ((40 * L.getD 0 0 + L.getD 1 0) :: (L.drop 2).take (i - 2)); rw [← ho] at hel; have hbl : (b128 (L.getD i 0)).length ≤ 11 := (by have := enc_len [L.getD i 0]; simpa [enc] using this)
   refine J.skip ?_
   refine J.seq ?_
   refine J.block ?_
   refine Rg ?_
   refine Ru 3 rfl ?_
   refine JL.ope (RunE.index sl_66 rfl rfl z8_ (by assumption) rfl (by omega)) rfl ?_
   rintro _ ⟨b9, o9, hi9, rfl, hE9⟩
   refine JL.op (RunV.ld_u64 ag_63 rfl (by assumption)) rfl ?_
   refine JL.call ca_148 rfl (rb128_fn' (n := L.getD i 0) (by omega) (by omega)) pt_ rfl ?_
   rintro _ h11 Lo11 hle11 ⟨a11, c11, rfl, rfl⟩
   replace hhg := hhg.mono hle11
   replace hS2 := hS2.mono hle11
   refine JL.pub (R := u8R) (l := b128 (L.getD i 0)) dl_ CellsR.of_u8 rfl (by omega) (fun h9 hle9 hP9 => ?_); replace hhg := hhg.mono hle9; replace hS2 := hS2.mono hle9; simp only [List.length_cons, List.length_take, List.length_drop] at hel
   refine JL.append ap_22 rfl rfl CellsR.of_u8 rfl (by assumption) rfl dl_ z3_ rfl rfl (fun a12 c12 xs12 hC12 hN12 => ?_)
   obtain rfl := hC12.u8
   refine Ru 1 rfl ?_
   refine JL.nil ?_
   refine Rg ?_
   refine Ru 1 rfl ?_
   refine JL.op ai_ rfl ?_
   refine Ru 1 rfl ?_
   refine JL.nil ?_
   refine ⟨_, ?_, _, ?_, ⟨_, i + 1, _, _, _, rfl, rfl, rfl, rfl, ⟨by assumption, by assumption, by omega, by omega, by rw [htk, ho, ← List.cons_append, enc_append]; simp [enc]⟩⟩⟩
   ·
    omega
   exact z5_
  have hob : out = enc ((40 * L.getD 0 0 + L.getD 1 0) :: L.drop 2) := (by rw [ho, List.take_of_length_le (by rw [List.length_drop]; omega)]); have hel := enc_len ((40 * L.getD 0 0 + L.getD 1 0) :: L.drop 2); rw [← hob] at hel; simp only [List.length_cons, List.length_drop] at hel
  refine J.exit ?_
  refine Kp [6] rfl ?_
  refine Sr ?_
  refine Ru 1 rfl ?_
  refine JL.pub (R := u8R) (l := out) dl_ CellsR.of_u8 rfl (by omega) (fun h9 hle9 hP9 => ?_)
  refine Ru 2 rfl ?_
  refine JL.nil ?_
  rw [hb, Option.getD_some, ← hob]; exact J.retR (RetV.two rfl rfl rfl) ⟨_, _, rfl, by assumption⟩
theorem tail46_snoc (l : List Nat) (n : Nat) : tail46 (l ++ [n]) = tail46 l ++ ([46] ++ dgs n 1) := by
  induction l with
  | nil => simp [tail46]
  | cons m r ih => simp [tail46, ih]
theorem txtO_snoc (l : List Nat) (n : Nat) (h : l ≠ []) : txtO (l ++ [n]) = txtO l ++ [46] ++ dgs n 1 := by
  cases l with
  | nil => exact absurd rfl h
  | cons m r => simp [txtO, tail46_snoc]
theorem txtO_nil (l : List Nat) : txtO l = [] ↔ l = [] := by
  cases l with
  | nil => simp [txtO]
  | cons m r => simp [txtO]
theorem refGo_step (b : List UInt8) (i n long : Nat) (h : i < b.length) : refGo (b.drop i) n long = if 9 < long + 1 ∨ 9223372036854775808 ≤ n * 128 + byteAt b i % 128 then none else if 128 ≤ byteAt b i then refGo (b.drop (i + 1)) (n * 128 + byteAt b i % 128) (long + 1) else (refGo (b.drop (i + 1)) 0 0).map (fun l => (n * 128 + byteAt b i % 128) :: l) := by
  rw [List.drop_eq_getElem_cons h, refGo, byteAt_eq b i h]
theorem roidtext_fn {a0 : Option Addr} {c0 : Nat} {l : List UInt8} {h : Part} (hl : SlR u8R 1 h a0 c0 l) (hb : l.length ≤ 10000000) :
    Pure Tryz.prog 135 [.slice a0 l.length c0] h (.tuple #[.string ⟨((oidT l).getD []).toArray⟩, .int .i64 (if (oidT l).isSome then 0 else 20)]) := by
  rw [refO_oidT]
  refine Pure.ofV ?_
  refine Fn.intro Tryz.func135 rfl Tryz.ntmps135 rfl (fun e he => ?_)
  refine J.weak [(0, _)] ⟨rfl, trivial⟩ ?_
  refine Sr ?_
  refine Ru 2 rfl ?_
  refine JL.nil ?_
  refine Sr ?_
  refine Ru 1 rfl ?_
  refine JL.nil ?_
  refine Sr ?_
  refine Ru 1 rfl ?_
  refine JL.nil ?_
  refine Sr ?_
  refine Ru 1 rfl ?_
  refine JL.nil ?_
  refine J.seq ?_
  refine Sr ?_
  refine Ru 1 rfl ?_
  refine JL.nil ?_
  refine J.block ?_
  refine J.loop (fun t_ S_ h_ L_ => ∃ (i n long : Nat) (acc : List Nat) (s : List UInt8), t_ = l.length - i ∧ S_ = [(0, .slice a0 l.length c0), (4, .string ⟨s.toArray⟩), (5, .int .u64 n), (6, .int .i64 long), (7, .int .i64 i)] ∧ h = h_ ∧ L_ = [] ∧ (i ≤ l.length ∧ n < 128 ^ long ∧ long ≤ 9 ∧ s = txtO acc ∧ s.length ≤ 42 * i ∧ refGo l 0 0 = (refGo (l.drop i) n long).map (acc ++ ·) ∧ (∀ x ∈ acc, x < 9223372036854775808))) ⟨_, _, ?_, ⟨0, 0, 0, [], [], rfl, rfl, rfl, rfl, ⟨by omega, by simp, by omega, rfl, by simp, by simp, by simp⟩⟩⟩ ?_
  ·
   exact z5_
  rintro _ _ _ _ ⟨i, n, long, acc, s, rfl, rfl, rfl, rfl, hi, hn, hlg, hs, hsl, hq, hx⟩
  have h128 : long ≤ 8 → (128 : Nat) ^ long ≤ 72057594037927936 := (fun hh => Nat.le_trans (Nat.pow_le_pow_right (by decide) hh) (by decide))
  refine J.seq ?_
  refine Sr ?_
  refine Ru 4 rfl ?_
  refine JL.nil ?_
  refine Cs rfl (fun hc1 => ?_) fun hc1 => ?_
  ·
   have hi' : i < l.length := (by omega); have hst := refGo_step l i n long hi'; have hbt := byteAt_lt l i; have hbe := byteAt_eq l i hi'
   refine J.skip ?_
   refine J.seq ?_
   refine J.block ?_
   refine Sr ?_
   refine Ru 1 rfl ?_
   refine JL.op (RunV.mul rfl rfl) rfl ?_
   refine Ru 2 rfl ?_
   refine JL.ope (RunE.index sl_22 rfl rfl z8_ (by assumption) rfl (by omega)) rfl ?_
   rintro _ ⟨b2, o2, hi2, rfl, hE2⟩
   refine JL.op (RunV.ld_u8 ag_5 rfl (by assumption)) rfl ?_
   refine JL.op (RunV.rem_u8 rfl rfl (by omega) (by omega)) rfl ?_
   refine JL.op z42_ rfl ?_
   refine JL.op (RunV.add rfl rfl) rfl ?_
   rw [show IntKind.u64.wrap (IntKind.u64.wrap ((n : Int) * 128) + (l[i].toNat : Int) % 128) = (((n * 128 + byteAt l i % 128) % 18446744073709551616 : Nat) : Int) from by rw [IntKind.wrap_u64, IntKind.wrap_u64, hbe]; omega]
   refine Ru 1 rfl ?_
   refine JL.nil ?_
   refine Sr ?_
   refine Ru 1 rfl ?_
   refine JL.op ai_ rfl ?_
   refine Ru 1 rfl ?_
   refine JL.nil ?_
   refine J.seq ?_
   refine J.seq ?_
   refine J.meet [(33, .bool (decide (9 < long + 1 ∨ 9223372036854775808 ≤ (n * 128 + byteAt l i % 128) % 18446744073709551616)))] [(6, _), (27, _), (26, _), (5, _), (25, _), (24, _), (23, _), (22, _), (21, _), (20, _), (19, _), (18, _), (17, _), (14, _), (13, _), (12, _), (11, _), (0, _), (4, _), (7, _)] ⟨rfl, rfl, rfl, rfl, rfl, rfl, rfl, rfl, rfl, rfl, rfl, rfl, rfl, rfl, rfl, rfl, rfl, rfl, rfl, rfl, trivial⟩ ?_ ?_
   ·
    refine Rg ?_
    refine Ru 3 rfl ?_
    refine Bs 30 rfl (fun hc4 => ?_) fun hc4 => ?_
    ·
     refine Ru 3 rfl ?_
     refine JL.nil ?_
     refine ⟨rfl, rfl, ?_⟩
     exact z6_
    refine Ru 3 rfl ?_
    refine JL.nil ?_
    refine ⟨rfl, rfl, ?_⟩
    exact z6_
   refine Cs rfl (fun hc5 => ?_) fun hc5 => ?_
   ·
    have hcz : 9 < long + 1 ∨ 9223372036854775808 ≤ n * 128 + byteAt l i % 128 := (by rcases Nat.lt_or_ge 8 long with hl8 | hl8; left; omega; have := h128 hl8; omega); have hro : refO l = none := (by unfold refO; rw [hq, hst, if_pos hcz]; rfl)
    refine Sr ?_
    refine Ru 2 rfl ?_
    refine JL.nil ?_
    exact J.retV (RetV.two rfl rfl rfl) (by rw [hro]; rfl)
   have hl8 : long ≤ 8 := (by omega); have h12 := h128 hl8; have hcz : ¬ (9 < long + 1 ∨ 9223372036854775808 ≤ n * 128 + byteAt l i % 128) := (by omega); rw [if_neg hcz] at hst; obtain ⟨N, hN⟩ : ∃ N, N = n * 128 + byteAt l i % 128 := ⟨_, rfl⟩; have hNm : (n * 128 + byteAt l i % 128) % 18446744073709551616 = N := (by omega); rw [hNm]; have hN63 : N < 9223372036854775808 := (by omega); rw [← hN] at hst
   refine J.skip ?_
   refine J.seq ?_
   refine Sr ?_
   refine Ru 2 rfl ?_
   refine JL.ope (RunE.index sl_22 rfl rfl z8_ (by assumption) rfl (by omega)) rfl ?_
   rintro _ ⟨b6, o6, hi6, rfl, hE6⟩
   refine JL.op (RunV.ld_u8 ag_5 rfl (by assumption)) rfl ?_
   refine Ru 1 rfl ?_
   refine JL.nil ?_
   refine Cs rfl (fun hc8 => ?_) fun hc8 => ?_
   ·
    refine J.exit ?_
    refine Rg ?_
    refine Ru 1 rfl ?_
    refine JL.op ai_ rfl ?_
    refine Ru 1 rfl ?_
    refine JL.nil ?_
    refine ⟨_, ?_, _, ?_, ⟨i + 1, N, long + 1, acc, s, rfl, rfl, rfl, rfl, ⟨by omega, by rw [Nat.pow_succ]; omega, by omega, hs, by omega, by rw [hq, hst, if_pos (by omega)], hx⟩⟩⟩
    ·
     omega
    exact z5_
   rw [if_neg (by omega)] at hst
   refine J.skip ?_
   refine J.seq ?_
   refine Sr ?_
   refine Ru 1 rfl ?_
   refine JL.op (RunV.eqlS rfl rfl) rfl ?_
   refine JL.nil ?_
   refine Cs rfl (fun hc9 => ?_) fun hc9 => ?_
   ·
    have ha0 : acc = [] := (txtO_nil acc).1 (by rw [← hs]; exact hc9); obtain ⟨m2, hm2⟩ : ∃ m2 : Nat, m2 = N - 40 * min (N / 40) 2 := ⟨_, rfl⟩; have hdl := dgs_len (min (N / 40) 2) 1; have hdl2 := dgs_len m2 1
    refine Sr ?_
    refine Ru 1 rfl ?_
    refine JL.nil ?_
    refine J.seq ?_
    refine Sr ?_
    refine Ru 2 rfl ?_
    refine JL.nil ?_
    refine J.meet [(8, .int .u64 (min (N / 40) 2 : Nat))] [(41, _), (40, _), (39, _), (38, _), (37, _), (36, _), (35, _), (34, _), (33, _), (6, _), (27, _), (26, _), (5, _), (25, _), (24, _), (23, _), (22, _), (21, _), (20, _), (19, _), (18, _), (17, _), (14, _), (13, _), (12, _), (11, _), (0, _), (4, _), (7, _)] ⟨rfl, rfl, rfl, rfl, rfl, rfl, rfl, rfl, rfl, rfl, rfl, rfl, rfl, rfl, rfl, rfl, rfl, rfl, rfl, rfl, rfl, rfl, rfl, rfl, rfl, rfl, rfl, rfl, rfl, trivial⟩ ?_ ?_
    ·
     refine Cs rfl (fun hc10 => ?_) fun hc10 => ?_
     ·
      refine Rg ?_
      refine Ru 1 rfl ?_
      refine JL.op z16_ rfl ?_
      refine Ru 1 rfl ?_
      refine JL.nil ?_
      refine ⟨rfl, rfl, ?_⟩
      exact z2_
     refine J.skip ?_
     refine ⟨rfl, rfl, ?_⟩
     exact z2_
    refine Sr ?_
    refine Ru 1 rfl ?_
    refine JL.callP ca_159 rfl (rdigits_fn' (n := min (N / 40) 2) (least := 1) (by omega) rfl (by omega) (by omega)) rfl ?_
    refine Ru 1 rfl ?_
    refine JL.nil ?_
    refine Rg ?_
    refine Ru 2 rfl ?_
    refine JL.op z29_ rfl ?_
    refine JL.op z33_ rfl ?_
    refine Ru 1 rfl ?_
    refine JL.nil ?_
    refine Sr ?_
    refine Ru 1 rfl ?_
    refine JL.op (RunV.addS rfl rfl z3_) rfl ?_
    refine Ru 1 rfl ?_
    refine JL.callP ca_159 rfl (rdigits_fn' (n := m2) (least := 1) (by omega) rfl (by omega) (by omega)) rfl ?_
    refine JL.op (RunV.addS rfl rfl z3_) rfl ?_
    refine Ru 1 rfl ?_
    refine JL.nil ?_
    refine Sr ?_
    refine Ru 1 rfl ?_
    refine JL.nil ?_
    refine Rg ?_
    refine Ru 1 rfl ?_
    refine Nk [6, 5, 4, 55, 54, 53, 52, 51, 50, 49, 48, 47, 46, 45, 8, 41, 40, 39, 38, 37, 36, 35, 34, 33, 27, 26, 25, 24, 23, 22, 21, 20, 19, 18, 17, 14, 13, 12, 11, 0, 7] rfl ?_
    refine Rg ?_
    refine Ru 1 rfl ?_
    refine JL.op ai_ rfl ?_
    refine Ru 1 rfl ?_
    refine JL.nil ?_
    refine ⟨_, ?_, _, ?_, ⟨i + 1, 0, 0, acc ++ [N], dgs (min (N / 40) 2) 1 ++ [46] ++ dgs m2 1, rfl, rfl, rfl, rfl, ⟨by omega, by simp, by omega, by rw [ha0, hm2]; simp [txtO, tail46], by simp only [List.length_append, List.length_cons, List.length_nil]; omega, by rw [hq, hst, Option.map_map]; congr 1; funext z; simp, by (intro y hy; rcases List.mem_append.1 hy with hy | hy; exact hx y hy; simp at hy; subst hy; exact hN63)⟩⟩⟩
    ·
     omega
    exact z5_
   have ha0 : acc ≠ [] := (fun e => hc9 (by rw [hs]; exact (txtO_nil acc).2 e)); obtain ⟨m2, hm2⟩ : ∃ m2 : Nat, m2 = N := ⟨_, rfl⟩; have hdl2 := dgs_len m2 1
   refine J.skip ?_
   refine Sr ?_
   refine Ru 1 rfl ?_
   refine JL.op (RunV.addS rfl rfl z3_) rfl ?_
   refine Ru 1 rfl ?_
   refine JL.callP ca_159 rfl (rdigits_fn' (n := m2) (least := 1) (by omega) rfl (by omega) (by omega)) rfl ?_
   refine JL.op (RunV.addS rfl rfl z3_) rfl ?_
   refine Ru 1 rfl ?_
   refine JL.nil ?_
   refine Sr ?_
   refine Ru 1 rfl ?_
   refine Nk [5, 4, 55, 54, 53, 52, 51, 40, 39, 38, 37, 36, 35, 34, 33, 6, 27, 26, 25, 24, 23, 22, 21, 20, 19, 18, 17, 14, 13, 12, 11, 0, 7] rfl ?_
   refine Rg ?_
   refine Ru 1 rfl ?_
   refine JL.nil ?_
   refine Rg ?_
   refine Ru 1 rfl ?_
   refine JL.op ai_ rfl ?_
   refine Ru 1 rfl ?_
   refine JL.nil ?_
   refine ⟨_, ?_, _, ?_, ⟨i + 1, 0, 0, acc ++ [N], s ++ [46] ++ dgs m2 1, rfl, rfl, rfl, rfl, ⟨by omega, by simp, by omega, by rw [txtO_snoc _ _ ha0, hs, hm2], by simp only [List.length_append, List.length_cons, List.length_nil]; omega, by rw [hq, hst, Option.map_map]; congr 1; funext z; simp, by (intro y hy; rcases List.mem_append.1 hy with hy | hy; exact hx y hy; simp at hy; subst hy; exact hN63)⟩⟩⟩
   ·
    omega
   exact z5_
  have hrg : refGo l 0 0 = some acc := (by rw [hq, List.drop_of_length_le (by omega), refGo]; simp); have hro : refO l = if acc ≠ [] ∧ enc acc = l then some acc else none := (by unfold refO; rw [hrg]); have hob := oidB_txt acc hx; rw [← hs] at hob; have hA : acc = [] → oidB s = none := (fun ha => by rw [hob, if_pos ha]); have hB : acc ≠ [] → oidB s = some (enc acc) := (fun ha => by rw [hob, if_neg ha])
  refine J.exit ?_
  refine Kp [0, 4] rfl ?_
  refine Sr ?_
  refine Ru 1 rfl ?_
  refine JL.callR ca_119 rfl (roidbytes_fn _ _ (by omega)) rfl ?_
  rintro _ h14 hle14 ⟨a14, c14, rfl, hS14⟩
  replace hl := hl.mono hle14
  refine Ru 5 rfl ?_
  refine Nk [10, 9, 0, 4] rfl ?_
  refine J.seq ?_
  refine Sr ?_
  refine Ru 3 rfl ?_
  refine Bs 63 rfl (fun hc15 => ?_) fun hc15 => ?_
  ·
   refine Ru 6 rfl ?_
   refine Nk [69, 4] rfl ?_
   refine J.cond_t rfl ?_
   refine Sr ?_
   refine Ru 2 rfl ?_
   refine JL.nil ?_
   exact J.retV (RetV.two rfl rfl rfl) (by
     rcases Classical.em (acc = []) with ha | ha
     · have hz := hA ha; rw [hro, if_neg (fun k => k.1 ha)]; first | rfl | (exfalso; simp_all; done)
     · have hz := hB ha
       by_cases hq9 : enc acc = l
       · rw [hro, if_pos ⟨ha, hq9⟩]; first | (rw [hs]; rfl) | (exfalso; simp_all; done)
       · rw [hro, if_neg (fun k => hq9 k.2)]; first | rfl | (exfalso; simp_all; done))
  refine Ru 1 rfl ?_
  refine JL.opg rfl rfl  (RunV.strB sb_22_9 rfl (by assumption) rfl) rfl ?_
  refine Ru 1 rfl ?_
  refine JL.opg rfl rfl  (RunV.strB sb_22_9 rfl (by assumption) rfl) rfl ?_
  refine JL.opg rfl rfl  (RunV.neqS rfl rfl) rfl ?_
  refine Ru 1 rfl ?_
  refine Nk [69, 4] rfl ?_
  refine Cs rfl (fun hc16 => ?_) fun hc16 => ?_
  ·
   refine Sr ?_
   refine Ru 2 rfl ?_
   refine JL.nil ?_
   exact J.retV (RetV.two rfl rfl rfl) (by
     rcases Classical.em (acc = []) with ha | ha
     · have hz := hA ha; rw [hro, if_neg (fun k => k.1 ha)]; first | rfl | (exfalso; simp_all; done)
     · have hz := hB ha
       by_cases hq9 : enc acc = l
       · rw [hro, if_pos ⟨ha, hq9⟩]; first | (rw [hs]; rfl) | (exfalso; simp_all; done)
       · rw [hro, if_neg (fun k => hq9 k.2)]; first | rfl | (exfalso; simp_all; done))
  refine J.skip ?_
  refine Sr ?_
  refine Ru 3 rfl ?_
  refine JL.nil ?_
  exact J.retV (RetV.two rfl rfl rfl) (by
    rcases Classical.em (acc = []) with ha | ha
    · have hz := hA ha; rw [hro, if_neg (fun k => k.1 ha)]; first | rfl | (exfalso; simp_all; done)
    · have hz := hB ha
      by_cases hq9 : enc acc = l
      · rw [hro, if_pos ⟨ha, hq9⟩]; first | (rw [hs]; rfl) | (exfalso; simp_all; done)
      · rw [hro, if_neg (fun k => hq9 k.2)]; first | rfl | (exfalso; simp_all; done))
end Go.Proofs.YtmngjbefnloljaaGreatDoor
