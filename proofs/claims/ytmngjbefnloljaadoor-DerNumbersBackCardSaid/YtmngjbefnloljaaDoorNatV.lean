/- Plain: the value of digits of 2 to the 32, and of bytes. -/
import Derived.Test.YtmngjbefnloljaaDoorNumI
set_option linter.unusedSimpArgs false
set_option linter.unusedVariables false
set_option linter.constructorNameAsVariable false
namespace Go.Proofs.YtmngjbefnloljaaDoor
open Go Go.RowKit

/-! ## the value of digits of 2 to the 32, the least first -/
def vL : List UInt32 → Nat
  | [] => 0
  | x :: r => x.toNat + 4294967296 * vL r
theorem vL_append (l r : List UInt32) : vL (l ++ r) = vL l + 4294967296 ^ l.length * vL r := by
  induction l with
  | nil => simp [vL]
  | cons x t ih =>
    simp only [List.cons_append, vL, ih, List.length_cons, Nat.pow_succ]
    rw [Nat.mul_add, ← Nat.mul_assoc, Nat.mul_comm (4294967296 ^ t.length), Nat.add_assoc]
theorem vL_lt (l : List UInt32) : vL l < 4294967296 ^ l.length := by
  induction l with
  | nil => simp [vL]
  | cons x t ih =>
    have hx := UInt32.toNat_lt x
    simp only [vL, List.length_cons, Nat.pow_succ]
    omega
theorem vL_set (l : List UInt32) (i : Nat) (x : UInt32) (h : i < l.length) : vL (l.set i x) + d32 l i * 4294967296 ^ i = vL l + x.toNat * 4294967296 ^ i := by
  induction l generalizing i with
  | nil => simp at h
  | cons y t ih =>
    cases i with
    | zero => simp [vL, d32]; omega
    | succ i =>
      have := ih i (by simpa using h)
      simp only [List.set_cons_succ, vL, Nat.pow_succ]
      have e : d32 (y :: t) (i + 1) = d32 t i := rfl
      rw [e, ← Nat.mul_assoc, ← Nat.mul_assoc]
      omega
theorem vL_digit (l : List UInt32) (i : Nat) : vL l / 4294967296 ^ i % 4294967296 = d32 l i := by
  induction l generalizing i with
  | nil => simp [vL, d32]
  | cons y t ih =>
    have hy := UInt32.toNat_lt y
    cases i with
    | zero => simp only [vL, Nat.pow_zero, Nat.div_one]; show _ = y.toNat; omega
    | succ i =>
      have e : d32 (y :: t) (i + 1) = d32 t i := rfl
      rw [e, ← ih i, Nat.pow_succ, Nat.mul_comm (4294967296 ^ i), ← Nat.div_div_eq_div_mul]
      congr 2
      simp only [vL]
      omega
theorem vL_take_drop (l : List UInt32) (k : Nat) (h : k ≤ l.length) : vL l = vL (l.take k) + 4294967296 ^ k * vL (l.drop k) := by
  have := vL_append (l.take k) (l.drop k)
  rw [List.take_append_drop, List.length_take, Nat.min_eq_left h] at this
  exact this
theorem vL_zero (l : List UInt32) (h : ∀ i, i < l.length → d32 l i = 0) : vL l = 0 := by
  induction l with
  | nil => rfl
  | cons x t ih =>
    have h0 : x.toNat = 0 := h 0 (by simp)
    have := ih (fun i hi => h (i + 1) (by simpa using hi))
    simp only [vL]; omega
theorem d32_drop (l : List UInt32) (k i : Nat) : d32 (l.drop k) i = d32 l (k + i) := by
  unfold d32; simp
/-- So many digits of a number. -/
def digN : Nat → Nat → List UInt32
  | 0, _ => []
  | m + 1, v => UInt32.ofNat v :: digN m (v / 4294967296)
theorem digN_len (m v : Nat) : (digN m v).length = m := by induction m generalizing v with
  | zero => rfl
  | succ m ih => simp [digN, ih]
theorem vL_digN (m v : Nat) : vL (digN m v) = v % 4294967296 ^ m := by
  induction m generalizing v with
  | zero => simp [vL, digN, Nat.mod_one]
  | succ m ih =>
    simp only [digN, vL, ih, UInt32.toNat_ofNat']
    rw [show (4294967296 : Nat) ^ (m + 1) = 4294967296 * 4294967296 ^ m by rw [Nat.pow_succ, Nat.mul_comm], Nat.mod_mul]
theorem digN_vL (l : List UInt32) : digN l.length (vL l) = l := by
  induction l with
  | nil => rfl
  | cons x t ih =>
    have hx := UInt32.toNat_lt x
    simp only [List.length_cons, digN, vL]
    rw [show (x.toNat + 4294967296 * vL t) / 4294967296 = vL t by omega, ih]
    congr 1
    apply UInt32.toNat_inj.1
    rw [UInt32.toNat_ofNat']
    omega
theorem vL_inj {l r : List UInt32} (h : l.length = r.length) (e : vL l = vL r) : l = r := by
  rw [← digN_vL l, ← digN_vL r, h, e]
theorem digN_at (m v i : Nat) (h : i < m) : d32 (digN m v) i = v / 4294967296 ^ i % 4294967296 := by
  rw [← vL_digit, vL_digN]
  obtain ⟨k, rfl⟩ : ∃ k, m = i + (k + 1) := ⟨m - i - 1, by omega⟩
  rw [Nat.pow_add, Nat.mod_mul_right_div_self, Nat.pow_succ, Nat.mod_mul_left_mod]
theorem lt_bl (n : Nat) : n < 2 ^ bl n := by
  unfold bl
  split
  · rename_i h; subst h; decide
  · exact Nat.lt_log2_self
theorem bl_ge (n k : Nat) (h : 2 ^ k ≤ n) : k + 1 ≤ bl n := by
  rcases Nat.lt_or_ge k (bl n) with h1 | h1
  · exact h1
  · have h2 := lt_bl n
    have := Nat.pow_le_pow_right (show 0 < 2 by decide) h1
    omega
theorem bl_pos (n : Nat) (h : 0 < n) : 2 ^ (bl n - 1) ≤ n ∧ 1 ≤ bl n := by
  unfold bl
  rw [if_neg (by omega)]
  exact ⟨Nat.log2_self_le (by omega), by omega⟩
/-- How many digits a number has; they. -/
def nd (n : Nat) : Nat := (bl n + 31) / 32
def toL (n : Nat) : List UInt32 := digN (nd n) n
theorem pow32 (k : Nat) : (4294967296 : Nat) ^ k = 2 ^ (32 * k) := by rw [Nat.pow_mul]
theorem lt_nd (n : Nat) : n < 4294967296 ^ nd n := by
  rw [pow32]
  exact Nat.lt_of_lt_of_le (lt_bl n) (Nat.pow_le_pow_right (by decide) (by unfold nd; omega))
theorem vL_toL (n : Nat) : vL (toL n) = n := by
  unfold toL
  rw [vL_digN, Nat.mod_eq_of_lt (lt_nd n)]
theorem nd_eq (n t : Nat) (h : n < 4294967296 ^ (t + 1)) (h0 : 4294967296 ^ t ≤ n) : nd n = t + 1 := by
  rw [pow32] at h h0
  have h1 := bl_le _ _ h
  have h2 := bl_ge _ _ h0
  unfold nd; omega
theorem nd_le (n t : Nat) (h : n < 4294967296 ^ t) : nd n ≤ t := by
  rw [pow32] at h
  have h1 := bl_le _ _ h
  unfold nd; omega
theorem toL_len (n : Nat) : (toL n).length = nd n := digN_len _ _
theorem nd_zero : nd 0 = 0 := rfl
theorem nd_pos (n : Nat) (h : 0 < n) : 4294967296 ^ (nd n - 1) ≤ n ∧ 1 ≤ nd n := by
  have h1 := bl_pos n h
  rw [pow32]
  exact ⟨Nat.le_trans (Nat.pow_le_pow_right (by decide) (by unfold nd; omega)) h1.1, by unfold nd; omega⟩
theorem vL_tsz (l : List UInt32) : vL l = vL (trimL l) := by
  have ht := tsz_le (d32 l) l.length
  have hz : vL (l.drop (tsz (d32 l) l.length)) = 0 := vL_zero _ (fun i hi => by
    rw [d32_drop]
    rw [List.length_drop] at hi
    exact tsz_zero (d32 l) l.length _ (by omega) (by omega))
  rw [vL_take_drop l _ ht, hz]
  rfl
theorem d32_take (l : List UInt32) (k i : Nat) (h : i < k) : d32 (l.take k) i = d32 l i := by
  unfold d32; simp [h]
theorem tsz_nd (l : List UInt32) : tsz (d32 l) l.length = nd (vL l) := by
  have ht := tsz_le (d32 l) l.length
  have htop := tsz_top (d32 l) l.length
  have hlt := vL_lt (trimL l)
  have hlen : (trimL l).length = tsz (d32 l) l.length := by unfold trimL; rw [List.length_take]; omega
  rw [vL_tsz l]
  cases hk : tsz (d32 l) l.length with
  | zero =>
    have : trimL l = [] := List.eq_nil_of_length_eq_zero (by omega)
    rw [this]; rfl
  | succ t =>
    rw [hk] at htop hlen
    have h0 := htop (by omega)
    rw [show t + 1 - 1 = t from rfl] at h0
    have h1 : vL (trimL l) / 4294967296 ^ t % 4294967296 ≠ 0 := by
      rw [vL_digit]; unfold trimL; rw [hk, d32_take _ _ _ (by omega)]; exact h0
    rw [hlen] at hlt
    refine (nd_eq _ _ hlt ?_).symm
    rcases Nat.lt_or_ge (vL (trimL l)) (4294967296 ^ t) with h2 | h2
    · rw [Nat.div_eq_of_lt h2] at h1; simp at h1
    · exact h2
theorem trim_toL (l : List UInt32) : trimL l = toL (vL l) := by
  have ht := tsz_le (d32 l) l.length
  have hlen : (trimL l).length = nd (vL l) := by unfold trimL; rw [List.length_take, ← tsz_nd]; omega
  unfold toL
  rw [← hlen, vL_tsz l, digN_vL]
theorem toL_inj {m n : Nat} (h : toL m = toL n) : m = n := by rw [← vL_toL m, h, vL_toL]
theorem nbits_vL (l : List UInt32) : nbits (d32 l) l.length = bl (vL l) := by
  unfold nbits
  rw [tsz_nd]
  split
  · rename_i h
    rcases Nat.eq_zero_or_pos (vL l) with h0 | h0
    · rw [h0]; rfl
    · have := nd_pos _ h0; omega
  · rename_i h
    have h0 : 0 < vL l := by
      rcases Nat.eq_zero_or_pos (vL l) with h0 | h0
      · rw [h0] at h; exact absurd rfl h
      · exact h0
    have h1 := nd_pos _ h0
    rw [pow32] at h1
    rw [bl_shift _ _ h1.1]
    congr 2
    rw [← pow32, ← vL_digit]
    refine Nat.mod_eq_of_lt ?_
    have h2 := lt_nd (vL l)
    obtain ⟨t, e⟩ : ∃ t, nd (vL l) = t + 1 := ⟨nd (vL l) - 1, by omega⟩
    rw [e] at h2 ⊢
    rw [Nat.pow_succ] at h2
    exact Nat.div_lt_of_lt_mul h2

/-! ## bytes, the greatest first -/
def beV (b : List UInt8) : Nat := b.foldl (fun v c => v * 256 + c.toNat) 0
theorem beV_from (b : List UInt8) (v : Nat) : b.foldl (fun v c => v * 256 + c.toNat) v = v * 256 ^ b.length + beV b := by
  induction b generalizing v with
  | nil => simp [beV]
  | cons x t ih =>
    unfold beV
    simp only [List.foldl_cons, List.length_cons, Nat.zero_mul, Nat.zero_add]
    rw [ih, ih x.toNat, Nat.pow_succ, Nat.add_mul, Nat.mul_assoc, Nat.mul_comm 256, Nat.add_assoc]
theorem beV_cons (x : UInt8) (t : List UInt8) : beV (x :: t) = x.toNat * 256 ^ t.length + beV t := by
  show t.foldl _ _ = _
  rw [beV_from]; simp
theorem beV_append (l r : List UInt8) : beV (l ++ r) = beV l * 256 ^ r.length + beV r := by
  unfold beV
  rw [List.foldl_append, beV_from]; rfl
theorem beV_lt (b : List UInt8) : beV b < 256 ^ b.length := by
  induction b with
  | nil => simp [beV]
  | cons x t ih =>
    have hx := UInt8.toNat_lt x
    rw [beV_cons, List.length_cons, Nat.pow_succ]
    have : x.toNat * 256 ^ t.length ≤ 255 * 256 ^ t.length := Nat.mul_le_mul_right _ (by omega)
    omega
theorem beV_be (k n : Nat) : beV (be k n) = n % 256 ^ k := by
  induction k with
  | zero => simp [be, beV, Nat.mod_one]
  | succ k ih =>
    simp only [be]
    rw [beV_cons, ih, be_len, UInt8.toNat_ofNat', show (256 : Nat) ^ (k + 1) = 256 ^ k * 256 from Nat.pow_succ .., Nat.mod_mul, Nat.mul_comm, Nat.add_comm]
theorem be_mod (k n : Nat) : be k (n % 256 ^ k) = be k n := by
  have key : ∀ j, j ≤ k → be j (n % 256 ^ k) = be j n := by
    intro j
    induction j with
    | zero => intro _; rfl
    | succ j ih =>
      intro hj
      simp only [be]
      rw [ih (by omega)]
      congr 1
      apply UInt8.toNat_inj.1
      rw [UInt8.toNat_ofNat', UInt8.toNat_ofNat']
      obtain ⟨i, rfl⟩ : ∃ i, k = j + (i + 1) := ⟨k - j - 1, by omega⟩
      rw [Nat.pow_add, Nat.mod_mul_right_div_self, Nat.pow_succ]
      exact Nat.mod_mul_left_mod _ _ _
  exact key k (Nat.le_refl _)
theorem be_beV (b : List UInt8) : be b.length (beV b) = b := by
  induction b with
  | nil => rfl
  | cons x t ih =>
    have hx := UInt8.toNat_lt x
    have ht := beV_lt t
    simp only [List.length_cons, be]
    rw [beV_cons]
    congr 1
    · apply UInt8.toNat_inj.1
      rw [UInt8.toNat_ofNat', Nat.mul_comm, Nat.mul_add_div (Nat.pow_pos (by decide)), Nat.div_eq_of_lt ht]
      omega
    · rw [← be_mod, Nat.mul_comm, Nat.mul_add_mod, Nat.mod_eq_of_lt ht, ih]
theorem wB_vL (l : List UInt32) (i : Nat) : wB (d32 l) i = UInt8.ofNat (vL l / 256 ^ i) := by
  apply UInt8.toNat_inj.1
  unfold wB
  rw [UInt8.toNat_ofNat', UInt8.toNat_ofNat', ← vL_digit]
  obtain ⟨q, r, hr, rfl⟩ : ∃ q r, r < 4 ∧ i = 4 * q + r := ⟨i / 4, i % 4, by omega, by omega⟩
  rw [show (4 * q + r) / 4 = q by omega, show (4 * q + r) % 4 = r by omega, Nat.pow_add, Nat.pow_mul, ← Nat.div_div_eq_div_mul]
  rw [show (256 : Nat) ^ 4 = 4294967296 from rfl]
  generalize vL l / 4294967296 ^ q = v
  have : r = 0 ∨ r = 1 ∨ r = 2 ∨ r = 3 := by omega
  rcases this with rfl | rfl | rfl | rfl <;> simp only [Nat.reducePow] <;> omega
theorem natW_be (l : List UInt32) (k : Nat) : natW (d32 l) k = be k (vL l) := by
  induction k with
  | zero => rfl
  | succ k ih => simp only [natW, be, ih, wB_vL]
/-- One byte more, from behind. -/
theorem beV_drop (b : List UInt8) (i : Nat) (h : i < b.length) : beV (b.drop (b.length - (i + 1))) = byteAt b (b.length - 1 - i) * 256 ^ i + beV (b.drop (b.length - i)) := by
  have e : b.drop (b.length - (i + 1)) = b[b.length - 1 - i] :: b.drop (b.length - i) := by
    rw [show b.length - (i + 1) = b.length - 1 - i by omega, List.drop_eq_getElem_cons (by omega)]
    congr 2; omega
  rw [e, beV_cons, List.length_drop, show b.length - (b.length - i) = i by omega]
  unfold byteAt
  rw [List.getD_eq_getElem?_getD, List.getElem?_eq_getElem (by omega)]
  rfl
theorem beV_drop_lt (b : List UInt8) (i : Nat) (h : i ≤ b.length) : beV (b.drop (b.length - i)) < 256 ^ i := by
  have := beV_lt (b.drop (b.length - i))
  rwa [List.length_drop, show b.length - (b.length - i) = i by omega] at this
/-- A byte is put at its place into digits that are below it. -/
theorem digN_byte (m v c i : Nat) (hv : v < 256 ^ i) (hc : c < 256) (hm : i / 4 < m) : digN m (v + c * 256 ^ i) = (digN m v).set (i / 4) (UInt32.ofNat (v / 4294967296 ^ (i / 4) + c * 256 ^ (i % 4))) ∧ v / 4294967296 ^ (i / 4) < 256 ^ (i % 4) := by
  obtain ⟨q, r, hr, rfl⟩ : ∃ q r, r < 4 ∧ i = 4 * q + r := ⟨i / 4, i % 4, by omega, by omega⟩
  have e1 : (4 * q + r) / 4 = q := by omega
  have e2 : (4 * q + r) % 4 = r := by omega
  have e3 : (256 : Nat) ^ (4 * q + r) = 4294967296 ^ q * 256 ^ r := by rw [Nat.pow_add, Nat.pow_mul]
  rw [e1] at hm
  rw [e1, e2]
  rw [e3] at hv ⊢
  have hB : 0 < 4294967296 ^ q := Nat.pow_pos (by decide)
  have hlow : v / 4294967296 ^ q < 256 ^ r := Nat.div_lt_of_lt_mul hv
  refine ⟨?_, hlow⟩
  have hr4 : (256 : Nat) ^ r * 256 ≤ 4294967296 := by
    have : r = 0 ∨ r = 1 ∨ r = 2 ∨ r = 3 := by omega
    rcases this with rfl | rfl | rfl | rfl <;> decide
  have hcr : c * 256 ^ r ≤ 255 * 256 ^ r := Nat.mul_le_mul_right _ (by omega)
  have hsum : v / 4294967296 ^ q + c * 256 ^ r < 4294967296 := by omega
  refine vL_inj (by simp [digN_len]) ?_
  have hs := vL_set (digN m v) q (UInt32.ofNat (v / 4294967296 ^ q + c * 256 ^ r)) (by rw [digN_len]; exact hm)
  rw [digN_at m v q hm, vL_digN, UInt32.toNat_ofNat', Nat.mod_eq_of_lt (show v / 4294967296 ^ q < 4294967296 by omega)] at hs
  have hsz : (2 : Nat) ^ 32 = 4294967296 := rfl
  rw [hsz, Nat.mod_eq_of_lt hsum] at hs
  have hpm : 4294967296 ^ q * 4294967296 ≤ 4294967296 ^ m := by
    rw [← Nat.pow_succ]; exact Nat.pow_le_pow_right (by decide) hm
  have hbig : v + c * (4294967296 ^ q * 256 ^ r) < 4294967296 ^ m := by
    have h1 : c * (4294967296 ^ q * 256 ^ r) ≤ 4294967296 ^ q * (255 * 256 ^ r) := by
      rw [Nat.mul_left_comm]; exact Nat.mul_le_mul_left _ hcr
    have h2 : 4294967296 ^ q * (256 ^ r * 256) ≤ 4294967296 ^ q * 4294967296 := Nat.mul_le_mul_left _ hr4
    have h3 : 4294967296 ^ q * (256 ^ r * 256) = 4294967296 ^ q * (255 * 256 ^ r) + 4294967296 ^ q * 256 ^ r := by
      rw [← Nat.mul_add]; congr 1; omega
    omega
  have hvm : v < 4294967296 ^ m := by omega
  rw [vL_digN, Nat.mod_eq_of_lt hbig]
  rw [Nat.mod_eq_of_lt hvm, Nat.add_mul] at hs
  have : c * 256 ^ r * 4294967296 ^ q = c * (4294967296 ^ q * 256 ^ r) := by rw [Nat.mul_assoc, Nat.mul_comm (256 ^ r)]
  omega
/-! ## a number's bytes with a bit ahead -/
theorem top_byte (v : Nat) : v / 256 ^ (bl v / 8) < 128 := by
  refine Nat.div_lt_of_lt_mul ?_
  rw [show (256 : Nat) ^ (bl v / 8) = 2 ^ (8 * (bl v / 8)) by rw [Nat.pow_mul], show (128 : Nat) = 2 ^ 7 from rfl, ← Nat.pow_add]
  exact Nat.lt_of_lt_of_le (lt_bl v) (Nat.pow_le_pow_right (by decide) (by omega))
theorem be_full (v : Nat) : beV (be (bl v / 8 + 1) v) = v := by
  rw [beV_be]
  refine Nat.mod_eq_of_lt ?_
  have := top_byte v
  rw [Nat.pow_succ]
  have h0 : 0 < 256 ^ (bl v / 8) := Nat.pow_pos (by decide)
  have := (Nat.div_lt_iff_lt_mul h0).1 this
  rw [Nat.mul_comm] at this
  omega
theorem second_byte (v k : Nat) (hk : bl v / 8 = k + 1) (h0 : v / 256 ^ (k + 1) = 0) : 128 ≤ v / 256 ^ k := by
  have hv : 0 < v := by
    rcases Nat.eq_zero_or_pos v with rfl | h
    · simp [bl] at hk
    · exact h
  have h1 := (bl_pos v hv).1
  have h2 : 2 ^ (8 * (k + 1) - 1) ≤ v := Nat.le_trans (Nat.pow_le_pow_right (by decide) (by omega)) h1
  refine (Nat.le_div_iff_mul_le (Nat.pow_pos (by decide))).2 ?_
  rw [show (256 : Nat) ^ k = 2 ^ (8 * k) by rw [Nat.pow_mul], show (128 : Nat) = 2 ^ 7 from rfl, ← Nat.pow_add]
  exact Nat.le_trans (Nat.pow_le_pow_right (by decide) (by omega)) h2
end Go.Proofs.YtmngjbefnloljaaDoor
