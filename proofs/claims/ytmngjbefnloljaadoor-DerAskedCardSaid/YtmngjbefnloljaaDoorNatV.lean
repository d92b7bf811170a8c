/- Plain: the value of digits of 2 to the 32, and of bytes. -/
import Derived.Test.YtmngjbefnloljaaDoorNumE
set_option linter.unusedSimpArgs false
set_option linter.unusedVariables false
set_option linter.constructorNameAsVariable false
namespace Go.Proofs.YtmngjbefnloljaaDoor
open Go Go.RowKit
set_option maxRecDepth 100000


/-! ## the value of digits of 2 to the 32, the least first -/
def vL : List UInt32 → Nat
  | [] => 0
  | x :: r => x.toNat + 4294967296 * vL r
theorem vL_append (l r : List UInt32) : vL (l ++ r) = vL l + 4294967296 ^ l.length * vL r := by
  induction l with
  | nil => simp [vL]
  | cons x t ih =>
    simp only [List.cons_append, vL, ih, List.length_cons, Nat.pow_succ]
    rw [Nat.mul_add, ← Nat.mul_assoc, Nat.mul_comm (4294967296 ^ t.length), Nat.add_assoc]
theorem vL_lt (l : List UInt32) : vL l < 4294967296 ^ l.length := by
  induction l with
  | nil => simp [vL]
  | cons x t ih =>
    have hx := UInt32.toNat_lt x
    simp only [vL, List.length_cons, Nat.pow_succ]
    omega
theorem vL_set (l : List UInt32) (i : Nat) (x : UInt32) (h : i < l.length) : vL (l.set i x) + d32 l i * 4294967296 ^ i = vL l + x.toNat * 4294967296 ^ i := by
  induction l generalizing i with
  | nil => simp at h
  | cons y t ih =>
    cases i with
    | zero => simp [vL, d32]; omega
    | succ i =>
      have := ih i (by simpa using h)
      simp only [List.set_cons_succ, vL, Nat.pow_succ]
      have e : d32 (y :: t) (i + 1) = d32 t i := rfl
      rw [e, ← Nat.mul_assoc, ← Nat.mul_assoc]
      omega
theorem vL_digit (l : List UInt32) (i : Nat) : vL l / 4294967296 ^ i % 4294967296 = d32 l i := by
  induction l generalizing i with
  | nil => simp [vL, d32]
  | cons y t ih =>
    have hy := UInt32.toNat_lt y
    cases i with
    | zero => simp only [vL, Nat.pow_zero, Nat.div_one]; show _ = y.toNat; omega
    | succ i =>
      have e : d32 (y :: t) (i + 1) = d32 t i := rfl
      rw [e, ← ih i, Nat.pow_succ, Nat.mul_comm (4294967296 ^ i), ← Nat.div_div_eq_div_mul]
      congr 2
      simp only [vL]
      omega
theorem vL_take_drop (l : List UInt32) (k : Nat) (h : k ≤ l.length) : vL l = vL (l.take k) + 4294967296 ^ k * vL (l.drop k) := by
  have := vL_append (l.take k) (l.drop k)
  rw [List.take_append_drop, List.length_take, Nat.min_eq_left h] at this
  exact this
theorem vL_zero (l : List UInt32) (h : ∀ i, i < l.length → d32 l i = 0) : vL l = 0 := by
  induction l with
  | nil => rfl
  | cons x t ih =>
    have h0 : x.toNat = 0 := h 0 (by simp)
    have := ih (fun i hi => h (i + 1) (by simpa using hi))
    simp only [vL]; omega
theorem d32_drop (l : List UInt32) (k i : Nat) : d32 (l.drop k) i = d32 l (k + i) := by
  unfold d32; simp
/-- So many digits of a number. -/
def digN : Nat → Nat → List UInt32
  | 0, _ => []
  | m + 1, v => UInt32.ofNat v :: digN m (v / 4294967296)
theorem digN_len (m v : Nat) : (digN m v).length = m := by induction m generalizing v with
  | zero => rfl
  | succ m ih => simp [digN, ih]
theorem vL_digN (m v : Nat) : vL (digN m v) = v % 4294967296 ^ m := by
  induction m generalizing v with
  | zero => simp [vL, digN, Nat.mod_one]
  | succ m ih =>
    simp only [digN, vL, ih, UInt32.toNat_ofNat']
    rw [show (4294967296 : Nat) ^ (m + 1) = 4294967296 * 4294967296 ^ m by rw [Nat.pow_succ, Nat.mul_comm], Nat.mod_mul]
theorem digN_vL (l : List UInt32) : digN l.length (vL l) = l := by
  induction l with
  | nil => rfl
  | cons x t ih =>
    have hx := UInt32.toNat_lt x
    simp only [List.length_cons, digN, vL]
    rw [show (x.toNat + 4294967296 * vL t) / 4294967296 = vL t by omega, ih]
    congr 1
    apply UInt32.toNat_inj.1
    rw [UInt32.toNat_ofNat']
    omega
theorem vL_inj {l r : List UInt32} (h : l.length = r.length) (e : vL l = vL r) : l = r := by
  rw [← digN_vL l, ← digN_vL r, h, e]
theorem digN_at (m v i : Nat) (h : i < m) : d32 (digN m v) i = v / 4294967296 ^ i % 4294967296 := by
  rw [← vL_digit, vL_digN]
  obtain ⟨k, rfl⟩ : ∃ k, m = i + (k + 1) := ⟨m - i - 1, by omega⟩
  rw [Nat.pow_add, Nat.mod_mul_right_div_self, Nat.pow_succ, Nat.mod_mul_left_mod]
theorem lt_bl (n : Nat) : n < 2 ^ bl n := by
  unfold bl
  split
  · rename_i h; subst h; decide
  · exact Nat.lt_log2_self
theorem bl_ge (n k : Nat) (h : 2 ^ k ≤ n) : k + 1 ≤ bl n := by
  rcases Nat.lt_or_ge k (bl n) with h1 | h1
  · exact h1
  · have h2 := lt_bl n
    have := Nat.pow_le_pow_right (show 0 < 2 by decide) h1
    omega
theorem bl_pos (n : Nat) (h : 0 < n) : 2 ^ (bl n - 1) ≤ n ∧ 1 ≤ bl n := by
  unfold bl
  rw [if_neg (by omega)]
  exact ⟨Nat.log2_self_le (by omega), by omega⟩
/-- How many digits a number has; they. -/
def nd (n : Nat) : Nat := (bl n + 31) / 32
def toL (n : Nat) : List UInt32 := digN (nd n) n
theorem pow32 (k : Nat) : (4294967296 : Nat) ^ k = 2 ^ (32 * k) := by rw [Nat.pow_mul]
theorem lt_nd (n : Nat) : n < 4294967296 ^ nd n := by
  rw [pow32]
  exact Nat.lt_of_lt_of_le (lt_bl n) (Nat.pow_le_pow_right (by decide) (by unfold nd; omega))
theorem vL_toL (n : Nat) : vL (toL n) = n := by
  unfold toL
  rw [vL_digN, Nat.mod_eq_of_lt (lt_nd n)]
theorem nd_eq (n t : Nat) (h : n < 4294967296 ^ (t + 1)) (h0 : 4294967296 ^ t ≤ n) : nd n = t + 1 := by
  rw [pow32] at h h0
  have h1 := bl_le _ _ h
  have h2 := bl_ge _ _ h0
  unfold nd; omega
theorem nd_le (n t : Nat) (h : n < 4294967296 ^ t) : nd n ≤ t := by
  rw [pow32] at h
  have h1 := bl_le _ _ h
  unfold nd; omega
theorem toL_len (n : Nat) : (toL n).length = nd n := digN_len _ _
theorem nd_zero : nd 0 = 0 := rfl
theorem nd_pos (n : Nat) (h : 0 < n) : 4294967296 ^ (nd n - 1) ≤ n ∧ 1 ≤ nd n := by
  have h1 := bl_pos n h
  rw [pow32]
  exact ⟨Nat.le_trans (Nat.pow_le_pow_right (by decide) (by unfold nd; omega)) h1.1, by unfold nd; omega⟩
theorem vL_tsz (l : List UInt32) : vL l = vL (trimL l) := by
  have ht := tsz_le (d32 l) l.length
  have hz : vL (l.drop (tsz (d32 l) l.length)) = 0 := vL_zero _ (fun i hi => by
    rw [d32_drop]
    rw [List.length_drop] at hi
    exact tsz_zero (d32 l) l.length _ (by omega) (by omega))
  rw [vL_take_drop l _ ht, hz]
  rfl
theorem d32_take (l : List UInt32) (k i : Nat) (h : i < k) : d32 (l.take k) i = d32 l i := by
  unfold d32; simp [h]
theorem tsz_nd (l : List UInt32) : tsz (d32 l) l.length = nd (vL l) := by
  have ht := tsz_le (d32 l) l.length
  have htop := tsz_top (d32 l) l.length
  have hlt := vL_lt (trimL l)
  have hlen : (trimL l).length = tsz (d32 l) l.length := by unfold trimL; rw [List.length_take]; omega
  rw [vL_tsz l]
  cases hk : tsz (d32 l) l.length with
  | zero =>
    have : trimL l = [] := List.eq_nil_of_length_eq_zero (by omega)
    rw [this]; rfl
  | succ t =>
    rw [hk] at htop hlen
    have h0 := htop (by omega)
    rw [show t + 1 - 1 = t from rfl] at h0
    have h1 : vL (trimL l) / 4294967296 ^ t % 4294967296 ≠ 0 := by
      rw [vL_digit]; unfold trimL; rw [hk, d32_take _ _ _ (by omega)]; exact h0
    rw [hlen] at hlt
    refine (nd_eq _ _ hlt ?_).symm
    rcases Nat.lt_or_ge (vL (trimL l)) (4294967296 ^ t) with h2 | h2
    · rw [Nat.div_eq_of_lt h2] at h1; simp at h1
    · exact h2
theorem trim_toL (l : List UInt32) : trimL l = toL (vL l) := by
  have ht := tsz_le (d32 l) l.length
  have hlen : (trimL l).length = nd (vL l) := by unfold trimL; rw [List.length_take, ← tsz_nd]; omega
  unfold toL
  rw [← hlen, vL_tsz l, digN_vL]
theorem toL_inj {m n : Nat} (h : toL m = toL n) : m = n := by rw [← vL_toL m, h, vL_toL]
theorem nbits_vL (l : List UInt32) : nbits (d32 l) l.length = bl (vL l) := by
  unfold nbits
  rw [tsz_nd]
  split
  · rename_i h
    rcases Nat.eq_zero_or_pos (vL l) with h0 | h0
    · rw [h0]; rfl
    · have := nd_pos _ h0; omega
  · rename_i h
    have h0 : 0 < vL l := by
      rcases Nat.eq_zero_or_pos (vL l) with h0 | h0
      · rw [h0] at h; exact absurd rfl h
      · exact h0
    have h1 := nd_pos _ h0
    rw [pow32] at h1
    rw [bl_shift _ _ h1.1]
    congr 2
    rw [← pow32, ← vL_digit]
    refine Nat.mod_eq_of_lt ?_
    have h2 := lt_nd (vL l)
    obtain ⟨t, e⟩ : ∃ t, nd (vL l) = t + 1 := ⟨nd (vL l) - 1, by omega⟩
    rw [e] at h2 ⊢
    rw [Nat.pow_succ] at h2
    exact Nat.div_lt_of_lt_mul h2

/-! ## bytes, the greatest first -/
def beV (b : List UInt8) : Nat := b.foldl (fun v c => v * 256 + c.toNat) 0
theorem beV_from (b : List UInt8) (v : Nat) : b.foldl (fun v c => v * 256 + c.toNat) v = v * 256 ^ b.length + beV b := by
  induction b generalizing v with
  | nil => simp [beV]
  | cons x t ih =>
    unfold beV
    simp only [List.foldl_cons, List.length_cons, Nat.zero_mul, Nat.zero_add]
    rw [ih, ih x.toNat, Nat.pow_succ, Nat.add_mul, Nat.mul_assoc, Nat.mul_comm 256, Nat.add_assoc]
theorem beV_cons (x : UInt8) (t : List UInt8) : beV (x :: t) = x.toNat * 256 ^ t.length + beV t := by
  show t.foldl _ _ = _
  rw [beV_from]; simp
theorem beV_append (l r : List UInt8) : beV (l ++ r) = beV l * 256 ^ r.length + beV r := by
  unfold beV
  rw [List.foldl_append, beV_from]; rfl
theorem beV_lt (b : List UInt8) : beV b < 256 ^ b.length := by
  induction b with
  | nil => simp [beV]
  | cons x t ih =>
    have hx := UInt8.toNat_lt x
    rw [beV_cons, List.length_cons, Nat.pow_succ]
    have : x.toNat * 256 ^ t.length ≤ 255 * 256 ^ t.length := Nat.mul_le_mul_right _ (by omega)
    omega
theorem beV_be (k n : Nat) : beV (be k n) = n % 256 ^ k := by
  induction k with
  | zero => simp [be, beV, Nat.mod_one]
  | succ k ih =>
    simp only [be]
    rw [beV_cons, ih, be_len, UInt8.toNat_ofNat', show (256 : Nat) ^ (k + 1) = 256 ^ k * 256 from Nat.pow_succ .., Nat.mod_mul, Nat.mul_comm, Nat.add_comm]
theorem be_mod (k n : Nat) : be k (n % 256 ^ k) = be k n := by
  have key : ∀ j, j ≤ k → be j (n % 256 ^ k) = be j n := by
    intro j
    induction j with
    | zero => intro _; rfl
    | succ j ih =>
      intro hj
      simp only [be]
      rw [ih (by omega)]
      congr 1
      apply UInt8.toNat_inj.1
      rw [UInt8.toNat_ofNat', UInt8.toNat_ofNat']
      obtain ⟨i, rfl⟩ : ∃ i, k = j + (i + 1) := ⟨k - j - 1, by omega⟩
      rw [Nat.pow_add, Nat.mod_mul_right_div_self, Nat.pow_succ]
      exact Nat.mod_mul_left_mod _ _ _
  exact key k (Nat.le_refl _)
theorem be_beV (b : List UInt8) : be b.length (beV b) = b := by
  induction b with
  | nil => rfl
  | cons x t ih =>
    have hx := UInt8.toNat_lt x
    have ht := beV_lt t
    simp only [List.length_cons, be]
    rw [beV_cons]
    congr 1
    · apply UInt8.toNat_inj.1
      rw [UInt8.toNat_ofNat', Nat.mul_comm, Nat.mul_add_div (Nat.pow_pos (by decide)), Nat.div_eq_of_lt ht]
      omega
    · rw [← be_mod, Nat.mul_comm, Nat.mul_add_mod, Nat.mod_eq_of_lt ht, ih]
theorem wB_vL (l : List UInt32) (i : Nat) : wB (d32 l) i = UInt8.ofNat (vL l / 256 ^ i) := by
  apply UInt8.toNat_inj.1
  unfold wB
  rw [UInt8.toNat_ofNat', UInt8.toNat_ofNat', ← vL_digit]
  obtain ⟨q, r, hr, rfl⟩ : ∃ q r, r < 4 ∧ i = 4 * q + r := ⟨i / 4, i % 4, by omega, by omega⟩
  rw [show (4 * q + r) / 4 = q by omega, show (4 * q + r) % 4 = r by omega, Nat.pow_add, Nat.pow_mul, ← Nat.div_div_eq_div_mul]
  rw [show (256 : Nat) ^ 4 = 4294967296 from rfl]
  generalize vL l / 4294967296 ^ q = v
  have : r = 0 ∨ r = 1 ∨ r = 2 ∨ r = 3 := by omega
  rcases this with rfl | rfl | rfl | rfl <;> simp only [Nat.reducePow] <;> omega
theorem natW_be (l : List UInt32) (k : Nat) : natW (d32 l) k = be k (vL l) := by
  induction k with
  | zero => rfl
  | succ k ih => simp only [natW, be, ih, wB_vL]
/-- One byte more, from behind. -/
theorem beV_drop (b : List UInt8) (i : Nat) (h : i < b.length) : beV (b.drop (b.length - (i + 1))) = byteAt b (b.length - 1 - i) * 256 ^ i + beV (b.drop (b.length - i)) := by
  have e : b.drop (b.length - (i + 1)) = b[b.length - 1 - i] :: b.drop (b.length - i) := by
    rw [show b.length - (i + 1) = b.length - 1 - i by omega, List.drop_eq_getElem_cons (by omega)]
    congr 2; omega
  rw [e, beV_cons, List.length_drop, show b.length - (b.length - i) = i by omega]
  unfold byteAt
  rw [List.getD_eq_getElem?_getD, List.getElem?_eq_getElem (by omega)]
  rfl
theorem beV_drop_lt (b : List UInt8) (i : Nat) (h : i ≤ b.length) : beV (b.drop (b.length - i)) < 256 ^ i := by
  have := beV_lt (b.drop (b.length - i))
  rwa [List.length_drop, show b.length - (b.length - i) = i by omega] at this
/-- A byte is put at its place into digits that are below it. -/
theorem digN_byte (m v c i : Nat) (hv : v < 256 ^ i) (hc : c < 256) (hm : i / 4 < m) : digN m (v + c * 256 ^ i) = (digN m v).set (i / 4) (UInt32.ofNat (v / 4294967296 ^ (i / 4) + c * 256 ^ (i % 4))) ∧ v / 4294967296 ^ (i / 4) < 256 ^ (i % 4) := by
  obtain ⟨q, r, hr, rfl⟩ : ∃ q r, r < 4 ∧ i = 4 * q + r := ⟨i / 4, i % 4, by omega, by omega⟩
  have e1 : (4 * q + r) / 4 = q := by omega
  have e2 : (4 * q + r) % 4 = r := by omega
  have e3 : (256 : Nat) ^ (4 * q + r) = 4294967296 ^ q * 256 ^ r := by rw [Nat.pow_add, Nat.pow_mul]
  rw [e1] at hm
  rw [e1, e2]
  rw [e3] at hv ⊢
  have hB : 0 < 4294967296 ^ q := Nat.pow_pos (by decide)
  have hlow : v / 4294967296 ^ q < 256 ^ r := Nat.div_lt_of_lt_mul hv
  refine ⟨?_, hlow⟩
  have hr4 : (256 : Nat) ^ r * 256 ≤ 4294967296 := by
    have : r = 0 ∨ r = 1 ∨ r = 2 ∨ r = 3 := by omega
    rcases this with rfl | rfl | rfl | rfl <;> decide
  have hcr : c * 256 ^ r ≤ 255 * 256 ^ r := Nat.mul_le_mul_right _ (by omega)
  have hsum : v / 4294967296 ^ q + c * 256 ^ r < 4294967296 := by omega
  refine vL_inj (by simp [digN_len]) ?_
  have hs := vL_set (digN m v) q (UInt32.ofNat (v / 4294967296 ^ q + c * 256 ^ r)) (by rw [digN_len]; exact hm)
  rw [digN_at m v q hm, vL_digN, UInt32.toNat_ofNat', Nat.mod_eq_of_lt (show v / 4294967296 ^ q < 4294967296 by omega)] at hs
  have hsz : (2 : Nat) ^ 32 = 4294967296 := rfl
  rw [hsz, Nat.mod_eq_of_lt hsum] at hs
  have hpm : 4294967296 ^ q * 4294967296 ≤ 4294967296 ^ m := by
    rw [← Nat.pow_succ]; exact Nat.pow_le_pow_right (by decide) hm
  have hbig : v + c * (4294967296 ^ q * 256 ^ r) < 4294967296 ^ m := by
    have h1 : c * (4294967296 ^ q * 256 ^ r) ≤ 4294967296 ^ q * (255 * 256 ^ r) := by
      rw [Nat.mul_left_comm]; exact Nat.mul_le_mul_left _ hcr
    have h2 : 4294967296 ^ q * (256 ^ r * 256) ≤ 4294967296 ^ q * 4294967296 := Nat.mul_le_mul_left _ hr4
    have h3 : 4294967296 ^ q * (256 ^ r * 256) = 4294967296 ^ q * (255 * 256 ^ r) + 4294967296 ^ q * 256 ^ r := by
      rw [← Nat.mul_add]; congr 1; omega
    omega
  have hvm : v < 4294967296 ^ m := by omega
  rw [vL_digN, Nat.mod_eq_of_lt hbig]
  rw [Nat.mod_eq_of_lt hvm, Nat.add_mul] at hs
  have : c * 256 ^ r * 4294967296 ^ q = c * (4294967296 ^ q * 256 ^ r) := by rw [Nat.mul_assoc, Nat.mul_comm (256 ^ r)]
  omega
/-! ## a number's bytes with a bit ahead -/
theorem top_byte (v : Nat) : v / 256 ^ (bl v / 8) < 128 := by
  refine Nat.div_lt_of_lt_mul ?_
  rw [show (256 : Nat) ^ (bl v / 8) = 2 ^ (8 * (bl v / 8)) by rw [Nat.pow_mul], show (128 : Nat) = 2 ^ 7 from rfl, ← Nat.pow_add]
  exact Nat.lt_of_lt_of_le (lt_bl v) (Nat.pow_le_pow_right (by decide) (by omega))
theorem be_full (v : Nat) : beV (be (bl v / 8 + 1) v) = v := by
  rw [beV_be]
  refine Nat.mod_eq_of_lt ?_
  have := top_byte v
  rw [Nat.pow_succ]
  have h0 : 0 < 256 ^ (bl v / 8) := Nat.pow_pos (by decide)
  have := (Nat.div_lt_iff_lt_mul h0).1 this
  rw [Nat.mul_comm] at this
  omega
theorem second_byte (v k : Nat) (hk : bl v / 8 = k + 1) (h0 : v / 256 ^ (k + 1) = 0) : 128 ≤ v / 256 ^ k := by
  have hv : 0 < v := by
    rcases Nat.eq_zero_or_pos v with rfl | h
    · simp [bl] at hk
    · exact h
  have h1 := (bl_pos v hv).1
  have h2 : 2 ^ (8 * (k + 1) - 1) ≤ v := Nat.le_trans (Nat.pow_le_pow_right (by decide) (by omega)) h1
  refine (Nat.le_div_iff_mul_le (Nat.pow_pos (by decide))).2 ?_
  rw [show (256 : Nat) ^ k = 2 ^ (8 * k) by rw [Nat.pow_mul], show (128 : Nat) = 2 ^ 7 from rfl, ← Nat.pow_add]
  exact Nat.le_trans (Nat.pow_le_pow_right (by decide) (by omega)) h2

theorem vL_put (l : List UInt32) (p t : Nat) (h : p < l.length) : vL (l.set p (UInt32.ofNat t)) + t / 4294967296 * 4294967296 ^ (p + 1) + d32 l p * 4294967296 ^ p = vL l + t * 4294967296 ^ p := by
  have hs := vL_set l p (UInt32.ofNat t) h
  rw [UInt32.toNat_ofNat', show (2 : Nat) ^ 32 = 4294967296 from rfl] at hs
  have e : t * 4294967296 ^ p = (t % 4294967296) * 4294967296 ^ p + t / 4294967296 * 4294967296 ^ (p + 1) := by
    rw [Nat.pow_succ, Nat.mul_comm _ 4294967296, ← Nat.mul_assoc, ← Nat.add_mul]
    congr 1
    omega
  omega
theorem vL_take_succ (l : List UInt32) (k : Nat) : vL (l.take (k + 1)) = vL (l.take k) + d32 l k * 4294967296 ^ k := by
  rcases Nat.lt_or_ge k l.length with h | h
  case inr => rw [List.take_of_length_le (by omega), List.take_of_length_le h, d32_out l k h]; simp
  rw [List.take_succ_eq_append_getElem h, vL_append, List.length_take, Nat.min_eq_left (by omega)]
  have : d32 l k = l[k].toNat := by unfold d32; rw [List.getD_eq_getElem?_getD, List.getElem?_eq_getElem h]; rfl
  rw [this]
  simp [vL, Nat.mul_comm]
/-- One step of a product by one digit. -/
theorem mul_step {out b : List UInt32} {V x c i k : Nat} (hk : k < b.length) (hp : i + k < out.length) (h : vL out + c * 4294967296 ^ (i + k) = V + x * vL (b.take k) * 4294967296 ^ i) :
    vL (out.set (i + k) (UInt32.ofNat (c + x * d32 b k + d32 out (i + k)))) + (c + x * d32 b k + d32 out (i + k)) / 4294967296 * 4294967296 ^ (i + (k + 1)) = V + x * vL (b.take (k + 1)) * 4294967296 ^ i := by
  have hv := vL_put out (i + k) (c + x * d32 b k + d32 out (i + k)) hp
  rw [vL_take_succ b k]
  rw [Nat.add_mul, Nat.add_mul] at hv
  rw [Nat.mul_add, Nat.add_mul, show x * (d32 b k * 4294967296 ^ k) * 4294967296 ^ i = x * d32 b k * 4294967296 ^ (i + k) by rw [Nat.pow_add]; grind]
  rw [← Nat.add_assoc i k 1]
  omega
theorem carry_lt {c x y z : Nat} (hc : c < 4294967296) (hx : x < 4294967296) (hy : y < 4294967296) (hz : z < 4294967296) : c + x * y + z < 18446744073709551616 := by
  have : x * y ≤ 4294967295 * 4294967295 := Nat.mul_le_mul (by omega) (by omega)
  omega
theorem d32_set (l : List UInt32) (p j : Nat) (x : UInt32) (h : p < l.length) : d32 (l.set p x) j = if p = j then x.toNat else d32 l j := by
  unfold d32
  rw [List.getD_eq_getElem?_getD, List.getElem?_set]
  split
  · rename_i e; subst e; simp [h]
  · simp
/-- One row of a product is done. -/
theorem mul_row {out a b : List UInt32} {V c i : Nat} (hi : i < a.length) (hp : i + b.length < out.length) (hz : d32 out (i + b.length) = 0) (hc : c < 4294967296) (hV : V = vL (a.take i) * vL b)
    (h : vL out + c * 4294967296 ^ (i + b.length) = V + d32 a i * vL (b.take b.length) * 4294967296 ^ i) : vL (out.set (i + b.length) (UInt32.ofNat c)) = vL (a.take (i + 1)) * vL b := by
  have hs := vL_put out (i + b.length) c hp
  rw [hz, Nat.div_eq_of_lt hc] at hs
  rw [List.take_length] at h
  rw [vL_take_succ a i, Nat.add_mul, ← hV, show d32 a i * 4294967296 ^ i * vL b = d32 a i * vL b * 4294967296 ^ i by grind]
  omega

/-! ## division: the guess -/
theorem guess_lo (w V k m : Nat) (hV : 0 < V) : w / (V * 4294967296 ^ k) * (V / 4294967296 ^ m) ≤ w / 4294967296 ^ (k + m) := by
  have hB : 0 < 4294967296 ^ (k + m) := Nat.pow_pos (by decide)
  rw [Nat.le_div_iff_mul_le hB]
  have h1 := Nat.div_mul_le_self w (V * 4294967296 ^ k)
  have h2 := Nat.div_mul_le_self V (4294967296 ^ m)
  have h3 : w / (V * 4294967296 ^ k) * (V / 4294967296 ^ m) * 4294967296 ^ (k + m) = w / (V * 4294967296 ^ k) * (V / 4294967296 ^ m * 4294967296 ^ m * 4294967296 ^ k) := by rw [Nat.pow_add]; grind
  rw [h3]
  exact Nat.le_trans (Nat.mul_le_mul_left _ (Nat.mul_le_mul_right _ h2)) h1
theorem guess_hi (w V k m g : Nat) (hg : g < 4294967296) (hS : g * (V / 4294967296 ^ m) ≤ w / 4294967296 ^ (k + m)) (hV : 4294967296 ^ (m + 1) ≤ V) : g ≤ w / (V * 4294967296 ^ k) + 1 := by
  have hB : 0 < 4294967296 ^ (k + m) := Nat.pow_pos (by decide)
  have hBm : 0 < 4294967296 ^ m := Nat.pow_pos (by decide)
  have hBk : 0 < 4294967296 ^ k := Nat.pow_pos (by decide)
  have hV0 : 0 < V := Nat.lt_of_lt_of_le (Nat.pow_pos (by decide)) hV
  have h1 := (Nat.le_div_iff_mul_le hB).1 hS
  have h2 : V < (V / 4294967296 ^ m + 1) * 4294967296 ^ m := by
    have := Nat.lt_div_mul_add hBm (a := V)
    rw [Nat.add_mul]; omega
  cases g with
  | zero => exact Nat.zero_le _
  | succ g =>
    refine Nat.succ_le_succ ((Nat.le_div_iff_mul_le (Nat.mul_pos hV0 hBk)).2 ?_)
    -- g V B^k ≤ (g+1) V B^k - V B^k ≤ (g+1)(S+1) B^m B^k - V B^k ≤ w + (g+1) B^(m+k) - V B^k ≤ w
    have h3 : (g + 1) * V ≤ (g + 1) * ((V / 4294967296 ^ m + 1) * 4294967296 ^ m) := Nat.mul_le_mul_left _ (Nat.le_of_lt h2)
    have h4 : (g + 1) * 4294967296 ^ m ≤ V := by
      refine Nat.le_trans ?_ hV
      rw [Nat.pow_succ, Nat.mul_comm]
      exact Nat.mul_le_mul_left _ (by omega)
    have h5 : (g + 1) * ((V / 4294967296 ^ m + 1) * 4294967296 ^ m) = (g + 1) * (V / 4294967296 ^ m) * 4294967296 ^ m + (g + 1) * 4294967296 ^ m := by grind
    have h6 : g * V ≤ (g + 1) * (V / 4294967296 ^ m) * 4294967296 ^ m := by
      have : (g + 1) * V = g * V + V := Nat.succ_mul ..
      omega
    have h7 : g * (V * 4294967296 ^ k) ≤ (g + 1) * (V / 4294967296 ^ m) * 4294967296 ^ (k + m) := by
      rw [← Nat.mul_assoc, Nat.pow_add, Nat.mul_comm (4294967296 ^ k), ← Nat.mul_assoc]
      exact Nat.mul_le_mul_right _ h6
    exact Nat.le_trans h7 h1
/-- The reference's guess is never too great. -/
theorem guess_ref (w V k m : Nat) : w / 4294967296 ^ (k + m) / (V / 4294967296 ^ m + 1) * (V * 4294967296 ^ k) ≤ w := by
  have hB : 0 < 4294967296 ^ (k + m) := Nat.pow_pos (by decide)
  have hBm : 0 < 4294967296 ^ m := Nat.pow_pos (by decide)
  have h2 : V ≤ (V / 4294967296 ^ m + 1) * 4294967296 ^ m := by
    have := Nat.lt_div_mul_add hBm (a := V)
    rw [Nat.add_mul]; omega
  generalize hg : w / 4294967296 ^ (k + m) / (V / 4294967296 ^ m + 1) = g
  have h1 : g * (V / 4294967296 ^ m + 1) ≤ w / 4294967296 ^ (k + m) := by rw [← hg]; exact Nat.div_mul_le_self _ _
  have h3 := (Nat.le_div_iff_mul_le hB).1 h1
  refine Nat.le_trans ?_ h3
  rw [Nat.pow_add, Nat.mul_comm (4294967296 ^ k), ← Nat.mul_assoc, ← Nat.mul_assoc]
  refine Nat.mul_le_mul_right _ ?_
  rw [Nat.mul_assoc]
  exact Nat.mul_le_mul_left _ h2
/-! ## taking away: digit by digit, with what is carried and borrowed -/
theorem sub_step {out v : List UInt32} {W g c k i b e r : Nat} (hp : k + i < out.length) (h : vL out + g * vL (v.take i) * 4294967296 ^ k = W + (c + b) * 4294967296 ^ (k + i))
    (hr : r < 4294967296) (he : d32 out (k + i) + e * 4294967296 = b + (c + g * d32 v i) % 4294967296 + r) :
    vL (out.set (k + i) (UInt32.ofNat r)) + g * vL (v.take (i + 1)) * 4294967296 ^ k = W + ((c + g * d32 v i) / 4294967296 + e) * 4294967296 ^ (k + (i + 1)) := by
  have hs := vL_put out (k + i) r hp
  rw [Nat.div_eq_of_lt hr] at hs
  rw [vL_take_succ v i, ← Nat.add_assoc k i 1, Nat.pow_succ, Nat.mul_add, Nat.add_mul, show g * (d32 v i * 4294967296 ^ i) * 4294967296 ^ k = g * d32 v i * 4294967296 ^ (k + i) by rw [Nat.pow_add]; grind]
  generalize 4294967296 ^ (k + i) = P at *
  have hdm : c + g * d32 v i = (c + g * d32 v i) % 4294967296 + 4294967296 * ((c + g * d32 v i) / 4294967296) := (Nat.mod_add_div _ _).symm
  generalize (c + g * d32 v i) % 4294967296 = lo at *
  generalize (c + g * d32 v i) / 4294967296 = hi2 at *
  generalize d32 out (k + i) = u at *
  have h9 : (u + e * 4294967296) * P = (b + lo + r) * P := by rw [he]
  have h10 : (c + g * d32 v i) * P = (lo + 4294967296 * hi2) * P := by rw [← hdm]
  grind
theorem add_step {out v : List UInt32} {W c k i : Nat} (hp : k + i < out.length) (h : vL out + c * 4294967296 ^ (k + i) = W + vL (v.take i) * 4294967296 ^ k) :
    vL (out.set (k + i) (UInt32.ofNat (c + d32 out (k + i) + d32 v i))) + (c + d32 out (k + i) + d32 v i) / 4294967296 * 4294967296 ^ (k + (i + 1)) = W + vL (v.take (i + 1)) * 4294967296 ^ k := by
  have hs := vL_put out (k + i) (c + d32 out (k + i) + d32 v i) hp
  rw [vL_take_succ v i, ← Nat.add_assoc k i 1, Nat.add_mul, show d32 v i * 4294967296 ^ i * 4294967296 ^ k = d32 v i * 4294967296 ^ (k + i) by rw [Nat.pow_add]; grind]
  generalize 4294967296 ^ (k + i + 1) = P at *
  grind
theorem vL_lt_zero {l : List UInt32} {m : Nat} (h : ∀ j, m ≤ j → d32 l j = 0) : vL l < 4294967296 ^ m := by
  rcases Nat.lt_or_ge l.length m with hl | hl
  · exact Nat.lt_of_lt_of_le (vL_lt l) (Nat.pow_le_pow_right (by decide) (by omega))
  · rw [vL_take_drop l m hl, vL_zero (l.drop m) (fun i _ => by rw [d32_drop]; exact h _ (by omega))]
    have := vL_lt (l.take m)
    rw [List.length_take, Nat.min_eq_left hl] at this
    omega
theorem vL_zero_above {l : List UInt32} {m : Nat} (h : vL l < 4294967296 ^ m) (j : Nat) (hj : m ≤ j) : d32 l j = 0 := by
  rw [← vL_digit, Nat.div_eq_of_lt (Nat.lt_of_lt_of_le h (Nat.pow_le_pow_right (by decide) hj))]
theorem digN_fix {l : List UInt32} {N x : Nat} (h : l.length = N) (e : vL l = x) : l = digN N x := by
  subst h e; exact (digN_vL l).symm
/-- What is left of a number, and how often. -/
theorem rem_eq {x w D q : Nat} (h : x + q * D = w) (hx : x < D) : q = w / D ∧ x = w % D := by
  subst h
  have hD : 0 < D := by omega
  rw [Nat.mul_comm q D, Nat.add_mul_div_left _ _ hD, Nat.add_mul_mod_self_left, Nat.div_eq_of_lt hx, Nat.mod_eq_of_lt hx]
  exact ⟨by omega, rfl⟩
/-- The guess was right. -/
theorem step_ok1 {U : List UInt32} {w D k n g c b N : Nat} (hN : U.length = N) (hk : k + n < N) (h : vL U + g * D = w + (c + b) * 4294967296 ^ (k + n)) (hle : c + b ≤ d32 U (k + n)) (hq : w / D ≤ g) (hD : 0 < D) :
    U.set (k + n) (UInt32.ofNat (d32 U (k + n) - (c + b))) = digN N (w % D) ∧ g = w / D := by
  have hs := vL_put U (k + n) (d32 U (k + n) - (c + b)) (by omega)
  have hd := d32_lt U (k + n)
  rw [Nat.div_eq_of_lt (by omega), Nat.sub_mul] at hs
  have hm : (c + b) * 4294967296 ^ (k + n) ≤ d32 U (k + n) * 4294967296 ^ (k + n) := Nat.mul_le_mul_right _ hle
  have e : vL (U.set (k + n) (UInt32.ofNat (d32 U (k + n) - (c + b)))) + g * D = w := by omega
  have hg : g = w / D := by
    refine Nat.le_antisymm ((Nat.le_div_iff_mul_le hD).2 (by omega)) hq
  refine ⟨digN_fix (by simp [hN]) ?_, hg⟩
  have := Nat.div_add_mod w D
  rw [← hg, Nat.mul_comm] at this
  omega
/-- The guess was one too great. -/
theorem step_ok2 {U W : List UInt32} {w D V k n g c b c2 N : Nat} (hN : U.length = N) (hNW : W.length = N) (hk : k + n < N) (hVD : D = V * 4294967296 ^ k) (hV : V < 4294967296 ^ n) (h : vL U + g * D = w + (c + b) * 4294967296 ^ (k + n)) (hz : ∀ j, k + n < j → d32 U j = 0) (hgt : d32 U (k + n) < c + b) (hcb : c + b ≤ d32 U (k + n) + 4294967296)
    (hq : w / D ≤ g) (hq2 : g ≤ w / D + 1) (hD : 0 < D) (hc2 : c2 ≤ 1) (hW : vL W + c2 * 4294967296 ^ (k + n) = vL (U.set (k + n) (UInt32.ofNat (d32 U (k + n) + 4294967296 - (c + b)))) + V * 4294967296 ^ k)
    (hWd : d32 W (k + n) = (d32 U (k + n) + 4294967296 - (c + b)) % 4294967296) (hWz : ∀ j, k + n < j → d32 W j = 0) :
    W.set (k + n) (UInt32.ofNat (d32 W (k + n) + c2)) = digN N (w % D) ∧ g = w / D + 1 := by
  have hP : (4294967296 : Nat) ^ (k + n + 1) = 4294967296 ^ (k + n) * 4294967296 := Nat.pow_succ ..
  have hDlt : D < 4294967296 ^ (k + n) := by
    rw [hVD, Nat.pow_add, Nat.mul_comm]; exact Nat.mul_lt_mul_of_pos_left hV (Nat.pow_pos (by decide))
  have hs := vL_put U (k + n) (d32 U (k + n) + 4294967296 - (c + b)) (by omega)
  have hs2 := vL_put W (k + n) (d32 W (k + n) + c2) (by omega)
  have hU := vL_lt_zero (l := U) (m := k + n + 1) (fun j hj => hz j (by omega))
  have hdm := Nat.div_add_mod w D
  have hml := Nat.mod_lt w hD
  have hWlt := vL_lt_zero (l := W) (m := k + n + 1) (fun j hj => hWz j (by omega))
  have hge : g = w / D + 1 := by
    rcases Nat.lt_or_ge (w / D) g with h1 | h1
    · omega
    · -- then g D ≤ w, and nothing is borrowed
      exfalso
      have hgD : g * D ≤ w := Nat.le_trans (Nat.mul_le_mul_right _ h1) (Nat.div_mul_le_self _ _)
      have h2 : (d32 U (k + n) + 1) * 4294967296 ^ (k + n) ≤ (c + b) * 4294967296 ^ (k + n) := Nat.mul_le_mul_right _ hgt
      have h3 := vL_take_drop U (k + n) (by omega)
      have h4 : vL (U.drop (k + n)) = d32 U (k + n) := by
        have := vL_take_succ (U.drop (k + n)) 0
        have h5 : vL ((U.drop (k + n)).drop 1) = 0 := vL_zero _ (fun i _ => by rw [d32_drop, d32_drop]; exact hz _ (by omega))
        have h6 := vL_take_drop (U.drop (k + n)) 1 (by rw [List.length_drop]; omega)
        rw [h5] at h6
        rw [this] at h6
        rw [d32_drop] at h6
        simpa [vL] using h6
      have h5 := vL_lt (U.take (k + n))
      rw [List.length_take, Nat.min_eq_left (by omega)] at h5
      rw [h4, Nat.mul_comm] at h3
      rw [Nat.add_mul] at h2
      omega
  refine ⟨digN_fix (by simp [hNW]) ?_, hge⟩
  rw [← hVD] at hW
  generalize 4294967296 ^ (k + n) = P at *
  rw [hP] at hs hs2 hU hWlt
  have hgD : g * D = D * (w / D) + D := by rw [hge, Nat.add_mul, Nat.mul_comm, Nat.one_mul]
  generalize he : d32 U (k + n) + 4294967296 - (c + b) = e at *
  have hdl := d32_lt U (k + n)
  have he2 : e * P + (c + b) * P = d32 U (k + n) * P + 4294967296 * P := by rw [← Nat.add_mul, ← Nat.add_mul]; congr 1; omega
  have hel : e < 4294967296 := by omega
  rw [Nat.div_eq_of_lt hel] at hs
  rw [Nat.mod_eq_of_lt hel] at hWd
  rw [hWd] at hs2 ⊢
  rw [Nat.add_mul] at hs2
  -- vL W' + K P B = B P + w % D
  have hK : (e + c2) / 4294967296 ≤ 1 := by omega
  have hWz2 := vL_lt_zero (l := W.set (k + n) (UInt32.ofNat (e + c2))) (m := k + n + 1) (fun j hj => by rw [d32_set _ _ _ _ (by omega), if_neg (by omega)]; exact hWz j (by omega))
  rw [hP] at hWz2
  have hK01 : (e + c2) / 4294967296 = 0 ∨ (e + c2) / 4294967296 = 1 := by omega
  rcases hK01 with hk0 | hk1
  · rw [hk0] at hs2; omega
  · rw [hk1] at hs2; omega
/-- The reference takes away. -/
theorem take_ok {U : List UInt32} {w D k n c b g N : Nat} (hN : U.length = N) (h : vL U + g * D = w + (c + b) * 4294967296 ^ (k + (n + 1))) (hz : ∀ j, k + n < j → d32 U j = 0) (hle : g * D ≤ w) : U = digN N (w - g * D) := by
  have hU := vL_lt_zero (l := U) (m := k + (n + 1)) (fun j hj => hz j (by omega))
  have hcb : c + b = 0 := by
    rcases Nat.eq_zero_or_pos (c + b) with h0 | h0
    · exact h0
    · have : 1 * 4294967296 ^ (k + (n + 1)) ≤ (c + b) * 4294967296 ^ (k + (n + 1)) := Nat.mul_le_mul_right _ h0
      omega
  rw [hcb] at h
  exact digN_fix hN (by omega)
def ws (k : IntKind) (l : List UInt32) : List Value := l.map fun x => .int k (x.toNat : Int)
theorem ws_len (k : IntKind) (l : List UInt32) : (ws k l).length = l.length := by simp [ws]
theorem ws_set (k : IntKind) (l : List UInt32) (i : Nat) (x : UInt32) : (ws k l).set i (.int k (x.toNat : Int)) = ws k (l.set i x) := by simp [ws, List.map_set]
theorem d32_get (l : List UInt32) (i : Nat) (h : i < l.length) : d32 l i = l[i].toNat := by unfold d32; simp [h]
theorem ws_at (k : IntKind) (l : List UInt32) (i : Nat) (h : i < l.length) : (ws k l)[i]? = some (.int k (d32 l i : Nat)) := by
  rw [d32_get l i h]; simp [ws, h]
theorem digN_zero : ∀ m, digN m 0 = List.replicate m 0
  | 0 => rfl
  | m + 1 => by rw [digN, Nat.zero_div, digN_zero m]; rfl
theorem ws_zero (k : IntKind) (m : Nat) : List.replicate m (Value.int k 0) = ws k (digN m 0) := by rw [digN_zero]; simp [ws]
theorem CellsR.of_ws32 {h : Part} {l : List UInt32} : CellsR u32R 1 h (ws .u32 l) l := ⟨by simp [ws], fun i x hx => by
  unfold u32R
  rw [Nat.mul_one, List.take_one, List.head?_drop]
  simp [ws, hx]⟩
theorem CellsR.of_ws64 {h : Part} {l : List UInt32} : CellsR u64R 1 h (ws .u64 l) (l.map m64) := ⟨by simp [ws], fun i x hx => by
  unfold u64R
  rw [List.getElem?_map, Option.map_eq_some_iff] at hx
  obtain ⟨y, hy, rfl⟩ := hx
  rw [Nat.mul_one, List.take_one, List.head?_drop, m64_nat]
  simp [ws, hy]⟩
theorem cutZ_map (l : List UInt32) : cutZ (l.map m64) = (toL (vL l)).map m64 := by
  rw [← trim_toL]
  unfold cutZ trimL
  rw [tsz_congr (d64_map l), List.length_map, List.map_take]
theorem map_n32 (l : List UInt32) : (l.map m64).map n32 = l := by
  rw [List.map_map]
  conv => rhs; rw [← List.map_id l]
  exact List.map_congr_left (fun x _ => n32_m64 x)

section
variable {f : Fr} {n : Post} {x : Nat → Post} {S : Sig} {h : Part} {L L' : List Ent} {ops : Array Oper} {rest : List Oper}
variable {ty : TypeId} {pos : String} {af : Array Edge} {d : Nat} {v : Value} {T : TypeId} {xo yo : Operand}
theorem RunV.wload {g c t m i : Nat} {k : IntKind} {l : List UInt32} (hT : aggT f.P T = some none) (hx : ev S xo = some (.pointer (some ⟨g, i, none⟩))) (hm : Ent.row (some ⟨g, 0, none⟩) c t 1 m (ws k l) ∈ L) (hi : i < l.length) : RunV f S h L (.load T xo) ty (.int k (d32 l i : Nat)) :=
  RunV.rowload hT hx hm (ws_at k l i hi)
theorem JL.storeW (t0 : Nat) {g c t m i : Nat} {k : IntKind} {p : Int} {l : List UInt32} (hT : aggT f.P T = some none) (hx : ev S xo = some (.pointer (some ⟨g, i, none⟩))) (hy : ev S yo = some (.int k p)) (hp : p = ((t0 % 4294967296 : Nat) : Int)) (u : Del (.row (some ⟨g, 0, none⟩) c t 1 m (ws k l)) L L') (hi : i < l.length)
    (kk : JL f ops n x rest S h (.row (some ⟨g, 0, none⟩) c t 1 m (ws k (l.set i (UInt32.ofNat t0))) :: L')) : JL f ops n x (⟨none, .store T xo yo, ty, pos, af, none⟩ :: rest) S h L := by
  refine JL.storeRow hT hx hy rfl u (by rw [ws_len]; exact hi) ?_
  have e : p = ((UInt32.ofNat t0).toNat : Int) := by rw [hp, UInt32.toNat_ofNat']
  rw [e, ws_set]
  exact kk
/-- An index within a window of a row. -/
theorem RunV.index_off {e g o ln c m : Nat} {k : IntKind} {i : Int} (hT : slT f.P T = some (e, 1)) (hx : ev S xo = some (.slice (some ⟨g, o, none⟩) ln c)) (hy : ev S yo = some (.int k i)) (hi : i = (m : Int)) (h1 : m < ln) :
    RunV f S h L (.indexAddr T xo yo) ty (.pointer (some ⟨g, o + m, none⟩)) := fun ac w s _ _ _ _ => by
  subst hi
  obtain ⟨hu, inf, hi, hs⟩ := slT_spec hT
  have h0 : (0 : Int) ≤ m := by omega
  have h2 : (m : Int) < ln := by omega
  simp [execOp, s.eval hx, s.eval hy, Instr.indexAt, run_underlying hu, asIntOf, sizeOf, typeInfo, hi, hs, h1, Addr.add_lit]
theorem JL.pub32 {a : Option Addr} {c t m : Nat} {l : List UInt32} {l0 : List Oper} (u : Del (.row a c t 1 m (ws .u32 l)) L L') (hn : m = l.length) (hb : l.length ≤ 140737488355328) (k : ∀ h', h.le h' → SlR u32R 1 h' a c l → JL f ops n x l0 S h' L') : JL f ops n x l0 S h L :=
  JL.pub u CellsR.of_ws32 hn hb k
theorem JL.pub64 {a : Option Addr} {c t m : Nat} {l : List UInt32} {l0 : List Oper} (u : Del (.row a c t 1 m (ws .u64 l)) L L') (hn : m = l.length) (hb : l.length ≤ 140737488355328) (k : ∀ h', h.le h' → SlR u64R 1 h' a c (l.map m64) → JL f ops n x l0 S h' L') : JL f ops n x l0 S h L :=
  JL.pub u CellsR.of_ws64 (by rw [hn, List.length_map]) (by rw [List.length_map]; exact hb) k
end
end Go.Proofs.YtmngjbefnloljaaDoor
