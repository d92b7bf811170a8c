/- Plain: products and quotients of digits, step by step. -/
import Derived.Test.YtmngjbefnloljaaDoorNatV
set_option linter.unusedSimpArgs false
set_option linter.unusedVariables false
set_option linter.constructorNameAsVariable false
namespace Go.Proofs.YtmngjbefnloljaaDoor
open Go Go.RowKit

theorem vL_put (l : List UInt32) (p t : Nat) (h : p < l.length) : vL (l.set p (UInt32.ofNat t)) + t / 4294967296 * 4294967296 ^ (p + 1) + d32 l p * 4294967296 ^ p = vL l + t * 4294967296 ^ p := by
  have hs := vL_set l p (UInt32.ofNat t) h
  rw [UInt32.toNat_ofNat', show (2 : Nat) ^ 32 = 4294967296 from rfl] at hs
  have e : t * 4294967296 ^ p = (t % 4294967296) * 4294967296 ^ p + t / 4294967296 * 4294967296 ^ (p + 1) := by
    rw [Nat.pow_succ, Nat.mul_comm _ 4294967296, ← Nat.mul_assoc, ← Nat.add_mul]
    congr 1
    omega
  omega
theorem vL_take_succ (l : List UInt32) (k : Nat) : vL (l.take (k + 1)) = vL (l.take k) + d32 l k * 4294967296 ^ k := by
  rcases Nat.lt_or_ge k l.length with h | h
  case inr => rw [List.take_of_length_le (by omega), List.take_of_length_le h, d32_out l k h]; simp
  rw [List.take_succ_eq_append_getElem h, vL_append, List.length_take, Nat.min_eq_left (by omega)]
  have : d32 l k = l[k].toNat := by unfold d32; rw [List.getD_eq_getElem?_getD, List.getElem?_eq_getElem h]; rfl
  rw [this]
  simp [vL, Nat.mul_comm]
/-- One step of a product by one digit. -/
theorem mul_step {out b : List UInt32} {V x c i k : Nat} (hk : k < b.length) (hp : i + k < out.length) (h : vL out + c * 4294967296 ^ (i + k) = V + x * vL (b.take k) * 4294967296 ^ i) :
    vL (out.set (i + k) (UInt32.ofNat (c + x * d32 b k + d32 out (i + k)))) + (c + x * d32 b k + d32 out (i + k)) / 4294967296 * 4294967296 ^ (i + (k + 1)) = V + x * vL (b.take (k + 1)) * 4294967296 ^ i := by
  have hv := vL_put out (i + k) (c + x * d32 b k + d32 out (i + k)) hp
  rw [vL_take_succ b k]
  rw [Nat.add_mul, Nat.add_mul] at hv
  rw [Nat.mul_add, Nat.add_mul, show x * (d32 b k * 4294967296 ^ k) * 4294967296 ^ i = x * d32 b k * 4294967296 ^ (i + k) by rw [Nat.pow_add]; grind]
  rw [← Nat.add_assoc i k 1]
  omega
theorem carry_lt {c x y z : Nat} (hc : c < 4294967296) (hx : x < 4294967296) (hy : y < 4294967296) (hz : z < 4294967296) : c + x * y + z < 18446744073709551616 := by
  have : x * y ≤ 4294967295 * 4294967295 := Nat.mul_le_mul (by omega) (by omega)
  omega
theorem d32_set (l : List UInt32) (p j : Nat) (x : UInt32) (h : p < l.length) : d32 (l.set p x) j = if p = j then x.toNat else d32 l j := by
  unfold d32
  rw [List.getD_eq_getElem?_getD, List.getElem?_set]
  split
  · rename_i e; subst e; simp [h]
  · simp
/-- One row of a product is done. -/
theorem mul_row {out a b : List UInt32} {V c i : Nat} (hi : i < a.length) (hp : i + b.length < out.length) (hz : d32 out (i + b.length) = 0) (hc : c < 4294967296) (hV : V = vL (a.take i) * vL b)
    (h : vL out + c * 4294967296 ^ (i + b.length) = V + d32 a i * vL (b.take b.length) * 4294967296 ^ i) : vL (out.set (i + b.length) (UInt32.ofNat c)) = vL (a.take (i + 1)) * vL b := by
  have hs := vL_put out (i + b.length) c hp
  rw [hz, Nat.div_eq_of_lt hc] at hs
  rw [List.take_length] at h
  rw [vL_take_succ a i, Nat.add_mul, ← hV, show d32 a i * 4294967296 ^ i * vL b = d32 a i * vL b * 4294967296 ^ i by grind]
  omega

/-! ## division: the guess -/
theorem guess_lo (w V k m : Nat) (hV : 0 < V) : w / (V * 4294967296 ^ k) * (V / 4294967296 ^ m) ≤ w / 4294967296 ^ (k + m) := by
  have hB : 0 < 4294967296 ^ (k + m) := Nat.pow_pos (by decide)
  rw [Nat.le_div_iff_mul_le hB]
  have h1 := Nat.div_mul_le_self w (V * 4294967296 ^ k)
  have h2 := Nat.div_mul_le_self V (4294967296 ^ m)
  have h3 : w / (V * 4294967296 ^ k) * (V / 4294967296 ^ m) * 4294967296 ^ (k + m) = w / (V * 4294967296 ^ k) * (V / 4294967296 ^ m * 4294967296 ^ m * 4294967296 ^ k) := by rw [Nat.pow_add]; grind
  rw [h3]
  exact Nat.le_trans (Nat.mul_le_mul_left _ (Nat.mul_le_mul_right _ h2)) h1
theorem guess_hi (w V k m g : Nat) (hg : g < 4294967296) (hS : g * (V / 4294967296 ^ m) ≤ w / 4294967296 ^ (k + m)) (hV : 4294967296 ^ (m + 1) ≤ V) : g ≤ w / (V * 4294967296 ^ k) + 1 := by
  have hB : 0 < 4294967296 ^ (k + m) := Nat.pow_pos (by decide)
  have hBm : 0 < 4294967296 ^ m := Nat.pow_pos (by decide)
  have hBk : 0 < 4294967296 ^ k := Nat.pow_pos (by decide)
  have hV0 : 0 < V := Nat.lt_of_lt_of_le (Nat.pow_pos (by decide)) hV
  have h1 := (Nat.le_div_iff_mul_le hB).1 hS
  have h2 : V < (V / 4294967296 ^ m + 1) * 4294967296 ^ m := by
    have := Nat.lt_div_mul_add hBm (a := V)
    rw [Nat.add_mul]; omega
  cases g with
  | zero => exact Nat.zero_le _
  | succ g =>
    refine Nat.succ_le_succ ((Nat.le_div_iff_mul_le (Nat.mul_pos hV0 hBk)).2 ?_)
    -- g V B^k ≤ (g+1) V B^k - V B^k ≤ (g+1)(S+1) B^m B^k - V B^k ≤ w + (g+1) B^(m+k) - V B^k ≤ w
    have h3 : (g + 1) * V ≤ (g + 1) * ((V / 4294967296 ^ m + 1) * 4294967296 ^ m) := Nat.mul_le_mul_left _ (Nat.le_of_lt h2)
    have h4 : (g + 1) * 4294967296 ^ m ≤ V := by
      refine Nat.le_trans ?_ hV
      rw [Nat.pow_succ, Nat.mul_comm]
      exact Nat.mul_le_mul_left _ (by omega)
    have h5 : (g + 1) * ((V / 4294967296 ^ m + 1) * 4294967296 ^ m) = (g + 1) * (V / 4294967296 ^ m) * 4294967296 ^ m + (g + 1) * 4294967296 ^ m := by grind
    have h6 : g * V ≤ (g + 1) * (V / 4294967296 ^ m) * 4294967296 ^ m := by
      have : (g + 1) * V = g * V + V := Nat.succ_mul ..
      omega
    have h7 : g * (V * 4294967296 ^ k) ≤ (g + 1) * (V / 4294967296 ^ m) * 4294967296 ^ (k + m) := by
      rw [← Nat.mul_assoc, Nat.pow_add, Nat.mul_comm (4294967296 ^ k), ← Nat.mul_assoc]
      exact Nat.mul_le_mul_right _ h6
    exact Nat.le_trans h7 h1
/-- The reference's guess is never too great. -/
theorem guess_ref (w V k m : Nat) : w / 4294967296 ^ (k + m) / (V / 4294967296 ^ m + 1) * (V * 4294967296 ^ k) ≤ w := by
  have hB : 0 < 4294967296 ^ (k + m) := Nat.pow_pos (by decide)
  have hBm : 0 < 4294967296 ^ m := Nat.pow_pos (by decide)
  have h2 : V ≤ (V / 4294967296 ^ m + 1) * 4294967296 ^ m := by
    have := Nat.lt_div_mul_add hBm (a := V)
    rw [Nat.add_mul]; omega
  generalize hg : w / 4294967296 ^ (k + m) / (V / 4294967296 ^ m + 1) = g
  have h1 : g * (V / 4294967296 ^ m + 1) ≤ w / 4294967296 ^ (k + m) := by rw [← hg]; exact Nat.div_mul_le_self _ _
  have h3 := (Nat.le_div_iff_mul_le hB).1 h1
  refine Nat.le_trans ?_ h3
  rw [Nat.pow_add, Nat.mul_comm (4294967296 ^ k), ← Nat.mul_assoc, ← Nat.mul_assoc]
  refine Nat.mul_le_mul_right _ ?_
  rw [Nat.mul_assoc]
  exact Nat.mul_le_mul_left _ h2
/-! ## taking away: digit by digit, with what is carried and borrowed -/
theorem sub_step {out v : List UInt32} {W g c k i b e r : Nat} (hp : k + i < out.length) (h : vL out + g * vL (v.take i) * 4294967296 ^ k = W + (c + b) * 4294967296 ^ (k + i))
    (hr : r < 4294967296) (he : d32 out (k + i) + e * 4294967296 = b + (c + g * d32 v i) % 4294967296 + r) :
    vL (out.set (k + i) (UInt32.ofNat r)) + g * vL (v.take (i + 1)) * 4294967296 ^ k = W + ((c + g * d32 v i) / 4294967296 + e) * 4294967296 ^ (k + (i + 1)) := by
  have hs := vL_put out (k + i) r hp
  rw [Nat.div_eq_of_lt hr] at hs
  rw [vL_take_succ v i, ← Nat.add_assoc k i 1, Nat.pow_succ, Nat.mul_add, Nat.add_mul, show g * (d32 v i * 4294967296 ^ i) * 4294967296 ^ k = g * d32 v i * 4294967296 ^ (k + i) by rw [Nat.pow_add]; grind]
  generalize 4294967296 ^ (k + i) = P at *
  have hdm : c + g * d32 v i = (c + g * d32 v i) % 4294967296 + 4294967296 * ((c + g * d32 v i) / 4294967296) := (Nat.mod_add_div _ _).symm
  generalize (c + g * d32 v i) % 4294967296 = lo at *
  generalize (c + g * d32 v i) / 4294967296 = hi2 at *
  generalize d32 out (k + i) = u at *
  have h9 : (u + e * 4294967296) * P = (b + lo + r) * P := by rw [he]
  have h10 : (c + g * d32 v i) * P = (lo + 4294967296 * hi2) * P := by rw [← hdm]
  grind
theorem add_step {out v : List UInt32} {W c k i : Nat} (hp : k + i < out.length) (h : vL out + c * 4294967296 ^ (k + i) = W + vL (v.take i) * 4294967296 ^ k) :
    vL (out.set (k + i) (UInt32.ofNat (c + d32 out (k + i) + d32 v i))) + (c + d32 out (k + i) + d32 v i) / 4294967296 * 4294967296 ^ (k + (i + 1)) = W + vL (v.take (i + 1)) * 4294967296 ^ k := by
  have hs := vL_put out (k + i) (c + d32 out (k + i) + d32 v i) hp
  rw [vL_take_succ v i, ← Nat.add_assoc k i 1, Nat.add_mul, show d32 v i * 4294967296 ^ i * 4294967296 ^ k = d32 v i * 4294967296 ^ (k + i) by rw [Nat.pow_add]; grind]
  generalize 4294967296 ^ (k + i + 1) = P at *
  grind
theorem vL_lt_zero {l : List UInt32} {m : Nat} (h : ∀ j, m ≤ j → d32 l j = 0) : vL l < 4294967296 ^ m := by
  rcases Nat.lt_or_ge l.length m with hl | hl
  · exact Nat.lt_of_lt_of_le (vL_lt l) (Nat.pow_le_pow_right (by decide) (by omega))
  · rw [vL_take_drop l m hl, vL_zero (l.drop m) (fun i _ => by rw [d32_drop]; exact h _ (by omega))]
    have := vL_lt (l.take m)
    rw [List.length_take, Nat.min_eq_left hl] at this
    omega
theorem vL_zero_above {l : List UInt32} {m : Nat} (h : vL l < 4294967296 ^ m) (j : Nat) (hj : m ≤ j) : d32 l j = 0 := by
  rw [← vL_digit, Nat.div_eq_of_lt (Nat.lt_of_lt_of_le h (Nat.pow_le_pow_right (by decide) hj))]
theorem digN_fix {l : List UInt32} {N x : Nat} (h : l.length = N) (e : vL l = x) : l = digN N x := by
  subst h e; exact (digN_vL l).symm
/-- What is left of a number, and how often. -/
theorem rem_eq {x w D q : Nat} (h : x + q * D = w) (hx : x < D) : q = w / D ∧ x = w % D := by
  subst h
  have hD : 0 < D := by omega
  rw [Nat.mul_comm q D, Nat.add_mul_div_left _ _ hD, Nat.add_mul_mod_self_left, Nat.div_eq_of_lt hx, Nat.mod_eq_of_lt hx]
  exact ⟨by omega, rfl⟩
/-- The guess was right. -/
theorem step_ok1 {U : List UInt32} {w D k n g c b N : Nat} (hN : U.length = N) (hk : k + n < N) (h : vL U + g * D = w + (c + b) * 4294967296 ^ (k + n)) (hle : c + b ≤ d32 U (k + n)) (hq : w / D ≤ g) (hD : 0 < D) :
    U.set (k + n) (UInt32.ofNat (d32 U (k + n) - (c + b))) = digN N (w % D) ∧ g = w / D := by
  have hs := vL_put U (k + n) (d32 U (k + n) - (c + b)) (by omega)
  have hd := d32_lt U (k + n)
  rw [Nat.div_eq_of_lt (by omega), Nat.sub_mul] at hs
  have hm : (c + b) * 4294967296 ^ (k + n) ≤ d32 U (k + n) * 4294967296 ^ (k + n) := Nat.mul_le_mul_right _ hle
  have e : vL (U.set (k + n) (UInt32.ofNat (d32 U (k + n) - (c + b)))) + g * D = w := by omega
  have hg : g = w / D := by
    refine Nat.le_antisymm ((Nat.le_div_iff_mul_le hD).2 (by omega)) hq
  refine ⟨digN_fix (by simp [hN]) ?_, hg⟩
  have := Nat.div_add_mod w D
  rw [← hg, Nat.mul_comm] at this
  omega
/-- The guess was one too great. -/
theorem step_ok2 {U W : List UInt32} {w D V k n g c b c2 N : Nat} (hN : U.length = N) (hNW : W.length = N) (hk : k + n < N) (hVD : D = V * 4294967296 ^ k) (hV : V < 4294967296 ^ n) (h : vL U + g * D = w + (c + b) * 4294967296 ^ (k + n)) (hz : ∀ j, k + n < j → d32 U j = 0) (hgt : d32 U (k + n) < c + b) (hcb : c + b ≤ d32 U (k + n) + 4294967296)
    (hq : w / D ≤ g) (hq2 : g ≤ w / D + 1) (hD : 0 < D) (hc2 : c2 ≤ 1) (hW : vL W + c2 * 4294967296 ^ (k + n) = vL (U.set (k + n) (UInt32.ofNat (d32 U (k + n) + 4294967296 - (c + b)))) + V * 4294967296 ^ k)
    (hWd : d32 W (k + n) = (d32 U (k + n) + 4294967296 - (c + b)) % 4294967296) (hWz : ∀ j, k + n < j → d32 W j = 0) :
    W.set (k + n) (UInt32.ofNat (d32 W (k + n) + c2)) = digN N (w % D) ∧ g = w / D + 1 := by
  have hP : (4294967296 : Nat) ^ (k + n + 1) = 4294967296 ^ (k + n) * 4294967296 := Nat.pow_succ ..
  have hDlt : D < 4294967296 ^ (k + n) := by
    rw [hVD, Nat.pow_add, Nat.mul_comm]; exact Nat.mul_lt_mul_of_pos_left hV (Nat.pow_pos (by decide))
  have hs := vL_put U (k + n) (d32 U (k + n) + 4294967296 - (c + b)) (by omega)
  have hs2 := vL_put W (k + n) (d32 W (k + n) + c2) (by omega)
  have hU := vL_lt_zero (l := U) (m := k + n + 1) (fun j hj => hz j (by omega))
  have hdm := Nat.div_add_mod w D
  have hml := Nat.mod_lt w hD
  have hWlt := vL_lt_zero (l := W) (m := k + n + 1) (fun j hj => hWz j (by omega))
  have hge : g = w / D + 1 := by
    rcases Nat.lt_or_ge (w / D) g with h1 | h1
    · omega
    · -- then g D ≤ w, and nothing is borrowed
      exfalso
      have hgD : g * D ≤ w := Nat.le_trans (Nat.mul_le_mul_right _ h1) (Nat.div_mul_le_self _ _)
      have h2 : (d32 U (k + n) + 1) * 4294967296 ^ (k + n) ≤ (c + b) * 4294967296 ^ (k + n) := Nat.mul_le_mul_right _ hgt
      have h3 := vL_take_drop U (k + n) (by omega)
      have h4 : vL (U.drop (k + n)) = d32 U (k + n) := by
        have := vL_take_succ (U.drop (k + n)) 0
        have h5 : vL ((U.drop (k + n)).drop 1) = 0 := vL_zero _ (fun i _ => by rw [d32_drop, d32_drop]; exact hz _ (by omega))
        have h6 := vL_take_drop (U.drop (k + n)) 1 (by rw [List.length_drop]; omega)
        rw [h5] at h6
        rw [this] at h6
        rw [d32_drop] at h6
        simpa [vL] using h6
      have h5 := vL_lt (U.take (k + n))
      rw [List.length_take, Nat.min_eq_left (by omega)] at h5
      rw [h4, Nat.mul_comm] at h3
      rw [Nat.add_mul] at h2
      omega
  refine ⟨digN_fix (by simp [hNW]) ?_, hge⟩
  rw [← hVD] at hW
  generalize 4294967296 ^ (k + n) = P at *
  rw [hP] at hs hs2 hU hWlt
  have hgD : g * D = D * (w / D) + D := by rw [hge, Nat.add_mul, Nat.mul_comm, Nat.one_mul]
  generalize he : d32 U (k + n) + 4294967296 - (c + b) = e at *
  have hdl := d32_lt U (k + n)
  have he2 : e * P + (c + b) * P = d32 U (k + n) * P + 4294967296 * P := by rw [← Nat.add_mul, ← Nat.add_mul]; congr 1; omega
  have hel : e < 4294967296 := by omega
  rw [Nat.div_eq_of_lt hel] at hs
  rw [Nat.mod_eq_of_lt hel] at hWd
  rw [hWd] at hs2 ⊢
  rw [Nat.add_mul] at hs2
  -- vL W' + K P B = B P + w % D
  have hK : (e + c2) / 4294967296 ≤ 1 := by omega
  have hWz2 := vL_lt_zero (l := W.set (k + n) (UInt32.ofNat (e + c2))) (m := k + n + 1) (fun j hj => by rw [d32_set _ _ _ _ (by omega), if_neg (by omega)]; exact hWz j (by omega))
  rw [hP] at hWz2
  have hK01 : (e + c2) / 4294967296 = 0 ∨ (e + c2) / 4294967296 = 1 := by omega
  rcases hK01 with hk0 | hk1
  · rw [hk0] at hs2; omega
  · rw [hk1] at hs2; omega
/-- The reference takes away. -/
theorem take_ok {U : List UInt32} {w D k n c b g N : Nat} (hN : U.length = N) (h : vL U + g * D = w + (c + b) * 4294967296 ^ (k + (n + 1))) (hz : ∀ j, k + n < j → d32 U j = 0) (hle : g * D ≤ w) : U = digN N (w - g * D) := by
  have hU := vL_lt_zero (l := U) (m := k + (n + 1)) (fun j hj => hz j (by omega))
  have hcb : c + b = 0 := by
    rcases Nat.eq_zero_or_pos (c + b) with h0 | h0
    · exact h0
    · have : 1 * 4294967296 ^ (k + (n + 1)) ≤ (c + b) * 4294967296 ^ (k + (n + 1)) := Nat.mul_le_mul_right _ h0
      omega
  rw [hcb] at h
  exact digN_fix hN (by omega)
end Go.Proofs.YtmngjbefnloljaaDoor
