/- Plain: numbers of an object identifier, out of bytes and texts. -/
import Derived.Test.YtmngjbefnloljaaDoorOid
set_option linter.unusedSimpArgs false
set_option linter.unusedVariables false
set_option linter.constructorNameAsVariable false
namespace Go.Proofs.YtmngjbefnloljaaDoor
open Go Go.RowKit

/-! ## numbers of an object identifier: out of bytes, and back -/
def decGo : List UInt8 → Nat → Bool → Option (List Nat)
  | [], _, fresh => if fresh then some [] else none
  | c :: r, n, fresh => if (fresh && decide (c.toNat = 128)) || decide (72057594037927935 < n) then none
    else if 127 < c.toNat then decGo r (n * 128 + c.toNat % 128) false else (decGo r 0 true).map (fun l => (n * 128 + c.toNat % 128) :: l)
def refGo : List UInt8 → Nat → Nat → Option (List Nat)
  | [], _, _ => some []
  | c :: r, n, long => if 9 < long + 1 ∨ 9223372036854775808 ≤ n * 128 + c.toNat % 128 then none
    else if 128 ≤ c.toNat then refGo r (n * 128 + c.toNat % 128) (long + 1) else (refGo r 0 0).map (fun l => (n * 128 + c.toNat % 128) :: l)
def hiF : Nat → Nat → List UInt8
  | 0, _ => []
  | f + 1, n => if n = 0 then [] else hiF f (n / 128) ++ [UInt8.ofNat (n % 128 + 128)]
def hiB (n : Nat) : List UInt8 := hiF 10 n
def b128 (n : Nat) : List UInt8 := hiB (n / 128) ++ [UInt8.ofNat (n % 128)]
def enc : List Nat → List UInt8
  | [] => []
  | n :: r => b128 n ++ enc r
theorem hiF_up : ∀ (f n : Nat), n < 128 ^ f → hiF (f + 1) n = hiF f n
  | 0, n, h => by have : n = 0 := (by simpa using h); subst this; rfl
  | f + 1, n, h => by
    rw [hiF]
    conv => rhs; rw [hiF]
    rw [hiF_up f (n / 128) (by rw [Nat.pow_succ] at h; omega)]
theorem hiB_step (n : Nat) (h : n < 128 ^ 10) (h0 : n ≠ 0) : hiB n = hiB (n / 128) ++ [UInt8.ofNat (n % 128 + 128)] := by
  have e : hiB (n / 128) = hiF 9 (n / 128) := hiF_up 9 _ (by simp only [Nat.reducePow] at h ⊢; omega)
  rw [e]
  show hiF 10 n = _
  rw [hiF, if_neg h0]
theorem byte_hi {c : UInt8} {n : Nat} (h : 127 < c.toNat) : (n * 128 + c.toNat % 128) % 128 + 128 = c.toNat ∧ (n * 128 + c.toNat % 128) / 128 = n := by
  have := UInt8.toNat_lt c; omega
theorem dec_enc : ∀ (b : List UInt8) (n : Nat) (fresh : Bool) (l : List Nat), (fresh = true → n = 0) → (fresh = false → 0 < n) → decGo b n fresh = some l → hiB n ++ b = enc l ∧ ∀ x ∈ l, x < 9223372036854775808
  | [], n, fresh, l, h0, h1, h => by
    cases fresh with
    | false => simp [decGo] at h
    | true => simp [decGo] at h; subst h; rw [h0 rfl]; exact ⟨rfl, by simp⟩
  | c :: r, n, fresh, l, h0, h1, h => by
    have hc := UInt8.toNat_lt c
    rw [decGo] at h
    split at h
    · cases h
    · rename_i hg
      simp only [Bool.or_eq_true, Bool.and_eq_true, decide_eq_true_eq, not_or, not_and] at hg
      split at h
      · rename_i hh
        have hn : n * 128 + c.toNat % 128 ≠ 0 := by
          cases fresh with
          | false => have := h1 rfl; omega
          | true => have := hg.1 rfl; omega
        obtain ⟨e1, e2⟩ := dec_enc r _ false l (fun x => by cases x) (fun _ => by omega) h
        refine ⟨?_, e2⟩
        have hb := byte_hi (n := n) hh
        rw [hiB_step _ (by simp only [Nat.reducePow]; omega) hn, hb.1, hb.2] at e1
        rw [← e1]
        simp
      · rename_i hh
        rw [Option.map_eq_some_iff] at h
        obtain ⟨l', hl', rfl⟩ := h
        obtain ⟨e1, e2⟩ := dec_enc r 0 true l' (fun _ => rfl) (fun x => by cases x) hl'
        have e3 : (n * 128 + c.toNat % 128) / 128 = n := by omega
        have e4 : (n * 128 + c.toNat % 128) % 128 = c.toNat := by omega
        refine ⟨?_, fun x hx => ?_⟩
        · rw [enc, ← e1, b128, e3, e4]
          simp [show hiB 0 = [] from rfl]
        · rcases List.mem_cons.1 hx with rfl | hx
          · omega
          · exact e2 x hx
theorem dec_hi : ∀ (f y : Nat) (t : List UInt8), y < 128 ^ f → y < 9223372036854775808 → decGo (hiF f y ++ t) 0 true = decGo t y (decide (y = 0))
  | 0, y, t, h, _ => by have : y = 0 := (by simpa using h); subst this; rfl
  | f + 1, y, t, h, h2 => by
    rw [hiF]
    split
    · rename_i h0; subst h0; rfl
    · rename_i h0
      rw [List.append_assoc, dec_hi f (y / 128) _ (by rw [Nat.pow_succ] at h; omega) (by omega)]
      simp only [List.cons_append, List.nil_append, decGo]
      have e : (UInt8.ofNat (y % 128 + 128)).toNat = y % 128 + 128 := by rw [UInt8.toNat_ofNat']; omega
      rw [e, if_neg, if_pos (by omega)]
      · rw [show y / 128 * 128 + (y % 128 + 128) % 128 = y by omega, decide_eq_false h0]
      · simp only [Bool.or_eq_true, Bool.and_eq_true, decide_eq_true_eq, not_or, not_and]
        omega
theorem dec_b128 (x : Nat) (r : List UInt8) (h : x < 9223372036854775808) : decGo (b128 x ++ r) 0 true = (decGo r 0 true).map (x :: ·) := by
  unfold b128 hiB
  rw [List.append_assoc, dec_hi 10 (x / 128) _ (by simp only [Nat.reducePow]; omega) (by omega)]
  simp only [List.cons_append, List.nil_append, decGo]
  have e : (UInt8.ofNat (x % 128)).toNat = x % 128 := by rw [UInt8.toNat_ofNat']; omega
  rw [e, if_neg, if_neg (by omega)]
  · rw [show x / 128 * 128 + x % 128 % 128 = x by omega]
  · simp only [Bool.or_eq_true, Bool.and_eq_true, decide_eq_true_eq, not_or, not_and]
    omega
theorem enc_dec : ∀ (l : List Nat), (∀ x ∈ l, x < 9223372036854775808) → decGo (enc l) 0 true = some l
  | [], _ => rfl
  | n :: r, h => by
    rw [enc, dec_b128 _ _ (h n (List.mem_cons_self ..)), enc_dec r (fun x hx => h x (List.mem_cons_of_mem _ hx))]
    rfl
theorem dec_ref : ∀ (b : List UInt8) (n long : Nat) (fresh : Bool) (l : List Nat), (fresh = true → n = 0 ∧ long = 0) → (fresh = false → 128 ^ (long - 1) ≤ n ∧ 1 ≤ long) → decGo b n fresh = some l → refGo b n long = some l
  | [], n, long, fresh, l, h0, h1, h => by
    cases fresh with
    | false => simp [decGo] at h
    | true => simpa [decGo, refGo] using h
  | c :: r, n, long, fresh, l, h0, h1, h => by
    have hc := UInt8.toNat_lt c
    rw [decGo] at h
    rw [refGo]
    split at h
    · cases h
    · rename_i hg
      simp only [Bool.or_eq_true, Bool.and_eq_true, decide_eq_true_eq, not_or, not_and] at hg
      have hlong : long ≤ 8 := by
        cases fresh with
        | true => have := h0 rfl; omega
        | false =>
          obtain ⟨q1, q2⟩ := h1 rfl
          rcases Nat.lt_or_ge 8 long with h9 | h9
          · have : (128 : Nat) ^ 8 ≤ 128 ^ (long - 1) := Nat.pow_le_pow_right (by decide) (by omega)
            simp only [Nat.reducePow] at this; omega
          · exact h9
      rw [if_neg (by omega)]
      split at h
      · rename_i hh
        rw [if_pos (by omega)]
        refine dec_ref r _ (long + 1) false l (fun x => by cases x) (fun _ => ⟨?_, by omega⟩) h
        rw [Nat.add_sub_cancel]
        cases fresh with
        | true => have := h0 rfl; have := hg.1 rfl; rw [(h0 rfl).2]; simp only [Nat.pow_zero]; omega
        | false =>
          obtain ⟨q1, q2⟩ := h1 rfl
          obtain ⟨j, rfl⟩ : ∃ j, long = j + 1 := ⟨long - 1, by omega⟩
          rw [Nat.add_sub_cancel] at q1
          rw [Nat.pow_succ]
          omega
      · rename_i hh
        rw [if_neg (by omega)]
        rw [Option.map_eq_some_iff] at h
        obtain ⟨l', hl', rfl⟩ := h
        rw [dec_ref r 0 0 true l' (fun _ => ⟨rfl, rfl⟩) (fun x => by cases x) hl']
        rfl
theorem ref_lt : ∀ (b : List UInt8) (n long : Nat) (l : List Nat), refGo b n long = some l → (∀ x ∈ l, x < 9223372036854775808) ∧ l.length ≤ b.length
  | [], n, long, l, h => by simp [refGo] at h; subst h; simp
  | c :: r, n, long, l, h => by
    rw [refGo] at h
    split at h
    · cases h
    · split at h
      · have := ref_lt r _ _ l h
        exact ⟨this.1, by simp; omega⟩
      · rw [Option.map_eq_some_iff] at h
        obtain ⟨l', hl', rfl⟩ := h
        have := ref_lt r _ _ l' hl'
        refine ⟨fun x hx => ?_, by simp; omega⟩
        rcases List.mem_cons.1 hx with rfl | hx
        · omega
        · exact this.1 x hx
/-- What the reference makes of bytes, and holds against them. -/
def refO (b : List UInt8) : Option (List Nat) := match refGo b 0 0 with
  | none => none
  | some l => if l ≠ [] ∧ enc l = b then some l else none
def decO (b : List UInt8) : Option (List Nat) := match decGo b 0 true with
  | none => none
  | some l => if l = [] then none else some l
theorem refO_decO (b : List UInt8) : refO b = decO b := by
  unfold refO decO
  cases hd : decGo b 0 true with
  | some l =>
    have h1 := dec_ref b 0 0 true l (fun _ => ⟨rfl, rfl⟩) (fun x => by cases x) hd
    have h2 := (dec_enc b 0 true l (fun _ => rfl) (fun x => by cases x) hd).1
    rw [h1]
    simp only [← h2]
    by_cases hl : l = []
    · simp [hl]
    · simp [hl, show hiB 0 = [] from rfl]
  | none =>
    cases hr : refGo b 0 0 with
    | none => rfl
    | some l =>
      simp only
      rw [if_neg]
      rintro ⟨_, he⟩
      have := enc_dec l (ref_lt b 0 0 l hr).1
      rw [he, hd] at this
      cases this
/-! ## the text of such numbers -/
def tail46 : List Nat → List UInt8
  | [] => []
  | n :: r => [46] ++ dgs n 1 ++ tail46 r
def txtO : List Nat → List UInt8
  | [] => []
  | n :: r => dgs (min (n / 40) 2) 1 ++ [46] ++ dgs (n - 40 * min (n / 40) 2) 1 ++ tail46 r
theorem oidGo_rest : ∀ (b out : List UInt8) (n : Nat) (fresh : Bool), oidGo b out n fresh false = (decGo b n fresh).map (out ++ tail46 ·)
  | [], out, n, fresh => by cases fresh <;> simp [oidGo, decGo, tail46]
  | c :: r, out, n, fresh => by
    rw [oidGo, decGo]
    split
    · rfl
    · split
      · exact oidGo_rest r out _ _
      · simp only [Bool.false_eq_true, if_false]
        rw [oidGo_rest, Option.map_map]
        congr 1
        funext l
        simp [tail46]
theorem oidGo_first : ∀ (b out : List UInt8) (n : Nat) (fresh : Bool), oidGo b out n fresh true = match decGo b n fresh with | none => none | some l => if l = [] then none else some (out ++ txtO l)
  | [], out, n, fresh => by cases fresh <;> simp [oidGo, decGo]
  | c :: r, out, n, fresh => by
    rw [oidGo, decGo]
    split
    · rfl
    · split
      · exact oidGo_first r out _ _
      · rw [if_pos rfl, oidGo_rest]
        cases decGo r 0 true with
        | none => rfl
        | some l => simp [txtO]
theorem oidT_dec (b : List UInt8) : oidT b = (decO b).map txtO := by
  unfold oidT decO
  rw [oidGo_first]
  cases decGo b 0 true with
  | none => rfl
  | some l => by_cases h : l = [] <;> simp [h]
/-! ## a text's numbers -/
def dig (c : UInt8) : Bool := decide (48 ≤ c.toNat ∧ c.toNat ≤ 57)
def numV (s : List UInt8) : Nat := s.foldl (fun v c => v * 10 + (c.toNat - 48)) 0
def numBad (s : List UInt8) : Bool := decide (s.length = 0 ∨ 19 < s.length ∨ 1 < s.length ∧ (s.getD 0 0).toNat = 48)
def numB (s : List UInt8) : Option Nat := if numBad s || !s.all dig then none else if numV s < 9223372036854775808 then some (numV s) else none
def numsGo : List UInt8 → List UInt8 → Option (List Nat)
  | [], cur => (numB cur).map ([·])
  | c :: r, cur => if c = 46 then (match numB cur with
      | none => none
      | some n => (numsGo r []).map (n :: ·)) else numsGo r (cur ++ [c])
def oidOk (l : List Nat) : Bool := decide (2 ≤ l.length) && (decide (l.getD 0 0 = 2 ∧ l.getD 1 0 < 9223372036854775728) || decide (l.getD 0 0 < 2 ∧ l.getD 1 0 < 40))
def oidB (s : List UInt8) : Option (List UInt8) := match numsGo s [] with
  | none => none
  | some l => if oidOk l then some (enc ((40 * l.getD 0 0 + l.getD 1 0) :: l.drop 2)) else none
theorem numV_snoc (s : List UInt8) (c : UInt8) : numV (s ++ [c]) = numV s * 10 + (c.toNat - 48) := by simp [numV]
theorem dgo_num : ∀ (f n len k : Nat), 1 ≤ len → n < 10 ^ f → n < 10 ^ k → numV (dgo f n len 1) = n ∧ (dgo f n len 1).all dig = true ∧ (dgo f n len 1).length ≤ k ∧ (n = 0 → dgo f n len 1 = []) ∧ (0 < n → 0 < (dgo f n len 1).length ∧ ((dgo f n len 1).getD 0 0).toNat ≠ 48)
  | 0, n, len, k, h1, h, hk => by
    have : n = 0 := by simpa using h
    subst this
    simp [dgo, numV]
  | f + 1, n, len, k, h1, h, hk => by
    rw [dgo]
    by_cases h0 : 0 < n
    · rw [if_pos (.inl h0)]
      obtain ⟨j, rfl⟩ : ∃ j, k = j + 1 := ⟨k - 1, by
        cases k with
        | zero => simp at hk; omega
        | succ k => rfl⟩
      rw [Nat.pow_succ] at h hk
      obtain ⟨i1, i2, i3, i4, i5⟩ := dgo_num f (n / 10) (len + 1) j (by omega) (by omega) (by omega)
      have e : (UInt8.ofNat (48 + n % 10)).toNat = 48 + n % 10 := by rw [UInt8.toNat_ofNat']; omega
      refine ⟨by rw [numV_snoc, i1, e]; omega, by simp [i2, dig, e]; omega, by simp; omega, fun h => by omega, fun _ => ⟨by simp, ?_⟩⟩
      by_cases hn : 0 < n / 10
      · have := i5 hn
        rw [List.getD_eq_getElem?_getD, List.getElem?_append_left this.1, ← List.getD_eq_getElem?_getD]
        exact this.2
      · rw [i4 (by omega)]
        show (UInt8.ofNat (48 + n % 10)).toNat ≠ 48
        omega
    · have : n = 0 := by omega
      subst this
      rw [if_neg (by omega)]
      simp [numV]
theorem dgs_num (n : Nat) (h : n < 9223372036854775808) : numB (dgs n 1) = some n ∧ (dgs n 1).all dig = true := by
  unfold dgs
  rw [dgo, if_pos (.inr (by decide))]
  obtain ⟨i1, i2, i3, i4, i5⟩ := dgo_num 19 (n / 10) 1 18 (Nat.le_refl _) (by simp only [Nat.reducePow]; omega) (by simp only [Nat.reducePow]; omega)
  have e : (UInt8.ofNat (48 + n % 10)).toNat = 48 + n % 10 := by rw [UInt8.toNat_ofNat']; omega
  rw [show 0 + 1 = 1 from rfl]
  have hall : (dgo 19 (n / 10) 1 1 ++ [UInt8.ofNat (48 + n % 10)]).all dig = true := by simp [i2, dig, e]; omega
  have hnv : numV (dgo 19 (n / 10) 1 1 ++ [UInt8.ofNat (48 + n % 10)]) = n := by rw [numV_snoc, i1, e]; omega
  refine ⟨?_, hall⟩
  unfold numB
  have hb : numBad (dgo 19 (n / 10) 1 1 ++ [UInt8.ofNat (48 + n % 10)]) = false := by
    refine decide_eq_false ?_
    simp only [List.length_append, List.length_cons, List.length_nil]
    rintro (h1 | h1 | ⟨h1, h2⟩)
    · omega
    · omega
    · have hp : 0 < n / 10 := by
        rcases Nat.eq_zero_or_pos (n / 10) with h0 | h0
        · rw [i4 h0] at h1; simp at h1
        · exact h0
      have := i5 hp
      rw [List.getD_eq_getElem?_getD, List.getElem?_append_left this.1, ← List.getD_eq_getElem?_getD] at h2
      exact this.2 h2
  rw [hb, hall, if_neg (by decide), hnv, if_pos h]
theorem numsGo_digits : ∀ (s cur r : List UInt8), s.all dig = true → numsGo (s ++ r) cur = numsGo r (cur ++ s)
  | [], cur, r, _ => by simp
  | c :: s, cur, r, h => by
    simp only [List.all_cons, Bool.and_eq_true] at h
    have hc : c ≠ 46 := by
      rintro rfl
      have := h.1
      simp [dig] at this
    simp only [List.cons_append, numsGo]
    rw [if_neg hc, numsGo_digits s _ r h.2]
    simp
theorem nums_step (n : Nat) (r : List UInt8) (h : n < 9223372036854775808) : numsGo (dgs n 1 ++ [46] ++ r) [] = (numsGo r []).map (n :: ·) := by
  have := dgs_num n h
  rw [List.append_assoc, numsGo_digits _ _ _ this.2, List.nil_append]
  simp only [List.cons_append, List.nil_append, numsGo, if_pos]
  rw [this.1]
theorem nums_tail : ∀ (n : Nat) (l : List Nat), n < 9223372036854775808 → (∀ x ∈ l, x < 9223372036854775808) → numsGo (dgs n 1 ++ tail46 l) [] = some (n :: l)
  | n, [], h, _ => by
    have := dgs_num n h
    rw [tail46, numsGo_digits _ _ _ this.2, List.nil_append, numsGo, this.1]
    rfl
  | n, m :: r, h, hl => by
    rw [tail46]
    have := nums_step n (dgs m 1 ++ tail46 r) h
    rw [List.append_assoc] at this
    rw [List.append_assoc, this, nums_tail m r (hl m (List.mem_cons_self ..)) (fun x hx => hl x (List.mem_cons_of_mem _ hx))]
    rfl
theorem oidB_txt (l : List Nat) (h : ∀ x ∈ l, x < 9223372036854775808) : oidB (txtO l) = if l = [] then none else some (enc l) := by
  cases l with
  | nil => rfl
  | cons n r =>
    have hn := h n (List.mem_cons_self ..)
    have hr := fun x hx => h x (List.mem_cons_of_mem n hx)
    have e := nums_step (min (n / 40) 2) (dgs (n - 40 * min (n / 40) 2) 1 ++ tail46 r) (by omega)
    rw [nums_tail _ r (by omega) hr] at e
    have et : txtO (n :: r) = dgs (min (n / 40) 2) 1 ++ [46] ++ (dgs (n - 40 * min (n / 40) 2) 1 ++ tail46 r) := by rw [txtO]; simp only [List.append_assoc]
    unfold oidB
    rw [et, e]
    simp only [Option.map_some]
    have hok : oidOk (min (n / 40) 2 :: (n - 40 * min (n / 40) 2) :: r) = true := by
      unfold oidOk
      simp only [Bool.and_eq_true, Bool.or_eq_true, decide_eq_true_eq]
      refine ⟨by simp, ?_⟩
      show (min (n / 40) 2 = 2 ∧ n - 40 * min (n / 40) 2 < 9223372036854775728) ∨ (min (n / 40) 2 < 2 ∧ n - 40 * min (n / 40) 2 < 40)
      omega
    rw [if_pos hok, if_neg (by simp)]
    congr 2
    show _ :: r = n :: r
    congr 1
    show 40 * (min (n / 40) 2) + (n - 40 * min (n / 40) 2) = n
    omega
/-- The reference's answer is the program's. -/
theorem refO_oidT (b : List UInt8) : oidT b = (refO b).map txtO := by rw [oidT_dec, refO_decO]
end Go.Proofs.YtmngjbefnloljaaDoor
