/- Plain: numbers of an object identifier, out of bytes and texts; Guarded operations in regions that draw their order; Rows written out whose elements are structs or arrays; arrays written out; places in arrays; 'copy' into a row of the call's own; Walks: rows of bytes held against each other, and joined, by the library; Plain: what is said of one text's number, character by character; of a number's digits of 128, from the top down; A range over a function: the loop's record is an entry of the call's own; the iterator is a call that is handed it; a call of yield is a round, walked in the same state as the loop's head. No program in sight; Walks: the program's object identifiers: one number, a number's digits, the parts of a text one after the other; Walks: the program's object identifiers: the parts of a text, one after the other; Walks: the program's object identifiers: text.OidBytes; 'a && b', 'a || b': the two ways meet at once; Walks: numbers of many digits: sizes, bits; Walks: the reference's lengths; the law DerLengths; Walks: numbers as nodes; the law DerNumbers; Plain: the value of digits of 2 to the 32, and of bytes; Walks: numbers out of bytes; integers and numbers out of nodes; Walks: the program's arithmetic: comparison, product, shift, division by one digit. -/
import Derived.Laws.CopyRow
import Derived.Lib.MakeNoZero
import Derived.RangeFuncRecord
import Derived.TacticsIn
import Derived.Test.YtmngjbefnloljaaGreatDoorP1
set_option linter.unusedSimpArgs false
set_option linter.unusedVariables false
set_option linter.constructorNameAsVariable false
namespace Go.Proofs.YtmngjbefnloljaaGreatDoor
open Go Go.RowKit
def decGo : List UInt8 → Nat → Bool → Option (List Nat)
  | [], _, fresh => if fresh then some [] else none
  | c :: r, n, fresh => if (fresh && decide (c.toNat = 128)) || decide (72057594037927935 < n) then none
    else if 127 < c.toNat then decGo r (n * 128 + c.toNat % 128) false else (decGo r 0 true).map (fun l => (n * 128 + c.toNat % 128) :: l)
def refGo : List UInt8 → Nat → Nat → Option (List Nat)
  | [], _, _ => some []
  | c :: r, n, long => if 9 < long + 1 ∨ 9223372036854775808 ≤ n * 128 + c.toNat % 128 then none
    else if 128 ≤ c.toNat then refGo r (n * 128 + c.toNat % 128) (long + 1) else (refGo r 0 0).map (fun l => (n * 128 + c.toNat % 128) :: l)
def hiF : Nat → Nat → List UInt8
  | 0, _ => []
  | f + 1, n => if n = 0 then [] else hiF f (n / 128) ++ [UInt8.ofNat (n % 128 + 128)]
def hiB (n : Nat) : List UInt8 := hiF 10 n
def b128 (n : Nat) : List UInt8 := hiB (n / 128) ++ [UInt8.ofNat (n % 128)]
def enc : List Nat → List UInt8
  | [] => []
  | n :: r => b128 n ++ enc r
theorem hiF_up : ∀ (f n : Nat), n < 128 ^ f → hiF (f + 1) n = hiF f n
  | 0, n, h => by have : n = 0 := (by simpa using h); subst this; rfl
  | f + 1, n, h => by
    rw [hiF]
    conv => rhs; rw [hiF]
    rw [hiF_up f (n / 128) (by rw [Nat.pow_succ] at h; omega)]
theorem hiB_step (n : Nat) (h : n < 128 ^ 10) (h0 : n ≠ 0) : hiB n = hiB (n / 128) ++ [UInt8.ofNat (n % 128 + 128)] := by
  have e : hiB (n / 128) = hiF 9 (n / 128) := hiF_up 9 _ (by simp only [Nat.reducePow] at h ⊢; omega)
  rw [e]
  show hiF 10 n = _
  rw [hiF, if_neg h0]
theorem byte_hi {c : UInt8} {n : Nat} (h : 127 < c.toNat) : (n * 128 + c.toNat % 128) % 128 + 128 = c.toNat ∧ (n * 128 + c.toNat % 128) / 128 = n := by
  have := UInt8.toNat_lt c; omega
theorem dec_enc : ∀ (b : List UInt8) (n : Nat) (fresh : Bool) (l : List Nat), (fresh = true → n = 0) → (fresh = false → 0 < n) → decGo b n fresh = some l → hiB n ++ b = enc l ∧ ∀ x ∈ l, x < 9223372036854775808
  | [], n, fresh, l, h0, h1, h => by
    cases fresh with
    | false => simp [decGo] at h
    | true => simp [decGo] at h; subst h; rw [h0 rfl]; exact ⟨rfl, by simp⟩
  | c :: r, n, fresh, l, h0, h1, h => by
    have hc := UInt8.toNat_lt c
    rw [decGo] at h
    split at h
    · cases h
    · rename_i hg
      simp only [Bool.or_eq_true, Bool.and_eq_true, decide_eq_true_eq, not_or, not_and] at hg
      split at h
      · rename_i hh
        have hn : n * 128 + c.toNat % 128 ≠ 0 := by
          cases fresh with
          | false => have := h1 rfl; omega
          | true => have := hg.1 rfl; omega
        obtain ⟨e1, e2⟩ := dec_enc r _ false l (fun x => by cases x) (fun _ => by omega) h
        refine ⟨?_, e2⟩
        have hb := byte_hi (n := n) hh
        rw [hiB_step _ (by simp only [Nat.reducePow]; omega) hn, hb.1, hb.2] at e1
        rw [← e1]
        simp
      · rename_i hh
        rw [Option.map_eq_some_iff] at h
        obtain ⟨l', hl', rfl⟩ := h
        obtain ⟨e1, e2⟩ := dec_enc r 0 true l' (fun _ => rfl) (fun x => by cases x) hl'
        have e3 : (n * 128 + c.toNat % 128) / 128 = n := by omega
        have e4 : (n * 128 + c.toNat % 128) % 128 = c.toNat := by omega
        refine ⟨?_, fun x hx => ?_⟩
        · rw [enc, ← e1, b128, e3, e4]
          simp [show hiB 0 = [] from rfl]
        · rcases List.mem_cons.1 hx with rfl | hx
          · omega
          · exact e2 x hx
theorem dec_hi : ∀ (f y : Nat) (t : List UInt8), y < 128 ^ f → y < 9223372036854775808 → decGo (hiF f y ++ t) 0 true = decGo t y (decide (y = 0))
  | 0, y, t, h, _ => by have : y = 0 := (by simpa using h); subst this; rfl
  | f + 1, y, t, h, h2 => by
    rw [hiF]
    split
    · rename_i h0; subst h0; rfl
    · rename_i h0
      rw [List.append_assoc, dec_hi f (y / 128) _ (by rw [Nat.pow_succ] at h; omega) (by omega)]
      simp only [List.cons_append, List.nil_append, decGo]
      have e : (UInt8.ofNat (y % 128 + 128)).toNat = y % 128 + 128 := by rw [UInt8.toNat_ofNat']; omega
      rw [e, if_neg, if_pos (by omega)]
      · rw [show y / 128 * 128 + (y % 128 + 128) % 128 = y by omega, decide_eq_false h0]
      · simp only [Bool.or_eq_true, Bool.and_eq_true, decide_eq_true_eq, not_or, not_and]
        omega
theorem dec_b128 (x : Nat) (r : List UInt8) (h : x < 9223372036854775808) : decGo (b128 x ++ r) 0 true = (decGo r 0 true).map (x :: ·) := by
  unfold b128 hiB
  rw [List.append_assoc, dec_hi 10 (x / 128) _ (by simp only [Nat.reducePow]; omega) (by omega)]
  simp only [List.cons_append, List.nil_append, decGo]
  have e : (UInt8.ofNat (x % 128)).toNat = x % 128 := by rw [UInt8.toNat_ofNat']; omega
  rw [e, if_neg, if_neg (by omega)]
  · rw [show x / 128 * 128 + x % 128 % 128 = x by omega]
  · simp only [Bool.or_eq_true, Bool.and_eq_true, decide_eq_true_eq, not_or, not_and]
    omega
theorem enc_dec : ∀ (l : List Nat), (∀ x ∈ l, x < 9223372036854775808) → decGo (enc l) 0 true = some l
  | [], _ => rfl
  | n :: r, h => by
    rw [enc, dec_b128 _ _ (h n (List.mem_cons_self ..)), enc_dec r (fun x hx => h x (List.mem_cons_of_mem _ hx))]
    rfl
theorem dec_ref : ∀ (b : List UInt8) (n long : Nat) (fresh : Bool) (l : List Nat), (fresh = true → n = 0 ∧ long = 0) → (fresh = false → 128 ^ (long - 1) ≤ n ∧ 1 ≤ long) → decGo b n fresh = some l → refGo b n long = some l
  | [], n, long, fresh, l, h0, h1, h => by
    cases fresh with
    | false => simp [decGo] at h
    | true => simpa [decGo, refGo] using h
  | c :: r, n, long, fresh, l, h0, h1, h => by
    have hc := UInt8.toNat_lt c
    rw [decGo] at h
    rw [refGo]
    split at h
    · cases h
    · rename_i hg
      simp only [Bool.or_eq_true, Bool.and_eq_true, decide_eq_true_eq, not_or, not_and] at hg
      have hlong : long ≤ 8 := by
        cases fresh with
        | true => have := h0 rfl; omega
        | false =>
          obtain ⟨q1, q2⟩ := h1 rfl
          rcases Nat.lt_or_ge 8 long with h9 | h9
          · have : (128 : Nat) ^ 8 ≤ 128 ^ (long - 1) := Nat.pow_le_pow_right (by decide) (by omega)
            simp only [Nat.reducePow] at this; omega
          · exact h9
      rw [if_neg (by omega)]
      split at h
      · rename_i hh
        rw [if_pos (by omega)]
        refine dec_ref r _ (long + 1) false l (fun x => by cases x) (fun _ => ⟨?_, by omega⟩) h
        rw [Nat.add_sub_cancel]
        cases fresh with
        | true => have := h0 rfl; have := hg.1 rfl; rw [(h0 rfl).2]; simp only [Nat.pow_zero]; omega
        | false =>
          obtain ⟨q1, q2⟩ := h1 rfl
          obtain ⟨j, rfl⟩ : ∃ j, long = j + 1 := ⟨long - 1, by omega⟩
          rw [Nat.add_sub_cancel] at q1
          rw [Nat.pow_succ]
          omega
      · rename_i hh
        rw [if_neg (by omega)]
        rw [Option.map_eq_some_iff] at h
        obtain ⟨l', hl', rfl⟩ := h
        rw [dec_ref r 0 0 true l' (fun _ => ⟨rfl, rfl⟩) (fun x => by cases x) hl']
        rfl
theorem ref_lt : ∀ (b : List UInt8) (n long : Nat) (l : List Nat), refGo b n long = some l → (∀ x ∈ l, x < 9223372036854775808) ∧ l.length ≤ b.length
  | [], n, long, l, h => by simp [refGo] at h; subst h; simp
  | c :: r, n, long, l, h => by
    rw [refGo] at h
    split at h
    · cases h
    · split at h
      · have := ref_lt r _ _ l h
        exact ⟨this.1, by simp; omega⟩
      · rw [Option.map_eq_some_iff] at h
        obtain ⟨l', hl', rfl⟩ := h
        have := ref_lt r _ _ l' hl'
        refine ⟨fun x hx => ?_, by simp; omega⟩
        rcases List.mem_cons.1 hx with rfl | hx
        · omega
        · exact this.1 x hx
def refO (b : List UInt8) : Option (List Nat) := match refGo b 0 0 with
  | none => none
  | some l => if l ≠ [] ∧ enc l = b then some l else none
def decO (b : List UInt8) : Option (List Nat) := match decGo b 0 true with
  | none => none
  | some l => if l = [] then none else some l
theorem refO_decO (b : List UInt8) : refO b = decO b := by
  unfold refO decO
  cases hd : decGo b 0 true with
  | some l =>
    have h1 := dec_ref b 0 0 true l (fun _ => ⟨rfl, rfl⟩) (fun x => by cases x) hd
    have h2 := (dec_enc b 0 true l (fun _ => rfl) (fun x => by cases x) hd).1
    rw [h1]
    simp only [← h2]
    by_cases hl : l = []
    · simp [hl]
    · simp [hl, show hiB 0 = [] from rfl]
  | none =>
    cases hr : refGo b 0 0 with
    | none => rfl
    | some l =>
      simp only
      rw [if_neg]
      rintro ⟨_, he⟩
      have := enc_dec l (ref_lt b 0 0 l hr).1
      rw [he, hd] at this
      cases this
def tail46 : List Nat → List UInt8
  | [] => []
  | n :: r => [46] ++ dgs n 1 ++ tail46 r
def txtO : List Nat → List UInt8
  | [] => []
  | n :: r => dgs (min (n / 40) 2) 1 ++ [46] ++ dgs (n - 40 * min (n / 40) 2) 1 ++ tail46 r
theorem oidGo_rest : ∀ (b out : List UInt8) (n : Nat) (fresh : Bool), oidGo b out n fresh false = (decGo b n fresh).map (out ++ tail46 ·)
  | [], out, n, fresh => by cases fresh <;> simp [oidGo, decGo, tail46]
  | c :: r, out, n, fresh => by
    rw [oidGo, decGo]
    split
    · rfl
    · split
      · exact oidGo_rest r out _ _
      · simp only [Bool.false_eq_true, if_false]
        rw [oidGo_rest, Option.map_map]
        congr 1
        funext l
        simp [tail46]
theorem oidGo_first : ∀ (b out : List UInt8) (n : Nat) (fresh : Bool), oidGo b out n fresh true = match decGo b n fresh with | none => none | some l => if l = [] then none else some (out ++ txtO l)
  | [], out, n, fresh => by cases fresh <;> simp [oidGo, decGo]
  | c :: r, out, n, fresh => by
    rw [oidGo, decGo]
    split
    · rfl
    · split
      · exact oidGo_first r out _ _
      · rw [if_pos rfl, oidGo_rest]
        cases decGo r 0 true with
        | none => rfl
        | some l => simp [txtO]
theorem oidT_dec (b : List UInt8) : oidT b = (decO b).map txtO := by
  unfold oidT decO
  rw [oidGo_first]
  cases decGo b 0 true with
  | none => rfl
  | some l => by_cases h : l = [] <;> simp [h]
def dig (c : UInt8) : Bool := decide (48 ≤ c.toNat ∧ c.toNat ≤ 57)
def numV (s : List UInt8) : Nat := s.foldl (fun v c => v * 10 + (c.toNat - 48)) 0
def numBad (s : List UInt8) : Bool := decide (s.length = 0 ∨ 19 < s.length ∨ 1 < s.length ∧ (s.getD 0 0).toNat = 48)
def numB (s : List UInt8) : Option Nat := if numBad s || !s.all dig then none else if numV s < 9223372036854775808 then some (numV s) else none
def numsGo : List UInt8 → List UInt8 → Option (List Nat)
  | [], cur => (numB cur).map ([·])
  | c :: r, cur => if c = 46 then (match numB cur with
      | none => none
      | some n => (numsGo r []).map (n :: ·)) else numsGo r (cur ++ [c])
def oidOk (l : List Nat) : Bool := decide (2 ≤ l.length) && (decide (l.getD 0 0 = 2 ∧ l.getD 1 0 < 9223372036854775728) || decide (l.getD 0 0 < 2 ∧ l.getD 1 0 < 40))
def oidB (s : List UInt8) : Option (List UInt8) := match numsGo s [] with
  | none => none
  | some l => if oidOk l then some (enc ((40 * l.getD 0 0 + l.getD 1 0) :: l.drop 2)) else none
theorem numV_snoc (s : List UInt8) (c : UInt8) : numV (s ++ [c]) = numV s * 10 + (c.toNat - 48) := by simp [numV]
theorem dgo_num : ∀ (f n len k : Nat), 1 ≤ len → n < 10 ^ f → n < 10 ^ k → numV (dgo f n len 1) = n ∧ (dgo f n len 1).all dig = true ∧ (dgo f n len 1).length ≤ k ∧ (n = 0 → dgo f n len 1 = []) ∧ (0 < n → 0 < (dgo f n len 1).length ∧ ((dgo f n len 1).getD 0 0).toNat ≠ 48)
  | 0, n, len, k, h1, h, hk => by
    have : n = 0 := by simpa using h
    subst this
    simp [dgo, numV]
  | f + 1, n, len, k, h1, h, hk => by
    rw [dgo]
    by_cases h0 : 0 < n
    · rw [if_pos (.inl h0)]
      obtain ⟨j, rfl⟩ : ∃ j, k = j + 1 := ⟨k - 1, by
        cases k with
        | zero => simp at hk; omega
        | succ k => rfl⟩
      rw [Nat.pow_succ] at h hk
      obtain ⟨i1, i2, i3, i4, i5⟩ := dgo_num f (n / 10) (len + 1) j (by omega) (by omega) (by omega)
      have e : (UInt8.ofNat (48 + n % 10)).toNat = 48 + n % 10 := by rw [UInt8.toNat_ofNat']; omega
      refine ⟨by rw [numV_snoc, i1, e]; omega, by simp [i2, dig, e]; omega, by simp; omega, fun h => by omega, fun _ => ⟨by simp, ?_⟩⟩
      by_cases hn : 0 < n / 10
      · have := i5 hn
        rw [List.getD_eq_getElem?_getD, List.getElem?_append_left this.1, ← List.getD_eq_getElem?_getD]
        exact this.2
      · rw [i4 (by omega)]
        show (UInt8.ofNat (48 + n % 10)).toNat ≠ 48
        omega
    · have : n = 0 := by omega
      subst this
      rw [if_neg (by omega)]
      simp [numV]
theorem dgs_num (n : Nat) (h : n < 9223372036854775808) : numB (dgs n 1) = some n ∧ (dgs n 1).all dig = true := by
  unfold dgs
  rw [dgo, if_pos (.inr (by decide))]
  obtain ⟨i1, i2, i3, i4, i5⟩ := dgo_num 19 (n / 10) 1 18 (Nat.le_refl _) (by simp only [Nat.reducePow]; omega) (by simp only [Nat.reducePow]; omega)
  have e : (UInt8.ofNat (48 + n % 10)).toNat = 48 + n % 10 := by rw [UInt8.toNat_ofNat']; omega
  rw [show 0 + 1 = 1 from rfl]
  have hall : (dgo 19 (n / 10) 1 1 ++ [UInt8.ofNat (48 + n % 10)]).all dig = true := by simp [i2, dig, e]; omega
  have hnv : numV (dgo 19 (n / 10) 1 1 ++ [UInt8.ofNat (48 + n % 10)]) = n := by rw [numV_snoc, i1, e]; omega
  refine ⟨?_, hall⟩
  unfold numB
  have hb : numBad (dgo 19 (n / 10) 1 1 ++ [UInt8.ofNat (48 + n % 10)]) = false := by
    refine decide_eq_false ?_
    simp only [List.length_append, List.length_cons, List.length_nil]
    rintro (h1 | h1 | ⟨h1, h2⟩)
    · omega
    · omega
    · have hp : 0 < n / 10 := by
        rcases Nat.eq_zero_or_pos (n / 10) with h0 | h0
        · rw [i4 h0] at h1; simp at h1
        · exact h0
      have := i5 hp
      rw [List.getD_eq_getElem?_getD, List.getElem?_append_left this.1, ← List.getD_eq_getElem?_getD] at h2
      exact this.2 h2
  rw [hb, hall, if_neg (by decide), hnv, if_pos h]
theorem numsGo_digits : ∀ (s cur r : List UInt8), s.all dig = true → numsGo (s ++ r) cur = numsGo r (cur ++ s)
  | [], cur, r, _ => by simp
  | c :: s, cur, r, h => by
    simp only [List.all_cons, Bool.and_eq_true] at h
    have hc : c ≠ 46 := by
      rintro rfl
      have := h.1
      simp [dig] at this
    simp only [List.cons_append, numsGo]
    rw [if_neg hc, numsGo_digits s _ r h.2]
    simp
theorem nums_step (n : Nat) (r : List UInt8) (h : n < 9223372036854775808) : numsGo (dgs n 1 ++ [46] ++ r) [] = (numsGo r []).map (n :: ·) := by
  have := dgs_num n h
  rw [List.append_assoc, numsGo_digits _ _ _ this.2, List.nil_append]
  simp only [List.cons_append, List.nil_append, numsGo, if_pos]
  rw [this.1]
theorem nums_tail : ∀ (n : Nat) (l : List Nat), n < 9223372036854775808 → (∀ x ∈ l, x < 9223372036854775808) → numsGo (dgs n 1 ++ tail46 l) [] = some (n :: l)
  | n, [], h, _ => by
    have := dgs_num n h
    rw [tail46, numsGo_digits _ _ _ this.2, List.nil_append, numsGo, this.1]
    rfl
  | n, m :: r, h, hl => by
    rw [tail46]
    have := nums_step n (dgs m 1 ++ tail46 r) h
    rw [List.append_assoc] at this
    rw [List.append_assoc, this, nums_tail m r (hl m (List.mem_cons_self ..)) (fun x hx => hl x (List.mem_cons_of_mem _ hx))]
    rfl
theorem oidB_txt (l : List Nat) (h : ∀ x ∈ l, x < 9223372036854775808) : oidB (txtO l) = if l = [] then none else some (enc l) := by
  cases l with
  | nil => rfl
  | cons n r =>
    have hn := h n (List.mem_cons_self ..)
    have hr := fun x hx => h x (List.mem_cons_of_mem n hx)
    have e := nums_step (min (n / 40) 2) (dgs (n - 40 * min (n / 40) 2) 1 ++ tail46 r) (by omega)
    rw [nums_tail _ r (by omega) hr] at e
    have et : txtO (n :: r) = dgs (min (n / 40) 2) 1 ++ [46] ++ (dgs (n - 40 * min (n / 40) 2) 1 ++ tail46 r) := by rw [txtO]; simp only [List.append_assoc]
    unfold oidB
    rw [et, e]
    simp only [Option.map_some]
    have hok : oidOk (min (n / 40) 2 :: (n - 40 * min (n / 40) 2) :: r) = true := by
      unfold oidOk
      simp only [Bool.and_eq_true, Bool.or_eq_true, decide_eq_true_eq]
      refine ⟨by simp, ?_⟩
      show (min (n / 40) 2 = 2 ∧ n - 40 * min (n / 40) 2 < 9223372036854775728) ∨ (min (n / 40) 2 < 2 ∧ n - 40 * min (n / 40) 2 < 40)
      omega
    rw [if_pos hok, if_neg (by simp)]
    congr 2
    show _ :: r = n :: r
    congr 1
    show 40 * (min (n / 40) 2) + (n - 40 * min (n / 40) 2) = n
    omega
theorem refO_oidT (b : List UInt8) : oidT b = (refO b).map txtO := by rw [oidT_dec, refO_decO]
end Go.Proofs.YtmngjbefnloljaaGreatDoor
namespace Go.Proofs.YtmngjbefnloljaaGreatDoor
open Go Go.RowKit
section
variable {f : Fr} {n : Post} {x : Nat → Post} {S : Sig} {h h0 : Part} {L L0 : List Ent} {ops : Array Oper} {fuel d : Nat} {listed : Array Bool}
variable {q : Op} {ty : TypeId} {pos : String} {af : Array Edge} {v : Value} {j dj : Nat} {b : Bool}
theorem JH.put_ (hp : ∀ c S h L, f.p c S h L → f.p c [] h L) {c : _} (a : Act) (w : World) (hq : f.Q n x (.panic c) (a.put (some d) v) w) : f.Q n x (.panic c) a w := by
  obtain ⟨S', h', L', s', k'⟩ := hq
  refine ⟨[], h', L', ⟨?_, fun s v hv => by simp [look] at hv, ?_, s'.ok⟩, hp _ _ _ _ k'⟩
  · have := s'.size; simpa [Act.put] using this
  · have := s'.ds; simpa [Act.put] using this
theorem JH.takeG (i : Nat) (hi : ops[i]? = some ⟨some d, q, ty, pos, af, some (j, b)⟩) (hj : (ops[j]?).bind (·.dst) = some dj) (hsl : look S dj = some (.bool b)) (hs : Region.noSelect ops = true) (hf : Region.free .any ops listed i = true) (hr : (Region.ready .any ops listed).contains i = true)
    (hp : ∀ c S h L, f.p c S h L → f.p c [] h L) (hb : ∀ w, Ok f.e h L w → Ok f.e h0 L0 w) (r : RunV f S h0 L0 q ty v) (hd : Nat.blt d f.m = true) (k : JH f ops n x h0 L0 fuel (listed.setIfInBounds i true) ((d, v) :: S) h L) :
    JH f ops n x h0 L0 (fuel + 1) listed S h L := fun a w s => by
  refine wpAnyH_take (v := v) hi hs hf hr (fun c a w hq => JH.put_ hp a w hq) ?_ (hb w s.ok) (k _ w (s.put hd v s.ok))
  exact .inl ⟨by simp [Region.wanted, yielded_of s hj hsl], fun w' hw' => r a w' (s.with hw') _ _ _ _⟩
theorem JH.skip (i : Nat) (hi : ops[i]? = some ⟨some d, q, ty, pos, af, some (j, b)⟩) (hj : (ops[j]?).bind (·.dst) = some dj) (hsl : look S dj = some (.bool (!b))) (hs : Region.noSelect ops = true) (hf : Region.free .any ops listed i = true) (hr : (Region.ready .any ops listed).contains i = true)
    (hp : ∀ c S h L, f.p c S h L → f.p c [] h L) (hb : ∀ w, Ok f.e h L w → Ok f.e h0 L0 w) (hd : Nat.blt d f.m = true) (k : JH f ops n x h0 L0 fuel (listed.setIfInBounds i true) ((d, undef) :: S) h L) :
    JH f ops n x h0 L0 (fuel + 1) listed S h L := fun a w s => by
  refine wpAnyH_take (v := undef) hi hs hf hr (fun c a w hq => JH.put_ hp a w hq) ?_ (hb w s.ok) (k _ w (s.put hd undef s.ok))
  exact .inr ⟨by simp [Region.wanted, yielded_of s hj hsl], rfl⟩
theorem Bh (t : Nat) {c : Bool} {p r : Prop} (ht : look S t = some (.bool c)) [s : Sp c p r] (k1 : p → JH f ops n x h0 L0 fuel listed ((t, .bool true) :: S) h L) (k2 : r → JH f ops n x h0 L0 fuel listed ((t, .bool false) :: S) h L) : JH f ops n x h0 L0 fuel listed S h L := fun a w s2 => by
  cases hb : c with
  | true => exact k1 (s.t hb) a w (s2.bool ht hb)
  | false => exact k2 (s.f hb) a w (s2.bool ht hb)
end
end Go.Proofs.YtmngjbefnloljaaGreatDoor
namespace Go.Proofs.YtmngjbefnloljaaGreatDoor
open Go Go.RowKit
def partsA : Nat → List (List Value) → List (Nat × Value)
  | _, [] => []
  | k, c :: r => (k, .agg c.toArray) :: partsA (k + 1) r
theorem fill_all (sz : Nat) : ∀ (css : List (List Value)) (A Z : List Value) (k : Nat), A.length = k * sz → Z.length = css.length * sz → (∀ c ∈ css, c.length = sz) →
    Instr.fill (fun i => some (i * sz, sz)) (A ++ Z).toArray (partsA k css) = some (A ++ css.flatten).toArray
  | [], A, Z, k, _, hZ, _ => by
    have : Z = [] := List.eq_nil_of_length_eq_zero (by simpa using hZ)
    subst this
    rfl
  | c :: r, A, Z, k, hA, hZ, hc => by
    have hc0 : c.length = sz := hc c (List.mem_cons_self ..)
    simp only [List.length_cons, Nat.add_mul, Nat.one_mul] at hZ
    have key := foldl_setAt (k * sz) c (Z.take sz) A (Z.drop sz) 0 (by simpa using hA) (by simp; omega)
    have ih := fill_all sz r (A ++ c) (Z.drop sz) (k + 1) (by simp [Nat.add_mul]; omega) (by simp; omega) (fun c' hc' => hc c' (List.mem_cons_of_mem _ hc'))
    have hAZ : A ++ Z.take sz ++ Z.drop sz = A ++ Z := by rw [List.append_assoc, List.take_append_drop]
    rw [hAZ] at key
    have e2 : A ++ (c :: r).flatten = A ++ c ++ r.flatten := by simp
    rw [e2, ← ih, ← key, partsA]
    simp only [Instr.fill, Value.cells, List.size_toArray, hc0, List.length_append, ne_eq, not_true_eq_false, decide_false, Bool.false_or, gt_iff_lt, show ¬ A.length + Z.length < k * sz + sz by omega, Bool.false_eq_true, if_false]
    rw [← Array.toList_zipIdx, Array.foldl_toList]
section
variable {f : Fr} {n : Post} {x : Nat → Post} {S : Sig} {h : Part} {L L' : List Ent} {ops : Array Oper} {rest : List Oper}
variable {ty : TypeId} {pos : String} {af : Array Edge} {d : Nat} {v : Value} {T : TypeId} {xo yo : Operand}
theorem JL.litAll (css : List (List Value)) {e sz bytes len : Nat} {ps : List (Nat × Operand)} {cs : List Value} (hT : apT f.P T = some (e, sz, bytes)) (hp : evs S ps = some (partsA 0 css)) (hlen : len = css.length) (hl : ∀ c ∈ css, c.length = sz) (hcs : css.flatten = cs) (hsz : Nat.ble (len * sz) 16777216 = true) (hsz0 : Nat.blt 0 (len * sz) = true) (hd : Nat.blt d f.m = true)
    (k : ∀ b, JL f ops n x rest ((d, .slice (some ⟨b, 0, none⟩) len len) :: S) h (.blk b e cs :: L)) :
    JL f ops n x (⟨some d, .buildSlice T len ps.toArray, ty, pos, af, none⟩ :: rest) S h L := fun a w s => by
  subst hcs
  obtain ⟨hu, i, z, hi, hzz, hs, _, hzc, h0⟩ := apT_spec hT
  have hl' : len * sz ≤ 16777216 := by simpa using hsz
  have hl0 : 0 < len * sz := by simpa using hsz0
  have hmap : Array.map (fun p : Nat × Operand => (p.1, a.eval p.2)) ps.toArray = (partsA 0 css).toArray := by
    have := evs_spec s hp
    simp [this]
  have hf := fill_all sz css [] ((List.range (len * sz)).map (fun j => z.cells[j % z.cells.size]!)) 0 (by simp) (by simp [hlen]) hl
  simp only [List.nil_append] at hf
  refine wpList_val (v := .slice (some ⟨w.heap.size, 0, none⟩) len len) (w' := w.alloc (.cells css.flatten.toArray e)) rfl ?_ (k w.heap.size _ _ (s.put hd _ (s.ok.alloc e css.flatten)))
  simp only [execOp, Instr.buildSlice, Sem.run_bind, run_underlying hu, Result.andThen, sizeOf, typeInfo]
  have hrow : (Array.range (len * sz)).map (fun j => z.cells[j % z.cells.size]!) = ((List.range (len * sz)).map (fun j => z.cells[j % z.cells.size]!)).toArray := by
    apply Array.ext <;> simp
  simp [hi, hs, show ¬ 16777216 < len * sz by omega, show ¬ len * sz = 0 by omega, zeroValue, typeInfo, hzz, newRow, newObj, Sem.run, hmap]
  rw [hrow, hf]
  simp [Sem.run]
def arZ (P : Program) (T : Nat) : Option (List Value × Nat) :=
  match P.info? T, P.underlying T with
  | some it, some (.array _ e) => match it.zero, P.info? e with
    | some z, some ie => some (z.cells.toList, ie.size)
    | _, _ => none
  | _, _ => none
theorem RunV.buildArr {zs cs : List Value} {vs : List (Nat × Value)} {ps : List (Nat × Operand)} (hT : arZ f.P T = some (zs, 1)) (hp : evs S ps = some vs) (hv : (vs.all fun p => p.2.oneCell' && Nat.blt p.1 zs.length) = true) (hf : fill1 zs vs = cs) :
    RunV f S h L (.build T ps.toArray) ty (.agg cs.toArray) := fun a w s _ _ _ _ => by
  have hb : f.P.built T vs = some cs.toArray := by
    unfold arZ at hT
    unfold Program.built
    split at hT <;> try cases hT
    rename_i it nn e hi hu
    split at hT <;> try cases hT
    rename_i z ie hz hie
    simp only [Option.some.injEq, Prod.mk.injEq] at hT
    obtain ⟨rfl, h1⟩ := hT
    simp only [hi, hu, hz, hie, h1]
    have := fill_one vs _ hv
    rw [hf] at this
    simpa using this
  have hm : Array.map (fun p : Nat × Operand => (p.1, a.eval p.2)) ps.toArray = vs.toArray := by simp [evs_spec s hp]
  have := run_build (P := f.P) w T vs.toArray cs.toArray (by simpa using hb)
  simp [execOp, hm, this]
theorem RunV.indexAt {len b o m : Nat} {k : IntKind} {i : Int} (hT : arT f.P T = some (len, 1)) (hx : ev S xo = some (.pointer (some ⟨b, o, none⟩))) (hy : ev S yo = some (.int k i)) (hi : i = (m : Int)) (h1 : m < len) :
    RunV f S h L (.indexAddr T xo yo) ty (.pointer (some ⟨b, o + m, none⟩)) := fun a w s _ _ _ _ => by
  subst hi
  have h0 : (0 : Int) ≤ m := by omega
  obtain ⟨e, hu, inf, hi, hs⟩ := arT_spec hT
  simp [execOp, s.eval hx, s.eval hy, Instr.indexAt, run_underlying hu, asIntOf, sizeOf, typeInfo, hi, hs, h0, h1, Addr.add_lit, Instr.sureAddr]
end
end Go.Proofs.YtmngjbefnloljaaGreatDoor
namespace Go.Proofs.YtmngjbefnloljaaGreatDoor
open Go Go.RowKit
section
variable {f : Fr} {n : Post} {x : Nat → Post} {S : Sig} {h : Part} {L L' : List Ent} {ops : Array Oper} {rest : List Oper}
variable {ty : TypeId} {pos : String} {af : Array Edge} {d : Nat} {v : Value} {T T2 : TypeId} {xo yo : Operand}
def over (xs : List Value) (o : Nat) (cs : List Value) : List Value := xs.take o ++ cs ++ xs.drop (o + cs.length)
theorem over_len {xs cs : List Value} {o : Nat} (h : o + cs.length ≤ xs.length) : (over xs o cs).length = xs.length := by simp [over]; omega
theorem take_over (l cs : List Value) (o m : Nat) (hm : m ≤ l.length) (h : o + cs.length ≤ m) : (l.take o ++ cs ++ l.drop (o + cs.length)).take m = over (l.take m) o cs := by
  unfold over
  have e1 : (l.take m).take o = l.take o := by rw [List.take_take, Nat.min_eq_left (by omega)]
  have e2 : (l.take m).drop (o + cs.length) = (l.drop (o + cs.length)).take (m - (o + cs.length)) := by rw [List.drop_take]
  rw [e1, e2, List.take_append, List.take_of_length_le (by simp; omega)]
  congr 2
  simp; omega
theorem JL.copy_ {g o dl dc c t m sl sc e : Nat} {a : Addr} {xs cs : List Value} (hT : slT f.P T = some (e, 1)) (hx : ev S xo = some (.slice (some ⟨g, o, none⟩) dl dc)) (hy : ev S yo = some (.slice (some a) sl sc)) (u : Del (.row (some ⟨g, 0, none⟩) c t 1 m xs) L L')
    (hn : cs.length = Nat.min sl dl) (hfit : o + cs.length ≤ m) (h1 : ∀ v ∈ cs, v.oneCell' = true) (hsrc : ∀ w, Ok f.e h L w → ∀ j v, cs[j]? = some v → w.cell? (a.add j) = some v) (hd : Nat.blt d f.m = true)
    (k : JL f ops n x rest ((d, .int .i64 (cs.length : Nat)) :: S) h (.row (some ⟨g, 0, none⟩) c t 1 m (over xs o cs) :: L')) :
    JL f ops n x (⟨some d, .call { callee := .builtin .copy, args := #[xo, yo], argTypes := #[T, T2] }, ty, pos, af, none⟩ :: rest) S h L := fun ac w s => by
  have okp := s.ok.perm u.perm
  have hown : w.ownsRow 0 t 1 (.slice (some ⟨g, 0, none⟩) m c) m xs := okp.own _ (List.mem_cons_self ..)
  obtain ⟨hu, inf, hi, hs⟩ := slT_spec hT
  rcases hown.2 with ⟨hvv, _⟩ | ⟨g', cap, cur, hvv, hbg, hg, hh1, h2, h3, h4⟩
  · cases hvv
  · injection hvv with e1 e2 e3
    injection e1 with e1
    injection e1 with e1
    subst e1 e3
    have hxl : xs.length = m := by simpa using hown.1
    have h4' : cur.toList.take m = xs := by simpa using h4
    have hmc : m ≤ cur.size := by
      have : (cur.toList.take m).length = m := by rw [h4', hxl]
      simp at this; omega
    have hrun := run_copy_row (P := f.P) w T T2 ty e g o dl dc a sl sc cur t cs hu (by simp [hi, hs]) hg hn (hsrc w s.ok) (by omega) h1
    have hok : Ok f.e h (.row (some ⟨g, 0, none⟩) c t 1 m (over xs o cs) :: L') (w.setRow g (cur.toList.take o ++ cs ++ cur.toList.drop (o + cs.length)).toArray) := by
      refine okp.turn rfl rfl rfl (by simp) (fun b' _ hne => setRow_other w g b' _ (fun e => hne (by rw [e]; rfl))) ?_ (fun b' hb' => .inl hb')
      refine ⟨by rw [over_len (by omega)]; simpa using hown.1, .inr ⟨g, c, _, rfl, hbg, setRow_heap w g _ _ t _ hg, hh1, h2, ?_, ?_⟩⟩
      · have := h3; simp at this ⊢; omega
      · simp only [Nat.mul_one]
        rw [take_over cur.toList cs o m (by simpa using hmc) hfit, h4']
    refine wpList_val (v := .int .i64 (cs.length : Nat)) (w' := w.setRow g (cur.toList.take o ++ cs ++ cur.toList.drop (o + cs.length)).toArray) rfl ?_ (k _ _ (s.put hd _ hok))
    simp [execOp, resolve, s.eval hx, s.eval hy, invoke, builtin, hrun, goInt]
theorem JL.copyB {g o dl dc c t m sl sc e : Nat} {a : Addr} {xs : List Value} {l : List UInt8} (hT : slT f.P T = some (e, 1)) (hx : ev S xo = some (.slice (some ⟨g, o, none⟩) dl dc)) (hy : ev S yo = some (.slice (some a) sl sc)) (u : Del (.row (some ⟨g, 0, none⟩) c t 1 m xs) L L')
    (hl : SlR u8R 1 h (some a) sc l) (hsl : sl = l.length) (hdl : l.length ≤ dl) (hfit : o + l.length ≤ m) (hd : Nat.blt d f.m = true)
    (k : JL f ops n x rest ((d, .int .i64 (l.length : Nat)) :: S) h (.row (some ⟨g, 0, none⟩) c t 1 m (over xs o (u8s l)) :: L')) :
    JL f ops n x (⟨some d, .call { callee := .builtin .copy, args := #[xo, yo], argTypes := #[T, T2] }, ty, pos, af, none⟩ :: rest) S h L := by
  have hul := u8s_length l
  refine JL.copy_ (cs := u8s l) hT hx hy u (by rw [hul, hsl]; exact (Nat.min_eq_left hdl).symm) (by rw [hul]; exact hfit) (fun v hv => ?_) (fun w hk j v hj => ?_) hd (by rw [hul]; exact k)
  · obtain ⟨b, _, rfl⟩ := List.mem_map.1 hv
    rfl
  · have hjl : j < l.length := by
      rcases Nat.lt_or_ge j l.length with h0 | h0
      · exact h0
      · rw [List.getElem?_eq_none (by rw [hul]; exact h0)] at hj; cases hj
    obtain ⟨b, o2, he, cc, cs, hb, hcl, hcs, hR⟩ := hl.elt j l[j] (List.getElem?_eq_getElem hjl)
    cases he
    have hv : v = .int .u8 (l[j].toNat : Int) := by
      have : (u8s l)[j]? = some (.int .u8 (l[j].toNat : Int)) := by simp [u8s, hjl]
      rw [this] at hj; cases hj; rfl
    have h0 := hcs 0 (by decide)
    unfold u8R at hR
    rw [hR] at h0
    rw [hv, Addr.add_lit]
    exact hk.sub.cell hb (by simpa using h0)
def NoZero (P : Program) (F N : Nat) (e : TypeId) : Prop := ∀ w, ∃ cs : Array Value, (callFunc F #[.int .i64 N]).run P w = .ok (.value (.slice (some ⟨w.heap.size, 0, none⟩) N cs.size)) (w.drew.drew.alloc (.cells cs e)) ∧ N ≤ cs.size ∧ cs.size ≤ maxLen
theorem JL.noZero {F N : Nat} {e : TypeId} {ts : Array TypeId} {p : Int} (hx : ev S xo = some (.int .i64 p)) (hp : p = (N : Int)) (hr : NoZero f.P F N e) (hd : Nat.blt d f.m = true)
    (k : ∀ b c xs, xs.length = N → N ≤ c → JL f ops n x rest ((d, .slice (some ⟨b, 0, none⟩) N c) :: S) h (.row (some ⟨b, 0, none⟩) c e 1 N xs :: L)) :
    JL f ops n x (⟨some d, .call { callee := .value (.func F), args := #[xo], argTypes := ts }, ty, pos, af, none⟩ :: rest) S h L := fun ac w s => by
  subst hp
  obtain ⟨cs, hrun, h1, h2⟩ := hr w
  have hk0 : Ok f.e h (.blk w.heap.size e cs.toList :: L) (w.drew.drew.alloc (.cells cs e)) := by
    have := ((s.ok.drawn (w.drawn + 1)).drawn (w.drawn + 1 + 1)).alloc e cs.toList
    rw [Array.toArray_toList] at this
    exact this
  have hxl : (cs.toList.take N).length = N := by simp; omega
  have hk : Ok f.e h (.row (some ⟨w.heap.size, 0, none⟩) cs.size e 1 N (cs.toList.take N) :: L) (w.drew.drew.alloc (.cells cs e)) := by
    have hb := hk0.own _ (List.mem_cons_self ..)
    simp only [Ent.holds] at hb
    refine hk0.turn rfl rfl rfl (Nat.le_refl _) (fun _ _ _ => rfl) ?_ (fun b hb => .inl hb)
    refine ⟨by simpa using hxl, .inr ⟨w.heap.size, cs.size, cs, rfl, Nat.zero_le _, by simpa using hb, h1, h2, by simp, by simp⟩⟩
  refine wpList_val (v := .slice (some ⟨w.heap.size, 0, none⟩) N cs.size) (w' := w.drew.drew.alloc (.cells cs e)) rfl ?_ (k _ _ _ hxl h1 _ _ (s.put hd _ hk))
  have hm : Array.map ac.eval #[xo] = #[.int .i64 (N : Int)] := by simp [s.eval hx]
  simp only [execOp, resolve, hm, Act.eval, Deferred.ofValue, Sem.run_bind, Sem.run_pure, Result.andThen, invoke]
  simp [hrun]
end
end Go.Proofs.YtmngjbefnloljaaGreatDoor
namespace Go.Proofs.YtmngjbefnloljaaGreatDoor
open Go Go.RowKit
set_option maxRecDepth 100000
theorem sl_91 : slT Tryz.prog 91 = some (22, 1) := by kernel_rfl
theorem bequal_fn {a b : Option Addr} {ca cb : Nat} {l r : List UInt8} {h : Part} (hl : SlR u8R 1 h a ca l) (hr : SlR u8R 1 h b cb r) : Pure Tryz.prog 48 [.slice a l.length ca, .slice b r.length cb] h (.bool (decide (l = r))) := by
  refine Fn.intro Tryz.func48 rfl Tryz.ntmps48 rfl (fun e he => ?_)
  refine J.weak [(0, _), (1, _)] ⟨rfl, rfl, trivial⟩ ?_
  refine Sr ?_
  refine Ru 1 rfl ?_
  refine JL.nil ?_
  refine Sr ?_
  refine Ru 1 rfl ?_
  refine JL.op (RunV.strB (l := l) sb_22_9 rfl hl rfl) rfl ?_
  refine Ru 1 rfl ?_
  refine JL.op (RunV.strB (l := r) sb_22_9 rfl hr rfl) rfl ?_
  refine JL.op (RunV.eqlS rfl rfl) rfl ?_
  refine Ru 1 rfl ?_
  refine Nk [4] rfl ?_
  exact J.retP (RetV.one rfl rfl) rfl rfl
theorem mnz {N : Nat} (hN : N ≤ 281474976710656) : NoZero Tryz.prog 80 N 5 := fun w => by
  obtain ⟨cs, hrun, h1, h2⟩ := Lib.run_makeNoZero (P := Tryz.prog) w #[3] 22 5 (by kernel_rfl) N hN
  exact ⟨cs, by rw [run_callFunc_extern Tryz.func80 (by kernel_rfl) (by kernel_rfl) (by kernel_rfl) (e := Extern.BytealgMakeNoZero.makeNoZero #[3] #[22]) (by kernel_rfl), hrun]; rfl, h1, h2 (by simp only [maxLen]; omega)⟩
section
variable {f : Fr} {n : Post} {x : Nat → Post} {S : Sig} {h : Part} {L L' : List Ent} {ops : Array Oper} {rest : List Oper}
variable {ty : TypeId} {pos : String} {af : Array Edge} {d : Nat} {T T2 : TypeId} {xo yo : Operand}
theorem RunV.copyNil {g o dl dc sc e : Nat} (hT : slT f.P T = some (e, 1)) (hx : ev S xo = some (.slice (some ⟨g, o, none⟩) dl dc)) (hy : ev S yo = some (.slice none 0 sc)) : RunV f S h L (.call { callee := .builtin .copy, args := #[xo, yo], argTypes := #[T, T2] }) ty (.int .i64 0) := fun ac w s _ _ _ _ => by
  obtain ⟨hu, inf, hi, hs⟩ := slT_spec hT
  have := run_copy_none (P := f.P) w T T2 ty e (some ⟨g, o, none⟩) none dl dc 0 sc hu (by simp [hi, hs]) (by simp)
  simp [execOp, resolve, s.eval hx, s.eval hy, invoke, builtin, this, goInt]
theorem RunV.full3 {e g ln c m : Nat} {hi mx : Operand} {k1 k2 : IntKind} {i j : Int} (hT : slT f.P T = some (e, 1)) (hx : ev S xo = some (.slice (some ⟨g, 0, none⟩) ln c)) (hh : ev S hi = some (.int k1 i)) (hm : ev S mx = some (.int k2 j)) (hi' : i = (m : Int)) (hj : j = (m : Int)) (h1 : m ≤ c) (h2 : 0 < m) :
    RunV f S h L (.slice T xo none (some hi) (some mx)) ty (.slice (some ⟨g, 0, none⟩) m m) := fun ac w s _ _ _ _ => by
  subst hi' hj
  obtain ⟨hu, inf, hi', hs⟩ := slT_spec hT
  have e1 : (m : Int) ≤ c := by omega
  have e3 : ¬ (m = 0) := by omega
  simp [execOp, s.eval hx, s.eval hh, s.eval hm, Instr.sliceAt, Instr.slice, run_underlying hu, Instr.sliceBounds, Instr.sliceBound, asIntOf, sizeOf, typeInfo, hi', hs, e1, e3, h1, Addr.add_zero']
theorem RunV.fromv {e g ln c k : Nat} {lo : Operand} {k1 : IntKind} {i : Int} (hT : slT f.P T = some (e, 1)) (hx : ev S xo = some (.slice (some ⟨g, 0, none⟩) ln c)) (hl : ev S lo = some (.int k1 i)) (hi' : i = (k : Int)) (h1 : k ≤ ln) (h3 : k < c) :
    RunV f S h L (.slice T xo (some lo) none none) ty (.slice (some ⟨g, k, none⟩) (ln - k) (c - k)) := fun ac w s _ _ _ _ => by
  subst hi'
  obtain ⟨hu, inf, hi', hs⟩ := slT_spec hT
  have e1 : (k : Int) ≤ ln := by omega
  have e3 : ¬ (c = k) := by omega
  simp [execOp, s.eval hx, s.eval hl, Instr.sliceAt, Instr.slice, run_underlying hu, Instr.sliceBounds, Instr.sliceBound, asIntOf, sizeOf, typeInfo, hi', hs, e1, h1, e3, Addr.add_lit]
theorem JL.copyN {g o dl dc c t m sl sc e : Nat} {a : Option Addr} {xs : List Value} {l : List UInt8} (hT : slT f.P T = some (e, 1)) (hx : ev S xo = some (.slice (some ⟨g, o, none⟩) dl dc)) (hy : ev S yo = some (.slice a sl sc)) (u : Del (.row (some ⟨g, 0, none⟩) c t 1 m xs) L L')
    (hl : SlR u8R 1 h a sc l) (h0 : 0 < l.length) (hsl : sl = l.length) (hdl : l.length ≤ dl) (hfit : o + l.length ≤ m) (hd : Nat.blt d f.m = true)
    (k : JL f ops n x rest ((d, .int .i64 (l.length : Nat)) :: S) h (.row (some ⟨g, 0, none⟩) c t 1 m (over xs o (u8s l)) :: L')) :
    JL f ops n x (⟨some d, .call { callee := .builtin .copy, args := #[xo, yo], argTypes := #[T, T2] }, ty, pos, af, none⟩ :: rest) S h L := by
  obtain ⟨b, o2, rfl, _⟩ := hl.elt 0 l[0] (List.getElem?_eq_getElem h0)
  exact JL.copyB hT hx hy u hl hsl hdl hfit hd k
theorem SlR.recap {α : Type} {R : Rep α} {sz : Nat} {h : Part} {a : Option Addr} {c c2 : Nat} {l : List α} (k : SlR R sz h a c l) (h1 : l.length ≤ c2) (h2 : c2 ≤ c) : SlR R sz h a c2 l :=
  ⟨h1, Nat.le_trans h2 k.cap, k.big, fun hn => by have := k.nil hn; omega, k.elt⟩
end
theorem over_flat {xs : List Value} {p : List UInt8} {l : List UInt8} {N : Nat} (hx : xs.take p.length = u8s p) (hN : xs.length = N) (hfit : p.length + l.length ≤ N) : (over xs p.length (u8s l)).take (p ++ l).length = u8s (p ++ l) ∧ (over xs p.length (u8s l)).length = N := by
  have hul := u8s_length l
  have hup := u8s_length p
  refine ⟨?_, by rw [over_len (by rw [hul]; omega), hN]⟩
  unfold over
  rw [hx, u8s_append, List.take_append_of_le_length (by simp [hul, hup]), List.take_of_length_le (by simp [hul, hup])]
theorem flat_take (ls : List (List UInt8)) (i : Nat) (h : i < ls.length) : (ls.take (i + 1)).flatten = (ls.take i).flatten ++ ls[i] := by
  rw [List.take_succ_eq_append_getElem h, List.flatten_append]; simp
theorem flat_le (ls : List (List UInt8)) (i : Nat) : (ls.take i).flatten.length ≤ ls.flatten.length := by
  have : ls.flatten = (ls.take i).flatten ++ (ls.drop i).flatten := by rw [← List.flatten_append, List.take_append_drop]
  rw [this, List.length_append]; omega
theorem bjoin_fn {a : Option Addr} {c : Nat} {ls : List (List UInt8)} {h : Part} (hl : SlR (slR u8R 1) 1 h a c ls) (h2 : 2 ≤ ls.length) (hb : ls.flatten.length ≤ 1000000000) (hl0 : ∀ l ∈ ls, 0 < l.length) : FnR Tryz.prog 78 [.slice a ls.length c, .slice none 0 0] h (fun v h' => ∃ a c, v = .slice a ls.flatten.length c ∧ SlR u8R 1 h' a c ls.flatten) := by
  obtain ⟨N, hN⟩ : ∃ N, N = ls.flatten.length := ⟨_, rfl⟩
  have hll := hl.le63
  have hNz := mnz (N := N) (by omega)
  refine Fn.intro Tryz.func78 rfl Tryz.ntmps78 rfl (fun e he => ?_)
  refine J.weak [(0, _), (1, _)] ⟨rfl, rfl, trivial⟩ ?_
  have hh0 := Part.le.refl h
  refine Sr ?_
  refine Ru 1 rfl ?_
  refine JL.nil ?_
  refine J.seq ?_
  refine Sr ?_
  refine Ru 1 rfl ?_
  refine JL.op (RunV.len sl_91 rfl) rfl ?_
  refine Ru 1 rfl ?_
  refine JL.nil ?_
  refine Cs rfl (fun hc1 => ?_) fun hc1 => ?_
  ·
   exfalso; omega
  refine J.skip ?_
  refine J.seq ?_
  refine Sr ?_
  refine Ru 1 rfl ?_
  refine JL.op (RunV.len sl_91 rfl) rfl ?_
  refine Ru 1 rfl ?_
  refine Nk [18, 4, 0, 1] rfl ?_
  refine Cs rfl (fun hc2 => ?_) fun hc2 => ?_
  ·
   exfalso; omega
  refine J.skip ?_
  refine Sr ?_
  refine Ru 1 rfl ?_
  refine JL.nil ?_
  refine J.seq ?_
  refine Sr ?_
  refine Ru 3 rfl ?_
  refine JL.nil ?_
  refine Cs rfl (fun hc3 => ?_) fun hc3 => ?_
  ·
   exfalso; omega
  refine J.skip ?_
  refine Kp [5, 4, 0, 1] rfl ?_
  refine J.seq ?_
  refine Sr ?_
  refine Ru 1 rfl ?_
  refine JL.op (RunV.len sl_91 rfl) rfl ?_
  refine Ru 1 rfl ?_
  refine JL.nil ?_
  refine J.block ?_
  refine J.loop (fun t_ S_ h_ L_ => ∃ (i : Nat), t_ = ls.length - i ∧ S_ = [(0, .slice a ls.length c), (1, .slice none 0 0), (5, .int .i64 ((ls.take i).flatten.length : Nat)), (42, .slice a ls.length c), (43, .int .i64 ls.length), (44, .int .i64 i)] ∧ h = h_ ∧ L_ = [] ∧ (i ≤ ls.length)) ⟨_, _, ?_, ⟨0, rfl, rfl, rfl, rfl, by omega⟩⟩ ?_
  ·
   repeat (first | exact trivial | refine ⟨rfl, ?_⟩ | refine ⟨(by exact some_int (by rw [hft, List.length_append]; omega)), ?_⟩)
  rintro _ _ _ _ ⟨i, rfl, rfl, rfl, rfl, hi⟩
  refine Sr ?_
  refine Ru 1 rfl ?_
  refine JL.nil ?_
  refine J.seq ?_
  refine Cs rfl (fun hc4 => ?_) fun hc4 => ?_
  ·
   have hi' : i < ls.length := (by omega); have hft := flat_take ls i hi'; have hfl := flat_le ls (i + 1); rw [hft, List.length_append] at hfl
   refine J.skip ?_
   refine J.seq ?_
   refine J.block ?_
   refine Sr ?_
   refine JL.ope (RunE.index (m := i) sl_91 rfl rfl (by omega) hl rfl (by omega)) rfl ?_
   rintro _ ⟨b5, o5, hi5, rfl, hE5⟩
   refine JL.ope (RunE.load1 ag_22 rfl (by assumption)) rfl ?_
   rintro _ ⟨a6, c6, hq6, hS6⟩
   cases hq6
   refine Ru 1 rfl ?_
   refine JL.nil ?_
   refine J.seq ?_
   refine Sr ?_
   refine Ru 3 rfl ?_
   refine JL.op si_ rfl ?_
   refine Ru 1 rfl ?_
   refine JL.nil ?_
   refine Cs rfl (fun hc7 => ?_) fun hc7 => ?_
   ·
    exfalso; omega
   refine J.skip ?_
   refine Rg ?_
   refine Ru 3 rfl ?_
   refine JL.op ai_ rfl ?_
   refine Ru 1 rfl ?_
   refine JL.nil ?_
   refine Rg ?_
   refine JL.op ai_ rfl ?_
   refine Ru 1 rfl ?_
   refine JL.nil ?_
   refine ⟨_, ?_, _, ?_, ⟨i + 1, rfl, rfl, rfl, rfl, by omega⟩⟩
   ·
    omega
   repeat (first | exact trivial | refine ⟨rfl, ?_⟩ | refine ⟨(by exact some_int (by rw [hft, List.length_append]; omega)), ?_⟩)
  have hie : i = ls.length := (by omega); rw [hie, List.take_length, ← hN]; have hl1 : ∃ l1 r, ls = l1 :: r := (by cases ls with | nil => simp at h2 | cons a b => exact ⟨_, _, rfl⟩); have hi0 : 0 < ls.length := (by omega); have hft0 := flat_take ls 0 hi0; have hfl0 := flat_le ls 1; rw [hft0, List.length_append, ← hN] at hfl0; have hp0 := hl0 _ (List.getElem_mem hi0)
  refine J.exit ?_
  refine Kp [0, 1, 5] rfl ?_
  refine Sr ?_
  refine Ru 1 rfl ?_
  refine JL.noZero rfl rfl hNz rfl (fun bR cR xs0 hx0 hc0 => ?_)
  refine Ru 2 rfl ?_
  refine JL.op (RunV.full3 sl_22 rfl rfl rfl rfl rfl hc0 (by omega)) rfl ?_
  refine Ru 1 rfl ?_
  refine Nk [8, 0, 1] rfl ?_
  refine Sr ?_
  refine Ru 2 rfl ?_
  refine JL.ope (RunE.index (m := 0) sl_91 rfl rfl rfl hl rfl hi0) rfl ?_
  rintro _ ⟨bA, oA, hA1, rfl, hEA⟩
  refine JL.ope (RunE.load1 ag_22 rfl hEA) rfl ?_
  rintro v1 ⟨a1, c1, hv1, hS1⟩
  cases hv1
  refine JL.copyN sl_22 rfl rfl dl_ hS1 hp0 rfl (by omega) (by omega) rfl ?_
  refine Ru 1 rfl ?_
  refine Nk [9, 8, 0, 1] rfl ?_
  refine J.seq ?_
  refine Sr ?_
  have e0 : (ls.take (0 + 1)).flatten = ls[0] := (by rw [hft0]; simp); obtain ⟨o1, o2⟩ := over_flat (p := []) (l := ls[0]) (xs := xs0) (N := N) (by simp [u8s]) hx0 (by simp only [List.length_nil]; omega)
  refine Ru 1 rfl ?_
  refine JL.ope (RunE.cut_l sl_91 (m := 1) rfl rfl rfl hl rfl (by omega)) rfl ?_
  rintro _ ⟨aT, cT, rfl, hST⟩
  refine JL.op (RunV.len sl_91 rfl) rfl ?_
  refine Ru 1 rfl ?_
  refine JL.nil ?_
  refine J.block ?_
  refine J.loop (fun t_ S_ h_ L_ => ∃ (j : Nat) (xs : List Value), t_ = ls.length - 1 - j ∧ S_ = [(1, .slice none 0 0), (8, .slice (some ⟨bR, 0, none⟩) N N), (9, .int .i64 ((ls.take (j + 1)).flatten.length : Nat)), (70, .slice aT (ls.drop 1).length cT), (71, .int .i64 (ls.drop 1).length), (72, .int .i64 j)] ∧ h = h_ ∧ L_ = [.row (some ⟨bR, 0, none⟩) cR 5 1 N xs] ∧ (j ≤ (ls.drop 1).length ∧ xs.length = N ∧ xs.take (ls.take (j + 1)).flatten.length = u8s (ls.take (j + 1)).flatten)) ⟨_, _, ?_, ⟨0, _, rfl, rfl, rfl, rfl, ⟨by omega, o2, by rw [e0]; exact o1⟩⟩⟩ ?_
  ·
   repeat (first | exact trivial | refine ⟨rfl, ?_⟩ | refine ⟨(by exact some_int (by first | rw [e0] | (rw [hft2, List.length_append]; omega) | omega)), ?_⟩)
  rintro _ _ _ _ ⟨j, xs, rfl, rfl, rfl, rfl, hj, hxl, hxt⟩
  refine Sr ?_
  refine Ru 1 rfl ?_
  refine JL.nil ?_
  refine J.seq ?_
  refine Cs rfl (fun hc13 => ?_) fun hc13 => ?_
  ·
   have hdl : (ls.drop 1).length = ls.length - 1 := List.length_drop; have hj' : j < (ls.drop 1).length := (by omega); have hj1 : j + 1 < ls.length := (by omega); have hde : (ls.drop 1)[j]'hj' = ls[j + 1]'hj1 := (by rw [List.getElem_drop]; congr 1; omega); have hft2 := flat_take ls (j + 1) hj1; rw [← hde] at hft2; have hfl2 := flat_le ls (j + 1 + 1); rw [hft2, List.length_append, ← hN] at hfl2; have hp2 : 0 < ((ls.drop 1)[j]'hj').length := (by rw [hde]; exact hl0 _ (List.getElem_mem hj1)); obtain ⟨q1, q2⟩ := over_flat (l := (ls.drop 1)[j]'hj') hxt hxl hfl2; rw [← hft2] at q1
   refine J.skip ?_
   refine J.seq ?_
   refine J.block ?_
   refine Sr ?_
   refine JL.ope (RunE.index (m := j) sl_91 rfl rfl (by omega) hST rfl hj') rfl ?_
   rintro _ ⟨bB, oB, hB1, rfl, hEB⟩
   refine JL.ope (RunE.load1 ag_22 rfl hEB) rfl ?_
   rintro v2 ⟨a2, c2, hv2, hS2⟩
   cases hv2
   refine Ru 1 rfl ?_
   refine JL.nil ?_
   refine Sr ?_
   refine Ru 3 rfl ?_
   refine JL.op (RunV.fromv sl_22 (k := (ls.take (j + 1)).flatten.length) rfl rfl rfl (by omega) (by omega)) rfl ?_
   refine Ru 1 rfl ?_
   refine JL.op (RunV.copyNil sl_22 rfl rfl) rfl ?_
   refine JL.op ai_ rfl ?_
   refine Ru 1 rfl ?_
   refine JL.nil ?_
   refine Rg ?_
   refine Ru 3 rfl ?_
   refine JL.op (RunV.fromv sl_22 (k := (ls.take (j + 1)).flatten.length) rfl rfl (by omega) (by omega) (by omega)) rfl ?_
   refine Ru 1 rfl ?_
   refine JL.copyN sl_22 rfl rfl dl_ hS2 hp2 rfl (by omega) (by omega) rfl ?_
   refine JL.op ai_ rfl ?_
   refine Ru 1 rfl ?_
   refine JL.nil ?_
   refine Rg ?_
   refine JL.op ai_ rfl ?_
   refine Ru 1 rfl ?_
   refine JL.nil ?_
   refine ⟨_, ?_, _, ?_, ⟨j + 1, _, rfl, rfl, rfl, rfl, ⟨by omega, q2, q1⟩⟩⟩
   ·
    omega
   repeat (first | exact trivial | refine ⟨rfl, ?_⟩ | refine ⟨(by exact some_int (by first | rw [e0] | (rw [hft2, List.length_append]; omega) | omega)), ?_⟩)
  have hdl : (ls.drop 1).length = ls.length - 1 := List.length_drop; have hje : j + 1 = ls.length := (by omega); rw [hje, List.take_length, ← hN, List.take_of_length_le (by omega)] at hxt; subst hxt
  refine J.exit ?_
  refine Kp [8] rfl ?_
  refine Sr ?_
  refine JL.pub (R := u8R) (l := ls.flatten) dl_ CellsR.of_u8 hN (by omega) (fun h9 hle9 hP9 => ?_)
  refine Ru 2 rfl ?_
  refine JL.nil ?_
  rw [hN] at *; exact J.retR (RetV.one rfl rfl) ⟨_, _, rfl, hP9.recap (Nat.le_refl _) hc0⟩
end Go.Proofs.YtmngjbefnloljaaGreatDoor
namespace Go.Proofs.YtmngjbefnloljaaGreatDoor
open Go Go.RowKit
theorem chr_ascii (b : UInt8) (r : List UInt8) (h : b.toNat < 128) : chr (b :: r) = b.toNat ∧ wid (b :: r) = 1 := by
  have e : Go.Lib.decodeL (b :: r) = (b.toNat, 1) := by
    unfold Go.Lib.decodeL
    rw [Go.Lib.decode_at]
    have e0 : (⟨(b :: r).toArray⟩ : ByteArray).get! 0 = b := by rw [get!_list]; rfl
    rw [e0]
    unfold Go.Lib.decodeN
    rw [if_pos h]
  exact ⟨by show (Go.Lib.decodeL (b :: r)).1 = _; rw [e], by show (Go.Lib.decodeL (b :: r)).2 = _; rw [e]⟩
theorem chr_low (b : UInt8) (r : List UInt8) (h : chr (b :: r) < 128) : b.toNat < 128 := by
  rcases Nat.lt_or_ge b.toNat 128 with hb | hb
  · exact hb
  · exfalso
    have e : chr (b :: r) = (Go.Lib.decodeL (b :: r)).1 := rfl
    rw [e] at h
    unfold Go.Lib.decodeL at h
    rw [Go.Lib.decode_at] at h
    have e0 : (⟨(b :: r).toArray⟩ : ByteArray).get! 0 = b := by rw [get!_list]; rfl
    rw [e0] at h
    unfold Go.Lib.decodeN at h
    rw [if_neg (by omega)] at h
    split at h
    · split at h <;> simp only at h <;> omega
    · split at h
      · split at h <;> simp only at h <;> omega
      · split at h
        · split at h <;> simp only at h <;> omega
        · simp only at h; omega
theorem chr_dig (s : List UInt8) (p : Nat) (hp : p < s.length) : (48 ≤ chr (s.drop p) ∧ chr (s.drop p) ≤ 57 ↔ 48 ≤ byteAt s p ∧ byteAt s p ≤ 57) ∧ (48 ≤ chr (s.drop p) ∧ chr (s.drop p) ≤ 57 → chr (s.drop p) = byteAt s p ∧ wid (s.drop p) = 1) := by
  have e : s.drop p = s[p] :: s.drop (p + 1) := List.drop_eq_getElem_cons hp
  have eb := byteAt_eq s p hp
  rw [e]
  constructor
  · constructor
    · intro h
      have h1 := chr_low s[p] (s.drop (p + 1)) (by omega)
      rw [(chr_ascii _ _ h1).1, eb] at h
      exact h
    · intro h
      rw [(chr_ascii _ _ (by omega)).1, eb]
      exact h
  · intro h
    have h1 := chr_low s[p] (s.drop (p + 1)) (by omega)
    rw [(chr_ascii _ _ h1).1, (chr_ascii _ _ h1).2, eb]
    exact ⟨rfl, rfl⟩
theorem numV_append (a b : List UInt8) : numV a ≤ numV (a ++ b) := by
  have key : ∀ (l : List UInt8) (v : Nat), v ≤ l.foldl (fun v (c : UInt8) => v * 10 + (c.toNat - 48)) v := by
    intro l
    induction l with
    | nil => intro v; exact Nat.le_refl _
    | cons c l ih => intro v; exact Nat.le_trans (show v ≤ v * 10 + (c.toNat - 48) by omega) (ih _)
  unfold numV
  rw [List.foldl_append]
  exact key _ _
theorem numV_take_le (s : List UInt8) (p : Nat) : numV (s.take p) ≤ numV s := by
  conv => rhs; rw [← List.take_append_drop p s]
  exact numV_append _ _
theorem numV_ge (c : UInt8) (hc : 49 ≤ c.toNat) : ∀ (r : List UInt8), 10 ^ r.length ≤ numV (c :: r) := by
  have key : ∀ (l : List UInt8) (v : Nat), v * 10 ^ l.length ≤ l.foldl (fun v (c : UInt8) => v * 10 + (c.toNat - 48)) v := by
    intro l
    induction l with
    | nil => intro v; simp
    | cons c l ih =>
      intro v
      refine Nat.le_trans ?_ (ih _)
      rw [List.length_cons, Nat.pow_succ, ← Nat.mul_assoc, Nat.mul_right_comm]
      exact Nat.mul_le_mul_right _ (show v * 10 ≤ v * 10 + (c.toNat - 48) by omega)
  intro r
  have := key r (c.toNat - 48)
  unfold numV
  rw [List.foldl_cons]
  simp only [Nat.zero_mul, Nat.zero_add]
  refine Nat.le_trans ?_ this
  exact Nat.le_mul_of_pos_left _ (by omega)
def numP (s : List UInt8) : Nat × Bool := match numB s with | some v => (v, true) | none => (0, false)
theorem numP_bad {s : List UInt8} (h : s.length = 0 ∨ 1 < s.length ∧ byteAt s 0 = 48) : numP s = (0, false) := by
  have hb : numBad s = true := decide_eq_true (by unfold byteAt at h; omega)
  simp [numP, numB, hb]
theorem numP_not {s : List UInt8} {p : Nat} (hp : p < s.length) (h : ¬ (48 ≤ byteAt s p ∧ byteAt s p ≤ 57)) : numP s = (0, false) := by
  have hb : s.all dig = false := by
    rw [List.all_eq_false]
    refine ⟨s[p], List.getElem_mem _, ?_⟩
    have e := byteAt_eq s p hp
    unfold dig
    rw [decide_eq_false (by omega)]
    decide
  simp [numP, numB, hb]
theorem numV_take1 (s : List UInt8) (i : Nat) (h : i < s.length) : numV (s.take (i + 1)) = numV (s.take i) * 10 + (byteAt s i - 48) := by
  rw [List.take_succ_eq_append_getElem h, numV_snoc, byteAt_eq s i h]
theorem all_take1 (s : List UInt8) (i : Nat) (h : i < s.length) : (s.take (i + 1)).all dig = ((s.take i).all dig && decide (48 ≤ byteAt s i ∧ byteAt s i ≤ 57)) := by
  rw [List.take_succ_eq_append_getElem h, List.all_append]
  simp [dig, byteAt_eq s i h]
theorem numP_big {s : List UInt8} {p : Nat} (hp : p < s.length) (h : 9223372036854775808 ≤ numV (s.take p) * 10 + (byteAt s p - 48)) : numP s = (0, false) := by
  have h1 := numV_take_le s (p + 1)
  rw [numV_take1 s p hp] at h1
  unfold numP numB
  by_cases hb : (numBad s || !s.all dig) = true
  · rw [if_pos hb]
  · rw [if_neg hb, if_neg (by omega)]
theorem numP_end {s : List UInt8} (h0 : ¬ (s.length = 0 ∨ 1 < s.length ∧ byteAt s 0 = 48)) (hd : s.all dig = true) (hv : numV s < 9223372036854775808) : numP s = (numV s, true) := by
  have hl : s.length ≤ 19 := by
    rcases Nat.lt_or_ge 19 s.length with hl | hl
    · exfalso
      cases s with
      | nil => simp at hl
      | cons c r =>
        simp only [List.length_cons] at hl h0
        have hc : dig c = true := by simp only [List.all_cons, Bool.and_eq_true] at hd; exact hd.1
        unfold dig at hc
        have hc' := of_decide_eq_true hc
        have e : byteAt (c :: r) 0 = c.toNat := rfl
        rw [e] at h0
        have := numV_ge c (by omega) r
        have h2 : 10 ^ 19 ≤ 10 ^ r.length := Nat.pow_le_pow_right (by decide) (by omega)
        simp only [Nat.reducePow] at h2
        omega
    · exact hl
  have hb : numBad s = false := decide_eq_false (by unfold byteAt at h0; omega)
  unfold numP numB
  rw [hb, hd, if_neg (by decide), if_pos hv]
theorem numP_lt (s : List UInt8) : (numP s).1 < 9223372036854775808 := by
  unfold numP numB
  split <;> rename_i h
  · split at h
    · cases h
    · split at h
      · cases h; assumption
      · cases h
  · decide
theorem hiB_zero : hiB 0 = [] := rfl
theorem hiB_k (n k : Nat) (hn : n < 9223372036854775808) (h0 : n / 128 ^ k ≠ 0) : hiB (n / 128 ^ k) = hiB (n / 128 ^ (k + 1)) ++ [UInt8.ofNat (n / 128 ^ k % 128 + 128)] := by
  have hlt : n / 128 ^ k ≤ n := Nat.div_le_self _ _
  rw [hiB_step _ (by simp only [Nat.reducePow]; omega) h0, Nat.div_div_eq_div_mul, Nat.pow_succ]
theorem b128_eq (n : Nat) : b128 n = hiB (n / 128 ^ (0 + 1)) ++ [UInt8.ofNat (n % 128)] := by
  unfold b128; simp
theorem numsGo_cut : ∀ (a cur r : List UInt8), (∀ c ∈ a, c ≠ 46) → numsGo (a ++ 46 :: r) cur = match numB (cur ++ a) with | none => none | some n => (numsGo r []).map (n :: ·)
  | [], cur, r, _ => by
    simp only [List.nil_append, List.append_nil, numsGo, if_true] <;> (cases numB cur <;> rfl)
  | c :: a, cur, r, h => by
    simp only [List.cons_append, numsGo]
    rw [if_neg (h c (List.mem_cons_self ..)), numsGo_cut a _ r (fun x hx => h x (List.mem_cons_of_mem _ hx))]
    simp
theorem numsGo_last : ∀ (a cur : List UInt8), (∀ c ∈ a, c ≠ 46) → numsGo a cur = (numB (cur ++ a)).map ([·])
  | [], cur, _ => by simp [numsGo]
  | c :: a, cur, h => by
    simp only [numsGo]
    rw [if_neg (h c (List.mem_cons_self ..)), numsGo_last a _ (fun x hx => h x (List.mem_cons_of_mem _ hx))]
    simp
theorem numP_some {s : List UInt8} {v : Nat} (h : numP s = (v, true)) : numB s = some v := by
  unfold numP at h
  split at h
  · cases h; assumption
  · cases h
theorem numP_none {s : List UInt8} {v : Nat} (h : numP s = (v, false)) : numB s = none := by
  unfold numP at h
  split at h
  · cases h
  · assumption
theorem dot_spec : ∀ (s : List UInt8), (Go.Lib.indexByte s 46 = -1 ∧ ∀ c ∈ s, c ≠ 46) ∨ ∃ k, k < s.length ∧ Go.Lib.indexByte s 46 = (k : Int) ∧ s = s.take k ++ 46 :: s.drop (k + 1) ∧ ∀ c ∈ s.take k, c ≠ 46
  | [] => .inl ⟨rfl, by simp⟩
  | c :: r => by
    rw [Go.Lib.indexByte]
    split
    · rename_i hc
      have hc := eq_of_beq hc
      subst hc
      exact .inr ⟨0, by simp, by simp, by simp, by simp⟩
    · rename_i hc
      have hc : c ≠ 46 := fun e => hc (by rw [e]; rfl)
      rcases dot_spec r with ⟨h1, h2⟩ | ⟨k, h1, h2, h3, h4⟩
      · rw [h1]
        refine .inl ⟨rfl, fun x hx => ?_⟩
        rcases List.mem_cons.1 hx with rfl | hx
        · exact hc
        · exact h2 x hx
      · rw [h2]
        refine .inr ⟨k + 1, by simp; omega, ?_, ?_, fun x hx => ?_⟩
        · rw [if_neg (by simp)]; simp
        · simp only [List.take_succ_cons, List.drop_succ_cons, List.cons_append]
          rw [← h3]
        · simp only [List.take_succ_cons] at hx
          rcases List.mem_cons.1 hx with rfl | hx
          · exact hc
          · exact h4 x hx
end Go.Proofs.YtmngjbefnloljaaGreatDoor
namespace Go.Proofs.YtmngjbefnloljaaGreatDoor
open Go Go.RowKit
def Wd (r : Option Nat) : Fence := { Fence.wide with round := r }
def noDefer : List Oper → Bool
  | [] => true
  | o :: l => (match o.op with | .defer _ => false | _ => true) && noDefer l
theorem list_in {P : Program} {ops : Array Oper} {Q : Exit → Act → World → Prop} (hQ : ¬ LetsOut Q) (r : Option Nat) : ∀ (l : List Oper) (a : Act) (w : World), noDefer l = true → wpList P ops Q l a w → wpListIn (Wd r) 0 P ops Q l a w
  | [], _, _, _, h => h
  | o :: l, a, w, hn, h => by
    have ih := fun a w => list_in (P := P) (ops := ops) hQ r l a w (by simp only [noDefer, Bool.and_eq_true] at hn; exact hn.2)
    have hd : ∀ c, o.op ≠ .defer c := fun c hc => by simp [noDefer, hc] at hn
    have hsem : ∀ ro, o.semAt ro a.eval = execOp a.eval o := fun ro => Oper.semAt_eq _ _ _ hd
    unfold wpList at h
    unfold wpListIn
    split at h
    · rename_i hw
      rw [if_pos hw]
      rcases h with h | ⟨_, h⟩
      · refine ⟨fun _ _ => trivial, ?_⟩
        rw [hsem]
        unfold Oper.wp at h
        generalize (execOp a.eval o).run P w = res at h ⊢
        cases res with
        | ok nx w' =>
          cases nx with
          | value v => exact ih _ _ h
          | skip => exact ih _ _ h
          | defer d => exact ih _ _ h
          | enter f args =>
            refine ⟨(fun hh => by cases hh), ?_⟩
            have hc : CallsIn Fence.wide 0 P f args w' (fun e w'' => match e with
                | .returned v => wpListIn (Wd r) 0 P ops Q l (a.put o.dst v) w''
                | .panicked chain => Q (.panic chain) a w''
                | .outgrown => LetsOut Q) := callsIn_wide.2 (Calls.mono h fun e w'' hh => by
              cases e with
              | returned v => exact ih _ _ hh
              | panicked c => exact hh
              | outgrown => exact hh)
            exact ⟨trivial, fun cs hr => by
              obtain ⟨e, w'', fr, hR, rest⟩ := hc.2 cs (room_wide _)
              refine ⟨e, w'', fr, ?_, rest⟩
              cases e <;> exact hR⟩
          | row row args =>
            refine ⟨(fun hh => by cases hh), ?_⟩
            exact fun c cs hr => by
              obtain ⟨v, w'', hR, hs⟩ := h c cs
              exact ⟨v, w'', ih _ _ hR, stepsIn_wide.2 hs⟩
          | _ => exact h.elim
        | halt hl w' =>
          cases hl with
          | panic v => exact h
          | _ => exact h.elim
      · exact absurd h hQ
    · rename_i hw
      rw [if_neg hw]
      exact ⟨fun _ _ => trivial, ih _ _ h⟩
theorem Fr.noOut (f : Fr) (n : Post) (x : Nat → Post) : ¬ LetsOut (f.Q n x) := fun ⟨_, _, h⟩ => h
def JI (f : Fr) (ops : Array Oper) (n : Post) (x : Nat → Post) (l : List Oper) : Post := fun S h L => ∀ a w, Sat f.e f.m S h L a w → wpListIn Fence.wide 0 f.P ops (f.Q n x) l a w
def JR (f : Fr) (l : Nat) (c : Code) (n : Post) (x : Nat → Post) : Post := fun S h L => ∀ a w, Sat f.e f.m S h L a w → c.wpIn (Wd (some l)) 0 f.P (f.Q n x) a w
def Loop.after (r : Loop) (b : Bool) : Loop := { r with state := bif b then .ready else .done, pending := bif b then none else some .ret }
def Rd (P : Program) (l : Nat) (r : Loop) (v : Value) (h : Part) (Li : List Ent) (R : Bool → Part → List Ent → Prop) : Prop :=
  ∀ w, Ok ⟨w, (· ∈ keys (.obj l (.loop r) :: Li)), h, []⟩ h (.obj l (.loop r) :: Li) w → ∀ p, r.params = #[p] →
    RoundIn Fence.wide 0 P l r.fn (r.tmps.setIfInBounds p v) r.assign r.body w fun e w' => ∃ b h' Lo, e = .returned (.bool b) ∧ R b h' Lo ∧ Ok ⟨w, (· ∈ keys (.obj l (.loop r) :: Li)), h, []⟩ h' (.obj l (.loop (Loop.after r b)) :: Lo) w'
section
variable {f : Fr} {n : Post} {x : Nat → Post} {S : Sig} {h : Part} {L Li Lr : List Ent} {ops : Array Oper} {rest : List Oper}
variable {ty : TypeId} {pos : String} {af : Array Edge} {d : Nat}
theorem J.regionI {id : Nat} {l : List Oper} (k : JI f l.toArray n x l S h L) : J f (.region id l.toArray false) n x S h L := fun a w s => (wpIn_wide (n := 0)).1 (wpIn_region_lit (k a w s))
theorem JI.of {l : List Oper} (hn : noDefer l = true) (k : JL f ops n x l S h L) : JI f ops n x l S h L := fun a w s => list_in (f.noOut n x) none l a w hn (k a w s)
theorem JI.op {q : Op} {v : Value} (r : RunV f S h L q ty v) (hd : Nat.blt d f.m = true) (k : JI f ops n x rest ((d, v) :: S) h L) : JI f ops n x (⟨some d, q, ty, pos, af, none⟩ :: rest) S h L := fun a w s => by
  unfold wpListIn
  rw [if_pos (by simp [Region.wanted])]
  refine ⟨fun _ _ => trivial, ?_⟩
  have hr : (Oper.semAt Fence.wide.round a.eval ⟨some d, q, ty, pos, af, none⟩).run f.P w = .ok (.value v) w := r a w s _ _ _ _
  rw [hr]
  exact k _ w (s.put hd v s.ok)
theorem JI.yield {l : Nat} {r : Loop} {v : Value} {vo fo : Operand} {ts : Array TypeId} {p0 : Tmp} {R : Bool → Part → List Ent → Prop} (hf : ev S fo = some (.func (.yield l) #[] #[])) (hv : ev S vo = some v) (hp : r.params = #[p0])
    (p : Parts (.obj l (.loop r) :: Li) L Lr) (c : Rd f.P l r v h Li R) (hd : Nat.blt d f.m = true)
    (k : ∀ b h' Lo, h.le h' → R b h' Lo → JI f ops n x rest ((d, .bool b) :: S) h' (.obj l (.loop (Loop.after r b)) :: (Lo ++ Lr))) :
    JI f ops n x (⟨some d, .call { callee := .value fo, args := #[vo], argTypes := ts }, ty, pos, af, none⟩ :: rest) S h L := fun a w s => by
  unfold wpListIn
  rw [if_pos (by simp [Region.wanted])]
  refine ⟨fun _ _ => trivial, ?_⟩
  have okp := s.ok.perm p.perm
  have hl : w.heap[l]? = some (.loop r) := okp.own (.obj l (.loop r)) (by simp)
  have hy := run_yield (P := f.P) (args := #[v]) hl (by rw [hp]; rfl)
  have hr : (Oper.semAt Fence.wide.round a.eval ⟨some d, .call { callee := .value fo, args := #[vo], argTypes := ts }, ty, pos, af, none⟩).run f.P w = .ok (.round l r.fn (r.tmps.setIfInBounds p0 v) r.assign r.body) w := by
    show (execOp a.eval ⟨some d, .call { callee := .value fo, args := #[vo], argTypes := ts }, ty, pos, af, none⟩).run f.P w = _
    rw [hp] at hy
    simpa [execOp, resolve, s.eval hf, s.eval hv, Deferred.ofValue, invoke] using hy
  rw [hr]
  refine ⟨(fun hh => by cases hh), (c w okp.enter p0 hp).mono fun e w' hh => ?_⟩
  obtain ⟨b, h', Lo, rfl, hR, hO⟩ := hh
  have okc := okp.call hO
  exact k b h' Lo hO.le hR _ _ (s.put hd (.bool b) okc)
variable {l : Nat}
theorem JR.weak {c : Code} (S' : Sig) (hw : Weak S' S) (k : JR f l c n x S' h L) : JR f l c n x S h L := fun a w s => k a w (s.weak hw)
theorem JR.skip (k : n S h L) : JR f l .skip n x S h L := fun _ _ s => wpIn_skip ⟨_, _, _, s, k⟩
theorem JR.seq {c d : Code} (k : JR f l c (JR f l d n x) x S h L) : JR f l (.seq c d) n x S h L := fun a w s => by
  refine wpIn_seq (wpIn_mono (k a w s) (fun ex a' w' q => ?_))
  cases ex with
  | normal => obtain ⟨S', h', L', s', k'⟩ := q; exact k' a' w' s'
  | _ => exact q
theorem JR.ret (k : f.r S h L) : JR f l .ret n x S h L := fun _ _ s => wpIn_ret ⟨_, _, _, s, k⟩
theorem JR.region {id : Nat} {os : List Oper} (hn : noDefer os = true) (k : JL f os.toArray n x os S h L) : JR f l (.region id os.toArray false) n x S h L := fun a w s => wpIn_region_lit (list_in (f.noOut n x) (some l) os a w hn (k a w s))
theorem JR.bsplit {c : Code} (t : Nat) {b : Bool} (ht : look S t = some (.bool b)) (k1 : b = true → JR f l c n x ((t, .bool true) :: S) h L) (k2 : b = false → JR f l c n x ((t, .bool false) :: S) h L) : JR f l c n x S h L := fun a w s => by
  cases hb : b with
  | true => exact k1 hb a w (s.bool ht hb)
  | false => exact k2 hb a w (s.bool ht hb)
theorem JR.cond_t {t : Operand} {c d : Code} (ht : ev S t = some (.bool true)) (k1 : JR f l c n x S h L) : JR f l (.cond t c d) n x S h L := fun a w s => wpIn_cond_true (s.eval ht) (k1 a w s)
theorem JR.cond_f {t : Operand} {c d : Code} (ht : ev S t = some (.bool false)) (k1 : JR f l d n x S h L) : JR f l (.cond t c d) n x S h L := fun a w s => wpIn_cond_false (s.eval ht) (k1 a w s)
theorem JR.cs {b : Bool} {p q : Prop} {c d : Code} {t : Nat} (ht : look S t = some (.bool b)) [s : Sp b p q] (k1 : p → JR f l c n x ((t, .bool true) :: S) h L) (k2 : q → JR f l d n x ((t, .bool false) :: S) h L) : JR f l (.cond (.tmp t) c d) n x S h L :=
  JR.bsplit t ht (fun hb => JR.cond_t (by simp [ev, look]) (k1 (s.t hb))) (fun hb => JR.cond_f (by simp [ev, look]) (k2 (s.f hb)))
theorem JR.sr {d : Code} {id : Nat} {os : List Oper} (hn : noDefer os = true) (k : JL f os.toArray (JR f l d n x) x os S h L) : JR f l (.seq (.region id os.toArray false) d) n x S h L := JR.seq (JR.region hn k)
theorem JR.kp {S' : Sig} {c : Code} (ks : List Nat) (hk : keepS ks S = some S') (k : JR f l c n x S' h L) : JR f l c n x S h L := JR.weak S' (keepS_ok hk) k
theorem JR.nk {S' : Sig} {c : Code} {x' : Nat → Post} (ks : List Nat) (hk : keepS ks S = some S') (k : JR f l c n x S' h L) : JL f ops (JR f l c n x) x' [] S h L := JL.nil (JR.weak S' (keepS_ok hk) k)
theorem JR.block {id : Nat} {c : Code} (k : JR f l c n (fun i => bif Nat.beq i id then n else x i) S h L) (hid : Nat.blt id 1000000 = true := by rfl) : JR f l (.block id c) n x S h L := fun a w s => by
  refine wpIn_block (wpIn_mono (k a w s) (fun ex a' w' q => ?_))
  cases ex with
  | exit i =>
    obtain ⟨S', h', L', s', k', hi⟩ := q
    simp only [Exit.inBlock]
    cases hb : Nat.beq i id with
    | true =>
      have : i = id := Nat.eq_of_beq_eq_true hb
      simp only [hb, cond_true] at k'
      rw [if_pos this]
      exact ⟨S', h', L', s', k'⟩
    | false =>
      have : i ≠ id := Nat.ne_of_beq_eq_false hb
      simp only [hb, cond_false] at k'
      rw [if_neg this]
      exact ⟨S', h', L', s', k', hi⟩
  | goto l =>
    obtain ⟨S', h', L', s', k'⟩ := q
    have hlt : id < 1000000 := by simpa using hid
    have hne : Nat.beq (l + 1000000) id = false := by
      cases hb : Nat.beq (l + 1000000) id with
      | true => have := Nat.eq_of_beq_eq_true hb; omega
      | false => rfl
    simp only [hne, cond_false] at k'
    exact ⟨S', h', L', s', k'⟩
  | _ => exact q
def Slots (m : Nat) (S : Sig) (tmps : Array Value) : Prop := tmps.size = m ∧ ∀ s v, look S s = some v → tmps[s]? = some v
theorem Ok.putObj {e : Env} {b : Nat} {o : Obj} {w : World} (k : Ok e h (.obj b o :: L) w) (o' : Obj) : Ok e h (.obj b o' :: L) (w.putObj b o') := by
  have hl : w.heap[b]? = some o := k.own _ (List.mem_cons_self ..)
  refine k.turn rfl rfl rfl (by simp) (fun b' _ hne => World.putObj_heap_other (fun e => hne (by rw [e]; rfl))) (World.putObj_heap_same (Array.getElem?_eq_some_iff.1 hl).1) (fun b' hb' => .inl hb')
theorem Rd.intro {P : Program} {r : Loop} {v : Value} {m : Nat} {A B : Code} {pp : Tmp} {R : Bool → Part → List Ent → Prop} (hA : r.assign = A) (hB : r.body = B) (hs : r.state = .ready) (hpe : r.pending = none) (hpp : r.params = #[pp]) (hlt : Nat.blt pp m = true) (ht : Slots m S r.tmps)
    (k : ∀ e : Env, e.ds = [] → ∃ N : Post, JR ⟨P, e, m, fun _ _ _ => False, fun _ _ _ _ => False⟩ l A (fun S1 h1 L1 => h1 = h ∧ L1 = .obj l (.loop r) :: Li ∧ N S1 h1 (.obj l (.loop { r with state := .busy }) :: Li)) NoExit ((pp, v) :: S) h (.obj l (.loop r) :: Li) ∧
      ∀ S1, N S1 h (.obj l (.loop { r with state := .busy }) :: Li) →
        JR ⟨P, e, m, fun _ h' L' => ∃ Lo Lr, Parts (.obj l (.loop { r with state := .busy }) :: Lo) L' Lr ∧ R false h' Lo, fun _ _ _ _ => False⟩ l B (fun _ h' L' => ∃ Lo Lr, Parts (.obj l (.loop { r with state := .busy }) :: Lo) L' Lr ∧ R true h' Lo) NoExit S1 h (.obj l (.loop { r with state := .busy }) :: Li)) :
    Rd P l r v h Li R := fun w hw p hp => by
  rw [hpp] at hp
  cases hp
  obtain ⟨N, kA, kB⟩ := k ⟨w, (· ∈ keys (.obj l (.loop r) :: Li)), h, []⟩ rfl
  have hlt' : pp < m := by simpa using hlt
  have s0 : Sat ⟨w, (· ∈ keys (.obj l (.loop r) :: Li)), h, []⟩ m ((pp, v) :: S) h (.obj l (.loop r) :: Li) { tmps := r.tmps.setIfInBounds pp v, defers := [] } w := by
    have s1 : Sat ⟨w, (· ∈ keys (.obj l (.loop r) :: Li)), h, []⟩ m S h (.obj l (.loop r) :: Li) { tmps := r.tmps, defers := [] } w := ⟨ht.1, fun s v hv => ht.2 s v hv, rfl, hw⟩
    have := s1.put hlt v s1.ok
    simpa [Act.put] using this
  refine roundIn_of_wpIn trivial ?_
  rw [hA, hB]
  refine wpIn_mono (kA _ _ s0) (fun ex a1 w1 q => ?_)
  cases ex with
  | normal =>
    obtain ⟨S1, h1, L1, s1, rfl, rfl, hN⟩ := q
    have hl1 : w1.heap[l]? = some (.loop r) := s1.ok.own (.obj l (.loop r)) (by simp)
    refine ⟨_, run_beginRound hl1 hs, ?_⟩
    refine wpIn_mono (kB S1 hN _ _ (s1.with (s1.ok.putObj _))) (fun ex2 a2 w2 q2 => ?_)
    have fin : ∀ (b : Bool) (jump : Option Code) (h' : Part) (Lo Lr L2 : List Ent) (S2 : Sig), jump = (bif b then none else some .ret) → Sat ⟨w, (· ∈ keys (.obj l (.loop r) :: Li)), h1, []⟩ m S2 h' L2 a2 w2 → Parts (.obj l (.loop { r with state := .busy }) :: Lo) L2 Lr → R b h' Lo →
        ∃ v w', (Instr.endRound l jump).run P w2 = .ok v w' ∧ ∃ b h' Lo, Ending.returned v = .returned (.bool b) ∧ R b h' Lo ∧ Ok ⟨w, (· ∈ keys (.obj l (.loop r) :: Li)), h1, []⟩ h' (.obj l (.loop (Loop.after r b)) :: Lo) w' := by
      intro b jump h' Lo Lr L2 S2 hj s2 hp hR
      have ok2 := (s2.ok.perm hp.perm).drop (L' := .obj l (.loop { r with state := .busy }) :: Lo) (by simp)
      have hl2 : w2.heap[l]? = some (.loop { r with state := .busy }) := ok2.own (.obj l (.loop { r with state := .busy })) (by simp)
      refine ⟨_, _, run_endRound jump hl2, b, h', Lo, ?_, hR, ?_⟩
      · subst hj; cases b <;> rfl
      · have := ok2.putObj (.loop (Loop.after r b))
        subst hj
        cases b <;> exact this
    cases ex2 with
    | normal => obtain ⟨S2, h', L2, s2, Lo, Lr, hp, hR⟩ := q2; exact fin true none h' Lo Lr L2 S2 rfl s2 hp hR
    | ret => obtain ⟨S2, h', L2, s2, Lo, Lr, hp, hR⟩ := q2; exact fin false (some .ret) h' Lo Lr L2 S2 rfl s2 hp hR
    | exit i => obtain ⟨_, _, _, _, hh⟩ := q2; exact hh.1.elim
    | panic c => obtain ⟨_, _, _, _, hh⟩ := q2; exact hh.elim
    | goto i => obtain ⟨_, _, _, _, hh⟩ := q2; exact hh.elim
    | outgrown => exact q2.elim
  | ret => obtain ⟨_, _, _, _, hh⟩ := q; exact hh.elim
  | exit i => obtain ⟨_, _, _, _, hh⟩ := q; exact hh.1.elim
  | panic c => obtain ⟨_, _, _, _, hh⟩ := q; exact hh.elim
  | goto i => obtain ⟨_, _, _, _, hh⟩ := q; exact hh.elim
  | outgrown => exact q.elim
def JG (f : Fr) (c : Code) (Q : Exit → Act → World → Prop) : Post := fun S h L => ∀ a w, Sat f.e f.m S h L a w → c.wp f.P Q a w
def Fr.calm (f : Fr) : Fr := ⟨f.P, f.e, f.m, fun _ _ _ => False, fun _ _ _ _ => False⟩
def JN (f : Fr) (Q : Exit → Act → World → Prop) : Post := fun S h L => ∀ a w, Sat f.e f.m S h L a w → Q .normal a w
def JE (f : Fr) (Q : Exit → Act → World → Prop) : Post := fun S h L => ∀ a w, Sat f.e f.m S h L a w → Q .ret a w
theorem JG.seq {c d : Code} {Q : Exit → Act → World → Prop} (k : J f.calm c (JG f d Q) NoExit S h L) : JG f (.seq c d) Q S h L := fun a w s => by
  refine wp_seq (wpm (k a w s) (fun ex a' w' q => ?_))
  cases ex with
  | normal => obtain ⟨S', h', L', s', k'⟩ := q; exact k' a' w' s'
  | exit i => obtain ⟨_, _, _, _, hh⟩ := q; exact hh.1.elim
  | ret => obtain ⟨_, _, _, _, hh⟩ := q; exact hh.elim
  | panic c => obtain ⟨_, _, _, _, hh⟩ := q; exact hh.elim
  | goto i => obtain ⟨_, _, _, _, hh⟩ := q; exact hh.elim
  | outgrown => exact q.elim
def Fr.mark (f : Fr) (D : Nat) : Fr := ⟨f.P, { f.e with ds := [{ target := .collected D, args := #[] }] }, f.m, f.r, f.p⟩
def Loop.new (fn : Nat) (tmps : Array Value) (ps : Array Tmp) (A B : Code) (D : Nat) : Loop := { state := .ready, pending := none, fn := fn, tmps := tmps, params := ps, assign := A, body := B, defers := D }
theorem Ok.allocObj {e : Env} {w : World} (k : Ok e h L w) (o : Obj) : Ok e h (.obj w.heap.size o :: L) (w.alloc o) := by
  have keepOld : ∀ b, b < w.heap.size → (w.alloc o).heap[b]? = w.heap[b]? := fun b hb => Below.heap_alloc _ _ _ hb
  refine ⟨k.os, k.tape, k.output, by have := k.size; simp; omega, fun b hb hm => ?_, fun b c hc => ?_, k.le, k.fresh, fun x hx => ?_, fun b hb => ?_, ?_⟩
  · rw [keepOld b (Nat.lt_of_lt_of_le hb k.size)]; exact k.old b hb hm
  · obtain ⟨t', fr, he⟩ := k.sub b c hc
    exact ⟨t', fr, by rw [keepOld b (k.sub.lt hc)]; exact he⟩
  · cases hx with
    | head => exact World.alloc_heap_new w _
    | tail _ hx => exact Ent.keep (k.own x hx) fun b hb => keepOld b (Ent.lt (k.own x hx) hb)
  · simp only [keys, List.filterMap_cons, Ent.key, List.mem_cons] at hb
    rcases hb with rfl | hb
    · refine ⟨?_, .inl k.size⟩
      cases hh : h w.heap.size with
      | none => rfl
      | some c => have := k.sub.lt hh; omega
    · exact k.key b hb
  · simp only [keys, List.filterMap_cons, Ent.key]
    exact List.nodup_cons.2 ⟨fun hm => by have := k.klt hm; omega, k.nodup⟩
theorem Ok.dsx {e : Env} {w : World} (k : Ok e h L w) (ds : List Deferred) : Ok { e with ds := ds } h L w := ⟨k.os, k.tape, k.output, k.size, k.old, k.sub, k.le, k.fresh, k.own, k.key, k.nodup⟩
theorem JG.range {g : Operand} {pp : Tmp} {A B : Code} {gf : Nat} {lb : List Value} {Q : Exit → Act → World → Prop} (hg : ev S g = some (.func (.func gf) #[] lb.toArray)) (hF : callT f.P gf = true) (hds : f.e.ds = [])
    (k : ∀ (D l fn : Nat) (tmps : Array Value), Slots f.m S tmps → ∃ (Li Lr : List Ent) (R : Bool → Part → List Ent → Prop), Parts Li L Lr ∧
      Fn f.P gf (.func (.yield l) #[] #[] :: lb) h (.obj l (.loop (Loop.new fn tmps #[pp] A B D)) :: Li) (Rets fun _ h' Lo => ∃ b Lo', Lo = .obj l (.loop (Loop.after (Loop.new fn tmps #[pp] A B D) b)) :: Lo' ∧ R b h' Lo') ∧
      (∀ h' Lo, h.le h' → R true h' Lo → JN (f.mark D) Q S h' (.obj D (.deferred (some [])) :: (Lo ++ Lr))) ∧
      (∀ h' Lo, h.le h' → R false h' Lo → JE (f.mark D) Q S h' (.obj D (.deferred (some [])) :: (Lo ++ Lr)))) :
    JG f (.rangeFunc g #[pp] A B) Q S h L := fun a w s => by
  refine (wpIn_wide (n := 0)).1 (wpIn_rangeFunc fun fn _ => ?_)
  have hda : a.defers = [] := by rw [s.ds, hds]
  obtain ⟨Li, Lr, R, hp, hc, kt, kf⟩ := k w.heap.size (w.heap.size + 1) fn a.tmps ⟨s.size, s.slot⟩
  have ok1 := s.ok.allocObj (.deferred (some []))
  have ok2 := ok1.allocObj (.loop (Loop.new fn a.tmps #[pp] A B w.heap.size))
  rw [World.size_alloc] at ok2
  have hw2 : ∃ w2, w2 = ((w.alloc (.deferred (some []))).alloc (.loop (Loop.new fn a.tmps #[pp] A B w.heap.size))) := ⟨_, rfl⟩
  obtain ⟨w2, hw2⟩ := hw2
  rw [← hw2] at ok2
  refine ⟨w.heap.size + 1, [{ target := .collected w.heap.size, args := #[] }], w2, { target := .fn (.func gf) lb.toArray, args := #[.func (.yield (w.heap.size + 1)) #[] #[]] }, w2, gf, #[.func (.yield (w.heap.size + 1)) #[] #[]] ++ lb.toArray, w2,
    by rw [hw2]; exact run_enterLoop_outer _ _ _ _ _, ?_, fun _ _ => trivial, ?_, (fun hh => by cases hh), ?_⟩
  · simp only [resolve, s.eval hg]
    simp [go_sem, Deferred.ofValue, Sem.run_pure, Act.eval]
  · simp [invoke, run_call hF]
  · have hin : (w.heap.size + 1) = (w.heap.size + 1) := rfl
    have okp : Ok f.e h ((.obj (w.heap.size + 1) (.loop (Loop.new fn a.tmps #[pp] A B w.heap.size)) :: Li) ++ (.obj w.heap.size (.deferred (some [])) :: Lr)) w2 := by
      refine ok2.perm ?_
      have := hp.perm
      refine List.Perm.cons _ ?_
      refine (List.Perm.cons _ this).trans ?_
      exact List.perm_middle.symm
    have hcc := hc _ okp.enter
    have e0 : (#[.func (.yield (w.heap.size + 1)) #[] #[]] ++ lb.toArray : Array Value) = (.func (.yield (w.heap.size + 1)) #[] #[] :: lb).toArray := by simp
    rw [e0]
    refine callsIn_wide.2 (hcc.mono fun e w' hh => ?_)
    obtain ⟨h', Lo, ⟨v, rfl, b, Lo', rfl, hR⟩, hO⟩ := hh
    have okc := okp.call hO
    have hl : w'.heap[w.heap.size + 1]? = some (.loop (Loop.after (Loop.new fn a.tmps #[pp] A B w.heap.size) b)) := okc.own (.obj _ _) (by simp)
    have okd : Ok f.e h' (.obj w.heap.size (.deferred (some [])) :: (Lo' ++ Lr)) (w'.putObj (w.heap.size + 1) (.loop { Loop.after (Loop.new fn a.tmps #[pp] A B w.heap.size) b with state := .exhausted })) := by
      have := (okc.putObj (.loop { Loop.after (Loop.new fn a.tmps #[pp] A B w.heap.size) b with state := .exhausted })).drop (L' := Lo' ++ (.obj w.heap.size (.deferred (some [])) :: Lr)) (by simp)
      exact this.perm List.perm_middle
    have sat : Sat (f.mark w.heap.size).e (f.mark w.heap.size).m S h' (.obj w.heap.size (.deferred (some [])) :: (Lo' ++ Lr)) { a with defers := [{ target := .collected w.heap.size, args := #[] }] ++ a.defers } (w'.putObj (w.heap.size + 1) (.loop { Loop.after (Loop.new fn a.tmps #[pp] A B w.heap.size) b with state := .exhausted })) :=
      ⟨s.size, s.slot, by simp [Fr.mark, hda], okd.dsx _⟩
    refine ⟨_, _, run_endLoop hl (by cases b <;> simp [Loop.after]), ?_⟩
    cases b with
    | true =>
      exact kt h' Lo' hO.le hR _ _ sat
    | false =>
      exact wpIn_ret (kf h' Lo' hO.le hR _ _ sat)
end
section
variable {f : Fr} {S : Sig} {h : Part} {L : List Ent}
theorem JG.block {id : Nat} {c : Code} {Q : Exit → Act → World → Prop} (k : JG f c (Exit.inBlock id Q) S h L) : JG f (.block id c) Q S h L := fun a w s => wp_block (k a w s)
theorem JG.split {c d : Code} {Q : Exit → Act → World → Prop} (k : JG f c (Exit.then (fun a w => d.wp f.P Q a w) Q) S h L) : JG f (.seq c d) Q S h L := fun a w s => wp_seq (k a w s)
theorem JN.blk {id : Nat} {d : Code} {Q : Exit → Act → World → Prop} (k : JG f d Q S h L) : JN f (Exit.inBlock id (Exit.then (fun a w => d.wp f.P Q a w) Q)) S h L := fun a w s => k a w s
theorem JE.blk {id : Nat} {d : Code} {Q : Exit → Act → World → Prop} (k : JE f Q S h L) : JE f (Exit.inBlock id (Exit.then (fun a w => d.wp f.P Q a w) Q)) S h L := fun a w s => k a w s
end
def EndM (w0 : World) (h : Part) (Li : List Ent) (R : Ending → Part → List Ent → Prop) : Ending → World → Prop := fun e w' => ∃ h' Lo, R e h' Lo ∧ Ok ⟨w0, (· ∈ keys Li), h, []⟩ h' Lo w'
def EnvM (w0 : World) (h : Part) (Li : List Ent) (D : Nat) : Env := ⟨w0, (· ∈ keys Li), h, [{ target := .collected D, args := #[] }]⟩
def RetD (P : Program) (w0 : World) (h : Part) (Li : List Ent) (D m : Nat) (fn : Func) (R : Ending → Part → List Ent → Prop) : Post := fun S h' L' => ∃ L1 v Lo Lr, Del (.obj D (.deferred (some []))) L' L1 ∧ RetV P (EnvM w0 h Li D) m fn S h' (.obj D (.deferred none) :: L1) v ∧ Parts Lo L1 Lr ∧ R (.returned v) h' Lo
theorem Fn.introM {P : Program} {F m : Nat} {fn : Func} {c : Code} {args : List Value} {h : Part} {Li : List Ent} {R : Ending → Part → List Ent → Prop} (hf : P.funcs[F]? = some fn) (hb : fn.body = some c) (hm : fn.ntmps = m) (hl : Nat.ble args.length m = true)
    (k : ∀ w0, JG ⟨P, ⟨w0, (· ∈ keys Li), h, []⟩, m, fun _ _ _ => False, fun _ _ _ _ => False⟩ c (bodyPostM Fence.wide 0 P fn (EndM w0 h Li R)) (argSig 0 args) h Li) : Fn P F args h Li R := fun w hw => by
  have hl' : args.length ≤ m := by simpa using hl
  have hs : Sat ⟨w, (· ∈ keys Li), h, []⟩ m (argSig 0 args) h Li ⟨args.toArray ++ Array.replicate (fn.ntmps - args.toArray.size) undef, []⟩ w := by
    refine ⟨by simp [hm]; omega, fun s v hv => ?_, rfl, hw⟩
    obtain ⟨_, h2⟩ := argSig_look _ _ _ _ hv
    have hlt := (List.getElem?_eq_some_iff.1 h2).1
    simp only [Nat.sub_zero] at h2 hlt
    rw [Array.getElem?_append_left (by simpa using hlt)]
    simpa using h2
  exact (callsIn_wide (n := 0)).1 (callsIn_of_wp_marks hf hb trivial (wpIn_wide.2 (k w _ w hs)))
theorem RetD.end_ {P : Program} {w0 : World} {h : Part} {Li : List Ent} {D m : Nat} {fn : Func} {R : Ending → Part → List Ent → Prop} {a' : Act} {w' : World} :
    (∃ S h' L', Sat (EnvM w0 h Li D) m S h' L' a' w' ∧ RetD P w0 h Li D m fn R S h' L') → LeavesInM Fence.wide 0 P fn a'.tmps (EndM w0 h Li R) a'.defers .returning w' := by
  rintro ⟨S, h', L', s', L1, v, Lo, Lr, u, hv, hp, hR⟩
  have hd : a'.defers = [{ target := .collected D, args := #[] }] := s'.ds
  rw [hd]
  have okp := s'.ok.perm u.perm
  have hK : w'.heap[D]? = some (.deferred (some [])) := okp.own (.obj D _) (by simp)
  have ok2 := okp.putObj (.deferred none)
  refine ⟨by simp, .inl ⟨D, _, rfl, run_takeDeferred hK, v, hv _ _ (s'.with ok2), h', Lo, hR, ?_⟩⟩
  exact hp.ok _ ((ok2.drop (L' := L1) (by simp)).dsx [])
theorem JE.of {P : Program} {w0 : World} {h h1 : Part} {Li L : List Ent} {D m : Nat} {fn : Func} {R : Ending → Part → List Ent → Prop} {S : Sig} {r : Post} {p : List PanicEntry → Post} (k : RetD P w0 h Li D m fn R S h1 L) :
    JE (Fr.mark ⟨P, ⟨w0, (· ∈ keys Li), h, []⟩, m, r, p⟩ D) (bodyPostM Fence.wide 0 P fn (EndM w0 h Li R)) S h1 L := fun a w s => RetD.end_ ⟨S, h1, L, s, k⟩
theorem JG.ofJ {P : Program} {w0 : World} {h h1 : Part} {Li L : List Ent} {D m : Nat} {fn : Func} {c : Code} {R : Ending → Part → List Ent → Prop} {S : Sig} {r : Post} {p : List PanicEntry → Post}
    (k : J ⟨P, EnvM w0 h Li D, m, RetD P w0 h Li D m fn R, fun _ _ _ _ => False⟩ c (RetD P w0 h Li D m fn R) NoExit S h1 L) :
    JG (Fr.mark ⟨P, ⟨w0, (· ∈ keys Li), h, []⟩, m, r, p⟩ D) c (bodyPostM Fence.wide 0 P fn (EndM w0 h Li R)) S h1 L := fun a w s => by
  refine wpm (k a w s) (fun ex a' w' q => ?_)
  cases ex with
  | normal => exact RetD.end_ q
  | ret => exact RetD.end_ q
  | panic c => obtain ⟨_, _, _, _, hh⟩ := q; exact hh.elim
  | exit i => obtain ⟨_, _, _, _, hh⟩ := q; exact hh.1.elim
  | goto l => obtain ⟨_, _, _, _, hh⟩ := q; exact hh.elim
  | outgrown => exact False.elim q
theorem loadVar1 {P : Program} {e : Env} {h : Part} {L : List Ent} {w : World} {b T t : Nat} {v : Value} (hk : Ok e h L w) (hT : aggT P T = some none) (hm : Ent.blk b t [v] ∈ L) : (loadVar T ⟨b, 0, none⟩).run P w = .ok v w := by
  have hb : w.heap[b]? = some (.cells [v].toArray t (0, 0)) := hk.own _ hm
  have hc : w.cell? ⟨b, 0, none⟩ = some v := by rw [cell_of_row w b 0 _ t _ hb]; rfl
  simp [loadVar, (aggT_one hT w).1, load, Sem.run, hc]
theorem RetV.cellv2 {P : Program} {e : Env} {m : Nat} {fn : Func} {S : Sig} {h : Part} {L : List Ent} {t T b bt t' T' b' bt' : Nat} {v v' : Value} (hr : fn.results = #[.cell t T, .cell t' T']) (hv : look S t = some (.pointer (some ⟨b, 0, none⟩))) (hT : aggT P T = some none) (hm : Ent.blk b bt [v] ∈ L)
    (hv' : look S t' = some (.pointer (some ⟨b', 0, none⟩))) (hT' : aggT P T' = some none) (hm' : Ent.blk b' bt' [v'] ∈ L) : RetV P e m fn S h L (.tuple #[v, v']) := fun a w s => by
  simp [results, hr, s.slot t _ hv, s.slot t' _ hv', asAddr, loadVar1 s.ok hT hm, loadVar1 s.ok hT' hm']
end Go.Proofs.YtmngjbefnloljaaGreatDoor
namespace Go.Proofs.YtmngjbefnloljaaGreatDoor
open Go Go.RowKit
theorem z3_ {p : Prop} (u : p := by repeat (first | exact trivial | refine ⟨rfl, ?_⟩ | refine ⟨(by exact some_bool (by first | exact decide_eq_decide.2 (by omega) | exact (decide_eq_true (by omega)).symm | exact (decide_eq_false (by omega)).symm)), ?_⟩)) : p := u
theorem z35_ {p : Prop} (u : p := by repeat (first | exact trivial | refine ⟨rfl, ?_⟩ | refine ⟨(by exact some_bool (by first | exact decide_eq_decide.2 (by simp only [← List.length_eq_zero_iff] at *; omega) | exact (decide_eq_true (by simp only [← List.length_eq_zero_iff] at *; omega)).symm | exact (decide_eq_false (by simp only [← List.length_eq_zero_iff] at *; omega)).symm)), ?_⟩)) : p := u
end Go.Proofs.YtmngjbefnloljaaGreatDoor
namespace Go.Proofs.YtmngjbefnloljaaGreatDoor
open Go Go.RowKit
set_option maxRecDepth 100000
theorem cv_21_63 : convI Tryz.prog 21 63 = some .u64 := by kernel_rfl
theorem onumber_fn {s : List UInt8} {h : Part} (hs : s.length ≤ 140737488355328) : Pure Tryz.prog 114 [.string ⟨s.toArray⟩] h (.tuple #[.int .u64 ((numP s).1 : Nat), .bool (numP s).2]) := by
  have hcl := chr_le
  refine Fn.intro Tryz.func114 rfl Tryz.ntmps114 rfl (fun e he => ?_)
  refine J.weak [(0, _)] ⟨rfl, trivial⟩ ?_
  refine Sr ?_
  refine Ru 2 rfl ?_
  refine JL.nil ?_
  refine J.seq ?_
  refine J.seq ?_
  refine J.meet [(18, .bool (decide (s.length = 0 ∨ 1 < s.length ∧ byteAt s 0 = 48)))] [(3, _), (2, _), (0, _)] ⟨rfl, rfl, rfl, trivial⟩ ?_ ?_
  ·
   refine Rg ?_
   refine Ru 1 rfl ?_
   refine JL.op (RunV.eqlS rfl rfl) rfl ?_
   refine Ru 1 rfl ?_
   refine Bs 9 rfl (fun hc1 => ?_) fun hc1 => ?_
   ·
    refine Ru 9 rfl ?_
    refine JL.nil ?_
    refine ⟨rfl, rfl, ?_⟩
    exact z35_
   refine Ru 1 rfl ?_
   refine JL.opg rfl rfl  (RunV.lenS un_9 rfl) rfl ?_
   refine Ru 2 rfl ?_
   refine Bs 13 rfl (fun hc2 => ?_) fun hc2 => ?_
   ·
    refine Ru 1 rfl ?_
    refine JL.opg rfl rfl  (RunV.strIndex un_9 rfl rfl (show _ = ((0 : Nat) : Int) from rfl) (by omega)) rfl ?_
    refine Ru 3 rfl ?_
    refine JL.nil ?_
    refine ⟨rfl, rfl, ?_⟩
    exact z35_
   refine Ru 5 rfl ?_
   refine JL.nil ?_
   refine ⟨rfl, rfl, ?_⟩
   exact z35_
  refine Cs rfl (fun hc3 => ?_) fun hc3 => ?_
  ·
   have hnb := numP_bad hc3
   refine Sr ?_
   refine Ru 2 rfl ?_
   refine JL.nil ?_
   exact J.retP (u := .tuple #[.int .u64 0, .bool false]) (RetV.two rfl rfl rfl) (by rw [hnb]; rfl) rfl
  refine J.skip ?_
  refine Sr ?_
  refine Ru 1 rfl ?_
  refine JL.nil ?_
  refine J.seq ?_
  refine Sr ?_
  refine Ru 1 rfl ?_
  refine JL.range un_9 rfl rfl (fun b4 => ?_)
  refine JL.nil ?_
  refine J.block ?_
  refine J.loop (fun t_ S_ h_ L_ => ∃ (p : Nat), t_ = s.length - p ∧ S_ = [(0, .string ⟨s.toArray⟩), (4, .int .u64 (numV (s.take p) : Nat)), (20, .pointer (some ⟨b4, 0, none⟩))] ∧ h = h_ ∧ L_ = [.it b4 s p] ∧ (p ≤ s.length ∧ (s.take p).all dig = true ∧ numV (s.take p) < 9223372036854775808)) ⟨_, _, ?_, ⟨0, rfl, rfl, rfl, rfl, ⟨by omega, by simp, by simp [numV]⟩⟩⟩ ?_
  ·
   repeat (first | exact trivial | refine ⟨rfl, ?_⟩ | refine ⟨(by first | exact some_int (by omega) | (rw [hcb.2])), ?_⟩)
  rintro _ _ _ _ ⟨p, rfl, rfl, rfl, rfl, hp, hd, hv⟩
  have hw := wid_pos (s.drop p); have hch := chr_le (s.drop p)
  refine Sr ?_
  refine JL.next rfl dl_ rfl (fun hx5 => ?_) (fun hx5 => ?_)
  ·
   refine Ru 1 rfl ?_
   refine JL.nil ?_
   refine J.seq ?_
   refine J.cond_t rfl ?_
   refine J.skip ?_
   refine J.block ?_
   refine Sr ?_
   refine Ru 2 rfl ?_
   refine JL.nil ?_
   refine J.seq ?_
   refine J.seq ?_
   refine J.meet [(38, .bool (decide (¬ (48 ≤ chr (s.drop p) ∧ chr (s.drop p) ≤ 57) ∨ (9223372036854775807 - (chr (s.drop p) - 48)) / 10 < numV (s.take p))))] [(6, _), (23, _), (22, _), (21, _), (0, _), (4, _), (20, _)] ⟨rfl, rfl, rfl, rfl, rfl, rfl, rfl, trivial⟩ ?_ ?_
   ·
    refine Rg ?_
    refine Ru 3 rfl ?_
    refine Bs 26 rfl (fun hc6 => ?_) fun hc6 => ?_
    ·
     refine Ru 12 rfl ?_
     refine JL.nil ?_
     refine ⟨rfl, rfl, ?_⟩
     exact z3_
    refine Ru 4 rfl ?_
    refine Bs 30 rfl (fun hc7 => ?_) fun hc7 => ?_
    ·
     refine Ru 8 rfl ?_
     refine JL.nil ?_
     refine ⟨rfl, rfl, ?_⟩
     exact z3_
    refine Ru 2 rfl ?_
    refine JL.opg rfl rfl  (by first | exact RunV.sub_i32 rfl rfl (by omega) (by omega) | exact RunV.sub rfl rfl) rfl ?_
    refine JL.opg rfl rfl  (by first | exact RunV.conv_u64 cv_21_63 rfl (by omega) (by omega) | exact RunV.conv cv_21_63 rfl) rfl ?_
    refine JL.opg rfl rfl  z50_ rfl ?_
    refine JL.opg rfl rfl  z29_ rfl ?_
    refine Ru 2 rfl ?_
    refine JL.nil ?_
    refine ⟨rfl, rfl, ?_⟩
    exact z3_
   refine Cs rfl (fun hc8 => ?_) fun hc8 => ?_
   ·
    have hfin : numP s = (0, false) := (by have hcd := chr_dig s p (by omega); rcases hc8 with hq | hq; exact numP_not (by omega) (fun hh => hq (hcd.1.2 hh)); by_cases hw2 : 48 ≤ chr (s.drop p) ∧ chr (s.drop p) ≤ 57; exact numP_big (p := p) (by omega) (by have := (hcd.2 hw2).1; omega); exact numP_not (by omega) (fun hh => hw2 (hcd.1.2 hh)))
    refine Sr ?_
    refine Ru 2 rfl ?_
    refine JL.nil ?_
    first | exact J.retP (u := .tuple #[.int .u64 0, .bool false]) (RetV.two rfl rfl rfl) (by rw [hfin]; rfl) rfl | (have hpe : s.take p = s := List.take_of_length_le (by omega); have hfin : numP s = (numV s, true) := numP_end (by assumption) (by rw [← hpe]; exact hd) (by rw [← hpe]; exact hv); rw [hpe]; exact J.retP (u := .tuple #[.int .u64 (numV s : Nat), .bool true]) (RetV.two rfl rfl rfl) (by rw [hfin]) rfl)
   have hdg : 48 ≤ chr (s.drop p) ∧ chr (s.drop p) ≤ 57 := (by omega); have hcd := chr_dig s p (by omega); have hcb := hcd.2 hdg; have hbd := hcd.1.1 hdg; have hst := numV_take1 s p (by omega); have hal := all_take1 s p (by omega)
   refine J.skip ?_
   refine Rg ?_
   refine Ru 1 rfl ?_
   refine JL.op z33_ rfl ?_
   refine Ru 1 rfl ?_
   refine JL.op (by first | exact RunV.sub_i32 rfl rfl (by omega) (by omega) | exact RunV.sub rfl rfl) rfl ?_
   refine JL.op (by first | exact RunV.conv_u64 cv_21_63 rfl (by omega) (by omega) | exact RunV.conv cv_21_63 rfl) rfl ?_
   refine JL.op z28_ rfl ?_
   refine Ru 1 rfl ?_
   refine JL.nil ?_
   rw [hcb.2]
   refine ⟨_, ?_, _, ?_, ⟨p + 1, rfl, rfl, rfl, rfl, ⟨by omega, by rw [hal, hd, decide_eq_true hbd]; rfl, by omega⟩⟩⟩
   ·
    omega
   repeat (first | exact trivial | refine ⟨rfl, ?_⟩ | refine ⟨(by first | exact some_int (by omega) | (rw [hcb.2])), ?_⟩)
  refine Ru 1 rfl ?_
  refine JL.nil ?_
  refine J.seq ?_
  refine J.cond_f rfl ?_
  refine J.exit ?_
  refine Sr ?_
  refine Ru 3 rfl ?_
  refine Nk [3, 2] rfl ?_
  first | exact J.retP (u := .tuple #[.int .u64 0, .bool false]) (RetV.two rfl rfl rfl) (by rw [hfin]; rfl) rfl | (have hpe : s.take p = s := List.take_of_length_le (by omega); have hfin : numP s = (numV s, true) := numP_end (by assumption) (by rw [← hpe]; exact hd) (by rw [← hpe]; exact hv); rw [hpe]; exact J.retP (u := .tuple #[.int .u64 (numV s : Nat), .bool true]) (RetV.two rfl rfl rfl) (by rw [hfin]) rfl)
theorem shr_cast7 (n j : Nat) (e : Int) (he : e = 7 * (j : Int)) : (n : Int) / 2 ^ e.toNat = ((n / 128 ^ j : Nat) : Int) := by
  subst he
  have h1 : (7 * (j : Int)).toNat = 7 * j := by omega
  have h2 : (128 : Nat) ^ j = 2 ^ (7 * j) := by rw [Nat.pow_mul]
  rw [h1, h2]
  simp
set_option maxRecDepth 100000 in
theorem or128_ : ∀ m : Fin 256, bits .or .u8 (m.val : Int) 128 = ((UInt8.ofNat (m.val % 128 + 128)).toNat : Int) := by decide
theorem RunV.or128 {f : Fr} {S : Sig} {h : Part} {L : List Ent} {ty T yt : TypeId} {x y : Operand} (m : Nat) (hx : ev S x = some (.int .u8 ((UInt8.ofNat m).toNat : Int))) (hy : ev S y = some (.int .u8 128)) : RunV f S h L (.binOp .or T x y yt) ty (.int .u8 ((UInt8.ofNat (m % 128 + 128)).toNat : Int)) := by
  have := RunV.or_ (f := f) (h := h) (L := L) (ty := ty) (T := T) (yt := yt) hx hy
  have e := or128_ ⟨(UInt8.ofNat m).toNat, (UInt8.ofNat m).toNat_lt⟩
  simp only at e
  rw [e] at this
  have e2 : (UInt8.ofNat m).toNat % 128 = m % 128 := by rw [UInt8.toNat_ofNat']; omega
  rw [e2] at this
  exact this
theorem RunV.and127 {f : Fr} {S : Sig} {h : Part} {L : List Ent} {ty T yt : TypeId} {x y : Operand} (m : Nat) (hx : ev S x = some (.int .u8 ((UInt8.ofNat m).toNat : Int))) (hy : ev S y = some (.int .u8 127)) : RunV f S h L (.binOp .and T x y yt) ty (.int .u8 ((UInt8.ofNat (m % 128)).toNat : Int)) := by
  have := RunV.maskb_u8 (f := f) (h := h) (L := L) (ty := ty) (T := T) (yt := yt) 7 128 hx hy (by decide) (by decide) (by decide)
  have e2 : ((UInt8.ofNat m).toNat : Int) % 128 = ((UInt8.ofNat (m % 128)).toNat : Int) := by rw [UInt8.toNat_ofNat', UInt8.toNat_ofNat']; omega
  rw [e2] at this
  exact this
theorem oput_fn {a : Option Addr} {c : Nat} {l : List UInt8} {n : Nat} {h : Part} (hn : n < 9223372036854775808) (hb : l.length ≤ 70368744177664) :
    Fn Tryz.prog 115 [.slice a l.length c, .int .u64 n] h [.row a c 5 1 l.length (u8s l)]
      (Rets fun v _ Lo => ∃ a' c', v = .slice a' (l ++ b128 n).length c' ∧ Lo = [.row a' c' 5 1 (l ++ b128 n).length (u8s (l ++ b128 n))]) := by
  have hp0 : ∀ k, n / 128 ^ (k + 1) = n / 128 ^ k / 128 := fun k => by rw [Nat.div_div_eq_div_mul, Nat.pow_succ]
  have hp9 : ∀ k, 9 ≤ k → n / 128 ^ k = 0 := fun k hk => by
    refine Nat.div_eq_of_lt (Nat.lt_of_lt_of_le (show n < 128 ^ 9 by simp only [Nat.reducePow]; omega) (Nat.pow_le_pow_right (by decide) hk))
  refine Fn.intro Tryz.func115 rfl Tryz.ntmps115 rfl (fun e he => ?_)
  refine J.weak [(0, _), (1, _)] ⟨rfl, rfl, trivial⟩ ?_
  refine Sr ?_
  refine Ru 1 rfl ?_
  refine JL.nil ?_
  refine Sr ?_
  refine Ru 1 rfl ?_
  refine JL.nil ?_
  refine J.seq ?_
  refine Sr ?_
  refine Ru 1 rfl ?_
  refine JL.op (RunV.shr_u64 128 rfl rfl (by decide) (by decide) (by decide)) rfl ?_
  refine Ru 1 rfl ?_
  refine JL.nil ?_
  refine J.block ?_
  refine J.loop (fun t_ S_ h_ L_ => ∃ (k : Nat), t_ = 10 - k ∧ S_ = [(0, .slice a l.length c), (1, .int .u64 n), (5, .int .i64 k), (6, .int .u64 (n / 128 ^ (k + 1) : Nat))] ∧ h = h_ ∧ L_ = [.row a c 5 1 l.length (u8s l)] ∧ (k ≤ 9 ∧ (k = 0 ∨ n / 128 ^ k ≠ 0))) ⟨_, _, ?_, ⟨0, rfl, rfl, rfl, rfl, ⟨by omega, .inl rfl⟩⟩⟩ ?_
  ·
   exact z4_
  rintro _ _ _ _ ⟨k, rfl, rfl, rfl, rfl, hk, hk0⟩
  have hq := hp0 (k + 1); have hq9 := hp9 (k + 1)
  refine J.seq ?_
  refine Sr ?_
  refine Ru 2 rfl ?_
  refine JL.nil ?_
  refine Cs rfl (fun hc1 => ?_) fun hc1 => ?_
  ·
   refine J.skip ?_
   refine J.seq ?_
   refine J.block ?_
   refine Rg ?_
   refine Ru 1 rfl ?_
   refine JL.op ai_ rfl ?_
   refine Ru 1 rfl ?_
   refine JL.nil ?_
   refine Rg ?_
   refine Ru 1 rfl ?_
   refine JL.op (RunV.shr_u64 128 rfl rfl (by decide) (by decide) (by decide)) rfl ?_
   refine Ru 1 rfl ?_
   refine JL.nil ?_
   refine ⟨_, ?_, _, ?_, ⟨k + 1, rfl, rfl, rfl, rfl, ⟨by omega, .inr (by omega)⟩⟩⟩
   ·
    omega
   exact z4_
  have hz0 : n / 128 ^ (k + 1) = 0 := Nat.eq_zero_of_not_pos (fun hh => hc1 (Int.natCast_pos.2 hh))
  refine J.exit ?_
  refine J.seq ?_
  refine J.block ?_
  refine J.loop (fun t_ S_ h_ L_ => ∃ (j : Nat) (out : List UInt8) (a9 : Option Addr) (q : Nat), t_ = j + 1 ∧ S_ = [(0, .slice a9 out.length q), (1, .int .u64 n), (5, .int .i64 j)] ∧ h = h_ ∧ L_ = [.row a9 q 5 1 out.length (u8s out)] ∧ (j ≤ 9 ∧ (j = 0 ∨ n / 128 ^ j ≠ 0) ∧ out.length ≤ l.length + 10 - j ∧ out = l ++ hiB (n / 128 ^ (j + 1)))) ⟨_, _, ?_, ⟨k, _, _, _, rfl, rfl, rfl, rfl, ⟨by omega, by assumption, by omega, by rw [hz0, hiB_zero, List.append_nil]⟩⟩⟩ ?_
  ·
   repeat (first | exact trivial | refine ⟨rfl, ?_⟩ | refine ⟨(by exact some_i64 (by omega)), ?_⟩)
  rintro _ _ _ _ ⟨j, out, a9, q, rfl, rfl, rfl, rfl, hj, hj0, hol, he⟩
  refine J.seq ?_
  refine Sr ?_
  refine Ru 2 rfl ?_
  refine JL.nil ?_
  refine Cs rfl (fun hc2 => ?_) fun hc2 => ?_
  ·
   obtain ⟨i, rfl⟩ : ∃ i, j = i + 1 := ⟨j - 1, by omega⟩; have hst := hiB_k n (i + 1) hn (by omega); have hq := hp0 i
   refine J.skip ?_
   refine J.seq ?_
   refine J.block ?_
   refine Rg ?_
   refine Ru 3 rfl ?_
   refine JL.op z16_ rfl ?_
   refine JL.op (RunV.shr rfl rfl (by omega) (by show _ ≤ ((64 : Nat) : Int); omega)) rfl ?_
   refine JL.op (RunV.toByte (n / 128 ^ (i + 1)) cv_63_5 rfl (shr_cast7 n (i + 1) _ (by omega))) rfl ?_
   refine JL.op (RunV.or128 (n / 128 ^ (i + 1)) rfl rfl) rfl ?_
   refine JL.lit1 ap_22 zr_5 rfl rfl rfl rfl rfl (fun b3 => ?_)
   refine JL.append1 ap_22 rfl rfl CellsR.of_u8 rfl dl_ dl_ rfl (rfl) z5_ rfl rfl (fun a4 c4 xs4 hC4 hN4 => ?_)
   obtain rfl := hC4.u8
   refine Ru 1 rfl ?_
   refine JL.nil ?_
   refine Rg ?_
   refine Ru 1 rfl ?_
   refine JL.op si_ rfl ?_
   refine Ru 1 rfl ?_
   refine JL.nil ?_
   refine ⟨_, ?_, _, ?_, ⟨i, _, _, _, rfl, rfl, rfl, rfl, ⟨by omega, by omega, by simp; omega, by rw [hst, ← List.append_assoc, ← he]⟩⟩⟩
   ·
    omega
   repeat (first | exact trivial | refine ⟨rfl, ?_⟩ | refine ⟨(by exact some_i64 (by omega)), ?_⟩)
  have hj0 : j = 0 := (by omega); subst hj0
  refine J.exit ?_
  refine Sr ?_
  refine Ru 2 rfl ?_
  refine JL.op (RunV.toByte n cv_63_5 rfl rfl) rfl ?_
  refine JL.op (RunV.and127 n rfl rfl) rfl ?_
  refine JL.lit1 ap_22 zr_5 rfl rfl rfl rfl rfl (fun b5 => ?_)
  refine JL.append1 ap_22 rfl rfl CellsR.of_u8 rfl dl_ dl_ rfl (rfl) z5_ rfl rfl (fun a6 c6 xs6 hC6 hN6 => ?_)
  obtain rfl := hC6.u8
  refine Ru 1 rfl ?_
  refine Nk [4] rfl ?_
  rw [b128_eq, ← List.append_assoc, ← he]; exact J.ret ⟨_, [_], _, (RetV.one rfl rfl), .cons .here .nil, _, rfl, _, _, rfl, rfl⟩
theorem sindex_fn {s : List UInt8} {h : Part} : Pure Tryz.prog 167 [.string ⟨s.toArray⟩, .string ⟨#[46]⟩] h (.int .i64 (Go.Lib.indexByte s 46)) :=
  Pure.lib fun w hw => (Tryz.strings_Index_one ⟨s.toArray⟩ 46 w).mono fun e w' ⟨he, hb⟩ => by
    subst hb
    exact ⟨he, Below.refl _ _⟩
end Go.Proofs.YtmngjbefnloljaaGreatDoor
namespace Go.Proofs.YtmngjbefnloljaaGreatDoor
open Go Go.RowKit
set_option maxRecDepth 100000
theorem ag_9 : aggT Tryz.prog 9 = some none := by kernel_rfl
theorem ca_146 : callT Tryz.prog 146 = true := by kernel_rfl
theorem ca_167 : callT Tryz.prog 167 = true := by kernel_rfl
theorem splitseq_fn {s sep : List UInt8} {k : Int} {h : Part} : Fn Tryz.prog 146 [.string ⟨s.toArray⟩, .string ⟨sep.toArray⟩, .int .i64 k] h [] (Rets fun v h' Lo => h' = h ∧ ∃ b1 b2 b3, v = .func (.func 165) #[] #[.pointer (some ⟨b2, 0, none⟩), .pointer (some ⟨b1, 0, none⟩), .pointer (some ⟨b3, 0, none⟩)] ∧
    Lo = [.blk b3 3 [.int .i64 k], .blk b2 9 [.string ⟨sep.toArray⟩], .blk b1 9 [.string ⟨s.toArray⟩]]) := by
  refine Fn.intro Tryz.func146 rfl Tryz.ntmps146 rfl (fun e he => ?_)
  refine J.weak [(0, _), (1, _), (2, _)] ⟨rfl, rfl, rfl, trivial⟩ ?_
  refine Sr ?_
  refine JL.box rfl rfl rfl (fun b1 => ?_)
  refine JL.box rfl rfl rfl (fun b2 => ?_)
  refine JL.box rfl rfl rfl (fun b3 => ?_)
  refine Ru 1 rfl ?_
  refine JL.nil ?_
  refine Sr ?_
  refine JL.op (RunV.makeFunc (os1 := []) rfl rfl) rfl ?_
  refine Ru 1 rfl ?_
  refine Nk [6] rfl ?_
  exact J.ret ⟨_, [_, _, _], _, (RetV.one rfl rfl), .cons .here (.cons .here (.cons .here .nil)), _, rfl, rfl, _, _, _, rfl, rfl⟩
theorem SplitSeq_fn {s sep : List UInt8} {h : Part} : Fn Tryz.prog 113 [.string ⟨s.toArray⟩, .string ⟨sep.toArray⟩] h [] (Rets fun v h' Lo => h' = h ∧ ∃ b1 b2 b3, v = .func (.func 165) #[] #[.pointer (some ⟨b2, 0, none⟩), .pointer (some ⟨b1, 0, none⟩), .pointer (some ⟨b3, 0, none⟩)] ∧
    Lo = [.blk b3 3 [.int .i64 0], .blk b2 9 [.string ⟨sep.toArray⟩], .blk b1 9 [.string ⟨s.toArray⟩]]) := by
  refine Fn.intro Tryz.func113 rfl Tryz.ntmps113 rfl (fun e he => ?_)
  refine J.weak [(0, _), (1, _)] ⟨rfl, rfl, trivial⟩ ?_
  refine Sr ?_
  refine Ru 1 rfl ?_
  refine JL.nil ?_
  refine Sr ?_
  refine Ru 2 rfl ?_
  refine JL.call ca_146 rfl (splitseq_fn) pt_ rfl ?_
  rintro _ h1 Lo1 hle1 ⟨rfl, b1, b2, b3, rfl, rfl⟩
  refine Ru 1 rfl ?_
  refine Nk [4] rfl ?_
  exact J.ret ⟨_, [_, _, _], _, (RetV.one rfl rfl), .cons .here (.cons .here (.cons .here .nil)), _, rfl, rfl, _, _, _, rfl, rfl⟩
def OI (b2 b3 b4 : Nat) (us : List UInt64) (L : List Ent) : Prop := ∃ a c xs, (∀ h, CellsR u64R 1 h xs us) ∧ L = [.blk b4 66 [.slice a us.length c], .row a c 63 1 us.length xs, .blk b2 22 [.slice none 0 0], .blk b3 24 [.int .i64 0]]
def OBad (b2 b3 : Nat) (L : List Ent) : Prop := L = [.blk b2 22 [.slice none 0 0], .blk b3 24 [.int .i64 20]]
def PR (b2 b3 b4 : Nat) (us : List UInt64) (s : List UInt8) (h : Part) (b : Bool) (h' : Part) (L : List Ent) : Prop :=
  (b = true ∧ h' = h ∧ ∃ v : UInt64, numB s = some v.toNat ∧ OI b2 b3 b4 (us ++ [v]) L) ∨ (b = false ∧ h' = h ∧ numB s = none ∧ OBad b2 b3 L)
theorem Parts.app : ∀ (A B : List Ent), Parts A (A ++ B) B
  | [], _ => .nil
  | _ :: A, B => .cons .here (Parts.app A B)
theorem after_true {r : Loop} (h1 : r.state = .ready) (h2 : r.pending = none) : Loop.after r true = r := by
  cases r; simp only at h1 h2; subst h1 h2; rfl
def ER (b2 b3 b4 : Nat) (s : List UInt8) (h : Part) (b : Bool) (h' : Part) (L : List Ent) : Prop :=
  (b = true ∧ h' = h ∧ ∃ us : List UInt64, numsGo s [] = some (us.map (·.toNat)) ∧ us.length ≤ s.length + 1 ∧ OI b2 b3 b4 us L) ∨ (b = false ∧ h' = h ∧ numsGo s [] = none ∧ OBad b2 b3 L)
theorem iter_fn {l b2 b3 b4 b5 b6 b7 p0 : Nat} {r : Loop} {s : List UInt8} {h : Part} (hp : r.params = #[p0]) (hst : r.state = .ready) (hpe : r.pending = none) (hs : s.length ≤ 1000000)
    (hrd : ∀ (us : List UInt64) (t : List UInt8) (a : Option Addr) (c : Nat) (xs : List Value), us.length ≤ 1000001 → t.length ≤ 1000000 → (∀ h, CellsR u64R 1 h xs us) →
      Rd Tryz.prog l r (.string ⟨t.toArray⟩) h [.blk b4 66 [.slice a us.length c], .row a c 63 1 us.length xs, .blk b2 22 [.slice none 0 0], .blk b3 24 [.int .i64 0]] (PR b2 b3 b4 us t h)) :
    Fn Tryz.prog 165 [.func (.yield l) #[] #[], .pointer (some ⟨b6, 0, none⟩), .pointer (some ⟨b5, 0, none⟩), .pointer (some ⟨b7, 0, none⟩)] h
      (.obj l (.loop r) :: [.blk b7 3 [.int .i64 0], .blk b6 9 [.string ⟨[46].toArray⟩], .blk b5 9 [.string ⟨s.toArray⟩], .blk b4 66 [.slice none 0 0], .row none 0 63 1 0 [], .blk b2 22 [.slice none 0 0], .blk b3 24 [.int .i64 0]])
      (Rets fun _ h' Lo => ∃ b Lo', Lo = .obj l (.loop (Loop.after r b)) :: Lo' ∧ ER b2 b3 b4 s h b h' Lo') := by
  have hm := Go.Lib.indexByte_ge
  refine Fn.intro Tryz.func165 rfl Tryz.ntmps165 rfl (fun e he => ?_)
  refine J.weak [(0, _), (1, _), (2, _), (3, _)] ⟨rfl, rfl, rfl, rfl, trivial⟩ ?_
  refine J.seq ?_
  refine Sr ?_
  refine JL.op (RunV.own1 ag_9 rfl mm_ rfl) rfl ?_
  refine JL.op (RunV.lenS un_9 rfl) rfl ?_
  refine Ru 1 rfl ?_
  refine JL.nil ?_
  refine Cs rfl (fun hc1 => ?_) fun hc1 => ?_
  ·
   exfalso; simp at hc1
  refine J.skip ?_
  refine J.seq ?_
  refine J.block ?_
  refine J.loop (fun t_ S_ h_ L_ => ∃ (us : List UInt64) (rest : List UInt8) (a : Option Addr) (c : Nat) (xs : List Value), t_ = rest.length + 1 ∧ S_ = [(0, .func (.yield l) #[] #[]), (1, .pointer (some ⟨b6, 0, none⟩)), (2, .pointer (some ⟨b5, 0, none⟩)), (3, .pointer (some ⟨b7, 0, none⟩))] ∧ h = h_ ∧ L_ = .obj l (.loop r) :: [.blk b7 3 [.int .i64 0], .blk b6 9 [.string ⟨[46].toArray⟩], .blk b5 9 [.string ⟨rest.toArray⟩], .blk b4 66 [.slice a us.length c], .row a c 63 1 us.length xs, .blk b2 22 [.slice none 0 0], .blk b3 24 [.int .i64 0]] ∧ ((∀ h, CellsR u64R 1 h xs us) ∧ numsGo s [] = (numsGo rest []).map (us.map (·.toNat) ++ ·) ∧ us.length + rest.length ≤ s.length)) ⟨_, _, ?_, ⟨[], s, none, 0, [], rfl, rfl, rfl, rfl, ⟨fun _ => CellsR.nil, by simp, by simp⟩⟩⟩ ?_
  ·
   exact z7_
  rintro _ _ _ _ ⟨us, rest, a, c, xs, rfl, rfl, rfl, rfl, hxs, hng, hul⟩
  have hds := dot_spec rest; have hmr := hm rest 46
  refine J.block ?_
  refine Sr ?_
  refine JL.op (RunV.own1 ag_9 rfl mm_ rfl) rfl ?_
  refine JL.op (RunV.own1 ag_9 rfl mm_ rfl) rfl ?_
  refine JL.callP ca_167 rfl (sindex_fn) rfl ?_
  refine Ru 1 rfl ?_
  refine JL.nil ?_
  refine J.seq ?_
  refine Sr ?_
  refine Ru 2 rfl ?_
  refine JL.nil ?_
  refine Cs rfl (fun hc3 => ?_) fun hc3 => ?_
  ·
   have hnd : ∀ c ∈ rest, c ≠ 46 := (by rcases hds with hh | ⟨k, _, hk, _⟩; exact hh.2; omega); have hlast := numsGo_last rest [] hnd; rw [List.nil_append] at hlast
   refine J.exit ?_
   refine Kp [0, 2] rfl ?_
   refine J.regionI ?_
   refine JI.op (RunV.move rfl) rfl ?_
   refine JI.op (RunV.own1 ag_9 rfl mm_ rfl) rfl ?_
   refine JI.yield rfl rfl (by assumption) pt_ (hrd us rest _ _ _ (by omega) (by omega) hxs) rfl ?_
   rintro _ h4 Lo4 hle4 hRF
   refine JI.of rfl ?_
   refine JL.nil ?_
   (rcases hRF with ⟨rfl, rfl, v, hv, hOI⟩ | ⟨rfl, rfl, hn, hBad⟩; exact ⟨_, _, _, (RetV.none_ rfl), .cons .here (Parts.app _ _), _, rfl, true, _, rfl, .inl ⟨rfl, rfl, us ++ [v], by rw [hng, hlast, hv]; simp, by simp; omega, hOI⟩⟩; exact ⟨_, _, _, (RetV.none_ rfl), .cons .here (Parts.app _ _), _, rfl, false, _, rfl, .inr ⟨rfl, rfl, by rw [hng, hlast, hn]; rfl, hBad⟩⟩)
  obtain ⟨k, hk1, hk2, hk3, hk4⟩ : ∃ k, k < rest.length ∧ Go.Lib.indexByte rest 46 = (k : Int) ∧ rest = rest.take k ++ 46 :: rest.drop (k + 1) ∧ ∀ c ∈ rest.take k, c ≠ 46 := (by rcases hds with ⟨hh, _⟩ | hh; omega; exact hh); rw [hk2] at hc3; rw [hk2]; have hcut := numsGo_cut (rest.take k) [] (rest.drop (k + 1)) hk4; rw [← hk3, List.nil_append] at hcut
  refine J.skip ?_
  refine Sr ?_
  refine JL.op (RunV.own1 ag_9 rfl mm_ rfl) rfl ?_
  refine Ru 1 rfl ?_
  refine JL.op (RunV.own1 ag_3 rfl mm_ rfl) rfl ?_
  refine JL.op ai_ rfl ?_
  refine JL.op (RunV.strCut_h (m := k) un_9 rfl rfl (by omega) (by omega)) rfl ?_
  refine Ru 1 rfl ?_
  refine JL.nil ?_
  refine J.seq ?_
  refine J.seq ?_
  refine J.regionI ?_
  refine JI.op (RunV.move rfl) rfl ?_
  refine JI.op (RunV.move rfl) rfl ?_
  refine JI.yield rfl rfl (by assumption) pt_ (hrd us (rest.take k) _ _ _ (by omega) (by simp; omega) hxs) rfl ?_
  rintro _ h5 Lo5 hle5 hR
  refine JI.of rfl ?_
  refine Ru 1 rfl ?_
  refine JL.nil ?_
  refine Cs rfl (fun hc6 => ?_) fun hc6 => ?_
  ·
   obtain ⟨rfl, rfl, hn, hBad⟩ := hR.resolve_left (fun hh => by rw [hh.1] at hc6; cases hc6)
   exact J.ret ⟨_, _, _, (RetV.none_ rfl), .cons .here (Parts.app _ _), _, rfl, false, _, rfl, .inr ⟨rfl, rfl, by rw [hng, hcut, hn]; rfl, hBad⟩⟩
  obtain ⟨rfl, rfl, v, hv, xa, xc, xxs, hxs2, rfl⟩ := hR.resolve_right (fun hh => by rw [hh.1] at hc6; cases hc6); rw [after_true hst hpe]
  refine J.skip ?_
  refine Rg ?_
  refine JL.op (RunV.own1 ag_9 rfl mm_ rfl) rfl ?_
  refine Ru 1 rfl ?_
  refine JL.op (RunV.own1 ag_9 rfl mm_ rfl) rfl ?_
  refine JL.op (RunV.lenS un_9 rfl) rfl ?_
  refine JL.op (RunV.add_i64 (p := (k : Int)) (q := 1) rfl rfl (by omega) (by omega)) rfl ?_
  refine JL.op (RunV.strCut_l (m := k + 1) un_9 rfl rfl (by omega) (by omega)) rfl ?_
  refine JL.store1 ag_9 rfl rfl rfl dl_ z32_ ?_
  refine JL.ents (.obj l (.loop r) :: [.blk b7 3 [.int .i64 0], .blk b6 9 [.string ⟨[46].toArray⟩], .blk b5 9 [.string ⟨(rest.drop (k + 1)).toArray⟩], .blk b4 66 [.slice xa (us ++ [v]).length xc], .row xa xc 63 1 (us ++ [v]).length xxs, .blk b2 22 [.slice none 0 0], .blk b3 24 [.int .i64 0]]) pt_ ?_
  refine JL.nil ?_
  refine ⟨_, ?_, _, ?_, ⟨us ++ [v], rest.drop (k + 1), _, _, _, rfl, rfl, rfl, rfl, ⟨hxs2, by rw [hng, hcut, hv]; simp [Function.comp_def], by simp; omega⟩⟩⟩
  ·
   simp; omega
  exact z7_
end Go.Proofs.YtmngjbefnloljaaGreatDoor
namespace Go.Proofs.YtmngjbefnloljaaGreatDoor
open Go Go.RowKit
set_option maxRecDepth 100000
theorem ag_24 : aggT Tryz.prog 24 = some none := by kernel_rfl
theorem ag_63 : aggT Tryz.prog 63 = some none := by kernel_rfl
theorem ag_66 : aggT Tryz.prog 66 = some none := by kernel_rfl
theorem ap_66 : apT Tryz.prog 66 = some (63, 1, 8) := by kernel_rfl
theorem ca_113 : callT Tryz.prog 113 = true := by kernel_rfl
theorem ca_114 : callT Tryz.prog 114 = true := by kernel_rfl
theorem ca_115 : callT Tryz.prog 115 = true := by kernel_rfl
theorem sl_66 : slT Tryz.prog 66 = some (63, 1) := by kernel_rfl
theorem zr_22 : zeroT Tryz.prog 22 = some [.slice none 0 0] := by kernel_rfl
theorem zr_24 : zeroT Tryz.prog 24 = some [.int .i64 0] := by kernel_rfl
theorem zr_63 : zeroT Tryz.prog 63 = some [.int .u64 0] := by kernel_rfl
theorem zr_66 : zeroT Tryz.prog 66 = some [.slice none 0 0] := by kernel_rfl
theorem Slots.weak {m : Nat} {S S' : Sig} {t : Array Value} (k : Slots m S t) (hw : Weak S' S) : Slots m S' t := ⟨k.1, fun s v hv => k.2 s v (hw.look hv)⟩
theorem hiF_len : ∀ (f n : Nat), (hiF f n).length ≤ f
  | 0, _ => by simp [hiF]
  | f + 1, n => by
    rw [hiF]
    split
    · simp
    · have := hiF_len f (n / 128); simp; omega
theorem b128_len (n : Nat) : (b128 n).length ≤ 11 := by
  have := hiF_len 10 (n / 128)
  unfold b128 hiB
  simp; omega
theorem enc_append (a b : List Nat) : enc (a ++ b) = enc a ++ enc b := by
  induction a with
  | nil => rfl
  | cons x r ih => simp only [List.cons_append, enc, ih, List.append_assoc]
theorem enc_len (a : List Nat) : (enc a).length ≤ 11 * a.length := by
  induction a with
  | nil => simp [enc]
  | cons x r ih => have := b128_len x; simp only [enc, List.length_append, List.length_cons]; omega
theorem numB_lt {s : List UInt8} {v : Nat} (h : numB s = some v) : v < 9223372036854775808 := by
  unfold numB at h
  split at h
  · cases h
  · split at h
    · cases h; assumption
    · cases h
theorem numsGo_lt : ∀ (s cur : List UInt8) (l : List Nat), numsGo s cur = some l → ∀ x ∈ l, x < 9223372036854775808
  | [], cur, l, h, x, hx => by
    rw [numsGo, Option.map_eq_some_iff] at h
    obtain ⟨v, hv, rfl⟩ := h
    simp at hx; subst hx
    exact numB_lt hv
  | c :: r, cur, l, h, x, hx => by
    rw [numsGo] at h
    split at h
    · split at h
      · cases h
      · rename_i n hn
        rw [Option.map_eq_some_iff] at h
        obtain ⟨l', hl', rfl⟩ := h
        rcases List.mem_cons.1 hx with rfl | hx
        · exact numB_lt hn
        · exact numsGo_lt r [] l' hl' x hx
    · exact numsGo_lt r _ l h x hx
def OR_ (s : List UInt8) : Value → Part → Prop := fun v h' => ∃ a c, v = .tuple #[.slice a ((oidB s).getD []).length c, .int .i64 (if (oidB s).isSome then 0 else 20)] ∧ SlR u8R 1 h' a c ((oidB s).getD [])
theorem round_rd {l D fn q2 q3 q4 : Nat} {tmps : Array Value} {h : Part} (ht : Slots 79 [(2, .pointer (some ⟨q2, 0, none⟩)), (3, .pointer (some ⟨q3, 0, none⟩)), (4, .pointer (some ⟨q4, 0, none⟩))] tmps) {A B : Code} {r0 r1 r2 rest : Code} {g : Operand}
    (hcode : Tryz.f75.body = some (.seq r0 (.seq r1 (.seq (.seq r2 (.block 0 (.rangeFunc g #[13] A B))) rest))))
    (us : List UInt64) (t : List UInt8) (a : Option Addr) (c : Nat) (xs : List Value) (hus : us.length ≤ 1000001) (htl : t.length ≤ 1000000) (hxs : ∀ h, CellsR u64R 1 h xs us) :
    Rd Tryz.prog l (Loop.new fn tmps #[13] A B D) (.string ⟨t.toArray⟩) h [.blk q4 66 [.slice a us.length c], .row a c 63 1 us.length xs, .blk q2 22 [.slice none 0 0], .blk q3 24 [.int .i64 0]] (PR q2 q3 q4 us t h) := by
  have hc2 := hcode
  unfold Tryz.f75 at hc2
  simp only [Option.some.injEq, Code.seq.injEq, Code.block.injEq, Code.rangeFunc.injEq] at hc2
  obtain ⟨-, -, ⟨-, -, -, -, hA, hB⟩, -⟩ := hc2
  have hx1 := hxs h
  have hnl := numP_lt t
  refine Rd.intro (m := 79) hA.symm hB.symm rfl rfl rfl rfl ht (fun e he => ⟨fun S1 _ _ => S1 = [(5, .string ⟨t.toArray⟩), (13, .string ⟨t.toArray⟩), (2, .pointer (some ⟨q2, 0, none⟩)), (3, .pointer (some ⟨q3, 0, none⟩)), (4, .pointer (some ⟨q4, 0, none⟩))], ?_, ?_⟩)
  · refine JR.region rfl ?_
    refine JL.op (RunV.assign rfl) rfl ?_
    exact JL.nil ⟨rfl, rfl, rfl⟩
  · rintro _ rfl
    refine JR.block ?_
    refine JR.sr rfl ?_
    refine Ru 1 rfl ?_
    refine JL.callP ca_114 rfl (onumber_fn (by omega)) rfl ?_
    refine Ru 5 rfl ?_
    refine JR.nk [7, 6, 2, 3, 4] rfl ?_
    refine JR.seq ?_
    refine JR.sr rfl ?_
    refine Ru 2 rfl ?_
    refine JL.nil ?_
    refine JR.cs rfl (fun hc2 => ?_) fun hc2 => ?_
    ·
     have hnb : numB t = none := numP_none (v := (numP t).1) (Prod.ext rfl (by simpa using hc2))
     refine JR.sr rfl ?_
     refine JL.store1 ag_22 rfl rfl rfl dl_ z32_ ?_
     refine JL.store1 ag_24 rfl rfl rfl dl_ z32_ ?_
     refine JL.nil ?_
     exact JR.ret ⟨[.blk q2 22 [.slice none 0 0], .blk q3 24 [.int .i64 20]], _, pt_, .inr ⟨rfl, rfl, hnb, rfl⟩⟩
    have hnb : numB t = some (numP t).1 := numP_some (Prod.ext rfl (by simpa using hc2)); have hvv : (UInt64.ofNat (numP t).1).toNat = (numP t).1 := (by rw [UInt64.toNat_ofNat']; omega)
    refine JR.skip ?_
    refine JR.kp [6, 4] rfl ?_
    refine JR.region rfl ?_
    refine JL.op (RunV.own1 ag_66 rfl mm_ rfl) rfl ?_
    refine Ru 1 rfl ?_
    refine JL.lit1 ap_66 zr_63 rfl rfl rfl rfl rfl (fun b3 => ?_)
    refine JL.append1 ap_66 rfl rfl (by assumption) rfl dl_ dl_ rfl ((show u64R _ [.int .u64 ((numP t).1 : Nat)] (UInt64.ofNat (numP t).1) by unfold u64R; rw [hvv])) z5_ rfl rfl (fun a4 c4 xs4 hC4 hN4 => ?_)
    refine JL.store1 ag_66 rfl rfl rfl dl_ z32_ ?_
    refine JL.nil ?_
    exact ⟨[.blk q4 66 [_], .row _ _ 63 1 _ _, .blk q2 22 [.slice none 0 0], .blk q3 24 [.int .i64 0]], _, pt_, .inl ⟨rfl, rfl, UInt64.ofNat (numP t).1, by rw [hnb, hvv], _, _, _, fun _ => hC4, rfl⟩⟩
theorem obytes_fn {s : List UInt8} {h : Part} (hs : s.length ≤ 1000000) : FnR Tryz.prog 75 [.string ⟨s.toArray⟩] h (OR_ s) := by
  refine Fn.introM (m := 79) Tryz.func75 rfl Tryz.ntmps75 rfl (fun w0 => ?_)
  refine JG.seq ?_
  refine J.region ?_
  refine JL.alloc zr_22 rfl (fun q2 => ?_)
  refine JL.alloc zr_24 rfl (fun q3 => ?_)
  refine JL.nil ?_
  refine JG.seq ?_
  refine J.region ?_
  refine JL.alloc zr_66 rfl (fun q4 => ?_)
  refine JL.row_nil 63 1 ?_
  refine JL.nil ?_
  refine JG.split ?_
  refine JG.seq ?_
  refine J.region ?_
  refine Ru 1 rfl ?_
  refine JL.call ca_113 rfl (SplitSeq_fn (s := s) (sep := [46])) pt_ rfl ?_
  rintro _ h1 Lo1 hle1 ⟨rfl, q5, q6, q7, rfl, rfl⟩
  refine JL.nil ?_
  refine JG.block ?_
  refine JG.range (lb := [.pointer (some ⟨q6, 0, none⟩), .pointer (some ⟨q5, 0, none⟩), .pointer (some ⟨q7, 0, none⟩)]) rfl (by kernel_rfl) rfl (fun D l fn tmps ht => ⟨[.blk q7 3 [.int .i64 0], .blk q6 9 [.string ⟨[46].toArray⟩], .blk q5 9 [.string ⟨s.toArray⟩], .blk q4 66 [.slice none 0 0], .row none 0 63 1 0 [], .blk q2 22 [.slice none 0 0], .blk q3 24 [.int .i64 0]], [], ER q2 q3 q4 s h1, pt_, ?_, ?_, ?_⟩)
  · exact iter_fn rfl rfl rfl hs (fun us t a c xs h2 h3 h4 => round_rd (ht.weak ⟨rfl, rfl, rfl, trivial⟩) rfl us t a c xs h2 h3 h4)
  · rintro h2 Lo hle2 hE
    obtain ⟨-, rfl, us, hng, hul, ua, uc, uxs, huxs, rfl⟩ := hE.resolve_right (fun hh => by cases hh.1)
    refine JN.blk (JG.ofJ ?_)
    have hob : oidB s = if oidOk (us.map (·.toNat)) then some (enc ((40 * (us.map (·.toNat)).getD 0 0 + (us.map (·.toNat)).getD 1 0) :: (us.map (·.toNat)).drop 2)) else none := by unfold oidB; rw [hng]
    by_cases hu2 : us.length < 2
    · have hz : oidB s = none := by rw [hob, if_neg]; unfold oidOk; rw [decide_eq_false (by simp; omega), Bool.false_and]; decide
      refine J.seq ?_
      refine Sr ?_
      refine JL.op (RunV.own1 ag_66 rfl mm_ rfl) rfl ?_
      refine Ru 3 rfl ?_
      refine Bs 28 rfl (fun hc1 => ?_) fun hc1 => ?_
      rotate_left
      ·
       exfalso; omega
      refine Ru 29 rfl ?_
      refine Nk [57, 2, 3, 4] rfl ?_
      refine J.cond_t rfl ?_
      refine Sr ?_
      refine JL.store1 ag_22 rfl rfl rfl dl_ z32_ ?_
      refine JL.store1 ag_24 rfl rfl rfl dl_ z32_ ?_
      refine JL.nil ?_
      exact J.ret ⟨_, _, [], _, by repeat (first | exact Del.here | apply Del.there), (RetV.cellv2 rfl rfl ag_22 mm_ rfl ag_24 mm_), .nil, _, rfl, rfl, none, 0, by rw [hz]; rfl, by rw [hz]; exact SlR.nil_⟩
    · obtain ⟨x, y, t, rfl⟩ : ∃ x y t, us = x :: y :: t := by
        match us, hu2 with
        | x :: y :: t, _ => exact ⟨x, y, t, rfl⟩
        | [], hh => exact absurd (by simp) hh
        | [_], hh => exact absurd (by simp) hh
      have hxl := x.toNat_lt
      have hyl := y.toNat_lt
      have htl : t.length ≤ 1000000 := by simp at hul; omega
      have hx0 : (x :: y :: t)[0] = x := rfl
      have hy1 : (x :: y :: t)[1] = y := rfl
      have hnl : ((x :: y :: t).length : Int) = t.length + 2 := by simp; omega
      have hok : oidOk ((x :: y :: t).map (·.toNat)) = decide ((x.toNat = 2 ∧ y.toNat < 9223372036854775728) ∨ (x.toNat < 2 ∧ y.toNat < 40)) := by
        unfold oidOk
        rw [decide_eq_true (by simp), Bool.true_and, ← Bool.decide_or]
        rfl
      rw [hok] at hob
      refine J.pub (R := u64R) (l := x :: y :: t) dl_ (huxs _) rfl (by simp; omega) (fun h9 hle9 hU => ?_)
      refine J.ents [.obj D (.deferred (some [])), .blk q4 66 [.slice ua (x :: y :: t).length uc], .blk q2 22 [.slice none 0 0], .blk q3 24 [.int .i64 0]] pt_ ?_
      refine J.seq ?_
      refine J.seq ?_
      refine J.meet [(57, .bool (decide (¬ ((x.toNat = 2 ∧ y.toNat < 9223372036854775728) ∨ (x.toNat < 2 ∧ y.toNat < 40)))))] [(2, _), (3, _), (4, _)] ⟨rfl, rfl, rfl, trivial⟩ ?_ ?_
      ·
       refine Rg ?_
       refine JL.op (RunV.own1 ag_66 rfl mm_ rfl) rfl ?_
       refine Ru 3 rfl ?_
       refine Bs 28 rfl (fun hc1 => ?_) fun hc1 => ?_
       ·
        exfalso; (rw [hnl] at hc1; omega)
       refine JL.opg rfl rfl  (RunV.own1 ag_66 rfl mm_ rfl) rfl ?_
       refine JL.opeg rfl rfl  (RunE.index sl_66 rfl rfl (show _ = ((0 : Nat) : Int) from rfl) (by assumption) rfl (by omega)) rfl ?_
       rintro _ ⟨b2, o2, hi2, rfl, hE2⟩
       refine JL.opg rfl rfl  (RunV.ld_u64 (y := x) ag_63 rfl (by assumption)) rfl ?_
       refine Ru 3 rfl ?_
       refine Bs 34 rfl (fun hc3 => ?_) fun hc3 => ?_
       ·
        refine Ru 23 rfl ?_
        refine JL.nil ?_
        refine ⟨rfl, rfl, ?_⟩
        exact z3_
       refine JL.opg rfl rfl  (RunV.own1 ag_66 rfl mm_ rfl) rfl ?_
       refine JL.opeg rfl rfl  (RunE.index sl_66 rfl rfl (show _ = ((0 : Nat) : Int) from rfl) (by assumption) rfl (by omega)) rfl ?_
       rintro _ ⟨b4, o4, hi4, rfl, hE4⟩
       refine JL.opg rfl rfl  (RunV.ld_u64 (y := x) ag_63 rfl (by assumption)) rfl ?_
       refine Ru 2 rfl ?_
       refine Bs 39 rfl (fun hc5 => ?_) fun hc5 => ?_
       ·
        refine JL.opg rfl rfl  (RunV.own1 ag_66 rfl mm_ rfl) rfl ?_
        refine JL.opeg rfl rfl  (RunE.index sl_66 rfl rfl (show _ = ((1 : Nat) : Int) from rfl) (by assumption) rfl (by omega)) rfl ?_
        rintro _ ⟨b6, o6, hi6, rfl, hE6⟩
        refine JL.opg rfl rfl  (RunV.ld_u64 (y := y) ag_63 rfl (by assumption)) rfl ?_
        refine Ru 4 rfl ?_
        refine Bs 46 rfl (fun hc7 => ?_) fun hc7 => ?_
        ·
         refine Ru 11 rfl ?_
         refine JL.nil ?_
         refine ⟨rfl, rfl, ?_⟩
         exact z3_
        refine JL.opg rfl rfl  (RunV.own1 ag_66 rfl mm_ rfl) rfl ?_
        refine JL.opeg rfl rfl  (RunE.index sl_66 rfl rfl (show _ = ((0 : Nat) : Int) from rfl) (by assumption) rfl (by omega)) rfl ?_
        rintro _ ⟨b8, o8, hi8, rfl, hE8⟩
        refine JL.opg rfl rfl  (RunV.ld_u64 (y := x) ag_63 rfl (by assumption)) rfl ?_
        refine Ru 2 rfl ?_
        refine Bs 51 rfl (fun hc9 => ?_) fun hc9 => ?_
        ·
         refine JL.opg rfl rfl  (RunV.own1 ag_66 rfl mm_ rfl) rfl ?_
         refine JL.opeg rfl rfl  (RunE.index sl_66 rfl rfl (show _ = ((1 : Nat) : Int) from rfl) (by assumption) rfl (by omega)) rfl ?_
         rintro _ ⟨b10, o10, hi10, rfl, hE10⟩
         refine JL.opg rfl rfl  (RunV.ld_u64 (y := y) ag_63 rfl (by assumption)) rfl ?_
         refine Ru 3 rfl ?_
         refine JL.nil ?_
         refine ⟨rfl, rfl, ?_⟩
         exact z3_
        refine Ru 6 rfl ?_
        refine JL.nil ?_
        refine ⟨rfl, rfl, ?_⟩
        exact z3_
       refine Ru 7 rfl ?_
       refine JL.opg rfl rfl  (RunV.own1 ag_66 rfl mm_ rfl) rfl ?_
       refine JL.opeg rfl rfl  (RunE.index sl_66 rfl rfl (show _ = ((0 : Nat) : Int) from rfl) (by assumption) rfl (by omega)) rfl ?_
       rintro _ ⟨b11, o11, hi11, rfl, hE11⟩
       refine JL.opg rfl rfl  (RunV.ld_u64 (y := x) ag_63 rfl (by assumption)) rfl ?_
       refine Ru 2 rfl ?_
       refine Bs 51 rfl (fun hc12 => ?_) fun hc12 => ?_
       ·
        refine JL.opg rfl rfl  (RunV.own1 ag_66 rfl mm_ rfl) rfl ?_
        refine JL.opeg rfl rfl  (RunE.index sl_66 rfl rfl (show _ = ((1 : Nat) : Int) from rfl) (by assumption) rfl (by omega)) rfl ?_
        rintro _ ⟨b13, o13, hi13, rfl, hE13⟩
        refine JL.opg rfl rfl  (RunV.ld_u64 (y := y) ag_63 rfl (by assumption)) rfl ?_
        refine Ru 3 rfl ?_
        refine JL.nil ?_
        refine ⟨rfl, rfl, ?_⟩
        exact z3_
       refine Ru 6 rfl ?_
       refine JL.nil ?_
       refine ⟨rfl, rfl, ?_⟩
       exact z3_
      refine Cs rfl (fun hc14 => ?_) fun hc14 => ?_
      ·
       have hz : oidB s = none := (by rw [hob, decide_eq_false hc14]; rfl)
       refine Sr ?_
       refine JL.store1 ag_22 rfl rfl rfl dl_ z32_ ?_
       refine JL.store1 ag_24 rfl rfl rfl dl_ z32_ ?_
       refine JL.nil ?_
       exact J.ret ⟨_, _, [], _, by repeat (first | exact Del.here | apply Del.there), (RetV.cellv2 rfl rfl ag_22 mm_ rfl ag_24 mm_), .nil, _, rfl, rfl, none, 0, by rw [hz]; rfl, by rw [hz]; exact SlR.nil_⟩
      obtain ⟨nv, hnv⟩ : ∃ nv, nv = 40 * x.toNat + y.toNat := ⟨_, rfl⟩; have hz : oidB s = some (enc (nv :: t.map (·.toNat))) := (by rw [hob, decide_eq_true (by omega), hnv]; rfl)
      refine J.skip ?_
      refine J.seq ?_
      refine J.held ([.blk q4 66 [.slice ua (x :: y :: t).length uc]]) 10 mixed_ rfl (fun h00 => ?_)
      refine JH.take 0 rfl (by kernel_rfl) (by kernel_rfl) (by kernel_rfl) (fun _ _ _ _ hh => hh) (br_ h00) (RunV.own1 ag_66 rfl mm_ rfl) rfl ?_
      refine JH.takeE 1 rfl (by kernel_rfl) (by kernel_rfl) (by kernel_rfl) (fun _ _ _ _ hh => hh) (br_ h00) (RunE.index sl_66 rfl rfl (show _ = ((0 : Nat) : Int) from rfl) (by assumption) rfl (by omega)) rfl ?_
      rintro _ ⟨b15, o15, hi15, rfl, hE15⟩
      refine JH.take 2 rfl (by kernel_rfl) (by kernel_rfl) (by kernel_rfl) (fun _ _ _ _ hh => hh) (br_ h00) (RunV.ld_u64 (y := x) ag_63 rfl (by assumption)) rfl ?_
      refine JH.take 3 rfl (by kernel_rfl) (by kernel_rfl) (by kernel_rfl) (fun _ _ _ _ hh => hh) (br_ h00) (RunV.mul_u64 rfl rfl (by omega) (by omega)) rfl ?_
      refine JH.take 4 rfl (by kernel_rfl) (by kernel_rfl) (by kernel_rfl) (fun _ _ _ _ hh => hh) (br_ h00) (RunV.own1 ag_66 rfl mm_ rfl) rfl ?_
      refine JH.takeE 5 rfl (by kernel_rfl) (by kernel_rfl) (by kernel_rfl) (fun _ _ _ _ hh => hh) (br_ h00) (RunE.index sl_66 rfl rfl (show _ = ((1 : Nat) : Int) from rfl) (by assumption) rfl (by omega)) rfl ?_
      rintro _ ⟨b16, o16, hi16, rfl, hE16⟩
      refine JH.take 6 rfl (by kernel_rfl) (by kernel_rfl) (by kernel_rfl) (fun _ _ _ _ hh => hh) (br_ h00) (RunV.ld_u64 (y := y) ag_63 rfl (by assumption)) rfl ?_
      refine JH.take 7 rfl (by kernel_rfl) (by kernel_rfl) (by kernel_rfl) (fun _ _ _ _ hh => hh) (br_ h00) (RunV.add_u64 rfl rfl (by omega) (by omega)) rfl ?_
      refine JH.all1 8 (by kernel_rfl) rfl ?_
      unfold One
      refine JL.row_nil 5 1 ?_; rw [show (40 : Int) * (x.toNat : Int) + (y.toNat : Int) = (nv : Int) by omega]
      refine JL.call ca_115 rfl (oput_fn (a := none) (c := 0) (l := []) (n := nv) (by omega) (by simp)) pt_ rfl ?_
      rintro _ h17 Lo17 hle17 ⟨pa17, pc17, rfl, rfl⟩
      replace hU := hU.mono hle17
      refine JL.nil ⟨(br_ h00), ?_⟩
      refine JH.take 9 rfl (by kernel_rfl) (by kernel_rfl) (by kernel_rfl) (fun _ _ _ _ hh => hh) (br_ h00) (RunV.assign rfl) rfl ?_
      refine JH.done (by kernel_rfl) ?_
      refine Kp [8, 2, 3, 4] rfl ?_
      refine J.seq ?_
      refine Sr ?_
      refine JL.op (RunV.own1 ag_66 rfl mm_ rfl) rfl ?_
      refine JL.ope (RunE.cut_l sl_66 rfl rfl (show _ = ((2 : Nat) : Int) from rfl) hU rfl (by omega)) rfl ?_
      rintro _ ⟨ta, tc, rfl, hT⟩
      replace hT : SlR u64R 1 _ ta tc t := hT
      refine Ru 1 rfl ?_
      rw [show ((x :: y :: t).drop 2).length = t.length from rfl]
      refine Ru 1 rfl ?_
      refine JL.nil ?_
      refine J.block ?_
      refine J.loop (fun t_ S_ h_ L_ => ∃ (g : Part) (i : Nat) (out : List UInt8) (ao : Option Addr) (co : Nat), t_ = t.length - i + 1 ∧ S_ = [(2, .pointer (some ⟨q2, 0, none⟩)), (3, .pointer (some ⟨q3, 0, none⟩)), (8, .slice ao out.length co), (68, .slice ta t.length tc), (69, .int .i64 t.length), (70, .int .i64 i)] ∧ g = h_ ∧ L_ = [.row ao co 5 1 out.length (u8s out), .obj D (.deferred (some [])), .blk q4 66 [.slice ua (x :: y :: t).length uc], .blk q2 22 [.slice none 0 0], .blk q3 24 [.int .i64 0]] ∧ (h9.le g ∧ SlR u64R 1 g ta tc t ∧ i ≤ t.length ∧ out = enc (nv :: (t.take i).map (·.toNat)) ∧ out.length ≤ 11 * (i + 1))) ⟨_, _, ?_, ⟨_, 0, b128 nv, _, _, rfl, rfl, rfl, rfl, ⟨by assumption, hT, by omega, by simp [enc], by have := b128_len nv; simp; omega⟩⟩⟩ ?_
      ·
       exact z7_
      rintro _ _ _ _ ⟨g, i, out, ao, co, rfl, rfl, rfl, rfl, hhg, hT, hi, ho, hol⟩
      have hlast : SlR u64R 1 _ ta tc t := hT
      refine Sr ?_
      refine Ru 1 rfl ?_
      refine JL.nil ?_
      refine J.seq ?_
      refine Cs rfl (fun hc19 => ?_) fun hc19 => ?_
      ·
       have hti : t[i].toNat < 9223372036854775808 := numsGo_lt _ _ _ hng _ (List.mem_map.2 ⟨t[i], by simp, rfl⟩); have hbl := b128_len t[i].toNat; have hso : out ++ b128 t[i].toNat = enc (nv :: (t.take (i + 1)).map (·.toNat)) := (by rw [List.take_succ_eq_append_getElem (by omega), List.map_append, ← List.cons_append, enc_append, ← ho]; simp [enc])
       refine J.skip ?_
       refine J.seq ?_
       refine J.block ?_
       refine Sr ?_
       refine JL.ope (RunE.index sl_66 rfl rfl z9_ (by assumption) rfl (by omega)) rfl ?_
       rintro _ ⟨b20, o20, hi20, rfl, hE20⟩
       refine JL.op (RunV.ld_u64 ag_63 rfl (by assumption)) rfl ?_
       refine Ru 1 rfl ?_
       refine JL.nil ?_
       refine Rg ?_
       refine Ru 2 rfl ?_
       refine JL.call ca_115 rfl (oput_fn (n := t[i].toNat) hti (by omega)) pt_ rfl ?_
       rintro _ h22 Lo22 hle22 ⟨pa22, pc22, rfl, rfl⟩
       replace hT := hT.mono hle22
       replace hhg := hhg.mono hle22
       refine Ru 1 rfl ?_
       refine JL.nil ?_
       refine Rg ?_
       refine JL.op ai_ rfl ?_
       refine Ru 1 rfl ?_
       refine JL.nil ?_
       refine ⟨_, ?_, _, ?_, ⟨_, i + 1, _, _, _, rfl, rfl, rfl, rfl, ⟨by assumption, by assumption, by omega, hso, by simp; omega⟩⟩⟩
       ·
        omega
       exact z7_
      have hof : (oidB s).getD [] = out := (by rw [hz, ho, List.take_of_length_le (by omega)]; rfl); have hos : (if (oidB s).isSome = true then (0 : Int) else 20) = 0 := (by rw [hz]; rfl)
      refine J.exit ?_
      refine Kp [2, 3, 8] rfl ?_
      refine Sr ?_
      refine JL.pub (R := u8R) (l := out) dl_ CellsR.of_u8 rfl (by omega) (fun hp hlep hSp => ?_)
      refine Ru 1 rfl ?_
      refine JL.store1 ag_22 rfl rfl rfl dl_ z32_ ?_
      refine JL.store1 ag_24 rfl rfl rfl dl_ z32_ ?_
      refine JL.nil ?_
      exact J.ret ⟨_, _, [], _, by repeat (first | exact Del.here | apply Del.there), (RetV.cellv2 rfl rfl ag_22 mm_ rfl ag_24 mm_), .nil, _, rfl, rfl, _, _, by rw [hof, hos], by rw [hof]; exact hSp⟩
  · rintro h2 Lo hle2 hE
    obtain ⟨-, rfl, hng, rfl⟩ := hE.resolve_left (fun hh => by cases hh.1)
    have hz : oidB s = none := by unfold oidB; rw [hng]
    refine JE.blk (JE.of ⟨_, _, [], _, .here, RetV.cellv2 rfl rfl ag_22 mm_ rfl ag_24 mm_, .nil, _, rfl, rfl, none, 0, by rw [hz]; rfl, by rw [hz]; exact SlR.nil_⟩)
end Go.Proofs.YtmngjbefnloljaaGreatDoor
namespace Go.Proofs.YtmngjbefnloljaaGreatDoor
open Go Go.RowKit
theorem am_t {b y : Bool} {u : Option Value} (hb : b = true) (h : u = some (.bool y)) : u = some (.bool (b && y)) := by subst hb; rw [Bool.true_and]; exact h
theorem am_f {b y : Bool} {u : Option Value} (hb : b = false) (h : u = some (.bool false)) : u = some (.bool (b && y)) := by subst hb; exact h
theorem om_f {b y : Bool} {u : Option Value} (hb : b = false) (h : u = some (.bool y)) : u = some (.bool (b || y)) := by subst hb; rw [Bool.false_or]; exact h
theorem om_t {b y : Bool} {u : Option Value} (hb : b = true) (h : u = some (.bool true)) : u = some (.bool (b || y)) := by subst hb; exact h
instance (priority := high) Sp.and_ (a b : Bool) (p q p' q' : Prop) [s : Sp a p q] [s' : Sp b p' q'] : Sp (a && b) (p ∧ p') (q ∨ q') := ⟨fun h => by
  rw [Bool.and_eq_true] at h; exact ⟨s.t h.1, s'.t h.2⟩, fun h => by
  rw [Bool.and_eq_false_iff] at h; exact h.imp s.f s'.f⟩
instance (priority := high) Sp.or_ (a b : Bool) (p q p' q' : Prop) [s : Sp a p q] [s' : Sp b p' q'] : Sp (a || b) (p ∨ p') (q ∧ q') := ⟨fun h => by
  rw [Bool.or_eq_true] at h; exact h.imp s.t s'.t, fun h => by
  rw [Bool.or_eq_false_iff] at h; exact ⟨s.f h.1, s'.f h.2⟩⟩
section
variable {f : Fr} {n : Post} {x : Nat → Post} {S : Sig} {h : Part} {L : List Ent} {ops : Array Oper} {b : Bool} {p q : Prop} {c d : Code} {l : List Oper}
def Am (h : Part) (L : List Ent) (d : Nat) (v : Bool) (ks : List Nat) (K : Sig) : Post := fun S1 h1 L1 => h1 = h ∧ L1 = L ∧ look S1 d = some (.bool v) ∧ keepS ks S1 = some K
theorem JL.take_drop (j : Nat) (M : Post) (hM : ∀ S' h' L', M S' h' L' → JL f ops n x (l.drop j) S' h' L') (k : JL f ops M x (l.take j) S h L) : JL f ops n x l S h L := fun a w s => by
  have key : ∀ (l1 l2 : List Oper), (∀ S' h' L', M S' h' L' → JL f ops n x l2 S' h' L') → ∀ (a : Act) (w : World), wpList f.P ops (f.Q M x) l1 a w → wpList f.P ops (f.Q n x) (l1 ++ l2) a w := by
    intro l1 l2 hM
    induction l1 with
    | nil => intro a w hh; obtain ⟨S', h', L', s', k'⟩ := hh; exact hM _ _ _ k' a w s'
    | cons o r ih =>
      intro a w hh
      unfold wpList at hh
      rw [List.cons_append]
      unfold wpList
      split
      · rename_i hw
        rw [if_pos hw] at hh
        rcases hh with hh | ⟨h1, a', w', hh⟩
        · refine .inl ?_
          unfold Oper.wp at *
          generalize (execOp a.eval o).run f.P w = rr at *
          cases rr with
          | ok nx w' =>
            cases nx <;> simp only [Oper.upon] at hh ⊢ <;> first
              | exact ih _ _ hh
              | exact Calls.mono hh (fun e w'' he => by cases e <;> first | exact ih _ _ he | exact he)
              | exact Rows.mono hh (fun _ _ he => ih _ _ he)
              | exact hh
          | halt z w' => cases z <;> simp only [Oper.upon] at hh ⊢ <;> exact hh
        · exact hh.elim
      · rename_i hw
        rw [if_neg hw] at hh
        exact ih _ _ hh
  have := key (l.take j) (l.drop j) hM a w (k a w s)
  rwa [List.take_append_drop] at this
theorem An {y : Bool} (t d j : Nat) (ks : List Nat) {K : Sig} (ht : look S t = some (.bool b)) (hk : keepS ks S = some K) [s : Sp b p q]
    (kT : b = true → p → JL f ops (Am h L d (b && y) ks K) x (l.take j) ((t, .bool true) :: S) h L) (kF : b = false → q → JL f ops (Am h L d (b && y) ks K) x (l.take j) ((t, .bool false) :: S) h L)
    (k : JL f ops n x (l.drop j) ((d, .bool (b && y)) :: K) h L) : JL f ops n x l S h L := by
  have fin : ∀ S1 h1 L1, Am h L d (b && y) ks K S1 h1 L1 → JL f ops n x (l.drop j) S1 h1 L1 := fun S1 h1 L1 ⟨e1, e2, e3, e4⟩ => by
    subst e1 e2
    exact JL.weak ((d, .bool (b && y)) :: K) ⟨e3, keepS_ok e4⟩ k
  exact JL.take_drop j _ fin (JL.bsplit t ht (fun hb => kT hb (s.t hb)) (fun hb => kF hb (s.f hb)))
theorem On {y : Bool} (t d j : Nat) (ks : List Nat) {K : Sig} (ht : look S t = some (.bool b)) (hk : keepS ks S = some K) [s : Sp b p q]
    (kT : b = true → p → JL f ops (Am h L d (b || y) ks K) x (l.take j) ((t, .bool true) :: S) h L) (kF : b = false → q → JL f ops (Am h L d (b || y) ks K) x (l.take j) ((t, .bool false) :: S) h L)
    (k : JL f ops n x (l.drop j) ((d, .bool (b || y)) :: K) h L) : JL f ops n x l S h L := by
  have fin : ∀ S1 h1 L1, Am h L d (b || y) ks K S1 h1 L1 → JL f ops n x (l.drop j) S1 h1 L1 := fun S1 h1 L1 ⟨e1, e2, e3, e4⟩ => by
    subst e1 e2
    exact JL.weak ((d, .bool (b || y)) :: K) ⟨e3, keepS_ok e4⟩ k
  exact JL.take_drop j _ fin (JL.bsplit t ht (fun hb => kT hb (s.t hb)) (fun hb => kF hb (s.f hb)))
theorem Ae {v : Bool} {d : Nat} {ks : List Nat} {K S1 : Sig} (h1 : look S1 d = some (.bool v)) (h2 : keepS ks S1 = some K) : JL f ops (Am h L d v ks K) x [] S1 h L := JL.nil ⟨rfl, rfl, h1, h2⟩
end
end Go.Proofs.YtmngjbefnloljaaGreatDoor
namespace Go.Proofs.YtmngjbefnloljaaGreatDoor
open Go Go.RowKit
theorem z11_ {p : Prop} (u : p := by first | exact RunV.conv_u64 cv_103_63 rfl (by omega) (by omega) | exact RunV.convw_u64 cv_103_63 rfl | exact RunV.conv cv_103_63 rfl) : p := u
theorem z38_ {p : Prop} (u : p := by repeat (first | exact trivial | refine ⟨rfl, ?_⟩ | refine ⟨(by exact some_bool (by first | (rw [decide_eq_decide]; omega) | exact (decide_eq_false (by omega)).symm | exact decide_eq_false (by omega))), ?_⟩)) : p := u
end Go.Proofs.YtmngjbefnloljaaGreatDoor
namespace Go.Proofs.YtmngjbefnloljaaGreatDoor
open Go Go.RowKit
set_option maxRecDepth 100000
theorem ag_103 : aggT Tryz.prog 103 = some none := by kernel_rfl
theorem ca_40 : callT Tryz.prog 40 = true := by kernel_rfl
theorem ca_45 : callT Tryz.prog 45 = true := by kernel_rfl
theorem ca_56 : callT Tryz.prog 56 = true := by kernel_rfl
theorem ca_57 : callT Tryz.prog 57 = true := by kernel_rfl
theorem ca_84 : callT Tryz.prog 84 = true := by kernel_rfl
theorem ca_85 : callT Tryz.prog 85 = true := by kernel_rfl
theorem ca_97 : callT Tryz.prog 97 = true := by kernel_rfl
theorem cv_103_5 : convI Tryz.prog 103 5 = some .u8 := by kernel_rfl
theorem cv_103_63 : convI Tryz.prog 103 63 = some .u64 := by kernel_rfl
theorem mk_22 : mkT Tryz.prog 22 = some (5, .int .u8 0, 1) := by kernel_rfl
theorem sl_30 : slT Tryz.prog 30 = some (103, 1) := by kernel_rfl
def d32 (l : List UInt32) (i : Nat) : Nat := (l.getD i 0).toNat
def d64 (l : List UInt64) (i : Nat) : Nat := (l.getD i 0).toNat
theorem d32_at (l : List UInt32) (i : Nat) (h : i < l.length) : ((l[i]'h).toNat : Int) = d32 l i := by simp [d32, h]
theorem d64_at (l : List UInt64) (i : Nat) (h : i < l.length) : ((l[i]'h).toNat : Int) = d64 l i := by simp [d64, h]
theorem d32_lt (l : List UInt32) (i : Nat) : d32 l i < 4294967296 := UInt32.toNat_lt _
theorem d32_out (l : List UInt32) (i : Nat) (h : l.length ≤ i) : d32 l i = 0 := by
  unfold d32; rw [List.getD_eq_getElem?_getD, List.getElem?_eq_none h]; rfl
theorem d64_out (l : List UInt64) (i : Nat) (h : l.length ≤ i) : d64 l i = 0 := by
  unfold d64; rw [List.getD_eq_getElem?_getD, List.getElem?_eq_none h]; rfl
def tsz (f : Nat → Nat) : Nat → Nat
  | 0 => 0
  | n + 1 => if f n = 0 then tsz f n else n + 1
theorem tsz_le (f : Nat → Nat) : ∀ n, tsz f n ≤ n
  | 0 => Nat.le_refl _
  | n + 1 => by unfold tsz; split; (have := tsz_le f n; omega); exact Nat.le_refl _
theorem tsz_top (f : Nat → Nat) : ∀ n, tsz f n ≠ 0 → f (tsz f n - 1) ≠ 0
  | 0, h => absurd rfl h
  | n + 1, h => by
    unfold tsz at h ⊢
    by_cases hf : f n = 0
    · rw [if_pos hf] at h ⊢; exact tsz_top f n h
    · rw [if_neg hf]; exact hf
theorem tsz_zero (f : Nat → Nat) : ∀ n i, tsz f n ≤ i → i < n → f i = 0
  | 0, i, _, h => by omega
  | n + 1, i, h, h2 => by
    unfold tsz at h
    by_cases hf : f n = 0
    · rw [if_pos hf] at h
      by_cases hi : i = n
      · subst hi; exact hf
      · exact tsz_zero f n i h (by omega)
    · rw [if_neg hf] at h; omega
theorem tsz_stop (f : Nat → Nat) (n : Nat) (h : ¬ (0 < n ∧ f (n - 1) = 0)) : tsz f n = n := by
  cases n with
  | zero => rfl
  | succ n => unfold tsz; exact if_neg (fun hf => h ⟨by omega, hf⟩)
theorem tsz_go (f : Nat → Nat) (n : Nat) (h : 0 < n ∧ f (n - 1) = 0) : tsz f n = tsz f (n - 1) := by
  obtain ⟨m, rfl⟩ : ∃ m, n = m + 1 := ⟨n - 1, by omega⟩
  conv => lhs; unfold tsz
  exact if_pos h.2
def bl (n : Nat) : Nat := if n = 0 then 0 else n.log2 + 1
theorem bl_half (n : Nat) (h : 0 < n) : bl n = bl (n / 2) + 1 := by
  unfold bl
  rw [if_neg (by omega), Nat.log2_def]
  split
  · rw [if_neg (by omega)]
  · rw [if_pos (by omega)]
theorem bl_shift (k n : Nat) : 2 ^ k ≤ n → bl n = k + bl (n / 2 ^ k) := by
  induction k generalizing n with
  | zero => intro _; simp
  | succ k ih =>
    intro h
    rw [Nat.pow_succ] at h
    have hp : 0 < 2 ^ k := Nat.two_pow_pos k
    rw [bl_half n (by omega), ih (n / 2) (by omega), Nat.div_div_eq_div_mul, Nat.pow_succ, Nat.mul_comm 2]
    omega
theorem bl_le (k n : Nat) (h : n < 2 ^ k) : bl n ≤ k := by
  unfold bl
  split
  · omega
  · have := (Nat.log2_lt (by assumption)).2 h; omega
theorem bl_le32 (l : List UInt32) (i : Nat) : bl (d32 l i) ≤ 32 := bl_le 32 _ (d32_lt l i)
def tab8 : List UInt8 := [0, 1] ++ List.replicate 2 2 ++ List.replicate 4 3 ++ List.replicate 8 4 ++ List.replicate 16 5 ++ List.replicate 32 6 ++ List.replicate 64 7 ++ List.replicate 128 8
theorem tab8_len : tab8.length = 256 := by decide +kernel
theorem tab8_at (n : Nat) (h : n < 256) : byteAt tab8 n = bl n := by
  have : ∀ i : Fin 256, byteAt tab8 i.val = bl i.val := by decide +kernel
  exact this ⟨n, h⟩
theorem natsize_fn {a : Option Addr} {c : Nat} {l : List UInt32} {h : Part} (hl : SlR u32R 1 h a c l) : Pure Tryz.prog 84 [.slice a l.length c] h (.int .i64 (tsz (d32 l) l.length : Nat)) := by
  have hll := hl.big
  refine Fn.intro Tryz.func84 rfl Tryz.ntmps84 rfl (fun e he => ?_)
  refine J.weak [(0, _)] ⟨rfl, trivial⟩ ?_
  refine Sr ?_
  refine Ru 1 rfl ?_
  refine JL.nil ?_
  refine Sr ?_
  refine Ru 3 rfl ?_
  refine JL.nil ?_
  refine J.seq ?_
  refine J.block ?_
  refine J.loop (fun t_ S_ h_ L_ => ∃ (n : Nat), t_ = n + 1 ∧ S_ = [(0, .slice a l.length c), (3, .int .i64 n)] ∧ h = h_ ∧ L_ = [] ∧ (n ≤ l.length ∧ tsz (d32 l) l.length = tsz (d32 l) n)) ⟨_, _, ?_, ⟨l.length, rfl, rfl, rfl, rfl, ⟨Nat.le_refl _, rfl⟩⟩⟩ ?_
  ·
   exact z4_
  rintro _ _ _ _ ⟨n, rfl, rfl, rfl, rfl, hn, he⟩
  refine J.seq ?_
  refine J.seq ?_
  refine J.meet [(15, .bool (decide (0 < n ∧ d32 l (n - 1) = 0)))] [(0, _), (3, _)] ⟨rfl, rfl, trivial⟩ ?_ ?_
  ·
   refine Rg ?_
   refine Ru 3 rfl ?_
   refine Bs 8 rfl (fun hc1 => ?_) fun hc1 => ?_
   ·
    refine Ru 2 rfl ?_
    refine JL.opg rfl rfl  si_ rfl ?_
    refine JL.opeg rfl rfl  (RunE.index sl_30 rfl rfl z9_ (by assumption) rfl (by omega)) rfl ?_
    rintro _ ⟨b2, o2, hi2, rfl, hE2⟩
    refine JL.opg rfl rfl  (RunV.ld_u32 ag_103 rfl (by assumption)) rfl ?_
    rw [d32_at, show ((n : Int) - 1).toNat = n - 1 by omega]
    refine Ru 2 rfl ?_
    refine JL.nil ?_
    refine ⟨rfl, rfl, ?_⟩
    exact z38_
   refine Ru 7 rfl ?_
   refine JL.nil ?_
   refine ⟨rfl, rfl, ?_⟩
   exact z38_
  refine Cs rfl (fun hc4 => ?_) fun hc4 => ?_
  ·
   refine J.skip ?_
   refine J.block ?_
   refine Rg ?_
   refine Ru 1 rfl ?_
   refine JL.op si_ rfl ?_
   refine Ru 1 rfl ?_
   refine JL.nil ?_
   refine ⟨_, ?_, _, ?_, ⟨n - 1, rfl, rfl, rfl, rfl, ⟨by omega, by rw [he, tsz_go _ _ (by omega)]⟩⟩⟩
   ·
    omega
   exact z4_
  refine J.exit ?_
  refine Sr ?_
  refine Ru 2 rfl ?_
  refine Nk [2] rfl ?_
  exact J.retP (RetV.one rfl rfl) (by rw [he, tsz_stop _ _ (by omega)]) rfl
def hiQ (D n : Nat) : Nat := if D ≤ n then n / D else n
def hiA (D k n : Nat) : Nat := if D ≤ n then k else 0
theorem hi_bl (k n : Nat) : bl n = hiA (2 ^ k) k n + bl (hiQ (2 ^ k) n) := by
  unfold hiA hiQ
  split
  · exact bl_shift k n (by assumption)
  · simp
theorem hi_pos {D n : Nat} (k : Nat) (h : D ≤ n) : hiQ D n = n / D ∧ hiA D k n = k := ⟨if_pos h, if_pos h⟩
theorem hi_neg {D n : Nat} (k : Nat) (h : ¬ D ≤ n) : hiQ D n = n ∧ hiA D k n = 0 := ⟨if_neg h, if_neg h⟩
theorem hiA_le (D k n : Nat) : hiA D k n ≤ k := by unfold hiA; split <;> omega
theorem len32_fn {n : Nat} {h : Part} (hn : n < 4294967296) : Pure Tryz.prog 85 [.int .u32 n] h (.int .i64 (bl n : Nat)) := by
  have htl := tab8_len
  have h1 : hiQ 65536 n < 65536 := by unfold hiQ; split <;> omega
  have h2 : hiQ 256 (hiQ 65536 n) < 256 := (show ∀ m, m < 65536 → hiQ 256 m < 256 from fun m hm => by unfold hiQ; split <;> omega) _ h1
  have e1 : bl n = hiA 65536 16 n + bl (hiQ 65536 n) := hi_bl 16 n
  have e2 : bl (hiQ 65536 n) = hiA 256 8 (hiQ 65536 n) + bl (hiQ 256 (hiQ 65536 n)) := hi_bl 8 _
  have l1 := hiA_le 65536 16 n
  have l2 := hiA_le 256 8 (hiQ 65536 n)
  have l3 := tab8_at _ h2
  have l4 := bl_le 8 _ h2
  refine Fn.intro Tryz.func85 rfl Tryz.ntmps85 rfl (fun e he => ?_)
  refine J.weak [(0, _)] ⟨rfl, trivial⟩ ?_
  refine Sr ?_
  refine Ru 1 rfl ?_
  refine JL.nil ?_
  refine J.seq ?_
  refine Sr ?_
  refine Ru 2 rfl ?_
  refine JL.nil ?_
  refine J.meet [(0, .int .u32 (hiQ 65536 n : Nat)), (2, .int .i64 (hiA 65536 16 n : Nat))] [] trivial ?_ ?_
  ·
   refine Cs rfl (fun hc1 => ?_) fun hc1 => ?_
   ·
    have q := hi_pos (D := 65536) (n := n) 16 (by omega)
    refine Sr ?_
    refine Ru 1 rfl ?_
    refine JL.op (RunV.shr_u32 65536 rfl rfl (by decide) (by decide) (by decide)) rfl ?_
    refine Ru 1 rfl ?_
    refine Nk [0, 2] rfl ?_
    refine Rg ?_
    refine Ru 1 rfl ?_
    refine JL.nil ?_
    refine ⟨rfl, rfl, ?_⟩
    exact z4_
   have q := hi_neg (D := 65536) (n := n) 16 (by omega)
   refine J.skip ?_
   refine ⟨rfl, rfl, ?_⟩
   exact z4_
  refine J.seq ?_
  refine Sr ?_
  refine Ru 2 rfl ?_
  refine JL.nil ?_
  refine J.meet [(0, .int .u32 (hiQ 256 (hiQ 65536 n) : Nat)), (2, .int .i64 (hiA 65536 16 n + hiA 256 8 (hiQ 65536 n) : Nat))] [] trivial ?_ ?_
  ·
   refine Cs rfl (fun hc2 => ?_) fun hc2 => ?_
   ·
    have q := hi_pos (D := 256) (n := hiQ 65536 n) 8 (by omega)
    refine Sr ?_
    refine Ru 1 rfl ?_
    refine JL.op (RunV.shr_u32 256 rfl rfl (by decide) (by decide) (by decide)) rfl ?_
    refine Ru 1 rfl ?_
    refine Nk [0, 2] rfl ?_
    refine Rg ?_
    refine Ru 1 rfl ?_
    refine JL.op ai_ rfl ?_
    refine Ru 1 rfl ?_
    refine JL.nil ?_
    refine ⟨rfl, rfl, ?_⟩
    exact z4_
   have q := hi_neg (D := 256) (n := hiQ 65536 n) 8 (by omega)
   refine J.skip ?_
   refine ⟨rfl, rfl, ?_⟩
   exact z4_
  refine Sr ?_
  refine Ru 2 rfl ?_
  refine JL.op (by first | exact RunV.conv_u8 cv_103_5 rfl (by omega) (by omega) | exact RunV.conv cv_103_5 rfl) rfl ?_
  refine JL.op (RunV.strIndex (p := tab8) (m := hiQ 256 (hiQ 65536 n)) un_9 (by kernel_rfl) rfl rfl (by omega)) rfl ?_
  rw [l3]
  refine JL.op z10_ rfl ?_
  refine JL.op ai_ rfl ?_
  refine Ru 1 rfl ?_
  refine Nk [2] rfl ?_
  exact J.retP (RetV.one rfl rfl) (by rw [e1, e2, Int.natCast_add, Int.natCast_add, Int.natCast_add, Int.add_assoc]) rfl
def nbits (f : Nat → Nat) (n : Nat) : Nat := if tsz f n = 0 then 0 else 32 * (tsz f n - 1) + bl (f (tsz f n - 1))
theorem natbits_fn {a : Option Addr} {c : Nat} {l : List UInt32} {h : Part} (hl : SlR u32R 1 h a c l) : Pure Tryz.prog 40 [.slice a l.length c] h (.int .i64 (nbits (d32 l) l.length : Nat)) := by
  have hll := hl.big
  have ht := tsz_le (d32 l) l.length
  have hb := bl_le32 l (tsz (d32 l) l.length - 1)
  refine Fn.intro Tryz.func40 rfl Tryz.ntmps40 rfl (fun e he => ?_)
  refine J.weak [(0, _)] ⟨rfl, trivial⟩ ?_
  refine Sr ?_
  refine Ru 1 rfl ?_
  refine JL.nil ?_
  refine Sr ?_
  refine Ru 1 rfl ?_
  refine JL.callP ca_84 rfl (natsize_fn (by assumption)) rfl ?_
  refine Ru 1 rfl ?_
  refine JL.nil ?_
  refine J.seq ?_
  refine Sr ?_
  refine Ru 2 rfl ?_
  refine JL.nil ?_
  refine Cs rfl (fun hc2 => ?_) fun hc2 => ?_
  ·
   have hz : nbits (d32 l) l.length = 0 := if_pos (by omega)
   refine Sr ?_
   refine Ru 1 rfl ?_
   refine Nk [2, 3, 0] rfl ?_
   exact J.retP (RetV.one rfl rfl) (by rw [hz]; rfl) rfl
  have hz : nbits (d32 l) l.length = 32 * (tsz (d32 l) l.length - 1) + bl (d32 l (tsz (d32 l) l.length - 1)) := if_neg (by omega)
  refine J.skip ?_
  refine Kp [3, 2, 0] rfl ?_
  refine Sr ?_
  refine Ru 1 rfl ?_
  refine JL.op si_ rfl ?_
  refine JL.op z16_ rfl ?_
  refine Ru 2 rfl ?_
  refine JL.op si_ rfl ?_
  refine JL.ope (RunE.index sl_30 rfl rfl z9_ (by assumption) rfl (by omega)) rfl ?_
  rintro _ ⟨b3, o3, hi3, rfl, hE3⟩
  refine JL.op (RunV.ld_u32 ag_103 rfl (by assumption)) rfl ?_
  rw [d32_at, show ((tsz (d32 l) l.length : Int) - 1).toNat = tsz (d32 l) l.length - 1 by omega]
  refine JL.callP ca_85 rfl (len32_fn (d32_lt _ _)) rfl ?_
  refine JL.op ai_ rfl ?_
  refine Ru 1 rfl ?_
  refine Nk [2] rfl ?_
  exact J.retP (RetV.one rfl rfl) (by rw [hz]; exact congrArg (Value.int .i64) (by omega)) rfl
def wB (f : Nat → Nat) (i : Nat) : UInt8 := UInt8.ofNat (f (i / 4) / 256 ^ (i % 4))
def natW (f : Nat → Nat) : Nat → List UInt8
  | 0 => []
  | k + 1 => wB f k :: natW f k
theorem natW_len (f : Nat → Nat) : ∀ k, (natW f k).length = k
  | 0 => rfl
  | k + 1 => by simp [natW, natW_len f k]
theorem shr_d (i : Nat) : (2 : Int) ^ (8 * ((i : Int) % 4)).toNat = 256 ^ (i % 4) := by
  have : (8 * ((i : Int) % 4)).toNat = 8 * (i % 4) := by omega
  rw [this, Int.pow_mul]; rfl
theorem set_rep (m : Nat) (t : List UInt8) (x : UInt8) : (List.replicate (m + 1) 0 ++ t).set m x = List.replicate m 0 ++ x :: t := by
  rw [List.replicate_succ', List.append_assoc, List.set_append_right _ _ (by simp)]
  simp
theorem rep_one (m : Nat) (t : List UInt8) : (List.replicate (m + 1) 0 ++ t : List UInt8) = List.replicate m 0 ++ 0 :: t := by
  rw [List.replicate_succ', List.append_assoc]; rfl
theorem natwrite_fn {a : Option Addr} {c k : Nat} {l : List UInt32} {h : Part} (hl : SlR u32R 1 h a c l) (hk : k ≤ 65536) (hb : (nbits (d32 l) l.length + 7) / 8 ≤ k) :
    FnR Tryz.prog 43 [.slice a l.length c, .int .i64 k] h (fun v h' => ∃ a' c', v = .tuple #[.slice a' (natW (d32 l) k).length c', .int .i64 0] ∧ SlR u8R 1 h' a' c' (natW (d32 l) k)) := by
  have hll := hl.big
  refine Fn.intro Tryz.func43 rfl Tryz.ntmps43 rfl (fun e he => ?_)
  refine J.weak [(0, _), (1, _)] ⟨rfl, rfl, trivial⟩ ?_
  have hh0 := Part.le.refl h
  refine Sr ?_
  refine Ru 2 rfl ?_
  refine JL.nil ?_
  refine J.seq ?_
  refine Sr ?_
  refine Ru 3 rfl ?_
  apply On 10 13 3 [5, 4, 0, 1] rfl rfl
  rotate_left
  ·
   intro hb1 hc1
   refine Ru 3 rfl ?_
   exact Ae (om_f hb1 rfl) rfl
  rotate_right
  ·
   exact fun hb1 _ => Ru 3 rfl (Ae (om_t hb1 rfl) rfl)
  refine JL.nil ?_
  refine Cs rfl (fun hc2 => ?_) fun hc2 => ?_
  ·
   exfalso; omega
  refine J.skip ?_
  refine J.seq ?_
  refine Sr ?_
  refine Ru 1 rfl ?_
  refine JL.callP ca_40 rfl (natbits_fn (by assumption)) rfl ?_
  refine JL.op ai_ rfl ?_
  refine JL.op z14_ rfl ?_
  refine Ru 2 rfl ?_
  refine Nk [19, 5, 4, 0, 1] rfl ?_
  refine Cs rfl (fun hc4 => ?_) fun hc4 => ?_
  ·
   exfalso; omega
  refine J.skip ?_
  refine Sr ?_
  refine Ru 1 rfl ?_
  refine JL.make1 mk_22 rfl rfl (m := k) rfl rfl (by omega) rfl rfl (fun b1 => ?_); rw [replicate_u8]
  refine Ru 1 rfl ?_
  refine JL.nil ?_
  refine J.seq ?_
  refine Sr ?_
  refine Ru 2 rfl ?_
  refine JL.nil ?_
  refine J.block ?_
  refine J.loop (fun t_ S_ h_ L_ => ∃ (i : Nat) (out : List UInt8), t_ = k - i ∧ S_ = [(0, .slice a l.length c), (1, .int .i64 k), (6, .slice (some ⟨b1, 0, none⟩) k k), (22, .int .i64 k), (23, .int .i64 i)] ∧ h = h_ ∧ L_ = [.row (some ⟨b1, 0, none⟩) k 5 1 k (u8s out)] ∧ (i ≤ k ∧ out = List.replicate (k - i) 0 ++ natW (d32 l) i)) ⟨_, _, ?_, ⟨0, _, rfl, rfl, rfl, rfl, ⟨by omega, by simp [natW]⟩⟩⟩ ?_
  ·
   exact z7_
  rintro _ _ _ _ ⟨i, out, rfl, rfl, rfl, rfl, hi, ho⟩
  refine Sr ?_
  refine Ru 1 rfl ?_
  refine JL.nil ?_
  refine J.seq ?_
  refine Cs rfl (fun hc6 => ?_) fun hc6 => ?_
  ·
   have hol : out.length = k := (by rw [ho, List.length_append, List.length_replicate, natW_len]; omega); have hdl := d32_lt l (i / 4)
   refine J.skip ?_
   refine J.seq ?_
   refine J.block ?_
   refine Sr ?_
   refine Ru 2 rfl ?_
   refine JL.nil ?_
   refine Sr ?_
   refine Ru 1 rfl ?_
   refine JL.op z14_ rfl ?_
   refine Ru 3 rfl ?_
   refine JL.nil ?_
   refine Cs rfl (fun hc7 => ?_) fun hc7 => ?_
   ·
    obtain ⟨m, hm⟩ : ∃ m, k - i = m + 1 := ⟨k - i - 1, by omega⟩; have hset : out.set (k - 1 - i) (wB (d32 l) i) = List.replicate (k - (i + 1)) 0 ++ natW (d32 l) (i + 1) := (by rw [ho, hm, show k - 1 - i = m by omega, set_rep, show k - (i + 1) = m by omega]; rfl)
    refine Rg ?_
    refine Ru 2 rfl ?_
    refine JL.op si_ rfl ?_
    refine Ru 1 rfl ?_
    refine JL.op si_ rfl ?_
    refine Ru 2 rfl ?_
    refine JL.op z14_ rfl ?_
    refine JL.ope (RunE.index sl_30 rfl rfl z9_ (by assumption) rfl (by omega)) rfl ?_
    rintro _ ⟨b8, o8, hi8, rfl, hE8⟩
    refine JL.op (RunV.ld_u32 ag_103 rfl (by assumption)) rfl ?_
    rw [d32_at, show ((i : Int) / 4).toNat = i / 4 by omega]
    refine Ru 1 rfl ?_
    refine JL.op z23_ rfl ?_
    refine JL.op z16_ rfl ?_
    refine JL.op (RunV.shr_u32 (256 ^ (i % 4)) rfl rfl (by omega) (by omega) (shr_d i)) rfl ?_
    refine JL.op (RunV.toByte (d32 l (i / 4) / 256 ^ (i % 4)) cv_103_5 rfl (by rw [Int.natCast_ediv, Int.natCast_pow]; rfl)) rfl ?_
    refine JL.op (RunV.index_at sl_22 (m := k - 1 - i) rfl rfl (by omega) (by omega)) rfl ?_
    refine JL.storeRow ag_5 rfl rfl rfl dl_ (show k - 1 - i < (u8s out).length by rw [u8s_length]; omega) ?_; rw [u8s_set]
    refine JL.nil ?_
    refine Rg ?_
    refine JL.op ai_ rfl ?_
    refine Ru 1 rfl ?_
    refine JL.nil ?_
    refine ⟨_, ?_, _, ?_, ⟨i + 1, _, rfl, rfl, rfl, rfl, ⟨by omega, hset⟩⟩⟩
    ·
     omega
    exact z7_
   obtain ⟨m, hm⟩ : ∃ m, k - i = m + 1 := ⟨k - i - 1, by omega⟩; have hset : out = List.replicate (k - (i + 1)) 0 ++ natW (d32 l) (i + 1) := (by rw [ho, hm, rep_one, show k - (i + 1) = m by omega, natW, wB, d32_out l (i / 4) (by omega), Nat.zero_div]; rfl)
   refine J.skip ?_
   refine Rg ?_
   refine JL.op ai_ rfl ?_
   refine Ru 1 rfl ?_
   refine JL.nil ?_
   refine ⟨_, ?_, _, ?_, ⟨i + 1, _, rfl, rfl, rfl, rfl, ⟨by omega, hset⟩⟩⟩
   ·
    omega
   exact z7_
  refine J.exit ?_
  refine Kp [6] rfl ?_
  refine Sr ?_
  have hik : i = k := (by omega); have ho2 : out = natW (d32 l) k := (by rw [ho, hik, Nat.sub_self]; rfl); have hkl := natW_len (d32 l) k; subst ho2; refine JL.pub (R := u8R) (l := natW (d32 l) k) dl_ CellsR.of_u8 (by omega) (by omega) (fun h9 hle9 hS9 => ?_)
  refine Ru 3 rfl ?_
  refine JL.nil ?_
  exact J.retR (RetV.two rfl rfl rfl) ⟨_, _, by rw [hkl], hS9⟩
def cutZ (l : List UInt64) : List UInt64 := l.take (tsz (d64 l) l.length)
def m64 (x : UInt32) : UInt64 := UInt64.ofNat x.toNat
theorem m64_nat (x : UInt32) : (m64 x).toNat = x.toNat := by
  have := UInt32.toNat_lt x
  unfold m64; rw [UInt64.toNat_ofNat']; omega
theorem d64_map (l : List UInt32) (i : Nat) : d64 (l.map m64) i = d32 l i := by
  unfold d64 d32
  by_cases h : i < l.length
  · simp [h, m64_nat]
  · simp [h]
theorem tsz_congr {f g : Nat → Nat} (h : ∀ i, f i = g i) (n : Nat) : tsz f n = tsz g n := by rw [show f = g from funext h]
theorem d64_take (l : List UInt64) (k i : Nat) (h : ∀ i, k ≤ i → i < l.length → d64 l i = 0) : d64 (l.take k) i = d64 l i := by
  by_cases hi : i < k
  · unfold d64; simp [List.getElem?_take, hi]
  · by_cases hl : i < l.length
    · rw [h i (by omega) hl, d64_out _ _ (by rw [List.length_take]; omega)]
    · rw [d64_out l _ (by omega), d64_out _ _ (by rw [List.length_take]; omega)]
def digsB (l : List UInt32) : List UInt64 := cutZ (l.map m64)
theorem digsB_len (l : List UInt32) : (digsB l).length = tsz (d32 l) l.length := by
  unfold digsB cutZ
  have := tsz_le (d64 (l.map m64)) (l.map m64).length
  rw [List.length_take, Nat.min_eq_left this, tsz_congr (d64_map l), List.length_map]
theorem digsB_at (l : List UInt32) (i : Nat) : d64 (digsB l) i = d32 l i := by
  unfold digsB cutZ
  rw [d64_take _ _ _ (fun i h1 h2 => tsz_zero _ _ i h1 h2), d64_map]
theorem cut_fn {a : Option Addr} {c : Nat} {l : List UInt64} {h : Part} (hl : SlR u64R 1 h a c l) : FnR Tryz.prog 97 [.slice a l.length c] h (fun v h' => ∃ a' c', v = .slice a' (cutZ l).length c' ∧ SlR u64R 1 h' a' c' (cutZ l)) := by
  have hll := hl.big
  have hh0 := Part.le.refl h
  refine Fn.intro Tryz.func97 rfl Tryz.ntmps97 rfl (fun e he => ?_)
  refine J.weak [(0, _)] ⟨rfl, trivial⟩ ?_
  refine Sr ?_
  refine Ru 1 rfl ?_
  refine JL.nil ?_
  refine Sr ?_
  refine Ru 3 rfl ?_
  refine JL.nil ?_
  refine J.seq ?_
  refine J.block ?_
  refine J.loop (fun t_ S_ h_ L_ => ∃ (n : Nat), t_ = n + 1 ∧ S_ = [(0, .slice a l.length c), (3, .int .i64 n)] ∧ h = h_ ∧ L_ = [] ∧ (n ≤ l.length ∧ tsz (d64 l) l.length = tsz (d64 l) n)) ⟨_, _, ?_, ⟨l.length, rfl, rfl, rfl, rfl, ⟨Nat.le_refl _, rfl⟩⟩⟩ ?_
  ·
   exact z4_
  rintro _ _ _ _ ⟨n, rfl, rfl, rfl, rfl, hn, he⟩
  refine J.seq ?_
  refine J.seq ?_
  refine J.meet [(15, .bool (decide (0 < n ∧ d64 l (n - 1) = 0)))] [(0, _), (3, _)] ⟨rfl, rfl, trivial⟩ ?_ ?_
  ·
   refine Rg ?_
   refine Ru 3 rfl ?_
   refine Bs 8 rfl (fun hc1 => ?_) fun hc1 => ?_
   ·
    refine Ru 2 rfl ?_
    refine JL.opg rfl rfl  si_ rfl ?_
    refine JL.opeg rfl rfl  (RunE.index sl_66 rfl rfl z9_ (by assumption) rfl (by omega)) rfl ?_
    rintro _ ⟨b2, o2, hi2, rfl, hE2⟩
    refine JL.opg rfl rfl  (RunV.ld_u64 ag_63 rfl (by assumption)) rfl ?_
    rw [d64_at, show ((n : Int) - 1).toNat = n - 1 by omega]
    refine Ru 2 rfl ?_
    refine JL.nil ?_
    refine ⟨rfl, rfl, ?_⟩
    exact z38_
   refine Ru 7 rfl ?_
   refine JL.nil ?_
   refine ⟨rfl, rfl, ?_⟩
   exact z38_
  refine Cs rfl (fun hc4 => ?_) fun hc4 => ?_
  ·
   refine J.skip ?_
   refine J.block ?_
   refine Rg ?_
   refine Ru 1 rfl ?_
   refine JL.op si_ rfl ?_
   refine Ru 1 rfl ?_
   refine JL.nil ?_
   refine ⟨_, ?_, _, ?_, ⟨n - 1, rfl, rfl, rfl, rfl, ⟨by omega, by rw [he, tsz_go _ _ (by omega)]⟩⟩⟩
   ·
    omega
   exact z4_
  have hcz : l.take n = cutZ l := (by unfold cutZ; rw [he, tsz_stop _ _ (by omega)])
  refine J.exit ?_
  refine Sr ?_
  refine Ru 2 rfl ?_
  refine JL.ope (RunE.cut_h sl_66 (m := n) rfl rfl rfl (by assumption) rfl (by omega)) rfl ?_
  rintro _ ⟨a9, c9, rfl, hS9⟩
  rw [hcz] at hS9 ⊢
  refine Ru 1 rfl ?_
  refine Nk [2] rfl ?_
  exact J.retR (RetV.one rfl rfl) ⟨_, _, rfl, hS9⟩
theorem digits32_fn {a : Option Addr} {c : Nat} {l : List UInt32} {h : Part} (hl : SlR u32R 1 h a c l) (hlen : l.length ≤ 1000000) : FnR Tryz.prog 56 [.slice a l.length c] h (fun v h' => ∃ a' c', v = .slice a' (digsB l).length c' ∧ SlR u64R 1 h' a' c' (digsB l)) := by
  have hll := hl.big
  refine Fn.intro Tryz.func56 rfl Tryz.ntmps56 rfl (fun e he => ?_)
  refine J.weak [(0, _)] ⟨rfl, trivial⟩ ?_
  refine Sr ?_
  refine Ru 1 rfl ?_
  refine JL.nil ?_
  refine Sr ?_
  refine Ru 1 rfl ?_
  refine JL.nil ?_
  refine J.seq ?_
  refine Sr ?_
  refine JL.row_nil 63 1 ?_
  refine Ru 1 rfl ?_
  refine JL.nil ?_
  refine J.block ?_
  refine J.loop (fun t_ S_ h_ L_ => ∃ (g : Part) (i : Nat) (ao : Option Addr) (co : Nat) (xs : List Value), t_ = l.length - i ∧ S_ = [(0, .slice a l.length c), (3, .slice ao ((l.map m64).take i).length co), (4, .int .i64 i)] ∧ g = h_ ∧ L_ = [.row ao co 63 1 ((l.map m64).take i).length xs] ∧ (h.le g ∧ i ≤ l.length ∧ CellsR u64R 1 g xs ((l.map m64).take i))) ⟨_, _, ?_, ⟨_, 0, _, _, _, rfl, rfl, rfl, rfl, ⟨Part.le.refl _, by omega, CellsR.nil⟩⟩⟩ ?_
  ·
   exact z7_
  rintro _ _ _ _ ⟨g, i, ao, co, xs, rfl, rfl, rfl, rfl, hhg, hi, hC⟩
  have hl := hl.mono hhg
  refine J.seq ?_
  refine Sr ?_
  refine Ru 4 rfl ?_
  refine JL.nil ?_
  refine Cs rfl (fun hc1 => ?_) fun hc1 => ?_
  ·
   have hi2 : i < l.length := (by omega); have hi' : i < (l.map m64).length := (by rw [List.length_map]; omega); have htl : ((l.map m64).take i).length = i := (by rw [List.length_take, List.length_map]; omega); have hke : (l.map m64).take i ++ [m64 (l[i]'hi2)] = (l.map m64).take (i + 1) := (by rw [List.take_succ_eq_append_getElem hi', List.getElem_map])
   refine J.skip ?_
   refine J.seq ?_
   refine J.block ?_
   refine Rg ?_
   refine Ru 3 rfl ?_
   refine JL.ope (RunE.index sl_30 rfl rfl z9_ (by assumption) rfl (by omega)) rfl ?_
   rintro _ ⟨b2, o2, hi2, rfl, hE2⟩
   refine JL.op (RunV.ld_u32 ag_103 rfl (by assumption)) rfl ?_
   refine JL.op z11_ rfl ?_
   refine JL.lit1 ap_66 zr_63 rfl rfl rfl rfl rfl (fun b4 => ?_)
   refine JL.append1 ap_66 rfl rfl (by assumption) rfl dl_ dl_ rfl ((by show _ = _; rw [m64_nat] : u64R _ [.int .u64 (l[i].toNat : Int)] (m64 l[i]))) z5_ rfl rfl (fun a5 c5 xs5 hC5 hN5 => ?_)
   rw [hke] at *
   refine Ru 1 rfl ?_
   refine JL.nil ?_
   refine Rg ?_
   refine Ru 1 rfl ?_
   refine JL.op ai_ rfl ?_
   refine Ru 1 rfl ?_
   refine JL.nil ?_
   refine ⟨_, ?_, _, ?_, ⟨_, i + 1, _, _, _, rfl, rfl, rfl, rfl, ⟨by assumption, by omega, by assumption⟩⟩⟩
   ·
    omega
   exact z7_
  refine J.exit ?_
  refine Kp [3] rfl ?_
  refine Sr ?_
  refine Ru 1 rfl ?_
  have hke : (l.map m64).take i = l.map m64 := List.take_of_length_le (by rw [List.length_map]; omega); have hml : (l.map m64).length = l.length := List.length_map ..; rw [hke] at hC ⊢; refine JL.pub (R := u64R) dl_ (by assumption) rfl (by omega) (fun h9 hle9 hS9 => ?_); replace hl := hl.mono hle9; replace hC := hC.mono hle9; replace hhg := hhg.mono hle9
  refine JL.callR ca_97 rfl (cut_fn (by assumption)) rfl ?_
  rintro _ h6 hle6 ⟨a6, c6, rfl, hS6⟩
  replace hl := hl.mono hle6
  replace hhg := hhg.mono hle6
  replace hC := hC.mono hle6
  refine Ru 1 rfl ?_
  refine JL.nil ?_
  exact J.retR (RetV.one rfl rfl) ⟨_, _, rfl, by assumption⟩
theorem digit_fn {a : Option Addr} {c i : Nat} {l : List UInt64} {h : Part} (hl : SlR u64R 1 h a c l) : Pure Tryz.prog 57 [.slice a l.length c, .int .i64 i] h (.int .u64 (d64 l i : Nat)) := by
  have hll := hl.big
  refine Fn.intro Tryz.func57 rfl Tryz.ntmps57 rfl (fun e he => ?_)
  refine J.weak [(0, _), (1, _)] ⟨rfl, rfl, trivial⟩ ?_
  refine Sr ?_
  refine Ru 1 rfl ?_
  refine JL.nil ?_
  refine J.seq ?_
  refine Sr ?_
  refine Ru 4 rfl ?_
  refine JL.nil ?_
  refine Cs rfl (fun hc1 => ?_) fun hc1 => ?_
  ·
   refine Sr ?_
   refine Ru 2 rfl ?_
   refine JL.ope (RunE.index sl_66 rfl rfl z9_ (by assumption) rfl (by omega)) rfl ?_
   rintro _ ⟨b2, o2, hi2, rfl, hE2⟩
   refine JL.op (RunV.ld_u64 ag_63 rfl (by assumption)) rfl ?_
   rw [d64_at]
   refine Ru 1 rfl ?_
   refine Nk [4] rfl ?_
   exact J.retP (RetV.one rfl rfl) rfl rfl
  refine J.skip ?_
  refine Kp [4] rfl ?_
  refine Sr ?_
  refine Ru 1 rfl ?_
  refine JL.nil ?_
  exact J.retP (RetV.one rfl rfl) (by rw [d64_out l i (by omega)]; rfl) rfl
theorem digit_fn' {a : Option Addr} {c i : Nat} {q : Int} {l : List UInt64} {h : Part} (hl : SlR u64R 1 h a c l) (hq : q = (i : Int)) : Pure Tryz.prog 57 [.slice a l.length c, .int .i64 q] h (.int .u64 (d64 l i : Nat)) := by
  subst hq; exact digit_fn hl
theorem rbits_fn {a : Option Addr} {c : Nat} {l : List UInt32} {h : Part} (hl : SlR u32R 1 h a c l) (hlen : l.length ≤ 1000000) : FnR Tryz.prog 45 [.slice a l.length c] h (fun v _ => v = .int .i64 (nbits (d32 l) l.length : Nat)) := by
  have hll := hl.big
  have ht := tsz_le (d32 l) l.length
  have hdl := digsB_len l
  refine Fn.intro Tryz.func45 rfl Tryz.ntmps45 rfl (fun e he => ?_)
  refine J.weak [(0, _)] ⟨rfl, trivial⟩ ?_
  have hh0 := Part.le.refl h
  refine Sr ?_
  refine Ru 1 rfl ?_
  refine JL.nil ?_
  refine Sr ?_
  refine Ru 1 rfl ?_
  refine JL.callR ca_56 rfl (digits32_fn (by assumption) (by omega)) rfl ?_
  rintro _ h1 hle1 ⟨a1, c1, rfl, hS1⟩
  replace hl := hl.mono hle1
  replace hh0 := hh0.mono hle1
  refine Ru 1 rfl ?_
  refine JL.nil ?_
  refine J.seq ?_
  refine Sr ?_
  refine Ru 3 rfl ?_
  refine Nk [10, 3, 2] rfl ?_
  refine Cs rfl (fun hc2 => ?_) fun hc2 => ?_
  ·
   have hz : nbits (d32 l) l.length = 0 := if_pos (by omega)
   refine Sr ?_
   refine Ru 1 rfl ?_
   refine JL.nil ?_
   exact J.retR (RetV.one rfl rfl) (by rw [hz]; rfl)
  have hz : nbits (d32 l) l.length = 32 * (tsz (d32 l) l.length - 1) + bl (d32 l (tsz (d32 l) l.length - 1)) := if_neg (by omega); have hb := bl_le32 l (tsz (d32 l) l.length - 1)
  refine J.skip ?_
  refine Sr ?_
  refine Ru 2 rfl ?_
  refine JL.op si_ rfl ?_
  refine JL.op z16_ rfl ?_
  refine Ru 1 rfl ?_
  refine Nk [4, 3, 2] rfl ?_
  refine J.seq ?_
  refine Sr ?_
  refine Ru 3 rfl ?_
  refine JL.op si_ rfl ?_
  refine JL.ope (RunE.index sl_66 rfl rfl z9_ (by assumption) rfl (by omega)) rfl ?_
  rintro _ ⟨b3, o3, hi3, rfl, hE3⟩
  refine JL.op (RunV.ld_u64 ag_63 rfl (by assumption)) rfl ?_
  rw [d64_at, show (((digsB l).length : Int) - 1).toNat = tsz (d32 l) l.length - 1 by omega, digsB_at]
  refine Ru 1 rfl ?_
  refine Nk [5, 4, 2] rfl ?_
  refine J.block ?_
  refine J.loop (fun t_ S_ h_ L_ => ∃ (m : Nat), t_ = m + 1 ∧ S_ = [(4, .int .i64 ((32 * (tsz (d32 l) l.length - 1) + bl (d32 l (tsz (d32 l) l.length - 1)) : Nat) - (bl m : Nat) : Int)), (5, .int .u64 m)] ∧ h1 = h_ ∧ L_ = [] ∧ (m < 4294967296)) ⟨_, _, ?_, ⟨d32 l (tsz (d32 l) l.length - 1), rfl, rfl, rfl, rfl, d32_lt _ _⟩⟩ ?_
  ·
   exact z4_
  rintro _ _ _ _ ⟨m, rfl, rfl, rfl, rfl, hm⟩
  have hbm := bl_le 32 m hm
  refine J.seq ?_
  refine Sr ?_
  refine Ru 2 rfl ?_
  refine JL.nil ?_
  refine Cs rfl (fun hc5 => ?_) fun hc5 => ?_
  ·
   have hbh := bl_half m (by omega)
   refine J.skip ?_
   refine J.seq ?_
   refine J.block ?_
   refine Rg ?_
   refine Ru 1 rfl ?_
   refine JL.op ai_ rfl ?_
   refine Ru 1 rfl ?_
   refine JL.nil ?_
   refine Rg ?_
   refine Ru 1 rfl ?_
   refine JL.op z29_ rfl ?_
   refine Ru 1 rfl ?_
   refine JL.nil ?_
   refine ⟨_, ?_, _, ?_, ⟨m / 2, rfl, rfl, rfl, rfl, by omega⟩⟩
   ·
    omega
   exact z4_
  have hm0 : m = 0 := (by omega); subst hm0
  refine J.exit ?_
  refine Sr ?_
  refine Ru 2 rfl ?_
  refine Nk [2] rfl ?_
  exact J.retR (RetV.one rfl rfl) (by rw [hz]; exact congrArg (Value.int .i64) (by show _ - ((0 : Nat) : Int) = _; omega))
theorem ofNat_mod8 (n : Nat) : UInt8.ofNat (n % 256) = UInt8.ofNat n := by
  apply UInt8.toNat_inj.1
  simp
theorem rwrite_fn {a : Option Addr} {c k : Nat} {l : List UInt32} {h : Part} (hl : SlR u32R 1 h a c l) (hlen : l.length ≤ 1000000) (hk : k ≤ 65536) (hb : nbits (d32 l) l.length ≤ 8 * k) :
    FnR Tryz.prog 23 [.slice a l.length c, .int .i64 k] h (fun v h' => ∃ a' c', v = .tuple #[.slice a' (natW (d32 l) k).length c', .int .i64 0] ∧ SlR u8R 1 h' a' c' (natW (d32 l) k)) := by
  have hll := hl.big
  refine Fn.intro Tryz.func23 rfl Tryz.ntmps23 rfl (fun e he => ?_)
  refine J.weak [(0, _), (1, _)] ⟨rfl, rfl, trivial⟩ ?_
  have hh0 := Part.le.refl h
  refine Sr ?_
  refine Ru 2 rfl ?_
  refine JL.nil ?_
  refine J.seq ?_
  refine Sr ?_
  refine Ru 3 rfl ?_
  apply On 13 16 3 [5, 4, 0, 1] rfl rfl
  rotate_left
  ·
   intro hb1 hc1
   refine Ru 3 rfl ?_
   exact Ae (om_f hb1 rfl) rfl
  rotate_right
  ·
   exact fun hb1 _ => Ru 3 rfl (Ae (om_t hb1 rfl) rfl)
  refine JL.nil ?_
  refine Cs rfl (fun hc2 => ?_) fun hc2 => ?_
  ·
   exfalso; omega
  refine J.skip ?_
  refine Sr ?_
  refine Ru 1 rfl ?_
  refine JL.callR ca_56 rfl (digits32_fn (by assumption) (by omega)) rfl ?_
  rintro _ h3 hle3 ⟨da, dc, rfl, hD⟩
  replace hl := hl.mono hle3
  replace hh0 := hh0.mono hle3
  refine Ru 1 rfl ?_
  refine JL.nil ?_
  refine J.seq ?_
  refine Sr ?_
  refine Ru 1 rfl ?_
  refine JL.callR ca_45 rfl (rbits_fn (by assumption) (by omega)) rfl ?_
  rintro _ h4 hle4 rfl
  replace hl := hl.mono hle4
  replace hh0 := hh0.mono hle4
  replace hD := hD.mono hle4
  refine Ru 1 rfl ?_
  refine JL.op z16_ rfl ?_
  refine Ru 1 rfl ?_
  refine Nk [23, 6, 5, 4, 1] rfl ?_
  refine Cs rfl (fun hc5 => ?_) fun hc5 => ?_
  ·
   exfalso; omega
  refine J.skip ?_
  refine Sr ?_
  refine Ru 1 rfl ?_
  refine JL.make1 mk_22 rfl rfl (m := k) rfl rfl (by omega) rfl rfl (fun b1 => ?_); rw [replicate_u8]
  refine Ru 1 rfl ?_
  refine JL.nil ?_
  refine J.seq ?_
  refine Sr ?_
  refine Ru 1 rfl ?_
  refine JL.nil ?_
  refine J.block ?_
  refine J.loop (fun t_ S_ h_ L_ => ∃ (i : Nat) (out : List UInt8), t_ = k - i ∧ S_ = [(1, .int .i64 k), (6, .slice da (digsB l).length dc), (7, .slice (some ⟨b1, 0, none⟩) k k), (8, .int .i64 i)] ∧ h4 = h_ ∧ L_ = [.row (some ⟨b1, 0, none⟩) k 5 1 k (u8s out)] ∧ (i ≤ k ∧ out = List.replicate (k - i) 0 ++ natW (d32 l) i)) ⟨_, _, ?_, ⟨0, _, rfl, rfl, rfl, rfl, ⟨by omega, by simp [natW]⟩⟩⟩ ?_
  ·
   exact z7_
  rintro _ _ _ _ ⟨i, out, rfl, rfl, rfl, rfl, hi, ho⟩
  refine J.seq ?_
  refine Sr ?_
  refine Ru 3 rfl ?_
  refine JL.nil ?_
  refine Cs rfl (fun hc7 => ?_) fun hc7 => ?_
  ·
   have hol : out.length = k := (by rw [ho, List.length_append, List.length_replicate, natW_len]; omega); have hdl := d32_lt l (i / 4); obtain ⟨m, hm⟩ : ∃ m, k - i = m + 1 := ⟨k - i - 1, by omega⟩; have hset : out.set (k - 1 - i) (wB (d32 l) i) = List.replicate (k - (i + 1)) 0 ++ natW (d32 l) (i + 1) := (by rw [ho, hm, show k - 1 - i = m by omega, set_rep, show k - (i + 1) = m by omega]; rfl)
   refine J.skip ?_
   refine J.seq ?_
   refine J.block ?_
   refine Sr ?_
   refine Ru 2 rfl ?_
   refine JL.op z14_ rfl ?_
   refine JL.callP ca_57 rfl (digit_fn' (i := i / 4) hD (by omega)) rfl ?_
   rw [digsB_at]
   refine Ru 1 rfl ?_
   refine JL.nil ?_
   refine J.seq ?_
   refine Sr ?_
   refine Ru 1 rfl ?_
   refine JL.nil ?_
   refine J.block ?_
   refine J.loop (fun t_ S_ h_ L_ => ∃ (j y : Nat), t_ = i % 4 - j ∧ S_ = [(1, .int .i64 k), (6, .slice da (digsB l).length dc), (7, .slice (some ⟨b1, 0, none⟩) k k), (8, .int .i64 i), (9, .int .u64 (y : Nat)), (10, .int .i64 j)] ∧ h4 = h_ ∧ L_ = [.row (some ⟨b1, 0, none⟩) k 5 1 k (u8s out)] ∧ (j ≤ i % 4 ∧ y = d32 l (i / 4) / 256 ^ j ∧ y < 4294967296)) ⟨_, _, ?_, ⟨0, d32 l (i / 4), rfl, rfl, rfl, rfl, ⟨by omega, by simp, hdl⟩⟩⟩ ?_
   ·
    exact z7_
   rintro _ _ _ _ ⟨j, y, rfl, rfl, rfl, rfl, hj, hy, hy2⟩
   refine J.seq ?_
   refine Sr ?_
   refine Ru 2 rfl ?_
   refine JL.op z23_ rfl ?_
   refine Ru 1 rfl ?_
   refine JL.nil ?_
   refine Cs rfl (fun hc9 => ?_) fun hc9 => ?_
   ·
    refine J.skip ?_
    refine J.seq ?_
    refine J.block ?_
    refine Rg ?_
    refine Ru 1 rfl ?_
    refine JL.op z29_ rfl ?_
    refine Ru 1 rfl ?_
    refine JL.nil ?_
    refine Rg ?_
    refine Ru 1 rfl ?_
    refine JL.op ai_ rfl ?_
    refine Ru 1 rfl ?_
    refine JL.nil ?_
    refine ⟨_, ?_, _, ?_, ⟨j + 1, y / 256, rfl, rfl, rfl, rfl, ⟨by omega, by rw [hy, Nat.pow_succ, ← Nat.div_div_eq_div_mul], by omega⟩⟩⟩
    ·
     omega
    exact z7_
   have hj4 : j = i % 4 := (by omega); subst hj4
   refine J.exit ?_
   refine Rg ?_
   refine Ru 2 rfl ?_
   refine JL.op si_ rfl ?_
   refine Ru 1 rfl ?_
   refine JL.op si_ rfl ?_
   refine Ru 1 rfl ?_
   refine JL.op z42_ rfl ?_
   refine JL.op (RunV.toByte (y % 256) cv_63_5 rfl (by omega)) rfl ?_
   rw [ofNat_mod8, hy]
   refine JL.op (RunV.index_at sl_22 (m := k - 1 - i) rfl rfl (by omega) (by omega)) rfl ?_
   refine JL.storeRow ag_5 rfl rfl rfl dl_ (show k - 1 - i < (u8s out).length by rw [u8s_length]; omega) ?_; rw [u8s_set]
   refine JL.nil ?_
   refine Rg ?_
   refine Ru 1 rfl ?_
   refine JL.op ai_ rfl ?_
   refine Ru 1 rfl ?_
   refine JL.nil ?_
   refine ⟨_, ?_, _, ?_, ⟨i + 1, _, rfl, rfl, rfl, rfl, ⟨by omega, hset⟩⟩⟩
   ·
    omega
   exact z7_
  refine J.exit ?_
  refine Kp [7] rfl ?_
  refine Sr ?_
  have hik : i = k := (by omega); have ho2 : out = natW (d32 l) k := (by rw [ho, hik, Nat.sub_self]; rfl); have hkl := natW_len (d32 l) k; subst ho2; refine JL.pub (R := u8R) (l := natW (d32 l) k) dl_ CellsR.of_u8 (by omega) (by omega) (fun h9 hle9 hS9 => ?_)
  refine Ru 3 rfl ?_
  refine JL.nil ?_
  exact J.retR (RetV.two rfl rfl rfl) ⟨_, _, by rw [hkl], hS9⟩
end Go.Proofs.YtmngjbefnloljaaGreatDoor
namespace Go.Proofs.YtmngjbefnloljaaGreatDoor
open Go Go.RowKit
set_option maxRecDepth 100000
theorem ofNat_mod (n : Nat) : UInt8.ofNat (n % 256) = UInt8.ofNat n := by
  apply UInt8.toNat_inj.1
  simp
theorem nby_gt0 (n j : Nat) (hn : n ≤ 140737488355328) (h0 : 128 ≤ n) (h2 : j ≤ nby n) : 0 < n / 256 ^ j ↔ j < nby n := by
  cases j with
  | zero => have := nby_bd n; simp; omega
  | succ j => exact nby_gt n (j + 1) hn (by omega) h2
theorem length_fn {n : Nat} {h : Part} (hn : n ≤ 140737488355328) : FnR Tryz.prog 105 [.int .i64 n] h (fun v h' => ∃ a c, v = .slice a (lenB n).length c ∧ SlR u8R 1 h' a c (lenB n)) := by
  have hk := nby_bd n
  refine Fn.intro Tryz.func105 rfl Tryz.ntmps105 rfl (fun e he => ?_)
  refine J.weak [(0, _)] ⟨rfl, trivial⟩ ?_
  have hh0 := Part.le.refl h
  refine Sr ?_
  refine Ru 1 rfl ?_
  refine JL.nil ?_
  refine J.seq ?_
  refine Sr ?_
  refine Ru 2 rfl ?_
  refine JL.nil ?_
  refine Cs rfl (fun hc1 => ?_) fun hc1 => ?_
  ·
   have hlb1 : lenB n = [UInt8.ofNat n] := if_pos (by omega)
   refine Sr ?_
   refine Ru 1 rfl ?_
   refine JL.op (RunV.toByte n cv_3_5 rfl rfl) rfl ?_
   refine JL.lit1 ap_22 zr_5 rfl rfl rfl rfl rfl (fun b2 => ?_)
   refine JL.pubB (R := u8R) (sz := 1) (l := [UInt8.ofNat n]) dl_ (cells_lit (by first | kernel_rfl | rfl)) (by first | decide | omega | (simp; done)) (fun h3 hle3 hQ => ?_)
   replace hh0 := hh0.mono hle3
   refine Ru 1 rfl ?_
   refine Nk [2, 0] rfl ?_
   rw [hlb1]; exact J.retR (RetV.one rfl rfl) ⟨some ⟨b2, 0, none⟩, 1, rfl, hQ⟩
  refine J.skip ?_
  refine Sr ?_
  refine Ru 1 rfl ?_
  refine JL.nil ?_
  refine J.seq ?_
  refine J.block ?_
  refine J.loop (fun t_ S_ h_ L_ => ∃ (g : Part) (j : Nat) (la : Option Addr) (lc : Nat), t_ = 7 - j ∧ S_ = [(0, .int .i64 (n / 256 ^ j : Nat)), (3, .slice la (be j n).length lc)] ∧ g = h_ ∧ L_ = [] ∧ (h.le g ∧ j ≤ nby n ∧ SlR u8R 1 g la lc (be j n))) ⟨_, _, ?_, ⟨_, 0, none, 0, rfl, rfl, rfl, rfl, ⟨by assumption, by omega, SlR.nil_⟩⟩⟩ ?_
  ·
   repeat (first | exact trivial | refine ⟨rfl, ?_⟩ | refine ⟨(by exact some_int (by first | (simp; done) | (rw [Nat.pow_succ, ← Nat.div_div_eq_div_mul]; omega))), ?_⟩)
  rintro _ _ _ _ ⟨g, j, la, lc, rfl, rfl, rfl, rfl, hhg, hj, hL⟩
  have hgt := nby_gt0 n j hn (by omega) hj; have hlb := be_len j n; have hlb3 := be_len (j + 1) n; have hle := Nat.div_le_self n (256 ^ j)
  refine J.seq ?_
  refine Sr ?_
  refine Ru 2 rfl ?_
  refine JL.nil ?_
  refine Cs rfl (fun hc4 => ?_) fun hc4 => ?_
  ·
   refine J.skip ?_
   refine J.block ?_
   refine Sr ?_
   refine Ru 1 rfl ?_
   refine JL.nil ?_
   refine Sr ?_
   refine Ru 2 rfl ?_
   refine JL.op z23_ rfl ?_
   refine JL.op (RunV.toByte (n / 256 ^ j % 256) cv_3_5 rfl (by omega)) rfl ?_
   rw [ofNat_mod]
   refine JL.lit1 ap_22 zr_5 rfl rfl rfl rfl rfl (fun b5 => ?_)
   refine JL.row_nil 5 1 ?_
   refine JL.append1 ap_22 rfl rfl (CellsR.nil (R := u8R)) rfl dl_ dl_ rfl (rfl) z5_ rfl rfl (fun a6 c6 xs6 hC6 hN6 => ?_)
   obtain rfl := hC6.u8
   refine Ru 1 rfl ?_
   refine JL.nil ?_
   refine Sr ?_
   refine Ru 2 rfl ?_
   refine JL.append ap_22 rfl rfl CellsR.of_u8 rfl (by assumption) rfl dl_ z5_ rfl rfl (fun a7 c7 xs7 hC7 hN7 => ?_)
   obtain rfl := hC7.u8
   refine JL.pub (R := u8R) (l := be (j + 1) n) dl_ CellsR.of_u8 rfl z5_ (fun h8 hle8 hP8 => ?_)
   replace hhg := hhg.mono hle8
   replace hL := hL.mono hle8
   refine Ru 1 rfl ?_
   refine JL.nil ?_
   refine Rg ?_
   refine Ru 1 rfl ?_
   refine JL.op z14_ rfl ?_
   refine Ru 1 rfl ?_
   refine JL.nil ?_
   refine ⟨_, ?_, _, ?_, ⟨_, j + 1, _, _, rfl, rfl, rfl, rfl, ⟨by assumption, by omega, by assumption⟩⟩⟩
   ·
    omega
   repeat (first | exact trivial | refine ⟨rfl, ?_⟩ | refine ⟨(by exact some_int (by first | (simp; done) | (rw [Nat.pow_succ, ← Nat.div_div_eq_div_mul]; omega))), ?_⟩)
  have hjn : j = nby n := (by omega); subst hjn; have hlb1 : lenB n = UInt8.ofNat (128 + nby n) :: be (nby n) n := if_neg (by omega)
  refine J.exit ?_
  refine Sr ?_
  refine Ru 2 rfl ?_
  refine JL.op ai_ rfl ?_
  refine JL.op (RunV.toByte (128 + nby n) cv_3_5 rfl (by rw [hlb]; omega)) rfl ?_
  refine JL.lit1 ap_22 zr_5 rfl rfl rfl rfl rfl (fun b9 => ?_)
  refine Ru 1 rfl ?_
  refine Nk [5, 3] rfl ?_
  refine Sr ?_
  refine Ru 2 rfl ?_
  refine JL.rowB (b := b9) dl_ ?_
  refine JL.append ap_22 rfl rfl CellsR.of_u8 rfl (by assumption) rfl dl_ z5_ rfl rfl (fun a10 c10 xs10 hC10 hN10 => ?_)
  obtain rfl := hC10.u8
  refine JL.pub (R := u8R) (l := UInt8.ofNat (128 + nby n) :: be (nby n) n) dl_ CellsR.of_u8 rfl z5_ (fun h11 hle11 hP11 => ?_)
  replace hhg := hhg.mono hle11
  replace hL := hL.mono hle11
  refine Ru 1 rfl ?_
  refine Nk [2] rfl ?_
  rw [hlb1]; exact J.retR (RetV.one rfl rfl) ⟨_, _, rfl, by assumption⟩
end Go.Proofs.YtmngjbefnloljaaGreatDoor
namespace Go.Proofs.YtmngjbefnloljaaGreatDoor
open Go Go.RowKit
set_option maxRecDepth 100000
theorem ap_30 : apT Tryz.prog 30 = some (103, 1, 4) := by kernel_rfl
theorem ca_143 : callT Tryz.prog 143 = true := by kernel_rfl
theorem ca_23 : callT Tryz.prog 23 = true := by kernel_rfl
theorem ca_43 : callT Tryz.prog 43 = true := by kernel_rfl
theorem ca_58 : callT Tryz.prog 58 = true := by kernel_rfl
theorem ca_77 : callT Tryz.prog 77 = true := by kernel_rfl
theorem cv_63_103 : convI Tryz.prog 63 103 = some .u32 := by kernel_rfl
theorem zr_103 : zeroT Tryz.prog 103 = some [.int .u32 0] := by kernel_rfl
theorem nbits_le (l : List UInt32) : nbits (d32 l) l.length ≤ 32 * l.length := by
  have h := tsz_le (d32 l) l.length
  have hb := bl_le32 l (tsz (d32 l) l.length - 1)
  unfold nbits; split <;> omega
def natN (l : List UInt32) : Nd := .mk 0 2 false (natW (d32 l) (nbits (d32 l) l.length / 8 + 1)) []
theorem natwrite_fn' {a : Option Addr} {c k : Nat} {q : Int} {l : List UInt32} {h : Part} (hl : SlR u32R 1 h a c l) (hq : q = (k : Int)) (hk : k ≤ 65536) (hb : (nbits (d32 l) l.length + 7) / 8 ≤ k) :
    FnR Tryz.prog 43 [.slice a l.length c, .int .i64 q] h (fun v h' => ∃ a' c', v = .tuple #[.slice a' (natW (d32 l) k).length c', .int .i64 0] ∧ SlR u8R 1 h' a' c' (natW (d32 l) k)) := by
  subst hq; exact natwrite_fn hl hk hb
theorem rwrite_fn' {a : Option Addr} {c k : Nat} {q : Int} {l : List UInt32} {h : Part} (hl : SlR u32R 1 h a c l) (hlen : l.length ≤ 1000000) (hq : q = (k : Int)) (hk : k ≤ 65536) (hb : nbits (d32 l) l.length ≤ 8 * k) :
    FnR Tryz.prog 23 [.slice a l.length c, .int .i64 q] h (fun v h' => ∃ a' c', v = .tuple #[.slice a' (natW (d32 l) k).length c', .int .i64 0] ∧ SlR u8R 1 h' a' c' (natW (d32 l) k)) := by
  subst hq; exact rwrite_fn hl hlen hk hb
theorem dernat_fn {a : Option Addr} {c : Nat} {l : List UInt32} {h : Part} (hl : SlR u32R 1 h a c l) (hlen : l.length ≤ 60) : FnR Tryz.prog 63 [.slice a l.length c] h (fun v h' => ∃ cs, v = .agg (List.toArray cs) ∧ NdR h' cs (natN l)) := by
  have hnb := nbits_le l
  refine Fn.intro Tryz.func63 rfl Tryz.ntmps63 rfl (fun e he => ?_)
  refine J.weak [(0, _)] ⟨rfl, trivial⟩ ?_
  have hh0 := Part.le.refl h
  refine Sr ?_
  refine JL.alloc zr_75 rfl (fun b1 => ?_)
  refine JL.nil ?_
  refine J.seq ?_
  refine Sr ?_
  refine Ru 1 rfl ?_
  refine JL.callP ca_40 rfl (natbits_fn (by assumption)) rfl ?_
  refine Ru 1 rfl ?_
  refine JL.nil ?_
  refine Cs rfl (fun hc3 => ?_) fun hc3 => ?_
  ·
   exfalso; omega
  refine J.skip ?_
  refine Sr ?_
  refine Ru 2 rfl ?_
  refine JL.callP ca_40 rfl (natbits_fn (by assumption)) rfl ?_
  refine JL.op z14_ rfl ?_
  refine JL.op ai_ rfl ?_
  refine JL.callR ca_43 rfl (natwrite_fn' (k := nbits (d32 l) l.length / 8 + 1) (by assumption) (by omega) (by omega) (by omega)) rfl ?_
  rintro _ h5 hle5 ⟨wa, wc, rfl, hW⟩
  replace hl := hl.mono hle5
  replace hh0 := hh0.mono hle5
  refine Ru 5 rfl ?_
  refine Nk [3, 2] rfl ?_
  refine Sr ?_
  refine Ru 1 rfl ?_
  refine JL.callR ca_77 rfl (prim_fn (by assumption)) rfl ?_
  rintro _ h6 hle6 ⟨w6, rfl, hNd6⟩
  replace hl := hl.mono hle6
  replace hh0 := hh0.mono hle6
  replace hW := hW.mono hle6
  refine JL.storeA ag_75 rfl rfl dl_ z22_ z17_ z6_ ?_
  refine JL.nil ?_
  exact J.retR (RetV.cell rfl rfl ag_75 mm_ z6_) ⟨_, rfl, by assumption⟩
theorem rnat_fn {a : Option Addr} {c : Nat} {l : List UInt32} {h : Part} (hl : SlR u32R 1 h a c l) (hlen : l.length ≤ 60) : FnR Tryz.prog 67 [.slice a l.length c] h (fun v h' => ∃ cs, v = .agg (List.toArray cs) ∧ NdR h' cs (natN l)) := by
  have hnb := nbits_le l
  refine Fn.intro Tryz.func67 rfl Tryz.ntmps67 rfl (fun e he => ?_)
  refine J.weak [(0, _)] ⟨rfl, trivial⟩ ?_
  have hh0 := Part.le.refl h
  refine Sr ?_
  refine JL.alloc zr_75 rfl (fun b1 => ?_)
  refine JL.nil ?_
  refine J.seq ?_
  refine Sr ?_
  refine Ru 1 rfl ?_
  refine JL.callR ca_45 rfl (rbits_fn (by assumption) (by omega)) rfl ?_
  rintro _ h2 hle2 rfl
  replace hl := hl.mono hle2
  replace hh0 := hh0.mono hle2
  refine Ru 1 rfl ?_
  refine JL.nil ?_
  refine Cs rfl (fun hc3 => ?_) fun hc3 => ?_
  ·
   exfalso; omega
  refine J.skip ?_
  refine Sr ?_
  refine Ru 2 rfl ?_
  refine JL.callR ca_45 rfl (rbits_fn (by assumption) (by omega)) rfl ?_
  rintro _ h4 hle4 rfl
  replace hl := hl.mono hle4
  replace hh0 := hh0.mono hle4
  refine JL.op z14_ rfl ?_
  refine JL.op ai_ rfl ?_
  refine JL.callR ca_23 rfl (rwrite_fn' (k := nbits (d32 l) l.length / 8 + 1) (by assumption) (by omega) (by omega) (by omega) (by omega)) rfl ?_
  rintro _ h5 hle5 ⟨wa, wc, rfl, hW⟩
  replace hl := hl.mono hle5
  replace hh0 := hh0.mono hle5
  refine Ru 5 rfl ?_
  refine Nk [3, 2] rfl ?_
  refine Sr ?_
  refine Ru 1 rfl ?_
  refine JL.op (RunV.build (cs := [.int .i64 0, _, .bool false, _, .slice none 0 0]) pl_75 rfl rfl) rfl ?_
  refine JL.storeA ag_75 rfl rfl dl_ z22_ z17_ z6_ ?_
  refine JL.nil ?_
  exact J.retR (RetV.cell rfl rfl ag_75 mm_ z6_) ⟨_, rfl, NdR.of hW SlR.nil_⟩
def fitI (n : Int) (j : Nat) : Prop := -128 ≤ n / 256 ^ (j - 1) ∧ n / 256 ^ (j - 1) < 128
instance (n : Int) (j : Nat) : Decidable (fitI n j) := by unfold fitI; infer_instance
def trimL (l : List UInt32) : List UInt32 := l.take (tsz (d32 l) l.length)
theorem take_next {l r : List UInt32} {i : Nat} (h : l.take i = r.take i) (hl : i < l.length) (hr : i < r.length) (he : l[i].toNat = r[i].toNat) : l.take (i + 1) = r.take (i + 1) := by
  rw [List.take_succ_eq_append_getElem hl, List.take_succ_eq_append_getElem hr, h, UInt32.toNat_inj.1 he]
theorem natsame_fn {a b : Option Addr} {ca cb : Nat} {l r : List UInt32} {h : Part} (hl : SlR u32R 1 h a ca l) (hr : SlR u32R 1 h b cb r) : Pure Tryz.prog 72 [.slice a l.length ca, .slice b r.length cb] h (.bool (decide (l = r))) := by
  have hll := hl.big
  refine Fn.intro Tryz.func72 rfl Tryz.ntmps72 rfl (fun e he => ?_)
  refine J.weak [(0, _), (1, _)] ⟨rfl, rfl, trivial⟩ ?_
  refine Sr ?_
  refine Ru 1 rfl ?_
  refine JL.nil ?_
  refine J.seq ?_
  refine Sr ?_
  refine Ru 5 rfl ?_
  refine JL.nil ?_
  refine Cs rfl (fun hc1 => ?_) fun hc1 => ?_
  ·
   refine Sr ?_
   refine Ru 1 rfl ?_
   refine Nk [4, 0, 1] rfl ?_
   exact J.retP (RetV.one rfl rfl) (by rw [decide_eq_false (fun e => by subst e; omega)]) rfl
  refine J.skip ?_
  refine Kp [4, 0, 1] rfl ?_
  refine J.seq ?_
  refine Sr ?_
  refine Ru 1 rfl ?_
  refine JL.nil ?_
  refine J.block ?_
  refine J.loop (fun t_ S_ h_ L_ => ∃ (i : Nat), t_ = l.length - i ∧ S_ = [(0, .slice a l.length ca), (1, .slice b r.length cb), (5, .int .i64 i)] ∧ h = h_ ∧ L_ = [] ∧ (i ≤ l.length ∧ l.take i = r.take i)) ⟨_, _, ?_, ⟨0, rfl, rfl, rfl, rfl, ⟨by omega, rfl⟩⟩⟩ ?_
  ·
   exact z7_
  rintro _ _ _ _ ⟨i, rfl, rfl, rfl, rfl, hi, he⟩
  refine J.seq ?_
  refine Sr ?_
  refine Ru 4 rfl ?_
  refine JL.nil ?_
  refine Cs rfl (fun hc2 => ?_) fun hc2 => ?_
  ·
   refine J.skip ?_
   refine J.seq ?_
   refine J.block ?_
   refine J.seq ?_
   refine J.drawn mixed_ (by kernel_rfl) ?_
   refine Rq 2 rfl ?_
   refine JQ.ope (RunE.index sl_30 (m := i) rfl rfl rfl hl rfl (by omega)) rfl ?_
   rintro _ ⟨b8, o8, hi8, rfl, hE8⟩
   refine JQ.op (RunV.ld_u32 ag_103 rfl (by assumption)) rfl ?_
   refine Rq 2 rfl ?_
   refine JQ.ope (RunE.index sl_30 (m := i) rfl rfl rfl hr rfl (by omega)) rfl ?_
   rintro _ ⟨b9, o9, hi9, rfl, hE9⟩
   refine JQ.op (RunV.ld_u32 ag_103 rfl (by assumption)) rfl ?_
   refine Rq 1 rfl ?_
   refine JQ.nil ?_
   refine Cs rfl (fun hc7 => ?_) fun hc7 => ?_
   ·
    refine Sr ?_
    refine Ru 1 rfl ?_
    refine JL.nil ?_
    exact J.retP (RetV.one rfl rfl) (by rw [decide_eq_false (fun e => by subst e; simp_all)]) rfl
   refine J.skip ?_
   refine Rg ?_
   refine Ru 1 rfl ?_
   refine JL.op ai_ rfl ?_
   refine Ru 1 rfl ?_
   refine JL.nil ?_
   refine ⟨_, ?_, _, ?_, ⟨i + 1, rfl, rfl, rfl, rfl, ⟨by omega, take_next he (by omega) (by omega) (by omega)⟩⟩⟩
   ·
    omega
   exact z7_
  refine J.exit ?_
  refine Kp [] rfl ?_
  refine Sr ?_
  refine Ru 1 rfl ?_
  refine JL.nil ?_
  exact J.retP (RetV.one rfl rfl) (by rw [decide_eq_true (by rw [← List.take_of_length_le (show l.length ≤ i by omega), he, List.take_of_length_le (by omega)])]) rfl
def n32 (x : UInt64) : UInt32 := UInt32.ofNat x.toNat
theorem n32_m64 (x : UInt32) : n32 (m64 x) = x := by
  unfold n32; rw [m64_nat]; simp
theorem n32_nat (x : UInt64) (h : x.toNat < 4294967296) : (n32 x).toNat = x.toNat := by
  unfold n32; rw [UInt32.toNat_ofNat']; omega
theorem cutZ_len (l : List UInt64) : (cutZ l).length ≤ l.length := by unfold cutZ; rw [List.length_take]; omega
theorem cutZ_at (l : List UInt64) (i : Nat) : d64 (cutZ l) i = d64 l i := d64_take _ _ _ (fun i h1 h2 => tsz_zero _ _ i h1 h2)
theorem number_fn {a : Option Addr} {c : Nat} {L : List UInt64} {h : Part} (hl : SlR u64R 1 h a c L) (hd : ∀ i, d64 L i < 4294967296) (hlen : L.length ≤ 1000000) : FnR Tryz.prog 58 [.slice a L.length c] h (fun v h' => ∃ a' c', v = .slice a' ((cutZ L).map n32).length c' ∧ SlR u32R 1 h' a' c' ((cutZ L).map n32)) := by
  have hcl := cutZ_len L
  obtain ⟨K, hK⟩ : ∃ K, K = cutZ L := ⟨_, rfl⟩
  have hdK : ∀ i, d64 K i < 4294967296 := fun i => by rw [hK, cutZ_at]; exact hd i
  rw [← hK] at hcl ⊢
  have hml : (K.map n32).length = K.length := List.length_map ..
  refine Fn.intro Tryz.func58 rfl Tryz.ntmps58 rfl (fun e he => ?_)
  refine J.weak [(0, _)] ⟨rfl, trivial⟩ ?_
  refine Sr ?_
  refine Ru 1 rfl ?_
  refine JL.nil ?_
  refine Sr ?_
  refine Ru 1 rfl ?_
  refine JL.callR ca_97 rfl ((hK ▸ cut_fn (by assumption) : FnR _ _ _ _ (fun v h' => ∃ a' c', v = .slice a' K.length c' ∧ SlR u64R 1 h' a' c' K))) rfl ?_
  rintro _ h1 hle1 ⟨da, dc, rfl, hD⟩
  replace hl := hl.mono hle1
  refine Ru 1 rfl ?_
  refine JL.nil ?_
  refine Sr ?_
  refine Ru 1 rfl ?_
  refine JL.nil ?_
  refine J.seq ?_
  refine Sr ?_
  refine JL.row_nil 103 1 ?_
  refine Ru 1 rfl ?_
  refine JL.nil ?_
  refine J.block ?_
  refine J.loop (fun t_ S_ h_ L_ => ∃ (g : Part) (i : Nat) (ao : Option Addr) (co : Nat) (xs : List Value), t_ = K.length - i ∧ S_ = [(0, .slice da K.length dc), (3, .slice ao ((K.map n32).take i).length co), (4, .int .i64 i)] ∧ g = h_ ∧ L_ = [.row ao co 103 1 ((K.map n32).take i).length xs] ∧ (h1.le g ∧ i ≤ K.length ∧ CellsR u32R 1 g xs ((K.map n32).take i))) ⟨_, _, ?_, ⟨_, 0, _, _, _, rfl, rfl, rfl, rfl, ⟨Part.le.refl _, by omega, CellsR.nil⟩⟩⟩ ?_
  ·
   exact z7_
  rintro _ _ _ _ ⟨g, i, ao, co, xs, rfl, rfl, rfl, rfl, hhg, hi, hC⟩
  have hD := hD.mono hhg
  refine J.seq ?_
  refine Sr ?_
  refine Ru 4 rfl ?_
  refine JL.nil ?_
  refine Cs rfl (fun hc2 => ?_) fun hc2 => ?_
  ·
   have hi2 : i < K.length := (by omega); have hi' : i < (K.map n32).length := (by omega); have htl : ((K.map n32).take i).length = i := (by rw [List.length_take]; omega); have hke : (K.map n32).take i ++ [n32 (K[i]'hi2)] = (K.map n32).take (i + 1) := (by rw [List.take_succ_eq_append_getElem hi', List.getElem_map]); have hki : (K[i]'hi2).toNat < 4294967296 := (by have := hdK i; have e := d64_at K i hi2; omega)
   refine J.skip ?_
   refine J.seq ?_
   refine J.block ?_
   refine Rg ?_
   refine Ru 3 rfl ?_
   refine JL.ope (RunE.index sl_66 rfl rfl z9_ (by assumption) rfl (by omega)) rfl ?_
   rintro _ ⟨b3, o3, hi3, rfl, hE3⟩
   refine JL.op (RunV.ld_u64 ag_63 rfl (by assumption)) rfl ?_
   refine JL.op (by first | exact RunV.conv_u32 cv_63_103 rfl (by omega) (by omega) | exact RunV.conv cv_63_103 rfl) rfl ?_
   refine JL.lit1 ap_30 zr_103 rfl rfl rfl rfl rfl (fun b5 => ?_)
   refine JL.append1 ap_30 rfl rfl (by assumption) rfl dl_ dl_ rfl ((by show _ = _; rw [n32_nat _ hki] : u32R _ [.int .u32 (K[i].toNat : Int)] (n32 K[i]))) z5_ rfl rfl (fun a6 c6 xs6 hC6 hN6 => ?_)
   rw [hke] at *
   refine Ru 1 rfl ?_
   refine JL.nil ?_
   refine Rg ?_
   refine Ru 1 rfl ?_
   refine JL.op ai_ rfl ?_
   refine Ru 1 rfl ?_
   refine JL.nil ?_
   refine ⟨_, ?_, _, ?_, ⟨_, i + 1, _, _, _, rfl, rfl, rfl, rfl, ⟨by assumption, by omega, by assumption⟩⟩⟩
   ·
    omega
   exact z7_
  refine J.exit ?_
  refine Kp [3] rfl ?_
  refine Sr ?_
  refine Ru 1 rfl ?_
  have hke : (K.map n32).take i = K.map n32 := List.take_of_length_le (by omega); rw [hke] at hC ⊢; refine JL.pub (R := u32R) dl_ (by assumption) rfl (by omega) (fun h9 hle9 hS9 => ?_)
  refine Ru 1 rfl ?_
  refine JL.nil ?_
  exact J.retR (RetV.one rfl rfl) ⟨_, _, rfl, by assumption⟩
theorem whole_fn {c t : Int} {k : Bool} {bs : List UInt8} {ks : List Nd} {cs : List Value} {h : Part} (r : NdR h cs (.mk c t k bs ks)) (hT : Tabs h) (hsz : (Nd.mk c t k bs ks).sz ≤ 1073741824) :
    Pure Tryz.prog 109 [.agg cs.toArray] h (.bool ((decide (c = 0) && (decide (t = 2) || decide (t = 10))) && (Nd.mk c t k bs ks).put.isSome)) := by
  obtain ⟨ka, kca, kb, kcb, rfl, hka, hkb⟩ := r.inv
  refine Pure.ofV ?_
  refine Fn.intro Tryz.func109 rfl Tryz.ntmps109 rfl (fun e he => ?_)
  refine J.weak [(0, _)] ⟨rfl, trivial⟩ ?_
  refine Sr ?_
  refine JL.box rfl rfl rfl (fun b1 => ?_)
  refine Ru 1 rfl ?_
  refine JL.nil ?_
  refine Sr ?_
  refine Ru 1 rfl ?_
  refine JL.op (RunV.own1 ag_3 rfl mm_ rfl) rfl ?_
  refine Ru 2 rfl ?_
  apply An 6 15 9 [2, 1] rfl rfl
  ·
   intro hb2 hc2
   refine Ru 1 rfl ?_
   refine JL.opg rfl rfl  (RunV.own1 ag_3 rfl mm_ rfl) rfl ?_
   refine Ru 2 rfl ?_
   apply On 10 14 4 [6, 2, 1] rfl rfl
   rotate_left
   ·
    intro hb3 hc3
    refine Ru 1 rfl ?_
    refine JL.opg rfl rfl  (RunV.own1 ag_3 rfl mm_ rfl) rfl ?_
    refine Ru 2 rfl ?_
    exact Ae (om_f hb3 rfl) rfl
   rotate_right
   ·
    exact fun hb3 _ => Ru 4 rfl (Ae (om_t hb3 rfl) rfl)
   refine Ru 1 rfl ?_
   exact Ae (am_t hb2 rfl) rfl
  ·
   exact fun hb2 _ => Ru 9 rfl (Ae (am_f hb2 rfl) rfl)
  refine Ru 1 rfl ?_
  apply An 16 19 3 [2] rfl rfl
  ·
   intro hb4 hc4
   refine JL.opg rfl rfl  (RunV.ownA ag_75 rfl mm_ z6_) rfl ?_
   refine JL.callPg rfl rfl  ca_143 rfl (right_fn r hT hsz) rfl ?_
   refine Ru 1 rfl ?_
   exact Ae (am_t hb4 rfl) rfl
  ·
   exact fun hb4 _ => Ru 3 rfl (Ae (am_f hb4 rfl) rfl)
  refine Ru 1 rfl ?_
  refine JL.nil ?_
  exact J.retV (RetV.one rfl rfl) rfl
end Go.Proofs.YtmngjbefnloljaaGreatDoor
namespace Go.Proofs.YtmngjbefnloljaaGreatDoor
open Go Go.RowKit
set_option maxRecDepth 100000
def vL : List UInt32 → Nat
  | [] => 0
  | x :: r => x.toNat + 4294967296 * vL r
theorem vL_append (l r : List UInt32) : vL (l ++ r) = vL l + 4294967296 ^ l.length * vL r := by
  induction l with
  | nil => simp [vL]
  | cons x t ih =>
    simp only [List.cons_append, vL, ih, List.length_cons, Nat.pow_succ]
    rw [Nat.mul_add, ← Nat.mul_assoc, Nat.mul_comm (4294967296 ^ t.length), Nat.add_assoc]
theorem vL_lt (l : List UInt32) : vL l < 4294967296 ^ l.length := by
  induction l with
  | nil => simp [vL]
  | cons x t ih =>
    have hx := UInt32.toNat_lt x
    simp only [vL, List.length_cons, Nat.pow_succ]
    omega
theorem vL_set (l : List UInt32) (i : Nat) (x : UInt32) (h : i < l.length) : vL (l.set i x) + d32 l i * 4294967296 ^ i = vL l + x.toNat * 4294967296 ^ i := by
  induction l generalizing i with
  | nil => simp at h
  | cons y t ih =>
    cases i with
    | zero => simp [vL, d32]; omega
    | succ i =>
      have := ih i (by simpa using h)
      simp only [List.set_cons_succ, vL, Nat.pow_succ]
      have e : d32 (y :: t) (i + 1) = d32 t i := rfl
      rw [e, ← Nat.mul_assoc, ← Nat.mul_assoc]
      omega
theorem vL_digit (l : List UInt32) (i : Nat) : vL l / 4294967296 ^ i % 4294967296 = d32 l i := by
  induction l generalizing i with
  | nil => simp [vL, d32]
  | cons y t ih =>
    have hy := UInt32.toNat_lt y
    cases i with
    | zero => simp only [vL, Nat.pow_zero, Nat.div_one]; show _ = y.toNat; omega
    | succ i =>
      have e : d32 (y :: t) (i + 1) = d32 t i := rfl
      rw [e, ← ih i, Nat.pow_succ, Nat.mul_comm (4294967296 ^ i), ← Nat.div_div_eq_div_mul]
      congr 2
      simp only [vL]
      omega
theorem vL_take_drop (l : List UInt32) (k : Nat) (h : k ≤ l.length) : vL l = vL (l.take k) + 4294967296 ^ k * vL (l.drop k) := by
  have := vL_append (l.take k) (l.drop k)
  rw [List.take_append_drop, List.length_take, Nat.min_eq_left h] at this
  exact this
theorem vL_zero (l : List UInt32) (h : ∀ i, i < l.length → d32 l i = 0) : vL l = 0 := by
  induction l with
  | nil => rfl
  | cons x t ih =>
    have h0 : x.toNat = 0 := h 0 (by simp)
    have := ih (fun i hi => h (i + 1) (by simpa using hi))
    simp only [vL]; omega
theorem d32_drop (l : List UInt32) (k i : Nat) : d32 (l.drop k) i = d32 l (k + i) := by
  unfold d32; simp
def digN : Nat → Nat → List UInt32
  | 0, _ => []
  | m + 1, v => UInt32.ofNat v :: digN m (v / 4294967296)
theorem digN_len (m v : Nat) : (digN m v).length = m := by induction m generalizing v with
  | zero => rfl
  | succ m ih => simp [digN, ih]
theorem vL_digN (m v : Nat) : vL (digN m v) = v % 4294967296 ^ m := by
  induction m generalizing v with
  | zero => simp [vL, digN, Nat.mod_one]
  | succ m ih =>
    simp only [digN, vL, ih, UInt32.toNat_ofNat']
    rw [show (4294967296 : Nat) ^ (m + 1) = 4294967296 * 4294967296 ^ m by rw [Nat.pow_succ, Nat.mul_comm], Nat.mod_mul]
theorem digN_vL (l : List UInt32) : digN l.length (vL l) = l := by
  induction l with
  | nil => rfl
  | cons x t ih =>
    have hx := UInt32.toNat_lt x
    simp only [List.length_cons, digN, vL]
    rw [show (x.toNat + 4294967296 * vL t) / 4294967296 = vL t by omega, ih]
    congr 1
    apply UInt32.toNat_inj.1
    rw [UInt32.toNat_ofNat']
    omega
theorem vL_inj {l r : List UInt32} (h : l.length = r.length) (e : vL l = vL r) : l = r := by
  rw [← digN_vL l, ← digN_vL r, h, e]
theorem digN_at (m v i : Nat) (h : i < m) : d32 (digN m v) i = v / 4294967296 ^ i % 4294967296 := by
  rw [← vL_digit, vL_digN]
  obtain ⟨k, rfl⟩ : ∃ k, m = i + (k + 1) := ⟨m - i - 1, by omega⟩
  rw [Nat.pow_add, Nat.mod_mul_right_div_self, Nat.pow_succ, Nat.mod_mul_left_mod]
theorem lt_bl (n : Nat) : n < 2 ^ bl n := by
  unfold bl
  split
  · rename_i h; subst h; decide
  · exact Nat.lt_log2_self
theorem bl_ge (n k : Nat) (h : 2 ^ k ≤ n) : k + 1 ≤ bl n := by
  rcases Nat.lt_or_ge k (bl n) with h1 | h1
  · exact h1
  · have h2 := lt_bl n
    have := Nat.pow_le_pow_right (show 0 < 2 by decide) h1
    omega
theorem bl_pos (n : Nat) (h : 0 < n) : 2 ^ (bl n - 1) ≤ n ∧ 1 ≤ bl n := by
  unfold bl
  rw [if_neg (by omega)]
  exact ⟨Nat.log2_self_le (by omega), by omega⟩
def nd (n : Nat) : Nat := (bl n + 31) / 32
def toL (n : Nat) : List UInt32 := digN (nd n) n
theorem pow32 (k : Nat) : (4294967296 : Nat) ^ k = 2 ^ (32 * k) := by rw [Nat.pow_mul]
theorem lt_nd (n : Nat) : n < 4294967296 ^ nd n := by
  rw [pow32]
  exact Nat.lt_of_lt_of_le (lt_bl n) (Nat.pow_le_pow_right (by decide) (by unfold nd; omega))
theorem vL_toL (n : Nat) : vL (toL n) = n := by
  unfold toL
  rw [vL_digN, Nat.mod_eq_of_lt (lt_nd n)]
theorem nd_eq (n t : Nat) (h : n < 4294967296 ^ (t + 1)) (h0 : 4294967296 ^ t ≤ n) : nd n = t + 1 := by
  rw [pow32] at h h0
  have h1 := bl_le _ _ h
  have h2 := bl_ge _ _ h0
  unfold nd; omega
theorem nd_le (n t : Nat) (h : n < 4294967296 ^ t) : nd n ≤ t := by
  rw [pow32] at h
  have h1 := bl_le _ _ h
  unfold nd; omega
theorem toL_len (n : Nat) : (toL n).length = nd n := digN_len _ _
theorem nd_zero : nd 0 = 0 := rfl
theorem nd_pos (n : Nat) (h : 0 < n) : 4294967296 ^ (nd n - 1) ≤ n ∧ 1 ≤ nd n := by
  have h1 := bl_pos n h
  rw [pow32]
  exact ⟨Nat.le_trans (Nat.pow_le_pow_right (by decide) (by unfold nd; omega)) h1.1, by unfold nd; omega⟩
theorem vL_tsz (l : List UInt32) : vL l = vL (trimL l) := by
  have ht := tsz_le (d32 l) l.length
  have hz : vL (l.drop (tsz (d32 l) l.length)) = 0 := vL_zero _ (fun i hi => by
    rw [d32_drop]
    rw [List.length_drop] at hi
    exact tsz_zero (d32 l) l.length _ (by omega) (by omega))
  rw [vL_take_drop l _ ht, hz]
  rfl
theorem d32_take (l : List UInt32) (k i : Nat) (h : i < k) : d32 (l.take k) i = d32 l i := by
  unfold d32; simp [h]
theorem tsz_nd (l : List UInt32) : tsz (d32 l) l.length = nd (vL l) := by
  have ht := tsz_le (d32 l) l.length
  have htop := tsz_top (d32 l) l.length
  have hlt := vL_lt (trimL l)
  have hlen : (trimL l).length = tsz (d32 l) l.length := by unfold trimL; rw [List.length_take]; omega
  rw [vL_tsz l]
  cases hk : tsz (d32 l) l.length with
  | zero =>
    have : trimL l = [] := List.eq_nil_of_length_eq_zero (by omega)
    rw [this]; rfl
  | succ t =>
    rw [hk] at htop hlen
    have h0 := htop (by omega)
    rw [show t + 1 - 1 = t from rfl] at h0
    have h1 : vL (trimL l) / 4294967296 ^ t % 4294967296 ≠ 0 := by
      rw [vL_digit]; unfold trimL; rw [hk, d32_take _ _ _ (by omega)]; exact h0
    rw [hlen] at hlt
    refine (nd_eq _ _ hlt ?_).symm
    rcases Nat.lt_or_ge (vL (trimL l)) (4294967296 ^ t) with h2 | h2
    · rw [Nat.div_eq_of_lt h2] at h1; simp at h1
    · exact h2
theorem trim_toL (l : List UInt32) : trimL l = toL (vL l) := by
  have ht := tsz_le (d32 l) l.length
  have hlen : (trimL l).length = nd (vL l) := by unfold trimL; rw [List.length_take, ← tsz_nd]; omega
  unfold toL
  rw [← hlen, vL_tsz l, digN_vL]
theorem nbits_vL (l : List UInt32) : nbits (d32 l) l.length = bl (vL l) := by
  unfold nbits
  rw [tsz_nd]
  split
  · rename_i h
    rcases Nat.eq_zero_or_pos (vL l) with h0 | h0
    · rw [h0]; rfl
    · have := nd_pos _ h0; omega
  · rename_i h
    have h0 : 0 < vL l := by
      rcases Nat.eq_zero_or_pos (vL l) with h0 | h0
      · rw [h0] at h; exact absurd rfl h
      · exact h0
    have h1 := nd_pos _ h0
    rw [pow32] at h1
    rw [bl_shift _ _ h1.1]
    congr 2
    rw [← pow32, ← vL_digit]
    refine Nat.mod_eq_of_lt ?_
    have h2 := lt_nd (vL l)
    obtain ⟨t, e⟩ : ∃ t, nd (vL l) = t + 1 := ⟨nd (vL l) - 1, by omega⟩
    rw [e] at h2 ⊢
    rw [Nat.pow_succ] at h2
    exact Nat.div_lt_of_lt_mul h2
def beV (b : List UInt8) : Nat := b.foldl (fun v c => v * 256 + c.toNat) 0
theorem beV_from (b : List UInt8) (v : Nat) : b.foldl (fun v c => v * 256 + c.toNat) v = v * 256 ^ b.length + beV b := by
  induction b generalizing v with
  | nil => simp [beV]
  | cons x t ih =>
    unfold beV
    simp only [List.foldl_cons, List.length_cons, Nat.zero_mul, Nat.zero_add]
    rw [ih, ih x.toNat, Nat.pow_succ, Nat.add_mul, Nat.mul_assoc, Nat.mul_comm 256, Nat.add_assoc]
theorem beV_cons (x : UInt8) (t : List UInt8) : beV (x :: t) = x.toNat * 256 ^ t.length + beV t := by
  show t.foldl _ _ = _
  rw [beV_from]; simp
theorem beV_lt (b : List UInt8) : beV b < 256 ^ b.length := by
  induction b with
  | nil => simp [beV]
  | cons x t ih =>
    have hx := UInt8.toNat_lt x
    rw [beV_cons, List.length_cons, Nat.pow_succ]
    have : x.toNat * 256 ^ t.length ≤ 255 * 256 ^ t.length := Nat.mul_le_mul_right _ (by omega)
    omega
theorem beV_be (k n : Nat) : beV (be k n) = n % 256 ^ k := by
  induction k with
  | zero => simp [be, beV, Nat.mod_one]
  | succ k ih =>
    simp only [be]
    rw [beV_cons, ih, be_len, UInt8.toNat_ofNat', show (256 : Nat) ^ (k + 1) = 256 ^ k * 256 from Nat.pow_succ .., Nat.mod_mul, Nat.mul_comm, Nat.add_comm]
theorem be_mod (k n : Nat) : be k (n % 256 ^ k) = be k n := by
  have key : ∀ j, j ≤ k → be j (n % 256 ^ k) = be j n := by
    intro j
    induction j with
    | zero => intro _; rfl
    | succ j ih =>
      intro hj
      simp only [be]
      rw [ih (by omega)]
      congr 1
      apply UInt8.toNat_inj.1
      rw [UInt8.toNat_ofNat', UInt8.toNat_ofNat']
      obtain ⟨i, rfl⟩ : ∃ i, k = j + (i + 1) := ⟨k - j - 1, by omega⟩
      rw [Nat.pow_add, Nat.mod_mul_right_div_self, Nat.pow_succ]
      exact Nat.mod_mul_left_mod _ _ _
  exact key k (Nat.le_refl _)
theorem be_beV (b : List UInt8) : be b.length (beV b) = b := by
  induction b with
  | nil => rfl
  | cons x t ih =>
    have hx := UInt8.toNat_lt x
    have ht := beV_lt t
    simp only [List.length_cons, be]
    rw [beV_cons]
    congr 1
    · apply UInt8.toNat_inj.1
      rw [UInt8.toNat_ofNat', Nat.mul_comm, Nat.mul_add_div (Nat.pow_pos (by decide)), Nat.div_eq_of_lt ht]
      omega
    · rw [← be_mod, Nat.mul_comm, Nat.mul_add_mod, Nat.mod_eq_of_lt ht, ih]
theorem wB_vL (l : List UInt32) (i : Nat) : wB (d32 l) i = UInt8.ofNat (vL l / 256 ^ i) := by
  apply UInt8.toNat_inj.1
  unfold wB
  rw [UInt8.toNat_ofNat', UInt8.toNat_ofNat', ← vL_digit]
  obtain ⟨q, r, hr, rfl⟩ : ∃ q r, r < 4 ∧ i = 4 * q + r := ⟨i / 4, i % 4, by omega, by omega⟩
  rw [show (4 * q + r) / 4 = q by omega, show (4 * q + r) % 4 = r by omega, Nat.pow_add, Nat.pow_mul, ← Nat.div_div_eq_div_mul]
  rw [show (256 : Nat) ^ 4 = 4294967296 from rfl]
  generalize vL l / 4294967296 ^ q = v
  have : r = 0 ∨ r = 1 ∨ r = 2 ∨ r = 3 := by omega
  rcases this with rfl | rfl | rfl | rfl <;> simp only [Nat.reducePow] <;> omega
theorem natW_be (l : List UInt32) (k : Nat) : natW (d32 l) k = be k (vL l) := by
  induction k with
  | zero => rfl
  | succ k ih => simp only [natW, be, ih, wB_vL]
theorem beV_drop (b : List UInt8) (i : Nat) (h : i < b.length) : beV (b.drop (b.length - (i + 1))) = byteAt b (b.length - 1 - i) * 256 ^ i + beV (b.drop (b.length - i)) := by
  have e : b.drop (b.length - (i + 1)) = b[b.length - 1 - i] :: b.drop (b.length - i) := by
    rw [show b.length - (i + 1) = b.length - 1 - i by omega, List.drop_eq_getElem_cons (by omega)]
    congr 2; omega
  rw [e, beV_cons, List.length_drop, show b.length - (b.length - i) = i by omega]
  unfold byteAt
  rw [List.getD_eq_getElem?_getD, List.getElem?_eq_getElem (by omega)]
  rfl
theorem beV_drop_lt (b : List UInt8) (i : Nat) (h : i ≤ b.length) : beV (b.drop (b.length - i)) < 256 ^ i := by
  have := beV_lt (b.drop (b.length - i))
  rwa [List.length_drop, show b.length - (b.length - i) = i by omega] at this
theorem digN_byte (m v c i : Nat) (hv : v < 256 ^ i) (hc : c < 256) (hm : i / 4 < m) : digN m (v + c * 256 ^ i) = (digN m v).set (i / 4) (UInt32.ofNat (v / 4294967296 ^ (i / 4) + c * 256 ^ (i % 4))) ∧ v / 4294967296 ^ (i / 4) < 256 ^ (i % 4) := by
  obtain ⟨q, r, hr, rfl⟩ : ∃ q r, r < 4 ∧ i = 4 * q + r := ⟨i / 4, i % 4, by omega, by omega⟩
  have e1 : (4 * q + r) / 4 = q := by omega
  have e2 : (4 * q + r) % 4 = r := by omega
  have e3 : (256 : Nat) ^ (4 * q + r) = 4294967296 ^ q * 256 ^ r := by rw [Nat.pow_add, Nat.pow_mul]
  rw [e1] at hm
  rw [e1, e2]
  rw [e3] at hv ⊢
  have hB : 0 < 4294967296 ^ q := Nat.pow_pos (by decide)
  have hlow : v / 4294967296 ^ q < 256 ^ r := Nat.div_lt_of_lt_mul hv
  refine ⟨?_, hlow⟩
  have hr4 : (256 : Nat) ^ r * 256 ≤ 4294967296 := by
    have : r = 0 ∨ r = 1 ∨ r = 2 ∨ r = 3 := by omega
    rcases this with rfl | rfl | rfl | rfl <;> decide
  have hcr : c * 256 ^ r ≤ 255 * 256 ^ r := Nat.mul_le_mul_right _ (by omega)
  have hsum : v / 4294967296 ^ q + c * 256 ^ r < 4294967296 := by omega
  refine vL_inj (by simp [digN_len]) ?_
  have hs := vL_set (digN m v) q (UInt32.ofNat (v / 4294967296 ^ q + c * 256 ^ r)) (by rw [digN_len]; exact hm)
  rw [digN_at m v q hm, vL_digN, UInt32.toNat_ofNat', Nat.mod_eq_of_lt (show v / 4294967296 ^ q < 4294967296 by omega)] at hs
  have hsz : (2 : Nat) ^ 32 = 4294967296 := rfl
  rw [hsz, Nat.mod_eq_of_lt hsum] at hs
  have hpm : 4294967296 ^ q * 4294967296 ≤ 4294967296 ^ m := by
    rw [← Nat.pow_succ]; exact Nat.pow_le_pow_right (by decide) hm
  have hbig : v + c * (4294967296 ^ q * 256 ^ r) < 4294967296 ^ m := by
    have h1 : c * (4294967296 ^ q * 256 ^ r) ≤ 4294967296 ^ q * (255 * 256 ^ r) := by
      rw [Nat.mul_left_comm]; exact Nat.mul_le_mul_left _ hcr
    have h2 : 4294967296 ^ q * (256 ^ r * 256) ≤ 4294967296 ^ q * 4294967296 := Nat.mul_le_mul_left _ hr4
    have h3 : 4294967296 ^ q * (256 ^ r * 256) = 4294967296 ^ q * (255 * 256 ^ r) + 4294967296 ^ q * 256 ^ r := by
      rw [← Nat.mul_add]; congr 1; omega
    omega
  have hvm : v < 4294967296 ^ m := by omega
  rw [vL_digN, Nat.mod_eq_of_lt hbig]
  rw [Nat.mod_eq_of_lt hvm, Nat.add_mul] at hs
  have : c * 256 ^ r * 4294967296 ^ q = c * (4294967296 ^ q * 256 ^ r) := by rw [Nat.mul_assoc, Nat.mul_comm (256 ^ r)]
  omega
theorem top_byte (v : Nat) : v / 256 ^ (bl v / 8) < 128 := by
  refine Nat.div_lt_of_lt_mul ?_
  rw [show (256 : Nat) ^ (bl v / 8) = 2 ^ (8 * (bl v / 8)) by rw [Nat.pow_mul], show (128 : Nat) = 2 ^ 7 from rfl, ← Nat.pow_add]
  exact Nat.lt_of_lt_of_le (lt_bl v) (Nat.pow_le_pow_right (by decide) (by omega))
theorem be_full (v : Nat) : beV (be (bl v / 8 + 1) v) = v := by
  rw [beV_be]
  refine Nat.mod_eq_of_lt ?_
  have := top_byte v
  rw [Nat.pow_succ]
  have h0 : 0 < 256 ^ (bl v / 8) := Nat.pow_pos (by decide)
  have := (Nat.div_lt_iff_lt_mul h0).1 this
  rw [Nat.mul_comm] at this
  omega
theorem second_byte (v k : Nat) (hk : bl v / 8 = k + 1) (h0 : v / 256 ^ (k + 1) = 0) : 128 ≤ v / 256 ^ k := by
  have hv : 0 < v := by
    rcases Nat.eq_zero_or_pos v with rfl | h
    · simp [bl] at hk
    · exact h
  have h1 := (bl_pos v hv).1
  have h2 : 2 ^ (8 * (k + 1) - 1) ≤ v := Nat.le_trans (Nat.pow_le_pow_right (by decide) (by omega)) h1
  refine (Nat.le_div_iff_mul_le (Nat.pow_pos (by decide))).2 ?_
  rw [show (256 : Nat) ^ k = 2 ^ (8 * k) by rw [Nat.pow_mul], show (128 : Nat) = 2 ^ 7 from rfl, ← Nat.pow_add]
  exact Nat.le_trans (Nat.pow_le_pow_right (by decide) (by omega)) h2
theorem vL_put (l : List UInt32) (p t : Nat) (h : p < l.length) : vL (l.set p (UInt32.ofNat t)) + t / 4294967296 * 4294967296 ^ (p + 1) + d32 l p * 4294967296 ^ p = vL l + t * 4294967296 ^ p := by
  have hs := vL_set l p (UInt32.ofNat t) h
  rw [UInt32.toNat_ofNat', show (2 : Nat) ^ 32 = 4294967296 from rfl] at hs
  have e : t * 4294967296 ^ p = (t % 4294967296) * 4294967296 ^ p + t / 4294967296 * 4294967296 ^ (p + 1) := by
    rw [Nat.pow_succ, Nat.mul_comm _ 4294967296, ← Nat.mul_assoc, ← Nat.add_mul]
    congr 1
    omega
  omega
theorem vL_take_succ (l : List UInt32) (k : Nat) : vL (l.take (k + 1)) = vL (l.take k) + d32 l k * 4294967296 ^ k := by
  rcases Nat.lt_or_ge k l.length with h | h
  case inr => rw [List.take_of_length_le (by omega), List.take_of_length_le h, d32_out l k h]; simp
  rw [List.take_succ_eq_append_getElem h, vL_append, List.length_take, Nat.min_eq_left (by omega)]
  have : d32 l k = l[k].toNat := by unfold d32; rw [List.getD_eq_getElem?_getD, List.getElem?_eq_getElem h]; rfl
  rw [this]
  simp [vL, Nat.mul_comm]
theorem mul_step {out b : List UInt32} {V x c i k : Nat} (hk : k < b.length) (hp : i + k < out.length) (h : vL out + c * 4294967296 ^ (i + k) = V + x * vL (b.take k) * 4294967296 ^ i) :
    vL (out.set (i + k) (UInt32.ofNat (c + x * d32 b k + d32 out (i + k)))) + (c + x * d32 b k + d32 out (i + k)) / 4294967296 * 4294967296 ^ (i + (k + 1)) = V + x * vL (b.take (k + 1)) * 4294967296 ^ i := by
  have hv := vL_put out (i + k) (c + x * d32 b k + d32 out (i + k)) hp
  rw [vL_take_succ b k]
  rw [Nat.add_mul, Nat.add_mul] at hv
  rw [Nat.mul_add, Nat.add_mul, show x * (d32 b k * 4294967296 ^ k) * 4294967296 ^ i = x * d32 b k * 4294967296 ^ (i + k) by rw [Nat.pow_add]; grind]
  rw [← Nat.add_assoc i k 1]
  omega
theorem carry_lt {c x y z : Nat} (hc : c < 4294967296) (hx : x < 4294967296) (hy : y < 4294967296) (hz : z < 4294967296) : c + x * y + z < 18446744073709551616 := by
  have : x * y ≤ 4294967295 * 4294967295 := Nat.mul_le_mul (by omega) (by omega)
  omega
theorem d32_set (l : List UInt32) (p j : Nat) (x : UInt32) (h : p < l.length) : d32 (l.set p x) j = if p = j then x.toNat else d32 l j := by
  unfold d32
  rw [List.getD_eq_getElem?_getD, List.getElem?_set]
  split
  · rename_i e; subst e; simp [h]
  · simp
theorem mul_row {out a b : List UInt32} {V c i : Nat} (hi : i < a.length) (hp : i + b.length < out.length) (hz : d32 out (i + b.length) = 0) (hc : c < 4294967296) (hV : V = vL (a.take i) * vL b)
    (h : vL out + c * 4294967296 ^ (i + b.length) = V + d32 a i * vL (b.take b.length) * 4294967296 ^ i) : vL (out.set (i + b.length) (UInt32.ofNat c)) = vL (a.take (i + 1)) * vL b := by
  have hs := vL_put out (i + b.length) c hp
  rw [hz, Nat.div_eq_of_lt hc] at hs
  rw [List.take_length] at h
  rw [vL_take_succ a i, Nat.add_mul, ← hV, show d32 a i * 4294967296 ^ i * vL b = d32 a i * vL b * 4294967296 ^ i by grind]
  omega
theorem guess_lo (w V k m : Nat) (hV : 0 < V) : w / (V * 4294967296 ^ k) * (V / 4294967296 ^ m) ≤ w / 4294967296 ^ (k + m) := by
  have hB : 0 < 4294967296 ^ (k + m) := Nat.pow_pos (by decide)
  rw [Nat.le_div_iff_mul_le hB]
  have h1 := Nat.div_mul_le_self w (V * 4294967296 ^ k)
  have h2 := Nat.div_mul_le_self V (4294967296 ^ m)
  have h3 : w / (V * 4294967296 ^ k) * (V / 4294967296 ^ m) * 4294967296 ^ (k + m) = w / (V * 4294967296 ^ k) * (V / 4294967296 ^ m * 4294967296 ^ m * 4294967296 ^ k) := by rw [Nat.pow_add]; grind
  rw [h3]
  exact Nat.le_trans (Nat.mul_le_mul_left _ (Nat.mul_le_mul_right _ h2)) h1
theorem guess_hi (w V k m g : Nat) (hg : g < 4294967296) (hS : g * (V / 4294967296 ^ m) ≤ w / 4294967296 ^ (k + m)) (hV : 4294967296 ^ (m + 1) ≤ V) : g ≤ w / (V * 4294967296 ^ k) + 1 := by
  have hB : 0 < 4294967296 ^ (k + m) := Nat.pow_pos (by decide)
  have hBm : 0 < 4294967296 ^ m := Nat.pow_pos (by decide)
  have hBk : 0 < 4294967296 ^ k := Nat.pow_pos (by decide)
  have hV0 : 0 < V := Nat.lt_of_lt_of_le (Nat.pow_pos (by decide)) hV
  have h1 := (Nat.le_div_iff_mul_le hB).1 hS
  have h2 : V < (V / 4294967296 ^ m + 1) * 4294967296 ^ m := by
    have := Nat.lt_div_mul_add hBm (a := V)
    rw [Nat.add_mul]; omega
  cases g with
  | zero => exact Nat.zero_le _
  | succ g =>
    refine Nat.succ_le_succ ((Nat.le_div_iff_mul_le (Nat.mul_pos hV0 hBk)).2 ?_)
    -- g V B^k ≤ (g+1) V B^k - V B^k ≤ (g+1)(S+1) B^m B^k - V B^k ≤ w + (g+1) B^(m+k) - V B^k ≤ w
    have h3 : (g + 1) * V ≤ (g + 1) * ((V / 4294967296 ^ m + 1) * 4294967296 ^ m) := Nat.mul_le_mul_left _ (Nat.le_of_lt h2)
    have h4 : (g + 1) * 4294967296 ^ m ≤ V := by
      refine Nat.le_trans ?_ hV
      rw [Nat.pow_succ, Nat.mul_comm]
      exact Nat.mul_le_mul_left _ (by omega)
    have h5 : (g + 1) * ((V / 4294967296 ^ m + 1) * 4294967296 ^ m) = (g + 1) * (V / 4294967296 ^ m) * 4294967296 ^ m + (g + 1) * 4294967296 ^ m := by grind
    have h6 : g * V ≤ (g + 1) * (V / 4294967296 ^ m) * 4294967296 ^ m := by
      have : (g + 1) * V = g * V + V := Nat.succ_mul ..
      omega
    have h7 : g * (V * 4294967296 ^ k) ≤ (g + 1) * (V / 4294967296 ^ m) * 4294967296 ^ (k + m) := by
      rw [← Nat.mul_assoc, Nat.pow_add, Nat.mul_comm (4294967296 ^ k), ← Nat.mul_assoc]
      exact Nat.mul_le_mul_right _ h6
    exact Nat.le_trans h7 h1
theorem sub_step {out v : List UInt32} {W g c k i b e r : Nat} (hp : k + i < out.length) (h : vL out + g * vL (v.take i) * 4294967296 ^ k = W + (c + b) * 4294967296 ^ (k + i))
    (hr : r < 4294967296) (he : d32 out (k + i) + e * 4294967296 = b + (c + g * d32 v i) % 4294967296 + r) :
    vL (out.set (k + i) (UInt32.ofNat r)) + g * vL (v.take (i + 1)) * 4294967296 ^ k = W + ((c + g * d32 v i) / 4294967296 + e) * 4294967296 ^ (k + (i + 1)) := by
  have hs := vL_put out (k + i) r hp
  rw [Nat.div_eq_of_lt hr] at hs
  rw [vL_take_succ v i, ← Nat.add_assoc k i 1, Nat.pow_succ, Nat.mul_add, Nat.add_mul, show g * (d32 v i * 4294967296 ^ i) * 4294967296 ^ k = g * d32 v i * 4294967296 ^ (k + i) by rw [Nat.pow_add]; grind]
  generalize 4294967296 ^ (k + i) = P at *
  have hdm : c + g * d32 v i = (c + g * d32 v i) % 4294967296 + 4294967296 * ((c + g * d32 v i) / 4294967296) := (Nat.mod_add_div _ _).symm
  generalize (c + g * d32 v i) % 4294967296 = lo at *
  generalize (c + g * d32 v i) / 4294967296 = hi2 at *
  generalize d32 out (k + i) = u at *
  have h9 : (u + e * 4294967296) * P = (b + lo + r) * P := by rw [he]
  have h10 : (c + g * d32 v i) * P = (lo + 4294967296 * hi2) * P := by rw [← hdm]
  grind
theorem add_step {out v : List UInt32} {W c k i : Nat} (hp : k + i < out.length) (h : vL out + c * 4294967296 ^ (k + i) = W + vL (v.take i) * 4294967296 ^ k) :
    vL (out.set (k + i) (UInt32.ofNat (c + d32 out (k + i) + d32 v i))) + (c + d32 out (k + i) + d32 v i) / 4294967296 * 4294967296 ^ (k + (i + 1)) = W + vL (v.take (i + 1)) * 4294967296 ^ k := by
  have hs := vL_put out (k + i) (c + d32 out (k + i) + d32 v i) hp
  rw [vL_take_succ v i, ← Nat.add_assoc k i 1, Nat.add_mul, show d32 v i * 4294967296 ^ i * 4294967296 ^ k = d32 v i * 4294967296 ^ (k + i) by rw [Nat.pow_add]; grind]
  generalize 4294967296 ^ (k + i + 1) = P at *
  grind
theorem vL_lt_zero {l : List UInt32} {m : Nat} (h : ∀ j, m ≤ j → d32 l j = 0) : vL l < 4294967296 ^ m := by
  rcases Nat.lt_or_ge l.length m with hl | hl
  · exact Nat.lt_of_lt_of_le (vL_lt l) (Nat.pow_le_pow_right (by decide) (by omega))
  · rw [vL_take_drop l m hl, vL_zero (l.drop m) (fun i _ => by rw [d32_drop]; exact h _ (by omega))]
    have := vL_lt (l.take m)
    rw [List.length_take, Nat.min_eq_left hl] at this
    omega
theorem vL_zero_above {l : List UInt32} {m : Nat} (h : vL l < 4294967296 ^ m) (j : Nat) (hj : m ≤ j) : d32 l j = 0 := by
  rw [← vL_digit, Nat.div_eq_of_lt (Nat.lt_of_lt_of_le h (Nat.pow_le_pow_right (by decide) hj))]
theorem digN_fix {l : List UInt32} {N x : Nat} (h : l.length = N) (e : vL l = x) : l = digN N x := by
  subst h e; exact (digN_vL l).symm
theorem step_ok1 {U : List UInt32} {w D k n g c b N : Nat} (hN : U.length = N) (hk : k + n < N) (h : vL U + g * D = w + (c + b) * 4294967296 ^ (k + n)) (hle : c + b ≤ d32 U (k + n)) (hq : w / D ≤ g) (hD : 0 < D) :
    U.set (k + n) (UInt32.ofNat (d32 U (k + n) - (c + b))) = digN N (w % D) ∧ g = w / D := by
  have hs := vL_put U (k + n) (d32 U (k + n) - (c + b)) (by omega)
  have hd := d32_lt U (k + n)
  rw [Nat.div_eq_of_lt (by omega), Nat.sub_mul] at hs
  have hm : (c + b) * 4294967296 ^ (k + n) ≤ d32 U (k + n) * 4294967296 ^ (k + n) := Nat.mul_le_mul_right _ hle
  have e : vL (U.set (k + n) (UInt32.ofNat (d32 U (k + n) - (c + b)))) + g * D = w := by omega
  have hg : g = w / D := by
    refine Nat.le_antisymm ((Nat.le_div_iff_mul_le hD).2 (by omega)) hq
  refine ⟨digN_fix (by simp [hN]) ?_, hg⟩
  have := Nat.div_add_mod w D
  rw [← hg, Nat.mul_comm] at this
  omega
theorem step_ok2 {U W : List UInt32} {w D V k n g c b c2 N : Nat} (hN : U.length = N) (hNW : W.length = N) (hk : k + n < N) (hVD : D = V * 4294967296 ^ k) (hV : V < 4294967296 ^ n) (h : vL U + g * D = w + (c + b) * 4294967296 ^ (k + n)) (hz : ∀ j, k + n < j → d32 U j = 0) (hgt : d32 U (k + n) < c + b) (hcb : c + b ≤ d32 U (k + n) + 4294967296)
    (hq : w / D ≤ g) (hq2 : g ≤ w / D + 1) (hD : 0 < D) (hc2 : c2 ≤ 1) (hW : vL W + c2 * 4294967296 ^ (k + n) = vL (U.set (k + n) (UInt32.ofNat (d32 U (k + n) + 4294967296 - (c + b)))) + V * 4294967296 ^ k)
    (hWd : d32 W (k + n) = (d32 U (k + n) + 4294967296 - (c + b)) % 4294967296) (hWz : ∀ j, k + n < j → d32 W j = 0) :
    W.set (k + n) (UInt32.ofNat (d32 W (k + n) + c2)) = digN N (w % D) ∧ g = w / D + 1 := by
  have hP : (4294967296 : Nat) ^ (k + n + 1) = 4294967296 ^ (k + n) * 4294967296 := Nat.pow_succ ..
  have hDlt : D < 4294967296 ^ (k + n) := by
    rw [hVD, Nat.pow_add, Nat.mul_comm]; exact Nat.mul_lt_mul_of_pos_left hV (Nat.pow_pos (by decide))
  have hs := vL_put U (k + n) (d32 U (k + n) + 4294967296 - (c + b)) (by omega)
  have hs2 := vL_put W (k + n) (d32 W (k + n) + c2) (by omega)
  have hU := vL_lt_zero (l := U) (m := k + n + 1) (fun j hj => hz j (by omega))
  have hdm := Nat.div_add_mod w D
  have hml := Nat.mod_lt w hD
  have hWlt := vL_lt_zero (l := W) (m := k + n + 1) (fun j hj => hWz j (by omega))
  have hge : g = w / D + 1 := by
    rcases Nat.lt_or_ge (w / D) g with h1 | h1
    · omega
    · -- then g D ≤ w, and nothing is borrowed
      exfalso
      have hgD : g * D ≤ w := Nat.le_trans (Nat.mul_le_mul_right _ h1) (Nat.div_mul_le_self _ _)
      have h2 : (d32 U (k + n) + 1) * 4294967296 ^ (k + n) ≤ (c + b) * 4294967296 ^ (k + n) := Nat.mul_le_mul_right _ hgt
      have h3 := vL_take_drop U (k + n) (by omega)
      have h4 : vL (U.drop (k + n)) = d32 U (k + n) := by
        have := vL_take_succ (U.drop (k + n)) 0
        have h5 : vL ((U.drop (k + n)).drop 1) = 0 := vL_zero _ (fun i _ => by rw [d32_drop, d32_drop]; exact hz _ (by omega))
        have h6 := vL_take_drop (U.drop (k + n)) 1 (by rw [List.length_drop]; omega)
        rw [h5] at h6
        rw [this] at h6
        rw [d32_drop] at h6
        simpa [vL] using h6
      have h5 := vL_lt (U.take (k + n))
      rw [List.length_take, Nat.min_eq_left (by omega)] at h5
      rw [h4, Nat.mul_comm] at h3
      rw [Nat.add_mul] at h2
      omega
  refine ⟨digN_fix (by simp [hNW]) ?_, hge⟩
  rw [← hVD] at hW
  generalize 4294967296 ^ (k + n) = P at *
  rw [hP] at hs hs2 hU hWlt
  have hgD : g * D = D * (w / D) + D := by rw [hge, Nat.add_mul, Nat.mul_comm, Nat.one_mul]
  generalize he : d32 U (k + n) + 4294967296 - (c + b) = e at *
  have hdl := d32_lt U (k + n)
  have he2 : e * P + (c + b) * P = d32 U (k + n) * P + 4294967296 * P := by rw [← Nat.add_mul, ← Nat.add_mul]; congr 1; omega
  have hel : e < 4294967296 := by omega
  rw [Nat.div_eq_of_lt hel] at hs
  rw [Nat.mod_eq_of_lt hel] at hWd
  rw [hWd] at hs2 ⊢
  rw [Nat.add_mul] at hs2
  -- vL W' + K P B = B P + w % D
  have hK : (e + c2) / 4294967296 ≤ 1 := by omega
  have hWz2 := vL_lt_zero (l := W.set (k + n) (UInt32.ofNat (e + c2))) (m := k + n + 1) (fun j hj => by rw [d32_set _ _ _ _ (by omega), if_neg (by omega)]; exact hWz j (by omega))
  rw [hP] at hWz2
  have hK01 : (e + c2) / 4294967296 = 0 ∨ (e + c2) / 4294967296 = 1 := by omega
  rcases hK01 with hk0 | hk1
  · rw [hk0] at hs2; omega
  · rw [hk1] at hs2; omega
def ws (k : IntKind) (l : List UInt32) : List Value := l.map fun x => .int k (x.toNat : Int)
theorem ws_len (k : IntKind) (l : List UInt32) : (ws k l).length = l.length := by simp [ws]
theorem ws_set (k : IntKind) (l : List UInt32) (i : Nat) (x : UInt32) : (ws k l).set i (.int k (x.toNat : Int)) = ws k (l.set i x) := by simp [ws, List.map_set]
theorem d32_get (l : List UInt32) (i : Nat) (h : i < l.length) : d32 l i = l[i].toNat := by unfold d32; simp [h]
theorem ws_at (k : IntKind) (l : List UInt32) (i : Nat) (h : i < l.length) : (ws k l)[i]? = some (.int k (d32 l i : Nat)) := by
  rw [d32_get l i h]; simp [ws, h]
theorem digN_zero : ∀ m, digN m 0 = List.replicate m 0
  | 0 => rfl
  | m + 1 => by rw [digN, Nat.zero_div, digN_zero m]; rfl
theorem ws_zero (k : IntKind) (m : Nat) : List.replicate m (Value.int k 0) = ws k (digN m 0) := by rw [digN_zero]; simp [ws]
theorem CellsR.of_ws32 {h : Part} {l : List UInt32} : CellsR u32R 1 h (ws .u32 l) l := ⟨by simp [ws], fun i x hx => by
  unfold u32R
  rw [Nat.mul_one, List.take_one, List.head?_drop]
  simp [ws, hx]⟩
theorem CellsR.of_ws64 {h : Part} {l : List UInt32} : CellsR u64R 1 h (ws .u64 l) (l.map m64) := ⟨by simp [ws], fun i x hx => by
  unfold u64R
  rw [List.getElem?_map, Option.map_eq_some_iff] at hx
  obtain ⟨y, hy, rfl⟩ := hx
  rw [Nat.mul_one, List.take_one, List.head?_drop, m64_nat]
  simp [ws, hy]⟩
theorem cutZ_map (l : List UInt32) : cutZ (l.map m64) = (toL (vL l)).map m64 := by
  rw [← trim_toL]
  unfold cutZ trimL
  rw [tsz_congr (d64_map l), List.length_map, List.map_take]
theorem map_n32 (l : List UInt32) : (l.map m64).map n32 = l := by
  rw [List.map_map]
  conv => rhs; rw [← List.map_id l]
  exact List.map_congr_left (fun x _ => n32_m64 x)
section
variable {f : Fr} {n : Post} {x : Nat → Post} {S : Sig} {h : Part} {L L' : List Ent} {ops : Array Oper} {rest : List Oper}
variable {ty : TypeId} {pos : String} {af : Array Edge} {d : Nat} {v : Value} {T : TypeId} {xo yo : Operand}
theorem RunV.wload {g c t m i : Nat} {k : IntKind} {l : List UInt32} (hT : aggT f.P T = some none) (hx : ev S xo = some (.pointer (some ⟨g, i, none⟩))) (hm : Ent.row (some ⟨g, 0, none⟩) c t 1 m (ws k l) ∈ L) (hi : i < l.length) : RunV f S h L (.load T xo) ty (.int k (d32 l i : Nat)) :=
  RunV.rowload hT hx hm (ws_at k l i hi)
theorem JL.storeW (t0 : Nat) {g c t m i : Nat} {k : IntKind} {p : Int} {l : List UInt32} (hT : aggT f.P T = some none) (hx : ev S xo = some (.pointer (some ⟨g, i, none⟩))) (hy : ev S yo = some (.int k p)) (hp : p = ((t0 % 4294967296 : Nat) : Int)) (u : Del (.row (some ⟨g, 0, none⟩) c t 1 m (ws k l)) L L') (hi : i < l.length)
    (kk : JL f ops n x rest S h (.row (some ⟨g, 0, none⟩) c t 1 m (ws k (l.set i (UInt32.ofNat t0))) :: L')) : JL f ops n x (⟨none, .store T xo yo, ty, pos, af, none⟩ :: rest) S h L := by
  refine JL.storeRow hT hx hy rfl u (by rw [ws_len]; exact hi) ?_
  have e : p = ((UInt32.ofNat t0).toNat : Int) := by rw [hp, UInt32.toNat_ofNat']
  rw [e, ws_set]
  exact kk
theorem RunV.index_off {e g o ln c m : Nat} {k : IntKind} {i : Int} (hT : slT f.P T = some (e, 1)) (hx : ev S xo = some (.slice (some ⟨g, o, none⟩) ln c)) (hy : ev S yo = some (.int k i)) (hi : i = (m : Int)) (h1 : m < ln) :
    RunV f S h L (.indexAddr T xo yo) ty (.pointer (some ⟨g, o + m, none⟩)) := fun ac w s _ _ _ _ => by
  subst hi
  obtain ⟨hu, inf, hi, hs⟩ := slT_spec hT
  have h0 : (0 : Int) ≤ m := by omega
  have h2 : (m : Int) < ln := by omega
  simp [execOp, s.eval hx, s.eval hy, Instr.indexAt, run_underlying hu, asIntOf, sizeOf, typeInfo, hi, hs, h1, Addr.add_lit]
theorem JL.pub32 {a : Option Addr} {c t m : Nat} {l : List UInt32} {l0 : List Oper} (u : Del (.row a c t 1 m (ws .u32 l)) L L') (hn : m = l.length) (hb : l.length ≤ 140737488355328) (k : ∀ h', h.le h' → SlR u32R 1 h' a c l → JL f ops n x l0 S h' L') : JL f ops n x l0 S h L :=
  JL.pub u CellsR.of_ws32 hn hb k
theorem JL.pub64 {a : Option Addr} {c t m : Nat} {l : List UInt32} {l0 : List Oper} (u : Del (.row a c t 1 m (ws .u64 l)) L L') (hn : m = l.length) (hb : l.length ≤ 140737488355328) (k : ∀ h', h.le h' → SlR u64R 1 h' a c (l.map m64) → JL f ops n x l0 S h' L') : JL f ops n x l0 S h L :=
  JL.pub u CellsR.of_ws64 (by rw [hn, List.length_map]) (by rw [List.length_map]; exact hb) k
end
end Go.Proofs.YtmngjbefnloljaaGreatDoor
namespace Go.Proofs.YtmngjbefnloljaaGreatDoor
open Go Go.RowKit
theorem z34_ {p : Prop} (u : p := by rw [← Int.natCast_mul]; omega) : p := u
end Go.Proofs.YtmngjbefnloljaaGreatDoor
namespace Go.Proofs.YtmngjbefnloljaaGreatDoor
open Go Go.RowKit
set_option maxRecDepth 100000
theorem ca_109 : callT Tryz.prog 109 = true := by kernel_rfl
theorem ca_42 : callT Tryz.prog 42 = true := by kernel_rfl
theorem ca_59 : callT Tryz.prog 59 = true := by kernel_rfl
theorem cv_5_103 : convI Tryz.prog 5 103 = some .u32 := by kernel_rfl
theorem mk_30 : mkT Tryz.prog 30 = some (103, .int .u32 0, 4) := by kernel_rfl
theorem nattrim_fn {a : Option Addr} {c : Nat} {l : List UInt32} {h : Part} (hl : SlR u32R 1 h a c l) (hlb : l.length ≤ 1073741824) : FnR Tryz.prog 59 [.slice a l.length c] h (fun v h' => ∃ a' c', v = .slice a' (toL (vL l)).length c' ∧ SlR u32R 1 h' a' c' (toL (vL l))) := by
  have hll := hl.big
  have ht := tsz_le (d32 l) l.length
  have htr : l.take (tsz (d32 l) l.length) = toL (vL l) := trim_toL l
  have hlen : (toL (vL l)).length = tsz (d32 l) l.length := by rw [toL_len, tsz_nd]
  refine Fn.intro Tryz.func59 rfl Tryz.ntmps59 rfl (fun e he => ?_)
  refine J.weak [(0, _)] ⟨rfl, trivial⟩ ?_
  have hh0 := Part.le.refl h
  refine Sr ?_
  refine Ru 1 rfl ?_
  refine JL.nil ?_
  refine Sr ?_
  refine Ru 1 rfl ?_
  refine JL.callP ca_84 rfl (natsize_fn (by assumption)) rfl ?_
  refine Ru 1 rfl ?_
  refine JL.nil ?_
  refine J.seq ?_
  refine Sr ?_
  refine Ru 2 rfl ?_
  refine JL.nil ?_
  refine Cs rfl (fun hc2 => ?_) fun hc2 => ?_
  ·
   have h0 : toL (vL l) = [] := List.eq_nil_of_length_eq_zero (by omega)
   refine Sr ?_
   refine Ru 1 rfl ?_
   refine Nk [2, 3, 0] rfl ?_
   rw [h0]; exact J.retR (RetV.one rfl rfl) ⟨none, 0, rfl, SlR.nil_⟩
  refine J.skip ?_
  refine Kp [3, 2, 0] rfl ?_
  refine Sr ?_
  refine Ru 2 rfl ?_
  refine JL.ope (RunE.cut_h sl_30 (m := tsz (d32 l) l.length) rfl rfl rfl hl rfl (by omega)) rfl ?_
  rintro _ ⟨a9, c9, rfl, hS9⟩
  rw [htr] at hS9 ⊢; refine JL.row_nil 103 1 ?_
  refine JL.append (R := u32R) ap_30 rfl rfl CellsR.nil rfl hS9 rfl dl_ (by simp only [List.length_nil]; omega) rfl rfl (fun a8 c8 xs8 hC8 hN8 => ?_)
  simp only [List.nil_append] at hC8 ⊢; refine JL.pub (R := u32R) dl_ hC8 rfl (by omega) (fun h9 hle9 hP9 => ?_)
  refine Ru 1 rfl ?_
  refine Nk [2] rfl ?_
  exact J.retR (RetV.one rfl rfl) ⟨_, _, rfl, hP9⟩
theorem nattrim_fn' {a : Option Addr} {c n : Nat} {l : List UInt32} {h : Part} (hl : SlR u32R 1 h a c l) (hn : n = l.length) (hlb : n ≤ 1073741824) : FnR Tryz.prog 59 [.slice a n c] h (fun v h' => ∃ a' c', v = .slice a' (toL (vL l)).length c' ∧ SlR u32R 1 h' a' c' (toL (vL l))) := by
  subst hn; exact nattrim_fn hl hlb
theorem shl8 (i : Nat) : (2 : Int) ^ (8 * ((i : Int) % 4)).toNat = ((256 ^ (i % 4) : Nat) : Int) := by
  have : (8 * ((i : Int) % 4)).toNat = 8 * (i % 4) := by omega
  rw [this, Int.natCast_pow, Int.pow_mul]; rfl
theorem two8 (j : Nat) : (2 : Int) ^ (8 * j) = ((256 ^ j : Nat) : Int) := by rw [Int.natCast_pow, Int.pow_mul]; rfl
theorem bits_or_comm (k : IntKind) (p q : Int) : bits .or k p q = bits .or k q p := by
  show k.wrap _ = k.wrap _
  rw [BitVec.or_comm]
theorem RunV.joinr_u32 {f : Fr} {S : Sig} {h : Part} {L : List Ent} {ty T yt : TypeId} {x y : Operand} {p q : Int} (i : Nat) (D : Int) (hx : ev S x = some (.int .u32 p)) (hy : ev S y = some (.int .u32 q)) (hD : (2 : Int) ^ i = D) (h0 : 0 ≤ q) (hp : q % D = 0) (h1 : q ≤ 4294967295) (hq0 : 0 ≤ p) (hq : p < D) (hq1 : p ≤ 4294967295) : RunV f S h L (.binOp .or T x y yt) ty (.int .u32 (p + q)) := by
  have := RunV.or_ (f := f) (h := h) (L := L) (ty := ty) (T := T) (yt := yt) hx hy
  rwa [bits_or_comm, bits_join .u32 32 (by decide) wraps_u32' i q p h0 (by rw [hD]; exact hp) (by omega) hq0 (by rw [hD]; exact hq) (by omega), Int.add_comm] at this
theorem pow4 (r : Nat) (h : r < 4) : 256 ^ r = 1 ∨ 256 ^ r = 256 ∨ 256 ^ r = 65536 ∨ 256 ^ r = 16777216 := by
  have : r = 0 ∨ r = 1 ∨ r = 2 ∨ r = 3 := by omega
  rcases this with rfl | rfl | rfl | rfl <;> simp
theorem natread_fn {a : Option Addr} {c : Nat} {l : List UInt8} {h : Part} (hl : SlR u8R 1 h a c l) (hlen : l.length ≤ 1073741824) : FnR Tryz.prog 42 [.slice a l.length c] h (fun v h' => ∃ a' c', v = .slice a' (toL (beV l)).length c' ∧ SlR u32R 1 h' a' c' (toL (beV l))) := by
  refine Fn.intro Tryz.func42 rfl Tryz.ntmps42 rfl (fun e he => ?_)
  refine J.weak [(0, _)] ⟨rfl, trivial⟩ ?_
  have hh0 := Part.le.refl h
  refine Sr ?_
  refine Ru 1 rfl ?_
  refine JL.nil ?_
  refine Sr ?_
  refine Ru 2 rfl ?_
  refine JL.op ai_ rfl ?_
  refine JL.op z14_ rfl ?_
  refine JL.make1 mk_30 rfl rfl (m := (l.length + 3) / 4) (by omega) (by omega) (by omega) rfl rfl (fun b1 => ?_); rw [ws_zero]
  refine Ru 1 rfl ?_
  refine Nk [3, 2, 0] rfl ?_
  refine J.seq ?_
  refine Sr ?_
  refine Ru 3 rfl ?_
  refine JL.nil ?_
  refine J.block ?_
  refine J.loop (fun t_ S_ h_ L_ => ∃ (i v : Nat), t_ = l.length - i ∧ S_ = [(0, .slice a l.length c), (3, .slice (some ⟨b1, 0, none⟩) ((l.length + 3) / 4) ((l.length + 3) / 4)), (12, .int .i64 l.length), (13, .int .i64 i)] ∧ h = h_ ∧ L_ = [.row (some ⟨b1, 0, none⟩) ((l.length + 3) / 4) 103 1 ((l.length + 3) / 4) (ws .u32 (digN ((l.length + 3) / 4) v))] ∧ (i ≤ l.length ∧ v = beV (l.drop (l.length - i)))) ⟨_, _, ?_, ⟨0, 0, rfl, rfl, rfl, rfl, ⟨by omega, by simp [beV]⟩⟩⟩ ?_
  ·
   exact z7_
  rintro _ _ _ _ ⟨i, v, rfl, rfl, rfl, rfl, hi, hv⟩
  refine Sr ?_
  refine Ru 1 rfl ?_
  refine JL.nil ?_
  refine J.seq ?_
  refine Cs rfl (fun hc2 => ?_) fun hc2 => ?_
  ·
   have hi' : i < l.length := (by omega); have hvl := beV_drop_lt l i (by omega); have hbl := byteAt_lt l (l.length - 1 - i); have hdb := digN_byte ((l.length + 3) / 4) _ _ i hvl hbl (by omega); have hst := beV_drop l i hi'; have hd0 := digN_at ((l.length + 3) / 4) (beV (l.drop (l.length - i))) (i / 4) (by omega); have hr4 := pow4 (i % 4) (by omega); have hbe := byteAt_eq l (l.length - 1 - i) (by omega); rw [← hv] at hvl hdb hst hd0; have hsb : byteAt l (l.length - 1 - i) * 256 ^ (i % 4) ≤ 4278190080 := (by rcases hr4 with e | e | e | e <;> rw [e] <;> omega); have hsum : v / 4294967296 ^ (i / 4) + byteAt l (l.length - 1 - i) * 256 ^ (i % 4) < 4294967296 := (by have := hdb.2; rcases hr4 with e | e | e | e <;> rw [e] at this ⊢ <;> omega); have hdd : d32 (digN ((l.length + 3) / 4) v) (i / 4) = v / 4294967296 ^ (i / 4) := (by rw [hd0]; exact Nat.mod_eq_of_lt (by omega))
   refine J.skip ?_
   refine J.seq ?_
   refine J.block ?_
   refine Sr ?_
   refine Ru 2 rfl ?_
   refine JL.nil ?_
   refine Sr ?_
   refine Ru 2 rfl ?_
   refine JL.op si_ rfl ?_
   refine Ru 1 rfl ?_
   refine JL.op si_ rfl ?_
   refine Ru 1 rfl ?_
   refine JL.nil ?_
   refine J.held ([]) 17 mixed_ rfl (fun h00 => ?_)
   refine JH.take 0 rfl (by kernel_rfl) (by kernel_rfl) (by kernel_rfl) (fun _ _ _ _ hh => hh) (br_ h00) (RunV.move rfl) rfl ?_
   refine JH.take 1 rfl (by kernel_rfl) (by kernel_rfl) (by kernel_rfl) (fun _ _ _ _ hh => hh) (br_ h00) (RunV.move rfl) rfl ?_
   refine JH.take 2 rfl (by kernel_rfl) (by kernel_rfl) (by kernel_rfl) (fun _ _ _ _ hh => hh) (br_ h00) z14_ rfl ?_
   refine JH.take 3 rfl (by kernel_rfl) (by kernel_rfl) (by kernel_rfl) (fun _ _ _ _ hh => hh) (br_ h00) (RunV.index_at sl_30 (m := i / 4) rfl rfl (by omega) (by omega)) rfl ?_
   refine JH.take 5 rfl (by kernel_rfl) (by kernel_rfl) (by kernel_rfl) (fun _ _ _ _ hh => hh) (br_ h00) (RunV.move rfl) rfl ?_
   refine JH.take 6 rfl (by kernel_rfl) (by kernel_rfl) (by kernel_rfl) (fun _ _ _ _ hh => hh) (br_ h00) (RunV.move rfl) rfl ?_
   refine JH.takeE 7 rfl (by kernel_rfl) (by kernel_rfl) (by kernel_rfl) (fun _ _ _ _ hh => hh) (br_ h00) (RunE.index (m := l.length - 1 - i) sl_22 rfl rfl (by omega) hl rfl (by omega)) rfl ?_
   rintro _ ⟨b8, o8, hi8, rfl, hE8⟩
   refine JH.take 8 rfl (by kernel_rfl) (by kernel_rfl) (by kernel_rfl) (fun _ _ _ _ hh => hh) (br_ h00) ((hbe ▸ RunV.ld_u8 ag_5 rfl hE8 : RunV _ _ _ _ _ _ (.int .u8 (byteAt l (l.length - 1 - i) : Nat)))) rfl ?_
   refine JH.take 9 rfl (by kernel_rfl) (by kernel_rfl) (by kernel_rfl) (fun _ _ _ _ hh => hh) (br_ h00) (RunV.conv_u32 cv_5_103 rfl (by omega) (by omega)) rfl ?_
   refine JH.take 10 rfl (by kernel_rfl) (by kernel_rfl) (by kernel_rfl) (fun _ _ _ _ hh => hh) (br_ h00) (RunV.move rfl) rfl ?_
   refine JH.take 11 rfl (by kernel_rfl) (by kernel_rfl) (by kernel_rfl) (fun _ _ _ _ hh => hh) (br_ h00) z23_ rfl ?_
   refine JH.take 12 rfl (by kernel_rfl) (by kernel_rfl) (by kernel_rfl) (fun _ _ _ _ hh => hh) (br_ h00) z16_ rfl ?_
   refine JH.take 13 rfl (by kernel_rfl) (by kernel_rfl) (by kernel_rfl) (fun _ _ _ _ hh => hh) (br_ h00) (RunV.shl_u32 ((256 ^ (i % 4) : Nat) : Int) rfl rfl (by omega) (by omega) (shl8 i) z34_ z34_) rfl ?_
   refine JH.all1 4 (by kernel_rfl) rfl ?_
   unfold One
   refine JL.op (RunV.wload ag_103 rfl mm_ (by rw [digN_len]; omega)) rfl ?_
   refine JL.nil ⟨(br_ h00), ?_⟩
   refine JH.take 14 rfl (by kernel_rfl) (by kernel_rfl) (by kernel_rfl) (fun _ _ _ _ hh => hh) (br_ h00) (RunV.joinr_u32 (8 * (i % 4)) ((256 ^ (i % 4) : Nat) : Int) rfl rfl (two8 (i % 4)) z34_ (Int.mul_emod_left _ _) z34_ (by omega) (by have := hdb.2; omega) (by omega)) rfl ?_
   refine JH.take 15 rfl (by kernel_rfl) (by kernel_rfl) (by kernel_rfl) (fun _ _ _ _ hh => hh) (br_ h00) (RunV.index_at sl_30 (m := i / 4) rfl rfl (by omega) (by omega)) rfl ?_
   refine JH.all1 16 (by kernel_rfl) rfl ?_
   unfold One
   refine JL.storeW (v / 4294967296 ^ (i / 4) + byteAt l (l.length - 1 - i) * 256 ^ (i % 4)) ag_103 rfl rfl (by rw [Nat.mod_eq_of_lt hsum, hdd, ← Int.natCast_mul, ← Int.natCast_add]) dl_ (by rw [digN_len]; omega) ?_
   rw [← hdb.1]
   refine JL.nil ⟨(br_ h00), ?_⟩
   refine JH.done (by kernel_rfl) ?_
   refine Rg ?_
   refine JL.op ai_ rfl ?_
   refine Ru 1 rfl ?_
   refine JL.nil ?_
   refine ⟨_, ?_, _, ?_, ⟨i + 1, v + byteAt l (l.length - 1 - i) * 256 ^ i, rfl, rfl, rfl, rfl, ⟨by omega, by rw [hst, Nat.add_comm]⟩⟩⟩
   ·
    omega
   exact z7_
  refine J.exit ?_
  refine Kp [3] rfl ?_
  refine Sr ?_
  refine Ru 1 rfl ?_
  refine JL.pub32 dl_ (by rw [digN_len]) (by rw [digN_len]; omega) (fun h9 hle9 hP9 => ?_); replace hl := hl.mono hle9; replace hh0 := hh0.mono hle9; have hve : vL (digN ((l.length + 3) / 4) v) = beV l := (by rw [vL_digN, hv, show l.length - i = 0 by omega, List.drop_zero]; refine Nat.mod_eq_of_lt (Nat.lt_of_lt_of_le (beV_lt l) ?_); rw [show (4294967296 : Nat) = 256 ^ 4 from rfl, ← Nat.pow_mul]; exact Nat.pow_le_pow_right (by decide) (by omega))
  refine JL.callR ca_59 rfl (nattrim_fn' hP9 (by rw [digN_len]) (by omega)) rfl ?_
  rintro _ h5 hle5 ⟨ra, rc, rfl, hR⟩
  replace hl := hl.mono hle5
  replace hh0 := hh0.mono hle5
  refine Ru 1 rfl ?_
  refine JL.nil ?_
  rw [hve] at hR ⊢; exact J.retR (RetV.one rfl rfl) ⟨_, _, rfl, hR⟩
def Nd.whole (x : Nd) : Bool := (decide (x.cls = 0) && (decide (x.tag = 2) || decide (x.tag = 10))) && x.put.isSome
theorem whole_fn' {x : Nd} {cs : List Value} {h : Part} (r : NdR h cs x) (hT : Tabs h) (hsz : x.sz ≤ 1073741824) : Pure Tryz.prog 109 [.agg cs.toArray] h (.bool x.whole) := by
  cases x; exact whole_fn r hT hsz
theorem form_int {t : Int} (h : t = 2 ∨ t = 10) : form t = 1 := by rcases h with rfl | rfl <;> rfl
theorem whole_iff {c t : Int} {k : Bool} {bs : List UInt8} {ks : List Nd} : (Nd.mk c t k bs ks).whole = true ↔ c = 0 ∧ (t = 2 ∨ t = 10) ∧ k = false ∧ ks = [] ∧ leastB bs = true := by
  show ((decide (c = 0) && (decide (t = 2) || decide (t = 10))) && (Nd.mk c t k bs ks).put.isSome) = true ↔ _
  simp only [Bool.and_eq_true, Bool.or_eq_true, decide_eq_true_eq]
  constructor
  · rintro ⟨⟨rfl, ht⟩, hp⟩
    simp only [Nd.put] at hp
    split at hp
    · rename_i hok
      have hf := form_int ht
      have hr : 0 ≤ t ∧ t ≤ 30 := by omega
      unfold okN mayB at hok
      rw [hf, valB_2 ht] at hok
      cases k with
      | true => simp at hok
      | false =>
        have hn : ks = [] := by
          cases ks with
          | nil => rfl
          | cons y r => simp at hok
        subst hn
        simp at hok
        exact ⟨rfl, ht, rfl, rfl, hok.2⟩
    · cases hp
  · rintro ⟨rfl, ht, rfl, rfl, hb⟩
    refine ⟨⟨rfl, ht⟩, ?_⟩
    have hf := form_int ht
    have hr : 0 ≤ t ∧ t ≤ 30 := by omega
    have hok : okN 0 t false bs [] = true := by
      unfold okN mayB
      rw [hf, valB_2 ht, hb]
      simp [hr]
    simp only [Nd.put]
    rw [hok]
    rfl
theorem leastB_pos {b : List UInt8} (h : leastB b = true) : 0 < b.length := by
  unfold leastB at h
  split at h
  · cases h
  · omega
theorem Nd.bytes_sz (c t : Int) (k : Bool) (bs : List UInt8) (ks : List Nd) : bs.length ≤ (Nd.mk c t k bs ks).sz := by simp only [Nd.sz]; omega
def Nd.natOk (x : Nd) : Bool := x.whole && decide (byteAt x.bytes 0 < 128)
def Nd.natL (x : Nd) : List UInt32 := if x.natOk then toL (beV x.bytes) else []
theorem natOk_f {c t : Int} {k : Bool} {bs : List UInt8} {ks : List Nd} (h : (Nd.mk c t k bs ks).whole = false ∨ ¬ byteAt bs 0 < 128) : (Nd.mk c t k bs ks).natOk = false := by
  show ((Nd.mk c t k bs ks).whole && decide (byteAt bs 0 < 128)) = false
  rcases h with h | h
  · rw [h]; rfl
  · rw [decide_eq_false h, Bool.and_false]
theorem natOk_t {c t : Int} {k : Bool} {bs : List UInt8} {ks : List Nd} (h : (Nd.mk c t k bs ks).whole = true) (h2 : byteAt bs 0 < 128) : (Nd.mk c t k bs ks).natOk = true := by
  show ((Nd.mk c t k bs ks).whole && decide (byteAt bs 0 < 128)) = true
  rw [h, decide_eq_true h2]; rfl
theorem natof_fn {x : Nd} {cs : List Value} {h : Part} (r : NdR h cs x) (hT : Tabs h) (hsz : x.sz ≤ 1073741824) :
    FnR Tryz.prog 69 [.agg cs.toArray] h (fun v h' => ∃ a c, v = .tuple #[.slice a x.natL.length c, .bool x.natOk] ∧ SlR u32R 1 h' a c x.natL) := by
  cases x with
  | mk c t k bs ks =>
  have hbs := Nd.bytes_sz c t k bs ks
  have hpos : (Nd.mk c t k bs ks).whole = true → 0 < bs.length := fun hw => leastB_pos (whole_iff.1 hw).2.2.2.2
  obtain ⟨ka, kca, kb, kcb, rfl, hka, hkb⟩ := r.inv
  refine Fn.intro Tryz.func69 rfl Tryz.ntmps69 rfl (fun e he => ?_)
  refine J.weak [(0, _)] ⟨rfl, trivial⟩ ?_
  have hh0 := Part.le.refl h
  refine Sr ?_
  refine JL.box rfl rfl rfl (fun b1 => ?_)
  refine Ru 2 rfl ?_
  refine JL.nil ?_
  refine J.seq ?_
  refine Sr ?_
  refine JL.op (RunV.ownA ag_75 rfl mm_ z6_) rfl ?_
  refine JL.callP ca_109 rfl (whole_fn' (by assumption) (by assumption) (by omega)) rfl ?_
  refine Ru 2 rfl ?_
  refine Bs 7 rfl (fun hc3 => ?_) fun hc3 => ?_
  ·
   refine Ru 6 rfl ?_
   refine Nk [13, 3, 2, 1] rfl ?_
   refine J.cond_t rfl ?_
   refine Sr ?_
   refine Ru 2 rfl ?_
   refine JL.nil ?_
   have hff := natOk_f (show (Nd.mk c t k bs ks).whole = false ∨ ¬ byteAt bs 0 < 128 by first | exact .inl hc3 | (right; omega)); have hfl : (Nd.mk c t k bs ks).natL = [] := if_neg (by rw [hff]; decide); rw [hff, hfl]; exact J.retR (RetV.two rfl rfl rfl) ⟨_, _, rfl, SlR.nil_⟩
  have hps := hpos (by simpa using hc3); have e0 := byteAt_eq bs 0 hps; have hwz := hc3
  refine Ru 1 rfl ?_
  refine JL.opg rfl rfl  (RunV.own1 ag_22 rfl mm_ rfl) rfl ?_
  refine JL.opeg rfl rfl  (RunE.index sl_22 rfl rfl (show _ = ((0 : Nat) : Int) from rfl) (by assumption) rfl (by omega)) rfl ?_
  rintro _ ⟨b4, o4, hi4, rfl, hE4⟩
  refine JL.opg rfl rfl  (RunV.ld_u8 ag_5 rfl (by assumption)) rfl ?_
  refine Ru 2 rfl ?_
  refine Nk [13, 3, 2, 1] rfl ?_
  refine Cs rfl (fun hc6 => ?_) fun hc6 => ?_
  ·
   refine Sr ?_
   refine Ru 2 rfl ?_
   refine JL.nil ?_
   have hff := natOk_f (show (Nd.mk c t k bs ks).whole = false ∨ ¬ byteAt bs 0 < 128 by first | exact .inl hc6 | (right; omega)); have hfl : (Nd.mk c t k bs ks).natL = [] := if_neg (by rw [hff]; decide); rw [hff, hfl]; exact J.retR (RetV.two rfl rfl rfl) ⟨_, _, rfl, SlR.nil_⟩
  refine J.skip ?_
  refine Sr ?_
  refine Ru 1 rfl ?_
  refine JL.op (RunV.own1 ag_22 rfl mm_ rfl) rfl ?_
  refine JL.callR ca_42 rfl (natread_fn (by assumption) (by omega)) rfl ?_
  rintro _ h7 hle7 ⟨a7, c7, rfl, hS7⟩
  replace r := r.mono hle7
  replace hT := hT.mono hle7
  replace hka := hka.mono hle7
  replace hh0 := hh0.mono hle7
  refine Ru 2 rfl ?_
  refine Nk [3, 2] rfl ?_
  have hff := natOk_t hwz (show byteAt bs 0 < 128 by omega); have hfl : (Nd.mk c t k bs ks).natL = toL (beV bs) := if_pos hff; rw [hff, hfl]; exact J.retR (RetV.two rfl rfl rfl) ⟨_, _, rfl, by assumption⟩
end Go.Proofs.YtmngjbefnloljaaGreatDoor
namespace Go.Proofs.YtmngjbefnloljaaGreatDoor
open Go Go.RowKit
theorem z20_ {p : Prop} (u : p := by first | decide | omega | (rw [digN_len]; decide) | (simp; done) | (simp [digN_len]; done)) : p := u
end Go.Proofs.YtmngjbefnloljaaGreatDoor
namespace Go.Proofs.YtmngjbefnloljaaGreatDoor
open Go Go.RowKit
set_option maxRecDepth 100000
def cmpI3 (m n : Nat) : Int := if m < n then -1 else if n < m then 1 else 0
theorem nd_lt {m n : Nat} (h : nd m < nd n) : m < n := by
  have h0 : 0 < n := by
    rcases Nat.eq_zero_or_pos n with rfl | h0
    · rw [nd_zero] at h; omega
    · exact h0
  have h1 := (nd_pos n h0).1
  exact Nat.lt_of_lt_of_le (lt_nd m) (Nat.le_trans (Nat.pow_le_pow_right (by decide) (by omega)) h1)
theorem div_low (x j : Nat) : x / 4294967296 ^ j = x / 4294967296 ^ (j + 1) * 4294967296 + x / 4294967296 ^ j % 4294967296 := by
  rw [Nat.pow_succ, ← Nat.div_div_eq_div_mul]
  omega
theorem lt_of_div {x y d : Nat} (h : x / d < y / d) : x < y := by
  rcases Nat.lt_or_ge x y with h1 | h1
  · exact h1
  · have := Nat.div_le_div_right (c := d) h1; omega
section
variable {f : Fr} {S : Sig} {h : Part} {L : List Ent} {ty src dst : TypeId} {x : Operand} {k : IntKind} {p : Int}
theorem RunV.toW (t : Nat) (hc : convI f.P src dst = some .u32) (hx : ev S x = some (.int k p)) (hp : p = (t : Int)) : RunV f S h L (.convert src dst x) ty (.int .u32 ((t % 4294967296 : Nat) : Int)) := by
  have := RunV.conv (f := f) (h := h) (L := L) (ty := ty) hc hx
  rwa [hp, IntKind.wrap_u32, show ((t : Int) % 4294967296) = ((t % 4294967296 : Nat) : Int) from rfl] at this
theorem RunV.toWI (t : Nat) (hc : convI f.P src dst = some .u32) (hx : ev S x = some (.int k p)) (hp : p % 4294967296 = (t : Int)) : RunV f S h L (.convert src dst x) ty (.int .u32 (t : Int)) := by
  have := RunV.conv (f := f) (h := h) (L := L) (ty := ty) hc hx
  rwa [IntKind.wrap_u32, hp] at this
end
theorem natcmp_fn {a b : Option Addr} {ca cb : Nat} {l r : List UInt32} {h : Part} (hl : SlR u32R 1 h a ca l) (hr : SlR u32R 1 h b cb r) : Pure Tryz.prog 47 [.slice a l.length ca, .slice b r.length cb] h (.int .i64 (cmpI3 (vL l) (vL r))) := by
  have hll := hl.big
  have hrl := hr.big
  have t1 := tsz_le (d32 l) l.length
  have t2 := tsz_le (d32 r) r.length
  have e1 := tsz_nd l
  have e2 := tsz_nd r
  refine Fn.intro Tryz.func47 rfl Tryz.ntmps47 rfl (fun e he => ?_)
  refine J.weak [(0, _), (1, _)] ⟨rfl, rfl, trivial⟩ ?_
  refine Sr ?_
  refine Ru 1 rfl ?_
  refine JL.nil ?_
  refine Sr ?_
  refine Ru 1 rfl ?_
  refine JL.callP ca_84 rfl (natsize_fn (by assumption)) rfl ?_
  refine Ru 1 rfl ?_
  refine JL.callP ca_84 rfl (natsize_fn (by assumption)) rfl ?_
  refine Ru 2 rfl ?_
  refine JL.nil ?_
  refine J.seq ?_
  refine Sr ?_
  refine Ru 3 rfl ?_
  refine Nk [14, 6, 5, 4, 0, 1] rfl ?_
  refine Cs rfl (fun hc3 => ?_) fun hc3 => ?_
  ·
   refine J.seq ?_
   refine Sr ?_
   refine Ru 3 rfl ?_
   refine Nk [17, 5, 4, 0, 1] rfl ?_
   refine Cs rfl (fun hc4 => ?_) fun hc4 => ?_
   ·
    have hlt := nd_lt (m := vL l) (n := vL r) (by omega)
    refine Sr ?_
    refine Ru 1 rfl ?_
    refine JL.nil ?_
    exact J.retP (RetV.one rfl rfl) (by unfold cmpI3; rw [if_pos hlt]) rfl
   have hlt := nd_lt (m := vL r) (n := vL l) (by omega)
   refine J.skip ?_
   refine Sr ?_
   refine Ru 1 rfl ?_
   refine JL.nil ?_
   exact J.retP (RetV.one rfl rfl) (by unfold cmpI3; rw [if_neg (by omega), if_pos hlt]) rfl
  refine J.skip ?_
  refine J.seq ?_
  refine Sr ?_
  refine Ru 1 rfl ?_
  refine JL.op si_ rfl ?_
  refine Ru 1 rfl ?_
  refine Nk [7, 4, 0, 1] rfl ?_
  refine J.block ?_
  refine J.loop (fun t_ S_ h_ L_ => ∃ (j : Nat), t_ = j + 1 ∧ S_ = [(0, .slice a l.length ca), (1, .slice b r.length cb), (7, .int .i64 ((j : Int) - 1))] ∧ h = h_ ∧ L_ = [] ∧ (j ≤ tsz (d32 l) l.length ∧ vL l / 4294967296 ^ j = vL r / 4294967296 ^ j)) ⟨_, _, ?_, ⟨tsz (d32 l) l.length, rfl, rfl, rfl, rfl, ⟨Nat.le_refl _, by rw [e1, Nat.div_eq_of_lt (lt_nd _), show nd (vL l) = nd (vL r) by omega, Nat.div_eq_of_lt (lt_nd _)]⟩⟩⟩ ?_
  ·
   exact z4_
  rintro _ _ _ _ ⟨j, rfl, rfl, rfl, rfl, hj, he⟩
  refine J.seq ?_
  refine Sr ?_
  refine Ru 2 rfl ?_
  refine JL.nil ?_
  refine Cs rfl (fun hc5 => ?_) fun hc5 => ?_
  ·
   obtain ⟨i, rfl⟩ : ∃ i, j = i + 1 := ⟨j - 1, by omega⟩; have dl := div_low (vL l) i; have dr := div_low (vL r) i; rw [vL_digit] at dl dr; rw [he] at dl; have al := d32_at l i (by omega); have ar := d32_at r i (by omega)
   refine J.skip ?_
   refine J.seq ?_
   refine J.block ?_
   refine J.seq ?_
   refine J.drawn mixed_ (by kernel_rfl) ?_
   refine Rq 2 rfl ?_
   refine JQ.ope (RunE.index (m := i) sl_30 rfl rfl (by omega) hl rfl (by omega)) rfl ?_
   rintro _ ⟨b6, o6, hi6, rfl, hE6⟩
   refine JQ.op (RunV.ld_u32 ag_103 rfl (by assumption)) rfl ?_
   refine Rq 2 rfl ?_
   refine JQ.ope (RunE.index (m := i) sl_30 rfl rfl (by omega) hr rfl (by omega)) rfl ?_
   rintro _ ⟨b8, o8, hi8, rfl, hE8⟩
   refine JQ.op (RunV.ld_u32 ag_103 rfl (by assumption)) rfl ?_
   refine Rq 1 rfl ?_
   refine JQ.nil ?_
   refine Cs rfl (fun hc10 => ?_) fun hc10 => ?_
   ·
    refine J.seq ?_
    refine J.seq ?_
    refine J.drawn mixed_ (by kernel_rfl) ?_
    refine Rq 2 rfl ?_
    refine JQ.ope (RunE.index (m := i) sl_30 rfl rfl (by omega) hl rfl (by omega)) rfl ?_
    rintro _ ⟨b11, o11, hi11, rfl, hE11⟩
    refine JQ.op (RunV.ld_u32 ag_103 rfl (by assumption)) rfl ?_
    refine Rq 2 rfl ?_
    refine JQ.ope (RunE.index (m := i) sl_30 rfl rfl (by omega) hr rfl (by omega)) rfl ?_
    rintro _ ⟨b13, o13, hi13, rfl, hE13⟩
    refine JQ.op (RunV.ld_u32 ag_103 rfl (by assumption)) rfl ?_
    refine Rq 1 rfl ?_
    refine JQ.nil ?_
    refine Cs rfl (fun hc15 => ?_) fun hc15 => ?_
    ·
     have hlt := lt_of_div (x := vL l) (y := vL r) (d := 4294967296 ^ i) (by omega)
     refine Sr ?_
     refine Ru 1 rfl ?_
     refine JL.nil ?_
     exact J.retP (RetV.one rfl rfl) (by unfold cmpI3; rw [if_pos hlt]) rfl
    have hlt := lt_of_div (x := vL r) (y := vL l) (d := 4294967296 ^ i) (by omega)
    refine J.skip ?_
    refine Sr ?_
    refine Ru 1 rfl ?_
    refine JL.nil ?_
    exact J.retP (RetV.one rfl rfl) (by unfold cmpI3; rw [if_neg (by omega), if_pos hlt]) rfl
   refine J.skip ?_
   refine Rg ?_
   refine Ru 1 rfl ?_
   refine JL.op si_ rfl ?_
   refine Ru 1 rfl ?_
   refine JL.nil ?_
   refine ⟨_, ?_, _, ?_, ⟨i, rfl, rfl, rfl, rfl, ⟨by omega, by omega⟩⟩⟩
   ·
    omega
   exact z4_
  have hj0 : j = 0 := (by omega); rw [hj0, Nat.pow_zero, Nat.div_one, Nat.div_one] at he
  refine J.exit ?_
  refine Kp [] rfl ?_
  refine Sr ?_
  refine Ru 1 rfl ?_
  refine JL.nil ?_
  exact J.retP (RetV.one rfl rfl) (by unfold cmpI3; rw [if_neg (by omega), if_neg (by omega)]) rfl
theorem natOf_fn {n : Nat} {h : Part} (hn : n < 18446744073709551616) : FnR Tryz.prog 87 [.int .u64 n] h (fun v h' => ∃ a c, v = .slice a (toL n).length c ∧ SlR u32R 1 h' a c (toL n)) := by
  refine Fn.intro Tryz.func87 rfl Tryz.ntmps87 rfl (fun e he => ?_)
  refine J.weak [(0, _)] ⟨rfl, trivial⟩ ?_
  have hh0 := Part.le.refl h
  refine Sr ?_
  refine Ru 1 rfl ?_
  refine JL.nil ?_
  refine Sr ?_
  refine Ru 1 rfl ?_
  refine JL.op (RunV.toW n cv_63_103 rfl rfl) rfl ?_
  refine Ru 1 rfl ?_
  refine JL.op (RunV.shr_u64 4294967296 rfl rfl (by decide) (by decide) (by decide)) rfl ?_
  refine JL.op (RunV.toW (n / 4294967296) cv_63_103 rfl rfl) rfl ?_
  refine JL.lit1 ap_30 zr_103 rfl rfl rfl rfl rfl (fun b1 => ?_)
  refine JL.pubB (R := u32R) (sz := 1) (l := digN 2 n) dl_ ((show CellsR u32R 1 _ [.int .u32 ((n % 4294967296 : Nat) : Int), .int .u32 ((n / 4294967296 % 4294967296 : Nat) : Int)] (digN 2 n) from (show ws .u32 (digN 2 n) = [.int .u32 ((n % 4294967296 : Nat) : Int), .int .u32 ((n / 4294967296 % 4294967296 : Nat) : Int)] from by simp [ws, digN]) ▸ CellsR.of_ws32)) z20_ (fun h2 hle2 hQ => ?_)
  replace hh0 := hh0.mono hle2
  refine JL.callR ca_59 rfl (nattrim_fn' hQ (by rw [digN_len]) (by omega)) rfl ?_
  rintro _ h3 hle3 ⟨ra, rc, rfl, hR⟩
  replace hh0 := hh0.mono hle3
  replace hQ := hQ.mono hle3
  refine Ru 1 rfl ?_
  refine Nk [2] rfl ?_
  have hv : vL (digN 2 n) = n := (by rw [vL_digN]; exact Nat.mod_eq_of_lt (by simp only [Nat.reducePow]; omega)); rw [hv] at hR ⊢; exact J.retR (RetV.one rfl rfl) ⟨_, _, rfl, hR⟩
theorem mul_bound {x y i k : Nat} (hx : x < 4294967296 ^ i) (hy : y < 4294967296 ^ k) : x * y < 4294967296 ^ (i + k) := by
  rw [Nat.pow_add]
  exact Nat.mul_lt_mul'' hx hy
theorem vL_take_lt (l : List UInt32) (i : Nat) : vL (l.take i) < 4294967296 ^ i := by
  refine Nat.lt_of_lt_of_le (vL_lt _) (Nat.pow_le_pow_right (by decide) ?_)
  rw [List.length_take]; omega
theorem natmul_fn {a b : Option Addr} {ca cb : Nat} {l r : List UInt32} {h : Part} (hl : SlR u32R 1 h a ca l) (hr : SlR u32R 1 h b cb r) (hlb : l.length ≤ 100000) (hrb : r.length ≤ 100000) : FnR Tryz.prog 88 [.slice a l.length ca, .slice b r.length cb] h (fun v h' => ∃ a c, v = .slice a (toL (vL l * vL r)).length c ∧ SlR u32R 1 h' a c (toL (vL l * vL r))) := by
  have t1 := tsz_le (d32 l) l.length
  have t2 := tsz_le (d32 r) r.length
  have x1 : l.take (tsz (d32 l) l.length) = toL (vL l) := trim_toL l
  have x2 : r.take (tsz (d32 r) r.length) = toL (vL r) := trim_toL r
  have v1 : vL (toL (vL l)) = vL l := vL_toL _
  have v2 : vL (toL (vL r)) = vL r := vL_toL _
  have n1 : (toL (vL l)).length ≤ 100000 := by rw [toL_len, ← tsz_nd]; omega
  have n2 : (toL (vL r)).length ≤ 100000 := by rw [toL_len, ← tsz_nd]; omega
  refine Fn.intro Tryz.func88 rfl Tryz.ntmps88 rfl (fun e he => ?_)
  refine J.weak [(0, _), (1, _)] ⟨rfl, rfl, trivial⟩ ?_
  have hh0 := Part.le.refl h
  refine Sr ?_
  refine Ru 1 rfl ?_
  refine JL.nil ?_
  refine J.seq ?_
  refine J.drawn mixed_ (by kernel_rfl) ?_
  refine Rq 2 rfl ?_
  refine JQ.callP ca_84 rfl (natsize_fn (by assumption)) rfl ?_
  refine JQ.ope (RunE.cut_h sl_30 (m := tsz (d32 l) l.length) rfl rfl rfl hl rfl (by omega)) rfl ?_
  rintro _ ⟨a8, c8, rfl, hA⟩
  rw [x1] at hA ⊢; generalize toL (vL l) = A at *
  refine Rq 2 rfl ?_
  refine JQ.callP ca_84 rfl (natsize_fn (by assumption)) rfl ?_
  refine JQ.ope (RunE.cut_h sl_30 (m := tsz (d32 r) r.length) rfl rfl rfl hr rfl (by omega)) rfl ?_
  rintro _ ⟨a9, c9, rfl, hB⟩
  rw [x2] at hB ⊢; generalize toL (vL r) = B at *; rw [← v1, ← v2]
  refine Rq 2 rfl ?_
  refine Nq [1, 0, 4] rfl ?_
  refine Sr ?_
  refine Ru 4 rfl ?_
  refine JL.op ai_ rfl ?_
  refine JL.make1 mk_30 rfl rfl (m := A.length + B.length) (by omega) (by omega) (by omega) rfl rfl (fun b1 => ?_); rw [ws_zero]
  refine Ru 1 rfl ?_
  refine Nk [5, 1, 0, 4] rfl ?_
  refine J.seq ?_
  refine Sr ?_
  refine Ru 3 rfl ?_
  refine JL.nil ?_
  refine J.block ?_
  refine J.loop (fun t_ S_ h_ L_ => ∃ (i : Nat) (out : List UInt32), t_ = A.length - i ∧ S_ = [(1, .slice a9 B.length c9), (5, .slice (some ⟨b1, 0, none⟩) (A.length + B.length) (A.length + B.length)), (25, .slice a8 A.length c8), (26, .int .i64 A.length), (27, .int .i64 i)] ∧ h = h_ ∧ L_ = [.row (some ⟨b1, 0, none⟩) (A.length + B.length) 103 1 (A.length + B.length) (ws .u32 out)] ∧ (i ≤ A.length ∧ out.length = A.length + B.length ∧ vL out = vL (A.take i) * vL B)) ⟨_, _, ?_, ⟨0, _, rfl, rfl, rfl, rfl, ⟨by omega, digN_len _ _, by rw [vL_digN]; simp [vL]⟩⟩⟩ ?_
  ·
   exact z7_
  rintro _ _ _ _ ⟨i, out, rfl, rfl, rfl, rfl, hi, hol, hv⟩
  refine Sr ?_
  refine Ru 1 rfl ?_
  refine JL.nil ?_
  refine J.seq ?_
  refine Cs rfl (fun hc6 => ?_) fun hc6 => ?_
  ·
   have hi' : i < A.length := (by omega); have hz := vL_zero_above (l := out) (m := i + B.length) (by rw [hv]; exact mul_bound (vL_take_lt A i) (vL_lt B)) (i + B.length) (Nat.le_refl _); have hai := d32_lt A i
   refine J.skip ?_
   refine J.seq ?_
   refine J.block ?_
   refine Sr ?_
   refine Ru 1 rfl ?_
   refine JL.ope (RunE.index sl_30 rfl rfl z9_ (by assumption) rfl (by omega)) rfl ?_
   rintro _ ⟨b7, o7, hi7, rfl, hE7⟩
   refine JL.op (RunV.ld_u32 ag_103 rfl (by assumption)) rfl ?_
   rw [d32_at]
   refine Ru 2 rfl ?_
   refine JL.nil ?_
   refine Sr ?_
   refine Ru 1 rfl ?_
   refine JL.nil ?_
   refine J.seq ?_
   refine Sr ?_
   refine Ru 3 rfl ?_
   refine JL.nil ?_
   refine J.block ?_
   refine J.loop (fun t_ S_ h_ L_ => ∃ (k c : Nat) (o2 : List UInt32), t_ = B.length - k ∧ S_ = [(1, .slice a9 B.length c9), (5, .slice (some ⟨b1, 0, none⟩) (A.length + B.length) (A.length + B.length)), (6, .int .i64 i), (7, .int .u32 (d32 A i : Nat)), (8, .int .u64 c), (25, .slice a8 A.length c8), (26, .int .i64 A.length), (27, .int .i64 i), (32, .slice a9 B.length c9), (33, .int .i64 B.length), (34, .int .i64 k)] ∧ h = h_ ∧ L_ = [.row (some ⟨b1, 0, none⟩) (A.length + B.length) 103 1 (A.length + B.length) (ws .u32 o2)] ∧ (k ≤ B.length ∧ o2.length = A.length + B.length ∧ c < 4294967296 ∧ d32 o2 (i + B.length) = 0 ∧ vL o2 + c * 4294967296 ^ (i + k) = vL out + d32 A i * vL (B.take k) * 4294967296 ^ i)) ⟨_, _, ?_, ⟨0, 0, out, rfl, rfl, rfl, rfl, ⟨by omega, hol, by omega, hz, by simp [vL]⟩⟩⟩ ?_
   ·
    exact z4_
   rintro _ _ _ _ ⟨k, c, o2, rfl, rfl, rfl, rfl, hk, ho2, hc, hz2, hv2⟩
   refine Sr ?_
   refine Ru 1 rfl ?_
   refine JL.nil ?_
   refine J.seq ?_
   refine Cs rfl (fun hc9 => ?_) fun hc9 => ?_
   ·
    have hk' : k < B.length := (by omega); have hbk := d32_lt B k; have hdo := d32_lt o2 (i + k); have hcl := carry_lt hc hai hbk hdo; have hst := mul_step (b := B) hk' (by omega) hv2
    refine J.skip ?_
    refine J.seq ?_
    refine J.block ?_
    refine Sr ?_
    refine Ru 1 rfl ?_
    refine JL.ope (RunE.index sl_30 rfl rfl z9_ (by assumption) rfl (by omega)) rfl ?_
    rintro _ ⟨b10, o10, hi10, rfl, hE10⟩
    refine JL.op (RunV.ld_u32 ag_103 rfl (by assumption)) rfl ?_
    rw [d32_at]
    refine Ru 2 rfl ?_
    refine JL.nil ?_
    refine Sr ?_
    refine Ru 2 rfl ?_
    refine JL.op z11_ rfl ?_
    refine Ru 1 rfl ?_
    refine JL.op z11_ rfl ?_
    refine JL.op (RunV.mul_u64 rfl rfl z34_ z34_) rfl ?_
    refine Ru 3 rfl ?_
    refine JL.op ai_ rfl ?_
    refine JL.op (RunV.index_at sl_30 (m := i + k) rfl rfl (by omega) (by omega)) rfl ?_
    refine JL.op (RunV.wload ag_103 rfl mm_ (by omega)) rfl ?_
    refine JL.op (RunV.conv_u64 cv_103_63 rfl (by omega) (by omega)) rfl ?_
    refine JL.op (RunV.add_u64 rfl rfl z34_ z34_) rfl ?_
    refine JL.op (RunV.add_u64 rfl rfl z34_ z34_) rfl ?_
    rw [show (c : Int) + ((d32 A i : Int) * (d32 B k : Int) + (d32 o2 (i + k) : Int)) = ((c + d32 A i * d32 B k + d32 o2 (i + k) : Nat) : Int) from by rw [Int.natCast_add, Int.natCast_add, Int.natCast_mul, Int.add_assoc]]
    refine Ru 1 rfl ?_
    refine JL.nil ?_
    refine Sr ?_
    refine Ru 3 rfl ?_
    refine JL.op ai_ rfl ?_
    refine Ru 1 rfl ?_
    refine JL.op (RunV.toW (c + d32 A i * d32 B k + d32 o2 (i + k)) cv_63_103 rfl rfl) rfl ?_
    refine JL.op (RunV.index_at sl_30 (m := i + k) rfl rfl (by omega) (by omega)) rfl ?_
    refine JL.storeW (c + d32 A i * d32 B k + d32 o2 (i + k)) ag_103 rfl rfl rfl dl_ (by omega) ?_
    refine JL.nil ?_
    refine Rg ?_
    refine Ru 1 rfl ?_
    refine JL.op (RunV.shr_u64 4294967296 rfl rfl (by decide) (by decide) (by decide)) rfl ?_
    refine Ru 1 rfl ?_
    refine JL.nil ?_
    refine Rg ?_
    refine JL.op ai_ rfl ?_
    refine Ru 1 rfl ?_
    refine JL.nil ?_
    refine ⟨_, ?_, _, ?_, ⟨k + 1, (c + d32 A i * d32 B k + d32 o2 (i + k)) / 4294967296, _, rfl, rfl, rfl, rfl, ⟨by omega, by rw [List.length_set]; exact ho2, by omega, by rw [d32_set _ _ _ _ (by omega), if_neg (by omega)]; exact hz2, hst⟩⟩⟩
    ·
     omega
    exact z4_
   have hke : k = B.length := (by omega); subst hke; have hrow := mul_row hi' (by omega) hz2 hc hv hv2
   refine J.exit ?_
   refine Rg ?_
   refine Ru 4 rfl ?_
   refine JL.op ai_ rfl ?_
   refine Ru 1 rfl ?_
   refine JL.op (RunV.toW c cv_63_103 rfl rfl) rfl ?_
   refine JL.op (RunV.index_at sl_30 (m := i + B.length) rfl rfl (by omega) (by omega)) rfl ?_
   refine JL.storeW c ag_103 rfl rfl rfl dl_ (by omega) ?_
   refine JL.nil ?_
   refine Rg ?_
   refine JL.op ai_ rfl ?_
   refine Ru 1 rfl ?_
   refine JL.nil ?_
   refine ⟨_, ?_, _, ?_, ⟨i + 1, _, rfl, rfl, rfl, rfl, ⟨by omega, by rw [List.length_set]; exact ho2, hrow⟩⟩⟩
   ·
    omega
   exact z7_
  have hie : i = A.length := (by omega); rw [hie, List.take_length] at hv
  refine J.exit ?_
  refine Kp [5] rfl ?_
  refine Sr ?_
  refine Ru 1 rfl ?_
  refine JL.pub32 dl_ hol.symm (by omega) (fun h9 hle9 hP9 => ?_); replace hh0 := hh0.mono hle9; replace hl := hl.mono hle9; replace hr := hr.mono hle9; replace hA := hA.mono hle9; replace hB := hB.mono hle9
  refine JL.callR ca_59 rfl (nattrim_fn' hP9 hol.symm (by omega)) rfl ?_
  rintro _ h14 hle14 ⟨ra, rc, rfl, hR⟩
  replace hl := hl.mono hle14
  replace hr := hr.mono hle14
  replace hh0 := hh0.mono hle14
  replace hA := hA.mono hle14
  replace hB := hB.mono hle14
  refine Ru 1 rfl ?_
  refine JL.nil ?_
  rw [hv] at hR ⊢; exact J.retR (RetV.one rfl rfl) ⟨_, _, rfl, hR⟩
end Go.Proofs.YtmngjbefnloljaaGreatDoor
