/- Plain laws of nodes and bytes: what is written is read again; what is read is written again; what is cut off is too short. No program in sight. -/
import Derived.Test.YtmngjbefnloljaaDoorDerN
set_option linter.unusedSimpArgs false
set_option linter.unusedVariables false
set_option linter.constructorNameAsVariable false
namespace Go.Proofs.YtmngjbefnloljaaDoor
open Go Go.RowKit

/-! ## numbers as bytes -/
theorem foldl_be (l : List UInt8) (a : Nat) : l.foldl (fun a b => a * 256 + b.toNat) a = a * 256 ^ l.length + beval l := by
  unfold beval
  induction l generalizing a with
  | nil => simp
  | cons x r ih =>
    simp only [List.foldl_cons, List.length_cons, Nat.zero_mul, Nat.zero_add]
    rw [ih (a * 256 + x.toNat), ih x.toNat, Nat.pow_succ, Nat.add_mul]
    have : a * 256 * 256 ^ r.length = a * (256 ^ r.length * 256) := by rw [Nat.mul_assoc, Nat.mul_comm 256]
    omega
theorem beval_cons (x : UInt8) (r : List UInt8) : beval (x :: r) = x.toNat * 256 ^ r.length + beval r := by
  have := foldl_be r x.toNat
  unfold beval at *
  simpa using this
theorem beval_lt' (l : List UInt8) : beval l < 256 ^ l.length := by
  have := beval_lt l l.length
  rwa [List.take_length] at this
theorem beval_be (k n : Nat) : beval (be k n) = n % 256 ^ k := by
  induction k with
  | zero => simp [be, beval, Nat.mod_one]
  | succ k ih =>
    rw [be, beval_cons, ih, be_len, Nat.mod_pow_succ]
    simp only [UInt8.toNat_ofNat', show (2 : Nat) ^ 8 = 256 from rfl]
    rw [Nat.mul_comm]; omega
theorem be_add (k a n : Nat) : be k (a * 256 ^ k + n) = be k n := by
  induction k generalizing a with
  | zero => rfl
  | succ k ih =>
    have h1 : a * 256 ^ (k + 1) + n = (a * 256) * 256 ^ k + n := by rw [Nat.pow_succ, Nat.mul_assoc, Nat.mul_comm 256]
    have hp : 0 < 256 ^ k := Nat.pow_pos (by decide)
    simp only [be]
    rw [h1, ih]
    congr 1
    rw [Nat.mul_comm (a * 256), Nat.mul_add_div hp]
    apply UInt8.toNat_inj.1
    simp only [UInt8.toNat_ofNat']
    omega
theorem be_beval (l : List UInt8) : be l.length (beval l) = l := by
  induction l with
  | nil => rfl
  | cons x r ih =>
    have hp : 0 < 256 ^ r.length := Nat.pow_pos (by decide)
    have hlt := beval_lt' r
    simp only [List.length_cons, be]
    rw [beval_cons, be_add, ih]
    congr 1
    rw [Nat.mul_comm x.toNat, Nat.mul_add_div hp, Nat.div_eq_of_lt hlt]
    simp
theorem nby_4 (n : Nat) (h : n < 4294967296) : nby n ≤ 4 ∧ n < 256 ^ nby n ∧ (128 ≤ n → 0 < n / 256 ^ (nby n - 1)) := by
  unfold nby
  (repeat' split) <;> refine ⟨by omega, by simp; omega, fun hh => ?_⟩ <;> first | omega | (simp; omega)
theorem nby_of (n k : Nat) (h1 : 1 ≤ k) (h4 : k ≤ 4) (hlt : n < 256 ^ k) (h0 : 0 < n / 256 ^ (k - 1)) : nby n = k := by
  have : k = 1 ∨ k = 2 ∨ k = 3 ∨ k = 4 := by omega
  rcases this with rfl | rfl | rfl | rfl <;> simp at hlt h0 <;> unfold nby <;> (repeat' split) <;> omega

/-! ## pieces of bytes -/
theorem pre_drop {a b l : List UInt8} {p : Nat} (h : a ++ b <+: l.drop p) : a <+: l.drop p ∧ b <+: l.drop (p + a.length) := by
  obtain ⟨t, ht⟩ := h
  refine ⟨⟨b ++ t, by rw [← ht, List.append_assoc]⟩, ⟨t, ?_⟩⟩
  rw [← List.drop_drop, ← ht, List.append_assoc, List.drop_left]
theorem pre_len {b l : List UInt8} {p : Nat} (h : b <+: l.drop p) : b = [] ∨ p + b.length ≤ l.length := by
  have := h.length_le
  rw [List.length_drop] at this
  cases b with
  | nil => exact .inl rfl
  | cons x r => simp only [List.length_cons] at *; exact .inr (by omega)
theorem pre_byte {x : UInt8} {r l : List UInt8} {p : Nat} (h : x :: r <+: l.drop p) : byteAt l p = x.toNat ∧ p < l.length ∧ r <+: l.drop (p + 1) := by
  have h2 := (pre_drop (a := [x]) (b := r) h).2
  have hl := pre_len h
  simp only [List.length_cons, reduceCtorEq, false_or] at hl
  refine ⟨?_, by omega, h2⟩
  obtain ⟨t, ht⟩ := h
  have : l[p]? = some x := by
    have := congrArg (·[0]?) ht
    simp only [List.cons_append, List.getElem?_cons_zero, List.getElem?_drop, Nat.add_zero] at this
    exact this.symm
  simp [byteAt, List.getD, this]
theorem pre_cut {b l : List UInt8} {p : Nat} (h : b <+: l.drop p) : cutL l p (p + b.length) = b := by
  unfold cutL
  rw [show p + b.length - p = b.length by omega]
  exact (List.prefix_iff_eq_take.1 h).symm
theorem cut_pre {l : List UInt8} {p q : Nat} : cutL l p q <+: l.drop p := List.take_prefix _ _
theorem cut_len {l : List UInt8} {p q : Nat} (h : p ≤ q) (h2 : q ≤ l.length) : (cutL l p q).length = q - p := by
  unfold cutL; simp; omega
theorem cut_cut {l : List UInt8} {p q r : Nat} (h : p ≤ q) (h2 : q ≤ r) : cutL l p q ++ cutL l q r = cutL l p r := by
  unfold cutL
  have e : l.drop q = (l.drop p).drop (q - p) := by rw [List.drop_drop]; congr 1; omega
  have e2 : r - p = (q - p) + (r - q) := by omega
  rw [e, e2, List.take_add]
theorem cut_one {l : List UInt8} {p : Nat} (h : p < l.length) : cutL l p (p + 1) = [UInt8.ofNat (byteAt l p)] := by
  unfold cutL
  rw [show p + 1 - p = 1 by omega, List.drop_eq_getElem_cons h, List.take_succ_cons, List.take_zero, ← byteAt_eq l p h]
  simp

/-! ## lengths -/
theorem lenB_len (n : Nat) : 1 ≤ (lenB n).length := by unfold lenB; split <;> simp
theorem rdS_lenB {n p e : Nat} {l : List UInt8} (h : lenB n <+: l.drop p) (he : p + (lenB n).length ≤ e) (hn : n < 4294967296) : rdS l p e = .ok (n, p + (lenB n).length) := by
  have hl1 := lenB_len n
  unfold lenB at *
  split at h
  · rename_i h1
    rw [if_pos h1] at *
    obtain ⟨hb, hp, _⟩ := pre_byte h
    have e1 : (UInt8.ofNat n).toNat = n := by simp; omega
    rw [e1] at hb
    unfold rdS
    rw [if_neg (by simp at he; omega), if_pos (by omega), hb]
    rfl
  · rename_i h1
    rw [if_neg h1] at *
    obtain ⟨h4, hlt, h0⟩ := nby_4 n hn
    have hb6 := nby_bd n
    obtain ⟨hb, hp, hr⟩ := pre_byte h
    have e1 : (UInt8.ofNat (128 + nby n)).toNat = 128 + nby n := by simp; omega
    rw [e1] at hb
    simp only [List.length_cons, be_len] at he ⊢
    have ht : (l.drop (p + 1)).take (byteAt l p - 128) = be (nby n) n := by
      have := List.prefix_iff_eq_take.1 hr
      rw [be_len] at this
      rw [hb, show 128 + nby n - 128 = nby n by omega, ← this]
    have hv : beval (be (nby n) n) = n := by rw [beval_be, Nat.mod_eq_of_lt hlt]
    unfold rdS
    rw [if_neg (by omega), if_neg (by omega), if_neg (by omega), if_neg (by omega), ht, hv, if_neg (by rw [hb, show 128 + nby n - 128 - 1 = nby n - 1 by omega]; have := h0 (by omega); omega)]
    rw [hb, show p + 1 + (128 + nby n - 128) = p + (nby n + 1) by omega]
theorem rdS_cut {n p k : Nat} {l : List UInt8} (h : (lenB n).take k <+: l.drop p) (hk : k < (lenB n).length) (hn : n < 4294967296) : rdS l p (p + k) = .error 30 := by
  unfold lenB at *
  split at h
  · rename_i h1
    rw [if_pos h1] at *
    unfold rdS
    rw [if_pos (by simp at hk; omega)]
  · rename_i h1
    rw [if_neg h1] at *
    obtain ⟨h4, hlt, h0⟩ := nby_4 n hn
    have hb6 := nby_bd n
    cases k with
    | zero => unfold rdS; rw [if_pos (by omega)]
    | succ k =>
      rw [List.take_succ_cons] at h
      obtain ⟨hb, hp, hr⟩ := pre_byte h
      have e1 : (UInt8.ofNat (128 + nby n)).toNat = 128 + nby n := by simp; omega
      rw [e1] at hb
      simp only [List.length_cons, be_len] at hk
      unfold rdS
      rw [if_neg (by omega), if_neg (by omega), if_neg (by omega), if_pos (by omega)]
theorem rdS_inv {l : List UInt8} {p e n q : Nat} (h : rdS l p e = .ok (n, q)) (he : e ≤ l.length) : cutL l p q = lenB n ∧ n < 4294967296 := by
  unfold rdS at h
  split at h
  · cases h
  · rename_i h0
    have hb := byteAt_lt l p
    split at h
    · rename_i h1
      injection h with h; injection h with h2 h3
      subst h2 h3
      refine ⟨?_, by omega⟩
      rw [cut_one (by omega)]
      unfold lenB
      rw [if_pos h1]
    · rename_i h1
      split at h
      · cases h
      · split at h
        · cases h
        · split at h
          · cases h
          · rename_i h2 h3 h4
            injection h with h; injection h with h5 h6
            obtain ⟨k, hk⟩ : ∃ k, byteAt l p - 128 = k := ⟨_, rfl⟩
            rw [hk] at h2 h3 h4 h5 h6
            have hbl : ((l.drop (p + 1)).take k).length = k := by simp; omega
            have hvl := beval_lt' ((l.drop (p + 1)).take k)
            rw [hbl, h5] at hvl
            rw [h5] at h4
            have h41 : 1 ≤ k ∧ k ≤ 4 := by omega
            have hpk : (256 : Nat) ^ k ≤ 256 ^ 4 := Nat.pow_le_pow_right (by decide) h41.2
            have hnb := nby_of n k h41.1 h41.2 hvl (by omega)
            refine ⟨?_, by have : (256 : Nat) ^ 4 = 4294967296 := by decide
                           omega⟩
            have hbe := be_beval ((l.drop (p + 1)).take k)
            rw [hbl, h5] at hbe
            rw [← h6, ← cut_cut (q := p + 1) (by omega) (by omega), cut_one (by omega)]
            unfold lenB
            rw [if_neg (by omega), hnb, hbe, show byteAt l p = 128 + k by omega]
            unfold cutL
            rw [show p + 1 + k - (p + 1) = k by omega]
            rfl

/-! ## heads -/
theorem tag_byte {c t : Int} {k : Bool} (hc : c = 0 ∨ c = 2) (ht : 0 ≤ t ∧ t ≤ 30) : (UInt8.ofNat (tagN c t k)).toNat / 64 = c.toNat ∧ (UInt8.ofNat (tagN c t k)).toNat % 32 = t.toNat ∧ decide ((UInt8.ofNat (tagN c t k)).toNat / 32 % 2 = 1) = k := by
  have h : (UInt8.ofNat (tagN c t k)).toNat = tagN c t k := by
    simp only [UInt8.toNat_ofNat']
    unfold tagN
    cases k <;> simp <;> omega
  rw [h]
  unfold tagN
  cases k <;> simp <;> omega
theorem mayB_bd {c t : Int} {k : Bool} (h : mayB c t k = true) : (c = 0 ∨ c = 2) ∧ 0 ≤ t ∧ t ≤ 30 := by
  unfold mayB at h
  simp only [Bool.and_eq_true, Bool.or_eq_true, decide_eq_true_eq] at h
  omega
theorem byte_tag (b : Nat) (hb : b < 256) : UInt8.ofNat (tagN (b / 64 : Nat) (b % 32 : Nat) (decide (b / 32 % 2 = 1))) = UInt8.ofNat b := by
  congr 1
  unfold tagN
  by_cases h : b / 32 % 2 = 1
  · simp [h]; omega
  · simp [h]; omega
theorem rdH_headB {c t : Int} {k : Bool} {n p e : Nat} {l : List UInt8} (hm : mayB c t k = true) (h : headB c t k n <+: l.drop p) (he : p + (headB c t k n).length + n ≤ e) (hn : n < 4294967296) :
    rdH l p e true = .ok (c.toNat, t.toNat, k, n, p + (headB c t k n).length) := by
  obtain ⟨hc, ht⟩ := mayB_bd hm
  obtain ⟨hb, hp, hr⟩ := pre_byte h
  obtain ⟨e1, e2, e3⟩ := tag_byte (k := k) hc ht
  have ec : ((c.toNat : Nat) : Int) = c := Int.toNat_of_nonneg (by omega)
  have et : ((t.toNat : Nat) : Int) = t := Int.toNat_of_nonneg (by omega)
  have hlen : (headB c t k n).length = (lenB n).length + 1 := rfl
  have hS := rdS_lenB (e := e) hr (by omega) hn
  unfold rdH
  rw [hb, e1, e2, e3, ec, et, if_neg (by omega), if_neg (by rw [hm]; decide), hS]
  simp only
  rw [if_neg (by omega), if_neg (by decide), hlen]
  congr 5
  omega
/-- A head that is cut off, or more than what is there. -/
theorem rdH_cut {c t : Int} {k : Bool} {n p j : Nat} {ok : Bool} {b l : List UInt8} (hm : mayB c t k = true) (h : (headB c t k n ++ b).take j <+: l.drop p) (hb : b.length = n) (hj : j < (headB c t k n ++ b).length) (hn : n < 4294967296) :
    rdH l p (p + j) ok = .error (p, 30) := by
  cases j with
  | zero => unfold rdH; rw [if_pos (by omega)]
  | succ j =>
    obtain ⟨hc, ht⟩ := mayB_bd hm
    obtain ⟨e1, e2, e3⟩ := tag_byte (k := k) hc ht
    have ec : ((c.toNat : Nat) : Int) = c := Int.toNat_of_nonneg (by omega)
    have et : ((t.toNat : Nat) : Int) = t := Int.toNat_of_nonneg (by omega)
    have hlen : (headB c t k n).length = (lenB n).length + 1 := rfl
    rw [List.length_append, hlen] at hj
    have h' : UInt8.ofNat (tagN c t k) :: (lenB n ++ b).take j <+: l.drop p := h
    obtain ⟨hb1, hp, hr⟩ := pre_byte h'
    unfold rdH
    rw [hb1, e1, e2, e3, ec, et, if_neg (by omega), if_neg (by rw [hm]; decide)]
    by_cases hjl : j < (lenB n).length
    · rw [List.take_append_of_le_length (by omega)] at hr
      rw [show p + (j + 1) = p + 1 + j by omega, rdS_cut hr hjl hn]
    · rw [List.take_append, List.take_of_length_le (by omega)] at hr
      have hS := rdS_lenB (e := p + (j + 1)) (pre_drop hr).1 (by omega) hn
      rw [hS]
      simp only
      rw [if_pos (by omega)]
theorem rdH_inv {l : List UInt8} {p e c t n q : Nat} {k ok : Bool} (h : rdH l p e ok = .ok (c, t, k, n, q)) (he : e ≤ l.length) : mayB c t k = true ∧ cutL l p q = headB c t k n ∧ n < 4294967296 := by
  have hle := rdH_le h
  unfold rdH at h
  split at h
  · cases h
  · split at h
    · cases h
    · rename_i h0 h1
      split at h
      · cases h
      · rename_i n' q' hs
        split at h
        · cases h
        · split at h
          · cases h
          · injection h with h; injection h with h2 h3; injection h3 with h3 h4; injection h4 with h4 h5; injection h5 with h5 h6
            subst h5 h6
            have hi := rdS_inv hs he
            have hq := rdS_le hs
            rw [h2, h3, h4] at h1
            refine ⟨by simpa using h1, ?_, hi.2⟩
            rw [← cut_cut (q := p + 1) (by omega) (by omega), cut_one (by omega), hi.1, ← h2, ← h3, ← h4]
            unfold headB
            rw [byte_tag _ (byteAt_lt l p)]
            rfl

/-! ## what is written is read -/
theorem Nd.putL_pre {set : Bool} {ks : List Nd} {last : Option (List UInt8)} {acc B : List UInt8} (h : Nd.putL set ks last acc = some B) : ∃ r, B = acc ++ r := by
  induction ks generalizing last acc with
  | nil => simp only [Nd.putL, Option.some.injEq] at h; exact ⟨[], by simp [h]⟩
  | cons x r ih =>
    simp only [Nd.putL] at h
    split at h
    · cases h
    · split at h
      · cases h
      · obtain ⟨r', hr⟩ := ih h
        exact ⟨_, by rw [hr, List.append_assoc]⟩
theorem okN_parts {c t : Int} {k : Bool} {bs : List UInt8} {ks : List Nd} (h : okN c t k bs ks = true) : mayB c t k = true ∧ (k = true → bs = []) ∧ (k = false → ks = [] ∧ (decide (c = 2) || valB t bs) = true) := by
  unfold okN at h
  simp only [Bool.and_eq_true, Bool.not_eq_eq_eq_not, Bool.not_true] at h
  obtain ⟨h1, h2, h3, h4⟩ := h
  have hc := (mayB_bd h1).1
  refine ⟨h1, fun hk => ?_, fun hk => ?_⟩
  · subst hk
    exact List.eq_nil_of_length_eq_zero (by simpa using h2)
  · subst hk
    refine ⟨List.eq_nil_of_length_eq_zero (by simpa using h3), ?_⟩
    rcases hc with hc | hc
    · subst hc; simpa using h4
    · simp [hc]
theorem rdN_put : ∀ (d : Nat) (x : Nd) (b l : List UInt8) (p e : Nat), x.put = some b → x.rk ≤ d → b.length < 4294967296 → b <+: l.drop p → p + b.length ≤ e → rdN d l p e = .ok (x, p + b.length) := by
  intro d
  induction d with
  | zero => intro x b l p e _ hr; cases x; simp [Nd.rk] at hr
  | succ d ih =>
    intro x b l p e hb hr hl hpre he
    cases x with
    | mk c t k bs ks =>
    simp only [Nd.put] at hb
    split at hb
    · rename_i hok
      cases hin : Nd.putL (decide (c = 0) && decide (t = 17)) ks none bs with
      | none => simp [hin] at hb
      | some inb =>
        simp only [hin, Option.map_some, Option.some.injEq] at hb
        subst hb
        simp only [Nd.rk] at hr
        obtain ⟨hm, hk1, hk2⟩ := okN_parts hok
        obtain ⟨hcc, htt⟩ := mayB_bd hm
        have ec : ((c.toNat : Nat) : Int) = c := Int.toNat_of_nonneg (by omega)
        have et : ((t.toNat : Nat) : Int) = t := Int.toNat_of_nonneg (by omega)
        rw [List.length_append] at hl he ⊢
        obtain ⟨hp1, hp2⟩ := pre_drop hpre
        have hH := rdH_headB (e := e) hm hp1 (by omega) (by omega)
        cases k with
        | false =>
          obtain ⟨hks, hv⟩ := hk2 rfl
          subst hks
          simp only [Nd.putL, Option.some.injEq] at hin
          subst hin
          rw [rdN_prim hH, pre_cut hp2, ec, et, if_pos (by rw [show (decide (c.toNat = 2)) = decide (c = 2) from decide_eq_decide.2 (by omega)]; exact hv)]
          congr 2
          omega
        | true =>
          have hbs := hk1 rfl
          subst hbs
          have key : ∀ (r : List Nd) (f q last : Nat) (acc : List Nd) (rr : Bool) (lo : Option (List UInt8)) (ab rb : List UInt8), Nd.rkL r ≤ d → Nd.putL (decide (c = 0) && decide (t = 17)) r lo ab = some (ab ++ rb) → rb <+: l.drop q → rb.length < 4294967296 → rb.length ≤ f →
              (∀ z, lo = some z → cutL l last q = z ∧ acc ≠ []) → (lo = none → acc = []) → ((decide (c = 0) && decide (t = 17)) = true → rr = true) →
              ∃ r', rdK (rdN d l) l (q + rb.length) f q acc rr last = .ok (acc ++ r, r', q + rb.length) ∧ ((decide (c = 0) && decide (t = 17)) = true → r' = true) := by
            intro r
            induction r with
            | nil =>
              intro f q last acc rr lo ab rb _ h1 _ _ _ _ _ h6
              simp only [Nd.putL, Option.some.injEq] at h1
              have : rb = [] := by simpa using h1
              subst this
              refine ⟨rr, ?_, h6⟩
              rw [rdK_stop (by simp)]
              simp
            | cons y r ihr =>
              intro f q last acc rr lo ab rb h0 h1 h2 h3 h4 h5 h5' h6
              simp only [Nd.rkL] at h0
              simp only [Nd.putL] at h1
              split at h1
              · cases h1
              · rename_i yb hyb
                split at h1
                · cases h1
                · rename_i hab
                  obtain ⟨rb', hrb⟩ := Nd.putL_pre h1
                  have hrb2 : rb = yb ++ rb' := by rw [List.append_assoc] at hrb; exact List.append_cancel_left hrb
                  subst hrb2
                  rw [List.length_append] at h3 h4 ⊢
                  have hyl := (Nd.put_len _ y yb (Nat.le_refl _) hyb).1
                  obtain ⟨g1, g2⟩ := pre_drop h2
                  obtain ⟨f', rfl⟩ : ∃ f', f = f' + 1 := ⟨f - 1, by omega⟩
                  have hy := ih y yb l q (q + (yb.length + rb'.length)) hyb (by omega) (by omega) g1 (by omega)
                  have hcy : cutL l q (q + yb.length) = yb := pre_cut g1
                  rw [rdK_ok (by omega) hy]
                  rw [← List.append_assoc] at h1
                  obtain ⟨r', k1, k2⟩ := ihr f' (q + yb.length) q (acc ++ [y]) (rr && (decide (acc.length = 0) || decide (Go.Lib.compareBytes (cutL l last q) (cutL l q (q + yb.length)) ≤ 0))) (some yb) (ab ++ yb) rb' (by omega) h1 g2 (by omega) (by omega)
                    (fun z hz => by cases hz; exact ⟨hcy, by simp⟩) (fun hz => by cases hz) (fun hs => by
                      rw [h6 hs, Bool.true_and, hcy]
                      cases lo with
                      | none => rw [h5' rfl]; rfl
                      | some z =>
                        obtain ⟨hz1, hz2⟩ := h5 z rfl
                        rw [hz1]
                        rw [hs, Bool.true_and] at hab
                        simp only [aboveB, decide_eq_true_eq] at hab
                        rw [decide_eq_true (show Go.Lib.compareBytes z yb ≤ 0 by omega), Bool.or_true])
                  refine ⟨r', ?_, k2⟩
                  rw [Nat.add_assoc] at k1
                  rw [k1, List.append_assoc]
                  rfl
          obtain ⟨r', k1, k2⟩ := key ks inb.length (p + (headB c t true inb.length).length) (p + (headB c t true inb.length).length) [] true none [] inb (by omega) (by simpa using hin) hp2 (by omega) (Nat.le_refl _) (fun z hz => by cases hz) (fun _ => rfl) (fun _ => rfl)
          rw [rdN_cons hH, k1]
          simp only [List.nil_append]
          rw [if_pos, ec, et]
          · congr 2
            omega
          · by_cases hs : (decide (c = 0) && decide (t = 17)) = true
            · rw [k2 hs]; rfl
            · simp only [Bool.and_eq_true, decide_eq_true_eq, not_and] at hs
              by_cases hc0 : c = 0
              · rw [decide_eq_true (show t.toNat ≠ 17 by have := hs hc0; omega)]; simp
              · rw [decide_eq_true (show c.toNat ≠ 0 by omega)]; simp
    · cases hb
/-- Cut off, it is too short. -/
theorem rdN_cut {d : Nat} {x : Nd} {b l : List UInt8} {p j : Nat} (hb : x.put = some b) (hl : b.length < 4294967296) (hpre : b.take j <+: l.drop p) (hj : j < b.length) : rdN d l p (p + j) = .error (p, 30) := by
  cases x with
  | mk c t k bs ks =>
  simp only [Nd.put] at hb
  split at hb
  · rename_i hok
    cases hin : Nd.putL (decide (c = 0) && decide (t = 17)) ks none bs with
    | none => simp [hin] at hb
    | some inb =>
      simp only [hin, Option.map_some, Option.some.injEq] at hb
      subst hb
      have hm := (okN_parts hok).1
      have hH := fun ok => rdH_cut (ok := ok) hm hpre rfl hj (by rw [List.length_append] at hl; omega)
      cases d with
      | zero => exact rdN_err0 (hH _)
      | succ d => exact rdN_err (hH _)
  · cases hb

/-! ## what is read is written -/
theorem okN_of {c t : Int} {k : Bool} {bs : List UInt8} {ks : List Nd} (hm : mayB c t k = true) (h1 : k = true → bs = []) (h2 : k = false → ks = [] ∧ (decide (c = 2) || valB t bs) = true) : okN c t k bs ks = true := by
  unfold okN
  have hc := (mayB_bd hm).1
  rw [hm]
  cases k with
  | true => rw [h1 rfl]; simp
  | false =>
    obtain ⟨h3, h4⟩ := h2 rfl
    subst h3
    rcases hc with hc | hc
    · subst hc; simpa using h4
    · simp [hc]
theorem rdN_inv : ∀ (d : Nat) (l : List UInt8) (p e : Nat) (x : Nd) (q : Nat), e ≤ l.length → rdN d l p e = .ok (x, q) → x.put = some (cutL l p q) ∧ x.rk ≤ d := by
  intro d
  induction d with
  | zero => intro l p e x q _ h; simp only [rdN] at h; split at h <;> cases h
  | succ d ih =>
    intro l p e x q he h
    simp only [rdN] at h
    split at h
    · cases h
    · rename_i c t k n q0 hh
      have h0 := rdH_le hh
      obtain ⟨hm, hcut, hn⟩ := rdH_inv hh he
      split at h
      · rename_i hk
        subst hk
        split at h
        · rename_i hv
          injection h with h; injection h with h1 h2
          subst h1 h2
          have hok : okN c t false (cutL l q0 (q0 + n)) [] = true := okN_of hm (fun hh => by cases hh) (fun _ => ⟨rfl, by rw [show decide ((c : Int) = 2) = decide (c = 2) from decide_eq_decide.2 (by omega)]; exact hv⟩)
          refine ⟨?_, by simp [Nd.rk, Nd.rkL]⟩
          simp only [Nd.put, hok, if_true, Nd.putL, Option.map_some]
          rw [cut_len (by omega) (by omega), show q0 + n - q0 = n by omega, ← hcut, cut_cut (by omega) (by omega)]
        · cases h
      · rename_i hk
        have hk : k = true := by simpa using hk
        subst hk
        have key : ∀ (f q1 : Nat) (acc : List Nd) (rr : Bool) (last : Nat) (ks : List Nd) (r' : Bool) (q2 : Nat) (lo : Option (List UInt8)) (set : Bool), q1 ≤ q0 + n → last ≤ q1 → q0 + n ≤ q1 + f → rdK (rdN d l) l (q0 + n) f q1 acc rr last = .ok (ks, r', q2) → (set = true → r' = true) →
            (∀ z, lo = some z → cutL l last q1 = z ∧ acc ≠ []) →
            ∃ r, ks = acc ++ r ∧ Nd.rkL r ≤ d ∧ q2 = q0 + n ∧ ∀ ab, Nd.putL set r lo ab = some (ab ++ cutL l q1 (q0 + n)) := by
          intro f
          induction f with
          | zero =>
            intro q1 acc rr last ks r' q2 lo set h1 h2 h3 h4 h5 h6
            simp only [rdK] at h4
            injection h4 with h4; injection h4 with h7 h8; injection h8 with h8 h9
            have hq : q1 = q0 + n := by omega
            refine ⟨[], by simp [h7], by simp [Nd.rkL], by omega, fun ab => ?_⟩
            simp [Nd.putL, cutL, hq]
          | succ f ihf =>
            intro q1 acc rr last ks r' q2 lo set h1 h2 h3 h4 h5 h6
            simp only [rdK] at h4
            split at h4
            · injection h4 with h4; injection h4 with h7 h8; injection h8 with h8 h9
              have hq : q1 = q0 + n := by omega
              refine ⟨[], by simp [h7], by simp [Nd.rkL], by omega, fun ab => ?_⟩
              simp [Nd.putL, cutL, hq]
            · split at h4
              · cases h4
              · rename_i y q3 hy
                have hyl := rdN_le d l q1 (q0 + n) y q3 hy
                obtain ⟨hyp, hyr⟩ := ih l q1 (q0 + n) y q3 (by omega) hy
                have hmono : ∀ (f q1 : Nat) (acc : List Nd) (rr : Bool) (last : Nat) (ks : List Nd) (r' : Bool) (q2 : Nat), rdK (rdN d l) l (q0 + n) f q1 acc rr last = .ok (ks, r', q2) → r' = true → rr = true := by
                  intro f
                  induction f with
                  | zero => intro q1 acc rr last ks r' q2 h hr; simp only [rdK] at h; injection h with h; injection h with _ h; injection h with h _; rw [h]; exact hr
                  | succ f ihm =>
                    intro q1 acc rr last ks r' q2 h hr
                    simp only [rdK] at h
                    split at h
                    · injection h with h; injection h with _ h; injection h with h _; rw [h]; exact hr
                    · split at h
                      · cases h
                      · have := ihm _ _ _ _ _ _ _ h hr
                        simp only [Bool.and_eq_true] at this
                        exact this.1
                have hr5 := fun hs => hmono _ _ _ _ _ _ _ _ h4 (h5 hs)
                obtain ⟨r, g1, g2, g3, g4⟩ := ihf q3 (acc ++ [y]) _ q1 ks r' q2 (some (cutL l q1 q3)) set (by omega) (by omega) (by omega) h4 h5 (fun z hz => by cases hz; exact ⟨rfl, by simp⟩)
                refine ⟨y :: r, by rw [g1, List.append_assoc]; rfl, by simp only [Nd.rkL]; omega, g3, fun ab => ?_⟩
                simp only [Nd.putL, hyp]
                rw [if_neg, g4, List.append_assoc, cut_cut (by omega) (by omega)]
                intro hs
                simp only [Bool.and_eq_true] at hs
                have := hr5 hs.1
                cases lo with
                | none => simp [aboveB] at hs
                | some z =>
                  obtain ⟨hz1, hz2⟩ := h6 z rfl
                  simp only [aboveB, decide_eq_true_eq] at hs
                  rw [hz1] at this
                  have hne : ¬ acc.length = 0 := fun hh => hz2 (List.eq_nil_of_length_eq_zero hh)
                  simp only [Bool.and_eq_true, Bool.or_eq_true, decide_eq_true_eq] at this
                  omega
        split at h
        · cases h
        · rename_i ks r p1 hK
          split at h
          · rename_i hr
            injection h with h; injection h with h1 h2
            subst h1 h2
            obtain ⟨r2, g1, g2, g3, g4⟩ := key n q0 [] true q0 ks r p1 none (decide ((c : Int) = 0) && decide ((t : Int) = 17)) (by omega) (by omega) (by omega) hK (fun hs => by
              simp only [Bool.and_eq_true, Bool.or_eq_true, decide_eq_true_eq] at hs hr
              rcases hr with hr | hr
              · exact hr
              · omega) (fun z hz => by cases hz)
            simp only [List.nil_append] at g1
            subst g1 g3
            have hok : okN c t true [] ks = true := okN_of hm (fun _ => rfl) (fun hh => by cases hh)
            refine ⟨?_, by simp only [Nd.rk]; omega⟩
            have hp := g4 []
            simp only [List.nil_append] at hp
            simp only [Nd.put, hok, if_true, hp, Option.map_some]
            rw [cut_len (by omega) (by omega), show q0 + n - q0 = n by omega, ← hcut, cut_cut (by omega) (by omega)]
          · cases h

/-- Where reading stops. -/
theorem rdH_err {l : List UInt8} {p e : Nat} {ok : Bool} {a c : Int} (h : rdH l p e ok = .error (a, c)) : a = p ∧ c ≠ 0 := by
  unfold rdH at h
  split at h
  · injection h with h; injection h with h1 h2; omega
  · split at h
    · injection h with h; injection h with h1 h2; omega
    · split at h
      · rename_i c' hs
        injection h with h; injection h with h1 h2
        refine ⟨h1.symm, ?_⟩
        subst h2
        unfold rdS at hs
        (repeat' split at hs) <;> first | (injection hs with hs; omega) | cases hs
      · split at h
        · injection h with h; injection h with h1 h2; omega
        · split at h
          · injection h with h; injection h with h1 h2; omega
          · cases h
theorem rdN_at : ∀ (d : Nat) (l : List UInt8) (p e : Nat) (a c : Int), p ≤ e → rdN d l p e = .error (a, c) → p ≤ a ∧ a ≤ e ∧ c ≠ 0 := by
  intro d
  induction d with
  | zero =>
    intro l p e a c hpe h
    simp only [rdN] at h
    split at h
    · rename_i er hh; injection h with h; subst h; have := rdH_err hh; omega
    · injection h with h; injection h with h1 h2; omega
  | succ d ih =>
    intro l p e a c hpe h
    simp only [rdN] at h
    split at h
    · rename_i er hh; injection h with h; subst h; have := rdH_err hh; omega
    · rename_i c' t k n q hh
      have h0 := rdH_le hh
      split at h
      · split at h
        · cases h
        · injection h with h; injection h with h1 h2; omega
      · have key : ∀ (f q1 : Nat) (acc : List Nd) (rr : Bool) (last : Nat), p ≤ q1 → q1 ≤ q + n → rdK (rdN d l) l (q + n) f q1 acc rr last = .error (a, c) → p ≤ a ∧ a ≤ e ∧ c ≠ 0 := by
          intro f
          induction f with
          | zero => intro q1 acc rr last _ _ h; simp only [rdK] at h; cases h
          | succ f ihf =>
            intro q1 acc rr last g1 g2 h
            simp only [rdK] at h
            split at h
            · cases h
            · split at h
              · rename_i er hy
                injection h with h; subst h
                have := ih l q1 (q + n) a c g2 hy
                omega
              · rename_i y q3 hy
                have := rdN_le d l q1 (q + n) y q3 hy
                exact ihf _ _ _ _ (by omega) (by omega) h
        split at h
        · rename_i er hK
          injection h with h; subst h
          exact key _ _ _ _ _ (by omega) (by omega) hK
        · split at h
          · cases h
          · injection h with h; injection h with h1 h2; omega

/-! ## Read -/
def ndZ : Nd := .mk 0 0 false [] []
/-- What Read answers. -/
def rdTop (l : List UInt8) : Nd × Int × Int :=
  if 16777216 < l.length then (ndZ, 0, 2) else match rdN 32 l 0 l.length with
    | .error (a, c) => (ndZ, a, c)
    | .ok (x, q) => if q < l.length then (ndZ, q, 35) else (x, 0, 0)
theorem wr_cases (x : Nd) : (x.wr.2 = 0 ∧ x.put = some x.wr.1 ∧ x.rk ≤ 32 ∧ x.wr.1.length ≤ 16777216) ∨ x.wr.2 ≠ 0 := by
  unfold Nd.wr
  cases hx : x.put with
  | none => exact .inr (by simp)
  | some b =>
    simp only
    split
    · exact .inr (by simp)
    · split
      · exact .inr (by simp)
      · exact .inl ⟨rfl, rfl, by omega, by simp; omega⟩
theorem rdTop_wr {x : Nd} (h : x.wr.2 = 0) : rdTop x.wr.1 = (x, 0, 0) := by
  rcases wr_cases x with ⟨_, h1, h2, h3⟩ | hh
  · unfold rdTop
    rw [if_neg (by omega), rdN_put 32 x x.wr.1 x.wr.1 0 x.wr.1.length h1 h2 (by omega) (by simp) (by omega)]
    simp
  · exact absurd h hh
theorem rdTop_more {x : Nd} {m : List UInt8} (h : x.wr.2 = 0) (hm : m ≠ []) (hl : x.wr.1.length + m.length ≤ 16777216) : rdTop (x.wr.1 ++ m) = (ndZ, (x.wr.1.length : Int), 35) := by
  rcases wr_cases x with ⟨_, h1, h2, h3⟩ | hh
  · unfold rdTop
    have hml := List.length_pos_iff.2 hm
    rw [if_neg (by simp; omega), rdN_put 32 x x.wr.1 (x.wr.1 ++ m) 0 _ h1 h2 (by omega) (by simp) (by simp)]
    simp [hml]
  · exact absurd h hh
theorem rdTop_cut {x : Nd} {j : Nat} (h : x.wr.2 = 0) (hj : j < x.wr.1.length) : (rdTop (x.wr.1.take j)).2.2 = 30 := by
  rcases wr_cases x with ⟨_, h1, h2, h3⟩ | hh
  · unfold rdTop
    have hlen : (x.wr.1.take j).length = 0 + j := by simp; omega
    rw [if_neg (by omega), hlen, rdN_cut h1 (by omega) (by simp) hj]
  · exact absurd h hh
theorem wr_rdTop {l : List UInt8} {x : Nd} {a : Int} (h : rdTop l = (x, a, 0)) : x.wr = (l, 0) := by
  unfold rdTop at h
  split at h
  · injection h with _ h; injection h with _ h; omega
  · split at h
    · rename_i a' c hh
      have := rdN_at 32 l 0 l.length a' c (by omega) hh
      injection h with _ h; injection h with _ h; omega
    · rename_i y q hh
      split at h
      · injection h with _ h; injection h with _ h; omega
      · injection h with h _
        subst h
        have hle := rdN_le 32 l 0 l.length y q hh
        obtain ⟨h1, h2⟩ := rdN_inv 32 l 0 l.length y q (Nat.le_refl _) hh
        have hq : q = l.length := by omega
        subst hq
        have hc : cutL l 0 l.length = l := by simp [cutL]
        rw [hc] at h1
        unfold Nd.wr
        rw [h1]
        simp only
        rw [if_neg (by omega), if_neg (by omega)]
theorem Nd.put_sz : ∀ (n : Nat) (x : Nd) (b : List UInt8), x.rk ≤ n → x.put = some b → x.sz ≤ b.length := by
  intro n
  induction n with
  | zero => intro x b hx; cases x; simp [Nd.rk] at hx
  | succ n ih =>
    intro x b hx hb
    cases x with
    | mk c t k bs ks =>
      simp only [Nd.rk] at hx
      have key : ∀ (l : List Nd) (set : Bool) (last : Option (List UInt8)) (acc b : List UInt8), Nd.rkL l ≤ n → Nd.putL set l last acc = some b → acc.length + Nd.szL l ≤ b.length := by
        intro l
        induction l with
        | nil => intro set last acc b _ hb; simp only [Nd.putL, Option.some.injEq] at hb; subst hb; simp [Nd.szL]
        | cons y r ihr =>
          intro set last acc b hl hb
          simp only [Nd.rkL] at hl
          simp only [Nd.putL] at hb
          split at hb
          · cases hb
          · rename_i b1 hb1
            split at hb
            · cases hb
            · have h1 := ih y b1 (by omega) hb1
              have h2 := ihr _ _ _ _ (by omega) hb
              simp only [Nd.szL, List.length_append] at h2 ⊢
              omega
      simp only [Nd.put] at hb
      split at hb
      · cases hp : Nd.putL (decide (c = 0) && decide (t = 17)) ks none bs with
        | none => simp [hp] at hb
        | some b1 =>
          simp only [hp, Option.map_some, Option.some.injEq] at hb
          subst hb
          have h1 := key ks _ _ _ _ (by omega) hp
          have h2 := headB_len c t k b1.length
          simp only [List.length_append, Nd.sz]
          omega
      · cases hb
theorem wr_sz {x : Nd} {b : List UInt8} (h : x.wr = (b, 0)) : x.sz ≤ b.length ∧ b.length ≤ 16777216 := by
  rcases wr_cases x with ⟨_, h1, h2, h3⟩ | hh
  · rw [h] at h1 h3
    exact ⟨Nd.put_sz _ x b (Nat.le_refl _) h1, h3⟩
  · rw [h] at hh; exact absurd rfl hh
theorem rdTop_at (l : List UInt8) : 0 ≤ (rdTop l).2.1 ∧ (rdTop l).2.1 ≤ l.length := by
  unfold rdTop
  split
  · simp
  · split
    · rename_i a c hh
      have := rdN_at 32 l 0 l.length a c (by omega) hh
      simp only; omega
    · rename_i y q hh
      have := rdN_le 32 l 0 l.length y q hh
      split
      · simp only; omega
      · simp
end Go.Proofs.YtmngjbefnloljaaDoor
