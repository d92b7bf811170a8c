/- Walks: the reference's calendar. -/
import Derived.Test.YtmngjbefnloljaaDoorOidR
set_option linter.unusedSimpArgs false
set_option linter.unusedVariables false
set_option linter.constructorNameAsVariable false
namespace Go.Proofs.YtmngjbefnloljaaDoor
open Go Go.RowKit
set_option maxRecDepth 100000
theorem ca_125 : callT Tryd.prog 125 = true := by kernel_rfl
theorem ca_126 : callT Tryd.prog 126 = true := by kernel_rfl
theorem ca_139 : callT Tryd.prog 139 = true := by kernel_rfl
theorem ca_144 : callT Tryd.prog 144 = true := by kernel_rfl

def daysI (y m : Int) : Int := if m = 0 then (if leapB y then 366 else 365) else monthI y m
theorem leapB_iff (y : Int) : leapB y = decide (y % 4 = 0 ∧ y % 100 ≠ 0 ∨ y % 400 = 0) := by
  unfold leapB
  rw [← Bool.decide_or, ← Bool.decide_and]
  exact decide_eq_decide.2 (by omega)
theorem days_fn (y m : Int) (h : Part) (h0 : 0 ≤ y) : Pure Tryd.prog 144 [.int .i64 y, .int .i64 m] h (.int .i64 (daysI y m)) := by
  have hlp := leapB_iff y
  refine Fn.intro Tryd.func144 rfl Tryd.ntmps144 rfl (fun e he => ?_)
  refine J.weak [(0, _), (1, _)] ⟨rfl, rfl, trivial⟩ ?_
  refine Sr ?_
  refine Ru 1 rfl ?_
  refine JL.nil ?_
  refine Sr ?_
  refine Ru 1 rfl ?_
  refine JL.nil ?_
  refine J.seq ?_
  refine J.seq ?_
  refine J.meet [(18, .bool (decide (y % 4 = 0 ∧ y % 100 ≠ 0 ∨ y % 400 = 0)))] [(5, _), (4, _), (1, _)] ⟨rfl, rfl, rfl, trivial⟩ ?_ ?_
  ·
   refine Rg ?_
   refine Ru 1 rfl ?_
   refine JL.op (by first | exact RunV.rem_i64 rfl rfl (by omega) (by omega) | exact RunV.rem rfl rfl (by omega)) rfl ?_
   refine Ru 2 rfl ?_
   refine Bs 9 rfl (fun hc1 => ?_) fun hc1 => ?_
   ·
    refine Ru 1 rfl ?_
    refine JL.opg rfl rfl  (by first | exact RunV.rem_i64 rfl rfl (by omega) (by omega) | exact RunV.rem rfl rfl (by omega)) rfl ?_
    refine Ru 3 rfl ?_
    refine Bs 14 rfl (fun hc2 => ?_) fun hc2 => ?_
    ·
     refine Ru 4 rfl ?_
     refine JL.nil ?_
     refine ⟨rfl, rfl, ?_⟩
     repeat (first | exact trivial | refine ⟨rfl, ?_⟩ | refine ⟨(by exact some_bool (by first | exact decide_eq_decide.2 (by omega) | exact (decide_eq_false (by omega)).symm | exact (decide_eq_true (by omega)).symm)), ?_⟩)
    ·
     refine Ru 1 rfl ?_
     refine JL.opg rfl rfl  (by first | exact RunV.rem_i64 rfl rfl (by omega) (by omega) | exact RunV.rem rfl rfl (by omega)) rfl ?_
     refine Ru 2 rfl ?_
     refine JL.nil ?_
     refine ⟨rfl, rfl, ?_⟩
     repeat (first | exact trivial | refine ⟨rfl, ?_⟩ | refine ⟨(by exact some_bool (by first | exact decide_eq_decide.2 (by omega) | exact (decide_eq_false (by omega)).symm | exact (decide_eq_true (by omega)).symm)), ?_⟩)
   ·
    refine Ru 6 rfl ?_
    refine JL.opg rfl rfl  (by first | exact RunV.rem_i64 rfl rfl (by omega) (by omega) | exact RunV.rem rfl rfl (by omega)) rfl ?_
    refine Ru 2 rfl ?_
    refine JL.nil ?_
    refine ⟨rfl, rfl, ?_⟩
    repeat (first | exact trivial | refine ⟨rfl, ?_⟩ | refine ⟨(by exact some_bool (by first | exact decide_eq_decide.2 (by omega) | exact (decide_eq_false (by omega)).symm | exact (decide_eq_true (by omega)).symm)), ?_⟩)
  ·
   refine Cs rfl (fun hc3 => ?_) fun hc3 => ?_
   ·
    rw [decide_eq_true hc3] at hlp
    refine Rg ?_
    refine Ru 1 rfl ?_
    refine JL.nil ?_
    refine J.seq ?_
    refine Sr ?_
    refine Ru 1 rfl ?_
    refine JL.nil ?_
    refine J.block ?_
    refine Sr ?_
    refine Ru 2 rfl ?_
    refine Nk [20, 19, 5, 4] rfl ?_
    refine Cs rfl (fun hc4 => ?_) fun hc4 => ?_
    ·
     refine Sr ?_
     refine Ru 1 rfl ?_
     refine JL.op (by first | exact RunV.add_i64 rfl rfl (by omega) (by omega) | exact RunV.add rfl rfl) rfl ?_
     refine Ru 1 rfl ?_
     refine Nk [4] rfl ?_
     exact J.retP (RetV.one rfl rfl) (by unfold daysI monthI; rw [hlp]; congr 1; simp only [if_true, Bool.false_eq_true, if_false]; (repeat' split) <;> omega) rfl
    ·
     refine Sr ?_
     refine Ru 2 rfl ?_
     refine JL.nil ?_
     refine Cs rfl (fun hc5 => ?_) fun hc5 => ?_
     ·
      refine Sr ?_
      refine Ru 1 rfl ?_
      refine JL.op (by first | exact RunV.add_i64 rfl rfl (by omega) (by omega) | exact RunV.add rfl rfl) rfl ?_
      refine Ru 1 rfl ?_
      refine Nk [4] rfl ?_
      exact J.retP (RetV.one rfl rfl) (by unfold daysI monthI; rw [hlp]; congr 1; simp only [if_true, Bool.false_eq_true, if_false]; (repeat' split) <;> omega) rfl
     ·
      refine J.seq ?_
      refine Sr ?_
      refine Ru 2 rfl ?_
      refine Nk [28, 19, 4] rfl ?_
      refine Cs rfl (fun hc6 => ?_) fun hc6 => ?_
      ·
       refine J.skip ?_
       refine J.cond_t rfl ?_
       refine Sr ?_
       refine Ru 1 rfl ?_
       refine JL.nil ?_
       exact J.retP (RetV.one rfl rfl) (by unfold daysI monthI; rw [hlp]; congr 1; simp only [if_true, Bool.false_eq_true, if_false]; (repeat' split) <;> omega) rfl
      ·
       refine Sr ?_
       refine Ru 2 rfl ?_
       refine JL.nil ?_
       refine Cs rfl (fun hc7 => ?_) fun hc7 => ?_
       ·
        refine J.skip ?_
        refine Kp [28, 4] rfl ?_
        refine J.cond_t rfl ?_
        refine Sr ?_
        refine Ru 1 rfl ?_
        refine JL.nil ?_
        exact J.retP (RetV.one rfl rfl) (by unfold daysI monthI; rw [hlp]; congr 1; simp only [if_true, Bool.false_eq_true, if_false]; (repeat' split) <;> omega) rfl
       ·
        refine Sr ?_
        refine Ru 2 rfl ?_
        refine Nk [28, 19, 4] rfl ?_
        refine Cs rfl (fun hc8 => ?_) fun hc8 => ?_
        ·
         refine J.skip ?_
         refine J.cond_t rfl ?_
         refine Sr ?_
         refine Ru 1 rfl ?_
         refine JL.nil ?_
         exact J.retP (RetV.one rfl rfl) (by unfold daysI monthI; rw [hlp]; congr 1; simp only [if_true, Bool.false_eq_true, if_false]; (repeat' split) <;> omega) rfl
        ·
         refine Rg ?_
         refine Ru 2 rfl ?_
         refine JL.nil ?_
         refine Cs rfl (fun hc9 => ?_) fun hc9 => ?_
         ·
          refine Sr ?_
          refine Ru 1 rfl ?_
          refine Nk [4] rfl ?_
          exact J.retP (RetV.one rfl rfl) (by unfold daysI monthI; rw [hlp]; congr 1; simp only [if_true, Bool.false_eq_true, if_false]; (repeat' split) <;> omega) rfl
         ·
          refine J.skip ?_
          refine Kp [4] rfl ?_
          refine Sr ?_
          refine Ru 1 rfl ?_
          refine JL.nil ?_
          exact J.retP (RetV.one rfl rfl) (by unfold daysI monthI; rw [hlp]; congr 1; simp only [if_true, Bool.false_eq_true, if_false]; (repeat' split) <;> omega) rfl
   ·
    rw [decide_eq_false hc3] at hlp
    refine J.skip ?_
    refine J.seq ?_
    refine Sr ?_
    refine Ru 1 rfl ?_
    refine JL.nil ?_
    refine J.block ?_
    refine Sr ?_
    refine Ru 2 rfl ?_
    refine JL.nil ?_
    refine Cs rfl (fun hc10 => ?_) fun hc10 => ?_
    ·
     refine Sr ?_
     refine Ru 1 rfl ?_
     refine JL.op (by first | exact RunV.add_i64 rfl rfl (by omega) (by omega) | exact RunV.add rfl rfl) rfl ?_
     refine Ru 1 rfl ?_
     refine Nk [4] rfl ?_
     exact J.retP (RetV.one rfl rfl) (by unfold daysI monthI; rw [hlp]; congr 1; simp only [if_true, Bool.false_eq_true, if_false]; (repeat' split) <;> omega) rfl
    ·
     refine Sr ?_
     refine Ru 2 rfl ?_
     refine Nk [24, 19, 5, 4] rfl ?_
     refine Cs rfl (fun hc11 => ?_) fun hc11 => ?_
     ·
      refine Sr ?_
      refine Ru 1 rfl ?_
      refine JL.op (by first | exact RunV.add_i64 rfl rfl (by omega) (by omega) | exact RunV.add rfl rfl) rfl ?_
      refine Ru 1 rfl ?_
      refine Nk [4] rfl ?_
      exact J.retP (RetV.one rfl rfl) (by unfold daysI monthI; rw [hlp]; congr 1; simp only [if_true, Bool.false_eq_true, if_false]; (repeat' split) <;> omega) rfl
     ·
      refine J.seq ?_
      refine Sr ?_
      refine Ru 2 rfl ?_
      refine JL.nil ?_
      refine Cs rfl (fun hc12 => ?_) fun hc12 => ?_
      ·
       refine J.skip ?_
       refine Kp [28, 4] rfl ?_
       refine J.cond_t rfl ?_
       refine Sr ?_
       refine Ru 1 rfl ?_
       refine JL.nil ?_
       exact J.retP (RetV.one rfl rfl) (by unfold daysI monthI; rw [hlp]; congr 1; simp only [if_true, Bool.false_eq_true, if_false]; (repeat' split) <;> omega) rfl
      ·
       refine Sr ?_
       refine Ru 2 rfl ?_
       refine Nk [28, 19, 4] rfl ?_
       refine Cs rfl (fun hc13 => ?_) fun hc13 => ?_
       ·
        refine J.skip ?_
        refine J.cond_t rfl ?_
        refine Sr ?_
        refine Ru 1 rfl ?_
        refine JL.nil ?_
        exact J.retP (RetV.one rfl rfl) (by unfold daysI monthI; rw [hlp]; congr 1; simp only [if_true, Bool.false_eq_true, if_false]; (repeat' split) <;> omega) rfl
       ·
        refine Sr ?_
        refine Ru 2 rfl ?_
        refine JL.nil ?_
        refine Cs rfl (fun hc14 => ?_) fun hc14 => ?_
        ·
         refine J.skip ?_
         refine Kp [28, 4] rfl ?_
         refine J.cond_t rfl ?_
         refine Sr ?_
         refine Ru 1 rfl ?_
         refine JL.nil ?_
         exact J.retP (RetV.one rfl rfl) (by unfold daysI monthI; rw [hlp]; congr 1; simp only [if_true, Bool.false_eq_true, if_false]; (repeat' split) <;> omega) rfl
        ·
         refine Rg ?_
         refine Ru 2 rfl ?_
         refine Nk [28, 4] rfl ?_
         refine Cs rfl (fun hc15 => ?_) fun hc15 => ?_
         ·
          refine Sr ?_
          refine Ru 1 rfl ?_
          refine JL.nil ?_
          exact J.retP (RetV.one rfl rfl) (by unfold daysI monthI; rw [hlp]; congr 1; simp only [if_true, Bool.false_eq_true, if_false]; (repeat' split) <;> omega) rfl
         ·
          refine J.skip ?_
          refine Sr ?_
          refine Ru 1 rfl ?_
          refine JL.nil ?_
          exact J.retP (RetV.one rfl rfl) (by unfold daysI monthI; rw [hlp]; congr 1; simp only [if_true, Bool.false_eq_true, if_false]; (repeat' split) <;> omega) rfl



theorem daysI_bd (y m : Int) : 28 ≤ daysI y m ∧ daysI y m ≤ 366 := by
  have := monthI_bd y m
  unfold daysI; (repeat' split) <;> omega

/-! ## digits as a number -/
def partI (s : List UInt8) : Int := if s.all dig then numV s else -1
theorem part_fn (s : List UInt8) (h : Part) (hl : s.length ≤ 18) : Pure Tryd.prog 125 [.string ⟨s.toArray⟩] h (.int .i64 (partI s)) := by
  refine Fn.intro Tryd.func125 rfl Tryd.ntmps125 rfl (fun e he => ?_)
  refine J.weak [(0, _)] ⟨rfl, trivial⟩ ?_
  refine Sr ?_
  refine Ru 1 rfl ?_
  refine JL.nil ?_
  refine Sr ?_
  refine Ru 1 rfl ?_
  refine JL.nil ?_
  refine J.seq ?_
  refine Sr ?_
  refine Ru 1 rfl ?_
  refine JL.nil ?_
  refine J.block ?_
  refine J.loop (fun t_ S_ h_ L_ => ∃ (i : Nat), t_ = s.length - i ∧ S_ = [(0, .string ⟨s.toArray⟩), (3, .int .i64 (numV (s.take i) : Nat)), (4, .int .i64 i)] ∧ h = h_ ∧ L_ = [] ∧ (i ≤ s.length ∧ (s.take i).all dig = true ∧ numV (s.take i) < 10 ^ i)) ⟨_, _, ?_, ⟨0, rfl, rfl, rfl, rfl, ⟨by omega, by simp, by simp [numV]⟩⟩⟩ ?_
  ·
   repeat (first | exact trivial | refine ⟨rfl, ?_⟩ | refine ⟨(by exact some_int (by first | rfl | (rw [numV_take s i (by omega)]; omega))), ?_⟩)
  rintro _ _ _ _ ⟨i, rfl, rfl, rfl, rfl, hi, hd, hv⟩
  refine J.seq ?_
  refine Sr ?_
  refine Ru 2 rfl ?_
  refine JL.op (RunV.lenS un_9 rfl) rfl ?_
  refine Ru 1 rfl ?_
  refine JL.nil ?_
  refine Cs rfl (fun hc1 => ?_) fun hc1 => ?_
  ·
   have hi' : i < s.length := (by omega); have hst := numV_take s i hi'; have hat := all_take s i hi'; have hp : 10 ^ i ≤ 100000000000000000 := Nat.le_trans (Nat.pow_le_pow_right (by decide) (show i ≤ 17 by omega)) (by decide); have hbl := byteAt_lt s i; have hbi : byteAt s i = (s.getD i 0).toNat := rfl
   refine J.skip ?_
   refine J.seq ?_
   refine J.block ?_
   refine J.seq ?_
   refine Sr ?_
   refine Ru 2 rfl ?_
   refine JL.op (RunV.strIndex (m := i) un_9 rfl rfl (by omega) (by omega)) rfl ?_
   refine JL.op (by first | exact RunV.convb_i64 cv_5_3 rfl | exact RunV.conv_i64 cv_5_3 rfl (by omega) (by omega) | exact RunV.conv cv_5_3 rfl) rfl ?_
   refine JL.callP ca_124 rfl (between_fn _ _ _ _) rfl ?_
   refine Ru 1 rfl ?_
   refine JL.nil ?_
   refine Cs rfl (fun hc3 => ?_) fun hc3 => ?_
   ·
    have hnr : partI s = -1 := (by have hb : s.all dig = false := (by rw [List.all_eq_false]; exact ⟨s[i], List.getElem_mem _, by have e := byteAt_eq s i hi'; unfold dig; rw [decide_eq_false (by omega)]; decide⟩); unfold partI; rw [hb]; rfl)
    refine Sr ?_
    refine Ru 1 rfl ?_
    refine JL.nil ?_
    exact J.retP (RetV.one rfl rfl) (by rw [hnr]) rfl
   ·
    refine J.skip ?_
    refine Rg ?_
    refine Ru 1 rfl ?_
    refine JL.op (by first | exact RunV.mul_i64 rfl rfl (by omega) (by omega) | exact RunV.mul rfl rfl) rfl ?_
    refine Ru 2 rfl ?_
    refine JL.op (RunV.strIndex (m := i) un_9 rfl rfl (by omega) (by omega)) rfl ?_
    refine JL.op (by first | exact RunV.sub_u8 rfl rfl (by omega) (by omega) | exact RunV.sub rfl rfl) rfl ?_
    refine JL.op (by first | exact RunV.convb_i64 cv_5_3 rfl | exact RunV.conv_i64 cv_5_3 rfl (by omega) (by omega) | exact RunV.conv cv_5_3 rfl) rfl ?_
    refine JL.op (by first | exact RunV.add_i64 rfl rfl (by omega) (by omega) | exact RunV.add rfl rfl) rfl ?_
    refine Ru 1 rfl ?_
    refine JL.nil ?_
    refine Rg ?_
    refine Ru 1 rfl ?_
    refine JL.op (by first | exact RunV.add_i64 rfl rfl (by omega) (by omega) | exact RunV.add rfl rfl) rfl ?_
    refine Ru 1 rfl ?_
    refine JL.nil ?_
    refine ⟨_, ?_, _, ?_, ⟨i + 1, rfl, rfl, rfl, rfl, ⟨by omega, by rw [hat, hd, decide_eq_true (by omega)]; rfl, by rw [hst, Nat.pow_succ]; omega⟩⟩⟩
    ·
     omega
    ·
     repeat (first | exact trivial | refine ⟨rfl, ?_⟩ | refine ⟨(by exact some_int (by first | rfl | (rw [numV_take s i (by omega)]; omega))), ?_⟩)
  ·
   have hie : s.take i = s := List.take_of_length_le (by omega); rw [hie] at hd hv ⊢; have hnr : partI s = numV s := if_pos hd
   refine J.exit ?_
   refine Kp [3] rfl ?_
   refine Sr ?_
   refine Ru 2 rfl ?_
   refine JL.nil ?_
   exact J.retP (RetV.one rfl rfl) (by rw [hnr]) rfl



theorem byteAt_cut (s : List UInt8) (i n j : Nat) (h : j < n) : byteAt ((s.drop i).take n) j = byteAt s (i + j) := by
  unfold byteAt
  simp only [List.getD_eq_getElem?_getD]
  rw [List.getElem?_take, if_pos h, List.getElem?_drop]
theorem part2 (l : List UInt8) (h : l.length = 2) : partI l = if 48 ≤ byteAt l 0 ∧ byteAt l 0 ≤ 57 ∧ 48 ≤ byteAt l 1 ∧ byteAt l 1 ≤ 57 then (byteAt l 0 - 48 : Int) * 10 + (byteAt l 1 - 48) else -1 := by
  match l, h with
  | [a, b], _ =>
    have ha : byteAt [a, b] 0 = a.toNat := rfl
    have hb : byteAt [a, b] 1 = b.toNat := rfl
    rw [ha, hb]
    unfold partI numV dig
    simp only [List.all_cons, List.all_nil, Bool.and_true, List.foldl_cons, List.foldl_nil, Bool.and_eq_true, decide_eq_true_eq]
    split
    · rw [if_pos (by omega)]; omega
    · rw [if_neg (by omega)]
theorem part4 (l : List UInt8) (h : l.length = 4) : partI l = if (48 ≤ byteAt l 0 ∧ byteAt l 0 ≤ 57 ∧ 48 ≤ byteAt l 1 ∧ byteAt l 1 ≤ 57) ∧ 48 ≤ byteAt l 2 ∧ byteAt l 2 ≤ 57 ∧ 48 ≤ byteAt l 3 ∧ byteAt l 3 ≤ 57 then ((byteAt l 0 - 48 : Int) * 10 + (byteAt l 1 - 48)) * 100 + ((byteAt l 2 - 48 : Int) * 10 + (byteAt l 3 - 48)) else -1 := by
  match l, h with
  | [a, b, c, d], _ =>
    have ha : byteAt [a, b, c, d] 0 = a.toNat := rfl
    have hb : byteAt [a, b, c, d] 1 = b.toNat := rfl
    have hc : byteAt [a, b, c, d] 2 = c.toNat := rfl
    have hd : byteAt [a, b, c, d] 3 = d.toNat := rfl
    rw [ha, hb, hc, hd]
    unfold partI numV dig
    simp only [List.all_cons, List.all_nil, Bool.and_true, List.foldl_cons, List.foldl_nil, Bool.and_eq_true, decide_eq_true_eq]
    split
    · rw [if_pos (by omega)]; omega
    · rw [if_neg (by omega)]
theorem part_two (s : List UInt8) (i : Nat) (h : i + 1 < s.length) : partI ((s.drop i).take 2) = if 0 ≤ twoI s i then twoI s i else -1 := by
  rw [part2 _ (by simp; omega), byteAt_cut s i 2 0 (by decide), byteAt_cut s i 2 1 (by decide)]
  unfold twoI
  rw [Nat.add_zero]
  (repeat' split) <;> omega
theorem part_four (s : List UInt8) (h : 4 ≤ s.length) : (partI (s.take 4) = twoI s 0 * 100 + twoI s 2 ∧ 0 ≤ twoI s 0 * 100 + twoI s 2 ∧ twoI s 0 * 100 + twoI s 2 ≤ 9999) ∨ partI (s.take 4) = -1 ∧ twoI s 0 * 100 + twoI s 2 < 0 := by
  have e := part4 (s.take 4) (by simp; omega)
  have hb := fun j hj => byteAt_cut s 0 4 j hj
  rw [List.drop_zero] at hb
  rw [hb 0 (by decide), hb 1 (by decide), hb 2 (by decide), hb 3 (by decide)] at e
  simp only [Nat.zero_add] at e
  have h2 := twoI_bd s 0; have h3 := twoI_bd s 2
  unfold twoI at *
  rw [e]
  simp only [Nat.zero_add, Nat.reduceAdd] at *
  (repeat' split) <;> omega

/-! ## a date -/
def atOk (y m d hh mi s : Int) : Prop := 0 ≤ y ∧ y ≤ 9999 ∧ 1 ≤ m ∧ m ≤ 12 ∧ 1 ≤ d ∧ d ≤ monthI y m ∧ 0 ≤ hh ∧ hh ≤ 23 ∧ 0 ≤ mi ∧ mi ≤ 59 ∧ 0 ≤ s ∧ s ≤ 59
instance (y m d hh mi s : Int) : Decidable (atOk y m d hh mi s) := by unfold atOk; infer_instance
def atT (y m d hh mi s : Int) : Int := -62167219200 + (beforeI y + (d - 1) + mdays y (m.toNat - 1)) * 86400 + (hh * 3600 + mi * 60 + s)
theorem bef_400 (y : Int) (h : 0 ≤ y) : beforeI (y + 400) = beforeI y + 146097 := by unfold beforeI; (repeat' split) <;> omega
theorem bef_1 (y : Int) (h : 0 ≤ y) : beforeI (y + 1) = beforeI y + daysI y 0 := by
  have := leapB_iff y
  unfold beforeI daysI
  rw [if_pos rfl, this]
  simp only [decide_eq_true_eq]
  (repeat' split) <;> omega
theorem at_fn (y m d hh mi s : Int) (h : Part) : Pure Tryd.prog 139 [.int .i64 y, .int .i64 m, .int .i64 d, .int .i64 hh, .int .i64 mi, .int .i64 s] h (.tuple #[.int .i64 (if atOk y m d hh mi s then atT y m d hh mi s else 0), .bool (decide (atOk y m d hh mi s))]) := by
  have hmb := monthI_bd y m
  have hdm : 1 ≤ m → daysI y m = monthI y m := fun hm => if_neg (by omega)
  refine Fn.intro Tryd.func139 rfl Tryd.ntmps139 rfl (fun e he => ?_)
  refine J.weak [(0, _), (1, _), (2, _), (3, _), (4, _), (5, _)] ⟨rfl, rfl, rfl, rfl, rfl, rfl, trivial⟩ ?_
  refine Sr ?_
  refine Ru 2 rfl ?_
  refine JL.nil ?_
  refine J.seq ?_
  refine J.seq ?_
  refine J.meet [(50, .bool (decide (¬ atOk y m d hh mi s)))] [(13, _), (12, _), (0, _), (1, _), (2, _), (3, _), (4, _), (5, _)] ⟨rfl, rfl, rfl, rfl, rfl, rfl, rfl, rfl, trivial⟩ ?_ ?_
  ·
   refine Rg ?_
   refine Ru 1 rfl ?_
   refine JL.callP ca_124 rfl (between_fn _ _ _ _) rfl ?_
   refine Ru 2 rfl ?_
   refine Bs 20 rfl (fun hc2 => ?_) fun hc2 => ?_
   ·
    refine Ru 30 rfl ?_
    refine JL.nil ?_
    refine ⟨rfl, rfl, ?_⟩
    repeat (first | exact trivial | refine ⟨rfl, ?_⟩ | refine ⟨(by exact some_bool (by first | exact decide_eq_decide.2 (by unfold atOk; omega) | exact (decide_eq_false (by unfold atOk; omega)).symm | exact (decide_eq_true (by unfold atOk; omega)).symm | (rw [← decide_not]; exact decide_eq_decide.2 (by unfold atOk; omega)))), ?_⟩)
   ·
    refine Ru 1 rfl ?_
    refine JL.callPg rfl rfl  ca_124 rfl (between_fn _ _ _ _) rfl ?_
    refine Ru 3 rfl ?_
    refine Bs 25 rfl (fun hc4 => ?_) fun hc4 => ?_
    ·
     refine Ru 25 rfl ?_
     refine JL.nil ?_
     refine ⟨rfl, rfl, ?_⟩
     repeat (first | exact trivial | refine ⟨rfl, ?_⟩ | refine ⟨(by exact some_bool (by first | exact decide_eq_decide.2 (by unfold atOk; omega) | exact (decide_eq_false (by unfold atOk; omega)).symm | exact (decide_eq_true (by unfold atOk; omega)).symm | (rw [← decide_not]; exact decide_eq_decide.2 (by unfold atOk; omega)))), ?_⟩)
    ·
     refine Ru 4 rfl ?_
     refine Bs 29 rfl (fun hc5 => ?_) fun hc5 => ?_
     ·
      refine Ru 21 rfl ?_
      refine JL.nil ?_
      refine ⟨rfl, rfl, ?_⟩
      repeat (first | exact trivial | refine ⟨rfl, ?_⟩ | refine ⟨(by exact some_bool (by first | exact decide_eq_decide.2 (by unfold atOk; omega) | exact (decide_eq_false (by unfold atOk; omega)).symm | exact (decide_eq_true (by unfold atOk; omega)).symm | (rw [← decide_not]; exact decide_eq_decide.2 (by unfold atOk; omega)))), ?_⟩)
     ·
      refine Ru 3 rfl ?_
      refine JL.callPg rfl rfl  ca_144 rfl (days_fn _ _ _ (by omega)) rfl ?_
      refine Ru 3 rfl ?_
      refine Bs 36 rfl (fun hc7 => ?_) fun hc7 => ?_
      ·
       refine Ru 14 rfl ?_
       refine JL.nil ?_
       refine ⟨rfl, rfl, ?_⟩
       repeat (first | exact trivial | refine ⟨rfl, ?_⟩ | refine ⟨(by exact some_bool (by first | exact decide_eq_decide.2 (by unfold atOk; omega) | exact (decide_eq_false (by unfold atOk; omega)).symm | exact (decide_eq_true (by unfold atOk; omega)).symm | (rw [← decide_not]; exact decide_eq_decide.2 (by unfold atOk; omega)))), ?_⟩)
      ·
       refine Ru 1 rfl ?_
       refine JL.callPg rfl rfl  ca_124 rfl (between_fn _ _ _ _) rfl ?_
       refine Ru 3 rfl ?_
       refine Bs 41 rfl (fun hc9 => ?_) fun hc9 => ?_
       ·
        refine Ru 9 rfl ?_
        refine JL.nil ?_
        refine ⟨rfl, rfl, ?_⟩
        repeat (first | exact trivial | refine ⟨rfl, ?_⟩ | refine ⟨(by exact some_bool (by first | exact decide_eq_decide.2 (by unfold atOk; omega) | exact (decide_eq_false (by unfold atOk; omega)).symm | exact (decide_eq_true (by unfold atOk; omega)).symm | (rw [← decide_not]; exact decide_eq_decide.2 (by unfold atOk; omega)))), ?_⟩)
       ·
        refine Ru 1 rfl ?_
        refine JL.callPg rfl rfl  ca_124 rfl (between_fn _ _ _ _) rfl ?_
        refine Ru 3 rfl ?_
        refine Bs 46 rfl (fun hc11 => ?_) fun hc11 => ?_
        ·
         refine Ru 4 rfl ?_
         refine JL.nil ?_
         refine ⟨rfl, rfl, ?_⟩
         repeat (first | exact trivial | refine ⟨rfl, ?_⟩ | refine ⟨(by exact some_bool (by first | exact decide_eq_decide.2 (by unfold atOk; omega) | exact (decide_eq_false (by unfold atOk; omega)).symm | exact (decide_eq_true (by unfold atOk; omega)).symm | (rw [← decide_not]; exact decide_eq_decide.2 (by unfold atOk; omega)))), ?_⟩)
        ·
         refine Ru 1 rfl ?_
         refine JL.callPg rfl rfl  ca_124 rfl (between_fn _ _ _ _) rfl ?_
         refine Ru 2 rfl ?_
         refine JL.nil ?_
         refine ⟨rfl, rfl, ?_⟩
         repeat (first | exact trivial | refine ⟨rfl, ?_⟩ | refine ⟨(by exact some_bool (by first | exact decide_eq_decide.2 (by unfold atOk; omega) | exact (decide_eq_false (by unfold atOk; omega)).symm | exact (decide_eq_true (by unfold atOk; omega)).symm | (rw [← decide_not]; exact decide_eq_decide.2 (by unfold atOk; omega)))), ?_⟩)
  ·
   refine Cs rfl (fun hc13 => ?_) fun hc13 => ?_
   ·
    have hff := hc13
    refine Sr ?_
    refine Ru 2 rfl ?_
    refine JL.nil ?_
    exact J.retP (RetV.two rfl rfl rfl) (by rw [if_neg hff, decide_eq_false hff]) rfl
   ·
    have hok : atOk y m d hh mi s := (by first | exact hc13 | exact Classical.not_not.1 hc13); obtain ⟨y0, y1, m0, m1, d0, d1, h0, h1, mi0, mi1, s0, s1⟩ := hok
    refine J.skip ?_
    refine Sr ?_
    refine Ru 1 rfl ?_
    refine JL.op (by first | exact RunV.sub_i64 rfl rfl (by omega) (by omega) | exact RunV.sub rfl rfl) rfl ?_
    refine Ru 1 rfl ?_
    refine Nk [14, 13, 12, 0, 1, 3, 4, 5] rfl ?_
    refine J.seq ?_
    refine Sr ?_
    refine Ru 1 rfl ?_
    refine JL.nil ?_
    refine J.block ?_
    refine J.loop (fun t_ S_ h_ L_ => ∃ (k : Nat), t_ = 13 - k ∧ S_ = [(0, .int .i64 y), (1, .int .i64 m), (3, .int .i64 hh), (4, .int .i64 mi), (5, .int .i64 s), (14, .int .i64 (d - 1 + mdays y k)), (15, .int .i64 (k + 1 : Nat))] ∧ h = h_ ∧ L_ = [] ∧ (k < m)) ⟨_, _, ?_, ⟨0, rfl, rfl, rfl, rfl, by omega⟩⟩ ?_
    ·
     repeat (first | exact trivial | refine ⟨rfl, ?_⟩ | refine ⟨(by exact some_int (by first | (simp only [mdays]; omega) | (simp only [mdays]; simp; done) | (simp [mdays] <;> omega))), ?_⟩)
    rintro _ _ _ _ ⟨k, rfl, rfl, rfl, rfl, hk⟩
    have hmd := mdays_bd y k; have hmb2 := monthI_bd y ((k : Int) + 1); have hdk : daysI y ((k + 1 : Nat) : Int) = monthI y ((k : Int) + 1) := (by rw [show ((k + 1 : Nat) : Int) = (k : Int) + 1 by omega]; exact if_neg (by omega))
    refine J.seq ?_
    refine Sr ?_
    refine Ru 3 rfl ?_
    refine JL.nil ?_
    refine Cs rfl (fun hc14 => ?_) fun hc14 => ?_
    ·
     refine J.skip ?_
     refine J.seq ?_
     refine J.block ?_
     refine Rg ?_
     refine Ru 3 rfl ?_
     refine JL.callP ca_144 rfl (days_fn _ _ _ (by omega)) rfl ?_
     refine JL.op (by first | exact RunV.add_i64 rfl rfl (by omega) (by omega) | exact RunV.add rfl rfl) rfl ?_
     refine Ru 1 rfl ?_
     refine JL.nil ?_
     refine Rg ?_
     refine Ru 1 rfl ?_
     refine JL.op (by first | exact RunV.add_i64 rfl rfl (by omega) (by omega) | exact RunV.add rfl rfl) rfl ?_
     refine Ru 1 rfl ?_
     refine JL.nil ?_
     refine ⟨_, ?_, _, ?_, ⟨k + 1, rfl, rfl, rfl, rfl, by omega⟩⟩
     ·
      omega
     ·
      repeat (first | exact trivial | refine ⟨rfl, ?_⟩ | refine ⟨(by exact some_int (by first | (simp only [mdays]; omega) | (simp only [mdays]; simp; done) | (simp [mdays] <;> omega))), ?_⟩)
    ·
     have hkm : k = m.toNat - 1 := (by omega); rw [hkm] at *; have hmd2 := mdays_bd y (m.toNat - 1)
     refine J.exit ?_
     refine Kp [0, 3, 4, 5, 14] rfl ?_
     refine J.seq ?_
     refine J.block ?_
     refine J.loop (fun t_ S_ h_ L_ => ∃ (q : Nat), t_ = 26 - q ∧ S_ = [(0, .int .i64 (y - 400 * q)), (3, .int .i64 hh), (4, .int .i64 mi), (5, .int .i64 s), (14, .int .i64 (d - 1 + mdays y (m.toNat - 1) + 146097 * q))] ∧ h = h_ ∧ L_ = [] ∧ (400 * q ≤ y ∧ beforeI y = beforeI (y - 400 * q) + 146097 * q)) ⟨_, _, ?_, ⟨0, rfl, rfl, rfl, rfl, ⟨by omega, by simp⟩⟩⟩ ?_
     ·
      repeat (first | exact trivial | refine ⟨rfl, ?_⟩ | refine ⟨(by exact some_int (by omega)), ?_⟩)
     rintro _ _ _ _ ⟨q, rfl, rfl, rfl, rfl, hq, hbq⟩
     refine J.seq ?_
     refine Sr ?_
     refine Ru 2 rfl ?_
     refine JL.nil ?_
     refine Cs rfl (fun hc16 => ?_) fun hc16 => ?_
     ·
      refine J.skip ?_
      refine J.block ?_
      refine Sr ?_
      refine Ru 1 rfl ?_
      refine JL.op (by first | exact RunV.sub_i64 rfl rfl (by omega) (by omega) | exact RunV.sub rfl rfl) rfl ?_
      refine Ru 1 rfl ?_
      refine JL.nil ?_
      refine Rg ?_
      refine Ru 1 rfl ?_
      refine JL.op (by first | exact RunV.add_i64 rfl rfl (by omega) (by omega) | exact RunV.add rfl rfl) rfl ?_
      refine Ru 1 rfl ?_
      refine JL.nil ?_
      refine ⟨_, ?_, _, ?_, ⟨q + 1, rfl, rfl, rfl, rfl, ⟨by omega, by rw [hbq]; have := bef_400 (y - 400 * (q + 1 : Nat)) (by omega); rw [show y - 400 * (q + 1 : Nat) + 400 = y - 400 * q by omega] at this; omega⟩⟩⟩
      ·
       omega
      ·
       repeat (first | exact trivial | refine ⟨rfl, ?_⟩ | refine ⟨(by exact some_int (by omega)), ?_⟩)
     ·
      refine J.exit ?_
      refine J.seq ?_
      refine Sr ?_
      refine Ru 1 rfl ?_
      refine JL.nil ?_
      refine J.block ?_
      refine J.loop (fun t_ S_ h_ L_ => ∃ (z : Nat), t_ = 400 - z ∧ S_ = [(0, .int .i64 (y - 400 * q)), (3, .int .i64 hh), (4, .int .i64 mi), (5, .int .i64 s), (14, .int .i64 (d - 1 + mdays y (m.toNat - 1) + 146097 * q + beforeI z)), (16, .int .i64 z)] ∧ h = h_ ∧ L_ = [] ∧ (z ≤ y - 400 * q)) ⟨_, _, ?_, ⟨0, rfl, rfl, rfl, rfl, by omega⟩⟩ ?_
      ·
       repeat (first | exact trivial | refine ⟨rfl, ?_⟩ | refine ⟨(by exact some_int (by first | omega | (have := bef_1 z (by omega); rw [show ((z : Int) + 1) = (z + 1 : Nat) by omega] at this; omega) | (simp [beforeI]; done))), ?_⟩)
      rintro _ _ _ _ ⟨z, rfl, rfl, rfl, rfl, hz⟩
      have hbb := beforeI_bd z (by omega) (by omega); have hdb := daysI_bd z 0
      refine J.seq ?_
      refine Sr ?_
      refine Ru 3 rfl ?_
      refine JL.nil ?_
      refine Cs rfl (fun hc17 => ?_) fun hc17 => ?_
      ·
       refine J.skip ?_
       refine J.seq ?_
       refine J.block ?_
       refine Rg ?_
       refine Ru 2 rfl ?_
       refine JL.callP ca_144 rfl (days_fn _ _ _ (by omega)) rfl ?_
       refine JL.op (by first | exact RunV.add_i64 rfl rfl (by omega) (by omega) | exact RunV.add rfl rfl) rfl ?_
       refine Ru 1 rfl ?_
       refine JL.nil ?_
       refine Rg ?_
       refine Ru 1 rfl ?_
       refine JL.op (by first | exact RunV.add_i64 rfl rfl (by omega) (by omega) | exact RunV.add rfl rfl) rfl ?_
       refine Ru 1 rfl ?_
       refine JL.nil ?_
       refine ⟨_, ?_, _, ?_, ⟨z + 1, rfl, rfl, rfl, rfl, by omega⟩⟩
       ·
        omega
       ·
        repeat (first | exact trivial | refine ⟨rfl, ?_⟩ | refine ⟨(by exact some_int (by first | omega | (have := bef_1 z (by omega); rw [show ((z : Int) + 1) = (z + 1 : Nat) by omega] at this; omega) | (simp [beforeI]; done))), ?_⟩)
      ·
       have hzy : (z : Int) = y - 400 * q := (by omega); have hbz : beforeI y = beforeI z + 146097 * q := (by rw [hzy]; exact hbq)
       refine J.exit ?_
       refine Kp [3, 4, 5, 14] rfl ?_
       refine Sr ?_
       refine Ru 1 rfl ?_
       refine JL.op (by first | exact RunV.mul_i64 rfl rfl (by omega) (by omega) | exact RunV.mul rfl rfl) rfl ?_
       refine JL.op (by first | exact RunV.add_i64 rfl rfl (by omega) (by omega) | exact RunV.add rfl rfl) rfl ?_
       refine Ru 1 rfl ?_
       refine JL.op (by first | exact RunV.mul_i64 rfl rfl (by omega) (by omega) | exact RunV.mul rfl rfl) rfl ?_
       refine Ru 1 rfl ?_
       refine JL.op (by first | exact RunV.mul_i64 rfl rfl (by omega) (by omega) | exact RunV.mul rfl rfl) rfl ?_
       refine JL.op (by first | exact RunV.add_i64 rfl rfl (by omega) (by omega) | exact RunV.add rfl rfl) rfl ?_
       refine Ru 1 rfl ?_
       refine JL.op (by first | exact RunV.add_i64 rfl rfl (by omega) (by omega) | exact RunV.add rfl rfl) rfl ?_
       refine JL.op (by first | exact RunV.add_i64 rfl rfl (by omega) (by omega) | exact RunV.add rfl rfl) rfl ?_
       refine Ru 2 rfl ?_
       refine Nk [13, 12] rfl ?_
       exact J.retP (RetV.two rfl rfl rfl) (by rw [if_pos ⟨y0, y1, m0, m1, d0, d1, h0, h1, mi0, mi1, s0, s1⟩, decide_eq_true ⟨y0, y1, m0, m1, d0, d1, h0, h1, mi0, mi1, s0, s1⟩]; unfold atT; congr 3; congr 1; congr 1; omega) rfl




/-! ## times out of texts -/
theorem momOk_at (y : Int) (s : List UInt8) (h : s.length = 10) (hy : y ≤ 9999) : momOk y s = decide (atOk y (partI ((s.drop 0).take 2)) (partI ((s.drop 2).take 2)) (partI ((s.drop 4).take 2)) (partI ((s.drop 6).take 2)) (partI ((s.drop 8).take 2))) ∧
    (momOk y s = true → momT y s = atT y (partI ((s.drop 0).take 2)) (partI ((s.drop 2).take 2)) (partI ((s.drop 4).take 2)) (partI ((s.drop 6).take 2)) (partI ((s.drop 8).take 2))) := by
  rw [part_two s 0 (by omega), part_two s 2 (by omega), part_two s 4 (by omega), part_two s 6 (by omega), part_two s 8 (by omega)]
  have w0 := twoI_bd s 0; have w2 := twoI_bd s 2; have w4 := twoI_bd s 4; have w6 := twoI_bd s 6; have w8 := twoI_bd s 8
  by_cases c0 : 0 ≤ twoI s 0
  · by_cases c2 : 0 ≤ twoI s 2
    · by_cases c4 : 0 ≤ twoI s 4
      · by_cases c6 : 0 ≤ twoI s 6
        · by_cases c8 : 0 ≤ twoI s 8
          · rw [if_pos c0, if_pos c2, if_pos c4, if_pos c6, if_pos c8]
            refine ⟨?_, fun _ => rfl⟩
            unfold momOk atOk
            exact decide_eq_decide.2 (by omega)
          · have hf : momOk y s = false := decide_eq_false (by omega)
            rw [hf, if_neg c8]
            exact ⟨(decide_eq_false (by unfold atOk; omega)).symm, fun h => by cases h⟩
        · have hf : momOk y s = false := decide_eq_false (by omega)
          rw [hf, if_neg c6]
          exact ⟨(decide_eq_false (by unfold atOk; omega)).symm, fun h => by cases h⟩
      · have hf : momOk y s = false := decide_eq_false (by omega)
        rw [hf, if_neg c4]
        exact ⟨(decide_eq_false (by unfold atOk; omega)).symm, fun h => by cases h⟩
    · have hf : momOk y s = false := decide_eq_false (by omega)
      rw [hf, if_neg c2]
      exact ⟨(decide_eq_false (by unfold atOk; omega)).symm, fun h => by cases h⟩
  · have hf : momOk y s = false := decide_eq_false (by omega)
    rw [hf, if_neg c0]
    exact ⟨(decide_eq_false (by unfold atOk; omega)).symm, fun h => by cases h⟩
theorem of_fn (y : Int) (s : List UInt8) (h : Part) (hl : s.length = 10) (hy : y ≤ 9999) : Pure Tryd.prog 126 [.int .i64 y, .string ⟨s.toArray⟩] h (.tuple #[.int .i64 (momV y s), .bool (momOk y s)]) := by
  obtain ⟨hm1, hm2⟩ := momOk_at y s hl hy
  refine Fn.intro Tryd.func126 rfl Tryd.ntmps126 rfl (fun e he => ?_)
  refine J.weak [(0, _), (1, _)] ⟨rfl, rfl, trivial⟩ ?_
  refine Sr ?_
  refine Ru 2 rfl ?_
  refine JL.nil ?_
  refine J.seq ?_
  refine J.drawn mixed_ (by kernel_rfl) ?_
  refine Rq 2 rfl ?_
  refine JQ.op (RunV.strCut_lh un_9 rfl rfl rfl (show _ = ((0 : Nat) : Int) from rfl) (show _ = ((2 : Nat) : Int) from rfl) (by omega) (by omega)) rfl ?_
  refine JQ.callP ca_125 rfl (part_fn _ _ (by simp only [List.length_take, List.length_drop]; omega)) rfl ?_
  refine Rq 1 rfl ?_
  refine JQ.op (RunV.strCut_lh un_9 rfl rfl rfl (show _ = ((2 : Nat) : Int) from rfl) (show _ = ((4 : Nat) : Int) from rfl) (by omega) (by omega)) rfl ?_
  refine JQ.callP ca_125 rfl (part_fn _ _ (by simp only [List.length_take, List.length_drop]; omega)) rfl ?_
  refine Rq 1 rfl ?_
  refine JQ.op (RunV.strCut_lh un_9 rfl rfl rfl (show _ = ((4 : Nat) : Int) from rfl) (show _ = ((6 : Nat) : Int) from rfl) (by omega) (by omega)) rfl ?_
  refine JQ.callP ca_125 rfl (part_fn _ _ (by simp only [List.length_take, List.length_drop]; omega)) rfl ?_
  refine Rq 1 rfl ?_
  refine JQ.op (RunV.strCut_lh un_9 rfl rfl rfl (show _ = ((6 : Nat) : Int) from rfl) (show _ = ((8 : Nat) : Int) from rfl) (by omega) (by omega)) rfl ?_
  refine JQ.callP ca_125 rfl (part_fn _ _ (by simp only [List.length_take, List.length_drop]; omega)) rfl ?_
  refine Rq 1 rfl ?_
  refine JQ.op (RunV.strCut_lh un_9 rfl rfl rfl (show _ = ((8 : Nat) : Int) from rfl) (show _ = ((10 : Nat) : Int) from rfl) (by omega) (by omega)) rfl ?_
  refine JQ.callP ca_125 rfl (part_fn _ _ (by simp only [List.length_take, List.length_drop]; omega)) rfl ?_
  refine JQ.callP ca_139 rfl (at_fn _ _ _ _ _ _ _) rfl ?_
  refine Rq 4 rfl ?_
  refine Nq [5, 4] rfl ?_
  exact J.retP (RetV.two rfl rfl rfl) (by rw [momV, hm1]; rw [hm1] at hm2; split; (rename_i hz; rw [if_pos (by simpa using hz), hm2 (by simpa using hz)]); (rename_i hz; rw [if_neg (by simpa using hz)])) rfl



theorem rpshort_fn (s : List UInt8) (h : Part) (h2 : s.length ≤ 140737488355328) : Pure Tryd.prog 98 [.string ⟨s.toArray⟩] h (.tuple #[.int .i64 (psT s), .int .i64 (if psOk s then 0 else 21)]) := by
  have w0 := twoI_bd s 0
  have hp2 : 2 ≤ s.length → (0 ≤ twoI s 0 ∧ partI (s.take 2) = twoI s 0) ∨ (twoI s 0 < 0 ∧ partI (s.take 2) = -1) := fun hh => by
    have := part_two s 0 (by omega)
    rw [List.drop_zero] at this
    split at this <;> omega
  refine Fn.intro Tryd.func98 rfl Tryd.ntmps98 rfl (fun e he => ?_)
  refine J.weak [(0, _)] ⟨rfl, trivial⟩ ?_
  refine Sr ?_
  refine Ru 2 rfl ?_
  refine JL.nil ?_
  refine J.seq ?_
  refine J.seq ?_
  refine J.meet [(20, .bool (decide (¬ (s.length = 13 ∧ byteAt s 12 = 90 ∧ 0 ≤ twoI s 0))))] [(3, _), (2, _), (0, _)] ⟨rfl, rfl, rfl, trivial⟩ ?_ ?_
  ·
   refine Rg ?_
   refine Ru 1 rfl ?_
   refine JL.op (RunV.lenS un_9 rfl) rfl ?_
   refine Ru 2 rfl ?_
   refine Bs 10 rfl (fun hc1 => ?_) fun hc1 => ?_
   ·
    refine Ru 10 rfl ?_
    refine JL.nil ?_
    refine ⟨rfl, rfl, ?_⟩
    repeat (first | exact trivial | refine ⟨rfl, ?_⟩ | refine ⟨(by exact some_bool (by first | exact decide_eq_decide.2 (by omega) | exact (decide_eq_false (by omega)).symm | exact (decide_eq_true (by omega)).symm)), ?_⟩)
   ·
    refine Ru 1 rfl ?_
    refine JL.opg rfl rfl  (RunV.strIndex (m := 12) un_9 rfl rfl rfl (by omega)) rfl ?_
    refine Ru 3 rfl ?_
    refine Bs 15 rfl (fun hc2 => ?_) fun hc2 => ?_
    ·
     refine Ru 5 rfl ?_
     refine JL.nil ?_
     refine ⟨rfl, rfl, ?_⟩
     repeat (first | exact trivial | refine ⟨rfl, ?_⟩ | refine ⟨(by exact some_bool (by first | exact decide_eq_decide.2 (by omega) | exact (decide_eq_false (by omega)).symm | exact (decide_eq_true (by omega)).symm)), ?_⟩)
    ·
     refine Ru 1 rfl ?_
     refine JL.opg rfl rfl  (RunV.strCut_h un_9 rfl rfl (show _ = ((2 : Nat) : Int) from rfl) (by omega)) rfl ?_
     refine JL.callPg rfl rfl  ca_125 rfl (part_fn _ _ (by simp only [List.length_take, List.length_drop]; omega)) rfl ?_
     refine Ru 2 rfl ?_
     refine JL.nil ?_
     refine ⟨rfl, rfl, ?_⟩
     repeat (first | exact trivial | refine ⟨rfl, ?_⟩ | refine ⟨(by exact some_bool (by first | exact decide_eq_decide.2 (by omega) | exact (decide_eq_false (by omega)).symm | exact (decide_eq_true (by omega)).symm)), ?_⟩)
  ·
   refine Cs rfl (fun hc4 => ?_) fun hc4 => ?_
   ·
    have hm : psOk s = false := (by unfold psOk; by_cases hz : s.length = 13 ∧ byteAt s 12 = 90; (have hy : psY s = twoI s 0 := if_neg (by omega)); rw [hy, show momOk (twoI s 0) ((s.drop 2).take 10) = false from decide_eq_false (by omega), Bool.and_false]; rw [decide_eq_false hz, Bool.false_and])
    refine Sr ?_
    refine Ru 2 rfl ?_
    refine JL.nil ?_
    exact J.retP (RetV.two rfl rfl rfl) (by rw [psT, hm]; rfl) rfl
   ·
    obtain ⟨hl13, hz90, htw⟩ : s.length = 13 ∧ byteAt s 12 = 90 ∧ 0 ≤ twoI s 0 := (by omega); have hp3 : partI (s.take 2) = twoI s 0 := (by omega)
    refine J.skip ?_
    refine Sr ?_
    refine Ru 1 rfl ?_
    refine JL.op (RunV.strCut_h un_9 rfl rfl (show _ = ((2 : Nat) : Int) from rfl) (by omega)) rfl ?_
    refine JL.callP ca_125 rfl (part_fn _ _ (by simp only [List.length_take, List.length_drop]; omega)) rfl ?_
    rw [hp3]
    refine JL.op (by first | exact RunV.add_i64 rfl rfl (by omega) (by omega) | exact RunV.add rfl rfl) rfl ?_
    refine Ru 1 rfl ?_
    refine Nk [4, 3, 2, 0] rfl ?_
    refine J.seq ?_
    refine Sr ?_
    refine Ru 2 rfl ?_
    refine JL.nil ?_
    refine Cs rfl (fun hc6 => ?_) fun hc6 => ?_
    ·
     have hy : psY s = twoI s 0 + 1900 + 100 := (by unfold psY; rw [if_pos (by omega), if_pos (by omega)])
     refine Rg ?_
     refine Ru 1 rfl ?_
     refine JL.op (by first | exact RunV.add_i64 rfl rfl (by omega) (by omega) | exact RunV.add rfl rfl) rfl ?_
     refine Ru 1 rfl ?_
     refine Nk [4, 3, 2, 0] rfl ?_
     refine Sr ?_
     rw [show 1900 + twoI s 0 = twoI s 0 + 1900 by omega]; rw [← hy]; have hps : psOk s = momOk (psY s) ((s.drop 2).take 10) := (by unfold psOk; rw [decide_eq_true ⟨hl13, hz90⟩, Bool.true_and])
     refine Ru 2 rfl ?_
     refine JL.op (RunV.strCut_lh un_9 rfl rfl rfl (show _ = ((2 : Nat) : Int) from rfl) (show _ = ((12 : Nat) : Int) from rfl) (by omega) (by omega)) rfl ?_
     refine JL.callP ca_126 rfl (of_fn _ _ _ (by simp only [List.length_take, List.length_drop]; omega) (by omega)) rfl ?_
     refine Ru 5 rfl ?_
     refine Nk [6, 5, 3, 2] rfl ?_
     refine J.seq ?_
     refine Sr ?_
     refine Ru 2 rfl ?_
     refine JL.nil ?_
     refine Cs rfl (fun hc8 => ?_) fun hc8 => ?_
     ·
      refine Sr ?_
      refine Ru 2 rfl ?_
      refine Nk [3, 2, 5] rfl ?_
      exact J.retP (RetV.two rfl rfl rfl) (by rw [psT, hps, hc8]; rfl) rfl
     ·
      refine J.skip ?_
      refine Sr ?_
      refine Ru 3 rfl ?_
      refine Nk [3, 2] rfl ?_
      exact J.retP (RetV.two rfl rfl rfl) (by simp [psT, hps, momV, hc8]) rfl
    ·
     have hy : psY s = twoI s 0 + 1900 := (by unfold psY; rw [if_pos (by omega), if_neg (by omega)])
     refine J.skip ?_
     refine Sr ?_
     rw [show 1900 + twoI s 0 = twoI s 0 + 1900 by omega]; rw [← hy]; have hps : psOk s = momOk (psY s) ((s.drop 2).take 10) := (by unfold psOk; rw [decide_eq_true ⟨hl13, hz90⟩, Bool.true_and])
     refine Ru 2 rfl ?_
     refine JL.op (RunV.strCut_lh un_9 rfl rfl rfl (show _ = ((2 : Nat) : Int) from rfl) (show _ = ((12 : Nat) : Int) from rfl) (by omega) (by omega)) rfl ?_
     refine JL.callP ca_126 rfl (of_fn _ _ _ (by simp only [List.length_take, List.length_drop]; omega) (by omega)) rfl ?_
     refine Ru 5 rfl ?_
     refine Nk [6, 5, 3, 2] rfl ?_
     refine J.seq ?_
     refine Sr ?_
     refine Ru 2 rfl ?_
     refine JL.nil ?_
     refine Cs rfl (fun hc10 => ?_) fun hc10 => ?_
     ·
      refine Sr ?_
      refine Ru 2 rfl ?_
      refine Nk [3, 2, 5] rfl ?_
      exact J.retP (RetV.two rfl rfl rfl) (by simp [psT, hps, momV, hc10]) rfl
     ·
      refine J.skip ?_
      refine Sr ?_
      refine Ru 3 rfl ?_
      refine Nk [3, 2] rfl ?_
      exact J.retP (RetV.two rfl rfl rfl) (by simp [psT, hps, momV, hc10]) rfl




/-! ## the longer text -/
theorem mic_take (s g : List UInt8) (hg : g.length = 6) (hb : ∀ k, k < 6 → byteAt g k = if 15 + k + 1 < s.length then byteAt s (15 + k) else 48) : ∀ k, k ≤ 6 → (g.take k).all dig = micOk s k ∧ (micOk s k = true → (numV (g.take k) : Int) = micI s k)
  | 0, _ => by simp [micOk, micI, numV]
  | k + 1, hk => by
    obtain ⟨i1, i2⟩ := mic_take s g hg hb k (by omega)
    have hbk := hb k (by omega)
    rw [all_take g k (by omega), numV_take g k (by omega), i1]
    simp only [micOk, micI]
    by_cases hh : 15 + k + 1 < s.length
    · rw [if_pos hh, if_pos hh]
      rw [if_pos hh] at hbk
      rw [hbk]
      refine ⟨rfl, fun hz => ?_⟩
      rw [Bool.and_eq_true] at hz
      have := i2 hz.1
      have := of_decide_eq_true hz.2
      omega
    · rw [if_neg hh, if_neg hh]
      rw [if_neg hh] at hbk
      rw [hbk, decide_eq_true (by omega), Bool.and_true]
      exact ⟨rfl, fun hz => by have := i2 hz; omega⟩
theorem part_mic (s g : List UInt8) (hg : g.length = 6) (hb : ∀ k, k < 6 → byteAt g k = if 15 + k + 1 < s.length then byteAt s (15 + k) else 48) : (micOk s 6 = true ∧ partI g = micI s 6 ∧ 0 ≤ partI g) ∨ (micOk s 6 = false ∧ partI g = -1) := by
  obtain ⟨i1, i2⟩ := mic_take s g hg hb 6 (Nat.le_refl _)
  rw [List.take_of_length_le (by omega)] at i1 i2
  unfold partI
  rw [i1]
  cases hm : micOk s 6 with
  | true => left; rw [if_pos rfl]; exact ⟨rfl, i2 hm, by omega⟩
  | false => right; exact ⟨rfl, by simp⟩
theorem byteAt_pad (l : List UInt8) (n k : Nat) (h : k < l.length + n) : byteAt (l ++ List.replicate n 48) k = if k < l.length then byteAt l k else 48 := by
  unfold byteAt
  rw [List.getD_eq_getElem?_getD, List.getElem?_append]
  split
  · rw [List.getD_eq_getElem?_getD]
  · rw [List.getElem?_replicate, if_pos (by omega)]; rfl
theorem pl_year {s : List UInt8} {y : Int} {q : List UInt8} (h : 4 ≤ s.length) (hy : y = partI (s.take 4)) : momOk y q = momOk (twoI s 0 * 100 + twoI s 2) q ∧ momV y q = momV (twoI s 0 * 100 + twoI s 2) q ∧ y ≤ 9999 := by
  rcases part_four s h with ⟨e1, e2, e3⟩ | ⟨e1, e2⟩
  · rw [hy, e1]; exact ⟨rfl, rfl, e3⟩
  · have f1 : momOk y q = false := decide_eq_false (by omega)
    have f2 : momOk (twoI s 0 * 100 + twoI s 2) q = false := decide_eq_false (by omega)
    unfold momV
    rw [f1, f2]
    exact ⟨rfl, rfl, by omega⟩
theorem rplong_fn (s : List UInt8) (h : Part) (h2 : s.length ≤ 140737488355328) : Pure Tryd.prog 99 [.string ⟨s.toArray⟩] h (.tuple #[.int .i64 (if plOk s then momT (twoI s 0 * 100 + twoI s 2) ((s.drop 4).take 10) else 0), .int .i64 (if plOk s then plM s else 0), .int .i64 (if plOk s then 0 else 21)]) := by
  have e1 : ((s.length : Int) - 1).toNat = s.length - 1 := by omega
  have hbl := byteAt_lt s (s.length - 1)
  refine Fn.intro Tryd.func99 rfl Tryd.ntmps99 rfl (fun e he => ?_)
  refine J.weak [(0, _)] ⟨rfl, trivial⟩ ?_
  refine Sr ?_
  refine Ru 3 rfl ?_
  refine JL.nil ?_
  refine J.seq ?_
  refine J.seq ?_
  refine J.meet [(30, .bool (decide (¬ (15 ≤ s.length ∧ s.length ≤ 22 ∧ byteAt s (s.length - 1) = 90 ∧ s.length ≠ 16))))] [(4, _), (3, _), (2, _), (0, _)] ⟨rfl, rfl, rfl, rfl, trivial⟩ ?_ ?_
  ·
   refine Rg ?_
   refine Ru 1 rfl ?_
   refine JL.op (RunV.lenS un_9 rfl) rfl ?_
   refine Ru 2 rfl ?_
   refine Bs 13 rfl (fun hc1 => ?_) fun hc1 => ?_
   ·
    refine Ru 17 rfl ?_
    refine JL.nil ?_
    refine ⟨rfl, rfl, ?_⟩
    repeat (first | exact trivial | refine ⟨rfl, ?_⟩ | refine ⟨(by exact some_bool (by first | exact decide_eq_decide.2 (by omega) | exact (decide_eq_false (by omega)).symm | exact (decide_eq_true (by omega)).symm)), ?_⟩)
   ·
    refine Ru 1 rfl ?_
    refine JL.opg rfl rfl  (RunV.lenS un_9 rfl) rfl ?_
    refine Ru 3 rfl ?_
    refine Bs 18 rfl (fun hc2 => ?_) fun hc2 => ?_
    ·
     refine Ru 12 rfl ?_
     refine JL.nil ?_
     refine ⟨rfl, rfl, ?_⟩
     repeat (first | exact trivial | refine ⟨rfl, ?_⟩ | refine ⟨(by exact some_bool (by first | exact decide_eq_decide.2 (by omega) | exact (decide_eq_false (by omega)).symm | exact (decide_eq_true (by omega)).symm)), ?_⟩)
    ·
     refine Ru 2 rfl ?_
     refine JL.opg rfl rfl  (RunV.lenS un_9 rfl) rfl ?_
     refine JL.opg rfl rfl  (by first | exact RunV.sub_i64 rfl rfl (by omega) (by omega) | exact RunV.sub rfl rfl) rfl ?_
     refine JL.opg rfl rfl  (RunV.strIndex (m := s.length - 1) un_9 rfl rfl (by omega) (by omega)) rfl ?_
     refine Ru 3 rfl ?_
     refine Bs 26 rfl (fun hc3 => ?_) fun hc3 => ?_
     ·
      refine Ru 4 rfl ?_
      refine JL.nil ?_
      refine ⟨rfl, rfl, ?_⟩
      repeat (first | exact trivial | refine ⟨rfl, ?_⟩ | refine ⟨(by exact some_bool (by first | exact decide_eq_decide.2 (by omega) | exact (decide_eq_false (by omega)).symm | exact (decide_eq_true (by omega)).symm)), ?_⟩)
     ·
      refine Ru 1 rfl ?_
      refine JL.opg rfl rfl  (RunV.lenS un_9 rfl) rfl ?_
      refine Ru 2 rfl ?_
      refine JL.nil ?_
      refine ⟨rfl, rfl, ?_⟩
      repeat (first | exact trivial | refine ⟨rfl, ?_⟩ | refine ⟨(by exact some_bool (by first | exact decide_eq_decide.2 (by omega) | exact (decide_eq_false (by omega)).symm | exact (decide_eq_true (by omega)).symm)), ?_⟩)
  ·
   refine Cs rfl (fun hc4 => ?_) fun hc4 => ?_
   ·
    have hm : plOk s = false := (by by_cases hz : 15 ≤ s.length ∧ s.length ≤ 22 ∧ byteAt s (s.length - 1) = 90; exact pl_f2 (by omega) (by omega); exact pl_f1 hz)
    refine Sr ?_
    refine Ru 3 rfl ?_
    refine Nk [4, 3, 2, 0] rfl ?_
    exact J.retP (RetV.three rfl rfl rfl rfl) (by rw [hm]; rfl) rfl
   ·
    obtain ⟨l15, l22, lz, l16⟩ : 15 ≤ s.length ∧ s.length ≤ 22 ∧ byteAt s (s.length - 1) = 90 ∧ s.length ≠ 16 := (by omega); obtain ⟨F, hF⟩ : ∃ F, F = (s.drop 14).take (s.length - 1 - 14) := ⟨_, rfl⟩; have hFl : F.length = s.length - 15 := (by rw [hF]; simp; omega); have hFb : ∀ k, k < s.length - 15 → byteAt F k = byteAt s (14 + k) := (fun k hk => by rw [hF]; exact byteAt_cut s 14 _ k (by omega)); obtain ⟨hy1, hy2, hy3⟩ := pl_year (s := s) (y := partI (s.take 4)) (q := (s.drop 4).take 10) (by omega) rfl
    refine J.skip ?_
    refine Sr ?_
    refine Ru 2 rfl ?_
    refine JL.op (RunV.lenS un_9 rfl) rfl ?_
    refine JL.op (by first | exact RunV.sub_i64 rfl rfl (by omega) (by omega) | exact RunV.sub rfl rfl) rfl ?_
    refine JL.op (RunV.strCut_lh (m := 14) (m' := s.length - 1) un_9 rfl rfl rfl rfl (by omega) (by omega) (by omega)) rfl ?_
    rw [← hF]
    refine Ru 1 rfl ?_
    refine Nk [5, 4, 3, 2, 0] rfl ?_
    refine Sr ?_
    refine Ru 1 rfl ?_
    refine JL.nil ?_
    refine J.seq ?_
    refine Sr ?_
    refine Ru 1 rfl ?_
    refine JL.op (RunV.neqS rfl rfl) rfl ?_
    refine JL.nil ?_
    refine Cs rfl (fun hc5 => ?_) fun hc5 => ?_
    ·
     have hne : s.length ≠ 15 := (fun h15 => hc5 (List.eq_nil_of_length_eq_zero (by omega))); have hd1 : (F.drop 1).length = s.length - 16 := (by rw [List.length_drop]; omega)
     refine Sr ?_
     refine Ru 1 rfl ?_
     refine JL.op (RunV.strCut_l un_9 rfl rfl (show _ = ((1 : Nat) : Int) from rfl) (by omega)) rfl ?_
     refine Ru 1 rfl ?_
     refine Nk [7, 6, 5, 4, 3, 2, 0] rfl ?_
     refine J.seq ?_
     refine J.block ?_
     refine J.loop (fun t_ S_ h_ L_ => ∃ (j : Nat) (G : List UInt8), t_ = 6 - j ∧ S_ = [(0, .string ⟨s.toArray⟩), (5, .string ⟨F.toArray⟩), (7, .string ⟨G.toArray⟩)] ∧ h = h_ ∧ L_ = [] ∧ ((F.drop 1).length + j ≤ 6 ∧ G = F.drop 1 ++ List.replicate j 48)) ⟨_, _, ?_, ⟨0, F.drop 1, rfl, rfl, rfl, rfl, ⟨by omega, by simp⟩⟩⟩ ?_
     ·
      repeat (first | exact trivial | refine ⟨rfl, ?_⟩)
     rintro _ _ _ _ ⟨j, G, rfl, rfl, rfl, rfl, hj, hG⟩
     have hgl : G.length = (F.drop 1).length + j := (by rw [hG, List.length_append, List.length_replicate])
     refine J.seq ?_
     refine Sr ?_
     refine Ru 1 rfl ?_
     refine JL.op (RunV.lenS un_9 rfl) rfl ?_
     refine Ru 1 rfl ?_
     refine JL.nil ?_
     refine Cs rfl (fun hc6 => ?_) fun hc6 => ?_
     ·
      refine J.skip ?_
      refine J.block ?_
      refine Rg ?_
      refine Ru 1 rfl ?_
      refine JL.op (RunV.addS rfl rfl (by first | omega | (simp only [List.length_append, List.length_cons, List.length_nil]; omega))) rfl ?_
      refine Ru 1 rfl ?_
      refine JL.nil ?_
      refine ⟨_, ?_, _, ?_, ⟨j + 1, G ++ [48], rfl, rfl, rfl, rfl, ⟨by omega, by rw [hG, List.append_assoc, ← List.replicate_succ']⟩⟩⟩
      ·
       omega
      ·
       repeat (first | exact trivial | refine ⟨rfl, ?_⟩)
     ·
      have hgb : ∀ k, k < 6 → byteAt G k = if 15 + k + 1 < s.length then byteAt s (15 + k) else 48 := (fun k hk => by rw [hG, byteAt_pad _ _ _ (by omega)]; by_cases hz : k < (F.drop 1).length; rw [if_pos hz, if_pos (by omega), show 15 + k = 14 + (1 + k) by omega, ← hFb (1 + k) (by omega)]; unfold byteAt; simp [Nat.add_comm]; rw [if_neg hz, if_neg (by omega)]); have hpm := part_mic s _ (by omega) hgb; have hf0 : byteAt F 0 = byteAt s 14 := hFb 0 (by omega); have hf1 := hFb (s.length - 16) (by omega); rw [show 14 + (s.length - 16) = s.length - 2 by omega] at hf1
      refine J.exit ?_
      refine Sr ?_
      refine Ru 1 rfl ?_
      refine JL.callP ca_125 rfl (part_fn _ _ (by omega)) rfl ?_
      refine Ru 1 rfl ?_
      refine Nk [6, 0, 5] rfl ?_
      refine J.seq ?_
      refine J.meet [(61, .bool (decide (¬ (byteAt s 14 = 46 ∧ byteAt s (s.length - 2) ≠ 48) ∨ partI G < 0)))] [(6, _), (0, _)] ⟨rfl, rfl, trivial⟩ ?_ ?_
      ·
       refine Rg ?_
       refine Ru 1 rfl ?_
       refine JL.op (RunV.strIndex (m := 0) un_9 rfl rfl rfl (by omega)) rfl ?_
       refine Ru 2 rfl ?_
       refine Bs 50 rfl (fun hc8 => ?_) fun hc8 => ?_
       ·
        refine Ru 11 rfl ?_
        refine JL.nil ?_
        refine ⟨rfl, rfl, ?_⟩
        repeat (first | exact trivial | refine ⟨rfl, ?_⟩ | refine ⟨(by exact some_bool (by first | exact decide_eq_decide.2 (by omega) | exact (decide_eq_false (by omega)).symm | exact (decide_eq_true (by omega)).symm)), ?_⟩)
       ·
        refine Ru 4 rfl ?_
        refine Bs 54 rfl (fun hc9 => ?_) fun hc9 => ?_
        ·
         refine Ru 7 rfl ?_
         refine JL.nil ?_
         refine ⟨rfl, rfl, ?_⟩
         repeat (first | exact trivial | refine ⟨rfl, ?_⟩ | refine ⟨(by exact some_bool (by first | exact decide_eq_decide.2 (by omega) | exact (decide_eq_false (by omega)).symm | exact (decide_eq_true (by omega)).symm)), ?_⟩)
        ·
         refine Ru 2 rfl ?_
         refine JL.opg rfl rfl  (RunV.lenS un_9 rfl) rfl ?_
         refine JL.opg rfl rfl  (by first | exact RunV.sub_i64 rfl rfl (by omega) (by omega) | exact RunV.sub rfl rfl) rfl ?_
         refine JL.opg rfl rfl  (RunV.strIndex (m := s.length - 16) un_9 rfl rfl (by omega) (by omega)) rfl ?_
         refine Ru 2 rfl ?_
         refine JL.nil ?_
         refine ⟨rfl, rfl, ?_⟩
         repeat (first | exact trivial | refine ⟨rfl, ?_⟩ | refine ⟨(by exact some_bool (by first | exact decide_eq_decide.2 (by omega) | exact (decide_eq_false (by omega)).symm | exact (decide_eq_true (by omega)).symm)), ?_⟩)
      ·
       refine Cs rfl (fun hc10 => ?_) fun hc10 => ?_
       ·
        have hm : plOk s = false := (by rcases hpm with ⟨p1, p2, p3⟩ | ⟨p1, p2⟩; exact pl_f2 hne (by omega); exact pl_f3 6 hne (by omega) p1)
        refine Sr ?_
        refine Ru 3 rfl ?_
        refine JL.nil ?_
        exact J.retP (RetV.three rfl rfl rfl rfl) (by rw [hm]; rfl) rfl
       ·
        obtain ⟨p1, p2, p3⟩ : micOk s 6 = true ∧ partI G = micI s 6 ∧ 0 ≤ partI G := (by rcases hpm with hq | ⟨q1, q2⟩; exact hq; exfalso; omega); have hpl := pl_t1 (s := s) ⟨l15, l22, lz⟩ hne (by omega) p1; have hpM : plM s = micI s 6 := if_neg hne; rw [p2, ← hpM]
        refine J.skip ?_
        refine J.seq ?_
        refine J.drawn mixed_ (by kernel_rfl) ?_
        refine Rq 1 rfl ?_
        refine JQ.op (RunV.strCut_h un_9 rfl rfl (show _ = ((4 : Nat) : Int) from rfl) (by omega)) rfl ?_
        refine JQ.callP ca_125 rfl (part_fn _ _ (by simp only [List.length_take, List.length_drop]; omega)) rfl ?_
        refine Rq 1 rfl ?_
        refine JQ.op (RunV.strCut_lh un_9 rfl rfl rfl (show _ = ((4 : Nat) : Int) from rfl) (show _ = ((14 : Nat) : Int) from rfl) (by omega) (by omega)) rfl ?_
        refine JQ.callP ca_126 rfl (of_fn _ _ _ (by simp only [List.length_take, List.length_drop]; omega) hy3) rfl ?_
        rw [hy1, hy2]
        refine Rq 5 rfl ?_
        refine Nq [9, 8, 6] rfl ?_
        refine J.seq ?_
        refine Sr ?_
        refine Ru 2 rfl ?_
        refine JL.nil ?_
        refine Cs rfl (fun hc13 => ?_) fun hc13 => ?_
        ·
         refine Sr ?_
         refine Ru 3 rfl ?_
         refine JL.nil ?_
         exact J.retP (RetV.three rfl rfl rfl rfl) (by simp [hpl, hpM, momV, hc13]) rfl
        ·
         refine J.skip ?_
         refine Sr ?_
         refine Ru 5 rfl ?_
         refine Nk [4, 3, 2] rfl ?_
         exact J.retP (RetV.three rfl rfl rfl rfl) (by simp [hpl, hpM, momV, hc13]) rfl
    ·
     have h15 : s.length = 15 := (by have hF0 : F.length = 0 := (by rw [show F = [] from hc5]; rfl); omega); have hpl := pl_t0 (s := s) ⟨l15, l22, lz⟩ h15; have hpM : plM s = 0 := if_pos h15
     refine J.skip ?_
     refine J.seq ?_
     refine J.drawn mixed_ (by kernel_rfl) ?_
     refine Rq 1 rfl ?_
     refine JQ.op (RunV.strCut_h un_9 rfl rfl (show _ = ((4 : Nat) : Int) from rfl) (by omega)) rfl ?_
     refine JQ.callP ca_125 rfl (part_fn _ _ (by simp only [List.length_take, List.length_drop]; omega)) rfl ?_
     refine Rq 1 rfl ?_
     refine JQ.op (RunV.strCut_lh un_9 rfl rfl rfl (show _ = ((4 : Nat) : Int) from rfl) (show _ = ((14 : Nat) : Int) from rfl) (by omega) (by omega)) rfl ?_
     refine JQ.callP ca_126 rfl (of_fn _ _ _ (by simp only [List.length_take, List.length_drop]; omega) hy3) rfl ?_
     rw [hy1, hy2]
     refine Rq 5 rfl ?_
     refine Nq [9, 8, 6, 4, 3, 2] rfl ?_
     refine J.seq ?_
     refine Sr ?_
     refine Ru 2 rfl ?_
     refine JL.nil ?_
     refine Cs rfl (fun hc16 => ?_) fun hc16 => ?_
     ·
      refine Sr ?_
      refine Ru 3 rfl ?_
      refine Nk [4, 3, 2, 8, 6] rfl ?_
      exact J.retP (RetV.three rfl rfl rfl rfl) (by simp [hpl, hpM, momV, hc16]) rfl
     ·
      refine J.skip ?_
      refine Sr ?_
      refine Ru 5 rfl ?_
      refine Nk [4, 3, 2] rfl ?_
      exact J.retP (RetV.three rfl rfl rfl rfl) (by simp [hpl, hpM, momV, hc16]) rfl



end Go.Proofs.YtmngjbefnloljaaDoor
