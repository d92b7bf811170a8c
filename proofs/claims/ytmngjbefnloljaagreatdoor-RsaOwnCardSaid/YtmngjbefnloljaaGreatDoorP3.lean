/- Walks: the reference's calendar; Walk: the reference's printable texts; Walks: the reference's values and bytes of nodes; Walks: the laws DerWrites and DerAsked; Walks: the reference's arithmetic: product, small numbers; its kept keys; Walks: the reference's division: by one digit; whether digits are above; digits taken away; Walks: the reference's rest of a product, and its division; Walks: the reference's power and comparison; Walks: which keys are right, and how great they are, by the program and by the reference. -/
import Derived.Test.YtmngjbefnloljaaGreatDoorP2
set_option linter.unusedSimpArgs false
set_option linter.unusedVariables false
set_option linter.constructorNameAsVariable false
namespace Go.Proofs.YtmngjbefnloljaaGreatDoor
open Go Go.RowKit
theorem z15_ {p : Prop} (u : p := by repeat (first | exact trivial | refine ⟨rfl, ?_⟩ | refine ⟨(by exact some_bool (by first | exact decide_eq_decide.2 (by unfold atOk; omega) | exact (decide_eq_false (by unfold atOk; omega)).symm | exact (decide_eq_true (by unfold atOk; omega)).symm | (rw [← decide_not]; exact decide_eq_decide.2 (by unfold atOk; omega)))), ?_⟩)) : p := u
theorem z21_ {p : Prop} (u : p := by unfold daysI monthI; rw [hlp]; congr 1; simp only [if_true, Bool.false_eq_true, if_false]; (repeat' split) <;> omega) : p := u
theorem z39_ {p : Prop} (u : p := by simp only [List.length_take, List.length_drop]; omega) : p := u
end Go.Proofs.YtmngjbefnloljaaGreatDoor
namespace Go.Proofs.YtmngjbefnloljaaGreatDoor
open Go Go.RowKit
set_option maxRecDepth 100000
theorem ca_162 : callT Tryz.prog 162 = true := by kernel_rfl
theorem ca_163 : callT Tryz.prog 163 = true := by kernel_rfl
theorem ca_172 : callT Tryz.prog 172 = true := by kernel_rfl
theorem ca_177 : callT Tryz.prog 177 = true := by kernel_rfl
def daysI (y m : Int) : Int := if m = 0 then (if leapB y then 366 else 365) else monthI y m
theorem leapB_iff (y : Int) : leapB y = decide (y % 4 = 0 ∧ y % 100 ≠ 0 ∨ y % 400 = 0) := by
  unfold leapB
  rw [← Bool.decide_or, ← Bool.decide_and]
  exact decide_eq_decide.2 (by omega)
theorem days_fn (y m : Int) (h : Part) (h0 : 0 ≤ y) : Pure Tryz.prog 177 [.int .i64 y, .int .i64 m] h (.int .i64 (daysI y m)) := by
  have hlp := leapB_iff y
  refine Fn.intro Tryz.func177 rfl Tryz.ntmps177 rfl (fun e he => ?_)
  refine J.weak [(0, _), (1, _)] ⟨rfl, rfl, trivial⟩ ?_
  refine Sr ?_
  refine Ru 1 rfl ?_
  refine JL.nil ?_
  refine Sr ?_
  refine Ru 1 rfl ?_
  refine JL.nil ?_
  refine J.seq ?_
  refine J.seq ?_
  refine J.meet [(18, .bool (decide (y % 4 = 0 ∧ y % 100 ≠ 0 ∨ y % 400 = 0)))] [(5, _), (4, _), (1, _)] ⟨rfl, rfl, rfl, trivial⟩ ?_ ?_
  ·
   refine Rg ?_
   refine Ru 1 rfl ?_
   refine JL.op z22_ rfl ?_
   refine Ru 2 rfl ?_
   refine Bs 9 rfl (fun hc1 => ?_) fun hc1 => ?_
   ·
    refine Ru 1 rfl ?_
    refine JL.opg rfl rfl  z22_ rfl ?_
    refine Ru 3 rfl ?_
    refine Bs 14 rfl (fun hc2 => ?_) fun hc2 => ?_
    ·
     refine Ru 4 rfl ?_
     refine JL.nil ?_
     refine ⟨rfl, rfl, ?_⟩
     exact z6_
    refine Ru 1 rfl ?_
    refine JL.opg rfl rfl  z22_ rfl ?_
    refine Ru 2 rfl ?_
    refine JL.nil ?_
    refine ⟨rfl, rfl, ?_⟩
    exact z6_
   refine Ru 6 rfl ?_
   refine JL.opg rfl rfl  z22_ rfl ?_
   refine Ru 2 rfl ?_
   refine JL.nil ?_
   refine ⟨rfl, rfl, ?_⟩
   exact z6_
  refine Cs rfl (fun hc3 => ?_) fun hc3 => ?_
  ·
   rw [decide_eq_true hc3] at hlp
   refine Rg ?_
   refine Ru 1 rfl ?_
   refine JL.nil ?_
   refine J.seq ?_
   refine Sr ?_
   refine Ru 1 rfl ?_
   refine JL.nil ?_
   refine J.block ?_
   refine Sr ?_
   refine Ru 2 rfl ?_
   refine Nk [20, 19, 5, 4] rfl ?_
   refine Cs rfl (fun hc4 => ?_) fun hc4 => ?_
   ·
    refine Sr ?_
    refine Ru 1 rfl ?_
    refine JL.op ai_ rfl ?_
    refine Ru 1 rfl ?_
    refine Nk [4] rfl ?_
    exact J.retP (RetV.one rfl rfl) z21_ rfl
   refine Sr ?_
   refine Ru 2 rfl ?_
   refine JL.nil ?_
   refine Cs rfl (fun hc5 => ?_) fun hc5 => ?_
   ·
    refine Sr ?_
    refine Ru 1 rfl ?_
    refine JL.op ai_ rfl ?_
    refine Ru 1 rfl ?_
    refine Nk [4] rfl ?_
    exact J.retP (RetV.one rfl rfl) z21_ rfl
   refine J.seq ?_
   refine Sr ?_
   refine Ru 2 rfl ?_
   refine Nk [28, 19, 4] rfl ?_
   refine Cs rfl (fun hc6 => ?_) fun hc6 => ?_
   ·
    refine J.skip ?_
    refine J.cond_t rfl ?_
    refine Sr ?_
    refine Ru 1 rfl ?_
    refine JL.nil ?_
    exact J.retP (RetV.one rfl rfl) z21_ rfl
   refine Sr ?_
   refine Ru 2 rfl ?_
   refine JL.nil ?_
   refine Cs rfl (fun hc7 => ?_) fun hc7 => ?_
   ·
    refine J.skip ?_
    refine Kp [28, 4] rfl ?_
    refine J.cond_t rfl ?_
    refine Sr ?_
    refine Ru 1 rfl ?_
    refine JL.nil ?_
    exact J.retP (RetV.one rfl rfl) z21_ rfl
   refine Sr ?_
   refine Ru 2 rfl ?_
   refine Nk [28, 19, 4] rfl ?_
   refine Cs rfl (fun hc8 => ?_) fun hc8 => ?_
   ·
    refine J.skip ?_
    refine J.cond_t rfl ?_
    refine Sr ?_
    refine Ru 1 rfl ?_
    refine JL.nil ?_
    exact J.retP (RetV.one rfl rfl) z21_ rfl
   refine Rg ?_
   refine Ru 2 rfl ?_
   refine JL.nil ?_
   refine Cs rfl (fun hc9 => ?_) fun hc9 => ?_
   ·
    refine Sr ?_
    refine Ru 1 rfl ?_
    refine Nk [4] rfl ?_
    exact J.retP (RetV.one rfl rfl) z21_ rfl
   refine J.skip ?_
   refine Kp [4] rfl ?_
   refine Sr ?_
   refine Ru 1 rfl ?_
   refine JL.nil ?_
   exact J.retP (RetV.one rfl rfl) z21_ rfl
  rw [decide_eq_false hc3] at hlp
  refine J.skip ?_
  refine J.seq ?_
  refine Sr ?_
  refine Ru 1 rfl ?_
  refine JL.nil ?_
  refine J.block ?_
  refine Sr ?_
  refine Ru 2 rfl ?_
  refine JL.nil ?_
  refine Cs rfl (fun hc10 => ?_) fun hc10 => ?_
  ·
   refine Sr ?_
   refine Ru 1 rfl ?_
   refine JL.op ai_ rfl ?_
   refine Ru 1 rfl ?_
   refine Nk [4] rfl ?_
   exact J.retP (RetV.one rfl rfl) z21_ rfl
  refine Sr ?_
  refine Ru 2 rfl ?_
  refine Nk [24, 19, 5, 4] rfl ?_
  refine Cs rfl (fun hc11 => ?_) fun hc11 => ?_
  ·
   refine Sr ?_
   refine Ru 1 rfl ?_
   refine JL.op ai_ rfl ?_
   refine Ru 1 rfl ?_
   refine Nk [4] rfl ?_
   exact J.retP (RetV.one rfl rfl) z21_ rfl
  refine J.seq ?_
  refine Sr ?_
  refine Ru 2 rfl ?_
  refine JL.nil ?_
  refine Cs rfl (fun hc12 => ?_) fun hc12 => ?_
  ·
   refine J.skip ?_
   refine Kp [28, 4] rfl ?_
   refine J.cond_t rfl ?_
   refine Sr ?_
   refine Ru 1 rfl ?_
   refine JL.nil ?_
   exact J.retP (RetV.one rfl rfl) z21_ rfl
  refine Sr ?_
  refine Ru 2 rfl ?_
  refine Nk [28, 19, 4] rfl ?_
  refine Cs rfl (fun hc13 => ?_) fun hc13 => ?_
  ·
   refine J.skip ?_
   refine J.cond_t rfl ?_
   refine Sr ?_
   refine Ru 1 rfl ?_
   refine JL.nil ?_
   exact J.retP (RetV.one rfl rfl) z21_ rfl
  refine Sr ?_
  refine Ru 2 rfl ?_
  refine JL.nil ?_
  refine Cs rfl (fun hc14 => ?_) fun hc14 => ?_
  ·
   refine J.skip ?_
   refine Kp [28, 4] rfl ?_
   refine J.cond_t rfl ?_
   refine Sr ?_
   refine Ru 1 rfl ?_
   refine JL.nil ?_
   exact J.retP (RetV.one rfl rfl) z21_ rfl
  refine Rg ?_
  refine Ru 2 rfl ?_
  refine Nk [28, 4] rfl ?_
  refine Cs rfl (fun hc15 => ?_) fun hc15 => ?_
  ·
   refine Sr ?_
   refine Ru 1 rfl ?_
   refine JL.nil ?_
   exact J.retP (RetV.one rfl rfl) z21_ rfl
  refine J.skip ?_
  refine Sr ?_
  refine Ru 1 rfl ?_
  refine JL.nil ?_
  exact J.retP (RetV.one rfl rfl) z21_ rfl
theorem daysI_bd (y m : Int) : 28 ≤ daysI y m ∧ daysI y m ≤ 366 := by
  have := monthI_bd y m
  unfold daysI; (repeat' split) <;> omega
def partI (s : List UInt8) : Int := if s.all dig then numV s else -1
theorem part_fn (s : List UInt8) (h : Part) (hl : s.length ≤ 18) : Pure Tryz.prog 162 [.string ⟨s.toArray⟩] h (.int .i64 (partI s)) := by
  refine Fn.intro Tryz.func162 rfl Tryz.ntmps162 rfl (fun e he => ?_)
  refine J.weak [(0, _)] ⟨rfl, trivial⟩ ?_
  refine Sr ?_
  refine Ru 1 rfl ?_
  refine JL.nil ?_
  refine Sr ?_
  refine Ru 1 rfl ?_
  refine JL.nil ?_
  refine J.seq ?_
  refine Sr ?_
  refine Ru 1 rfl ?_
  refine JL.nil ?_
  refine J.block ?_
  refine J.loop (fun t_ S_ h_ L_ => ∃ (i : Nat), t_ = s.length - i ∧ S_ = [(0, .string ⟨s.toArray⟩), (3, .int .i64 (numV (s.take i) : Nat)), (4, .int .i64 i)] ∧ h = h_ ∧ L_ = [] ∧ (i ≤ s.length ∧ (s.take i).all dig = true ∧ numV (s.take i) < 10 ^ i)) ⟨_, _, ?_, ⟨0, rfl, rfl, rfl, rfl, ⟨by omega, by simp, by simp [numV]⟩⟩⟩ ?_
  ·
   exact z47_
  rintro _ _ _ _ ⟨i, rfl, rfl, rfl, rfl, hi, hd, hv⟩
  refine J.seq ?_
  refine Sr ?_
  refine Ru 2 rfl ?_
  refine JL.op (RunV.lenS un_9 rfl) rfl ?_
  refine Ru 1 rfl ?_
  refine JL.nil ?_
  refine Cs rfl (fun hc1 => ?_) fun hc1 => ?_
  ·
   have hi' : i < s.length := (by omega); have hst := numV_take s i hi'; have hat := all_take s i hi'; have hp : 10 ^ i ≤ 100000000000000000 := Nat.le_trans (Nat.pow_le_pow_right (by decide) (show i ≤ 17 by omega)) (by decide); have hbl := byteAt_lt s i; have hbi : byteAt s i = (s.getD i 0).toNat := rfl
   refine J.skip ?_
   refine J.seq ?_
   refine J.block ?_
   refine J.seq ?_
   refine Sr ?_
   refine Ru 2 rfl ?_
   refine JL.op (RunV.strIndex (m := i) un_9 rfl rfl (by omega) (by omega)) rfl ?_
   refine JL.op z17_ rfl ?_
   refine JL.callP ca_161 rfl (between_fn _ _ _ _) rfl ?_
   refine Ru 1 rfl ?_
   refine JL.nil ?_
   refine Cs rfl (fun hc3 => ?_) fun hc3 => ?_
   ·
    have hnr : partI s = -1 := (by have hb : s.all dig = false := (by rw [List.all_eq_false]; exact ⟨s[i], List.getElem_mem _, by have e := byteAt_eq s i hi'; unfold dig; rw [decide_eq_false (by omega)]; decide⟩); unfold partI; rw [hb]; rfl)
    refine Sr ?_
    refine Ru 1 rfl ?_
    refine JL.nil ?_
    exact J.retP (RetV.one rfl rfl) (by rw [hnr]) rfl
   refine J.skip ?_
   refine Rg ?_
   refine Ru 1 rfl ?_
   refine JL.op z10_ rfl ?_
   refine Ru 2 rfl ?_
   refine JL.op (RunV.strIndex (m := i) un_9 rfl rfl (by omega) (by omega)) rfl ?_
   refine JL.op (by first | exact RunV.sub_u8 rfl rfl (by omega) (by omega) | exact RunV.sub rfl rfl) rfl ?_
   refine JL.op z17_ rfl ?_
   refine JL.op ai_ rfl ?_
   refine Ru 1 rfl ?_
   refine JL.nil ?_
   refine Rg ?_
   refine Ru 1 rfl ?_
   refine JL.op ai_ rfl ?_
   refine Ru 1 rfl ?_
   refine JL.nil ?_
   refine ⟨_, ?_, _, ?_, ⟨i + 1, rfl, rfl, rfl, rfl, ⟨by omega, by rw [hat, hd, decide_eq_true (by omega)]; rfl, by rw [hst, Nat.pow_succ]; omega⟩⟩⟩
   ·
    omega
   exact z47_
  have hie : s.take i = s := List.take_of_length_le (by omega); rw [hie] at hd hv ⊢; have hnr : partI s = numV s := if_pos hd
  refine J.exit ?_
  refine Kp [3] rfl ?_
  refine Sr ?_
  refine Ru 2 rfl ?_
  refine JL.nil ?_
  exact J.retP (RetV.one rfl rfl) (by rw [hnr]) rfl
theorem byteAt_cut (s : List UInt8) (i n j : Nat) (h : j < n) : byteAt ((s.drop i).take n) j = byteAt s (i + j) := by
  unfold byteAt
  simp only [List.getD_eq_getElem?_getD]
  rw [List.getElem?_take, if_pos h, List.getElem?_drop]
theorem part2 (l : List UInt8) (h : l.length = 2) : partI l = if 48 ≤ byteAt l 0 ∧ byteAt l 0 ≤ 57 ∧ 48 ≤ byteAt l 1 ∧ byteAt l 1 ≤ 57 then (byteAt l 0 - 48 : Int) * 10 + (byteAt l 1 - 48) else -1 := by
  match l, h with
  | [a, b], _ =>
    have ha : byteAt [a, b] 0 = a.toNat := rfl
    have hb : byteAt [a, b] 1 = b.toNat := rfl
    rw [ha, hb]
    unfold partI numV dig
    simp only [List.all_cons, List.all_nil, Bool.and_true, List.foldl_cons, List.foldl_nil, Bool.and_eq_true, decide_eq_true_eq]
    split
    · rw [if_pos (by omega)]; omega
    · rw [if_neg (by omega)]
theorem part4 (l : List UInt8) (h : l.length = 4) : partI l = if (48 ≤ byteAt l 0 ∧ byteAt l 0 ≤ 57 ∧ 48 ≤ byteAt l 1 ∧ byteAt l 1 ≤ 57) ∧ 48 ≤ byteAt l 2 ∧ byteAt l 2 ≤ 57 ∧ 48 ≤ byteAt l 3 ∧ byteAt l 3 ≤ 57 then ((byteAt l 0 - 48 : Int) * 10 + (byteAt l 1 - 48)) * 100 + ((byteAt l 2 - 48 : Int) * 10 + (byteAt l 3 - 48)) else -1 := by
  match l, h with
  | [a, b, c, d], _ =>
    have ha : byteAt [a, b, c, d] 0 = a.toNat := rfl
    have hb : byteAt [a, b, c, d] 1 = b.toNat := rfl
    have hc : byteAt [a, b, c, d] 2 = c.toNat := rfl
    have hd : byteAt [a, b, c, d] 3 = d.toNat := rfl
    rw [ha, hb, hc, hd]
    unfold partI numV dig
    simp only [List.all_cons, List.all_nil, Bool.and_true, List.foldl_cons, List.foldl_nil, Bool.and_eq_true, decide_eq_true_eq]
    split
    · rw [if_pos (by omega)]; omega
    · rw [if_neg (by omega)]
theorem part_two (s : List UInt8) (i : Nat) (h : i + 1 < s.length) : partI ((s.drop i).take 2) = if 0 ≤ twoI s i then twoI s i else -1 := by
  rw [part2 _ (by simp; omega), byteAt_cut s i 2 0 (by decide), byteAt_cut s i 2 1 (by decide)]
  unfold twoI
  rw [Nat.add_zero]
  (repeat' split) <;> omega
theorem part_four (s : List UInt8) (h : 4 ≤ s.length) : (partI (s.take 4) = twoI s 0 * 100 + twoI s 2 ∧ 0 ≤ twoI s 0 * 100 + twoI s 2 ∧ twoI s 0 * 100 + twoI s 2 ≤ 9999) ∨ partI (s.take 4) = -1 ∧ twoI s 0 * 100 + twoI s 2 < 0 := by
  have e := part4 (s.take 4) (by simp; omega)
  have hb := fun j hj => byteAt_cut s 0 4 j hj
  rw [List.drop_zero] at hb
  rw [hb 0 (by decide), hb 1 (by decide), hb 2 (by decide), hb 3 (by decide)] at e
  simp only [Nat.zero_add] at e
  have h2 := twoI_bd s 0; have h3 := twoI_bd s 2
  unfold twoI at *
  rw [e]
  simp only [Nat.zero_add, Nat.reduceAdd] at *
  (repeat' split) <;> omega
def atOk (y m d hh mi s : Int) : Prop := 0 ≤ y ∧ y ≤ 9999 ∧ 1 ≤ m ∧ m ≤ 12 ∧ 1 ≤ d ∧ d ≤ monthI y m ∧ 0 ≤ hh ∧ hh ≤ 23 ∧ 0 ≤ mi ∧ mi ≤ 59 ∧ 0 ≤ s ∧ s ≤ 59
instance (y m d hh mi s : Int) : Decidable (atOk y m d hh mi s) := by unfold atOk; infer_instance
def atT (y m d hh mi s : Int) : Int := -62167219200 + (beforeI y + (d - 1) + mdays y (m.toNat - 1)) * 86400 + (hh * 3600 + mi * 60 + s)
theorem bef_400 (y : Int) (h : 0 ≤ y) : beforeI (y + 400) = beforeI y + 146097 := by unfold beforeI; (repeat' split) <;> omega
theorem bef_1 (y : Int) (h : 0 ≤ y) : beforeI (y + 1) = beforeI y + daysI y 0 := by
  have := leapB_iff y
  unfold beforeI daysI
  rw [if_pos rfl, this]
  simp only [decide_eq_true_eq]
  (repeat' split) <;> omega
theorem at_fn (y m d hh mi s : Int) (h : Part) : Pure Tryz.prog 172 [.int .i64 y, .int .i64 m, .int .i64 d, .int .i64 hh, .int .i64 mi, .int .i64 s] h (.tuple #[.int .i64 (if atOk y m d hh mi s then atT y m d hh mi s else 0), .bool (decide (atOk y m d hh mi s))]) := by
  have hmb := monthI_bd y m
  have hdm : 1 ≤ m → daysI y m = monthI y m := fun hm => if_neg (by omega)
  refine Fn.intro Tryz.func172 rfl Tryz.ntmps172 rfl (fun e he => ?_)
  refine J.weak [(0, _), (1, _), (2, _), (3, _), (4, _), (5, _)] ⟨rfl, rfl, rfl, rfl, rfl, rfl, trivial⟩ ?_
  refine Sr ?_
  refine Ru 2 rfl ?_
  refine JL.nil ?_
  refine J.seq ?_
  refine J.seq ?_
  refine J.meet [(50, .bool (decide (¬ atOk y m d hh mi s)))] [(13, _), (12, _), (0, _), (1, _), (2, _), (3, _), (4, _), (5, _)] ⟨rfl, rfl, rfl, rfl, rfl, rfl, rfl, rfl, trivial⟩ ?_ ?_
  ·
   refine Rg ?_
   refine Ru 1 rfl ?_
   refine JL.callP ca_161 rfl (between_fn _ _ _ _) rfl ?_
   refine Ru 2 rfl ?_
   refine Bs 20 rfl (fun hc2 => ?_) fun hc2 => ?_
   ·
    refine Ru 30 rfl ?_
    refine JL.nil ?_
    refine ⟨rfl, rfl, ?_⟩
    exact z15_
   refine Ru 1 rfl ?_
   refine JL.callPg rfl rfl  ca_161 rfl (between_fn _ _ _ _) rfl ?_
   refine Ru 3 rfl ?_
   refine Bs 25 rfl (fun hc4 => ?_) fun hc4 => ?_
   ·
    refine Ru 25 rfl ?_
    refine JL.nil ?_
    refine ⟨rfl, rfl, ?_⟩
    exact z15_
   refine Ru 4 rfl ?_
   refine Bs 29 rfl (fun hc5 => ?_) fun hc5 => ?_
   ·
    refine Ru 21 rfl ?_
    refine JL.nil ?_
    refine ⟨rfl, rfl, ?_⟩
    exact z15_
   refine Ru 3 rfl ?_
   refine JL.callPg rfl rfl  ca_177 rfl (days_fn _ _ _ (by omega)) rfl ?_
   refine Ru 3 rfl ?_
   refine Bs 36 rfl (fun hc7 => ?_) fun hc7 => ?_
   ·
    refine Ru 14 rfl ?_
    refine JL.nil ?_
    refine ⟨rfl, rfl, ?_⟩
    exact z15_
   refine Ru 1 rfl ?_
   refine JL.callPg rfl rfl  ca_161 rfl (between_fn _ _ _ _) rfl ?_
   refine Ru 3 rfl ?_
   refine Bs 41 rfl (fun hc9 => ?_) fun hc9 => ?_
   ·
    refine Ru 9 rfl ?_
    refine JL.nil ?_
    refine ⟨rfl, rfl, ?_⟩
    exact z15_
   refine Ru 1 rfl ?_
   refine JL.callPg rfl rfl  ca_161 rfl (between_fn _ _ _ _) rfl ?_
   refine Ru 3 rfl ?_
   refine Bs 46 rfl (fun hc11 => ?_) fun hc11 => ?_
   ·
    refine Ru 4 rfl ?_
    refine JL.nil ?_
    refine ⟨rfl, rfl, ?_⟩
    exact z15_
   refine Ru 1 rfl ?_
   refine JL.callPg rfl rfl  ca_161 rfl (between_fn _ _ _ _) rfl ?_
   refine Ru 2 rfl ?_
   refine JL.nil ?_
   refine ⟨rfl, rfl, ?_⟩
   exact z15_
  refine Cs rfl (fun hc13 => ?_) fun hc13 => ?_
  ·
   have hff := hc13
   refine Sr ?_
   refine Ru 2 rfl ?_
   refine JL.nil ?_
   exact J.retP (RetV.two rfl rfl rfl) (by rw [if_neg hff, decide_eq_false hff]) rfl
  have hok : atOk y m d hh mi s := (by first | exact hc13 | exact Classical.not_not.1 hc13); obtain ⟨y0, y1, m0, m1, d0, d1, h0, h1, mi0, mi1, s0, s1⟩ := hok
  refine J.skip ?_
  refine Sr ?_
  refine Ru 1 rfl ?_
  refine JL.op si_ rfl ?_
  refine Ru 1 rfl ?_
  refine Nk [14, 13, 12, 0, 1, 3, 4, 5] rfl ?_
  refine J.seq ?_
  refine Sr ?_
  refine Ru 1 rfl ?_
  refine JL.nil ?_
  refine J.block ?_
  refine J.loop (fun t_ S_ h_ L_ => ∃ (k : Nat), t_ = 13 - k ∧ S_ = [(0, .int .i64 y), (1, .int .i64 m), (3, .int .i64 hh), (4, .int .i64 mi), (5, .int .i64 s), (14, .int .i64 (d - 1 + mdays y k)), (15, .int .i64 (k + 1 : Nat))] ∧ h = h_ ∧ L_ = [] ∧ (k < m)) ⟨_, _, ?_, ⟨0, rfl, rfl, rfl, rfl, by omega⟩⟩ ?_
  ·
   repeat (first | exact trivial | refine ⟨rfl, ?_⟩ | refine ⟨(by exact some_int (by first | (simp only [mdays]; omega) | (simp only [mdays]; simp; done) | (simp [mdays] <;> omega))), ?_⟩)
  rintro _ _ _ _ ⟨k, rfl, rfl, rfl, rfl, hk⟩
  have hmd := mdays_bd y k; have hmb2 := monthI_bd y ((k : Int) + 1); have hdk : daysI y ((k + 1 : Nat) : Int) = monthI y ((k : Int) + 1) := (by rw [show ((k + 1 : Nat) : Int) = (k : Int) + 1 by omega]; exact if_neg (by omega))
  refine J.seq ?_
  refine Sr ?_
  refine Ru 3 rfl ?_
  refine JL.nil ?_
  refine Cs rfl (fun hc14 => ?_) fun hc14 => ?_
  ·
   refine J.skip ?_
   refine J.seq ?_
   refine J.block ?_
   refine Rg ?_
   refine Ru 3 rfl ?_
   refine JL.callP ca_177 rfl (days_fn _ _ _ (by omega)) rfl ?_
   refine JL.op ai_ rfl ?_
   refine Ru 1 rfl ?_
   refine JL.nil ?_
   refine Rg ?_
   refine Ru 1 rfl ?_
   refine JL.op ai_ rfl ?_
   refine Ru 1 rfl ?_
   refine JL.nil ?_
   refine ⟨_, ?_, _, ?_, ⟨k + 1, rfl, rfl, rfl, rfl, by omega⟩⟩
   ·
    omega
   repeat (first | exact trivial | refine ⟨rfl, ?_⟩ | refine ⟨(by exact some_int (by first | (simp only [mdays]; omega) | (simp only [mdays]; simp; done) | (simp [mdays] <;> omega))), ?_⟩)
  have hkm : k = m.toNat - 1 := (by omega); rw [hkm] at *; have hmd2 := mdays_bd y (m.toNat - 1)
  refine J.exit ?_
  refine Kp [0, 3, 4, 5, 14] rfl ?_
  refine J.seq ?_
  refine J.block ?_
  refine J.loop (fun t_ S_ h_ L_ => ∃ (q : Nat), t_ = 26 - q ∧ S_ = [(0, .int .i64 (y - 400 * q)), (3, .int .i64 hh), (4, .int .i64 mi), (5, .int .i64 s), (14, .int .i64 (d - 1 + mdays y (m.toNat - 1) + 146097 * q))] ∧ h = h_ ∧ L_ = [] ∧ (400 * q ≤ y ∧ beforeI y = beforeI (y - 400 * q) + 146097 * q)) ⟨_, _, ?_, ⟨0, rfl, rfl, rfl, rfl, ⟨by omega, by simp⟩⟩⟩ ?_
  ·
   exact z2_
  rintro _ _ _ _ ⟨q, rfl, rfl, rfl, rfl, hq, hbq⟩
  refine J.seq ?_
  refine Sr ?_
  refine Ru 2 rfl ?_
  refine JL.nil ?_
  refine Cs rfl (fun hc16 => ?_) fun hc16 => ?_
  ·
   refine J.skip ?_
   refine J.block ?_
   refine Sr ?_
   refine Ru 1 rfl ?_
   refine JL.op si_ rfl ?_
   refine Ru 1 rfl ?_
   refine JL.nil ?_
   refine Rg ?_
   refine Ru 1 rfl ?_
   refine JL.op ai_ rfl ?_
   refine Ru 1 rfl ?_
   refine JL.nil ?_
   refine ⟨_, ?_, _, ?_, ⟨q + 1, rfl, rfl, rfl, rfl, ⟨by omega, by rw [hbq]; have := bef_400 (y - 400 * (q + 1 : Nat)) (by omega); rw [show y - 400 * (q + 1 : Nat) + 400 = y - 400 * q by omega] at this; omega⟩⟩⟩
   ·
    omega
   exact z2_
  refine J.exit ?_
  refine J.seq ?_
  refine Sr ?_
  refine Ru 1 rfl ?_
  refine JL.nil ?_
  refine J.block ?_
  refine J.loop (fun t_ S_ h_ L_ => ∃ (z : Nat), t_ = 400 - z ∧ S_ = [(0, .int .i64 (y - 400 * q)), (3, .int .i64 hh), (4, .int .i64 mi), (5, .int .i64 s), (14, .int .i64 (d - 1 + mdays y (m.toNat - 1) + 146097 * q + beforeI z)), (16, .int .i64 z)] ∧ h = h_ ∧ L_ = [] ∧ (z ≤ y - 400 * q)) ⟨_, _, ?_, ⟨0, rfl, rfl, rfl, rfl, by omega⟩⟩ ?_
  ·
   repeat (first | exact trivial | refine ⟨rfl, ?_⟩ | refine ⟨(by exact some_int (by first | omega | (have := bef_1 z (by omega); rw [show ((z : Int) + 1) = (z + 1 : Nat) by omega] at this; omega) | (simp [beforeI]; done))), ?_⟩)
  rintro _ _ _ _ ⟨z, rfl, rfl, rfl, rfl, hz⟩
  have hbb := beforeI_bd z (by omega) (by omega); have hdb := daysI_bd z 0
  refine J.seq ?_
  refine Sr ?_
  refine Ru 3 rfl ?_
  refine JL.nil ?_
  refine Cs rfl (fun hc17 => ?_) fun hc17 => ?_
  ·
   refine J.skip ?_
   refine J.seq ?_
   refine J.block ?_
   refine Rg ?_
   refine Ru 2 rfl ?_
   refine JL.callP ca_177 rfl (days_fn _ _ _ (by omega)) rfl ?_
   refine JL.op ai_ rfl ?_
   refine Ru 1 rfl ?_
   refine JL.nil ?_
   refine Rg ?_
   refine Ru 1 rfl ?_
   refine JL.op ai_ rfl ?_
   refine Ru 1 rfl ?_
   refine JL.nil ?_
   refine ⟨_, ?_, _, ?_, ⟨z + 1, rfl, rfl, rfl, rfl, by omega⟩⟩
   ·
    omega
   repeat (first | exact trivial | refine ⟨rfl, ?_⟩ | refine ⟨(by exact some_int (by first | omega | (have := bef_1 z (by omega); rw [show ((z : Int) + 1) = (z + 1 : Nat) by omega] at this; omega) | (simp [beforeI]; done))), ?_⟩)
  have hzy : (z : Int) = y - 400 * q := (by omega); have hbz : beforeI y = beforeI z + 146097 * q := (by rw [hzy]; exact hbq)
  refine J.exit ?_
  refine Kp [3, 4, 5, 14] rfl ?_
  refine Sr ?_
  refine Ru 1 rfl ?_
  refine JL.op z10_ rfl ?_
  refine JL.op ai_ rfl ?_
  refine Ru 1 rfl ?_
  refine JL.op z10_ rfl ?_
  refine Ru 1 rfl ?_
  refine JL.op z10_ rfl ?_
  refine JL.op ai_ rfl ?_
  refine Ru 1 rfl ?_
  refine JL.op ai_ rfl ?_
  refine JL.op ai_ rfl ?_
  refine Ru 2 rfl ?_
  refine Nk [13, 12] rfl ?_
  exact J.retP (RetV.two rfl rfl rfl) (by rw [if_pos ⟨y0, y1, m0, m1, d0, d1, h0, h1, mi0, mi1, s0, s1⟩, decide_eq_true ⟨y0, y1, m0, m1, d0, d1, h0, h1, mi0, mi1, s0, s1⟩]; unfold atT; congr 3; congr 1; congr 1; omega) rfl
theorem momOk_at (y : Int) (s : List UInt8) (h : s.length = 10) (hy : y ≤ 9999) : momOk y s = decide (atOk y (partI ((s.drop 0).take 2)) (partI ((s.drop 2).take 2)) (partI ((s.drop 4).take 2)) (partI ((s.drop 6).take 2)) (partI ((s.drop 8).take 2))) ∧
    (momOk y s = true → momT y s = atT y (partI ((s.drop 0).take 2)) (partI ((s.drop 2).take 2)) (partI ((s.drop 4).take 2)) (partI ((s.drop 6).take 2)) (partI ((s.drop 8).take 2))) := by
  rw [part_two s 0 (by omega), part_two s 2 (by omega), part_two s 4 (by omega), part_two s 6 (by omega), part_two s 8 (by omega)]
  have w0 := twoI_bd s 0; have w2 := twoI_bd s 2; have w4 := twoI_bd s 4; have w6 := twoI_bd s 6; have w8 := twoI_bd s 8
  by_cases c0 : 0 ≤ twoI s 0
  · by_cases c2 : 0 ≤ twoI s 2
    · by_cases c4 : 0 ≤ twoI s 4
      · by_cases c6 : 0 ≤ twoI s 6
        · by_cases c8 : 0 ≤ twoI s 8
          · rw [if_pos c0, if_pos c2, if_pos c4, if_pos c6, if_pos c8]
            refine ⟨?_, fun _ => rfl⟩
            unfold momOk atOk
            exact decide_eq_decide.2 (by omega)
          · have hf : momOk y s = false := decide_eq_false (by omega)
            rw [hf, if_neg c8]
            exact ⟨(decide_eq_false (by unfold atOk; omega)).symm, fun h => by cases h⟩
        · have hf : momOk y s = false := decide_eq_false (by omega)
          rw [hf, if_neg c6]
          exact ⟨(decide_eq_false (by unfold atOk; omega)).symm, fun h => by cases h⟩
      · have hf : momOk y s = false := decide_eq_false (by omega)
        rw [hf, if_neg c4]
        exact ⟨(decide_eq_false (by unfold atOk; omega)).symm, fun h => by cases h⟩
    · have hf : momOk y s = false := decide_eq_false (by omega)
      rw [hf, if_neg c2]
      exact ⟨(decide_eq_false (by unfold atOk; omega)).symm, fun h => by cases h⟩
  · have hf : momOk y s = false := decide_eq_false (by omega)
    rw [hf, if_neg c0]
    exact ⟨(decide_eq_false (by unfold atOk; omega)).symm, fun h => by cases h⟩
theorem of_fn (y : Int) (s : List UInt8) (h : Part) (hl : s.length = 10) (hy : y ≤ 9999) : Pure Tryz.prog 163 [.int .i64 y, .string ⟨s.toArray⟩] h (.tuple #[.int .i64 (momV y s), .bool (momOk y s)]) := by
  obtain ⟨hm1, hm2⟩ := momOk_at y s hl hy
  refine Fn.intro Tryz.func163 rfl Tryz.ntmps163 rfl (fun e he => ?_)
  refine J.weak [(0, _), (1, _)] ⟨rfl, rfl, trivial⟩ ?_
  refine Sr ?_
  refine Ru 2 rfl ?_
  refine JL.nil ?_
  refine J.seq ?_
  refine J.drawn mixed_ (by kernel_rfl) ?_
  refine Rq 2 rfl ?_
  refine JQ.op (RunV.strCut_lh un_9 rfl rfl rfl (show _ = ((0 : Nat) : Int) from rfl) (show _ = ((2 : Nat) : Int) from rfl) (by omega) (by omega)) rfl ?_
  refine JQ.callP ca_162 rfl (part_fn _ _ z39_) rfl ?_
  refine Rq 1 rfl ?_
  refine JQ.op (RunV.strCut_lh un_9 rfl rfl rfl (show _ = ((2 : Nat) : Int) from rfl) (show _ = ((4 : Nat) : Int) from rfl) (by omega) (by omega)) rfl ?_
  refine JQ.callP ca_162 rfl (part_fn _ _ z39_) rfl ?_
  refine Rq 1 rfl ?_
  refine JQ.op (RunV.strCut_lh un_9 rfl rfl rfl (show _ = ((4 : Nat) : Int) from rfl) (show _ = ((6 : Nat) : Int) from rfl) (by omega) (by omega)) rfl ?_
  refine JQ.callP ca_162 rfl (part_fn _ _ z39_) rfl ?_
  refine Rq 1 rfl ?_
  refine JQ.op (RunV.strCut_lh un_9 rfl rfl rfl (show _ = ((6 : Nat) : Int) from rfl) (show _ = ((8 : Nat) : Int) from rfl) (by omega) (by omega)) rfl ?_
  refine JQ.callP ca_162 rfl (part_fn _ _ z39_) rfl ?_
  refine Rq 1 rfl ?_
  refine JQ.op (RunV.strCut_lh un_9 rfl rfl rfl (show _ = ((8 : Nat) : Int) from rfl) (show _ = ((10 : Nat) : Int) from rfl) (by omega) (by omega)) rfl ?_
  refine JQ.callP ca_162 rfl (part_fn _ _ z39_) rfl ?_
  refine JQ.callP ca_172 rfl (at_fn _ _ _ _ _ _ _) rfl ?_
  refine Rq 4 rfl ?_
  refine Nq [5, 4] rfl ?_
  exact J.retP (RetV.two rfl rfl rfl) (by rw [momV, hm1]; rw [hm1] at hm2; split; (rename_i hz; rw [if_pos (by simpa using hz), hm2 (by simpa using hz)]); (rename_i hz; rw [if_neg (by simpa using hz)])) rfl
theorem rpshort_fn (s : List UInt8) (h : Part) (h2 : s.length ≤ 140737488355328) : Pure Tryz.prog 139 [.string ⟨s.toArray⟩] h (.tuple #[.int .i64 (psT s), .int .i64 (if psOk s then 0 else 21)]) := by
  have w0 := twoI_bd s 0
  have hp2 : 2 ≤ s.length → (0 ≤ twoI s 0 ∧ partI (s.take 2) = twoI s 0) ∨ (twoI s 0 < 0 ∧ partI (s.take 2) = -1) := fun hh => by
    have := part_two s 0 (by omega)
    rw [List.drop_zero] at this
    split at this <;> omega
  refine Fn.intro Tryz.func139 rfl Tryz.ntmps139 rfl (fun e he => ?_)
  refine J.weak [(0, _)] ⟨rfl, trivial⟩ ?_
  refine Sr ?_
  refine Ru 2 rfl ?_
  refine JL.nil ?_
  refine J.seq ?_
  refine J.seq ?_
  refine J.meet [(20, .bool (decide (¬ (s.length = 13 ∧ byteAt s 12 = 90 ∧ 0 ≤ twoI s 0))))] [(3, _), (2, _), (0, _)] ⟨rfl, rfl, rfl, trivial⟩ ?_ ?_
  ·
   refine Rg ?_
   refine Ru 1 rfl ?_
   refine JL.op (RunV.lenS un_9 rfl) rfl ?_
   refine Ru 2 rfl ?_
   refine Bs 10 rfl (fun hc1 => ?_) fun hc1 => ?_
   ·
    refine Ru 10 rfl ?_
    refine JL.nil ?_
    refine ⟨rfl, rfl, ?_⟩
    exact z6_
   refine Ru 1 rfl ?_
   refine JL.opg rfl rfl  (RunV.strIndex (m := 12) un_9 rfl rfl rfl (by omega)) rfl ?_
   refine Ru 3 rfl ?_
   refine Bs 15 rfl (fun hc2 => ?_) fun hc2 => ?_
   ·
    refine Ru 5 rfl ?_
    refine JL.nil ?_
    refine ⟨rfl, rfl, ?_⟩
    exact z6_
   refine Ru 1 rfl ?_
   refine JL.opg rfl rfl  (RunV.strCut_h un_9 rfl rfl (show _ = ((2 : Nat) : Int) from rfl) (by omega)) rfl ?_
   refine JL.callPg rfl rfl  ca_162 rfl (part_fn _ _ z39_) rfl ?_
   refine Ru 2 rfl ?_
   refine JL.nil ?_
   refine ⟨rfl, rfl, ?_⟩
   exact z6_
  refine Cs rfl (fun hc4 => ?_) fun hc4 => ?_
  ·
   have hm : psOk s = false := (by unfold psOk; by_cases hz : s.length = 13 ∧ byteAt s 12 = 90; (have hy : psY s = twoI s 0 := if_neg (by omega)); rw [hy, show momOk (twoI s 0) ((s.drop 2).take 10) = false from decide_eq_false (by omega), Bool.and_false]; rw [decide_eq_false hz, Bool.false_and])
   refine Sr ?_
   refine Ru 2 rfl ?_
   refine JL.nil ?_
   exact J.retP (RetV.two rfl rfl rfl) (by rw [psT, hm]; rfl) rfl
  obtain ⟨hl13, hz90, htw⟩ : s.length = 13 ∧ byteAt s 12 = 90 ∧ 0 ≤ twoI s 0 := (by omega); have hp3 : partI (s.take 2) = twoI s 0 := (by omega)
  refine J.skip ?_
  refine Sr ?_
  refine Ru 1 rfl ?_
  refine JL.op (RunV.strCut_h un_9 rfl rfl (show _ = ((2 : Nat) : Int) from rfl) (by omega)) rfl ?_
  refine JL.callP ca_162 rfl (part_fn _ _ z39_) rfl ?_
  rw [hp3]
  refine JL.op ai_ rfl ?_
  refine Ru 1 rfl ?_
  refine Nk [4, 3, 2, 0] rfl ?_
  refine J.seq ?_
  refine Sr ?_
  refine Ru 2 rfl ?_
  refine JL.nil ?_
  refine Cs rfl (fun hc6 => ?_) fun hc6 => ?_
  ·
   have hy : psY s = twoI s 0 + 1900 + 100 := (by unfold psY; rw [if_pos (by omega), if_pos (by omega)])
   refine Rg ?_
   refine Ru 1 rfl ?_
   refine JL.op ai_ rfl ?_
   refine Ru 1 rfl ?_
   refine Nk [4, 3, 2, 0] rfl ?_
   refine Sr ?_
   rw [show 1900 + twoI s 0 = twoI s 0 + 1900 by omega]; rw [← hy]; have hps : psOk s = momOk (psY s) ((s.drop 2).take 10) := (by unfold psOk; rw [decide_eq_true ⟨hl13, hz90⟩, Bool.true_and])
   refine Ru 2 rfl ?_
   refine JL.op (RunV.strCut_lh un_9 rfl rfl rfl (show _ = ((2 : Nat) : Int) from rfl) (show _ = ((12 : Nat) : Int) from rfl) (by omega) (by omega)) rfl ?_
   refine JL.callP ca_163 rfl (of_fn _ _ _ z39_ (by omega)) rfl ?_
   refine Ru 5 rfl ?_
   refine Nk [6, 5, 3, 2] rfl ?_
   refine J.seq ?_
   refine Sr ?_
   refine Ru 2 rfl ?_
   refine JL.nil ?_
   refine Cs rfl (fun hc8 => ?_) fun hc8 => ?_
   ·
    refine Sr ?_
    refine Ru 2 rfl ?_
    refine Nk [3, 2, 5] rfl ?_
    exact J.retP (RetV.two rfl rfl rfl) (by rw [psT, hps, hc8]; rfl) rfl
   refine J.skip ?_
   refine Sr ?_
   refine Ru 3 rfl ?_
   refine Nk [3, 2] rfl ?_
   exact J.retP (RetV.two rfl rfl rfl) (by simp [psT, hps, momV, hc8]) rfl
  have hy : psY s = twoI s 0 + 1900 := (by unfold psY; rw [if_pos (by omega), if_neg (by omega)])
  refine J.skip ?_
  refine Sr ?_
  rw [show 1900 + twoI s 0 = twoI s 0 + 1900 by omega]; rw [← hy]; have hps : psOk s = momOk (psY s) ((s.drop 2).take 10) := (by unfold psOk; rw [decide_eq_true ⟨hl13, hz90⟩, Bool.true_and])
  refine Ru 2 rfl ?_
  refine JL.op (RunV.strCut_lh un_9 rfl rfl rfl (show _ = ((2 : Nat) : Int) from rfl) (show _ = ((12 : Nat) : Int) from rfl) (by omega) (by omega)) rfl ?_
  refine JL.callP ca_163 rfl (of_fn _ _ _ z39_ (by omega)) rfl ?_
  refine Ru 5 rfl ?_
  refine Nk [6, 5, 3, 2] rfl ?_
  refine J.seq ?_
  refine Sr ?_
  refine Ru 2 rfl ?_
  refine JL.nil ?_
  refine Cs rfl (fun hc10 => ?_) fun hc10 => ?_
  ·
   refine Sr ?_
   refine Ru 2 rfl ?_
   refine Nk [3, 2, 5] rfl ?_
   exact J.retP (RetV.two rfl rfl rfl) (by simp [psT, hps, momV, hc10]) rfl
  refine J.skip ?_
  refine Sr ?_
  refine Ru 3 rfl ?_
  refine Nk [3, 2] rfl ?_
  exact J.retP (RetV.two rfl rfl rfl) (by simp [psT, hps, momV, hc10]) rfl
theorem mic_take (s g : List UInt8) (hg : g.length = 6) (hb : ∀ k, k < 6 → byteAt g k = if 15 + k + 1 < s.length then byteAt s (15 + k) else 48) : ∀ k, k ≤ 6 → (g.take k).all dig = micOk s k ∧ (micOk s k = true → (numV (g.take k) : Int) = micI s k)
  | 0, _ => by simp [micOk, micI, numV]
  | k + 1, hk => by
    obtain ⟨i1, i2⟩ := mic_take s g hg hb k (by omega)
    have hbk := hb k (by omega)
    rw [all_take g k (by omega), numV_take g k (by omega), i1]
    simp only [micOk, micI]
    by_cases hh : 15 + k + 1 < s.length
    · rw [if_pos hh, if_pos hh]
      rw [if_pos hh] at hbk
      rw [hbk]
      refine ⟨rfl, fun hz => ?_⟩
      rw [Bool.and_eq_true] at hz
      have := i2 hz.1
      have := of_decide_eq_true hz.2
      omega
    · rw [if_neg hh, if_neg hh]
      rw [if_neg hh] at hbk
      rw [hbk, decide_eq_true (by omega), Bool.and_true]
      exact ⟨rfl, fun hz => by have := i2 hz; omega⟩
theorem part_mic (s g : List UInt8) (hg : g.length = 6) (hb : ∀ k, k < 6 → byteAt g k = if 15 + k + 1 < s.length then byteAt s (15 + k) else 48) : (micOk s 6 = true ∧ partI g = micI s 6 ∧ 0 ≤ partI g) ∨ (micOk s 6 = false ∧ partI g = -1) := by
  obtain ⟨i1, i2⟩ := mic_take s g hg hb 6 (Nat.le_refl _)
  rw [List.take_of_length_le (by omega)] at i1 i2
  unfold partI
  rw [i1]
  cases hm : micOk s 6 with
  | true => left; rw [if_pos rfl]; exact ⟨rfl, i2 hm, by omega⟩
  | false => right; exact ⟨rfl, by simp⟩
theorem byteAt_pad (l : List UInt8) (n k : Nat) (h : k < l.length + n) : byteAt (l ++ List.replicate n 48) k = if k < l.length then byteAt l k else 48 := by
  unfold byteAt
  rw [List.getD_eq_getElem?_getD, List.getElem?_append]
  split
  · rw [List.getD_eq_getElem?_getD]
  · rw [List.getElem?_replicate, if_pos (by omega)]; rfl
theorem pl_year {s : List UInt8} {y : Int} {q : List UInt8} (h : 4 ≤ s.length) (hy : y = partI (s.take 4)) : momOk y q = momOk (twoI s 0 * 100 + twoI s 2) q ∧ momV y q = momV (twoI s 0 * 100 + twoI s 2) q ∧ y ≤ 9999 := by
  rcases part_four s h with ⟨e1, e2, e3⟩ | ⟨e1, e2⟩
  · rw [hy, e1]; exact ⟨rfl, rfl, e3⟩
  · have f1 : momOk y q = false := decide_eq_false (by omega)
    have f2 : momOk (twoI s 0 * 100 + twoI s 2) q = false := decide_eq_false (by omega)
    unfold momV
    rw [f1, f2]
    exact ⟨rfl, rfl, by omega⟩
theorem rplong_fn (s : List UInt8) (h : Part) (h2 : s.length ≤ 140737488355328) : Pure Tryz.prog 140 [.string ⟨s.toArray⟩] h (.tuple #[.int .i64 (if plOk s then momT (twoI s 0 * 100 + twoI s 2) ((s.drop 4).take 10) else 0), .int .i64 (if plOk s then plM s else 0), .int .i64 (if plOk s then 0 else 21)]) := by
  have e1 : ((s.length : Int) - 1).toNat = s.length - 1 := by omega
  have hbl := byteAt_lt s (s.length - 1)
  refine Fn.intro Tryz.func140 rfl Tryz.ntmps140 rfl (fun e he => ?_)
  refine J.weak [(0, _)] ⟨rfl, trivial⟩ ?_
  refine Sr ?_
  refine Ru 3 rfl ?_
  refine JL.nil ?_
  refine J.seq ?_
  refine J.seq ?_
  refine J.meet [(30, .bool (decide (¬ (15 ≤ s.length ∧ s.length ≤ 22 ∧ byteAt s (s.length - 1) = 90 ∧ s.length ≠ 16))))] [(4, _), (3, _), (2, _), (0, _)] ⟨rfl, rfl, rfl, rfl, trivial⟩ ?_ ?_
  ·
   refine Rg ?_
   refine Ru 1 rfl ?_
   refine JL.op (RunV.lenS un_9 rfl) rfl ?_
   refine Ru 2 rfl ?_
   refine Bs 13 rfl (fun hc1 => ?_) fun hc1 => ?_
   ·
    refine Ru 17 rfl ?_
    refine JL.nil ?_
    refine ⟨rfl, rfl, ?_⟩
    exact z6_
   refine Ru 1 rfl ?_
   refine JL.opg rfl rfl  (RunV.lenS un_9 rfl) rfl ?_
   refine Ru 3 rfl ?_
   refine Bs 18 rfl (fun hc2 => ?_) fun hc2 => ?_
   ·
    refine Ru 12 rfl ?_
    refine JL.nil ?_
    refine ⟨rfl, rfl, ?_⟩
    exact z6_
   refine Ru 2 rfl ?_
   refine JL.opg rfl rfl  (RunV.lenS un_9 rfl) rfl ?_
   refine JL.opg rfl rfl  si_ rfl ?_
   refine JL.opg rfl rfl  (RunV.strIndex (m := s.length - 1) un_9 rfl rfl (by omega) (by omega)) rfl ?_
   refine Ru 3 rfl ?_
   refine Bs 26 rfl (fun hc3 => ?_) fun hc3 => ?_
   ·
    refine Ru 4 rfl ?_
    refine JL.nil ?_
    refine ⟨rfl, rfl, ?_⟩
    exact z6_
   refine Ru 1 rfl ?_
   refine JL.opg rfl rfl  (RunV.lenS un_9 rfl) rfl ?_
   refine Ru 2 rfl ?_
   refine JL.nil ?_
   refine ⟨rfl, rfl, ?_⟩
   exact z6_
  refine Cs rfl (fun hc4 => ?_) fun hc4 => ?_
  ·
   have hm : plOk s = false := (by by_cases hz : 15 ≤ s.length ∧ s.length ≤ 22 ∧ byteAt s (s.length - 1) = 90; exact pl_f2 (by omega) (by omega); exact pl_f1 hz)
   refine Sr ?_
   refine Ru 3 rfl ?_
   refine Nk [4, 3, 2, 0] rfl ?_
   exact J.retP (RetV.three rfl rfl rfl rfl) (by rw [hm]; rfl) rfl
  obtain ⟨l15, l22, lz, l16⟩ : 15 ≤ s.length ∧ s.length ≤ 22 ∧ byteAt s (s.length - 1) = 90 ∧ s.length ≠ 16 := (by omega); obtain ⟨F, hF⟩ : ∃ F, F = (s.drop 14).take (s.length - 1 - 14) := ⟨_, rfl⟩; have hFl : F.length = s.length - 15 := (by rw [hF]; simp; omega); have hFb : ∀ k, k < s.length - 15 → byteAt F k = byteAt s (14 + k) := (fun k hk => by rw [hF]; exact byteAt_cut s 14 _ k (by omega)); obtain ⟨hy1, hy2, hy3⟩ := pl_year (s := s) (y := partI (s.take 4)) (q := (s.drop 4).take 10) (by omega) rfl
  refine J.skip ?_
  refine Sr ?_
  refine Ru 2 rfl ?_
  refine JL.op (RunV.lenS un_9 rfl) rfl ?_
  refine JL.op si_ rfl ?_
  refine JL.op (RunV.strCut_lh (m := 14) (m' := s.length - 1) un_9 rfl rfl rfl rfl (by omega) (by omega) (by omega)) rfl ?_
  rw [← hF]
  refine Ru 1 rfl ?_
  refine Nk [5, 4, 3, 2, 0] rfl ?_
  refine Sr ?_
  refine Ru 1 rfl ?_
  refine JL.nil ?_
  refine J.seq ?_
  refine Sr ?_
  refine Ru 1 rfl ?_
  refine JL.op (RunV.neqS rfl rfl) rfl ?_
  refine JL.nil ?_
  refine Cs rfl (fun hc5 => ?_) fun hc5 => ?_
  ·
   have hne : s.length ≠ 15 := (fun h15 => hc5 (List.eq_nil_of_length_eq_zero (by omega))); have hd1 : (F.drop 1).length = s.length - 16 := (by rw [List.length_drop]; omega)
   refine Sr ?_
   refine Ru 1 rfl ?_
   refine JL.op (RunV.strCut_l un_9 rfl rfl (show _ = ((1 : Nat) : Int) from rfl) (by omega)) rfl ?_
   refine Ru 1 rfl ?_
   refine Nk [7, 6, 5, 4, 3, 2, 0] rfl ?_
   refine J.seq ?_
   refine J.block ?_
   refine J.loop (fun t_ S_ h_ L_ => ∃ (j : Nat) (G : List UInt8), t_ = 6 - j ∧ S_ = [(0, .string ⟨s.toArray⟩), (5, .string ⟨F.toArray⟩), (7, .string ⟨G.toArray⟩)] ∧ h = h_ ∧ L_ = [] ∧ ((F.drop 1).length + j ≤ 6 ∧ G = F.drop 1 ++ List.replicate j 48)) ⟨_, _, ?_, ⟨0, F.drop 1, rfl, rfl, rfl, rfl, ⟨by omega, by simp⟩⟩⟩ ?_
   ·
    exact z5_
   rintro _ _ _ _ ⟨j, G, rfl, rfl, rfl, rfl, hj, hG⟩
   have hgl : G.length = (F.drop 1).length + j := (by rw [hG, List.length_append, List.length_replicate])
   refine J.seq ?_
   refine Sr ?_
   refine Ru 1 rfl ?_
   refine JL.op (RunV.lenS un_9 rfl) rfl ?_
   refine Ru 1 rfl ?_
   refine JL.nil ?_
   refine Cs rfl (fun hc6 => ?_) fun hc6 => ?_
   ·
    refine J.skip ?_
    refine J.block ?_
    refine Rg ?_
    refine Ru 1 rfl ?_
    refine JL.op (RunV.addS rfl rfl z3_) rfl ?_
    refine Ru 1 rfl ?_
    refine JL.nil ?_
    refine ⟨_, ?_, _, ?_, ⟨j + 1, G ++ [48], rfl, rfl, rfl, rfl, ⟨by omega, by rw [hG, List.append_assoc, ← List.replicate_succ']⟩⟩⟩
    ·
     omega
    exact z5_
   have hgb : ∀ k, k < 6 → byteAt G k = if 15 + k + 1 < s.length then byteAt s (15 + k) else 48 := (fun k hk => by rw [hG, byteAt_pad _ _ _ (by omega)]; by_cases hz : k < (F.drop 1).length; rw [if_pos hz, if_pos (by omega), show 15 + k = 14 + (1 + k) by omega, ← hFb (1 + k) (by omega)]; unfold byteAt; simp [Nat.add_comm]; rw [if_neg hz, if_neg (by omega)]); have hpm := part_mic s _ (by omega) hgb; have hf0 : byteAt F 0 = byteAt s 14 := hFb 0 (by omega); have hf1 := hFb (s.length - 16) (by omega); rw [show 14 + (s.length - 16) = s.length - 2 by omega] at hf1
   refine J.exit ?_
   refine Sr ?_
   refine Ru 1 rfl ?_
   refine JL.callP ca_162 rfl (part_fn _ _ (by omega)) rfl ?_
   refine Ru 1 rfl ?_
   refine Nk [6, 0, 5] rfl ?_
   refine J.seq ?_
   refine J.meet [(61, .bool (decide (¬ (byteAt s 14 = 46 ∧ byteAt s (s.length - 2) ≠ 48) ∨ partI G < 0)))] [(6, _), (0, _)] ⟨rfl, rfl, trivial⟩ ?_ ?_
   ·
    refine Rg ?_
    refine Ru 1 rfl ?_
    refine JL.op (RunV.strIndex (m := 0) un_9 rfl rfl rfl (by omega)) rfl ?_
    refine Ru 2 rfl ?_
    refine Bs 50 rfl (fun hc8 => ?_) fun hc8 => ?_
    ·
     refine Ru 11 rfl ?_
     refine JL.nil ?_
     refine ⟨rfl, rfl, ?_⟩
     exact z6_
    refine Ru 4 rfl ?_
    refine Bs 54 rfl (fun hc9 => ?_) fun hc9 => ?_
    ·
     refine Ru 7 rfl ?_
     refine JL.nil ?_
     refine ⟨rfl, rfl, ?_⟩
     exact z6_
    refine Ru 2 rfl ?_
    refine JL.opg rfl rfl  (RunV.lenS un_9 rfl) rfl ?_
    refine JL.opg rfl rfl  si_ rfl ?_
    refine JL.opg rfl rfl  (RunV.strIndex (m := s.length - 16) un_9 rfl rfl (by omega) (by omega)) rfl ?_
    refine Ru 2 rfl ?_
    refine JL.nil ?_
    refine ⟨rfl, rfl, ?_⟩
    exact z6_
   refine Cs rfl (fun hc10 => ?_) fun hc10 => ?_
   ·
    have hm : plOk s = false := (by rcases hpm with ⟨p1, p2, p3⟩ | ⟨p1, p2⟩; exact pl_f2 hne (by omega); exact pl_f3 6 hne (by omega) p1)
    refine Sr ?_
    refine Ru 3 rfl ?_
    refine JL.nil ?_
    exact J.retP (RetV.three rfl rfl rfl rfl) (by rw [hm]; rfl) rfl
   obtain ⟨p1, p2, p3⟩ : micOk s 6 = true ∧ partI G = micI s 6 ∧ 0 ≤ partI G := (by rcases hpm with hq | ⟨q1, q2⟩; exact hq; exfalso; omega); have hpl := pl_t1 (s := s) ⟨l15, l22, lz⟩ hne (by omega) p1; have hpM : plM s = micI s 6 := if_neg hne; rw [p2, ← hpM]
   refine J.skip ?_
   refine J.seq ?_
   refine J.drawn mixed_ (by kernel_rfl) ?_
   refine Rq 1 rfl ?_
   refine JQ.op (RunV.strCut_h un_9 rfl rfl (show _ = ((4 : Nat) : Int) from rfl) (by omega)) rfl ?_
   refine JQ.callP ca_162 rfl (part_fn _ _ z39_) rfl ?_
   refine Rq 1 rfl ?_
   refine JQ.op (RunV.strCut_lh un_9 rfl rfl rfl (show _ = ((4 : Nat) : Int) from rfl) (show _ = ((14 : Nat) : Int) from rfl) (by omega) (by omega)) rfl ?_
   refine JQ.callP ca_163 rfl (of_fn _ _ _ z39_ hy3) rfl ?_
   rw [hy1, hy2]
   refine Rq 5 rfl ?_
   refine Nq [9, 8, 6] rfl ?_
   refine J.seq ?_
   refine Sr ?_
   refine Ru 2 rfl ?_
   refine JL.nil ?_
   refine Cs rfl (fun hc13 => ?_) fun hc13 => ?_
   ·
    refine Sr ?_
    refine Ru 3 rfl ?_
    refine JL.nil ?_
    exact J.retP (RetV.three rfl rfl rfl rfl) (by simp [hpl, hpM, momV, hc13]) rfl
   refine J.skip ?_
   refine Sr ?_
   refine Ru 5 rfl ?_
   refine Nk [4, 3, 2] rfl ?_
   exact J.retP (RetV.three rfl rfl rfl rfl) (by simp [hpl, hpM, momV, hc13]) rfl
  have h15 : s.length = 15 := (by have hF0 : F.length = 0 := (by rw [show F = [] from hc5]; rfl); omega); have hpl := pl_t0 (s := s) ⟨l15, l22, lz⟩ h15; have hpM : plM s = 0 := if_pos h15
  refine J.skip ?_
  refine J.seq ?_
  refine J.drawn mixed_ (by kernel_rfl) ?_
  refine Rq 1 rfl ?_
  refine JQ.op (RunV.strCut_h un_9 rfl rfl (show _ = ((4 : Nat) : Int) from rfl) (by omega)) rfl ?_
  refine JQ.callP ca_162 rfl (part_fn _ _ z39_) rfl ?_
  refine Rq 1 rfl ?_
  refine JQ.op (RunV.strCut_lh un_9 rfl rfl rfl (show _ = ((4 : Nat) : Int) from rfl) (show _ = ((14 : Nat) : Int) from rfl) (by omega) (by omega)) rfl ?_
  refine JQ.callP ca_163 rfl (of_fn _ _ _ z39_ hy3) rfl ?_
  rw [hy1, hy2]
  refine Rq 5 rfl ?_
  refine Nq [9, 8, 6, 4, 3, 2] rfl ?_
  refine J.seq ?_
  refine Sr ?_
  refine Ru 2 rfl ?_
  refine JL.nil ?_
  refine Cs rfl (fun hc16 => ?_) fun hc16 => ?_
  ·
   refine Sr ?_
   refine Ru 3 rfl ?_
   refine Nk [4, 3, 2, 8, 6] rfl ?_
   exact J.retP (RetV.three rfl rfl rfl rfl) (by simp [hpl, hpM, momV, hc16]) rfl
  refine J.skip ?_
  refine Sr ?_
  refine Ru 5 rfl ?_
  refine Nk [4, 3, 2] rfl ?_
  exact J.retP (RetV.three rfl rfl rfl rfl) (by simp [hpl, hpM, momV, hc16]) rfl
end Go.Proofs.YtmngjbefnloljaaGreatDoor
namespace Go.Proofs.YtmngjbefnloljaaGreatDoor
open Go Go.RowKit
def prL : List UInt8 := [32, 39, 40, 41, 43, 44, 45, 46, 47, 58, 61, 63]
def prAl (b : Int) : Bool := (decide (65 ≤ b ∧ b ≤ 90) || decide (97 ≤ b ∧ b ≤ 122)) || decide (48 ≤ b ∧ b ≤ 57)
def prAny (b : Int) (l : List UInt8) : Bool := l.any fun x => decide (b = x.toNat)
theorem prC_eq (b : Nat) : prC b = (prAl b || prAny b prL) := by
  rw [Bool.eq_iff_iff]
  simp only [prC, prAl, prAny, prL, List.any_cons, List.any_nil, Bool.or_eq_true, decide_eq_true_eq, Bool.or_false, show ((32 : UInt8).toNat = 32) from rfl, show ((39 : UInt8).toNat = 39) from rfl, show ((40 : UInt8).toNat = 40) from rfl, show ((41 : UInt8).toNat = 41) from rfl, show ((43 : UInt8).toNat = 43) from rfl, show ((44 : UInt8).toNat = 44) from rfl, show ((45 : UInt8).toNat = 45) from rfl, show ((46 : UInt8).toNat = 46) from rfl, show ((47 : UInt8).toNat = 47) from rfl, show ((58 : UInt8).toNat = 58) from rfl, show ((61 : UInt8).toNat = 61) from rfl, show ((63 : UInt8).toNat = 63) from rfl]
  omega
theorem prAny_next (b : Int) (q : Nat) (h : q < prL.length) : prAny b (prL.take (q + 1)) = (prAny b (prL.take q) || decide (b = byteAt prL q)) := by
  unfold prAny
  rw [List.take_succ_eq_append_getElem h, List.any_append, List.any_cons, List.any_nil, Bool.or_false, byteAt_eq prL q h]
theorem prC_lt (c : Nat) (h : prC c = true) : c < 128 := by
  have := of_decide_eq_true h; omega
theorem rprint_fn (s : List UInt8) (h : Part) (hl : s.length ≤ 140737488355328) : Pure Tryz.prog 137 [.string ⟨s.toArray⟩] h (.bool (runes (fun c _ => prC c) s 0)) := by
  rw [runes_all prC_lt _ s (Nat.le_refl _)]
  have hpl : prL.length = 12 := rfl
  refine Fn.intro Tryz.func137 rfl Tryz.ntmps137 rfl (fun e he => ?_)
  refine J.weak [(0, _)] ⟨rfl, trivial⟩ ?_
  refine Sr ?_
  refine Ru 1 rfl ?_
  refine JL.nil ?_
  refine Sr ?_
  refine Ru 1 rfl ?_
  refine JL.nil ?_
  refine J.seq ?_
  refine Sr ?_
  refine Ru 1 rfl ?_
  refine JL.nil ?_
  refine J.block ?_
  refine J.loop (fun t_ S_ h_ L_ => ∃ (p : Nat), t_ = s.length - p ∧ S_ = [(0, .string ⟨s.toArray⟩), (3, .string ⟨prL.toArray⟩), (4, .int .i64 p)] ∧ h = h_ ∧ L_ = [] ∧ (p ≤ s.length ∧ (s.all fun b => prC b.toNat) = (s.drop p).all fun b => prC b.toNat)) ⟨_, _, ?_, ⟨0, rfl, rfl, rfl, rfl, ⟨by omega, rfl⟩⟩⟩ ?_
  ·
   exact z5_
  rintro _ _ _ _ ⟨p, rfl, rfl, rfl, rfl, hp, hq⟩
  refine J.seq ?_
  refine Sr ?_
  refine Ru 2 rfl ?_
  refine JL.op (RunV.lenS un_9 rfl) rfl ?_
  refine Ru 1 rfl ?_
  refine JL.nil ?_
  refine Cs rfl (fun hc1 => ?_) fun hc1 => ?_
  ·
   have hst := all_step prC s p (by omega); have hbp := byteAt_lt s p
   refine J.skip ?_
   refine J.seq ?_
   refine J.block ?_
   refine Sr ?_
   refine Ru 2 rfl ?_
   refine JL.op (RunV.strIndex (m := p) un_9 rfl rfl (by omega) (by omega)) rfl ?_
   refine JL.op z17_ rfl ?_
   refine Ru 1 rfl ?_
   refine JL.nil ?_
   refine Sr ?_
   refine Ru 1 rfl ?_
   refine JL.callP ca_161 rfl (between_fn _ _ _ _) rfl ?_
   refine Ru 1 rfl ?_
   apply On 20 23 3 [5, 17, 16, 15, 14, 11, 10, 9, 8, 0, 3, 4] rfl rfl
   rotate_left
   ·
    intro hb3 hc3
    refine Ru 1 rfl ?_
    refine JL.callPg rfl rfl  ca_161 rfl (between_fn _ _ _ _) rfl ?_
    refine Ru 1 rfl ?_
    exact Ae (om_f hb3 rfl) rfl
   rotate_right
   ·
    exact fun hb3 _ => Ru 3 rfl (Ae (om_t hb3 rfl) rfl)
   refine Ru 1 rfl ?_
   apply On 24 27 3 [5, 17, 16, 15, 14, 11, 10, 9, 8, 0, 3, 4] rfl rfl
   rotate_left
   ·
    intro hb5 hc5
    refine Ru 1 rfl ?_
    refine JL.callPg rfl rfl  ca_161 rfl (between_fn _ _ _ _) rfl ?_
    refine Ru 1 rfl ?_
    exact Ae (om_f hb5 rfl) rfl
   rotate_right
   ·
    exact fun hb5 _ => Ru 3 rfl (Ae (om_t hb5 rfl) rfl)
   refine Ru 1 rfl ?_
   refine JL.nil ?_
   refine J.seq ?_
   refine Sr ?_
   refine Ru 1 rfl ?_
   refine JL.nil ?_
   refine J.block ?_
   refine J.loop (fun t_ S_ h_ L_ => ∃ (q : Nat) (v : Bool), t_ = prL.length - q ∧ S_ = [(0, .string ⟨s.toArray⟩), (3, .string ⟨prL.toArray⟩), (4, .int .i64 p), (6, .bool v), (7, .int .i64 q)] ∧ h = h_ ∧ L_ = [] ∧ (q ≤ prL.length ∧ v = (prAl (byteAt s p) || prAny (byteAt s p) (prL.take q)))) ⟨_, _, ?_, ⟨0, prAl (byteAt s p), rfl, rfl, rfl, rfl, ⟨by omega, by simp [prAny]⟩⟩⟩ ?_
   ·
    exact z5_
   rintro _ _ _ _ ⟨q, v, rfl, rfl, rfl, rfl, hq1, hv⟩
   refine J.seq ?_
   refine Sr ?_
   refine Ru 2 rfl ?_
   refine JL.op (RunV.lenS un_9 rfl) rfl ?_
   refine Ru 1 rfl ?_
   refine JL.nil ?_
   refine Cs rfl (fun hc7 => ?_) fun hc7 => ?_
   ·
    refine J.skip ?_
    refine J.seq ?_
    refine J.block ?_
    refine J.meet [(6, .bool (v || decide ((byteAt s p : Int) = byteAt prL q)))] [(31, _), (30, _), (29, _), (28, _), (0, _), (3, _), (4, _), (7, _)] ⟨rfl, rfl, rfl, rfl, rfl, rfl, rfl, rfl, trivial⟩ ?_ ?_
    ·
     refine J.drawn mixed_ (by kernel_rfl) ?_
     refine Rq 2 rfl ?_
     refine Bq 35 rfl (fun hc8 => ?_) fun hc8 => ?_
     ·
      refine Rq 9 rfl ?_
      refine JQ.nil ?_
      refine ⟨rfl, rfl, ?_⟩
      repeat (first | exact trivial | refine ⟨rfl, ?_⟩ | refine ⟨(by exact some_bool (by cases v <;> simp_all)), ?_⟩)
     refine Rq 2 rfl ?_
     refine JQ.opg rfl rfl  (RunV.strIndex (m := p) un_9 rfl rfl (by omega) (by omega)) rfl ?_
     refine Rq 2 rfl ?_
     refine JQ.opg rfl rfl  (RunV.strIndex (m := q) un_9 rfl rfl (by omega) (by omega)) rfl ?_
     refine Rq 3 rfl ?_
     refine JQ.nil ?_
     refine ⟨rfl, rfl, ?_⟩
     repeat (first | exact trivial | refine ⟨rfl, ?_⟩ | refine ⟨(by exact some_bool (by cases v <;> simp_all)), ?_⟩)
    refine Rg ?_
    refine Ru 1 rfl ?_
    refine JL.op ai_ rfl ?_
    refine Ru 1 rfl ?_
    refine JL.nil ?_
    refine ⟨_, ?_, _, ?_, ⟨q + 1, (v || decide ((byteAt s p : Int) = byteAt prL q)), rfl, rfl, rfl, rfl, ⟨by omega, by rw [hv, prAny_next _ _ (by omega), Bool.or_assoc]⟩⟩⟩
    ·
     omega
    exact z5_
   have hqe : q = prL.length := (by omega); have hpc : prC (byteAt s p) = v := (by rw [hv, prC_eq, hqe, List.take_length])
   refine J.exit ?_
   refine Sr ?_
   refine Ru 2 rfl ?_
   refine JL.nil ?_
   refine Cs rfl (fun hc9 => ?_) fun hc9 => ?_
   ·
    refine Sr ?_
    refine Ru 1 rfl ?_
    refine JL.nil ?_
    exact J.retP (RetV.one rfl rfl) (by rw [hq, hst, hpc]; simp_all) rfl
   refine J.skip ?_
   refine Rg ?_
   refine Ru 1 rfl ?_
   refine JL.op ai_ rfl ?_
   refine Ru 1 rfl ?_
   refine JL.nil ?_
   refine ⟨_, ?_, _, ?_, ⟨p + 1, rfl, rfl, rfl, rfl, ⟨by omega, by rw [hq, hst, hpc]; simp_all⟩⟩⟩
   ·
    omega
   exact z5_
  refine J.exit ?_
  refine Kp [] rfl ?_
  refine Sr ?_
  refine Ru 1 rfl ?_
  refine JL.nil ?_
  exact J.retP (RetV.one rfl rfl) (by rw [hq, List.drop_of_length_le (by omega)]; rfl) rfl
end Go.Proofs.YtmngjbefnloljaaGreatDoor
namespace Go.Proofs.YtmngjbefnloljaaGreatDoor
open Go Go.RowKit
theorem z0_ {p : Prop} (u : p := by first | (rw [valB_1 (by omega), ← e0 (by omega)]; (congr 1; first | exact (decide_eq_true (by omega)).symm | exact (decide_eq_false (by omega)).symm | exact decide_eq_decide.2 (by omega) | (rw [← decide_not]; exact decide_eq_decide.2 (by omega)))) | (rw [valB_1 (by omega)]; (congr 1; first | exact (decide_eq_true (by omega)).symm | exact (decide_eq_false (by omega)).symm | exact decide_eq_decide.2 (by omega) | (rw [← decide_not]; exact decide_eq_decide.2 (by omega)))) | (rw [valB_2 (by omega), leastB]; (repeat' split) <;> first | (congr 1; first | exact (decide_eq_true (by omega)).symm | exact (decide_eq_false (by omega)).symm | exact decide_eq_decide.2 (by omega) | (rw [← decide_not]; exact decide_eq_decide.2 (by omega))) | (congr 1; first | exact decide_eq_true (by omega) | exact decide_eq_false (by omega)) | (exfalso; omega)) | (rw [valB_3 (by omega), bits_f (by first | omega | (rw [← e0 (by omega)]; omega))]; done) | (rw [valB_3 (by omega), bits_1 (by omega) (by omega)]; done) | (rw [valB_3 (by omega), bits_n (by omega) (by omega) (by omega), ← e1]; done) | (rw [valB_5 (by omega)]; (congr 1; first | exact (decide_eq_true (by omega)).symm | exact (decide_eq_false (by omega)).symm | exact decide_eq_decide.2 (by omega) | (rw [← decide_not]; exact decide_eq_decide.2 (by omega)))) | (rw [valB_6 (by omega)]; cases (oidT l).isSome <;> rfl) | rw [valB_12 (by omega)] | rw [valB_19 (by omega)] | rw [valB_22 (by omega)] | (rw [valB_23 (by omega)]; cases psOk l <;> rfl) | (rw [valB_24 (by omega)]; cases plOk l <;> rfl) | rw [valB_0 (by omega)]) : p := u
theorem z40_ {p : Prop} (u : p := by repeat (first | exact trivial | refine ⟨rfl, ?_⟩ | refine ⟨(by exact some_bool (by cases k <;> simp_all <;> omega)), ?_⟩)) : p := u
theorem z46_ {p : Prop} (u : p := by repeat (first | exact trivial | refine ⟨rfl, ?_⟩ | refine ⟨(by exact some_bool (by rw [hBB]; simp_all)), ?_⟩)) : p := u
end Go.Proofs.YtmngjbefnloljaaGreatDoor
namespace Go.Proofs.YtmngjbefnloljaaGreatDoor
open Go Go.RowKit
set_option maxRecDepth 100000
theorem ca_102 : callT Tryz.prog 102 = true := by kernel_rfl
theorem ca_103 : callT Tryz.prog 103 = true := by kernel_rfl
theorem ca_104 : callT Tryz.prog 104 = true := by kernel_rfl
theorem ca_105 : callT Tryz.prog 105 = true := by kernel_rfl
theorem ca_135 : callT Tryz.prog 135 = true := by kernel_rfl
theorem ca_136 : callT Tryz.prog 136 = true := by kernel_rfl
theorem ca_137 : callT Tryz.prog 137 = true := by kernel_rfl
theorem ca_138 : callT Tryz.prog 138 = true := by kernel_rfl
theorem ca_139 : callT Tryz.prog 139 = true := by kernel_rfl
theorem ca_140 : callT Tryz.prog 140 = true := by kernel_rfl
theorem ca_65 : callT Tryz.prog 65 = true := by kernel_rfl
theorem bits_f {b : List UInt8} (h : b.length = 0 ∨ 7 < byteAt b 0) : bitsB b = false := decide_eq_false (fun hh => hh.1 (by omega))
theorem bits_1 {b : List UInt8} (h : b.length = 1) (h7 : byteAt b 0 ≤ 7) : bitsB b = decide (((2 ^ byteAt b 0 : Nat) : Int) = 1) := by
  unfold bitsB
  refine decide_eq_decide.2 ?_
  rcases Nat.eq_zero_or_pos (byteAt b 0) with h0 | h0
  · exact ⟨fun _ => by rw [h0]; rfl, fun _ => ⟨by omega, .inl h0⟩⟩
  · have : 2 ≤ 2 ^ byteAt b 0 := Nat.pow_le_pow_right (n := 2) (by decide) h0
    constructor
    · rintro ⟨h1, _⟩; omega
    · intro h1; omega
theorem bits_n {b : List UInt8} (h0 : b.length ≠ 0) (h1 : b.length ≠ 1) (h7 : byteAt b 0 ≤ 7) : bitsB b = decide ((byteAt b (b.length - 1) : Int) % ((2 ^ byteAt b 0 : Nat) : Int) = 0) := by
  unfold bitsB
  refine decide_eq_decide.2 ?_
  constructor
  · rintro ⟨_, h2 | h2⟩
    · rw [h2]; simp
    · rw [← Int.natCast_emod, h2]; rfl
  · intro h2
    rw [← Int.natCast_emod] at h2
    exact ⟨by omega, .inr (by omega)⟩
theorem pow7 (n : Nat) (h : n ≤ 7) : 1 ≤ 2 ^ n ∧ 2 ^ n ≤ 128 := ⟨Nat.one_le_two_pow, Nat.pow_le_pow_right (n := 2) (by decide) h⟩
theorem rvalue_fn {t : Int} {a : Option Addr} {c : Nat} {l : List UInt8} {h : Part} (hl : SlR u8R 1 h a c l) (hb : l.length ≤ 10000000) : Pure Tryz.prog 104 [.int .i64 t, .slice a l.length c] h (.bool (valB t l)) := by
  have e0 := fun hh => byteAt_eq l 0 hh
  refine Fn.intro Tryz.func104 rfl Tryz.ntmps104 rfl (fun e he => ?_)
  refine J.weak [(0, _), (1, _)] ⟨rfl, rfl, trivial⟩ ?_
  refine Sr ?_
  refine Ru 1 rfl ?_
  refine JL.nil ?_
  refine Sr ?_
  refine Ru 3 rfl ?_
  refine JL.nil ?_
  refine J.seq ?_
  refine Sr ?_
  refine Ru 1 rfl ?_
  refine JL.nil ?_
  refine J.block ?_
  refine Sr ?_
  refine Ru 2 rfl ?_
  refine JL.nil ?_
  refine Cs rfl (fun hc1 => ?_) fun hc1 => ?_
  ·
   refine Sr ?_
   refine Ru 3 rfl ?_
   refine Bs 23 rfl (fun hc2 => ?_) fun hc2 => ?_
   ·
    refine Ru 1 rfl ?_
    refine JL.opeg rfl rfl  (RunE.index sl_22 rfl rfl (show _ = ((0 : Nat) : Int) from rfl) (by assumption) rfl (by omega)) rfl ?_
    rintro _ ⟨b3, o3, hi3, rfl, hE3⟩
    refine JL.opg rfl rfl  (RunV.ld_u8 ag_5 rfl (by assumption)) rfl ?_
    refine Ru 2 rfl ?_
    refine Bs 28 rfl (fun hc5 => ?_) fun hc5 => ?_
    ·
     refine Ru 7 rfl ?_
     refine Nk [4] rfl ?_
     exact J.retP (RetV.one rfl rfl) z0_ rfl
    refine Ru 1 rfl ?_
    refine JL.opeg rfl rfl  (RunE.index sl_22 rfl rfl (show _ = ((0 : Nat) : Int) from rfl) (by assumption) rfl (by omega)) rfl ?_
    rintro _ ⟨b6, o6, hi6, rfl, hE6⟩
    refine JL.opg rfl rfl  (RunV.ld_u8 ag_5 rfl (by assumption)) rfl ?_
    refine Ru 4 rfl ?_
    refine Nk [4] rfl ?_
    exact J.retP (RetV.one rfl rfl) z0_ rfl
   refine Ru 12 rfl ?_
   refine Nk [4] rfl ?_
   exact J.retP (RetV.one rfl rfl) z0_ rfl
  refine J.seq ?_
  refine Sr ?_
  refine Ru 2 rfl ?_
  refine Nk [35, 18, 5, 4, 1] rfl ?_
  refine Cs rfl (fun hc8 => ?_) fun hc8 => ?_
  ·
   refine J.skip ?_
   refine J.cond_t rfl ?_
   refine J.seq ?_
   refine Sr ?_
   refine Ru 2 rfl ?_
   refine JL.nil ?_
   refine Cs rfl (fun hc9 => ?_) fun hc9 => ?_
   ·
    refine Sr ?_
    refine Ru 3 rfl ?_
    refine Nk [4, 1] rfl ?_
    exact J.retP (RetV.one rfl rfl) z0_ rfl
   refine J.skip ?_
   refine Kp [4, 1] rfl ?_
   refine J.seq ?_
   refine J.drawn mixed_ (by kernel_rfl) ?_
   have e0 := byteAt_eq l 0 (by omega); have e1 := byteAt_eq l 1 (by omega); have b0 := byteAt_lt l 0; have b1 := byteAt_lt l 1
   refine Rq 1 rfl ?_
   refine JQ.ope (RunE.index sl_22 rfl rfl (show _ = ((0 : Nat) : Int) from rfl) (by assumption) rfl (by omega)) rfl ?_
   rintro _ ⟨b10, o10, hi10, rfl, hE10⟩
   refine JQ.op (RunV.ld_u8 ag_5 rfl (by assumption)) rfl ?_
   refine JQ.op z17_ rfl ?_
   refine JQ.op z10_ rfl ?_
   refine Rq 1 rfl ?_
   refine JQ.ope (RunE.index sl_22 rfl rfl (show _ = ((1 : Nat) : Int) from rfl) (by assumption) rfl (by omega)) rfl ?_
   rintro _ ⟨b12, o12, hi12, rfl, hE12⟩
   refine JQ.op (RunV.ld_u8 ag_5 rfl (by assumption)) rfl ?_
   refine JQ.op z17_ rfl ?_
   refine JQ.op z12_ rfl ?_
   refine JQ.op ai_ rfl ?_
   refine Rq 1 rfl ?_
   refine Nq [6, 4] rfl ?_
   refine Sr ?_
   refine Ru 3 rfl ?_
   refine Bs 55 rfl (fun hc14 => ?_) fun hc14 => ?_
   ·
    refine Ru 4 rfl ?_
    refine Nk [4] rfl ?_
    exact J.retP (RetV.one rfl rfl) z0_ rfl
   refine Ru 4 rfl ?_
   refine Nk [4] rfl ?_
   exact J.retP (RetV.one rfl rfl) z0_ rfl
  refine Rg ?_
  refine Ru 2 rfl ?_
  refine JL.nil ?_
  refine Cs rfl (fun hc15 => ?_) fun hc15 => ?_
  ·
   refine J.seq ?_
   refine Sr ?_
   refine Ru 2 rfl ?_
   refine Nk [39, 5, 4, 1] rfl ?_
   refine Cs rfl (fun hc16 => ?_) fun hc16 => ?_
   ·
    refine Sr ?_
    refine Ru 3 rfl ?_
    refine Nk [4, 1] rfl ?_
    exact J.retP (RetV.one rfl rfl) z0_ rfl
   refine J.skip ?_
   refine J.seq ?_
   refine J.drawn mixed_ (by kernel_rfl) ?_
   have e0 := byteAt_eq l 0 (by omega); have e1 := byteAt_eq l 1 (by omega); have b0 := byteAt_lt l 0; have b1 := byteAt_lt l 1
   refine Rq 1 rfl ?_
   refine JQ.ope (RunE.index sl_22 rfl rfl (show _ = ((0 : Nat) : Int) from rfl) (by assumption) rfl (by omega)) rfl ?_
   rintro _ ⟨b17, o17, hi17, rfl, hE17⟩
   refine JQ.op (RunV.ld_u8 ag_5 rfl (by assumption)) rfl ?_
   refine JQ.op z17_ rfl ?_
   refine JQ.op z10_ rfl ?_
   refine Rq 1 rfl ?_
   refine JQ.ope (RunE.index sl_22 rfl rfl (show _ = ((1 : Nat) : Int) from rfl) (by assumption) rfl (by omega)) rfl ?_
   rintro _ ⟨b19, o19, hi19, rfl, hE19⟩
   refine JQ.op (RunV.ld_u8 ag_5 rfl (by assumption)) rfl ?_
   refine JQ.op z17_ rfl ?_
   refine JQ.op z12_ rfl ?_
   refine JQ.op ai_ rfl ?_
   refine Rq 1 rfl ?_
   refine Nq [6, 4] rfl ?_
   refine Sr ?_
   refine Ru 3 rfl ?_
   refine Bs 55 rfl (fun hc21 => ?_) fun hc21 => ?_
   ·
    refine Ru 4 rfl ?_
    refine Nk [4] rfl ?_
    exact J.retP (RetV.one rfl rfl) z0_ rfl
   refine Ru 4 rfl ?_
   refine Nk [4] rfl ?_
   exact J.retP (RetV.one rfl rfl) z0_ rfl
  refine Sr ?_
  refine Ru 2 rfl ?_
  refine Nk [59, 18, 5, 4, 1] rfl ?_
  refine Cs rfl (fun hc22 => ?_) fun hc22 => ?_
  ·
   refine J.seq ?_
   refine Sr ?_
   refine Ru 3 rfl ?_
   refine Bs 63 rfl (fun hc23 => ?_) fun hc23 => ?_
   ·
    refine Ru 5 rfl ?_
    refine Nk [68, 5, 4, 1] rfl ?_
    refine J.cond_t rfl ?_
    refine Sr ?_
    refine Ru 1 rfl ?_
    refine JL.nil ?_
    exact J.retP (RetV.one rfl rfl) z0_ rfl
   refine Ru 1 rfl ?_
   refine JL.opeg rfl rfl  (RunE.index sl_22 rfl rfl (show _ = ((0 : Nat) : Int) from rfl) (by assumption) rfl (by omega)) rfl ?_
   rintro _ ⟨b24, o24, hi24, rfl, hE24⟩
   refine JL.opg rfl rfl  (RunV.ld_u8 ag_5 rfl (by assumption)) rfl ?_
   refine Ru 2 rfl ?_
   refine Nk [68, 5, 4, 1] rfl ?_
   refine Cs rfl (fun hc26 => ?_) fun hc26 => ?_
   ·
    refine Sr ?_
    refine Ru 1 rfl ?_
    refine JL.nil ?_
    exact J.retP (RetV.one rfl rfl) z0_ rfl
   have e0 := byteAt_eq l 0 (by omega); have e1 := byteAt_eq l (l.length - 1) (by omega); have hp7 := pow7 (byteAt l 0) (by omega)
   refine J.skip ?_
   refine Sr ?_
   refine Ru 1 rfl ?_
   refine JL.nil ?_
   refine J.seq ?_
   refine Sr ?_
   refine Ru 1 rfl ?_
   refine JL.nil ?_
   refine J.block ?_
   refine J.loop (fun t_ S_ h_ L_ => ∃ (i : Nat), t_ = 9 - i ∧ S_ = [(1, .slice a l.length c), (5, .int .i64 l.length), (7, .int .i64 (2 ^ i : Nat)), (8, .int .i64 i)] ∧ h = h_ ∧ L_ = [] ∧ (i ≤ byteAt l 0)) ⟨_, _, ?_, ⟨0, rfl, rfl, rfl, rfl, by omega⟩⟩ ?_
   ·
    repeat (first | exact trivial | refine ⟨rfl, ?_⟩ | refine ⟨(by exact some_int (by first | rfl | (rw [Nat.pow_succ]; omega))), ?_⟩)
   rintro _ _ _ _ ⟨i, rfl, rfl, rfl, rfl, hi⟩
   have hpi := pow7 i (by omega)
   refine J.seq ?_
   refine Sr ?_
   refine Ru 2 rfl ?_
   refine JL.ope (RunE.index sl_22 rfl rfl (show _ = ((0 : Nat) : Int) from rfl) (by assumption) rfl (by omega)) rfl ?_
   rintro _ ⟨b27, o27, hi27, rfl, hE27⟩
   refine JL.op (RunV.ld_u8 ag_5 rfl (by assumption)) rfl ?_
   refine JL.op z17_ rfl ?_
   refine Ru 1 rfl ?_
   refine JL.nil ?_
   refine Cs rfl (fun hc29 => ?_) fun hc29 => ?_
   ·
    refine J.skip ?_
    refine J.seq ?_
    refine J.block ?_
    refine Rg ?_
    refine Ru 1 rfl ?_
    refine JL.op z10_ rfl ?_
    refine Ru 1 rfl ?_
    refine JL.nil ?_
    refine Rg ?_
    refine Ru 1 rfl ?_
    refine JL.op ai_ rfl ?_
    refine Ru 1 rfl ?_
    refine JL.nil ?_
    refine ⟨_, ?_, _, ?_, ⟨i + 1, rfl, rfl, rfl, rfl, by omega⟩⟩
    ·
     omega
    repeat (first | exact trivial | refine ⟨rfl, ?_⟩ | refine ⟨(by exact some_int (by first | rfl | (rw [Nat.pow_succ]; omega))), ?_⟩)
   have hib : i = byteAt l 0 := (by omega); rw [hib]
   refine J.exit ?_
   refine Kp [1, 5, 7] rfl ?_
   refine J.seq ?_
   refine Sr ?_
   refine Ru 2 rfl ?_
   refine JL.nil ?_
   refine Cs rfl (fun hc30 => ?_) fun hc30 => ?_
   ·
    refine Sr ?_
    refine Ru 3 rfl ?_
    refine Nk [4, 1, 5, 7] rfl ?_
    exact J.retP (RetV.one rfl rfl) z0_ rfl
   refine J.skip ?_
   refine Sr ?_
   refine Ru 2 rfl ?_
   refine JL.op si_ rfl ?_
   refine JL.ope (RunE.index (m := l.length - 1) sl_22 rfl rfl (by omega) hl rfl (by omega)) rfl ?_
   rintro _ ⟨b31, o31, hi31, rfl, hE31⟩
   refine JL.op (RunV.ld_u8 ag_5 rfl (by assumption)) rfl ?_
   refine JL.op z17_ rfl ?_
   refine Ru 1 rfl ?_
   refine JL.op z22_ rfl ?_
   refine Ru 2 rfl ?_
   refine Nk [4] rfl ?_
   exact J.retP (RetV.one rfl rfl) z0_ rfl
  refine Sr ?_
  refine Ru 2 rfl ?_
  refine JL.nil ?_
  refine Cs rfl (fun hc33 => ?_) fun hc33 => ?_
  ·
   refine Sr ?_
   refine Ru 3 rfl ?_
   refine Nk [4] rfl ?_
   exact J.retP (RetV.one rfl rfl) z0_ rfl
  refine Sr ?_
  refine Ru 2 rfl ?_
  refine Nk [96, 18, 4, 1] rfl ?_
  refine Cs rfl (fun hc34 => ?_) fun hc34 => ?_
  ·
   refine Sr ?_
   refine Ru 1 rfl ?_
   refine JL.callP ca_135 rfl (roidtext_fn (by assumption) (by omega)) rfl ?_
   refine Ru 5 rfl ?_
   refine Nk [10, 4] rfl ?_
   refine Sr ?_
   refine Ru 3 rfl ?_
   refine JL.nil ?_
   exact J.retP (RetV.one rfl rfl) z0_ rfl
  refine Sr ?_
  refine Ru 2 rfl ?_
  refine JL.nil ?_
  refine Cs rfl (fun hc36 => ?_) fun hc36 => ?_
  ·
   refine Sr ?_
   refine Ru 1 rfl ?_
   refine JL.op (RunV.strB sb_22_9 rfl (by assumption) rfl) rfl ?_
   refine JL.callP ca_136 rfl (rutf8_fn _ _ (by omega)) rfl ?_
   refine Ru 1 rfl ?_
   refine Nk [4] rfl ?_
   exact J.retP (RetV.one rfl rfl) z0_ rfl
  refine Sr ?_
  refine Ru 2 rfl ?_
  refine Nk [110, 18, 4, 1] rfl ?_
  refine Cs rfl (fun hc38 => ?_) fun hc38 => ?_
  ·
   refine Sr ?_
   refine Ru 1 rfl ?_
   refine JL.op (RunV.strB sb_22_9 rfl (by assumption) rfl) rfl ?_
   refine JL.callP ca_137 rfl (rprint_fn _ _ (by omega)) rfl ?_
   refine Ru 1 rfl ?_
   refine Nk [4] rfl ?_
   exact J.retP (RetV.one rfl rfl) z0_ rfl
  refine Sr ?_
  refine Ru 2 rfl ?_
  refine JL.nil ?_
  refine Cs rfl (fun hc40 => ?_) fun hc40 => ?_
  ·
   refine Sr ?_
   refine Ru 1 rfl ?_
   refine JL.op (RunV.strB sb_22_9 rfl (by assumption) rfl) rfl ?_
   refine JL.callP ca_138 rfl (ria5_fn _ _ (by omega)) rfl ?_
   refine Ru 1 rfl ?_
   refine Nk [4] rfl ?_
   exact J.retP (RetV.one rfl rfl) z0_ rfl
  refine Sr ?_
  refine Ru 2 rfl ?_
  refine Nk [120, 18, 4, 1] rfl ?_
  refine Cs rfl (fun hc42 => ?_) fun hc42 => ?_
  ·
   refine Sr ?_
   refine Ru 1 rfl ?_
   refine JL.op (RunV.strB sb_22_9 rfl (by assumption) rfl) rfl ?_
   refine JL.callP ca_139 rfl (rpshort_fn _ _ (by omega)) rfl ?_
   refine Ru 5 rfl ?_
   refine Nk [12, 4] rfl ?_
   refine Sr ?_
   refine Ru 3 rfl ?_
   refine JL.nil ?_
   exact J.retP (RetV.one rfl rfl) z0_ rfl
  refine Sr ?_
  refine Ru 2 rfl ?_
  refine JL.nil ?_
  refine Cs rfl (fun hc44 => ?_) fun hc44 => ?_
  ·
   refine Sr ?_
   refine Ru 1 rfl ?_
   refine JL.op (RunV.strB sb_22_9 rfl (by assumption) rfl) rfl ?_
   refine JL.callP ca_140 rfl (rplong_fn _ _ (by omega)) rfl ?_
   refine Ru 7 rfl ?_
   refine Nk [15, 4] rfl ?_
   refine Sr ?_
   refine Ru 3 rfl ?_
   refine JL.nil ?_
   exact J.retP (RetV.one rfl rfl) z0_ rfl
  refine J.skip ?_
  refine Kp [4] rfl ?_
  refine Sr ?_
  refine Ru 1 rfl ?_
  refine JL.nil ?_
  exact J.retP (RetV.one rfl rfl) z0_ rfl
theorem below_cmp : ∀ (l r : List UInt8), belowB l r = decide (0 < Go.Lib.compareBytes r l)
  | [], [] => rfl
  | [], _ :: _ => rfl
  | _ :: _, [] => rfl
  | a :: l, b :: r => by
    have ih := below_cmp l r
    show (if a = b then belowB l r else decide (a < b)) = decide (0 < (if b < a then (-1 : Int) else if a < b then 1 else Go.Lib.compareBytes r l))
    by_cases h : a = b
    · subst h
      rw [if_pos rfl, if_neg (by simp [UInt8.lt_iff_toNat_lt]), if_neg (by simp [UInt8.lt_iff_toNat_lt]), ih]
    · rw [if_neg h]
      have hn : a.toNat ≠ b.toNat := fun e => h (UInt8.toNat_inj.1 e)
      by_cases h2 : b < a
      · rw [if_pos h2]
        rw [UInt8.lt_iff_toNat_lt] at h2
        exact decide_eq_decide.2 ⟨fun h3 => by rw [UInt8.lt_iff_toNat_lt] at h3; omega, fun h3 => by omega⟩
      · have h3 : a < b := by rw [UInt8.lt_iff_toNat_lt] at h2 ⊢; omega
        rw [if_neg h2, if_pos h3, decide_eq_true h3]; rfl
theorem put_cons {c t : Int} {bs : List UInt8} {ks : List Nd} (h : mayB c t true = true) (hb : bs.length = 0) : (Nd.mk c t true bs ks).put = (Nd.putL (decide (c = 0) && decide (t = 17)) ks none []).map (fun b => headB c t true b.length ++ b) := by
  have hn : bs = [] := List.eq_nil_of_length_eq_zero hb
  subst hn
  have hok : okN c t true [] ks = true := by unfold okN; rw [h]; simp
  simp only [Nd.put]
  rw [if_pos hok]
theorem put_prim {c t : Int} {bs : List UInt8} {ks : List Nd} (h : mayB c t false = true) (hk : ks.length = 0) : (Nd.mk c t false bs ks).put = if decide (c = 0) && !valB t bs then none else some (headB c t false bs.length ++ bs) := by
  have hn : ks = [] := List.eq_nil_of_length_eq_zero hk
  subst hn
  have hok : okN c t false bs [] = !(decide (c = 0) && !valB t bs) := by unfold okN; rw [h]; simp
  simp only [Nd.put]
  rw [hok]
  cases decide (c = 0) && !valB t bs <;> rfl
theorem put_bad {c t : Int} {k : Bool} {bs : List UInt8} {ks : List Nd} (h : ¬ (mayB c t k = true ∧ (k = true → bs.length = 0) ∧ (k = false → ks.length = 0))) : (Nd.mk c t k bs ks).put = none := by
  simp only [Nd.put]
  rw [if_neg]
  intro hok
  refine h ?_
  unfold okN at hok
  rw [Bool.and_eq_true, Bool.and_eq_true, Bool.and_eq_true] at hok
  obtain ⟨h1, h2, h3, _⟩ := hok
  refine ⟨h1, ?_, ?_⟩
  · rintro rfl
    simp at h2
    exact List.length_eq_zero_iff.2 h2
  · rintro rfl
    simp at h3
    exact List.length_eq_zero_iff.2 h3
theorem may_rng {c t : Int} {k : Bool} (h : mayB c t k = true) : (c = 0 ∨ c = 2) ∧ 0 ≤ t ∧ t ≤ 30 := by
  unfold mayB at h
  simp only [Bool.and_eq_true, Bool.or_eq_true, decide_eq_true_eq] at h
  obtain ⟨h1, h2⟩ := h
  exact ⟨by rcases h2 with h2 | h2; exact .inr h2; exact .inl h2.1, h1⟩
theorem rbytes_fn : ∀ (n : Nat) (x : Nd) (cs : List Value) (h : Part), x.rk ≤ n → NdR h cs x → x.sz ≤ 10000000 →
    FnR Tryz.prog 65 [.agg cs.toArray] h (fun v h' => ∃ a c, v = .tuple #[.slice a (x.put.getD []).length c, .bool x.put.isSome] ∧ SlR u8R 1 h' a c (x.put.getD [])) := by
  intro n
  induction n with
  | zero => intro x cs h hx; cases x; simp [Nd.rk] at hx
  | succ n ih =>
  intro x cs h hx r hsz
  cases x with
  | mk c t k bs ks =>
  obtain ⟨a, ca, b, cb, rfl, ha, hb⟩ := r.inv
  have hl := hb.big
  have hl2 := ha.big
  simp only [Nd.rk] at hx
  simp only [Nd.sz] at hsz
  have hkr : ∀ i (hi : i < ks.length), ks[i].rk ≤ n ∧ ks[i].sz ≤ Nd.szL ks := fun i hi => ⟨by have := Nd.rk_lt (List.getElem_mem hi); omega, Nd.sz_le (List.getElem_mem hi)⟩
  refine Fn.intro Tryz.func65 rfl Tryz.ntmps65 rfl (fun e he => ?_)
  refine J.weak [(0, _)] ⟨rfl, trivial⟩ ?_
  have hh0 := Part.le.refl h
  refine Sr ?_
  refine JL.box rfl rfl rfl (fun b1 => ?_)
  refine Ru 2 rfl ?_
  refine JL.nil ?_
  refine J.seq ?_
  refine J.seq ?_
  refine J.meet [(39, .bool (decide (¬ (mayB c t k = true ∧ (k = true → bs.length = 0) ∧ (k = false → ks.length = 0)))))] [(3, _), (2, _), (1, _)] ⟨rfl, rfl, rfl, trivial⟩ ?_ ?_
  ·
   refine Rg ?_
   refine Ru 1 rfl ?_
   refine JL.op (RunV.own1 ag_3 rfl mm_ rfl) rfl ?_
   refine Ru 1 rfl ?_
   refine JL.op (RunV.own1 ag_3 rfl mm_ rfl) rfl ?_
   refine Ru 1 rfl ?_
   refine JL.op (RunV.own1 ag_4 rfl mm_ rfl) rfl ?_
   refine JL.callP ca_102 rfl (rmay_fn _ _ _ _) rfl ?_
   refine Ru 2 rfl ?_
   refine Bs 19 rfl (fun hc3 => ?_) fun hc3 => ?_
   ·
    refine Ru 20 rfl ?_
    refine JL.nil ?_
    refine ⟨rfl, rfl, ?_⟩
    exact z40_
   refine Ru 1 rfl ?_
   refine JL.opg rfl rfl  (RunV.own1 ag_4 rfl mm_ rfl) rfl ?_
   refine Ru 1 rfl ?_
   refine Bs 22 rfl (fun hc4 => ?_) fun hc4 => ?_
   ·
    refine Ru 1 rfl ?_
    refine JL.opg rfl rfl  (RunV.own1 ag_22 rfl mm_ rfl) rfl ?_
    refine Ru 5 rfl ?_
    refine Bs 29 rfl (fun hc5 => ?_) fun hc5 => ?_
    ·
     refine Ru 10 rfl ?_
     refine JL.nil ?_
     refine ⟨rfl, rfl, ?_⟩
     exact z40_
    refine Ru 1 rfl ?_
    refine JL.opg rfl rfl  (RunV.own1 ag_4 rfl mm_ rfl) rfl ?_
    refine Ru 2 rfl ?_
    refine Bs 33 rfl (fun hc6 => ?_) fun hc6 => ?_
    ·
     refine Ru 1 rfl ?_
     refine JL.opg rfl rfl  (RunV.own1 ag_73 rfl mm_ rfl) rfl ?_
     refine Ru 4 rfl ?_
     refine JL.nil ?_
     refine ⟨rfl, rfl, ?_⟩
     exact z40_
    refine Ru 6 rfl ?_
    refine JL.nil ?_
    refine ⟨rfl, rfl, ?_⟩
    exact z40_
   refine Ru 8 rfl ?_
   refine JL.opg rfl rfl  (RunV.own1 ag_4 rfl mm_ rfl) rfl ?_
   refine Ru 2 rfl ?_
   refine Bs 33 rfl (fun hc7 => ?_) fun hc7 => ?_
   ·
    refine Ru 1 rfl ?_
    refine JL.opg rfl rfl  (RunV.own1 ag_73 rfl mm_ rfl) rfl ?_
    refine Ru 4 rfl ?_
    refine JL.nil ?_
    refine ⟨rfl, rfl, ?_⟩
    exact z40_
   refine Ru 6 rfl ?_
   refine JL.nil ?_
   refine ⟨rfl, rfl, ?_⟩
   exact z40_
  refine Cs rfl (fun hc8 => ?_) fun hc8 => ?_
  ·
   have hz := put_bad hc8
   refine Sr ?_
   refine Ru 2 rfl ?_
   refine JL.nil ?_
   rw [hz]; exact J.retR (RetV.two rfl rfl rfl) ⟨none, 0, rfl, SlR.nil_⟩
  obtain ⟨hm, hkb, hkk⟩ : mayB c t k = true ∧ (k = true → bs.length = 0) ∧ (k = false → ks.length = 0) := (by first | exact hc8 | exact Classical.not_not.1 hc8); have hrg := may_rng hm
  refine J.skip ?_
  refine Sr ?_
  refine Ru 1 rfl ?_
  refine JL.op (RunV.own1 ag_3 rfl mm_ rfl) rfl ?_
  refine JL.op z10_ rfl ?_
  refine Ru 1 rfl ?_
  refine JL.op (RunV.own1 ag_3 rfl mm_ rfl) rfl ?_
  refine JL.op ai_ rfl ?_
  refine Ru 1 rfl ?_
  refine Nk [4, 3, 2, 1] rfl ?_
  refine Sr ?_
  refine Ru 1 rfl ?_
  refine JL.op (RunV.own1 ag_22 rfl mm_ rfl) rfl ?_
  refine Ru 1 rfl ?_
  refine JL.nil ?_
  refine J.seq ?_
  refine Sr ?_
  refine Ru 1 rfl ?_
  refine JL.op (RunV.own1 ag_4 rfl mm_ rfl) rfl ?_
  refine JL.nil ?_
  refine Cs rfl (fun hc9 => ?_) fun hc9 => ?_
  ·
   subst hc9; have hbz := hkb rfl; have hpc := put_cons (bs := bs) (ks := ks) hm hbz
   refine Sr ?_
   refine Ru 1 rfl ?_
   refine JL.op ai_ rfl ?_
   refine Ru 1 rfl ?_
   refine Nk [4, 5, 3, 2, 1] rfl ?_
   refine Sr ?_
   refine Ru 1 rfl ?_
   refine JL.nil ?_
   refine Sr ?_
   refine JL.row_nil 5 1 ?_
   refine Ru 1 rfl ?_
   refine JL.nil ?_
   refine Sr ?_
   refine Ru 1 rfl ?_
   refine JL.nil ?_
   refine J.block ?_
   refine J.loop (fun t_ S_ h_ L_ => ∃ (g : Part) (i : Nat) (inB lb : List UInt8) (ai la : Option Addr) (ci lc : Nat), t_ = ks.length - i ∧ S_ = [(1, .pointer (some ⟨b1, 0, none⟩)), (4, .int .i64 (64 * c + t + 32)), (5, .slice ai inB.length ci), (6, .slice la lb.length lc), (7, .int .i64 i)] ∧ g = h_ ∧ L_ = [.row ai ci 5 1 inB.length (u8s inB), .blk b1 75 [.int .i64 c, .int .i64 t, .bool true, .slice a bs.length ca, .slice b ks.length cb]] ∧ (h.le g ∧ i ≤ ks.length ∧ SlR u8R 1 g la lc lb ∧ inB.length ≤ 8 * Nd.szL (ks.take i) ∧ Nd.putL (decide (c = 0) && decide (t = 17)) ks none [] = Nd.putL (decide (c = 0) && decide (t = 17)) (ks.drop i) (if i = 0 then none else some lb) inB)) ⟨_, _, ?_, ⟨_, 0, [], [], _, _, _, _, rfl, rfl, rfl, rfl, ⟨by assumption, by omega, SlR.nil_, by simp, rfl⟩⟩⟩ ?_
   ·
    exact z5_
   rintro _ _ _ _ ⟨g, i, inB, lb, ai, la, ci, lc, rfl, rfl, rfl, rfl, hhg, hi, hla, hil, hp⟩
   have r := r.mono hhg; have ha := ha.mono hhg; have hb := hb.mono hhg; have hst := Nd.szL_take_le ks i
   refine J.seq ?_
   refine Sr ?_
   refine Ru 2 rfl ?_
   refine JL.op (RunV.own1 ag_73 rfl mm_ rfl) rfl ?_
   refine Ru 2 rfl ?_
   refine JL.nil ?_
   refine Cs rfl (fun hc10 => ?_) fun hc10 => ?_
   ·
    have hi' : i < ks.length := (by omega); have hzt := Nd.szL_take ks i hi'; have hst2 := Nd.szL_take_le ks (i + 1); have hki := hkr i hi'; have hps := Nd.putL_step (decide (c = 0) && decide (t = 17)) ks i (if i = 0 then none else some lb) inB hi'
    refine J.skip ?_
    refine J.seq ?_
    refine J.block ?_
    refine Sr ?_
    refine Ru 1 rfl ?_
    refine JL.op (RunV.own1 ag_73 rfl mm_ rfl) rfl ?_
    refine Ru 1 rfl ?_
    refine JL.ope (RunE.index sl_73 rfl rfl z8_ (by assumption) rfl (by omega)) rfl ?_
    rintro _ ⟨b11, o11, hi11, rfl, hE11⟩
    refine JL.ope (RunE.loadA ag_75 rfl (by assumption)) rfl ?_
    rintro _ ⟨_, rfl, hNd12⟩
    refine JL.callR ca_65 rfl (ih (ks[i]'(by omega)) _ _ hki.1 (by assumption) (by omega)) rfl ?_
    rintro _ h13 hle13 ⟨ka, kc, rfl, hkS⟩
    replace r := r.mono hle13
    replace ha := ha.mono hle13
    replace hb := hb.mono hle13
    replace hhg := hhg.mono hle13
    replace hla := hla.mono hle13
    replace hNd12 := hNd12.mono hle13
    obtain ⟨kp, hkp⟩ : ∃ kp, kp = (ks[i]'(by omega)).put := ⟨_, rfl⟩; rw [← hkp] at hkS hps ⊢; obtain ⟨BB, hBB⟩ : ∃ BB, BB = (!kp.isSome || ((decide (c = 0) && decide (t = 17)) && (decide ((0 : Int) < i) && belowB (kp.getD []) lb))) := ⟨_, rfl⟩
    refine Ru 5 rfl ?_
    refine JL.nil ?_
    refine J.seq ?_
    refine J.seq ?_
    refine J.meet [(88, .bool BB)] [(9, _), (8, _), (67, _), (66, _), (59, _), (65, _), (64, _), (63, _), (62, _), (61, _), (60, _), (56, _), (55, _), (54, _), (53, _), (52, _), (1, _), (4, _), (5, _), (6, _), (7, _)] ⟨rfl, rfl, rfl, rfl, rfl, rfl, rfl, rfl, rfl, rfl, rfl, rfl, rfl, rfl, rfl, rfl, rfl, rfl, rfl, rfl, rfl, trivial⟩ ?_ ?_
    ·
     refine Rg ?_
     refine Ru 3 rfl ?_
     refine Bs 70 rfl (fun hc14 => ?_) fun hc14 => ?_
     ·
      refine Ru 18 rfl ?_
      refine JL.nil ?_
      refine ⟨rfl, rfl, ?_⟩
      exact z46_
     refine Ru 1 rfl ?_
     refine JL.opg rfl rfl  (RunV.own1 ag_3 rfl mm_ rfl) rfl ?_
     refine Ru 2 rfl ?_
     refine Bs 74 rfl (fun hc15 => ?_) fun hc15 => ?_
     ·
      refine Ru 1 rfl ?_
      refine JL.opg rfl rfl  (RunV.own1 ag_3 rfl mm_ rfl) rfl ?_
      refine Ru 3 rfl ?_
      refine Bs 79 rfl (fun hc16 => ?_) fun hc16 => ?_
      ·
       refine Ru 4 rfl ?_
       refine Bs 83 rfl (fun hc17 => ?_) fun hc17 => ?_
       ·
        refine Ru 2 rfl ?_
        refine JL.callPg rfl rfl  ca_103 rfl (below_fn (by assumption) (by assumption)) rfl ?_
        refine Ru 2 rfl ?_
        refine JL.nil ?_
        refine ⟨rfl, rfl, ?_⟩
        exact z46_
       refine Ru 5 rfl ?_
       refine JL.nil ?_
       refine ⟨rfl, rfl, ?_⟩
       exact z46_
      refine Ru 9 rfl ?_
      refine JL.nil ?_
      refine ⟨rfl, rfl, ?_⟩
      exact z46_
     refine Ru 14 rfl ?_
     refine JL.nil ?_
     refine ⟨rfl, rfl, ?_⟩
     exact z46_
    refine Cs rfl (fun hc19 => ?_) fun hc19 => ?_
    ·
     have hz : (Nd.mk c t true bs ks).put = none := (by rw [hpc, hp, hps]; rw [hc19] at hBB; cases kp with
       | none => rfl
       | some kb => show Option.map _ (if _ then _ else _) = _; rw [if_pos (by rw [above_if, ← below_cmp]; simpa using hBB.symm)]; rfl)
     refine Sr ?_
     refine Ru 2 rfl ?_
     refine JL.nil ?_
     rw [hz]; exact J.retR (RetV.two rfl rfl rfl) ⟨none, 0, rfl, SlR.nil_⟩
    rw [hc19] at hBB; obtain ⟨kb, hkb2⟩ : ∃ kb, kp = some kb := (by cases kp with
      | none => simp at hBB
      | some kb => exact ⟨kb, rfl⟩)
    subst hkb2; simp only [Option.getD_some] at hkS ⊢; have hcz : ((decide (c = 0) && decide (t = 17)) && (decide ((0 : Int) < i) && belowB kb lb)) = false := (by rw [Option.isSome_some, Bool.not_true, Bool.false_or] at hBB; exact hBB.symm); have hkl := Nd.put_len _ _ kb (Nat.le_refl _) hkp.symm
    refine J.skip ?_
    refine Sr ?_
    refine Ru 2 rfl ?_
    refine JL.append ap_22 rfl rfl CellsR.of_u8 rfl (by assumption) rfl dl_ z3_ rfl rfl (fun a20 c20 xs20 hC20 hN20 => ?_)
    obtain rfl := hC20.u8
    refine Ru 1 rfl ?_
    refine JL.nil ?_
    refine Rg ?_
    refine Ru 2 rfl ?_
    refine JL.nil ?_
    refine Rg ?_
    refine Ru 1 rfl ?_
    refine JL.op ai_ rfl ?_
    refine Ru 1 rfl ?_
    refine JL.nil ?_
    refine ⟨_, ?_, _, ?_, ⟨_, i + 1, inB ++ kb, kb, _, _, _, _, rfl, rfl, rfl, rfl, ⟨by assumption, by omega, by assumption, by rw [List.length_append, hzt]; omega, by rw [hp, hps]; show (if _ then _ else _) = _; rw [if_neg (by rw [above_if, ← below_cmp, hcz]; decide), if_neg (by omega)]⟩⟩⟩
    ·
     omega
    exact z5_
   refine J.pub (R := u8R) (l := inB) dl_ CellsR.of_u8 rfl (by omega) (fun h9 hle9 hP9 => ?_); replace hhg := hhg.mono hle9; replace r := r.mono hle9; replace hb := hb.mono hle9; replace hla := hla.mono hle9; clear ha; have ha := hP9; obtain ⟨TG, htg, hz⟩ : ∃ TG : Nat, 64 * c + t + 32 = TG ∧ (Nd.mk c t true bs ks).put = some ((UInt8.ofNat TG :: lenB inB.length) ++ inB) := ⟨tagN c t true, by unfold tagN; rw [if_pos rfl]; omega, by rw [hpc, hp, List.drop_of_length_le (by omega)]; rfl⟩; have hinl : inB.length ≤ 100000000 := (by omega)
   refine J.exit ?_
   refine Kp [4, 5] rfl ?_
   refine Sr ?_
   refine Ru 1 rfl ?_
   refine JL.op (RunV.toByte TG cv_3_5 rfl htg) rfl ?_
   refine JL.lit1 ap_22 zr_5 rfl rfl rfl rfl rfl (fun b21 => ?_)
   refine Ru 1 rfl ?_
   refine JL.nil ?_
   refine Sr ?_
   refine Ru 3 rfl ?_
   refine JL.callR ca_105 rfl (length_fn (by omega)) rfl ?_
   rintro _ h22 hle22 ⟨a22, c22, rfl, hS22⟩
   replace r := r.mono hle22
   replace ha := ha.mono hle22
   replace hb := hb.mono hle22
   replace hhg := hhg.mono hle22
   replace hla := hla.mono hle22
   have hlb9 : (lenB inB.length).length ≤ 8 := (by have := headB_len 0 0 false inB.length; unfold headB at this; simp only [List.length_cons] at this; omega)
   refine JL.rowL (l := [UInt8.ofNat TG]) (b := b21) dl_ (by first | rfl | kernel_rfl) (by first | decide | (simp; done)) ?_
   refine JL.append ap_22 rfl rfl CellsR.of_u8 rfl (by assumption) rfl dl_ z3_ rfl rfl (fun a23 c23 xs23 hC23 hN23 => ?_)
   obtain rfl := hC23.u8
   refine Ru 1 rfl ?_
   refine Nk [10, 5] rfl ?_
   refine Sr ?_
   refine Ru 2 rfl ?_
   refine JL.append ap_22 rfl rfl CellsR.of_u8 rfl (by assumption) rfl dl_ z3_ rfl rfl (fun a24 c24 xs24 hC24 hN24 => ?_)
   obtain rfl := hC24.u8
   refine JL.pub (R := u8R) (l := (UInt8.ofNat TG :: lenB inB.length) ++ inB) dl_ CellsR.of_u8 rfl z3_ (fun h25 hle25 hP25 => ?_)
   replace r := r.mono hle25
   replace ha := ha.mono hle25
   replace hb := hb.mono hle25
   replace hhg := hhg.mono hle25
   replace hla := hla.mono hle25
   replace hS22 := hS22.mono hle25
   refine Ru 2 rfl ?_
   refine Nk [3, 2] rfl ?_
   rw [hz]; exact J.retR (RetV.two rfl rfl rfl) ⟨_, _, rfl, by assumption⟩
  subst hc9; have hkz := hkk rfl; have hpp := put_prim (bs := bs) (ks := ks) hm hkz; have hhg := hh0
  refine J.seq ?_
  refine J.meet [(103, .bool (decide (c = 0) && !valB t bs))] [(5, _), (4, _), (3, _), (2, _)] ⟨rfl, rfl, rfl, rfl, trivial⟩ ?_ ?_
  ·
   refine Rg ?_
   refine Ru 1 rfl ?_
   refine JL.op (RunV.own1 ag_3 rfl mm_ rfl) rfl ?_
   refine Ru 2 rfl ?_
   refine Bs 96 rfl (fun hc26 => ?_) fun hc26 => ?_
   ·
    refine Ru 1 rfl ?_
    refine JL.opg rfl rfl  (RunV.own1 ag_3 rfl mm_ rfl) rfl ?_
    refine Ru 1 rfl ?_
    refine JL.opg rfl rfl  (RunV.own1 ag_22 rfl mm_ rfl) rfl ?_
    refine JL.callPg rfl rfl  ca_104 rfl (rvalue_fn (by assumption) (by omega)) rfl ?_
    refine Ru 2 rfl ?_
    refine JL.nil ?_
    refine ⟨rfl, rfl, ?_⟩
    repeat (first | exact trivial | refine ⟨rfl, ?_⟩ | refine ⟨(by exact some_bool (by simp_all)), ?_⟩)
   refine Ru 7 rfl ?_
   refine JL.nil ?_
   refine ⟨rfl, rfl, ?_⟩
   repeat (first | exact trivial | refine ⟨rfl, ?_⟩ | refine ⟨(by exact some_bool (by simp_all)), ?_⟩)
  refine Cs rfl (fun hc28 => ?_) fun hc28 => ?_
  ·
   have hz : (Nd.mk c t false bs ks).put = none := (by rw [hpp, if_pos (by simpa using hc28)])
   refine Sr ?_
   refine Ru 2 rfl ?_
   refine JL.nil ?_
   rw [hz]; exact J.retR (RetV.two rfl rfl rfl) ⟨none, 0, rfl, SlR.nil_⟩
  obtain ⟨inB, hinB⟩ : ∃ inB, inB = bs := ⟨_, rfl⟩; rw [← hinB]; rw [← hinB] at ha; obtain ⟨TG, htg, hz⟩ : ∃ TG : Nat, 64 * c + t = TG ∧ (Nd.mk c t false inB ks).put = some ((UInt8.ofNat TG :: lenB inB.length) ++ inB) := ⟨tagN c t false, by unfold tagN; rw [if_neg (by decide)]; omega, by rw [hinB, hpp, if_neg (by rw [Bool.not_eq_true]; first | exact hc28 | (simpa using hc28) | (cases hv : (decide (c = 0) && !valB t bs); rfl; exfalso; simp_all))]; rfl⟩; have hinl : inB.length ≤ 100000000 := (by rw [hinB]; omega)
  refine J.skip ?_
  refine Sr ?_
  refine Ru 1 rfl ?_
  refine JL.op (RunV.toByte TG cv_3_5 rfl htg) rfl ?_
  refine JL.lit1 ap_22 zr_5 rfl rfl rfl rfl rfl (fun b29 => ?_)
  refine Ru 1 rfl ?_
  refine Nk [10, 5, 3, 2] rfl ?_
  refine Sr ?_
  refine Ru 3 rfl ?_
  refine JL.callR ca_105 rfl (length_fn (by omega)) rfl ?_
  rintro _ h30 hle30 ⟨a30, c30, rfl, hS30⟩
  replace r := r.mono hle30
  replace ha := ha.mono hle30
  replace hb := hb.mono hle30
  have hlb9 : (lenB inB.length).length ≤ 8 := (by have := headB_len 0 0 false inB.length; unfold headB at this; simp only [List.length_cons] at this; omega)
  refine JL.rowL (l := [UInt8.ofNat TG]) (b := b29) dl_ (by first | rfl | kernel_rfl) (by first | decide | (simp; done)) ?_
  refine JL.append ap_22 rfl rfl CellsR.of_u8 rfl (by assumption) rfl dl_ z3_ rfl rfl (fun a31 c31 xs31 hC31 hN31 => ?_)
  obtain rfl := hC31.u8
  refine Ru 1 rfl ?_
  refine Nk [10, 5, 3, 2] rfl ?_
  refine Sr ?_
  refine Ru 2 rfl ?_
  refine JL.append ap_22 rfl rfl CellsR.of_u8 rfl (by assumption) rfl dl_ z3_ rfl rfl (fun a32 c32 xs32 hC32 hN32 => ?_)
  obtain rfl := hC32.u8
  refine JL.pub (R := u8R) (l := (UInt8.ofNat TG :: lenB inB.length) ++ inB) dl_ CellsR.of_u8 rfl z3_ (fun h33 hle33 hP33 => ?_)
  replace r := r.mono hle33
  replace ha := ha.mono hle33
  replace hb := hb.mono hle33
  replace hS30 := hS30.mono hle33
  refine Ru 2 rfl ?_
  refine Nk [3, 2] rfl ?_
  rw [hz]; exact J.retR (RetV.two rfl rfl rfl) ⟨_, _, rfl, by assumption⟩
theorem rbytes_fn' {x : Nd} {cs : List Value} {h : Part} (r : NdR h cs x) (hs : x.sz ≤ 10000000) : FnR Tryz.prog 65 [.agg cs.toArray] h (fun v h' => ∃ a c, v = .tuple #[.slice a (x.put.getD []).length c, .bool x.put.isSome] ∧ SlR u8R 1 h' a c (x.put.getD [])) := rbytes_fn _ x cs h (Nat.le_refl _) r hs
end Go.Proofs.YtmngjbefnloljaaGreatDoor
namespace Go.Proofs.YtmngjbefnloljaaGreatDoor
open Go Go.RowKit
set_option maxRecDepth 100000
theorem ca_22 : callT Tryz.prog 22 = true := by kernel_rfl
theorem mk_66 : mkT Tryz.prog 66 = some (63, .int .u64 0, 8) := by kernel_rfl
theorem number32_fn {a : Option Addr} {c n : Nat} {l : List UInt32} {h : Part} (hl : SlR u64R 1 h a c (l.map m64)) (hn : n = l.length) (hlen : l.length ≤ 1000000) : FnR Tryz.prog 58 [.slice a n c] h (fun v h' => ∃ a' c', v = .slice a' (toL (vL l)).length c' ∧ SlR u32R 1 h' a' c' (toL (vL l))) := by
  have hml : (l.map m64).length = l.length := List.length_map ..
  have := number_fn hl (fun i => by rw [d64_map]; exact d32_lt l i) (by omega)
  rw [hml, ← hn, cutZ_map, map_n32] at this
  exact this
def pw (i : Nat) : Nat := if i = 0 then 1 else 256 ^ ((i - 1) % 4 + 1)
theorem pw_next (i : Nat) : pw (i + 1) = 256 ^ (i % 4) * 256 := by unfold pw; rw [if_neg (by omega), Nat.add_sub_cancel, Nat.pow_succ]
theorem pw_keep (i : Nat) (h : i % 4 ≠ 0) : pw i = 256 ^ (i % 4) := by
  unfold pw; rw [if_neg (by omega)]; congr 1; omega
theorem rread_fn {a : Option Addr} {c : Nat} {l : List UInt8} {h : Part} (hl : SlR u8R 1 h a c l) (hlen : l.length ≤ 3000000) : FnR Tryz.prog 22 [.slice a l.length c] h (fun v h' => ∃ a' c', v = .slice a' (toL (beV l)).length c' ∧ SlR u32R 1 h' a' c' (toL (beV l))) := by
  refine Fn.intro Tryz.func22 rfl Tryz.ntmps22 rfl (fun e he => ?_)
  refine J.weak [(0, _)] ⟨rfl, trivial⟩ ?_
  have hh0 := Part.le.refl h
  refine Sr ?_
  refine Ru 1 rfl ?_
  refine JL.nil ?_
  refine Sr ?_
  refine Ru 2 rfl ?_
  refine JL.op z12_ rfl ?_
  refine JL.op ai_ rfl ?_
  refine JL.make1 mk_66 rfl rfl (m := l.length / 4 + 1) (by omega) (by omega) (by omega) rfl rfl (fun b1 => ?_); rw [ws_zero]
  refine Ru 1 rfl ?_
  refine Nk [3, 2, 0] rfl ?_
  refine Sr ?_
  refine Ru 1 rfl ?_
  refine JL.nil ?_
  refine J.seq ?_
  refine Sr ?_
  refine Ru 1 rfl ?_
  refine JL.nil ?_
  refine J.block ?_
  refine J.loop (fun t_ S_ h_ L_ => ∃ (i v : Nat), t_ = l.length - i ∧ S_ = [(0, .slice a l.length c), (3, .slice (some ⟨b1, 0, none⟩) (l.length / 4 + 1) (l.length / 4 + 1)), (4, .int .u64 (pw i : Nat)), (5, .int .i64 i)] ∧ h = h_ ∧ L_ = [.row (some ⟨b1, 0, none⟩) (l.length / 4 + 1) 63 1 (l.length / 4 + 1) (ws .u64 (digN (l.length / 4 + 1) v))] ∧ (i ≤ l.length ∧ v = beV (l.drop (l.length - i)))) ⟨_, _, ?_, ⟨0, 0, rfl, rfl, rfl, rfl, ⟨by omega, by simp [beV]⟩⟩⟩ ?_
  ·
   repeat (first | exact trivial | refine ⟨rfl, ?_⟩ | refine ⟨(by exact some_int (by rw [pw_next, Int.natCast_mul]; rfl)), ?_⟩)
  rintro _ _ _ _ ⟨i, v, rfl, rfl, rfl, rfl, hi, hv⟩
  refine J.seq ?_
  refine Sr ?_
  refine Ru 4 rfl ?_
  refine JL.nil ?_
  refine Cs rfl (fun hc2 => ?_) fun hc2 => ?_
  ·
   have hi' : i < l.length := (by omega); have hvl := beV_drop_lt l i (by omega); have hbl := byteAt_lt l (l.length - 1 - i); have hdb := digN_byte (l.length / 4 + 1) _ _ i hvl hbl (by omega); have hst := beV_drop l i hi'; have hd0 := digN_at (l.length / 4 + 1) (beV (l.drop (l.length - i))) (i / 4) (by omega); have hr4 := pow4 (i % 4) (by omega); have hbe := byteAt_eq l (l.length - 1 - i) (by omega); rw [← hv] at hvl hdb hst hd0; have hsb : 256 ^ (i % 4) * byteAt l (l.length - 1 - i) ≤ 4278190080 := (by rcases hr4 with e | e | e | e <;> rw [e] <;> omega); have hsum : v / 4294967296 ^ (i / 4) + byteAt l (l.length - 1 - i) * 256 ^ (i % 4) < 4294967296 := (by have := hdb.2; rcases hr4 with e | e | e | e <;> rw [e] at this ⊢ <;> omega); have hdd : d32 (digN (l.length / 4 + 1) v) (i / 4) = v / 4294967296 ^ (i / 4) := (by rw [hd0]; exact Nat.mod_eq_of_lt (by omega)); have hp16 : 256 ^ (i % 4) ≤ 16777216 := (by rcases hr4 with e | e | e | e <;> rw [e] <;> omega)
   refine J.skip ?_
   refine J.seq ?_
   refine J.block ?_
   refine J.seq ?_
   refine Sr ?_
   refine Ru 1 rfl ?_
   refine JL.op z22_ rfl ?_
   refine Ru 1 rfl ?_
   refine JL.nil ?_
   refine J.meet [(4, .int .u64 (256 ^ (i % 4) : Nat))] [(18, _), (17, _), (14, _), (13, _), (12, _), (11, _), (0, _), (3, _), (5, _)] ⟨rfl, rfl, rfl, rfl, rfl, rfl, rfl, rfl, rfl, trivial⟩ ?_ ?_
   ·
    refine Cs rfl (fun hc3 => ?_) fun hc3 => ?_
    ·
     refine Rg ?_
     refine Ru 1 rfl ?_
     refine JL.nil ?_
     refine ⟨rfl, rfl, ?_⟩
     repeat (first | exact trivial | refine ⟨rfl, ?_⟩ | refine ⟨(by exact some_int (by first | (rw [pw_keep i (by omega)]; done) | (rw [show i % 4 = 0 by omega]; rfl))), ?_⟩)
    refine J.skip ?_
    refine ⟨rfl, rfl, ?_⟩
    repeat (first | exact trivial | refine ⟨rfl, ?_⟩ | refine ⟨(by exact some_int (by first | (rw [pw_keep i (by omega)]; done) | (rw [show i % 4 = 0 by omega]; rfl))), ?_⟩)
   refine J.seq ?_
   refine J.held ([]) 22 mixed_ rfl (fun h00 => ?_)
   refine JH.take 0 rfl (by kernel_rfl) (by kernel_rfl) (by kernel_rfl) (fun _ _ _ _ hh => hh) (br_ h00) (RunV.move rfl) rfl ?_
   refine JH.take 1 rfl (by kernel_rfl) (by kernel_rfl) (by kernel_rfl) (fun _ _ _ _ hh => hh) (br_ h00) (RunV.move rfl) rfl ?_
   refine JH.take 2 rfl (by kernel_rfl) (by kernel_rfl) (by kernel_rfl) (fun _ _ _ _ hh => hh) (br_ h00) z12_ rfl ?_
   refine JH.take 3 rfl (by kernel_rfl) (by kernel_rfl) (by kernel_rfl) (fun _ _ _ _ hh => hh) (br_ h00) (RunV.move rfl) rfl ?_
   refine JH.take 4 rfl (by kernel_rfl) (by kernel_rfl) (by kernel_rfl) (fun _ _ _ _ hh => hh) (br_ h00) (RunV.move rfl) rfl ?_
   refine JH.take 5 rfl (by kernel_rfl) (by kernel_rfl) (by kernel_rfl) (fun _ _ _ _ hh => hh) (br_ h00) z12_ rfl ?_
   refine JH.take 6 rfl (by kernel_rfl) (by kernel_rfl) (by kernel_rfl) (fun _ _ _ _ hh => hh) (br_ h00) (RunV.index_at sl_66 (m := i / 4) rfl rfl (by omega) (by omega)) rfl ?_
   refine JH.take 8 rfl (by kernel_rfl) (by kernel_rfl) (by kernel_rfl) (fun _ _ _ _ hh => hh) (br_ h00) (RunV.move rfl) rfl ?_
   refine JH.take 9 rfl (by kernel_rfl) (by kernel_rfl) (by kernel_rfl) (fun _ _ _ _ hh => hh) (br_ h00) (RunV.move rfl) rfl ?_
   refine JH.take 10 rfl (by kernel_rfl) (by kernel_rfl) (by kernel_rfl) (fun _ _ _ _ hh => hh) (br_ h00) (RunV.move rfl) rfl ?_
   refine JH.take 11 rfl (by kernel_rfl) (by kernel_rfl) (by kernel_rfl) (fun _ _ _ _ hh => hh) (br_ h00) (RunV.len sl_22 rfl) rfl ?_
   refine JH.take 12 rfl (by kernel_rfl) (by kernel_rfl) (by kernel_rfl) (fun _ _ _ _ hh => hh) (br_ h00) si_ rfl ?_
   refine JH.take 13 rfl (by kernel_rfl) (by kernel_rfl) (by kernel_rfl) (fun _ _ _ _ hh => hh) (br_ h00) (RunV.move rfl) rfl ?_
   refine JH.take 14 rfl (by kernel_rfl) (by kernel_rfl) (by kernel_rfl) (fun _ _ _ _ hh => hh) (br_ h00) si_ rfl ?_
   refine JH.takeE 15 rfl (by kernel_rfl) (by kernel_rfl) (by kernel_rfl) (fun _ _ _ _ hh => hh) (br_ h00) (RunE.index (m := l.length - 1 - i) sl_22 rfl rfl (by omega) hl rfl (by omega)) rfl ?_
   rintro _ ⟨b8, o8, hi8, rfl, hE8⟩
   refine JH.take 16 rfl (by kernel_rfl) (by kernel_rfl) (by kernel_rfl) (fun _ _ _ _ hh => hh) (br_ h00) ((hbe ▸ RunV.ld_u8 ag_5 rfl hE8 : RunV _ _ _ _ _ _ (.int .u8 (byteAt l (l.length - 1 - i) : Nat)))) rfl ?_
   refine JH.take 17 rfl (by kernel_rfl) (by kernel_rfl) (by kernel_rfl) (fun _ _ _ _ hh => hh) (br_ h00) (RunV.conv_u64 cv_5_63 rfl (by omega) (by omega)) rfl ?_
   refine JH.take 18 rfl (by kernel_rfl) (by kernel_rfl) (by kernel_rfl) (fun _ _ _ _ hh => hh) (br_ h00) (RunV.mul_u64 rfl rfl z30_ z30_) rfl ?_
   refine JH.all1 7 (by kernel_rfl) rfl ?_
   unfold One
   refine JL.op (RunV.wload ag_63 rfl mm_ (by rw [digN_len]; omega)) rfl ?_
   refine JL.nil ⟨(br_ h00), ?_⟩
   refine JH.take 19 rfl (by kernel_rfl) (by kernel_rfl) (by kernel_rfl) (fun _ _ _ _ hh => hh) (br_ h00) (RunV.add_u64 rfl rfl z30_ z30_) rfl ?_
   refine JH.take 20 rfl (by kernel_rfl) (by kernel_rfl) (by kernel_rfl) (fun _ _ _ _ hh => hh) (br_ h00) (RunV.index_at sl_66 (m := i / 4) rfl rfl (by omega) (by omega)) rfl ?_
   refine JH.all1 21 (by kernel_rfl) rfl ?_
   unfold One
   refine JL.storeW (v / 4294967296 ^ (i / 4) + byteAt l (l.length - 1 - i) * 256 ^ (i % 4)) ag_63 rfl rfl (by rw [Nat.mod_eq_of_lt hsum, hdd, ← Int.natCast_mul, ← Int.natCast_add, Nat.mul_comm]) dl_ (by rw [digN_len]; omega) ?_
   rw [← hdb.1]
   refine JL.nil ⟨(br_ h00), ?_⟩
   refine JH.done (by kernel_rfl) ?_
   refine Rg ?_
   refine Ru 1 rfl ?_
   refine JL.op (RunV.mul_u64 rfl rfl (by omega) (by omega)) rfl ?_
   refine Ru 1 rfl ?_
   refine JL.nil ?_
   refine Rg ?_
   refine Ru 1 rfl ?_
   refine JL.op ai_ rfl ?_
   refine Ru 1 rfl ?_
   refine JL.nil ?_
   refine ⟨_, ?_, _, ?_, ⟨i + 1, v + byteAt l (l.length - 1 - i) * 256 ^ i, rfl, rfl, rfl, rfl, ⟨by omega, by rw [hst, Nat.add_comm]⟩⟩⟩
   ·
    omega
   repeat (first | exact trivial | refine ⟨rfl, ?_⟩ | refine ⟨(by exact some_int (by rw [pw_next, Int.natCast_mul]; rfl)), ?_⟩)
  refine J.exit ?_
  refine Kp [3] rfl ?_
  refine Sr ?_
  refine Ru 1 rfl ?_
  refine JL.pub64 dl_ (by rw [digN_len]) (by rw [digN_len]; omega) (fun h9 hle9 hP9 => ?_); replace hl := hl.mono hle9; replace hh0 := hh0.mono hle9; have hve : vL (digN (l.length / 4 + 1) v) = beV l := (by rw [vL_digN, hv, show l.length - i = 0 by omega, List.drop_zero]; refine Nat.mod_eq_of_lt (Nat.lt_of_lt_of_le (beV_lt l) ?_); rw [show (4294967296 : Nat) = 256 ^ 4 from rfl, ← Nat.pow_mul]; exact Nat.pow_le_pow_right (by decide) (by omega))
  refine JL.callR ca_58 rfl (number32_fn hP9 (by rw [digN_len]) (by rw [digN_len]; omega)) rfl ?_
  rintro _ h6 hle6 ⟨ra, rc, rfl, hR⟩
  replace hl := hl.mono hle6
  replace hh0 := hh0.mono hle6
  refine Ru 1 rfl ?_
  refine JL.nil ?_
  rw [hve] at hR ⊢; exact J.retR (RetV.one rfl rfl) ⟨_, _, rfl, hR⟩
end Go.Proofs.YtmngjbefnloljaaGreatDoor
namespace Go.Proofs.YtmngjbefnloljaaGreatDoor
open Go Go.RowKit
set_option maxRecDepth 100000
theorem ca_89 : callT Tryz.prog 89 = true := by kernel_rfl
theorem digs_eq (l : List UInt32) : digsB l = (toL (vL l)).map m64 := cutZ_map l
theorem rdigs_fn {a : Option Addr} {c : Nat} {l : List UInt32} {h : Part} (hl : SlR u32R 1 h a c l) (hlen : l.length ≤ 1000000) : FnR Tryz.prog 56 [.slice a l.length c] h (fun v h' => ∃ a' c', v = .slice a' (toL (vL l)).length c' ∧ SlR u64R 1 h' a' c' ((toL (vL l)).map m64)) := by
  have := digits32_fn hl hlen
  rw [digs_eq, List.length_map] at this
  exact this
theorem rcut_fn {a : Option Addr} {c n : Nat} {l : List UInt32} {h : Part} (hl : SlR u64R 1 h a c (l.map m64)) (hn : n = l.length) : FnR Tryz.prog 97 [.slice a n c] h (fun v h' => ∃ a' c', v = .slice a' (toL (vL l)).length c' ∧ SlR u64R 1 h' a' c' ((toL (vL l)).map m64)) := by
  have := cut_fn hl
  rw [cutZ_map, List.length_map, List.length_map, ← hn] at this
  exact this
theorem d64_mat (l : List UInt32) (i : Nat) (h : i < (l.map m64).length) : (((l.map m64)[i]'h).toNat : Int) = d32 l i := by rw [d64_at, d64_map]
theorem rtimes_fn {a b : Option Addr} {ca cb : Nat} {A B : List UInt32} {h : Part} (hA : SlR u64R 1 h a ca (A.map m64)) (hB : SlR u64R 1 h b cb (B.map m64)) (hlb : A.length ≤ 200000) (hrb : B.length ≤ 200000) : FnR Tryz.prog 89 [.slice a A.length ca, .slice b B.length cb] h (fun v h' => ∃ a c, v = .slice a (toL (vL A * vL B)).length c ∧ SlR u64R 1 h' a c ((toL (vL A * vL B)).map m64)) := by
  have hAl : (A.map m64).length = A.length := List.length_map ..
  have hBl : (B.map m64).length = B.length := List.length_map ..
  refine Fn.intro Tryz.func89 rfl Tryz.ntmps89 rfl (fun e he => ?_)
  refine J.weak [(0, _), (1, _)] ⟨rfl, rfl, trivial⟩ ?_
  have hh0 := Part.le.refl h
  refine Sr ?_
  refine Ru 1 rfl ?_
  refine JL.nil ?_
  refine Sr ?_
  refine Ru 4 rfl ?_
  refine JL.op ai_ rfl ?_
  refine JL.op ai_ rfl ?_
  refine JL.make1 mk_66 rfl rfl (m := A.length + B.length + 1) (by omega) (by omega) (by omega) rfl rfl (fun b1 => ?_); rw [ws_zero]
  refine Ru 1 rfl ?_
  refine Nk [5, 4, 0, 1] rfl ?_
  refine J.seq ?_
  refine Sr ?_
  refine Ru 1 rfl ?_
  refine JL.nil ?_
  refine J.block ?_
  refine J.loop (fun t_ S_ h_ L_ => ∃ (i : Nat) (out : List UInt32), t_ = A.length - i ∧ S_ = [(0, .slice a A.length ca), (1, .slice b B.length cb), (5, .slice (some ⟨b1, 0, none⟩) (A.length + B.length + 1) (A.length + B.length + 1)), (6, .int .i64 i)] ∧ h = h_ ∧ L_ = [.row (some ⟨b1, 0, none⟩) (A.length + B.length + 1) 63 1 (A.length + B.length + 1) (ws .u64 out)] ∧ (i ≤ A.length ∧ out.length = A.length + B.length + 1 ∧ vL out = vL (A.take i) * vL B)) ⟨_, _, ?_, ⟨0, _, rfl, rfl, rfl, rfl, ⟨by omega, digN_len _ _, by rw [vL_digN]; simp [vL]⟩⟩⟩ ?_
  ·
   exact z5_
  rintro _ _ _ _ ⟨i, out, rfl, rfl, rfl, rfl, hi, hol, hv⟩
  refine J.seq ?_
  refine Sr ?_
  refine Ru 4 rfl ?_
  refine JL.nil ?_
  refine Cs rfl (fun hc2 => ?_) fun hc2 => ?_
  ·
   have hi' : i < A.length := (by omega); have hz := vL_zero_above (l := out) (m := i + B.length) (by rw [hv]; exact mul_bound (vL_take_lt A i) (vL_lt B)) (i + B.length) (Nat.le_refl _); have hai := d32_lt A i
   refine J.skip ?_
   refine J.seq ?_
   refine J.block ?_
   refine Sr ?_
   refine Ru 1 rfl ?_
   refine JL.nil ?_
   refine J.seq ?_
   refine Sr ?_
   refine Ru 1 rfl ?_
   refine JL.nil ?_
   refine J.block ?_
   refine J.loop (fun t_ S_ h_ L_ => ∃ (k c : Nat) (o2 : List UInt32), t_ = B.length - k ∧ S_ = [(0, .slice a A.length ca), (1, .slice b B.length cb), (5, .slice (some ⟨b1, 0, none⟩) (A.length + B.length + 1) (A.length + B.length + 1)), (6, .int .i64 i), (7, .int .u64 c), (8, .int .i64 k)] ∧ h = h_ ∧ L_ = [.row (some ⟨b1, 0, none⟩) (A.length + B.length + 1) 63 1 (A.length + B.length + 1) (ws .u64 o2)] ∧ (k ≤ B.length ∧ o2.length = A.length + B.length + 1 ∧ c < 4294967296 ∧ d32 o2 (i + B.length) = 0 ∧ vL o2 + c * 4294967296 ^ (i + k) = vL out + d32 A i * vL (B.take k) * 4294967296 ^ i)) ⟨_, _, ?_, ⟨0, 0, out, rfl, rfl, rfl, rfl, ⟨by omega, hol, by omega, hz, by simp [vL]⟩⟩⟩ ?_
   ·
    exact z2_
   rintro _ _ _ _ ⟨k, c, o2, rfl, rfl, rfl, rfl, hk, ho2, hc, hz2, hv2⟩
   refine J.seq ?_
   refine Sr ?_
   refine Ru 4 rfl ?_
   refine JL.nil ?_
   refine Cs rfl (fun hc3 => ?_) fun hc3 => ?_
   ·
    have hk' : k < B.length := (by omega); have hbk := d32_lt B k; have hdo := d32_lt o2 (i + k); have hcl := carry_lt hc hai hbk hdo; have hst := mul_step (b := B) hk' (by omega) hv2; have ei := d64_mat A i (by omega); have ek := d64_mat B k (by omega); obtain ⟨xy, hxy⟩ : ∃ xy, xy = d32 A i * d32 B k := ⟨_, rfl⟩; rw [← hxy] at hcl hst
    refine J.skip ?_
    refine J.seq ?_
    refine J.block ?_
    refine J.seq ?_
    refine J.drawn mixed_ (by kernel_rfl) ?_
    refine Rq 4 rfl ?_
    refine JQ.op ai_ rfl ?_
    refine JQ.op (RunV.index_at sl_66 (m := i + k) rfl rfl (by omega) (by omega)) rfl ?_
    refine JQ.op (RunV.wload ag_63 rfl mm_ (by omega)) rfl ?_
    refine JQ.op (RunV.add_u64 rfl rfl (by omega) (by omega)) rfl ?_
    refine Rq 2 rfl ?_
    refine JQ.ope (RunE.index (m := i) sl_66 rfl rfl (by omega) hA hAl.symm (by omega)) rfl ?_
    rintro _ ⟨b4, o4, hi4, rfl, hE4⟩
    refine JQ.op (RunV.ld_u64 ag_63 rfl (by assumption)) rfl ?_
    rw [ei]
    refine Rq 2 rfl ?_
    refine JQ.ope (RunE.index (m := k) sl_66 rfl rfl (by omega) hB hBl.symm (by omega)) rfl ?_
    rintro _ ⟨b6, o6, hi6, rfl, hE6⟩
    refine JQ.op (RunV.ld_u64 ag_63 rfl (by assumption)) rfl ?_
    rw [ek]
    refine JQ.op (RunV.mul_u64 rfl rfl (by rw [← Int.natCast_mul, ← hxy]; omega) (by rw [← Int.natCast_mul, ← hxy]; omega)) rfl ?_
    rw [← Int.natCast_mul, ← hxy]
    refine JQ.op (RunV.add_u64 rfl rfl (by omega) (by omega)) rfl ?_
    rw [show (c : Int) + (d32 o2 (i + k) : Int) + (xy : Int) = ((c + xy + d32 o2 (i + k) : Nat) : Int) by omega]
    refine Rq 1 rfl ?_
    refine JQ.nil ?_
    refine Sr ?_
    refine Ru 3 rfl ?_
    refine JL.op ai_ rfl ?_
    refine Ru 1 rfl ?_
    refine JL.op z31_ rfl ?_
    refine JL.op (RunV.index_at sl_66 (m := i + k) rfl rfl (by omega) (by omega)) rfl ?_
    refine JL.storeW (c + xy + d32 o2 (i + k)) ag_63 rfl rfl (by omega) dl_ (by omega) ?_
    refine JL.nil ?_
    refine Rg ?_
    refine Ru 1 rfl ?_
    refine JL.op z16_ rfl ?_
    refine Ru 1 rfl ?_
    refine JL.nil ?_
    refine Rg ?_
    refine Ru 1 rfl ?_
    refine JL.op ai_ rfl ?_
    refine Ru 1 rfl ?_
    refine JL.nil ?_
    refine ⟨_, ?_, _, ?_, ⟨k + 1, (c + xy + d32 o2 (i + k)) / 4294967296, _, rfl, rfl, rfl, rfl, ⟨by omega, by rw [List.length_set]; exact ho2, by omega, by rw [d32_set _ _ _ _ (by omega), if_neg (by omega)]; exact hz2, hst⟩⟩⟩
    ·
     omega
    exact z2_
   have hke : k = B.length := (by omega); subst hke; have hrow := mul_row hi' (by omega) hz2 hc hv hv2
   refine J.exit ?_
   refine Rg ?_
   refine Ru 4 rfl ?_
   refine JL.op ai_ rfl ?_
   refine Ru 1 rfl ?_
   refine JL.op (RunV.index_at sl_66 (m := i + B.length) rfl rfl (by omega) (by omega)) rfl ?_
   refine JL.storeW c ag_63 rfl rfl (by omega) dl_ (by omega) ?_
   refine JL.nil ?_
   refine Rg ?_
   refine Ru 1 rfl ?_
   refine JL.op ai_ rfl ?_
   refine Ru 1 rfl ?_
   refine JL.nil ?_
   refine ⟨_, ?_, _, ?_, ⟨i + 1, _, rfl, rfl, rfl, rfl, ⟨by omega, by rw [List.length_set]; exact ho2, hrow⟩⟩⟩
   ·
    omega
   exact z5_
  have hie : i = A.length := (by omega); rw [hie, List.take_length] at hv
  refine J.exit ?_
  refine Kp [5] rfl ?_
  refine Sr ?_
  refine Ru 1 rfl ?_
  refine JL.pub64 dl_ hol.symm (by omega) (fun h9 hle9 hP9 => ?_); replace hh0 := hh0.mono hle9; replace hA := hA.mono hle9; replace hB := hB.mono hle9
  refine JL.callR ca_97 rfl (rcut_fn hP9 hol.symm) rfl ?_
  rintro _ h10 hle10 ⟨ra, rc, rfl, hR⟩
  replace hA := hA.mono hle10
  replace hB := hB.mono hle10
  replace hh0 := hh0.mono hle10
  refine Ru 1 rfl ?_
  refine JL.nil ?_
  rw [hv] at hR ⊢; exact J.retR (RetV.one rfl rfl) ⟨_, _, rfl, hR⟩
theorem rmul_fn {a b : Option Addr} {ca cb : Nat} {l r : List UInt32} {h : Part} (hl : SlR u32R 1 h a ca l) (hr : SlR u32R 1 h b cb r) (hlb : l.length ≤ 100000) (hrb : r.length ≤ 100000) : FnR Tryz.prog 51 [.slice a l.length ca, .slice b r.length cb] h (fun v h' => ∃ a c, v = .slice a (toL (vL l * vL r)).length c ∧ SlR u32R 1 h' a c (toL (vL l * vL r))) := by
  have n1 : (toL (vL l)).length ≤ 100000 := by rw [toL_len]; exact Nat.le_trans (nd_le _ _ (vL_lt l)) hlb
  have n2 : (toL (vL r)).length ≤ 100000 := by rw [toL_len]; exact Nat.le_trans (nd_le _ _ (vL_lt r)) hrb
  have n3 : (toL (vL l * vL r)).length ≤ 200000 := by
    rw [toL_len]
    exact Nat.le_trans (nd_le _ _ (mul_bound (vL_lt l) (vL_lt r))) (by omega)
  refine Fn.intro Tryz.func51 rfl Tryz.ntmps51 rfl (fun e he => ?_)
  refine J.weak [(0, _), (1, _)] ⟨rfl, rfl, trivial⟩ ?_
  have hh0 := Part.le.refl h
  refine Sr ?_
  refine Ru 1 rfl ?_
  refine JL.nil ?_
  refine Sr ?_
  refine Ru 1 rfl ?_
  refine JL.callR ca_56 rfl (rdigs_fn hl (by omega)) rfl ?_
  rintro _ h1 hle1 ⟨da, dc, rfl, hD⟩
  replace hl := hl.mono hle1
  replace hr := hr.mono hle1
  replace hh0 := hh0.mono hle1
  refine Ru 1 rfl ?_
  refine JL.callR ca_56 rfl (rdigs_fn hr (by omega)) rfl ?_
  rintro _ h2 hle2 ⟨ea, ec, rfl, hE⟩
  replace hl := hl.mono hle2
  replace hr := hr.mono hle2
  replace hh0 := hh0.mono hle2
  replace hD := hD.mono hle2
  refine JL.callR ca_89 rfl (rtimes_fn hD hE (by omega) (by omega)) rfl ?_
  rintro _ h3 hle3 ⟨ta, tc, rfl, hT⟩
  replace hl := hl.mono hle3
  replace hr := hr.mono hle3
  replace hh0 := hh0.mono hle3
  replace hD := hD.mono hle3
  replace hE := hE.mono hle3
  rw [vL_toL, vL_toL] at hT ⊢
  refine JL.callR ca_58 rfl (number32_fn hT rfl (by omega)) rfl ?_
  rintro _ h4 hle4 ⟨ra, rc, rfl, hR⟩
  replace hl := hl.mono hle4
  replace hr := hr.mono hle4
  replace hh0 := hh0.mono hle4
  replace hD := hD.mono hle4
  replace hE := hE.mono hle4
  replace hT := hT.mono hle4
  refine Ru 1 rfl ?_
  refine Nk [4] rfl ?_
  rw [vL_toL] at hR ⊢; exact J.retR (RetV.one rfl rfl) ⟨_, _, rfl, hR⟩
theorem rOf_fn {n : Nat} {h : Part} (hn : n < 18446744073709551616) : FnR Tryz.prog 53 [.int .u64 n] h (fun v h' => ∃ a c, v = .slice a (toL n).length c ∧ SlR u32R 1 h' a c (toL n)) := by
  have hv : vL (digN 2 n) = n := by rw [vL_digN]; exact Nat.mod_eq_of_lt (by simp only [Nat.reducePow]; omega)
  refine Fn.intro Tryz.func53 rfl Tryz.ntmps53 rfl (fun e he => ?_)
  refine J.weak [(0, _)] ⟨rfl, trivial⟩ ?_
  have hh0 := Part.le.refl h
  refine Sr ?_
  refine Ru 1 rfl ?_
  refine JL.nil ?_
  refine Sr ?_
  refine Ru 1 rfl ?_
  refine JL.op z31_ rfl ?_
  refine Ru 1 rfl ?_
  refine JL.op z16_ rfl ?_
  refine JL.lit1 ap_66 zr_63 rfl rfl rfl rfl rfl (fun b1 => ?_)
  refine JL.pubB (R := u64R) (sz := 1) (l := (digN 2 n).map m64) dl_ ((show CellsR u64R 1 _ [.int .u64 ((n : Int) % 4294967296), .int .u64 ((n : Int) / 4294967296)] ((digN 2 n).map m64) from (show ws .u64 (digN 2 n) = [.int .u64 ((n : Int) % 4294967296), .int .u64 ((n : Int) / 4294967296)] from by simp [ws, digN]; omega) ▸ CellsR.of_ws64)) z7_ (fun h2 hle2 hQ => ?_)
  replace hh0 := hh0.mono hle2
  refine JL.callR ca_58 rfl (number32_fn hQ (by rw [digN_len]) (by rw [digN_len]; decide)) rfl ?_
  rintro _ h3 hle3 ⟨ra, rc, rfl, hR⟩
  replace hh0 := hh0.mono hle3
  replace hQ := hQ.mono hle3
  refine Ru 1 rfl ?_
  refine Nk [2] rfl ?_
  rw [hv] at hR ⊢; exact J.retR (RetV.one rfl rfl) ⟨_, _, rfl, hR⟩
end Go.Proofs.YtmngjbefnloljaaGreatDoor
namespace Go.Proofs.YtmngjbefnloljaaGreatDoor
open Go Go.RowKit
set_option maxRecDepth 100000
theorem rshortly_fn {a : Option Addr} {c b : Nat} {l : List UInt32} {h : Part} (hl : SlR u64R 1 h a c (l.map m64)) (hb0 : 0 < b) (hb : b ≤ 4294967296) (hlb : l.length ≤ 1000000) : FnR Tryz.prog 124 [.slice a l.length c, .int .u64 b] h
    (fun v h' => ∃ a1 c1, v = .tuple #[.slice a1 (toL (vL l / b)).length c1, .int .u64 (vL l % b : Nat)] ∧ SlR u64R 1 h' a1 c1 ((toL (vL l / b)).map m64)) := by
  have hll : (l.map m64).length = l.length := List.length_map ..
  refine Fn.intro Tryz.func124 rfl Tryz.ntmps124 rfl (fun e he => ?_)
  refine J.weak [(0, _), (1, _)] ⟨rfl, rfl, trivial⟩ ?_
  have hh0 := Part.le.refl h
  refine Sr ?_
  refine Ru 2 rfl ?_
  refine JL.nil ?_
  refine Sr ?_
  refine Ru 2 rfl ?_
  refine JL.make1 mk_66 rfl rfl (m := l.length) (by omega) (by omega) (by omega) rfl rfl (fun b1 => ?_); rw [ws_zero]
  refine Ru 1 rfl ?_
  refine JL.nil ?_
  refine Sr ?_
  refine Ru 1 rfl ?_
  refine JL.nil ?_
  refine J.seq ?_
  refine Sr ?_
  refine Ru 2 rfl ?_
  refine JL.op si_ rfl ?_
  refine Ru 1 rfl ?_
  refine Nk [8, 7, 6, 5, 4, 0, 1] rfl ?_
  refine J.block ?_
  refine J.loop (fun t_ S_ h_ L_ => ∃ (j r : Nat) (out : List UInt32), t_ = j + 1 ∧ S_ = [(0, .slice a l.length c), (1, .int .u64 b), (6, .slice (some ⟨b1, 0, none⟩) l.length l.length), (7, .int .u64 r), (8, .int .i64 ((j : Int) - 1))] ∧ h = h_ ∧ L_ = [.row (some ⟨b1, 0, none⟩) l.length 63 1 l.length (ws .u64 out)] ∧ (j ≤ l.length ∧ out.length = l.length ∧ r = vL l / 4294967296 ^ j % b ∧ vL out = vL l / 4294967296 ^ j / b * 4294967296 ^ j)) ⟨_, _, ?_, ⟨l.length, 0, _, rfl, rfl, rfl, rfl, ⟨Nat.le_refl _, digN_len _ _, by rw [Nat.div_eq_of_lt (vL_lt l)]; simp, by rw [vL_digN, Nat.div_eq_of_lt (vL_lt l)]; simp⟩⟩⟩ ?_
  ·
   exact z2_
  rintro _ _ _ _ ⟨j, r, out, rfl, rfl, rfl, rfl, hj, hol, hr, hv⟩
  refine J.seq ?_
  refine Sr ?_
  refine Ru 2 rfl ?_
  refine JL.nil ?_
  refine Cs rfl (fun hc2 => ?_) fun hc2 => ?_
  ·
   obtain ⟨i, rfl⟩ : ∃ i, j = i + 1 := ⟨j - 1, by omega⟩; have bi := d32_lt l i; have ei := d64_mat l i (by omega); have hrb : r < b := (by rw [hr]; exact Nat.mod_lt _ hb0); obtain ⟨s1, s2⟩ := short_step (j := i) hb0 hr; rw [vL_digit] at s1 s2; obtain ⟨t, ht⟩ : ∃ t, t = r * 4294967296 + d32 l i := ⟨_, rfl⟩; rw [← ht] at s1 s2; have htq : t / b < 4294967296 := Nat.div_lt_of_lt_mul (by have := Nat.mul_le_mul_right 4294967296 (show r + 1 ≤ b by omega); omega); have hz : d32 out i = 0 := (by rw [← vL_digit, hv, Nat.pow_succ, Nat.mul_comm (4294967296 ^ i), ← Nat.mul_assoc, Nat.mul_div_cancel _ (Nat.pow_pos (by decide))]; exact Nat.mul_mod_left _ _); have hp := vL_put out i (t / b) (by omega); rw [hz, Nat.div_eq_of_lt htq] at hp; have ht64 : t < 18446744073709551616 := (by omega)
   refine J.skip ?_
   refine J.seq ?_
   refine J.block ?_
   refine Sr ?_
   refine Ru 1 rfl ?_
   refine JL.op z29_ rfl ?_
   refine Ru 2 rfl ?_
   refine JL.ope (RunE.index (m := i) sl_66 rfl rfl (by omega) hl hll.symm (by omega)) rfl ?_
   rintro _ ⟨b3, o3, hi3, rfl, hE3⟩
   refine JL.op (RunV.ld_u64 ag_63 rfl (by assumption)) rfl ?_
   rw [ei]
   refine JL.op (RunV.add_u64 rfl rfl (by omega) (by omega)) rfl ?_
   rw [show (r : Int) * 4294967296 + (d32 l i : Int) = (t : Int) by omega]
   refine Ru 1 rfl ?_
   refine JL.nil ?_
   refine Sr ?_
   refine Ru 4 rfl ?_
   refine JL.op (RunV.quo_u64 rfl rfl (by omega) (by omega) (by omega)) rfl ?_
   refine JL.op (RunV.index_at sl_66 (m := i) rfl rfl (by omega) (by omega)) rfl ?_
   refine JL.storeW (t / b) ag_63 rfl rfl (by rw [Nat.mod_eq_of_lt htq, Int.natCast_ediv]) dl_ (by omega) ?_
   refine JL.nil ?_
   refine Rg ?_
   refine Ru 2 rfl ?_
   refine JL.op (RunV.rem_u64 rfl rfl (by omega) (by omega)) rfl ?_
   rw [← Int.natCast_emod]
   refine Ru 1 rfl ?_
   refine JL.nil ?_
   refine Rg ?_
   refine Ru 1 rfl ?_
   refine JL.op si_ rfl ?_
   refine Ru 1 rfl ?_
   refine JL.nil ?_
   refine ⟨_, ?_, _, ?_, ⟨i, t % b, _, rfl, rfl, rfl, rfl, ⟨by omega, by rw [List.length_set]; exact hol, s2.symm, by rw [s1, Nat.add_mul, Nat.mul_assoc, Nat.mul_comm 4294967296, ← Nat.pow_succ, ← hv]; omega⟩⟩⟩
   ·
    omega
   exact z2_
  have hj0 : j = 0 := (by omega); subst hj0; rw [Nat.pow_zero, Nat.div_one] at hr hv; rw [Nat.mul_one] at hv
  refine J.exit ?_
  refine Kp [6, 7] rfl ?_
  refine Sr ?_
  refine Ru 1 rfl ?_
  refine JL.pub64 dl_ hol.symm (by omega) (fun h9 hle9 hP9 => ?_); replace hh0 := hh0.mono hle9; replace hl := hl.mono hle9
  refine JL.callR ca_97 rfl (rcut_fn hP9 hol.symm) rfl ?_
  rintro _ h6 hle6 ⟨ra, rc, rfl, hR⟩
  replace hl := hl.mono hle6
  replace hh0 := hh0.mono hle6
  refine Ru 3 rfl ?_
  refine Nk [5, 4] rfl ?_
  rw [hv] at hR ⊢; rw [hr]; exact J.retR (RetV.two rfl rfl rfl) ⟨_, _, rfl, hR⟩
theorem rabove_fn {g k n cr N w : Nat} {av : Option Addr} {cv : Nat} {l : List UInt32} {h : Part} (hl : SlR u64R 1 h av cv (l.map m64)) (hn : n = l.length) (hw : w < 4294967296 ^ (k + n + 1)) (hk : k + n < N) (hN : N ≤ 1000000) :
    Fn Tryz.prog 125 [.slice (some ⟨g, 0, none⟩) N cr, .int .i64 k, .slice av n cv] h [.row (some ⟨g, 0, none⟩) cr 63 1 N (ws .u64 (digN N w))]
      (Rets fun v _ Lo => v = .bool (decide (vL l * 4294967296 ^ k ≤ w)) ∧ Lo = [.row (some ⟨g, 0, none⟩) cr 63 1 N (ws .u64 (digN N w))]) := by
  have hll : (l.map m64).length = l.length := List.length_map ..
  have hdl : (digN N w).length = N := digN_len _ _
  have hdig : ∀ j, j < N → d32 (digN N w) j = w / 4294967296 ^ j % 4294967296 := fun j hj => digN_at N w j hj
  have hlt := vL_lt l
  rw [← hn] at hlt
  have htop := hdig (k + n) hk
  have hwd : w / 4294967296 ^ (k + n) < 4294967296 := Nat.div_lt_of_lt_mul (by rw [← Nat.pow_succ]; exact hw)
  rw [Nat.mod_eq_of_lt hwd] at htop
  have hBk : 0 < 4294967296 ^ k := Nat.pow_pos (by decide)
  have hcmp : decide (vL l * 4294967296 ^ k ≤ w) = decide (vL l ≤ w / 4294967296 ^ k) := decide_eq_decide.2 (Nat.le_div_iff_mul_le hBk).symm
  rw [hcmp]
  obtain ⟨Y, hY⟩ : ∃ Y, Y = w / 4294967296 ^ k := ⟨_, rfl⟩
  have hdY : ∀ j, k + j < N → d32 (digN N w) (k + j) = Y / 4294967296 ^ j % 4294967296 := fun j hj => by
    rw [hdig _ hj, hY, Nat.div_div_eq_div_mul, ← Nat.pow_add]
  have hYn : w / 4294967296 ^ (k + n) = Y / 4294967296 ^ n := by rw [hY, Nat.div_div_eq_div_mul, ← Nat.pow_add]
  rw [hYn] at htop
  rw [← hY]
  refine Fn.intro Tryz.func125 rfl Tryz.ntmps125 rfl (fun e he => ?_)
  refine J.weak [(0, _), (1, _), (2, _)] ⟨rfl, rfl, rfl, trivial⟩ ?_
  refine Sr ?_
  refine Ru 1 rfl ?_
  refine JL.nil ?_
  refine J.seq ?_
  refine Sr ?_
  refine Ru 4 rfl ?_
  refine JL.op ai_ rfl ?_
  refine JL.op (RunV.index_at sl_66 (m := k + n) rfl rfl (by omega) (by omega)) rfl ?_
  refine JL.op (RunV.wload ag_63 rfl mm_ (by omega)) rfl ?_
  refine Ru 1 rfl ?_
  refine Nk [15, 6, 0, 1, 2] rfl ?_
  refine Cs rfl (fun hc1 => ?_) fun hc1 => ?_
  ·
   have hge : vL l ≤ Y := (by rcases Nat.lt_or_ge Y (4294967296 ^ n) with h1 | h1; (rw [Nat.div_eq_of_lt h1] at htop; omega); omega)
   refine Sr ?_
   refine Ru 1 rfl ?_
   refine JL.nil ?_
   exact J.ret ⟨_, [_], _, (RetV.one rfl rfl), .cons .here .nil, _, rfl, by rw [decide_eq_true hge], rfl⟩
  have hYlt : Y / 4294967296 ^ n = 0 := (by omega); have hlz : vL l / 4294967296 ^ n = 0 := Nat.div_eq_of_lt hlt
  refine J.skip ?_
  refine J.seq ?_
  refine Sr ?_
  refine Ru 2 rfl ?_
  refine JL.op si_ rfl ?_
  refine Ru 1 rfl ?_
  refine Nk [7, 6, 0, 1, 2] rfl ?_
  refine J.block ?_
  refine J.loop (fun t_ S_ h_ L_ => ∃ (j : Nat), t_ = j + 1 ∧ S_ = [(0, .slice (some ⟨g, 0, none⟩) N cr), (1, .int .i64 k), (2, .slice av n cv), (7, .int .i64 ((j : Int) - 1))] ∧ h = h_ ∧ L_ = [.row (some ⟨g, 0, none⟩) cr 63 1 N (ws .u64 (digN N w))] ∧ (j ≤ n ∧ Y / 4294967296 ^ j = vL l / 4294967296 ^ j)) ⟨_, _, ?_, ⟨n, rfl, rfl, rfl, rfl, ⟨Nat.le_refl _, by omega⟩⟩⟩ ?_
  ·
   exact z2_
  rintro _ _ _ _ ⟨j, rfl, rfl, rfl, rfl, hj, he⟩
  refine J.seq ?_
  refine Sr ?_
  refine Ru 2 rfl ?_
  refine JL.nil ?_
  refine Cs rfl (fun hc2 => ?_) fun hc2 => ?_
  ·
   obtain ⟨i, rfl⟩ : ∃ i, j = i + 1 := ⟨j - 1, by omega⟩; have dl := div_low (vL l) i; have dy := div_low Y i; rw [vL_digit] at dl; rw [he] at dy; have hdi := hdY i (by omega); rw [← hdi] at dy; have ei := d64_mat l i (by omega)
   refine J.skip ?_
   refine J.seq ?_
   refine J.block ?_
   refine J.seq ?_
   refine J.drawn mixed_ (by kernel_rfl) ?_
   refine Rq 3 rfl ?_
   refine JQ.op ai_ rfl ?_
   refine JQ.op (RunV.index_at sl_66 (m := k + i) rfl rfl (by omega) (by omega)) rfl ?_
   refine JQ.op (RunV.wload ag_63 rfl mm_ (by omega)) rfl ?_
   refine Rq 2 rfl ?_
   refine JQ.ope (RunE.index (m := i) sl_66 rfl rfl (by omega) hl (by omega) (by omega)) rfl ?_
   rintro _ ⟨b3, o3, hi3, rfl, hE3⟩
   refine JQ.op (RunV.ld_u64 ag_63 rfl (by assumption)) rfl ?_
   rw [ei]
   refine Rq 1 rfl ?_
   refine JQ.nil ?_
   refine Cs rfl (fun hc5 => ?_) fun hc5 => ?_
   ·
    refine J.seq ?_
    refine J.drawn mixed_ (by kernel_rfl) ?_
    refine Rq 3 rfl ?_
    refine JQ.op ai_ rfl ?_
    refine JQ.op (RunV.index_at sl_66 (m := k + i) rfl rfl (by omega) (by omega)) rfl ?_
    refine JQ.op (RunV.wload ag_63 rfl mm_ (by omega)) rfl ?_
    refine Rq 2 rfl ?_
    refine JQ.ope (RunE.index (m := i) sl_66 rfl rfl (by omega) hl (by omega) (by omega)) rfl ?_
    rintro _ ⟨b6, o6, hi6, rfl, hE6⟩
    refine JQ.op (RunV.ld_u64 ag_63 rfl (by assumption)) rfl ?_
    rw [ei]
    refine Rq 2 rfl ?_
    refine JQ.nil ?_
    exact J.ret ⟨_, [_], _, (RetV.one rfl rfl), .cons .here .nil, _, rfl, congrArg Value.bool (by rcases Nat.lt_or_ge (d32 l i) (d32 (digN N w) (k + i)) with h1 | h1; (have := lt_of_div (x := vL l) (y := Y) (d := 4294967296 ^ i) (by omega); rw [decide_eq_true (by omega), decide_eq_true (by omega)]); (have := lt_of_div (x := Y) (y := vL l) (d := 4294967296 ^ i) (by omega); rw [decide_eq_false (by omega), decide_eq_false (by omega)])), rfl⟩
   refine J.skip ?_
   refine Rg ?_
   refine Ru 1 rfl ?_
   refine JL.op si_ rfl ?_
   refine Ru 1 rfl ?_
   refine JL.nil ?_
   refine ⟨_, ?_, _, ?_, ⟨i, rfl, rfl, rfl, rfl, ⟨by omega, by omega⟩⟩⟩
   ·
    omega
   exact z2_
  have hj0 : j = 0 := (by omega); subst hj0; rw [Nat.pow_zero, Nat.div_one, Nat.div_one] at he
  refine J.exit ?_
  refine Kp [] rfl ?_
  refine Sr ?_
  refine Ru 1 rfl ?_
  refine JL.nil ?_
  exact J.ret ⟨_, [_], _, (RetV.one rfl rfl), .cons .here .nil, _, rfl, by rw [decide_eq_true (by omega)], rfl⟩
theorem dig_fn {a : Option Addr} {c i n : Nat} {l : List UInt32} {h : Part} (hl : SlR u64R 1 h a c (l.map m64)) (hn : n = l.length) : Pure Tryz.prog 57 [.slice a n c, .int .i64 i] h (.int .u64 (d32 l i : Nat)) := by
  have := digit_fn (i := i) hl
  rw [List.length_map, d64_map] at this
  rw [hn]; exact this
theorem rtake_fn {g k n cr N w gg : Nat} {av : Option Addr} {cv : Nat} {l : List UInt32} {h : Part} (hl : SlR u64R 1 h av cv (l.map m64)) (hn : n = l.length) (hw : w < 4294967296 ^ (k + n + 1)) (hk : k + n < N) (hN : N ≤ 1000000) (hg : gg < 4294967296) (hle : gg * (vL l * 4294967296 ^ k) ≤ w) :
    Fn Tryz.prog 126 [.slice (some ⟨g, 0, none⟩) N cr, .int .i64 k, .slice av n cv, .int .u64 gg] h [.row (some ⟨g, 0, none⟩) cr 63 1 N (ws .u64 (digN N w))]
      (Rets fun v _ Lo => v = .tuple #[] ∧ Lo = [.row (some ⟨g, 0, none⟩) cr 63 1 N (ws .u64 (digN N (w - gg * (vL l * 4294967296 ^ k))))]) := by
  have hll : (l.map m64).length = l.length := List.length_map ..
  have hdl : (digN N w).length = N := digN_len _ _
  have hvw : vL (digN N w) = w := by rw [vL_digN]; exact Nat.mod_eq_of_lt (Nat.lt_of_lt_of_le hw (Nat.pow_le_pow_right (by decide) (by omega)))
  have hzD : ∀ j, k + n < j → d32 (digN N w) j = 0 := fun j hj => vL_zero_above (m := k + n + 1) (by rw [vL_digN]; exact Nat.lt_of_le_of_lt (Nat.mod_le _ _) hw) j (by omega)
  refine Fn.intro Tryz.func126 rfl Tryz.ntmps126 rfl (fun e he => ?_)
  refine J.weak [(0, _), (1, _), (2, _), (3, _)] ⟨rfl, rfl, rfl, rfl, trivial⟩ ?_
  have hh0 := Part.le.refl h
  refine Sr ?_
  refine Ru 2 rfl ?_
  refine JL.nil ?_
  refine Sr ?_
  refine Ru 1 rfl ?_
  refine JL.nil ?_
  refine J.block ?_
  refine J.loop (fun t_ S_ h_ L_ => ∃ (i c b : Nat) (U : List UInt32), t_ = n + 1 - i ∧ S_ = [(0, .slice (some ⟨g, 0, none⟩) N cr), (1, .int .i64 k), (2, .slice av n cv), (3, .int .u64 gg), (8, .int .u64 c), (9, .int .u64 b), (10, .int .i64 i)] ∧ h = h_ ∧ L_ = [.row (some ⟨g, 0, none⟩) cr 63 1 N (ws .u64 U)] ∧ (i ≤ n + 1 ∧ U.length = N ∧ c < 4294967296 ∧ b ≤ 1 ∧ (∀ j, k + i ≤ j → d32 U j = d32 (digN N w) j) ∧ vL U + gg * vL (l.take i) * 4294967296 ^ k = w + (c + b) * 4294967296 ^ (k + i))) ⟨_, _, ?_, ⟨0, 0, 0, digN N w, rfl, rfl, rfl, rfl, ⟨by omega, hdl, by omega, by omega, fun _ _ => rfl, by rw [hvw]; simp [vL]⟩⟩⟩ ?_
  ·
   exact z2_
  rintro _ _ _ _ ⟨i, c, b, U, rfl, rfl, rfl, rfl, hi, hUl, hc, hb, hUj, hv⟩
  refine J.seq ?_
  refine Sr ?_
  refine Ru 4 rfl ?_
  refine JL.nil ?_
  refine Cs rfl (fun hc1 => ?_) fun hc1 => ?_
  ·
   have hi' : i ≤ n := (by omega); have bi := d32_lt l i; have bu := d32_lt U (k + i); have hCl := carry_lt hc hg bi (show 0 < 4294967296 by decide); obtain ⟨C, hC⟩ : ∃ C, C = c + gg * d32 l i := ⟨_, rfl⟩; have hC64 : C < 18446744073709551616 := (by omega); obtain ⟨dd, hdd⟩ : ∃ dd : Nat, dd = 4294967296 + d32 U (k + i) - C % 4294967296 - b := ⟨_, rfl⟩; obtain ⟨ee, hee⟩ : ∃ ee : Nat, ee = if dd < 4294967296 then 1 else 0 := ⟨_, rfl⟩; have he1 : ee ≤ 1 := (by rw [hee]; split <;> omega); have hre : d32 U (k + i) + ee * 4294967296 = b + C % 4294967296 + dd % 4294967296 := (by rw [hee]; split <;> omega); have hrB : dd % 4294967296 < 4294967296 := (by omega); rw [hC] at hre; have hst := sub_step (g := gg) (by omega) hv hrB hre; rw [← hC] at hst hre
   refine J.skip ?_
   refine J.seq ?_
   refine J.block ?_
   refine Sr ?_
   refine Ru 4 rfl ?_
   refine JL.callP ca_57 rfl (dig_fn hl hn) rfl ?_
   refine JL.op (RunV.mul_u64 rfl rfl z30_ z30_) rfl ?_
   refine JL.op (RunV.add_u64 rfl rfl z30_ z30_) rfl ?_
   rw [show (c : Int) + (gg : Int) * (d32 l i : Int) = (C : Int) by rw [hC, Int.natCast_add, Int.natCast_mul]]
   refine Ru 1 rfl ?_
   refine JL.nil ?_
   refine Sr ?_
   refine Ru 3 rfl ?_
   refine JL.op ai_ rfl ?_
   refine JL.op (RunV.index_at sl_66 (m := k + i) rfl rfl (by omega) (by omega)) rfl ?_
   refine JL.op (RunV.wload ag_63 rfl mm_ (by omega)) rfl ?_
   refine JL.op z20_ rfl ?_
   refine Ru 1 rfl ?_
   refine JL.op z31_ rfl ?_
   refine JL.op z33_ rfl ?_
   refine Ru 1 rfl ?_
   refine JL.op z33_ rfl ?_
   rw [show (4294967296 : Int) + (d32 U (k + i) : Int) - (C : Int) % 4294967296 - (b : Int) = (dd : Int) by omega]
   refine Ru 1 rfl ?_
   refine JL.nil ?_
   refine Sr ?_
   refine Ru 1 rfl ?_
   refine JL.op z16_ rfl ?_
   refine Ru 1 rfl ?_
   refine JL.nil ?_
   refine Sr ?_
   refine Ru 1 rfl ?_
   refine JL.nil ?_
   refine J.seq ?_
   refine Sr ?_
   refine Ru 2 rfl ?_
   refine JL.nil ?_
   refine J.meet [(9, .int .u64 ee)] [(39, _), (8, _), (38, _), (37, _), (11, _), (36, _), (35, _), (34, _), (33, _), (32, _), (31, _), (30, _), (29, _), (28, _), (27, _), (26, _), (25, _), (24, _), (23, _), (22, _), (21, _), (20, _), (19, _), (18, _), (15, _), (14, _), (13, _), (12, _), (0, _), (1, _), (2, _), (3, _), (10, _)] ⟨rfl, rfl, rfl, rfl, rfl, rfl, rfl, rfl, rfl, rfl, rfl, rfl, rfl, rfl, rfl, rfl, rfl, rfl, rfl, rfl, rfl, rfl, rfl, rfl, rfl, rfl, rfl, rfl, rfl, rfl, rfl, rfl, rfl, trivial⟩ ?_ ?_
   ·
    refine Cs rfl (fun hc3 => ?_) fun hc3 => ?_
    ·
     refine Rg ?_
     refine Ru 1 rfl ?_
     refine JL.nil ?_
     refine ⟨rfl, rfl, ?_⟩
     repeat (first | exact trivial | refine ⟨rfl, ?_⟩ | refine ⟨(by exact some_int (by rw [hee]; split <;> omega)), ?_⟩)
    refine J.skip ?_
    refine ⟨rfl, rfl, ?_⟩
    repeat (first | exact trivial | refine ⟨rfl, ?_⟩ | refine ⟨(by exact some_int (by rw [hee]; split <;> omega)), ?_⟩)
   refine Rg ?_
   refine Ru 3 rfl ?_
   refine JL.op ai_ rfl ?_
   refine Ru 1 rfl ?_
   refine JL.op z31_ rfl ?_
   refine JL.op (RunV.index_at sl_66 (m := k + i) rfl rfl (by omega) (by omega)) rfl ?_
   refine JL.storeW (dd % 4294967296) ag_63 rfl rfl (by omega) dl_ (by omega) ?_
   refine JL.nil ?_
   refine Rg ?_
   refine Ru 1 rfl ?_
   refine JL.op ai_ rfl ?_
   refine Ru 1 rfl ?_
   refine JL.nil ?_
   refine ⟨_, ?_, _, ?_, ⟨i + 1, C / 4294967296, ee, _, rfl, rfl, rfl, rfl, ⟨by omega, by rw [List.length_set]; exact hUl, by omega, he1, fun j hj => by rw [d32_set _ _ _ _ (by omega), if_neg (by omega)]; exact hUj j (by omega), hst⟩⟩⟩
   ·
    omega
   exact z2_
  have hie : i = n + 1 := (by omega); subst hie; rw [List.take_of_length_le (by omega), Nat.mul_assoc] at hv; have hok := take_ok (n := n) hUl hv (fun j hj => by rw [hUj j (by omega)]; exact hzD j hj) hle
  refine J.exit ?_
  exact ⟨_, [_], _, (RetV.none_ rfl), .cons .here .nil, _, rfl, rfl, by rw [hok]⟩
end Go.Proofs.YtmngjbefnloljaaGreatDoor
namespace Go.Proofs.YtmngjbefnloljaaGreatDoor
open Go Go.RowKit
set_option maxRecDepth 100000
theorem ca_124 : callT Tryz.prog 124 = true := by kernel_rfl
theorem ca_125 : callT Tryz.prog 125 = true := by kernel_rfl
theorem ca_126 : callT Tryz.prog 126 = true := by kernel_rfl
theorem rtimes_fn' {a b : Option Addr} {ca cb n m : Nat} {A B : List UInt32} {h : Part} (hA : SlR u64R 1 h a ca (A.map m64)) (hB : SlR u64R 1 h b cb (B.map m64)) (hn : n = A.length) (hm : m = B.length) (hlb : A.length ≤ 200000) (hrb : B.length ≤ 200000) : FnR Tryz.prog 89 [.slice a n ca, .slice b m cb] h (fun v h' => ∃ a c, v = .slice a (toL (vL A * vL B)).length c ∧ SlR u64R 1 h' a c ((toL (vL A * vL B)).map m64)) := by
  subst hn hm; exact rtimes_fn hA hB hlb hrb
theorem rshortly_fn' {a : Option Addr} {c b n : Nat} {l : List UInt32} {h : Part} (hl : SlR u64R 1 h a c (l.map m64)) (hn : n = l.length) (hb0 : 0 < b) (hb : b ≤ 4294967296) (hlb : l.length ≤ 1000000) : FnR Tryz.prog 124 [.slice a n c, .int .u64 b] h
    (fun v h' => ∃ a1 c1, v = .tuple #[.slice a1 (toL (vL l / b)).length c1, .int .u64 (vL l % b : Nat)] ∧ SlR u64R 1 h' a1 c1 ((toL (vL l / b)).map m64)) := by
  subst hn; exact rshortly_fn hl hb0 hb hlb
theorem vL_one (f : Nat) (h : f < 4294967296) : vL (digN 1 f) = f := by
  rw [vL_digN]; exact Nat.mod_eq_of_lt (by omega)
theorem ws_one (f : Nat) (h : f < 4294967296) : ws .u64 (digN 1 f) = [.int .u64 f] := by
  simp [ws, digN]; omega
theorem cells_one {h : Part} (f : Nat) (hf : f < 4294967296) : CellsR u64R 1 h [.int .u64 f] ((digN 1 f).map m64) := ws_one f hf ▸ CellsR.of_ws64
theorem copy_step {U P : List UInt32} {i N : Nat} (hN : U.length = N) (h : vL U = vL (P.take i)) (hi : i < N) : vL (U.set i (UInt32.ofNat (d32 P i))) = vL (P.take (i + 1)) := by
  have hz : d32 U i = 0 := vL_zero_above (m := i) (by rw [h]; exact vL_take_lt P i) i (Nat.le_refl _)
  have hp := vL_put U i (d32 P i) (by omega)
  rw [hz, Nat.div_eq_of_lt (d32_lt _ _), Nat.zero_mul, Nat.zero_mul] at hp
  rw [vL_take_succ]; omega
theorem take_mod {z V D g W : Nat} (h : g * (V * D) ≤ z) (e : z % V = W % V) : (z - g * (V * D)) % V = W % V := by
  have e1 : g * (V * D) = V * (g * D) := by grind
  rw [e1] at h ⊢
  rw [Nat.sub_mul_mod h]; exact e
theorem rest_end {X Y M f w : Nat} (hf : 0 < f) (hM : 0 < M) (h : w < M * f) (e : w % (M * f) = X * f * Y % (M * f)) : w / f = X * Y % M := by
  rw [Nat.mod_eq_of_lt h, show X * f * Y = X * Y * f by grind, Nat.mul_mod_mul_right] at e
  rw [e]; exact Nat.mul_div_cancel _ hf
theorem u_digs {z NN i n V : Nat} (hn1 : 1 ≤ n) (hV : V < 4294967296 ^ n) (hz : z < V * 4294967296 ^ (i + 1)) (hN : i + n < NN) : z < 4294967296 ^ (i + n + 1) ∧ d32 (digN NN z) (i + n) * 4294967296 + d32 (digN NN z) (i + n - 1) = z / 4294967296 ^ (i + (n - 1)) := by
  have h1 : z < 4294967296 ^ (i + n + 1) := by
    refine Nat.lt_of_lt_of_le hz ?_
    rw [show i + n + 1 = n + (i + 1) by omega, Nat.pow_add 4294967296 n (i + 1)]
    exact Nat.mul_le_mul_right _ (Nat.le_of_lt hV)
  refine ⟨h1, ?_⟩
  rw [digN_at _ _ _ (by omega), digN_at _ _ _ (by omega)]
  have e1 : z / 4294967296 ^ (i + n) = z / 4294967296 ^ (i + (n - 1)) / 4294967296 := by
    rw [Nat.div_div_eq_div_mul, ← Nat.pow_succ]; congr 2; omega
  have h2 : z / 4294967296 ^ (i + n) < 4294967296 := Nat.div_lt_of_lt_mul (by rw [← Nat.pow_succ]; exact h1)
  rw [Nat.mod_eq_of_lt h2, e1, show i + n - 1 = i + (n - 1) by omega]
  omega
theorem top_dig {V : List UInt32} {n : Nat} (hn : n = V.length) (hn1 : 1 ≤ n) : d32 V (n - 1) = vL V / 4294967296 ^ (n - 1) := by
  rw [← vL_digit]
  refine Nat.mod_eq_of_lt (Nat.div_lt_of_lt_mul ?_)
  rw [← Nat.pow_succ, show (n - 1).succ = n by omega, hn]; exact vL_lt V
theorem guess_pack {z NN i n q : Nat} {V : List UInt32} (hn : n = V.length) (hn1 : 1 ≤ n) (hz : z < vL V * 4294967296 ^ (i + 1)) (hN : i + n < NN) (hab : vL V * 4294967296 ^ i ≤ z) (hV0 : 0 < vL V)
    (hq : q = (d32 (digN NN z) (i + n) * 4294967296 + d32 (digN NN z) (i + n - 1)) / (d32 V (n - 1) + 1)) :
    q < 4294967296 ∧ (if q = 0 then 1 else q) < 4294967296 ∧ (if q = 0 then 1 else q) * (vL V * 4294967296 ^ i) ≤ z ∧ z - (if q = 0 then 1 else q) * (vL V * 4294967296 ^ i) < z ∧ z < 4294967296 ^ (i + n + 1) := by
  have hlt := vL_lt V
  rw [← hn] at hlt
  obtain ⟨h1, h2⟩ := u_digs hn1 hlt hz hN
  rw [h2, top_dig hn hn1] at hq
  have hg := guess_ref z (vL V) i (n - 1)
  rw [← hq] at hg
  have hD : 0 < vL V * 4294967296 ^ i := Nat.mul_pos hV0 (Nat.pow_pos (by decide))
  rw [Nat.pow_succ, ← Nat.mul_assoc] at hz
  generalize vL V * 4294967296 ^ i = D at *
  have hqB : q < 4294967296 := by
    rcases Nat.lt_or_ge q 4294967296 with h | h
    · exact h
    · have := Nat.mul_le_mul_right D h
      rw [Nat.mul_comm D] at hz; omega
  have hg2 : (if q = 0 then 1 else q) * D ≤ z := by split <;> simp_all
  have hg3 : 0 < (if q = 0 then 1 else q) * D := Nat.mul_pos (by split <;> omega) hD
  exact ⟨hqB, by split <;> omega, hg2, by omega, h1⟩
set_option maxHeartbeats 1000000 in
theorem rest_fn {a b d : Option Addr} {ca cb cd M f n na nb : Nat} {A B V : List UInt32} {h : Part} (hA : SlR u64R 1 h a ca (A.map m64)) (hB : SlR u64R 1 h b cb (B.map m64)) (hV : SlR u64R 1 h d cd (V.map m64)) (hna : na = A.length) (hnb : nb = B.length) (hn : n = V.length) (hn1 : 1 ≤ n)
    (hf0 : 0 < f) (hf : f < 4294967296) (hM : 0 < M) (hvV : vL V = M * f) (hVn : 4294967296 ^ (n - 1) ≤ vL V) (hlA : A.length ≤ 100000) (hlB : B.length ≤ 100000) (hlV : V.length ≤ 100000) :
    FnR Tryz.prog 91 [.slice a na ca, .slice b nb cb, .slice d n cd, .int .u64 f] h (fun v h' => ∃ a1 c1, v = .slice a1 (toL (vL A * vL B % M)).length c1 ∧ SlR u64R 1 h' a1 c1 ((toL (vL A * vL B % M)).map m64)) := by
  have hV0 : 0 < vL V := by rw [hvV]; exact Nat.mul_pos hM hf0
  have l1 : (digN 1 f).length = 1 := digN_len 1 f
  have hf1 := vL_one f hf
  have n1 : (toL (vL A * f)).length ≤ A.length + 1 := by
    rw [toL_len]; exact nd_le _ _ (mul_bound (vL_lt A) (by omega))
  have n2 : (toL (vL A * f * vL B)).length ≤ A.length + 1 + B.length := by
    rw [toL_len]; exact nd_le _ _ (mul_bound (mul_bound (vL_lt A) (by omega)) (vL_lt B))
  obtain ⟨W, hW⟩ : ∃ W, W = vL A * f * vL B := ⟨_, rfl⟩
  obtain ⟨N, hN⟩ : ∃ N, N = (toL W).length + 1 := ⟨_, rfl⟩
  have hPl : ((toL W).map m64).length = (toL W).length := List.length_map ..
  rw [← hW] at n2
  have hWl : W < 4294967296 ^ (N - 1) := by rw [hN, toL_len]; exact lt_nd W
  have hW0 : W < vL V * 4294967296 ^ (N - n) := by
    refine Nat.lt_of_lt_of_le hWl (Nat.le_trans (Nat.pow_le_pow_right (by decide) (show N - 1 ≤ (n - 1) + (N - n) by omega)) ?_)
    rw [Nat.pow_add]; exact Nat.mul_le_mul_right _ hVn
  refine Fn.intro Tryz.func91 rfl Tryz.ntmps91 rfl (fun e he => ?_)
  refine J.weak [(0, _), (1, _), (2, _), (3, _)] ⟨rfl, rfl, rfl, rfl, trivial⟩ ?_
  have hh0 := Part.le.refl h
  refine Sr ?_
  refine Ru 1 rfl ?_
  refine JL.nil ?_
  refine Sr ?_
  refine Ru 2 rfl ?_
  refine JL.lit1 ap_66 zr_63 rfl rfl rfl rfl rfl (fun b1 => ?_)
  refine JL.pubB (R := u64R) (sz := 1) (l := (digN 1 f).map m64) dl_ ((cells_one f hf)) z7_ (fun h2 hle2 hF => ?_)
  replace hA := hA.mono hle2
  replace hB := hB.mono hle2
  replace hV := hV.mono hle2
  replace hh0 := hh0.mono hle2
  refine JL.callR ca_89 rfl (rtimes_fn' hA hF hna (by omega) (by omega) (by omega)) rfl ?_
  rintro _ h3 hle3 ⟨ta, tc, rfl, hT⟩
  replace hA := hA.mono hle3
  replace hB := hB.mono hle3
  replace hV := hV.mono hle3
  replace hh0 := hh0.mono hle3
  replace hF := hF.mono hle3
  rw [hf1] at hT ⊢
  refine Ru 1 rfl ?_
  refine JL.callR ca_89 rfl (rtimes_fn' hT hB rfl hnb (by omega) (by omega)) rfl ?_
  rintro _ h4 hle4 ⟨pa, pc, rfl, hP⟩
  replace hA := hA.mono hle4
  replace hB := hB.mono hle4
  replace hV := hV.mono hle4
  replace hh0 := hh0.mono hle4
  replace hF := hF.mono hle4
  replace hT := hT.mono hle4
  rw [vL_toL, ← hW] at hP ⊢
  refine Ru 1 rfl ?_
  refine Nk [9, 8, 2, 3] rfl ?_
  refine Sr ?_
  refine Ru 2 rfl ?_
  refine JL.op ai_ rfl ?_
  refine JL.make1 mk_66 rfl rfl (m := N) (by omega) (by omega) (by omega) rfl rfl (fun bu => ?_); rw [ws_zero]
  refine Ru 1 rfl ?_
  refine JL.nil ?_
  refine J.seq ?_
  refine Sr ?_
  refine Ru 1 rfl ?_
  refine JL.nil ?_
  refine J.block ?_
  refine J.loop (fun t_ S_ h_ L_ => ∃ (i : Nat) (U : List UInt32), t_ = (toL W).length - i ∧ S_ = [(2, .slice d n cd), (3, .int .u64 f), (9, .slice pa (toL W).length pc), (10, .slice (some ⟨bu, 0, none⟩) N N), (11, .int .i64 i)] ∧ h4 = h_ ∧ L_ = [.row (some ⟨bu, 0, none⟩) N 63 1 N (ws .u64 U)] ∧ (i ≤ (toL W).length ∧ U.length = N ∧ vL U = vL ((toL W).take i))) ⟨_, _, ?_, ⟨0, _, rfl, rfl, rfl, rfl, ⟨by omega, digN_len _ _, by rw [vL_digN]; simp [vL]⟩⟩⟩ ?_
  ·
   exact z2_
  rintro _ _ _ _ ⟨i, U, rfl, rfl, rfl, rfl, hi, hUl, hUv⟩
  refine J.seq ?_
  refine Sr ?_
  refine Ru 4 rfl ?_
  refine JL.nil ?_
  refine Cs rfl (fun hc6 => ?_) fun hc6 => ?_
  ·
   have hi' : i < (toL W).length := (by omega); have ei := d64_mat (toL W) i (by omega); have bi := d32_lt (toL W) i; have hst := copy_step hUl hUv (show i < N by omega)
   refine J.skip ?_
   refine J.seq ?_
   refine J.block ?_
   refine Rg ?_
   refine Ru 4 rfl ?_
   refine JL.ope (RunE.index (m := i) sl_66 rfl rfl (by omega) hP hPl.symm (by omega)) rfl ?_
   rintro _ ⟨b7, o7, hi7, rfl, hE7⟩
   refine JL.op (RunV.ld_u64 ag_63 rfl (by assumption)) rfl ?_
   rw [ei]
   refine JL.op (RunV.index_at sl_66 (m := i) rfl rfl (by omega) (by omega)) rfl ?_
   refine JL.storeW (d32 (toL W) i) ag_63 rfl rfl (by rw [Nat.mod_eq_of_lt bi]) dl_ (by omega) ?_
   refine JL.nil ?_
   refine Rg ?_
   refine Ru 1 rfl ?_
   refine JL.op ai_ rfl ?_
   refine Ru 1 rfl ?_
   refine JL.nil ?_
   refine ⟨_, ?_, _, ?_, ⟨i + 1, _, rfl, rfl, rfl, rfl, ⟨by omega, by rw [List.length_set]; exact hUl, hst⟩⟩⟩
   ·
    omega
   exact z2_
  have hie : i = (toL W).length := (by omega); have hUd : U = digN N W := (by refine digN_fix hUl ?_; rw [hUv, hie, List.take_length, vL_toL]); subst hUd
  refine J.exit ?_
  refine Kp [2, 3, 10] rfl ?_
  refine Sr ?_
  refine Ru 3 rfl ?_
  refine JL.nil ?_
  refine J.seq ?_
  refine Sr ?_
  refine Ru 3 rfl ?_
  refine JL.op si_ rfl ?_
  refine JL.op si_ rfl ?_
  refine Ru 1 rfl ?_
  refine Nk [13, 12, 2, 3, 10] rfl ?_
  refine J.block ?_
  refine J.loop (fun t_ S_ h_ L_ => ∃ (g : Part) (j w : Nat) (q : Int), t_ = j + 1 ∧ S_ = [(2, .slice d n cd), (3, .int .u64 f), (10, .slice (some ⟨bu, 0, none⟩) N N), (12, .int .i64 n), (13, .int .i64 q)] ∧ g = h_ ∧ L_ = [.row (some ⟨bu, 0, none⟩) N 63 1 N (ws .u64 (digN N w))] ∧ (h.le g ∧ SlR u64R 1 g d cd (V.map m64) ∧ -2000000 ≤ q ∧ q + n < N ∧ (q < 0 → j = 0) ∧ (0 ≤ q → q = (j : Int) - 1) ∧ w ≤ W ∧ w < vL V * 4294967296 ^ j ∧ w % vL V = W % vL V)) ⟨_, _, ?_, ⟨_, N - n, W, (N : Int) - n - 1, rfl, rfl, rfl, rfl, ⟨hh0, hV, by omega, by omega, by omega, by omega, Nat.le_refl _, hW0, rfl⟩⟩⟩ ?_
  ·
   exact z2_
  rintro _ _ _ _ ⟨g, j, w, q, rfl, rfl, rfl, rfl, hhg, hV, hq0, hqN, hq1, hq2, hww, hwj, hwm⟩
  refine J.seq ?_
  refine Sr ?_
  refine Ru 2 rfl ?_
  refine JL.nil ?_
  refine Cs rfl (fun hc10 => ?_) fun hc10 => ?_
  ·
   obtain ⟨i, rfl, rfl⟩ : ∃ i : Nat, j = i + 1 ∧ q = (i : Int) := ⟨j - 1, by omega, by omega⟩
   refine J.skip ?_
   refine J.seq ?_
   refine J.block ?_
   refine J.block ?_
   refine J.loop (fun t_ S_ h_ L_ => ∃ (g2 : Part) (z : Nat), t_ = z + 1 ∧ S_ = [(2, .slice d n cd), (3, .int .u64 f), (10, .slice (some ⟨bu, 0, none⟩) N N), (12, .int .i64 n), (13, .int .i64 i)] ∧ g2 = h_ ∧ L_ = [.row (some ⟨bu, 0, none⟩) N 63 1 N (ws .u64 (digN N z))] ∧ (h.le g2 ∧ SlR u64R 1 g2 d cd (V.map m64) ∧ z ≤ W ∧ z < vL V * 4294967296 ^ (i + 1) ∧ z % vL V = W % vL V)) ⟨_, _, ?_, ⟨_, w, rfl, rfl, rfl, rfl, ⟨hhg, hV, hww, hwj, hwm⟩⟩⟩ ?_
   ·
    exact z5_
   rintro _ _ _ _ ⟨g2, z, rfl, rfl, rfl, rfl, hhg, hV, hzw, hzj, hzm⟩
   refine J.seq ?_
   refine Sr ?_
   refine Ru 3 rfl ?_
   refine JL.call ca_125 rfl (rabove_fn (k := i) (w := z) hV hn (u_digs hn1 (by rw [hn]; exact vL_lt V) hzj (show i + n < N by omega)).1 (by omega) (by omega)) pt_ rfl ?_
   rintro _ h11 Lo11 hle11 ⟨rfl, rfl⟩
   replace hhg := hhg.mono hle11
   replace hV := hV.mono hle11
   refine JL.nil ?_
   refine Cs rfl (fun hc12 => ?_) fun hc12 => ?_
   ·
    obtain ⟨t, ht⟩ : ∃ t, t = (d32 (digN N z) (i + n) * 4294967296 + d32 (digN N z) (i + n - 1)) / (d32 V (n - 1) + 1) := ⟨_, rfl⟩; obtain ⟨g1, g2', g3, g4, g5⟩ := guess_pack hn hn1 hzj (show i + n < N by omega) hc12 hV0 ht; obtain ⟨e, he⟩ : ∃ e, e = if t = 0 then 1 else t := ⟨_, rfl⟩; rw [← he] at g2' g3 g4; have bz1 := d32_lt (digN N z) (i + n); have bz0 := d32_lt (digN N z) (i + n - 1); have bv := d32_lt V (n - 1); have hdl : (digN N z).length = N := digN_len _ _; have ev := d64_mat V (n - 1) (by rw [List.length_map]; omega); have hVl : (V.map m64).length = V.length := List.length_map ..
    refine J.skip ?_
    refine J.block ?_
    refine J.seq ?_
    refine J.held ([.row (some ⟨bu, 0, none⟩) N 63 1 N (ws .u64 (digN N z))]) 23 mixed_ rfl (fun h00 => ?_)
    refine JH.take 0 rfl (by kernel_rfl) (by kernel_rfl) (by kernel_rfl) (fun _ _ _ _ hh => hh) (br_ h00) (RunV.move rfl) rfl ?_
    refine JH.take 1 rfl (by kernel_rfl) (by kernel_rfl) (by kernel_rfl) (fun _ _ _ _ hh => hh) (br_ h00) (RunV.move rfl) rfl ?_
    refine JH.take 2 rfl (by kernel_rfl) (by kernel_rfl) (by kernel_rfl) (fun _ _ _ _ hh => hh) (br_ h00) (RunV.move rfl) rfl ?_
    refine JH.take 3 rfl (by kernel_rfl) (by kernel_rfl) (by kernel_rfl) (fun _ _ _ _ hh => hh) (br_ h00) ai_ rfl ?_
    refine JH.take 4 rfl (by kernel_rfl) (by kernel_rfl) (by kernel_rfl) (fun _ _ _ _ hh => hh) (br_ h00) (RunV.index_at sl_66 (m := i + n) rfl rfl (by omega) (by omega)) rfl ?_
    refine JH.take 5 rfl (by kernel_rfl) (by kernel_rfl) (by kernel_rfl) (fun _ _ _ _ hh => hh) (br_ h00) (RunV.wload ag_63 rfl mm_ (by omega)) rfl ?_
    refine JH.take 6 rfl (by kernel_rfl) (by kernel_rfl) (by kernel_rfl) (fun _ _ _ _ hh => hh) (br_ h00) (RunV.mul_u64 rfl rfl (by omega) (by omega)) rfl ?_
    refine JH.take 7 rfl (by kernel_rfl) (by kernel_rfl) (by kernel_rfl) (fun _ _ _ _ hh => hh) (br_ h00) (RunV.move rfl) rfl ?_
    refine JH.take 8 rfl (by kernel_rfl) (by kernel_rfl) (by kernel_rfl) (fun _ _ _ _ hh => hh) (br_ h00) (RunV.move rfl) rfl ?_
    refine JH.take 9 rfl (by kernel_rfl) (by kernel_rfl) (by kernel_rfl) (fun _ _ _ _ hh => hh) (br_ h00) (RunV.move rfl) rfl ?_
    refine JH.take 10 rfl (by kernel_rfl) (by kernel_rfl) (by kernel_rfl) (fun _ _ _ _ hh => hh) (br_ h00) ai_ rfl ?_
    refine JH.take 11 rfl (by kernel_rfl) (by kernel_rfl) (by kernel_rfl) (fun _ _ _ _ hh => hh) (br_ h00) si_ rfl ?_
    refine JH.take 12 rfl (by kernel_rfl) (by kernel_rfl) (by kernel_rfl) (fun _ _ _ _ hh => hh) (br_ h00) (RunV.index_at sl_66 (m := i + n - 1) rfl rfl (by omega) (by omega)) rfl ?_
    refine JH.take 13 rfl (by kernel_rfl) (by kernel_rfl) (by kernel_rfl) (fun _ _ _ _ hh => hh) (br_ h00) (RunV.wload ag_63 rfl mm_ (by omega)) rfl ?_
    refine JH.take 14 rfl (by kernel_rfl) (by kernel_rfl) (by kernel_rfl) (fun _ _ _ _ hh => hh) (br_ h00) (RunV.add_u64 rfl rfl (by omega) (by omega)) rfl ?_
    rw [show ((d32 (digN N z) (i + n) : Nat) : Int) * 4294967296 + (d32 (digN N z) (i + n - 1) : Nat) = ((d32 (digN N z) (i + n) * 4294967296 + d32 (digN N z) (i + n - 1) : Nat) : Int) by omega]
    refine JH.take 15 rfl (by kernel_rfl) (by kernel_rfl) (by kernel_rfl) (fun _ _ _ _ hh => hh) (br_ h00) (RunV.move rfl) rfl ?_
    refine JH.take 16 rfl (by kernel_rfl) (by kernel_rfl) (by kernel_rfl) (fun _ _ _ _ hh => hh) (br_ h00) (RunV.move rfl) rfl ?_
    refine JH.take 17 rfl (by kernel_rfl) (by kernel_rfl) (by kernel_rfl) (fun _ _ _ _ hh => hh) (br_ h00) si_ rfl ?_
    refine JH.takeE 18 rfl (by kernel_rfl) (by kernel_rfl) (by kernel_rfl) (fun _ _ _ _ hh => hh) (br_ h00) (RunE.index (m := n - 1) sl_66 rfl rfl (by omega) hV (by omega) (by omega)) rfl ?_
    rintro _ ⟨b13, o13, hi13, rfl, hE13⟩
    refine JH.take 19 rfl (by kernel_rfl) (by kernel_rfl) (by kernel_rfl) (fun _ _ _ _ hh => hh) (br_ h00) (RunV.ld_u64 ag_63 rfl (by assumption)) rfl ?_
    rw [ev]
    refine JH.take 20 rfl (by kernel_rfl) (by kernel_rfl) (by kernel_rfl) (fun _ _ _ _ hh => hh) (br_ h00) z20_ rfl ?_
    rw [show ((d32 V (n - 1) : Nat) : Int) + 1 = ((d32 V (n - 1) + 1 : Nat) : Int) by omega]
    refine JH.take 21 rfl (by kernel_rfl) (by kernel_rfl) (by kernel_rfl) (fun _ _ _ _ hh => hh) (br_ h00) z16_ rfl ?_
    rw [← Int.natCast_ediv, ← ht]
    refine JH.take 22 rfl (by kernel_rfl) (by kernel_rfl) (by kernel_rfl) (fun _ _ _ _ hh => hh) (br_ h00) (RunV.assign rfl) rfl ?_
    refine JH.done (by kernel_rfl) ?_
    refine J.seq ?_
    refine Sr ?_
    refine Ru 2 rfl ?_
    refine JL.nil ?_
    refine J.meet [(14, .int .u64 e)] [(77, _), (76, _), (75, _), (74, _), (73, _), (72, _), (71, _), (70, _), (69, _), (68, _), (67, _), (66, _), (65, _), (64, _), (63, _), (62, _), (61, _), (60, _), (59, _), (58, _), (57, _), (56, _), (55, _), (54, _), (53, _), (52, _), (51, _), (2, _), (3, _), (10, _), (12, _), (13, _)] ⟨rfl, rfl, rfl, rfl, rfl, rfl, rfl, rfl, rfl, rfl, rfl, rfl, rfl, rfl, rfl, rfl, rfl, rfl, rfl, rfl, rfl, rfl, rfl, rfl, rfl, rfl, rfl, rfl, rfl, rfl, rfl, rfl, trivial⟩ ?_ ?_
    ·
     refine Cs rfl (fun hc15 => ?_) fun hc15 => ?_
     ·
      refine Rg ?_
      refine Ru 1 rfl ?_
      refine JL.nil ?_
      refine ⟨rfl, rfl, ?_⟩
      repeat (first | exact trivial | refine ⟨rfl, ?_⟩ | refine ⟨(by exact some_int (by rw [he]; split <;> omega)), ?_⟩)
     refine J.skip ?_
     refine ⟨rfl, rfl, ?_⟩
     repeat (first | exact trivial | refine ⟨rfl, ?_⟩ | refine ⟨(by exact some_int (by rw [he]; split <;> omega)), ?_⟩)
    refine Rg ?_
    refine Ru 4 rfl ?_
    refine JL.call ca_126 rfl (rtake_fn (k := i) (w := z) (gg := e) hV hn g5 (by omega) (by omega) g2' g3) pt_ rfl ?_
    rintro _ h16 Lo16 hle16 ⟨rfl, rfl⟩
    replace hhg := hhg.mono hle16
    replace hV := hV.mono hle16
    refine JL.nil ?_
    refine ⟨_, ?_, _, ?_, ⟨_, z - e * (vL V * 4294967296 ^ i), rfl, rfl, rfl, rfl, ⟨hhg, hV, by omega, by omega, take_mod g3 hzm⟩⟩⟩
    ·
     omega
    exact z5_
   refine J.exit ?_
   refine Rg ?_
   refine Ru 1 rfl ?_
   refine JL.op si_ rfl ?_
   refine Ru 1 rfl ?_
   refine JL.nil ?_
   refine ⟨_, ?_, _, ?_, ⟨_, i, z, (i : Int) - 1, rfl, rfl, rfl, rfl, ⟨hhg, hV, by omega, by omega, by omega, by omega, hzw, by omega, hzm⟩⟩⟩
   ·
    omega
   exact z2_
  have hj0 : j = 0 := hq1 (by omega); subst hj0; rw [Nat.pow_zero, Nat.mul_one] at hwj; rw [hvV] at hwj hwm; have hend := rest_end hf0 hM hwj (by rw [hwm, hW]); have hwN : vL (digN N w) = w := (by rw [vL_digN]; exact Nat.mod_eq_of_lt (Nat.lt_of_le_of_lt hww (Nat.lt_of_lt_of_le hWl (Nat.pow_le_pow_right (by decide) (by omega))))); have hwl : (toL w).length ≤ N - 1 := (by rw [toL_len]; exact nd_le _ _ (Nat.lt_of_le_of_lt hww hWl))
  refine J.exit ?_
  refine Kp [3, 10] rfl ?_
  refine Sr ?_
  refine JL.pub64 dl_ (digN_len N w).symm (by rw [digN_len]; omega) (fun h9 hle9 hP9 => ?_); replace hhg := hhg.mono hle9; replace hV := hV.mono hle9
  refine Ru 1 rfl ?_
  refine JL.callR ca_97 rfl (rcut_fn hP9 (digN_len N w).symm) rfl ?_
  rintro _ h17 hle17 ⟨ra, rc, rfl, hR⟩
  replace hhg := hhg.mono hle17
  replace hV := hV.mono hle17
  rw [hwN] at hR ⊢
  refine Ru 1 rfl ?_
  refine JL.callR ca_124 rfl (rshortly_fn' hR rfl hf0 (by omega) (by omega)) rfl ?_
  rintro _ h18 hle18 ⟨sa, sc, rfl, hS⟩
  replace hhg := hhg.mono hle18
  replace hV := hV.mono hle18
  replace hR := hR.mono hle18
  refine Ru 5 rfl ?_
  refine Nk [15] rfl ?_
  refine Sr ?_
  refine Ru 2 rfl ?_
  refine JL.nil ?_
  rw [vL_toL, hend] at hS ⊢; exact J.retR (RetV.one rfl rfl) ⟨_, _, rfl, hS⟩
theorem norm_f {B : List UInt32} {n f : Nat} (hn : n = B.length) (hn1 : 1 ≤ n) (hY : 4294967296 ^ (n - 1) ≤ vL B) (hf : f = 4294967296 / (d32 B (n - 1) + 1)) : 0 < f ∧ f < 4294967296 ∧ vL B * f < 4294967296 ^ n ∧ 4294967296 ^ (n - 1) ≤ vL B * f := by
  have ht := d32_lt B (n - 1)
  have hd := top_dig hn hn1
  have hB0 : 0 < 4294967296 ^ (n - 1) := Nat.pow_pos (by decide)
  have ht1 : 1 ≤ d32 B (n - 1) := by rw [hd]; exact (Nat.le_div_iff_mul_le hB0).2 (by omega)
  have hlt : vL B < (d32 B (n - 1) + 1) * 4294967296 ^ (n - 1) := by
    rw [hd]; have := Nat.lt_div_mul_add hB0 (a := vL B); rw [Nat.add_mul]; omega
  generalize d32 B (n - 1) = t at *
  have hf1 : f * (t + 1) ≤ 4294967296 := by rw [hf]; exact Nat.div_mul_le_self _ _
  have hf0 : 0 < f := by rw [hf]; exact Nat.div_pos (by omega) (by omega)
  have hf2 : f < 4294967296 := by rw [hf]; exact Nat.div_lt_self (by decide) (by omega)
  refine ⟨hf0, hf2, ?_, Nat.le_trans hY (Nat.le_mul_of_pos_right _ hf0)⟩
  have e : 4294967296 ^ n = 4294967296 * 4294967296 ^ (n - 1) := by rw [← Nat.pow_succ', show (n - 1).succ = n by omega]
  rw [e]
  refine Nat.lt_of_lt_of_le (Nat.mul_lt_mul_of_pos_right hlt hf0) ?_
  rw [Nat.mul_right_comm, Nat.mul_comm (t + 1)]
  exact Nat.mul_le_mul_right _ hf1
theorem q_put {Q : List UInt32} {N i g V z W : Nat} (hN : Q.length = N) (hi : i < N) (hW : vL Q * V + z = W) (hlt : d32 Q i * (V * 4294967296 ^ i) + z < V * 4294967296 ^ (i + 1)) (hg : g * (V * 4294967296 ^ i) ≤ z) :
    d32 Q i + g < 4294967296 ∧ vL (Q.set i (UInt32.ofNat (d32 Q i + g))) * V + (z - g * (V * 4294967296 ^ i)) = W ∧ d32 (Q.set i (UInt32.ofNat (d32 Q i + g))) i * (V * 4294967296 ^ i) + (z - g * (V * 4294967296 ^ i)) < V * 4294967296 ^ (i + 1) := by
  have hp := vL_put Q i (d32 Q i + g) (by omega)
  have e1 : V * 4294967296 ^ (i + 1) = 4294967296 * (V * 4294967296 ^ i) := by rw [Nat.pow_succ]; grind
  have hb : d32 Q i + g < 4294967296 := by
    rcases Nat.lt_or_ge (d32 Q i + g) 4294967296 with h | h
    · exact h
    · have h2 := Nat.mul_le_mul_right (V * 4294967296 ^ i) h
      rw [Nat.add_mul] at h2; omega
  refine ⟨hb, ?_, ?_⟩
  · rw [Nat.div_eq_of_lt hb, Nat.zero_mul, Nat.add_mul] at hp
    have e2 : vL (Q.set i (UInt32.ofNat (d32 Q i + g))) = vL Q + g * 4294967296 ^ i := by omega
    have e3 : (vL Q + g * 4294967296 ^ i) * V = vL Q * V + g * (V * 4294967296 ^ i) := by grind
    rw [e2, e3]; omega
  · rw [d32_set _ _ _ _ (by omega), if_pos rfl, UInt32.toNat_ofNat', Nat.mod_eq_of_lt (show d32 Q i + g < 2 ^ 32 by omega), Nat.add_mul]; omega
theorem part_end {X Y f Q w : Nat} (hf : 0 < f) (hY : 0 < Y) (h : w < Y * f) (e : Q * (Y * f) + w = X * f) : Q = X / Y ∧ w / f = X % Y := by
  have h1 : X * f / (Y * f) = Q := by
    rw [← e, Nat.add_comm, Nat.add_mul_div_right _ _ (by omega), Nat.div_eq_of_lt h, Nat.zero_add]
  have h2 : X * f % (Y * f) = w := by rw [← e, Nat.add_comm, Nat.add_mul_mod_self_right, Nat.mod_eq_of_lt h]
  rw [Nat.mul_div_mul_right _ _ hf] at h1
  rw [Nat.mul_mod_mul_right] at h2
  exact ⟨h1.symm, by rw [← h2]; exact Nat.mul_div_cancel _ hf⟩
set_option maxHeartbeats 1000000 in
theorem parted_fn {a b : Option Addr} {ca cb n na : Nat} {A B : List UInt32} {h : Part} (hA : SlR u64R 1 h a ca (A.map m64)) (hB : SlR u64R 1 h b cb (B.map m64)) (hna : na = A.length) (hn : n = B.length) (hn1 : 1 ≤ n)
    (hYn : 4294967296 ^ (n - 1) ≤ vL B) (hlA : A.length ≤ 200000) (hlB : B.length ≤ 100000) :
    FnR Tryz.prog 90 [.slice a na ca, .slice b n cb] h (fun v h' => ∃ a1 c1 a2 c2, v = .tuple #[.slice a1 (toL (vL A / vL B)).length c1, .slice a2 (toL (vL A % vL B)).length c2] ∧ SlR u64R 1 h' a1 c1 ((toL (vL A / vL B)).map m64) ∧ SlR u64R 1 h' a2 c2 ((toL (vL A % vL B)).map m64)) := by
  have hBl : (B.map m64).length = B.length := List.length_map ..
  have hB0 : 0 < 4294967296 ^ (n - 1) := Nat.pow_pos (by decide)
  have hY0 : 0 < vL B := by omega
  obtain ⟨f, hf⟩ : ∃ f, f = 4294967296 / (d32 B (n - 1) + 1) := ⟨_, rfl⟩
  obtain ⟨f0, fB, fV, fV2⟩ := norm_f hn hn1 hYn hf
  have l1 : (digN 1 f).length = 1 := digN_len 1 f
  have hf1 := vL_one f fB
  obtain ⟨W, hW⟩ : ∃ W, W = vL A * f := ⟨_, rfl⟩
  obtain ⟨D, hD⟩ : ∃ D, D = vL B * f := ⟨_, rfl⟩
  rw [← hD] at fV fV2
  have n1 : (toL W).length ≤ A.length + 1 := by
    rw [toL_len, hW]; exact nd_le _ _ (mul_bound (vL_lt A) (by omega))
  have hVl : (toL D).length = n := by
    rw [toL_len, nd_eq D (n - 1) (by rw [show n - 1 + 1 = n by omega]; exact fV) fV2]; omega
  obtain ⟨V, hVV⟩ : ∃ V, V = toL D := ⟨_, rfl⟩
  have hvV : vL V = D := by rw [hVV, vL_toL]
  rw [← hVV] at hVl
  have hV0 : 0 < vL V := by rw [hvV]; omega
  obtain ⟨N, hN⟩ : ∃ N, N = A.length + 2 := ⟨_, rfl⟩
  have hPl : ((toL W).map m64).length = (toL W).length := List.length_map ..
  have hWl : W < 4294967296 ^ (N - 1) := by rw [hN, hW]; exact mul_bound (vL_lt A) (by omega)
  have hW0 : W < vL V * 4294967296 ^ (N - n) := by
    refine Nat.lt_of_lt_of_le hWl (Nat.le_trans (Nat.pow_le_pow_right (by decide) (show N - 1 ≤ (n - 1) + (N - n) by omega)) ?_)
    rw [Nat.pow_add, hvV]; exact Nat.mul_le_mul_right _ fV2
  have ht := d32_lt B (n - 1)
  have ev0 := d64_mat B (n - 1) (by omega)
  have ht0 := d32_lt B 0
  have ev1 := d64_mat B 0 (by omega)
  refine Fn.intro Tryz.func90 rfl Tryz.ntmps90 rfl (fun e he => ?_)
  refine J.weak [(0, _), (1, _)] ⟨rfl, rfl, trivial⟩ ?_
  have hh0 := Part.le.refl h
  refine Sr ?_
  refine Ru 2 rfl ?_
  refine JL.nil ?_
  refine Sr ?_
  refine Ru 3 rfl ?_
  refine JL.nil ?_
  refine J.seq ?_
  refine Sr ?_
  refine Ru 2 rfl ?_
  refine JL.nil ?_
  refine Cs rfl (fun hc1 => ?_) fun hc1 => ?_
  ·
   have hb0 : d32 B 0 = vL B := (by have h1 := top_dig hn hn1; have hn2 : n = 1 := (by omega); rw [hn2] at h1; rw [h1]; exact Nat.div_one _)
   refine Sr ?_
   refine Ru 2 rfl ?_
   refine JL.ope (RunE.index (m := 0) sl_66 rfl rfl rfl hB (by omega) (by omega)) rfl ?_
   rintro _ ⟨b2, o2, hi2, rfl, hE2⟩
   refine JL.op (RunV.ld_u64 ag_63 rfl (by assumption)) rfl ?_
   rw [ev1, hb0]
   refine JL.callR ca_124 rfl (rshortly_fn' hA hna hY0 (by omega) (by omega)) rfl ?_
   rintro _ h4 hle4 ⟨sa, sc, rfl, hS⟩
   replace hA := hA.mono hle4
   replace hB := hB.mono hle4
   replace hh0 := hh0.mono hle4
   refine Ru 5 rfl ?_
   refine Nk [8, 7, 6, 5, 4, 0, 1] rfl ?_
   refine Sr ?_
   refine Ru 2 rfl ?_
   refine JL.lit1 ap_66 zr_63 rfl rfl rfl rfl rfl (fun b5 => ?_)
   refine JL.pubB (R := u64R) (sz := 1) (l := (digN 1 (vL A % vL B)).map m64) dl_ ((cells_one (vL A % vL B) (Nat.lt_of_lt_of_le (Nat.mod_lt _ hY0) (by omega)))) z7_ (fun h6 hle6 hQ => ?_)
   replace hA := hA.mono hle6
   replace hB := hB.mono hle6
   replace hh0 := hh0.mono hle6
   replace hS := hS.mono hle6
   refine JL.callR ca_97 rfl (rcut_fn hQ (digN_len 1 _).symm) rfl ?_
   rintro _ h7 hle7 ⟨ra, rc, rfl, hR⟩
   replace hA := hA.mono hle7
   replace hB := hB.mono hle7
   replace hh0 := hh0.mono hle7
   replace hS := hS.mono hle7
   replace hQ := hQ.mono hle7
   refine Ru 2 rfl ?_
   refine Nk [5, 4, 6, 0, 1] rfl ?_
   rw [vL_one _ (Nat.lt_of_lt_of_le (Nat.mod_lt _ hY0) (by omega))] at hR ⊢; exact J.retR (RetV.two rfl rfl rfl) ⟨_, _, _, _, rfl, hS, hR⟩
  refine J.skip ?_
  refine Kp [6, 5, 4, 0, 1] rfl ?_
  refine Sr ?_
  refine Ru 2 rfl ?_
  refine JL.op si_ rfl ?_
  refine JL.ope (RunE.index (m := n - 1) sl_66 rfl rfl (by omega) hB (by omega) (by omega)) rfl ?_
  rintro _ ⟨b8, o8, hi8, rfl, hE8⟩
  refine JL.op (RunV.ld_u64 ag_63 rfl (by assumption)) rfl ?_
  rw [ev0]
  refine JL.op z20_ rfl ?_
  rw [show ((d32 B (n - 1) : Nat) : Int) + 1 = ((d32 B (n - 1) + 1 : Nat) : Int) by omega]
  refine JL.op z16_ rfl ?_
  rw [show (4294967296 : Int) / ((d32 B (n - 1) + 1 : Nat) : Int) = (f : Int) by rw [hf, Int.natCast_ediv]; rfl]
  refine Ru 1 rfl ?_
  refine Nk [9, 6, 5, 4, 0, 1] rfl ?_
  refine Sr ?_
  refine Ru 2 rfl ?_
  refine JL.lit1 ap_66 zr_63 rfl rfl rfl rfl rfl (fun b10 => ?_)
  refine JL.pubB (R := u64R) (sz := 1) (l := (digN 1 f).map m64) dl_ ((cells_one f fB)) z7_ (fun h11 hle11 hF => ?_)
  replace hA := hA.mono hle11
  replace hB := hB.mono hle11
  replace hh0 := hh0.mono hle11
  refine JL.callR ca_89 rfl (rtimes_fn' hB hF hn (by omega) (by omega) (by omega)) rfl ?_
  rintro _ h12 hle12 ⟨va, vc, rfl, hV⟩
  replace hA := hA.mono hle12
  replace hB := hB.mono hle12
  replace hh0 := hh0.mono hle12
  replace hF := hF.mono hle12
  rw [hf1, ← hD, ← hVV] at hV ⊢; rw [hVl]
  refine Ru 1 rfl ?_
  refine Nk [10, 9, 6, 5, 4, 0] rfl ?_
  refine Sr ?_
  refine Ru 2 rfl ?_
  refine JL.op ai_ rfl ?_
  refine JL.make1 mk_66 rfl rfl (m := N) (by omega) (by omega) (by omega) rfl rfl (fun bu => ?_); rw [ws_zero]
  refine Ru 1 rfl ?_
  refine JL.nil ?_
  refine Sr ?_
  refine Ru 2 rfl ?_
  refine JL.lit1 ap_66 zr_63 rfl rfl rfl rfl rfl (fun b14 => ?_)
  refine JL.pubB (R := u64R) (sz := 1) (l := (digN 1 f).map m64) dl_ ((cells_one f fB)) z7_ (fun h15 hle15 hF2 => ?_)
  replace hA := hA.mono hle15
  replace hB := hB.mono hle15
  replace hh0 := hh0.mono hle15
  replace hF := hF.mono hle15
  replace hV := hV.mono hle15
  refine JL.callR ca_89 rfl (rtimes_fn' hA hF2 hna (by omega) (by omega) (by omega)) rfl ?_
  rintro _ h16 hle16 ⟨pa, pc, rfl, hP⟩
  replace hA := hA.mono hle16
  replace hB := hB.mono hle16
  replace hh0 := hh0.mono hle16
  replace hF := hF.mono hle16
  replace hV := hV.mono hle16
  replace hF2 := hF2.mono hle16
  rw [hf1, ← hW] at hP ⊢
  refine Ru 1 rfl ?_
  refine Nk [12, 11, 10, 9, 6, 5, 4] rfl ?_
  refine J.seq ?_
  refine Sr ?_
  refine Ru 1 rfl ?_
  refine JL.nil ?_
  refine J.block ?_
  refine J.loop (fun t_ S_ h_ L_ => ∃ (i : Nat) (U : List UInt32), t_ = (toL W).length - i ∧ S_ = [(6, .int .i64 n), (9, .int .u64 f), (10, .slice va n vc), (11, .slice (some ⟨bu, 0, none⟩) N N), (12, .slice pa (toL W).length pc), (13, .int .i64 i)] ∧ h16 = h_ ∧ L_ = [.row (some ⟨bu, 0, none⟩) N 63 1 N (ws .u64 U)] ∧ (i ≤ (toL W).length ∧ U.length = N ∧ vL U = vL ((toL W).take i))) ⟨_, _, ?_, ⟨0, _, rfl, rfl, rfl, rfl, ⟨by omega, digN_len _ _, by rw [vL_digN]; simp [vL]⟩⟩⟩ ?_
  ·
   exact z2_
  rintro _ _ _ _ ⟨i, U, rfl, rfl, rfl, rfl, hi, hUl, hUv⟩
  refine J.seq ?_
  refine Sr ?_
  refine Ru 4 rfl ?_
  refine JL.nil ?_
  refine Cs rfl (fun hc17 => ?_) fun hc17 => ?_
  ·
   have hi' : i < (toL W).length := (by omega); have ei := d64_mat (toL W) i (by omega); have bi := d32_lt (toL W) i; have hst := copy_step hUl hUv (show i < N by omega)
   refine J.skip ?_
   refine J.seq ?_
   refine J.block ?_
   refine Rg ?_
   refine Ru 4 rfl ?_
   refine JL.ope (RunE.index (m := i) sl_66 rfl rfl (by omega) hP hPl.symm (by omega)) rfl ?_
   rintro _ ⟨b18, o18, hi18, rfl, hE18⟩
   refine JL.op (RunV.ld_u64 ag_63 rfl (by assumption)) rfl ?_
   rw [ei]
   refine JL.op (RunV.index_at sl_66 (m := i) rfl rfl (by omega) (by omega)) rfl ?_
   refine JL.storeW (d32 (toL W) i) ag_63 rfl rfl (by rw [Nat.mod_eq_of_lt bi]) dl_ (by omega) ?_
   refine JL.nil ?_
   refine Rg ?_
   refine Ru 1 rfl ?_
   refine JL.op ai_ rfl ?_
   refine Ru 1 rfl ?_
   refine JL.nil ?_
   refine ⟨_, ?_, _, ?_, ⟨i + 1, _, rfl, rfl, rfl, rfl, ⟨by omega, by rw [List.length_set]; exact hUl, hst⟩⟩⟩
   ·
    omega
   exact z2_
  have hie : i = (toL W).length := (by omega); have hUd : U = digN N W := (by refine digN_fix hUl ?_; rw [hUv, hie, List.take_length, vL_toL]); subst hUd
  refine J.exit ?_
  refine Kp [6, 9, 10, 11] rfl ?_
  refine Sr ?_
  refine Ru 2 rfl ?_
  refine JL.make1 mk_66 rfl rfl (m := N) (by omega) (by omega) (by omega) rfl rfl (fun bq => ?_); rw [ws_zero]
  refine Ru 1 rfl ?_
  refine JL.nil ?_
  refine J.seq ?_
  refine Sr ?_
  refine Ru 3 rfl ?_
  refine JL.own (fun w hk => hk.perm (.swap ..)) ?_
  refine JL.op si_ rfl ?_
  refine JL.op si_ rfl ?_
  refine Ru 1 rfl ?_
  refine Nk [15, 14, 6, 9, 10, 11] rfl ?_
  refine J.block ?_
  refine J.loop (fun t_ S_ h_ L_ => ∃ (g : Part) (j w : Nat) (q : Int) (Q : List UInt32), t_ = j + 1 ∧ S_ = [(6, .int .i64 n), (9, .int .u64 f), (10, .slice va n vc), (11, .slice (some ⟨bu, 0, none⟩) N N), (14, .slice (some ⟨bq, 0, none⟩) N N), (15, .int .i64 q)] ∧ g = h_ ∧ L_ = [.row (some ⟨bu, 0, none⟩) N 63 1 N (ws .u64 (digN N w)), .row (some ⟨bq, 0, none⟩) N 63 1 N (ws .u64 Q)] ∧ (h.le g ∧ SlR u64R 1 g va vc (V.map m64) ∧ -2000000 ≤ q ∧ q + n < N ∧ (q < 0 → j = 0) ∧ (0 ≤ q → q = (j : Int) - 1) ∧ w ≤ W ∧ w < vL V * 4294967296 ^ j ∧ Q.length = N ∧ (∀ m, m < j → d32 Q m = 0) ∧ vL Q * vL V + w = W)) ⟨_, _, ?_, ⟨_, N - n, W, (N : Int) - n - 1, _, rfl, rfl, rfl, rfl, ⟨hh0, hV, by omega, by omega, by omega, by omega, Nat.le_refl _, hW0, digN_len _ _, fun m _ => vL_zero_above (m := 0) (by rw [vL_digN]; simp) m (Nat.zero_le _), by rw [vL_digN]; simp⟩⟩⟩ ?_
  ·
   exact z2_
  rintro _ _ _ _ ⟨g, j, w, q, Q, rfl, rfl, rfl, rfl, hhg, hV, hq0, hqN, hq1, hq2, hww, hwj, hQl, hQz, hQW⟩
  refine J.seq ?_
  refine Sr ?_
  refine Ru 2 rfl ?_
  refine JL.nil ?_
  refine Cs rfl (fun hc22 => ?_) fun hc22 => ?_
  ·
   obtain ⟨i, rfl, rfl⟩ : ∃ i : Nat, j = i + 1 ∧ q = (i : Int) := ⟨j - 1, by omega, by omega⟩; have hQi := hQz i (by omega)
   refine J.skip ?_
   refine J.seq ?_
   refine J.block ?_
   refine J.block ?_
   refine J.loop (fun t_ S_ h_ L_ => ∃ (g2 : Part) (z : Nat) (Q2 : List UInt32), t_ = z + 1 ∧ S_ = [(6, .int .i64 n), (9, .int .u64 f), (10, .slice va n vc), (11, .slice (some ⟨bu, 0, none⟩) N N), (14, .slice (some ⟨bq, 0, none⟩) N N), (15, .int .i64 i)] ∧ g2 = h_ ∧ L_ = [.row (some ⟨bu, 0, none⟩) N 63 1 N (ws .u64 (digN N z)), .row (some ⟨bq, 0, none⟩) N 63 1 N (ws .u64 Q2)] ∧ (h.le g2 ∧ SlR u64R 1 g2 va vc (V.map m64) ∧ z ≤ W ∧ Q2.length = N ∧ (∀ m, m < i → d32 Q2 m = 0) ∧ vL Q2 * vL V + z = W ∧ d32 Q2 i * (vL V * 4294967296 ^ i) + z < vL V * 4294967296 ^ (i + 1))) ⟨_, _, ?_, ⟨_, w, Q, rfl, rfl, rfl, rfl, ⟨hhg, hV, hww, hQl, fun m hm => hQz m (by omega), hQW, by rw [hQi]; omega⟩⟩⟩ ?_
   ·
    exact z5_
   rintro _ _ _ _ ⟨g2, z, Q2, rfl, rfl, rfl, rfl, hhg, hV, hzw, hQ2l, hQ2z, hQ2W, hQ2lt⟩
   refine J.seq ?_
   refine Sr ?_
   refine Ru 3 rfl ?_
   refine JL.call ca_125 rfl (rabove_fn (k := i) (w := z) hV hVl.symm (u_digs hn1 (by rw [hvV]; exact fV) (show z < vL V * 4294967296 ^ (i + 1) by omega) (show i + n < N by omega)).1 (by omega) (by omega)) pt_ rfl ?_
   rintro _ h23 Lo23 hle23 ⟨rfl, rfl⟩
   replace hhg := hhg.mono hle23
   replace hV := hV.mono hle23
   refine JL.nil ?_
   refine Cs rfl (fun hc24 => ?_) fun hc24 => ?_
   ·
    have hzj : z < vL V * 4294967296 ^ (i + 1) := (by omega); obtain ⟨t, ht⟩ : ∃ t, t = (d32 (digN N z) (i + n) * 4294967296 + d32 (digN N z) (i + n - 1)) / (d32 V (n - 1) + 1) := ⟨_, rfl⟩; obtain ⟨g1, g2', g3, g4, g5⟩ := guess_pack hVl.symm hn1 hzj (show i + n < N by omega) hc24 hV0 ht; obtain ⟨e, he⟩ : ∃ e, e = if t = 0 then 1 else t := ⟨_, rfl⟩; rw [← he] at g2' g3 g4; have bz1 := d32_lt (digN N z) (i + n); have bz0 := d32_lt (digN N z) (i + n - 1); have bv := d32_lt V (n - 1); have hdl : (digN N z).length = N := digN_len _ _; have ev := d64_mat V (n - 1) (by rw [List.length_map]; omega); have hVl2 : (V.map m64).length = V.length := List.length_map ..; obtain ⟨p1, p2, p3⟩ := q_put hQ2l (show i < N by omega) hQ2W hQ2lt g3; have bq := d32_lt Q2 i
    refine J.skip ?_
    refine J.block ?_
    refine J.seq ?_
    refine J.held ([.row (some ⟨bu, 0, none⟩) N 63 1 N (ws .u64 (digN N z))]) 23 mixed_ rfl (fun h00 => ?_)
    refine JH.take 0 rfl (by kernel_rfl) (by kernel_rfl) (by kernel_rfl) (fun _ _ _ _ hh => hh) (br_ h00) (RunV.move rfl) rfl ?_
    refine JH.take 1 rfl (by kernel_rfl) (by kernel_rfl) (by kernel_rfl) (fun _ _ _ _ hh => hh) (br_ h00) (RunV.move rfl) rfl ?_
    refine JH.take 2 rfl (by kernel_rfl) (by kernel_rfl) (by kernel_rfl) (fun _ _ _ _ hh => hh) (br_ h00) (RunV.move rfl) rfl ?_
    refine JH.take 3 rfl (by kernel_rfl) (by kernel_rfl) (by kernel_rfl) (fun _ _ _ _ hh => hh) (br_ h00) ai_ rfl ?_
    refine JH.take 4 rfl (by kernel_rfl) (by kernel_rfl) (by kernel_rfl) (fun _ _ _ _ hh => hh) (br_ h00) (RunV.index_at sl_66 (m := i + n) rfl rfl (by omega) (by omega)) rfl ?_
    refine JH.take 5 rfl (by kernel_rfl) (by kernel_rfl) (by kernel_rfl) (fun _ _ _ _ hh => hh) (br_ h00) (RunV.wload ag_63 rfl mm_ (by omega)) rfl ?_
    refine JH.take 6 rfl (by kernel_rfl) (by kernel_rfl) (by kernel_rfl) (fun _ _ _ _ hh => hh) (br_ h00) (RunV.mul_u64 rfl rfl (by omega) (by omega)) rfl ?_
    refine JH.take 7 rfl (by kernel_rfl) (by kernel_rfl) (by kernel_rfl) (fun _ _ _ _ hh => hh) (br_ h00) (RunV.move rfl) rfl ?_
    refine JH.take 8 rfl (by kernel_rfl) (by kernel_rfl) (by kernel_rfl) (fun _ _ _ _ hh => hh) (br_ h00) (RunV.move rfl) rfl ?_
    refine JH.take 9 rfl (by kernel_rfl) (by kernel_rfl) (by kernel_rfl) (fun _ _ _ _ hh => hh) (br_ h00) (RunV.move rfl) rfl ?_
    refine JH.take 10 rfl (by kernel_rfl) (by kernel_rfl) (by kernel_rfl) (fun _ _ _ _ hh => hh) (br_ h00) ai_ rfl ?_
    refine JH.take 11 rfl (by kernel_rfl) (by kernel_rfl) (by kernel_rfl) (fun _ _ _ _ hh => hh) (br_ h00) si_ rfl ?_
    refine JH.take 12 rfl (by kernel_rfl) (by kernel_rfl) (by kernel_rfl) (fun _ _ _ _ hh => hh) (br_ h00) (RunV.index_at sl_66 (m := i + n - 1) rfl rfl (by omega) (by omega)) rfl ?_
    refine JH.take 13 rfl (by kernel_rfl) (by kernel_rfl) (by kernel_rfl) (fun _ _ _ _ hh => hh) (br_ h00) (RunV.wload ag_63 rfl mm_ (by omega)) rfl ?_
    refine JH.take 14 rfl (by kernel_rfl) (by kernel_rfl) (by kernel_rfl) (fun _ _ _ _ hh => hh) (br_ h00) (RunV.add_u64 rfl rfl (by omega) (by omega)) rfl ?_
    rw [show ((d32 (digN N z) (i + n) : Nat) : Int) * 4294967296 + (d32 (digN N z) (i + n - 1) : Nat) = ((d32 (digN N z) (i + n) * 4294967296 + d32 (digN N z) (i + n - 1) : Nat) : Int) by omega]
    refine JH.take 15 rfl (by kernel_rfl) (by kernel_rfl) (by kernel_rfl) (fun _ _ _ _ hh => hh) (br_ h00) (RunV.move rfl) rfl ?_
    refine JH.take 16 rfl (by kernel_rfl) (by kernel_rfl) (by kernel_rfl) (fun _ _ _ _ hh => hh) (br_ h00) (RunV.move rfl) rfl ?_
    refine JH.take 17 rfl (by kernel_rfl) (by kernel_rfl) (by kernel_rfl) (fun _ _ _ _ hh => hh) (br_ h00) si_ rfl ?_
    refine JH.takeE 18 rfl (by kernel_rfl) (by kernel_rfl) (by kernel_rfl) (fun _ _ _ _ hh => hh) (br_ h00) (RunE.index (m := n - 1) sl_66 rfl rfl (by omega) hV (by omega) (by omega)) rfl ?_
    rintro _ ⟨b25, o25, hi25, rfl, hE25⟩
    refine JH.take 19 rfl (by kernel_rfl) (by kernel_rfl) (by kernel_rfl) (fun _ _ _ _ hh => hh) (br_ h00) (RunV.ld_u64 ag_63 rfl (by assumption)) rfl ?_
    rw [ev]
    refine JH.take 20 rfl (by kernel_rfl) (by kernel_rfl) (by kernel_rfl) (fun _ _ _ _ hh => hh) (br_ h00) z20_ rfl ?_
    rw [show ((d32 V (n - 1) : Nat) : Int) + 1 = ((d32 V (n - 1) + 1 : Nat) : Int) by omega]
    refine JH.take 21 rfl (by kernel_rfl) (by kernel_rfl) (by kernel_rfl) (fun _ _ _ _ hh => hh) (br_ h00) z16_ rfl ?_
    rw [← Int.natCast_ediv, ← ht]
    refine JH.take 22 rfl (by kernel_rfl) (by kernel_rfl) (by kernel_rfl) (fun _ _ _ _ hh => hh) (br_ h00) (RunV.assign rfl) rfl ?_
    refine JH.done (by kernel_rfl) ?_
    refine J.seq ?_
    refine Sr ?_
    refine Ru 2 rfl ?_
    refine JL.nil ?_
    refine J.meet [(16, .int .u64 e)] [(105, _), (104, _), (103, _), (102, _), (101, _), (100, _), (99, _), (98, _), (97, _), (96, _), (95, _), (94, _), (93, _), (92, _), (91, _), (90, _), (89, _), (88, _), (87, _), (86, _), (85, _), (84, _), (83, _), (82, _), (81, _), (80, _), (79, _), (6, _), (9, _), (10, _), (11, _), (14, _), (15, _)] ⟨rfl, rfl, rfl, rfl, rfl, rfl, rfl, rfl, rfl, rfl, rfl, rfl, rfl, rfl, rfl, rfl, rfl, rfl, rfl, rfl, rfl, rfl, rfl, rfl, rfl, rfl, rfl, rfl, rfl, rfl, rfl, rfl, rfl, trivial⟩ ?_ ?_
    ·
     refine Cs rfl (fun hc27 => ?_) fun hc27 => ?_
     ·
      refine Rg ?_
      refine Ru 1 rfl ?_
      refine JL.nil ?_
      refine ⟨rfl, rfl, ?_⟩
      repeat (first | exact trivial | refine ⟨rfl, ?_⟩ | refine ⟨(by exact some_int (by rw [he]; split <;> omega)), ?_⟩)
     refine J.skip ?_
     refine ⟨rfl, rfl, ?_⟩
     repeat (first | exact trivial | refine ⟨rfl, ?_⟩ | refine ⟨(by exact some_int (by rw [he]; split <;> omega)), ?_⟩)
    refine Sr ?_
    refine Ru 4 rfl ?_
    refine JL.op (RunV.index_at sl_66 (m := i) rfl rfl (by omega) (by omega)) rfl ?_
    refine JL.op (RunV.wload ag_63 rfl mm_ (by omega)) rfl ?_
    refine Ru 1 rfl ?_
    refine JL.op z20_ rfl ?_
    refine JL.op (RunV.index_at sl_66 (m := i) rfl rfl (by omega) (by omega)) rfl ?_
    refine JL.storeW (d32 Q2 i + e) ag_63 rfl rfl (by omega) dl_ (by omega) ?_
    refine JL.nil ?_
    refine Rg ?_
    refine Ru 4 rfl ?_
    refine JL.call ca_126 rfl (rtake_fn (k := i) (w := z) (gg := e) hV hVl.symm g5 (by omega) (by omega) g2' g3) pt_ rfl ?_
    rintro _ h29 Lo29 hle29 ⟨rfl, rfl⟩
    replace hhg := hhg.mono hle29
    replace hV := hV.mono hle29
    refine JL.nil ?_
    refine ⟨_, ?_, _, ?_, ⟨_, z - e * (vL V * 4294967296 ^ i), _, rfl, rfl, rfl, rfl, ⟨hhg, hV, by omega, by rw [List.length_set]; exact hQ2l, fun m hm => by rw [d32_set _ _ _ _ (by omega), if_neg (by omega)]; exact hQ2z m hm, p2, p3⟩⟩⟩
    ·
     omega
    exact z5_
   refine J.exit ?_
   refine Rg ?_
   refine Ru 1 rfl ?_
   refine JL.op si_ rfl ?_
   refine Ru 1 rfl ?_
   refine JL.nil ?_
   refine ⟨_, ?_, _, ?_, ⟨_, i, z, (i : Int) - 1, _, rfl, rfl, rfl, rfl, ⟨hhg, hV, by omega, by omega, by omega, by omega, hzw, by omega, hQ2l, hQ2z, hQ2W⟩⟩⟩
   ·
    omega
   exact z2_
  have hj0 : j = 0 := hq1 (by omega); subst hj0; rw [Nat.pow_zero, Nat.mul_one, hvV, hD] at hwj; rw [hvV, hD, hW] at hQW; obtain ⟨he1, he2⟩ := part_end f0 hY0 hwj hQW; have hwN : vL (digN N w) = w := (by rw [vL_digN]; exact Nat.mod_eq_of_lt (Nat.lt_of_le_of_lt hww (Nat.lt_of_lt_of_le hWl (Nat.pow_le_pow_right (by decide) (by omega))))); have hwl : (toL w).length ≤ N - 1 := (by rw [toL_len]; exact nd_le _ _ (Nat.lt_of_le_of_lt hww hWl))
  refine J.exit ?_
  refine Kp [9, 11, 14] rfl ?_
  refine Sr ?_
  refine JL.pub64 (a := some ⟨bu, 0, none⟩) (l := digN N w) dl_ (digN_len N w).symm (by rw [digN_len]; omega) (fun h9 hle9 hP9 => ?_); replace hhg := hhg.mono hle9; replace hV := hV.mono hle9; refine JL.pub64 (a := some ⟨bq, 0, none⟩) (l := Q) dl_ hQl.symm (by omega) (fun h8 hle8 hQ8 => ?_); replace hhg := hhg.mono hle8; replace hV := hV.mono hle8; replace hP9 := hP9.mono hle8
  refine Ru 1 rfl ?_
  refine JL.callR ca_97 rfl (rcut_fn hP9 (digN_len N w).symm) rfl ?_
  rintro _ h30 hle30 ⟨ra, rc, rfl, hR⟩
  replace hhg := hhg.mono hle30
  replace hV := hV.mono hle30
  replace hQ8 := hQ8.mono hle30
  rw [hwN] at hR ⊢
  refine Ru 1 rfl ?_
  refine JL.callR ca_124 rfl (rshortly_fn' hR rfl f0 (by omega) (by omega)) rfl ?_
  rintro _ h31 hle31 ⟨sa, sc, rfl, hS⟩
  replace hhg := hhg.mono hle31
  replace hV := hV.mono hle31
  replace hQ8 := hQ8.mono hle31
  replace hR := hR.mono hle31
  rw [vL_toL, he2] at hS ⊢
  refine Ru 5 rfl ?_
  refine Nk [17, 14] rfl ?_
  refine Sr ?_
  refine Ru 1 rfl ?_
  refine JL.callR ca_97 rfl (rcut_fn hQ8 hQl.symm) rfl ?_
  rintro _ h32 hle32 ⟨qa, qc, rfl, hQQ⟩
  replace hhg := hhg.mono hle32
  replace hV := hV.mono hle32
  replace hQ8 := hQ8.mono hle32
  replace hR := hR.mono hle32
  replace hS := hS.mono hle32
  refine Ru 3 rfl ?_
  refine Nk [5, 4] rfl ?_
  rw [he1] at hQQ ⊢; exact J.retR (RetV.two rfl rfl rfl) ⟨_, _, _, _, rfl, hQQ, hS⟩
end Go.Proofs.YtmngjbefnloljaaGreatDoor
namespace Go.Proofs.YtmngjbefnloljaaGreatDoor
open Go Go.RowKit
set_option maxRecDepth 100000
theorem ca_90 : callT Tryz.prog 90 = true := by kernel_rfl
theorem ca_91 : callT Tryz.prog 91 = true := by kernel_rfl
theorem ca_92 : callT Tryz.prog 92 = true := by kernel_rfl
theorem rcompare_fn {a b : Option Addr} {ca cb X Y : Nat} {h : Part} (hA : SlR u64R 1 h a ca ((toL X).map m64)) (hB : SlR u64R 1 h b cb ((toL Y).map m64)) (hlA : (toL X).length ≤ 1000000) : Pure Tryz.prog 92 [.slice a (toL X).length ca, .slice b (toL Y).length cb] h (.int .i64 (cmpI3 X Y)) := by
  have hAl : ((toL X).map m64).length = (toL X).length := List.length_map ..
  have hBl : ((toL Y).map m64).length = (toL Y).length := List.length_map ..
  have e1 := toL_len X
  have e2 := toL_len Y
  refine Fn.intro Tryz.func92 rfl Tryz.ntmps92 rfl (fun e he => ?_)
  refine J.weak [(0, _), (1, _)] ⟨rfl, rfl, trivial⟩ ?_
  refine Sr ?_
  refine Ru 1 rfl ?_
  refine JL.nil ?_
  refine J.seq ?_
  refine Sr ?_
  refine Ru 5 rfl ?_
  refine JL.nil ?_
  refine Cs rfl (fun hc1 => ?_) fun hc1 => ?_
  ·
   refine J.seq ?_
   refine Sr ?_
   refine Ru 5 rfl ?_
   refine Nk [15, 4, 0, 1] rfl ?_
   refine Cs rfl (fun hc2 => ?_) fun hc2 => ?_
   ·
    have hlt := nd_lt (m := X) (n := Y) (by omega)
    refine Sr ?_
    refine Ru 1 rfl ?_
    refine JL.nil ?_
    exact J.retP (RetV.one rfl rfl) (by unfold cmpI3; rw [if_pos hlt]) rfl
   have hlt := nd_lt (m := Y) (n := X) (by omega)
   refine J.skip ?_
   refine Sr ?_
   refine Ru 1 rfl ?_
   refine JL.nil ?_
   exact J.retP (RetV.one rfl rfl) (by unfold cmpI3; rw [if_neg (by omega), if_pos hlt]) rfl
  refine J.skip ?_
  refine Kp [4, 0, 1] rfl ?_
  refine J.seq ?_
  refine Sr ?_
  refine Ru 2 rfl ?_
  refine JL.op si_ rfl ?_
  refine Ru 1 rfl ?_
  refine JL.nil ?_
  refine J.block ?_
  refine J.loop (fun t_ S_ h_ L_ => ∃ (j : Nat), t_ = j + 1 ∧ S_ = [(0, .slice a (toL X).length ca), (1, .slice b (toL Y).length cb), (5, .int .i64 ((j : Int) - 1))] ∧ h = h_ ∧ L_ = [] ∧ (j ≤ (toL X).length ∧ X / 4294967296 ^ j = Y / 4294967296 ^ j)) ⟨_, _, ?_, ⟨(toL X).length, rfl, rfl, rfl, rfl, ⟨Nat.le_refl _, by rw [e1, Nat.div_eq_of_lt (lt_nd _), show nd X = nd Y by omega, Nat.div_eq_of_lt (lt_nd _)]⟩⟩⟩ ?_
  ·
   exact z2_
  rintro _ _ _ _ ⟨j, rfl, rfl, rfl, rfl, hj, he⟩
  refine J.seq ?_
  refine Sr ?_
  refine Ru 2 rfl ?_
  refine JL.nil ?_
  refine Cs rfl (fun hc3 => ?_) fun hc3 => ?_
  ·
   obtain ⟨i, rfl⟩ : ∃ i, j = i + 1 := ⟨j - 1, by omega⟩; have dl := div_low X i; have dr := div_low Y i; have gl := vL_digit (toL X) i; have gr := vL_digit (toL Y) i; rw [vL_toL] at gl gr; rw [gl] at dl; rw [gr] at dr; rw [he] at dl; have al := d64_mat (toL X) i (by omega); have ar := d64_mat (toL Y) i (by omega)
   refine J.skip ?_
   refine J.seq ?_
   refine J.block ?_
   refine J.seq ?_
   refine J.seq ?_
   refine J.drawn mixed_ (by kernel_rfl) ?_
   refine Rq 2 rfl ?_
   refine JQ.ope (RunE.index (m := i) sl_66 rfl rfl (by omega) hA hAl.symm (by omega)) rfl ?_
   rintro _ ⟨b4, o4, hi4, rfl, hE4⟩
   refine JQ.op (RunV.ld_u64 ag_63 rfl (by assumption)) rfl ?_
   rw [al]
   refine Rq 2 rfl ?_
   refine JQ.ope (RunE.index (m := i) sl_66 rfl rfl (by omega) hB hBl.symm (by omega)) rfl ?_
   rintro _ ⟨b6, o6, hi6, rfl, hE6⟩
   refine JQ.op (RunV.ld_u64 ag_63 rfl (by assumption)) rfl ?_
   rw [ar]
   refine Rq 1 rfl ?_
   refine JQ.nil ?_
   refine Cs rfl (fun hc8 => ?_) fun hc8 => ?_
   ·
    have hlt := lt_of_div (x := X) (y := Y) (d := 4294967296 ^ i) (by omega)
    refine Sr ?_
    refine Ru 1 rfl ?_
    refine JL.nil ?_
    exact J.retP (RetV.one rfl rfl) (by unfold cmpI3; rw [if_pos hlt]) rfl
   refine J.skip ?_
   refine J.seq ?_
   refine J.drawn mixed_ (by kernel_rfl) ?_
   refine Rq 2 rfl ?_
   refine JQ.ope (RunE.index (m := i) sl_66 rfl rfl (by omega) hA hAl.symm (by omega)) rfl ?_
   rintro _ ⟨b9, o9, hi9, rfl, hE9⟩
   refine JQ.op (RunV.ld_u64 ag_63 rfl (by assumption)) rfl ?_
   rw [al]
   refine Rq 2 rfl ?_
   refine JQ.ope (RunE.index (m := i) sl_66 rfl rfl (by omega) hB hBl.symm (by omega)) rfl ?_
   rintro _ ⟨b11, o11, hi11, rfl, hE11⟩
   refine JQ.op (RunV.ld_u64 ag_63 rfl (by assumption)) rfl ?_
   rw [ar]
   refine Rq 1 rfl ?_
   refine JQ.nil ?_
   refine Cs rfl (fun hc13 => ?_) fun hc13 => ?_
   ·
    have hlt := lt_of_div (x := Y) (y := X) (d := 4294967296 ^ i) (by omega)
    refine Sr ?_
    refine Ru 1 rfl ?_
    refine JL.nil ?_
    exact J.retP (RetV.one rfl rfl) (by unfold cmpI3; rw [if_neg (by omega), if_pos hlt]) rfl
   refine J.skip ?_
   refine Rg ?_
   refine Ru 1 rfl ?_
   refine JL.op si_ rfl ?_
   refine Ru 1 rfl ?_
   refine JL.nil ?_
   refine ⟨_, ?_, _, ?_, ⟨i, rfl, rfl, rfl, rfl, ⟨by omega, by omega⟩⟩⟩
   ·
    omega
   exact z2_
  have hj0 : j = 0 := (by omega); rw [hj0, Nat.pow_zero, Nat.div_one, Nat.div_one] at he
  refine J.exit ?_
  refine Kp [] rfl ?_
  refine Sr ?_
  refine Ru 1 rfl ?_
  refine JL.nil ?_
  exact J.retP (RetV.one rfl rfl) (by unfold cmpI3; rw [if_neg (by omega), if_neg (by omega)]) rfl
theorem rcmp_fn {a b : Option Addr} {ca cb : Nat} {l r : List UInt32} {h : Part} (hl : SlR u32R 1 h a ca l) (hr : SlR u32R 1 h b cb r) (hlb : l.length ≤ 1000000) (hrb : r.length ≤ 1000000) : FnR Tryz.prog 49 [.slice a l.length ca, .slice b r.length cb] h (fun v _ => v = .int .i64 (cmpI3 (vL l) (vL r))) := by
  have n1 : (toL (vL l)).length ≤ l.length := by rw [toL_len]; exact nd_le _ _ (vL_lt l)
  refine Fn.intro Tryz.func49 rfl Tryz.ntmps49 rfl (fun e he => ?_)
  refine J.weak [(0, _), (1, _)] ⟨rfl, rfl, trivial⟩ ?_
  have hh0 := Part.le.refl h
  refine Sr ?_
  refine Ru 1 rfl ?_
  refine JL.nil ?_
  refine Sr ?_
  refine Ru 1 rfl ?_
  refine JL.callR ca_56 rfl (rdigs_fn hl hlb) rfl ?_
  rintro _ h1 hle1 ⟨da, dc, rfl, hD⟩
  replace hl := hl.mono hle1
  replace hr := hr.mono hle1
  replace hh0 := hh0.mono hle1
  refine Ru 1 rfl ?_
  refine JL.callR ca_56 rfl (rdigs_fn hr hrb) rfl ?_
  rintro _ h2 hle2 ⟨ea, ec, rfl, hE⟩
  replace hl := hl.mono hle2
  replace hr := hr.mono hle2
  replace hh0 := hh0.mono hle2
  replace hD := hD.mono hle2
  refine JL.callP ca_92 rfl (rcompare_fn hD hE (by omega)) rfl ?_
  refine Ru 1 rfl ?_
  refine Nk [4] rfl ?_
  exact J.retR (RetV.one rfl rfl) rfl
theorem toL_nd (N : Nat) (h : 0 < N) : 1 ≤ (toL N).length ∧ 4294967296 ^ ((toL N).length - 1) ≤ vL (toL N) := by
  rw [toL_len, vL_toL]; have := nd_pos N h; exact ⟨this.2, this.1⟩
theorem pow_start (X E N : Nat) : 1 % N = X ^ (E / 4294967296 ^ nd E) % N := by
  rw [Nat.div_eq_of_lt (lt_nd E), Nat.pow_zero]
set_option maxHeartbeats 1000000 in
theorem rpow_fn {a b d : Option Addr} {ca cb cd : Nat} {l m r : List UInt32} {h : Part} (hl : SlR u32R 1 h a ca l) (hm : SlR u32R 1 h b cb m) (hr : SlR u32R 1 h d cd r) (hlb : l.length ≤ 100000) (hmb : m.length ≤ 100000) (hrb : r.length ≤ 10000) : FnR Tryz.prog 46 [.slice a l.length ca, .slice b m.length cb, .slice d r.length cd] h
    (fun v h' => ∃ a1 c1, v = .tuple #[.slice a1 (toL (powV (vL l) (vL m) (vL r))).length c1, .int .i64 (if vL r = 0 then 10 else 0)] ∧ SlR u32R 1 h' a1 c1 (toL (powV (vL l) (vL m) (vL r)))) := by
  have nl : (toL (vL l)).length ≤ l.length := by rw [toL_len]; exact nd_le _ _ (vL_lt l)
  have nm : (toL (vL m)).length ≤ m.length := by rw [toL_len]; exact nd_le _ _ (vL_lt m)
  have nr : (toL (vL r)).length ≤ r.length := by rw [toL_len]; exact nd_le _ _ (vL_lt r)
  obtain ⟨X, hX⟩ : ∃ X, X = vL l := ⟨_, rfl⟩
  obtain ⟨E, hE⟩ : ∃ E, E = vL m := ⟨_, rfl⟩
  obtain ⟨N, hN⟩ : ∃ N, N = vL r := ⟨_, rfl⟩
  have hRl := vL_lt (toL N)
  rw [← hX] at nl
  rw [← hE] at nm
  rw [← hN] at nr
  rw [← hX, ← hE, ← hN]
  have l1 : (digN 1 1).length = 1 := digN_len 1 1
  have mle : ∀ z, N ≠ 0 → (toL (z % N)).length ≤ 10000 := fun z h0 => by
    rw [toL_len]; exact Nat.le_trans (nd_le _ r.length (by rw [hN] at h0 ⊢; exact Nat.lt_trans (Nat.mod_lt _ (by omega)) (vL_lt r))) hrb
  refine Fn.intro Tryz.func46 rfl Tryz.ntmps46 rfl (fun e he => ?_)
  refine J.weak [(0, _), (1, _), (2, _)] ⟨rfl, rfl, rfl, trivial⟩ ?_
  have hh0 := Part.le.refl h
  refine Sr ?_
  refine Ru 2 rfl ?_
  refine JL.nil ?_
  refine Sr ?_
  refine Ru 1 rfl ?_
  refine JL.callR ca_56 rfl (rdigs_fn hr (by omega)) rfl ?_
  rintro _ h1 hle1 ⟨ra, rc, rfl, hR⟩
  replace hl := hl.mono hle1
  replace hm := hm.mono hle1
  replace hr := hr.mono hle1
  replace hh0 := hh0.mono hle1
  rw [← hN] at hR ⊢
  refine Ru 1 rfl ?_
  refine JL.nil ?_
  refine J.seq ?_
  refine Sr ?_
  refine Ru 3 rfl ?_
  refine Nk [22, 8, 7, 6, 0, 1] rfl ?_
  refine Cs rfl (fun hc2 => ?_) fun hc2 => ?_
  ·
   have hN0 : N = 0 := (by rcases Nat.eq_zero_or_pos N with h0 | h0; exact h0; have := (toL_nd N h0).1; omega); have hp : toL (powV X E N) = [] := (by rw [powV, if_pos hN0]; rfl)
   refine Sr ?_
   refine Ru 2 rfl ?_
   refine JL.nil ?_
   rw [hp, if_pos hN0]; exact J.retR (RetV.two rfl rfl rfl) ⟨none, 0, rfl, SlR.nil_⟩
  have hN0 : 0 < N := (by rcases Nat.eq_zero_or_pos N with h0 | h0; (exfalso; apply hc2; rw [h0]; rfl); exact h0); obtain ⟨t1, t2⟩ := toL_nd N hN0; obtain ⟨n, hn⟩ : ∃ n, n = (toL N).length := ⟨_, rfl⟩; rw [← hn] at t1 t2; obtain ⟨f, hf⟩ : ∃ f, f = 4294967296 / (d32 (toL N) (n - 1) + 1) := ⟨_, rfl⟩; obtain ⟨f0, fB, fV, fV2⟩ := norm_f hn t1 t2 hf; rw [vL_toL] at fV fV2; have ht := d32_lt (toL N) (n - 1); have ev0 := d64_mat (toL N) (n - 1) (by rw [List.length_map]; omega); have hRm : ((toL N).map m64).length = (toL N).length := List.length_map ..; have hEm : ((toL E).map m64).length = (toL E).length := List.length_map ..; have hVl : (toL (N * f)).length = n := (by rw [toL_len, nd_eq (N * f) (n - 1) (by rw [show n - 1 + 1 = n by omega]; exact fV) fV2]; omega); have lf : (digN 1 f).length = 1 := digN_len 1 f; have hmle := fun z => mle z (by omega)
  refine J.skip ?_
  refine Sr ?_
  refine Ru 3 rfl ?_
  refine JL.op si_ rfl ?_
  refine JL.ope (RunE.index (m := n - 1) sl_66 rfl rfl (by omega) hR hRm.symm (by omega)) rfl ?_
  rintro _ ⟨b3, o3, hi3, rfl, hE3⟩
  refine JL.op (RunV.ld_u64 ag_63 rfl (by assumption)) rfl ?_
  rw [ev0]
  refine JL.op z20_ rfl ?_
  rw [show ((d32 (toL N) (n - 1) : Nat) : Int) + 1 = ((d32 (toL N) (n - 1) + 1 : Nat) : Int) by omega]
  refine JL.op z16_ rfl ?_
  rw [show (4294967296 : Int) / ((d32 (toL N) (n - 1) + 1 : Nat) : Int) = (f : Int) by rw [hf, Int.natCast_ediv]; rfl]
  refine Ru 1 rfl ?_
  refine Nk [9, 8, 7, 6, 0, 1] rfl ?_
  refine Sr ?_
  refine Ru 2 rfl ?_
  refine JL.lit1 ap_66 zr_63 rfl rfl rfl rfl rfl (fun b5 => ?_)
  refine JL.pubB (R := u64R) (sz := 1) (l := (digN 1 f).map m64) dl_ ((cells_one f fB)) z7_ (fun h6 hle6 hF => ?_)
  replace hl := hl.mono hle6
  replace hm := hm.mono hle6
  replace hr := hr.mono hle6
  replace hh0 := hh0.mono hle6
  replace hR := hR.mono hle6
  refine JL.callR ca_89 rfl (rtimes_fn' hR hF rfl lf.symm (by omega) (by omega)) rfl ?_
  rintro _ h7 hle7 ⟨va, vc, rfl, hV⟩
  replace hl := hl.mono hle7
  replace hm := hm.mono hle7
  replace hr := hr.mono hle7
  replace hh0 := hh0.mono hle7
  replace hR := hR.mono hle7
  replace hF := hF.mono hle7
  rw [vL_one f fB, vL_toL] at hV ⊢
  refine Ru 1 rfl ?_
  refine JL.nil ?_
  refine Sr ?_
  refine Ru 1 rfl ?_
  refine JL.callR ca_56 rfl (rdigs_fn hl (by omega)) rfl ?_
  rintro _ h8 hle8 ⟨la, lc, rfl, hL⟩
  replace hl := hl.mono hle8
  replace hm := hm.mono hle8
  replace hr := hr.mono hle8
  replace hh0 := hh0.mono hle8
  replace hR := hR.mono hle8
  replace hF := hF.mono hle8
  replace hV := hV.mono hle8
  rw [← hX] at hL ⊢
  refine Ru 1 rfl ?_
  refine JL.callR ca_90 rfl (parted_fn hL hR rfl rfl (by omega) (by rw [← hn]; exact t2) (by omega) (by omega)) rfl ?_
  rintro _ h9 hle9 ⟨qa, qc, xa, xc, rfl, hQ, hXX⟩
  replace hl := hl.mono hle9
  replace hm := hm.mono hle9
  replace hr := hr.mono hle9
  replace hh0 := hh0.mono hle9
  replace hR := hR.mono hle9
  replace hF := hF.mono hle9
  replace hV := hV.mono hle9
  replace hL := hL.mono hle9
  rw [vL_toL, vL_toL] at hXX ⊢
  refine Ru 5 rfl ?_
  refine Nk [12, 10, 9, 8, 7, 6, 1] rfl ?_
  refine Sr ?_
  refine JL.lit1 ap_66 zr_63 rfl rfl rfl rfl rfl (fun b10 => ?_)
  refine JL.pubB (R := u64R) (sz := 1) (l := (digN 1 1).map m64) dl_ ((cells_one 1 (by decide))) z7_ (fun h11 hle11 hO1 => ?_)
  replace hl := hl.mono hle11
  replace hm := hm.mono hle11
  replace hr := hr.mono hle11
  replace hh0 := hh0.mono hle11
  replace hR := hR.mono hle11
  replace hF := hF.mono hle11
  replace hV := hV.mono hle11
  replace hL := hL.mono hle11
  replace hXX := hXX.mono hle11
  refine Ru 1 rfl ?_
  refine JL.callR ca_90 rfl (parted_fn hO1 hR l1.symm rfl (by omega) (by rw [← hn]; exact t2) (by omega) (by omega)) rfl ?_
  rintro _ h12 hle12 ⟨qa2, qc2, oa, oc, rfl, hQ2, hO⟩
  replace hl := hl.mono hle12
  replace hm := hm.mono hle12
  replace hr := hr.mono hle12
  replace hh0 := hh0.mono hle12
  replace hR := hR.mono hle12
  replace hF := hF.mono hle12
  replace hV := hV.mono hle12
  replace hL := hL.mono hle12
  replace hXX := hXX.mono hle12
  replace hO1 := hO1.mono hle12
  rw [vL_one 1 (by decide), vL_toL] at hO ⊢
  refine Ru 5 rfl ?_
  refine Nk [14, 12, 10, 9, 7, 6, 1] rfl ?_
  refine Sr ?_
  refine Ru 1 rfl ?_
  refine JL.callR ca_56 rfl (rdigs_fn hm (by omega)) rfl ?_
  rintro _ h13 hle13 ⟨ea, ec, rfl, hEE⟩
  replace hl := hl.mono hle13
  replace hm := hm.mono hle13
  replace hr := hr.mono hle13
  replace hh0 := hh0.mono hle13
  replace hR := hR.mono hle13
  replace hF := hF.mono hle13
  replace hV := hV.mono hle13
  replace hL := hL.mono hle13
  replace hXX := hXX.mono hle13
  replace hO1 := hO1.mono hle13
  replace hO := hO.mono hle13
  rw [← hE] at hEE ⊢
  refine Ru 1 rfl ?_
  refine JL.nil ?_
  refine J.seq ?_
  refine Sr ?_
  refine Ru 2 rfl ?_
  refine JL.op si_ rfl ?_
  refine Ru 1 rfl ?_
  refine Nk [16, 15, 14, 12, 10, 9, 7, 6] rfl ?_
  refine J.block ?_
  refine J.loop (fun t_ S_ h_ L_ => ∃ (g : Part) (j : Nat) (O : List UInt32) (oa2 : Option Addr) (oc2 : Nat), t_ = j + 1 ∧ S_ = [(9, .int .u64 f), (10, .slice va (toL (N * f)).length vc), (12, .slice xa (toL (X % N)).length xc), (14, .slice oa2 O.length oc2), (15, .slice ea (toL E).length ec), (16, .int .i64 ((j : Int) - 1))] ∧ g = h_ ∧ L_ = [] ∧ (h.le g ∧ SlR u64R 1 g va vc ((toL (N * f)).map m64) ∧ SlR u64R 1 g xa xc ((toL (X % N)).map m64) ∧ SlR u64R 1 g ea ec ((toL E).map m64) ∧ SlR u64R 1 g oa2 oc2 (O.map m64) ∧ j ≤ (toL E).length ∧ O = toL (X ^ (E / 2 ^ (32 * j)) % N))) ⟨_, _, ?_, ⟨_, (toL E).length, _, oa, oc, rfl, rfl, rfl, rfl, ⟨hh0, hV, hXX, hEE, hO, Nat.le_refl _, by rw [toL_len, ← pow32, ← pow_start]⟩⟩⟩ ?_
  ·
   exact z2_
  rintro _ _ _ _ ⟨g, j, O, oa2, oc2, rfl, rfl, rfl, rfl, hhg, hV, hXX, hEE, hO, hj, hOe⟩
  refine J.seq ?_
  refine Sr ?_
  refine Ru 2 rfl ?_
  refine JL.nil ?_
  refine Cs rfl (fun hc14 => ?_) fun hc14 => ?_
  ·
   obtain ⟨i, rfl⟩ : ∃ i, j = i + 1 := ⟨j - 1, by omega⟩; have ei := d64_mat (toL E) i (by omega); have bi := d32_lt (toL E) i
   refine J.skip ?_
   refine J.seq ?_
   refine J.block ?_
   refine Sr ?_
   refine Ru 1 rfl ?_
   refine JL.nil ?_
   refine J.block ?_
   refine J.loop (fun t_ S_ h_ L_ => ∃ (g2 : Part) (s : Nat) (O2 : List UInt32) (oa3 : Option Addr) (oc3 : Nat), t_ = s + 1 ∧ S_ = [(9, .int .u64 f), (10, .slice va (toL (N * f)).length vc), (12, .slice xa (toL (X % N)).length xc), (14, .slice oa3 O2.length oc3), (15, .slice ea (toL E).length ec), (16, .int .i64 i), (17, .int .u64 (2 ^ s / 2 : Nat))] ∧ g2 = h_ ∧ L_ = [] ∧ (h.le g2 ∧ SlR u64R 1 g2 va vc ((toL (N * f)).map m64) ∧ SlR u64R 1 g2 xa xc ((toL (X % N)).map m64) ∧ SlR u64R 1 g2 ea ec ((toL E).map m64) ∧ SlR u64R 1 g2 oa3 oc3 (O2.map m64) ∧ s ≤ 32 ∧ O2 = toL (X ^ (E / 2 ^ (32 * i + s)) % N))) ⟨_, _, ?_, ⟨_, 32, O, oa2, oc2, rfl, rfl, rfl, rfl, ⟨hhg, hV, hXX, hEE, hO, Nat.le_refl _, by rw [hOe]; rfl⟩⟩⟩ ?_
   ·
    exact z2_
   rintro _ _ _ _ ⟨g2, s, O2, oa3, oc3, rfl, rfl, rfl, rfl, hhg, hV, hXX, hEE, hO, hs, hOe2⟩
   refine J.seq ?_
   refine Sr ?_
   refine Ru 2 rfl ?_
   refine JL.nil ?_
   refine Cs rfl (fun hc15 => ?_) fun hc15 => ?_
   ·
    obtain ⟨p, rfl⟩ : ∃ p, s = p + 1 := ⟨s - 1, by rcases Nat.eq_zero_or_pos s with h0 | h0; (rw [h0] at hc15; exact absurd hc15 (by decide)); omega⟩; have hk : 2 ^ (p + 1) / 2 = 2 ^ p := (by rw [Nat.pow_succ]; omega); have hk0 : 0 < 2 ^ p := Nat.two_pow_pos p; have hk1 : 2 ^ p ≤ 2147483648 := (Nat.pow_le_pow_right (by decide) (show p ≤ 31 by omega) : 2 ^ p ≤ 2 ^ 31); rw [hk]; subst hOe2; obtain ⟨Z, hZ⟩ : ∃ Z, Z = E / 2 ^ (32 * i + p + 1) := ⟨_, rfl⟩; have hsq := pow_sq X E N (32 * i + p); have hhb := half_bit E (32 * i + p); have hba := bit_at (toL E) (32 * i + p); rw [show (32 * i + p) / 32 = i by omega, show (32 * i + p) % 32 = p by omega, vL_toL] at hba; obtain ⟨bq, hbq⟩ : ∃ bq, bq = d32 (toL E) i / 2 ^ p := ⟨_, rfl⟩; have hbq2 : bq ≤ d32 (toL E) i := (by rw [hbq]; exact Nat.div_le_self _ _); rw [← hbq] at hba; rw [show 32 * i + (p + 1) = 32 * i + p + 1 by omega, ← hZ] at hO ⊢; rw [← hZ] at hsq hhb; have hO1 := hmle (X ^ Z); have hO2 := hmle (X ^ (2 * Z)); have hO3 := hmle X
    refine J.skip ?_
    refine J.seq ?_
    refine J.block ?_
    refine Sr ?_
    refine Ru 4 rfl ?_
    refine JL.callR ca_91 rfl (rest_fn hO hO hV rfl rfl rfl (by omega) f0 fB hN0 (vL_toL _) (by rw [hVl, vL_toL]; exact fV2) (by omega) (by omega) (by omega)) rfl ?_
    rintro _ h16 hle16 ⟨sa, sc, rfl, hS⟩
    replace hhg := hhg.mono hle16
    replace hV := hV.mono hle16
    replace hXX := hXX.mono hle16
    replace hEE := hEE.mono hle16
    replace hO := hO.mono hle16
    rw [vL_toL, hsq] at hS ⊢
    refine Ru 1 rfl ?_
    refine JL.nil ?_
    refine Sr ?_
    refine Ru 2 rfl ?_
    refine JL.ope (RunE.index (m := i) sl_66 rfl rfl (by omega) hEE hEm.symm (by omega)) rfl ?_
    rintro _ ⟨b17, o17, hi17, rfl, hE17⟩
    refine JL.op (RunV.ld_u64 ag_63 rfl (by assumption)) rfl ?_
    rw [ei]
    refine Ru 1 rfl ?_
    refine JL.op (RunV.quo_u64 rfl rfl (by omega) (by omega) (by omega)) rfl ?_
    rw [← Int.natCast_ediv, ← hbq]
    refine JL.op z31_ rfl ?_
    refine Ru 1 rfl ?_
    refine JL.nil ?_
    refine Cs rfl (fun hc19 => ?_) fun hc19 => ?_
    ·
     have hbit : E / 2 ^ (32 * i + p) = 2 * Z + 1 := (by omega); have hp1 := pow_one X (2 * Z) N
     refine Rg ?_
     refine Ru 4 rfl ?_
     refine JL.callR ca_91 rfl (rest_fn hS hXX hV rfl rfl rfl (by omega) f0 fB hN0 (vL_toL _) (by rw [hVl, vL_toL]; exact fV2) (by omega) (by omega) (by omega)) rfl ?_
     rintro _ h20 hle20 ⟨ta, tc, rfl, hT⟩
     replace hhg := hhg.mono hle20
     replace hV := hV.mono hle20
     replace hXX := hXX.mono hle20
     replace hEE := hEE.mono hle20
     replace hO := hO.mono hle20
     replace hS := hS.mono hle20
     rw [vL_toL, vL_toL, hp1, ← hbit] at hT ⊢
     refine Ru 1 rfl ?_
     refine JL.nil ?_
     refine Rg ?_
     refine Ru 1 rfl ?_
     refine JL.op z16_ rfl ?_
     refine Ru 1 rfl ?_
     refine JL.nil ?_
     refine ⟨_, ?_, _, ?_, ⟨_, p, _, ta, tc, rfl, rfl, rfl, rfl, ⟨hhg, hV, hXX, hEE, hT, by omega, rfl⟩⟩⟩
     ·
      omega
     exact z2_
    have hbit : E / 2 ^ (32 * i + p) = 2 * Z := (by omega); rw [← hbit] at hS ⊢
    refine J.skip ?_
    refine Rg ?_
    refine Ru 1 rfl ?_
    refine JL.op z16_ rfl ?_
    refine Ru 1 rfl ?_
    refine JL.nil ?_
    refine ⟨_, ?_, _, ?_, ⟨_, p, _, sa, sc, rfl, rfl, rfl, rfl, ⟨hhg, hV, hXX, hEE, hS, by omega, rfl⟩⟩⟩
    ·
     omega
    exact z2_
   have hs0 : s = 0 := (by rcases Nat.eq_zero_or_pos s with h0 | h0; exact h0; exfalso; apply hc15; obtain ⟨p, rfl⟩ : ∃ p, s = p + 1 := ⟨s - 1, by omega⟩; rw [show 2 ^ (p + 1) / 2 = 2 ^ p by rw [Nat.pow_succ]; omega]; have := Nat.two_pow_pos p; omega)
   refine J.exit ?_
   refine Rg ?_
   refine Ru 1 rfl ?_
   refine JL.op si_ rfl ?_
   refine Ru 1 rfl ?_
   refine JL.nil ?_
   refine ⟨_, ?_, _, ?_, ⟨_, i, _, oa3, oc3, rfl, rfl, rfl, rfl, ⟨hhg, hV, hXX, hEE, hO, by omega, by rw [hOe2, hs0]; rfl⟩⟩⟩
   ·
    omega
   exact z2_
  have hj0 : j = 0 := (by omega); subst hj0; subst hOe; rw [Nat.mul_zero, Nat.pow_zero, Nat.div_one] at hO ⊢; have hpv : powV X E N = X ^ E % N := if_neg (by omega); have hO9 := hmle (X ^ E)
  refine J.exit ?_
  refine Kp [14] rfl ?_
  refine Sr ?_
  refine Ru 1 rfl ?_
  refine JL.callR ca_58 rfl (number32_fn hO rfl (by omega)) rfl ?_
  rintro _ h21 hle21 ⟨na, nc, rfl, hNN⟩
  replace hhg := hhg.mono hle21
  replace hV := hV.mono hle21
  replace hXX := hXX.mono hle21
  replace hEE := hEE.mono hle21
  replace hO := hO.mono hle21
  refine Ru 2 rfl ?_
  refine JL.nil ?_
  rw [vL_toL] at hNN ⊢; rw [hpv, if_neg (by omega)]; exact J.retR (RetV.two rfl rfl rfl) ⟨_, _, rfl, hNN⟩
end Go.Proofs.YtmngjbefnloljaaGreatDoor
namespace Go.Proofs.YtmngjbefnloljaaGreatDoor
open Go Go.RowKit
theorem z23_ {p : Prop} (u : p := by unfold rightB; first | exact decide_eq_decide.2 (by omega) | exact (decide_eq_false (by omega)).symm) : p := u
theorem z48_ {p : Prop} (u : p := by first | exact RunV.fieldAt0 fo_32_1 rfl | exact RunV.fieldAt fo_32_1 rfl) : p := u
end Go.Proofs.YtmngjbefnloljaaGreatDoor
namespace Go.Proofs.YtmngjbefnloljaaGreatDoor
open Go Go.RowKit
set_option maxRecDepth 100000
theorem ag_30 : aggT Tryz.prog 30 = some none := by kernel_rfl
theorem ca_101 : callT Tryz.prog 101 = true := by kernel_rfl
theorem ca_49 : callT Tryz.prog 49 = true := by kernel_rfl
theorem ca_53 : callT Tryz.prog 53 = true := by kernel_rfl
theorem ca_98 : callT Tryz.prog 98 = true := by kernel_rfl
theorem fo_32_0 : fieldOff Tryz.prog 32 0 = some 0 := by kernel_rfl
theorem fo_32_1 : fieldOff Tryz.prog 32 1 = some 1 := by kernel_rfl
theorem fo_32_2 : fieldOff Tryz.prog 32 2 = some 2 := by kernel_rfl
theorem d32_par (l : List UInt32) : d32 l 0 % 2 = vL l % 2 := by
  have := vL_digit l 0
  rw [Nat.pow_zero, Nat.div_one] at this
  omega
theorem odd_nil {l : List UInt32} (h : ¬ 0 < l.length) : vL l % 2 = 0 := by
  rw [← d32_par, d32_out l 0 (by omega)]
theorem odd_fn {a : Option Addr} {c : Nat} {l : List UInt32} {h : Part} (hl : SlR u32R 1 h a c l) : Pure Tryz.prog 98 [.slice a l.length c] h (.bool (decide (vL l % 2 = 1))) := by
  have hb := hl.big
  have hp := d32_par l
  have hd := d32_lt l 0
  refine Fn.intro Tryz.func98 rfl Tryz.ntmps98 rfl (fun e he => ?_)
  refine J.weak [(0, _)] ⟨rfl, trivial⟩ ?_
  refine Sr ?_
  refine Ru 1 rfl ?_
  refine JL.nil ?_
  refine Sr ?_
  refine Ru 4 rfl ?_
  refine Bs 6 rfl (fun hc1 => ?_) fun hc1 => ?_
  ·
   refine Ru 1 rfl ?_
   refine JL.opeg rfl rfl  (RunE.index (m := 0) sl_30 rfl rfl rfl hl rfl (by omega)) rfl ?_
   rintro _ ⟨b2, o2, hi2, rfl, hE2⟩
   refine JL.opg rfl rfl  (RunV.ld_u32 ag_103 rfl (by assumption)) rfl ?_
   rw [d32_at]
   refine JL.opg rfl rfl  (RunV.mask_u32 1 2 rfl rfl (by decide) (by decide) (by decide) (by omega) (by omega)) rfl ?_
   refine Ru 3 rfl ?_
   refine Nk [2] rfl ?_
   exact J.retP (RetV.one rfl rfl) (congrArg Value.bool (by first | exact decide_eq_decide.2 (by omega) | exact (decide_eq_false (by have := odd_nil (l := l) (by omega); omega)).symm)) rfl
  refine Ru 7 rfl ?_
  refine Nk [2] rfl ?_
  exact J.retP (RetV.one rfl rfl) (congrArg Value.bool (by first | exact decide_eq_decide.2 (by omega) | exact (decide_eq_false (by have := odd_nil (l := l) (by omega); omega)).symm)) rfl
theorem rodd_fn {a : Option Addr} {c : Nat} {l : List UInt32} {h : Part} (hl : SlR u32R 1 h a c l) : Pure Tryz.prog 101 [.slice a l.length c] h (.bool (decide (vL l % 2 = 1))) := by
  have hb := hl.big
  have hp := d32_par l
  have hd := d32_lt l 0
  refine Fn.intro Tryz.func101 rfl Tryz.ntmps101 rfl (fun e he => ?_)
  refine J.weak [(0, _)] ⟨rfl, trivial⟩ ?_
  refine Sr ?_
  refine Ru 1 rfl ?_
  refine JL.nil ?_
  refine Sr ?_
  refine Ru 4 rfl ?_
  refine Bs 6 rfl (fun hc1 => ?_) fun hc1 => ?_
  ·
   refine Ru 1 rfl ?_
   refine JL.opeg rfl rfl  (RunE.index (m := 0) sl_30 rfl rfl rfl hl rfl (by omega)) rfl ?_
   rintro _ ⟨b2, o2, hi2, rfl, hE2⟩
   refine JL.opg rfl rfl  (RunV.ld_u32 ag_103 rfl (by assumption)) rfl ?_
   rw [d32_at]
   refine JL.opg rfl rfl  (by first | exact RunV.rem_u32 rfl rfl (by omega) (by omega) | exact RunV.rem rfl rfl (by omega)) rfl ?_
   refine Ru 3 rfl ?_
   refine Nk [2] rfl ?_
   exact J.retP (RetV.one rfl rfl) (congrArg Value.bool (by first | exact decide_eq_decide.2 (by omega) | exact (decide_eq_false (by have := odd_nil (l := l) (by omega); omega)).symm)) rfl
  refine Ru 7 rfl ?_
  refine Nk [2] rfl ?_
  exact J.retP (RetV.one rfl rfl) (congrArg Value.bool (by first | exact decide_eq_decide.2 (by omega) | exact (decide_eq_false (by have := odd_nil (l := l) (by omega); omega)).symm)) rfl
def rightB (n e d : Nat) : Bool := decide (n % 2 = 1 ∧ 512 ≤ bl n ∧ bl n ≤ 4096 ∧ e % 2 = 1 ∧ 2 < e ∧ bl e ≤ 64 ∧ d < n)
theorem cmp_facts (a b : Nat) : (0 < cmpI3 a b ↔ b < a) ∧ (cmpI3 a b < 0 ↔ a < b) ∧ (cmpI3 a b = 1 ↔ b < a) ∧ (cmpI3 a b = -1 ↔ a < b) ∧ (cmpI3 a b = 0 ↔ a = b) := by
  unfold cmpI3
  split
  · omega
  · split <;> omega
theorem ksize_fn {an ae ad : Option Addr} {cn ce cd : Nat} {n e d : List UInt32} {h : Part} (hn : SlR u32R 1 h an cn n) : Pure Tryz.prog 25 [.agg #[.slice an n.length cn, .slice ae e.length ce, .slice ad d.length cd]] h (.int .i64 ((bl (vL n) + 7) / 8 : Nat)) := by
  have hb := hn.big
  have hbl := bl_len' n
  refine Fn.intro Tryz.func25 rfl Tryz.ntmps25 rfl (fun e he => ?_)
  refine J.weak [(0, _)] ⟨rfl, trivial⟩ ?_
  refine Sr ?_
  refine JL.box rfl rfl rfl (fun b1 => ?_)
  refine Ru 1 rfl ?_
  refine JL.nil ?_
  refine Sr ?_
  refine Ru 1 rfl ?_
  refine JL.op (RunV.own1 ag_30 rfl mm_ rfl) rfl ?_
  refine JL.callP ca_40 rfl (natbits_fn (by assumption)) rfl ?_
  rw [nbits_vL]
  refine JL.op ai_ rfl ?_
  refine JL.op z12_ rfl ?_
  refine Ru 1 rfl ?_
  refine Nk [2] rfl ?_
  exact J.retP (RetV.one rfl rfl) (congrArg (Value.int .i64) (by omega)) rfl
theorem rsize_fn {an ae ad : Option Addr} {cn ce cd : Nat} {n e d : List UInt32} {h : Part} (hn : SlR u32R 1 h an cn n) (hln : n.length ≤ 100000) : FnR Tryz.prog 27 [.agg #[.slice an n.length cn, .slice ae e.length ce, .slice ad d.length cd]] h (fun v _ => v = .int .i64 ((bl (vL n) + 7) / 8 : Nat)) := by
  have hb := hn.big
  have hbl := bl_len' n
  refine Fn.intro Tryz.func27 rfl Tryz.ntmps27 rfl (fun e he => ?_)
  refine J.weak [(0, _)] ⟨rfl, trivial⟩ ?_
  have hh0 := Part.le.refl h
  refine Sr ?_
  refine JL.box rfl rfl rfl (fun b1 => ?_)
  refine Ru 1 rfl ?_
  refine JL.nil ?_
  refine Sr ?_
  refine Ru 1 rfl ?_
  refine JL.op (RunV.own1 ag_30 rfl mm_ rfl) rfl ?_
  refine JL.callR ca_45 rfl (rbits_fn (by assumption) (by omega)) rfl ?_
  rintro _ h2 hle2 rfl
  replace hn := hn.mono hle2
  replace hh0 := hh0.mono hle2
  rw [nbits_vL]
  refine JL.op ai_ rfl ?_
  refine JL.op z12_ rfl ?_
  refine Ru 1 rfl ?_
  refine Nk [2] rfl ?_
  exact J.retR (RetV.one rfl rfl) (congrArg (Value.int .i64) (by omega))
theorem keyright_fn {an ae ad : Option Addr} {cn ce cd : Nat} {n x d : List UInt32} {h : Part} (hn : SlR u32R 1 h an cn n) (hx : SlR u32R 1 h ae ce x) (hd : SlR u32R 1 h ad cd d) : FnR Tryz.prog 60 [.agg #[.slice an n.length cn, .slice ae x.length ce, .slice ad d.length cd]] h (fun v _ => v = .bool (rightB (vL n) (vL x) (vL d))) := by
  have hb := hn.big
  have hbl := bl_len' n
  have v2 : vL (toL 2) = 2 := vL_toL 2
  obtain ⟨k1, -, k2, -, -⟩ := cmp_facts (vL x) 2
  obtain ⟨-, k3, -, k4, -⟩ := cmp_facts (vL d) (vL n)
  refine Fn.intro Tryz.func60 rfl Tryz.ntmps60 rfl (fun e he => ?_)
  refine J.weak [(0, _)] ⟨rfl, trivial⟩ ?_
  have hh0 := Part.le.refl h
  refine Sr ?_
  refine JL.box rfl rfl rfl (fun b1 => ?_)
  refine Ru 1 rfl ?_
  refine JL.nil ?_
  refine Sr ?_
  refine Ru 1 rfl ?_
  refine JL.op (RunV.own1 ag_30 rfl mm_ rfl) rfl ?_
  refine JL.callP ca_40 rfl (natbits_fn (by assumption)) rfl ?_
  rw [nbits_vL]
  refine Ru 1 rfl ?_
  refine JL.nil ?_
  refine J.seq ?_
  refine J.held ([.blk b1 32 [.slice an n.length cn, .slice ae x.length ce, .slice ad d.length cd]]) 38 mixed_ rfl (fun h00 => ?_)
  refine JH.take 0 rfl (by kernel_rfl) (by kernel_rfl) (by kernel_rfl) (fun _ _ _ _ hh => hh) (br_ h00) (by first | exact RunV.fieldAt0 fo_32_0 rfl | exact RunV.fieldAt fo_32_0 rfl) rfl ?_
  refine JH.take 1 rfl (by kernel_rfl) (by kernel_rfl) (by kernel_rfl) (fun _ _ _ _ hh => hh) (br_ h00) (RunV.own1 ag_30 rfl mm_ rfl) rfl ?_
  refine JH.all1 2 (by kernel_rfl) rfl ?_
  unfold One
  refine JL.callP ca_98 rfl (odd_fn (by assumption)) rfl ?_
  refine JL.nil ⟨(br_ h00), ?_⟩
  refine JH.take 3 rfl (by kernel_rfl) (by kernel_rfl) (by kernel_rfl) (fun _ _ _ _ hh => hh) (br_ h00) (RunV.move rfl) rfl ?_
  refine Bh 10 rfl (fun hc4 => ?_) fun hc4 => ?_
  ·
   refine JH.takeG 4 rfl rfl rfl (by kernel_rfl) (by kernel_rfl) (by kernel_rfl) (fun _ _ _ _ hh => hh) (br_ h00) (RunV.move rfl) rfl ?_
   refine JH.takeG 5 rfl rfl rfl (by kernel_rfl) (by kernel_rfl) (by kernel_rfl) (fun _ _ _ _ hh => hh) (br_ h00) (RunV.geq rfl rfl) rfl ?_
   refine JH.take 6 rfl (by kernel_rfl) (by kernel_rfl) (by kernel_rfl) (fun _ _ _ _ hh => hh) (br_ h00) (RunV.pick_t rfl rfl) rfl ?_
   refine JH.take 7 rfl (by kernel_rfl) (by kernel_rfl) (by kernel_rfl) (fun _ _ _ _ hh => hh) (br_ h00) (RunV.move rfl) rfl ?_
   refine Bh 14 rfl (fun hc5 => ?_) fun hc5 => ?_
   ·
    refine JH.takeG 8 rfl rfl rfl (by kernel_rfl) (by kernel_rfl) (by kernel_rfl) (fun _ _ _ _ hh => hh) (br_ h00) (RunV.move rfl) rfl ?_
    refine JH.takeG 9 rfl rfl rfl (by kernel_rfl) (by kernel_rfl) (by kernel_rfl) (fun _ _ _ _ hh => hh) (br_ h00) (RunV.leq rfl rfl) rfl ?_
    refine JH.take 10 rfl (by kernel_rfl) (by kernel_rfl) (by kernel_rfl) (fun _ _ _ _ hh => hh) (br_ h00) (RunV.pick_t rfl rfl) rfl ?_
    refine JH.take 11 rfl (by kernel_rfl) (by kernel_rfl) (by kernel_rfl) (fun _ _ _ _ hh => hh) (br_ h00) (RunV.move rfl) rfl ?_
    refine Bh 18 rfl (fun hc6 => ?_) fun hc6 => ?_
    ·
     refine JH.takeG 12 rfl rfl rfl (by kernel_rfl) (by kernel_rfl) (by kernel_rfl) (fun _ _ _ _ hh => hh) (br_ h00) z48_ rfl ?_
     refine JH.takeG 13 rfl rfl rfl (by kernel_rfl) (by kernel_rfl) (by kernel_rfl) (fun _ _ _ _ hh => hh) (br_ h00) (RunV.own1 ag_30 rfl mm_ rfl) rfl ?_
     refine JH.all1 14 (by kernel_rfl) rfl ?_
     unfold One
     refine JL.callPg rfl rfl  ca_98 rfl (odd_fn (by assumption)) rfl ?_
     refine JL.nil ⟨(br_ h00), ?_⟩
     refine JH.take 15 rfl (by kernel_rfl) (by kernel_rfl) (by kernel_rfl) (fun _ _ _ _ hh => hh) (br_ h00) (RunV.pick_t rfl rfl) rfl ?_
     refine JH.take 16 rfl (by kernel_rfl) (by kernel_rfl) (by kernel_rfl) (fun _ _ _ _ hh => hh) (br_ h00) (RunV.move rfl) rfl ?_
     refine Bh 23 rfl (fun hc8 => ?_) fun hc8 => ?_
     ·
      refine JH.takeG 17 rfl rfl rfl (by kernel_rfl) (by kernel_rfl) (by kernel_rfl) (fun _ _ _ _ hh => hh) (br_ h00) z48_ rfl ?_
      refine JH.takeG 18 rfl rfl rfl (by kernel_rfl) (by kernel_rfl) (by kernel_rfl) (fun _ _ _ _ hh => hh) (br_ h00) (RunV.own1 ag_30 rfl mm_ rfl) rfl ?_
      refine JH.all1 19 (by kernel_rfl) rfl ?_
      unfold One
      refine JL.callRg rfl rfl  ca_87 rfl (natOf_fn (n := 2) (by decide)) rfl ?_
      rintro _ h9 hle9 ⟨oa, oc, rfl, hO1⟩
      replace hn := hn.mono hle9
      replace hx := hx.mono hle9
      replace hd := hd.mono hle9
      replace hh0 := hh0.mono hle9
      refine JL.nil ⟨(br_ h00), ?_⟩
      refine JH.all1 20 (by kernel_rfl) rfl ?_
      unfold One
      refine JL.callPg rfl rfl  ca_47 rfl (natcmp_fn (by assumption) (by assumption)) rfl ?_
      rw [v2]
      refine JL.nil ⟨(br_ h00), ?_⟩
      refine JH.takeG 21 rfl rfl rfl (by kernel_rfl) (by kernel_rfl) (by kernel_rfl) (fun _ _ _ _ hh => hh) (br_ h00) (RunV.gtr rfl rfl) rfl ?_
      refine JH.take 22 rfl (by kernel_rfl) (by kernel_rfl) (by kernel_rfl) (fun _ _ _ _ hh => hh) (br_ h00) (RunV.pick_t rfl rfl) rfl ?_
      refine JH.take 23 rfl (by kernel_rfl) (by kernel_rfl) (by kernel_rfl) (fun _ _ _ _ hh => hh) (br_ h00) (RunV.move rfl) rfl ?_
      refine Bh 30 rfl (fun hc11 => ?_) fun hc11 => ?_
      ·
       refine JH.takeG 24 rfl rfl rfl (by kernel_rfl) (by kernel_rfl) (by kernel_rfl) (fun _ _ _ _ hh => hh) (br_ h00) z48_ rfl ?_
       refine JH.takeG 25 rfl rfl rfl (by kernel_rfl) (by kernel_rfl) (by kernel_rfl) (fun _ _ _ _ hh => hh) (br_ h00) (RunV.own1 ag_30 rfl mm_ rfl) rfl ?_
       refine JH.all1 26 (by kernel_rfl) rfl ?_
       unfold One
       refine JL.callPg rfl rfl  ca_40 rfl (natbits_fn (by assumption)) rfl ?_
       rw [nbits_vL]
       refine JL.nil ⟨(br_ h00), ?_⟩
       refine JH.takeG 27 rfl rfl rfl (by kernel_rfl) (by kernel_rfl) (by kernel_rfl) (fun _ _ _ _ hh => hh) (br_ h00) (RunV.leq rfl rfl) rfl ?_
       refine JH.take 28 rfl (by kernel_rfl) (by kernel_rfl) (by kernel_rfl) (fun _ _ _ _ hh => hh) (br_ h00) (RunV.pick_t rfl rfl) rfl ?_
       refine JH.take 29 rfl (by kernel_rfl) (by kernel_rfl) (by kernel_rfl) (fun _ _ _ _ hh => hh) (br_ h00) (RunV.move rfl) rfl ?_
       refine Bh 36 rfl (fun hc13 => ?_) fun hc13 => ?_
       ·
        refine JH.takeG 30 rfl rfl rfl (by kernel_rfl) (by kernel_rfl) (by kernel_rfl) (fun _ _ _ _ hh => hh) (br_ h00) (by first | exact RunV.fieldAt0 fo_32_2 rfl | exact RunV.fieldAt fo_32_2 rfl) rfl ?_
        refine JH.takeG 31 rfl rfl rfl (by kernel_rfl) (by kernel_rfl) (by kernel_rfl) (fun _ _ _ _ hh => hh) (br_ h00) (RunV.own1 ag_30 rfl mm_ rfl) rfl ?_
        refine JH.takeG 32 rfl rfl rfl (by kernel_rfl) (by kernel_rfl) (by kernel_rfl) (fun _ _ _ _ hh => hh) (br_ h00) (by first | exact RunV.fieldAt0 fo_32_0 rfl | exact RunV.fieldAt fo_32_0 rfl) rfl ?_
        refine JH.takeG 33 rfl rfl rfl (by kernel_rfl) (by kernel_rfl) (by kernel_rfl) (fun _ _ _ _ hh => hh) (br_ h00) (RunV.own1 ag_30 rfl mm_ rfl) rfl ?_
        refine JH.all1 34 (by kernel_rfl) rfl ?_
        unfold One
        refine JL.callPg rfl rfl  ca_47 rfl (natcmp_fn (by assumption) (by assumption)) rfl ?_
        refine JL.nil ⟨(br_ h00), ?_⟩
        refine JH.takeG 35 rfl rfl rfl (by kernel_rfl) (by kernel_rfl) (by kernel_rfl) (fun _ _ _ _ hh => hh) (br_ h00) (RunV.lss rfl rfl) rfl ?_
        refine JH.take 36 rfl (by kernel_rfl) (by kernel_rfl) (by kernel_rfl) (fun _ _ _ _ hh => hh) (br_ h00) (RunV.pick_t rfl rfl) rfl ?_
        refine JH.take 37 rfl (by kernel_rfl) (by kernel_rfl) (by kernel_rfl) (fun _ _ _ _ hh => hh) (br_ h00) (RunV.assign rfl) rfl ?_
        refine JH.done (by kernel_rfl) ?_
        refine Kp [2] rfl ?_
        exact J.retR (RetV.one rfl rfl) (congrArg Value.bool z23_)
       refine JH.skip 30 rfl rfl rfl (by kernel_rfl) (by kernel_rfl) (by kernel_rfl) (fun _ _ _ _ hh => hh) (br_ h00) rfl ?_
       refine JH.skip 31 rfl rfl rfl (by kernel_rfl) (by kernel_rfl) (by kernel_rfl) (fun _ _ _ _ hh => hh) (br_ h00) rfl ?_
       refine JH.skip 32 rfl rfl rfl (by kernel_rfl) (by kernel_rfl) (by kernel_rfl) (fun _ _ _ _ hh => hh) (br_ h00) rfl ?_
       refine JH.skip 33 rfl rfl rfl (by kernel_rfl) (by kernel_rfl) (by kernel_rfl) (fun _ _ _ _ hh => hh) (br_ h00) rfl ?_
       refine JH.all1 34 (by kernel_rfl) rfl ?_
       unfold One
       refine JL.skip rfl rfl rfl ?_
       refine JL.nil ⟨(br_ h00), ?_⟩
       refine JH.skip 35 rfl rfl rfl (by kernel_rfl) (by kernel_rfl) (by kernel_rfl) (fun _ _ _ _ hh => hh) (br_ h00) rfl ?_
       refine JH.take 36 rfl (by kernel_rfl) (by kernel_rfl) (by kernel_rfl) (fun _ _ _ _ hh => hh) (br_ h00) (RunV.pick_f rfl rfl) rfl ?_
       refine JH.take 37 rfl (by kernel_rfl) (by kernel_rfl) (by kernel_rfl) (fun _ _ _ _ hh => hh) (br_ h00) (RunV.assign rfl) rfl ?_
       refine JH.done (by kernel_rfl) ?_
       refine Kp [2] rfl ?_
       exact J.retR (RetV.one rfl rfl) (congrArg Value.bool z23_)
      refine JH.skip 24 rfl rfl rfl (by kernel_rfl) (by kernel_rfl) (by kernel_rfl) (fun _ _ _ _ hh => hh) (br_ h00) rfl ?_
      refine JH.skip 25 rfl rfl rfl (by kernel_rfl) (by kernel_rfl) (by kernel_rfl) (fun _ _ _ _ hh => hh) (br_ h00) rfl ?_
      refine JH.all1 26 (by kernel_rfl) rfl ?_
      unfold One
      refine JL.skip rfl rfl rfl ?_
      refine JL.nil ⟨(br_ h00), ?_⟩
      refine JH.skip 27 rfl rfl rfl (by kernel_rfl) (by kernel_rfl) (by kernel_rfl) (fun _ _ _ _ hh => hh) (br_ h00) rfl ?_
      refine JH.take 28 rfl (by kernel_rfl) (by kernel_rfl) (by kernel_rfl) (fun _ _ _ _ hh => hh) (br_ h00) (RunV.pick_f rfl rfl) rfl ?_
      refine JH.take 29 rfl (by kernel_rfl) (by kernel_rfl) (by kernel_rfl) (fun _ _ _ _ hh => hh) (br_ h00) (RunV.move rfl) rfl ?_
      refine JH.skip 30 rfl rfl rfl (by kernel_rfl) (by kernel_rfl) (by kernel_rfl) (fun _ _ _ _ hh => hh) (br_ h00) rfl ?_
      refine JH.skip 31 rfl rfl rfl (by kernel_rfl) (by kernel_rfl) (by kernel_rfl) (fun _ _ _ _ hh => hh) (br_ h00) rfl ?_
      refine JH.skip 32 rfl rfl rfl (by kernel_rfl) (by kernel_rfl) (by kernel_rfl) (fun _ _ _ _ hh => hh) (br_ h00) rfl ?_
      refine JH.skip 33 rfl rfl rfl (by kernel_rfl) (by kernel_rfl) (by kernel_rfl) (fun _ _ _ _ hh => hh) (br_ h00) rfl ?_
      refine JH.all1 34 (by kernel_rfl) rfl ?_
      unfold One
      refine JL.skip rfl rfl rfl ?_
      refine JL.nil ⟨(br_ h00), ?_⟩
      refine JH.skip 35 rfl rfl rfl (by kernel_rfl) (by kernel_rfl) (by kernel_rfl) (fun _ _ _ _ hh => hh) (br_ h00) rfl ?_
      refine JH.take 36 rfl (by kernel_rfl) (by kernel_rfl) (by kernel_rfl) (fun _ _ _ _ hh => hh) (br_ h00) (RunV.pick_f rfl rfl) rfl ?_
      refine JH.take 37 rfl (by kernel_rfl) (by kernel_rfl) (by kernel_rfl) (fun _ _ _ _ hh => hh) (br_ h00) (RunV.assign rfl) rfl ?_
      refine JH.done (by kernel_rfl) ?_
      refine Kp [2] rfl ?_
      exact J.retR (RetV.one rfl rfl) (congrArg Value.bool z23_)
     refine JH.skip 17 rfl rfl rfl (by kernel_rfl) (by kernel_rfl) (by kernel_rfl) (fun _ _ _ _ hh => hh) (br_ h00) rfl ?_
     refine JH.skip 18 rfl rfl rfl (by kernel_rfl) (by kernel_rfl) (by kernel_rfl) (fun _ _ _ _ hh => hh) (br_ h00) rfl ?_
     refine JH.all1 19 (by kernel_rfl) rfl ?_
     unfold One
     refine JL.skip rfl rfl rfl ?_
     refine JL.nil ⟨(br_ h00), ?_⟩
     refine JH.all1 20 (by kernel_rfl) rfl ?_
     unfold One
     refine JL.skip rfl rfl rfl ?_
     refine JL.nil ⟨(br_ h00), ?_⟩
     refine JH.skip 21 rfl rfl rfl (by kernel_rfl) (by kernel_rfl) (by kernel_rfl) (fun _ _ _ _ hh => hh) (br_ h00) rfl ?_
     refine JH.take 22 rfl (by kernel_rfl) (by kernel_rfl) (by kernel_rfl) (fun _ _ _ _ hh => hh) (br_ h00) (RunV.pick_f rfl rfl) rfl ?_
     refine JH.take 23 rfl (by kernel_rfl) (by kernel_rfl) (by kernel_rfl) (fun _ _ _ _ hh => hh) (br_ h00) (RunV.move rfl) rfl ?_
     refine JH.skip 24 rfl rfl rfl (by kernel_rfl) (by kernel_rfl) (by kernel_rfl) (fun _ _ _ _ hh => hh) (br_ h00) rfl ?_
     refine JH.skip 25 rfl rfl rfl (by kernel_rfl) (by kernel_rfl) (by kernel_rfl) (fun _ _ _ _ hh => hh) (br_ h00) rfl ?_
     refine JH.all1 26 (by kernel_rfl) rfl ?_
     unfold One
     refine JL.skip rfl rfl rfl ?_
     refine JL.nil ⟨(br_ h00), ?_⟩
     refine JH.skip 27 rfl rfl rfl (by kernel_rfl) (by kernel_rfl) (by kernel_rfl) (fun _ _ _ _ hh => hh) (br_ h00) rfl ?_
     refine JH.take 28 rfl (by kernel_rfl) (by kernel_rfl) (by kernel_rfl) (fun _ _ _ _ hh => hh) (br_ h00) (RunV.pick_f rfl rfl) rfl ?_
     refine JH.take 29 rfl (by kernel_rfl) (by kernel_rfl) (by kernel_rfl) (fun _ _ _ _ hh => hh) (br_ h00) (RunV.move rfl) rfl ?_
     refine JH.skip 30 rfl rfl rfl (by kernel_rfl) (by kernel_rfl) (by kernel_rfl) (fun _ _ _ _ hh => hh) (br_ h00) rfl ?_
     refine JH.skip 31 rfl rfl rfl (by kernel_rfl) (by kernel_rfl) (by kernel_rfl) (fun _ _ _ _ hh => hh) (br_ h00) rfl ?_
     refine JH.skip 32 rfl rfl rfl (by kernel_rfl) (by kernel_rfl) (by kernel_rfl) (fun _ _ _ _ hh => hh) (br_ h00) rfl ?_
     refine JH.skip 33 rfl rfl rfl (by kernel_rfl) (by kernel_rfl) (by kernel_rfl) (fun _ _ _ _ hh => hh) (br_ h00) rfl ?_
     refine JH.all1 34 (by kernel_rfl) rfl ?_
     unfold One
     refine JL.skip rfl rfl rfl ?_
     refine JL.nil ⟨(br_ h00), ?_⟩
     refine JH.skip 35 rfl rfl rfl (by kernel_rfl) (by kernel_rfl) (by kernel_rfl) (fun _ _ _ _ hh => hh) (br_ h00) rfl ?_
     refine JH.take 36 rfl (by kernel_rfl) (by kernel_rfl) (by kernel_rfl) (fun _ _ _ _ hh => hh) (br_ h00) (RunV.pick_f rfl rfl) rfl ?_
     refine JH.take 37 rfl (by kernel_rfl) (by kernel_rfl) (by kernel_rfl) (fun _ _ _ _ hh => hh) (br_ h00) (RunV.assign rfl) rfl ?_
     refine JH.done (by kernel_rfl) ?_
     refine Kp [2] rfl ?_
     exact J.retR (RetV.one rfl rfl) (congrArg Value.bool z23_)
    refine JH.skip 12 rfl rfl rfl (by kernel_rfl) (by kernel_rfl) (by kernel_rfl) (fun _ _ _ _ hh => hh) (br_ h00) rfl ?_
    refine JH.skip 13 rfl rfl rfl (by kernel_rfl) (by kernel_rfl) (by kernel_rfl) (fun _ _ _ _ hh => hh) (br_ h00) rfl ?_
    refine JH.all1 14 (by kernel_rfl) rfl ?_
    unfold One
    refine JL.skip rfl rfl rfl ?_
    refine JL.nil ⟨(br_ h00), ?_⟩
    refine JH.take 15 rfl (by kernel_rfl) (by kernel_rfl) (by kernel_rfl) (fun _ _ _ _ hh => hh) (br_ h00) (RunV.pick_f rfl rfl) rfl ?_
    refine JH.take 16 rfl (by kernel_rfl) (by kernel_rfl) (by kernel_rfl) (fun _ _ _ _ hh => hh) (br_ h00) (RunV.move rfl) rfl ?_
    refine JH.skip 17 rfl rfl rfl (by kernel_rfl) (by kernel_rfl) (by kernel_rfl) (fun _ _ _ _ hh => hh) (br_ h00) rfl ?_
    refine JH.skip 18 rfl rfl rfl (by kernel_rfl) (by kernel_rfl) (by kernel_rfl) (fun _ _ _ _ hh => hh) (br_ h00) rfl ?_
    refine JH.all1 19 (by kernel_rfl) rfl ?_
    unfold One
    refine JL.skip rfl rfl rfl ?_
    refine JL.nil ⟨(br_ h00), ?_⟩
    refine JH.all1 20 (by kernel_rfl) rfl ?_
    unfold One
    refine JL.skip rfl rfl rfl ?_
    refine JL.nil ⟨(br_ h00), ?_⟩
    refine JH.skip 21 rfl rfl rfl (by kernel_rfl) (by kernel_rfl) (by kernel_rfl) (fun _ _ _ _ hh => hh) (br_ h00) rfl ?_
    refine JH.take 22 rfl (by kernel_rfl) (by kernel_rfl) (by kernel_rfl) (fun _ _ _ _ hh => hh) (br_ h00) (RunV.pick_f rfl rfl) rfl ?_
    refine JH.take 23 rfl (by kernel_rfl) (by kernel_rfl) (by kernel_rfl) (fun _ _ _ _ hh => hh) (br_ h00) (RunV.move rfl) rfl ?_
    refine JH.skip 24 rfl rfl rfl (by kernel_rfl) (by kernel_rfl) (by kernel_rfl) (fun _ _ _ _ hh => hh) (br_ h00) rfl ?_
    refine JH.skip 25 rfl rfl rfl (by kernel_rfl) (by kernel_rfl) (by kernel_rfl) (fun _ _ _ _ hh => hh) (br_ h00) rfl ?_
    refine JH.all1 26 (by kernel_rfl) rfl ?_
    unfold One
    refine JL.skip rfl rfl rfl ?_
    refine JL.nil ⟨(br_ h00), ?_⟩
    refine JH.skip 27 rfl rfl rfl (by kernel_rfl) (by kernel_rfl) (by kernel_rfl) (fun _ _ _ _ hh => hh) (br_ h00) rfl ?_
    refine JH.take 28 rfl (by kernel_rfl) (by kernel_rfl) (by kernel_rfl) (fun _ _ _ _ hh => hh) (br_ h00) (RunV.pick_f rfl rfl) rfl ?_
    refine JH.take 29 rfl (by kernel_rfl) (by kernel_rfl) (by kernel_rfl) (fun _ _ _ _ hh => hh) (br_ h00) (RunV.move rfl) rfl ?_
    refine JH.skip 30 rfl rfl rfl (by kernel_rfl) (by kernel_rfl) (by kernel_rfl) (fun _ _ _ _ hh => hh) (br_ h00) rfl ?_
    refine JH.skip 31 rfl rfl rfl (by kernel_rfl) (by kernel_rfl) (by kernel_rfl) (fun _ _ _ _ hh => hh) (br_ h00) rfl ?_
    refine JH.skip 32 rfl rfl rfl (by kernel_rfl) (by kernel_rfl) (by kernel_rfl) (fun _ _ _ _ hh => hh) (br_ h00) rfl ?_
    refine JH.skip 33 rfl rfl rfl (by kernel_rfl) (by kernel_rfl) (by kernel_rfl) (fun _ _ _ _ hh => hh) (br_ h00) rfl ?_
    refine JH.all1 34 (by kernel_rfl) rfl ?_
    unfold One
    refine JL.skip rfl rfl rfl ?_
    refine JL.nil ⟨(br_ h00), ?_⟩
    refine JH.skip 35 rfl rfl rfl (by kernel_rfl) (by kernel_rfl) (by kernel_rfl) (fun _ _ _ _ hh => hh) (br_ h00) rfl ?_
    refine JH.take 36 rfl (by kernel_rfl) (by kernel_rfl) (by kernel_rfl) (fun _ _ _ _ hh => hh) (br_ h00) (RunV.pick_f rfl rfl) rfl ?_
    refine JH.take 37 rfl (by kernel_rfl) (by kernel_rfl) (by kernel_rfl) (fun _ _ _ _ hh => hh) (br_ h00) (RunV.assign rfl) rfl ?_
    refine JH.done (by kernel_rfl) ?_
    refine Kp [2] rfl ?_
    exact J.retR (RetV.one rfl rfl) (congrArg Value.bool z23_)
   refine JH.skip 8 rfl rfl rfl (by kernel_rfl) (by kernel_rfl) (by kernel_rfl) (fun _ _ _ _ hh => hh) (br_ h00) rfl ?_
   refine JH.skip 9 rfl rfl rfl (by kernel_rfl) (by kernel_rfl) (by kernel_rfl) (fun _ _ _ _ hh => hh) (br_ h00) rfl ?_
   refine JH.take 10 rfl (by kernel_rfl) (by kernel_rfl) (by kernel_rfl) (fun _ _ _ _ hh => hh) (br_ h00) (RunV.pick_f rfl rfl) rfl ?_
   refine JH.take 11 rfl (by kernel_rfl) (by kernel_rfl) (by kernel_rfl) (fun _ _ _ _ hh => hh) (br_ h00) (RunV.move rfl) rfl ?_
   refine JH.skip 12 rfl rfl rfl (by kernel_rfl) (by kernel_rfl) (by kernel_rfl) (fun _ _ _ _ hh => hh) (br_ h00) rfl ?_
   refine JH.skip 13 rfl rfl rfl (by kernel_rfl) (by kernel_rfl) (by kernel_rfl) (fun _ _ _ _ hh => hh) (br_ h00) rfl ?_
   refine JH.all1 14 (by kernel_rfl) rfl ?_
   unfold One
   refine JL.skip rfl rfl rfl ?_
   refine JL.nil ⟨(br_ h00), ?_⟩
   refine JH.take 15 rfl (by kernel_rfl) (by kernel_rfl) (by kernel_rfl) (fun _ _ _ _ hh => hh) (br_ h00) (RunV.pick_f rfl rfl) rfl ?_
   refine JH.take 16 rfl (by kernel_rfl) (by kernel_rfl) (by kernel_rfl) (fun _ _ _ _ hh => hh) (br_ h00) (RunV.move rfl) rfl ?_
   refine JH.skip 17 rfl rfl rfl (by kernel_rfl) (by kernel_rfl) (by kernel_rfl) (fun _ _ _ _ hh => hh) (br_ h00) rfl ?_
   refine JH.skip 18 rfl rfl rfl (by kernel_rfl) (by kernel_rfl) (by kernel_rfl) (fun _ _ _ _ hh => hh) (br_ h00) rfl ?_
   refine JH.all1 19 (by kernel_rfl) rfl ?_
   unfold One
   refine JL.skip rfl rfl rfl ?_
   refine JL.nil ⟨(br_ h00), ?_⟩
   refine JH.all1 20 (by kernel_rfl) rfl ?_
   unfold One
   refine JL.skip rfl rfl rfl ?_
   refine JL.nil ⟨(br_ h00), ?_⟩
   refine JH.skip 21 rfl rfl rfl (by kernel_rfl) (by kernel_rfl) (by kernel_rfl) (fun _ _ _ _ hh => hh) (br_ h00) rfl ?_
   refine JH.take 22 rfl (by kernel_rfl) (by kernel_rfl) (by kernel_rfl) (fun _ _ _ _ hh => hh) (br_ h00) (RunV.pick_f rfl rfl) rfl ?_
   refine JH.take 23 rfl (by kernel_rfl) (by kernel_rfl) (by kernel_rfl) (fun _ _ _ _ hh => hh) (br_ h00) (RunV.move rfl) rfl ?_
   refine JH.skip 24 rfl rfl rfl (by kernel_rfl) (by kernel_rfl) (by kernel_rfl) (fun _ _ _ _ hh => hh) (br_ h00) rfl ?_
   refine JH.skip 25 rfl rfl rfl (by kernel_rfl) (by kernel_rfl) (by kernel_rfl) (fun _ _ _ _ hh => hh) (br_ h00) rfl ?_
   refine JH.all1 26 (by kernel_rfl) rfl ?_
   unfold One
   refine JL.skip rfl rfl rfl ?_
   refine JL.nil ⟨(br_ h00), ?_⟩
   refine JH.skip 27 rfl rfl rfl (by kernel_rfl) (by kernel_rfl) (by kernel_rfl) (fun _ _ _ _ hh => hh) (br_ h00) rfl ?_
   refine JH.take 28 rfl (by kernel_rfl) (by kernel_rfl) (by kernel_rfl) (fun _ _ _ _ hh => hh) (br_ h00) (RunV.pick_f rfl rfl) rfl ?_
   refine JH.take 29 rfl (by kernel_rfl) (by kernel_rfl) (by kernel_rfl) (fun _ _ _ _ hh => hh) (br_ h00) (RunV.move rfl) rfl ?_
   refine JH.skip 30 rfl rfl rfl (by kernel_rfl) (by kernel_rfl) (by kernel_rfl) (fun _ _ _ _ hh => hh) (br_ h00) rfl ?_
   refine JH.skip 31 rfl rfl rfl (by kernel_rfl) (by kernel_rfl) (by kernel_rfl) (fun _ _ _ _ hh => hh) (br_ h00) rfl ?_
   refine JH.skip 32 rfl rfl rfl (by kernel_rfl) (by kernel_rfl) (by kernel_rfl) (fun _ _ _ _ hh => hh) (br_ h00) rfl ?_
   refine JH.skip 33 rfl rfl rfl (by kernel_rfl) (by kernel_rfl) (by kernel_rfl) (fun _ _ _ _ hh => hh) (br_ h00) rfl ?_
   refine JH.all1 34 (by kernel_rfl) rfl ?_
   unfold One
   refine JL.skip rfl rfl rfl ?_
   refine JL.nil ⟨(br_ h00), ?_⟩
   refine JH.skip 35 rfl rfl rfl (by kernel_rfl) (by kernel_rfl) (by kernel_rfl) (fun _ _ _ _ hh => hh) (br_ h00) rfl ?_
   refine JH.take 36 rfl (by kernel_rfl) (by kernel_rfl) (by kernel_rfl) (fun _ _ _ _ hh => hh) (br_ h00) (RunV.pick_f rfl rfl) rfl ?_
   refine JH.take 37 rfl (by kernel_rfl) (by kernel_rfl) (by kernel_rfl) (fun _ _ _ _ hh => hh) (br_ h00) (RunV.assign rfl) rfl ?_
   refine JH.done (by kernel_rfl) ?_
   refine Kp [2] rfl ?_
   exact J.retR (RetV.one rfl rfl) (congrArg Value.bool z23_)
  refine JH.skip 4 rfl rfl rfl (by kernel_rfl) (by kernel_rfl) (by kernel_rfl) (fun _ _ _ _ hh => hh) (br_ h00) rfl ?_
  refine JH.skip 5 rfl rfl rfl (by kernel_rfl) (by kernel_rfl) (by kernel_rfl) (fun _ _ _ _ hh => hh) (br_ h00) rfl ?_
  refine JH.take 6 rfl (by kernel_rfl) (by kernel_rfl) (by kernel_rfl) (fun _ _ _ _ hh => hh) (br_ h00) (RunV.pick_f rfl rfl) rfl ?_
  refine JH.take 7 rfl (by kernel_rfl) (by kernel_rfl) (by kernel_rfl) (fun _ _ _ _ hh => hh) (br_ h00) (RunV.move rfl) rfl ?_
  refine JH.skip 8 rfl rfl rfl (by kernel_rfl) (by kernel_rfl) (by kernel_rfl) (fun _ _ _ _ hh => hh) (br_ h00) rfl ?_
  refine JH.skip 9 rfl rfl rfl (by kernel_rfl) (by kernel_rfl) (by kernel_rfl) (fun _ _ _ _ hh => hh) (br_ h00) rfl ?_
  refine JH.take 10 rfl (by kernel_rfl) (by kernel_rfl) (by kernel_rfl) (fun _ _ _ _ hh => hh) (br_ h00) (RunV.pick_f rfl rfl) rfl ?_
  refine JH.take 11 rfl (by kernel_rfl) (by kernel_rfl) (by kernel_rfl) (fun _ _ _ _ hh => hh) (br_ h00) (RunV.move rfl) rfl ?_
  refine JH.skip 12 rfl rfl rfl (by kernel_rfl) (by kernel_rfl) (by kernel_rfl) (fun _ _ _ _ hh => hh) (br_ h00) rfl ?_
  refine JH.skip 13 rfl rfl rfl (by kernel_rfl) (by kernel_rfl) (by kernel_rfl) (fun _ _ _ _ hh => hh) (br_ h00) rfl ?_
  refine JH.all1 14 (by kernel_rfl) rfl ?_
  unfold One
  refine JL.skip rfl rfl rfl ?_
  refine JL.nil ⟨(br_ h00), ?_⟩
  refine JH.take 15 rfl (by kernel_rfl) (by kernel_rfl) (by kernel_rfl) (fun _ _ _ _ hh => hh) (br_ h00) (RunV.pick_f rfl rfl) rfl ?_
  refine JH.take 16 rfl (by kernel_rfl) (by kernel_rfl) (by kernel_rfl) (fun _ _ _ _ hh => hh) (br_ h00) (RunV.move rfl) rfl ?_
  refine JH.skip 17 rfl rfl rfl (by kernel_rfl) (by kernel_rfl) (by kernel_rfl) (fun _ _ _ _ hh => hh) (br_ h00) rfl ?_
  refine JH.skip 18 rfl rfl rfl (by kernel_rfl) (by kernel_rfl) (by kernel_rfl) (fun _ _ _ _ hh => hh) (br_ h00) rfl ?_
  refine JH.all1 19 (by kernel_rfl) rfl ?_
  unfold One
  refine JL.skip rfl rfl rfl ?_
  refine JL.nil ⟨(br_ h00), ?_⟩
  refine JH.all1 20 (by kernel_rfl) rfl ?_
  unfold One
  refine JL.skip rfl rfl rfl ?_
  refine JL.nil ⟨(br_ h00), ?_⟩
  refine JH.skip 21 rfl rfl rfl (by kernel_rfl) (by kernel_rfl) (by kernel_rfl) (fun _ _ _ _ hh => hh) (br_ h00) rfl ?_
  refine JH.take 22 rfl (by kernel_rfl) (by kernel_rfl) (by kernel_rfl) (fun _ _ _ _ hh => hh) (br_ h00) (RunV.pick_f rfl rfl) rfl ?_
  refine JH.take 23 rfl (by kernel_rfl) (by kernel_rfl) (by kernel_rfl) (fun _ _ _ _ hh => hh) (br_ h00) (RunV.move rfl) rfl ?_
  refine JH.skip 24 rfl rfl rfl (by kernel_rfl) (by kernel_rfl) (by kernel_rfl) (fun _ _ _ _ hh => hh) (br_ h00) rfl ?_
  refine JH.skip 25 rfl rfl rfl (by kernel_rfl) (by kernel_rfl) (by kernel_rfl) (fun _ _ _ _ hh => hh) (br_ h00) rfl ?_
  refine JH.all1 26 (by kernel_rfl) rfl ?_
  unfold One
  refine JL.skip rfl rfl rfl ?_
  refine JL.nil ⟨(br_ h00), ?_⟩
  refine JH.skip 27 rfl rfl rfl (by kernel_rfl) (by kernel_rfl) (by kernel_rfl) (fun _ _ _ _ hh => hh) (br_ h00) rfl ?_
  refine JH.take 28 rfl (by kernel_rfl) (by kernel_rfl) (by kernel_rfl) (fun _ _ _ _ hh => hh) (br_ h00) (RunV.pick_f rfl rfl) rfl ?_
  refine JH.take 29 rfl (by kernel_rfl) (by kernel_rfl) (by kernel_rfl) (fun _ _ _ _ hh => hh) (br_ h00) (RunV.move rfl) rfl ?_
  refine JH.skip 30 rfl rfl rfl (by kernel_rfl) (by kernel_rfl) (by kernel_rfl) (fun _ _ _ _ hh => hh) (br_ h00) rfl ?_
  refine JH.skip 31 rfl rfl rfl (by kernel_rfl) (by kernel_rfl) (by kernel_rfl) (fun _ _ _ _ hh => hh) (br_ h00) rfl ?_
  refine JH.skip 32 rfl rfl rfl (by kernel_rfl) (by kernel_rfl) (by kernel_rfl) (fun _ _ _ _ hh => hh) (br_ h00) rfl ?_
  refine JH.skip 33 rfl rfl rfl (by kernel_rfl) (by kernel_rfl) (by kernel_rfl) (fun _ _ _ _ hh => hh) (br_ h00) rfl ?_
  refine JH.all1 34 (by kernel_rfl) rfl ?_
  unfold One
  refine JL.skip rfl rfl rfl ?_
  refine JL.nil ⟨(br_ h00), ?_⟩
  refine JH.skip 35 rfl rfl rfl (by kernel_rfl) (by kernel_rfl) (by kernel_rfl) (fun _ _ _ _ hh => hh) (br_ h00) rfl ?_
  refine JH.take 36 rfl (by kernel_rfl) (by kernel_rfl) (by kernel_rfl) (fun _ _ _ _ hh => hh) (br_ h00) (RunV.pick_f rfl rfl) rfl ?_
  refine JH.take 37 rfl (by kernel_rfl) (by kernel_rfl) (by kernel_rfl) (fun _ _ _ _ hh => hh) (br_ h00) (RunV.assign rfl) rfl ?_
  refine JH.done (by kernel_rfl) ?_
  refine Kp [2] rfl ?_
  exact J.retR (RetV.one rfl rfl) (congrArg Value.bool z23_)
theorem rkeyright_fn {an ae ad : Option Addr} {cn ce cd : Nat} {n x d : List UInt32} {h : Part} (hn : SlR u32R 1 h an cn n) (hx : SlR u32R 1 h ae ce x) (hd : SlR u32R 1 h ad cd d) (hln : n.length ≤ 100000) (hlx : x.length ≤ 100000) (hld : d.length ≤ 100000) : FnR Tryz.prog 64 [.agg #[.slice an n.length cn, .slice ae x.length ce, .slice ad d.length cd]] h (fun v _ => v = .bool (rightB (vL n) (vL x) (vL d))) := by
  have hb := hn.big
  have hbl := bl_len' n
  have l2 : (toL 2).length = 1 := by kernel_rfl
  have v2 : vL (toL 2) = 2 := vL_toL 2
  obtain ⟨k1, -, k2, -, -⟩ := cmp_facts (vL x) 2
  obtain ⟨-, k3, -, k4, -⟩ := cmp_facts (vL d) (vL n)
  refine Fn.intro Tryz.func64 rfl Tryz.ntmps64 rfl (fun e he => ?_)
  refine J.weak [(0, _)] ⟨rfl, trivial⟩ ?_
  have hh0 := Part.le.refl h
  refine Sr ?_
  refine JL.box rfl rfl rfl (fun b1 => ?_)
  refine Ru 1 rfl ?_
  refine JL.nil ?_
  refine Sr ?_
  refine Ru 1 rfl ?_
  refine JL.op (RunV.own1 ag_30 rfl mm_ rfl) rfl ?_
  refine JL.callR ca_45 rfl (rbits_fn (by assumption) (by omega)) rfl ?_
  rintro _ h2 hle2 rfl
  replace hn := hn.mono hle2
  replace hx := hx.mono hle2
  replace hd := hd.mono hle2
  replace hh0 := hh0.mono hle2
  rw [nbits_vL]
  refine Ru 1 rfl ?_
  refine JL.nil ?_
  refine J.seq ?_
  refine J.held ([.blk b1 32 [.slice an n.length cn, .slice ae x.length ce, .slice ad d.length cd]]) 38 mixed_ rfl (fun h00 => ?_)
  refine JH.take 0 rfl (by kernel_rfl) (by kernel_rfl) (by kernel_rfl) (fun _ _ _ _ hh => hh) (br_ h00) (by first | exact RunV.fieldAt0 fo_32_0 rfl | exact RunV.fieldAt fo_32_0 rfl) rfl ?_
  refine JH.take 1 rfl (by kernel_rfl) (by kernel_rfl) (by kernel_rfl) (fun _ _ _ _ hh => hh) (br_ h00) (RunV.own1 ag_30 rfl mm_ rfl) rfl ?_
  refine JH.all1 2 (by kernel_rfl) rfl ?_
  unfold One
  refine JL.callP ca_101 rfl (rodd_fn (by assumption)) rfl ?_
  refine JL.nil ⟨(br_ h00), ?_⟩
  refine JH.take 3 rfl (by kernel_rfl) (by kernel_rfl) (by kernel_rfl) (fun _ _ _ _ hh => hh) (br_ h00) (RunV.move rfl) rfl ?_
  refine Bh 10 rfl (fun hc4 => ?_) fun hc4 => ?_
  ·
   refine JH.takeG 4 rfl rfl rfl (by kernel_rfl) (by kernel_rfl) (by kernel_rfl) (fun _ _ _ _ hh => hh) (br_ h00) (RunV.move rfl) rfl ?_
   refine JH.takeG 5 rfl rfl rfl (by kernel_rfl) (by kernel_rfl) (by kernel_rfl) (fun _ _ _ _ hh => hh) (br_ h00) (RunV.geq rfl rfl) rfl ?_
   refine JH.take 6 rfl (by kernel_rfl) (by kernel_rfl) (by kernel_rfl) (fun _ _ _ _ hh => hh) (br_ h00) (RunV.pick_t rfl rfl) rfl ?_
   refine JH.take 7 rfl (by kernel_rfl) (by kernel_rfl) (by kernel_rfl) (fun _ _ _ _ hh => hh) (br_ h00) (RunV.move rfl) rfl ?_
   refine Bh 14 rfl (fun hc5 => ?_) fun hc5 => ?_
   ·
    refine JH.takeG 8 rfl rfl rfl (by kernel_rfl) (by kernel_rfl) (by kernel_rfl) (fun _ _ _ _ hh => hh) (br_ h00) (RunV.move rfl) rfl ?_
    refine JH.takeG 9 rfl rfl rfl (by kernel_rfl) (by kernel_rfl) (by kernel_rfl) (fun _ _ _ _ hh => hh) (br_ h00) (RunV.leq rfl rfl) rfl ?_
    refine JH.take 10 rfl (by kernel_rfl) (by kernel_rfl) (by kernel_rfl) (fun _ _ _ _ hh => hh) (br_ h00) (RunV.pick_t rfl rfl) rfl ?_
    refine JH.take 11 rfl (by kernel_rfl) (by kernel_rfl) (by kernel_rfl) (fun _ _ _ _ hh => hh) (br_ h00) (RunV.move rfl) rfl ?_
    refine Bh 18 rfl (fun hc6 => ?_) fun hc6 => ?_
    ·
     refine JH.takeG 12 rfl rfl rfl (by kernel_rfl) (by kernel_rfl) (by kernel_rfl) (fun _ _ _ _ hh => hh) (br_ h00) z48_ rfl ?_
     refine JH.takeG 13 rfl rfl rfl (by kernel_rfl) (by kernel_rfl) (by kernel_rfl) (fun _ _ _ _ hh => hh) (br_ h00) (RunV.own1 ag_30 rfl mm_ rfl) rfl ?_
     refine JH.all1 14 (by kernel_rfl) rfl ?_
     unfold One
     refine JL.callPg rfl rfl  ca_101 rfl (rodd_fn (by assumption)) rfl ?_
     refine JL.nil ⟨(br_ h00), ?_⟩
     refine JH.take 15 rfl (by kernel_rfl) (by kernel_rfl) (by kernel_rfl) (fun _ _ _ _ hh => hh) (br_ h00) (RunV.pick_t rfl rfl) rfl ?_
     refine JH.take 16 rfl (by kernel_rfl) (by kernel_rfl) (by kernel_rfl) (fun _ _ _ _ hh => hh) (br_ h00) (RunV.move rfl) rfl ?_
     refine Bh 23 rfl (fun hc8 => ?_) fun hc8 => ?_
     ·
      refine JH.takeG 17 rfl rfl rfl (by kernel_rfl) (by kernel_rfl) (by kernel_rfl) (fun _ _ _ _ hh => hh) (br_ h00) z48_ rfl ?_
      refine JH.takeG 18 rfl rfl rfl (by kernel_rfl) (by kernel_rfl) (by kernel_rfl) (fun _ _ _ _ hh => hh) (br_ h00) (RunV.own1 ag_30 rfl mm_ rfl) rfl ?_
      refine JH.all1 19 (by kernel_rfl) rfl ?_
      unfold One
      refine JL.callRg rfl rfl  ca_53 rfl (rOf_fn (n := 2) (by decide)) rfl ?_
      rintro _ h9 hle9 ⟨oa, oc, rfl, hO1⟩
      replace hn := hn.mono hle9
      replace hx := hx.mono hle9
      replace hd := hd.mono hle9
      replace hh0 := hh0.mono hle9
      refine JL.nil ⟨(br_ h00), ?_⟩
      refine JH.all1 20 (by kernel_rfl) rfl ?_
      unfold One
      refine JL.callRg rfl rfl  ca_49 rfl (rcmp_fn (by assumption) (by assumption) (by omega) (by omega)) rfl ?_
      rintro _ h10 hle10 rfl
      replace hn := hn.mono hle10
      replace hx := hx.mono hle10
      replace hd := hd.mono hle10
      replace hh0 := hh0.mono hle10
      replace hO1 := hO1.mono hle10
      rw [v2]
      refine JL.nil ⟨(br_ h00), ?_⟩
      refine JH.takeG 21 rfl rfl rfl (by kernel_rfl) (by kernel_rfl) (by kernel_rfl) (fun _ _ _ _ hh => hh) (br_ h00) (RunV.eql rfl rfl) rfl ?_
      refine JH.take 22 rfl (by kernel_rfl) (by kernel_rfl) (by kernel_rfl) (fun _ _ _ _ hh => hh) (br_ h00) (RunV.pick_t rfl rfl) rfl ?_
      refine JH.take 23 rfl (by kernel_rfl) (by kernel_rfl) (by kernel_rfl) (fun _ _ _ _ hh => hh) (br_ h00) (RunV.move rfl) rfl ?_
      refine Bh 30 rfl (fun hc11 => ?_) fun hc11 => ?_
      ·
       refine JH.takeG 24 rfl rfl rfl (by kernel_rfl) (by kernel_rfl) (by kernel_rfl) (fun _ _ _ _ hh => hh) (br_ h00) z48_ rfl ?_
       refine JH.takeG 25 rfl rfl rfl (by kernel_rfl) (by kernel_rfl) (by kernel_rfl) (fun _ _ _ _ hh => hh) (br_ h00) (RunV.own1 ag_30 rfl mm_ rfl) rfl ?_
       refine JH.all1 26 (by kernel_rfl) rfl ?_
       unfold One
       refine JL.callRg rfl rfl  ca_45 rfl (rbits_fn (by assumption) (by omega)) rfl ?_
       rintro _ h12 hle12 rfl
       replace hn := hn.mono hle12
       replace hx := hx.mono hle12
       replace hd := hd.mono hle12
       replace hh0 := hh0.mono hle12
       replace hO1 := hO1.mono hle12
       rw [nbits_vL]
       refine JL.nil ⟨(br_ h00), ?_⟩
       refine JH.takeG 27 rfl rfl rfl (by kernel_rfl) (by kernel_rfl) (by kernel_rfl) (fun _ _ _ _ hh => hh) (br_ h00) (RunV.leq rfl rfl) rfl ?_
       refine JH.take 28 rfl (by kernel_rfl) (by kernel_rfl) (by kernel_rfl) (fun _ _ _ _ hh => hh) (br_ h00) (RunV.pick_t rfl rfl) rfl ?_
       refine JH.take 29 rfl (by kernel_rfl) (by kernel_rfl) (by kernel_rfl) (fun _ _ _ _ hh => hh) (br_ h00) (RunV.move rfl) rfl ?_
       refine Bh 36 rfl (fun hc13 => ?_) fun hc13 => ?_
       ·
        refine JH.takeG 30 rfl rfl rfl (by kernel_rfl) (by kernel_rfl) (by kernel_rfl) (fun _ _ _ _ hh => hh) (br_ h00) (by first | exact RunV.fieldAt0 fo_32_2 rfl | exact RunV.fieldAt fo_32_2 rfl) rfl ?_
        refine JH.takeG 31 rfl rfl rfl (by kernel_rfl) (by kernel_rfl) (by kernel_rfl) (fun _ _ _ _ hh => hh) (br_ h00) (RunV.own1 ag_30 rfl mm_ rfl) rfl ?_
        refine JH.takeG 32 rfl rfl rfl (by kernel_rfl) (by kernel_rfl) (by kernel_rfl) (fun _ _ _ _ hh => hh) (br_ h00) (by first | exact RunV.fieldAt0 fo_32_0 rfl | exact RunV.fieldAt fo_32_0 rfl) rfl ?_
        refine JH.takeG 33 rfl rfl rfl (by kernel_rfl) (by kernel_rfl) (by kernel_rfl) (fun _ _ _ _ hh => hh) (br_ h00) (RunV.own1 ag_30 rfl mm_ rfl) rfl ?_
        refine JH.all1 34 (by kernel_rfl) rfl ?_
        unfold One
        refine JL.callRg rfl rfl  ca_49 rfl (rcmp_fn (by assumption) (by assumption) (by omega) (by omega)) rfl ?_
        rintro _ h14 hle14 rfl
        replace hn := hn.mono hle14
        replace hx := hx.mono hle14
        replace hd := hd.mono hle14
        replace hh0 := hh0.mono hle14
        replace hO1 := hO1.mono hle14
        refine JL.nil ⟨(br_ h00), ?_⟩
        refine JH.takeG 35 rfl rfl rfl (by kernel_rfl) (by kernel_rfl) (by kernel_rfl) (fun _ _ _ _ hh => hh) (br_ h00) (RunV.eql rfl rfl) rfl ?_
        refine JH.take 36 rfl (by kernel_rfl) (by kernel_rfl) (by kernel_rfl) (fun _ _ _ _ hh => hh) (br_ h00) (RunV.pick_t rfl rfl) rfl ?_
        refine JH.take 37 rfl (by kernel_rfl) (by kernel_rfl) (by kernel_rfl) (fun _ _ _ _ hh => hh) (br_ h00) (RunV.assign rfl) rfl ?_
        refine JH.done (by kernel_rfl) ?_
        refine Kp [2] rfl ?_
        exact J.retR (RetV.one rfl rfl) (congrArg Value.bool z23_)
       refine JH.skip 30 rfl rfl rfl (by kernel_rfl) (by kernel_rfl) (by kernel_rfl) (fun _ _ _ _ hh => hh) (br_ h00) rfl ?_
       refine JH.skip 31 rfl rfl rfl (by kernel_rfl) (by kernel_rfl) (by kernel_rfl) (fun _ _ _ _ hh => hh) (br_ h00) rfl ?_
       refine JH.skip 32 rfl rfl rfl (by kernel_rfl) (by kernel_rfl) (by kernel_rfl) (fun _ _ _ _ hh => hh) (br_ h00) rfl ?_
       refine JH.skip 33 rfl rfl rfl (by kernel_rfl) (by kernel_rfl) (by kernel_rfl) (fun _ _ _ _ hh => hh) (br_ h00) rfl ?_
       refine JH.all1 34 (by kernel_rfl) rfl ?_
       unfold One
       refine JL.skip rfl rfl rfl ?_
       refine JL.nil ⟨(br_ h00), ?_⟩
       refine JH.skip 35 rfl rfl rfl (by kernel_rfl) (by kernel_rfl) (by kernel_rfl) (fun _ _ _ _ hh => hh) (br_ h00) rfl ?_
       refine JH.take 36 rfl (by kernel_rfl) (by kernel_rfl) (by kernel_rfl) (fun _ _ _ _ hh => hh) (br_ h00) (RunV.pick_f rfl rfl) rfl ?_
       refine JH.take 37 rfl (by kernel_rfl) (by kernel_rfl) (by kernel_rfl) (fun _ _ _ _ hh => hh) (br_ h00) (RunV.assign rfl) rfl ?_
       refine JH.done (by kernel_rfl) ?_
       refine Kp [2] rfl ?_
       exact J.retR (RetV.one rfl rfl) (congrArg Value.bool z23_)
      refine JH.skip 24 rfl rfl rfl (by kernel_rfl) (by kernel_rfl) (by kernel_rfl) (fun _ _ _ _ hh => hh) (br_ h00) rfl ?_
      refine JH.skip 25 rfl rfl rfl (by kernel_rfl) (by kernel_rfl) (by kernel_rfl) (fun _ _ _ _ hh => hh) (br_ h00) rfl ?_
      refine JH.all1 26 (by kernel_rfl) rfl ?_
      unfold One
      refine JL.skip rfl rfl rfl ?_
      refine JL.nil ⟨(br_ h00), ?_⟩
      refine JH.skip 27 rfl rfl rfl (by kernel_rfl) (by kernel_rfl) (by kernel_rfl) (fun _ _ _ _ hh => hh) (br_ h00) rfl ?_
      refine JH.take 28 rfl (by kernel_rfl) (by kernel_rfl) (by kernel_rfl) (fun _ _ _ _ hh => hh) (br_ h00) (RunV.pick_f rfl rfl) rfl ?_
      refine JH.take 29 rfl (by kernel_rfl) (by kernel_rfl) (by kernel_rfl) (fun _ _ _ _ hh => hh) (br_ h00) (RunV.move rfl) rfl ?_
      refine JH.skip 30 rfl rfl rfl (by kernel_rfl) (by kernel_rfl) (by kernel_rfl) (fun _ _ _ _ hh => hh) (br_ h00) rfl ?_
      refine JH.skip 31 rfl rfl rfl (by kernel_rfl) (by kernel_rfl) (by kernel_rfl) (fun _ _ _ _ hh => hh) (br_ h00) rfl ?_
      refine JH.skip 32 rfl rfl rfl (by kernel_rfl) (by kernel_rfl) (by kernel_rfl) (fun _ _ _ _ hh => hh) (br_ h00) rfl ?_
      refine JH.skip 33 rfl rfl rfl (by kernel_rfl) (by kernel_rfl) (by kernel_rfl) (fun _ _ _ _ hh => hh) (br_ h00) rfl ?_
      refine JH.all1 34 (by kernel_rfl) rfl ?_
      unfold One
      refine JL.skip rfl rfl rfl ?_
      refine JL.nil ⟨(br_ h00), ?_⟩
      refine JH.skip 35 rfl rfl rfl (by kernel_rfl) (by kernel_rfl) (by kernel_rfl) (fun _ _ _ _ hh => hh) (br_ h00) rfl ?_
      refine JH.take 36 rfl (by kernel_rfl) (by kernel_rfl) (by kernel_rfl) (fun _ _ _ _ hh => hh) (br_ h00) (RunV.pick_f rfl rfl) rfl ?_
      refine JH.take 37 rfl (by kernel_rfl) (by kernel_rfl) (by kernel_rfl) (fun _ _ _ _ hh => hh) (br_ h00) (RunV.assign rfl) rfl ?_
      refine JH.done (by kernel_rfl) ?_
      refine Kp [2] rfl ?_
      exact J.retR (RetV.one rfl rfl) (congrArg Value.bool z23_)
     refine JH.skip 17 rfl rfl rfl (by kernel_rfl) (by kernel_rfl) (by kernel_rfl) (fun _ _ _ _ hh => hh) (br_ h00) rfl ?_
     refine JH.skip 18 rfl rfl rfl (by kernel_rfl) (by kernel_rfl) (by kernel_rfl) (fun _ _ _ _ hh => hh) (br_ h00) rfl ?_
     refine JH.all1 19 (by kernel_rfl) rfl ?_
     unfold One
     refine JL.skip rfl rfl rfl ?_
     refine JL.nil ⟨(br_ h00), ?_⟩
     refine JH.all1 20 (by kernel_rfl) rfl ?_
     unfold One
     refine JL.skip rfl rfl rfl ?_
     refine JL.nil ⟨(br_ h00), ?_⟩
     refine JH.skip 21 rfl rfl rfl (by kernel_rfl) (by kernel_rfl) (by kernel_rfl) (fun _ _ _ _ hh => hh) (br_ h00) rfl ?_
     refine JH.take 22 rfl (by kernel_rfl) (by kernel_rfl) (by kernel_rfl) (fun _ _ _ _ hh => hh) (br_ h00) (RunV.pick_f rfl rfl) rfl ?_
     refine JH.take 23 rfl (by kernel_rfl) (by kernel_rfl) (by kernel_rfl) (fun _ _ _ _ hh => hh) (br_ h00) (RunV.move rfl) rfl ?_
     refine JH.skip 24 rfl rfl rfl (by kernel_rfl) (by kernel_rfl) (by kernel_rfl) (fun _ _ _ _ hh => hh) (br_ h00) rfl ?_
     refine JH.skip 25 rfl rfl rfl (by kernel_rfl) (by kernel_rfl) (by kernel_rfl) (fun _ _ _ _ hh => hh) (br_ h00) rfl ?_
     refine JH.all1 26 (by kernel_rfl) rfl ?_
     unfold One
     refine JL.skip rfl rfl rfl ?_
     refine JL.nil ⟨(br_ h00), ?_⟩
     refine JH.skip 27 rfl rfl rfl (by kernel_rfl) (by kernel_rfl) (by kernel_rfl) (fun _ _ _ _ hh => hh) (br_ h00) rfl ?_
     refine JH.take 28 rfl (by kernel_rfl) (by kernel_rfl) (by kernel_rfl) (fun _ _ _ _ hh => hh) (br_ h00) (RunV.pick_f rfl rfl) rfl ?_
     refine JH.take 29 rfl (by kernel_rfl) (by kernel_rfl) (by kernel_rfl) (fun _ _ _ _ hh => hh) (br_ h00) (RunV.move rfl) rfl ?_
     refine JH.skip 30 rfl rfl rfl (by kernel_rfl) (by kernel_rfl) (by kernel_rfl) (fun _ _ _ _ hh => hh) (br_ h00) rfl ?_
     refine JH.skip 31 rfl rfl rfl (by kernel_rfl) (by kernel_rfl) (by kernel_rfl) (fun _ _ _ _ hh => hh) (br_ h00) rfl ?_
     refine JH.skip 32 rfl rfl rfl (by kernel_rfl) (by kernel_rfl) (by kernel_rfl) (fun _ _ _ _ hh => hh) (br_ h00) rfl ?_
     refine JH.skip 33 rfl rfl rfl (by kernel_rfl) (by kernel_rfl) (by kernel_rfl) (fun _ _ _ _ hh => hh) (br_ h00) rfl ?_
     refine JH.all1 34 (by kernel_rfl) rfl ?_
     unfold One
     refine JL.skip rfl rfl rfl ?_
     refine JL.nil ⟨(br_ h00), ?_⟩
     refine JH.skip 35 rfl rfl rfl (by kernel_rfl) (by kernel_rfl) (by kernel_rfl) (fun _ _ _ _ hh => hh) (br_ h00) rfl ?_
     refine JH.take 36 rfl (by kernel_rfl) (by kernel_rfl) (by kernel_rfl) (fun _ _ _ _ hh => hh) (br_ h00) (RunV.pick_f rfl rfl) rfl ?_
     refine JH.take 37 rfl (by kernel_rfl) (by kernel_rfl) (by kernel_rfl) (fun _ _ _ _ hh => hh) (br_ h00) (RunV.assign rfl) rfl ?_
     refine JH.done (by kernel_rfl) ?_
     refine Kp [2] rfl ?_
     exact J.retR (RetV.one rfl rfl) (congrArg Value.bool z23_)
    refine JH.skip 12 rfl rfl rfl (by kernel_rfl) (by kernel_rfl) (by kernel_rfl) (fun _ _ _ _ hh => hh) (br_ h00) rfl ?_
    refine JH.skip 13 rfl rfl rfl (by kernel_rfl) (by kernel_rfl) (by kernel_rfl) (fun _ _ _ _ hh => hh) (br_ h00) rfl ?_
    refine JH.all1 14 (by kernel_rfl) rfl ?_
    unfold One
    refine JL.skip rfl rfl rfl ?_
    refine JL.nil ⟨(br_ h00), ?_⟩
    refine JH.take 15 rfl (by kernel_rfl) (by kernel_rfl) (by kernel_rfl) (fun _ _ _ _ hh => hh) (br_ h00) (RunV.pick_f rfl rfl) rfl ?_
    refine JH.take 16 rfl (by kernel_rfl) (by kernel_rfl) (by kernel_rfl) (fun _ _ _ _ hh => hh) (br_ h00) (RunV.move rfl) rfl ?_
    refine JH.skip 17 rfl rfl rfl (by kernel_rfl) (by kernel_rfl) (by kernel_rfl) (fun _ _ _ _ hh => hh) (br_ h00) rfl ?_
    refine JH.skip 18 rfl rfl rfl (by kernel_rfl) (by kernel_rfl) (by kernel_rfl) (fun _ _ _ _ hh => hh) (br_ h00) rfl ?_
    refine JH.all1 19 (by kernel_rfl) rfl ?_
    unfold One
    refine JL.skip rfl rfl rfl ?_
    refine JL.nil ⟨(br_ h00), ?_⟩
    refine JH.all1 20 (by kernel_rfl) rfl ?_
    unfold One
    refine JL.skip rfl rfl rfl ?_
    refine JL.nil ⟨(br_ h00), ?_⟩
    refine JH.skip 21 rfl rfl rfl (by kernel_rfl) (by kernel_rfl) (by kernel_rfl) (fun _ _ _ _ hh => hh) (br_ h00) rfl ?_
    refine JH.take 22 rfl (by kernel_rfl) (by kernel_rfl) (by kernel_rfl) (fun _ _ _ _ hh => hh) (br_ h00) (RunV.pick_f rfl rfl) rfl ?_
    refine JH.take 23 rfl (by kernel_rfl) (by kernel_rfl) (by kernel_rfl) (fun _ _ _ _ hh => hh) (br_ h00) (RunV.move rfl) rfl ?_
    refine JH.skip 24 rfl rfl rfl (by kernel_rfl) (by kernel_rfl) (by kernel_rfl) (fun _ _ _ _ hh => hh) (br_ h00) rfl ?_
    refine JH.skip 25 rfl rfl rfl (by kernel_rfl) (by kernel_rfl) (by kernel_rfl) (fun _ _ _ _ hh => hh) (br_ h00) rfl ?_
    refine JH.all1 26 (by kernel_rfl) rfl ?_
    unfold One
    refine JL.skip rfl rfl rfl ?_
    refine JL.nil ⟨(br_ h00), ?_⟩
    refine JH.skip 27 rfl rfl rfl (by kernel_rfl) (by kernel_rfl) (by kernel_rfl) (fun _ _ _ _ hh => hh) (br_ h00) rfl ?_
    refine JH.take 28 rfl (by kernel_rfl) (by kernel_rfl) (by kernel_rfl) (fun _ _ _ _ hh => hh) (br_ h00) (RunV.pick_f rfl rfl) rfl ?_
    refine JH.take 29 rfl (by kernel_rfl) (by kernel_rfl) (by kernel_rfl) (fun _ _ _ _ hh => hh) (br_ h00) (RunV.move rfl) rfl ?_
    refine JH.skip 30 rfl rfl rfl (by kernel_rfl) (by kernel_rfl) (by kernel_rfl) (fun _ _ _ _ hh => hh) (br_ h00) rfl ?_
    refine JH.skip 31 rfl rfl rfl (by kernel_rfl) (by kernel_rfl) (by kernel_rfl) (fun _ _ _ _ hh => hh) (br_ h00) rfl ?_
    refine JH.skip 32 rfl rfl rfl (by kernel_rfl) (by kernel_rfl) (by kernel_rfl) (fun _ _ _ _ hh => hh) (br_ h00) rfl ?_
    refine JH.skip 33 rfl rfl rfl (by kernel_rfl) (by kernel_rfl) (by kernel_rfl) (fun _ _ _ _ hh => hh) (br_ h00) rfl ?_
    refine JH.all1 34 (by kernel_rfl) rfl ?_
    unfold One
    refine JL.skip rfl rfl rfl ?_
    refine JL.nil ⟨(br_ h00), ?_⟩
    refine JH.skip 35 rfl rfl rfl (by kernel_rfl) (by kernel_rfl) (by kernel_rfl) (fun _ _ _ _ hh => hh) (br_ h00) rfl ?_
    refine JH.take 36 rfl (by kernel_rfl) (by kernel_rfl) (by kernel_rfl) (fun _ _ _ _ hh => hh) (br_ h00) (RunV.pick_f rfl rfl) rfl ?_
    refine JH.take 37 rfl (by kernel_rfl) (by kernel_rfl) (by kernel_rfl) (fun _ _ _ _ hh => hh) (br_ h00) (RunV.assign rfl) rfl ?_
    refine JH.done (by kernel_rfl) ?_
    refine Kp [2] rfl ?_
    exact J.retR (RetV.one rfl rfl) (congrArg Value.bool z23_)
   refine JH.skip 8 rfl rfl rfl (by kernel_rfl) (by kernel_rfl) (by kernel_rfl) (fun _ _ _ _ hh => hh) (br_ h00) rfl ?_
   refine JH.skip 9 rfl rfl rfl (by kernel_rfl) (by kernel_rfl) (by kernel_rfl) (fun _ _ _ _ hh => hh) (br_ h00) rfl ?_
   refine JH.take 10 rfl (by kernel_rfl) (by kernel_rfl) (by kernel_rfl) (fun _ _ _ _ hh => hh) (br_ h00) (RunV.pick_f rfl rfl) rfl ?_
   refine JH.take 11 rfl (by kernel_rfl) (by kernel_rfl) (by kernel_rfl) (fun _ _ _ _ hh => hh) (br_ h00) (RunV.move rfl) rfl ?_
   refine JH.skip 12 rfl rfl rfl (by kernel_rfl) (by kernel_rfl) (by kernel_rfl) (fun _ _ _ _ hh => hh) (br_ h00) rfl ?_
   refine JH.skip 13 rfl rfl rfl (by kernel_rfl) (by kernel_rfl) (by kernel_rfl) (fun _ _ _ _ hh => hh) (br_ h00) rfl ?_
   refine JH.all1 14 (by kernel_rfl) rfl ?_
   unfold One
   refine JL.skip rfl rfl rfl ?_
   refine JL.nil ⟨(br_ h00), ?_⟩
   refine JH.take 15 rfl (by kernel_rfl) (by kernel_rfl) (by kernel_rfl) (fun _ _ _ _ hh => hh) (br_ h00) (RunV.pick_f rfl rfl) rfl ?_
   refine JH.take 16 rfl (by kernel_rfl) (by kernel_rfl) (by kernel_rfl) (fun _ _ _ _ hh => hh) (br_ h00) (RunV.move rfl) rfl ?_
   refine JH.skip 17 rfl rfl rfl (by kernel_rfl) (by kernel_rfl) (by kernel_rfl) (fun _ _ _ _ hh => hh) (br_ h00) rfl ?_
   refine JH.skip 18 rfl rfl rfl (by kernel_rfl) (by kernel_rfl) (by kernel_rfl) (fun _ _ _ _ hh => hh) (br_ h00) rfl ?_
   refine JH.all1 19 (by kernel_rfl) rfl ?_
   unfold One
   refine JL.skip rfl rfl rfl ?_
   refine JL.nil ⟨(br_ h00), ?_⟩
   refine JH.all1 20 (by kernel_rfl) rfl ?_
   unfold One
   refine JL.skip rfl rfl rfl ?_
   refine JL.nil ⟨(br_ h00), ?_⟩
   refine JH.skip 21 rfl rfl rfl (by kernel_rfl) (by kernel_rfl) (by kernel_rfl) (fun _ _ _ _ hh => hh) (br_ h00) rfl ?_
   refine JH.take 22 rfl (by kernel_rfl) (by kernel_rfl) (by kernel_rfl) (fun _ _ _ _ hh => hh) (br_ h00) (RunV.pick_f rfl rfl) rfl ?_
   refine JH.take 23 rfl (by kernel_rfl) (by kernel_rfl) (by kernel_rfl) (fun _ _ _ _ hh => hh) (br_ h00) (RunV.move rfl) rfl ?_
   refine JH.skip 24 rfl rfl rfl (by kernel_rfl) (by kernel_rfl) (by kernel_rfl) (fun _ _ _ _ hh => hh) (br_ h00) rfl ?_
   refine JH.skip 25 rfl rfl rfl (by kernel_rfl) (by kernel_rfl) (by kernel_rfl) (fun _ _ _ _ hh => hh) (br_ h00) rfl ?_
   refine JH.all1 26 (by kernel_rfl) rfl ?_
   unfold One
   refine JL.skip rfl rfl rfl ?_
   refine JL.nil ⟨(br_ h00), ?_⟩
   refine JH.skip 27 rfl rfl rfl (by kernel_rfl) (by kernel_rfl) (by kernel_rfl) (fun _ _ _ _ hh => hh) (br_ h00) rfl ?_
   refine JH.take 28 rfl (by kernel_rfl) (by kernel_rfl) (by kernel_rfl) (fun _ _ _ _ hh => hh) (br_ h00) (RunV.pick_f rfl rfl) rfl ?_
   refine JH.take 29 rfl (by kernel_rfl) (by kernel_rfl) (by kernel_rfl) (fun _ _ _ _ hh => hh) (br_ h00) (RunV.move rfl) rfl ?_
   refine JH.skip 30 rfl rfl rfl (by kernel_rfl) (by kernel_rfl) (by kernel_rfl) (fun _ _ _ _ hh => hh) (br_ h00) rfl ?_
   refine JH.skip 31 rfl rfl rfl (by kernel_rfl) (by kernel_rfl) (by kernel_rfl) (fun _ _ _ _ hh => hh) (br_ h00) rfl ?_
   refine JH.skip 32 rfl rfl rfl (by kernel_rfl) (by kernel_rfl) (by kernel_rfl) (fun _ _ _ _ hh => hh) (br_ h00) rfl ?_
   refine JH.skip 33 rfl rfl rfl (by kernel_rfl) (by kernel_rfl) (by kernel_rfl) (fun _ _ _ _ hh => hh) (br_ h00) rfl ?_
   refine JH.all1 34 (by kernel_rfl) rfl ?_
   unfold One
   refine JL.skip rfl rfl rfl ?_
   refine JL.nil ⟨(br_ h00), ?_⟩
   refine JH.skip 35 rfl rfl rfl (by kernel_rfl) (by kernel_rfl) (by kernel_rfl) (fun _ _ _ _ hh => hh) (br_ h00) rfl ?_
   refine JH.take 36 rfl (by kernel_rfl) (by kernel_rfl) (by kernel_rfl) (fun _ _ _ _ hh => hh) (br_ h00) (RunV.pick_f rfl rfl) rfl ?_
   refine JH.take 37 rfl (by kernel_rfl) (by kernel_rfl) (by kernel_rfl) (fun _ _ _ _ hh => hh) (br_ h00) (RunV.assign rfl) rfl ?_
   refine JH.done (by kernel_rfl) ?_
   refine Kp [2] rfl ?_
   exact J.retR (RetV.one rfl rfl) (congrArg Value.bool z23_)
  refine JH.skip 4 rfl rfl rfl (by kernel_rfl) (by kernel_rfl) (by kernel_rfl) (fun _ _ _ _ hh => hh) (br_ h00) rfl ?_
  refine JH.skip 5 rfl rfl rfl (by kernel_rfl) (by kernel_rfl) (by kernel_rfl) (fun _ _ _ _ hh => hh) (br_ h00) rfl ?_
  refine JH.take 6 rfl (by kernel_rfl) (by kernel_rfl) (by kernel_rfl) (fun _ _ _ _ hh => hh) (br_ h00) (RunV.pick_f rfl rfl) rfl ?_
  refine JH.take 7 rfl (by kernel_rfl) (by kernel_rfl) (by kernel_rfl) (fun _ _ _ _ hh => hh) (br_ h00) (RunV.move rfl) rfl ?_
  refine JH.skip 8 rfl rfl rfl (by kernel_rfl) (by kernel_rfl) (by kernel_rfl) (fun _ _ _ _ hh => hh) (br_ h00) rfl ?_
  refine JH.skip 9 rfl rfl rfl (by kernel_rfl) (by kernel_rfl) (by kernel_rfl) (fun _ _ _ _ hh => hh) (br_ h00) rfl ?_
  refine JH.take 10 rfl (by kernel_rfl) (by kernel_rfl) (by kernel_rfl) (fun _ _ _ _ hh => hh) (br_ h00) (RunV.pick_f rfl rfl) rfl ?_
  refine JH.take 11 rfl (by kernel_rfl) (by kernel_rfl) (by kernel_rfl) (fun _ _ _ _ hh => hh) (br_ h00) (RunV.move rfl) rfl ?_
  refine JH.skip 12 rfl rfl rfl (by kernel_rfl) (by kernel_rfl) (by kernel_rfl) (fun _ _ _ _ hh => hh) (br_ h00) rfl ?_
  refine JH.skip 13 rfl rfl rfl (by kernel_rfl) (by kernel_rfl) (by kernel_rfl) (fun _ _ _ _ hh => hh) (br_ h00) rfl ?_
  refine JH.all1 14 (by kernel_rfl) rfl ?_
  unfold One
  refine JL.skip rfl rfl rfl ?_
  refine JL.nil ⟨(br_ h00), ?_⟩
  refine JH.take 15 rfl (by kernel_rfl) (by kernel_rfl) (by kernel_rfl) (fun _ _ _ _ hh => hh) (br_ h00) (RunV.pick_f rfl rfl) rfl ?_
  refine JH.take 16 rfl (by kernel_rfl) (by kernel_rfl) (by kernel_rfl) (fun _ _ _ _ hh => hh) (br_ h00) (RunV.move rfl) rfl ?_
  refine JH.skip 17 rfl rfl rfl (by kernel_rfl) (by kernel_rfl) (by kernel_rfl) (fun _ _ _ _ hh => hh) (br_ h00) rfl ?_
  refine JH.skip 18 rfl rfl rfl (by kernel_rfl) (by kernel_rfl) (by kernel_rfl) (fun _ _ _ _ hh => hh) (br_ h00) rfl ?_
  refine JH.all1 19 (by kernel_rfl) rfl ?_
  unfold One
  refine JL.skip rfl rfl rfl ?_
  refine JL.nil ⟨(br_ h00), ?_⟩
  refine JH.all1 20 (by kernel_rfl) rfl ?_
  unfold One
  refine JL.skip rfl rfl rfl ?_
  refine JL.nil ⟨(br_ h00), ?_⟩
  refine JH.skip 21 rfl rfl rfl (by kernel_rfl) (by kernel_rfl) (by kernel_rfl) (fun _ _ _ _ hh => hh) (br_ h00) rfl ?_
  refine JH.take 22 rfl (by kernel_rfl) (by kernel_rfl) (by kernel_rfl) (fun _ _ _ _ hh => hh) (br_ h00) (RunV.pick_f rfl rfl) rfl ?_
  refine JH.take 23 rfl (by kernel_rfl) (by kernel_rfl) (by kernel_rfl) (fun _ _ _ _ hh => hh) (br_ h00) (RunV.move rfl) rfl ?_
  refine JH.skip 24 rfl rfl rfl (by kernel_rfl) (by kernel_rfl) (by kernel_rfl) (fun _ _ _ _ hh => hh) (br_ h00) rfl ?_
  refine JH.skip 25 rfl rfl rfl (by kernel_rfl) (by kernel_rfl) (by kernel_rfl) (fun _ _ _ _ hh => hh) (br_ h00) rfl ?_
  refine JH.all1 26 (by kernel_rfl) rfl ?_
  unfold One
  refine JL.skip rfl rfl rfl ?_
  refine JL.nil ⟨(br_ h00), ?_⟩
  refine JH.skip 27 rfl rfl rfl (by kernel_rfl) (by kernel_rfl) (by kernel_rfl) (fun _ _ _ _ hh => hh) (br_ h00) rfl ?_
  refine JH.take 28 rfl (by kernel_rfl) (by kernel_rfl) (by kernel_rfl) (fun _ _ _ _ hh => hh) (br_ h00) (RunV.pick_f rfl rfl) rfl ?_
  refine JH.take 29 rfl (by kernel_rfl) (by kernel_rfl) (by kernel_rfl) (fun _ _ _ _ hh => hh) (br_ h00) (RunV.move rfl) rfl ?_
  refine JH.skip 30 rfl rfl rfl (by kernel_rfl) (by kernel_rfl) (by kernel_rfl) (fun _ _ _ _ hh => hh) (br_ h00) rfl ?_
  refine JH.skip 31 rfl rfl rfl (by kernel_rfl) (by kernel_rfl) (by kernel_rfl) (fun _ _ _ _ hh => hh) (br_ h00) rfl ?_
  refine JH.skip 32 rfl rfl rfl (by kernel_rfl) (by kernel_rfl) (by kernel_rfl) (fun _ _ _ _ hh => hh) (br_ h00) rfl ?_
  refine JH.skip 33 rfl rfl rfl (by kernel_rfl) (by kernel_rfl) (by kernel_rfl) (fun _ _ _ _ hh => hh) (br_ h00) rfl ?_
  refine JH.all1 34 (by kernel_rfl) rfl ?_
  unfold One
  refine JL.skip rfl rfl rfl ?_
  refine JL.nil ⟨(br_ h00), ?_⟩
  refine JH.skip 35 rfl rfl rfl (by kernel_rfl) (by kernel_rfl) (by kernel_rfl) (fun _ _ _ _ hh => hh) (br_ h00) rfl ?_
  refine JH.take 36 rfl (by kernel_rfl) (by kernel_rfl) (by kernel_rfl) (fun _ _ _ _ hh => hh) (br_ h00) (RunV.pick_f rfl rfl) rfl ?_
  refine JH.take 37 rfl (by kernel_rfl) (by kernel_rfl) (by kernel_rfl) (fun _ _ _ _ hh => hh) (br_ h00) (RunV.assign rfl) rfl ?_
  refine JH.done (by kernel_rfl) ?_
  refine Kp [2] rfl ?_
  exact J.retR (RetV.one rfl rfl) (congrArg Value.bool z23_)
end Go.Proofs.YtmngjbefnloljaaGreatDoor
