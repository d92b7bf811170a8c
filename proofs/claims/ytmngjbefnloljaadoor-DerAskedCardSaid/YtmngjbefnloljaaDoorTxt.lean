/- Walks: the program's texts: the calendar, characters. -/
import Derived.Test.YtmngjbefnloljaaDoorTbl
import Derived.Test.YtmngjbefnloljaaDoorShelf
import Derived.Test.YtmngjbefnloljaaDoorRng
set_option linter.unusedSimpArgs false
set_option linter.unusedVariables false
set_option linter.constructorNameAsVariable false
namespace Go.Proofs.YtmngjbefnloljaaDoor
open Go Go.RowKit
theorem ca_119 : callT Tryd.prog 119 = true := by kernel_rfl
theorem ca_120 : callT Tryd.prog 120 = true := by kernel_rfl
theorem ca_135 : callT Tryd.prog 135 = true := by kernel_rfl
theorem ca_136 : callT Tryd.prog 136 = true := by kernel_rfl
theorem ca_142 : callT Tryd.prog 142 = true := by kernel_rfl
theorem cv_5_3 : convI Tryd.prog 5 3 = some .i64 := by kernel_rfl
theorem mixed_ : Tryd.prog.follows .mixedOrders = true := by kernel_rfl
theorem un_9 : Tryd.prog.underlying 9 = some .string := by kernel_rfl

/-! ## the calendar -/
def leapB (y : Int) : Bool := decide (y % 4 = 0) && (decide (y % 100 ≠ 0) || decide (y % 400 = 0))
theorem leap_fn (y : Int) (h : Part) (h0 : 0 ≤ y) : Pure Tryd.prog 142 [.int .i64 y] h (.bool (leapB y)) := by
  refine Fn.intro Tryd.func142 rfl Tryd.ntmps142 rfl (fun e he => ?_)
  refine J.weak [(0, _)] ⟨rfl, trivial⟩ ?_
  refine Sr ?_
  refine Ru 1 rfl ?_
  refine JL.nil ?_
  refine Sr ?_
  refine Ru 1 rfl ?_
  refine JL.op (by first | exact RunV.rem_i64 rfl rfl (by omega) (by omega) | exact RunV.rem rfl rfl (by omega)) rfl ?_
  refine Ru 2 rfl ?_
  refine Bs 6 rfl (fun hc1 => ?_) fun hc1 => ?_
  ·
   refine Ru 1 rfl ?_
   refine JL.opg rfl rfl  (by first | exact RunV.rem_i64 rfl rfl (by omega) (by omega) | exact RunV.rem rfl rfl (by omega)) rfl ?_
   refine Ru 2 rfl ?_
   refine Bs 10 rfl (fun hc2 => ?_) fun hc2 => ?_
   ·
    refine Ru 6 rfl ?_
    refine Nk [2] rfl ?_
    exact J.retP (RetV.one rfl rfl) (by simp [leapB, *]) rfl
   ·
    refine Ru 1 rfl ?_
    refine JL.opg rfl rfl  (by first | exact RunV.rem_i64 rfl rfl (by omega) (by omega) | exact RunV.rem rfl rfl (by omega)) rfl ?_
    refine Ru 4 rfl ?_
    refine Nk [2] rfl ?_
    exact J.retP (RetV.one rfl rfl) (by simp [leapB, *]) rfl
  ·
   refine Ru 10 rfl ?_
   refine Nk [2] rfl ?_
   exact J.retP (RetV.one rfl rfl) (by simp [leapB, *]) rfl




def monthI (y m : Int) : Int := if m = 2 then (if leapB y then 29 else 28) else if m = 4 ∨ m = 6 ∨ m = 9 ∨ m = 11 then 30 else 31
theorem month_fn (y m : Int) (h : Part) (h0 : 0 ≤ y) : Pure Tryd.prog 135 [.int .i64 y, .int .i64 m] h (.int .i64 (monthI y m)) := by
  refine Fn.intro Tryd.func135 rfl Tryd.ntmps135 rfl (fun e he => ?_)
  refine J.weak [(0, _), (1, _)] ⟨rfl, rfl, trivial⟩ ?_
  refine Sr ?_
  refine Ru 1 rfl ?_
  refine JL.nil ?_
  refine J.seq ?_
  refine Sr ?_
  refine Ru 1 rfl ?_
  refine JL.nil ?_
  refine J.block ?_
  refine Sr ?_
  refine Ru 2 rfl ?_
  refine JL.nil ?_
  refine Cs rfl (fun hc1 => ?_) fun hc1 => ?_
  ·
   refine J.seq ?_
   refine Sr ?_
   refine Ru 1 rfl ?_
   refine JL.callP ca_142 rfl (leap_fn _ _ (by omega)) rfl ?_
   refine Nk [9, 4] rfl ?_
   refine Cs rfl (fun hc3 => ?_) fun hc3 => ?_
   ·
    refine Sr ?_
    refine Ru 1 rfl ?_
    refine JL.nil ?_
    exact J.retP (RetV.one rfl rfl) (by simp [monthI, *]) rfl
   ·
    refine J.skip ?_
    refine Sr ?_
    refine Ru 1 rfl ?_
    refine JL.nil ?_
    exact J.retP (RetV.one rfl rfl) (by simp [monthI, *]) rfl
  ·
   refine J.seq ?_
   refine Sr ?_
   refine Ru 2 rfl ?_
   refine Nk [10, 5, 4] rfl ?_
   refine Cs rfl (fun hc4 => ?_) fun hc4 => ?_
   ·
    refine J.skip ?_
    refine J.cond_t rfl ?_
    refine Sr ?_
    refine Ru 1 rfl ?_
    refine JL.nil ?_
    exact J.retP (RetV.one rfl rfl) (by simp [monthI, *]) rfl
   ·
    refine Sr ?_
    refine Ru 2 rfl ?_
    refine JL.nil ?_
    refine Cs rfl (fun hc5 => ?_) fun hc5 => ?_
    ·
     refine J.skip ?_
     refine Kp [10, 4] rfl ?_
     refine J.cond_t rfl ?_
     refine Sr ?_
     refine Ru 1 rfl ?_
     refine JL.nil ?_
     exact J.retP (RetV.one rfl rfl) (by simp [monthI, *]) rfl
    ·
     refine Sr ?_
     refine Ru 2 rfl ?_
     refine Nk [10, 5, 4] rfl ?_
     refine Cs rfl (fun hc6 => ?_) fun hc6 => ?_
     ·
      refine J.skip ?_
      refine J.cond_t rfl ?_
      refine Sr ?_
      refine Ru 1 rfl ?_
      refine JL.nil ?_
      exact J.retP (RetV.one rfl rfl) (by simp [monthI, *]) rfl
     ·
      refine Rg ?_
      refine Ru 2 rfl ?_
      refine JL.nil ?_
      refine Cs rfl (fun hc7 => ?_) fun hc7 => ?_
      ·
       refine Sr ?_
       refine Ru 1 rfl ?_
       refine Nk [4] rfl ?_
       exact J.retP (RetV.one rfl rfl) (by simp [monthI, *]) rfl
      ·
       refine J.skip ?_
       refine Kp [4] rfl ?_
       refine Sr ?_
       refine Ru 1 rfl ?_
       refine JL.nil ?_
       exact J.retP (RetV.one rfl rfl) (by simp [monthI, *]) rfl



theorem monthI_bd (y m : Int) : 28 ≤ monthI y m ∧ monthI y m ≤ 31 := by unfold monthI; repeat' split <;> omega

def beforeI (y : Int) : Int := if y = 0 then 0 else 365 * y + (y - 1) / 4 - (y - 1) / 100 + (y - 1) / 400 + 1
theorem before_fn (y : Int) (h : Part) (h0 : 0 ≤ y) (h1 : y ≤ 1000000) : Pure Tryd.prog 136 [.int .i64 y] h (.int .i64 (beforeI y)) := by
  refine Fn.intro Tryd.func136 rfl Tryd.ntmps136 rfl (fun e he => ?_)
  refine J.weak [(0, _)] ⟨rfl, trivial⟩ ?_
  refine Sr ?_
  refine Ru 1 rfl ?_
  refine JL.nil ?_
  refine J.seq ?_
  refine Sr ?_
  refine Ru 2 rfl ?_
  refine JL.nil ?_
  refine Cs rfl (fun hc1 => ?_) fun hc1 => ?_
  ·
   refine Sr ?_
   refine Ru 1 rfl ?_
   refine JL.nil ?_
   exact J.retP (RetV.one rfl rfl) (by simp [beforeI, *]) rfl
  ·
   refine J.skip ?_
   refine Sr ?_
   refine Ru 1 rfl ?_
   refine JL.op (by first | exact RunV.sub_i64 rfl rfl (by omega) (by omega) | exact RunV.sub rfl rfl) rfl ?_
   refine Ru 1 rfl ?_
   refine Nk [3, 2] rfl ?_
   refine Sr ?_
   refine Ru 1 rfl ?_
   refine JL.op (by first | exact RunV.add_i64 rfl rfl (by omega) (by omega) | exact RunV.add rfl rfl) rfl ?_
   refine JL.op (by first | exact RunV.mul_i64 rfl rfl (by omega) (by omega) | exact RunV.mul rfl rfl) rfl ?_
   refine Ru 1 rfl ?_
   refine JL.op (by first | exact RunV.quo_i64 rfl rfl (by omega) (by omega) (by omega) | exact RunV.quo rfl rfl (by omega)) rfl ?_
   refine JL.op (by first | exact RunV.add_i64 rfl rfl (by omega) (by omega) | exact RunV.add rfl rfl) rfl ?_
   refine Ru 1 rfl ?_
   refine JL.op (by first | exact RunV.quo_i64 rfl rfl (by omega) (by omega) (by omega) | exact RunV.quo rfl rfl (by omega)) rfl ?_
   refine JL.op (by first | exact RunV.sub_i64 rfl rfl (by omega) (by omega) | exact RunV.sub rfl rfl) rfl ?_
   refine Ru 1 rfl ?_
   refine JL.op (by first | exact RunV.quo_i64 rfl rfl (by omega) (by omega) (by omega) | exact RunV.quo rfl rfl (by omega)) rfl ?_
   refine JL.op (by first | exact RunV.add_i64 rfl rfl (by omega) (by omega) | exact RunV.add rfl rfl) rfl ?_
   refine JL.op (by first | exact RunV.add_i64 rfl rfl (by omega) (by omega) | exact RunV.add rfl rfl) rfl ?_
   refine Ru 1 rfl ?_
   refine Nk [2] rfl ?_
   exact J.retP (RetV.one rfl rfl) (by simp [beforeI, *]) rfl



theorem beforeI_bd (y : Int) (h0 : 0 ≤ y) (h1 : y ≤ 1000000) : 0 ≤ beforeI y ∧ beforeI y ≤ 366000001 := by unfold beforeI; split <;> omega

def twoI (s : List UInt8) (i : Nat) : Int :=
  if byteAt s i < 48 ∨ 57 < byteAt s i ∨ byteAt s (i + 1) < 48 ∨ 57 < byteAt s (i + 1) then -1048576 else (byteAt s i - 48 : Int) * 10 + (byteAt s (i + 1) - 48 : Int)
theorem two_fn (s : List UInt8) (i : Int) (h : Part) (h0 : 0 ≤ i) (h1 : i + 1 < s.length) (h2 : s.length ≤ 140737488355328) : Pure Tryd.prog 119 [.string ⟨s.toArray⟩, .int .i64 i] h (.int .i64 (twoI s i.toNat)) := by
  have e3 : (i + 1).toNat = i.toNat + 1 := by omega
  have b1 := byteAt_lt s i.toNat; have b2 := byteAt_lt s (i.toNat + 1)
  refine Fn.intro Tryd.func119 rfl Tryd.ntmps119 rfl (fun e he => ?_)
  refine J.weak [(0, _), (1, _)] ⟨rfl, rfl, trivial⟩ ?_
  refine Sr ?_
  refine Ru 1 rfl ?_
  refine JL.nil ?_
  refine J.seq ?_
  refine Sr ?_
  refine Ru 2 rfl ?_
  refine JL.op (RunV.strIndex un_9 rfl rfl (by first | with_reducible rfl | exact (Int.toNat_of_nonneg (by omega)).symm) (by omega)) rfl ?_
  refine Ru 2 rfl ?_
  refine Bs 9 rfl (fun hc1 => ?_) fun hc1 => ?_
  ·
   refine Ru 19 rfl ?_
   refine Nk [28, 4, 0, 1] rfl ?_
   refine J.cond_t rfl ?_
   refine Sr ?_
   refine Ru 1 rfl ?_
   refine JL.nil ?_
   exact J.retP (RetV.one rfl rfl) (by congr 1; rw [e3] at *; unfold twoI; first | rw [if_pos (by omega)] | rw [if_neg (by omega)]) rfl
  ·
   refine Ru 2 rfl ?_
   refine JL.opg rfl rfl  (RunV.strIndex un_9 rfl rfl (by first | with_reducible rfl | exact (Int.toNat_of_nonneg (by omega)).symm) (by omega)) rfl ?_
   refine Ru 3 rfl ?_
   refine Bs 15 rfl (fun hc2 => ?_) fun hc2 => ?_
   ·
    refine Ru 13 rfl ?_
    refine Nk [28, 4, 0, 1] rfl ?_
    refine J.cond_t rfl ?_
    refine Sr ?_
    refine Ru 1 rfl ?_
    refine JL.nil ?_
    exact J.retP (RetV.one rfl rfl) (by congr 1; rw [e3] at *; unfold twoI; first | rw [if_pos (by omega)] | rw [if_neg (by omega)]) rfl
   ·
    refine Ru 2 rfl ?_
    refine JL.opg rfl rfl  (by first | exact RunV.add_i64 rfl rfl (by omega) (by omega) | exact RunV.add rfl rfl) rfl ?_
    refine JL.opg rfl rfl  (RunV.strIndex un_9 rfl rfl (by first | with_reducible rfl | exact (Int.toNat_of_nonneg (by omega)).symm) (by omega)) rfl ?_
    refine Ru 3 rfl ?_
    refine Bs 22 rfl (fun hc3 => ?_) fun hc3 => ?_
    ·
     refine Ru 6 rfl ?_
     refine Nk [28, 4, 0, 1] rfl ?_
     refine J.cond_t rfl ?_
     refine Sr ?_
     refine Ru 1 rfl ?_
     refine JL.nil ?_
     exact J.retP (RetV.one rfl rfl) (by congr 1; rw [e3] at *; unfold twoI; first | rw [if_pos (by omega)] | rw [if_neg (by omega)]) rfl
    ·
     refine Ru 2 rfl ?_
     refine JL.opg rfl rfl  (by first | exact RunV.add_i64 rfl rfl (by omega) (by omega) | exact RunV.add rfl rfl) rfl ?_
     refine JL.opg rfl rfl  (RunV.strIndex un_9 rfl rfl (by first | with_reducible rfl | exact (Int.toNat_of_nonneg (by omega)).symm) (by omega)) rfl ?_
     refine Ru 2 rfl ?_
     refine Nk [28, 4, 0, 1] rfl ?_
     refine Cs rfl (fun hc4 => ?_) fun hc4 => ?_
     ·
      refine Sr ?_
      refine Ru 1 rfl ?_
      refine JL.nil ?_
      exact J.retP (RetV.one rfl rfl) (by congr 1; rw [e3] at *; unfold twoI; first | rw [if_pos (by omega)] | rw [if_neg (by omega)]) rfl
     ·
      refine J.skip ?_
      refine J.seq ?_
      refine J.drawn mixed_ (by kernel_rfl) ?_
      refine Rq 2 rfl ?_
      refine JQ.op (RunV.strIndex un_9 rfl rfl (by first | with_reducible rfl | exact (Int.toNat_of_nonneg (by omega)).symm) (by omega)) rfl ?_
      refine JQ.op (by first | exact RunV.sub_u8 rfl rfl (by omega) (by omega) | exact RunV.sub rfl rfl) rfl ?_
      refine JQ.op (by first | exact RunV.convb_i64 cv_5_3 rfl | exact RunV.conv_i64 cv_5_3 rfl (by omega) (by omega) | exact RunV.conv cv_5_3 rfl) rfl ?_
      refine JQ.op (by first | exact RunV.mul_i64 rfl rfl (by omega) (by omega) | exact RunV.mul rfl rfl) rfl ?_
      refine Rq 2 rfl ?_
      refine JQ.op (by first | exact RunV.add_i64 rfl rfl (by omega) (by omega) | exact RunV.add rfl rfl) rfl ?_
      refine JQ.op (RunV.strIndex un_9 rfl rfl (by first | with_reducible rfl | exact (Int.toNat_of_nonneg (by omega)).symm) (by omega)) rfl ?_
      refine JQ.op (by first | exact RunV.sub_u8 rfl rfl (by omega) (by omega) | exact RunV.sub rfl rfl) rfl ?_
      refine JQ.op (by first | exact RunV.convb_i64 cv_5_3 rfl | exact RunV.conv_i64 cv_5_3 rfl (by omega) (by omega) | exact RunV.conv cv_5_3 rfl) rfl ?_
      refine JQ.op (by first | exact RunV.add_i64 rfl rfl (by omega) (by omega) | exact RunV.add rfl rfl) rfl ?_
      refine Rq 1 rfl ?_
      refine Nq [4] rfl ?_
      exact J.retP (RetV.one rfl rfl) (by congr 1; rw [e3] at *; unfold twoI; first | rw [if_pos (by omega)] | rw [if_neg (by omega)]) rfl



theorem two_n (s : List UInt8) (i : Nat) (h : Part) (h1 : i + 1 < s.length) (h2 : s.length ≤ 140737488355328) : Pure Tryd.prog 119 [.string ⟨s.toArray⟩, .int .i64 (i : Nat)] h (.int .i64 (twoI s i)) :=
  (two_fn s i h (by omega) (by omega) h2).cast (by simp)
theorem twoI_bd (s : List UInt8) (i : Nat) : (twoI s i = -1048576 ∨ 0 ≤ twoI s i) ∧ twoI s i ≤ 99 := by
  have := byteAt_lt s i; have := byteAt_lt s (i + 1)
  unfold twoI; split <;> omega

/-- The days of the months ahead of the k-th behind January. -/
def mdays (y : Int) : Nat → Int
  | 0 => 0
  | k + 1 => mdays y k + monthI y (k + 1)
theorem mdays_bd (y : Int) (k : Nat) : 0 ≤ mdays y k ∧ mdays y k ≤ 31 * k := by
  induction k with
  | zero => simp [mdays]
  | succ k ih => have := monthI_bd y (k + 1); simp only [mdays]; omega
def momOk (y : Int) (s : List UInt8) : Bool :=
  decide (0 ≤ y ∧ 1 ≤ twoI s 0 ∧ twoI s 0 ≤ 12 ∧ 1 ≤ twoI s 2 ∧ twoI s 2 ≤ monthI y (twoI s 0) ∧ 0 ≤ twoI s 4 ∧ twoI s 4 ≤ 23 ∧ 0 ≤ twoI s 6 ∧ twoI s 6 ≤ 59 ∧ 0 ≤ twoI s 8 ∧ twoI s 8 ≤ 59)
def momT (y : Int) (s : List UInt8) : Int :=
  -62167219200 + (beforeI y + (twoI s 2 - 1) + mdays y ((twoI s 0).toNat - 1)) * 86400 + (twoI s 4 * 3600 + twoI s 6 * 60 + twoI s 8)
def momV (y : Int) (s : List UInt8) : Int := if momOk y s then momT y s else 0
theorem moment_fn (y : Int) (s : List UInt8) (h : Part) (h1 : y ≤ 1000000) (h2 : s.length = 10) : Pure Tryd.prog 120 [.int .i64 y, .string ⟨s.toArray⟩] h (.tuple #[.int .i64 (momV y s), .bool (momOk y s)]) := by
  have w0 := twoI_bd s 0; have w2 := twoI_bd s 2; have w4 := twoI_bd s 4; have w6 := twoI_bd s 6; have w8 := twoI_bd s 8
  have w1 := monthI_bd y (twoI s 0)
  refine Fn.intro Tryd.func120 rfl Tryd.ntmps120 rfl (fun e he => ?_)
  refine J.weak [(0, _), (1, _)] ⟨rfl, rfl, trivial⟩ ?_
  refine Sr ?_
  refine Ru 2 rfl ?_
  refine JL.nil ?_
  refine J.seq ?_
  refine Sr ?_
  refine Ru 2 rfl ?_
  refine JL.nil ?_
  refine Cs rfl (fun hc1 => ?_) fun hc1 => ?_
  ·
   refine Sr ?_
   refine Ru 2 rfl ?_
   refine Nk [5, 4, 0, 1] rfl ?_
   exact J.retP (RetV.two rfl rfl rfl) (by first | (have hm : momOk y s = false := decide_eq_false (by omega); rw [momV, hm]; rfl) | (have hk2 : (twoI s 0).toNat - 1 = k := by omega); have hm : momOk y s = true := decide_eq_true (by omega); rw [momV, hm, momT, hk2]; rfl) rfl
  ·
   refine J.skip ?_
   refine Sr ?_
   refine Ru 1 rfl ?_
   refine JL.callP ca_119 rfl (two_n s 0 _ (by omega) (by omega)) rfl ?_
   refine Ru 1 rfl ?_
   refine JL.callP ca_119 rfl (two_n s 2 _ (by omega) (by omega)) rfl ?_
   refine Ru 1 rfl ?_
   refine JL.callP ca_119 rfl (two_n s 4 _ (by omega) (by omega)) rfl ?_
   refine Ru 1 rfl ?_
   refine JL.callP ca_119 rfl (two_n s 6 _ (by omega) (by omega)) rfl ?_
   refine Ru 1 rfl ?_
   refine JL.callP ca_119 rfl (two_n s 8 _ (by omega) (by omega)) rfl ?_
   refine Ru 5 rfl ?_
   refine Nk [10, 9, 8, 7, 6, 5, 4, 0] rfl ?_
   refine J.seq ?_
   refine Sr ?_
   refine Ru 3 rfl ?_
   refine Bs 27 rfl (fun hc7 => ?_) fun hc7 => ?_
   ·
    refine Ru 38 rfl ?_
    refine Nk [65, 10, 9, 8, 7, 6, 5, 4, 0] rfl ?_
    refine J.cond_t rfl ?_
    refine Sr ?_
    refine Ru 2 rfl ?_
    refine JL.nil ?_
    exact J.retP (RetV.two rfl rfl rfl) (by first | (have hm : momOk y s = false := decide_eq_false (by omega); rw [momV, hm]; rfl) | (have hk2 : (twoI s 0).toNat - 1 = k := by omega); have hm : momOk y s = true := decide_eq_true (by omega); rw [momV, hm, momT, hk2]; rfl) rfl
   ·
    refine Ru 4 rfl ?_
    refine Bs 31 rfl (fun hc8 => ?_) fun hc8 => ?_
    ·
     refine Ru 34 rfl ?_
     refine Nk [65, 10, 9, 8, 7, 6, 5, 4, 0] rfl ?_
     refine J.cond_t rfl ?_
     refine Sr ?_
     refine Ru 2 rfl ?_
     refine JL.nil ?_
     exact J.retP (RetV.two rfl rfl rfl) (by first | (have hm : momOk y s = false := decide_eq_false (by omega); rw [momV, hm]; rfl) | (have hk2 : (twoI s 0).toNat - 1 = k := by omega); have hm : momOk y s = true := decide_eq_true (by omega); rw [momV, hm, momT, hk2]; rfl) rfl
    ·
     refine Ru 4 rfl ?_
     refine Bs 35 rfl (fun hc9 => ?_) fun hc9 => ?_
     ·
      refine Ru 30 rfl ?_
      refine Nk [65, 10, 9, 8, 7, 6, 5, 4, 0] rfl ?_
      refine J.cond_t rfl ?_
      refine Sr ?_
      refine Ru 2 rfl ?_
      refine JL.nil ?_
      exact J.retP (RetV.two rfl rfl rfl) (by first | (have hm : momOk y s = false := decide_eq_false (by omega); rw [momV, hm]; rfl) | (have hk2 : (twoI s 0).toNat - 1 = k := by omega); have hm : momOk y s = true := decide_eq_true (by omega); rw [momV, hm, momT, hk2]; rfl) rfl
     ·
      refine Ru 3 rfl ?_
      refine JL.callPg rfl rfl  ca_135 rfl (month_fn _ _ _ (by omega)) rfl ?_
      refine Ru 3 rfl ?_
      refine Bs 42 rfl (fun hc11 => ?_) fun hc11 => ?_
      ·
       refine Ru 23 rfl ?_
       refine Nk [65, 10, 9, 8, 7, 6, 5, 4, 0] rfl ?_
       refine J.cond_t rfl ?_
       refine Sr ?_
       refine Ru 2 rfl ?_
       refine JL.nil ?_
       exact J.retP (RetV.two rfl rfl rfl) (by first | (have hm : momOk y s = false := decide_eq_false (by omega); rw [momV, hm]; rfl) | (have hk2 : (twoI s 0).toNat - 1 = k := by omega); have hm : momOk y s = true := decide_eq_true (by omega); rw [momV, hm, momT, hk2]; rfl) rfl
      ·
       refine Ru 4 rfl ?_
       refine Bs 46 rfl (fun hc12 => ?_) fun hc12 => ?_
       ·
        refine Ru 19 rfl ?_
        refine Nk [65, 10, 9, 8, 7, 6, 5, 4, 0] rfl ?_
        refine J.cond_t rfl ?_
        refine Sr ?_
        refine Ru 2 rfl ?_
        refine JL.nil ?_
        exact J.retP (RetV.two rfl rfl rfl) (by first | (have hm : momOk y s = false := decide_eq_false (by omega); rw [momV, hm]; rfl) | (have hk2 : (twoI s 0).toNat - 1 = k := by omega); have hm : momOk y s = true := decide_eq_true (by omega); rw [momV, hm, momT, hk2]; rfl) rfl
       ·
        refine Ru 4 rfl ?_
        refine Bs 50 rfl (fun hc13 => ?_) fun hc13 => ?_
        ·
         refine Ru 15 rfl ?_
         refine Nk [65, 10, 9, 8, 7, 6, 5, 4, 0] rfl ?_
         refine J.cond_t rfl ?_
         refine Sr ?_
         refine Ru 2 rfl ?_
         refine JL.nil ?_
         exact J.retP (RetV.two rfl rfl rfl) (by first | (have hm : momOk y s = false := decide_eq_false (by omega); rw [momV, hm]; rfl) | (have hk2 : (twoI s 0).toNat - 1 = k := by omega); have hm : momOk y s = true := decide_eq_true (by omega); rw [momV, hm, momT, hk2]; rfl) rfl
        ·
         refine Ru 4 rfl ?_
         refine Bs 54 rfl (fun hc14 => ?_) fun hc14 => ?_
         ·
          refine Ru 11 rfl ?_
          refine Nk [65, 10, 9, 8, 7, 6, 5, 4, 0] rfl ?_
          refine J.cond_t rfl ?_
          refine Sr ?_
          refine Ru 2 rfl ?_
          refine JL.nil ?_
          exact J.retP (RetV.two rfl rfl rfl) (by first | (have hm : momOk y s = false := decide_eq_false (by omega); rw [momV, hm]; rfl) | (have hk2 : (twoI s 0).toNat - 1 = k := by omega); have hm : momOk y s = true := decide_eq_true (by omega); rw [momV, hm, momT, hk2]; rfl) rfl
         ·
          refine Ru 4 rfl ?_
          refine Bs 58 rfl (fun hc15 => ?_) fun hc15 => ?_
          ·
           refine Ru 7 rfl ?_
           refine Nk [65, 10, 9, 8, 7, 6, 5, 4, 0] rfl ?_
           refine J.cond_t rfl ?_
           refine Sr ?_
           refine Ru 2 rfl ?_
           refine JL.nil ?_
           exact J.retP (RetV.two rfl rfl rfl) (by first | (have hm : momOk y s = false := decide_eq_false (by omega); rw [momV, hm]; rfl) | (have hk2 : (twoI s 0).toNat - 1 = k := by omega); have hm : momOk y s = true := decide_eq_true (by omega); rw [momV, hm, momT, hk2]; rfl) rfl
          ·
           refine Ru 4 rfl ?_
           refine Bs 62 rfl (fun hc16 => ?_) fun hc16 => ?_
           ·
            refine Ru 3 rfl ?_
            refine Nk [65, 10, 9, 8, 7, 6, 5, 4, 0] rfl ?_
            refine J.cond_t rfl ?_
            refine Sr ?_
            refine Ru 2 rfl ?_
            refine JL.nil ?_
            exact J.retP (RetV.two rfl rfl rfl) (by first | (have hm : momOk y s = false := decide_eq_false (by omega); rw [momV, hm]; rfl) | (have hk2 : (twoI s 0).toNat - 1 = k := by omega); have hm : momOk y s = true := decide_eq_true (by omega); rw [momV, hm, momT, hk2]; rfl) rfl
           ·
            refine Ru 3 rfl ?_
            refine Nk [65, 10, 9, 8, 7, 6, 5, 4, 0] rfl ?_
            refine Cs rfl (fun hc17 => ?_) fun hc17 => ?_
            ·
             refine Sr ?_
             refine Ru 2 rfl ?_
             refine JL.nil ?_
             exact J.retP (RetV.two rfl rfl rfl) (by first | (have hm : momOk y s = false := decide_eq_false (by omega); rw [momV, hm]; rfl) | (have hk2 : (twoI s 0).toNat - 1 = k := by omega); have hm : momOk y s = true := decide_eq_true (by omega); rw [momV, hm, momT, hk2]; rfl) rfl
            ·
             refine J.skip ?_
             refine Sr ?_
             refine Ru 1 rfl ?_
             refine JL.callP ca_136 rfl (before_fn _ _ (by omega) (by omega)) rfl ?_
             refine Ru 1 rfl ?_
             refine JL.op (by first | exact RunV.sub_i64 rfl rfl (by omega) (by omega) | exact RunV.sub rfl rfl) rfl ?_
             have hbb := beforeI_bd y (by omega) (by omega)
             refine JL.op (by first | exact RunV.add_i64 rfl rfl (by omega) (by omega) | exact RunV.add rfl rfl) rfl ?_
             refine Ru 1 rfl ?_
             refine Nk [11, 10, 9, 8, 6, 5, 4, 0] rfl ?_
             refine J.seq ?_
             refine Sr ?_
             refine Ru 1 rfl ?_
             refine JL.nil ?_
             refine J.block ?_
             refine J.loop (fun t_ S_ h_ L_ => ∃ (k : Nat), t_ = 13 - k ∧ S_ = [(0, .int .i64 y), (6, .int .i64 (twoI s 0)), (8, .int .i64 (twoI s 4)), (9, .int .i64 (twoI s 6)), (10, .int .i64 (twoI s 8)), (11, .int .i64 (beforeI y + (twoI s 2 - 1) + mdays y k)), (12, .int .i64 (k + 1 : Nat))] ∧ h = h_ ∧ L_ = [] ∧ (k < twoI s 0)) ⟨_, _, ?_, ⟨0, rfl, rfl, rfl, rfl, by omega⟩⟩ ?_
             ·
              repeat (first | exact trivial | refine ⟨rfl, ?_⟩ | refine ⟨(by exact some_i64 (by simp [mdays] <;> omega)), ?_⟩)
             rintro _ _ _ _ ⟨k, rfl, rfl, rfl, rfl, hk⟩
             have hmd := mdays_bd y k; have hmb := monthI_bd y (k + 1 : Nat)
             refine J.seq ?_
             refine Sr ?_
             refine Ru 3 rfl ?_
             refine JL.nil ?_
             refine Cs rfl (fun hc19 => ?_) fun hc19 => ?_
             ·
              refine J.skip ?_
              refine J.seq ?_
              refine J.block ?_
              refine Rg ?_
              refine Ru 3 rfl ?_
              refine JL.callP ca_135 rfl (month_fn _ _ _ (by omega)) rfl ?_
              refine JL.op (by first | exact RunV.add_i64 rfl rfl (by omega) (by omega) | exact RunV.add rfl rfl) rfl ?_
              refine Ru 1 rfl ?_
              refine JL.nil ?_
              refine Rg ?_
              refine Ru 1 rfl ?_
              refine JL.op (by first | exact RunV.add_i64 rfl rfl (by omega) (by omega) | exact RunV.add rfl rfl) rfl ?_
              refine Ru 1 rfl ?_
              refine JL.nil ?_
              refine ⟨_, ?_, _, ?_, ⟨k + 1, rfl, rfl, rfl, rfl, by omega⟩⟩
              ·
               omega
              ·
               repeat (first | exact trivial | refine ⟨rfl, ?_⟩ | refine ⟨(by exact some_i64 (by simp [mdays] <;> omega)), ?_⟩)
             ·
              refine J.exit ?_
              refine Kp [8, 9, 10, 11] rfl ?_
              refine Sr ?_
              refine Ru 1 rfl ?_
              refine JL.op (by first | exact RunV.mul_i64 rfl rfl (by omega) (by omega) | exact RunV.mul rfl rfl) rfl ?_
              refine JL.op (by first | exact RunV.add_i64 rfl rfl (by omega) (by omega) | exact RunV.add rfl rfl) rfl ?_
              refine Ru 1 rfl ?_
              refine JL.op (by first | exact RunV.mul_i64 rfl rfl (by omega) (by omega) | exact RunV.mul rfl rfl) rfl ?_
              refine Ru 1 rfl ?_
              refine JL.op (by first | exact RunV.mul_i64 rfl rfl (by omega) (by omega) | exact RunV.mul rfl rfl) rfl ?_
              refine JL.op (by first | exact RunV.add_i64 rfl rfl (by omega) (by omega) | exact RunV.add rfl rfl) rfl ?_
              refine Ru 1 rfl ?_
              refine JL.op (by first | exact RunV.add_i64 rfl rfl (by omega) (by omega) | exact RunV.add rfl rfl) rfl ?_
              refine JL.op (by first | exact RunV.add_i64 rfl rfl (by omega) (by omega) | exact RunV.add rfl rfl) rfl ?_
              refine Ru 2 rfl ?_
              refine Nk [5, 4] rfl ?_
              exact J.retP (RetV.two rfl rfl rfl) (by first | (have hm : momOk y s = false := decide_eq_false (by omega); rw [momV, hm]; rfl) | (have hk2 : (twoI s 0).toNat - 1 = k := by omega); have hm : momOk y s = true := decide_eq_true (by omega); rw [momV, hm, momT, hk2]; rfl) rfl




def psY (s : List UInt8) : Int := if 0 ≤ twoI s 0 then (if twoI s 0 + 1900 < 1950 then twoI s 0 + 1900 + 100 else twoI s 0 + 1900) else twoI s 0
def psOk (s : List UInt8) : Bool := decide (s.length = 13 ∧ byteAt s 12 = 90) && momOk (psY s) ((s.drop 2).take 10)
def psT (s : List UInt8) : Int := if psOk s then momT (psY s) ((s.drop 2).take 10) else 0
theorem pshort_fn (s : List UInt8) (h : Part) (h2 : s.length ≤ 140737488355328) : Pure Tryd.prog 91 [.string ⟨s.toArray⟩] h (.tuple #[.int .i64 (psT s), .int .i64 (if psOk s then 0 else 21)]) := by
  have w0 := twoI_bd s 0
  refine Fn.intro Tryd.func91 rfl Tryd.ntmps91 rfl (fun e he => ?_)
  refine J.weak [(0, _)] ⟨rfl, trivial⟩ ?_
  refine Sr ?_
  refine Ru 2 rfl ?_
  refine JL.nil ?_
  refine J.seq ?_
  refine Sr ?_
  refine Ru 1 rfl ?_
  refine JL.op (RunV.lenS un_9 rfl) rfl ?_
  refine Ru 2 rfl ?_
  refine Bs 10 rfl (fun hc1 => ?_) fun hc1 => ?_
  ·
   refine Ru 4 rfl ?_
   refine Nk [14, 3, 2, 0] rfl ?_
   refine J.cond_t rfl ?_
   refine Sr ?_
   refine Ru 2 rfl ?_
   refine JL.nil ?_
   exact J.retP (RetV.two rfl rfl rfl) (by have hm : psOk s = false := (by unfold psOk; rw [decide_eq_false (by omega)]; rfl); rw [psT, hm]; rfl) rfl
  ·
   refine Ru 1 rfl ?_
   refine JL.opg rfl rfl  (RunV.strIndex un_9 rfl rfl (show _ = ((12 : Nat) : Int) from rfl) (by omega)) rfl ?_
   refine Ru 2 rfl ?_
   refine Nk [14, 3, 2, 0] rfl ?_
   refine Cs rfl (fun hc2 => ?_) fun hc2 => ?_
   ·
    refine Sr ?_
    refine Ru 2 rfl ?_
    refine JL.nil ?_
    exact J.retP (RetV.two rfl rfl rfl) (by have hm : psOk s = false := (by unfold psOk; rw [decide_eq_false (by omega)]; rfl); rw [psT, hm]; rfl) rfl
   ·
    refine J.skip ?_
    refine Sr ?_
    refine Ru 1 rfl ?_
    refine JL.callP ca_119 rfl (two_n s 0 _ (by omega) (by omega)) rfl ?_
    refine Ru 1 rfl ?_
    refine JL.nil ?_
    refine J.seq ?_
    refine Sr ?_
    refine Ru 2 rfl ?_
    refine Nk [18, 4, 3, 2, 0] rfl ?_
    refine Cs rfl (fun hc4 => ?_) fun hc4 => ?_
    ·
     refine Sr ?_
     refine Ru 1 rfl ?_
     refine JL.op (by first | exact RunV.add_i64 rfl rfl (by omega) (by omega) | exact RunV.add rfl rfl) rfl ?_
     refine Ru 1 rfl ?_
     refine Nk [4, 3, 2, 0] rfl ?_
     refine Sr ?_
     refine Ru 2 rfl ?_
     refine JL.nil ?_
     refine Cs rfl (fun hc5 => ?_) fun hc5 => ?_
     ·
      have hy : psY s = twoI s 0 + 1900 + 100 := by unfold psY; rw [if_pos (by omega), if_pos (by omega)]
      refine Rg ?_
      refine Ru 1 rfl ?_
      refine JL.op (by first | exact RunV.add_i64 rfl rfl (by omega) (by omega) | exact RunV.add rfl rfl) rfl ?_
      refine Ru 1 rfl ?_
      refine Nk [4, 3, 2, 0] rfl ?_
      refine Sr ?_
      refine Ru 2 rfl ?_
      refine JL.op (RunV.strCut_lh un_9 rfl rfl rfl (show _ = ((2 : Nat) : Int) from rfl) (show _ = ((12 : Nat) : Int) from rfl) (by omega) (by omega)) rfl ?_
      refine JL.callP ca_120 rfl (moment_fn _ ((s.drop 2).take 10) _ (by omega) (by simp; omega)) rfl ?_
      refine Ru 5 rfl ?_
      refine Nk [6, 5, 3, 2] rfl ?_
      refine J.seq ?_
      refine Sr ?_
      refine Ru 2 rfl ?_
      refine JL.nil ?_
      refine Cs rfl (fun hc7 => ?_) fun hc7 => ?_
      ·
       refine Sr ?_
       refine Ru 2 rfl ?_
       refine Nk [3, 2, 5] rfl ?_
       exact J.retP (RetV.two rfl rfl rfl) (by rw [← hy] at *; first | (have hm : psOk s = false := (by unfold psOk; simp_all); rw [psT, hm]; rfl) | (have hm : psOk s = true := (by unfold psOk; rw [decide_eq_true (by omega)]; simp_all); rw [psT, hm]; simp_all [momV])) rfl
      ·
       refine J.skip ?_
       refine Sr ?_
       refine Ru 3 rfl ?_
       refine Nk [3, 2] rfl ?_
       exact J.retP (RetV.two rfl rfl rfl) (by rw [← hy] at *; first | (have hm : psOk s = false := (by unfold psOk; simp_all); rw [psT, hm]; rfl) | (have hm : psOk s = true := (by unfold psOk; rw [decide_eq_true (by omega)]; simp_all); rw [psT, hm]; simp_all [momV])) rfl
     ·
      have hy : psY s = twoI s 0 + 1900 := by unfold psY; rw [if_pos (by omega), if_neg (by omega)]
      refine J.skip ?_
      refine Sr ?_
      refine Ru 2 rfl ?_
      refine JL.op (RunV.strCut_lh un_9 rfl rfl rfl (show _ = ((2 : Nat) : Int) from rfl) (show _ = ((12 : Nat) : Int) from rfl) (by omega) (by omega)) rfl ?_
      refine JL.callP ca_120 rfl (moment_fn _ ((s.drop 2).take 10) _ (by omega) (by simp; omega)) rfl ?_
      refine Ru 5 rfl ?_
      refine Nk [6, 5, 3, 2] rfl ?_
      refine J.seq ?_
      refine Sr ?_
      refine Ru 2 rfl ?_
      refine JL.nil ?_
      refine Cs rfl (fun hc9 => ?_) fun hc9 => ?_
      ·
       refine Sr ?_
       refine Ru 2 rfl ?_
       refine Nk [3, 2, 5] rfl ?_
       exact J.retP (RetV.two rfl rfl rfl) (by rw [← hy] at *; first | (have hm : psOk s = false := (by unfold psOk; simp_all); rw [psT, hm]; rfl) | (have hm : psOk s = true := (by unfold psOk; rw [decide_eq_true (by omega)]; simp_all); rw [psT, hm]; simp_all [momV])) rfl
      ·
       refine J.skip ?_
       refine Sr ?_
       refine Ru 3 rfl ?_
       refine Nk [3, 2] rfl ?_
       exact J.retP (RetV.two rfl rfl rfl) (by rw [← hy] at *; first | (have hm : psOk s = false := (by unfold psOk; simp_all); rw [psT, hm]; rfl) | (have hm : psOk s = true := (by unfold psOk; rw [decide_eq_true (by omega)]; simp_all); rw [psT, hm]; simp_all [momV])) rfl
    ·
     have hy : psY s = twoI s 0 := by unfold psY; rw [if_neg (by omega)]
     refine J.skip ?_
     refine Sr ?_
     refine Ru 2 rfl ?_
     refine JL.op (RunV.strCut_lh un_9 rfl rfl rfl (show _ = ((2 : Nat) : Int) from rfl) (show _ = ((12 : Nat) : Int) from rfl) (by omega) (by omega)) rfl ?_
     refine JL.callP ca_120 rfl (moment_fn _ ((s.drop 2).take 10) _ (by omega) (by simp; omega)) rfl ?_
     refine Ru 5 rfl ?_
     refine Nk [6, 5, 3, 2] rfl ?_
     refine J.seq ?_
     refine Sr ?_
     refine Ru 2 rfl ?_
     refine JL.nil ?_
     refine Cs rfl (fun hc11 => ?_) fun hc11 => ?_
     ·
      refine Sr ?_
      refine Ru 2 rfl ?_
      refine Nk [3, 2, 5] rfl ?_
      exact J.retP (RetV.two rfl rfl rfl) (by rw [← hy] at *; first | (have hm : psOk s = false := (by unfold psOk; simp_all); rw [psT, hm]; rfl) | (have hm : psOk s = true := (by unfold psOk; rw [decide_eq_true (by omega)]; simp_all); rw [psT, hm]; simp_all [momV])) rfl
     ·
      refine J.skip ?_
      refine Sr ?_
      refine Ru 3 rfl ?_
      refine Nk [3, 2] rfl ?_
      exact J.retP (RetV.two rfl rfl rfl) (by rw [← hy] at *; first | (have hm : psOk s = false := (by unfold psOk; simp_all); rw [psT, hm]; rfl) | (have hm : psOk s = true := (by unfold psOk; rw [decide_eq_true (by omega)]; simp_all); rw [psT, hm]; simp_all [momV])) rfl



def micI (s : List UInt8) : Nat → Int
  | 0 => 0
  | k + 1 => micI s k * 10 + (if 15 + k + 1 < s.length then (byteAt s (15 + k) : Int) - 48 else 0)
def micOk (s : List UInt8) : Nat → Bool
  | 0 => true
  | k + 1 => micOk s k && (if 15 + k + 1 < s.length then decide (48 ≤ byteAt s (15 + k) ∧ byteAt s (15 + k) ≤ 57) else true)
theorem micI_bd (s : List UInt8) (k : Nat) (h : micOk s k = true) : 0 ≤ micI s k ∧ micI s k < 10 ^ k := by
  induction k with
  | zero => simp [micI]
  | succ k ih =>
    simp only [micOk, Bool.and_eq_true] at h
    obtain ⟨h1, h2⟩ := h
    have := ih h1
    have e : (10 : Int) ^ (k + 1) = 10 ^ k * 10 := Int.pow_succ ..
    simp only [micI]
    split at h2
    · rename_i hh
      rw [if_pos hh]
      have := of_decide_eq_true h2
      omega
    · rename_i hh
      rw [if_neg hh]
      omega
def plOk (s : List UInt8) : Bool :=
  decide (15 ≤ s.length ∧ s.length ≤ 22 ∧ byteAt s (s.length - 1) = 90) && ((decide (s.length = 15) || (decide (byteAt s 14 = 46 ∧ s.length ≠ 16 ∧ byteAt s (s.length - 2) ≠ 48) && micOk s 6)) && momOk (twoI s 0 * 100 + twoI s 2) ((s.drop 4).take 10))
def plM (s : List UInt8) : Int := if s.length = 15 then 0 else micI s 6
theorem pl_f1 {s : List UInt8} (h : ¬ (15 ≤ s.length ∧ s.length ≤ 22 ∧ byteAt s (s.length - 1) = 90)) : plOk s = false := by
  unfold plOk; rw [decide_eq_false h]; rfl
theorem pl_f2 {s : List UInt8} (h1 : s.length ≠ 15) (h : ¬ (byteAt s 14 = 46 ∧ s.length ≠ 16 ∧ byteAt s (s.length - 2) ≠ 48)) : plOk s = false := by
  unfold plOk; rw [decide_eq_false h1, decide_eq_false h]; simp
theorem micOk_le {s : List UInt8} (k : Nat) : ∀ j, micOk s (k + j) = true → micOk s k = true
  | 0, h => h
  | j + 1, h => micOk_le k j (by rw [← Nat.add_assoc, micOk, Bool.and_eq_true] at h; exact h.1)
theorem pl_f3 {s : List UInt8} (k : Nat) (h1 : s.length ≠ 15) (hk : k ≤ 6) (h : micOk s k = false) : plOk s = false := by
  have h6 : micOk s 6 = false := by
    cases hh : micOk s 6 with
    | false => rfl
    | true => have := micOk_le k (6 - k) (by rw [show k + (6 - k) = 6 by omega]; exact hh); rw [h] at this; cases this
  unfold plOk; rw [decide_eq_false h1, h6]; simp
theorem pl_t0 {s : List UInt8} (h : 15 ≤ s.length ∧ s.length ≤ 22 ∧ byteAt s (s.length - 1) = 90) (h1 : s.length = 15) : plOk s = momOk (twoI s 0 * 100 + twoI s 2) ((s.drop 4).take 10) := by
  unfold plOk; rw [decide_eq_true h, decide_eq_true h1]; rfl
theorem pl_t1 {s : List UInt8} (h : 15 ≤ s.length ∧ s.length ≤ 22 ∧ byteAt s (s.length - 1) = 90) (h1 : s.length ≠ 15) (h2 : byteAt s 14 = 46 ∧ s.length ≠ 16 ∧ byteAt s (s.length - 2) ≠ 48) (h3 : micOk s 6 = true) : plOk s = momOk (twoI s 0 * 100 + twoI s 2) ((s.drop 4).take 10) := by
  unfold plOk; rw [decide_eq_true h, decide_eq_false h1, decide_eq_true h2, h3]; rfl
theorem plong_fn (s : List UInt8) (h : Part) (h2 : s.length ≤ 140737488355328) : Pure Tryd.prog 92 [.string ⟨s.toArray⟩] h (.tuple #[.int .i64 (if plOk s then momT (twoI s 0 * 100 + twoI s 2) ((s.drop 4).take 10) else 0), .int .i64 (if plOk s then plM s else 0), .int .i64 (if plOk s then 0 else 21)]) := by
  have w0 := twoI_bd s 0
  have w2 := twoI_bd s 2
  have e1 : ((s.length : Int) - 1).toNat = s.length - 1 := by omega
  have e2 : ((s.length : Int) - 2).toNat = s.length - 2 := by omega
  have bd := fun k => byteAt_lt s k
  refine Fn.intro Tryd.func92 rfl Tryd.ntmps92 rfl (fun e he => ?_)
  refine J.weak [(0, _)] ⟨rfl, trivial⟩ ?_
  refine Sr ?_
  refine Ru 3 rfl ?_
  refine JL.nil ?_
  refine Sr ?_
  refine Ru 1 rfl ?_
  refine JL.op (RunV.lenS un_9 rfl) rfl ?_
  refine Ru 1 rfl ?_
  refine JL.nil ?_
  refine J.seq ?_
  refine Sr ?_
  refine Ru 3 rfl ?_
  refine Bs 15 rfl (fun hc1 => ?_) fun hc1 => ?_
  ·
   refine Ru 10 rfl ?_
   refine Nk [25, 5, 4, 3, 2, 0] rfl ?_
   refine J.cond_t rfl ?_
   refine Sr ?_
   refine Ru 3 rfl ?_
   refine JL.nil ?_
   exact J.retP (RetV.three rfl rfl rfl rfl) (by (try rw [e1] at *); (try rw [e2] at *); (first | rw [pl_f1 (by omega)] | rw [pl_f2 (by omega) (by omega)] | rw [pl_f3 (i + 1) (by omega) (by omega) (by simp only [micOk, hm, Bool.true_and]; rw [if_pos (by omega)]; exact decide_eq_false (by omega))] | (have h6 : i = 6 := (by omega); subst h6; have hpm : plM s = micI s 6 := if_neg (by omega); rw [pl_t1 (by omega) (by omega) (by omega) hm, hpm]; simp [momV, hcz]) | (have hpm : plM s = 0 := if_pos (by omega); rw [pl_t0 (by omega) (by omega), hpm]; simp [momV, hcz])); all_goals rfl) rfl
  ·
   refine Ru 4 rfl ?_
   refine Bs 19 rfl (fun hc2 => ?_) fun hc2 => ?_
   ·
    refine Ru 6 rfl ?_
    refine Nk [25, 5, 4, 3, 2, 0] rfl ?_
    refine J.cond_t rfl ?_
    refine Sr ?_
    refine Ru 3 rfl ?_
    refine JL.nil ?_
    exact J.retP (RetV.three rfl rfl rfl rfl) (by (try rw [e1] at *); (try rw [e2] at *); (first | rw [pl_f1 (by omega)] | rw [pl_f2 (by omega) (by omega)] | rw [pl_f3 (i + 1) (by omega) (by omega) (by simp only [micOk, hm, Bool.true_and]; rw [if_pos (by omega)]; exact decide_eq_false (by omega))] | (have h6 : i = 6 := (by omega); subst h6; have hpm : plM s = micI s 6 := if_neg (by omega); rw [pl_t1 (by omega) (by omega) (by omega) hm, hpm]; simp [momV, hcz]) | (have hpm : plM s = 0 := if_pos (by omega); rw [pl_t0 (by omega) (by omega), hpm]; simp [momV, hcz])); all_goals rfl) rfl
   ·
    refine Ru 2 rfl ?_
    refine JL.opg rfl rfl  (by first | exact RunV.sub_i64 rfl rfl (by omega) (by omega) | exact RunV.sub rfl rfl) rfl ?_
    refine JL.opg rfl rfl  (RunV.strIndex un_9 rfl rfl (by first | with_reducible rfl | exact (Int.toNat_of_nonneg (by omega)).symm) (by omega)) rfl ?_
    refine Ru 2 rfl ?_
    refine Nk [25, 5, 4, 3, 2, 0] rfl ?_
    refine Cs rfl (fun hc3 => ?_) fun hc3 => ?_
    ·
     refine Sr ?_
     refine Ru 3 rfl ?_
     refine Nk [4, 3, 2, 5, 0] rfl ?_
     exact J.retP (RetV.three rfl rfl rfl rfl) (by (try rw [e1] at *); (try rw [e2] at *); (first | rw [pl_f1 (by omega)] | rw [pl_f2 (by omega) (by omega)] | rw [pl_f3 (i + 1) (by omega) (by omega) (by simp only [micOk, hm, Bool.true_and]; rw [if_pos (by omega)]; exact decide_eq_false (by omega))] | (have h6 : i = 6 := (by omega); subst h6; have hpm : plM s = micI s 6 := if_neg (by omega); rw [pl_t1 (by omega) (by omega) (by omega) hm, hpm]; simp [momV, hcz]) | (have hpm : plM s = 0 := if_pos (by omega); rw [pl_t0 (by omega) (by omega), hpm]; simp [momV, hcz])); all_goals rfl) rfl
    ·
     refine J.skip ?_
     refine Sr ?_
     refine Ru 1 rfl ?_
     refine JL.nil ?_
     refine J.seq ?_
     refine Sr ?_
     refine Ru 2 rfl ?_
     refine JL.nil ?_
     refine Cs rfl (fun hc4 => ?_) fun hc4 => ?_
     ·
      refine J.seq ?_
      refine Sr ?_
      refine Ru 1 rfl ?_
      refine JL.op (RunV.strIndex un_9 rfl rfl (show _ = ((14 : Nat) : Int) from rfl) (by omega)) rfl ?_
      refine Ru 2 rfl ?_
      refine Bs 31 rfl (fun hc5 => ?_) fun hc5 => ?_
      ·
       refine Ru 10 rfl ?_
       refine Nk [41, 6, 5, 4, 3, 2, 0] rfl ?_
       refine J.cond_t rfl ?_
       refine Sr ?_
       refine Ru 3 rfl ?_
       refine JL.nil ?_
       exact J.retP (RetV.three rfl rfl rfl rfl) (by (try rw [e1] at *); (try rw [e2] at *); (first | rw [pl_f1 (by omega)] | rw [pl_f2 (by omega) (by omega)] | rw [pl_f3 (i + 1) (by omega) (by omega) (by simp only [micOk, hm, Bool.true_and]; rw [if_pos (by omega)]; exact decide_eq_false (by omega))] | (have h6 : i = 6 := (by omega); subst h6; have hpm : plM s = micI s 6 := if_neg (by omega); rw [pl_t1 (by omega) (by omega) (by omega) hm, hpm]; simp [momV, hcz]) | (have hpm : plM s = 0 := if_pos (by omega); rw [pl_t0 (by omega) (by omega), hpm]; simp [momV, hcz])); all_goals rfl) rfl
      ·
       refine Ru 4 rfl ?_
       refine Bs 35 rfl (fun hc6 => ?_) fun hc6 => ?_
       ·
        refine Ru 6 rfl ?_
        refine Nk [41, 6, 5, 4, 3, 2, 0] rfl ?_
        refine J.cond_t rfl ?_
        refine Sr ?_
        refine Ru 3 rfl ?_
        refine JL.nil ?_
        exact J.retP (RetV.three rfl rfl rfl rfl) (by (try rw [e1] at *); (try rw [e2] at *); (first | rw [pl_f1 (by omega)] | rw [pl_f2 (by omega) (by omega)] | rw [pl_f3 (i + 1) (by omega) (by omega) (by simp only [micOk, hm, Bool.true_and]; rw [if_pos (by omega)]; exact decide_eq_false (by omega))] | (have h6 : i = 6 := (by omega); subst h6; have hpm : plM s = micI s 6 := if_neg (by omega); rw [pl_t1 (by omega) (by omega) (by omega) hm, hpm]; simp [momV, hcz]) | (have hpm : plM s = 0 := if_pos (by omega); rw [pl_t0 (by omega) (by omega), hpm]; simp [momV, hcz])); all_goals rfl) rfl
       ·
        refine Ru 2 rfl ?_
        refine JL.opg rfl rfl  (by first | exact RunV.sub_i64 rfl rfl (by omega) (by omega) | exact RunV.sub rfl rfl) rfl ?_
        refine JL.opg rfl rfl  (RunV.strIndex un_9 rfl rfl (by first | with_reducible rfl | exact (Int.toNat_of_nonneg (by omega)).symm) (by omega)) rfl ?_
        refine Ru 2 rfl ?_
        refine Nk [41, 6, 5, 4, 3, 2, 0] rfl ?_
        refine Cs rfl (fun hc7 => ?_) fun hc7 => ?_
        ·
         refine Sr ?_
         refine Ru 3 rfl ?_
         refine Nk [4, 3, 2, 6, 5, 0] rfl ?_
         exact J.retP (RetV.three rfl rfl rfl rfl) (by (try rw [e1] at *); (try rw [e2] at *); (first | rw [pl_f1 (by omega)] | rw [pl_f2 (by omega) (by omega)] | rw [pl_f3 (i + 1) (by omega) (by omega) (by simp only [micOk, hm, Bool.true_and]; rw [if_pos (by omega)]; exact decide_eq_false (by omega))] | (have h6 : i = 6 := (by omega); subst h6; have hpm : plM s = micI s 6 := if_neg (by omega); rw [pl_t1 (by omega) (by omega) (by omega) hm, hpm]; simp [momV, hcz]) | (have hpm : plM s = 0 := if_pos (by omega); rw [pl_t0 (by omega) (by omega), hpm]; simp [momV, hcz])); all_goals rfl) rfl
        ·
         refine J.skip ?_
         refine Sr ?_
         refine Ru 1 rfl ?_
         refine JL.nil ?_
         refine J.block ?_
         refine J.loop (fun t_ S_ h_ L_ => ∃ (i : Nat), t_ = 6 - i ∧ S_ = [(0, .string ⟨s.toArray⟩), (5, .int .i64 s.length), (6, .int .i64 (micI s i)), (42, .int .i64 i)] ∧ h = h_ ∧ L_ = [] ∧ (i ≤ 6 ∧ micOk s i = true)) ⟨_, _, ?_, ⟨0, rfl, rfl, rfl, rfl, ⟨by omega, rfl⟩⟩⟩ ?_
         ·
          repeat (first | exact trivial | refine ⟨rfl, ?_⟩ | refine ⟨(by exact some_i64 (by simp [micI] <;> omega)), ?_⟩)
         rintro _ _ _ _ ⟨i, rfl, rfl, rfl, rfl, hi, hm⟩
         have hb := micI_bd s i hm; have e3 : ((15 : Int) + i).toNat = 15 + i := (by omega); have hp : (10 : Int) ^ i ≤ 1000000 := (by have : i = 0 ∨ i = 1 ∨ i = 2 ∨ i = 3 ∨ i = 4 ∨ i = 5 ∨ i = 6 := (by omega); rcases this with rfl | rfl | rfl | rfl | rfl | rfl | rfl <;> decide); have hbd := bd (15 + i)
         refine Sr ?_
         refine Ru 1 rfl ?_
         refine JL.nil ?_
         refine J.seq ?_
         refine Cs rfl (fun hc8 => ?_) fun hc8 => ?_
         ·
          refine J.skip ?_
          refine J.seq ?_
          refine J.block ?_
          refine Sr ?_
          refine Ru 2 rfl ?_
          refine JL.nil ?_
          refine Sr ?_
          refine Ru 1 rfl ?_
          refine JL.op (by first | exact RunV.mul_i64 rfl rfl (by omega) (by omega) | exact RunV.mul rfl rfl) rfl ?_
          refine Ru 1 rfl ?_
          refine JL.nil ?_
          refine Sr ?_
          refine Ru 1 rfl ?_
          refine JL.op (by first | exact RunV.add_i64 rfl rfl (by omega) (by omega) | exact RunV.add rfl rfl) rfl ?_
          refine Ru 1 rfl ?_
          refine JL.op (by first | exact RunV.sub_i64 rfl rfl (by omega) (by omega) | exact RunV.sub rfl rfl) rfl ?_
          refine Ru 1 rfl ?_
          refine JL.nil ?_
          refine Cs rfl (fun hc9 => ?_) fun hc9 => ?_
          ·
           refine Sr ?_
           refine Ru 2 rfl ?_
           refine JL.op (by first | exact RunV.add_i64 rfl rfl (by omega) (by omega) | exact RunV.add rfl rfl) rfl ?_
           refine JL.op (RunV.strIndex un_9 rfl rfl (by first | with_reducible rfl | exact (Int.toNat_of_nonneg (by omega)).symm) (by omega)) rfl ?_
           rw [e3]
           refine Ru 1 rfl ?_
           refine JL.nil ?_
           refine J.seq ?_
           refine Sr ?_
           refine Ru 3 rfl ?_
           refine Bs 58 rfl (fun hc10 => ?_) fun hc10 => ?_
           ·
            refine Ru 3 rfl ?_
            refine JL.nil ?_
            refine J.cond_t rfl ?_
            refine Sr ?_
            refine Ru 3 rfl ?_
            refine JL.nil ?_
            exact J.retP (RetV.three rfl rfl rfl rfl) (by (try rw [e1] at *); (try rw [e2] at *); (first | rw [pl_f1 (by omega)] | rw [pl_f2 (by omega) (by omega)] | rw [pl_f3 (i + 1) (by omega) (by omega) (by simp only [micOk, hm, Bool.true_and]; rw [if_pos (by omega)]; exact decide_eq_false (by omega))] | (have h6 : i = 6 := (by omega); subst h6; have hpm : plM s = micI s 6 := if_neg (by omega); rw [pl_t1 (by omega) (by omega) (by omega) hm, hpm]; simp [momV, hcz]) | (have hpm : plM s = 0 := if_pos (by omega); rw [pl_t0 (by omega) (by omega), hpm]; simp [momV, hcz])); all_goals rfl) rfl
           ·
            refine Ru 3 rfl ?_
            refine JL.nil ?_
            refine Cs rfl (fun hc11 => ?_) fun hc11 => ?_
            ·
             refine Sr ?_
             refine Ru 3 rfl ?_
             refine Nk [4, 3, 2, 61, 60, 59, 58, 57, 56, 8, 55, 54, 53, 52, 51, 50, 49, 48, 47, 6, 46, 45, 7, 44, 43, 0, 5, 42] rfl ?_
             exact J.retP (RetV.three rfl rfl rfl rfl) (by (try rw [e1] at *); (try rw [e2] at *); (first | rw [pl_f1 (by omega)] | rw [pl_f2 (by omega) (by omega)] | rw [pl_f3 (i + 1) (by omega) (by omega) (by simp only [micOk, hm, Bool.true_and]; rw [if_pos (by omega)]; exact decide_eq_false (by omega))] | (have h6 : i = 6 := (by omega); subst h6; have hpm : plM s = micI s 6 := if_neg (by omega); rw [pl_t1 (by omega) (by omega) (by omega) hm, hpm]; simp [momV, hcz]) | (have hpm : plM s = 0 := if_pos (by omega); rw [pl_t0 (by omega) (by omega), hpm]; simp [momV, hcz])); all_goals rfl) rfl
            ·
             refine J.skip ?_
             refine Kp [61, 60, 59, 58, 57, 56, 8, 55, 54, 53, 52, 51, 50, 49, 48, 47, 6, 46, 45, 7, 44, 43, 0, 5, 42] rfl ?_
             refine Rg ?_
             refine Ru 2 rfl ?_
             refine JL.op (by first | exact RunV.sub_u8 rfl rfl (by omega) (by omega) | exact RunV.sub rfl rfl) rfl ?_
             refine JL.op (by first | exact RunV.convb_i64 cv_5_3 rfl | exact RunV.conv_i64 cv_5_3 rfl (by omega) (by omega) | exact RunV.conv cv_5_3 rfl) rfl ?_
             refine JL.op (by first | exact RunV.add_i64 rfl rfl (by omega) (by omega) | exact RunV.add rfl rfl) rfl ?_
             refine Ru 1 rfl ?_
             refine JL.nil ?_
             refine Rg ?_
             refine JL.op (by first | exact RunV.add_i64 rfl rfl (by omega) (by omega) | exact RunV.add rfl rfl) rfl ?_
             refine Ru 1 rfl ?_
             refine JL.nil ?_
             refine ⟨_, ?_, _, ?_, ⟨i + 1, rfl, rfl, rfl, rfl, ⟨by omega, by simp only [micOk, hm, Bool.true_and]; first | (rw [if_pos (by omega)]; exact decide_eq_true (by omega)) | rw [if_neg (by omega)]⟩⟩⟩
             ·
              omega
             ·
              repeat (first | exact trivial | refine ⟨rfl, ?_⟩ | refine ⟨(by exact some_i64 (by simp [micI] <;> omega)), ?_⟩)
          ·
           refine J.skip ?_
           refine Rg ?_
           refine JL.op (by first | exact RunV.add_i64 rfl rfl (by omega) (by omega) | exact RunV.add rfl rfl) rfl ?_
           refine Ru 1 rfl ?_
           refine JL.nil ?_
           refine ⟨_, ?_, _, ?_, ⟨i + 1, rfl, rfl, rfl, rfl, ⟨by omega, by simp only [micOk, hm, Bool.true_and]; first | (rw [if_pos (by omega)]; exact decide_eq_true (by omega)) | rw [if_neg (by omega)]⟩⟩⟩
           ·
            omega
           ·
            repeat (first | exact trivial | refine ⟨rfl, ?_⟩ | refine ⟨(by exact some_i64 (by simp [micI] <;> omega)), ?_⟩)
         ·
          refine J.exit ?_
          refine J.seq ?_
          refine J.drawn mixed_ (by kernel_rfl) ?_
          refine Rq 1 rfl ?_
          refine JQ.callP ca_119 rfl (two_n s 0 _ (by omega) (by omega)) rfl ?_
          refine JQ.op (by first | exact RunV.mul_i64 rfl rfl (by omega) (by omega) | exact RunV.mul rfl rfl) rfl ?_
          refine Rq 1 rfl ?_
          refine JQ.callP ca_119 rfl (two_n s 2 _ (by omega) (by omega)) rfl ?_
          refine JQ.op (by first | exact RunV.add_i64 rfl rfl (by omega) (by omega) | exact RunV.add rfl rfl) rfl ?_
          refine Rq 1 rfl ?_
          refine JQ.op (RunV.strCut_lh un_9 rfl rfl rfl (show _ = ((4 : Nat) : Int) from rfl) (show _ = ((14 : Nat) : Int) from rfl) (by omega) (by omega)) rfl ?_
          refine JQ.callP ca_120 rfl (moment_fn _ ((s.drop 4).take 10) _ (by omega) (by simp; omega)) rfl ?_
          refine Rq 5 rfl ?_
          refine Nq [10, 9, 6] rfl ?_
          refine J.seq ?_
          refine Sr ?_
          refine Ru 2 rfl ?_
          refine JL.nil ?_
          refine Cs rfl (fun hc15 => ?_) fun hc15 => ?_
          ·
           have hcz := hc15
           refine Sr ?_
           refine Ru 3 rfl ?_
           refine JL.nil ?_
           exact J.retP (RetV.three rfl rfl rfl rfl) (by (try rw [e1] at *); (try rw [e2] at *); (first | rw [pl_f1 (by omega)] | rw [pl_f2 (by omega) (by omega)] | rw [pl_f3 (i + 1) (by omega) (by omega) (by simp only [micOk, hm, Bool.true_and]; rw [if_pos (by omega)]; exact decide_eq_false (by omega))] | (have h6 : i = 6 := (by omega); subst h6; have hpm : plM s = micI s 6 := if_neg (by omega); rw [pl_t1 (by omega) (by omega) (by omega) hm, hpm]; simp [momV, hcz]) | (have hpm : plM s = 0 := if_pos (by omega); rw [pl_t0 (by omega) (by omega), hpm]; simp [momV, hcz])); all_goals rfl) rfl
          ·
           have hcz := hc15
           refine J.skip ?_
           refine Sr ?_
           refine Ru 5 rfl ?_
           refine Nk [4, 3, 2] rfl ?_
           exact J.retP (RetV.three rfl rfl rfl rfl) (by (try rw [e1] at *); (try rw [e2] at *); (first | rw [pl_f1 (by omega)] | rw [pl_f2 (by omega) (by omega)] | rw [pl_f3 (i + 1) (by omega) (by omega) (by simp only [micOk, hm, Bool.true_and]; rw [if_pos (by omega)]; exact decide_eq_false (by omega))] | (have h6 : i = 6 := (by omega); subst h6; have hpm : plM s = micI s 6 := if_neg (by omega); rw [pl_t1 (by omega) (by omega) (by omega) hm, hpm]; simp [momV, hcz]) | (have hpm : plM s = 0 := if_pos (by omega); rw [pl_t0 (by omega) (by omega), hpm]; simp [momV, hcz])); all_goals rfl) rfl
     ·
      refine J.skip ?_
      refine Kp [6, 4, 3, 2, 0] rfl ?_
      refine J.seq ?_
      refine J.drawn mixed_ (by kernel_rfl) ?_
      refine Rq 1 rfl ?_
      refine JQ.callP ca_119 rfl (two_n s 0 _ (by omega) (by omega)) rfl ?_
      refine JQ.op (by first | exact RunV.mul_i64 rfl rfl (by omega) (by omega) | exact RunV.mul rfl rfl) rfl ?_
      refine Rq 1 rfl ?_
      refine JQ.callP ca_119 rfl (two_n s 2 _ (by omega) (by omega)) rfl ?_
      refine JQ.op (by first | exact RunV.add_i64 rfl rfl (by omega) (by omega) | exact RunV.add rfl rfl) rfl ?_
      refine Rq 1 rfl ?_
      refine JQ.op (RunV.strCut_lh un_9 rfl rfl rfl (show _ = ((4 : Nat) : Int) from rfl) (show _ = ((14 : Nat) : Int) from rfl) (by omega) (by omega)) rfl ?_
      refine JQ.callP ca_120 rfl (moment_fn _ ((s.drop 4).take 10) _ (by omega) (by simp; omega)) rfl ?_
      refine Rq 5 rfl ?_
      refine Nq [10, 9, 6, 4, 3, 2] rfl ?_
      refine J.seq ?_
      refine Sr ?_
      refine Ru 2 rfl ?_
      refine JL.nil ?_
      refine Cs rfl (fun hc19 => ?_) fun hc19 => ?_
      ·
       have hcz := hc19
       refine Sr ?_
       refine Ru 3 rfl ?_
       refine Nk [4, 3, 2, 9, 6] rfl ?_
       exact J.retP (RetV.three rfl rfl rfl rfl) (by (try rw [e1] at *); (try rw [e2] at *); (first | rw [pl_f1 (by omega)] | rw [pl_f2 (by omega) (by omega)] | rw [pl_f3 (i + 1) (by omega) (by omega) (by simp only [micOk, hm, Bool.true_and]; rw [if_pos (by omega)]; exact decide_eq_false (by omega))] | (have h6 : i = 6 := (by omega); subst h6; have hpm : plM s = micI s 6 := if_neg (by omega); rw [pl_t1 (by omega) (by omega) (by omega) hm, hpm]; simp [momV, hcz]) | (have hpm : plM s = 0 := if_pos (by omega); rw [pl_t0 (by omega) (by omega), hpm]; simp [momV, hcz])); all_goals rfl) rfl
      ·
       have hcz := hc19
       refine J.skip ?_
       refine Sr ?_
       refine Ru 5 rfl ?_
       refine Nk [4, 3, 2] rfl ?_
       exact J.retP (RetV.three rfl rfl rfl rfl) (by (try rw [e1] at *); (try rw [e2] at *); (first | rw [pl_f1 (by omega)] | rw [pl_f2 (by omega) (by omega)] | rw [pl_f3 (i + 1) (by omega) (by omega) (by simp only [micOk, hm, Bool.true_and]; rw [if_pos (by omega)]; exact decide_eq_false (by omega))] | (have h6 : i = 6 := (by omega); subst h6; have hpm : plM s = micI s 6 := if_neg (by omega); rw [pl_t1 (by omega) (by omega) (by omega) hm, hpm]; simp [momV, hcz]) | (have hpm : plM s = 0 := if_pos (by omega); rw [pl_t0 (by omega) (by omega), hpm]; simp [momV, hcz])); all_goals rfl) rfl




end Go.Proofs.YtmngjbefnloljaaDoor
