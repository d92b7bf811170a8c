/- Walks: the program's texts: the calendar, characters; Walks: the program's texts: characters, object identifiers; Walks: the program's texts: digits, object identifiers; Walks: the program's rules of nodes: tags, values, heads; The arguments of this seat's laws: nodes, bytes, numbers; the library's tables; make; append of what was made; rows of the call's own, cell by cell; a callee that only reads what is owned; 'copy' into a row of the call's own; Elements of several cells in rows of the call's own: loaded and stored whole; Plain: rows that are put in order by swapping; Walks: the program writes nodes; Walks: the program writes and makes nodes; Regions that draw their order, and whose operations make or write memory; Walks: the program reads nodes; Walks: the program reads a node; Plain laws of nodes and bytes: what is written is read again; what is read is written again; what is cut off is too short. No program in sight; Guarded operations in regions that draw their order. -/
import Derived.Test.YtldbjnhfkjicjaaDoorShelf
import Derived.Lib.LaidU8
import Derived.Laws.MakeOwn
import Derived.Laws.CopyRow
import Derived.Lib.MakeNoZero
import Derived.OrdersHeld
import Derived.Test.YtldbjnhfkjicjaaDoorP0
set_option linter.unusedSimpArgs false
set_option linter.unusedVariables false
set_option linter.constructorNameAsVariable false
namespace Go.Proofs.YtldbjnhfkjicjaaDoor
open Go Go.RowKit
theorem z2_ {p : Prop} (u : p := by (try rw [e1] at *); (try rw [e2] at *); (first | rw [pl_f1 (by omega)] | rw [pl_f2 (by omega) (by omega)] | rw [pl_f3 (i + 1) (by omega) (by omega) (by simp only [micOk, hm, Bool.true_and]; rw [if_pos (by omega)]; exact decide_eq_false (by omega))] | (have h6 : i = 6 := (by omega); subst h6; have hpm : plM s = micI s 6 := if_neg (by omega); rw [pl_t1 (by omega) (by omega) (by omega) hm, hpm]; simp [momV, hcz]) | (have hpm : plM s = 0 := if_pos (by omega); rw [pl_t0 (by omega) (by omega), hpm]; simp [momV, hcz])); all_goals rfl) : p := u
theorem z10_ {p : Prop} (u : p := by first | (have hm : momOk y s = false := decide_eq_false (by omega); rw [momV, hm]; rfl) | (have hk2 : (twoI s 0).toNat - 1 = k := by omega); have hm : momOk y s = true := decide_eq_true (by omega); rw [momV, hm, momT, hk2]; rfl) : p := u
theorem z11_ {p : Prop} (u : p := by first | exact RunV.convb_i64 cv_5_3 rfl | exact RunV.conv_i64 cv_5_3 rfl (by omega) (by omega) | exact RunV.conv cv_5_3 rfl) : p := u
theorem z16_ {p : Prop} (u : p := by first | exact RunV.mul_i64 rfl rfl (by omega) (by omega) | exact RunV.mul rfl rfl) : p := u
theorem z21_ {p : Prop} (u : p := by rw [← hy] at *; first | (have hm : psOk s = false := (by unfold psOk; simp_all); rw [psT, hm]; rfl) | (have hm : psOk s = true := (by unfold psOk; rw [decide_eq_true (by omega)]; simp_all); rw [psT, hm]; simp_all [momV])) : p := u
theorem z24_ {p : Prop} (u : p := by first | exact RunV.rem_i64 rfl rfl (by omega) (by omega) | exact RunV.rem rfl rfl (by omega)) : p := u
theorem z29_ {p : Prop} (u : p := by first | exact RunV.quo_i64 rfl rfl (by omega) (by omega) (by omega) | exact RunV.quo rfl rfl (by omega)) : p := u
end Go.Proofs.YtldbjnhfkjicjaaDoor
namespace Go.Proofs.YtldbjnhfkjicjaaDoor
open Go Go.RowKit
theorem ca_56 : callT Tryd.prog 56 = true := by kernel_rfl
theorem ca_57 : callT Tryd.prog 57 = true := by kernel_rfl
theorem ca_66 : callT Tryd.prog 66 = true := by kernel_rfl
theorem ca_67 : callT Tryd.prog 67 = true := by kernel_rfl
theorem ca_72 : callT Tryd.prog 72 = true := by kernel_rfl
theorem cv_5_3 : convI Tryd.prog 5 3 = some .i64 := by kernel_rfl
theorem un_9 : Tryd.prog.underlying 9 = some .string := by kernel_rfl
def leapB (y : Int) : Bool := decide (y % 4 = 0) && (decide (y % 100 ≠ 0) || decide (y % 400 = 0))
theorem leap_fn (y : Int) (h : Part) (h0 : 0 ≤ y) : Pure Tryd.prog 72 [.int .i64 y] h (.bool (leapB y)) := by
  refine Fn.intro Tryd.func72 rfl Tryd.ntmps72 rfl (fun e he => ?_)
  refine J.weak [(0, _)] ⟨rfl, trivial⟩ ?_
  refine Sr ?_
  refine Ru 1 rfl ?_
  refine JL.nil ?_
  refine Sr ?_
  refine Ru 1 rfl ?_
  refine JL.op z24_ rfl ?_
  refine Ru 2 rfl ?_
  refine Bs 6 rfl (fun hc1 => ?_) fun hc1 => ?_
  ·
   refine Ru 1 rfl ?_
   refine JL.opg rfl rfl  z24_ rfl ?_
   refine Ru 2 rfl ?_
   refine Bs 10 rfl (fun hc2 => ?_) fun hc2 => ?_
   ·
    refine Ru 6 rfl ?_
    refine Nk [2] rfl ?_
    exact J.retP (RetV.one rfl rfl) (by simp [leapB, *]) rfl
   refine Ru 1 rfl ?_
   refine JL.opg rfl rfl  z24_ rfl ?_
   refine Ru 4 rfl ?_
   refine Nk [2] rfl ?_
   exact J.retP (RetV.one rfl rfl) (by simp [leapB, *]) rfl
  refine Ru 10 rfl ?_
  refine Nk [2] rfl ?_
  exact J.retP (RetV.one rfl rfl) (by simp [leapB, *]) rfl
def monthI (y m : Int) : Int := if m = 2 then (if leapB y then 29 else 28) else if m = 4 ∨ m = 6 ∨ m = 9 ∨ m = 11 then 30 else 31
theorem month_fn (y m : Int) (h : Part) (h0 : 0 ≤ y) : Pure Tryd.prog 66 [.int .i64 y, .int .i64 m] h (.int .i64 (monthI y m)) := by
  refine Fn.intro Tryd.func66 rfl Tryd.ntmps66 rfl (fun e he => ?_)
  refine J.weak [(0, _), (1, _)] ⟨rfl, rfl, trivial⟩ ?_
  refine Sr ?_
  refine Ru 1 rfl ?_
  refine JL.nil ?_
  refine J.seq ?_
  refine Sr ?_
  refine Ru 1 rfl ?_
  refine JL.nil ?_
  refine J.block ?_
  refine Sr ?_
  refine Ru 2 rfl ?_
  refine JL.nil ?_
  refine Cs rfl (fun hc1 => ?_) fun hc1 => ?_
  ·
   refine J.seq ?_
   refine Sr ?_
   refine Ru 1 rfl ?_
   refine JL.callP ca_72 rfl (leap_fn _ _ (by omega)) rfl ?_
   refine Nk [9, 4] rfl ?_
   refine Cs rfl (fun hc3 => ?_) fun hc3 => ?_
   ·
    refine Sr ?_
    refine Ru 1 rfl ?_
    refine JL.nil ?_
    exact J.retP (RetV.one rfl rfl) (by simp [monthI, *]) rfl
   refine J.skip ?_
   refine Sr ?_
   refine Ru 1 rfl ?_
   refine JL.nil ?_
   exact J.retP (RetV.one rfl rfl) (by simp [monthI, *]) rfl
  refine J.seq ?_
  refine Sr ?_
  refine Ru 2 rfl ?_
  refine Nk [10, 5, 4] rfl ?_
  refine Cs rfl (fun hc4 => ?_) fun hc4 => ?_
  ·
   refine J.skip ?_
   refine J.cond_t rfl ?_
   refine Sr ?_
   refine Ru 1 rfl ?_
   refine JL.nil ?_
   exact J.retP (RetV.one rfl rfl) (by simp [monthI, *]) rfl
  refine Sr ?_
  refine Ru 2 rfl ?_
  refine JL.nil ?_
  refine Cs rfl (fun hc5 => ?_) fun hc5 => ?_
  ·
   refine J.skip ?_
   refine Kp [10, 4] rfl ?_
   refine J.cond_t rfl ?_
   refine Sr ?_
   refine Ru 1 rfl ?_
   refine JL.nil ?_
   exact J.retP (RetV.one rfl rfl) (by simp [monthI, *]) rfl
  refine Sr ?_
  refine Ru 2 rfl ?_
  refine Nk [10, 5, 4] rfl ?_
  refine Cs rfl (fun hc6 => ?_) fun hc6 => ?_
  ·
   refine J.skip ?_
   refine J.cond_t rfl ?_
   refine Sr ?_
   refine Ru 1 rfl ?_
   refine JL.nil ?_
   exact J.retP (RetV.one rfl rfl) (by simp [monthI, *]) rfl
  refine Rg ?_
  refine Ru 2 rfl ?_
  refine JL.nil ?_
  refine Cs rfl (fun hc7 => ?_) fun hc7 => ?_
  ·
   refine Sr ?_
   refine Ru 1 rfl ?_
   refine Nk [4] rfl ?_
   exact J.retP (RetV.one rfl rfl) (by simp [monthI, *]) rfl
  refine J.skip ?_
  refine Kp [4] rfl ?_
  refine Sr ?_
  refine Ru 1 rfl ?_
  refine JL.nil ?_
  exact J.retP (RetV.one rfl rfl) (by simp [monthI, *]) rfl
theorem monthI_bd (y m : Int) : 28 ≤ monthI y m ∧ monthI y m ≤ 31 := by unfold monthI; repeat' split <;> omega
def beforeI (y : Int) : Int := if y = 0 then 0 else 365 * y + (y - 1) / 4 - (y - 1) / 100 + (y - 1) / 400 + 1
theorem before_fn (y : Int) (h : Part) (h0 : 0 ≤ y) (h1 : y ≤ 1000000) : Pure Tryd.prog 67 [.int .i64 y] h (.int .i64 (beforeI y)) := by
  refine Fn.intro Tryd.func67 rfl Tryd.ntmps67 rfl (fun e he => ?_)
  refine J.weak [(0, _)] ⟨rfl, trivial⟩ ?_
  refine Sr ?_
  refine Ru 1 rfl ?_
  refine JL.nil ?_
  refine J.seq ?_
  refine Sr ?_
  refine Ru 2 rfl ?_
  refine JL.nil ?_
  refine Cs rfl (fun hc1 => ?_) fun hc1 => ?_
  ·
   refine Sr ?_
   refine Ru 1 rfl ?_
   refine JL.nil ?_
   exact J.retP (RetV.one rfl rfl) (by simp [beforeI, *]) rfl
  refine J.skip ?_
  refine Sr ?_
  refine Ru 1 rfl ?_
  refine JL.op si_ rfl ?_
  refine Ru 1 rfl ?_
  refine Nk [3, 2] rfl ?_
  refine Sr ?_
  refine Ru 1 rfl ?_
  refine JL.op ai_ rfl ?_
  refine JL.op z16_ rfl ?_
  refine Ru 1 rfl ?_
  refine JL.op z29_ rfl ?_
  refine JL.op ai_ rfl ?_
  refine Ru 1 rfl ?_
  refine JL.op z29_ rfl ?_
  refine JL.op si_ rfl ?_
  refine Ru 1 rfl ?_
  refine JL.op z29_ rfl ?_
  refine JL.op ai_ rfl ?_
  refine JL.op ai_ rfl ?_
  refine Ru 1 rfl ?_
  refine Nk [2] rfl ?_
  exact J.retP (RetV.one rfl rfl) (by simp [beforeI, *]) rfl
theorem beforeI_bd (y : Int) (h0 : 0 ≤ y) (h1 : y ≤ 1000000) : 0 ≤ beforeI y ∧ beforeI y ≤ 366000001 := by unfold beforeI; split <;> omega
def twoI (s : List UInt8) (i : Nat) : Int :=
  if byteAt s i < 48 ∨ 57 < byteAt s i ∨ byteAt s (i + 1) < 48 ∨ 57 < byteAt s (i + 1) then -1048576 else (byteAt s i - 48 : Int) * 10 + (byteAt s (i + 1) - 48 : Int)
theorem two_fn (s : List UInt8) (i : Int) (h : Part) (h0 : 0 ≤ i) (h1 : i + 1 < s.length) (h2 : s.length ≤ 140737488355328) : Pure Tryd.prog 56 [.string ⟨s.toArray⟩, .int .i64 i] h (.int .i64 (twoI s i.toNat)) := by
  have e3 : (i + 1).toNat = i.toNat + 1 := by omega
  have b1 := byteAt_lt s i.toNat; have b2 := byteAt_lt s (i.toNat + 1)
  refine Fn.intro Tryd.func56 rfl Tryd.ntmps56 rfl (fun e he => ?_)
  refine J.weak [(0, _), (1, _)] ⟨rfl, rfl, trivial⟩ ?_
  refine Sr ?_
  refine Ru 1 rfl ?_
  refine JL.nil ?_
  refine J.seq ?_
  refine Sr ?_
  refine Ru 2 rfl ?_
  refine JL.op (RunV.strIndex un_9 rfl rfl z6_ (by omega)) rfl ?_
  refine Ru 2 rfl ?_
  refine Bs 9 rfl (fun hc1 => ?_) fun hc1 => ?_
  ·
   refine Ru 19 rfl ?_
   refine Nk [28, 4, 0, 1] rfl ?_
   refine J.cond_t rfl ?_
   refine Sr ?_
   refine Ru 1 rfl ?_
   refine JL.nil ?_
   exact J.retP (RetV.one rfl rfl) (by congr 1; rw [e3] at *; unfold twoI; first | rw [if_pos (by omega)] | rw [if_neg (by omega)]) rfl
  refine Ru 2 rfl ?_
  refine JL.opg rfl rfl  (RunV.strIndex un_9 rfl rfl z6_ (by omega)) rfl ?_
  refine Ru 3 rfl ?_
  refine Bs 15 rfl (fun hc2 => ?_) fun hc2 => ?_
  ·
   refine Ru 13 rfl ?_
   refine Nk [28, 4, 0, 1] rfl ?_
   refine J.cond_t rfl ?_
   refine Sr ?_
   refine Ru 1 rfl ?_
   refine JL.nil ?_
   exact J.retP (RetV.one rfl rfl) (by congr 1; rw [e3] at *; unfold twoI; first | rw [if_pos (by omega)] | rw [if_neg (by omega)]) rfl
  refine Ru 2 rfl ?_
  refine JL.opg rfl rfl  ai_ rfl ?_
  refine JL.opg rfl rfl  (RunV.strIndex un_9 rfl rfl z6_ (by omega)) rfl ?_
  refine Ru 3 rfl ?_
  refine Bs 22 rfl (fun hc3 => ?_) fun hc3 => ?_
  ·
   refine Ru 6 rfl ?_
   refine Nk [28, 4, 0, 1] rfl ?_
   refine J.cond_t rfl ?_
   refine Sr ?_
   refine Ru 1 rfl ?_
   refine JL.nil ?_
   exact J.retP (RetV.one rfl rfl) (by congr 1; rw [e3] at *; unfold twoI; first | rw [if_pos (by omega)] | rw [if_neg (by omega)]) rfl
  refine Ru 2 rfl ?_
  refine JL.opg rfl rfl  ai_ rfl ?_
  refine JL.opg rfl rfl  (RunV.strIndex un_9 rfl rfl z6_ (by omega)) rfl ?_
  refine Ru 2 rfl ?_
  refine Nk [28, 4, 0, 1] rfl ?_
  refine Cs rfl (fun hc4 => ?_) fun hc4 => ?_
  ·
   refine Sr ?_
   refine Ru 1 rfl ?_
   refine JL.nil ?_
   exact J.retP (RetV.one rfl rfl) (by congr 1; rw [e3] at *; unfold twoI; first | rw [if_pos (by omega)] | rw [if_neg (by omega)]) rfl
  refine J.skip ?_
  refine J.seq ?_
  refine J.drawn mixed_ (by kernel_rfl) ?_
  refine Rq 2 rfl ?_
  refine JQ.op (RunV.strIndex un_9 rfl rfl z6_ (by omega)) rfl ?_
  refine JQ.op (by first | exact RunV.sub_u8 rfl rfl (by omega) (by omega) | exact RunV.sub rfl rfl) rfl ?_
  refine JQ.op z11_ rfl ?_
  refine JQ.op z16_ rfl ?_
  refine Rq 2 rfl ?_
  refine JQ.op ai_ rfl ?_
  refine JQ.op (RunV.strIndex un_9 rfl rfl z6_ (by omega)) rfl ?_
  refine JQ.op (by first | exact RunV.sub_u8 rfl rfl (by omega) (by omega) | exact RunV.sub rfl rfl) rfl ?_
  refine JQ.op z11_ rfl ?_
  refine JQ.op ai_ rfl ?_
  refine Rq 1 rfl ?_
  refine Nq [4] rfl ?_
  exact J.retP (RetV.one rfl rfl) (by congr 1; rw [e3] at *; unfold twoI; first | rw [if_pos (by omega)] | rw [if_neg (by omega)]) rfl
theorem two_n (s : List UInt8) (i : Nat) (h : Part) (h1 : i + 1 < s.length) (h2 : s.length ≤ 140737488355328) : Pure Tryd.prog 56 [.string ⟨s.toArray⟩, .int .i64 (i : Nat)] h (.int .i64 (twoI s i)) :=
  (two_fn s i h (by omega) (by omega) h2).cast (by simp)
theorem twoI_bd (s : List UInt8) (i : Nat) : (twoI s i = -1048576 ∨ 0 ≤ twoI s i) ∧ twoI s i ≤ 99 := by
  have := byteAt_lt s i; have := byteAt_lt s (i + 1)
  unfold twoI; split <;> omega
def mdays (y : Int) : Nat → Int
  | 0 => 0
  | k + 1 => mdays y k + monthI y (k + 1)
theorem mdays_bd (y : Int) (k : Nat) : 0 ≤ mdays y k ∧ mdays y k ≤ 31 * k := by
  induction k with
  | zero => simp [mdays]
  | succ k ih => have := monthI_bd y (k + 1); simp only [mdays]; omega
def momOk (y : Int) (s : List UInt8) : Bool :=
  decide (0 ≤ y ∧ 1 ≤ twoI s 0 ∧ twoI s 0 ≤ 12 ∧ 1 ≤ twoI s 2 ∧ twoI s 2 ≤ monthI y (twoI s 0) ∧ 0 ≤ twoI s 4 ∧ twoI s 4 ≤ 23 ∧ 0 ≤ twoI s 6 ∧ twoI s 6 ≤ 59 ∧ 0 ≤ twoI s 8 ∧ twoI s 8 ≤ 59)
def momT (y : Int) (s : List UInt8) : Int :=
  -62167219200 + (beforeI y + (twoI s 2 - 1) + mdays y ((twoI s 0).toNat - 1)) * 86400 + (twoI s 4 * 3600 + twoI s 6 * 60 + twoI s 8)
def momV (y : Int) (s : List UInt8) : Int := if momOk y s then momT y s else 0
theorem moment_fn (y : Int) (s : List UInt8) (h : Part) (h1 : y ≤ 1000000) (h2 : s.length = 10) : Pure Tryd.prog 57 [.int .i64 y, .string ⟨s.toArray⟩] h (.tuple #[.int .i64 (momV y s), .bool (momOk y s)]) := by
  have w0 := twoI_bd s 0; have w2 := twoI_bd s 2; have w4 := twoI_bd s 4; have w6 := twoI_bd s 6; have w8 := twoI_bd s 8
  have w1 := monthI_bd y (twoI s 0)
  refine Fn.intro Tryd.func57 rfl Tryd.ntmps57 rfl (fun e he => ?_)
  refine J.weak [(0, _), (1, _)] ⟨rfl, rfl, trivial⟩ ?_
  refine Sr ?_
  refine Ru 2 rfl ?_
  refine JL.nil ?_
  refine J.seq ?_
  refine Sr ?_
  refine Ru 2 rfl ?_
  refine JL.nil ?_
  refine Cs rfl (fun hc1 => ?_) fun hc1 => ?_
  ·
   refine Sr ?_
   refine Ru 2 rfl ?_
   refine Nk [5, 4, 0, 1] rfl ?_
   exact J.retP (RetV.two rfl rfl rfl) z10_ rfl
  refine J.skip ?_
  refine Sr ?_
  refine Ru 1 rfl ?_
  refine JL.callP ca_56 rfl (two_n s 0 _ (by omega) (by omega)) rfl ?_
  refine Ru 1 rfl ?_
  refine JL.callP ca_56 rfl (two_n s 2 _ (by omega) (by omega)) rfl ?_
  refine Ru 1 rfl ?_
  refine JL.callP ca_56 rfl (two_n s 4 _ (by omega) (by omega)) rfl ?_
  refine Ru 1 rfl ?_
  refine JL.callP ca_56 rfl (two_n s 6 _ (by omega) (by omega)) rfl ?_
  refine Ru 1 rfl ?_
  refine JL.callP ca_56 rfl (two_n s 8 _ (by omega) (by omega)) rfl ?_
  refine Ru 5 rfl ?_
  refine Nk [10, 9, 8, 7, 6, 5, 4, 0] rfl ?_
  refine J.seq ?_
  refine Sr ?_
  refine Ru 3 rfl ?_
  refine Bs 27 rfl (fun hc7 => ?_) fun hc7 => ?_
  ·
   refine Ru 38 rfl ?_
   refine Nk [65, 10, 9, 8, 7, 6, 5, 4, 0] rfl ?_
   refine J.cond_t rfl ?_
   refine Sr ?_
   refine Ru 2 rfl ?_
   refine JL.nil ?_
   exact J.retP (RetV.two rfl rfl rfl) z10_ rfl
  refine Ru 4 rfl ?_
  refine Bs 31 rfl (fun hc8 => ?_) fun hc8 => ?_
  ·
   refine Ru 34 rfl ?_
   refine Nk [65, 10, 9, 8, 7, 6, 5, 4, 0] rfl ?_
   refine J.cond_t rfl ?_
   refine Sr ?_
   refine Ru 2 rfl ?_
   refine JL.nil ?_
   exact J.retP (RetV.two rfl rfl rfl) z10_ rfl
  refine Ru 4 rfl ?_
  refine Bs 35 rfl (fun hc9 => ?_) fun hc9 => ?_
  ·
   refine Ru 30 rfl ?_
   refine Nk [65, 10, 9, 8, 7, 6, 5, 4, 0] rfl ?_
   refine J.cond_t rfl ?_
   refine Sr ?_
   refine Ru 2 rfl ?_
   refine JL.nil ?_
   exact J.retP (RetV.two rfl rfl rfl) z10_ rfl
  refine Ru 3 rfl ?_
  refine JL.callPg rfl rfl  ca_66 rfl (month_fn _ _ _ (by omega)) rfl ?_
  refine Ru 3 rfl ?_
  refine Bs 42 rfl (fun hc11 => ?_) fun hc11 => ?_
  ·
   refine Ru 23 rfl ?_
   refine Nk [65, 10, 9, 8, 7, 6, 5, 4, 0] rfl ?_
   refine J.cond_t rfl ?_
   refine Sr ?_
   refine Ru 2 rfl ?_
   refine JL.nil ?_
   exact J.retP (RetV.two rfl rfl rfl) z10_ rfl
  refine Ru 4 rfl ?_
  refine Bs 46 rfl (fun hc12 => ?_) fun hc12 => ?_
  ·
   refine Ru 19 rfl ?_
   refine Nk [65, 10, 9, 8, 7, 6, 5, 4, 0] rfl ?_
   refine J.cond_t rfl ?_
   refine Sr ?_
   refine Ru 2 rfl ?_
   refine JL.nil ?_
   exact J.retP (RetV.two rfl rfl rfl) z10_ rfl
  refine Ru 4 rfl ?_
  refine Bs 50 rfl (fun hc13 => ?_) fun hc13 => ?_
  ·
   refine Ru 15 rfl ?_
   refine Nk [65, 10, 9, 8, 7, 6, 5, 4, 0] rfl ?_
   refine J.cond_t rfl ?_
   refine Sr ?_
   refine Ru 2 rfl ?_
   refine JL.nil ?_
   exact J.retP (RetV.two rfl rfl rfl) z10_ rfl
  refine Ru 4 rfl ?_
  refine Bs 54 rfl (fun hc14 => ?_) fun hc14 => ?_
  ·
   refine Ru 11 rfl ?_
   refine Nk [65, 10, 9, 8, 7, 6, 5, 4, 0] rfl ?_
   refine J.cond_t rfl ?_
   refine Sr ?_
   refine Ru 2 rfl ?_
   refine JL.nil ?_
   exact J.retP (RetV.two rfl rfl rfl) z10_ rfl
  refine Ru 4 rfl ?_
  refine Bs 58 rfl (fun hc15 => ?_) fun hc15 => ?_
  ·
   refine Ru 7 rfl ?_
   refine Nk [65, 10, 9, 8, 7, 6, 5, 4, 0] rfl ?_
   refine J.cond_t rfl ?_
   refine Sr ?_
   refine Ru 2 rfl ?_
   refine JL.nil ?_
   exact J.retP (RetV.two rfl rfl rfl) z10_ rfl
  refine Ru 4 rfl ?_
  refine Bs 62 rfl (fun hc16 => ?_) fun hc16 => ?_
  ·
   refine Ru 3 rfl ?_
   refine Nk [65, 10, 9, 8, 7, 6, 5, 4, 0] rfl ?_
   refine J.cond_t rfl ?_
   refine Sr ?_
   refine Ru 2 rfl ?_
   refine JL.nil ?_
   exact J.retP (RetV.two rfl rfl rfl) z10_ rfl
  refine Ru 3 rfl ?_
  refine Nk [65, 10, 9, 8, 7, 6, 5, 4, 0] rfl ?_
  refine Cs rfl (fun hc17 => ?_) fun hc17 => ?_
  ·
   refine Sr ?_
   refine Ru 2 rfl ?_
   refine JL.nil ?_
   exact J.retP (RetV.two rfl rfl rfl) z10_ rfl
  refine J.skip ?_
  refine Sr ?_
  refine Ru 1 rfl ?_
  refine JL.callP ca_67 rfl (before_fn _ _ (by omega) (by omega)) rfl ?_
  refine Ru 1 rfl ?_
  refine JL.op si_ rfl ?_
  have hbb := beforeI_bd y (by omega) (by omega)
  refine JL.op ai_ rfl ?_
  refine Ru 1 rfl ?_
  refine Nk [11, 10, 9, 8, 6, 5, 4, 0] rfl ?_
  refine J.seq ?_
  refine Sr ?_
  refine Ru 1 rfl ?_
  refine JL.nil ?_
  refine J.block ?_
  refine J.loop (fun t_ S_ h_ L_ => ∃ (k : Nat), t_ = 13 - k ∧ S_ = [(0, .int .i64 y), (6, .int .i64 (twoI s 0)), (8, .int .i64 (twoI s 4)), (9, .int .i64 (twoI s 6)), (10, .int .i64 (twoI s 8)), (11, .int .i64 (beforeI y + (twoI s 2 - 1) + mdays y k)), (12, .int .i64 (k + 1 : Nat))] ∧ h = h_ ∧ L_ = [] ∧ (k < twoI s 0)) ⟨_, _, ?_, ⟨0, rfl, rfl, rfl, rfl, by omega⟩⟩ ?_
  ·
   repeat (first | exact trivial | refine ⟨rfl, ?_⟩ | refine ⟨(by exact some_i64 (by simp [mdays] <;> omega)), ?_⟩)
  rintro _ _ _ _ ⟨k, rfl, rfl, rfl, rfl, hk⟩
  have hmd := mdays_bd y k; have hmb := monthI_bd y (k + 1 : Nat)
  refine J.seq ?_
  refine Sr ?_
  refine Ru 3 rfl ?_
  refine JL.nil ?_
  refine Cs rfl (fun hc19 => ?_) fun hc19 => ?_
  ·
   refine J.skip ?_
   refine J.seq ?_
   refine J.block ?_
   refine Rg ?_
   refine Ru 3 rfl ?_
   refine JL.callP ca_66 rfl (month_fn _ _ _ (by omega)) rfl ?_
   refine JL.op ai_ rfl ?_
   refine Ru 1 rfl ?_
   refine JL.nil ?_
   refine Rg ?_
   refine Ru 1 rfl ?_
   refine JL.op ai_ rfl ?_
   refine Ru 1 rfl ?_
   refine JL.nil ?_
   refine ⟨_, ?_, _, ?_, ⟨k + 1, rfl, rfl, rfl, rfl, by omega⟩⟩
   ·
    omega
   repeat (first | exact trivial | refine ⟨rfl, ?_⟩ | refine ⟨(by exact some_i64 (by simp [mdays] <;> omega)), ?_⟩)
  refine J.exit ?_
  refine Kp [8, 9, 10, 11] rfl ?_
  refine Sr ?_
  refine Ru 1 rfl ?_
  refine JL.op z16_ rfl ?_
  refine JL.op ai_ rfl ?_
  refine Ru 1 rfl ?_
  refine JL.op z16_ rfl ?_
  refine Ru 1 rfl ?_
  refine JL.op z16_ rfl ?_
  refine JL.op ai_ rfl ?_
  refine Ru 1 rfl ?_
  refine JL.op ai_ rfl ?_
  refine JL.op ai_ rfl ?_
  refine Ru 2 rfl ?_
  refine Nk [5, 4] rfl ?_
  exact J.retP (RetV.two rfl rfl rfl) z10_ rfl
def psY (s : List UInt8) : Int := if 0 ≤ twoI s 0 then (if twoI s 0 + 1900 < 1950 then twoI s 0 + 1900 + 100 else twoI s 0 + 1900) else twoI s 0
def psOk (s : List UInt8) : Bool := decide (s.length = 13 ∧ byteAt s 12 = 90) && momOk (psY s) ((s.drop 2).take 10)
def psT (s : List UInt8) : Int := if psOk s then momT (psY s) ((s.drop 2).take 10) else 0
theorem pshort_fn (s : List UInt8) (h : Part) (h2 : s.length ≤ 140737488355328) : Pure Tryd.prog 42 [.string ⟨s.toArray⟩] h (.tuple #[.int .i64 (psT s), .int .i64 (if psOk s then 0 else 21)]) := by
  have w0 := twoI_bd s 0
  refine Fn.intro Tryd.func42 rfl Tryd.ntmps42 rfl (fun e he => ?_)
  refine J.weak [(0, _)] ⟨rfl, trivial⟩ ?_
  refine Sr ?_
  refine Ru 2 rfl ?_
  refine JL.nil ?_
  refine J.seq ?_
  refine Sr ?_
  refine Ru 1 rfl ?_
  refine JL.op (RunV.lenS un_9 rfl) rfl ?_
  refine Ru 2 rfl ?_
  refine Bs 10 rfl (fun hc1 => ?_) fun hc1 => ?_
  ·
   refine Ru 4 rfl ?_
   refine Nk [14, 3, 2, 0] rfl ?_
   refine J.cond_t rfl ?_
   refine Sr ?_
   refine Ru 2 rfl ?_
   refine JL.nil ?_
   exact J.retP (RetV.two rfl rfl rfl) (by have hm : psOk s = false := (by unfold psOk; rw [decide_eq_false (by omega)]; rfl); rw [psT, hm]; rfl) rfl
  refine Ru 1 rfl ?_
  refine JL.opg rfl rfl  (RunV.strIndex un_9 rfl rfl (show _ = ((12 : Nat) : Int) from rfl) (by omega)) rfl ?_
  refine Ru 2 rfl ?_
  refine Nk [14, 3, 2, 0] rfl ?_
  refine Cs rfl (fun hc2 => ?_) fun hc2 => ?_
  ·
   refine Sr ?_
   refine Ru 2 rfl ?_
   refine JL.nil ?_
   exact J.retP (RetV.two rfl rfl rfl) (by have hm : psOk s = false := (by unfold psOk; rw [decide_eq_false (by omega)]; rfl); rw [psT, hm]; rfl) rfl
  refine J.skip ?_
  refine Sr ?_
  refine Ru 1 rfl ?_
  refine JL.callP ca_56 rfl (two_n s 0 _ (by omega) (by omega)) rfl ?_
  refine Ru 1 rfl ?_
  refine JL.nil ?_
  refine J.seq ?_
  refine Sr ?_
  refine Ru 2 rfl ?_
  refine Nk [18, 4, 3, 2, 0] rfl ?_
  refine Cs rfl (fun hc4 => ?_) fun hc4 => ?_
  ·
   refine Sr ?_
   refine Ru 1 rfl ?_
   refine JL.op ai_ rfl ?_
   refine Ru 1 rfl ?_
   refine Nk [4, 3, 2, 0] rfl ?_
   refine Sr ?_
   refine Ru 2 rfl ?_
   refine JL.nil ?_
   refine Cs rfl (fun hc5 => ?_) fun hc5 => ?_
   ·
    have hy : psY s = twoI s 0 + 1900 + 100 := by unfold psY; rw [if_pos (by omega), if_pos (by omega)]
    refine Rg ?_
    refine Ru 1 rfl ?_
    refine JL.op ai_ rfl ?_
    refine Ru 1 rfl ?_
    refine Nk [4, 3, 2, 0] rfl ?_
    refine Sr ?_
    refine Ru 2 rfl ?_
    refine JL.op (RunV.strCut_lh un_9 rfl rfl rfl (show _ = ((2 : Nat) : Int) from rfl) (show _ = ((12 : Nat) : Int) from rfl) (by omega) (by omega)) rfl ?_
    refine JL.callP ca_57 rfl (moment_fn _ ((s.drop 2).take 10) _ (by omega) (by simp; omega)) rfl ?_
    refine Ru 5 rfl ?_
    refine Nk [6, 5, 3, 2] rfl ?_
    refine J.seq ?_
    refine Sr ?_
    refine Ru 2 rfl ?_
    refine JL.nil ?_
    refine Cs rfl (fun hc7 => ?_) fun hc7 => ?_
    ·
     refine Sr ?_
     refine Ru 2 rfl ?_
     refine Nk [3, 2, 5] rfl ?_
     exact J.retP (RetV.two rfl rfl rfl) z21_ rfl
    refine J.skip ?_
    refine Sr ?_
    refine Ru 3 rfl ?_
    refine Nk [3, 2] rfl ?_
    exact J.retP (RetV.two rfl rfl rfl) z21_ rfl
   have hy : psY s = twoI s 0 + 1900 := by unfold psY; rw [if_pos (by omega), if_neg (by omega)]
   refine J.skip ?_
   refine Sr ?_
   refine Ru 2 rfl ?_
   refine JL.op (RunV.strCut_lh un_9 rfl rfl rfl (show _ = ((2 : Nat) : Int) from rfl) (show _ = ((12 : Nat) : Int) from rfl) (by omega) (by omega)) rfl ?_
   refine JL.callP ca_57 rfl (moment_fn _ ((s.drop 2).take 10) _ (by omega) (by simp; omega)) rfl ?_
   refine Ru 5 rfl ?_
   refine Nk [6, 5, 3, 2] rfl ?_
   refine J.seq ?_
   refine Sr ?_
   refine Ru 2 rfl ?_
   refine JL.nil ?_
   refine Cs rfl (fun hc9 => ?_) fun hc9 => ?_
   ·
    refine Sr ?_
    refine Ru 2 rfl ?_
    refine Nk [3, 2, 5] rfl ?_
    exact J.retP (RetV.two rfl rfl rfl) z21_ rfl
   refine J.skip ?_
   refine Sr ?_
   refine Ru 3 rfl ?_
   refine Nk [3, 2] rfl ?_
   exact J.retP (RetV.two rfl rfl rfl) z21_ rfl
  have hy : psY s = twoI s 0 := by unfold psY; rw [if_neg (by omega)]
  refine J.skip ?_
  refine Sr ?_
  refine Ru 2 rfl ?_
  refine JL.op (RunV.strCut_lh un_9 rfl rfl rfl (show _ = ((2 : Nat) : Int) from rfl) (show _ = ((12 : Nat) : Int) from rfl) (by omega) (by omega)) rfl ?_
  refine JL.callP ca_57 rfl (moment_fn _ ((s.drop 2).take 10) _ (by omega) (by simp; omega)) rfl ?_
  refine Ru 5 rfl ?_
  refine Nk [6, 5, 3, 2] rfl ?_
  refine J.seq ?_
  refine Sr ?_
  refine Ru 2 rfl ?_
  refine JL.nil ?_
  refine Cs rfl (fun hc11 => ?_) fun hc11 => ?_
  ·
   refine Sr ?_
   refine Ru 2 rfl ?_
   refine Nk [3, 2, 5] rfl ?_
   exact J.retP (RetV.two rfl rfl rfl) z21_ rfl
  refine J.skip ?_
  refine Sr ?_
  refine Ru 3 rfl ?_
  refine Nk [3, 2] rfl ?_
  exact J.retP (RetV.two rfl rfl rfl) z21_ rfl
def micI (s : List UInt8) : Nat → Int
  | 0 => 0
  | k + 1 => micI s k * 10 + (if 15 + k + 1 < s.length then (byteAt s (15 + k) : Int) - 48 else 0)
def micOk (s : List UInt8) : Nat → Bool
  | 0 => true
  | k + 1 => micOk s k && (if 15 + k + 1 < s.length then decide (48 ≤ byteAt s (15 + k) ∧ byteAt s (15 + k) ≤ 57) else true)
theorem micI_bd (s : List UInt8) (k : Nat) (h : micOk s k = true) : 0 ≤ micI s k ∧ micI s k < 10 ^ k := by
  induction k with
  | zero => simp [micI]
  | succ k ih =>
    simp only [micOk, Bool.and_eq_true] at h
    obtain ⟨h1, h2⟩ := h
    have := ih h1
    have e : (10 : Int) ^ (k + 1) = 10 ^ k * 10 := Int.pow_succ ..
    simp only [micI]
    split at h2
    · rename_i hh
      rw [if_pos hh]
      have := of_decide_eq_true h2
      omega
    · rename_i hh
      rw [if_neg hh]
      omega
def plOk (s : List UInt8) : Bool :=
  decide (15 ≤ s.length ∧ s.length ≤ 22 ∧ byteAt s (s.length - 1) = 90) && ((decide (s.length = 15) || (decide (byteAt s 14 = 46 ∧ s.length ≠ 16 ∧ byteAt s (s.length - 2) ≠ 48) && micOk s 6)) && momOk (twoI s 0 * 100 + twoI s 2) ((s.drop 4).take 10))
def plM (s : List UInt8) : Int := if s.length = 15 then 0 else micI s 6
theorem pl_f1 {s : List UInt8} (h : ¬ (15 ≤ s.length ∧ s.length ≤ 22 ∧ byteAt s (s.length - 1) = 90)) : plOk s = false := by
  unfold plOk; rw [decide_eq_false h]; rfl
theorem pl_f2 {s : List UInt8} (h1 : s.length ≠ 15) (h : ¬ (byteAt s 14 = 46 ∧ s.length ≠ 16 ∧ byteAt s (s.length - 2) ≠ 48)) : plOk s = false := by
  unfold plOk; rw [decide_eq_false h1, decide_eq_false h]; simp
theorem micOk_le {s : List UInt8} (k : Nat) : ∀ j, micOk s (k + j) = true → micOk s k = true
  | 0, h => h
  | j + 1, h => micOk_le k j (by rw [← Nat.add_assoc, micOk, Bool.and_eq_true] at h; exact h.1)
theorem pl_f3 {s : List UInt8} (k : Nat) (h1 : s.length ≠ 15) (hk : k ≤ 6) (h : micOk s k = false) : plOk s = false := by
  have h6 : micOk s 6 = false := by
    cases hh : micOk s 6 with
    | false => rfl
    | true => have := micOk_le k (6 - k) (by rw [show k + (6 - k) = 6 by omega]; exact hh); rw [h] at this; cases this
  unfold plOk; rw [decide_eq_false h1, h6]; simp
theorem pl_t0 {s : List UInt8} (h : 15 ≤ s.length ∧ s.length ≤ 22 ∧ byteAt s (s.length - 1) = 90) (h1 : s.length = 15) : plOk s = momOk (twoI s 0 * 100 + twoI s 2) ((s.drop 4).take 10) := by
  unfold plOk; rw [decide_eq_true h, decide_eq_true h1]; rfl
theorem pl_t1 {s : List UInt8} (h : 15 ≤ s.length ∧ s.length ≤ 22 ∧ byteAt s (s.length - 1) = 90) (h1 : s.length ≠ 15) (h2 : byteAt s 14 = 46 ∧ s.length ≠ 16 ∧ byteAt s (s.length - 2) ≠ 48) (h3 : micOk s 6 = true) : plOk s = momOk (twoI s 0 * 100 + twoI s 2) ((s.drop 4).take 10) := by
  unfold plOk; rw [decide_eq_true h, decide_eq_false h1, decide_eq_true h2, h3]; rfl
theorem plong_fn (s : List UInt8) (h : Part) (h2 : s.length ≤ 140737488355328) : Pure Tryd.prog 43 [.string ⟨s.toArray⟩] h (.tuple #[.int .i64 (if plOk s then momT (twoI s 0 * 100 + twoI s 2) ((s.drop 4).take 10) else 0), .int .i64 (if plOk s then plM s else 0), .int .i64 (if plOk s then 0 else 21)]) := by
  have w0 := twoI_bd s 0
  have w2 := twoI_bd s 2
  have e1 : ((s.length : Int) - 1).toNat = s.length - 1 := by omega
  have e2 : ((s.length : Int) - 2).toNat = s.length - 2 := by omega
  have bd := fun k => byteAt_lt s k
  refine Fn.intro Tryd.func43 rfl Tryd.ntmps43 rfl (fun e he => ?_)
  refine J.weak [(0, _)] ⟨rfl, trivial⟩ ?_
  refine Sr ?_
  refine Ru 3 rfl ?_
  refine JL.nil ?_
  refine Sr ?_
  refine Ru 1 rfl ?_
  refine JL.op (RunV.lenS un_9 rfl) rfl ?_
  refine Ru 1 rfl ?_
  refine JL.nil ?_
  refine J.seq ?_
  refine Sr ?_
  refine Ru 3 rfl ?_
  refine Bs 15 rfl (fun hc1 => ?_) fun hc1 => ?_
  ·
   refine Ru 10 rfl ?_
   refine Nk [25, 5, 4, 3, 2, 0] rfl ?_
   refine J.cond_t rfl ?_
   refine Sr ?_
   refine Ru 3 rfl ?_
   refine JL.nil ?_
   exact J.retP (RetV.three rfl rfl rfl rfl) z2_ rfl
  refine Ru 4 rfl ?_
  refine Bs 19 rfl (fun hc2 => ?_) fun hc2 => ?_
  ·
   refine Ru 6 rfl ?_
   refine Nk [25, 5, 4, 3, 2, 0] rfl ?_
   refine J.cond_t rfl ?_
   refine Sr ?_
   refine Ru 3 rfl ?_
   refine JL.nil ?_
   exact J.retP (RetV.three rfl rfl rfl rfl) z2_ rfl
  refine Ru 2 rfl ?_
  refine JL.opg rfl rfl  si_ rfl ?_
  refine JL.opg rfl rfl  (RunV.strIndex un_9 rfl rfl z6_ (by omega)) rfl ?_
  refine Ru 2 rfl ?_
  refine Nk [25, 5, 4, 3, 2, 0] rfl ?_
  refine Cs rfl (fun hc3 => ?_) fun hc3 => ?_
  ·
   refine Sr ?_
   refine Ru 3 rfl ?_
   refine Nk [4, 3, 2, 5, 0] rfl ?_
   exact J.retP (RetV.three rfl rfl rfl rfl) z2_ rfl
  refine J.skip ?_
  refine Sr ?_
  refine Ru 1 rfl ?_
  refine JL.nil ?_
  refine J.seq ?_
  refine Sr ?_
  refine Ru 2 rfl ?_
  refine JL.nil ?_
  refine Cs rfl (fun hc4 => ?_) fun hc4 => ?_
  ·
   refine J.seq ?_
   refine Sr ?_
   refine Ru 1 rfl ?_
   refine JL.op (RunV.strIndex un_9 rfl rfl (show _ = ((14 : Nat) : Int) from rfl) (by omega)) rfl ?_
   refine Ru 2 rfl ?_
   refine Bs 31 rfl (fun hc5 => ?_) fun hc5 => ?_
   ·
    refine Ru 10 rfl ?_
    refine Nk [41, 6, 5, 4, 3, 2, 0] rfl ?_
    refine J.cond_t rfl ?_
    refine Sr ?_
    refine Ru 3 rfl ?_
    refine JL.nil ?_
    exact J.retP (RetV.three rfl rfl rfl rfl) z2_ rfl
   refine Ru 4 rfl ?_
   refine Bs 35 rfl (fun hc6 => ?_) fun hc6 => ?_
   ·
    refine Ru 6 rfl ?_
    refine Nk [41, 6, 5, 4, 3, 2, 0] rfl ?_
    refine J.cond_t rfl ?_
    refine Sr ?_
    refine Ru 3 rfl ?_
    refine JL.nil ?_
    exact J.retP (RetV.three rfl rfl rfl rfl) z2_ rfl
   refine Ru 2 rfl ?_
   refine JL.opg rfl rfl  si_ rfl ?_
   refine JL.opg rfl rfl  (RunV.strIndex un_9 rfl rfl z6_ (by omega)) rfl ?_
   refine Ru 2 rfl ?_
   refine Nk [41, 6, 5, 4, 3, 2, 0] rfl ?_
   refine Cs rfl (fun hc7 => ?_) fun hc7 => ?_
   ·
    refine Sr ?_
    refine Ru 3 rfl ?_
    refine Nk [4, 3, 2, 6, 5, 0] rfl ?_
    exact J.retP (RetV.three rfl rfl rfl rfl) z2_ rfl
   refine J.skip ?_
   refine Sr ?_
   refine Ru 1 rfl ?_
   refine JL.nil ?_
   refine J.block ?_
   refine J.loop (fun t_ S_ h_ L_ => ∃ (i : Nat), t_ = 6 - i ∧ S_ = [(0, .string ⟨s.toArray⟩), (5, .int .i64 s.length), (6, .int .i64 (micI s i)), (42, .int .i64 i)] ∧ h = h_ ∧ L_ = [] ∧ (i ≤ 6 ∧ micOk s i = true)) ⟨_, _, ?_, ⟨0, rfl, rfl, rfl, rfl, ⟨by omega, rfl⟩⟩⟩ ?_
   ·
    repeat (first | exact trivial | refine ⟨rfl, ?_⟩ | refine ⟨(by exact some_i64 (by simp [micI] <;> omega)), ?_⟩)
   rintro _ _ _ _ ⟨i, rfl, rfl, rfl, rfl, hi, hm⟩
   have hb := micI_bd s i hm; have e3 : ((15 : Int) + i).toNat = 15 + i := (by omega); have hp : (10 : Int) ^ i ≤ 1000000 := (by have : i = 0 ∨ i = 1 ∨ i = 2 ∨ i = 3 ∨ i = 4 ∨ i = 5 ∨ i = 6 := (by omega); rcases this with rfl | rfl | rfl | rfl | rfl | rfl | rfl <;> decide); have hbd := bd (15 + i)
   refine Sr ?_
   refine Ru 1 rfl ?_
   refine JL.nil ?_
   refine J.seq ?_
   refine Cs rfl (fun hc8 => ?_) fun hc8 => ?_
   ·
    refine J.skip ?_
    refine J.seq ?_
    refine J.block ?_
    refine Sr ?_
    refine Ru 2 rfl ?_
    refine JL.nil ?_
    refine Sr ?_
    refine Ru 1 rfl ?_
    refine JL.op z16_ rfl ?_
    refine Ru 1 rfl ?_
    refine JL.nil ?_
    refine Sr ?_
    refine Ru 1 rfl ?_
    refine JL.op ai_ rfl ?_
    refine Ru 1 rfl ?_
    refine JL.op si_ rfl ?_
    refine Ru 1 rfl ?_
    refine JL.nil ?_
    refine Cs rfl (fun hc9 => ?_) fun hc9 => ?_
    ·
     refine Sr ?_
     refine Ru 2 rfl ?_
     refine JL.op ai_ rfl ?_
     refine JL.op (RunV.strIndex un_9 rfl rfl z6_ (by omega)) rfl ?_
     rw [e3]
     refine Ru 1 rfl ?_
     refine JL.nil ?_
     refine J.seq ?_
     refine Sr ?_
     refine Ru 3 rfl ?_
     refine Bs 58 rfl (fun hc10 => ?_) fun hc10 => ?_
     ·
      refine Ru 3 rfl ?_
      refine JL.nil ?_
      refine J.cond_t rfl ?_
      refine Sr ?_
      refine Ru 3 rfl ?_
      refine JL.nil ?_
      exact J.retP (RetV.three rfl rfl rfl rfl) z2_ rfl
     refine Ru 3 rfl ?_
     refine JL.nil ?_
     refine Cs rfl (fun hc11 => ?_) fun hc11 => ?_
     ·
      refine Sr ?_
      refine Ru 3 rfl ?_
      refine Nk [4, 3, 2, 61, 60, 59, 58, 57, 56, 8, 55, 54, 53, 52, 51, 50, 49, 48, 47, 6, 46, 45, 7, 44, 43, 0, 5, 42] rfl ?_
      exact J.retP (RetV.three rfl rfl rfl rfl) z2_ rfl
     refine J.skip ?_
     refine Kp [61, 60, 59, 58, 57, 56, 8, 55, 54, 53, 52, 51, 50, 49, 48, 47, 6, 46, 45, 7, 44, 43, 0, 5, 42] rfl ?_
     refine Rg ?_
     refine Ru 2 rfl ?_
     refine JL.op (by first | exact RunV.sub_u8 rfl rfl (by omega) (by omega) | exact RunV.sub rfl rfl) rfl ?_
     refine JL.op z11_ rfl ?_
     refine JL.op ai_ rfl ?_
     refine Ru 1 rfl ?_
     refine JL.nil ?_
     refine Rg ?_
     refine JL.op ai_ rfl ?_
     refine Ru 1 rfl ?_
     refine JL.nil ?_
     refine ⟨_, ?_, _, ?_, ⟨i + 1, rfl, rfl, rfl, rfl, ⟨by omega, by simp only [micOk, hm, Bool.true_and]; first | (rw [if_pos (by omega)]; exact decide_eq_true (by omega)) | rw [if_neg (by omega)]⟩⟩⟩
     ·
      omega
     repeat (first | exact trivial | refine ⟨rfl, ?_⟩ | refine ⟨(by exact some_i64 (by simp [micI] <;> omega)), ?_⟩)
    refine J.skip ?_
    refine Rg ?_
    refine JL.op ai_ rfl ?_
    refine Ru 1 rfl ?_
    refine JL.nil ?_
    refine ⟨_, ?_, _, ?_, ⟨i + 1, rfl, rfl, rfl, rfl, ⟨by omega, by simp only [micOk, hm, Bool.true_and]; first | (rw [if_pos (by omega)]; exact decide_eq_true (by omega)) | rw [if_neg (by omega)]⟩⟩⟩
    ·
     omega
    repeat (first | exact trivial | refine ⟨rfl, ?_⟩ | refine ⟨(by exact some_i64 (by simp [micI] <;> omega)), ?_⟩)
   refine J.exit ?_
   refine J.seq ?_
   refine J.drawn mixed_ (by kernel_rfl) ?_
   refine Rq 1 rfl ?_
   refine JQ.callP ca_56 rfl (two_n s 0 _ (by omega) (by omega)) rfl ?_
   refine JQ.op z16_ rfl ?_
   refine Rq 1 rfl ?_
   refine JQ.callP ca_56 rfl (two_n s 2 _ (by omega) (by omega)) rfl ?_
   refine JQ.op ai_ rfl ?_
   refine Rq 1 rfl ?_
   refine JQ.op (RunV.strCut_lh un_9 rfl rfl rfl (show _ = ((4 : Nat) : Int) from rfl) (show _ = ((14 : Nat) : Int) from rfl) (by omega) (by omega)) rfl ?_
   refine JQ.callP ca_57 rfl (moment_fn _ ((s.drop 4).take 10) _ (by omega) (by simp; omega)) rfl ?_
   refine Rq 5 rfl ?_
   refine Nq [10, 9, 6] rfl ?_
   refine J.seq ?_
   refine Sr ?_
   refine Ru 2 rfl ?_
   refine JL.nil ?_
   refine Cs rfl (fun hc15 => ?_) fun hc15 => ?_
   ·
    have hcz := hc15
    refine Sr ?_
    refine Ru 3 rfl ?_
    refine JL.nil ?_
    exact J.retP (RetV.three rfl rfl rfl rfl) z2_ rfl
   have hcz := hc15
   refine J.skip ?_
   refine Sr ?_
   refine Ru 5 rfl ?_
   refine Nk [4, 3, 2] rfl ?_
   exact J.retP (RetV.three rfl rfl rfl rfl) z2_ rfl
  refine J.skip ?_
  refine Kp [6, 4, 3, 2, 0] rfl ?_
  refine J.seq ?_
  refine J.drawn mixed_ (by kernel_rfl) ?_
  refine Rq 1 rfl ?_
  refine JQ.callP ca_56 rfl (two_n s 0 _ (by omega) (by omega)) rfl ?_
  refine JQ.op z16_ rfl ?_
  refine Rq 1 rfl ?_
  refine JQ.callP ca_56 rfl (two_n s 2 _ (by omega) (by omega)) rfl ?_
  refine JQ.op ai_ rfl ?_
  refine Rq 1 rfl ?_
  refine JQ.op (RunV.strCut_lh un_9 rfl rfl rfl (show _ = ((4 : Nat) : Int) from rfl) (show _ = ((14 : Nat) : Int) from rfl) (by omega) (by omega)) rfl ?_
  refine JQ.callP ca_57 rfl (moment_fn _ ((s.drop 4).take 10) _ (by omega) (by simp; omega)) rfl ?_
  refine Rq 5 rfl ?_
  refine Nq [10, 9, 6, 4, 3, 2] rfl ?_
  refine J.seq ?_
  refine Sr ?_
  refine Ru 2 rfl ?_
  refine JL.nil ?_
  refine Cs rfl (fun hc19 => ?_) fun hc19 => ?_
  ·
   have hcz := hc19
   refine Sr ?_
   refine Ru 3 rfl ?_
   refine Nk [4, 3, 2, 9, 6] rfl ?_
   exact J.retP (RetV.three rfl rfl rfl rfl) z2_ rfl
  have hcz := hc19
  refine J.skip ?_
  refine Sr ?_
  refine Ru 5 rfl ?_
  refine Nk [4, 3, 2] rfl ?_
  exact J.retP (RetV.three rfl rfl rfl rfl) z2_ rfl
end Go.Proofs.YtldbjnhfkjicjaaDoor
namespace Go.Proofs.YtldbjnhfkjicjaaDoor
open Go Go.RowKit
theorem z18_ {p : Prop} (u : p := by repeat (first | exact trivial | refine ⟨rfl, ?_⟩ | refine ⟨(by exact some_bool (by first | exact decide_eq_decide.2 (by omega) | exact (decide_eq_false (by omega)).symm | exact (decide_eq_true (by omega)).symm | simp_all)), ?_⟩)) : p := u
end Go.Proofs.YtldbjnhfkjicjaaDoor
namespace Go.Proofs.YtldbjnhfkjicjaaDoor
open Go Go.RowKit
theorem ca_55 : callT Tryd.prog 55 = true := by kernel_rfl
def Tabs (h : Part) : Prop := ∃ C1 C2, h 1 = some C1 ∧ h 2 = some C2 ∧ (∀ c, c < 256 → C1[c]? = some (.int .u8 (Go.Lib.firstT c))) ∧
  (∀ i, i < 16 → C2[2 * i]? = some (.int .u8 (Go.Lib.accLo i)) ∧ C2[2 * i + 1]? = some (.int .u8 (Go.Lib.accHi i)))
theorem Tabs.mono {h h' : Part} (k : Tabs h) (hle : h.le h') : Tabs h' := by
  obtain ⟨C1, C2, h1, h2, h3⟩ := k
  exact ⟨C1, C2, hle _ _ h1, hle _ _ h2, h3⟩
theorem Tabs.tabs {h : Part} (k : Tabs h) {w : World} (s : Sub h w) : Go.Lib.Utf8Tabs 1 2 w := by
  obtain ⟨C1, C2, h1, h2, h3, h4⟩ := k
  exact ⟨fun c hc => s.cell h1 (h3 c hc), fun i hi => ⟨s.cell h2 (h4 i hi).1, s.cell h2 (h4 i hi).2⟩⟩
theorem decodeGo_list (s : List UInt8) (hs : s ≠ []) : Go.Lib.decodeGo ⟨s.toArray⟩ = (chr s, wid s) := by
  unfold Go.Lib.decodeGo
  rw [bsize, if_neg (fun h => hs (List.length_eq_zero_iff.1 h))]
  rfl
theorem decode_fn (s : List UInt8) (h : Part) (hT : Tabs h) (hs : s ≠ []) : Pure Tryd.prog 55 [.string ⟨s.toArray⟩] h (.tuple #[.int .i32 (chr s), .int .i64 (wid s)]) :=
  Pure.lib fun w hw => (Tryd.utf8_DecodeRuneInString ⟨s.toArray⟩ w (hT.tabs hw)).mono fun e w' ⟨he, hb⟩ => by
    rw [decodeGo_list s hs] at he
    exact ⟨he, hb⟩
def runes (ok : Nat → Nat → Bool) : List UInt8 → Nat → Bool
  | [], _ => true
  | _ :: r, k + 1 => runes ok r k
  | b :: r, 0 => ok (chr (b :: r)) (wid (b :: r)) && runes ok r (wid (b :: r) - 1)
theorem runes_drop (ok : Nat → Nat → Bool) : ∀ (l : List UInt8) (k : Nat), runes ok l k = runes ok (l.drop k) 0
  | [], k => by cases k <;> simp [runes]
  | b :: r, 0 => rfl
  | b :: r, k + 1 => by simp only [runes, List.drop_succ_cons]; exact runes_drop ok r k
theorem runes_end (ok : Nat → Nat → Bool) (s : List UInt8) (p : Nat) (h : s.length ≤ p) : runes ok (s.drop p) 0 = true := by
  rw [List.drop_of_length_le h]; rfl
theorem runes_step (ok : Nat → Nat → Bool) (s : List UInt8) (p : Nat) (h : p < s.length) : runes ok (s.drop p) 0 = (ok (chr (s.drop p)) (wid (s.drop p)) && runes ok (s.drop (p + wid (s.drop p))) 0) := by
  have e : s.drop p = s[p] :: s.drop (p + 1) := List.drop_eq_getElem_cons h
  have hw := wid_pos (s.drop p)
  rw [← List.drop_drop]
  generalize s.drop p = q at *
  subst e
  simp only [runes]
  rw [runes_drop]
  congr 2
  cases hk : wid (s[p] :: s.drop (p + 1)) with
  | zero => omega
  | succ k => simp only [Nat.add_sub_cancel, List.drop_succ_cons]
theorem ia5_fn (s : List UInt8) (h : Part) (h2 : s.length ≤ 140737488355328) : Pure Tryd.prog 41 [.string ⟨s.toArray⟩] h (.bool (runes (fun c _ => decide (c ≤ 127)) s 0)) := by
  refine Fn.intro Tryd.func41 rfl Tryd.ntmps41 rfl (fun e he => ?_)
  refine J.weak [(0, _)] ⟨rfl, trivial⟩ ?_
  refine Sr ?_
  refine Ru 1 rfl ?_
  refine JL.nil ?_
  refine J.seq ?_
  refine Sr ?_
  refine Ru 1 rfl ?_
  refine JL.range un_9 rfl rfl (fun b1 => ?_)
  refine JL.nil ?_
  refine J.block ?_
  refine J.loop (fun t_ S_ h_ L_ => ∃ (p : Nat), t_ = s.length - p ∧ S_ = [(6, .pointer (some ⟨b1, 0, none⟩))] ∧ h = h_ ∧ L_ = [.it b1 s p] ∧ (runes (fun c _ => decide (c ≤ 127)) s 0 = runes (fun c _ => decide (c ≤ 127)) (s.drop p) 0)) ⟨_, _, ?_, ⟨0, rfl, rfl, rfl, rfl, rfl⟩⟩ ?_
  ·
   exact z5_
  rintro _ _ _ _ ⟨p, rfl, rfl, rfl, rfl, he⟩
  have hw := wid_pos (s.drop p)
  refine Sr ?_
  refine JL.next rfl dl_ rfl (fun hx2 => ?_) (fun hx2 => ?_)
  ·
   refine Ru 1 rfl ?_
   refine JL.nil ?_
   refine J.seq ?_
   refine J.cond_t rfl ?_
   refine J.skip ?_
   refine J.block ?_
   refine Sr ?_
   refine Ru 2 rfl ?_
   refine JL.nil ?_
   refine Sr ?_
   refine Ru 2 rfl ?_
   refine JL.nil ?_
   refine Cs rfl (fun hc3 => ?_) fun hc3 => ?_
   ·
    refine Sr ?_
    refine Ru 1 rfl ?_
    refine JL.nil ?_
    exact J.retP (RetV.one rfl rfl) (by first | (exfalso; omega) | (rw [he, runes_end _ _ _ (by omega)]) | (rw [he, runes_step _ s p (by omega), decide_eq_false (by omega)]; rfl)) rfl
   refine J.skip ?_
   refine ⟨_, ?_, _, ?_, ⟨p + wid (s.drop p), rfl, rfl, rfl, rfl, by rw [he, runes_step _ s p (by omega), decide_eq_true (by omega)]; rfl⟩⟩
   ·
    omega
   exact z5_
  refine Ru 1 rfl ?_
  refine JL.nil ?_
  refine J.seq ?_
  refine J.cond_f rfl ?_
  refine J.exit ?_
  refine Sr ?_
  refine Ru 1 rfl ?_
  refine JL.nil ?_
  exact J.retP (RetV.one rfl rfl) (by first | (exfalso; omega) | (rw [he, runes_end _ _ _ (by omega)]) | (rw [he, runes_step _ s p (by omega), decide_eq_false (by omega)]; rfl)) rfl
def prC (c : Nat) : Bool := decide (65 ≤ c ∧ c ≤ 90 ∨ 97 ≤ c ∧ c ≤ 122 ∨ 48 ≤ c ∧ c ≤ 57 ∨ c = 32 ∨ c = 39 ∨ c = 40 ∨ c = 41 ∨ c = 43 ∨ c = 44 ∨ c = 45 ∨ c = 46 ∨ c = 47 ∨ c = 58 ∨ c = 61 ∨ c = 63)
theorem printable_fn (s : List UInt8) (h : Part) (h2 : s.length ≤ 140737488355328) : Pure Tryd.prog 40 [.string ⟨s.toArray⟩] h (.bool (runes (fun c _ => prC c) s 0)) := by
  refine Fn.intro Tryd.func40 rfl Tryd.ntmps40 rfl (fun e he => ?_)
  refine J.weak [(0, _)] ⟨rfl, trivial⟩ ?_
  refine Sr ?_
  refine Ru 1 rfl ?_
  refine JL.nil ?_
  refine J.seq ?_
  refine Sr ?_
  refine Ru 1 rfl ?_
  refine JL.range un_9 rfl rfl (fun b1 => ?_)
  refine JL.nil ?_
  refine J.block ?_
  refine J.loop (fun t_ S_ h_ L_ => ∃ (p : Nat), t_ = s.length - p ∧ S_ = [(6, .pointer (some ⟨b1, 0, none⟩))] ∧ h = h_ ∧ L_ = [.it b1 s p] ∧ (runes (fun c _ => prC c) s 0 = runes (fun c _ => prC c) (s.drop p) 0)) ⟨_, _, ?_, ⟨0, rfl, rfl, rfl, rfl, rfl⟩⟩ ?_
  ·
   exact z5_
  rintro _ _ _ _ ⟨p, rfl, rfl, rfl, rfl, he⟩
  have hw := wid_pos (s.drop p)
  refine Sr ?_
  refine JL.next rfl dl_ rfl (fun hx2 => ?_) (fun hx2 => ?_)
  ·
   refine Ru 1 rfl ?_
   refine JL.nil ?_
   refine J.seq ?_
   refine J.cond_t rfl ?_
   refine J.skip ?_
   refine J.block ?_
   refine Sr ?_
   refine Ru 2 rfl ?_
   refine JL.nil ?_
   refine J.block ?_
   refine J.seq ?_
   refine J.seq ?_
   refine J.meet [(10, .bool (decide (65 ≤ chr (s.drop p) ∧ chr (s.drop p) ≤ 90)))] [(4, _), (9, _), (8, _), (7, _), (6, _)] ⟨rfl, rfl, rfl, rfl, rfl, trivial⟩ ?_ ?_
   ·
    refine Rg ?_
    refine Ru 3 rfl ?_
    refine Bs 13 rfl (fun hc3 => ?_) fun hc3 => ?_
    ·
     refine Ru 4 rfl ?_
     refine JL.nil ?_
     refine ⟨rfl, rfl, ?_⟩
     exact z18_
    refine Ru 4 rfl ?_
    refine JL.nil ?_
    refine ⟨rfl, rfl, ?_⟩
    exact z18_
   refine Cs rfl (fun hc4 => ?_) fun hc4 => ?_
   ·
    refine J.skip ?_
    refine J.cond_t rfl ?_
    refine J.skip ?_
    refine ⟨_, ?_, _, ?_, ⟨p + wid (s.drop p), rfl, rfl, rfl, rfl, by rw [he, runes_step _ s p (by omega), prC, decide_eq_true (by omega), Bool.true_and]⟩⟩
    ·
     omega
    exact z5_
   refine J.seq ?_
   refine J.meet [(10, .bool (decide (97 ≤ chr (s.drop p) ∧ chr (s.drop p) ≤ 122)))] [(4, _), (9, _), (8, _), (7, _), (6, _)] ⟨rfl, rfl, rfl, rfl, rfl, trivial⟩ ?_ ?_
   ·
    refine Rg ?_
    refine Ru 3 rfl ?_
    refine Bs 19 rfl (fun hc5 => ?_) fun hc5 => ?_
    ·
     refine Ru 4 rfl ?_
     refine JL.nil ?_
     refine ⟨rfl, rfl, ?_⟩
     exact z18_
    refine Ru 4 rfl ?_
    refine JL.nil ?_
    refine ⟨rfl, rfl, ?_⟩
    exact z18_
   refine Cs rfl (fun hc6 => ?_) fun hc6 => ?_
   ·
    refine J.skip ?_
    refine J.cond_t rfl ?_
    refine J.skip ?_
    refine ⟨_, ?_, _, ?_, ⟨p + wid (s.drop p), rfl, rfl, rfl, rfl, by rw [he, runes_step _ s p (by omega), prC, decide_eq_true (by omega), Bool.true_and]⟩⟩
    ·
     omega
    exact z5_
   refine J.meet [(10, .bool (decide (48 ≤ chr (s.drop p) ∧ chr (s.drop p) ≤ 57)))] [(4, _), (9, _), (8, _), (7, _), (6, _)] ⟨rfl, rfl, rfl, rfl, rfl, trivial⟩ ?_ ?_
   ·
    refine Rg ?_
    refine Ru 3 rfl ?_
    refine Bs 25 rfl (fun hc7 => ?_) fun hc7 => ?_
    ·
     refine Ru 4 rfl ?_
     refine JL.nil ?_
     refine ⟨rfl, rfl, ?_⟩
     exact z18_
    refine Ru 4 rfl ?_
    refine JL.nil ?_
    refine ⟨rfl, rfl, ?_⟩
    exact z18_
   refine Cs rfl (fun hc8 => ?_) fun hc8 => ?_
   ·
    refine J.skip ?_
    refine ⟨_, ?_, _, ?_, ⟨p + wid (s.drop p), rfl, rfl, rfl, rfl, by rw [he, runes_step _ s p (by omega), prC, decide_eq_true (by omega), Bool.true_and]⟩⟩
    ·
     omega
    exact z5_
   refine J.seq ?_
   refine Sr ?_
   refine Ru 3 rfl ?_
   refine JL.nil ?_
   refine Cs rfl (fun hc9 => ?_) fun hc9 => ?_
   ·
    refine J.skip ?_
    refine J.cond_t rfl ?_
    refine J.skip ?_
    refine ⟨_, ?_, _, ?_, ⟨p + wid (s.drop p), rfl, rfl, rfl, rfl, by rw [he, runes_step _ s p (by omega), prC, decide_eq_true (by omega), Bool.true_and]⟩⟩
    ·
     omega
    exact z5_
   refine Sr ?_
   refine Ru 3 rfl ?_
   refine JL.nil ?_
   refine Cs rfl (fun hc10 => ?_) fun hc10 => ?_
   ·
    refine J.skip ?_
    refine J.cond_t rfl ?_
    refine J.skip ?_
    refine ⟨_, ?_, _, ?_, ⟨p + wid (s.drop p), rfl, rfl, rfl, rfl, by rw [he, runes_step _ s p (by omega), prC, decide_eq_true (by omega), Bool.true_and]⟩⟩
    ·
     omega
    exact z5_
   refine Sr ?_
   refine Ru 3 rfl ?_
   refine Nk [29, 35, 34, 33, 32, 31, 30, 10, 4, 9, 8, 7, 6] rfl ?_
   refine Cs rfl (fun hc11 => ?_) fun hc11 => ?_
   ·
    refine J.skip ?_
    refine J.cond_t rfl ?_
    refine J.skip ?_
    refine ⟨_, ?_, _, ?_, ⟨p + wid (s.drop p), rfl, rfl, rfl, rfl, by rw [he, runes_step _ s p (by omega), prC, decide_eq_true (by omega), Bool.true_and]⟩⟩
    ·
     omega
    exact z5_
   refine Sr ?_
   refine Ru 3 rfl ?_
   refine JL.nil ?_
   refine Cs rfl (fun hc12 => ?_) fun hc12 => ?_
   ·
    refine J.skip ?_
    refine J.cond_t rfl ?_
    refine J.skip ?_
    refine ⟨_, ?_, _, ?_, ⟨p + wid (s.drop p), rfl, rfl, rfl, rfl, by rw [he, runes_step _ s p (by omega), prC, decide_eq_true (by omega), Bool.true_and]⟩⟩
    ·
     omega
    exact z5_
   refine Sr ?_
   refine Ru 3 rfl ?_
   refine JL.nil ?_
   refine Cs rfl (fun hc13 => ?_) fun hc13 => ?_
   ·
    refine J.skip ?_
    refine Kp [29, 39, 38, 37, 36, 35, 34, 33, 32, 31, 30, 10, 4, 9, 8, 7, 6] rfl ?_
    refine J.cond_t rfl ?_
    refine J.skip ?_
    refine ⟨_, ?_, _, ?_, ⟨p + wid (s.drop p), rfl, rfl, rfl, rfl, by rw [he, runes_step _ s p (by omega), prC, decide_eq_true (by omega), Bool.true_and]⟩⟩
    ·
     omega
    exact z5_
   refine Sr ?_
   refine Ru 3 rfl ?_
   refine Nk [29, 41, 40, 39, 38, 37, 36, 35, 34, 33, 32, 31, 30, 10, 4, 9, 8, 7, 6] rfl ?_
   refine Cs rfl (fun hc14 => ?_) fun hc14 => ?_
   ·
    refine J.skip ?_
    refine J.cond_t rfl ?_
    refine J.skip ?_
    refine ⟨_, ?_, _, ?_, ⟨p + wid (s.drop p), rfl, rfl, rfl, rfl, by rw [he, runes_step _ s p (by omega), prC, decide_eq_true (by omega), Bool.true_and]⟩⟩
    ·
     omega
    exact z5_
   refine Sr ?_
   refine Ru 3 rfl ?_
   refine JL.nil ?_
   refine Cs rfl (fun hc15 => ?_) fun hc15 => ?_
   ·
    refine J.skip ?_
    refine J.cond_t rfl ?_
    refine J.skip ?_
    refine ⟨_, ?_, _, ?_, ⟨p + wid (s.drop p), rfl, rfl, rfl, rfl, by rw [he, runes_step _ s p (by omega), prC, decide_eq_true (by omega), Bool.true_and]⟩⟩
    ·
     omega
    exact z5_
   refine Sr ?_
   refine Ru 3 rfl ?_
   refine JL.nil ?_
   refine Cs rfl (fun hc16 => ?_) fun hc16 => ?_
   ·
    refine J.skip ?_
    refine Kp [29, 45, 44, 43, 42, 41, 40, 39, 38, 37, 36, 35, 34, 33, 32, 31, 30, 10, 4, 9, 8, 7, 6] rfl ?_
    refine J.cond_t rfl ?_
    refine J.skip ?_
    refine ⟨_, ?_, _, ?_, ⟨p + wid (s.drop p), rfl, rfl, rfl, rfl, by rw [he, runes_step _ s p (by omega), prC, decide_eq_true (by omega), Bool.true_and]⟩⟩
    ·
     omega
    exact z5_
   refine Sr ?_
   refine Ru 3 rfl ?_
   refine Nk [29, 47, 46, 45, 44, 43, 42, 41, 40, 39, 38, 37, 36, 35, 34, 33, 32, 31, 30, 10, 4, 9, 8, 7, 6] rfl ?_
   refine Cs rfl (fun hc17 => ?_) fun hc17 => ?_
   ·
    refine J.skip ?_
    refine J.cond_t rfl ?_
    refine J.skip ?_
    refine ⟨_, ?_, _, ?_, ⟨p + wid (s.drop p), rfl, rfl, rfl, rfl, by rw [he, runes_step _ s p (by omega), prC, decide_eq_true (by omega), Bool.true_and]⟩⟩
    ·
     omega
    exact z5_
   refine Sr ?_
   refine Ru 3 rfl ?_
   refine JL.nil ?_
   refine Cs rfl (fun hc18 => ?_) fun hc18 => ?_
   ·
    refine J.skip ?_
    refine J.cond_t rfl ?_
    refine J.skip ?_
    refine ⟨_, ?_, _, ?_, ⟨p + wid (s.drop p), rfl, rfl, rfl, rfl, by rw [he, runes_step _ s p (by omega), prC, decide_eq_true (by omega), Bool.true_and]⟩⟩
    ·
     omega
    exact z5_
   refine Sr ?_
   refine Ru 3 rfl ?_
   refine JL.nil ?_
   refine Cs rfl (fun hc19 => ?_) fun hc19 => ?_
   ·
    refine J.skip ?_
    refine Kp [29, 51, 50, 49, 48, 47, 46, 45, 44, 43, 42, 41, 40, 39, 38, 37, 36, 35, 34, 33, 32, 31, 30, 10, 4, 9, 8, 7, 6] rfl ?_
    refine J.cond_t rfl ?_
    refine J.skip ?_
    refine ⟨_, ?_, _, ?_, ⟨p + wid (s.drop p), rfl, rfl, rfl, rfl, by rw [he, runes_step _ s p (by omega), prC, decide_eq_true (by omega), Bool.true_and]⟩⟩
    ·
     omega
    exact z5_
   refine Rg ?_
   refine Ru 3 rfl ?_
   refine Nk [29, 53, 52, 51, 50, 49, 48, 47, 46, 45, 44, 43, 42, 41, 40, 39, 38, 37, 36, 35, 34, 33, 32, 31, 30, 10, 4, 9, 8, 7, 6] rfl ?_
   refine Cs rfl (fun hc20 => ?_) fun hc20 => ?_
   ·
    refine J.skip ?_
    refine ⟨_, ?_, _, ?_, ⟨p + wid (s.drop p), rfl, rfl, rfl, rfl, by rw [he, runes_step _ s p (by omega), prC, decide_eq_true (by omega), Bool.true_and]⟩⟩
    ·
     omega
    exact z5_
   refine Sr ?_
   refine Ru 1 rfl ?_
   refine JL.nil ?_
   exact J.retP (RetV.one rfl rfl) (by first | (exfalso; omega) | (rw [he, runes_end _ _ _ (by omega)]) | (rw [he, runes_step _ s p (by omega), prC, decide_eq_false (by omega)]; rfl)) rfl
  refine Ru 1 rfl ?_
  refine JL.nil ?_
  refine J.seq ?_
  refine J.cond_f rfl ?_
  refine J.exit ?_
  refine Sr ?_
  refine Ru 1 rfl ?_
  refine JL.nil ?_
  exact J.retP (RetV.one rfl rfl) (by first | (exfalso; omega) | (rw [he, runes_end _ _ _ (by omega)]) | (rw [he, runes_step _ s p (by omega), prC, decide_eq_false (by omega)]; rfl)) rfl
theorem utf8_fn (s : List UInt8) (h : Part) (hT : Tabs h) (h2 : s.length ≤ 140737488355328) : Pure Tryd.prog 39 [.string ⟨s.toArray⟩] h (.bool (runes (fun c n => !decide (c = 65533 ∧ n = 1)) s 0)) := by
  refine Fn.intro Tryd.func39 rfl Tryd.ntmps39 rfl (fun e he => ?_)
  refine J.weak [(0, _)] ⟨rfl, trivial⟩ ?_
  refine Sr ?_
  refine Ru 1 rfl ?_
  refine JL.nil ?_
  refine J.seq ?_
  refine Sr ?_
  refine Ru 1 rfl ?_
  refine JL.range un_9 rfl rfl (fun b1 => ?_)
  refine JL.nil ?_
  refine J.block ?_
  refine J.loop (fun t_ S_ h_ L_ => ∃ (p : Nat), t_ = s.length - p ∧ S_ = [(0, .string ⟨s.toArray⟩), (8, .pointer (some ⟨b1, 0, none⟩))] ∧ h = h_ ∧ L_ = [.it b1 s p] ∧ (runes (fun c n => !decide (c = 65533 ∧ n = 1)) s 0 = runes (fun c n => !decide (c = 65533 ∧ n = 1)) (s.drop p) 0)) ⟨_, _, ?_, ⟨0, rfl, rfl, rfl, rfl, rfl⟩⟩ ?_
  ·
   exact z5_
  rintro _ _ _ _ ⟨p, rfl, rfl, rfl, rfl, he⟩
  have hw := wid_pos (s.drop p)
  refine Sr ?_
  refine JL.next rfl dl_ rfl (fun hx2 => ?_) (fun hx2 => ?_)
  ·
   refine Ru 1 rfl ?_
   refine JL.nil ?_
   refine J.seq ?_
   refine J.cond_t rfl ?_
   refine J.skip ?_
   refine J.block ?_
   refine Sr ?_
   refine Ru 4 rfl ?_
   refine JL.nil ?_
   refine Sr ?_
   refine Ru 2 rfl ?_
   refine JL.nil ?_
   refine Cs rfl (fun hc3 => ?_) fun hc3 => ?_
   ·
    refine Sr ?_
    refine Ru 2 rfl ?_
    refine JL.op (RunV.strCut_l un_9 rfl rfl z6_ (by omega)) rfl ?_
    refine JL.callP ca_55 rfl (decode_fn (s.drop p) _ hT (by intro hh; have := congrArg List.length hh; simp at this; omega)) rfl ?_
    refine Ru 5 rfl ?_
    refine JL.nil ?_
    refine Sr ?_
    refine Ru 2 rfl ?_
    refine JL.nil ?_
    refine Cs rfl (fun hc5 => ?_) fun hc5 => ?_
    ·
     refine Sr ?_
     refine Ru 1 rfl ?_
     refine JL.nil ?_
     exact J.retP (RetV.one rfl rfl) (by first | (exfalso; omega) | (rw [he, runes_end _ _ _ (by omega)]) | (rw [he, runes_step _ s p (by omega), decide_eq_true (by omega)]; rfl)) rfl
    refine J.skip ?_
    refine ⟨_, ?_, _, ?_, ⟨p + wid (s.drop p), rfl, rfl, rfl, rfl, by rw [he, runes_step _ s p (by omega), decide_eq_false (by omega)]; rfl⟩⟩
    ·
     omega
    exact z5_
   refine J.skip ?_
   refine ⟨_, ?_, _, ?_, ⟨p + wid (s.drop p), rfl, rfl, rfl, rfl, by rw [he, runes_step _ s p (by omega), decide_eq_false (by omega)]; rfl⟩⟩
   ·
    omega
   exact z5_
  refine Ru 1 rfl ?_
  refine JL.nil ?_
  refine J.seq ?_
  refine J.cond_f rfl ?_
  refine J.exit ?_
  refine Sr ?_
  refine Ru 1 rfl ?_
  refine JL.nil ?_
  exact J.retP (RetV.one rfl rfl) (by first | (exfalso; omega) | (rw [he, runes_end _ _ _ (by omega)]) | (rw [he, runes_step _ s p (by omega), decide_eq_true (by omega)]; rfl)) rfl
end Go.Proofs.YtldbjnhfkjicjaaDoor
namespace Go.Proofs.YtldbjnhfkjicjaaDoor
open Go Go.RowKit
theorem z3_ {p : Prop} (u : p := by first | omega | (simp only [List.length_append, List.length_cons, List.length_nil]; omega)) : p := u
theorem z28_ {p : Prop} (u : p := by first | rfl | (simp; omega)) : p := u
theorem z30_ {p : Prop} (u : p := by first | exact RunV.quo_u64 rfl rfl (by omega) (by omega) (by omega) | exact RunV.quo rfl rfl (by omega)) : p := u
theorem z32_ {p : Prop} (u : p := by first | (have hz : oidT l = none := (by rw [he, List.drop_of_length_le (by omega), oidGo]; simp [*]); rw [hz]; rfl) | (have hz : oidT l = some out := (by rw [he, List.drop_of_length_le (by omega), oidGo]; simp [*]); rw [hz]; rfl)) : p := u
end Go.Proofs.YtldbjnhfkjicjaaDoor
namespace Go.Proofs.YtldbjnhfkjicjaaDoor
open Go Go.RowKit
theorem ap_24 : apT Tryd.prog 24 = some (5, 1, 1) := by kernel_rfl
theorem ar_100 : arT Tryd.prog 100 = some (20, 1) := by kernel_rfl
theorem ca_54 : callT Tryd.prog 54 = true := by kernel_rfl
theorem cv_5_87 : convI Tryd.prog 5 87 = some .u64 := by kernel_rfl
theorem cv_87_5 : convI Tryd.prog 87 5 = some .u8 := by kernel_rfl
theorem zr_100 : zeroT Tryd.prog 100 = some [.int .u8 0, .int .u8 0, .int .u8 0, .int .u8 0, .int .u8 0, .int .u8 0, .int .u8 0, .int .u8 0, .int .u8 0, .int .u8 0, .int .u8 0, .int .u8 0, .int .u8 0, .int .u8 0, .int .u8 0, .int .u8 0, .int .u8 0, .int .u8 0, .int .u8 0, .int .u8 0] := by kernel_rfl
theorem zr_5 : zeroT Tryd.prog 5 = some [.int .u8 0] := by kernel_rfl
def dgo : Nat → Nat → Nat → Nat → List UInt8
  | 0, _, _, _ => []
  | f + 1, n, len, least => if 0 < n ∨ len < least then dgo f (n / 10) (len + 1) least ++ [UInt8.ofNat (48 + n % 10)] else []
def dgs (n least : Nat) : List UInt8 := dgo 20 n 0 least
theorem dgo_end {f n len least : Nat} (h : ¬ (0 < n ∨ len < least)) : dgo f n len least = [] := by
  cases f with
  | zero => rfl
  | succ f => simp only [dgo]; rw [if_neg h]
theorem dgo_len : ∀ f n len least, (dgo f n len least).length ≤ f
  | 0, _, _, _ => Nat.le_refl _
  | f + 1, n, len, least => by
    simp only [dgo]; split
    · have := dgo_len f (n / 10) (len + 1) least; simp; omega
    · simp
theorem dgs_len (n least : Nat) : (dgs n least).length ≤ 20 := dgo_len _ _ _ _
theorem ofNat_toNat8 {n : Nat} (h : n < 256) : ((UInt8.ofNat n).toNat : Int) = n := by simp; omega
theorem drop_set_cons {α : Type} (l : List α) (j : Nat) (x : α) (h : j < l.length) : (l.set j x).drop j = x :: l.drop (j + 1) := by
  rw [List.drop_eq_getElem_cons (by simpa using h), List.getElem_set_self]
  congr 1
  apply List.ext_getElem?
  intro i
  simp [List.getElem?_set, show ¬ j = j + 1 + i by omega]
theorem digits_fn {a : Option Addr} {c : Nat} {l : List UInt8} {n least : Nat} {h : Part} (hn : n < 18446744073709551616) (hl : least ≤ 20) (hb : l.length ≤ 70368744177664) :
    Fn Tryd.prog 54 [.slice a l.length c, .int .u64 n, .int .i64 least] h [.row a c 5 1 l.length (u8s l)]
      (Rets fun v _ Lo => ∃ a' c', v = .slice a' (l ++ dgs n least).length c' ∧ Lo = [.row a' c' 5 1 (l ++ dgs n least).length (u8s (l ++ dgs n least))]) := by
  refine Fn.intro Tryd.func54 rfl Tryd.ntmps54 rfl (fun e he => ?_)
  refine J.weak [(0, _), (1, _), (2, _)] ⟨rfl, rfl, rfl, trivial⟩ ?_
  refine Sr ?_
  refine Ru 1 rfl ?_
  refine JL.nil ?_
  refine Sr ?_
  refine JL.alloc zr_100 rfl (fun b1 => ?_)
  refine JL.nil ?_
  refine Sr ?_
  refine Ru 1 rfl ?_
  refine JL.nil ?_
  refine J.seq ?_
  refine J.block ?_
  refine J.loop (fun t_ S_ h_ L_ => ∃ (k m : Nat) (bs : List UInt8), t_ = m + k ∧ S_ = [(0, .slice a l.length c), (1, .int .u64 m), (2, .int .i64 least), (7, .pointer (some ⟨b1, 0, none⟩)), (8, .int .i64 k)] ∧ h = h_ ∧ L_ = [.blk b1 100 (u8s bs), .row a c 5 1 l.length (u8s l)] ∧ (k ≤ 20 ∧ bs.length = 20 ∧ m ≤ n ∧ m < 10 ^ k ∧ dgs n least = dgo k m (20 - k) least ++ bs.drop k)) ⟨_, _, ?_, ⟨20, n, List.replicate 20 0, rfl, rfl, rfl, rfl, ⟨by omega, rfl, by omega, by omega, by simp [dgs]⟩⟩⟩ ?_
  ·
   repeat (first | exact trivial | refine ⟨rfl, ?_⟩ | refine ⟨(by exact some_i64 (by omega)), ?_⟩)
  rintro _ _ _ _ ⟨k, m, bs, rfl, rfl, rfl, rfl, hk, hbs, hmn, hm, he⟩
  have hul : (u8s bs).length = 20 := by rw [u8s_length, hbs]
  refine J.seq ?_
  refine J.seq ?_
  refine J.meet [(16, .bool (decide (0 < m ∨ 20 - k < least)))] [(0, _), (1, _), (2, _), (7, _), (8, _)] ⟨rfl, rfl, rfl, rfl, rfl, trivial⟩ ?_ ?_
  ·
   refine Rg ?_
   refine Ru 3 rfl ?_
   refine Bs 11 rfl (fun hc2 => ?_) fun hc2 => ?_
   ·
    refine Ru 5 rfl ?_
    refine JL.nil ?_
    refine ⟨rfl, rfl, ?_⟩
    exact z18_
   refine Ru 1 rfl ?_
   refine JL.opg rfl rfl  si_ rfl ?_
   refine Ru 3 rfl ?_
   refine JL.nil ?_
   refine ⟨rfl, rfl, ?_⟩
   exact z18_
  refine Cs rfl (fun hc3 => ?_) fun hc3 => ?_
  ·
   obtain ⟨j, rfl⟩ : ∃ j, k = j + 1 := ⟨k - 1, by have : k ≠ 0 := (by rintro rfl; simp at hm; omega); omega⟩
   refine J.skip ?_
   refine J.block ?_
   refine Sr ?_
   refine Ru 1 rfl ?_
   refine JL.op si_ rfl ?_
   refine Ru 1 rfl ?_
   refine JL.nil ?_
   refine Sr ?_
   refine Ru 2 rfl ?_
   refine JL.op (by first | exact RunV.rem_u64 rfl rfl (by omega) (by omega) | exact RunV.rem rfl rfl (by omega)) rfl ?_
   refine JL.op (by first | exact RunV.add_u64 rfl rfl (by omega) (by omega) | exact RunV.add rfl rfl) rfl ?_
   refine JL.op (by first | exact RunV.conv_u8 cv_87_5 rfl (by omega) (by omega) | exact RunV.conv cv_87_5 rfl) rfl ?_
   refine JL.op (RunV.indexArr ar_100 rfl rfl z6_ (by omega)) rfl ?_
   refine JL.store1 ag_5 rfl rfl rfl dl_ z28_ ?_
   refine JL.nil ?_
   refine Rg ?_
   refine Ru 1 rfl ?_
   refine JL.op z30_ rfl ?_
   refine Ru 1 rfl ?_
   refine JL.nil ?_
   rw [show (((j + 1 : Nat) : Int) - 1).toNat = j by omega, show (48 + (m : Int) % 10) = ((UInt8.ofNat (48 + m % 10)).toNat : Int) by rw [ofNat_toNat8 (by omega)]; omega, u8s_set]
   refine ⟨_, ?_, _, ?_, ⟨j, m / 10, bs.set j (UInt8.ofNat (48 + m % 10)), rfl, rfl, rfl, rfl, ⟨by omega, by simp [hbs], by omega, by rw [Nat.pow_succ] at hm; omega, by rw [he, dgo, if_pos hc3, List.append_assoc, show 20 - (j + 1) + 1 = 20 - j by omega, drop_set_cons bs j _ (by omega)]; rfl⟩⟩⟩
   ·
    omega
   repeat (first | exact trivial | refine ⟨rfl, ?_⟩ | refine ⟨(by exact some_i64 (by omega)), ?_⟩)
  refine J.exit ?_
  refine Sr ?_
  refine Ru 2 rfl ?_
  have hdl : (bs.drop k).length ≤ 20 := (by simp; omega); have hd : dgs n least = bs.drop k := by rw [he, dgo_end (by omega)]; rfl
  refine JL.pubB (R := u8R) (sz := 1) dl_ CellsR.of_u8 (by omega) (fun h4 hle4 hB4 => ?_)
  refine JL.ope (RunE.cutArr ar_100 rfl rfl z6_ hB4 (by omega) (by omega)) rfl ?_
  rintro _ ⟨a4, c4, rfl, hS4⟩
  refine JL.append ap_24 rfl rfl CellsR.of_u8 rfl (by assumption) rfl dl_ z3_ rfl rfl (fun a5 c5 xs5 hC5 hN5 => ?_)
  obtain rfl := hC5.u8
  refine Ru 1 rfl ?_
  refine Nk [6] rfl ?_
  rw [← hd]; exact J.ret ⟨_, [_], _, (RetV.one rfl rfl), .cons .here .nil, _, rfl, _, _, rfl, rfl⟩
theorem digits_fn' {a : Option Addr} {c : Nat} {l : List UInt8} {n least : Nat} {N Q : Int} {h : Part} (hN : N = (n : Int)) (hQ : Q = (least : Int)) (hn : n < 18446744073709551616) (hl : least ≤ 20) (hb : l.length ≤ 70368744177664) :
    Fn Tryd.prog 54 [.slice a l.length c, .int .u64 N, .int .i64 Q] h [.row a c 5 1 l.length (u8s l)]
      (Rets fun v _ Lo => ∃ a' c', v = .slice a' (l ++ dgs n least).length c' ∧ Lo = [.row a' c' 5 1 (l ++ dgs n least).length (u8s (l ++ dgs n least))]) := by
  subst hN hQ
  exact digits_fn hn hl hb
def oidGo : List UInt8 → List UInt8 → Nat → Bool → Bool → Option (List UInt8)
  | [], out, _, fresh, first => if !fresh || first then none else some out
  | c :: r, out, n, fresh, first =>
    if (fresh && decide (c.toNat = 128)) || decide (72057594037927935 < n) then none
    else if 127 < c.toNat then oidGo r out (n * 128 + c.toNat % 128) false first
    else if first then oidGo r (out ++ dgs (min ((n * 128 + c.toNat % 128) / 40) 2) 1 ++ [46] ++ dgs (n * 128 + c.toNat % 128 - 40 * min ((n * 128 + c.toNat % 128) / 40) 2) 1) 0 true false
    else oidGo r (out ++ [46] ++ dgs (n * 128 + c.toNat % 128) 1) 0 true false
def oidT (b : List UInt8) : Option (List UInt8) := oidGo b [] 0 true true
theorem oidtext_fn' {a0 : Option Addr} {c0 : Nat} {l : List UInt8} {h : Part} (hl : SlR u8R 1 h a0 c0 l) (hb : l.length ≤ 1073741824) :
    Fn Tryd.prog 38 [.slice a0 l.length c0] h [] (Rets fun u _ _ => u = .tuple #[.string ⟨((oidT l).getD []).toArray⟩, .int .i64 (if (oidT l).isSome then 0 else 20)]) := by
  refine Fn.intro Tryd.func38 rfl Tryd.ntmps38 rfl (fun e he => ?_)
  refine J.weak [(0, _)] ⟨rfl, trivial⟩ ?_
  refine Sr ?_
  refine Ru 2 rfl ?_
  refine JL.nil ?_
  refine Sr ?_
  refine Ru 1 rfl ?_
  refine JL.nil ?_
  refine Sr ?_
  refine Ru 3 rfl ?_
  refine JL.nil ?_
  refine J.seq ?_
  refine Sr ?_
  refine JL.row_nil 5 1 ?_
  refine Ru 3 rfl ?_
  refine JL.nil ?_
  refine J.block ?_
  refine J.loop (fun t_ S_ h_ L_ => ∃ (g : Part) (i : Nat) (out : List UInt8) (n : Nat) (fresh first : Bool) (a : Option Addr) (c : Nat), t_ = l.length - i ∧ S_ = [(4, .slice a out.length c), (5, .int .u64 n), (6, .bool fresh), (7, .bool first), (11, .slice a0 l.length c0), (12, .int .i64 l.length), (13, .int .i64 i)] ∧ g = h_ ∧ L_ = [.row a c 5 1 out.length (u8s out)] ∧ (h.le g ∧ i ≤ l.length ∧ n ≤ 9223372036854775807 ∧ out.length ≤ 41 * i ∧ oidT l = oidGo (l.drop i) out n fresh first)) ⟨_, _, ?_, ⟨_, 0, [], 0, true, true, none, 0, rfl, rfl, rfl, rfl, ⟨Part.le.refl _, by omega, by omega, by simp, rfl⟩⟩⟩ ?_
  ·
   repeat (first | exact trivial | refine ⟨rfl, ?_⟩ | refine ⟨(by exact some_int (by simp <;> omega)), ?_⟩)
  rintro _ _ _ _ ⟨g, i, out, n, fresh, first, a, c, rfl, rfl, rfl, rfl, hhg, hi, hn, ho, he⟩
  have hl := hl.mono hhg
  refine Sr ?_
  refine Ru 1 rfl ?_
  refine JL.nil ?_
  refine J.seq ?_
  refine Cs rfl (fun hc1 => ?_) fun hc1 => ?_
  ·
   refine J.skip ?_
   refine J.seq ?_
   refine J.block ?_
   refine Sr ?_
   refine JL.ope (RunE.index sl_24 rfl rfl z6_ (by assumption) rfl (by omega)) rfl ?_
   rintro _ ⟨b2, o2, hi2, rfl, hE2⟩
   have e1 : decide ((l[i].toNat : Int) = 128) = decide (l[i].toNat = 128) := decide_eq_decide.2 (by omega); have e2 : decide ((72057594037927935 : Int) < n) = decide (72057594037927935 < n) := decide_eq_decide.2 (by omega)
   refine JL.op (RunV.ld_u8 ag_5 rfl (by assumption)) rfl ?_
   refine Ru 1 rfl ?_
   refine JL.nil ?_
   refine J.seq ?_
   refine J.seq ?_
   refine J.meet [(25, .bool ((fresh && decide ((l[i].toNat : Int) = 128)) || decide ((72057594037927935 : Int) < n)))] [(9, _), (16, _), (15, _), (14, _), (4, _), (5, _), (6, _), (7, _), (11, _), (12, _), (13, _)] ⟨rfl, rfl, rfl, rfl, rfl, rfl, rfl, rfl, rfl, rfl, rfl, trivial⟩ ?_ ?_
   ·
    refine Rg ?_
    refine Ru 2 rfl ?_
    refine Bs 18 rfl (fun hc4 => ?_) fun hc4 => ?_
    ·
     refine Ru 4 rfl ?_
     refine Bs 22 rfl (fun hc5 => ?_) fun hc5 => ?_
     ·
      refine Ru 3 rfl ?_
      refine JL.nil ?_
      refine ⟨rfl, rfl, ?_⟩
      repeat (first | exact trivial | refine ⟨rfl, ?_⟩ | refine ⟨(by exact some_bool (by cases fresh <;> simp_all)), ?_⟩)
     refine Ru 3 rfl ?_
     refine JL.nil ?_
     refine ⟨rfl, rfl, ?_⟩
     repeat (first | exact trivial | refine ⟨rfl, ?_⟩ | refine ⟨(by exact some_bool (by cases fresh <;> simp_all)), ?_⟩)
    refine Ru 7 rfl ?_
    refine JL.nil ?_
    refine ⟨rfl, rfl, ?_⟩
    repeat (first | exact trivial | refine ⟨rfl, ?_⟩ | refine ⟨(by exact some_bool (by cases fresh <;> simp_all)), ?_⟩)
   refine Cs rfl (fun hc6 => ?_) fun hc6 => ?_
   ·
    rw [e1, e2] at hc6; have hcz := hc6
    refine Sr ?_
    refine Ru 2 rfl ?_
    refine JL.nil ?_
    exact J.retV (RetV.two rfl rfl rfl) (by have hz : oidT l = none := (by rw [he, List.drop_eq_getElem_cons (by omega), oidGo, if_pos hcz]); rw [hz]; rfl)
   rw [e1, e2] at hc6; have hcz := hc6; have hnn : ¬ 72057594037927935 < n := (by intro hh; rw [decide_eq_true hh] at hc6; simp at hc6); have hdr := List.drop_eq_getElem_cons hi2
   refine J.skip ?_
   refine Sr ?_
   refine Ru 1 rfl ?_
   refine JL.op (by first | exact RunV.shl_u64 128 rfl rfl (by decide) (by decide) (by decide) (by omega) (by omega) | exact RunV.shl rfl rfl (by decide) (by decide)) rfl ?_
   refine Ru 1 rfl ?_
   refine JL.op (by first | exact RunV.maskb_u8 7 128 rfl rfl (by decide) (by decide) (by decide) | exact RunV.mask_u8 7 128 rfl rfl (by decide) (by decide) (by decide) (by omega) (by omega) | exact RunV.and_ rfl rfl) rfl ?_
   refine JL.op (by first | exact RunV.convb_u64 cv_5_87 rfl | exact RunV.conv_u64 cv_5_87 rfl (by omega) (by omega) | exact RunV.conv cv_5_87 rfl) rfl ?_
   refine JL.op (RunV.join_u64 7 128 rfl rfl (by decide) (by omega) (by omega) (by omega) (by omega) (by omega) (by omega)) rfl ?_
   refine Ru 2 rfl ?_
   refine JL.nil ?_
   refine J.seq ?_
   refine Sr ?_
   refine Ru 2 rfl ?_
   refine JL.nil ?_
   refine Cs rfl (fun hc7 => ?_) fun hc7 => ?_
   ·
    refine J.exit ?_
    refine Rg ?_
    refine JL.op ai_ rfl ?_
    refine Ru 1 rfl ?_
    refine JL.nil ?_
    refine ⟨_, ?_, _, ?_, ⟨_, i + 1, out, n * 128 + l[i].toNat % 128, false, first, a, c, rfl, rfl, rfl, rfl, ⟨by assumption, by omega, by omega, by omega, by rw [he, hdr, oidGo, if_neg (by rw [hcz]; decide), if_pos (by omega)]⟩⟩⟩
    ·
     omega
    repeat (first | exact trivial | refine ⟨rfl, ?_⟩ | refine ⟨(by exact some_int (by simp <;> omega)), ?_⟩)
   refine J.skip ?_
   refine J.seq ?_
   refine Sr ?_
   refine Ru 1 rfl ?_
   refine JL.nil ?_
   refine Cs rfl (fun hc8 => ?_) fun hc8 => ?_
   ·
    subst hc8; obtain ⟨m2, hm2⟩ : ∃ m2 : Nat, m2 = n * 128 + l[i].toNat % 128 - 40 * min ((n * 128 + l[i].toNat % 128) / 40) 2 := ⟨_, rfl⟩
    refine Sr ?_
    refine Ru 1 rfl ?_
    refine JL.op z30_ rfl ?_
    refine JL.op (RunV.min2 rfl rfl) rfl ?_
    refine Ru 1 rfl ?_
    refine Nk [10, 37, 36, 35, 34, 33, 32, 6, 5, 31, 30, 29, 28, 27, 26, 25, 9, 16, 15, 14, 4, 7, 11, 12, 13] rfl ?_
    refine Sr ?_
    refine Ru 2 rfl ?_
    refine JL.call ca_54 rfl (digits_fn' (n := min ((n * 128 + l[i].toNat % 128) / 40) 2) (least := 1) (by split <;> omega) rfl (by omega) (by omega) (by omega)) pt_ rfl ?_
    rintro _ h9 Lo9 hle9 ⟨a9, c9, rfl, rfl⟩
    replace hl := hl.mono hle9
    replace hhg := hhg.mono hle9
    refine Ru 1 rfl ?_
    refine JL.nil ?_
    refine Sr ?_
    refine Ru 2 rfl ?_
    refine JL.op (by first | exact RunV.mul_u64 rfl rfl (by omega) (by omega) | exact RunV.mul rfl rfl) rfl ?_
    refine JL.op (by first | exact RunV.sub_u64 rfl rfl (by omega) (by omega) | exact RunV.sub rfl rfl) rfl ?_
    refine Ru 1 rfl ?_
    refine JL.nil ?_
    refine Rg ?_
    refine Ru 1 rfl ?_
    refine JL.nil ?_
    refine Sr ?_
    have hdl2 := dgs_len m2 1; have hdl := dgs_len (min ((n * 128 + l[i].toNat % 128) / 40) 2) 1
    refine Ru 1 rfl ?_
    refine JL.lit1 ap_24 zr_5 rfl rfl rfl rfl rfl (fun b10 => ?_)
    refine JL.append1 ap_24 rfl rfl CellsR.of_u8 rfl dl_ dl_ rfl ((show u8R _ [.int .u8 46] 46 from rfl)) z3_ rfl rfl (fun a11 c11 xs11 hC11 hN11 => ?_)
    obtain rfl := hC11.u8
    refine Ru 1 rfl ?_
    refine JL.call ca_54 rfl (digits_fn' (n := m2) (least := 1) (by (try split) <;> omega) rfl (by omega) (by omega) (by simp; omega)) pt_ rfl ?_
    rintro _ h12 Lo12 hle12 ⟨a12, c12, rfl, rfl⟩
    replace hl := hl.mono hle12
    replace hhg := hhg.mono hle12
    refine Ru 1 rfl ?_
    refine JL.nil ?_
    refine Rg ?_
    refine Ru 2 rfl ?_
    refine Nk [6, 5, 4, 49, 48, 47, 46, 45, 7, 44, 43, 42, 41, 40, 39, 38, 10, 37, 36, 35, 34, 33, 32, 31, 30, 29, 28, 27, 26, 25, 9, 16, 15, 14, 11, 12, 13] rfl ?_
    refine Rg ?_
    refine JL.op ai_ rfl ?_
    refine Ru 1 rfl ?_
    refine JL.nil ?_
    refine ⟨_, ?_, _, ?_, ⟨_, i + 1, _, 0, true, false, _, _, rfl, rfl, rfl, rfl, ⟨by assumption, by omega, by omega, by simp; omega, by rw [he, hdr, oidGo, if_neg (by rw [hcz]; decide), if_neg (by omega)]; subst hm2; simp [*]⟩⟩⟩
    ·
     omega
    repeat (first | exact trivial | refine ⟨rfl, ?_⟩ | refine ⟨(by exact some_int (by simp <;> omega)), ?_⟩)
   subst hc8; obtain ⟨m2, hm2⟩ : ∃ m2 : Nat, m2 = n * 128 + l[i].toNat % 128 := ⟨_, rfl⟩
   refine J.skip ?_
   refine Kp [34, 33, 32, 6, 5, 31, 30, 29, 28, 27, 26, 25, 9, 16, 15, 14, 4, 7, 11, 12, 13] rfl ?_
   refine Sr ?_
   have hdl2 := dgs_len m2 1; have hdl := dgs_len (min ((n * 128 + l[i].toNat % 128) / 40) 2) 1
   refine Ru 1 rfl ?_
   refine JL.lit1 ap_24 zr_5 rfl rfl rfl rfl rfl (fun b13 => ?_)
   refine JL.append1 ap_24 rfl rfl CellsR.of_u8 rfl dl_ dl_ rfl ((show u8R _ [.int .u8 46] 46 from rfl)) z3_ rfl rfl (fun a14 c14 xs14 hC14 hN14 => ?_)
   obtain rfl := hC14.u8
   refine Ru 1 rfl ?_
   refine JL.call ca_54 rfl (digits_fn' (n := m2) (least := 1) (by (try split) <;> omega) rfl (by omega) (by omega) (by simp; omega)) pt_ rfl ?_
   rintro _ h15 Lo15 hle15 ⟨a15, c15, rfl, rfl⟩
   replace hl := hl.mono hle15
   replace hhg := hhg.mono hle15
   refine Ru 1 rfl ?_
   refine JL.nil ?_
   refine Rg ?_
   refine Ru 2 rfl ?_
   refine JL.nil ?_
   refine Rg ?_
   refine JL.op ai_ rfl ?_
   refine Ru 1 rfl ?_
   refine JL.nil ?_
   refine ⟨_, ?_, _, ?_, ⟨_, i + 1, _, 0, true, false, _, _, rfl, rfl, rfl, rfl, ⟨by assumption, by omega, by omega, by simp; omega, by rw [he, hdr, oidGo, if_neg (by rw [hcz]; decide), if_neg (by omega)]; subst hm2; simp [*]⟩⟩⟩
   ·
    omega
   repeat (first | exact trivial | refine ⟨rfl, ?_⟩ | refine ⟨(by exact some_int (by simp <;> omega)), ?_⟩)
  refine J.exit ?_
  refine Kp [4, 6, 7] rfl ?_
  refine J.seq ?_
  refine Sr ?_
  refine Ru 3 rfl ?_
  refine Bs 53 rfl (fun hc16 => ?_) fun hc16 => ?_
  ·
   refine Ru 2 rfl ?_
   refine Nk [55, 4] rfl ?_
   refine J.cond_t rfl ?_
   refine Sr ?_
   refine Ru 2 rfl ?_
   refine JL.nil ?_
   exact J.retV (RetV.two rfl rfl rfl) z32_
  refine Ru 2 rfl ?_
  refine Nk [55, 4] rfl ?_
  refine Cs rfl (fun hc17 => ?_) fun hc17 => ?_
  ·
   refine Sr ?_
   refine Ru 2 rfl ?_
   refine JL.nil ?_
   exact J.retV (RetV.two rfl rfl rfl) z32_
  refine J.skip ?_
  refine Sr ?_
  refine Ru 1 rfl ?_
  refine JL.pub (R := u8R) (l := out) dl_ CellsR.of_u8 rfl (by omega) (fun hp hlep hSp => ?_)
  refine JL.op (RunV.strB sb_24_9 rfl (by assumption) rfl) rfl ?_
  refine Ru 2 rfl ?_
  refine Nk [3, 2] rfl ?_
  exact J.retV (RetV.two rfl rfl rfl) z32_
end Go.Proofs.YtldbjnhfkjicjaaDoor
namespace Go.Proofs.YtldbjnhfkjicjaaDoor
open Go Go.RowKit
theorem z1_ {p : Prop} (u : p := by first | (rw [valB_1 (by omega), ← e0 (by omega)]; (congr 1; first | exact (decide_eq_true (by omega)).symm | exact (decide_eq_false (by omega)).symm | exact decide_eq_decide.2 (by omega) | (rw [← decide_not]; exact decide_eq_decide.2 (by omega)))) | (rw [valB_1 (by omega)]; (congr 1; first | exact (decide_eq_true (by omega)).symm | exact (decide_eq_false (by omega)).symm | exact decide_eq_decide.2 (by omega) | (rw [← decide_not]; exact decide_eq_decide.2 (by omega)))) | rw [valB_2 (by omega)] | (rw [valB_3 (by omega), bitsB, ← e0, ← e1, decide_eq_true (by omega)]; done) | (rw [valB_3 (by omega), bitsB, ← e0, ← e1]; congr 1; exact decide_eq_decide.2 ⟨fun hh => ⟨by omega, .inr (by exact_mod_cast hh)⟩, fun ⟨_, hh⟩ => by exact_mod_cast hh.resolve_left (by omega)⟩) | (rw [valB_3 (by omega), bitsB, ← e0 (by omega), decide_eq_false (by omega)]; done) | (rw [valB_3 (by omega), bitsB, decide_eq_false (by omega)]; done) | (rw [valB_5 (by omega)]; (congr 1; first | exact (decide_eq_true (by omega)).symm | exact (decide_eq_false (by omega)).symm | exact decide_eq_decide.2 (by omega) | (rw [← decide_not]; exact decide_eq_decide.2 (by omega)))) | (rw [valB_6 (by omega)]; cases (oidT l).isSome <;> rfl) | rw [valB_12 (by omega)] | rw [valB_19 (by omega)] | rw [valB_22 (by omega)] | (rw [valB_23 (by omega)]; cases psOk l <;> rfl) | (rw [valB_24 (by omega)]; cases plOk l <;> rfl) | rw [valB_0 (by omega)]) : p := u
theorem z4_ {p : Prop} (u : p := by repeat (first | exact trivial | refine ⟨rfl, ?_⟩ | refine ⟨(by exact some_int (by omega)), ?_⟩)) : p := u
theorem z22_ {p : Prop} (u : p := by rw [leastB, if_neg (by omega), if_neg (by omega), ← e0, ← e1]; (congr 1; first | exact (decide_eq_true (by omega)).symm | exact (decide_eq_false (by omega)).symm | exact decide_eq_decide.2 (by omega) | (rw [← decide_not]; exact decide_eq_decide.2 (by omega)))) : p := u
end Go.Proofs.YtldbjnhfkjicjaaDoor
namespace Go.Proofs.YtldbjnhfkjicjaaDoor
open Go Go.RowKit
theorem ca_25 : callT Tryd.prog 25 = true := by kernel_rfl
theorem ca_37 : callT Tryd.prog 37 = true := by kernel_rfl
theorem ca_38 : callT Tryd.prog 38 = true := by kernel_rfl
theorem ca_39 : callT Tryd.prog 39 = true := by kernel_rfl
theorem ca_40 : callT Tryd.prog 40 = true := by kernel_rfl
theorem ca_41 : callT Tryd.prog 41 = true := by kernel_rfl
theorem ca_42 : callT Tryd.prog 42 = true := by kernel_rfl
theorem ca_43 : callT Tryd.prog 43 = true := by kernel_rfl
theorem cv_3_5 : convI Tryd.prog 3 5 = some .u8 := by kernel_rfl
theorem oidtext_fn {a0 : Option Addr} {c0 : Nat} {l : List UInt8} {h : Part} (hl : SlR u8R 1 h a0 c0 l) (hb : l.length ≤ 1073741824) :
    Pure Tryd.prog 38 [.slice a0 l.length c0] h (.tuple #[.string ⟨((oidT l).getD []).toArray⟩, .int .i64 (if (oidT l).isSome then 0 else 20)]) := Pure.ofV (oidtext_fn' hl hb)
theorem form_cases (t : Int) : form t = 0 ∨ form t = 1 ∨ form t = 2 := by
  unfold form
  split
  · exact .inr (.inr rfl)
  · split
    · exact .inr (.inl rfl)
    · exact .inl rfl
theorem known_fn (t : Int) (h : Part) : Pure Tryd.prog 37 [.int .i64 t] h (.tuple #[.bool (decide (form t ≠ 0)), .bool (decide (form t = 2))]) := by
  refine Fn.intro Tryd.func37 rfl Tryd.ntmps37 rfl (fun e he => ?_)
  refine J.weak [(0, _)] ⟨rfl, trivial⟩ ?_
  refine Sr ?_
  refine Ru 2 rfl ?_
  refine JL.nil ?_
  refine J.seq ?_
  refine Sr ?_
  refine Ru 1 rfl ?_
  refine JL.nil ?_
  refine J.block ?_
  refine J.seq ?_
  refine Sr ?_
  refine Ru 2 rfl ?_
  refine JL.nil ?_
  refine Cs rfl (fun hc1 => ?_) fun hc1 => ?_
  ·
   refine J.skip ?_
   refine J.cond_t rfl ?_
   refine Sr ?_
   refine Ru 2 rfl ?_
   refine Nk [3, 2] rfl ?_
   exact J.retP (RetV.two rfl rfl rfl) (by simp [form, *]) rfl
  refine Rg ?_
  refine Ru 2 rfl ?_
  refine Nk [5, 4, 3, 2] rfl ?_
  refine Cs rfl (fun hc2 => ?_) fun hc2 => ?_
  ·
   refine Sr ?_
   refine Ru 2 rfl ?_
   refine Nk [3, 2] rfl ?_
   exact J.retP (RetV.two rfl rfl rfl) (by simp [form, *]) rfl
  refine J.seq ?_
  refine Sr ?_
  refine Ru 2 rfl ?_
  refine JL.nil ?_
  refine Cs rfl (fun hc3 => ?_) fun hc3 => ?_
  ·
   refine J.skip ?_
   refine Kp [8, 3, 2] rfl ?_
   refine J.cond_t rfl ?_
   refine Sr ?_
   refine Ru 2 rfl ?_
   refine JL.nil ?_
   exact J.retP (RetV.two rfl rfl rfl) (by simp [form, *]) rfl
  refine Sr ?_
  refine Ru 2 rfl ?_
  refine Nk [8, 4, 3, 2] rfl ?_
  refine Cs rfl (fun hc4 => ?_) fun hc4 => ?_
  ·
   refine J.skip ?_
   refine J.cond_t rfl ?_
   refine Sr ?_
   refine Ru 2 rfl ?_
   refine Nk [3, 2] rfl ?_
   exact J.retP (RetV.two rfl rfl rfl) (by simp [form, *]) rfl
  refine Sr ?_
  refine Ru 2 rfl ?_
  refine JL.nil ?_
  refine Cs rfl (fun hc5 => ?_) fun hc5 => ?_
  ·
   refine J.skip ?_
   refine Kp [8, 3, 2] rfl ?_
   refine J.cond_t rfl ?_
   refine Sr ?_
   refine Ru 2 rfl ?_
   refine JL.nil ?_
   exact J.retP (RetV.two rfl rfl rfl) (by simp [form, *]) rfl
  refine Sr ?_
  refine Ru 2 rfl ?_
  refine Nk [8, 4, 3, 2] rfl ?_
  refine Cs rfl (fun hc6 => ?_) fun hc6 => ?_
  ·
   refine J.skip ?_
   refine J.cond_t rfl ?_
   refine Sr ?_
   refine Ru 2 rfl ?_
   refine Nk [3, 2] rfl ?_
   exact J.retP (RetV.two rfl rfl rfl) (by simp [form, *]) rfl
  refine Sr ?_
  refine Ru 2 rfl ?_
  refine JL.nil ?_
  refine Cs rfl (fun hc7 => ?_) fun hc7 => ?_
  ·
   refine J.skip ?_
   refine Kp [8, 3, 2] rfl ?_
   refine J.cond_t rfl ?_
   refine Sr ?_
   refine Ru 2 rfl ?_
   refine JL.nil ?_
   exact J.retP (RetV.two rfl rfl rfl) (by simp [form, *]) rfl
  refine Sr ?_
  refine Ru 2 rfl ?_
  refine Nk [8, 4, 3, 2] rfl ?_
  refine Cs rfl (fun hc8 => ?_) fun hc8 => ?_
  ·
   refine J.skip ?_
   refine J.cond_t rfl ?_
   refine Sr ?_
   refine Ru 2 rfl ?_
   refine Nk [3, 2] rfl ?_
   exact J.retP (RetV.two rfl rfl rfl) (by simp [form, *]) rfl
  refine Sr ?_
  refine Ru 2 rfl ?_
  refine JL.nil ?_
  refine Cs rfl (fun hc9 => ?_) fun hc9 => ?_
  ·
   refine J.skip ?_
   refine Kp [8, 3, 2] rfl ?_
   refine J.cond_t rfl ?_
   refine Sr ?_
   refine Ru 2 rfl ?_
   refine JL.nil ?_
   exact J.retP (RetV.two rfl rfl rfl) (by simp [form, *]) rfl
  refine Sr ?_
  refine Ru 2 rfl ?_
  refine Nk [8, 4, 3, 2] rfl ?_
  refine Cs rfl (fun hc10 => ?_) fun hc10 => ?_
  ·
   refine J.skip ?_
   refine J.cond_t rfl ?_
   refine Sr ?_
   refine Ru 2 rfl ?_
   refine Nk [3, 2] rfl ?_
   exact J.retP (RetV.two rfl rfl rfl) (by simp [form, *]) rfl
  refine Sr ?_
  refine Ru 2 rfl ?_
  refine JL.nil ?_
  refine Cs rfl (fun hc11 => ?_) fun hc11 => ?_
  ·
   refine J.skip ?_
   refine Kp [8, 3, 2] rfl ?_
   refine J.cond_t rfl ?_
   refine Sr ?_
   refine Ru 2 rfl ?_
   refine JL.nil ?_
   exact J.retP (RetV.two rfl rfl rfl) (by simp [form, *]) rfl
  refine Sr ?_
  refine Ru 2 rfl ?_
  refine Nk [8, 4, 3, 2] rfl ?_
  refine Cs rfl (fun hc12 => ?_) fun hc12 => ?_
  ·
   refine J.skip ?_
   refine J.cond_t rfl ?_
   refine Sr ?_
   refine Ru 2 rfl ?_
   refine Nk [3, 2] rfl ?_
   exact J.retP (RetV.two rfl rfl rfl) (by simp [form, *]) rfl
  refine Sr ?_
  refine Ru 2 rfl ?_
  refine JL.nil ?_
  refine Cs rfl (fun hc13 => ?_) fun hc13 => ?_
  ·
   refine J.skip ?_
   refine Kp [8, 3, 2] rfl ?_
   refine J.cond_t rfl ?_
   refine Sr ?_
   refine Ru 2 rfl ?_
   refine JL.nil ?_
   exact J.retP (RetV.two rfl rfl rfl) (by simp [form, *]) rfl
  refine Rg ?_
  refine Ru 2 rfl ?_
  refine Nk [8, 3, 2] rfl ?_
  refine Cs rfl (fun hc14 => ?_) fun hc14 => ?_
  ·
   refine Sr ?_
   refine Ru 2 rfl ?_
   refine JL.nil ?_
   exact J.retP (RetV.two rfl rfl rfl) (by simp [form, *]) rfl
  refine J.skip ?_
  refine Sr ?_
  refine Ru 2 rfl ?_
  refine JL.nil ?_
  exact J.retP (RetV.two rfl rfl rfl) (by simp [form, *]) rfl
theorem pmay_fn {x : Nd} {cs : List Value} {h : Part} (r : NdR h cs x) : Pure Tryd.prog 27 [.agg cs.toArray] h (.bool (mayB x.cls x.tag x.cons)) := by
  cases x with
  | mk c t k bs ks =>
  obtain ⟨a, ca, b, cb, rfl, ha, hb⟩ := r.inv
  simp only [Nd.cls, Nd.tag, Nd.cons]
  have hf := form_cases t
  refine Fn.intro Tryd.func27 rfl Tryd.ntmps27 rfl (fun e he => ?_)
  refine J.weak [(0, _)] ⟨rfl, trivial⟩ ?_
  refine Sr ?_
  refine JL.box rfl rfl rfl (fun b1 => ?_)
  refine Ru 1 rfl ?_
  refine JL.nil ?_
  refine J.seq ?_
  refine Sr ?_
  refine Ru 1 rfl ?_
  refine JL.op (RunV.own1 ag_3 rfl mm_ rfl) rfl ?_
  refine Ru 2 rfl ?_
  refine Bs 8 rfl (fun hc2 => ?_) fun hc2 => ?_
  ·
   refine Ru 4 rfl ?_
   refine Nk [12, 2, 1] rfl ?_
   refine J.cond_t rfl ?_
   refine Sr ?_
   refine Ru 1 rfl ?_
   refine JL.nil ?_
   exact J.retP (RetV.one rfl rfl) (by rcases hf with hf | hf | hf <;> cases k <;> simp_all [mayB] <;> omega) rfl
  refine Ru 1 rfl ?_
  refine JL.opg rfl rfl  (RunV.own1 ag_3 rfl mm_ rfl) rfl ?_
  refine Ru 2 rfl ?_
  refine Nk [12, 2, 1] rfl ?_
  refine Cs rfl (fun hc3 => ?_) fun hc3 => ?_
  ·
   refine Sr ?_
   refine Ru 1 rfl ?_
   refine JL.nil ?_
   exact J.retP (RetV.one rfl rfl) (by rcases hf with hf | hf | hf <;> cases k <;> simp_all [mayB] <;> omega) rfl
  refine J.skip ?_
  refine J.seq ?_
  refine Sr ?_
  refine Ru 1 rfl ?_
  refine JL.op (RunV.own1 ag_3 rfl mm_ rfl) rfl ?_
  refine JL.nil ?_
  refine J.block ?_
  refine Sr ?_
  refine Ru 2 rfl ?_
  refine JL.nil ?_
  refine Cs rfl (fun hc4 => ?_) fun hc4 => ?_
  ·
   refine Sr ?_
   refine Ru 1 rfl ?_
   refine Nk [2] rfl ?_
   exact J.retP (RetV.one rfl rfl) (by rcases hf with hf | hf | hf <;> cases k <;> simp_all [mayB] <;> omega) rfl
  refine Sr ?_
  refine Ru 2 rfl ?_
  refine Nk [17, 2, 1] rfl ?_
  refine Cs rfl (fun hc5 => ?_) fun hc5 => ?_
  ·
   refine Sr ?_
   refine Ru 1 rfl ?_
   refine JL.op (RunV.own1 ag_3 rfl mm_ rfl) rfl ?_
   refine JL.callP ca_37 rfl (known_fn _ _) rfl ?_
   refine Ru 5 rfl ?_
   refine Nk [4, 3, 2, 1] rfl ?_
   refine Sr ?_
   refine Ru 2 rfl ?_
   refine Bs 26 rfl (fun hc7 => ?_) fun hc7 => ?_
   ·
    refine Ru 2 rfl ?_
    refine JL.opg rfl rfl  (RunV.own1 ag_4 rfl mm_ rfl) rfl ?_
    refine JL.opg rfl rfl  (RunV.eqlB un_4 rfl rfl) rfl ?_
    refine Ru 2 rfl ?_
    refine Nk [2] rfl ?_
    exact J.retP (RetV.one rfl rfl) (by rcases hf with hf | hf | hf <;> cases k <;> simp_all [mayB] <;> omega) rfl
   refine Ru 6 rfl ?_
   refine Nk [2] rfl ?_
   exact J.retP (RetV.one rfl rfl) (by rcases hf with hf | hf | hf <;> cases k <;> simp_all [mayB] <;> omega) rfl
  refine J.skip ?_
  refine Sr ?_
  refine Ru 1 rfl ?_
  refine JL.nil ?_
  exact J.retP (RetV.one rfl rfl) (by rcases hf with hf | hf | hf <;> cases k <;> simp_all [mayB] <;> omega) rfl
def leastB (b : List UInt8) : Bool := if b.length = 0 then false else if b.length = 1 then true else decide (¬ (byteAt b 0 = 0 ∧ byteAt b 1 < 128 ∨ byteAt b 0 = 255 ∧ 127 < byteAt b 1))
theorem least_fn {a : Option Addr} {c : Nat} {l : List UInt8} {h : Part} (hl : SlR u8R 1 h a c l) : Pure Tryd.prog 25 [.slice a l.length c] h (.bool (leastB l)) := by
  have hb := hl.le63
  refine Fn.intro Tryd.func25 rfl Tryd.ntmps25 rfl (fun e he => ?_)
  refine J.weak [(0, _)] ⟨rfl, trivial⟩ ?_
  refine Sr ?_
  refine Ru 1 rfl ?_
  refine JL.nil ?_
  refine J.seq ?_
  refine J.block ?_
  refine Sr ?_
  refine Ru 4 rfl ?_
  refine JL.nil ?_
  refine Cs rfl (fun hc1 => ?_) fun hc1 => ?_
  ·
   refine Sr ?_
   refine Ru 1 rfl ?_
   refine Nk [2, 0] rfl ?_
   exact J.retP (RetV.one rfl rfl) (by rw [leastB, if_pos (by omega)]) rfl
  refine Sr ?_
  refine Ru 4 rfl ?_
  refine Nk [7, 2, 0] rfl ?_
  refine Cs rfl (fun hc2 => ?_) fun hc2 => ?_
  ·
   refine Sr ?_
   refine Ru 1 rfl ?_
   refine JL.nil ?_
   exact J.retP (RetV.one rfl rfl) (by rw [leastB, if_neg (by omega), if_pos (by omega)]) rfl
  refine J.skip ?_
  refine Sr ?_
  have e0 := byteAt_eq l 0 (by omega); have e1 := byteAt_eq l 1 (by omega)
  refine Ru 1 rfl ?_
  refine JL.ope (RunE.index sl_24 rfl rfl (show _ = ((0 : Nat) : Int) from rfl) (by assumption) rfl (by omega)) rfl ?_
  rintro _ ⟨b3, o3, hi3, rfl, hE3⟩
  refine JL.op (RunV.ld_u8 ag_5 rfl (by assumption)) rfl ?_
  refine Ru 2 rfl ?_
  refine Bs 15 rfl (fun hc5 => ?_) fun hc5 => ?_
  ·
   refine Ru 1 rfl ?_
   refine JL.opeg rfl rfl  (RunE.index sl_24 rfl rfl (show _ = ((1 : Nat) : Int) from rfl) (by assumption) rfl (by omega)) rfl ?_
   rintro _ ⟨b6, o6, hi6, rfl, hE6⟩
   refine JL.opg rfl rfl  (RunV.ld_u8 ag_5 rfl (by assumption)) rfl ?_
   refine Ru 3 rfl ?_
   refine Bs 21 rfl (fun hc8 => ?_) fun hc8 => ?_
   ·
    refine Ru 13 rfl ?_
    refine Nk [2] rfl ?_
    exact J.retP (RetV.one rfl rfl) z22_ rfl
   refine Ru 1 rfl ?_
   refine JL.opeg rfl rfl  (RunE.index sl_24 rfl rfl (show _ = ((0 : Nat) : Int) from rfl) (by assumption) rfl (by omega)) rfl ?_
   rintro _ ⟨b9, o9, hi9, rfl, hE9⟩
   refine JL.opg rfl rfl  (RunV.ld_u8 ag_5 rfl (by assumption)) rfl ?_
   refine Ru 2 rfl ?_
   refine Bs 26 rfl (fun hc11 => ?_) fun hc11 => ?_
   ·
    refine Ru 1 rfl ?_
    refine JL.opeg rfl rfl  (RunE.index sl_24 rfl rfl (show _ = ((1 : Nat) : Int) from rfl) (by assumption) rfl (by omega)) rfl ?_
    rintro _ ⟨b12, o12, hi12, rfl, hE12⟩
    refine JL.opg rfl rfl  (RunV.ld_u8 ag_5 rfl (by assumption)) rfl ?_
    refine Ru 5 rfl ?_
    refine Nk [2] rfl ?_
    exact J.retP (RetV.one rfl rfl) z22_ rfl
   refine Ru 8 rfl ?_
   refine Nk [2] rfl ?_
   exact J.retP (RetV.one rfl rfl) z22_ rfl
  refine Ru 7 rfl ?_
  refine JL.opeg rfl rfl  (RunE.index sl_24 rfl rfl (show _ = ((0 : Nat) : Int) from rfl) (by assumption) rfl (by omega)) rfl ?_
  rintro _ ⟨b14, o14, hi14, rfl, hE14⟩
  refine JL.opg rfl rfl  (RunV.ld_u8 ag_5 rfl (by assumption)) rfl ?_
  refine Ru 2 rfl ?_
  refine Bs 26 rfl (fun hc16 => ?_) fun hc16 => ?_
  ·
   refine Ru 1 rfl ?_
   refine JL.opeg rfl rfl  (RunE.index sl_24 rfl rfl (show _ = ((1 : Nat) : Int) from rfl) (by assumption) rfl (by omega)) rfl ?_
   rintro _ ⟨b17, o17, hi17, rfl, hE17⟩
   refine JL.opg rfl rfl  (RunV.ld_u8 ag_5 rfl (by assumption)) rfl ?_
   refine Ru 5 rfl ?_
   refine Nk [2] rfl ?_
   exact J.retP (RetV.one rfl rfl) z22_ rfl
  refine Ru 8 rfl ?_
  refine Nk [2] rfl ?_
  exact J.retP (RetV.one rfl rfl) z22_ rfl
def bitsB (b : List UInt8) : Bool := decide (¬ (b.length = 0 ∨ 7 < byteAt b 0 ∨ b.length = 1 ∧ 0 < byteAt b 0) ∧ (byteAt b 0 = 0 ∨ byteAt b (b.length - 1) % 2 ^ byteAt b 0 = 0))
def valB (t : Int) (b : List UInt8) : Bool :=
  if t = 1 then decide (b.length = 1 ∧ (byteAt b 0 = 0 ∨ byteAt b 0 = 255)) else if t = 2 ∨ t = 10 then leastB b else if t = 3 then bitsB b else if t = 5 then decide (b.length = 0)
  else if t = 6 then (oidT b).isSome else if t = 12 then runes (fun c n => !decide (c = 65533 ∧ n = 1)) b 0 else if t = 19 then runes (fun c _ => prC c) b 0 else if t = 22 then runes (fun c _ => decide (c ≤ 127)) b 0
  else if t = 23 then psOk b else if t = 24 then plOk b else true
theorem valB_1 {t : Int} {b : List UInt8} (h : t = 1) : valB t b = decide (b.length = 1 ∧ (byteAt b 0 = 0 ∨ byteAt b 0 = 255)) := by
  unfold valB; rw [if_pos (by omega)]
theorem valB_2 {t : Int} {b : List UInt8} (h : t = 2 ∨ t = 10) : valB t b = leastB b := by
  unfold valB; rw [if_neg (by omega)]; rw [if_pos (by omega)]
theorem valB_3 {t : Int} {b : List UInt8} (h : t = 3) : valB t b = bitsB b := by
  unfold valB; rw [if_neg (by omega)]; rw [if_neg (by omega)]; rw [if_pos (by omega)]
theorem valB_5 {t : Int} {b : List UInt8} (h : t = 5) : valB t b = decide (b.length = 0) := by
  unfold valB; rw [if_neg (by omega)]; rw [if_neg (by omega)]; rw [if_neg (by omega)]; rw [if_pos (by omega)]
theorem valB_6 {t : Int} {b : List UInt8} (h : t = 6) : valB t b = (oidT b).isSome := by
  unfold valB; rw [if_neg (by omega)]; rw [if_neg (by omega)]; rw [if_neg (by omega)]; rw [if_neg (by omega)]; rw [if_pos (by omega)]
theorem valB_12 {t : Int} {b : List UInt8} (h : t = 12) : valB t b = runes (fun c n => !decide (c = 65533 ∧ n = 1)) b 0 := by
  unfold valB; rw [if_neg (by omega)]; rw [if_neg (by omega)]; rw [if_neg (by omega)]; rw [if_neg (by omega)]; rw [if_neg (by omega)]; rw [if_pos (by omega)]
theorem valB_19 {t : Int} {b : List UInt8} (h : t = 19) : valB t b = runes (fun c _ => prC c) b 0 := by
  unfold valB; rw [if_neg (by omega)]; rw [if_neg (by omega)]; rw [if_neg (by omega)]; rw [if_neg (by omega)]; rw [if_neg (by omega)]; rw [if_neg (by omega)]; rw [if_pos (by omega)]
theorem valB_22 {t : Int} {b : List UInt8} (h : t = 22) : valB t b = runes (fun c _ => decide (c ≤ 127)) b 0 := by
  unfold valB; rw [if_neg (by omega)]; rw [if_neg (by omega)]; rw [if_neg (by omega)]; rw [if_neg (by omega)]; rw [if_neg (by omega)]; rw [if_neg (by omega)]; rw [if_neg (by omega)]; rw [if_pos (by omega)]
theorem valB_23 {t : Int} {b : List UInt8} (h : t = 23) : valB t b = psOk b := by
  unfold valB; rw [if_neg (by omega)]; rw [if_neg (by omega)]; rw [if_neg (by omega)]; rw [if_neg (by omega)]; rw [if_neg (by omega)]; rw [if_neg (by omega)]; rw [if_neg (by omega)]; rw [if_neg (by omega)]; rw [if_pos (by omega)]
theorem valB_24 {t : Int} {b : List UInt8} (h : t = 24) : valB t b = plOk b := by
  unfold valB; rw [if_neg (by omega)]; rw [if_neg (by omega)]; rw [if_neg (by omega)]; rw [if_neg (by omega)]; rw [if_neg (by omega)]; rw [if_neg (by omega)]; rw [if_neg (by omega)]; rw [if_neg (by omega)]; rw [if_neg (by omega)]; rw [if_pos (by omega)]
theorem valB_0 {t : Int} {b : List UInt8} (h : ¬ (t = 1 ∨ t = 2 ∨ t = 10 ∨ t = 3 ∨ t = 5 ∨ t = 6 ∨ t = 12 ∨ t = 19 ∨ t = 22 ∨ t = 23 ∨ t = 24)) : valB t b = true := by
  unfold valB; rw [if_neg (by omega)]; rw [if_neg (by omega)]; rw [if_neg (by omega)]; rw [if_neg (by omega)]; rw [if_neg (by omega)]; rw [if_neg (by omega)]; rw [if_neg (by omega)]; rw [if_neg (by omega)]; rw [if_neg (by omega)]; rw [if_neg (by omega)]
theorem pow2_7 (n : Nat) (h : n ≤ 7) : (1 : Int) ≤ 2 ^ n ∧ (2 : Int) ^ n ≤ 128 := by
  have : n = 0 ∨ n = 1 ∨ n = 2 ∨ n = 3 ∨ n = 4 ∨ n = 5 ∨ n = 6 ∨ n = 7 := by omega
  rcases this with rfl | rfl | rfl | rfl | rfl | rfl | rfl | rfl <;> decide
theorem value_fn {t : Int} {a : Option Addr} {c : Nat} {l : List UInt8} {h : Part} (hl : SlR u8R 1 h a c l) (hT : Tabs h) (hb : l.length ≤ 1073741824) : Pure Tryd.prog 28 [.int .i64 t, .slice a l.length c] h (.bool (valB t l)) := by
  have e0 := fun hh => byteAt_eq l 0 hh
  refine Fn.intro Tryd.func28 rfl Tryd.ntmps28 rfl (fun e he => ?_)
  refine J.weak [(0, _), (1, _)] ⟨rfl, rfl, trivial⟩ ?_
  refine Sr ?_
  refine Ru 1 rfl ?_
  refine JL.nil ?_
  refine J.seq ?_
  refine Sr ?_
  refine Ru 1 rfl ?_
  refine JL.nil ?_
  refine J.block ?_
  refine Sr ?_
  refine Ru 2 rfl ?_
  refine JL.nil ?_
  refine Cs rfl (fun hc1 => ?_) fun hc1 => ?_
  ·
   refine Sr ?_
   refine Ru 4 rfl ?_
   refine Bs 18 rfl (fun hc2 => ?_) fun hc2 => ?_
   ·
    refine Ru 1 rfl ?_
    refine JL.opeg rfl rfl  (RunE.index sl_24 rfl rfl (show _ = ((0 : Nat) : Int) from rfl) (by assumption) rfl (by omega)) rfl ?_
    rintro _ ⟨b3, o3, hi3, rfl, hE3⟩
    refine JL.opg rfl rfl  (RunV.ld_u8 ag_5 rfl (by assumption)) rfl ?_
    refine Ru 2 rfl ?_
    refine Bs 23 rfl (fun hc5 => ?_) fun hc5 => ?_
    ·
     refine Ru 7 rfl ?_
     refine Nk [4] rfl ?_
     exact J.retP (RetV.one rfl rfl) z1_ rfl
    refine Ru 1 rfl ?_
    refine JL.opeg rfl rfl  (RunE.index sl_24 rfl rfl (show _ = ((0 : Nat) : Int) from rfl) (by assumption) rfl (by omega)) rfl ?_
    rintro _ ⟨b6, o6, hi6, rfl, hE6⟩
    refine JL.opg rfl rfl  (RunV.ld_u8 ag_5 rfl (by assumption)) rfl ?_
    refine Ru 4 rfl ?_
    refine Nk [4] rfl ?_
    exact J.retP (RetV.one rfl rfl) z1_ rfl
   refine Ru 12 rfl ?_
   refine Nk [4] rfl ?_
   exact J.retP (RetV.one rfl rfl) z1_ rfl
  refine J.seq ?_
  refine Sr ?_
  refine Ru 2 rfl ?_
  refine Nk [30, 12, 4, 1] rfl ?_
  refine Cs rfl (fun hc8 => ?_) fun hc8 => ?_
  ·
   refine J.skip ?_
   refine J.cond_t rfl ?_
   refine Sr ?_
   refine Ru 1 rfl ?_
   refine JL.callP ca_25 rfl (least_fn (by assumption)) rfl ?_
   refine Ru 1 rfl ?_
   refine Nk [4] rfl ?_
   exact J.retP (RetV.one rfl rfl) z1_ rfl
  refine Rg ?_
  refine Ru 2 rfl ?_
  refine JL.nil ?_
  refine Cs rfl (fun hc10 => ?_) fun hc10 => ?_
  ·
   refine Sr ?_
   refine Ru 1 rfl ?_
   refine JL.callP ca_25 rfl (least_fn (by assumption)) rfl ?_
   refine Ru 1 rfl ?_
   refine Nk [4] rfl ?_
   exact J.retP (RetV.one rfl rfl) z1_ rfl
  refine Sr ?_
  refine Ru 2 rfl ?_
  refine Nk [35, 12, 4, 1] rfl ?_
  refine Cs rfl (fun hc12 => ?_) fun hc12 => ?_
  ·
   refine J.seq ?_
   refine Sr ?_
   refine Ru 4 rfl ?_
   refine Bs 40 rfl (fun hc13 => ?_) fun hc13 => ?_
   ·
    refine Ru 16 rfl ?_
    refine Nk [56, 4, 1] rfl ?_
    refine J.cond_t rfl ?_
    refine Sr ?_
    refine Ru 1 rfl ?_
    refine JL.nil ?_
    exact J.retP (RetV.one rfl rfl) z1_ rfl
   refine Ru 1 rfl ?_
   refine JL.opeg rfl rfl  (RunE.index sl_24 rfl rfl (show _ = ((0 : Nat) : Int) from rfl) (by assumption) rfl (by omega)) rfl ?_
   rintro _ ⟨b14, o14, hi14, rfl, hE14⟩
   refine JL.opg rfl rfl  (RunV.ld_u8 ag_5 rfl (by assumption)) rfl ?_
   refine Ru 3 rfl ?_
   refine Bs 46 rfl (fun hc16 => ?_) fun hc16 => ?_
   ·
    refine Ru 10 rfl ?_
    refine Nk [56, 4, 1] rfl ?_
    refine J.cond_t rfl ?_
    refine Sr ?_
    refine Ru 1 rfl ?_
    refine JL.nil ?_
    exact J.retP (RetV.one rfl rfl) z1_ rfl
   refine Ru 4 rfl ?_
   refine Bs 50 rfl (fun hc17 => ?_) fun hc17 => ?_
   ·
    refine Ru 1 rfl ?_
    refine JL.opeg rfl rfl  (RunE.index sl_24 rfl rfl (show _ = ((0 : Nat) : Int) from rfl) (by assumption) rfl (by omega)) rfl ?_
    rintro _ ⟨b18, o18, hi18, rfl, hE18⟩
    refine JL.opg rfl rfl  (RunV.ld_u8 ag_5 rfl (by assumption)) rfl ?_
    refine Ru 3 rfl ?_
    refine Nk [56, 4, 1] rfl ?_
    refine Cs rfl (fun hc20 => ?_) fun hc20 => ?_
    ·
     refine Sr ?_
     refine Ru 1 rfl ?_
     refine JL.nil ?_
     exact J.retP (RetV.one rfl rfl) z1_ rfl
    refine J.skip ?_
    refine J.seq ?_
    refine J.drawn mixed_ (by kernel_rfl) ?_
    have e0 := byteAt_eq l 0 (by omega); have e1 := byteAt_eq l (l.length - 1) (by omega); have hp := pow2_7 (l[0]'(by omega)).toNat (by omega)
    refine Rq 1 rfl ?_
    refine JQ.ope (RunE.index sl_24 rfl rfl (show _ = ((0 : Nat) : Int) from rfl) (by assumption) rfl (by omega)) rfl ?_
    rintro _ ⟨b21, o21, hi21, rfl, hE21⟩
    refine JQ.op (RunV.ld_u8 ag_5 rfl (by assumption)) rfl ?_
    refine Rq 2 rfl ?_
    refine Bq 61 rfl (fun hc23 => ?_) fun hc23 => ?_
    ·
     refine Rq 15 rfl ?_
     refine Nq [4] rfl ?_
     exact J.retP (RetV.one rfl rfl) z1_ rfl
    refine Rq 3 rfl ?_
    refine JQ.opg rfl rfl  si_ rfl ?_
    refine JQ.opeg rfl rfl  (RunE.index (m := l.length - 1) sl_24 rfl rfl (by omega) (by assumption) rfl (by omega)) rfl ?_
    rintro _ ⟨b24, o24, hi24, rfl, hE24⟩
    refine JQ.opg rfl rfl  (RunV.ld_u8 ag_5 rfl (by assumption)) rfl ?_
    refine Rq 1 rfl ?_
    refine JQ.opeg rfl rfl  (RunE.index sl_24 rfl rfl (show _ = ((0 : Nat) : Int) from rfl) (by assumption) rfl (by omega)) rfl ?_
    rintro _ ⟨b26, o26, hi26, rfl, hE26⟩
    refine JQ.opg rfl rfl  (RunV.ld_u8 ag_5 rfl (by assumption)) rfl ?_
    refine JQ.opg rfl rfl  (RunV.shl_u8 ((2 : Int) ^ (l[0]'(by omega)).toNat) rfl rfl (by omega) (by omega) (by simp) (by omega) (by omega)) rfl ?_
    refine JQ.opg rfl rfl  (RunV.sub_u8 rfl rfl (by omega) (by omega)) rfl ?_
    refine JQ.opg rfl rfl  (RunV.maskb_u8 (l[0]'(by omega)).toNat ((2 : Int) ^ (l[0]'(by omega)).toNat) rfl rfl (by omega) rfl (by omega)) rfl ?_
    refine Rq 3 rfl ?_
    refine Nq [4] rfl ?_
    exact J.retP (RetV.one rfl rfl) z1_ rfl
   refine Ru 6 rfl ?_
   refine Nk [56, 4, 1] rfl ?_
   refine J.cond_f rfl ?_
   refine J.skip ?_
   refine J.seq ?_
   refine J.drawn mixed_ (by kernel_rfl) ?_
   have e0 := byteAt_eq l 0 (by omega); have e1 := byteAt_eq l (l.length - 1) (by omega); have hp := pow2_7 (l[0]'(by omega)).toNat (by omega)
   refine Rq 1 rfl ?_
   refine JQ.ope (RunE.index sl_24 rfl rfl (show _ = ((0 : Nat) : Int) from rfl) (by assumption) rfl (by omega)) rfl ?_
   rintro _ ⟨b28, o28, hi28, rfl, hE28⟩
   refine JQ.op (RunV.ld_u8 ag_5 rfl (by assumption)) rfl ?_
   refine Rq 2 rfl ?_
   refine Bq 61 rfl (fun hc30 => ?_) fun hc30 => ?_
   ·
    refine Rq 15 rfl ?_
    refine Nq [4] rfl ?_
    exact J.retP (RetV.one rfl rfl) z1_ rfl
   refine Rq 3 rfl ?_
   refine JQ.opg rfl rfl  si_ rfl ?_
   refine JQ.opeg rfl rfl  (RunE.index (m := l.length - 1) sl_24 rfl rfl (by omega) (by assumption) rfl (by omega)) rfl ?_
   rintro _ ⟨b31, o31, hi31, rfl, hE31⟩
   refine JQ.opg rfl rfl  (RunV.ld_u8 ag_5 rfl (by assumption)) rfl ?_
   refine Rq 1 rfl ?_
   refine JQ.opeg rfl rfl  (RunE.index sl_24 rfl rfl (show _ = ((0 : Nat) : Int) from rfl) (by assumption) rfl (by omega)) rfl ?_
   rintro _ ⟨b33, o33, hi33, rfl, hE33⟩
   refine JQ.opg rfl rfl  (RunV.ld_u8 ag_5 rfl (by assumption)) rfl ?_
   refine JQ.opg rfl rfl  (RunV.shl_u8 ((2 : Int) ^ (l[0]'(by omega)).toNat) rfl rfl (by omega) (by omega) (by simp) (by omega) (by omega)) rfl ?_
   refine JQ.opg rfl rfl  (RunV.sub_u8 rfl rfl (by omega) (by omega)) rfl ?_
   refine JQ.opg rfl rfl  (RunV.maskb_u8 (l[0]'(by omega)).toNat ((2 : Int) ^ (l[0]'(by omega)).toNat) rfl rfl (by omega) rfl (by omega)) rfl ?_
   refine Rq 3 rfl ?_
   refine Nq [4] rfl ?_
   exact J.retP (RetV.one rfl rfl) z1_ rfl
  refine Sr ?_
  refine Ru 2 rfl ?_
  refine JL.nil ?_
  refine Cs rfl (fun hc35 => ?_) fun hc35 => ?_
  ·
   refine Sr ?_
   refine Ru 4 rfl ?_
   refine Nk [4] rfl ?_
   exact J.retP (RetV.one rfl rfl) z1_ rfl
  refine Sr ?_
  refine Ru 2 rfl ?_
  refine Nk [81, 12, 4, 1] rfl ?_
  refine Cs rfl (fun hc36 => ?_) fun hc36 => ?_
  ·
   refine Sr ?_
   refine Ru 1 rfl ?_
   refine JL.callP ca_38 rfl (oidtext_fn (by assumption) (by omega)) rfl ?_
   refine Ru 5 rfl ?_
   refine Nk [6, 4] rfl ?_
   refine Sr ?_
   refine Ru 3 rfl ?_
   refine JL.nil ?_
   exact J.retP (RetV.one rfl rfl) z1_ rfl
  refine Sr ?_
  refine Ru 2 rfl ?_
  refine JL.nil ?_
  refine Cs rfl (fun hc38 => ?_) fun hc38 => ?_
  ·
   refine Sr ?_
   refine Ru 1 rfl ?_
   refine JL.op (RunV.strB sb_24_9 rfl (by assumption) rfl) rfl ?_
   refine JL.callP ca_39 rfl (utf8_fn _ _ (by assumption) (by omega)) rfl ?_
   refine Ru 1 rfl ?_
   refine Nk [4] rfl ?_
   exact J.retP (RetV.one rfl rfl) z1_ rfl
  refine Sr ?_
  refine Ru 2 rfl ?_
  refine Nk [95, 12, 4, 1] rfl ?_
  refine Cs rfl (fun hc40 => ?_) fun hc40 => ?_
  ·
   refine Sr ?_
   refine Ru 1 rfl ?_
   refine JL.op (RunV.strB sb_24_9 rfl (by assumption) rfl) rfl ?_
   refine JL.callP ca_40 rfl (printable_fn _ _ (by omega)) rfl ?_
   refine Ru 1 rfl ?_
   refine Nk [4] rfl ?_
   exact J.retP (RetV.one rfl rfl) z1_ rfl
  refine Sr ?_
  refine Ru 2 rfl ?_
  refine JL.nil ?_
  refine Cs rfl (fun hc42 => ?_) fun hc42 => ?_
  ·
   refine Sr ?_
   refine Ru 1 rfl ?_
   refine JL.op (RunV.strB sb_24_9 rfl (by assumption) rfl) rfl ?_
   refine JL.callP ca_41 rfl (ia5_fn _ _ (by omega)) rfl ?_
   refine Ru 1 rfl ?_
   refine Nk [4] rfl ?_
   exact J.retP (RetV.one rfl rfl) z1_ rfl
  refine Sr ?_
  refine Ru 2 rfl ?_
  refine Nk [105, 12, 4, 1] rfl ?_
  refine Cs rfl (fun hc44 => ?_) fun hc44 => ?_
  ·
   refine Sr ?_
   refine Ru 1 rfl ?_
   refine JL.op (RunV.strB sb_24_9 rfl (by assumption) rfl) rfl ?_
   refine JL.callP ca_42 rfl (pshort_fn _ _ (by omega)) rfl ?_
   refine Ru 5 rfl ?_
   refine Nk [8, 4] rfl ?_
   refine Sr ?_
   refine Ru 3 rfl ?_
   refine JL.nil ?_
   exact J.retP (RetV.one rfl rfl) z1_ rfl
  refine Sr ?_
  refine Ru 2 rfl ?_
  refine JL.nil ?_
  refine Cs rfl (fun hc46 => ?_) fun hc46 => ?_
  ·
   refine Sr ?_
   refine Ru 1 rfl ?_
   refine JL.op (RunV.strB sb_24_9 rfl (by assumption) rfl) rfl ?_
   refine JL.callP ca_43 rfl (plong_fn _ _ (by omega)) rfl ?_
   refine Ru 7 rfl ?_
   refine Nk [11, 4] rfl ?_
   refine Sr ?_
   refine Ru 3 rfl ?_
   refine JL.nil ?_
   exact J.retP (RetV.one rfl rfl) z1_ rfl
  refine J.skip ?_
  refine Kp [4] rfl ?_
  refine Sr ?_
  refine Ru 1 rfl ?_
  refine JL.nil ?_
  exact J.retP (RetV.one rfl rfl) z1_ rfl
def be : Nat → Nat → List UInt8
  | 0, _ => []
  | k + 1, n => UInt8.ofNat (n / 256 ^ k) :: be k n
def nby (n : Nat) : Nat := if n < 256 then 1 else if n < 65536 then 2 else if n < 16777216 then 3 else if n < 4294967296 then 4 else if n < 1099511627776 then 5 else 6
def lenB (n : Nat) : List UInt8 := if n < 128 then [UInt8.ofNat n] else UInt8.ofNat (128 + nby n) :: be (nby n) n
def tagN (c t : Int) (k : Bool) : Nat := (64 * c + t).toNat + (if k then 32 else 0)
def headB (c t : Int) (k : Bool) (n : Nat) : List UInt8 := UInt8.ofNat (tagN c t k) :: lenB n
theorem nby_bd (n : Nat) : 1 ≤ nby n ∧ nby n ≤ 6 := by unfold nby; (repeat' split) <;> omega
theorem be_len (k n : Nat) : (be k n).length = k := by induction k with
  | zero => rfl
  | succ k ih => simp [be, ih]
theorem shr_cast (n j : Nat) (e : Int) (he : e = 8 * (j : Int)) : (n : Int) / 2 ^ e.toNat = ((n / 256 ^ j : Nat) : Int) := by
  subst he
  have h1 : (8 * (j : Int)).toNat = 8 * j := by omega
  have h2 : (256 : Nat) ^ j = 2 ^ (8 * j) := by rw [Nat.pow_mul]
  rw [h1, h2]
  simp
theorem nby_gt (n j : Nat) (hn : n ≤ 140737488355328) (h1 : 1 ≤ j) (h2 : j ≤ nby n) : 0 < n / 256 ^ j ↔ j < nby n := by
  have hb := nby_bd n
  have hj : j = 1 ∨ j = 2 ∨ j = 3 ∨ j = 4 ∨ j = 5 ∨ j = 6 := by omega
  have e1 : (256 : Nat) ^ 1 = 256 := rfl
  have e2 : (256 : Nat) ^ 2 = 65536 := rfl
  have e3 : (256 : Nat) ^ 3 = 16777216 := rfl
  have e4 : (256 : Nat) ^ 4 = 4294967296 := rfl
  have e5 : (256 : Nat) ^ 5 = 1099511627776 := rfl
  have e6 : (256 : Nat) ^ 6 = 281474976710656 := rfl
  unfold nby at *
  rcases hj with rfl | rfl | rfl | rfl | rfl | rfl <;> simp only [e1, e2, e3, e4, e5, e6] <;> (repeat' split) <;> omega
theorem headB_short {c t : Int} {k : Bool} {n : Nat} (h : n < 128) : headB c t k n = [UInt8.ofNat (tagN c t k)] ++ [UInt8.ofNat n] := by
  unfold headB lenB; rw [if_pos h]; rfl
theorem headB_long {c t : Int} {k : Bool} {n : Nat} (h : ¬ n < 128) : headB c t k n = ([UInt8.ofNat (tagN c t k)] ++ [UInt8.ofNat (128 + nby n)]) ++ be (nby n) n := by
  unfold headB lenB; rw [if_neg h]; rfl
theorem head_fn {x : Nd} {cs : List Value} {h : Part} {n : Nat} (r : NdR h cs x) (hc : x.cls = 0 ∨ x.cls = 2) (ht : 0 ≤ x.tag ∧ x.tag ≤ 30) (hn : n ≤ 140737488355328) :
    Fn Tryd.prog 29 [.agg cs.toArray, .int .i64 n] h [] (Rets fun v _ Lo => ∃ a c, v = .slice a (headB x.cls x.tag x.cons n).length c ∧ Lo = [.row a c 5 1 (headB x.cls x.tag x.cons n).length (u8s (headB x.cls x.tag x.cons n))]) := by
  cases x with
  | mk c t k bs ks =>
  obtain ⟨a, ca, b, cb, rfl, ha, hb⟩ := r.inv
  simp only [Nd.cls, Nd.tag, Nd.cons] at *
  have hk := nby_bd n
  refine Fn.intro Tryd.func29 rfl Tryd.ntmps29 rfl (fun e he => ?_)
  refine J.weak [(0, _), (1, _)] ⟨rfl, rfl, trivial⟩ ?_
  refine Sr ?_
  refine JL.box rfl rfl rfl (fun b1 => ?_)
  refine Ru 1 rfl ?_
  refine JL.nil ?_
  refine Sr ?_
  refine Ru 1 rfl ?_
  refine JL.op (RunV.own1 ag_3 rfl mm_ rfl) rfl ?_
  refine JL.op (by first | exact RunV.shl_i64 64 rfl rfl (by decide) (by decide) (by decide) (by omega) (by omega) | exact RunV.shl rfl rfl (by decide) (by decide)) rfl ?_
  refine Ru 1 rfl ?_
  refine JL.op (RunV.own1 ag_3 rfl mm_ rfl) rfl ?_
  refine JL.op (RunV.join_i64 6 64 rfl rfl (by decide) (by omega) (by omega) (by omega) (by omega) (by omega) (by omega)) rfl ?_
  refine JL.op (RunV.toByte (64 * c + t).toNat cv_3_5 rfl (by omega)) rfl ?_
  refine Ru 1 rfl ?_
  refine Nk [5, 4, 2, 1] rfl ?_
  refine J.seq ?_
  refine Sr ?_
  refine Ru 1 rfl ?_
  refine JL.op (RunV.own1 ag_4 rfl mm_ rfl) rfl ?_
  refine JL.nil ?_
  refine J.meet [(5, .int .u8 ((UInt8.ofNat (tagN c t k)).toNat : Int))] [(4, _), (1, _)] ⟨rfl, rfl, trivial⟩ ?_ ?_
  ·
   refine Cs rfl (fun hc2 => ?_) fun hc2 => ?_
   ·
    refine Rg ?_
    refine Ru 1 rfl ?_
    refine JL.op (RunV.or32 (64 * c + t).toNat rfl (by omega) (by omega)) rfl ?_
    refine Ru 1 rfl ?_
    refine JL.nil ?_
    refine ⟨rfl, rfl, ?_⟩
    repeat (first | exact trivial | refine ⟨rfl, ?_⟩ | refine ⟨(by exact some_int (by cases k <;> first | rfl | simp_all)), ?_⟩)
   refine J.skip ?_
   refine ⟨rfl, rfl, ?_⟩
   repeat (first | exact trivial | refine ⟨rfl, ?_⟩ | refine ⟨(by exact some_int (by cases k <;> first | rfl | simp_all)), ?_⟩)
  refine Sr ?_
  refine Ru 1 rfl ?_
  refine JL.lit1 ap_24 zr_5 rfl rfl rfl rfl rfl (fun b3 => ?_)
  refine Ru 1 rfl ?_
  refine JL.nil ?_
  refine J.seq ?_
  refine Sr ?_
  refine Ru 2 rfl ?_
  refine JL.nil ?_
  refine Cs rfl (fun hc4 => ?_) fun hc4 => ?_
  ·
   refine Sr ?_
   refine Ru 2 rfl ?_
   refine JL.op (RunV.toByte n cv_3_5 rfl rfl) rfl ?_
   refine JL.lit1 ap_24 zr_5 rfl rfl rfl rfl rfl (fun b5 => ?_)
   refine JL.rowB (b := b3) dl_ ?_
   refine JL.append1 ap_24 rfl rfl CellsR.of_u8 rfl dl_ dl_ rfl (rfl) z3_ rfl rfl (fun a6 c6 xs6 hC6 hN6 => ?_)
   obtain rfl := hC6.u8
   refine Ru 1 rfl ?_
   refine Nk [4, 6, 1] rfl ?_
   rw [← headB_short (by omega)]; exact J.ret ⟨_, [_], _, (RetV.one rfl rfl), .cons .here .nil, _, rfl, _, _, rfl, rfl⟩
  refine J.skip ?_
  refine Kp [6, 4, 1] rfl ?_
  refine Sr ?_
  refine Ru 1 rfl ?_
  refine JL.nil ?_
  refine J.seq ?_
  refine J.block ?_
  refine J.loop (fun t_ S_ h_ L_ => ∃ (j : Nat), t_ = 7 - j ∧ S_ = [(1, .int .i64 n), (6, .slice (some ⟨b3, 0, none⟩) 1 1), (7, .int .i64 j)] ∧ h = h_ ∧ L_ = [.blk b3 5 [.int .u8 ((UInt8.ofNat (tagN c t k)).toNat : Int)], .blk b1 26 [.int .i64 c, .int .i64 t, .bool k, .slice a bs.length ca, .slice b ks.length cb]] ∧ (1 ≤ j ∧ j ≤ nby n)) ⟨_, _, ?_, ⟨1, rfl, rfl, rfl, rfl, ⟨by omega, by omega⟩⟩⟩ ?_
  ·
   exact z5_
  rintro _ _ _ _ ⟨j, rfl, rfl, rfl, rfl, hj, hj2⟩
  have hgt := nby_gt n j hn hj hj2
  refine J.seq ?_
  refine Sr ?_
  refine Ru 2 rfl ?_
  refine JL.op z16_ rfl ?_
  refine JL.op (RunV.shr rfl rfl (by omega) (by show _ ≤ ((64 : Nat) : Int); omega)) rfl ?_
  rw [shr_cast n j _ rfl]
  refine Ru 1 rfl ?_
  refine JL.nil ?_
  refine Cs rfl (fun hc7 => ?_) fun hc7 => ?_
  ·
   refine J.skip ?_
   refine J.block ?_
   refine Rg ?_
   refine Ru 1 rfl ?_
   refine JL.op ai_ rfl ?_
   refine Ru 1 rfl ?_
   refine JL.nil ?_
   refine ⟨_, ?_, _, ?_, ⟨j + 1, rfl, rfl, rfl, rfl, ⟨by omega, by omega⟩⟩⟩
   ·
    omega
   exact z5_
  refine J.exit ?_
  refine Kp [1, 6, 7] rfl ?_
  refine Sr ?_
  refine Ru 2 rfl ?_
  refine JL.op ai_ rfl ?_
  refine JL.op (RunV.toByte (128 + j) cv_3_5 rfl (by omega)) rfl ?_
  refine JL.lit1 ap_24 zr_5 rfl rfl rfl rfl rfl (fun b8 => ?_)
  refine JL.rowB (b := b3) dl_ ?_
  refine JL.append1 ap_24 rfl rfl CellsR.of_u8 rfl dl_ dl_ rfl (rfl) z3_ rfl rfl (fun a9 c9 xs9 hC9 hN9 => ?_)
  obtain rfl := hC9.u8
  refine Ru 1 rfl ?_
  refine Nk [6, 1, 7] rfl ?_
  refine J.seq ?_
  refine J.block ?_
  refine J.loop (fun t_ S_ h_ L_ => ∃ (j : Nat) (out : List UInt8) (a9 : Option Addr) (q : Nat), t_ = 7 + j ∧ S_ = [(1, .int .i64 n), (6, .slice a9 out.length q), (7, .int .i64 j)] ∧ h = h_ ∧ L_ = [.row a9 q 5 1 out.length (u8s out), .blk b1 26 [.int .i64 c, .int .i64 t, .bool k, .slice a bs.length ca, .slice b ks.length cb]] ∧ (j ≤ nby n ∧ out.length ≤ 10 - j ∧ headB c t k n = out ++ be j n)) ⟨_, _, ?_, ⟨j, _, _, _, rfl, rfl, rfl, rfl, ⟨by omega, by simp; omega, by have hjn : j = nby n := (by omega); rw [hjn]; exact headB_long (by omega)⟩⟩⟩ ?_
  ·
   exact z4_
  rintro _ _ _ _ ⟨j, out, a9, q, rfl, rfl, rfl, rfl, hj, hol, he⟩
  refine J.seq ?_
  refine Sr ?_
  refine Ru 2 rfl ?_
  refine JL.nil ?_
  refine Cs rfl (fun hc10 => ?_) fun hc10 => ?_
  ·
   obtain ⟨i, rfl⟩ : ∃ i, j = i + 1 := ⟨j - 1, by omega⟩
   refine J.skip ?_
   refine J.seq ?_
   refine J.block ?_
   refine Rg ?_
   refine Ru 3 rfl ?_
   refine JL.op si_ rfl ?_
   refine JL.op z16_ rfl ?_
   refine JL.op (RunV.shr rfl rfl (by omega) (by show _ ≤ ((64 : Nat) : Int); omega)) rfl ?_
   rw [shr_cast n i _ (by omega)]
   refine JL.op (RunV.toByte (n / 256 ^ i) cv_3_5 rfl rfl) rfl ?_
   refine JL.lit1 ap_24 zr_5 rfl rfl rfl rfl rfl (fun b11 => ?_)
   refine JL.append1 ap_24 rfl rfl CellsR.of_u8 rfl dl_ dl_ rfl (rfl) z3_ rfl rfl (fun a12 c12 xs12 hC12 hN12 => ?_)
   obtain rfl := hC12.u8
   refine Ru 1 rfl ?_
   refine JL.nil ?_
   refine Rg ?_
   refine Ru 1 rfl ?_
   refine JL.op si_ rfl ?_
   refine Ru 1 rfl ?_
   refine JL.nil ?_
   refine ⟨_, ?_, _, ?_, ⟨i, _, _, _, rfl, rfl, rfl, rfl, ⟨by omega, by simp; omega, by rw [he, be, List.append_assoc]; rfl⟩⟩⟩
   ·
    omega
   exact z4_
  refine J.exit ?_
  refine Kp [6] rfl ?_
  refine Sr ?_
  refine Ru 2 rfl ?_
  refine JL.nil ?_
  (have hj0 : j = 0 := (by omega)); subst hj0; rw [show out = headB c t k n from by rw [he]; simp [be]]; exact J.ret ⟨_, [_], _, (RetV.one rfl rfl), .cons .here .nil, _, rfl, _, _, rfl, rfl⟩
end Go.Proofs.YtldbjnhfkjicjaaDoor
namespace Go.Proofs.YtldbjnhfkjicjaaDoor
open Go Go.RowKit Go.ChangeShapes Go.WideShapes Go.Lib
set_option maxRecDepth 100000
theorem cells_u8 : Tryd.prog.cellsOf 5 = 1 := by kernel_rfl
theorem cells_int : Tryd.prog.cellsOf 3 = 1 := by kernel_rfl
theorem cells_bool : Tryd.prog.cellsOf 4 = 1 := by kernel_rfl
theorem cells_bytes : Tryd.prog.cellsOf 24 = 1 := by kernel_rfl
theorem cells_nodes : Tryd.prog.cellsOf 22 = 1 := by kernel_rfl
theorem cells_node : Tryd.prog.cellsOf 26 = 5 := by kernel_rfl
theorem bytes_u8 : 0 < Tryd.prog.bytesOf 5 := by rw [show Tryd.prog.bytesOf 5 = 1 by kernel_rfl]; decide
theorem bytes_node : 0 < Tryd.prog.bytesOf 26 := by rw [show Tryd.prog.bytesOf 26 = 72 by kernel_rfl]; decide
theorem sum_sz (l : List Nd) : (l.map Nd.sz).sum = Nd.szL l := by
  induction l with
  | nil => rfl
  | cons x r ih => simp [Nd.szL, ih]
theorem sum_one {α : Type} (l : List α) : (l.map fun _ => 1).sum = l.length := by
  induction l with
  | nil => rfl
  | cons x r ih => simp [ih]; omega
theorem opens_bytes (n : Nat) : Opens Tryd.prog (n + 1) 24 (slR u8R 1) 1 (fun l => (l.map fun _ => 1).sum + 1) := opens_slice Tryd.underlying24 cells_u8 (by decide) bytes_u8 (opens_u8 Tryd.underlying5)
theorem opens_nd : ∀ n, Opens Tryd.prog n 26 NdR 5 Nd.sz := by
  intro n
  induction n using Nat.strongRecOn with
  | _ n ih =>
    intro H enc W cs x h hw
    obtain ⟨xs, m, rfl, rfl, hl, hxl, hall⟩ := DataW.trod_struct Tryd.underlying26 h
    rw [cells_node] at hl
    match cs, hl with
    | [v0, v1, v2, v3, v4], _ =>
    match xs, hxl with
    | [x0, x1, x2, x3, x4], _ =>
    have h0 : DataW.trod enc Tryd.prog W 0 (fun _ => true) true m 3 ((List.drop 0 [v0, v1, v2, v3, v4]).take (Tryd.prog.cellsOf 3)) = some x0 := hall 0 _ rfl
    rw [cells_int] at h0
    change DataW.trod enc Tryd.prog W 0 (fun _ => true) true m 3 [v0] = some x0 at h0
    have h1 : DataW.trod enc Tryd.prog W 0 (fun _ => true) true m 3 ((List.drop 1 [v0, v1, v2, v3, v4]).take (Tryd.prog.cellsOf 3)) = some x1 := hall 1 _ rfl
    rw [cells_int] at h1
    change DataW.trod enc Tryd.prog W 0 (fun _ => true) true m 3 [v1] = some x1 at h1
    have h2 : DataW.trod enc Tryd.prog W 0 (fun _ => true) true m 4 ((List.drop 2 [v0, v1, v2, v3, v4]).take (Tryd.prog.cellsOf 4)) = some x2 := hall 2 _ rfl
    rw [cells_bool] at h2
    change DataW.trod enc Tryd.prog W 0 (fun _ => true) true m 4 [v2] = some x2 at h2
    have h3 : DataW.trod enc Tryd.prog W 0 (fun _ => true) true m 24 ((List.drop 3 [v0, v1, v2, v3, v4]).take (Tryd.prog.cellsOf 24)) = some x3 := hall 3 _ rfl
    rw [cells_bytes] at h3
    change DataW.trod enc Tryd.prog W 0 (fun _ => true) true m 24 [v3] = some x3 at h3
    have h4 : DataW.trod enc Tryd.prog W 0 (fun _ => true) true m 22 ((List.drop 4 [v0, v1, v2, v3, v4]).take (Tryd.prog.cellsOf 22)) = some x4 := hall 4 _ rfl
    rw [cells_nodes] at h4
    change DataW.trod enc Tryd.prog W 0 (fun _ => true) true m 22 [v4] = some x4 at h4
    simp only [DataW.weights, Tryd.underlying26, List.map_cons, List.map_nil, DataW.weightsEach, List.all_append, Bool.and_eq_true, List.append_nil] at hw
    obtain ⟨w0, w1, w2, w3, w4⟩ := hw
    cases m with
    | zero => simp [DataW.trod] at h0
    | succ m =>
      obtain ⟨c, e0, rfl, _⟩ := DataW.trod_int Tryd.underlying3 h0
      obtain ⟨t, e1, rfl, _⟩ := DataW.trod_int Tryd.underlying3 h1
      obtain ⟨k, e2, rfl⟩ := DataW.trod_bool Tryd.underlying4 h2
      cases e0
      cases e1
      cases e2
      obtain ⟨bs, _, ⟨a, ca, e3, hb⟩, hm3⟩ := opens_bytes m enc W _ _ h3 w3
      obtain ⟨ks, _, ⟨b, cb, e4, hk⟩, hm4⟩ := opens_slice Tryd.underlying22 cells_node (by decide) bytes_node (ih m (by omega)) enc W _ _ h4 w4
      cases e3
      cases e4
      refine ⟨.mk c t k bs ks, rfl, NdR.of hb hk, ?_⟩
      simp only [sum_one] at hm3
      simp only [sum_sz] at hm4
      simp only [Nd.sz, Rows.uptoBulk, List.map_cons, List.map_nil, Rows.uptoBulkAll]
      omega
theorem opens_nodes (n : Nat) : Opens Tryd.prog (n + 1) 22 (slR NdR 5) 1 (fun l => (l.map Nd.sz).sum + 1) := opens_slice Tryd.underlying22 cells_node (by decide) bytes_node (opens_nd n)
section
variable {H : Type} {enc : TypeId × Value → H} {W : World} {base : Nat} {v : Value} {d : DataW H} {ps : List MemPlace}
theorem arg_sl {α : Type} {R : Rep α} {sz : Nat} {μ : List α → Nat} {t e : TypeId} (hu : Tryd.prog.underlying t = some (.slice e)) (ho : ∀ n, Opens Tryd.prog (n + 1) t (slR R sz) 1 μ) (hval : Value.okWide Tryd.prog W .any base t v) (hd : DataW.Trod enc Tryd.prog W 0 (fun _ => true) true t v d ps)
    (hw : (d.weights Tryd.prog t).all (· ≤ reachBytes) = true) : ∃ a c l, v = .slice a (List.length l) c ∧ SlR R sz (partOf W) a c l ∧ μ l ≤ Rows.uptoBulk d := by
  obtain ⟨n, hn⟩ := hd
  cases n with
  | zero => simp [DataW.trod] at hn
  | succ n =>
    obtain ⟨l, _, ⟨a, c, hcs, hR⟩, hs⟩ := ho n enc W _ _ hn hw
    refine ⟨a, c, l, ?_, hR, hs⟩
    simp only [Value.okWide, hu] at hval
    cases v <;> simp [Value.cells] at hcs <;> first | (simp [hcs]; done) | (simp [Cell.okWide, Cell.ok, hu] at hval)
theorem arg_i {k : IntKind} {t : TypeId} (hu : Tryd.prog.underlying t = some (.int k)) (hval : Value.okWide Tryd.prog W .any base t v) (hd : DataW.Trod enc Tryd.prog W 0 (fun _ => true) true t v d ps) : ∃ n, v = .int k n ∧ (Lit.int k n).wf = true := by
  obtain ⟨n, h1, _, _, h2⟩ := open_int hu hval hd
  exact ⟨n, h1, h2⟩
end
theorem tabs_laid {W : World} {l : List (String × DataW Unit)} (h : laidMet Tryd.prog l W) (m3 : ("unicode/utf8.first", Go.Pinned.utf8First) ∈ l) (m4 : ("unicode/utf8.acceptRanges", acceptData) ∈ l) : Tabs (partOf W) := by
  obtain ⟨g, t, cs, fuel, p, hg, hty, hvar, hd⟩ := laidMet.reads h m3
  obtain rfl := Option.some.inj ((show Tryd.prog.globalNamed "unicode/utf8.first" = some 1 by kernel_rfl).symm.trans hg)
  obtain rfl := Option.some.inj ((show (Tryd.prog.globals[1]?).map (·.type) = some 107 by kernel_rfl).symm.trans hty)
  rw [show Go.Pinned.utf8First = firstData by kernel_rfl] at hd
  have hcs := cells_of_tab Tryd.underlying107 Tryd.underlying5 cells_u8 (by kernel_rfl) hd
  have h1 : ∀ c, c < 256 → W.cell? ⟨1, c, none⟩ = some (.int .u8 (firstT c)) := fun c hc => by
    rw [World.var?_cell hg hvar c, ← Array.getElem?_toList, hcs]
    simp [firstTab, hc]
  obtain ⟨g, t, cs, fuel, p, hg, hty, hvar, hd⟩ := laidMet.reads h m4
  obtain rfl := Option.some.inj ((show Tryd.prog.globalNamed "unicode/utf8.acceptRanges" = some 2 by kernel_rfl).symm.trans hg)
  obtain rfl := Option.some.inj ((show (Tryd.prog.globals[2]?).map (·.type) = some 110 by kernel_rfl).symm.trans hty)
  have h2 : ∀ i, i < 16 → W.cell? ⟨2, 2 * i, none⟩ = some (.int .u8 (accLo i)) ∧ W.cell? ⟨2, 2 * i + 1, none⟩ = some (.int .u8 (accHi i)) := fun i hi => by
    obtain ⟨fuel', d, q, hdi, he⟩ := array_elem Tryd.underlying110 hd i hi
    simp only [List.getElem?_map, List.getElem?_range hi, Option.map_some, Option.some.injEq] at hdi
    subst hdi
    have hc2 : Tryd.prog.cellsOf 109 = 2 := by kernel_rfl
    rw [hc2] at he
    have hcs := ints_of_struct Tryd.underlying109 (fun j f hj => by
      match j, hj with
      | 0, hj => simp at hj; subst hj; exact ⟨Tryd.underlying5, rfl, cells_u8⟩
      | 1, hj => simp at hj; subst hj; exact ⟨Tryd.underlying5, rfl, cells_u8⟩
      | j + 2, hj => simp at hj) (by rw [hc2]; rfl) he
    have e0 := congrArg (·[0]?) hcs
    have e1 := congrArg (·[1]?) hcs
    simp only [List.getElem?_take, List.getElem?_drop] at e0 e1
    constructor
    · rw [World.var?_cell hg hvar (2 * i), ← Array.getElem?_toList]
      simpa [Nat.mul_comm] using e0
    · rw [World.var?_cell hg hvar (2 * i + 1), ← Array.getElem?_toList]
      simpa [Nat.mul_comm] using e1
  obtain ⟨C1, k1, _⟩ := partOf_cell (h1 0 (by decide))
  obtain ⟨C2, k2, _⟩ := partOf_cell (h2 0 (by decide)).1
  have same : ∀ {b i v C}, partOf W b = some C → W.cell? ⟨b, i, none⟩ = some v → C[i]? = some v := fun hC hv => by
    obtain ⟨C', hC', hi⟩ := partOf_cell hv
    rw [hC] at hC'
    cases hC'
    exact hi
  exact ⟨C1, C2, k1, k2, fun c hc => same k1 (h1 c hc), fun i hi => ⟨same k2 (h2 i hi).1, same k2 (h2 i hi).2⟩⟩
def plainTs : List TypeId := [5, 3, 4, 24, 22, 26]
theorem plainTs_ok : plainB Tryd.prog plainTs = true := by kernel_rfl
theorem finish {H : Type} {enc : TypeId × Value → H} {ts : List TypeId} {F : Nat} {f : Func} {s : ChangeSpec} {apart fresh handsOn again : Bool} {W : World} {args : Array Value} {ds gs : List (DataW H)} {before : List MemPlace} (hp : plainB Tryd.prog ts = true) (hts : ∀ t ∈ f.params.toList, t ∈ ts) (hres : f.resultTypes = #[4]) (hv : s.vars = [])
    (hfn : s.fn H (ds ++ gs) = { results := [.lit (.bool true)], args := ds }) (hW : DataW.Whole enc Tryd.prog f.params.toList s.vars apart W args.toList ds gs before) (hF : Pure Tryd.prog F args.toList (partOf W) (.bool true)) :
    Calls Tryd.prog F args W fun e W' => ∃ v, e = .returned v ∧ s.post enc Tryd.prog f apart fresh handsOn again W args v W' := by
  have := hF W (ok_start W)
  rw [Array.toArray_toList] at this
  refine this.mono fun e w' ⟨h', Lo, ⟨u, he, hu, _, _⟩, hO⟩ => ?_
  subst hu
  exact ⟨.bool true, he, post_keep hp hts hres Tryd.underlying4 hv hfn hW hO.os hO.output hO.size (fun b hb => hO.old b hb (by simp [keys]))⟩
def layCells (cs : List Value) : Obj → Obj
  | .cells _ t frozen => .cells cs.toArray t frozen
  | o => o
noncomputable def laidWorld (os : Os) : World :=
  { World.holding Tryd.prog os ⟨#[], #[], []⟩ with heap := ((World.holding Tryd.prog os ⟨#[], #[], []⟩).heap.modify 1 (layCells (firstTab.map fun z => Value.int .u8 z))).modify 2 (layCells ((List.range 16).flatMap fun i => [Value.int .u8 (accLo i), Value.int .u8 (accHi i)])) }
end Go.Proofs.YtldbjnhfkjicjaaDoor
namespace Go.Proofs.YtldbjnhfkjicjaaDoor
open Go Go.RowKit
section
variable {f : Fr} {n : Post} {x : Nat → Post} {S : Sig} {h : Part} {L L' : List Ent} {ops : Array Oper} {rest : List Oper}
variable {ty : TypeId} {pos : String} {af : Array Edge} {d : Nat} {v : Value} {T : TypeId} {xo yo : Operand}
theorem JL.rowL {b t : Nat} {cs : List Value} {l : List UInt8} (u : Del (.blk b t cs) L L') (hc : cs = u8s l) (hl : l.length ≤ 140737488355328) (k : JL f ops n x rest S h (.row (some ⟨b, 0, none⟩) l.length t 1 l.length (u8s l) :: L')) : JL f ops n x rest S h L := fun ac w s => by
  subst hc
  exact k ac w (s.with ((s.ok.perm u.perm).toRow (m := l.length) (sz := 1) (by simp [u8s]) (by simp only [maxLen]; omega)))
theorem Ok.row_some {e : Env} {w : World} {a : Option Addr} {c t sz m : Nat} {xs : List Value} (k : Ok e h L w) (hm : Ent.row a c t sz m xs ∈ L) (h0 : 0 < m) : ∃ g, a = some ⟨g, 0, none⟩ := by
  have hown : w.ownsRow 0 t sz (.slice a m c) m xs := k.own _ hm
  rcases hown.2 with ⟨hv, hl⟩ | ⟨g, cap, cur, hv, _⟩
  · omega
  · injection hv with e1 e2 e3
    exact ⟨g, e1⟩
end
end Go.Proofs.YtldbjnhfkjicjaaDoor
namespace Go.Proofs.YtldbjnhfkjicjaaDoor
open Go Go.RowKit
section
variable {f : Fr} {n : Post} {x : Nat → Post} {S : Sig} {h : Part} {L L' : List Ent} {ops : Array Oper} {rest : List Oper}
variable {ty : TypeId} {pos : String} {af : Array Edge} {d : Nat} {v : Value} {T T2 : TypeId} {xo yo : Operand}
def over (xs : List Value) (o : Nat) (cs : List Value) : List Value := xs.take o ++ cs ++ xs.drop (o + cs.length)
theorem over_len {xs cs : List Value} {o : Nat} (h : o + cs.length ≤ xs.length) : (over xs o cs).length = xs.length := by simp [over]; omega
theorem take_over (l cs : List Value) (o m : Nat) (hm : m ≤ l.length) (h : o + cs.length ≤ m) : (l.take o ++ cs ++ l.drop (o + cs.length)).take m = over (l.take m) o cs := by
  unfold over
  have e1 : (l.take m).take o = l.take o := by rw [List.take_take, Nat.min_eq_left (by omega)]
  have e2 : (l.take m).drop (o + cs.length) = (l.drop (o + cs.length)).take (m - (o + cs.length)) := by rw [List.drop_take]
  rw [e1, e2, List.take_append, List.take_of_length_le (by simp; omega)]
  congr 2
  simp; omega
end
end Go.Proofs.YtldbjnhfkjicjaaDoor
namespace Go.Proofs.YtldbjnhfkjicjaaDoor
open Go Go.RowKit
section
variable {f : Fr} {n : Post} {x : Nat → Post} {S : Sig} {h : Part} {L L' : List Ent} {ops : Array Oper} {rest : List Oper}
variable {ty : TypeId} {pos : String} {af : Array Edge} {d : Nat} {v : Value} {T : TypeId} {xo yo : Operand}
theorem rowA_cell {w : World} {g c t m sz i : Nat} {xs : List Value} (hk : Ok f.e h L w) (hm : Ent.row (some ⟨g, 0, none⟩) c t sz m xs ∈ L) (hi : i < xs.length) : w.cell? ⟨g, i, none⟩ = xs[i]? := by
  have hown : w.ownsRow 0 t sz (.slice (some ⟨g, 0, none⟩) m c) m xs := hk.own _ hm
  have := World.ownsRow.cells (g := g) hown rfl i xs[i] (List.getElem?_eq_getElem hi)
  rw [Addr.add_lit, Nat.zero_add] at this
  rw [this, List.getElem?_eq_getElem hi]
theorem RunV.indexA {e g ln c m sz : Nat} {k : IntKind} {i : Int} (hT : slT f.P T = some (e, sz)) (hx : ev S xo = some (.slice (some ⟨g, 0, none⟩) ln c)) (hy : ev S yo = some (.int k i)) (hi : i = (m : Int)) (h1 : m < ln) :
    RunV f S h L (.indexAddr T xo yo) ty (.pointer (some ⟨g, m * sz, none⟩)) := fun ac w s _ _ _ _ => by
  subst hi
  obtain ⟨hu, inf, hi, hs⟩ := slT_spec hT
  have h0 : (0 : Int) ≤ m := by omega
  have h2 : (m : Int) < ln := by omega
  simp [execOp, s.eval hx, s.eval hy, Instr.indexAt, run_underlying hu, asIntOf, sizeOf, typeInfo, hi, hs, h1, Addr.add_lit]
theorem RunV.rowA {g c t m sz o : Nat} {xs : List Value} (hT : aggT f.P T = some (some sz)) (hx : ev S xo = some (.pointer (some ⟨g, o, none⟩))) (hm : Ent.row (some ⟨g, 0, none⟩) c t sz m xs ∈ L) (ho : o + sz ≤ xs.length) : RunV f S h L (.load T xo) ty (.agg ((xs.drop o).take sz).toArray) := fun ac w s _ _ _ _ => by
  have hcl : ((xs.drop o).take sz).length = sz := by simp; omega
  have hld : (loadCells ⟨g, o, none⟩ ((xs.drop o).take sz).length).run f.P w = .ok ((xs.drop o).take sz).toArray w := run_loadCells_list (P := f.P) w ⟨g, o, none⟩ _ (fun j u hu => by
    have hlt : j < sz := by have := (List.getElem?_eq_some_iff.1 hu).1; omega
    rw [Addr.add_lit, rowA_cell s.ok hm (by omega)]
    rw [List.getElem?_take, if_pos hlt, List.getElem?_drop] at hu
    exact hu)
  rw [hcl] at hld
  simp [execOp, s.eval hx, Instr.loadAt, Instr.sureAddr, loadVar, (aggT_agg hT w).1, (aggT_agg hT w).2, hld]
theorem JL.storeRowA {g c t m sz o : Nat} {xs cs : List Value} (hT : aggT f.P T = some (some sz)) (hx : ev S xo = some (.pointer (some ⟨g, o, none⟩))) (hy : ev S yo = some (.agg cs.toArray)) (h1 : ∀ v ∈ cs, v.oneCell' = true) (hl : cs.length = sz) (u : Del (.row (some ⟨g, 0, none⟩) c t sz m xs) L L') (hi : o + sz ≤ xs.length)
    (k : JL f ops n x rest S h (.row (some ⟨g, 0, none⟩) c t sz m (over xs o cs) :: L')) : JL f ops n x (⟨none, .store T xo yo, ty, pos, af, none⟩ :: rest) S h L := fun a w s => by
  subst hl
  have okp := s.ok.perm u.perm
  have hown : w.ownsRow 0 t cs.length (.slice (some ⟨g, 0, none⟩) m c) m xs := okp.own _ (List.mem_cons_self ..)
  rcases hown.2 with ⟨hvv, _⟩ | ⟨g', cap, cur, hvv, hbg, hg, hh1, h2, h3, h4⟩
  · cases hvv
  · injection hvv with e1 e2 e3
    injection e1 with e1
    injection e1 with e1
    subst e1 e3
    have hxl : xs.length = m * cs.length := by simpa using hown.1
    have hmc : m * cs.length ≤ cur.size := by
      have : (cur.toList.take (m * cs.length)).length = m * cs.length := by rw [h4, hxl]
      simp at this; omega
    have hst := run_storeCells_at (P := f.P) g o t cs 0 cur w hg (by omega) h1
    have hok : Ok f.e h (.row (some ⟨g, 0, none⟩) c t cs.length m (over xs o cs) :: L') (w.setRow g (cur.toList.take o ++ cs ++ cur.toList.drop (o + cs.length)).toArray) := by
      refine okp.turn rfl rfl rfl (by simp) (fun b' _ hne => setRow_other w g b' _ (fun e => hne (by rw [e]; rfl))) ?_ (fun b' hb' => .inl hb')
      refine ⟨by rw [over_len (by omega)]; simpa using hown.1, .inr ⟨g, c, _, rfl, hbg, setRow_heap w g _ _ t _ hg, hh1, h2, ?_, ?_⟩⟩
      · have := h3; simp at this ⊢; omega
      · rw [← hxl, take_over cur.toList cs o xs.length (by simpa [hxl] using hmc) (by omega), hxl, h4]
    refine wpList_skp (w' := w.setRow g (cur.toList.take o ++ cs ++ cur.toList.drop (o + cs.length)).toArray) rfl ?_ (k _ _ (s.with hok))
    simp only [Nat.add_zero] at hst
    have hsv : (storeVar T ⟨g, o, none⟩ (.agg cs.toArray)).run f.P w = .ok () (w.setRow g (cur.toList.take o ++ cs ++ cur.toList.drop (o + cs.length)).toArray) := by
      have hi2 := (aggT_agg hT w).2
      unfold sizeOf typeInfo at hi2
      cases hq : f.P.info? T with
      | none => simp [hq] at hi2
      | some q =>
        simp [hq] at hi2
        simp [storeVar, sizeOf, typeInfo, hq, Value.cells, hi2, hst]
    simp [execOp, s.eval hx, s.eval hy, Instr.storeAt, Instr.sureAddr, hsv]
theorem RunV.ownSub {b t o sz : Nat} {cs : List Value} (hT : aggT f.P T = some (some sz)) (hx : ev S xo = some (.pointer (some ⟨b, o, none⟩))) (hm : Ent.blk b t cs ∈ L) (ho : o + sz ≤ cs.length) : RunV f S h L (.load T xo) ty (.agg ((cs.drop o).take sz).toArray) := fun ac w s _ _ _ _ => by
  have hcl : ((cs.drop o).take sz).length = sz := by simp; omega
  have hld : (loadCells ⟨b, o, none⟩ ((cs.drop o).take sz).length).run f.P w = .ok ((cs.drop o).take sz).toArray w := run_loadCells_list (P := f.P) w ⟨b, o, none⟩ _ (fun j u hu => by
    have hlt : j < sz := by have := (List.getElem?_eq_some_iff.1 hu).1; omega
    rw [Addr.add_lit, blk_cell s.ok hm]
    rw [List.getElem?_take, if_pos hlt, List.getElem?_drop] at hu
    simpa using hu)
  rw [hcl] at hld
  simp [execOp, s.eval hx, Instr.loadAt, Instr.sureAddr, loadVar, (aggT_agg hT w).1, (aggT_agg hT w).2, hld]
theorem JL.rowsm {l0 : List Oper} {a : Option Addr} {c t sz m : Nat} {xs : List Value} (hm : Ent.row a c t sz m xs ∈ L) (h0 : 0 < m) (k : ∀ g, a = some ⟨g, 0, none⟩ → JL f ops n x l0 S h L) : JL f ops n x l0 S h L := fun ac w s => by
  obtain ⟨g, hg⟩ := s.ok.row_some hm h0
  exact k g hg ac w s
end
theorem CellsR.set {α : Type} {R : Rep α} {sz : Nat} {h : Part} {xs cs : List Value} {l : List α} {i : Nat} {a : α} (k : CellsR R sz h xs l) (hi : i < l.length) (hl : cs.length = sz) (hR : R h cs a) : CellsR R sz h (over xs (i * sz) cs) (l.set i a) := by
  have hb : i * sz + sz ≤ l.length * sz := by rw [← Nat.succ_mul]; exact Nat.mul_le_mul_right sz hi
  have hxl := k.1
  refine ⟨by rw [over_len (by omega), List.length_set]; exact hxl, fun j y hj => ?_⟩
  have hjl : j < l.length := by have := (List.getElem?_eq_some_iff.1 hj).1; simpa using this
  by_cases hij : i = j
  · subst hij
    rw [List.getElem?_set_self hi] at hj
    injection hj with hj
    subst hj
    have e : ((over xs (i * sz) cs).drop (i * sz)).take sz = cs := by
      unfold over
      rw [List.append_assoc, List.drop_append_of_le_length (by simp; omega), List.drop_take, Nat.sub_self, List.take_zero, List.nil_append, List.take_append_of_le_length (by omega), List.take_of_length_le (by omega)]
    rw [e]; exact hR
  · rw [List.getElem?_set_ne hij] at hj
    have := k.2 j y hj
    have e : ((over xs (i * sz) cs).drop (j * sz)).take sz = (xs.drop (j * sz)).take sz := by
      apply List.ext_getElem?
      intro q
      rw [List.getElem?_take, List.getElem?_take]
      split
      · rename_i hq
        rw [List.getElem?_drop, List.getElem?_drop]
        unfold over
        rcases Nat.lt_or_gt_of_ne hij with h2 | h2
        · have : i * sz + sz ≤ j * sz := by rw [← Nat.succ_mul]; exact Nat.mul_le_mul_right sz h2
          rw [List.getElem?_append_right (by simp; omega), List.getElem?_drop]
          congr 1
          simp; omega
        · have : j * sz + sz ≤ i * sz := by rw [← Nat.succ_mul]; exact Nat.mul_le_mul_right sz h2
          rw [List.append_assoc, List.getElem?_append_left (by simp; omega), List.getElem?_take, if_pos (by omega)]
      · rfl
    rw [e]; exact this
theorem CellsR.at {α : Type} {R : Rep α} {sz : Nat} {h : Part} {xs : List Value} {l : List α} {i : Nat} (k : CellsR R sz h xs l) (hi : i < l.length) : R h ((xs.drop (i * sz)).take sz) l[i] ∧ i * sz + sz ≤ xs.length := by
  refine ⟨k.2 i _ (List.getElem?_eq_getElem hi), ?_⟩
  rw [k.1, ← Nat.succ_mul]
  exact Nat.mul_le_mul_right sz hi
end Go.Proofs.YtldbjnhfkjicjaaDoor
namespace Go.Proofs.YtldbjnhfkjicjaaDoor
section
variable {α : Type} (z : α)
def gg (l : List α) (i : Nat) : α := l.getD i z
def swp (l : List α) (i j : Nat) : List α := (l.set i (gg z l j)).set j (gg z l i)
theorem gg_at {l : List α} {i : Nat} (h : i < l.length) : gg z l i = l[i] := by unfold gg; simp [h]
theorem swp_len (l : List α) (i j : Nat) : (swp z l i j).length = l.length := by simp [swp]
theorem gg_set {l : List α} {i k : Nat} {x : α} (hi : i < l.length) : gg z (l.set i x) k = if k = i then x else gg z l k := by
  unfold gg
  rw [List.getD_eq_getElem?_getD, List.getD_eq_getElem?_getD, List.getElem?_set]
  by_cases h : i = k
  · subst h; simp [hi]
  · rw [if_neg h, if_neg (fun e => h e.symm)]
theorem gg_swp {l : List α} {i j k : Nat} (hi : i < l.length) (hj : j < l.length) : gg z (swp z l i j) k = if k = j then gg z l i else if k = i then gg z l j else gg z l k := by
  unfold swp
  rw [gg_set z (by simpa using hj), gg_set z hi]
theorem swp_perm {l : List α} {i j : Nat} (hi : i < l.length) (hj : j < l.length) : (swp z l i j).Perm l := by
  unfold swp
  rw [gg_at z hi, gg_at z hj]
  exact List.set_set_perm hi hj
inductive Sw (a b : Nat) : List α → List α → Prop where
  | refl (l : List α) : Sw a b l l
  | step {l l' : List α} {i j : Nat} (h : Sw a b l l') (h1 : a ≤ i) (h2 : i < b) (h3 : a ≤ j) (h4 : j < b) (h5 : i < l'.length) (h6 : j < l'.length) : Sw a b l (swp z l' i j)
theorem Sw.len {a b : Nat} {l l' : List α} (h : Sw z a b l l') : l'.length = l.length := by
  induction h with
  | refl => rfl
  | step _ _ _ _ _ _ _ ih => rw [swp_len, ih]
theorem Sw.trans {a b : Nat} {l l' l2 : List α} (h : Sw z a b l l') (k : Sw z a b l' l2) : Sw z a b l l2 := by
  induction k with
  | refl => exact h
  | step _ h1 h2 h3 h4 h5 h6 ih => exact .step ih h1 h2 h3 h4 h5 h6
theorem Sw.mono {a b a' b' : Nat} {l l' : List α} (h : Sw z a b l l') (h1 : a' ≤ a) (h2 : b ≤ b') : Sw z a' b' l l' := by
  induction h with
  | refl => exact .refl _
  | step _ g1 g2 g3 g4 g5 g6 ih => exact .step ih (by omega) (by omega) (by omega) (by omega) g5 g6
theorem Sw.perm {a b : Nat} {l l' : List α} (h : Sw z a b l l') : l'.Perm l := by
  induction h with
  | refl => exact List.Perm.refl _
  | step _ _ _ _ _ h5 h6 ih => exact (swp_perm z h5 h6).trans ih
theorem Sw.out {a b : Nat} {l l' : List α} (h : Sw z a b l l') {k : Nat} (hk : k < a ∨ b ≤ k) : gg z l' k = gg z l k := by
  induction h with
  | refl => rfl
  | step _ h1 h2 h3 h4 h5 h6 ih => rw [gg_swp z h5 h6, if_neg (by omega), if_neg (by omega), ih]
theorem Sw.all {a b : Nat} {l l' : List α} (h : Sw z a b l l') {P : α → Prop} (hp : ∀ k, a ≤ k → k < b → P (gg z l k)) : ∀ k, a ≤ k → k < b → P (gg z l' k) := by
  induction h with
  | refl => exact hp
  | step _ h1 h2 h3 h4 h5 h6 ih =>
    intro k hk1 hk2
    rw [gg_swp z h5 h6]
    split
    · exact ih _ h1 h2
    · split
      · exact ih _ h3 h4
      · exact ih _ hk1 hk2
variable (lt : α → α → Bool)
def So (l : List α) (a b : Nat) : Prop := ∀ i j, a ≤ i → i < j → j < b → lt (gg z l j) (gg z l i) = false
structure Ord : Prop where
  tr : ∀ x y w, lt y x = false → lt w y = false → lt w x = false
  asy : ∀ x y, lt x y = true → lt y x = false
variable {lt}
theorem So.sub {l : List α} {a b a' b' : Nat} (h : So z lt l a b) (h1 : a ≤ a') (h2 : b' ≤ b) : So z lt l a' b' := fun i j x y w => h i j (by omega) y (by omega)
theorem So.one {l : List α} {a b : Nat} (h : b ≤ a + 1) : So z lt l a b := fun i j x y w => by omega
theorem So.same {l l' : List α} {a b : Nat} (h : So z lt l a b) (e : ∀ k, a ≤ k → k < b → gg z l' k = gg z l k) : So z lt l' a b := fun i j x y w => by
  rw [e i x (by omega), e j (by omega) w]; exact h i j x y w
theorem Ord.re (o : Ord lt) (x : α) : lt x x = false := by
  cases h : lt x x with
  | false => rfl
  | true => have := o.asy x x h; rw [h] at this; cases this
theorem So.join {l : List α} {a m b : Nat} (h1 : So z lt l a m) (h2 : So z lt l m b) (h : ∀ i j, a ≤ i → i < m → m ≤ j → j < b → lt (gg z l j) (gg z l i) = false) : So z lt l a b := fun i j x y w => by
  by_cases hj : j < m
  · exact h1 i j x y hj
  · by_cases hi : m ≤ i
    · exact h2 i j hi y w
    · exact h i j x (by omega) (by omega) w
def rotI (a m b : Nat) (i : Nat) : Nat := if a ≤ i ∧ i < a + (b - m) then i + (m - a) else if a + (b - m) ≤ i ∧ i < b then i - (b - m) else i
def exI (a b n : Nat) (i : Nat) : Nat := if a ≤ i ∧ i < a + n then i - a + b else if b ≤ i ∧ i < b + n then i - b + a else i
theorem rot_more {a m b i j k : Nat} (hi : i ≤ m) (hij : j < i) : exI (m - i) m j (rotI (m - (i - j)) m (m + j) k) = rotI (m - i) m (m + j) k := by
  unfold exI rotI
  (repeat' split) <;> omega
theorem rot_less {m i j k : Nat} (hi : i ≤ m) (hij : i < j) : exI (m - i) (m + j - i) i (rotI (m - i) m (m + (j - i)) k) = rotI (m - i) m (m + j) k := by
  unfold exI rotI
  (repeat' split) <;> omega
theorem rot_end {m i k : Nat} (hi : i ≤ m) : exI (m - i) m i k = rotI (m - i) m (m + i) k := by
  unfold exI rotI
  (repeat' split) <;> omega
theorem ex_step {l l' : List α} {a b n i : Nat} (hab : a + n ≤ b) (hb : b + n ≤ l.length) (hi : i < n) (hl : l'.length = l.length) (h : ∀ k, gg z l' k = gg z l (exI a b i k)) : ∀ k, gg z (swp z l' (a + i) (b + i)) k = gg z l (exI a b (i + 1) k) := fun k => by
  rw [gg_swp z (by omega) (by omega), h, h, h]
  have e : (if k = b + i then exI a b i (a + i) else if k = a + i then exI a b i (b + i) else exI a b i k) = exI a b (i + 1) k := by
    unfold exI
    (repeat' split) <;> omega
  rw [← e]
  split
  · rfl
  · split <;> rfl
theorem So.le (o : Ord lt) {l : List α} {a b i j : Nat} (h : So z lt l a b) (h1 : a ≤ i) (h2 : i ≤ j) (h3 : j < b) : lt (gg z l j) (gg z l i) = false := by
  rcases Nat.eq_or_lt_of_le h2 with h4 | h4
  · subst h4; exact o.re _
  · exact h i j h1 h4 h3
theorem rotI_1 {s m e k : Nat} (h : k < s ∨ e ≤ k) (hs : s ≤ m) (he : m ≤ e) : rotI s m e k = k := by unfold rotI; (repeat' split) <;> omega
theorem rotI_2 {s m e k : Nat} (h : s ≤ k) (h2 : k < s + (e - m)) : rotI s m e k = k + (m - s) := by unfold rotI; (repeat' split) <;> omega
theorem rotI_3 {s m e k : Nat} (h : s + (e - m) ≤ k) (h2 : k < e) : rotI s m e k = k - (e - m) := by unfold rotI; (repeat' split) <;> omega
theorem sym_parts (o : Ord lt) {l l2 : List α} {a m b mid s e : Nat} (h1 : So z lt l a m) (h2 : So z lt l m b) (hs : a ≤ s) (hm : s ≤ m) (he : m ≤ e) (hb : e ≤ b) (hmid : mid = s + (e - m))
    (c1 : s = a ∨ e = b ∨ lt (gg z l e) (gg z l (s - 1)) = false) (c2 : s = m ∨ e = m ∨ lt (gg z l (e - 1)) (gg z l s) = true) (h3 : ∀ k, gg z l2 k = gg z l (rotI s m e k)) :
    So z lt l2 a s ∧ So z lt l2 s mid ∧ So z lt l2 mid e ∧ So z lt l2 e b ∧ ∀ i j, a ≤ i → i < mid → mid ≤ j → j < b → lt (gg z l2 j) (gg z l2 i) = false := by
  subst hmid
  refine ⟨fun i j x y w => ?_, fun i j x y w => ?_, fun i j x y w => ?_, fun i j x y w => ?_, fun i j x y w v => ?_⟩
  · rw [h3, h3, rotI_1 (by omega) hm he, rotI_1 (by omega) hm he]; exact h1 i j x y (by omega)
  · rw [h3, h3, rotI_2 (by omega) (by omega), rotI_2 (by omega) (by omega)]; exact h2 _ _ (by omega) (by omega) (by omega)
  · rw [h3, h3, rotI_3 (by omega) (by omega), rotI_3 (by omega) (by omega)]; exact h1 _ _ (by omega) (by omega) (by omega)
  · rw [h3, h3, rotI_1 (by omega) hm he, rotI_1 (by omega) hm he]; exact h2 i j (by omega) y w
  · by_cases hi : i < s
    · rw [h3 i, rotI_1 (.inl hi) hm he]
      by_cases hj : j < e
      · rw [h3 j, rotI_3 w hj]
        exact h1.le z o x (by omega) (by omega)
      · rw [h3 j, rotI_1 (.inr (by omega)) hm he]
        have q1 := h1.le z o (i := i) (j := s - 1) x (by omega) (by omega)
        have q2 := h2.le z o (i := e) (j := j) he (by omega) v
        have q3 : lt (gg z l e) (gg z l (s - 1)) = false := by
          rcases c1 with c | c | c
          · omega
          · omega
          · exact c
        exact o.tr _ _ _ (o.tr _ _ _ q1 q3) q2
    · rw [h3 i, rotI_2 (by omega) y]
      by_cases hj : j < e
      · rw [h3 j, rotI_3 w hj]
        have q1 := h2.le z o (i := i + (m - s)) (j := e - 1) (by omega) (by omega) (by omega)
        have q2 := h1.le z o (i := s) (j := j - (e - m)) hs (by omega) (by omega)
        have q3 : lt (gg z l (e - 1)) (gg z l s) = true := by
          rcases c2 with c | c | c
          · omega
          · omega
          · exact c
        exact o.tr _ _ _ (o.tr _ _ _ q1 (o.asy _ _ q3)) q2
      · rw [h3 j, rotI_1 (.inr (by omega)) hm he]
        exact h2.le z o (by omega) (by omega) v
theorem sym_join {l2 l3 l4 : List α} {a b mid : Nat} (hc : ∀ i j, a ≤ i → i < mid → mid ≤ j → j < b → lt (gg z l2 j) (gg z l2 i) = false) (k1 : Sw z a mid l2 l3) (g1 : So z lt l3 a mid) (k2 : Sw z mid b l3 l4) (g2 : So z lt l4 mid b) : So z lt l4 a b := by
  have e1 : So z lt l4 a mid := g1.same z fun k _ h => k2.out z (.inl h)
  refine e1.join z g2 fun i j x y w v => ?_
  rw [k2.out z (.inl y)]
  have hc3 : ∀ i j, a ≤ i → i < mid → mid ≤ j → j < b → lt (gg z l3 j) (gg z l3 i) = false := fun i j x y w v => by
    rw [k1.out z (.inr w)]
    exact k1.all z (P := fun u => lt (gg z l2 j) u = false) (fun k hk1 hk2 => hc k j hk1 hk2 w v) i x y
  exact k2.all z (P := fun u => lt u (gg z l3 i) = false) (fun k hk1 hk2 => hc3 i k x y hk1 hk2) j w v
theorem ins_up {l l2 : List α} {a i b : Nat} (h : So z lt l (a + 1) b) (ha : a < i) (hi : i ≤ b) (h1 : i = a + 1 ∨ lt (gg z l (i - 1)) (gg z l a) = true) (h2 : i = b ∨ lt (gg z l i) (gg z l a) = false) (o : Ord lt)
    (e : ∀ k, gg z l2 k = gg z l (if a ≤ k ∧ k + 1 < i then k + 1 else if k + 1 = i then a else k)) : So z lt l2 a b := fun p q x y w => by
  rw [e p, e q]
  by_cases hq : q + 1 < i
  · rw [if_pos (by omega), if_pos (by omega)]; exact h _ _ (by omega) (by omega) (by omega)
  · by_cases hq2 : q + 1 = i
    · rw [if_neg (show ¬ (a ≤ q ∧ q + 1 < i) by omega), if_pos hq2, if_pos (by omega)]
      have q3 : lt (gg z l (i - 1)) (gg z l a) = true := by
        rcases h1 with c | c
        · omega
        · exact c
      have q1 := h.le z o (i := p + 1) (j := i - 1) (by omega) (by omega) (by omega)
      exact o.tr _ _ _ q1 (o.asy _ _ q3)
    · rw [if_neg (show ¬ (a ≤ q ∧ q + 1 < i) by omega), if_neg hq2]
      have q3 : i ≠ b → lt (gg z l i) (gg z l a) = false := fun hn => h2.resolve_left hn
      by_cases hp : p + 1 < i
      · rw [if_pos (by omega)]; exact h _ _ (by omega) (by omega) w
      · by_cases hp2 : p + 1 = i
        · rw [if_neg (by omega), if_pos hp2]
          exact o.tr _ _ _ (q3 (by omega)) (h.le z o (by omega) (by omega) w)
        · rw [if_neg (by omega), if_neg hp2]; exact h _ _ (by omega) y w
theorem ins_down {l l2 : List α} {a i m : Nat} (h : So z lt l a m) (ha : a ≤ i) (hi : i ≤ m) (h1 : i = a ∨ lt (gg z l m) (gg z l (i - 1)) = false) (h2 : i = m ∨ lt (gg z l m) (gg z l i) = true) (o : Ord lt)
    (e : ∀ k, gg z l2 k = gg z l (if k = i then m else if i < k ∧ k ≤ m then k - 1 else k)) : So z lt l2 a (m + 1) := fun p q x y w => by
  rw [e p, e q]
  by_cases hp : p < i
  · rw [if_neg (show ¬ p = i by omega), if_neg (show ¬ (i < p ∧ p ≤ m) by omega)]
    by_cases hq : q < i
    · rw [if_neg (by omega), if_neg (by omega)]; exact h _ _ x y (by omega)
    · by_cases hq2 : q = i
      · rw [if_pos hq2]
        have q3 : lt (gg z l m) (gg z l (i - 1)) = false := by
          rcases h1 with c | c
          · omega
          · exact c
        exact o.tr _ _ _ (h.le z o (i := p) (j := i - 1) x (by omega) (by omega)) q3
      · rw [if_neg hq2, if_pos (by omega)]; exact h _ _ x (by omega) (by omega)
  · by_cases hp2 : p = i
    · rw [if_pos hp2, if_neg (by omega), if_pos (by omega)]
      have q3 : lt (gg z l m) (gg z l i) = true := by
        rcases h2 with c | c
        · omega
        · exact c
      exact o.tr _ _ _ (o.asy _ _ q3) (h.le z o (by omega) (by omega) (by omega))
    · rw [if_neg hp2, if_pos (show i < p ∧ p ≤ m by omega), if_neg (show ¬ q = i by omega), if_pos (show i < q ∧ q ≤ m by omega)]; exact h _ _ (by omega) (by omega) (by omega)
end
end Go.Proofs.YtldbjnhfkjicjaaDoor
namespace Go.Proofs.YtldbjnhfkjicjaaDoor
open Go Go.RowKit
theorem z8_ {p : Prop} (u : p := by first | rfl | exact NdR.len5 (by assumption)) : p := u
theorem z13_ {p : Prop} (u : p := by repeat (first | exact trivial | refine ⟨rfl, ?_⟩ | refine ⟨(by exact some_bool (by cases k <;> simp_all [okN, Nd.cls, Nd.tag, Nd.cons])), ?_⟩)) : p := u
theorem z17_ {p : Prop} (u : p := by first | rfl | assumption | exact NdR.len5 (by assumption)) : p := u
theorem z20_ {p : Prop} (u : p := by first | rfl | exact NdR.all1 (by assumption)) : p := u
theorem z31_ {p : Prop} (u : p := by repeat (first | exact trivial | refine ⟨rfl, ?_⟩ | refine ⟨(by exact some_bool (by cases kbad <;> simp_all)), ?_⟩)) : p := u
end Go.Proofs.YtldbjnhfkjicjaaDoor
namespace Go.Proofs.YtldbjnhfkjicjaaDoor
open Go Go.RowKit
theorem ca_16 : callT Tryd.prog 16 = true := by kernel_rfl
theorem ca_19 : callT Tryd.prog 19 = true := by kernel_rfl
theorem ca_27 : callT Tryd.prog 27 = true := by kernel_rfl
theorem ca_28 : callT Tryd.prog 28 = true := by kernel_rfl
theorem ca_29 : callT Tryd.prog 29 = true := by kernel_rfl
theorem zr_26 : zeroT Tryd.prog 26 = some [.int .i64 0, .int .i64 0, .bool false, .slice none 0 0, .slice none 0 0] := by kernel_rfl
theorem run_bcompare {h : Part} {w : World} (s : Sub h w) {a b : Option Addr} {c d : Nat} {l r : List UInt8} (hl : SlR u8R 1 h a c l) (hr : SlR u8R 1 h b d r) :
    (callFunc 31 #[.slice a l.length c, .slice b r.length d]).run Tryd.prog w = .ok (.value (.int .i64 (Go.Lib.compareBytes l r))) w := by
  rw [run_callFunc_extern Tryd.func31 (by kernel_rfl) (by kernel_rfl) (by kernel_rfl) (e := Extern.BytealgCompare.compare) (by kernel_rfl), run_compareB s hl hr]
  rfl
theorem bcompare_fn {a b : Option Addr} {c d : Nat} {l r : List UInt8} {h : Part} (hl : SlR u8R 1 h a c l) (hr : SlR u8R 1 h b d r) : Pure Tryd.prog 19 [.slice a l.length c, .slice b r.length d] h (.int .i64 (Go.Lib.compareBytes l r)) := by
  refine Fn.intro Tryd.func19 rfl Tryd.ntmps19 rfl (fun e he => ?_)
  refine J.weak [(0, _), (1, _)] ⟨rfl, rfl, trivial⟩ ?_
  refine Sr ?_
  refine Ru 1 rfl ?_
  refine JL.nil ?_
  refine Sr ?_
  refine Ru 2 rfl ?_
  refine JL.op (RunV.callX rfl (fun w hw => run_bcompare hw hl hr)) rfl ?_
  refine Ru 1 rfl ?_
  refine Nk [4] rfl ?_
  exact J.retP (RetV.one rfl rfl) rfl rfl
def okN (c t : Int) (k : Bool) (bs : List UInt8) (ks : List Nd) : Bool :=
  mayB c t k && (!(k && decide (0 < bs.length)) && (!(!k && decide (0 < ks.length)) && !(decide (c = 0) && (!k && !valB t bs))))
def aboveB : Option (List UInt8) → List UInt8 → Bool
  | none, _ => false
  | some l, b => decide (0 < Go.Lib.compareBytes l b)
mutual
def Nd.put : Nd → Option (List UInt8)
  | .mk c t k bs ks => if okN c t k bs ks then (Nd.putL (decide (c = 0) && decide (t = 17)) ks none bs).map (fun b => headB c t k b.length ++ b) else none
def Nd.putL : Bool → List Nd → Option (List UInt8) → List UInt8 → Option (List UInt8)
  | _, [], _, acc => some acc
  | set, x :: r, last, acc => match Nd.put x with
    | none => none
    | some b => if set && aboveB last b then none else Nd.putL set r (some b) (acc ++ b)
end
theorem headB_len (c t : Int) (k : Bool) (n : Nat) : 2 ≤ (headB c t k n).length ∧ (headB c t k n).length ≤ 8 := by
  have := nby_bd n
  unfold headB lenB
  split
  · simp
  · simp [be_len]; omega
theorem Nd.put_len : ∀ (n : Nat) (x : Nd) (b : List UInt8), x.rk ≤ n → x.put = some b → 2 ≤ b.length ∧ b.length ≤ 8 * x.sz := by
  intro n
  induction n with
  | zero => intro x b hx; cases x; simp [Nd.rk] at hx
  | succ n ih =>
    intro x b hx hb
    cases x with
    | mk c t k bs ks =>
      simp only [Nd.rk] at hx
      have key : ∀ (l : List Nd) (set : Bool) (last : Option (List UInt8)) (acc b : List UInt8), Nd.rkL l ≤ n → Nd.putL set l last acc = some b → b.length ≤ acc.length + 8 * Nd.szL l := by
        intro l
        induction l with
        | nil => intro set last acc b _ hb; simp only [Nd.putL, Option.some.injEq] at hb; subst hb; simp [Nd.szL]
        | cons y r ihr =>
          intro set last acc b hl hb
          simp only [Nd.rkL] at hl
          simp only [Nd.putL] at hb
          split at hb
          · cases hb
          · rename_i b1 hb1
            split at hb
            · cases hb
            · have h1 := ih y b1 (by omega) hb1
              have h2 := ihr _ _ _ _ (by omega) hb
              simp only [Nd.szL, List.length_append] at h2 ⊢
              omega
      simp only [Nd.put] at hb
      split at hb
      · cases hp : Nd.putL (decide (c = 0) && decide (t = 17)) ks none bs with
        | none => simp [hp] at hb
        | some b1 =>
          simp only [hp, Option.map_some, Option.some.injEq] at hb
          subst hb
          have h1 := key ks _ _ _ _ (by omega) hp
          have h2 := headB_len c t k b1.length
          simp only [List.length_append, Nd.sz]
          omega
      · cases hb
theorem Nd.szL_take (l : List Nd) (i : Nat) (h : i < l.length) : Nd.szL (l.take (i + 1)) = Nd.szL (l.take i) + l[i].sz := by
  rw [List.take_succ_eq_append_getElem h, Nd.szL_append]; simp [Nd.szL]
theorem Nd.szL_take_le (l : List Nd) (i : Nat) : Nd.szL (l.take i) ≤ Nd.szL l := by
  have := Nd.szL_append (l.take i) (l.drop i)
  rw [List.take_append_drop] at this
  omega
def PutR (x : Nd) (bw : Nat) (d0 deep : Int) : Value → Part → List Ent → Prop := fun v h' Lo =>
  ∃ (b : List UInt8) (a : Option Addr) (c : Nat) (d1 : Int) (bad : Bool), v = .slice a b.length c ∧ SlR u8R 1 h' a c b ∧ Lo = [.blk bw 48 [.int .i64 d1, .bool bad]] ∧
    (bad = true → x.put = none) ∧ (bad = false → x.put = some b ∧ d1 = max d0 (deep + x.rk - 1))
theorem Nd.putL_step (set : Bool) (ks : List Nd) (i : Nat) (last : Option (List UInt8)) (acc : List UInt8) (hi : i < ks.length) :
    Nd.putL set (ks.drop i) last acc = match Nd.put ks[i] with
      | none => none
      | some b => if set && aboveB last b then none else Nd.putL set (ks.drop (i + 1)) (some b) (acc ++ b) := by
  rw [List.drop_eq_getElem_cons hi]; rfl
theorem above_if (i : Nat) (l b : List UInt8) : aboveB (if i = 0 then none else some l) b = (decide ((0 : Int) < i) && decide (0 < Go.Lib.compareBytes l b)) := by
  by_cases h : i = 0
  · subst h; rfl
  · rw [if_neg h, decide_eq_true (show (0 : Int) < i by omega)]; rfl
theorem okN_may {c t : Int} {k : Bool} {bs : List UInt8} {ks : List Nd} (h : okN c t k bs ks = true) : (c = 0 ∨ c = 2) ∧ 0 ≤ t ∧ t ≤ 30 := by
  unfold okN mayB at h
  simp only [Bool.and_eq_true, Bool.or_eq_true, decide_eq_true_eq] at h
  obtain ⟨⟨h1, h2⟩, _⟩ := h
  exact ⟨by rcases h2 with h2 | h2; exact .inr h2; exact .inl h2.1, h1⟩
theorem put_fn : ∀ (n : Nat) (x : Nd) (cs : List Value) (h : Part) (bw : Nat) (d0 deep : Int), x.rk ≤ n → NdR h cs x → Tabs h → x.sz ≤ 1073741824 → 0 ≤ deep → deep + x.rk ≤ 1099511627776 →
    Fn Tryd.prog 16 [.pointer (some ⟨bw, 0, none⟩), .agg cs.toArray, .int .i64 deep] h [.blk bw 48 [.int .i64 d0, .bool false]] (Rets (PutR x bw d0 deep)) := by
  intro n
  induction n with
  | zero => intro x cs h bw d0 deep hx; cases x; simp [Nd.rk] at hx
  | succ n ih =>
  intro x cs h bw d0 deep hx r hT hsz hd0 hd1
  cases x with
  | mk c t k bs ks =>
  obtain ⟨a, ca, b, cb, rfl, ha, hb⟩ := r.inv
  have hl := hb.big
  have hl2 := ha.big
  simp only [Nd.rk] at hx hd1
  simp only [Nd.sz] at hsz
  have hkr : ∀ i (hi : i < ks.length), (ks[i].rk ≤ n ∧ ks[i].rk ≤ Nd.rkL ks) ∧ ks[i].sz ≤ Nd.szL ks := fun i hi => ⟨⟨by have := Nd.rk_lt (List.getElem_mem hi); omega, Nd.rk_lt (List.getElem_mem hi)⟩, Nd.sz_le (List.getElem_mem hi)⟩
  refine Fn.intro Tryd.func16 rfl Tryd.ntmps16 rfl (fun e he => ?_)
  refine J.weak [(0, _), (1, _), (2, _)] ⟨rfl, rfl, rfl, trivial⟩ ?_
  refine Sr ?_
  refine JL.box rfl rfl rfl (fun b1 => ?_)
  refine Ru 1 rfl ?_
  refine JL.nil ?_
  refine Sr ?_
  refine Ru 4 rfl ?_
  refine JL.op (RunV.own1 ag_3 rfl mm_ rfl) rfl ?_
  refine Ru 1 rfl ?_
  refine JL.op (RunV.max2 rfl rfl) rfl ?_
  refine Ru 2 rfl ?_
  refine JL.store1 ag_3 rfl rfl rfl dl_ z28_ ?_
  refine Nk [6, 4, 0, 2] rfl ?_
  refine J.seq ?_
  refine J.seq ?_
  refine J.meet [(62, .bool (!okN c t k bs ks))] [(6, _), (4, _), (0, _), (2, _)] ⟨rfl, rfl, rfl, rfl, trivial⟩ ?_ ?_
  ·
   refine Rg ?_
   refine JL.op (RunV.ownA ag_26 rfl mm_ z8_) rfl ?_
   refine JL.callP ca_27 rfl (pmay_fn (by assumption)) rfl ?_
   refine Ru 2 rfl ?_
   refine Bs 24 rfl (fun hc3 => ?_) fun hc3 => ?_
   ·
    refine Ru 38 rfl ?_
    refine JL.nil ?_
    refine ⟨rfl, rfl, ?_⟩
    exact z13_
   refine Ru 1 rfl ?_
   refine JL.opg rfl rfl  (RunV.own1 ag_4 rfl mm_ rfl) rfl ?_
   refine Ru 1 rfl ?_
   refine Bs 27 rfl (fun hc4 => ?_) fun hc4 => ?_
   ·
    refine Ru 1 rfl ?_
    refine JL.opg rfl rfl  (RunV.own1 ag_24 rfl mm_ rfl) rfl ?_
    refine Ru 5 rfl ?_
    refine Bs 34 rfl (fun hc5 => ?_) fun hc5 => ?_
    ·
     refine Ru 28 rfl ?_
     refine JL.nil ?_
     refine ⟨rfl, rfl, ?_⟩
     exact z13_
    refine Ru 1 rfl ?_
    refine JL.opg rfl rfl  (RunV.own1 ag_4 rfl mm_ rfl) rfl ?_
    refine Ru 2 rfl ?_
    refine Bs 38 rfl (fun hc6 => ?_) fun hc6 => ?_
    ·
     refine Ru 1 rfl ?_
     refine JL.opg rfl rfl  (RunV.own1 ag_22 rfl mm_ rfl) rfl ?_
     refine Ru 5 rfl ?_
     refine Bs 45 rfl (fun hc7 => ?_) fun hc7 => ?_
     ·
      refine Ru 17 rfl ?_
      refine JL.nil ?_
      refine ⟨rfl, rfl, ?_⟩
      exact z13_
     refine Ru 1 rfl ?_
     refine JL.opg rfl rfl  (RunV.own1 ag_3 rfl mm_ rfl) rfl ?_
     refine Ru 2 rfl ?_
     refine Bs 49 rfl (fun hc8 => ?_) fun hc8 => ?_
     ·
      refine Ru 1 rfl ?_
      refine JL.opg rfl rfl  (RunV.own1 ag_4 rfl mm_ rfl) rfl ?_
      refine Ru 3 rfl ?_
      refine Bs 54 rfl (fun hc9 => ?_) fun hc9 => ?_
      ·
       refine Ru 1 rfl ?_
       refine JL.opg rfl rfl  (RunV.own1 ag_3 rfl mm_ rfl) rfl ?_
       refine Ru 1 rfl ?_
       refine JL.opg rfl rfl  (RunV.own1 ag_24 rfl mm_ rfl) rfl ?_
       refine JL.callPg rfl rfl  ca_28 rfl (value_fn (by assumption) (by assumption) (by omega)) rfl ?_
       refine Ru 3 rfl ?_
       refine JL.nil ?_
       refine ⟨rfl, rfl, ?_⟩
       exact z13_
      refine Ru 8 rfl ?_
      refine JL.nil ?_
      refine ⟨rfl, rfl, ?_⟩
      exact z13_
     refine Ru 13 rfl ?_
     refine JL.nil ?_
     refine ⟨rfl, rfl, ?_⟩
     exact z13_
    refine Ru 8 rfl ?_
    refine JL.opg rfl rfl  (RunV.own1 ag_3 rfl mm_ rfl) rfl ?_
    refine Ru 2 rfl ?_
    refine Bs 49 rfl (fun hc11 => ?_) fun hc11 => ?_
    ·
     refine Ru 1 rfl ?_
     refine JL.opg rfl rfl  (RunV.own1 ag_4 rfl mm_ rfl) rfl ?_
     refine Ru 3 rfl ?_
     refine Bs 54 rfl (fun hc12 => ?_) fun hc12 => ?_
     ·
      refine Ru 1 rfl ?_
      refine JL.opg rfl rfl  (RunV.own1 ag_3 rfl mm_ rfl) rfl ?_
      refine Ru 1 rfl ?_
      refine JL.opg rfl rfl  (RunV.own1 ag_24 rfl mm_ rfl) rfl ?_
      refine JL.callPg rfl rfl  ca_28 rfl (value_fn (by assumption) (by assumption) (by omega)) rfl ?_
      refine Ru 3 rfl ?_
      refine JL.nil ?_
      refine ⟨rfl, rfl, ?_⟩
      exact z13_
     refine Ru 8 rfl ?_
     refine JL.nil ?_
     refine ⟨rfl, rfl, ?_⟩
     exact z13_
    refine Ru 13 rfl ?_
    refine JL.nil ?_
    refine ⟨rfl, rfl, ?_⟩
    exact z13_
   refine Ru 8 rfl ?_
   refine JL.opg rfl rfl  (RunV.own1 ag_4 rfl mm_ rfl) rfl ?_
   refine Ru 2 rfl ?_
   refine Bs 38 rfl (fun hc14 => ?_) fun hc14 => ?_
   ·
    refine Ru 1 rfl ?_
    refine JL.opg rfl rfl  (RunV.own1 ag_22 rfl mm_ rfl) rfl ?_
    refine Ru 5 rfl ?_
    refine Bs 45 rfl (fun hc15 => ?_) fun hc15 => ?_
    ·
     refine Ru 17 rfl ?_
     refine JL.nil ?_
     refine ⟨rfl, rfl, ?_⟩
     exact z13_
    refine Ru 1 rfl ?_
    refine JL.opg rfl rfl  (RunV.own1 ag_3 rfl mm_ rfl) rfl ?_
    refine Ru 2 rfl ?_
    refine Bs 49 rfl (fun hc16 => ?_) fun hc16 => ?_
    ·
     refine Ru 1 rfl ?_
     refine JL.opg rfl rfl  (RunV.own1 ag_4 rfl mm_ rfl) rfl ?_
     refine Ru 3 rfl ?_
     refine Bs 54 rfl (fun hc17 => ?_) fun hc17 => ?_
     ·
      refine Ru 1 rfl ?_
      refine JL.opg rfl rfl  (RunV.own1 ag_3 rfl mm_ rfl) rfl ?_
      refine Ru 1 rfl ?_
      refine JL.opg rfl rfl  (RunV.own1 ag_24 rfl mm_ rfl) rfl ?_
      refine JL.callPg rfl rfl  ca_28 rfl (value_fn (by assumption) (by assumption) (by omega)) rfl ?_
      refine Ru 3 rfl ?_
      refine JL.nil ?_
      refine ⟨rfl, rfl, ?_⟩
      exact z13_
     refine Ru 8 rfl ?_
     refine JL.nil ?_
     refine ⟨rfl, rfl, ?_⟩
     exact z13_
    refine Ru 13 rfl ?_
    refine JL.nil ?_
    refine ⟨rfl, rfl, ?_⟩
    exact z13_
   refine Ru 8 rfl ?_
   refine JL.opg rfl rfl  (RunV.own1 ag_3 rfl mm_ rfl) rfl ?_
   refine Ru 2 rfl ?_
   refine Bs 49 rfl (fun hc19 => ?_) fun hc19 => ?_
   ·
    refine Ru 1 rfl ?_
    refine JL.opg rfl rfl  (RunV.own1 ag_4 rfl mm_ rfl) rfl ?_
    refine Ru 3 rfl ?_
    refine Bs 54 rfl (fun hc20 => ?_) fun hc20 => ?_
    ·
     refine Ru 1 rfl ?_
     refine JL.opg rfl rfl  (RunV.own1 ag_3 rfl mm_ rfl) rfl ?_
     refine Ru 1 rfl ?_
     refine JL.opg rfl rfl  (RunV.own1 ag_24 rfl mm_ rfl) rfl ?_
     refine JL.callPg rfl rfl  ca_28 rfl (value_fn (by assumption) (by assumption) (by omega)) rfl ?_
     refine Ru 3 rfl ?_
     refine JL.nil ?_
     refine ⟨rfl, rfl, ?_⟩
     exact z13_
    refine Ru 8 rfl ?_
    refine JL.nil ?_
    refine ⟨rfl, rfl, ?_⟩
    exact z13_
   refine Ru 13 rfl ?_
   refine JL.nil ?_
   refine ⟨rfl, rfl, ?_⟩
   exact z13_
  refine Cs rfl (fun hc22 => ?_) fun hc22 => ?_
  ·
   refine Sr ?_
   refine Ru 3 rfl ?_
   refine JL.store1 ag_4 rfl rfl rfl dl_ z28_ ?_
   refine Nk [6, 4, 0, 2] rfl ?_
   refine Sr ?_
   refine Ru 1 rfl ?_
   refine JL.nil ?_
   exact J.ret ⟨_, [_], _, (RetV.one rfl rfl), .cons dl_ .nil, _, rfl, [], none, 0, _, true, rfl, SlR.nil_, rfl, (fun _ => by simp only [Nd.put]; rw [hc22]; rfl), (fun hh => by cases hh)⟩
  have hok : okN c t k bs ks = true := hc22; have hmm := okN_may hok
  refine J.skip ?_
  refine Sr ?_
  refine Ru 1 rfl ?_
  refine JL.op (RunV.own1 ag_24 rfl mm_ rfl) rfl ?_
  refine Ru 1 rfl ?_
  refine JL.nil ?_
  refine Sr ?_
  refine Ru 1 rfl ?_
  refine JL.nil ?_
  refine J.seq ?_
  refine Sr ?_
  refine Ru 1 rfl ?_
  refine JL.op (RunV.own1 ag_22 rfl mm_ rfl) rfl ?_
  refine Ru 2 rfl ?_
  refine Nk [71, 70, 69, 8, 7, 6, 4, 0, 2] rfl ?_
  refine J.block ?_
  refine J.loop (fun t_ S_ h_ L_ => ∃ (g : Part) (i : Nat) (inB lb : List UInt8) (ai la : Option Addr) (ci lc : Nat) (d : Int), t_ = ks.length - i ∧ S_ = [(0, .pointer (some ⟨bw, 0, none⟩)), (2, .int .i64 deep), (4, .pointer (some ⟨b1, 0, none⟩)), (7, .slice ai inB.length ci), (8, .slice la lb.length lc), (69, .slice b ks.length cb), (70, .int .i64 ks.length), (71, .int .i64 i)] ∧ g = h_ ∧ L_ = [.blk bw 48 [.int .i64 d, .bool false], .blk b1 26 [.int .i64 c, .int .i64 t, .bool k, .slice a bs.length ca, .slice b ks.length cb]] ∧ (h.le g ∧ i ≤ ks.length ∧ SlR u8R 1 g ai ci inB ∧ SlR u8R 1 g la lc lb ∧ inB.length ≤ bs.length + 8 * Nd.szL (ks.take i) ∧ d = max (max d0 deep) (deep + Nd.rkL (ks.take i)) ∧ Nd.putL (decide (c = 0) && decide (t = 17)) ks none bs = Nd.putL (decide (c = 0) && decide (t = 17)) (ks.drop i) (if i = 0 then none else some lb) inB)) ⟨_, _, ?_, ⟨_, 0, bs, [], _, _, _, _, _, rfl, rfl, rfl, rfl, ⟨Part.le.refl _, by omega, ha, SlR.nil_, by omega, by simp [Nd.rkL]; (try omega), rfl⟩⟩⟩ ?_
  ·
   exact z5_
  rintro _ _ _ _ ⟨g, i, inB, lb, ai, la, ci, lc, d, rfl, rfl, rfl, rfl, hhg, hi, hin, hla, hil, hd, hp⟩
  have r := r.mono hhg; have hT := hT.mono hhg; have ha := ha.mono hhg; have hb := hb.mono hhg; have hst := Nd.szL_take_le ks i
  refine Sr ?_
  refine Ru 1 rfl ?_
  refine JL.nil ?_
  refine J.seq ?_
  refine Cs rfl (fun hc23 => ?_) fun hc23 => ?_
  ·
   have hi' : i < ks.length := (by omega); have hrt := Nd.rkL_take ks i hi'; have hzt := Nd.szL_take ks i hi'; have hst2 := Nd.szL_take_le ks (i + 1); have hrz := Nd.rkL_le_szL ks; have hrl := Nd.rkL_le ks i
   refine J.skip ?_
   refine J.seq ?_
   refine J.block ?_
   refine Sr ?_
   refine Ru 1 rfl ?_
   refine JL.ope (RunE.index sl_22 rfl rfl z6_ (by assumption) rfl (by omega)) rfl ?_
   rintro _ ⟨b24, o24, hi24, rfl, hE24⟩
   refine JL.ope (RunE.loadA ag_26 rfl (by assumption)) rfl ?_
   rintro _ ⟨_, rfl, hNd25⟩
   refine JL.alloc zr_26 rfl (fun b26 => ?_)
   refine Ru 1 rfl ?_
   refine JL.storeA ag_26 rfl rfl dl_ z20_ z17_ z8_ ?_
   refine JL.nil ?_
   refine Sr ?_
   refine Ru 1 rfl ?_
   refine JL.op (RunV.ownA ag_26 rfl mm_ z8_) rfl ?_
   refine Ru 1 rfl ?_
   refine JL.op ai_ rfl ?_
   refine JL.call ca_16 rfl (ih (ks[i]'(by omega)) _ _ _ _ _ (hkr i (by omega)).1.1 (by assumption) hT (by have := (hkr i (by omega)).2; omega) (by omega) (by have := (hkr i (by omega)).1.2; omega)) pt_ rfl ?_
   rintro _ h27 Lo27 hle27 ⟨kb, ka, kc, kd, kbad, rfl, hkS, rfl, hkf, hkt⟩
   replace r := r.mono hle27
   replace hT := hT.mono hle27
   replace ha := ha.mono hle27
   replace hb := hb.mono hle27
   replace hhg := hhg.mono hle27
   replace hin := hin.mono hle27
   replace hla := hla.mono hle27
   replace hNd25 := hNd25.mono hle27
   refine Ru 1 rfl ?_
   refine JL.nil ?_
   refine J.seq ?_
   refine J.seq ?_
   refine J.meet [(104, .bool (kbad || ((decide (c = 0) && decide (t = 17)) && (decide ((0 : Int) < i) && decide (0 < Go.Lib.compareBytes lb kb)))))] [(11, _), (80, _), (79, _), (78, _), (77, _), (76, _), (9, _), (10, _), (75, _), (74, _), (73, _), (72, _), (0, _), (2, _), (4, _), (7, _), (8, _), (69, _), (70, _), (71, _)] ⟨rfl, rfl, rfl, rfl, rfl, rfl, rfl, rfl, rfl, rfl, rfl, rfl, rfl, rfl, rfl, rfl, rfl, rfl, rfl, rfl, trivial⟩ ?_ ?_
   ·
    refine Rg ?_
    refine Ru 3 rfl ?_
    refine JL.op (RunV.own1 ag_4 rfl mm_ rfl) rfl ?_
    refine Ru 1 rfl ?_
    refine Bs 85 rfl (fun hc28 => ?_) fun hc28 => ?_
    ·
     refine Ru 19 rfl ?_
     refine JL.nil ?_
     refine ⟨rfl, rfl, ?_⟩
     exact z31_
    refine Ru 1 rfl ?_
    refine JL.opg rfl rfl  (RunV.own1 ag_3 rfl mm_ rfl) rfl ?_
    refine Ru 2 rfl ?_
    refine Bs 89 rfl (fun hc29 => ?_) fun hc29 => ?_
    ·
     refine Ru 1 rfl ?_
     refine JL.opg rfl rfl  (RunV.own1 ag_3 rfl mm_ rfl) rfl ?_
     refine Ru 3 rfl ?_
     refine Bs 94 rfl (fun hc30 => ?_) fun hc30 => ?_
     ·
      refine Ru 4 rfl ?_
      refine Bs 98 rfl (fun hc31 => ?_) fun hc31 => ?_
      ·
       refine Ru 2 rfl ?_
       refine JL.callPg rfl rfl  ca_19 rfl (bcompare_fn (by assumption) (by assumption)) rfl ?_
       refine Ru 3 rfl ?_
       refine JL.nil ?_
       refine ⟨rfl, rfl, ?_⟩
       exact z31_
      refine Ru 6 rfl ?_
      refine JL.nil ?_
      refine ⟨rfl, rfl, ?_⟩
      exact z31_
     refine Ru 10 rfl ?_
     refine JL.nil ?_
     refine ⟨rfl, rfl, ?_⟩
     exact z31_
    refine Ru 15 rfl ?_
    refine JL.nil ?_
    refine ⟨rfl, rfl, ?_⟩
    exact z31_
   refine Cs rfl (fun hc33 => ?_) fun hc33 => ?_
   ·
    have hz : Nd.putL (decide (c = 0) && decide (t = 17)) ks none bs = none := (by rw [hp, Nd.putL_step _ _ _ _ _ hi']; cases hkb : kbad with
      | true => rw [hkf hkb]
      | false => rw [(hkt hkb).1]; show (if _ then _ else _) = _; rw [if_pos (by rw [above_if]; rw [hkb, Bool.false_or] at hc33; exact hc33)])
    refine Sr ?_
    refine Ru 3 rfl ?_
    refine JL.store1 ag_4 rfl rfl rfl dl_ z28_ ?_
    refine JL.nil ?_
    refine Sr ?_
    refine Ru 1 rfl ?_
    refine JL.nil ?_
    exact J.ret ⟨_, [_], _, (RetV.one rfl rfl), .cons dl_ .nil, _, rfl, [], none, 0, _, true, rfl, SlR.nil_, rfl, (fun _ => by simp only [Nd.put]; rw [hok, hz]; rfl), (fun hh => by cases hh)⟩
   have hkb : kbad = false := (by cases kbad <;> simp_all); subst hkb; have hkp := (hkt rfl).1; have hkd := (hkt rfl).2; have hkl := Nd.put_len _ _ kb (Nat.le_refl _) hkp; rw [Bool.false_or] at hc33; have hcz := hc33; have hki := hkr i hi'
   refine J.skip ?_
   refine Sr ?_
   refine Ru 5 rfl ?_
   refine JL.ope (RunE.cut_full sl_24 rfl rfl rfl (by assumption) rfl rfl rfl) rfl ?_
   rintro _ ⟨a34, rfl, hS34⟩
   refine Ru 1 rfl ?_
   refine JL.appendFull ap_24 rfl rfl (by assumption) rfl rfl (by assumption) rfl (by omega) z3_ rfl rfl (fun a35 c35 xs35 hC35 hN35 => ?_)
   obtain rfl := hC35.u8
   refine Ru 1 rfl ?_
   refine JL.pub (R := u8R) (l := inB ++ kb) dl_ CellsR.of_u8 rfl z3_ (fun h36 hle36 hP36 => ?_)
   replace r := r.mono hle36
   replace hT := hT.mono hle36
   replace ha := ha.mono hle36
   replace hb := hb.mono hle36
   replace hhg := hhg.mono hle36
   replace hin := hin.mono hle36
   replace hla := hla.mono hle36
   replace hNd25 := hNd25.mono hle36
   replace hkS := hkS.mono hle36
   refine JL.nil ?_
   refine Rg ?_
   refine Ru 2 rfl ?_
   refine JL.nil ?_
   refine Rg ?_
   refine JL.ents [.blk bw _ _, .blk b1 _ _] pt_ ?_
   refine JL.op ai_ rfl ?_
   refine Ru 1 rfl ?_
   refine JL.nil ?_
   refine ⟨_, ?_, _, ?_, ⟨_, i + 1, inB ++ kb, kb, _, _, _, _, _, rfl, rfl, rfl, rfl, ⟨by assumption, by omega, by assumption, by assumption, by rw [List.length_append, hzt]; omega, by rw [hkd, hd, hrt]; omega, by rw [hp, Nd.putL_step _ _ _ _ _ hi', hkp]; show (if _ then _ else _) = _; rw [if_neg (by rw [above_if, hcz]; decide), if_neg (by omega)]⟩⟩⟩
   ·
    omega
   exact z5_
  refine J.exit ?_
  refine Kp [4, 7] rfl ?_
  refine Sr ?_
  refine JL.op (RunV.ownA ag_26 rfl mm_ z8_) rfl ?_
  refine Ru 2 rfl ?_
  have hhl := headB_len c t k inB.length; have hst2 := Nd.szL_take_le ks i
  refine JL.call ca_29 rfl (head_fn r hmm.1 hmm.2 (by omega)) pt_ rfl ?_
  rintro _ h37 Lo37 hle37 ⟨a37, c37, rfl, rfl⟩
  replace r := r.mono hle37
  replace hT := hT.mono hle37
  replace ha := ha.mono hle37
  replace hb := hb.mono hle37
  replace hhg := hhg.mono hle37
  replace hin := hin.mono hle37
  replace hla := hla.mono hle37
  simp only [Nd.cls, Nd.tag, Nd.cons]
  refine Ru 1 rfl ?_
  refine JL.append ap_24 rfl rfl CellsR.of_u8 rfl (by assumption) rfl dl_ z3_ rfl rfl (fun a38 c38 xs38 hC38 hN38 => ?_)
  obtain rfl := hC38.u8
  refine Ru 1 rfl ?_
  refine JL.pub (R := u8R) (l := headB c t k inB.length ++ inB) dl_ CellsR.of_u8 rfl z3_ (fun h39 hle39 hP39 => ?_)
  replace r := r.mono hle39
  replace hT := hT.mono hle39
  replace ha := ha.mono hle39
  replace hb := hb.mono hle39
  replace hhg := hhg.mono hle39
  replace hin := hin.mono hle39
  replace hla := hla.mono hle39
  refine Nk [6] rfl ?_
  have hz : Nd.putL (decide (c = 0) && decide (t = 17)) ks none bs = some inB := by rw [hp, List.drop_of_length_le (by omega)]; rfl
  exact J.ret ⟨_, [_], _, (RetV.one rfl rfl), .cons dl_ .nil, _, rfl, headB c t k inB.length ++ inB, _, _, _, false, rfl, by assumption, rfl, (fun hh => by cases hh), (fun _ => ⟨by simp only [Nd.put]; rw [hok, hz]; rfl, by rw [hd, List.take_of_length_le (by omega)]; simp only [Nd.rk]; omega⟩)⟩
end Go.Proofs.YtldbjnhfkjicjaaDoor
namespace Go.Proofs.YtldbjnhfkjicjaaDoor
open Go Go.RowKit
theorem ap_22 : apT Tryd.prog 22 = some (26, 5, 72) := by kernel_rfl
theorem ca_15 : callT Tryd.prog 15 = true := by kernel_rfl
theorem ca_26 : callT Tryd.prog 26 = true := by kernel_rfl
theorem cv_2_5 : convI Tryd.prog 2 5 = some .u8 := by kernel_rfl
theorem pl_26 : plT Tryd.prog 26 = some ([.int .i64 0, .int .i64 0, .bool false, .slice none 0 0, .slice none 0 0], [(0, 1), (1, 1), (2, 1), (3, 1), (4, 1)]) := by kernel_rfl
theorem pl_48 : plT Tryd.prog 48 = some ([.int .i64 0, .bool false], [(0, 1), (1, 1)]) := by kernel_rfl
def Nd.wr (x : Nd) : List UInt8 × Int := match x.put with
  | none => ([], 34)
  | some b => if 32 < x.rk then ([], 33) else if 16777216 < b.length then ([], 2) else (b, 0)
theorem write_fn {x : Nd} {cs : List Value} {h : Part} (r : NdR h cs x) (hT : Tabs h) (hsz : x.sz ≤ 1073741824) :
    FnR Tryd.prog 11 [.agg cs.toArray] h (fun v h' => ∃ a c, v = .tuple #[.slice a x.wr.1.length c, .int .i64 x.wr.2] ∧ SlR u8R 1 h' a c x.wr.1) := by
  have hrk : x.rk ≤ x.sz := Nd.rk_le_sz _ x (Nat.le_refl _)
  have hr1 : 1 ≤ x.rk := by cases x; simp [Nd.rk]
  refine Fn.intro Tryd.func11 rfl Tryd.ntmps11 rfl (fun e he => ?_)
  refine J.weak [(0, _)] ⟨rfl, trivial⟩ ?_
  refine Sr ?_
  refine JL.box rfl rfl rfl (fun b1 => ?_)
  refine Ru 2 rfl ?_
  refine JL.nil ?_
  refine Sr ?_
  refine JL.op (RunV.build (cs := [.int .i64 0, .bool false]) pl_48 rfl rfl) rfl ?_
  refine JL.box rfl rfl rfl (fun b2 => ?_)
  refine Ru 1 rfl ?_
  refine JL.nil ?_
  refine Sr ?_
  refine Ru 1 rfl ?_
  refine JL.op (RunV.ownA ag_26 rfl mm_ z8_) rfl ?_
  refine JL.call ca_16 rfl (put_fn _ x _ _ _ _ _ (Nat.le_refl _) r hT hsz (by omega) (by omega)) pt_ rfl ?_
  rintro _ h3 Lo3 hle3 ⟨kb, ka, kc, kd, kbad, rfl, hkS, rfl, hkf, hkt⟩
  replace r := r.mono hle3
  replace hT := hT.mono hle3
  refine Ru 1 rfl ?_
  refine Nk [5, 4, 3, 2] rfl ?_
  refine J.seq ?_
  refine J.block ?_
  refine Sr ?_
  refine Ru 3 rfl ?_
  refine JL.op (RunV.own1 ag_4 rfl mm_ rfl) rfl ?_
  refine Ru 1 rfl ?_
  refine JL.nil ?_
  refine Cs rfl (fun hc4 => ?_) fun hc4 => ?_
  ·
   have hw : x.wr = ([], 34) := (by unfold Nd.wr; rw [hkf hc4])
   refine Sr ?_
   refine Ru 2 rfl ?_
   refine Nk [3, 2, 5] rfl ?_
   rw [hw]; exact J.retR (RetV.two rfl rfl rfl) ⟨_, _, rfl, SlR.nil_⟩
  have hkt := hkt hc4; have hkp := hkt.1; have hkd := hkt.2; have hl := hkS.big
  refine Sr ?_
  refine Ru 3 rfl ?_
  refine JL.op (RunV.own1 ag_3 rfl mm_ rfl) rfl ?_
  refine Ru 2 rfl ?_
  refine Nk [16, 5, 3, 2] rfl ?_
  refine Cs rfl (fun hc5 => ?_) fun hc5 => ?_
  ·
   have hw : x.wr = ([], 33) := (by unfold Nd.wr; rw [hkp]; simp only; rw [if_pos (by omega)])
   refine Sr ?_
   refine Ru 2 rfl ?_
   refine JL.nil ?_
   rw [hw]; exact J.retR (RetV.two rfl rfl rfl) ⟨_, _, rfl, SlR.nil_⟩
  refine Sr ?_
  refine Ru 4 rfl ?_
  refine Nk [22, 5, 3, 2] rfl ?_
  refine Cs rfl (fun hc6 => ?_) fun hc6 => ?_
  ·
   have hw : x.wr = ([], 2) := (by unfold Nd.wr; rw [hkp]; simp only; rw [if_neg (by omega), if_pos (by omega)])
   refine Sr ?_
   refine Ru 2 rfl ?_
   refine JL.nil ?_
   rw [hw]; exact J.retR (RetV.two rfl rfl rfl) ⟨_, _, rfl, SlR.nil_⟩
  have hw : x.wr = (kb, 0) := (by unfold Nd.wr; rw [hkp]; simp only; rw [if_neg (by omega), if_neg (by omega)])
  refine J.skip ?_
  refine Sr ?_
  refine Ru 3 rfl ?_
  refine Nk [3, 2] rfl ?_
  rw [hw]; exact J.retR (RetV.two rfl rfl rfl) ⟨_, _, rfl, hkS⟩
theorem prim_fn {t : Int} {a : Option Addr} {c : Nat} {l : List UInt8} {h : Part} (hl : SlR u8R 1 h a c l) : FnR Tryd.prog 26 [.int .i64 t, .slice a l.length c] h (fun v h' => ∃ cs, v = .agg (List.toArray cs) ∧ NdR h' cs (.mk 0 t false l [])) := by
  have hb := hl.big
  refine Fn.intro Tryd.func26 rfl Tryd.ntmps26 rfl (fun e he => ?_)
  refine J.weak [(0, _), (1, _)] ⟨rfl, rfl, trivial⟩ ?_
  refine Sr ?_
  refine JL.alloc zr_26 rfl (fun b1 => ?_)
  refine JL.nil ?_
  refine Sr ?_
  refine Ru 2 rfl ?_
  refine JL.row_nil 5 1 ?_
  refine JL.append ap_24 rfl rfl (CellsR.nil (R := u8R)) rfl (by assumption) rfl dl_ z3_ rfl rfl (fun a2 c2 xs2 hC2 hN2 => ?_)
  obtain rfl := hC2.u8
  refine JL.pub (R := u8R) (l := l) dl_ CellsR.of_u8 rfl z3_ (fun h3 hle3 hP3 => ?_)
  replace hl := hl.mono hle3
  refine JL.op (RunV.build (cs := [.int .i64 0, _, .bool false, _, .slice none 0 0]) pl_26 rfl rfl) rfl ?_
  refine JL.storeA ag_26 rfl rfl dl_ z20_ z17_ z8_ ?_
  refine Nk [4] rfl ?_
  exact J.retR (RetV.cell rfl rfl ag_26 mm_ z8_) ⟨_, rfl, NdR.of (by assumption) SlR.nil_⟩
theorem Nd.len_le_szL (l : List Nd) : l.length ≤ Nd.szL l := by
  induction l with
  | nil => simp
  | cons x r ih => cases x; simp only [List.length_cons, Nd.szL, Nd.sz]; omega
theorem own_fn : ∀ (n : Nat) (ks : List Nd) (a : Option Addr) (c : Nat) (h : Part), Nd.rkL ks ≤ n → SlR NdR 5 h a c ks → Nd.szL ks ≤ 1099511627776 →
    FnR Tryd.prog 15 [.slice a ks.length c] h (fun v h' => ∃ a' c', v = .slice a' ks.length c' ∧ SlR NdR 5 h' a' c' ks) := by
  intro n
  induction n with
  | zero =>
    intro ks a c h hx
    cases ks with
    | cons x r => cases x; simp [Nd.rkL, Nd.rk] at hx
    | nil =>
      intro hk _
      have hx : (0 : Nat) = 0 := rfl
      refine Fn.intro Tryd.func15 rfl Tryd.ntmps15 rfl (fun e he => ?_)
      refine J.weak [(0, _)] ⟨rfl, trivial⟩ ?_
      refine Sr ?_
      refine Ru 1 rfl ?_
      refine JL.nil ?_
      refine Sr ?_
      refine Ru 1 rfl ?_
      refine JL.nil ?_
      refine J.seq ?_
      refine Sr ?_
      refine Ru 3 rfl ?_
      refine JL.nil ?_
      refine J.block ?_
      refine J.loop (fun t_ S_ h_ L_ => ∃ (i : Nat), t_ = 0 - i ∧ S_ = [(3, .slice none 0 0), (6, .slice a ([] : List Nd).length c), (7, .int .i64 0), (8, .int .i64 0)] ∧ h = h_ ∧ L_ = [] ∧ (True)) ⟨_, _, ?_, ⟨0, rfl, rfl, rfl, rfl, trivial⟩⟩ ?_
      ·
       exact z5_
      rintro _ _ _ _ ⟨i, rfl, rfl, rfl, rfl, -⟩
      refine Sr ?_
      refine Ru 1 rfl ?_
      refine JL.nil ?_
      refine J.seq ?_
      refine Cs rfl (fun hc1 => ?_) fun hc1 => ?_
      ·
       exfalso; simp at hc1 --done
      refine J.exit ?_
      refine Kp [3] rfl ?_
      refine Sr ?_
      refine Ru 2 rfl ?_
      refine JL.nil ?_
      exact J.retR (RetV.one rfl rfl) ⟨_, _, rfl, SlR.nil_⟩
  | succ n ih =>
    intro ks a c h hx hk hsz
    have hl := hk.big
    have hlz := Nd.len_le_szL ks
    have hz : ∀ i (hi : i < ks.length), ks[i].rk ≤ n + 1 ∧ ks[i].sz ≤ Nd.szL ks := fun i hi => ⟨by have := Nd.rk_lt (List.getElem_mem hi); omega, Nd.sz_le (List.getElem_mem hi)⟩
    refine Fn.intro Tryd.func15 rfl Tryd.ntmps15 rfl (fun e he => ?_)
    refine J.weak [(0, _)] ⟨rfl, trivial⟩ ?_
    refine Sr ?_
    refine Ru 1 rfl ?_
    refine JL.nil ?_
    refine Sr ?_
    refine Ru 1 rfl ?_
    refine JL.nil ?_
    refine J.seq ?_
    refine Sr ?_
    refine JL.row_nil 26 5 ?_
    refine Ru 3 rfl ?_
    refine JL.nil ?_
    refine J.block ?_
    refine J.loop (fun t_ S_ h_ L_ => ∃ (g : Part) (i : Nat) (ao : Option Addr) (co : Nat) (xs : List Value), t_ = ks.length - i ∧ S_ = [(3, .slice ao (ks.take i).length co), (6, .slice a ks.length c), (7, .int .i64 ks.length), (8, .int .i64 i)] ∧ g = h_ ∧ L_ = [.row ao co 26 5 (ks.take i).length xs] ∧ (h.le g ∧ i ≤ ks.length ∧ CellsR NdR 5 g xs (ks.take i))) ⟨_, _, ?_, ⟨_, 0, _, _, _, rfl, rfl, rfl, rfl, ⟨Part.le.refl _, by omega, CellsR.nil⟩⟩⟩ ?_
    ·
     exact z5_
    rintro _ _ _ _ ⟨g, i, ao, co, xs, rfl, rfl, rfl, rfl, hhg, hi, hC⟩
    have hk := hk.mono hhg
    refine Sr ?_
    refine Ru 1 rfl ?_
    refine JL.nil ?_
    refine J.seq ?_
    refine Cs rfl (fun hc1 => ?_) fun hc1 => ?_
    ·
     have hi' : i < ks.length := (by omega); have hzi := hz i hi'; obtain ⟨kc, kt, kk, kbs, kks, hkx⟩ : ∃ c t k bs ks', ks[i] = .mk c t k bs ks' := (by cases ks[i]; exact ⟨_, _, _, _, _, rfl⟩); have hke : ks.take i ++ [.mk kc kt kk kbs kks] = ks.take (i + 1) := (by rw [← hkx, List.take_succ_eq_append_getElem hi']); have htl : (ks.take i).length ≤ ks.length := (by simp; omega)
     refine J.skip ?_
     refine J.seq ?_
     refine J.block ?_
     refine Sr ?_
     refine JL.ope (RunE.index sl_22 rfl rfl z6_ (by assumption) rfl (by omega)) rfl ?_
     rintro _ ⟨b2, o2, hi2, rfl, hE2⟩
     refine JL.ope (RunE.loadA ag_26 rfl (by assumption)) rfl ?_
     rintro _ ⟨_, rfl, hNdx⟩
     rw [hkx] at hNdx hzi; obtain ⟨ka, kca, kb, kcb, rfl, hka, hkb⟩ := hNdx.inv; simp only [Nd.rk, Nd.sz] at hzi; have hkal := hka.big
     refine JL.alloc zr_26 rfl (fun b4 => ?_)
     refine JL.storeA ag_26 rfl rfl dl_ z20_ z17_ z8_ ?_
     refine JL.nil ?_
     refine Sr ?_
     refine Ru 1 rfl ?_
     refine JL.op (RunV.own1 ag_24 rfl mm_ rfl) rfl ?_
     refine JL.row_nil 5 1 ?_
     refine JL.append ap_24 rfl rfl (CellsR.nil (R := u8R)) rfl (by assumption) rfl dl_ z3_ rfl rfl (fun a5 c5 xs5 hC5 hN5 => ?_)
     obtain rfl := hC5.u8
     refine JL.pub (R := u8R) (l := kbs) dl_ CellsR.of_u8 rfl z3_ (fun h6 hle6 hP6 => ?_)
     replace hk := hk.mono hle6
     replace hhg := hhg.mono hle6
     replace hC := hC.mono hle6
     replace hka := hka.mono hle6
     replace hkb := hkb.mono hle6
     refine Ru 1 rfl ?_
     refine JL.store1 ag_24 rfl rfl rfl dl_ z28_ ?_
     refine JL.nil ?_
     refine Sr ?_
     refine Ru 1 rfl ?_
     refine JL.op (RunV.own1 ag_22 rfl mm_ rfl) rfl ?_
     refine JL.callR ca_15 rfl (ih kks _ _ _ (by omega) (by assumption) (by omega)) rfl ?_
     rintro _ h7 hle7 ⟨a7, c7, rfl, hS7⟩
     replace hk := hk.mono hle7
     replace hhg := hhg.mono hle7
     replace hC := hC.mono hle7
     replace hka := hka.mono hle7
     replace hkb := hkb.mono hle7
     replace hP6 := hP6.mono hle7
     refine Ru 1 rfl ?_
     refine JL.store1 ag_22 rfl rfl rfl dl_ z28_ ?_
     refine JL.nil ?_
     refine Rg ?_
     refine Ru 1 rfl ?_
     refine JL.op (RunV.ownA ag_26 rfl mm_ z8_) rfl ?_
     refine JL.litA ap_22 rfl z8_ rfl rfl (fun b8 => ?_)
     refine JL.append1 ap_22 rfl rfl (by assumption) rfl dl_ dl_ z8_ ((NdR.of (by assumption) (by assumption) : NdR _ _ (.mk kc kt kk kbs kks))) z3_ rfl rfl (fun a9 c9 xs9 hC9 hN9 => ?_)
     rw [hke] at *
     refine Ru 1 rfl ?_
     refine JL.nil ?_
     refine Rg ?_
     refine JL.ents [.row _ _ _ _ _ _] pt_ ?_
     refine JL.op ai_ rfl ?_
     refine Ru 1 rfl ?_
     refine JL.nil ?_
     refine ⟨_, ?_, _, ?_, ⟨_, i + 1, _, _, _, rfl, rfl, rfl, rfl, ⟨by assumption, by omega, by assumption⟩⟩⟩
     ·
      omega
     exact z5_
    refine J.exit ?_
    refine Kp [3] rfl ?_
    refine Sr ?_
    refine Ru 1 rfl ?_
    have hke : ks.take i = ks := List.take_of_length_le (by omega); rw [hke] at hC ⊢; refine JL.pub (R := NdR) dl_ (by assumption) rfl hl (fun h9 hle9 hS9 => ?_)
    refine Ru 1 rfl ?_
    refine JL.nil ?_
    exact J.retR (RetV.one rfl rfl) ⟨_, _, rfl, hS9⟩
def ibytes (n : Int) : Nat → List UInt8
  | 0 => []
  | k + 1 => UInt8.ofNat ((n / 256 ^ k) % 256).toNat :: ibytes n k
def stripB : List UInt8 → List UInt8
  | [] => []
  | x :: r => if leastB (x :: r) then x :: r else stripB r
def intB (n : Int) : List UInt8 := stripB (ibytes n 8)
theorem shrI_cast (n : Int) (j : Nat) (e : Int) (he : e = 8 * (j : Int)) : n / 2 ^ e.toNat = n / 256 ^ j := by
  subst he
  have h1 : (8 * (j : Int)).toNat = 8 * j := by omega
  have h2 : (256 : Int) ^ j = 2 ^ (8 * j) := by rw [Int.pow_mul]; rfl
  rw [h1, h2]
theorem RunV.toByteI {f : Fr} {S : Sig} {h : Part} {L : List Ent} {ty : TypeId} {x : Operand} {p : Int} {src dst : TypeId} {k : IntKind} (hc : convI f.P src dst = some .u8) (hx : ev S x = some (.int k p)) : RunV f S h L (.convert src dst x) ty (.int .u8 ((UInt8.ofNat (p % 256).toNat).toNat : Int)) := by
  have := RunV.conv (f := f) (h := h) (L := L) (ty := ty) hc hx
  have e : IntKind.u8.wrap p = ((UInt8.ofNat (p % 256).toNat).toNat : Int) := by rw [IntKind.wrap_u8]; simp; omega
  rwa [e] at this
theorem leastB_short {l : List UInt8} (h : leastB l = false) (h0 : 1 ≤ l.length) : 2 ≤ l.length := by
  unfold leastB at h
  rw [if_neg (by omega)] at h
  split at h
  · cases h
  · omega
theorem stripB_drop {l : List UInt8} (h : leastB l = false) : stripB l = stripB (l.drop 1) := by
  cases l with
  | nil => rfl
  | cons x r => simp only [stripB]; rw [if_neg (by rw [h]; decide)]; rfl
theorem stripB_least {l : List UInt8} (h : leastB l = true) : stripB l = l := by
  cases l with
  | nil => rfl
  | cons x r => simp only [stripB]; rw [if_pos h]
theorem int_fn {n : Int} {h : Part} : FnR Tryd.prog 14 [.int .i64 n] h (fun v h' => ∃ cs, v = .agg (List.toArray cs) ∧ NdR h' cs (.mk 0 2 false (intB n) [])) := by
  refine Fn.intro Tryd.func14 rfl Tryd.ntmps14 rfl (fun e he => ?_)
  refine J.weak [(0, _)] ⟨rfl, trivial⟩ ?_
  refine Sr ?_
  refine JL.alloc zr_26 rfl (fun b1 => ?_)
  refine JL.nil ?_
  refine Sr ?_
  refine Ru 1 rfl ?_
  refine JL.nil ?_
  refine J.seq ?_
  refine Sr ?_
  refine JL.row_nil 5 1 ?_
  refine Ru 1 rfl ?_
  refine JL.nil ?_
  refine J.block ?_
  refine J.loop (fun t_ S_ h_ L_ => ∃ (j : Nat) (out : List UInt8) (a : Option Addr) (c : Nat), t_ = 9 + j ∧ S_ = [(0, .int .i64 n), (2, .pointer (some ⟨b1, 0, none⟩)), (3, .slice a out.length c), (4, .int .i64 ((j : Int) - 1))] ∧ h = h_ ∧ L_ = [.row a c 5 1 out.length (u8s out), .blk b1 26 [.int .i64 0, .int .i64 0, .bool false, .slice none 0 0, .slice none 0 0]] ∧ (j ≤ 8 ∧ out.length = 8 - j ∧ ibytes n 8 = out ++ ibytes n j)) ⟨_, _, ?_, ⟨8, [], none, 0, rfl, rfl, rfl, rfl, ⟨by omega, rfl, rfl⟩⟩⟩ ?_
  ·
   exact z4_
  rintro _ _ _ _ ⟨j, out, a, c, rfl, rfl, rfl, rfl, hj, hol, he⟩
  refine J.seq ?_
  refine Sr ?_
  refine Ru 2 rfl ?_
  refine JL.nil ?_
  refine Cs rfl (fun hc2 => ?_) fun hc2 => ?_
  ·
   obtain ⟨i, rfl⟩ : ∃ i, j = i + 1 := ⟨j - 1, by omega⟩
   refine J.skip ?_
   refine J.seq ?_
   refine J.block ?_
   refine Rg ?_
   refine Ru 3 rfl ?_
   refine JL.op z16_ rfl ?_
   refine JL.op (RunV.shr rfl rfl (by omega) (by show _ ≤ ((64 : Nat) : Int); omega)) rfl ?_
   rw [shrI_cast n i _ (by omega)]
   refine JL.op (RunV.toByteI cv_2_5 rfl) rfl ?_
   refine JL.lit1 ap_24 zr_5 rfl rfl rfl rfl rfl (fun b3 => ?_)
   refine JL.append1 ap_24 rfl rfl CellsR.of_u8 rfl dl_ dl_ rfl (rfl) z3_ rfl rfl (fun a4 c4 xs4 hC4 hN4 => ?_)
   obtain rfl := hC4.u8
   refine Ru 1 rfl ?_
   refine JL.nil ?_
   refine Rg ?_
   refine Ru 1 rfl ?_
   refine JL.op si_ rfl ?_
   refine Ru 1 rfl ?_
   refine JL.nil ?_
   refine ⟨_, ?_, _, ?_, ⟨i, _, _, _, rfl, rfl, rfl, rfl, ⟨by omega, by simp; omega, by rw [he, ibytes, List.append_assoc]; rfl⟩⟩⟩
   ·
    omega
   exact z4_
  have hj0 : j = 0 := (by omega); subst hj0; have hob : out = ibytes n 8 := (by rw [he]; simp [ibytes]); refine J.pub (R := u8R) (l := out) dl_ CellsR.of_u8 rfl (by omega) (fun h9 hle9 hS9 => ?_)
  refine J.exit ?_
  refine Kp [2, 3] rfl ?_
  refine J.seq ?_
  refine J.block ?_
  refine J.loop (fun t_ S_ h_ L_ => ∃ (g : Part) (l : List UInt8) (a : Option Addr) (c : Nat), t_ = l.length + 5 ∧ S_ = [(2, .pointer (some ⟨b1, 0, none⟩)), (3, .slice a l.length c)] ∧ g = h_ ∧ L_ = [.blk b1 26 [.int .i64 0, .int .i64 0, .bool false, .slice none 0 0, .slice none 0 0]] ∧ (h.le g ∧ SlR u8R 1 g a c l ∧ 1 ≤ l.length ∧ intB n = stripB l)) ⟨_, _, ?_, ⟨_, out, _, _, rfl, rfl, rfl, rfl, ⟨by assumption, by assumption, by omega, by rw [hob]; rfl⟩⟩⟩ ?_
  ·
   exact z5_
  rintro _ _ _ _ ⟨g, l, a, c, rfl, rfl, rfl, rfl, hhg, hl, hll, hs⟩
  refine J.seq ?_
  refine Sr ?_
  refine Ru 1 rfl ?_
  refine JL.callP ca_25 rfl (least_fn (by assumption)) rfl ?_
  refine Ru 1 rfl ?_
  refine JL.nil ?_
  refine Cs rfl (fun hc6 => ?_) fun hc6 => ?_
  ·
   have hl2 := leastB_short hc6 hll; have hsd := stripB_drop hc6
   refine J.skip ?_
   refine J.block ?_
   refine Rg ?_
   refine Ru 1 rfl ?_
   refine JL.ope (RunE.cut_l sl_24 rfl rfl (show _ = ((1 : Nat) : Int) from rfl) (by assumption) rfl (by omega)) rfl ?_
   rintro _ ⟨a7, c7, rfl, hS7⟩
   refine Ru 1 rfl ?_
   refine JL.nil ?_
   refine ⟨_, ?_, _, ?_, ⟨_, l.drop 1, _, _, rfl, rfl, rfl, rfl, ⟨by assumption, by assumption, by simp; omega, by rw [hs, hsd]⟩⟩⟩
   ·
    simp; omega
   exact z5_
  have hi9 : intB n = l := (by rw [hs, stripB_least hc6])
  refine J.exit ?_
  refine Sr ?_
  refine Ru 1 rfl ?_
  refine JL.callR ca_26 rfl (prim_fn (by assumption)) rfl ?_
  rintro _ h8 hle8 ⟨w8, rfl, hNd8⟩
  replace hl := hl.mono hle8
  replace hhg := hhg.mono hle8
  refine JL.storeA ag_26 rfl rfl dl_ z20_ z17_ z8_ ?_
  refine Nk [2] rfl ?_
  rw [hi9]; exact J.retR (RetV.cell rfl rfl ag_26 mm_ z8_) ⟨_, rfl, by assumption⟩
end Go.Proofs.YtldbjnhfkjicjaaDoor
namespace Go.Proofs.YtldbjnhfkjicjaaDoor
open Go Go.RowKit
def JH (f : Fr) (ops : Array Oper) (n : Post) (x : Nat → Post) (h0 : Part) (L0 : List Ent) (fuel : Nat) (listed : Array Bool) : Post := fun S h L =>
  ∀ a w, Sat f.e f.m S h L a w → wpAnyH f.P .any ops (f.Q n x) (fun w => Ok f.e h0 L0 w) fuel listed a w
theorem Ok.bridge {e : Env} {h h0 : Part} {Li L Lr : List Ent} (p : Parts Li L Lr) (hle : h0.le h) (h00 : e.h0.le h0) (w : World) (k : Ok e h L w) : Ok e h0 Li w := (p.ok w k).shrink hle h00
section
variable {f : Fr} {n : Post} {x : Nat → Post} {S : Sig} {h h0 : Part} {L L0 : List Ent} {ops : Array Oper} {fuel i j d : Nat} {listed : Array Bool}
variable {q : Op} {ty : TypeId} {pos : String} {af : Array Edge} {v : Value} {o o2 : Oper}
theorem J.held {id : Nat} {l : List Oper} (L0 : List Ent) (N : Nat) (hm : f.P.follows .mixedOrders = true) (hN : l.length = N) (k : f.e.h0.le h → JH f l.toArray n x h L0 N (Array.replicate N false) S h L) : J f (.region id l.toArray true) n x S h L := fun a w s => by
  subst hN
  refine wp_region_held (S := fun w => Ok f.e h L0 w) hm ?_
  have := k s.ok.le a { w with drawn := w.drawn + 1 } (s.with (s.ok.drawn _))
  simpa using this
theorem JH.take (i : Nat) (hi : ops[i]? = some ⟨some d, q, ty, pos, af, none⟩) (hs : Region.noSelect ops = true) (hf : Region.free .any ops listed i = true) (hr : (Region.ready .any ops listed).contains i = true)
    (hp : ∀ c S h L, f.p c S h L → f.p c [] h L) (hb : ∀ w, Ok f.e h L w → Ok f.e h0 L0 w) (r : RunV f S h0 L0 q ty v) (hd : Nat.blt d f.m = true) (k : JH f ops n x h0 L0 fuel (listed.setIfInBounds i true) ((d, v) :: S) h L) :
    JH f ops n x h0 L0 (fuel + 1) listed S h L := fun a w s => by
  refine wpAnyH_take (v := v) hi hs hf hr (fun c a w hq => ?_) ?_ (hb w s.ok) (k _ w (s.put hd v s.ok))
  · obtain ⟨S', h', L', s', k'⟩ := hq
    refine ⟨[], h', L', ⟨?_, fun s v hv => by simp [look] at hv, ?_, s'.ok⟩, hp _ _ _ _ k'⟩
    · have := s'.size; simpa [Act.put] using this
    · have := s'.ds; simpa [Act.put] using this
  · exact .inl ⟨by simp [Region.wanted], fun w' hw' => r a w' (s.with hw') _ _ _ _⟩
theorem JH.takeE {V : Value → Prop} (i : Nat) (hi : ops[i]? = some ⟨some d, q, ty, pos, af, none⟩) (hs : Region.noSelect ops = true) (hf : Region.free .any ops listed i = true) (hr : (Region.ready .any ops listed).contains i = true)
    (hp : ∀ c S h L, f.p c S h L → f.p c [] h L) (hb : ∀ w, Ok f.e h L w → Ok f.e h0 L0 w) (r : RunE f S h0 L0 q ty V) (hd : Nat.blt d f.m = true) (k : ∀ v, V v → JH f ops n x h0 L0 fuel (listed.setIfInBounds i true) ((d, v) :: S) h L) :
    JH f ops n x h0 L0 (fuel + 1) listed S h L := by
  obtain ⟨v, r, hv⟩ := r
  exact JH.take i hi hs hf hr hp hb r hd (k v hv)
theorem wp_monoQ {P : Program} {o : Oper} {a : Act} {w : World} {K K' : Act → World → Prop} {Q Q' : Exit → Act → World → Prop} (hK : ∀ a w, K a w → K' a w) (hp : ∀ c a w, Q (.panic c) a w → Q' (.panic c) a w) (ho : ∀ a w, ¬ Q .outgrown a w) (hh : o.wp P a w K Q) : o.wp P a w K' Q' := by
  unfold Oper.wp at *
  generalize (execOp a.eval o).run P w = r at *
  cases r with
  | ok n w' =>
    cases n <;> simp only [Oper.upon] at hh ⊢ <;>
      first
        | exact hK _ _ hh
        | exact Calls.mono hh (fun e w'' he => by cases e <;> first | exact hK _ _ he | exact hp _ _ _ he | exact (let ⟨a1, w1, h1⟩ := he; (ho a1 w1 h1).elim))
        | exact Rows.mono hh (fun _ _ he => hK _ _ he)
        | exact hh
  | halt x w' => cases x <;> simp only [Oper.upon] at hh ⊢ <;> first | exact hp _ _ _ hh | exact (let ⟨a1, w1, h1⟩ := hh; (ho a1 w1 h1).elim) | exact hh
def One (f : Fr) (ops : Array Oper) (n : Post) (x : Nat → Post) (h0 : Part) (L0 : List Ent) (fuel : Nat) (listed : Array Bool) (i : Nat) (o : Oper) : Post := fun S h L =>
  JL f ops (fun S' h' L' => (∀ w, Ok f.e h' L' w → Ok f.e h0 L0 w) ∧ JH f ops n x h0 L0 fuel (listed.setIfInBounds i true) S' h' L') x [o] S h L
theorem One.wp (hi : ops[i]? = some o) (k : One f ops n x h0 L0 fuel listed i o S h L) (a : Act) (w : World) (s : Sat f.e f.m S h L a w) :
    wpOp f.P ops (f.Q n x) i (fun a' w' => Ok f.e h0 L0 w' ∧ wpAnyH f.P .any ops (f.Q n x) (fun w => Ok f.e h0 L0 w) fuel (listed.setIfInBounds i true) a' w') a w := by
  have hk := k a w s
  have fin : ∀ a w, (f.Q (fun S' h' L' => (∀ w, Ok f.e h' L' w → Ok f.e h0 L0 w) ∧ JH f ops n x h0 L0 fuel (listed.setIfInBounds i true) S' h' L') x) .normal a w → Ok f.e h0 L0 w ∧ wpAnyH f.P .any ops (f.Q n x) (fun w => Ok f.e h0 L0 w) fuel (listed.setIfInBounds i true) a w := fun a w hq => by
    obtain ⟨S', h', L', s', hb, k'⟩ := hq
    exact ⟨hb w s'.ok, k' a w s'⟩
  unfold wpList at hk
  unfold wpOp
  simp only [hi]
  split
  · rename_i hw
    rw [if_pos hw] at hk
    rcases hk with hk | ⟨_, a', w', hh⟩
    · exact .inl (wp_monoQ (fun a w hq => fin a w (by simpa [wpList] using hq)) (fun c a w hq => hq) (fun a w hh => hh) hk)
    · exact hh.elim
  · rename_i hw
    rw [if_neg hw] at hk
    exact fin _ _ (by simpa [wpList] using hk)
theorem JH.all1 (i : Nat) (hr : Region.ready .any ops listed = [i]) (hi : ops[i]? = some o) (k : One f ops n x h0 L0 fuel listed i o S h L) : JH f ops n x h0 L0 (fuel + 1) listed S h L := fun a w s =>
  wpAnyH_all hr (by simp) fun i' hi' => by
    simp only [List.mem_singleton] at hi'
    subst hi'
    exact k.wp hi a w s
theorem JH.all2 (i j : Nat) (hr : Region.ready .any ops listed = [i, j]) (hi : ops[i]? = some o) (hj : ops[j]? = some o2) (k1 : One f ops n x h0 L0 fuel listed i o S h L) (k2 : One f ops n x h0 L0 fuel listed j o2 S h L) : JH f ops n x h0 L0 (fuel + 1) listed S h L := fun a w s =>
  wpAnyH_all hr (by simp) fun i' hi' => by
    simp only [List.mem_cons, List.not_mem_nil, or_false] at hi'
    rcases hi' with rfl | rfl
    · exact k1.wp hi a w s
    · exact k2.wp hj a w s
theorem JH.done (hr : Region.ready .any ops listed = []) (k : n S h L) : JH f ops n x h0 L0 fuel listed S h L := fun a w s => wpAnyH_done hr ⟨S, h, L, s, k⟩ fuel
end
end Go.Proofs.YtldbjnhfkjicjaaDoor
namespace Go.Proofs.YtldbjnhfkjicjaaDoor
open Go
theorem br_ {e : Env} {h h0 : Part} {L Li Lr : List Ent} (h00 : e.h0.le h0) (p : Parts Li L Lr := by repeat first | exact Parts.nil | exact Del.here | apply Del.there | apply Parts.cons) (q : h0.le h := by first | exact Part.le.refl _ | assumption | (repeat (first | assumption | refine Part.le.trans (by assumption) ?_))) : ∀ w, Ok e h L w → Ok e h0 Li w := Ok.bridge p q h00
section
variable {f : Fr} {n : Post} {x : Nat → Post} {S : Sig} {h h0 : Part} {L L0 : List Ent} {ops : Array Oper} {fuel d : Nat} {listed : Array Bool} {q : Op} {ty : TypeId} {pos : String} {af : Array Edge} {v : Value} {o : Oper} {j dj : Nat} {b : Bool}
theorem Tk (i : Nat) (hi : ops[i]? = some ⟨some d, q, ty, pos, af, none⟩) (r : RunV f S h0 L0 q ty v) (k : JH f ops n x h0 L0 fuel (listed.setIfInBounds i true) ((d, v) :: S) h L) (hb : ∀ w, Ok f.e h L w → Ok f.e h0 L0 w := by exact br_ (by assumption)) (hs : Region.noSelect ops = true := by kernel_rfl) (hf : Region.free .any ops listed i = true := by kernel_rfl) (hr : (Region.ready .any ops listed).contains i = true := by kernel_rfl) (hp : ∀ c S h L, f.p c S h L → f.p c [] h L := by exact fun _ _ _ _ hh => hh) (hd : Nat.blt d f.m = true := by rfl) : JH f ops n x h0 L0 (fuel + 1) listed S h L := JH.take i hi hs hf hr hp hb r hd k
theorem Te {V : Value → Prop} (i : Nat) (hi : ops[i]? = some ⟨some d, q, ty, pos, af, none⟩) (r : RunE f S h0 L0 q ty V) (k : ∀ v, V v → JH f ops n x h0 L0 fuel (listed.setIfInBounds i true) ((d, v) :: S) h L) (hb : ∀ w, Ok f.e h L w → Ok f.e h0 L0 w := by exact br_ (by assumption)) (hs : Region.noSelect ops = true := by kernel_rfl) (hf : Region.free .any ops listed i = true := by kernel_rfl) (hr : (Region.ready .any ops listed).contains i = true := by kernel_rfl) (hp : ∀ c S h L, f.p c S h L → f.p c [] h L := by exact fun _ _ _ _ hh => hh) (hd : Nat.blt d f.m = true := by rfl) : JH f ops n x h0 L0 (fuel + 1) listed S h L := JH.takeE i hi hs hf hr hp hb r hd k
theorem Ta (i : Nat) (hi : ops[i]? = some o) (k : One f ops n x h0 L0 fuel listed i o S h L) (hr : Region.ready .any ops listed = [i] := by kernel_rfl) : JH f ops n x h0 L0 (fuel + 1) listed S h L := JH.all1 i hr hi k
end
end Go.Proofs.YtldbjnhfkjicjaaDoor
namespace Go.Proofs.YtldbjnhfkjicjaaDoor
open Go Go.RowKit
theorem ca_53 : callT Tryd.prog 53 = true := by kernel_rfl
theorem ni_71 : niT Tryd.prog 71 = true := by kernel_rfl
theorem pl_40 : plT Tryd.prog 40 = some ([.int .i64 0, .int .i64 0], [(0, 1), (1, 1)]) := by kernel_rfl
theorem pl_71 : plT Tryd.prog 71 = some ([.int .i64 0, .int .i64 0], [(0, 2)]) := by kernel_rfl
def gvn (at_ c : Int) : Value := .iface 71 (.agg #[.int .i64 at_, .int .i64 c])
theorem nfail_fn {ok : Bool} {e from_ : Int} {bf : Nat} {h : Part} : Fn Tryd.prog 35 [.bool ok, .int .i64 e, .pointer (some ⟨bf, 0, none⟩)] h [.blk bf 3 [.int .i64 from_]] (FailR ok (gvn from_ e) bf 3 [.int .i64 from_]) := by
  refine Fn.intro Tryd.func35 rfl Tryd.ntmps35 rfl (fun e he => ?_)
  refine J.weak [(0, _), (1, _), (2, _)] ⟨rfl, rfl, rfl, trivial⟩ ?_
  refine Sr ?_
  refine Ru 2 rfl ?_
  refine JL.nil ?_
  refine Cs rfl (fun hc1 => ?_) fun hc1 => ?_
  ·
   refine Rg ?_
   refine JL.op (RunV.own1 ag_3 rfl mm_ rfl) rfl ?_
   refine Ru 1 rfl ?_
   refine JL.op (RunV.build (cs := [_, _]) pl_40 rfl rfl) rfl ?_
   refine JL.op (RunV.build (cs := [_, _]) pl_71 rfl rfl) rfl ?_
   refine JL.op (RunV.makeInterface ni_71 rfl) rfl ?_
   refine JL.panic rfl ?_
   exact ⟨_, _, .cons .here .nil, .inr ⟨hc1, rfl, rfl⟩⟩
  refine J.skip ?_
  exact ⟨_, _, _, (RetV.none_ rfl), .cons .here .nil, .inl ⟨hc1, rfl, rfl⟩⟩
theorem sfail_fn {ok : Bool} {e from_ : Int} {bf : Nat} {h : Part} : Fn Tryd.prog 53 [.bool ok, .int .i64 e, .pointer (some ⟨bf, 0, none⟩)] h [.blk bf 3 [.int .i64 from_]] (FailR ok (gvn from_ e) bf 3 [.int .i64 from_]) := by
  refine Fn.intro Tryd.func53 rfl Tryd.ntmps53 rfl (fun e he => ?_)
  refine J.weak [(0, _), (1, _), (2, _)] ⟨rfl, rfl, rfl, trivial⟩ ?_
  refine Sr ?_
  refine Ru 2 rfl ?_
  refine JL.nil ?_
  refine Cs rfl (fun hc1 => ?_) fun hc1 => ?_
  ·
   refine Rg ?_
   refine JL.op (RunV.own1 ag_3 rfl mm_ rfl) rfl ?_
   refine Ru 1 rfl ?_
   refine JL.op (RunV.build (cs := [_, _]) pl_40 rfl rfl) rfl ?_
   refine JL.op (RunV.build (cs := [_, _]) pl_71 rfl rfl) rfl ?_
   refine JL.op (RunV.makeInterface ni_71 rfl) rfl ?_
   refine JL.panic rfl ?_
   exact ⟨_, _, .cons .here .nil, .inr ⟨hc1, rfl, rfl⟩⟩
  refine J.skip ?_
  exact ⟨_, _, _, (RetV.none_ rfl), .cons .here .nil, .inl ⟨hc1, rfl, rfl⟩⟩
def beval (l : List UInt8) : Nat := l.foldl (fun a b => a * 256 + b.toNat) 0
def rdS (l : List UInt8) (p e : Nat) : Except Int (Nat × Nat) :=
  if ¬ p < e then .error 30 else if byteAt l p < 128 then .ok (byteAt l p, p + 1)
  else if ¬ (1 ≤ byteAt l p - 128 ∧ byteAt l p - 128 ≤ 4) then .error 32
  else if ¬ (byteAt l p - 128 ≤ e - (p + 1)) then .error 30
  else if ¬ (128 ≤ beval ((l.drop (p + 1)).take (byteAt l p - 128)) ∧ 0 < beval ((l.drop (p + 1)).take (byteAt l p - 128)) / 256 ^ (byteAt l p - 128 - 1)) then .error 32
  else .ok (beval ((l.drop (p + 1)).take (byteAt l p - 128)), p + 1 + (byteAt l p - 128))
def SizeR (s : Except Int (Nat × Nat)) (from_ : Int) (br : Nat) (b : Value) : Ending → Part → List Ent → Prop := fun e _ Lo =>
  match s with
  | .ok (n, q) => e = .returned (.int .i64 n) ∧ Lo = [.blk br 61 [b, .int .i64 q]]
  | .error c => e = .panicked [{ v := gvn from_ c, recovered := false }] ∧ Lo = []
theorem beval_step (l : List UInt8) (i : Nat) (h : i < l.length) : beval (l.take (i + 1)) = beval (l.take i) * 256 + l[i].toNat := by
  rw [List.take_succ_eq_append_getElem h]; unfold beval; rw [List.foldl_append]; rfl
theorem beval_lt (l : List UInt8) (i : Nat) : beval (l.take i) < 256 ^ i := by
  induction i with
  | zero => simp [beval]
  | succ i ih =>
    by_cases h : i < l.length
    · rw [beval_step l i h]
      have := l[i].toNat_lt
      have e : (256 : Nat) ^ (i + 1) = 256 ^ i * 256 := Nat.pow_succ ..
      omega
    · rw [List.take_of_length_le (by omega)]
      rw [List.take_of_length_le (by omega)] at ih
      have e : (256 : Nat) ^ (i + 1) = 256 ^ i * 256 := Nat.pow_succ ..
      omega
theorem pow256_3 (i : Nat) (h : i ≤ 3) : (256 : Nat) ^ i ≤ 16777216 := by
  have : i = 0 ∨ i = 1 ∨ i = 2 ∨ i = 3 := by omega
  rcases this with rfl | rfl | rfl | rfl <;> decide
theorem size_rd {l : List UInt8} {p en : Nat} {from_ : Int} {br : Nat} {ab : Option Addr} {cb : Nat} {h : Part} (hl : SlR u8R 1 h ab cb l) (he : en ≤ l.length) :
    Fn Tryd.prog 36 [.pointer (some ⟨br, 0, none⟩), .int .i64 from_, .int .i64 en] h [.blk br 61 [.slice ab l.length cb, .int .i64 p]] (SizeR (rdS l p en) from_ br (.slice ab l.length cb)) := by
  have hb := hl.big
  have hen := he
  refine Fn.intro Tryd.func36 rfl Tryd.ntmps36 rfl (fun e he => ?_)
  refine J.weak [(0, _), (1, _), (2, _)] ⟨rfl, rfl, rfl, trivial⟩ ?_
  have hh0 := Part.le.refl h
  refine Sr ?_
  refine JL.box rfl rfl rfl (fun b1 => ?_)
  refine Ru 1 rfl ?_
  refine JL.nil ?_
  refine Sr ?_
  refine JL.op (RunV.makeFunc (os1 := []) (os2 := [.tmp 4]) rfl rfl) rfl ?_
  refine Ru 1 rfl ?_
  refine JL.nil ?_
  refine Sr ?_
  refine Ru 4 rfl ?_
  refine JL.op (RunV.own1 ag_3 rfl mm_ rfl) rfl ?_
  refine Ru 2 rfl ?_
  refine JL.fail ca_53 rfl rfl (sfail_fn) dl_ rfl (fun hc2 h2 hle2 => ?_) (fun hc2 h2 hle2 => ?_)
  ·
   try simp only [decide_eq_true_eq, decide_eq_false_iff_not, Bool.not_eq_eq_eq_not, Bool.not_true, Bool.not_false, ne_eq, Decidable.not_not] at hc2
   exact ⟨[], _, .nil, by unfold rdS; rw [if_pos (by omega)]; exact ⟨rfl, rfl⟩⟩
  try simp only [decide_eq_true_eq, decide_eq_false_iff_not, Bool.not_eq_eq_eq_not, Bool.not_true, Bool.not_false, ne_eq, Decidable.not_not] at hc2
  replace hl := hl.mono hle2
  replace hh0 := hh0.mono hle2
  refine Nk [7, 6, 0, 2] rfl ?_
  refine J.seq ?_
  refine J.drawn mixed_ (by kernel_rfl) ?_
  refine Rq 3 rfl ?_
  refine JQ.op (RunV.own1 ag_24 rfl mm_ rfl) rfl ?_
  refine Rq 3 rfl ?_
  refine JQ.op (RunV.own1 ag_3 rfl mm_ rfl) rfl ?_
  refine JQ.ope (RunE.index sl_24 rfl rfl z6_ (by assumption) rfl (by omega)) rfl ?_
  rintro _ ⟨b3, o3, hi3, rfl, hE3⟩
  refine JQ.op (RunV.ld_u8 ag_5 rfl (by assumption)) rfl ?_
  refine JQ.op z11_ rfl ?_
  refine Rq 1 rfl ?_
  refine Nq [8, 7, 6, 0, 2] rfl ?_
  refine Sr ?_
  have hpl : p < l.length := (by omega); have hbt := byteAt_eq l p hpl; have hlt := byteAt_lt l p
  refine Ru 3 rfl ?_
  refine JL.op (RunV.own1 ag_3 rfl mm_ rfl) rfl ?_
  refine JL.op ai_ rfl ?_
  refine Ru 2 rfl ?_
  refine JL.store1 ag_3 rfl rfl rfl dl_ z28_ ?_
  refine Nk [8, 7, 6, 0, 2] rfl ?_
  refine J.seq ?_
  refine Sr ?_
  refine Ru 2 rfl ?_
  refine JL.nil ?_
  refine Cs rfl (fun hc5 => ?_) fun hc5 => ?_
  ·
   refine Sr ?_
   refine Ru 2 rfl ?_
   refine Nk [6, 8, 7, 0, 2] rfl ?_
   exact J.ret ⟨_, [_], _, (RetV.one rfl rfl), .cons .here .nil, by unfold rdS; rw [if_neg (by omega), if_pos (by omega)]; exact ⟨by rw [hbt], by simp⟩⟩
  refine J.skip ?_
  refine Sr ?_
  refine Ru 1 rfl ?_
  refine JL.op si_ rfl ?_
  refine Ru 1 rfl ?_
  refine Nk [9, 8, 7, 6, 0, 2] rfl ?_
  refine Sr ?_
  refine Ru 4 rfl ?_
  refine Bs 47 rfl (fun hc6 => ?_) fun hc6 => ?_
  ·
   refine Ru 3 rfl ?_
   refine JL.fail ca_53 rfl rfl (sfail_fn) dl_ rfl (fun hc7 h7 hle7 => ?_) (fun hc7 h7 hle7 => ?_)
   ·
    try simp only [decide_eq_true_eq, decide_eq_false_iff_not, Bool.not_eq_eq_eq_not, Bool.not_true, Bool.not_false, ne_eq, Decidable.not_not] at hc7
    exact ⟨[], _, .nil, by unfold rdS; rw [if_neg (by omega), if_neg (by omega), if_pos (by omega)]; exact ⟨rfl, rfl⟩⟩
   try simp only [decide_eq_true_eq, decide_eq_false_iff_not, Bool.not_eq_eq_eq_not, Bool.not_true, Bool.not_false, ne_eq, Decidable.not_not] at hc7
   replace hl := hl.mono hle7
   replace hh0 := hh0.mono hle7
   refine Nk [9, 8, 7, 6, 0, 2] rfl ?_
   refine Sr ?_
   refine Ru 6 rfl ?_
   refine JL.op (RunV.own1 ag_3 rfl mm_ rfl) rfl ?_
   refine JL.op si_ rfl ?_
   refine Ru 1 rfl ?_
   refine JL.fail ca_53 rfl rfl (sfail_fn) dl_ rfl (fun hc8 h8 hle8 => ?_) (fun hc8 h8 hle8 => ?_)
   ·
    try simp only [decide_eq_true_eq, decide_eq_false_iff_not, Bool.not_eq_eq_eq_not, Bool.not_true, Bool.not_false, ne_eq, Decidable.not_not] at hc8
    exact ⟨[], _, .nil, by unfold rdS; rw [if_neg (by omega), if_neg (by omega), if_neg (by omega), if_pos (by omega)]; exact ⟨rfl, rfl⟩⟩
   try simp only [decide_eq_true_eq, decide_eq_false_iff_not, Bool.not_eq_eq_eq_not, Bool.not_true, Bool.not_false, ne_eq, Decidable.not_not] at hc8
   replace hl := hl.mono hle8
   replace hh0 := hh0.mono hle8
   refine Nk [9, 8, 7, 6, 0] rfl ?_
   refine Sr ?_
   obtain ⟨kk, hkk⟩ : ∃ kk : Nat, byteAt l p = 128 + kk := ⟨byteAt l p - 128, by omega⟩
   refine Ru 1 rfl ?_
   refine JL.nil ?_
   refine J.seq ?_
   refine J.seq ?_
   refine J.drawn mixed_ (by kernel_rfl) ?_
   refine Rq 3 rfl ?_
   refine JQ.op (RunV.own1 ag_24 rfl mm_ rfl) rfl ?_
   refine Rq 3 rfl ?_
   refine JQ.op (RunV.own1 ag_3 rfl mm_ rfl) rfl ?_
   refine Rq 3 rfl ?_
   refine JQ.op (RunV.own1 ag_3 rfl mm_ rfl) rfl ?_
   refine Rq 1 rfl ?_
   refine JQ.op ai_ rfl ?_
   refine JQ.ope (RunE.cut_lh (m := p + 1) (m' := p + 1 + kk) sl_24 rfl rfl rfl (by omega) (by omega) (by assumption) rfl (by omega) (by omega)) rfl ?_
   rintro _ ⟨as_, cs_, rfl, hSs⟩
   rw [show p + 1 + kk - (p + 1) = kk by omega] at *; obtain ⟨sub, hsub⟩ : ∃ sub, sub = (l.drop (p + 1)).take kk := ⟨_, rfl⟩; rw [← hsub] at hSs ⊢; have hsl : sub.length = kk := (by rw [hsub]; simp; omega)
   refine Rq 2 rfl ?_
   refine Nq [78, 77, 76, 8, 9, 7, 6, 0] rfl ?_
   refine J.block ?_
   refine J.loop (fun t_ S_ h_ L_ => ∃ (g : Part) (i : Nat), t_ = kk - i ∧ S_ = [(0, .pointer (some ⟨br, 0, none⟩)), (7, .func (.func 53) #[] #[.pointer (some ⟨b1, 0, none⟩)]), (8, .int .i64 (beval (sub.take i))), (9, .int .i64 ((l[p].toNat : Int) - 128)), (76, .slice as_ sub.length cs_), (77, .int .i64 sub.length), (78, .int .i64 i)] ∧ g = h_ ∧ L_ = [.blk b1 3 [.int .i64 from_], .blk br 61 [.slice ab l.length cb, .int .i64 (p + 1)]] ∧ (h.le g ∧ SlR u8R 1 g as_ cs_ sub ∧ i ≤ kk)) ⟨_, _, ?_, ⟨_, 0, rfl, rfl, rfl, rfl, ⟨by assumption, by assumption, by omega⟩⟩⟩ ?_
   ·
    repeat (first | exact trivial | refine ⟨rfl, ?_⟩ | refine ⟨(by exact some_int (by first | rfl | omega)), ?_⟩)
   rintro _ _ _ _ ⟨g, i, rfl, rfl, rfl, rfl, hhg, hSs, hi⟩
   have hbl := beval_lt sub i
   refine Sr ?_
   refine Ru 1 rfl ?_
   refine JL.nil ?_
   refine J.seq ?_
   refine Cs rfl (fun hc10 => ?_) fun hc10 => ?_
   ·
    have h256 := pow256_3 i (by omega); have hst := beval_step sub i (by omega); have hsb := (sub[i]'(by omega)).toNat_lt
    refine J.skip ?_
    refine J.seq ?_
    refine J.block ?_
    refine Sr ?_
    refine JL.ope (RunE.index sl_24 rfl rfl z6_ (by assumption) rfl (by omega)) rfl ?_
    rintro _ ⟨b11, o11, hi11, rfl, hE11⟩
    refine JL.op (RunV.ld_u8 ag_5 rfl (by assumption)) rfl ?_
    refine Ru 1 rfl ?_
    refine JL.nil ?_
    refine Rg ?_
    refine Ru 1 rfl ?_
    refine JL.op (by first | exact RunV.shl_i64 256 rfl rfl (by decide) (by decide) (by decide) (by omega) (by omega) | exact RunV.shl rfl rfl (by decide) (by decide)) rfl ?_
    refine Ru 1 rfl ?_
    refine JL.op z11_ rfl ?_
    refine JL.op (RunV.join_i64 8 256 rfl rfl (by decide) (by omega) (by omega) (by omega) (by omega) (by omega) (by omega)) rfl ?_
    refine Ru 1 rfl ?_
    refine JL.nil ?_
    refine Rg ?_
    refine JL.op ai_ rfl ?_
    refine Ru 1 rfl ?_
    refine JL.nil ?_
    refine ⟨_, ?_, _, ?_, ⟨_, i + 1, rfl, rfl, rfl, rfl, ⟨by assumption, by assumption, by omega⟩⟩⟩
    ·
     omega
    repeat (first | exact trivial | refine ⟨rfl, ?_⟩ | refine ⟨(by exact some_int (by first | rfl | omega)), ?_⟩)
   refine J.exit ?_
   refine Kp [0, 7, 8, 9] rfl ?_
   refine Sr ?_
   have hv : beval ((l.drop (p + 1)).take (byteAt l p - 128)) = beval (sub.take i) := (by rw [hkk, show 128 + kk - 128 = kk by omega, ← hsub, List.take_of_length_le (by omega)]); have hsh := shr_cast (beval (sub.take i)) (byteAt l p - 128 - 1) (8 * ((l[p].toNat : Int) - 128 - 1)) (by omega)
   refine Ru 4 rfl ?_
   refine Bs 91 rfl (fun hc13 => ?_) fun hc13 => ?_
   ·
    refine Ru 2 rfl ?_
    refine JL.opg rfl rfl  si_ rfl ?_
    refine JL.opg rfl rfl  z16_ rfl ?_
    refine JL.opg rfl rfl  (RunV.shr rfl rfl (by omega) (by show _ ≤ ((64 : Nat) : Int); omega)) rfl ?_
    rw [hsh]
    refine Ru 2 rfl ?_
    refine JL.fail ca_53 rfl rfl (sfail_fn) dl_ rfl (fun hc14 h14 hle14 => ?_) (fun hc14 h14 hle14 => ?_)
    ·
     try simp only [decide_eq_true_eq, decide_eq_false_iff_not, Bool.not_eq_eq_eq_not, Bool.not_true, Bool.not_false, ne_eq, Decidable.not_not] at hc14
     exact ⟨[], _, .nil, by unfold rdS; rw [if_neg (by omega), if_neg (by omega), if_neg (by omega), if_neg (by omega), if_pos (by rw [hv]; omega)]; exact ⟨rfl, rfl⟩⟩
    try simp only [decide_eq_true_eq, decide_eq_false_iff_not, Bool.not_eq_eq_eq_not, Bool.not_true, Bool.not_false, ne_eq, Decidable.not_not] at hc14
    replace hhg := hhg.mono hle14
    replace hSs := hSs.mono hle14
    refine Nk [0, 8, 9] rfl ?_
    refine Sr ?_
    refine Ru 3 rfl ?_
    refine JL.op (RunV.own1 ag_3 rfl mm_ rfl) rfl ?_
    refine Ru 1 rfl ?_
    refine JL.op ai_ rfl ?_
    refine Ru 2 rfl ?_
    refine JL.store1 ag_3 rfl rfl rfl dl_ z28_ ?_
    refine Nk [8] rfl ?_
    refine Sr ?_
    refine Ru 2 rfl ?_
    refine JL.nil ?_
    exact J.ret ⟨_, [_], _, (RetV.one rfl rfl), .cons dl_ .nil, by unfold rdS; rw [if_neg (by omega), if_neg (by omega), if_neg (by omega), if_neg (by omega), if_neg (by rw [hv]; omega)]; exact ⟨by rw [hv], by simp; omega⟩⟩
   refine Ru 7 rfl ?_
   refine JL.fail ca_53 rfl rfl (sfail_fn) dl_ rfl (fun hc15 h15 hle15 => ?_) (fun hc15 => by cases hc15)
   exact ⟨[], _, .nil, by unfold rdS; rw [if_neg (by omega), if_neg (by omega), if_neg (by omega), if_neg (by omega), if_pos (by rw [hv]; omega)]; exact ⟨rfl, rfl⟩⟩
  refine Ru 3 rfl ?_
  refine JL.fail ca_53 rfl rfl (sfail_fn) dl_ rfl (fun hc16 h16 hle16 => ?_) (fun hc16 => by cases hc16)
  exact ⟨[], _, .nil, by unfold rdS; rw [if_neg (by omega), if_neg (by omega), if_pos (by omega)]; exact ⟨rfl, rfl⟩⟩
theorem SizeR.out {s : Except Int (Nat × Nat)} {fr : Int} {br : Nat} {b : Value} {h : Part} {Lo : List Ent} (k : SizeR s fr br b .outgrown h Lo) : False := by
  unfold SizeR at k; split at k <;> cases k.1
theorem SizeR.pan {s : Except Int (Nat × Nat)} {fr : Int} {br : Nat} {b : Value} {h : Part} {Lo : List Ent} {ch : List PanicEntry} (k : SizeR s fr br b (.panicked ch) h Lo) : ∃ c, s = .error c ∧ ch = [{ v := gvn fr c, recovered := false }] := by
  unfold SizeR at k
  split at k
  · cases k.1
  · rename_i c; have := k.1; injection this with e; exact ⟨c, rfl, e⟩
theorem SizeR.ret {s : Except Int (Nat × Nat)} {fr : Int} {br : Nat} {b v : Value} {h : Part} {Lo : List Ent} (k : SizeR s fr br b (.returned v) h Lo) : ∃ n q : Nat, s = .ok (n, q) ∧ v = .int .i64 n ∧ Lo = [.blk br 61 [b, .int .i64 q]] := by
  unfold SizeR at k
  split at k
  · rename_i n q; have := k.1; injection this with e; exact ⟨n, q, rfl, e, k.2⟩
  · cases k.1
theorem rdS_le {l : List UInt8} {p en n q : Nat} (h : rdS l p en = .ok (n, q)) : p < q ∧ q ≤ en := by
  unfold rdS at h
  split at h
  · cases h
  · split at h
    · cases h; omega
    · split at h
      · cases h
      · split at h
        · cases h
        · split at h
          · cases h
          · injection h with h; injection h with h1 h2; omega
end Go.Proofs.YtldbjnhfkjicjaaDoor
namespace Go.Proofs.YtldbjnhfkjicjaaDoor
open Go Go.RowKit
theorem z12_ {p : Prop} (u : p := by repeat (first | exact trivial | refine ⟨rfl, ?_⟩ | refine ⟨(by exact some_bool (by unfold cutL; cases r <;> first | rfl | (rw [decide_eq_true (show acc.length = 0 by omega)]; rfl) | (rw [decide_eq_false (show ¬ acc.length = 0 by omega)]; rfl) | (exfalso; simp_all; done))), ?_⟩)) : p := u
end Go.Proofs.YtldbjnhfkjicjaaDoor
namespace Go.Proofs.YtldbjnhfkjicjaaDoor
open Go Go.RowKit
theorem ca_24 : callT Tryd.prog 24 = true := by kernel_rfl
theorem ca_35 : callT Tryd.prog 35 = true := by kernel_rfl
theorem ca_36 : callT Tryd.prog 36 = true := by kernel_rfl
theorem fo_26_3 : fieldOff Tryd.prog 26 3 = some 3 := by kernel_rfl
theorem fo_26_4 : fieldOff Tryd.prog 26 4 = some 4 := by kernel_rfl
theorem fo_61_0 : fieldOff Tryd.prog 61 0 = some 0 := by kernel_rfl
theorem fo_61_1 : fieldOff Tryd.prog 61 1 = some 1 := by kernel_rfl
theorem zr_3 : zeroT Tryd.prog 3 = some [.int .i64 0] := by kernel_rfl
abbrev RdE (α : Type) := Except (Int × Int) α
def rdH (l : List UInt8) (p en : Nat) (ok : Bool) : RdE (Nat × Nat × Bool × Nat × Nat) :=
  if ¬ p < en then .error (p, 30)
  else if mayB (byteAt l p / 64 : Nat) (byteAt l p % 32 : Nat) (decide (byteAt l p / 32 % 2 = 1)) = false then .error (p, 31)
  else match rdS l (p + 1) en with
    | .error c => .error (p, c)
    | .ok (n, q) => if ¬ n ≤ en - q then .error (p, 30) else if ok = false then .error (p, 33) else .ok (byteAt l p / 64, byteAt l p % 32, decide (byteAt l p / 32 % 2 = 1), n, q)
def cutL (l : List UInt8) (i j : Nat) : List UInt8 := (l.drop i).take (j - i)
def rdK (rd : Nat → Nat → RdE (Nd × Nat)) (l : List UInt8) (stop : Nat) : Nat → Nat → List Nd → Bool → Nat → RdE (List Nd × Bool × Nat)
  | 0, p, acc, r, _ => .ok (acc, r, p)
  | f + 1, p, acc, r, last => if ¬ p < stop then .ok (acc, r, p) else match rd p stop with
    | .error e => .error e
    | .ok (x, p') => rdK rd l stop f p' (acc ++ [x]) (r && (decide (acc.length = 0) || decide (Go.Lib.compareBytes (cutL l last p) (cutL l p p') ≤ 0))) p
def rdN : Nat → List UInt8 → Nat → Nat → RdE (Nd × Nat)
  | 0, l, p, en => match rdH l p en false with
    | .error e => .error e
    | .ok _ => .error (p, 33)
  | d + 1, l, p, en => match rdH l p en true with
    | .error e => .error e
    | .ok (c, t, k, n, q) =>
      if k = false then (if decide (c = 2) || valB t (cutL l q (q + n)) then .ok (.mk c t false (cutL l q (q + n)) [], q + n) else .error (p, 34))
      else match rdK (rdN d l) l (q + n) n q [] true q with
        | .error e => .error e
        | .ok (ks, r, p') => if r || (decide (c ≠ 0) || decide (t ≠ 17)) then .ok (.mk c t true [] ks, p') else .error (p, 34)
theorem rdH_le {l : List UInt8} {p en : Nat} {ok : Bool} {c t n q : Nat} {k : Bool} (h : rdH l p en ok = .ok (c, t, k, n, q)) : p + 1 < q ∧ q + n ≤ en ∧ c ≤ 3 ∧ t ≤ 31 := by
  unfold rdH at h
  split at h
  · cases h
  · split at h
    · cases h
    · split at h
      · cases h
      · rename_i n' q' hs
        have := rdS_le hs
        have := byteAt_lt l p
        split at h
        · cases h
        · split at h
          · cases h
          · injection h with h; injection h with h1 h2; injection h2 with h2 h3; injection h3 with h3 h4; injection h4 with h4 h5; omega
theorem rdK_le {rd : Nat → Nat → RdE (Nd × Nat)} {l : List UInt8} {stop : Nat} (hrd : ∀ p x p', rd p stop = .ok (x, p') → p < p' ∧ p' ≤ stop) : ∀ (f p : Nat) (acc : List Nd) (r : Bool) (last : Nat) (ks : List Nd) (r' : Bool) (p' : Nat), p ≤ stop → stop ≤ p + f → rdK rd l stop f p acc r last = .ok (ks, r', p') → p' = stop
  | 0, p, acc, r, last, ks, r', p', h1, h2, h => by simp only [rdK] at h; injection h with h; injection h with h3 h4; injection h4 with h4 h5; omega
  | f + 1, p, acc, r, last, ks, r', p', h1, h2, h => by
    simp only [rdK] at h
    split at h
    · injection h with h; injection h with h3 h4; injection h4 with h4 h5; omega
    · split at h
      · cases h
      · rename_i x q hq
        have := hrd p x q hq
        exact rdK_le hrd f q _ _ _ ks r' p' this.2 (by omega) h
theorem rdN_le : ∀ (d : Nat) (l : List UInt8) (p en : Nat) (x : Nd) (p' : Nat), rdN d l p en = .ok (x, p') → p < p' ∧ p' ≤ en
  | 0, l, p, en, x, p', h => by simp only [rdN] at h; split at h <;> cases h
  | d + 1, l, p, en, x, p', h => by
    simp only [rdN] at h
    split at h
    · cases h
    · rename_i c t k n q hh
      have h0 := rdH_le hh
      split at h
      · split at h
        · injection h with h; injection h with h1 h2; omega
        · cases h
      · split at h
        · cases h
        · rename_i ks r p1 hk
          have := rdK_le (fun p x p' => rdN_le d l p (q + n) x p') n q _ _ _ _ _ _ (by omega) (by omega) hk
          split at h
          · injection h with h; injection h with h1 h2; omega
          · cases h
def NodeR (s : RdE (Nd × Nat)) (br : Nat) (b : Value) : Ending → Part → List Ent → Prop := fun e h' Lo =>
  match s with
  | .ok (x, q) => (∃ cs, e = .returned (.agg (List.toArray cs)) ∧ NdR h' cs x) ∧ Lo = [.blk br 61 [b, .int .i64 q]]
  | .error (a, c) => e = .panicked [{ v := gvn a c, recovered := false }] ∧ Lo = []
theorem NodeR.out {s : RdE (Nd × Nat)} {br : Nat} {b : Value} {h : Part} {Lo : List Ent} (k : NodeR s br b .outgrown h Lo) : False := by
  unfold NodeR at k
  split at k
  · obtain ⟨⟨_, hh, _⟩, _⟩ := k; cases hh
  · cases k.1
theorem NodeR.pan {s : RdE (Nd × Nat)} {br : Nat} {b : Value} {h : Part} {Lo : List Ent} {ch : List PanicEntry} (k : NodeR s br b (.panicked ch) h Lo) : ∃ a c, s = .error (a, c) ∧ ch = [{ v := gvn a c, recovered := false }] := by
  unfold NodeR at k
  split at k
  · obtain ⟨⟨_, hh, _⟩, _⟩ := k; cases hh
  · rename_i a c; have := k.1; injection this with e; exact ⟨a, c, rfl, e⟩
theorem NodeR.ret {s : RdE (Nd × Nat)} {br : Nat} {b v : Value} {h : Part} {Lo : List Ent} (k : NodeR s br b (.returned v) h Lo) : ∃ (x : Nd) (q : Nat) (cs : List Value), s = .ok (x, q) ∧ v = .agg cs.toArray ∧ NdR h cs x ∧ Lo = [.blk br 61 [b, .int .i64 q]] := by
  unfold NodeR at k
  split at k
  · rename_i x q; obtain ⟨⟨cs, hh, hn⟩, hL⟩ := k; injection hh with e; exact ⟨x, q, cs, rfl, e, hn, hL⟩
  · cases k.1
theorem rdN_err {d : Nat} {l : List UInt8} {p en : Nat} {e : Int × Int} (h : rdH l p en true = .error e) : rdN (d + 1) l p en = .error e := by simp only [rdN]; rw [h]
theorem rdN_err0 {l : List UInt8} {p en : Nat} {e : Int × Int} (h : rdH l p en false = .error e) : rdN 0 l p en = .error e := by simp only [rdN]; rw [h]
theorem rdN_prim {d : Nat} {l : List UInt8} {p en c t n q : Nat} (h : rdH l p en true = .ok (c, t, false, n, q)) : rdN (d + 1) l p en = if decide (c = 2) || valB t (cutL l q (q + n)) then .ok (.mk c t false (cutL l q (q + n)) [], q + n) else .error (p, 34) := by simp only [rdN]; rw [h]; rfl
theorem rdN_cons {d : Nat} {l : List UInt8} {p en c t n q : Nat} (h : rdH l p en true = .ok (c, t, true, n, q)) : rdN (d + 1) l p en = match rdK (rdN d l) l (q + n) n q [] true q with
    | .error e => .error e
    | .ok (ks, r, p') => if r || (decide (c ≠ 0) || decide (t ≠ 17)) then .ok (.mk c t true [] ks, p') else .error (p, 34) := by simp only [rdN]; rw [h]; rfl
theorem rdK_stop {rd : Nat → Nat → RdE (Nd × Nat)} {l : List UInt8} {stop f p last : Nat} {acc : List Nd} {r : Bool} (h : ¬ p < stop) : rdK rd l stop f p acc r last = .ok (acc, r, p) := by
  cases f with
  | zero => rfl
  | succ f => simp only [rdK]; rw [if_pos h]
theorem rdK_err {rd : Nat → Nat → RdE (Nd × Nat)} {l : List UInt8} {stop f p last : Nat} {acc : List Nd} {r : Bool} {e : Int × Int} (h : p < stop) (he : rd p stop = .error e) : rdK rd l stop (f + 1) p acc r last = .error e := by
  simp only [rdK]; rw [if_neg (by omega), he]
theorem rdK_ok {rd : Nat → Nat → RdE (Nd × Nat)} {l : List UInt8} {stop f p last p' : Nat} {acc : List Nd} {r : Bool} {x : Nd} (h : p < stop) (he : rd p stop = .ok (x, p')) : rdK rd l stop (f + 1) p acc r last = rdK rd l stop f p' (acc ++ [x]) (r && (decide (acc.length = 0) || decide (Go.Lib.compareBytes (cutL l last p) (cutL l p p') ≤ 0))) p := by
  rw [rdK, if_neg (by omega), he]
theorem node_rd : ∀ (d : Nat) (l : List UInt8) (p en : Nat) (br : Nat) (ab : Option Addr) (cb : Nat) (h : Part), SlR u8R 1 h ab cb l → Tabs h → l.length ≤ 16777216 → en ≤ l.length → d ≤ 32 →
    Fn Tryd.prog 24 [.pointer (some ⟨br, 0, none⟩), .int .i64 en, .int .i64 ((33 : Int) - d)] h [.blk br 61 [.slice ab l.length cb, .int .i64 p]] (NodeR (rdN d l p en) br (.slice ab l.length cb)) := by
  intro d
  induction d with
  | zero =>
    intro l p en br ab cb h hl hT hll hen hd
    refine Fn.intro Tryd.func24 rfl Tryd.ntmps24 rfl (fun e he => ?_)
    refine J.weak [(0, _), (1, _), (2, _)] ⟨rfl, rfl, rfl, trivial⟩ ?_
    have hh0 := Part.le.refl h
    refine Sr ?_
    refine JL.alloc zr_26 rfl (fun b1 => ?_)
    refine JL.nil ?_
    refine Sr ?_
    refine Ru 3 rfl ?_
    refine JL.op (RunV.own1 ag_3 rfl mm_ rfl) rfl ?_
    refine JL.alloc zr_3 rfl (fun b2 => ?_)
    refine JL.store1 ag_3 rfl rfl rfl dl_ z28_ ?_
    refine JL.nil ?_
    refine Sr ?_
    refine JL.op (RunV.makeFunc (os1 := []) (os2 := [.tmp 7]) rfl rfl) rfl ?_
    refine Ru 1 rfl ?_
    refine Nk [8, 7, 6, 0, 1, 2] rfl ?_
    refine Sr ?_
    refine Ru 4 rfl ?_
    refine JL.op (RunV.own1 ag_3 rfl mm_ rfl) rfl ?_
    refine Ru 2 rfl ?_
    refine JL.fail ca_35 rfl rfl (nfail_fn) dl_ rfl (fun hc3 h3 hle3 => ?_) (fun hc3 h3 hle3 => ?_)
    ·
     try simp only [decide_eq_true_eq, decide_eq_false_iff_not, Bool.not_eq_eq_eq_not, Bool.not_true, Bool.not_false, ne_eq, Decidable.not_not] at hc3
     have hE : rdH l p en false = .error (p, 30) := (by unfold rdH; rw [if_pos (by omega)]); exact ⟨[], _, .nil, by rw [rdN_err0 hE]; exact ⟨rfl, rfl⟩⟩
    try simp only [decide_eq_true_eq, decide_eq_false_iff_not, Bool.not_eq_eq_eq_not, Bool.not_true, Bool.not_false, ne_eq, Decidable.not_not] at hc3
    replace hl := hl.mono hle3
    replace hT := hT.mono hle3
    replace hh0 := hh0.mono hle3
    refine Nk [8, 7, 6, 0, 1, 2] rfl ?_
    refine J.seq ?_
    refine J.drawn mixed_ (by kernel_rfl) ?_
    refine Rq 3 rfl ?_
    refine JQ.op (RunV.own1 ag_24 rfl mm_ rfl) rfl ?_
    refine Rq 3 rfl ?_
    refine JQ.op (RunV.own1 ag_3 rfl mm_ rfl) rfl ?_
    refine JQ.ope (RunE.index sl_24 rfl rfl z6_ (by assumption) rfl (by omega)) rfl ?_
    rintro _ ⟨b4, o4, hi4, rfl, hE4⟩
    refine JQ.op (RunV.ld_u8 ag_5 rfl (by assumption)) rfl ?_
    refine Rq 1 rfl ?_
    refine Nq [9, 8, 7, 6, 0, 1, 2] rfl ?_
    refine Sr ?_
    have hpl : p < l.length := (by omega); have hbt := byteAt_eq l p hpl; have hlt := byteAt_lt l p
    refine Ru 3 rfl ?_
    refine JL.op (RunV.own1 ag_3 rfl mm_ rfl) rfl ?_
    refine JL.op ai_ rfl ?_
    refine Ru 2 rfl ?_
    refine JL.store1 ag_3 rfl rfl rfl dl_ z28_ ?_
    refine Nk [9, 8, 7, 6, 0, 1, 2] rfl ?_
    refine Sr ?_
    refine Ru 1 rfl ?_
    refine JL.op (RunV.shr_u8 64 rfl rfl (by decide) (by decide) (by decide)) rfl ?_
    refine JL.op z11_ rfl ?_
    rw [show ((l[p].toNat : Int) / 64) = ((byteAt l p / 64 : Nat) : Int) by rw [hbt]; simp]
    refine Ru 1 rfl ?_
    refine JL.op (by first | exact RunV.maskb_u8 5 32 rfl rfl (by decide) (by decide) (by decide) | exact RunV.mask_u8 5 32 rfl rfl (by decide) (by decide) (by decide) (by omega) (by omega) | exact RunV.and_ rfl rfl) rfl ?_
    refine JL.op z11_ rfl ?_
    rw [show ((l[p].toNat : Int) % 32) = ((byteAt l p % 32 : Nat) : Int) by rw [hbt]; simp]
    refine Ru 1 rfl ?_
    refine JL.op (RunV.and32 rfl (by omega) (by omega)) rfl ?_
    refine Ru 1 rfl ?_
    rw [show decide ((0 : Int) < 32 * ((l[p].toNat : Int) / 32 % 2)) = decide (byteAt l p / 32 % 2 = 1) from decide_eq_decide.2 (by omega)]; obtain ⟨c, hcd⟩ : ∃ c, byteAt l p / 64 = c := ⟨_, rfl⟩; obtain ⟨t, htd⟩ : ∃ t, byteAt l p % 32 = t := ⟨_, rfl⟩; obtain ⟨k, hkd⟩ : ∃ k, decide (byteAt l p / 32 % 2 = 1) = k := ⟨_, rfl⟩; rw [hcd, htd, hkd]
    refine JL.op (RunV.build (cs := [_, _, _, .slice none 0 0, .slice none 0 0]) pl_26 rfl rfl) rfl ?_
    refine JL.alloc zr_26 rfl (fun b6 => ?_)
    refine JL.storeA ag_26 rfl rfl dl_ z20_ z17_ z8_ ?_
    refine Nk [10, 8, 7, 6, 0, 1, 2] rfl ?_
    refine Sr ?_
    refine Ru 1 rfl ?_
    refine JL.op (RunV.ownA ag_26 rfl mm_ z8_) rfl ?_
    refine JL.callP ca_27 rfl (pmay_fn (x := .mk c t k [] []) (NdR.of SlR.nil_ SlR.nil_)) rfl ?_
    refine JL.fail ca_35 rfl rfl (nfail_fn) dl_ rfl (fun hc8 h8 hle8 => ?_) (fun hc8 h8 hle8 => ?_)
    ·
     try simp only [decide_eq_true_eq, decide_eq_false_iff_not, Bool.not_eq_eq_eq_not, Bool.not_true, Bool.not_false, ne_eq, Decidable.not_not] at hc8
     have hE : rdH l p en false = .error (p, 31) := (by unfold rdH; rw [if_neg (by omega), hcd, htd, hkd, if_pos (by exact hc8)]); exact ⟨[], _, .nil, by rw [rdN_err0 hE]; exact ⟨rfl, rfl⟩⟩
    try simp only [decide_eq_true_eq, decide_eq_false_iff_not, Bool.not_eq_eq_eq_not, Bool.not_true, Bool.not_false, ne_eq, Decidable.not_not] at hc8
    replace hl := hl.mono hle8
    replace hT := hT.mono hle8
    replace hh0 := hh0.mono hle8
    have hmay : mayB c t k = true := hc8
    refine JL.nil ?_
    refine Sr ?_
    refine Ru 1 rfl ?_
    refine JL.op (RunV.own1 ag_3 rfl mm_ rfl) rfl ?_
    refine Ru 1 rfl ?_
    refine JL.call_ ca_36 rfl (size_rd (by assumption) (by omega)) pt_ rfl (fun _ _ hh => (SizeR.out hh).elim) (fun ch9 h9 Lo9 hle9 hR9 => ?_) (fun v9 h9 Lo9 hle9 hR9 => ?_)
    ·
     have hR9 := SizeR.pan hR9
     obtain ⟨zc, hzc, rfl⟩ := hR9; have hE : rdH l p en false = .error (p, zc) := (by unfold rdH; rw [if_neg (by omega), hcd, htd, hkd, if_neg (by rw [hmay]; decide), hzc]); exact ⟨[], _, .nil, by rw [rdN_err0 hE]; exact ⟨rfl, rfl⟩⟩
    obtain ⟨zn, zq, hzs, rfl, rfl⟩ := SizeR.ret hR9
    replace hl := hl.mono hle9
    replace hT := hT.mono hle9
    replace hh0 := hh0.mono hle9
    have hzq := rdS_le hzs
    refine Ru 1 rfl ?_
    refine Nk [11, 10, 8, 6, 0, 1, 2] rfl ?_
    refine Sr ?_
    refine Ru 6 rfl ?_
    refine JL.op (RunV.own1 ag_3 rfl mm_ rfl) rfl ?_
    refine JL.op si_ rfl ?_
    refine Ru 1 rfl ?_
    refine JL.fail ca_35 rfl rfl (nfail_fn) dl_ rfl (fun hc10 h10 hle10 => ?_) (fun hc10 h10 hle10 => ?_)
    ·
     try simp only [decide_eq_true_eq, decide_eq_false_iff_not, Bool.not_eq_eq_eq_not, Bool.not_true, Bool.not_false, ne_eq, Decidable.not_not] at hc10
     have hE : rdH l p en false = .error (p, 30) := (by unfold rdH; rw [if_neg (by omega), hcd, htd, hkd, if_neg (by rw [hmay]; decide), hzs]; simp only; rw [if_pos (by omega)]); exact ⟨[], _, .nil, by rw [rdN_err0 hE]; exact ⟨rfl, rfl⟩⟩
    try simp only [decide_eq_true_eq, decide_eq_false_iff_not, Bool.not_eq_eq_eq_not, Bool.not_true, Bool.not_false, ne_eq, Decidable.not_not] at hc10
    replace hl := hl.mono hle10
    replace hT := hT.mono hle10
    replace hh0 := hh0.mono hle10
    refine Nk [11, 10, 8, 6, 0, 2] rfl ?_
    refine Sr ?_
    refine Ru 3 rfl ?_
    refine JL.fail ca_35 rfl rfl (nfail_fn) dl_ rfl (fun hc11 h11 hle11 => ?_) (fun hc11 h11 hle11 => ?_)
    ·
     try simp only [decide_eq_true_eq, decide_eq_false_iff_not, Bool.not_eq_eq_eq_not, Bool.not_true, Bool.not_false, ne_eq, Decidable.not_not] at hc11
     have hE : rdH l p en false = .error (p, 33) := (by unfold rdH; rw [if_neg (by omega), hcd, htd, hkd, if_neg (by rw [hmay]; decide), hzs]; simp only; rw [if_neg (by omega)]; rfl); exact ⟨[], _, .nil, by rw [rdN_err0 hE]; exact ⟨rfl, rfl⟩⟩
    try simp only [decide_eq_true_eq, decide_eq_false_iff_not, Bool.not_eq_eq_eq_not, Bool.not_true, Bool.not_false, ne_eq, Decidable.not_not] at hc11
    replace hl := hl.mono hle11
    replace hT := hT.mono hle11
    replace hh0 := hh0.mono hle11
    exfalso; omega --done
  | succ d ih =>
    intro l p en br ab cb h hl hT hll hen hd
    refine Fn.intro Tryd.func24 rfl Tryd.ntmps24 rfl (fun e he => ?_)
    refine J.weak [(0, _), (1, _), (2, _)] ⟨rfl, rfl, rfl, trivial⟩ ?_
    have hh0 := Part.le.refl h
    refine Sr ?_
    refine JL.alloc zr_26 rfl (fun b1 => ?_)
    refine JL.nil ?_
    refine Sr ?_
    refine Ru 3 rfl ?_
    refine JL.op (RunV.own1 ag_3 rfl mm_ rfl) rfl ?_
    refine JL.alloc zr_3 rfl (fun b2 => ?_)
    refine JL.store1 ag_3 rfl rfl rfl dl_ z28_ ?_
    refine JL.nil ?_
    refine Sr ?_
    refine JL.op (RunV.makeFunc (os1 := []) (os2 := [.tmp 7]) rfl rfl) rfl ?_
    refine Ru 1 rfl ?_
    refine Nk [8, 7, 6, 0, 1, 2] rfl ?_
    refine Sr ?_
    refine Ru 4 rfl ?_
    refine JL.op (RunV.own1 ag_3 rfl mm_ rfl) rfl ?_
    refine Ru 2 rfl ?_
    refine JL.fail ca_35 rfl rfl (nfail_fn) dl_ rfl (fun hc3 h3 hle3 => ?_) (fun hc3 h3 hle3 => ?_)
    ·
     try simp only [decide_eq_true_eq, decide_eq_false_iff_not, Bool.not_eq_eq_eq_not, Bool.not_true, Bool.not_false, ne_eq, Decidable.not_not] at hc3
     have hE : rdH l p en true = .error (p, 30) := (by unfold rdH; rw [if_pos (by omega)]); exact ⟨[], _, .nil, by rw [rdN_err hE]; exact ⟨rfl, rfl⟩⟩
    try simp only [decide_eq_true_eq, decide_eq_false_iff_not, Bool.not_eq_eq_eq_not, Bool.not_true, Bool.not_false, ne_eq, Decidable.not_not] at hc3
    replace hl := hl.mono hle3
    replace hT := hT.mono hle3
    replace hh0 := hh0.mono hle3
    refine Nk [8, 7, 6, 0, 1, 2] rfl ?_
    refine J.seq ?_
    refine J.drawn mixed_ (by kernel_rfl) ?_
    refine Rq 3 rfl ?_
    refine JQ.op (RunV.own1 ag_24 rfl mm_ rfl) rfl ?_
    refine Rq 3 rfl ?_
    refine JQ.op (RunV.own1 ag_3 rfl mm_ rfl) rfl ?_
    refine JQ.ope (RunE.index sl_24 rfl rfl z6_ (by assumption) rfl (by omega)) rfl ?_
    rintro _ ⟨b4, o4, hi4, rfl, hE4⟩
    refine JQ.op (RunV.ld_u8 ag_5 rfl (by assumption)) rfl ?_
    refine Rq 1 rfl ?_
    refine Nq [9, 8, 7, 6, 0, 1, 2] rfl ?_
    refine Sr ?_
    have hpl : p < l.length := (by omega); have hbt := byteAt_eq l p hpl; have hlt := byteAt_lt l p
    refine Ru 3 rfl ?_
    refine JL.op (RunV.own1 ag_3 rfl mm_ rfl) rfl ?_
    refine JL.op ai_ rfl ?_
    refine Ru 2 rfl ?_
    refine JL.store1 ag_3 rfl rfl rfl dl_ z28_ ?_
    refine Nk [9, 8, 7, 6, 0, 1, 2] rfl ?_
    refine Sr ?_
    refine Ru 1 rfl ?_
    refine JL.op (RunV.shr_u8 64 rfl rfl (by decide) (by decide) (by decide)) rfl ?_
    refine JL.op z11_ rfl ?_
    rw [show ((l[p].toNat : Int) / 64) = ((byteAt l p / 64 : Nat) : Int) by rw [hbt]; simp]
    refine Ru 1 rfl ?_
    refine JL.op (by first | exact RunV.maskb_u8 5 32 rfl rfl (by decide) (by decide) (by decide) | exact RunV.mask_u8 5 32 rfl rfl (by decide) (by decide) (by decide) (by omega) (by omega) | exact RunV.and_ rfl rfl) rfl ?_
    refine JL.op z11_ rfl ?_
    rw [show ((l[p].toNat : Int) % 32) = ((byteAt l p % 32 : Nat) : Int) by rw [hbt]; simp]
    refine Ru 1 rfl ?_
    refine JL.op (RunV.and32 rfl (by omega) (by omega)) rfl ?_
    refine Ru 1 rfl ?_
    rw [show decide ((0 : Int) < 32 * ((l[p].toNat : Int) / 32 % 2)) = decide (byteAt l p / 32 % 2 = 1) from decide_eq_decide.2 (by omega)]; obtain ⟨c, hcd⟩ : ∃ c, byteAt l p / 64 = c := ⟨_, rfl⟩; obtain ⟨t, htd⟩ : ∃ t, byteAt l p % 32 = t := ⟨_, rfl⟩; obtain ⟨k, hkd⟩ : ∃ k, decide (byteAt l p / 32 % 2 = 1) = k := ⟨_, rfl⟩; rw [hcd, htd, hkd]
    refine JL.op (RunV.build (cs := [_, _, _, .slice none 0 0, .slice none 0 0]) pl_26 rfl rfl) rfl ?_
    refine JL.alloc zr_26 rfl (fun b6 => ?_)
    refine JL.storeA ag_26 rfl rfl dl_ z20_ z17_ z8_ ?_
    refine Nk [10, 8, 7, 6, 0, 1, 2] rfl ?_
    refine Sr ?_
    refine Ru 1 rfl ?_
    refine JL.op (RunV.ownA ag_26 rfl mm_ z8_) rfl ?_
    refine JL.callP ca_27 rfl (pmay_fn (x := .mk c t k [] []) (NdR.of SlR.nil_ SlR.nil_)) rfl ?_
    refine JL.fail ca_35 rfl rfl (nfail_fn) dl_ rfl (fun hc8 h8 hle8 => ?_) (fun hc8 h8 hle8 => ?_)
    ·
     try simp only [decide_eq_true_eq, decide_eq_false_iff_not, Bool.not_eq_eq_eq_not, Bool.not_true, Bool.not_false, ne_eq, Decidable.not_not] at hc8
     have hE : rdH l p en true = .error (p, 31) := (by unfold rdH; rw [if_neg (by omega), hcd, htd, hkd, if_pos (by exact hc8)]); exact ⟨[], _, .nil, by rw [rdN_err hE]; exact ⟨rfl, rfl⟩⟩
    try simp only [decide_eq_true_eq, decide_eq_false_iff_not, Bool.not_eq_eq_eq_not, Bool.not_true, Bool.not_false, ne_eq, Decidable.not_not] at hc8
    replace hl := hl.mono hle8
    replace hT := hT.mono hle8
    replace hh0 := hh0.mono hle8
    have hmay : mayB c t k = true := hc8
    refine JL.nil ?_
    refine Sr ?_
    refine Ru 1 rfl ?_
    refine JL.op (RunV.own1 ag_3 rfl mm_ rfl) rfl ?_
    refine Ru 1 rfl ?_
    refine JL.call_ ca_36 rfl (size_rd (by assumption) (by omega)) pt_ rfl (fun _ _ hh => (SizeR.out hh).elim) (fun ch9 h9 Lo9 hle9 hR9 => ?_) (fun v9 h9 Lo9 hle9 hR9 => ?_)
    ·
     have hR9 := SizeR.pan hR9
     obtain ⟨zc, hzc, rfl⟩ := hR9; have hE : rdH l p en true = .error (p, zc) := (by unfold rdH; rw [if_neg (by omega), hcd, htd, hkd, if_neg (by rw [hmay]; decide), hzc]); exact ⟨[], _, .nil, by rw [rdN_err hE]; exact ⟨rfl, rfl⟩⟩
    obtain ⟨zn, zq, hzs, rfl, rfl⟩ := SizeR.ret hR9
    replace hl := hl.mono hle9
    replace hT := hT.mono hle9
    replace hh0 := hh0.mono hle9
    have hzq := rdS_le hzs
    refine Ru 1 rfl ?_
    refine Nk [11, 10, 8, 6, 0, 1, 2] rfl ?_
    refine Sr ?_
    refine Ru 6 rfl ?_
    refine JL.op (RunV.own1 ag_3 rfl mm_ rfl) rfl ?_
    refine JL.op si_ rfl ?_
    refine Ru 1 rfl ?_
    refine JL.fail ca_35 rfl rfl (nfail_fn) dl_ rfl (fun hc10 h10 hle10 => ?_) (fun hc10 h10 hle10 => ?_)
    ·
     try simp only [decide_eq_true_eq, decide_eq_false_iff_not, Bool.not_eq_eq_eq_not, Bool.not_true, Bool.not_false, ne_eq, Decidable.not_not] at hc10
     have hE : rdH l p en true = .error (p, 30) := (by unfold rdH; rw [if_neg (by omega), hcd, htd, hkd, if_neg (by rw [hmay]; decide), hzs]; simp only; rw [if_pos (by omega)]); exact ⟨[], _, .nil, by rw [rdN_err hE]; exact ⟨rfl, rfl⟩⟩
    try simp only [decide_eq_true_eq, decide_eq_false_iff_not, Bool.not_eq_eq_eq_not, Bool.not_true, Bool.not_false, ne_eq, Decidable.not_not] at hc10
    replace hl := hl.mono hle10
    replace hT := hT.mono hle10
    replace hh0 := hh0.mono hle10
    refine Nk [11, 10, 8, 6, 0, 2] rfl ?_
    refine Sr ?_
    refine Ru 3 rfl ?_
    refine JL.fail ca_35 rfl rfl (nfail_fn) dl_ rfl (fun hc11 h11 hle11 => ?_) (fun hc11 h11 hle11 => ?_)
    ·
     try simp only [decide_eq_true_eq, decide_eq_false_iff_not, Bool.not_eq_eq_eq_not, Bool.not_true, Bool.not_false, ne_eq, Decidable.not_not] at hc11
     exfalso; omega
    try simp only [decide_eq_true_eq, decide_eq_false_iff_not, Bool.not_eq_eq_eq_not, Bool.not_true, Bool.not_false, ne_eq, Decidable.not_not] at hc11
    replace hl := hl.mono hle11
    replace hT := hT.mono hle11
    replace hh0 := hh0.mono hle11
    refine JL.nil ?_
    refine J.seq ?_
    refine Sr ?_
    have hH : rdH l p en true = .ok (c, t, k, zn, zq) := (by unfold rdH; rw [if_neg (by omega), hcd, htd, hkd, if_neg (by rw [hmay]; decide), hzs]; simp only; rw [if_neg (by omega), if_neg (by decide)])
    refine Ru 1 rfl ?_
    refine JL.op (RunV.own1 ag_4 rfl mm_ rfl) rfl ?_
    refine Ru 1 rfl ?_
    refine Nk [80, 11, 10, 8, 6, 0, 2] rfl ?_
    refine Cs rfl (fun hc12 => ?_) fun hc12 => ?_
    ·
     have hkf : k = false := (by simpa using hc12); subst hkf
     refine J.seq ?_
     refine J.held ([.blk br 61 [.slice ab l.length cb, .int .i64 zq]]) 18 mixed_ rfl (fun h00 => ?_)
     refine Tk 0 rfl (RunV.move rfl) ?_
     refine Tk 1 rfl (RunV.nilCheck rfl) ?_
     refine Tk 2 rfl (by first | exact RunV.fieldAt0 fo_61_0 rfl | exact RunV.fieldAt fo_61_0 rfl) ?_
     refine Tk 3 rfl (RunV.own1 ag_24 rfl mm_ rfl) ?_
     refine Tk 4 rfl (RunV.move rfl) ?_
     refine Tk 5 rfl (RunV.nilCheck rfl) ?_
     refine Tk 6 rfl (by first | exact RunV.fieldAt0 fo_61_1 rfl | exact RunV.fieldAt fo_61_1 rfl) ?_
     refine Tk 7 rfl (RunV.own1 ag_3 rfl mm_ rfl) ?_
     refine Tk 8 rfl (RunV.move rfl) ?_
     refine Tk 9 rfl (RunV.nilCheck rfl) ?_
     refine Tk 10 rfl (by first | exact RunV.fieldAt0 fo_61_1 rfl | exact RunV.fieldAt fo_61_1 rfl) ?_
     refine Tk 11 rfl (RunV.own1 ag_3 rfl mm_ rfl) ?_
     refine Tk 12 rfl (RunV.move rfl) ?_
     refine Tk 13 rfl ai_ ?_
     refine Te 14 rfl (RunE.cut_lh (m := zq) (m' := zq + zn) sl_24 rfl rfl rfl rfl (by omega) (by assumption) rfl (by omega) (by omega)) ?_
     rintro _ ⟨as_, cs_, rfl, hSs⟩
     obtain ⟨bs, hbs⟩ : ∃ bs, cutL l zq (zq + zn) = bs := ⟨_, rfl⟩; have hbc := hbs; unfold cutL at hbs; rw [hbs] at hSs ⊢; have hbsl := hSs.big; have hbl2 : bs.length ≤ 16777216 := (by rw [← hbs]; simp; omega)
     refine Ta 15 rfl ?_
     unfold One
     refine JL.row_nil 5 1 ?_
     refine JL.append ap_24 rfl rfl (CellsR.nil (R := u8R)) rfl (by assumption) rfl dl_ z3_ rfl rfl (fun a14 c14 xs14 hC14 hN14 => ?_)
     obtain rfl := hC14.u8
     refine JL.pub (R := u8R) (l := bs) dl_ CellsR.of_u8 rfl z3_ (fun h15 hle15 hP15 => ?_)
     replace hl := hl.mono hle15
     replace hT := hT.mono hle15
     replace hh0 := hh0.mono hle15
     replace hSs := hSs.mono hle15
     refine JL.nil ⟨(br_ h00), ?_⟩
     refine Tk 16 rfl (by first | exact RunV.fieldAt0 fo_26_3 rfl | exact RunV.fieldAt fo_26_3 rfl) ?_
     refine Ta 17 rfl ?_
     unfold One
     refine JL.store1 ag_24 rfl rfl rfl dl_ z28_ ?_
     refine JL.nil ⟨(br_ h00), ?_⟩
     refine JH.done (by kernel_rfl) ?_
     refine Kp [11, 10, 8, 6, 0, 2] rfl ?_
     refine Sr ?_
     refine Ru 3 rfl ?_
     refine JL.op (RunV.own1 ag_3 rfl mm_ rfl) rfl ?_
     refine Ru 1 rfl ?_
     refine JL.op ai_ rfl ?_
     refine Ru 2 rfl ?_
     refine JL.store1 ag_3 rfl rfl rfl dl_ z28_ ?_
     refine Nk [11, 10, 8, 6, 0, 2] rfl ?_
     refine Sr ?_
     refine Ru 2 rfl ?_
     refine JL.op (RunV.own1 ag_3 rfl mm_ rfl) rfl ?_
     refine Ru 2 rfl ?_
     refine Bs 110 rfl (fun hc16 => ?_) fun hc16 => ?_
     ·
      refine Ru 6 rfl ?_
      refine JL.fail ca_35 rfl rfl (nfail_fn) dl_ rfl (fun hc17 => by cases hc17) (fun hc17 h17 hle17 => ?_)
      replace hl := hl.mono hle17
      replace hT := hT.mono hle17
      replace hh0 := hh0.mono hle17
      replace hSs := hSs.mono hle17
      replace hP15 := hP15.mono hle17
      refine Nk [11, 10, 8, 6, 0, 2] rfl ?_
      refine Sr ?_
      refine JL.op (RunV.ownA ag_26 rfl mm_ z8_) rfl ?_
      refine JL.storeA ag_26 rfl rfl dl_ z20_ z17_ z8_ ?_
      refine JL.nil ?_
      have hN : rdN (d + 1) l p en = .ok (.mk c t false bs [], zq + zn) := (by rw [rdN_prim hH, hbc, if_pos (by rw [decide_eq_true (by omega)]; rfl)]); exact J.ret ⟨_, [.blk br _ _], _, (RetV.cell rfl rfl ag_26 mm_ z8_), .cons dl_ .nil, by rw [hN]; exact ⟨⟨_, rfl, NdR.of (by assumption) SlR.nil_⟩, by simp⟩⟩
     refine Ru 1 rfl ?_
     refine JL.opg rfl rfl  (RunV.own1 ag_3 rfl mm_ rfl) rfl ?_
     refine Ru 1 rfl ?_
     refine JL.opg rfl rfl  (RunV.own1 ag_24 rfl mm_ rfl) rfl ?_
     refine JL.callPg rfl rfl  ca_28 rfl (value_fn (l := bs) (by assumption) (by assumption) (by omega)) rfl ?_
     refine Ru 1 rfl ?_
     refine JL.fail ca_35 rfl rfl (nfail_fn) dl_ rfl (fun hc19 h19 hle19 => ?_) (fun hc19 h19 hle19 => ?_)
     ·
      try simp only [decide_eq_true_eq, decide_eq_false_iff_not, Bool.not_eq_eq_eq_not, Bool.not_true, Bool.not_false, ne_eq, Decidable.not_not] at hc19
      have hN : rdN (d + 1) l p en = .error (p, 34) := (by rw [rdN_prim hH, hbc, if_neg (by rw [show valB t bs = false from hc19, decide_eq_false (by omega)]; decide)]); exact ⟨[], _, .nil, by rw [hN]; exact ⟨rfl, rfl⟩⟩
     try simp only [decide_eq_true_eq, decide_eq_false_iff_not, Bool.not_eq_eq_eq_not, Bool.not_true, Bool.not_false, ne_eq, Decidable.not_not] at hc19
     replace hl := hl.mono hle19
     replace hT := hT.mono hle19
     replace hh0 := hh0.mono hle19
     replace hSs := hSs.mono hle19
     replace hP15 := hP15.mono hle19
     have hvv : valB t bs = true := hc19
     refine Nk [11, 10, 8, 6, 0, 2] rfl ?_
     refine Sr ?_
     refine JL.op (RunV.ownA ag_26 rfl mm_ z8_) rfl ?_
     refine JL.storeA ag_26 rfl rfl dl_ z20_ z17_ z8_ ?_
     refine JL.nil ?_
     have hN : rdN (d + 1) l p en = .ok (.mk c t false bs [], zq + zn) := (by rw [rdN_prim hH, hbc, if_pos (by rw [hvv]; simp)]); exact J.ret ⟨_, [.blk br _ _], _, (RetV.cell rfl rfl ag_26 mm_ z8_), .cons dl_ .nil, by rw [hN]; exact ⟨⟨_, rfl, NdR.of (by assumption) SlR.nil_⟩, by simp⟩⟩
    have hkt : k = true := (by simpa using hc12); subst hkt
    refine J.skip ?_
    refine Sr ?_
    refine Ru 3 rfl ?_
    refine JL.op (RunV.own1 ag_3 rfl mm_ rfl) rfl ?_
    refine Ru 2 rfl ?_
    refine Nk [13, 12, 11, 10, 8, 6, 0, 2] rfl ?_
    refine J.seq ?_
    refine Sr ?_
    refine Ru 3 rfl ?_
    refine JL.op (RunV.own1 ag_3 rfl mm_ rfl) rfl ?_
    refine Ru 1 rfl ?_
    refine JL.op ai_ rfl ?_
    refine Ru 1 rfl ?_
    refine JL.row_nil 26 5 ?_; refine JL.ents [.blk br _ _, .blk b6 _ _, .row _ _ _ _ _ _, .blk b2 _ _, .blk b1 _ _] pt_ ?_
    refine Nk [14, 13, 12, 10, 8, 6, 0, 2] rfl ?_
    refine J.block ?_
    refine J.loop (fun t_ S_ h_ L_ => ∃ (g : Part) (f pos last : Nat) (acc : List Nd) (r : Bool) (ak : Option Addr) (ck : Nat) (xs : List Value), t_ = zq + zn - pos ∧ S_ = [(0, .pointer (some ⟨br, 0, none⟩)), (2, .int .i64 ((33 : Int) - ((d + 1 : Nat) : Int))), (6, .pointer (some ⟨b1, 0, none⟩)), (8, .func (.func 35) #[] #[.pointer (some ⟨b2, 0, none⟩)]), (10, .pointer (some ⟨b6, 0, none⟩)), (12, .int .i64 last), (13, .bool r), (14, .int .i64 ((zq + zn : Nat) : Int))] ∧ g = h_ ∧ L_ = [.blk br 61 [.slice ab l.length cb, .int .i64 pos], .blk b6 26 [.int .i64 c, .int .i64 t, .bool true, .slice none 0 0, .slice ak acc.length ck], .row ak ck 26 5 acc.length xs, .blk b2 3 [.int .i64 p], .blk b1 26 [.int .i64 0, .int .i64 0, .bool false, .slice none 0 0, .slice none 0 0]] ∧ (h.le g ∧ SlR u8R 1 g ab cb l ∧ Tabs g ∧ CellsR NdR 5 g xs acc ∧ last ≤ pos ∧ pos ≤ zq + zn ∧ zq + zn ≤ pos + f ∧ acc.length ≤ pos ∧ rdK (rdN d l) l (zq + zn) zn zq [] true zq = rdK (rdN d l) l (zq + zn) f pos acc r last)) ⟨_, _, ?_, ⟨_, zn, zq, zq, [], true, none, 0, [], rfl, rfl, rfl, rfl, ⟨by assumption, by assumption, by assumption, CellsR.nil, by omega, by omega, by omega, by simp, rfl⟩⟩⟩ ?_
    ·
     exact z5_
    rintro _ _ _ _ ⟨g, f, pos, last, acc, r, ak, ck, xs, rfl, rfl, rfl, rfl, hhg, hl, hT, hC, hlp, hps, hpf, hap, hK⟩
    refine J.seq ?_
    refine Sr ?_
    refine Ru 3 rfl ?_
    refine JL.op (RunV.own1 ag_3 rfl mm_ rfl) rfl ?_
    refine Ru 2 rfl ?_
    refine JL.nil ?_
    refine Cs rfl (fun hc20 => ?_) fun hc20 => ?_
    ·
     obtain ⟨f', rfl⟩ : ∃ f', f = f' + 1 := ⟨f - 1, by omega⟩
     refine J.skip ?_
     refine J.block ?_
     refine Sr ?_
     refine Ru 3 rfl ?_
     refine JL.op (RunV.own1 ag_3 rfl mm_ rfl) rfl ?_
     refine Ru 1 rfl ?_
     refine JL.nil ?_
     refine J.seq ?_
     refine J.held ([]) 11 mixed_ rfl (fun h00 => ?_)
     refine Tk 0 rfl (by first | exact RunV.fieldAt0 fo_26_4 rfl | exact RunV.fieldAt fo_26_4 rfl) ?_
     refine Tk 2 rfl (RunV.move rfl) ?_
     refine Tk 3 rfl (RunV.move rfl) ?_
     refine Tk 4 rfl (RunV.move rfl) ?_
     refine Tk 5 rfl ai_ ?_
     rw [show ((33 : Int) - ((d + 1 : Nat) : Int) + 1) = 33 - (d : Int) by omega]
     refine JH.all2 1 6 (by kernel_rfl) rfl rfl ?_ ?_
     ·
      unfold One
      refine JL.op (RunV.own1 ag_22 rfl mm_ rfl) rfl ?_
      refine JL.nil ⟨(br_ h00), ?_⟩
      refine Ta 6 rfl ?_
      unfold One
      refine JL.call_ ca_24 rfl (ih l pos (zq + zn) br ab cb _ (by assumption) (by assumption) hll (by omega) (by omega)) pt_ rfl (fun _ _ hh => (NodeR.out hh).elim) (fun ch21 h21 Lo21 hle21 hR21 => ?_) (fun v21 h21 Lo21 hle21 hR21 => ?_)
      ·
       have hR21 := NodeR.pan hR21
       obtain ⟨xa, xc, hxe, rfl⟩ := hR21; have hN : rdN (d + 1) l p en = .error (xa, xc) := (by rw [rdN_cons hH, hK, rdK_err (by omega) hxe]); exact ⟨[], _, .nil, by rw [hN]; exact ⟨rfl, rfl⟩⟩
      obtain ⟨x, p', xcs, hxs, rfl, hNdx, rfl⟩ := NodeR.ret hR21
      replace hhg := hhg.mono hle21
      replace hC := hC.mono hle21
      replace hl := hl.mono hle21
      replace hT := hT.mono hle21
      have hxl := rdN_le d l pos (zq + zn) x p' hxs; have hal : ((acc ++ [x]).length : Int) = (acc.length : Int) + 1 := by simp
      refine JL.nil ⟨(br_ h00), ?_⟩
      refine Ta 7 rfl ?_
      unfold One
      refine JL.litA ap_22 rfl z8_ rfl rfl (fun b22 => ?_)
      refine JL.nil ⟨(br_ h00), ?_⟩
      refine Ta 8 rfl ?_
      unfold One
      refine JL.append1 ap_22 rfl rfl (by assumption) rfl dl_ dl_ z8_ (hNdx) z3_ rfl rfl (fun a23 c23 xs23 hC23 hN23 => ?_)
      refine JL.nil ⟨(br_ h00), ?_⟩
      refine Tk 9 rfl (by first | exact RunV.fieldAt0 fo_26_4 rfl | exact RunV.fieldAt fo_26_4 rfl) ?_
      refine Ta 10 rfl ?_
      unfold One
      refine JL.store1 ag_22 rfl rfl rfl dl_ z28_ ?_
      refine JL.nil ⟨(br_ h00), ?_⟩
      refine JH.done (by kernel_rfl) ?_
      refine J.seq ?_
      refine J.meet [(13, .bool (r && (decide (acc.length = 0) || decide (Go.Lib.compareBytes (cutL l last pos) (cutL l pos p') ≤ 0))))] [(148, _), (147, _), (146, _), (145, _), (140, _), (144, _), (143, _), (142, _), (141, _), (139, _), (15, _), (138, _), (137, _), (136, _), (135, _), (134, _), (133, _), (132, _), (131, _), (130, _), (129, _), (0, _), (2, _), (6, _), (8, _), (10, _), (12, _), (14, _)] ⟨rfl, rfl, rfl, rfl, rfl, rfl, rfl, rfl, rfl, rfl, rfl, rfl, rfl, rfl, rfl, rfl, rfl, rfl, rfl, rfl, rfl, rfl, rfl, rfl, rfl, rfl, rfl, rfl, trivial⟩ ?_ ?_
      ·
       refine J.drawn mixed_ (by kernel_rfl) ?_
       refine Rq 2 rfl ?_
       refine Bq 150 rfl (fun hc24 => ?_) fun hc24 => ?_
       ·
        refine Rq 1 rfl ?_
        refine JQ.opg rfl rfl  (RunV.own1 ag_22 rfl mm_ rfl) rfl ?_
        refine Rq 3 rfl ?_
        refine Bq 155 rfl (fun hc25 => ?_) fun hc25 => ?_
        ·
         refine Rq 22 rfl ?_
         refine JQ.nil ?_
         refine ⟨rfl, rfl, ?_⟩
         exact z12_
        refine Rq 3 rfl ?_
        refine JQ.opg rfl rfl  (RunV.own1 ag_24 rfl mm_ rfl) rfl ?_
        refine Rq 2 rfl ?_
        refine JQ.opeg rfl rfl  (RunE.cut_lh (m := last) (m' := pos) sl_24 rfl rfl rfl rfl rfl (by assumption) rfl (by omega) (by omega)) rfl ?_
        rintro _ ⟨as1, cs1, rfl, hSs1⟩
        refine Rq 3 rfl ?_
        refine JQ.opg rfl rfl  (RunV.own1 ag_24 rfl mm_ rfl) rfl ?_
        refine Rq 4 rfl ?_
        refine JQ.opg rfl rfl  (RunV.own1 ag_3 rfl mm_ rfl) rfl ?_
        refine JQ.opeg rfl rfl  (RunE.cut_lh (m := pos) (m' := p') sl_24 rfl rfl rfl rfl rfl (by assumption) rfl (by omega) (by omega)) rfl ?_
        rintro _ ⟨as2, cs2, rfl, hSs2⟩
        refine JQ.callPg rfl rfl  ca_19 rfl (bcompare_fn (by assumption) (by assumption)) rfl ?_
        refine Rq 4 rfl ?_
        refine JQ.nil ?_
        refine ⟨rfl, rfl, ?_⟩
        exact z12_
       refine Rq 27 rfl ?_
       refine JQ.nil ?_
       refine ⟨rfl, rfl, ?_⟩
       exact z12_
      refine Rg ?_
      refine Ru 2 rfl ?_
      refine JL.ents [.blk br _ _, .blk b6 _ _, .row _ _ _ _ _ _, .blk b2 _ _, .blk b1 _ _] pt_ ?_
      refine JL.nil ?_
      refine ⟨_, ?_, _, ?_, ⟨_, f', p', pos, acc ++ [x], _, _, _, _, rfl, rfl, rfl, rfl, ⟨by assumption, by assumption, by assumption, by assumption, by omega, by omega, by omega, by simp; omega, by rw [hK, rdK_ok (by omega) hxs]⟩⟩⟩
      ·
       omega
      exact z5_
     unfold One
     refine JL.call_ ca_24 rfl (ih l pos (zq + zn) br ab cb _ (by assumption) (by assumption) hll (by omega) (by omega)) pt_ rfl (fun _ _ hh => (NodeR.out hh).elim) (fun ch29 h29 Lo29 hle29 hR29 => ?_) (fun v29 h29 Lo29 hle29 hR29 => ?_)
     ·
      have hR29 := NodeR.pan hR29
      obtain ⟨xa, xc, hxe, rfl⟩ := hR29; have hN : rdN (d + 1) l p en = .error (xa, xc) := (by rw [rdN_cons hH, hK, rdK_err (by omega) hxe]); exact ⟨[], _, .nil, by rw [hN]; exact ⟨rfl, rfl⟩⟩
     obtain ⟨x, p', xcs, hxs, rfl, hNdx, rfl⟩ := NodeR.ret hR29
     replace hhg := hhg.mono hle29
     replace hC := hC.mono hle29
     replace hl := hl.mono hle29
     replace hT := hT.mono hle29
     have hxl := rdN_le d l pos (zq + zn) x p' hxs; have hal : ((acc ++ [x]).length : Int) = (acc.length : Int) + 1 := by simp
     refine JL.nil ⟨(br_ h00), ?_⟩
     refine JH.all2 1 7 (by kernel_rfl) rfl rfl ?_ ?_
     ·
      unfold One
      refine JL.op (RunV.own1 ag_22 rfl mm_ rfl) rfl ?_
      refine JL.nil ⟨(br_ h00), ?_⟩
      refine Ta 7 rfl ?_
      unfold One
      refine JL.litA ap_22 rfl z8_ rfl rfl (fun b30 => ?_)
      refine JL.nil ⟨(br_ h00), ?_⟩
      refine Ta 8 rfl ?_
      unfold One
      refine JL.append1 ap_22 rfl rfl (by assumption) rfl dl_ dl_ z8_ (hNdx) z3_ rfl rfl (fun a31 c31 xs31 hC31 hN31 => ?_)
      refine JL.nil ⟨(br_ h00), ?_⟩
      refine Tk 9 rfl (by first | exact RunV.fieldAt0 fo_26_4 rfl | exact RunV.fieldAt fo_26_4 rfl) ?_
      refine Ta 10 rfl ?_
      unfold One
      refine JL.store1 ag_22 rfl rfl rfl dl_ z28_ ?_
      refine JL.nil ⟨(br_ h00), ?_⟩
      refine JH.done (by kernel_rfl) ?_
      refine J.seq ?_
      refine J.meet [(13, .bool (r && (decide (acc.length = 0) || decide (Go.Lib.compareBytes (cutL l last pos) (cutL l pos p') ≤ 0))))] [(148, _), (147, _), (146, _), (140, _), (145, _), (144, _), (143, _), (142, _), (141, _), (139, _), (15, _), (138, _), (137, _), (136, _), (135, _), (134, _), (133, _), (132, _), (131, _), (130, _), (129, _), (0, _), (2, _), (6, _), (8, _), (10, _), (12, _), (14, _)] ⟨rfl, rfl, rfl, rfl, rfl, rfl, rfl, rfl, rfl, rfl, rfl, rfl, rfl, rfl, rfl, rfl, rfl, rfl, rfl, rfl, rfl, rfl, rfl, rfl, rfl, rfl, rfl, rfl, trivial⟩ ?_ ?_
      ·
       refine J.drawn mixed_ (by kernel_rfl) ?_
       refine Rq 2 rfl ?_
       refine Bq 150 rfl (fun hc32 => ?_) fun hc32 => ?_
       ·
        refine Rq 1 rfl ?_
        refine JQ.opg rfl rfl  (RunV.own1 ag_22 rfl mm_ rfl) rfl ?_
        refine Rq 3 rfl ?_
        refine Bq 155 rfl (fun hc33 => ?_) fun hc33 => ?_
        ·
         refine Rq 22 rfl ?_
         refine JQ.nil ?_
         refine ⟨rfl, rfl, ?_⟩
         exact z12_
        refine Rq 3 rfl ?_
        refine JQ.opg rfl rfl  (RunV.own1 ag_24 rfl mm_ rfl) rfl ?_
        refine Rq 2 rfl ?_
        refine JQ.opeg rfl rfl  (RunE.cut_lh (m := last) (m' := pos) sl_24 rfl rfl rfl rfl rfl (by assumption) rfl (by omega) (by omega)) rfl ?_
        rintro _ ⟨as1, cs1, rfl, hSs1⟩
        refine Rq 3 rfl ?_
        refine JQ.opg rfl rfl  (RunV.own1 ag_24 rfl mm_ rfl) rfl ?_
        refine Rq 4 rfl ?_
        refine JQ.opg rfl rfl  (RunV.own1 ag_3 rfl mm_ rfl) rfl ?_
        refine JQ.opeg rfl rfl  (RunE.cut_lh (m := pos) (m' := p') sl_24 rfl rfl rfl rfl rfl (by assumption) rfl (by omega) (by omega)) rfl ?_
        rintro _ ⟨as2, cs2, rfl, hSs2⟩
        refine JQ.callPg rfl rfl  ca_19 rfl (bcompare_fn (by assumption) (by assumption)) rfl ?_
        refine Rq 4 rfl ?_
        refine JQ.nil ?_
        refine ⟨rfl, rfl, ?_⟩
        exact z12_
       refine Rq 27 rfl ?_
       refine JQ.nil ?_
       refine ⟨rfl, rfl, ?_⟩
       exact z12_
      refine Rg ?_
      refine Ru 2 rfl ?_
      refine JL.ents [.blk br _ _, .blk b6 _ _, .row _ _ _ _ _ _, .blk b2 _ _, .blk b1 _ _] pt_ ?_
      refine JL.nil ?_
      refine ⟨_, ?_, _, ?_, ⟨_, f', p', pos, acc ++ [x], _, _, _, _, rfl, rfl, rfl, rfl, ⟨by assumption, by assumption, by assumption, by assumption, by omega, by omega, by omega, by simp; omega, by rw [hK, rdK_ok (by omega) hxs]⟩⟩⟩
      ·
       omega
      exact z5_
     unfold One
     refine JL.litA ap_22 rfl z8_ rfl rfl (fun b37 => ?_)
     refine JL.nil ⟨(br_ h00), ?_⟩
     refine Ta 1 rfl ?_
     unfold One
     refine JL.op (RunV.own1 ag_22 rfl mm_ rfl) rfl ?_
     refine JL.nil ⟨(br_ h00), ?_⟩
     refine Ta 8 rfl ?_
     unfold One
     refine JL.append1 ap_22 rfl rfl (by assumption) rfl dl_ dl_ z8_ (hNdx) z3_ rfl rfl (fun a38 c38 xs38 hC38 hN38 => ?_)
     refine JL.nil ⟨(br_ h00), ?_⟩
     refine Tk 9 rfl (by first | exact RunV.fieldAt0 fo_26_4 rfl | exact RunV.fieldAt fo_26_4 rfl) ?_
     refine Ta 10 rfl ?_
     unfold One
     refine JL.store1 ag_22 rfl rfl rfl dl_ z28_ ?_
     refine JL.nil ⟨(br_ h00), ?_⟩
     refine JH.done (by kernel_rfl) ?_
     refine J.seq ?_
     refine J.meet [(13, .bool (r && (decide (acc.length = 0) || decide (Go.Lib.compareBytes (cutL l last pos) (cutL l pos p') ≤ 0))))] [(148, _), (147, _), (140, _), (146, _), (145, _), (144, _), (143, _), (142, _), (141, _), (139, _), (15, _), (138, _), (137, _), (136, _), (135, _), (134, _), (133, _), (132, _), (131, _), (130, _), (129, _), (0, _), (2, _), (6, _), (8, _), (10, _), (12, _), (14, _)] ⟨rfl, rfl, rfl, rfl, rfl, rfl, rfl, rfl, rfl, rfl, rfl, rfl, rfl, rfl, rfl, rfl, rfl, rfl, rfl, rfl, rfl, rfl, rfl, rfl, rfl, rfl, rfl, rfl, trivial⟩ ?_ ?_
     ·
      refine J.drawn mixed_ (by kernel_rfl) ?_
      refine Rq 2 rfl ?_
      refine Bq 150 rfl (fun hc39 => ?_) fun hc39 => ?_
      ·
       refine Rq 1 rfl ?_
       refine JQ.opg rfl rfl  (RunV.own1 ag_22 rfl mm_ rfl) rfl ?_
       refine Rq 3 rfl ?_
       refine Bq 155 rfl (fun hc40 => ?_) fun hc40 => ?_
       ·
        refine Rq 22 rfl ?_
        refine JQ.nil ?_
        refine ⟨rfl, rfl, ?_⟩
        exact z12_
       refine Rq 3 rfl ?_
       refine JQ.opg rfl rfl  (RunV.own1 ag_24 rfl mm_ rfl) rfl ?_
       refine Rq 2 rfl ?_
       refine JQ.opeg rfl rfl  (RunE.cut_lh (m := last) (m' := pos) sl_24 rfl rfl rfl rfl rfl (by assumption) rfl (by omega) (by omega)) rfl ?_
       rintro _ ⟨as1, cs1, rfl, hSs1⟩
       refine Rq 3 rfl ?_
       refine JQ.opg rfl rfl  (RunV.own1 ag_24 rfl mm_ rfl) rfl ?_
       refine Rq 4 rfl ?_
       refine JQ.opg rfl rfl  (RunV.own1 ag_3 rfl mm_ rfl) rfl ?_
       refine JQ.opeg rfl rfl  (RunE.cut_lh (m := pos) (m' := p') sl_24 rfl rfl rfl rfl rfl (by assumption) rfl (by omega) (by omega)) rfl ?_
       rintro _ ⟨as2, cs2, rfl, hSs2⟩
       refine JQ.callPg rfl rfl  ca_19 rfl (bcompare_fn (by assumption) (by assumption)) rfl ?_
       refine Rq 4 rfl ?_
       refine JQ.nil ?_
       refine ⟨rfl, rfl, ?_⟩
       exact z12_
      refine Rq 27 rfl ?_
      refine JQ.nil ?_
      refine ⟨rfl, rfl, ?_⟩
      exact z12_
     refine Rg ?_
     refine Ru 2 rfl ?_
     refine JL.ents [.blk br _ _, .blk b6 _ _, .row _ _ _ _ _ _, .blk b2 _ _, .blk b1 _ _] pt_ ?_
     refine JL.nil ?_
     refine ⟨_, ?_, _, ?_, ⟨_, f', p', pos, acc ++ [x], _, _, _, _, rfl, rfl, rfl, rfl, ⟨by assumption, by assumption, by assumption, by assumption, by omega, by omega, by omega, by simp; omega, by rw [hK, rdK_ok (by omega) hxs]⟩⟩⟩
     ·
      omega
     exact z5_
    refine J.exit ?_
    refine Kp [6, 8, 10, 13] rfl ?_
    refine Sr ?_
    refine Ru 3 rfl ?_
    refine Bs 180 rfl (fun hc44 => ?_) fun hc44 => ?_
    ·
     refine Ru 9 rfl ?_
     refine JL.fail ca_35 rfl rfl (nfail_fn) dl_ rfl (fun hc45 => by cases hc45) (fun hc45 h45 hle45 => ?_)
     replace hhg := hhg.mono hle45
     replace hC := hC.mono hle45
     replace hl := hl.mono hle45
     replace hT := hT.mono hle45
     refine Nk [6, 10] rfl ?_
     refine Sr ?_
     refine JL.pub (R := NdR) (l := acc) dl_ (by assumption) rfl (by omega) (fun h9 hle9 hS9 => ?_)
     refine JL.op (RunV.ownA ag_26 rfl mm_ z8_) rfl ?_
     refine JL.storeA ag_26 rfl rfl dl_ z20_ z17_ z8_ ?_
     refine JL.nil ?_
     have hN : rdN (d + 1) l p en = .ok (.mk c t true [] acc, pos) := (by rw [rdN_cons hH, hK, rdK_stop (by omega)]; simp only; rw [if_pos (by simp_all <;> omega)]); exact J.ret ⟨_, [.blk br _ _], _, (RetV.cell rfl rfl ag_26 mm_ z8_), .cons dl_ .nil, by rw [hN]; exact ⟨⟨_, rfl, NdR.of SlR.nil_ hS9⟩, rfl⟩⟩
    refine Ru 1 rfl ?_
    refine JL.opg rfl rfl  (RunV.own1 ag_3 rfl mm_ rfl) rfl ?_
    refine Ru 3 rfl ?_
    refine Bs 185 rfl (fun hc46 => ?_) fun hc46 => ?_
    ·
     refine Ru 4 rfl ?_
     refine JL.fail ca_35 rfl rfl (nfail_fn) dl_ rfl (fun hc47 => by cases hc47) (fun hc47 h47 hle47 => ?_)
     replace hhg := hhg.mono hle47
     replace hC := hC.mono hle47
     replace hl := hl.mono hle47
     replace hT := hT.mono hle47
     refine Nk [6, 10] rfl ?_
     refine Sr ?_
     refine JL.pub (R := NdR) (l := acc) dl_ (by assumption) rfl (by omega) (fun h9 hle9 hS9 => ?_)
     refine JL.op (RunV.ownA ag_26 rfl mm_ z8_) rfl ?_
     refine JL.storeA ag_26 rfl rfl dl_ z20_ z17_ z8_ ?_
     refine JL.nil ?_
     have hN : rdN (d + 1) l p en = .ok (.mk c t true [] acc, pos) := (by rw [rdN_cons hH, hK, rdK_stop (by omega)]; simp only; rw [if_pos (by simp_all <;> omega)]); exact J.ret ⟨_, [.blk br _ _], _, (RetV.cell rfl rfl ag_26 mm_ z8_), .cons dl_ .nil, by rw [hN]; exact ⟨⟨_, rfl, NdR.of SlR.nil_ hS9⟩, rfl⟩⟩
    refine Ru 1 rfl ?_
    refine JL.opg rfl rfl  (RunV.own1 ag_3 rfl mm_ rfl) rfl ?_
    refine Ru 2 rfl ?_
    refine JL.fail ca_35 rfl rfl (nfail_fn) dl_ rfl (fun hc48 h48 hle48 => ?_) (fun hc48 h48 hle48 => ?_)
    ·
     try simp only [decide_eq_true_eq, decide_eq_false_iff_not, Bool.not_eq_eq_eq_not, Bool.not_true, Bool.not_false, ne_eq, Decidable.not_not] at hc48
     have hN : rdN (d + 1) l p en = .error (p, 34) := (by rw [rdN_cons hH, hK, rdK_stop (by omega)]; simp only; rw [if_neg (by simp_all <;> omega)]); exact ⟨[], _, .nil, by rw [hN]; exact ⟨rfl, rfl⟩⟩
    try simp only [decide_eq_true_eq, decide_eq_false_iff_not, Bool.not_eq_eq_eq_not, Bool.not_true, Bool.not_false, ne_eq, Decidable.not_not] at hc48
    replace hhg := hhg.mono hle48
    replace hC := hC.mono hle48
    replace hl := hl.mono hle48
    replace hT := hT.mono hle48
    refine Nk [6, 10] rfl ?_
    refine Sr ?_
    refine JL.pub (R := NdR) (l := acc) dl_ (by assumption) rfl (by omega) (fun h9 hle9 hS9 => ?_)
    refine JL.op (RunV.ownA ag_26 rfl mm_ z8_) rfl ?_
    refine JL.storeA ag_26 rfl rfl dl_ z20_ z17_ z8_ ?_
    refine JL.nil ?_
    have hN : rdN (d + 1) l p en = .ok (.mk c t true [] acc, pos) := (by rw [rdN_cons hH, hK, rdK_stop (by omega)]; simp only; rw [if_pos (by simp_all <;> omega)]); exact J.ret ⟨_, [.blk br _ _], _, (RetV.cell rfl rfl ag_26 mm_ z8_), .cons dl_ .nil, by rw [hN]; exact ⟨⟨_, rfl, NdR.of SlR.nil_ hS9⟩, rfl⟩⟩
end Go.Proofs.YtldbjnhfkjicjaaDoor
namespace Go.Proofs.YtldbjnhfkjicjaaDoor
open Go Go.RowKit
theorem foldl_be (l : List UInt8) (a : Nat) : l.foldl (fun a b => a * 256 + b.toNat) a = a * 256 ^ l.length + beval l := by
  unfold beval
  induction l generalizing a with
  | nil => simp
  | cons x r ih =>
    simp only [List.foldl_cons, List.length_cons, Nat.zero_mul, Nat.zero_add]
    rw [ih (a * 256 + x.toNat), ih x.toNat, Nat.pow_succ, Nat.add_mul]
    have : a * 256 * 256 ^ r.length = a * (256 ^ r.length * 256) := by rw [Nat.mul_assoc, Nat.mul_comm 256]
    omega
theorem beval_cons (x : UInt8) (r : List UInt8) : beval (x :: r) = x.toNat * 256 ^ r.length + beval r := by
  have := foldl_be r x.toNat
  unfold beval at *
  simpa using this
theorem beval_be (k n : Nat) : beval (be k n) = n % 256 ^ k := by
  induction k with
  | zero => simp [be, beval, Nat.mod_one]
  | succ k ih =>
    rw [be, beval_cons, ih, be_len, Nat.mod_pow_succ]
    simp only [UInt8.toNat_ofNat', show (2 : Nat) ^ 8 = 256 from rfl]
    rw [Nat.mul_comm]; omega
theorem nby_4 (n : Nat) (h : n < 4294967296) : nby n ≤ 4 ∧ n < 256 ^ nby n ∧ (128 ≤ n → 0 < n / 256 ^ (nby n - 1)) := by
  unfold nby
  (repeat' split) <;> refine ⟨by omega, by simp; omega, fun hh => ?_⟩ <;> first | omega | (simp; omega)
theorem pre_drop {a b l : List UInt8} {p : Nat} (h : a ++ b <+: l.drop p) : a <+: l.drop p ∧ b <+: l.drop (p + a.length) := by
  obtain ⟨t, ht⟩ := h
  refine ⟨⟨b ++ t, by rw [← ht, List.append_assoc]⟩, ⟨t, ?_⟩⟩
  rw [← List.drop_drop, ← ht, List.append_assoc, List.drop_left]
theorem pre_len {b l : List UInt8} {p : Nat} (h : b <+: l.drop p) : b = [] ∨ p + b.length ≤ l.length := by
  have := h.length_le
  rw [List.length_drop] at this
  cases b with
  | nil => exact .inl rfl
  | cons x r => simp only [List.length_cons] at *; exact .inr (by omega)
theorem pre_byte {x : UInt8} {r l : List UInt8} {p : Nat} (h : x :: r <+: l.drop p) : byteAt l p = x.toNat ∧ p < l.length ∧ r <+: l.drop (p + 1) := by
  have h2 := (pre_drop (a := [x]) (b := r) h).2
  have hl := pre_len h
  simp only [List.length_cons, reduceCtorEq, false_or] at hl
  refine ⟨?_, by omega, h2⟩
  obtain ⟨t, ht⟩ := h
  have : l[p]? = some x := by
    have := congrArg (·[0]?) ht
    simp only [List.cons_append, List.getElem?_cons_zero, List.getElem?_drop, Nat.add_zero] at this
    exact this.symm
  simp [byteAt, List.getD, this]
theorem pre_cut {b l : List UInt8} {p : Nat} (h : b <+: l.drop p) : cutL l p (p + b.length) = b := by
  unfold cutL
  rw [show p + b.length - p = b.length by omega]
  exact (List.prefix_iff_eq_take.1 h).symm
theorem lenB_len (n : Nat) : 1 ≤ (lenB n).length := by unfold lenB; split <;> simp
theorem rdS_lenB {n p e : Nat} {l : List UInt8} (h : lenB n <+: l.drop p) (he : p + (lenB n).length ≤ e) (hn : n < 4294967296) : rdS l p e = .ok (n, p + (lenB n).length) := by
  have hl1 := lenB_len n
  unfold lenB at *
  split at h
  · rename_i h1
    rw [if_pos h1] at *
    obtain ⟨hb, hp, _⟩ := pre_byte h
    have e1 : (UInt8.ofNat n).toNat = n := by simp; omega
    rw [e1] at hb
    unfold rdS
    rw [if_neg (by simp at he; omega), if_pos (by omega), hb]
    rfl
  · rename_i h1
    rw [if_neg h1] at *
    obtain ⟨h4, hlt, h0⟩ := nby_4 n hn
    have hb6 := nby_bd n
    obtain ⟨hb, hp, hr⟩ := pre_byte h
    have e1 : (UInt8.ofNat (128 + nby n)).toNat = 128 + nby n := by simp; omega
    rw [e1] at hb
    simp only [List.length_cons, be_len] at he ⊢
    have ht : (l.drop (p + 1)).take (byteAt l p - 128) = be (nby n) n := by
      have := List.prefix_iff_eq_take.1 hr
      rw [be_len] at this
      rw [hb, show 128 + nby n - 128 = nby n by omega, ← this]
    have hv : beval (be (nby n) n) = n := by rw [beval_be, Nat.mod_eq_of_lt hlt]
    unfold rdS
    rw [if_neg (by omega), if_neg (by omega), if_neg (by omega), if_neg (by omega), ht, hv, if_neg (by rw [hb, show 128 + nby n - 128 - 1 = nby n - 1 by omega]; have := h0 (by omega); omega)]
    rw [hb, show p + 1 + (128 + nby n - 128) = p + (nby n + 1) by omega]
theorem tag_byte {c t : Int} {k : Bool} (hc : c = 0 ∨ c = 2) (ht : 0 ≤ t ∧ t ≤ 30) : (UInt8.ofNat (tagN c t k)).toNat / 64 = c.toNat ∧ (UInt8.ofNat (tagN c t k)).toNat % 32 = t.toNat ∧ decide ((UInt8.ofNat (tagN c t k)).toNat / 32 % 2 = 1) = k := by
  have h : (UInt8.ofNat (tagN c t k)).toNat = tagN c t k := by
    simp only [UInt8.toNat_ofNat']
    unfold tagN
    cases k <;> simp <;> omega
  rw [h]
  unfold tagN
  cases k <;> simp <;> omega
theorem mayB_bd {c t : Int} {k : Bool} (h : mayB c t k = true) : (c = 0 ∨ c = 2) ∧ 0 ≤ t ∧ t ≤ 30 := by
  unfold mayB at h
  simp only [Bool.and_eq_true, Bool.or_eq_true, decide_eq_true_eq] at h
  omega
theorem rdH_headB {c t : Int} {k : Bool} {n p e : Nat} {l : List UInt8} (hm : mayB c t k = true) (h : headB c t k n <+: l.drop p) (he : p + (headB c t k n).length + n ≤ e) (hn : n < 4294967296) :
    rdH l p e true = .ok (c.toNat, t.toNat, k, n, p + (headB c t k n).length) := by
  obtain ⟨hc, ht⟩ := mayB_bd hm
  obtain ⟨hb, hp, hr⟩ := pre_byte h
  obtain ⟨e1, e2, e3⟩ := tag_byte (k := k) hc ht
  have ec : ((c.toNat : Nat) : Int) = c := Int.toNat_of_nonneg (by omega)
  have et : ((t.toNat : Nat) : Int) = t := Int.toNat_of_nonneg (by omega)
  have hlen : (headB c t k n).length = (lenB n).length + 1 := rfl
  have hS := rdS_lenB (e := e) hr (by omega) hn
  unfold rdH
  rw [hb, e1, e2, e3, ec, et, if_neg (by omega), if_neg (by rw [hm]; decide), hS]
  simp only
  rw [if_neg (by omega), if_neg (by decide), hlen]
  congr 5
  omega
theorem Nd.putL_pre {set : Bool} {ks : List Nd} {last : Option (List UInt8)} {acc B : List UInt8} (h : Nd.putL set ks last acc = some B) : ∃ r, B = acc ++ r := by
  induction ks generalizing last acc with
  | nil => simp only [Nd.putL, Option.some.injEq] at h; exact ⟨[], by simp [h]⟩
  | cons x r ih =>
    simp only [Nd.putL] at h
    split at h
    · cases h
    · split at h
      · cases h
      · obtain ⟨r', hr⟩ := ih h
        exact ⟨_, by rw [hr, List.append_assoc]⟩
theorem okN_parts {c t : Int} {k : Bool} {bs : List UInt8} {ks : List Nd} (h : okN c t k bs ks = true) : mayB c t k = true ∧ (k = true → bs = []) ∧ (k = false → ks = [] ∧ (decide (c = 2) || valB t bs) = true) := by
  unfold okN at h
  simp only [Bool.and_eq_true, Bool.not_eq_eq_eq_not, Bool.not_true] at h
  obtain ⟨h1, h2, h3, h4⟩ := h
  have hc := (mayB_bd h1).1
  refine ⟨h1, fun hk => ?_, fun hk => ?_⟩
  · subst hk
    exact List.eq_nil_of_length_eq_zero (by simpa using h2)
  · subst hk
    refine ⟨List.eq_nil_of_length_eq_zero (by simpa using h3), ?_⟩
    rcases hc with hc | hc
    · subst hc; simpa using h4
    · simp [hc]
theorem rdN_put : ∀ (d : Nat) (x : Nd) (b l : List UInt8) (p e : Nat), x.put = some b → x.rk ≤ d → b.length < 4294967296 → b <+: l.drop p → p + b.length ≤ e → rdN d l p e = .ok (x, p + b.length) := by
  intro d
  induction d with
  | zero => intro x b l p e _ hr; cases x; simp [Nd.rk] at hr
  | succ d ih =>
    intro x b l p e hb hr hl hpre he
    cases x with
    | mk c t k bs ks =>
    simp only [Nd.put] at hb
    split at hb
    · rename_i hok
      cases hin : Nd.putL (decide (c = 0) && decide (t = 17)) ks none bs with
      | none => simp [hin] at hb
      | some inb =>
        simp only [hin, Option.map_some, Option.some.injEq] at hb
        subst hb
        simp only [Nd.rk] at hr
        obtain ⟨hm, hk1, hk2⟩ := okN_parts hok
        obtain ⟨hcc, htt⟩ := mayB_bd hm
        have ec : ((c.toNat : Nat) : Int) = c := Int.toNat_of_nonneg (by omega)
        have et : ((t.toNat : Nat) : Int) = t := Int.toNat_of_nonneg (by omega)
        rw [List.length_append] at hl he ⊢
        obtain ⟨hp1, hp2⟩ := pre_drop hpre
        have hH := rdH_headB (e := e) hm hp1 (by omega) (by omega)
        cases k with
        | false =>
          obtain ⟨hks, hv⟩ := hk2 rfl
          subst hks
          simp only [Nd.putL, Option.some.injEq] at hin
          subst hin
          rw [rdN_prim hH, pre_cut hp2, ec, et, if_pos (by rw [show (decide (c.toNat = 2)) = decide (c = 2) from decide_eq_decide.2 (by omega)]; exact hv)]
          congr 2
          omega
        | true =>
          have hbs := hk1 rfl
          subst hbs
          have key : ∀ (r : List Nd) (f q last : Nat) (acc : List Nd) (rr : Bool) (lo : Option (List UInt8)) (ab rb : List UInt8), Nd.rkL r ≤ d → Nd.putL (decide (c = 0) && decide (t = 17)) r lo ab = some (ab ++ rb) → rb <+: l.drop q → rb.length < 4294967296 → rb.length ≤ f →
              (∀ z, lo = some z → cutL l last q = z ∧ acc ≠ []) → (lo = none → acc = []) → ((decide (c = 0) && decide (t = 17)) = true → rr = true) →
              ∃ r', rdK (rdN d l) l (q + rb.length) f q acc rr last = .ok (acc ++ r, r', q + rb.length) ∧ ((decide (c = 0) && decide (t = 17)) = true → r' = true) := by
            intro r
            induction r with
            | nil =>
              intro f q last acc rr lo ab rb _ h1 _ _ _ _ _ h6
              simp only [Nd.putL, Option.some.injEq] at h1
              have : rb = [] := by simpa using h1
              subst this
              refine ⟨rr, ?_, h6⟩
              rw [rdK_stop (by simp)]
              simp
            | cons y r ihr =>
              intro f q last acc rr lo ab rb h0 h1 h2 h3 h4 h5 h5' h6
              simp only [Nd.rkL] at h0
              simp only [Nd.putL] at h1
              split at h1
              · cases h1
              · rename_i yb hyb
                split at h1
                · cases h1
                · rename_i hab
                  obtain ⟨rb', hrb⟩ := Nd.putL_pre h1
                  have hrb2 : rb = yb ++ rb' := by rw [List.append_assoc] at hrb; exact List.append_cancel_left hrb
                  subst hrb2
                  rw [List.length_append] at h3 h4 ⊢
                  have hyl := (Nd.put_len _ y yb (Nat.le_refl _) hyb).1
                  obtain ⟨g1, g2⟩ := pre_drop h2
                  obtain ⟨f', rfl⟩ : ∃ f', f = f' + 1 := ⟨f - 1, by omega⟩
                  have hy := ih y yb l q (q + (yb.length + rb'.length)) hyb (by omega) (by omega) g1 (by omega)
                  have hcy : cutL l q (q + yb.length) = yb := pre_cut g1
                  rw [rdK_ok (by omega) hy]
                  rw [← List.append_assoc] at h1
                  obtain ⟨r', k1, k2⟩ := ihr f' (q + yb.length) q (acc ++ [y]) (rr && (decide (acc.length = 0) || decide (Go.Lib.compareBytes (cutL l last q) (cutL l q (q + yb.length)) ≤ 0))) (some yb) (ab ++ yb) rb' (by omega) h1 g2 (by omega) (by omega)
                    (fun z hz => by cases hz; exact ⟨hcy, by simp⟩) (fun hz => by cases hz) (fun hs => by
                      rw [h6 hs, Bool.true_and, hcy]
                      cases lo with
                      | none => rw [h5' rfl]; rfl
                      | some z =>
                        obtain ⟨hz1, hz2⟩ := h5 z rfl
                        rw [hz1]
                        rw [hs, Bool.true_and] at hab
                        simp only [aboveB, decide_eq_true_eq] at hab
                        rw [decide_eq_true (show Go.Lib.compareBytes z yb ≤ 0 by omega), Bool.or_true])
                  refine ⟨r', ?_, k2⟩
                  rw [Nat.add_assoc] at k1
                  rw [k1, List.append_assoc]
                  rfl
          obtain ⟨r', k1, k2⟩ := key ks inb.length (p + (headB c t true inb.length).length) (p + (headB c t true inb.length).length) [] true none [] inb (by omega) (by simpa using hin) hp2 (by omega) (Nat.le_refl _) (fun z hz => by cases hz) (fun _ => rfl) (fun _ => rfl)
          rw [rdN_cons hH, k1]
          simp only [List.nil_append]
          rw [if_pos, ec, et]
          · congr 2
            omega
          · by_cases hs : (decide (c = 0) && decide (t = 17)) = true
            · rw [k2 hs]; rfl
            · simp only [Bool.and_eq_true, decide_eq_true_eq, not_and] at hs
              by_cases hc0 : c = 0
              · rw [decide_eq_true (show t.toNat ≠ 17 by have := hs hc0; omega)]; simp
              · rw [decide_eq_true (show c.toNat ≠ 0 by omega)]; simp
    · cases hb
def ndZ : Nd := .mk 0 0 false [] []
def rdTop (l : List UInt8) : Nd × Int × Int :=
  if 16777216 < l.length then (ndZ, 0, 2) else match rdN 32 l 0 l.length with
    | .error (a, c) => (ndZ, a, c)
    | .ok (x, q) => if q < l.length then (ndZ, q, 35) else (x, 0, 0)
end Go.Proofs.YtldbjnhfkjicjaaDoor
namespace Go.Proofs.YtldbjnhfkjicjaaDoor
open Go Go.RowKit
section
variable {f : Fr} {n : Post} {x : Nat → Post} {S : Sig} {h h0 : Part} {L L0 : List Ent} {ops : Array Oper} {fuel d : Nat} {listed : Array Bool}
variable {q : Op} {ty : TypeId} {pos : String} {af : Array Edge} {v : Value} {j dj : Nat} {b : Bool}
theorem JH.put_ (hp : ∀ c S h L, f.p c S h L → f.p c [] h L) {c : _} (a : Act) (w : World) (hq : f.Q n x (.panic c) (a.put (some d) v) w) : f.Q n x (.panic c) a w := by
  obtain ⟨S', h', L', s', k'⟩ := hq
  refine ⟨[], h', L', ⟨?_, fun s v hv => by simp [look] at hv, ?_, s'.ok⟩, hp _ _ _ _ k'⟩
  · have := s'.size; simpa [Act.put] using this
  · have := s'.ds; simpa [Act.put] using this
theorem JH.takeG (i : Nat) (hi : ops[i]? = some ⟨some d, q, ty, pos, af, some (j, b)⟩) (hj : (ops[j]?).bind (·.dst) = some dj) (hsl : look S dj = some (.bool b)) (hs : Region.noSelect ops = true) (hf : Region.free .any ops listed i = true) (hr : (Region.ready .any ops listed).contains i = true)
    (hp : ∀ c S h L, f.p c S h L → f.p c [] h L) (hb : ∀ w, Ok f.e h L w → Ok f.e h0 L0 w) (r : RunV f S h0 L0 q ty v) (hd : Nat.blt d f.m = true) (k : JH f ops n x h0 L0 fuel (listed.setIfInBounds i true) ((d, v) :: S) h L) :
    JH f ops n x h0 L0 (fuel + 1) listed S h L := fun a w s => by
  refine wpAnyH_take (v := v) hi hs hf hr (fun c a w hq => JH.put_ hp a w hq) ?_ (hb w s.ok) (k _ w (s.put hd v s.ok))
  exact .inl ⟨by simp [Region.wanted, yielded_of s hj hsl], fun w' hw' => r a w' (s.with hw') _ _ _ _⟩
theorem JH.skip (i : Nat) (hi : ops[i]? = some ⟨some d, q, ty, pos, af, some (j, b)⟩) (hj : (ops[j]?).bind (·.dst) = some dj) (hsl : look S dj = some (.bool (!b))) (hs : Region.noSelect ops = true) (hf : Region.free .any ops listed i = true) (hr : (Region.ready .any ops listed).contains i = true)
    (hp : ∀ c S h L, f.p c S h L → f.p c [] h L) (hb : ∀ w, Ok f.e h L w → Ok f.e h0 L0 w) (hd : Nat.blt d f.m = true) (k : JH f ops n x h0 L0 fuel (listed.setIfInBounds i true) ((d, undef) :: S) h L) :
    JH f ops n x h0 L0 (fuel + 1) listed S h L := fun a w s => by
  refine wpAnyH_take (v := undef) hi hs hf hr (fun c a w hq => JH.put_ hp a w hq) ?_ (hb w s.ok) (k _ w (s.put hd undef s.ok))
  exact .inr ⟨by simp [Region.wanted, yielded_of s hj hsl], rfl⟩
theorem Bh (t : Nat) {c : Bool} {p r : Prop} (ht : look S t = some (.bool c)) [s : Sp c p r] (k1 : p → JH f ops n x h0 L0 fuel listed ((t, .bool true) :: S) h L) (k2 : r → JH f ops n x h0 L0 fuel listed ((t, .bool false) :: S) h L) : JH f ops n x h0 L0 fuel listed S h L := fun a w s2 => by
  cases hb : c with
  | true => exact k1 (s.t hb) a w (s2.bool ht hb)
  | false => exact k2 (s.f hb) a w (s2.bool ht hb)
end
end Go.Proofs.YtldbjnhfkjicjaaDoor
namespace Go.Proofs.YtldbjnhfkjicjaaDoor
open Go
section
variable {f : Fr} {n : Post} {x : Nat → Post} {S : Sig} {h h0 : Part} {L L0 : List Ent} {ops : Array Oper} {fuel d : Nat} {listed : Array Bool} {q : Op} {ty : TypeId} {pos : String} {af : Array Edge} {v : Value} {o : Oper} {j dj : Nat} {b : Bool}
theorem Tg (i : Nat) (hi : ops[i]? = some ⟨some d, q, ty, pos, af, some (j, b)⟩) (hj : (ops[j]?).bind (·.dst) = some dj) (hsl : look S dj = some (.bool b)) (r : RunV f S h0 L0 q ty v) (k : JH f ops n x h0 L0 fuel (listed.setIfInBounds i true) ((d, v) :: S) h L) (hb : ∀ w, Ok f.e h L w → Ok f.e h0 L0 w := by exact br_ (by assumption)) (hs : Region.noSelect ops = true := by kernel_rfl) (hf : Region.free .any ops listed i = true := by kernel_rfl) (hr : (Region.ready .any ops listed).contains i = true := by kernel_rfl) (hp : ∀ c S h L, f.p c S h L → f.p c [] h L := by exact fun _ _ _ _ hh => hh) (hd : Nat.blt d f.m = true := by rfl) : JH f ops n x h0 L0 (fuel + 1) listed S h L := JH.takeG i hi hj hsl hs hf hr hp hb r hd k
theorem Ts (i : Nat) (hi : ops[i]? = some ⟨some d, q, ty, pos, af, some (j, b)⟩) (hj : (ops[j]?).bind (·.dst) = some dj) (hsl : look S dj = some (.bool (!b))) (k : JH f ops n x h0 L0 fuel (listed.setIfInBounds i true) ((d, undef) :: S) h L) (hb : ∀ w, Ok f.e h L w → Ok f.e h0 L0 w := by exact br_ (by assumption)) (hs : Region.noSelect ops = true := by kernel_rfl) (hf : Region.free .any ops listed i = true := by kernel_rfl) (hr : (Region.ready .any ops listed).contains i = true := by kernel_rfl) (hp : ∀ c S h L, f.p c S h L → f.p c [] h L := by exact fun _ _ _ _ hh => hh) (hd : Nat.blt d f.m = true := by rfl) : JH f ops n x h0 L0 (fuel + 1) listed S h L := JH.skip i hi hj hsl hs hf hr hp hb hd k
end
end Go.Proofs.YtldbjnhfkjicjaaDoor
