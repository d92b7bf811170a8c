/- Walk: the reference's printable texts. -/
import Derived.Test.YtmngjbefnloljaaDoorTxr
set_option linter.unusedSimpArgs false
set_option linter.unusedVariables false
set_option linter.constructorNameAsVariable false
namespace Go.Proofs.YtmngjbefnloljaaDoor
open Go Go.RowKit


def prL : List UInt8 := [32, 39, 40, 41, 43, 44, 45, 46, 47, 58, 61, 63]
def prAl (b : Int) : Bool := (decide (65 ≤ b ∧ b ≤ 90) || decide (97 ≤ b ∧ b ≤ 122)) || decide (48 ≤ b ∧ b ≤ 57)
def prAny (b : Int) (l : List UInt8) : Bool := l.any fun x => decide (b = x.toNat)
theorem prC_eq (b : Nat) : prC b = (prAl b || prAny b prL) := by
  rw [Bool.eq_iff_iff]
  simp only [prC, prAl, prAny, prL, List.any_cons, List.any_nil, Bool.or_eq_true, decide_eq_true_eq, Bool.or_false, show ((32 : UInt8).toNat = 32) from rfl, show ((39 : UInt8).toNat = 39) from rfl, show ((40 : UInt8).toNat = 40) from rfl, show ((41 : UInt8).toNat = 41) from rfl, show ((43 : UInt8).toNat = 43) from rfl, show ((44 : UInt8).toNat = 44) from rfl, show ((45 : UInt8).toNat = 45) from rfl, show ((46 : UInt8).toNat = 46) from rfl, show ((47 : UInt8).toNat = 47) from rfl, show ((58 : UInt8).toNat = 58) from rfl, show ((61 : UInt8).toNat = 61) from rfl, show ((63 : UInt8).toNat = 63) from rfl]
  omega
theorem prAny_next (b : Int) (q : Nat) (h : q < prL.length) : prAny b (prL.take (q + 1)) = (prAny b (prL.take q) || decide (b = byteAt prL q)) := by
  unfold prAny
  rw [List.take_succ_eq_append_getElem h, List.any_append, List.any_cons, List.any_nil, Bool.or_false, byteAt_eq prL q h]
theorem prC_lt (c : Nat) (h : prC c = true) : c < 128 := by
  have := of_decide_eq_true h; omega
theorem rprint_fn (s : List UInt8) (h : Part) (hl : s.length ≤ 140737488355328) : Pure Tryd.prog 96 [.string ⟨s.toArray⟩] h (.bool (runes (fun c _ => prC c) s 0)) := by
  rw [runes_all prC_lt _ s (Nat.le_refl _)]
  have hpl : prL.length = 12 := rfl
  refine Fn.intro Tryd.func96 rfl Tryd.ntmps96 rfl (fun e he => ?_)
  refine J.weak [(0, _)] ⟨rfl, trivial⟩ ?_
  refine Sr ?_
  refine Ru 1 rfl ?_
  refine JL.nil ?_
  refine Sr ?_
  refine Ru 1 rfl ?_
  refine JL.nil ?_
  refine J.seq ?_
  refine Sr ?_
  refine Ru 1 rfl ?_
  refine JL.nil ?_
  refine J.block ?_
  refine J.loop (fun t_ S_ h_ L_ => ∃ (p : Nat), t_ = s.length - p ∧ S_ = [(0, .string ⟨s.toArray⟩), (3, .string ⟨prL.toArray⟩), (4, .int .i64 p)] ∧ h = h_ ∧ L_ = [] ∧ (p ≤ s.length ∧ (s.all fun b => prC b.toNat) = (s.drop p).all fun b => prC b.toNat)) ⟨_, _, ?_, ⟨0, rfl, rfl, rfl, rfl, ⟨by omega, rfl⟩⟩⟩ ?_
  ·
   repeat (first | exact trivial | refine ⟨rfl, ?_⟩)
  rintro _ _ _ _ ⟨p, rfl, rfl, rfl, rfl, hp, hq⟩
  refine J.seq ?_
  refine Sr ?_
  refine Ru 2 rfl ?_
  refine JL.op (RunV.lenS un_9 rfl) rfl ?_
  refine Ru 1 rfl ?_
  refine JL.nil ?_
  refine Cs rfl (fun hc1 => ?_) fun hc1 => ?_
  ·
   have hst := all_step prC s p (by omega); have hbp := byteAt_lt s p
   refine J.skip ?_
   refine J.seq ?_
   refine J.block ?_
   refine Sr ?_
   refine Ru 2 rfl ?_
   refine JL.op (RunV.strIndex (m := p) un_9 rfl rfl (by omega) (by omega)) rfl ?_
   refine JL.op (by first | exact RunV.convb_i64 cv_5_3 rfl | exact RunV.conv_i64 cv_5_3 rfl (by omega) (by omega) | exact RunV.conv cv_5_3 rfl) rfl ?_
   refine Ru 1 rfl ?_
   refine JL.nil ?_
   refine Sr ?_
   refine Ru 1 rfl ?_
   refine JL.callP ca_124 rfl (between_fn _ _ _ _) rfl ?_
   refine Ru 1 rfl ?_
   apply On 20 23 3 [5, 17, 16, 15, 14, 11, 10, 9, 8, 0, 3, 4] rfl rfl
   rotate_left
   ·
    intro hb3 hc3
    refine Ru 1 rfl ?_
    refine JL.callPg rfl rfl  ca_124 rfl (between_fn _ _ _ _) rfl ?_
    refine Ru 1 rfl ?_
    exact Ae (om_f hb3 rfl) rfl
   rotate_right
   ·
    exact fun hb3 _ => Ru 3 rfl (Ae (om_t hb3 rfl) rfl)
   refine Ru 1 rfl ?_
   apply On 24 27 3 [5, 17, 16, 15, 14, 11, 10, 9, 8, 0, 3, 4] rfl rfl
   rotate_left
   ·
    intro hb5 hc5
    refine Ru 1 rfl ?_
    refine JL.callPg rfl rfl  ca_124 rfl (between_fn _ _ _ _) rfl ?_
    refine Ru 1 rfl ?_
    exact Ae (om_f hb5 rfl) rfl
   rotate_right
   ·
    exact fun hb5 _ => Ru 3 rfl (Ae (om_t hb5 rfl) rfl)
   refine Ru 1 rfl ?_
   refine JL.nil ?_
   refine J.seq ?_
   refine Sr ?_
   refine Ru 1 rfl ?_
   refine JL.nil ?_
   refine J.block ?_
   refine J.loop (fun t_ S_ h_ L_ => ∃ (q : Nat) (v : Bool), t_ = prL.length - q ∧ S_ = [(0, .string ⟨s.toArray⟩), (3, .string ⟨prL.toArray⟩), (4, .int .i64 p), (6, .bool v), (7, .int .i64 q)] ∧ h = h_ ∧ L_ = [] ∧ (q ≤ prL.length ∧ v = (prAl (byteAt s p) || prAny (byteAt s p) (prL.take q)))) ⟨_, _, ?_, ⟨0, prAl (byteAt s p), rfl, rfl, rfl, rfl, ⟨by omega, by simp [prAny]⟩⟩⟩ ?_
   ·
    repeat (first | exact trivial | refine ⟨rfl, ?_⟩)
   rintro _ _ _ _ ⟨q, v, rfl, rfl, rfl, rfl, hq1, hv⟩
   refine J.seq ?_
   refine Sr ?_
   refine Ru 2 rfl ?_
   refine JL.op (RunV.lenS un_9 rfl) rfl ?_
   refine Ru 1 rfl ?_
   refine JL.nil ?_
   refine Cs rfl (fun hc7 => ?_) fun hc7 => ?_
   ·
    refine J.skip ?_
    refine J.seq ?_
    refine J.block ?_
    refine J.meet [(6, .bool (v || decide ((byteAt s p : Int) = byteAt prL q)))] [(31, _), (30, _), (29, _), (28, _), (0, _), (3, _), (4, _), (7, _)] ⟨rfl, rfl, rfl, rfl, rfl, rfl, rfl, rfl, trivial⟩ ?_ ?_
    ·
     refine J.drawn mixed_ (by kernel_rfl) ?_
     refine Rq 2 rfl ?_
     refine Bq 35 rfl (fun hc8 => ?_) fun hc8 => ?_
     ·
      refine Rq 9 rfl ?_
      refine JQ.nil ?_
      refine ⟨rfl, rfl, ?_⟩
      repeat (first | exact trivial | refine ⟨rfl, ?_⟩ | refine ⟨(by exact some_bool (by cases v <;> simp_all)), ?_⟩)
     ·
      refine Rq 2 rfl ?_
      refine JQ.opg rfl rfl  (RunV.strIndex (m := p) un_9 rfl rfl (by omega) (by omega)) rfl ?_
      refine Rq 2 rfl ?_
      refine JQ.opg rfl rfl  (RunV.strIndex (m := q) un_9 rfl rfl (by omega) (by omega)) rfl ?_
      refine Rq 3 rfl ?_
      refine JQ.nil ?_
      refine ⟨rfl, rfl, ?_⟩
      repeat (first | exact trivial | refine ⟨rfl, ?_⟩ | refine ⟨(by exact some_bool (by cases v <;> simp_all)), ?_⟩)
    ·
     refine Rg ?_
     refine Ru 1 rfl ?_
     refine JL.op (by first | exact RunV.add_i64 rfl rfl (by omega) (by omega) | exact RunV.add rfl rfl) rfl ?_
     refine Ru 1 rfl ?_
     refine JL.nil ?_
     refine ⟨_, ?_, _, ?_, ⟨q + 1, (v || decide ((byteAt s p : Int) = byteAt prL q)), rfl, rfl, rfl, rfl, ⟨by omega, by rw [hv, prAny_next _ _ (by omega), Bool.or_assoc]⟩⟩⟩
     ·
      omega
     ·
      repeat (first | exact trivial | refine ⟨rfl, ?_⟩)
   ·
    have hqe : q = prL.length := (by omega); have hpc : prC (byteAt s p) = v := (by rw [hv, prC_eq, hqe, List.take_length])
    refine J.exit ?_
    refine Sr ?_
    refine Ru 2 rfl ?_
    refine JL.nil ?_
    refine Cs rfl (fun hc9 => ?_) fun hc9 => ?_
    ·
     refine Sr ?_
     refine Ru 1 rfl ?_
     refine JL.nil ?_
     exact J.retP (RetV.one rfl rfl) (by rw [hq, hst, hpc]; simp_all) rfl
    ·
     refine J.skip ?_
     refine Rg ?_
     refine Ru 1 rfl ?_
     refine JL.op (by first | exact RunV.add_i64 rfl rfl (by omega) (by omega) | exact RunV.add rfl rfl) rfl ?_
     refine Ru 1 rfl ?_
     refine JL.nil ?_
     refine ⟨_, ?_, _, ?_, ⟨p + 1, rfl, rfl, rfl, rfl, ⟨by omega, by rw [hq, hst, hpc]; simp_all⟩⟩⟩
     ·
      omega
     ·
      repeat (first | exact trivial | refine ⟨rfl, ?_⟩)
  ·
   refine J.exit ?_
   refine Kp [] rfl ?_
   refine Sr ?_
   refine Ru 1 rfl ?_
   refine JL.nil ?_
   exact J.retP (RetV.one rfl rfl) (by rw [hq, List.drop_of_length_le (by omega)]; rfl) rfl



end Go.Proofs.YtmngjbefnloljaaDoor
