/- Walks: integers out of nodes. -/
import Derived.Test.YtmngjbefnloljaaDoorNumF
set_option linter.unusedSimpArgs false
set_option linter.unusedVariables false
set_option linter.constructorNameAsVariable false
namespace Go.Proofs.YtmngjbefnloljaaDoor
open Go Go.RowKit
set_option maxRecDepth 100000
theorem ca_13 : callT Tryd.prog 13 = true := by kernel_rfl

theorem whole_fn {c t : Int} {k : Bool} {bs : List UInt8} {ks : List Nd} {cs : List Value} {h : Part} (r : NdR h cs (.mk c t k bs ks)) (hT : Tabs h) (hsz : (Nd.mk c t k bs ks).sz ≤ 1073741824) :
    Pure Tryd.prog 35 [.agg cs.toArray] h (.bool ((decide (c = 0) && (decide (t = 2) || decide (t = 10))) && (Nd.mk c t k bs ks).put.isSome)) := by
  obtain ⟨ka, kca, kb, kcb, rfl, hka, hkb⟩ := r.inv
  refine Pure.ofV ?_
  refine Fn.intro Tryd.func35 rfl Tryd.ntmps35 rfl (fun e he => ?_)
  refine J.weak [(0, _)] ⟨rfl, trivial⟩ ?_
  refine Sr ?_
  refine JL.box rfl rfl rfl (fun b1 => ?_)
  refine Ru 1 rfl ?_
  refine JL.nil ?_
  refine Sr ?_
  refine Ru 1 rfl ?_
  refine JL.op (RunV.own1 ag_3 rfl (by repeat (first | exact List.mem_cons_self .. | apply List.mem_cons_of_mem)) rfl) rfl ?_
  refine Ru 2 rfl ?_
  apply An 6 15 9 [2, 1] rfl rfl
  ·
   intro hb2 hc2
   refine Ru 1 rfl ?_
   refine JL.opg rfl rfl  (RunV.own1 ag_3 rfl (by repeat (first | exact List.mem_cons_self .. | apply List.mem_cons_of_mem)) rfl) rfl ?_
   refine Ru 2 rfl ?_
   apply On 10 14 4 [6, 2, 1] rfl rfl
   rotate_left
   ·
    intro hb3 hc3
    refine Ru 1 rfl ?_
    refine JL.opg rfl rfl  (RunV.own1 ag_3 rfl (by repeat (first | exact List.mem_cons_self .. | apply List.mem_cons_of_mem)) rfl) rfl ?_
    refine Ru 2 rfl ?_
    exact Ae (om_f hb3 rfl) rfl
   rotate_right
   ·
    exact fun hb3 _ => Ru 4 rfl (Ae (om_t hb3 rfl) rfl)
   refine Ru 1 rfl ?_
   exact Ae (am_t hb2 rfl) rfl
  ·
   exact fun hb2 _ => Ru 9 rfl (Ae (am_f hb2 rfl) rfl)
  refine Ru 1 rfl ?_
  apply An 16 19 3 [2] rfl rfl
  ·
   intro hb4 hc4
   refine JL.opg rfl rfl  (RunV.ownA ag_25 rfl (by repeat (first | exact List.mem_cons_self .. | apply List.mem_cons_of_mem)) (by first | rfl | exact NdR.len5 (by assumption))) rfl ?_
   refine JL.callPg rfl rfl  ca_13 rfl (right_fn r hT hsz) rfl ?_
   refine Ru 1 rfl ?_
   exact Ae (am_t hb4 rfl) rfl
  ·
   exact fun hb4 _ => Ru 3 rfl (Ae (am_f hb4 rfl) rfl)
  refine Ru 1 rfl ?_
  refine JL.nil ?_
  exact J.retV (RetV.one rfl rfl) rfl
end Go.Proofs.YtmngjbefnloljaaDoor
