/- RsaOwn: what a kept key has signed its public part proves, and no other says so without its length. No condition beside the row's own. -/
import Derived.Test.YtmngjbefnloljaaGreatDoorP5
set_option linter.unusedSimpArgs false
set_option linter.unusedVariables false
set_option linter.constructorNameAsVariable false
namespace Go.Proofs.YtmngjbefnloljaaGreatDoor
open Go Go.RowKit Go.ChangeShapes Go.WideShapes Go.Lib Go.ChangeAt
namespace RsaOwn
set_option maxRecDepth 100000 in
theorem contract (H : Type) (enc : TypeId × Value → H) (W : World) (base : Nat) (args : Array Value) (ds gs : List (DataW H)) (before : List MemPlace)
    (hval : ∀ (j : Nat) t v, Tryz.f7.params[j]? = some t → args[j]? = some v → Value.okWide Tryz.prog W .any base t v)
    (hW : DataW.Whole enc Tryz.prog Tryz.f7.params.toList Rows.rsaOwnSpec.vars false W args.toList ds gs before)
    (hwt : (DataW.weightsEach Tryz.prog (Tryz.f7.params.toList ++ Rows.rsaOwnSpec.plain.varTypes Tryz.prog) (ds ++ gs)).all (· ≤ reachBytes) = true) (hL : laidMetH Tryz.prog Rows.rsaOwnRow.laid W) :
    Calls Tryz.prog 7 args W fun e W' => ∃ v, e = .returned v ∧ Rows.rsaOwnSpec.post enc Tryz.prog Tryz.f7 false true false false W args v W' := by
  have hW' := hW
  obtain ⟨p, q, hA0, hV, rfl, hfz, hnd⟩ := hW
  have hA : DataW.TrodAll enc Tryz.prog W 0 (fun _ => true) true Tryz.f7.params.toList args.toList ds p := hA0
  rw [Tryz.params7] at hA hval
  obtain ⟨rfl, rfl⟩ := trodVars_none hV
  obtain ⟨v0, vs0, d0, ds0, p0, q0, hargs, rfl, rfl, h0, r0⟩ := trodAll_cons hA
  obtain ⟨v1, vs1, d1, ds1, p1, q1, rfl, rfl, rfl, h1, r1⟩ := trodAll_cons r0
  obtain ⟨v2, vs2, d2, ds2, p2, q2, rfl, rfl, rfl, h2, r2⟩ := trodAll_cons r1
  obtain ⟨v3, vs3, d3, ds3, p3, q3, rfl, rfl, rfl, h3, r3⟩ := trodAll_cons r2
  obtain ⟨rfl, rfl, rfl⟩ := trodAll_nil r3
  obtain rfl : args = #[v0, v1, v2, v3] := by cases args; simp_all
  clear hA hA0 hargs
  have hvt : Rows.rsaOwnSpec.plain.varTypes Tryz.prog = [] := rfl
  rw [hvt, Tryz.params7] at hwt
  simp only [List.append_nil, List.cons_append, List.nil_append, DataW.weightsEach, List.all_append, List.all_nil, Bool.and_eq_true, and_true] at hwt
  obtain ⟨w0, w1, w2, w3⟩ := hwt
  have hT : Tabs (partOf W) := tabs_laid hL (by simp [Rows.rsaOwnRow, Rows.laid_unicode_utf8_first]) (by rw [show acceptData = Rows.laid_unicode_utf8_acceptRanges by kernel_rfl]; simp [Rows.rsaOwnRow])
  obtain ⟨n0, rfl, hwf0⟩ := arg_i Tryz.underlying3 (hval 0 _ v0 rfl rfl) h0; have hb0 := bounds_i64 hwf0
  obtain ⟨n1, rfl, hwf1⟩ := arg_i Tryz.underlying3 (hval 1 _ v1 rfl rfl) h1; have hb1 := bounds_i64 hwf1
  obtain ⟨n2, rfl, hwf2⟩ := arg_i Tryz.underlying3 (hval 2 _ v2 rfl rfl) h2; have hb2 := bounds_i64 hwf2
  obtain ⟨a3, c3, l3, rfl, hr3, hs3⟩ := arg_sl Tryz.underlying22 opens_bytes (hval 3 _ v3 rfl rfl) h3 w3
  exact finish plainTsK_ok (by rw [Tryz.params7]; decide) rfl rfl rfl hW' (rsaown_fn hr3 hb0.1 hb0.2 hb1.1 hb1.2 hb2.1 hb2.2 hT)
set_option maxRecDepth 100000 in
theorem laid_met (os : Os) : laidMet Tryz.prog Rows.rsaOwnRow.laid ((laidWorld os).forCall (fun _ _ => 0) ⟨#[], #[.int .i64 0, .int .i64 0, .int .i64 0, .slice none 0 0], []⟩).memory :=
  laidMet_of_run' 8 (by kernel_rfl) (by kernel_rfl)
theorem reads (os : Os) {H : Type} (enc : TypeId × Value → H) : ∃ x : List (DataW H) × List (DataW H) × List MemPlace, DataW.whole enc Tryz.prog ((laidWorld os).forCall (fun _ _ => 0) ⟨#[], #[.int .i64 0, .int .i64 0, .int .i64 0, .slice none 0 0], []⟩).memory Tryz.f7.params.toList Rows.rsaOwnSpec.vars false #[.int .i64 0, .int .i64 0, .int .i64 0, .slice none 0 0].toList 8 = some x :=
  ⟨([.lit (.int .i64 0), .lit (.int .i64 0), .lit (.int .i64 0), .nil], [], []), by kernel_rfl⟩
set_option maxRecDepth 100000 in
theorem lifted (os : Os) (started : os.Started) (H : Type) (enc : TypeId × Value → H) (F : Stop.Interp) :
    ReturnsInHanded {} Tryz.checked os 7 .any ((OpenSpec.ofChange Rows.rsaOwnSpec).preRow enc Tryz.prog Tryz.f7 Rows.rsaOwnRow.domain false Rows.rsaOwnRow.laid) (((OpenSpec.ofChange Rows.rsaOwnSpec).at F).post enc Tryz.prog Tryz.f7 false true false false) := by
  obtain ⟨x, hx⟩ := reads os enc
  refine returnsInHanded_of_row (C := Tryz.checked) (s := OpenSpec.ofChange Rows.rsaOwnSpec) (by kernel_rfl) started (by kernel_rfl) Tryz.func7
    (witness_row_at (enc := enc) (C := Tryz.checked) false (laidWorld os) #[.int .i64 0, .int .i64 0, .int .i64 0, .slice none 0 0] rfl (by kernel_rfl) (by kernel_rfl) (by kernel_rfl)
      (OpenSpec.preRow_of_cond 8 hx (by kernel_rfl) (fun k hk => by cases hk) (by kernel_rfl) (laid_met os))) ?_
  intro W base args ds gs before hval hW _ hcond hwt hL _ _
  exact contract H enc W base args ds gs before hval hW hwt hL
theorem said : Rows.RsaOwnSaid :=
  OpenClaim.holds_of_cond 7 Tryz.f7 rfl rfl rfl rfl rfl rfl rfl ⟨rfl, rfl, rfl, rfl, rfl⟩ rfl rfl rfl rfl rfl (by kernel_rfl) Tryz.func7 (by kernel_rfl)
    (of_decide_eq_true (by kernel_rfl)) (by unfold Func.isWrapper; first | (rw [if_pos (by decide +kernel)]; kernel_rfl) | (rw [if_neg (by decide +kernel)]; exact ⟨rfl, rfl⟩))
    (fun os started H enc _ F => by rw [OpenClaim.pre_eq_preRow]; exact lifted os started H enc F)
theorem plain (f : FuncId) (fn : Func) (hf : Tryz.pinned.checked.prog.funcNamed "postmark/postmarklaw05.RsaOwn" = some f) (hfn : Tryz.pinned.checked.prog.funcs[f]? = some fn) :
    true = Tryz.pinned.checked.prog.looks [] ∧ ∀ (j : Nat) t, fn.params[j]? = some t → Tryz.pinned.checked.prog.wantsStandIn t = false := by
  obtain rfl : f = 7 := Option.some.inj ((show Tryz.prog.funcNamed "postmark/postmarklaw05.RsaOwn" = some 7 by kernel_rfl).symm.trans hf) |>.symm
  obtain rfl : fn = Tryz.f7 := (Option.some.inj (Tryz.func7.symm.trans hfn)).symm
  refine ⟨by kernel_rfl, fun j t ht => ?_⟩
  rw [Tryz.params7] at ht
  have hm := Array.mem_of_getElem? ht
  have hall : ([3, 3, 3, 22].all fun u => !Tryz.prog.wantsStandIn u) = true := by kernel_rfl
  exact (show Tryz.prog.wantsStandIn t = false from by simpa using List.all_eq_true.1 hall t (by simpa using hm))
theorem card : Rows.RsaOwnCardSaid :=
  Claim7.holds_tied_plain_at .later [] _ _ _ _ said (fun _ h => by cases h) (by kernel_rfl) (fun _ h => by cases h) rsaOwn_row_tie rfl ⟨rfl, rfl⟩ (by kernel_rfl) rfl plain (by kernel_rfl)
#print axioms card
end RsaOwn
end Go.Proofs.YtmngjbefnloljaaGreatDoor
