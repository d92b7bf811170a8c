/- CmsBack: whatever signed data and whatever bytes: what is written is read as the same signed data, and what is read is written as the same bytes. No condition beside the row's own. -/
import Derived.Test.YtilafeifbaaagaaGreatDoorR7
set_option linter.unusedSimpArgs false
set_option linter.unusedVariables false
set_option linter.constructorNameAsVariable false
namespace Go.Proofs.YtilafeifbaaagaaGreatDoor
open Go Go.RowKit Go.ChangeShapes Go.WideShapes Go.Lib Go.ChangeAt
namespace CmsBack
set_option maxRecDepth 100000 in
theorem ZC (H : Type) (enc : TypeId × Value → H) (W : World) (base : Nat) (args : Array Value) (ds gs : List (DataW H)) (before : List MemPlace)
    (Il : ∀ (j : Nat) t v, Tryz.f4.params[j]? = some t → args[j]? = some v → Value.okWide Tryz.prog W .any base t v)
    (hW : DataW.Whole enc Tryz.prog Tryz.f4.params.toList Rows.cmsBackSpec.vars false W args.toList ds gs before)
    (hwt : (DataW.weightsEach Tryz.prog (Tryz.f4.params.toList ++ Rows.cmsBackSpec.plain.varTypes Tryz.prog) (ds ++ gs)).all (· ≤ reachBytes) = true) (hL : laidMetH Tryz.prog Rows.cmsBackRow.laid W) :
    Calls Tryz.prog 4 args W fun e W' => ∃ v, e = .returned v ∧ Rows.cmsBackSpec.post enc Tryz.prog Tryz.f4 false true false false W args v W' := by
  have hW' := hW
  obtain ⟨p, q, hA0, hV, rfl, hfz, U0⟩ := hW
  have hA : DataW.TrodAll enc Tryz.prog W 0 (fun _ => true) true Tryz.f4.params.toList args.toList ds p := hA0
  rw [Tryz.params4] at hA Il
  obtain ⟨rfl, rfl⟩ := trodVars_none hV
  obtain ⟨v0, NW, d0, ds0, p0, q0, a90, rfl, rfl, h0, r0⟩ := trodAll_cons hA
  obtain ⟨v1, L7, d1, Ja, p1, q1, rfl, rfl, rfl, h1, r1⟩ := trodAll_cons r0
  obtain ⟨rfl, rfl, rfl⟩ := trodAll_nil r1
  obtain rfl : args = #[v0, v1] := by cases args; simp_all
  clear hA hA0 a90
  have hvt : Rows.cmsBackSpec.plain.varTypes Tryz.prog = [] := rfl
  rw [hvt, Tryz.params4] at hwt
  simp only [List.append_nil, List.cons_append, List.nil_append, DataW.weightsEach, List.all_append, List.all_nil, Bool.and_eq_true, and_true] at hwt
  obtain ⟨w0, w1⟩ := hwt
  have hT : D_ (partOf W) := T5 hL (by simp [Rows.cmsBackRow, Rows.laid_unicode_utf8_first]) (by rw [show acceptData = Rows.laid_unicode_utf8_acceptRanges by kernel_rfl]; simp [Rows.cmsBackRow])
  obtain ⟨x0, Rk⟩ := PJ (Il 0 _ v0 rfl rfl) h0 w0
  obtain ⟨a1, c1, l1, rfl, hr1, hs1⟩ := a7s Tryz.underlying22 IH (Il 1 _ v1 rfl rfl) h1 w1
  exact finish N4 (by rw [Tryz.params4]; decide) rfl rfl rfl hW' ((Uv x0 l1 Rk.2).tt hT (.c Rk.1 (.c ((AU (h := _)).2 ⟨_, _, rfl, hr1⟩) .n)))
set_option maxRecDepth 100000 in
theorem Yc (os : Os) : laidMet Tryz.prog Rows.cmsBackRow.laid ((Ik os).forCall (fun _ _ => 0) ⟨#[], #[.agg #[.string ⟨#[]⟩, .bool false, .slice none 0 0, .slice none 0 0, .slice none 0 0, .slice none 0 0], .slice none 0 0], []⟩).memory :=
  laidMet_of_run' 8 (by kernel_rfl) (by kernel_rfl)
theorem reads (os : Os) {H : Type} (enc : TypeId × Value → H) : ∃ x : List (DataW H) × List (DataW H) × List MemPlace, DataW.whole enc Tryz.prog ((Ik os).forCall (fun _ _ => 0) ⟨#[], #[.agg #[.string ⟨#[]⟩, .bool false, .slice none 0 0, .slice none 0 0, .slice none 0 0, .slice none 0 0], .slice none 0 0], []⟩).memory Tryz.f4.params.toList Rows.cmsBackSpec.vars false #[.agg #[.string ⟨#[]⟩, .bool false, .slice none 0 0, .slice none 0 0, .slice none 0 0, .slice none 0 0], .slice none 0 0].toList 8 = some x :=
  ⟨([.agg [.lit (.string []), .lit (.bool false), .nil, .nil, .nil, .nil], .nil], [], []), by kernel_rfl⟩
set_option maxRecDepth 100000 in
theorem lifted (os : Os) (started : os.Started) (H : Type) (enc : TypeId × Value → H) (F : Stop.Interp) :
    ReturnsInHanded {} Tryz.checked os 4 .any ((OpenSpec.ofChange Rows.cmsBackSpec).preRow enc Tryz.prog Tryz.f4 Rows.cmsBackRow.domain false Rows.cmsBackRow.laid) (((OpenSpec.ofChange Rows.cmsBackSpec).at F).post enc Tryz.prog Tryz.f4 false true false false) := by
  obtain ⟨x, hx⟩ := reads os enc
  refine returnsInHanded_of_row (C := Tryz.checked) (s := OpenSpec.ofChange Rows.cmsBackSpec) (by kernel_rfl) started (by kernel_rfl) Tryz.func4
    (witness_row_at (enc := enc) (C := Tryz.checked) false (Ik os) #[.agg #[.string ⟨#[]⟩, .bool false, .slice none 0 0, .slice none 0 0, .slice none 0 0, .slice none 0 0], .slice none 0 0] rfl (by kernel_rfl) (by kernel_rfl) (by kernel_rfl)
      (OpenSpec.preRow_of_cond 8 hx (by kernel_rfl) (fun k hk => by cases hk) (by kernel_rfl) (Yc os))) ?_
  intro W base args ds gs before Il hW _ b1N hwt hL _ _
  exact ZC H enc W base args ds gs before Il hW hwt hL
theorem named : Tryz.pinned.checked.prog.funcNamed Rows.cmsBackRow.func = some 4 := by kernel_rfl
theorem cf0 : (Rows.cmsBackRow.inPlace == Tryz.pinned.checked.prog.inPlace 4) = true := by kernel_rfl
theorem cf1 : (Rows.cmsBackRow.unfollowed == Tryz.pinned.checked.prog.unfollowed 4) = true := by kernel_rfl
theorem cf2 : (Rows.cmsBackRow.recurses == Tryz.pinned.checked.prog.recurses 4) = true := by kernel_rfl
theorem cf3 : (Rows.cmsBackRow.named == Tryz.pinned.checked.prog.varsNamed 4) = true := by kernel_rfl
theorem closed : joinedFacts Tryz.pinned.checked.prog 4 Tryz.f4 (OpenSpec.ofChange Rows.cmsBackSpec).bare Rows.cmsBackRow = true := by unfold joinedFacts; rw [cf0, cf1, cf2, cf3]; kernel_rfl
theorem inst : Tryz.f4.isInstance Tryz.pinned.checked.prog Rows.cmsBackRow.origin Rows.cmsBackRow.targs := of_decide_eq_true (by kernel_rfl)
theorem said : Rows.CmsBackSaid :=
  OpenClaim.holds_of_cond 4 Tryz.f4 rfl rfl rfl rfl rfl rfl rfl ⟨rfl, rfl, rfl, rfl, rfl⟩ rfl rfl rfl rfl rfl named Tryz.func4 closed
    inst (by unfold Func.isWrapper; first | (rw [if_pos (by decide +kernel)]; kernel_rfl) | (rw [if_neg (by decide +kernel)]; exact ⟨rfl, rfl⟩))
    (fun os started H enc _ F => by rw [OpenClaim.pre_eq_preRow]; exact lifted os started H enc F)
theorem plain (f : FuncId) (fn : Func) (hf : Tryz.pinned.checked.prog.funcNamed "postmark/postmarklaw08.CmsBack" = some f) (hfn : Tryz.pinned.checked.prog.funcs[f]? = some fn) :
    true = Tryz.pinned.checked.prog.looks [] ∧ ∀ (j : Nat) t, fn.params[j]? = some t → Tryz.pinned.checked.prog.wantsStandIn t = false := by
  obtain rfl : f = 4 := Option.some.inj ((show Tryz.prog.funcNamed "postmark/postmarklaw08.CmsBack" = some 4 by kernel_rfl).symm.trans hf) |>.symm
  obtain rfl : fn = Tryz.f4 := (Option.some.inj (Tryz.func4.symm.trans hfn)).symm
  refine ⟨by kernel_rfl, fun j t ht => ?_⟩
  rw [Tryz.params4] at ht
  have hm := Array.mem_of_getElem? ht
  have zX : ([28, 22].all fun u => !Tryz.prog.wantsStandIn u) = true := by kernel_rfl
  exact (show Tryz.prog.wantsStandIn t = false from by simpa using List.all_eq_true.1 zX t (by simpa using hm))
theorem card : Rows.CmsBackCardSaid :=
  Claim7.holds_tied_plain_at .later [] _ _ _ _ said (fun _ h => by cases h) (by kernel_rfl) (fun _ h => by cases h) cmsBack_row_tie rfl ⟨rfl, rfl⟩ (by kernel_rfl) rfl plain (by kernel_rfl)
#print axioms card
end CmsBack
end Go.Proofs.YtilafeifbaaagaaGreatDoor
