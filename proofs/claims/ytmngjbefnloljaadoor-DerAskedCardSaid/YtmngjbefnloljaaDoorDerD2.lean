/- Walks: the program reads bytes as a node. -/
import Derived.Test.YtmngjbefnloljaaDoorDerL
import Derived.Test.YtmngjbefnloljaaDoorDfr
set_option linter.unusedSimpArgs false
set_option linter.unusedVariables false
set_option linter.constructorNameAsVariable false
namespace Go.Proofs.YtmngjbefnloljaaDoor
open Go Go.RowKit
theorem ag_115 : aggT Tryd.prog 115 = some (some 2) := by kernel_rfl
theorem ag_57 : aggT Tryd.prog 57 = some (some 2) := by kernel_rfl
theorem ca_59 : callT Tryd.prog 59 = true := by kernel_rfl
theorem pl_95 : plT Tryd.prog 95 = some ([.slice none 0 0, .int .i64 0], [(0, 1), (1, 1)]) := by kernel_rfl
theorem zr_115 : zeroT Tryd.prog 115 = some [.int .i64 0, .int .i64 0] := by kernel_rfl
theorem zr_57 : zeroT Tryd.prog 57 = some [.int .i64 0, .int .i64 0] := by kernel_rfl
theorem RunV.typeAssert {f : Fr} {S : Sig} {h : Part} {L : List Ent} {ty X T : TypeId} {xo : Operand} {v : Value} (hT : niT f.P T = true) (hx : ev S xo = some (.iface T v)) : RunV f S h L (.typeAssert xo X T true) ty (.tuple #[v, .bool true]) := fun a w s _ _ _ _ => by
  unfold niT at hT
  split at hT <;> try cases hT
  rename_i d hd hu
  cases d <;> first | (exact (hd _ rfl).elim) | simp [execOp, s.eval hx, Instr.typeAssert, run_underlying hu]
theorem caught_fn {a c : Int} {h : Part} : Pure Tryd.prog 59 [gvn a c] h (.agg #[.int .i64 a, .int .i64 c]) := by
  unfold gvn
  refine Pure.ofV ?_
  refine Fn.intro Tryd.func59 rfl Tryd.ntmps59 rfl (fun e he => ?_)
  refine J.weak [(0, _)] ⟨rfl, trivial⟩ ?_
  refine Sr ?_
  refine JL.alloc zr_57 rfl (fun b1 => ?_)
  refine JL.nil ?_
  refine Sr ?_
  refine Ru 1 rfl ?_
  refine JL.op (RunV.typeAssert ni_115 rfl) rfl ?_
  refine Ru 3 rfl ?_
  refine JL.alloc zr_115 rfl (fun b2 => ?_)
  refine JL.storeA ag_115 rfl rfl (by repeat (first | exact Del.here | apply Del.there)) (by first | rfl) (by first | rfl | assumption) (by first | rfl) ?_
  refine Ru 1 rfl ?_
  refine Nk [4, 3, 2, 0] rfl ?_
  refine J.seq ?_
  refine Sr ?_
  refine Ru 2 rfl ?_
  refine JL.nil ?_
  refine Cs rfl (fun hc3 => ?_) fun hc3 => ?_
  ·
   refine Rg ?_
   refine Ru 1 rfl ?_
   refine JL.panic rfl ?_
   exact absurd hc3 (by decide)
  ·
   refine J.skip ?_
   refine Kp [3, 2] rfl ?_
   refine Sr ?_
   refine Ru 1 rfl ?_
   refine JL.op (RunV.ownA ag_57 rfl (by repeat (first | exact List.mem_cons_self .. | apply List.mem_cons_of_mem)) (by first | rfl)) rfl ?_
   refine JL.storeA ag_57 rfl rfl (by repeat (first | exact Del.here | apply Del.there)) (by first | rfl) (by first | rfl | assumption) (by first | rfl) ?_
   refine JL.nil ?_
   exact J.retV (RetV.cell rfl rfl ag_57 (by repeat (first | exact List.mem_cons_self .. | apply List.mem_cons_of_mem)) (by first | rfl)) rfl



theorem ifE_ : ifT Tryd.prog 20 = true := by kernel_rfl
def tailC : Code → Code
  | .seq _ c => c
  | c => c
theorem read1_none {e : Env} {h : Part} {L : List Ent} {bN bF : Nat} : J ⟨Tryd.prog, e, 9, fun _ _ _ => False, fun _ _ _ _ => False⟩ (tailC (Tryd.f58.body.getD .skip)) (fun _ h1 L1 => h1 = h ∧ L1 = L) NoExit [(2, .nilIface), (0, .pointer (some ⟨bN, 0, none⟩)), (1, .pointer (some ⟨bF, 0, none⟩))] h L := by
  skip
  refine Sr ?_
  refine Ru 1 rfl ?_
  refine JL.op (RunV.neq_nil_nil ifE_ rfl) rfl ?_
  refine JL.nil ?_
  refine J.cond_f rfl ?_
  refine J.skip ?_
  exact ⟨rfl, rfl⟩
theorem read1_some {e : Env} {h : Part} {L : List Ent} {bN bF : Nat} {a c : Int} {csN csF : List Value} (hN : csN.length = 5) (hF : csF.length = 2) : J ⟨Tryd.prog, e, 9, fun _ _ _ => False, fun _ _ _ _ => False⟩ (tailC (Tryd.f58.body.getD .skip))
    (fun _ h1 L1 => h1 = h ∧ L1 = .blk bF 57 [.int .i64 a, .int .i64 c] :: .blk bN 25 [.int .i64 0, .int .i64 0, .bool false, .slice none 0 0, .slice none 0 0] :: L) NoExit [(2, gvn a c), (0, .pointer (some ⟨bN, 0, none⟩)), (1, .pointer (some ⟨bF, 0, none⟩))] h (.blk bF 57 csF :: .blk bN 25 csN :: L) := by
  skip
  refine Sr ?_
  refine Ru 1 rfl ?_
  refine JL.op (RunV.neq_iface_nil ifE_ rfl) rfl ?_
  refine JL.nil ?_
  refine J.cond_t rfl ?_
  refine Rg ?_
  refine JL.op (RunV.build (cs := [.int .i64 0, .int .i64 0, .bool false, .slice none 0 0, .slice none 0 0]) pl_25 rfl rfl) rfl ?_
  refine Ru 1 rfl ?_
  refine JL.callP ca_59 rfl (caught_fn) rfl ?_
  refine JL.storeA ag_25 rfl rfl (by repeat (first | exact Del.here | apply Del.there)) (by first | rfl | exact NdR.all1 (by assumption)) (by first | rfl | assumption | exact NdR.len5 (by assumption)) (by first | rfl | exact NdR.len5 (by assumption)) ?_
  refine JL.storeA ag_57 rfl rfl (by repeat (first | exact Del.here | apply Del.there)) (by first | rfl) (by first | rfl | assumption) (by first | rfl) ?_
  refine JL.nil ?_
  exact ⟨rfl, rfl⟩

abbrev rdD (bN bF : Nat) : Deferred := ⟨.fn (.func 58) #[.pointer (some ⟨bN, 0, none⟩), .pointer (some ⟨bF, 0, none⟩)], #[]⟩
section
variable {w0 : World} {h0 h : Part} {S : Sig} {L L1 L2 : List Ent} {bN bF : Nat} {csN csF : List Value} {R : Ending → Part → List Ent → Prop}
theorem rd_invoke (w : World) : (invoke (rdD bN bF).target (rdD bN bF).args).run Tryd.prog w = .ok (.enter 58 #[.pointer (some ⟨bN, 0, none⟩), .pointer (some ⟨bF, 0, none⟩)]) w := by
  have := run_call (P := Tryd.prog) (F := 58) (by kernel_rfl) #[.pointer (some ⟨bN, 0, none⟩), .pointer (some ⟨bF, 0, none⟩)] w
  simp [invoke, rdD, this]
theorem rd_leave (h2 : look S 2 = some (.pointer (some ⟨bN, 0, none⟩))) (h3 : look S 3 = some (.pointer (some ⟨bF, 0, none⟩))) (uN : Del (.blk bN 25 csN) L L1) (uF : Del (.blk bF 57 csF) L1 L2) (hN : csN.length = 5) (hF : csF.length = 2)
    (hR : R (.returned (.tuple #[.agg csN.toArray, .agg csF.toArray])) h []) :
    LeaveP Tryd.prog ⟨w0, (· ∈ keys []), h0, [rdD bN bF]⟩ 33 Tryd.f32 (FnEnd w0 h0 [] R) (rdD bN bF) .returning S h L := fun a w s => by
  have okp := s.ok.perm (uN.perm.trans (uF.perm.cons _))
  refine leaves_cons (by simp) (rd_invoke w) ((callsD_rec (e := ⟨w0, (· ∈ keys []), h0, []⟩) (vs := [.pointer (some ⟨bN, 0, none⟩), .pointer (some ⟨bF, 0, none⟩)]) Tryd.func58 rfl Tryd.ntmps58 rfl rfl rfl rfl .none (okp.ds []) rfl (J.weak [(2, _), (0, _), (1, _)] ⟨rfl, rfl, rfl, trivial⟩ read1_none)).mono ?_)
  rintro e u w' ⟨⟨v, rfl⟩, rfl, S', h1, L1, ⟨rfl, rfl⟩, ok⟩
  have s' : Sat ⟨w0, (· ∈ keys []), h0, [rdD bN bF]⟩ 33 S h1 _ a w' := s.with (ok.ds _)
  exact ⟨_, RetV.cell2 rfl h2 ag_25 (List.mem_cons_self ..) hN h3 ag_57 (List.mem_cons_of_mem _ (List.mem_cons_self ..)) hF a w' s', h1, [], hR, ok.drop (List.nil_sublist _)⟩
theorem rd_pan {a c : Int} (h2 : look S 2 = some (.pointer (some ⟨bN, 0, none⟩))) (h3 : look S 3 = some (.pointer (some ⟨bF, 0, none⟩))) (uF : Del (.blk bF 57 csF) L L1) (uN : Del (.blk bN 25 csN) L1 L2) (hN : csN.length = 5) (hF : csF.length = 2)
    (hR : R (.returned (.tuple #[.agg #[.int .i64 0, .int .i64 0, .bool false, .slice none 0 0, .slice none 0 0], .agg #[.int .i64 a, .int .i64 c]])) h []) :
    LeaveP Tryd.prog ⟨w0, (· ∈ keys []), h0, [rdD bN bF]⟩ 33 Tryd.f32 (FnEnd w0 h0 [] R) (rdD bN bF) (.panicking [{ v := gvn a c, recovered := false }]) S h L := fun ac w s => by
  have okp := s.ok.perm (uF.perm.trans (uN.perm.cons _))
  refine leaves_cons (by simp) (rd_invoke w) ((callsD_rec (e := ⟨w0, (· ∈ keys []), h0, []⟩) (vs := [.pointer (some ⟨bN, 0, none⟩), .pointer (some ⟨bF, 0, none⟩)]) Tryd.func58 rfl Tryd.ntmps58 rfl rfl rfl rfl .some (okp.ds []) rfl (J.weak [(2, _), (0, _), (1, _)] ⟨rfl, rfl, rfl, trivial⟩ (read1_some hN hF))).mono ?_)
  rintro e u w' ⟨⟨v, rfl⟩, rfl, S', h1, L1, ⟨rfl, rfl⟩, ok⟩
  have s' : Sat ⟨w0, (· ∈ keys []), h0, [rdD bN bF]⟩ 33 S h1 _ ac w' := s.with (ok.ds _)
  exact ⟨_, RetV.cell2 rfl h2 ag_25 (List.mem_cons_of_mem _ (List.mem_cons_self ..)) rfl h3 ag_57 (List.mem_cons_self ..) rfl ac w' s', h1, [], hR, ok.drop (List.nil_sublist _)⟩
end
theorem read_fn {a : Option Addr} {c : Nat} {l : List UInt8} {h : Part} (hl : SlR u8R 1 h a c l) (hT : Tabs h) :
    FnR Tryd.prog 32 [.slice a l.length c] h (fun v h' => ∃ cs, v = .tuple #[.agg (List.toArray cs), .agg #[.int .i64 (rdTop l).2.1, .int .i64 (rdTop l).2.2]] ∧ NdR h' cs (rdTop l).1) := by
  have hb := hl.big
  refine Fn.introD Tryd.func32 rfl Tryd.ntmps32 rfl rfl (fun w0 => ?_)
  refine J.region ?_
  refine JL.alloc zr_25 rfl (fun bN => ?_)
  refine JL.alloc zr_57 rfl (fun bF => ?_)
  refine JL.nil ⟨_, rfl, ?_⟩
  skip
  refine J.seq ?_
  refine Sr ?_
  refine Ru 3 rfl ?_
  refine JL.nil ?_
  refine Cs rfl (fun hc1 => ?_) fun hc1 => ?_
  ·
   refine Sr ?_
   refine JL.op (RunV.build (cs := [.int .i64 0, .int .i64 0, .bool false, .slice none 0 0, .slice none 0 0]) pl_25 rfl rfl) rfl ?_
   refine JL.op (RunV.build (cs := [.int .i64 0, _]) pl_57 rfl rfl) rfl ?_
   refine JL.storeA ag_25 rfl rfl (by repeat (first | exact Del.here | apply Del.there)) (by first | rfl | exact NdR.all1 (by assumption)) (by first | rfl | assumption | exact NdR.len5 (by assumption)) (by first | rfl | exact NdR.len5 (by assumption)) ?_
   refine JL.storeA ag_57 rfl rfl (by repeat (first | exact Del.here | apply Del.there)) (by first | rfl) (by first | rfl | assumption) (by first | rfl) ?_
   refine Nk [3, 2, 0] rfl ?_
   exact J.ret (rd_leave rfl rfl (by repeat first | exact Del.here | apply Del.there) (by repeat first | exact Del.here | apply Del.there) rfl rfl ⟨_, rfl, rfl, _, by unfold rdTop; rw [if_pos (by omega)], by unfold rdTop; rw [if_pos (by omega)]; exact NdR.of SlR.nil_ SlR.nil_⟩)
  ·
   refine J.skip ?_
   refine Kp [3, 2, 0] rfl ?_
   refine Sr ?_
   refine Ru 1 rfl ?_
   refine JL.op (RunV.build (cs := [_, .int .i64 0]) pl_95 rfl rfl) rfl ?_
   refine JL.box rfl rfl rfl (fun b2 => ?_)
   refine Ru 1 rfl ?_
   refine JL.nil ?_
   refine Sr ?_
   refine Ru 3 rfl ?_
   refine JL.call_ ca_60 rfl (node_rd 32 l 0 l.length _ a c _ hl hT (by omega) (by omega) (by omega)) (by repeat first | exact Parts.nil | exact Del.here | apply Del.there | apply Parts.cons) rfl (fun _ _ hh => (NodeR.out hh).elim) (fun ch3 h3 Lo3 hle3 hR3 => ?_) (fun v3 h3 Lo3 hle3 hR3 => ?_)
   ·
    have hR3 := NodeR.pan hR3
    obtain ⟨xa, xc, hxe, rfl⟩ := hR3; have hLo : Lo3 = [] := (by unfold NodeR at hR3; rw [hxe] at hR3; exact hR3.2); subst hLo; exact rd_pan rfl rfl (by repeat first | exact Del.here | apply Del.there) (by repeat first | exact Del.here | apply Del.there) rfl rfl ⟨_, rfl, rfl, _, by unfold rdTop; rw [if_neg (by omega), hxe], by unfold rdTop; rw [if_neg (by omega), hxe]; exact NdR.of SlR.nil_ SlR.nil_⟩
   obtain ⟨x, q, xcs, hxs, rfl, hNdx, rfl⟩ := NodeR.ret hR3
   replace hl := hl.mono hle3
   replace hT := hT.mono hle3
   refine JL.storeA ag_25 rfl rfl (by repeat (first | exact Del.here | apply Del.there)) (by first | rfl | exact NdR.all1 (by assumption)) (by first | rfl | assumption | exact NdR.len5 (by assumption)) (by first | rfl | exact NdR.len5 (by assumption)) ?_
   refine Nk [4, 3, 2, 0] rfl ?_
   refine J.seq ?_
   refine Sr ?_
   refine Ru 3 rfl ?_
   refine JL.op (RunV.own1 ag_3 rfl (by repeat (first | exact List.mem_cons_self .. | apply List.mem_cons_of_mem)) rfl) rfl ?_
   refine Ru 3 rfl ?_
   refine Nk [24, 4, 3, 2] rfl ?_
   refine Cs rfl (fun hc4 => ?_) fun hc4 => ?_
   ·
    refine J.pfalse ?_
    refine J.seq ?_
    refine J.held ([.blk b2 95 [.slice a l.length c, .int .i64 q]]) 8 mixed_ rfl (fun h00 => ?_)
    refine JH.take 0 rfl (by kernel_rfl) (by kernel_rfl) (by kernel_rfl) (fun _ _ _ _ hh => hh) (Ok.bridge (by repeat first | exact Parts.nil | exact Del.here | apply Del.there | apply Parts.cons) (by first | exact Part.le.refl _ | assumption) h00) (RunV.build (cs := [.int .i64 0, .int .i64 0, .bool false, .slice none 0 0, .slice none 0 0]) pl_25 rfl rfl) rfl ?_
    refine JH.take 1 rfl (by kernel_rfl) (by kernel_rfl) (by kernel_rfl) (fun _ _ _ _ hh => hh) (Ok.bridge (by repeat first | exact Parts.nil | exact Del.here | apply Del.there | apply Parts.cons) (by first | exact Part.le.refl _ | assumption) h00) (RunV.move rfl) rfl ?_
    refine JH.take 2 rfl (by kernel_rfl) (by kernel_rfl) (by kernel_rfl) (fun _ _ _ _ hh => hh) (Ok.bridge (by repeat first | exact Parts.nil | exact Del.here | apply Del.there | apply Parts.cons) (by first | exact Part.le.refl _ | assumption) h00) (RunV.nilCheck rfl) rfl ?_
    refine JH.take 3 rfl (by kernel_rfl) (by kernel_rfl) (by kernel_rfl) (fun _ _ _ _ hh => hh) (Ok.bridge (by repeat first | exact Parts.nil | exact Del.here | apply Del.there | apply Parts.cons) (by first | exact Part.le.refl _ | assumption) h00) (by first | exact RunV.fieldAt0 fo_95_1 rfl | exact RunV.fieldAt fo_95_1 rfl) rfl ?_
    refine JH.take 4 rfl (by kernel_rfl) (by kernel_rfl) (by kernel_rfl) (fun _ _ _ _ hh => hh) (Ok.bridge (by repeat first | exact Parts.nil | exact Del.here | apply Del.there | apply Parts.cons) (by first | exact Part.le.refl _ | assumption) h00) (RunV.own1 ag_3 rfl (by repeat (first | exact List.mem_cons_self .. | apply List.mem_cons_of_mem)) rfl) rfl ?_
    refine JH.take 5 rfl (by kernel_rfl) (by kernel_rfl) (by kernel_rfl) (fun _ _ _ _ hh => hh) (Ok.bridge (by repeat first | exact Parts.nil | exact Del.here | apply Del.there | apply Parts.cons) (by first | exact Part.le.refl _ | assumption) h00) (RunV.build (cs := [_, _]) pl_57 rfl rfl) rfl ?_
    refine JH.all1 6 (by kernel_rfl) rfl ?_
    unfold One
    refine JL.storeA ag_25 rfl rfl (by repeat (first | exact Del.here | apply Del.there)) (by first | rfl | exact NdR.all1 (by assumption)) (by first | rfl | assumption | exact NdR.len5 (by assumption)) (by first | rfl | exact NdR.len5 (by assumption)) ?_
    refine JL.nil ⟨(Ok.bridge (by repeat first | exact Parts.nil | exact Del.here | apply Del.there | apply Parts.cons) (by first | exact Part.le.refl _ | assumption) h00), ?_⟩
    refine JH.all1 7 (by kernel_rfl) rfl ?_
    unfold One
    refine JL.storeA ag_57 rfl rfl (by repeat (first | exact Del.here | apply Del.there)) (by first | rfl) (by first | rfl | assumption) (by first | rfl) ?_
    refine JL.nil ⟨(Ok.bridge (by repeat first | exact Parts.nil | exact Del.here | apply Del.there | apply Parts.cons) (by first | exact Part.le.refl _ | assumption) h00), ?_⟩
    refine JH.done (by kernel_rfl) ?_
    refine Kp [3, 2] rfl ?_
    exact J.ret (rd_leave rfl rfl (by repeat first | exact Del.here | apply Del.there) (by repeat first | exact Del.here | apply Del.there) rfl rfl ⟨_, rfl, rfl, _, by unfold rdTop; rw [if_neg (by omega), hxs]; simp only; rw [if_pos (by omega)], by unfold rdTop; rw [if_neg (by omega), hxs]; simp only; rw [if_pos (by omega)]; exact NdR.of SlR.nil_ SlR.nil_⟩)
   ·
    refine J.skip ?_
    refine Sr ?_
    refine JL.op (RunV.ownA ag_25 rfl (by repeat (first | exact List.mem_cons_self .. | apply List.mem_cons_of_mem)) (by first | rfl | exact NdR.len5 (by assumption))) rfl ?_
    refine JL.op (RunV.build (cs := [.int .i64 0, .int .i64 0]) pl_57 rfl rfl) rfl ?_
    refine JL.storeA ag_25 rfl rfl (by repeat (first | exact Del.here | apply Del.there)) (by first | rfl | exact NdR.all1 (by assumption)) (by first | rfl | assumption | exact NdR.len5 (by assumption)) (by first | rfl | exact NdR.len5 (by assumption)) ?_
    refine JL.storeA ag_57 rfl rfl (by repeat (first | exact Del.here | apply Del.there)) (by first | rfl) (by first | rfl | assumption) (by first | rfl) ?_
    refine Nk [3, 2] rfl ?_
    exact J.ret (rd_leave rfl rfl (by repeat first | exact Del.here | apply Del.there) (by repeat first | exact Del.here | apply Del.there) hNdx.len5 rfl ⟨_, rfl, rfl, _, by unfold rdTop; rw [if_neg (by omega), hxs]; simp only; rw [if_neg (by omega)], by unfold rdTop; rw [if_neg (by omega), hxs]; simp only; rw [if_neg (by omega)]; exact hNdx⟩)



end Go.Proofs.YtmngjbefnloljaaDoor
