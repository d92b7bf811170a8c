/- Walks: the law DerMakes. -/
import Derived.Test.YtbmlbefpnieglaaDoorDerK
import Derived.Test.YtbmlbefpnieglaaDoorSha
import Derived.Test.YtbmlbefpnieglaaDoorMk
set_option linter.unusedSimpArgs false
set_option linter.unusedVariables false
set_option linter.constructorNameAsVariable false
namespace Go.Proofs.YtbmlbefpnieglaaDoor
open Go Go.RowKit
set_option maxRecDepth 100000
theorem ca_14 : callT Tryd.prog 14 = true := by kernel_rfl
theorem ca_18 : callT Tryd.prog 18 = true := by kernel_rfl
theorem ca_20 : callT Tryd.prog 20 = true := by kernel_rfl
theorem ca_26 : callT Tryd.prog 26 = true := by kernel_rfl
/-- The same, its bytes still the caller's own. -/
theorem primo_fn {t : Int} {a : Option Addr} {c : Nat} {l : List UInt8} {h : Part} (hl : SlR u8R 1 h a c l) : Fn Tryd.prog 25 [.int .i64 t, .slice a l.length c] h [] (Rets fun v _ Lo => ∃ a c, v = .agg #[.int .i64 0, .int .i64 t, .bool false, .slice a l.length c, .slice none 0 0] ∧ Lo = [.row a c 5 1 l.length (u8s l)]) := by
  have hb := hl.big
  refine Fn.intro Tryd.func25 rfl Tryd.ntmps25 rfl (fun e he => ?_)
  refine J.weak [(0, _), (1, _)] ⟨rfl, rfl, trivial⟩ ?_
  refine Sr ?_
  refine JL.alloc zr_25 rfl (fun b1 => ?_)
  refine JL.nil ?_
  refine Sr ?_
  refine Ru 2 rfl ?_
  refine JL.row_nil 5 1 ?_
  refine JL.append ap_22 rfl rfl (CellsR.nil (R := u8R)) rfl (by assumption) rfl (by repeat (first | exact Del.here | apply Del.there)) (by first | omega | (simp only [List.length_append, List.length_cons, List.length_nil]; omega)) rfl rfl (fun a2 c2 xs2 hC2 hN2 => ?_)
  obtain rfl := hC2.u8
  refine JL.op (RunV.build (cs := [.int .i64 0, _, .bool false, _, .slice none 0 0]) pl_25 rfl rfl) rfl ?_
  refine JL.storeA ag_25 rfl rfl (by repeat (first | exact Del.here | apply Del.there)) (by first | rfl | exact NdR.all1 (by assumption)) (by first | rfl | assumption | exact NdR.len5 (by assumption)) (by first | rfl | exact NdR.len5 (by assumption)) ?_
  refine Nk [4] rfl ?_
  exact J.ret ⟨_, [.row _ _ _ _ _ _], _, (RetV.cell rfl rfl ag_25 (by repeat (first | exact List.mem_cons_self .. | apply List.mem_cons_of_mem)) (by first | rfl | exact NdR.len5 (by assumption))), .cons (by repeat first | exact Del.here | apply Del.there) .nil, _, rfl, _, _, rfl, rfl⟩
theorem RunV.addb_u8 {f : Fr} {S : Sig} {h : Part} {L : List Ent} {ty T yt : TypeId} {x y : Operand} {b : UInt8} {q : Int} (hx : ev S x = some (.int .u8 (b.toNat : Int))) (hy : ev S y = some (.int .u8 q)) : RunV f S h L (.binOp .add T x y yt) ty (.int .u8 ((b + UInt8.ofNat (q % 256).toNat).toNat : Int)) := by
  have := RunV.add (f := f) (h := h) (L := L) (ty := ty) (T := T) (yt := yt) hx hy
  have e : IntKind.u8.wrap ((b.toNat : Int) + q) = ((b + UInt8.ofNat (q % 256).toNat).toNat : Int) := by
    rw [IntKind.wrap_u8, UInt8.toNat_add]
    simp
    omega
  rwa [e] at this
theorem dmakes_fn {cl t : Int} {a b : Option Addr} {c d : Nat} {l : List UInt8} {ks : List Nd} {h : Part} (hl : SlR u8R 1 h a c l) (hk : SlR NdR 5 h b d ks) (hz : Nd.szL ks ≤ 1099511627776) (hT : Tabs h) : Pure Tryd.prog 8 [.int .i64 cl, .int .i64 t, .slice a l.length c, .slice b ks.length d] h (.bool true) := by
  have hb := hl.big
  refine Pure.ofV ?_
  refine Fn.intro Tryd.func8 rfl Tryd.ntmps8 rfl (fun e he => ?_)
  refine J.weak [(0, _), (1, _), (2, _), (3, _)] ⟨rfl, rfl, rfl, rfl, trivial⟩ ?_
  refine Sr ?_
  refine Ru 1 rfl ?_
  refine JL.nil ?_
  refine J.seq ?_
  refine Sr ?_
  refine Ru 4 rfl ?_
  apply On 16 20 4 [8, 0, 1, 2, 3] rfl rfl
  rotate_left
  ·
   intro hb1 hc1
   refine Ru 4 rfl ?_
   exact Ae (om_f hb1 rfl) rfl
  rotate_right
  ·
   exact fun hb1 _ => Ru 4 rfl (Ae (om_t hb1 rfl) rfl)
  refine JL.nil ?_
  refine Cs rfl (fun hc2 => ?_) fun hc2 => ?_
  ·
   refine Sr ?_
   refine JL.callP ca_14 rfl (kn_fn (by assumption)) rfl ?_
   refine Ru 1 rfl ?_
   refine JL.nil ?_
   first | exact J.retV (RetV.one rfl rfl) rfl | exact J.retV (RetV.one rfl rfl) (by simp [*])
  ·
   refine J.skip ?_
   refine Sr ?_
   refine Ru 2 rfl ?_
   refine JL.call ca_25 rfl (primo_fn hl) (by repeat first | exact Parts.nil | exact Del.here | apply Del.there | apply Parts.cons) rfl ?_
   rintro _ h4 Lo4 hle4 ⟨pa, pc, rfl, rfl⟩
   replace hl := hl.mono hle4
   replace hk := hk.mono hle4
   replace hT := hT.mono hle4
   refine Ru 3 rfl ?_
   refine JL.callR ca_26 rfl (cons_fn hk hz) rfl ?_
   rintro _ h5 hle5 ⟨w5, rfl, hNd5⟩
   replace hl := hl.mono hle5
   replace hk := hk.mono hle5
   replace hT := hT.mono hle5
   refine JL.alloc zr_25 rfl (fun b6 => ?_)
   refine JL.alloc zr_25 rfl (fun b7 => ?_)
   refine JL.storeA ag_25 rfl rfl (by repeat (first | exact Del.here | apply Del.there)) (by first | rfl | exact NdR.all1 (by assumption)) (by first | rfl | assumption | exact NdR.len5 (by assumption)) (by first | rfl | exact NdR.len5 (by assumption)) ?_
   refine JL.storeA ag_25 rfl rfl (by repeat (first | exact Del.here | apply Del.there)) (by first | rfl | exact NdR.all1 (by assumption)) (by first | rfl | assumption | exact NdR.len5 (by assumption)) (by first | rfl | exact NdR.len5 (by assumption)) ?_
   refine Nk [10, 9, 8, 0, 1, 2, 3] rfl ?_
   refine J.seq ?_
   refine Sr ?_
   refine JL.op (RunV.ownA ag_25 rfl (by repeat (first | exact List.mem_cons_self .. | apply List.mem_cons_of_mem)) (by first | rfl | exact NdR.len5 (by assumption))) rfl ?_
   refine Ru 2 rfl ?_
   refine JL.op (RunV.build (cs := [.int .i64 0, _, .bool false, _, .slice none 0 0]) pl_25 rfl rfl) rfl ?_
   refine JL.callB ca_17 rfl (by repeat (first | exact List.mem_cons_self .. | apply List.mem_cons_of_mem)) rfl rfl (by omega) (fun h9 hle9 hS9 => same_fn' (NdR.of (bs := l) hS9 SlR.nil_) (NdR.of (bs := l) (hl.mono hle9) SlR.nil_)) rfl ?_
   refine Ru 2 rfl ?_
   apply On 35 43 8 [9, 8, 2] rfl rfl
   rotate_left
   ·
    intro hb9 hc9
    refine JL.opg rfl rfl  (RunV.ownA ag_25 rfl (by repeat (first | exact List.mem_cons_self .. | apply List.mem_cons_of_mem)) (by first | rfl | exact NdR.len5 (by assumption))) rfl ?_
    refine Ru 3 rfl ?_
    refine JL.opg rfl rfl  (RunV.build (cs := [_, _, _, .slice none 0 0, _]) pl_25 rfl rfl) rfl ?_
    refine JL.callPg rfl rfl  ca_17 rfl (same_fn' (by assumption) (NdR.of SlR.nil_ hk)) rfl ?_
    refine Ru 2 rfl ?_
    exact Ae (om_f hb9 rfl) rfl
   rotate_right
   ·
    exact fun hb9 _ => Ru 8 rfl (Ae (om_t hb9 rfl) rfl)
   refine JL.nil ?_
   refine Cs rfl (fun hc11 => ?_) fun hc11 => ?_
   ·
    exfalso; simp [(Nd.beq_iff _ _).2 rfl] at hc11
   refine J.skip ?_
   refine Sr ?_
   refine Ru 1 rfl ?_
   refine JL.call ca_20 rfl (copied_fn (by assumption)) (by repeat first | exact Parts.nil | exact Del.here | apply Del.there | apply Parts.cons) rfl ?_
   rintro _ h12 Lo12 hle12 ⟨qa, qc, rfl, rfl⟩
   replace hl := hl.mono hle12
   replace hk := hk.mono hle12
   replace hT := hT.mono hle12
   replace hNd5 := hNd5.mono hle12
   refine JL.pub (R := u8R) (l := l) (by repeat (first | exact Del.here | apply Del.there)) CellsR.of_u8 rfl (by first | omega | (simp only [List.length_append, List.length_cons, List.length_nil]; omega)) (fun h13 hle13 hP13 => ?_)
   replace hl := hl.mono hle13
   replace hk := hk.mono hle13
   replace hT := hT.mono hle13
   replace hNd5 := hNd5.mono hle13
   refine Ru 1 rfl ?_
   refine JL.nil ?_
   refine J.seq ?_
   refine Sr ?_
   refine JL.ents [.blk b6 _ _, .row _ _ _ _ _ _] (by repeat first | exact Parts.nil | exact Del.here | apply Del.there | apply Parts.cons) ?_
   refine Ru 1 rfl ?_
   refine JL.nil ?_
   refine J.block ?_
   refine J.loop (fun t_ S_ h_ L_ => ∃ (i : Nat) (l' : List UInt8) (pa : Option Addr) (pc : Nat), t_ = l.length - i ∧ S_ = [(2, .slice a l.length c), (9, .pointer (some ⟨b6, 0, none⟩)), (11, .slice qa l.length qc), (12, .int .i64 i)] ∧ h13 = h_ ∧ L_ = [.blk b6 25 [.int .i64 0, .int .i64 t, .bool false, .slice pa l.length pc, .slice none 0 0], .row pa pc 5 1 l.length (u8s l')] ∧ (i ≤ l.length ∧ l'.length = l.length)) ⟨_, _, ?_, ⟨0, l, _, _, rfl, rfl, rfl, rfl, ⟨by omega, rfl⟩⟩⟩ ?_
   ·
    repeat (first | exact trivial | refine ⟨rfl, ?_⟩)
   rintro _ _ _ _ ⟨i, l', pa, pc, rfl, rfl, rfl, rfl, hi, hl'⟩
   refine J.seq ?_
   refine Sr ?_
   refine Ru 2 rfl ?_
   refine JL.op (RunV.own1 ag_22 rfl (by repeat (first | exact List.mem_cons_self .. | apply List.mem_cons_of_mem)) rfl) rfl ?_
   refine Ru 2 rfl ?_
   refine JL.nil ?_
   refine Cs rfl (fun hc14 => ?_) fun hc14 => ?_
   ·
    refine J.rowsome (a := pa) (by repeat (first | exact List.mem_cons_self .. | apply List.mem_cons_of_mem)) (by omega) (fun g hg => ?_); subst hg; have hi' : i < l'.length := by omega
    refine J.skip ?_
    refine J.seq ?_
    refine J.block ?_
    refine J.held ([.blk b6 25 [.int .i64 0, .int .i64 t, .bool false, .slice (some ⟨g, 0, none⟩) l.length pc, .slice none 0 0]]) 11 mixed_ rfl (fun h00 => ?_)
    refine JH.take 0 rfl (by kernel_rfl) (by kernel_rfl) (by kernel_rfl) (fun _ _ _ _ hh => hh) (Ok.bridge (by repeat first | exact Parts.nil | exact Del.here | apply Del.there | apply Parts.cons) (by first | exact Part.le.refl _ | assumption) h00) (by first | exact RunV.fieldAt0 fo_25_3 rfl | exact RunV.fieldAt fo_25_3 rfl) rfl ?_
    refine JH.take 1 rfl (by kernel_rfl) (by kernel_rfl) (by kernel_rfl) (fun _ _ _ _ hh => hh) (Ok.bridge (by repeat first | exact Parts.nil | exact Del.here | apply Del.there | apply Parts.cons) (by first | exact Part.le.refl _ | assumption) h00) (RunV.own1 ag_22 rfl (by repeat (first | exact List.mem_cons_self .. | apply List.mem_cons_of_mem)) rfl) rfl ?_
    refine JH.take 2 rfl (by kernel_rfl) (by kernel_rfl) (by kernel_rfl) (fun _ _ _ _ hh => hh) (Ok.bridge (by repeat first | exact Parts.nil | exact Del.here | apply Del.there | apply Parts.cons) (by first | exact Part.le.refl _ | assumption) h00) (RunV.move rfl) rfl ?_
    refine JH.take 3 rfl (by kernel_rfl) (by kernel_rfl) (by kernel_rfl) (fun _ _ _ _ hh => hh) (Ok.bridge (by repeat first | exact Parts.nil | exact Del.here | apply Del.there | apply Parts.cons) (by first | exact Part.le.refl _ | assumption) h00) (by first | exact RunV.fieldAt0 fo_25_3 rfl | exact RunV.fieldAt fo_25_3 rfl) rfl ?_
    refine JH.take 4 rfl (by kernel_rfl) (by kernel_rfl) (by kernel_rfl) (fun _ _ _ _ hh => hh) (Ok.bridge (by repeat first | exact Parts.nil | exact Del.here | apply Del.there | apply Parts.cons) (by first | exact Part.le.refl _ | assumption) h00) (RunV.own1 ag_22 rfl (by repeat (first | exact List.mem_cons_self .. | apply List.mem_cons_of_mem)) rfl) rfl ?_
    refine JH.take 5 rfl (by kernel_rfl) (by kernel_rfl) (by kernel_rfl) (fun _ _ _ _ hh => hh) (Ok.bridge (by repeat first | exact Parts.nil | exact Del.here | apply Del.there | apply Parts.cons) (by first | exact Part.le.refl _ | assumption) h00) (RunV.move rfl) rfl ?_
    refine JH.take 6 rfl (by kernel_rfl) (by kernel_rfl) (by kernel_rfl) (fun _ _ _ _ hh => hh) (Ok.bridge (by repeat first | exact Parts.nil | exact Del.here | apply Del.there | apply Parts.cons) (by first | exact Part.le.refl _ | assumption) h00) (RunV.index_at sl_22 rfl rfl (by first | with_reducible rfl | exact (Int.toNat_of_nonneg (by omega)).symm) (by omega)) rfl ?_
    refine JH.all1 7 (by kernel_rfl) rfl ?_
    unfold One
    refine JL.op (RunV.rowload ag_5 rfl (by repeat (first | exact List.mem_cons_self .. | apply List.mem_cons_of_mem)) (show (u8s l')[i]? = some (.int .u8 ((l'[i]'hi').toNat : Int)) from by simp [u8s, hi'])) rfl ?_
    refine JL.nil ⟨(Ok.bridge (by repeat first | exact Parts.nil | exact Del.here | apply Del.there | apply Parts.cons) (by first | exact Part.le.refl _ | assumption) h00), ?_⟩
    refine JH.take 8 rfl (by kernel_rfl) (by kernel_rfl) (by kernel_rfl) (fun _ _ _ _ hh => hh) (Ok.bridge (by repeat first | exact Parts.nil | exact Del.here | apply Del.there | apply Parts.cons) (by first | exact Part.le.refl _ | assumption) h00) (RunV.addb_u8 rfl rfl) rfl ?_
    refine JH.take 9 rfl (by kernel_rfl) (by kernel_rfl) (by kernel_rfl) (fun _ _ _ _ hh => hh) (Ok.bridge (by repeat first | exact Parts.nil | exact Del.here | apply Del.there | apply Parts.cons) (by first | exact Part.le.refl _ | assumption) h00) (RunV.index_at sl_22 rfl rfl (by first | with_reducible rfl | exact (Int.toNat_of_nonneg (by omega)).symm) (by omega)) rfl ?_
    refine JH.all1 10 (by kernel_rfl) rfl ?_
    unfold One
    refine JL.storeRow ag_5 rfl rfl rfl (by repeat (first | exact Del.here | apply Del.there)) (show i < (u8s l').length by rw [u8s_length]; exact hi') ?_; rw [u8s_set]
    refine JL.nil ⟨(Ok.bridge (by repeat first | exact Parts.nil | exact Del.here | apply Del.there | apply Parts.cons) (by first | exact Part.le.refl _ | assumption) h00), ?_⟩
    refine JH.done (by kernel_rfl) ?_
    refine Rg ?_
    refine JL.ents [.blk b6 _ _, .row _ _ _ _ _ _] (by repeat first | exact Parts.nil | exact Del.here | apply Del.there | apply Parts.cons) ?_
    refine Ru 1 rfl ?_
    refine JL.op (by first | exact RunV.add_i64 rfl rfl (by omega) (by omega) | exact RunV.add rfl rfl) rfl ?_
    refine Ru 1 rfl ?_
    refine JL.nil ?_
    refine ⟨_, ?_, _, ?_, ⟨i + 1, _, _, _, rfl, rfl, rfl, rfl, ⟨by omega, by rw [List.length_set]; exact hl'⟩⟩⟩
    ·
     omega
    ·
     repeat (first | exact trivial | refine ⟨rfl, ?_⟩)
   ·
    refine J.exit ?_
    refine Kp [2, 11] rfl ?_
    refine Sr ?_
    refine Ru 2 rfl ?_
    refine JL.callP ca_18 rfl (samebytes_fn (by assumption) (by assumption)) rfl ?_
    refine Ru 1 rfl ?_
    apply An 66 68 2 [] rfl rfl
    ·
     intro hb17 hc17
     refine JL.callPg rfl rfl  ca_14 rfl (kn_fn (by assumption)) rfl ?_
     refine Ru 1 rfl ?_
     exact Ae (am_t hb17 rfl) rfl
    ·
     exact fun hb17 _ => Ru 2 rfl (Ae (am_f hb17 rfl) rfl)
    refine Ru 1 rfl ?_
    refine JL.nil ?_
    first | exact J.retV (RetV.one rfl rfl) rfl | exact J.retV (RetV.one rfl rfl) (by simp [*])
end Go.Proofs.YtbmlbefpnieglaaDoor
