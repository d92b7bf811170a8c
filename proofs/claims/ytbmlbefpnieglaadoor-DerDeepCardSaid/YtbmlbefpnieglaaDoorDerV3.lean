/- Walks: the law DerDeep. -/
import Derived.Test.YtbmlbefpnieglaaDoorDerK
import Derived.Test.YtbmlbefpnieglaaDoorSha
import Derived.Test.YtbmlbefpnieglaaDoorMk
import Derived.Test.YtbmlbefpnieglaaDoorDerL3
set_option linter.unusedSimpArgs false
set_option linter.unusedVariables false
set_option linter.constructorNameAsVariable false
namespace Go.Proofs.YtbmlbefpnieglaaDoor
open Go Go.RowKit
set_option maxRecDepth 100000
theorem ca_14 : callT Tryd.prog 14 = true := by kernel_rfl
theorem ca_18 : callT Tryd.prog 18 = true := by kernel_rfl
theorem ca_19 : callT Tryd.prog 19 = true := by kernel_rfl

theorem ddeep_fn {n : Int} {ctx : Bool} {h : Part} (h0 : -9223372036854775808 ≤ n) (h1 : n ≤ 9223372036854775807) (hT : Tabs h) : Pure Tryd.prog 5 [.int .i64 n, .bool ctx] h (.bool true) := by
  obtain ⟨k, hk⟩ : ∃ k : Nat, amongI n 50 = k := ⟨_, (Int.toNat_of_nonneg (amongI_bd n 50 (by decide)).1).symm⟩
  have hA := amongI_bd n 50 (by decide)
  rw [hk] at hA
  obtain ⟨c, t, hct, hce, hte⟩ : ∃ c t : Int, chOk c t ∧ c = (if ctx then 2 else 0) ∧ t = (if ctx then 3 else 16) := ⟨_, _, by cases ctx <;> simp [chOk], rfl, rfl⟩
  refine Pure.ofV ?_
  refine Fn.intro Tryd.func5 rfl Tryd.ntmps5 rfl (fun e he => ?_)
  refine J.weak [(0, _), (1, _)] ⟨rfl, rfl, trivial⟩ ?_
  have hh0 := Part.le.refl h
  refine Sr ?_
  refine Ru 1 rfl ?_
  refine JL.nil ?_
  refine Sr ?_
  refine Ru 1 rfl ?_
  refine JL.callP ca_19 rfl (among_fn _ _ _ (by omega) (by omega) (by omega)) rfl ?_
  rw [hk]
  refine JL.op (by first | exact RunV.add_i64 rfl rfl (by omega) (by omega) | exact RunV.add rfl rfl) rfl ?_
  refine Ru 1 rfl ?_
  refine JL.nil ?_
  refine Sr ?_
  refine Ru 2 rfl ?_
  refine JL.nil ?_
  refine J.seq ?_
  refine Sr ?_
  refine Ru 1 rfl ?_
  refine Nk [18, 6, 5, 0, 4] rfl ?_
  refine J.meet [(5, .int .i64 c), (6, .int .i64 t)] [(0, _), (4, _)] ⟨rfl, rfl, trivial⟩ ?_ ?_
  ·
   refine Cs rfl (fun hc2 => ?_) fun hc2 => ?_
   ·
    refine Rg ?_
    refine Ru 2 rfl ?_
    refine JL.nil ?_
    refine ⟨rfl, rfl, ?_⟩
    repeat (first | exact trivial | refine ⟨rfl, ?_⟩ | refine ⟨(by exact some_int (by simp_all)), ?_⟩)
   ·
    refine J.skip ?_
    refine ⟨rfl, rfl, ?_⟩
    repeat (first | exact trivial | refine ⟨rfl, ?_⟩ | refine ⟨(by exact some_int (by simp_all)), ?_⟩)
  ·
   refine Sr ?_
   refine JL.op (RunV.build (cs := [.int .i64 0, _, .bool false, .slice none 0 0, .slice none 0 0]) pl_25 rfl rfl) rfl ?_
   refine JL.alloc zr_25 rfl (fun b3 => ?_)
   refine JL.storeA ag_25 rfl rfl (by repeat (first | exact Del.here | apply Del.there)) (by first | rfl | exact NdR.all1 (by assumption)) (by first | rfl | assumption | exact NdR.len5 (by assumption)) (by first | rfl | exact NdR.len5 (by assumption)) ?_
   refine JL.nil ?_
   refine Sr ?_
   refine JL.lit1 ap_22 zr_5 rfl rfl rfl rfl rfl (fun b4 => ?_)
   refine JL.pubB (R := u8R) (sz := 1) (l := [5, 0]) (by repeat (first | exact Del.here | apply Del.there)) (cells_lit (by first | kernel_rfl | rfl)) (by first | decide | omega | (simp; done)) (fun h5 hle5 hB0 => ?_)
   replace hT := hT.mono hle5
   replace hh0 := hh0.mono hle5
   refine Ru 1 rfl ?_
   refine JL.nil ?_
   refine J.seq ?_
   refine Sr ?_
   refine Ru 1 rfl ?_
   refine JL.nil ?_
   refine J.block ?_
   refine J.loop (fun t_ S_ h_ L_ => ∃ (g : Part) (i : Nat) (cs : List Value) (ab : Option Addr) (cb : Nat), t_ = k - i ∧ S_ = [(0, .int .i64 (1 + (k : Int))), (5, .int .i64 c), (6, .int .i64 t), (7, .pointer (some ⟨b3, 0, none⟩)), (8, .slice ab (chB c t i).length cb), (9, .int .i64 ((i : Int) + 1))] ∧ g = h_ ∧ L_ = [.blk b3 25 cs] ∧ (h.le g ∧ Tabs g ∧ i ≤ k ∧ NdR g cs (chain c t i) ∧ SlR u8R 1 g ab cb (chB c t i))) ⟨_, _, ?_, ⟨_, 0, _, _, _, rfl, rfl, rfl, rfl, ⟨by assumption, by assumption, by omega, NdR.of SlR.nil_ SlR.nil_, hB0⟩⟩⟩ ?_
   ·
    repeat (first | exact trivial | refine ⟨rfl, ?_⟩)
   rintro _ _ _ _ ⟨g, i, cs, ab, cb, rfl, rfl, rfl, rfl, hhg, hT, hi, hNd, hB⟩
   have hlB := chB_len c t i; have hlB2 := chB_len c t (i + 1); have hct' := hct; unfold chOk at hct'
   refine J.seq ?_
   refine Sr ?_
   refine Ru 3 rfl ?_
   refine JL.nil ?_
   refine Cs rfl (fun hc6 => ?_) fun hc6 => ?_
   ·
    refine J.skip ?_
    refine J.seq ?_
    refine J.block ?_
    refine Sr ?_
    refine Ru 2 rfl ?_
    refine JL.op (RunV.ownA ag_25 rfl (by repeat (first | exact List.mem_cons_self .. | apply List.mem_cons_of_mem)) (by first | rfl | exact NdR.len5 (by assumption))) rfl ?_
    refine JL.litA ap_23 rfl (by first | rfl | exact NdR.len5 (by assumption)) rfl rfl (fun b7 => ?_)
    refine JL.pubB (R := NdR) (sz := 5) (l := [chain c t i]) (by repeat (first | exact Del.here | apply Del.there)) (CellsR.one hNd hNd.len5) (by first | decide | omega | (simp; done)) (fun h8 hle8 hK => ?_)
    replace hhg := hhg.mono hle8
    replace hT := hT.mono hle8
    replace hNd := hNd.mono hle8
    replace hB := hB.mono hle8
    refine JL.op (RunV.build (cs := [_, _, _, .slice none 0 0, _]) pl_25 rfl rfl) rfl ?_
    refine JL.storeA ag_25 rfl rfl (by repeat (first | exact Del.here | apply Del.there)) (by first | rfl | exact NdR.all1 (by assumption)) (by first | rfl | assumption | exact NdR.len5 (by assumption)) (by first | rfl | exact NdR.len5 (by assumption)) ?_
    refine JL.nil ?_
    refine Sr ?_
    refine Ru 1 rfl ?_
    refine JL.op (by first | exact RunV.mul_i64 rfl rfl (by omega) (by omega) | exact RunV.mul rfl rfl) rfl ?_
    refine JL.op (by first | exact RunV.add_i64 rfl rfl (by omega) (by omega) | exact RunV.add rfl rfl) rfl ?_
    refine Ru 1 rfl ?_
    refine JL.op (by first | exact RunV.add_i64 rfl rfl (by omega) (by omega) | exact RunV.add rfl rfl) rfl ?_
    refine JL.op (RunV.toByte (64 * c + 32 + t).toNat cv_3_5 rfl (by omega)) rfl ?_
    refine Ru 2 rfl ?_
    refine JL.op (RunV.toByte (chB c t i).length cv_3_5 rfl rfl) rfl ?_
    refine JL.lit1 ap_22 zr_5 rfl rfl rfl rfl rfl (fun b9 => ?_)
    refine Ru 1 rfl ?_
    refine JL.nil ?_
    refine Rg ?_
    refine Ru 2 rfl ?_
    refine JL.rowL (l := [UInt8.ofNat (64 * c + 32 + t).toNat, UInt8.ofNat (chB c t i).length]) (b := b9) (by repeat (first | exact Del.here | apply Del.there)) (by first | rfl | kernel_rfl) (by first | decide | (simp; done)) ?_
    refine JL.append ap_22 rfl rfl CellsR.of_u8 rfl (by assumption) rfl (by repeat (first | exact Del.here | apply Del.there)) (by first | omega | (simp only [List.length_append, List.length_cons, List.length_nil]; omega)) rfl rfl (fun a10 c10 xs10 hC10 hN10 => ?_)
    obtain rfl := hC10.u8
    refine Ru 1 rfl ?_
    refine JL.pub (R := u8R) (l := chB c t (i + 1)) (by repeat (first | exact Del.here | apply Del.there)) CellsR.of_u8 rfl (by first | omega | (simp only [List.length_append, List.length_cons, List.length_nil]; omega)) (fun h11 hle11 hP11 => ?_)
    replace hhg := hhg.mono hle11
    replace hT := hT.mono hle11
    replace hNd := hNd.mono hle11
    replace hB := hB.mono hle11
    replace hK := hK.mono hle11
    refine JL.nil ?_
    refine Rg ?_
    refine Ru 1 rfl ?_
    refine JL.op (by first | exact RunV.add_i64 rfl rfl (by omega) (by omega) | exact RunV.add rfl rfl) rfl ?_
    refine Ru 1 rfl ?_
    refine JL.nil ?_
    refine ⟨_, ?_, _, ?_, ⟨_, i + 1, _, _, _, rfl, rfl, rfl, rfl, ⟨by assumption, by assumption, by omega, NdR.of SlR.nil_ (by assumption), by assumption⟩⟩⟩
    ·
     omega
    ·
     repeat (first | exact trivial | refine ⟨rfl, ?_⟩)
   ·
    have hik : i = k := (by omega); subst hik; have hcw := chain_wr hct i (by omega); have hcr := chain_rd hct i (by omega); have hsz := chain_sz c t i; obtain ⟨wb, we, hw⟩ : ∃ b e, (chain c t i).wr = (b, e) := ⟨_, _, rfl⟩; obtain ⟨m, fa, fc, hr⟩ : ∃ m a b, rdTop (chB c t i) = (m, a, b) := ⟨_, _, _, rfl⟩; have hbb := (Nd.beq_iff (chain c t i) (chain c t i)).2 rfl
    refine J.exit ?_
    refine Kp [0, 7, 8] rfl ?_
    refine Sr ?_
    refine JL.op (RunV.ownA ag_25 rfl (by repeat (first | exact List.mem_cons_self .. | apply List.mem_cons_of_mem)) (by first | rfl | exact NdR.len5 (by assumption))) rfl ?_
    refine JL.callR ca_15 rfl (write_at hw hNd hT (by omega)) rfl ?_
    rintro _ h12 hle12 ⟨wa, wc, rfl, hW⟩
    replace hhg := hhg.mono hle12
    replace hT := hT.mono hle12
    replace hNd := hNd.mono hle12
    replace hB := hB.mono hle12
    refine Ru 5 rfl ?_
    refine Nk [12, 11, 0, 7, 8] rfl ?_
    refine Sr ?_
    refine Ru 1 rfl ?_
    refine JL.callR ca_16 rfl (read_at hr hB hT) rfl ?_
    rintro _ h13 hle13 ⟨w2, rfl, hNd2⟩
    replace hhg := hhg.mono hle13
    replace hT := hT.mono hle13
    replace hNd := hNd.mono hle13
    replace hB := hB.mono hle13
    replace hW := hW.mono hle13
    refine Ru 3 rfl ?_
    refine JL.alloc zr_25 rfl (fun b14 => ?_)
    refine JL.alloc zr_32 rfl (fun b15 => ?_)
    refine JL.storeA ag_25 rfl rfl (by repeat (first | exact Del.here | apply Del.there)) (by first | rfl | exact NdR.all1 (by assumption)) (by first | rfl | assumption | exact NdR.len5 (by assumption)) (by first | rfl | exact NdR.len5 (by assumption)) ?_
    refine JL.storeA ag_32 rfl rfl (by repeat (first | exact Del.here | apply Del.there)) (by first | rfl) (by first | rfl | assumption) (by first | rfl) ?_
    refine Nk [14, 13, 12, 11, 0, 7, 8] rfl ?_
    refine J.seq ?_
    refine Sr ?_
    refine Ru 2 rfl ?_
    refine JL.nil ?_
    refine Cs rfl (fun hc16 => ?_) fun hc16 => ?_
    ·
     rw [if_pos (by omega)] at hcw hcr; rw [hcw] at hw; rw [hcr] at hr; injection hw with q1 q2; injection hr with q3 q4; injection q4 with q4 q5; subst q1 q2 q3 q4 q5
     refine Sr ?_
     refine Ru 3 rfl ?_
     apply An 58 62 4 [14, 13, 12, 11, 7, 8] rfl rfl
     ·
      intro hb17 hc17
      refine Ru 4 rfl ?_
      exact Ae (am_t hb17 rfl) rfl
     ·
      exact fun hb17 _ => Ru 4 rfl (Ae (am_f hb17 rfl) rfl)
     refine Ru 1 rfl ?_
     apply An 63 67 4 [14, 13, 12, 11, 7, 8] rfl rfl
     ·
      intro hb18 hc18
      refine JL.opg rfl rfl  (RunV.ownA ag_32 rfl (by repeat (first | exact List.mem_cons_self .. | apply List.mem_cons_of_mem)) (by first | rfl)) rfl ?_
      refine JL.opg rfl rfl  (RunV.build (cs := [_, _]) pl_32 rfl rfl) rfl ?_
      refine JL.opg rfl rfl  (RunV.eql2 e2_32 rfl rfl) rfl ?_
      refine Ru 1 rfl ?_
      exact Ae (am_t hb18 rfl) rfl
     ·
      exact fun hb18 _ => Ru 4 rfl (Ae (am_f hb18 rfl) rfl)
     refine Ru 1 rfl ?_
     apply An 68 70 2 [14, 13, 12, 11, 7, 8] rfl rfl
     ·
      intro hb19 hc19
      refine JL.callPg rfl rfl  ca_14 rfl (kn_fn (by assumption)) rfl ?_
      refine Ru 1 rfl ?_
      exact Ae (am_t hb19 rfl) rfl
     ·
      exact fun hb19 _ => Ru 2 rfl (Ae (am_f hb19 rfl) rfl)
     refine Ru 1 rfl ?_
     refine JL.nil ?_
     first | exact J.retV (RetV.one rfl rfl) rfl | exact J.retV (RetV.one rfl rfl) (by simp [hbb])
    ·
     rw [if_neg (by omega)] at hcw hcr; rw [hcw] at hw; rw [hcr] at hr; injection hw with q1 q2; injection hr with q3 q4; injection q4 with q4 q5; subst q1 q2 q3 q4 q5
     refine J.skip ?_
     refine Sr ?_
     refine Ru 3 rfl ?_
     apply An 73 77 4 [14, 13, 7] rfl rfl
     ·
      intro hb21 hc21
      refine Ru 2 rfl ?_
      refine JL.callPg rfl rfl  ca_18 rfl (samebytes_fn (by assumption) (by assumption)) rfl ?_
      refine Ru 1 rfl ?_
      exact Ae (am_t hb21 rfl) rfl
     ·
      exact fun hb21 _ => Ru 4 rfl (Ae (am_f hb21 rfl) rfl)
     refine Ru 1 rfl ?_
     apply An 78 82 4 [13, 7] rfl rfl
     ·
      intro hb23 hc23
      refine JL.opg rfl rfl  (RunV.ownA ag_32 rfl (by repeat (first | exact List.mem_cons_self .. | apply List.mem_cons_of_mem)) (by first | rfl)) rfl ?_
      refine JL.opg rfl rfl  (RunV.build (cs := [.int .i64 0, .int .i64 0]) pl_32 rfl rfl) rfl ?_
      refine JL.opg rfl rfl  (RunV.eql2 e2_32 rfl rfl) rfl ?_
      refine Ru 1 rfl ?_
      exact Ae (am_t hb23 rfl) rfl
     ·
      exact fun hb23 _ => Ru 4 rfl (Ae (am_f hb23 rfl) rfl)
     refine Ru 1 rfl ?_
     apply An 83 87 4 [] rfl rfl
     ·
      intro hb24 hc24
      refine JL.opg rfl rfl  (RunV.ownA ag_25 rfl (by repeat (first | exact List.mem_cons_self .. | apply List.mem_cons_of_mem)) (by first | rfl | exact NdR.len5 (by assumption))) rfl ?_
      refine JL.opg rfl rfl  (RunV.ownA ag_25 rfl (by repeat (first | exact List.mem_cons_self .. | apply List.mem_cons_of_mem)) (by first | rfl | exact NdR.len5 (by assumption))) rfl ?_
      refine JL.callPg rfl rfl  ca_17 rfl (same_fn' (by assumption) (by assumption)) rfl ?_
      refine Ru 1 rfl ?_
      exact Ae (am_t hb24 rfl) rfl
     ·
      exact fun hb24 _ => Ru 4 rfl (Ae (am_f hb24 rfl) rfl)
     refine Ru 1 rfl ?_
     apply An 88 90 2 [] rfl rfl
     ·
      intro hb26 hc26
      refine JL.callPg rfl rfl  ca_14 rfl (kn_fn (by assumption)) rfl ?_
      refine Ru 1 rfl ?_
      exact Ae (am_t hb26 rfl) rfl
     ·
      exact fun hb26 _ => Ru 2 rfl (Ae (am_f hb26 rfl) rfl)
     refine Ru 1 rfl ?_
     refine JL.nil ?_
     first | exact J.retV (RetV.one rfl rfl) rfl | exact J.retV (RetV.one rfl rfl) (by simp [hbb])
end Go.Proofs.YtbmlbefpnieglaaDoor
