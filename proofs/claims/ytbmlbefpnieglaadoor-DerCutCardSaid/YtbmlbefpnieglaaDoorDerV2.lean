/- Walks: the law DerCut. -/
import Derived.Test.YtbmlbefpnieglaaDoorDerK
import Derived.Test.YtbmlbefpnieglaaDoorSha
set_option linter.unusedSimpArgs false
set_option linter.unusedVariables false
set_option linter.constructorNameAsVariable false
namespace Go.Proofs.YtbmlbefpnieglaaDoor
open Go Go.RowKit
set_option maxRecDepth 100000
theorem ag_28 : aggT Tryd.prog 28 = some none := by kernel_rfl
theorem ca_13 : callT Tryd.prog 13 = true := by kernel_rfl
theorem ca_14 : callT Tryd.prog 14 = true := by kernel_rfl
theorem ca_19 : callT Tryd.prog 19 = true := by kernel_rfl
theorem ca_20 : callT Tryd.prog 20 = true := by kernel_rfl

theorem wr_ok {x : Nd} (h : x.wr.2 = 0) : x.put = some x.wr.1 ∧ x.rk ≤ 32 ∧ x.wr.1.length ≤ 16777216 ∧ 2 ≤ x.wr.1.length ∧ x.wr.1.length ≤ 8 * x.sz := by
  rcases wr_cases x with ⟨_, h1, h2, h3⟩ | hh
  · have := Nd.put_len _ x _ (Nat.le_refl _) h1
    exact ⟨h1, h2, h3, this.1, this.2⟩
  · exact absurd h hh
theorem dcut_fn {x : Nd} {cs : List Value} {n : Int} {a : Option Addr} {c : Nat} {l : List UInt8} {h : Part} (r : NdR h cs x) (h0 : -9223372036854775808 ≤ n) (h1 : n ≤ 9223372036854775807) (hl : SlR u8R 1 h a c l) (hT : Tabs h) : Pure Tryd.prog 4 [.agg cs.toArray, .int .i64 n, .slice a l.length c] h (.bool true) := by
  have hb := hl.big
  have hgr := fun hh => greatB_ok r.okB hh
  refine Pure.ofV ?_
  refine Fn.intro Tryd.func4 rfl Tryd.ntmps4 rfl (fun e he => ?_)
  refine J.weak [(0, _), (1, _), (2, _)] ⟨rfl, rfl, rfl, trivial⟩ ?_
  refine Sr ?_
  refine JL.box rfl rfl rfl (fun b1 => ?_)
  refine Ru 1 rfl ?_
  refine JL.nil ?_
  refine J.seq ?_
  refine Sr ?_
  refine JL.op (RunV.ownA ag_25 rfl (by repeat (first | exact List.mem_cons_self .. | apply List.mem_cons_of_mem)) (by first | rfl | exact NdR.len5 (by assumption))) rfl ?_
  refine JL.callP ca_13 rfl (great_fn (by assumption)) rfl ?_
  refine Ru 1 rfl ?_
  apply On 15 19 4 [6, 3, 1, 2] rfl rfl
  rotate_left
  ·
   intro hb3 hc3
   refine Ru 4 rfl ?_
   exact Ae (om_f hb3 rfl) rfl
  rotate_right
  ·
   exact fun hb3 _ => Ru 4 rfl (Ae (om_t hb3 rfl) rfl)
  refine JL.nil ?_
  refine Cs rfl (fun hc4 => ?_) fun hc4 => ?_
  ·
   refine Sr ?_
   refine JL.callP ca_14 rfl (kn_fn (by assumption)) rfl ?_
   refine Ru 1 rfl ?_
   refine JL.nil ?_
   first | exact J.retV (RetV.one rfl rfl) rfl | exact J.retV (RetV.one rfl rfl) (by simp)
  ·
   obtain ⟨hgx, hl1⟩ := hc4; have hsz := (hgr hgx).1
   refine J.skip ?_
   refine Sr ?_
   refine JL.op (RunV.ownA ag_25 rfl (by repeat (first | exact List.mem_cons_self .. | apply List.mem_cons_of_mem)) (by first | rfl | exact NdR.len5 (by assumption))) rfl ?_
   refine JL.callR ca_15 rfl (write_fn (by assumption) (by assumption) (by omega)) rfl ?_
   rintro _ h6 hle6 ⟨a6, c6, rfl, hS6⟩
   replace r := r.mono hle6
   replace hl := hl.mono hle6
   replace hT := hT.mono hle6
   refine Ru 5 rfl ?_
   refine Nk [8, 7, 6, 1, 2] rfl ?_
   refine J.seq ?_
   refine Sr ?_
   refine Ru 2 rfl ?_
   refine JL.nil ?_
   refine Cs rfl (fun hc7 => ?_) fun hc7 => ?_
   ·
    refine Sr ?_
    refine JL.callP ca_14 rfl (kn_fn (by assumption)) rfl ?_
    refine Ru 1 rfl ?_
    refine Nk [6, 7, 1, 2] rfl ?_
    first | exact J.retV (RetV.one rfl rfl) rfl | exact J.retV (RetV.one rfl rfl) (by simp)
   ·
    have hE : x.wr.2 = 0 := hc7; obtain ⟨hw1, hw2, hw3, hw4, hw5⟩ := wr_ok hE
    refine J.skip ?_
    refine J.seq ?_
    refine Sr ?_
    refine Ru 3 rfl ?_
    refine Nk [31, 7, 6, 1, 2] rfl ?_
    refine Cs rfl (fun hc9 => ?_) fun hc9 => ?_
    ·
     exfalso; omega
    refine J.skip ?_
    refine Sr ?_
    have hA := amongI_bd n x.wr.1.length (by omega); obtain ⟨k, hk⟩ : ∃ k : Nat, amongI n x.wr.1.length = k := ⟨_, (Int.toNat_of_nonneg hA.1).symm⟩; rw [hk] at hA; obtain ⟨m1, fa1, fc1, hr1⟩ : ∃ m a c, rdTop (x.wr.1.take k) = (m, a, c) := ⟨_, _, _, rfl⟩; have hf1 := rdTop_cut (j := k) hE (by omega); rw [hr1] at hf1; simp only at hf1; subst hf1; obtain ⟨m2, fa2, fc2, hr2⟩ : ∃ m a c, rdTop (x.wr.1 ++ l) = (m, a, c) := ⟨_, _, _, rfl⟩
    refine Ru 4 rfl ?_
    refine JL.callP ca_19 rfl (among_fn _ _ _ (by omega) (by omega) (by omega)) rfl ?_
    rw [hk]
    refine JL.ope (RunE.cut_h sl_22 rfl rfl (by first | with_reducible rfl | exact (Int.toNat_of_nonneg (by omega)).symm) (by assumption) rfl (by omega)) rfl ?_
    rintro _ ⟨a11, c11, rfl, hS11⟩
    refine JL.callR ca_16 rfl (read_at hr1 (by assumption) hT) rfl ?_
    rintro _ h12 hle12 ⟨w1, rfl, hNd1⟩
    replace r := r.mono hle12
    replace hl := hl.mono hle12
    replace hT := hT.mono hle12
    replace hS6 := hS6.mono hle12
    replace hS11 := hS11.mono hle12
    refine Ru 3 rfl ?_
    refine JL.alloc zr_25 rfl (fun b13 => ?_)
    refine JL.alloc zr_32 rfl (fun b14 => ?_)
    refine JL.storeA ag_25 rfl rfl (by repeat (first | exact Del.here | apply Del.there)) (by first | rfl | exact NdR.all1 (by assumption)) (by first | rfl | assumption | exact NdR.len5 (by assumption)) (by first | rfl | exact NdR.len5 (by assumption)) ?_
    refine JL.storeA ag_32 rfl rfl (by repeat (first | exact Del.here | apply Del.there)) (by first | rfl) (by first | rfl | assumption) (by first | rfl) ?_
    refine Nk [10, 7, 6, 2] rfl ?_
    refine Sr ?_
    refine Ru 1 rfl ?_
    refine JL.call ca_20 rfl (copied_fn (by assumption)) (by repeat first | exact Parts.nil | exact Del.here | apply Del.there | apply Parts.cons) rfl ?_
    rintro _ h15 Lo15 hle15 ⟨a15, c15, rfl, rfl⟩
    replace r := r.mono hle15
    replace hl := hl.mono hle15
    replace hT := hT.mono hle15
    replace hS6 := hS6.mono hle15
    replace hS11 := hS11.mono hle15
    replace hNd1 := hNd1.mono hle15
    refine Ru 1 rfl ?_
    refine JL.append ap_22 rfl rfl CellsR.of_u8 rfl (by assumption) rfl (by repeat (first | exact Del.here | apply Del.there)) (by first | omega | (simp only [List.length_append, List.length_cons, List.length_nil]; omega)) rfl rfl (fun a16 c16 xs16 hC16 hN16 => ?_)
    obtain rfl := hC16.u8
    refine JL.pub (R := u8R) (l := x.wr.1 ++ l) (by repeat (first | exact Del.here | apply Del.there)) CellsR.of_u8 rfl (by first | omega | (simp only [List.length_append, List.length_cons, List.length_nil]; omega)) (fun h17 hle17 hP17 => ?_)
    replace r := r.mono hle17
    replace hl := hl.mono hle17
    replace hT := hT.mono hle17
    replace hS6 := hS6.mono hle17
    replace hS11 := hS11.mono hle17
    replace hNd1 := hNd1.mono hle17
    refine JL.callR ca_16 rfl (read_at hr2 (by assumption) hT) rfl ?_
    rintro _ h18 hle18 ⟨w2, rfl, hNd2⟩
    replace r := r.mono hle18
    replace hl := hl.mono hle18
    replace hT := hT.mono hle18
    replace hS6 := hS6.mono hle18
    replace hS11 := hS11.mono hle18
    replace hNd1 := hNd1.mono hle18
    replace hP17 := hP17.mono hle18
    refine Ru 3 rfl ?_
    refine JL.alloc zr_25 rfl (fun b19 => ?_)
    refine JL.alloc zr_32 rfl (fun b20 => ?_)
    refine JL.storeA ag_25 rfl rfl (by repeat (first | exact Del.here | apply Del.there)) (by first | rfl | exact NdR.all1 (by assumption)) (by first | rfl | assumption | exact NdR.len5 (by assumption)) (by first | rfl | exact NdR.len5 (by assumption)) ?_
    refine JL.storeA ag_32 rfl rfl (by repeat (first | exact Del.here | apply Del.there)) (by first | rfl) (by first | rfl | assumption) (by first | rfl) ?_
    refine Nk [12, 10, 7, 6, 2] rfl ?_
    refine J.seq ?_
    refine Sr ?_
    refine Ru 3 rfl ?_
    refine JL.nil ?_
    refine Cs rfl (fun hc21 => ?_) fun hc21 => ?_
    ·
     have hln : l = [] := List.eq_nil_of_length_eq_zero (by omega); have hr3 := rdTop_wr hE; rw [hln, List.append_nil, hr3] at hr2; injection hr2 with q1 q2; injection q2 with q2 q3; subst q2 q3
     refine Sr ?_
     refine Ru 1 rfl ?_
     refine JL.op (RunV.own1 ag_28 rfl (by repeat (first | exact List.mem_cons_self .. | apply List.mem_cons_of_mem)) rfl) rfl ?_
     refine Ru 2 rfl ?_
     apply An 56 60 4 [12, 10, 7, 6] rfl rfl
     ·
      intro hb22 hc22
      refine JL.opg rfl rfl  (RunV.ownA ag_32 rfl (by repeat (first | exact List.mem_cons_self .. | apply List.mem_cons_of_mem)) (by first | rfl)) rfl ?_
      refine JL.opg rfl rfl  (RunV.build (cs := [.int .i64 0, .int .i64 0]) pl_32 rfl rfl) rfl ?_
      refine JL.opg rfl rfl  (RunV.eql2 e2_32 rfl rfl) rfl ?_
      refine Ru 1 rfl ?_
      exact Ae (am_t hb22 rfl) rfl
     ·
      exact fun hb22 _ => Ru 4 rfl (Ae (am_f hb22 rfl) rfl)
     refine Ru 1 rfl ?_
     apply An 61 63 2 [12, 10, 7, 6] rfl rfl
     ·
      intro hb23 hc23
      refine JL.callPg rfl rfl  ca_14 rfl (kn_fn (by assumption)) rfl ?_
      refine Ru 1 rfl ?_
      exact Ae (am_t hb23 rfl) rfl
     ·
      exact fun hb23 _ => Ru 2 rfl (Ae (am_f hb23 rfl) rfl)
     refine Ru 1 rfl ?_
     refine JL.nil ?_
     first | exact J.retV (RetV.one rfl rfl) rfl | exact J.retV (RetV.one rfl rfl) (by simp)
    ·
     have hr3 := rdTop_more (m := l) hE (fun hh => by rw [hh] at hc21; exact hc21 rfl) (by omega); rw [hr3] at hr2; injection hr2 with q1 q2; injection q2 with q2 q3; subst q2 q3
     refine J.skip ?_
     refine Kp [12, 10, 7, 6] rfl ?_
     refine Sr ?_
     refine Ru 1 rfl ?_
     refine JL.op (RunV.own1 ag_28 rfl (by repeat (first | exact List.mem_cons_self .. | apply List.mem_cons_of_mem)) rfl) rfl ?_
     refine Ru 2 rfl ?_
     apply An 67 73 6 [6] rfl rfl
     ·
      intro hb25 hc25
      refine JL.opg rfl rfl  (RunV.ownA ag_32 rfl (by repeat (first | exact List.mem_cons_self .. | apply List.mem_cons_of_mem)) (by first | rfl)) rfl ?_
      refine Ru 2 rfl ?_
      refine JL.opg rfl rfl  (RunV.build (cs := [_, _]) pl_32 rfl rfl) rfl ?_
      refine JL.opg rfl rfl  (RunV.eql2 e2_32 rfl rfl) rfl ?_
      refine Ru 1 rfl ?_
      exact Ae (am_t hb25 rfl) rfl
     ·
      exact fun hb25 _ => Ru 6 rfl (Ae (am_f hb25 rfl) rfl)
     refine Ru 1 rfl ?_
     apply An 74 76 2 [6] rfl rfl
     ·
      intro hb26 hc26
      refine JL.callPg rfl rfl  ca_14 rfl (kn_fn (by assumption)) rfl ?_
      refine Ru 1 rfl ?_
      exact Ae (am_t hb26 rfl) rfl
     ·
      exact fun hb26 _ => Ru 2 rfl (Ae (am_f hb26 rfl) rfl)
     refine Ru 1 rfl ?_
     refine JL.nil ?_
     first | exact J.retV (RetV.one rfl rfl) rfl | exact J.retV (RetV.one rfl rfl) (by simp)
end Go.Proofs.YtbmlbefpnieglaaDoor
