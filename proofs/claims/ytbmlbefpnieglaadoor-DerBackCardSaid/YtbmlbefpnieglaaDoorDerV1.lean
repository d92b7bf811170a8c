/- Walks: the law DerBack. -/
import Derived.Test.YtbmlbefpnieglaaDoorDerK
set_option linter.unusedSimpArgs false
set_option linter.unusedVariables false
set_option linter.constructorNameAsVariable false
namespace Go.Proofs.YtbmlbefpnieglaaDoor
open Go Go.RowKit
set_option maxRecDepth 100000
theorem ag_28 : aggT Tryd.prog 28 = some none := by kernel_rfl
theorem ca_13 : callT Tryd.prog 13 = true := by kernel_rfl
theorem ca_14 : callT Tryd.prog 14 = true := by kernel_rfl
theorem ca_18 : callT Tryd.prog 18 = true := by kernel_rfl

theorem back_fn {x : Nd} {cs : List Value} {a : Option Addr} {c : Nat} {l : List UInt8} {h : Part} (r : NdR h cs x) (hl : SlR u8R 1 h a c l) (hT : Tabs h) : Pure Tryd.prog 3 [.agg cs.toArray, .slice a l.length c] h (.bool true) := by
  have hb := hl.big
  have hgr := fun hh => greatB_ok r.okB hh
  have hbb := (Nd.beq_iff x x).2 rfl
  obtain ⟨m, fa, fc, hrd⟩ : ∃ m a c, rdTop l = (m, a, c) := ⟨_, _, _, rfl⟩
  have hat := rdTop_at l
  rw [hrd] at hat
  simp only at hat
  refine Pure.ofV ?_
  refine Fn.intro Tryd.func3 rfl Tryd.ntmps3 rfl (fun e he => ?_)
  refine J.weak [(0, _), (1, _)] ⟨rfl, rfl, trivial⟩ ?_
  refine Sr ?_
  refine JL.box rfl rfl rfl (fun b1 => ?_)
  refine Ru 1 rfl ?_
  refine JL.nil ?_
  refine J.seq ?_
  refine J.seq ?_
  refine J.meet [(19, .bool (greatB x || decide ((3000 : Int) < l.length)))] [(4, _), (2, _), (1, _)] ⟨rfl, rfl, rfl, trivial⟩ ?_ ?_
  ·
   refine Rg ?_
   refine JL.op (RunV.ownA ag_25 rfl (by repeat (first | exact List.mem_cons_self .. | apply List.mem_cons_of_mem)) (by first | rfl | exact NdR.len5 (by assumption))) rfl ?_
   refine JL.callP ca_13 rfl (great_fn (by assumption)) rfl ?_
   refine Ru 1 rfl ?_
   refine Bs 15 rfl (fun hc3 => ?_) fun hc3 => ?_
   ·
    refine Ru 4 rfl ?_
    refine JL.nil ?_
    refine ⟨rfl, rfl, ?_⟩
    repeat (first | exact trivial | refine ⟨rfl, ?_⟩ | refine ⟨(by exact some_bool (by simp_all)), ?_⟩)
   ·
    refine Ru 4 rfl ?_
    refine JL.nil ?_
    refine ⟨rfl, rfl, ?_⟩
    repeat (first | exact trivial | refine ⟨rfl, ?_⟩ | refine ⟨(by exact some_bool (by simp_all)), ?_⟩)
  ·
   refine Cs rfl (fun hc4 => ?_) fun hc4 => ?_
   ·
    refine Sr ?_
    refine JL.callP ca_14 rfl (kn_fn (by assumption)) rfl ?_
    refine Ru 1 rfl ?_
    refine JL.nil ?_
    first | exact J.retV (RetV.one rfl rfl) rfl | (exfalso; revert hc4; simp; done) | (exfalso; omega)
   ·
    obtain ⟨hgx, hl3⟩ : greatB x = false ∧ l.length ≤ 3000 := (by simp only [Bool.or_eq_false_iff, decide_eq_false_iff_not] at hc4; exact ⟨hc4.1, by omega⟩); have hsz := (hgr hgx).1
    refine J.skip ?_
    refine Sr ?_
    refine JL.op (RunV.ownA ag_25 rfl (by repeat (first | exact List.mem_cons_self .. | apply List.mem_cons_of_mem)) (by first | rfl | exact NdR.len5 (by assumption))) rfl ?_
    refine JL.callR ca_15 rfl (write_fn (by assumption) (by assumption) (by omega)) rfl ?_
    rintro _ h6 hle6 ⟨a6, c6, rfl, hS6⟩
    replace r := r.mono hle6
    replace hl := hl.mono hle6
    replace hT := hT.mono hle6
    refine Ru 5 rfl ?_
    refine Nk [6, 5, 4, 2, 1] rfl ?_
    refine J.seq ?_
    refine Sr ?_
    refine Ru 2 rfl ?_
    refine JL.nil ?_
    refine Cs rfl (fun hc7 => ?_) fun hc7 => ?_
    ·
     refine Sr ?_
     refine Ru 1 rfl ?_
     refine JL.callR ca_16 rfl (read_at (rdTop_wr (by assumption)) (by assumption) hT) rfl ?_
     rintro _ h8 hle8 ⟨w1, rfl, hNd1⟩
     replace r := r.mono hle8
     replace hl := hl.mono hle8
     replace hT := hT.mono hle8
     replace hS6 := hS6.mono hle8
     refine Ru 3 rfl ?_
     refine JL.alloc zr_25 rfl (fun b9 => ?_)
     refine JL.alloc zr_32 rfl (fun b10 => ?_)
     refine JL.storeA ag_25 rfl rfl (by repeat (first | exact Del.here | apply Del.there)) (by first | rfl | exact NdR.all1 (by assumption)) (by first | rfl | assumption | exact NdR.len5 (by assumption)) (by first | rfl | exact NdR.len5 (by assumption)) ?_
     refine JL.storeA ag_32 rfl rfl (by repeat (first | exact Del.here | apply Del.there)) (by first | rfl) (by first | rfl | assumption) (by first | rfl) ?_
     refine Nk [8, 7, 4, 2, 1] rfl ?_
     refine J.seq ?_
     refine J.meet [(41, .bool false)] [(4, _), (1, _)] ⟨rfl, rfl, trivial⟩ ?_ ?_
     ·
      refine Rg ?_
      refine JL.op (RunV.ownA ag_32 rfl (by repeat (first | exact List.mem_cons_self .. | apply List.mem_cons_of_mem)) (by first | rfl)) rfl ?_
      refine JL.op (RunV.build (cs := [.int .i64 0, .int .i64 0]) pl_32 rfl rfl) rfl ?_
      refine JL.op (RunV.neq2 e2_32 rfl rfl) rfl ?_
      refine Ru 1 rfl ?_
      refine Bs 36 rfl (fun hc11 => ?_) fun hc11 => ?_
      ·
       refine Ru 5 rfl ?_
       refine JL.nil ?_
       refine ⟨rfl, rfl, ?_⟩
       repeat (first | exact trivial | refine ⟨rfl, ?_⟩ | refine ⟨(by exact some_bool (by first | rfl | (simp [hbb]; done) | (exfalso; revert hc11; simp; done))), ?_⟩)
      ·
       refine JL.opg rfl rfl  (RunV.ownA ag_25 rfl (by repeat (first | exact List.mem_cons_self .. | apply List.mem_cons_of_mem)) (by first | rfl | exact NdR.len5 (by assumption))) rfl ?_
       refine JL.opg rfl rfl  (RunV.ownA ag_25 rfl (by repeat (first | exact List.mem_cons_self .. | apply List.mem_cons_of_mem)) (by first | rfl | exact NdR.len5 (by assumption))) rfl ?_
       refine JL.callPg rfl rfl  ca_17 rfl (same_fn' (by assumption) (by assumption)) rfl ?_
       refine Ru 2 rfl ?_
       refine JL.nil ?_
       refine ⟨rfl, rfl, ?_⟩
       repeat (first | exact trivial | refine ⟨rfl, ?_⟩ | refine ⟨(by exact some_bool (by first | rfl | (simp [hbb]; done) | (exfalso; revert hc11; simp; done))), ?_⟩)
     ·
      refine J.cond_f rfl ?_
      refine J.skip ?_
      refine Sr ?_
      refine Ru 1 rfl ?_
      refine JL.callR ca_16 rfl (read_at hrd hl hT) rfl ?_
      rintro _ h13 hle13 ⟨w2, rfl, hNd2⟩
      replace r := r.mono hle13
      replace hl := hl.mono hle13
      replace hT := hT.mono hle13
      replace hS6 := hS6.mono hle13
      replace hNd1 := hNd1.mono hle13
      refine Ru 3 rfl ?_
      refine JL.alloc zr_25 rfl (fun b14 => ?_)
      refine JL.alloc zr_32 rfl (fun b15 => ?_)
      refine JL.storeA ag_25 rfl rfl (by repeat (first | exact Del.here | apply Del.there)) (by first | rfl | exact NdR.all1 (by assumption)) (by first | rfl | assumption | exact NdR.len5 (by assumption)) (by first | rfl | exact NdR.len5 (by assumption)) ?_
      refine JL.storeA ag_32 rfl rfl (by repeat (first | exact Del.here | apply Del.there)) (by first | rfl) (by first | rfl | assumption) (by first | rfl) ?_
      refine Nk [10, 9, 4, 1] rfl ?_
      refine J.seq ?_
      refine Sr ?_
      refine Ru 1 rfl ?_
      refine JL.op (RunV.own1 ag_28 rfl (by repeat (first | exact List.mem_cons_self .. | apply List.mem_cons_of_mem)) rfl) rfl ?_
      refine Ru 1 rfl ?_
      refine JL.nil ?_
      refine Cs rfl (fun hc16 => ?_) fun hc16 => ?_
      ·
       refine Sr ?_
       refine Ru 1 rfl ?_
       refine JL.op (RunV.own1 ag_3 rfl (by repeat (first | exact List.mem_cons_self .. | apply List.mem_cons_of_mem)) rfl) rfl ?_
       refine Ru 2 rfl ?_
       refine Bs 53 rfl (fun hc17 => ?_) fun hc17 => ?_
       ·
        refine Ru 1 rfl ?_
        refine JL.opg rfl rfl  (RunV.own1 ag_3 rfl (by repeat (first | exact List.mem_cons_self .. | apply List.mem_cons_of_mem)) rfl) rfl ?_
        refine Ru 5 rfl ?_
        refine Bs 60 rfl (fun hc18 => ?_) fun hc18 => ?_
        ·
         refine JL.callPg rfl rfl  ca_14 rfl (kn_fn (by assumption)) rfl ?_
         refine Ru 2 rfl ?_
         refine Nk [4, 9, 1] rfl ?_
         first | exact J.retV (RetV.one rfl rfl) rfl | (exfalso; revert hc18; simp; done) | (exfalso; omega)
        ·
         refine Ru 3 rfl ?_
         refine Nk [4, 9, 1] rfl ?_
         first | exact J.retV (RetV.one rfl rfl) rfl | (exfalso; revert hc18; simp; done) | (exfalso; omega)
       ·
        refine Ru 10 rfl ?_
        refine Nk [4, 9, 1] rfl ?_
        first | exact J.retV (RetV.one rfl rfl) rfl | (exfalso; revert hc17; simp; done) | (exfalso; omega)
      ·
       have hrd0 : rdTop l = (m, fa, 0) := (by rw [hrd]; have hz : fc = 0 := (by simpa using hc16); rw [hz]); have hwr := wr_rdTop hrd0; have hws := wr_sz hwr
       refine J.skip ?_
       refine Kp [9, 4, 1] rfl ?_
       refine Sr ?_
       refine JL.op (RunV.ownA ag_25 rfl (by repeat (first | exact List.mem_cons_self .. | apply List.mem_cons_of_mem)) (by first | rfl | exact NdR.len5 (by assumption))) rfl ?_
       refine JL.callR ca_15 rfl (write_at hwr (by assumption) hT (by omega)) rfl ?_
       rintro _ h20 hle20 ⟨wa, wc, rfl, hW1⟩
       replace r := r.mono hle20
       replace hl := hl.mono hle20
       replace hT := hT.mono hle20
       replace hS6 := hS6.mono hle20
       replace hNd1 := hNd1.mono hle20
       replace hNd2 := hNd2.mono hle20
       refine Ru 5 rfl ?_
       refine Nk [12, 11, 4, 1] rfl ?_
       refine Sr ?_
       refine Ru 3 rfl ?_
       refine Bs 70 rfl (fun hc21 => ?_) fun hc21 => ?_
       ·
        refine Ru 2 rfl ?_
        refine JL.callPg rfl rfl  ca_18 rfl (samebytes_fn (by assumption) (by assumption)) rfl ?_
        refine Ru 2 rfl ?_
        refine Bs 75 rfl (fun hc23 => ?_) fun hc23 => ?_
        ·
         refine JL.callPg rfl rfl  ca_14 rfl (kn_fn (by assumption)) rfl ?_
         refine Ru 2 rfl ?_
         refine Nk [4] rfl ?_
         first | exact J.retV (RetV.one rfl rfl) rfl | (exfalso; revert hc23; simp; done) | (exfalso; omega)
        ·
         refine Ru 3 rfl ?_
         refine Nk [4] rfl ?_
         first | exact J.retV (RetV.one rfl rfl) rfl | (exfalso; revert hc23; simp; done) | (exfalso; omega)
       ·
        refine Ru 8 rfl ?_
        refine Nk [4] rfl ?_
        first | exact J.retV (RetV.one rfl rfl) rfl | (exfalso; revert hc21; simp; done) | (exfalso; omega)
    ·
     refine J.skip ?_
     refine Kp [4, 1] rfl ?_
     refine Sr ?_
     refine Ru 1 rfl ?_
     refine JL.callR ca_16 rfl (read_at hrd hl hT) rfl ?_
     rintro _ h25 hle25 ⟨w2, rfl, hNd2⟩
     replace r := r.mono hle25
     replace hl := hl.mono hle25
     replace hT := hT.mono hle25
     replace hS6 := hS6.mono hle25
     refine Ru 3 rfl ?_
     refine JL.alloc zr_25 rfl (fun b26 => ?_)
     refine JL.alloc zr_32 rfl (fun b27 => ?_)
     refine JL.storeA ag_25 rfl rfl (by repeat (first | exact Del.here | apply Del.there)) (by first | rfl | exact NdR.all1 (by assumption)) (by first | rfl | assumption | exact NdR.len5 (by assumption)) (by first | rfl | exact NdR.len5 (by assumption)) ?_
     refine JL.storeA ag_32 rfl rfl (by repeat (first | exact Del.here | apply Del.there)) (by first | rfl) (by first | rfl | assumption) (by first | rfl) ?_
     refine Nk [10, 9, 4, 1] rfl ?_
     refine J.seq ?_
     refine Sr ?_
     refine Ru 1 rfl ?_
     refine JL.op (RunV.own1 ag_28 rfl (by repeat (first | exact List.mem_cons_self .. | apply List.mem_cons_of_mem)) rfl) rfl ?_
     refine Ru 1 rfl ?_
     refine JL.nil ?_
     refine Cs rfl (fun hc28 => ?_) fun hc28 => ?_
     ·
      refine Sr ?_
      refine Ru 1 rfl ?_
      refine JL.op (RunV.own1 ag_3 rfl (by repeat (first | exact List.mem_cons_self .. | apply List.mem_cons_of_mem)) rfl) rfl ?_
      refine Ru 2 rfl ?_
      refine Bs 53 rfl (fun hc29 => ?_) fun hc29 => ?_
      ·
       refine Ru 1 rfl ?_
       refine JL.opg rfl rfl  (RunV.own1 ag_3 rfl (by repeat (first | exact List.mem_cons_self .. | apply List.mem_cons_of_mem)) rfl) rfl ?_
       refine Ru 5 rfl ?_
       refine Bs 60 rfl (fun hc30 => ?_) fun hc30 => ?_
       ·
        refine JL.callPg rfl rfl  ca_14 rfl (kn_fn (by assumption)) rfl ?_
        refine Ru 2 rfl ?_
        refine Nk [4, 9, 1] rfl ?_
        first | exact J.retV (RetV.one rfl rfl) rfl | (exfalso; revert hc30; simp; done) | (exfalso; omega)
       ·
        refine Ru 3 rfl ?_
        refine Nk [4, 9, 1] rfl ?_
        first | exact J.retV (RetV.one rfl rfl) rfl | (exfalso; revert hc30; simp; done) | (exfalso; omega)
      ·
       refine Ru 10 rfl ?_
       refine Nk [4, 9, 1] rfl ?_
       first | exact J.retV (RetV.one rfl rfl) rfl | (exfalso; revert hc29; simp; done) | (exfalso; omega)
     ·
      have hrd0 : rdTop l = (m, fa, 0) := (by rw [hrd]; have hz : fc = 0 := (by simpa using hc28); rw [hz]); have hwr := wr_rdTop hrd0; have hws := wr_sz hwr
      refine J.skip ?_
      refine Kp [9, 4, 1] rfl ?_
      refine Sr ?_
      refine JL.op (RunV.ownA ag_25 rfl (by repeat (first | exact List.mem_cons_self .. | apply List.mem_cons_of_mem)) (by first | rfl | exact NdR.len5 (by assumption))) rfl ?_
      refine JL.callR ca_15 rfl (write_at hwr (by assumption) hT (by omega)) rfl ?_
      rintro _ h32 hle32 ⟨wa, wc, rfl, hW1⟩
      replace r := r.mono hle32
      replace hl := hl.mono hle32
      replace hT := hT.mono hle32
      replace hS6 := hS6.mono hle32
      replace hNd2 := hNd2.mono hle32
      refine Ru 5 rfl ?_
      refine Nk [12, 11, 4, 1] rfl ?_
      refine Sr ?_
      refine Ru 3 rfl ?_
      refine Bs 70 rfl (fun hc33 => ?_) fun hc33 => ?_
      ·
       refine Ru 2 rfl ?_
       refine JL.callPg rfl rfl  ca_18 rfl (samebytes_fn (by assumption) (by assumption)) rfl ?_
       refine Ru 2 rfl ?_
       refine Bs 75 rfl (fun hc35 => ?_) fun hc35 => ?_
       ·
        refine JL.callPg rfl rfl  ca_14 rfl (kn_fn (by assumption)) rfl ?_
        refine Ru 2 rfl ?_
        refine Nk [4] rfl ?_
        first | exact J.retV (RetV.one rfl rfl) rfl | (exfalso; revert hc35; simp; done) | (exfalso; omega)
       ·
        refine Ru 3 rfl ?_
        refine Nk [4] rfl ?_
        first | exact J.retV (RetV.one rfl rfl) rfl | (exfalso; revert hc35; simp; done) | (exfalso; omega)
      ·
       refine Ru 8 rfl ?_
       refine Nk [4] rfl ?_
       first | exact J.retV (RetV.one rfl rfl) rfl | (exfalso; revert hc33; simp; done) | (exfalso; omega)
end Go.Proofs.YtbmlbefpnieglaaDoor
