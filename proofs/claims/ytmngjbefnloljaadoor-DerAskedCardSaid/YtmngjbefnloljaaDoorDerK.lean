/- Walks: what the laws of nodes use beside. -/
import Derived.Test.YtmngjbefnloljaaDoorDerD2
set_option linter.unusedSimpArgs false
set_option linter.unusedVariables false
set_option linter.constructorNameAsVariable false
namespace Go.Proofs.YtmngjbefnloljaaDoor
open Go Go.RowKit
set_option maxRecDepth 100000
theorem ca_10 : callT Tryd.prog 10 = true := by kernel_rfl
theorem ca_20 : callT Tryd.prog 20 = true := by kernel_rfl
theorem ca_32 : callT Tryd.prog 32 = true := by kernel_rfl
theorem e2_57 : eq2T Tryd.prog 57 = true := by kernel_rfl

theorem samebytes_fn {a b : Option Addr} {ca cb : Nat} {l r : List UInt8} {h : Part} (hl : SlR u8R 1 h a ca l) (hr : SlR u8R 1 h b cb r) : Pure Tryd.prog 12 [.slice a l.length ca, .slice b r.length cb] h (.bool (decide (l = r))) := by
  refine Fn.intro Tryd.func12 rfl Tryd.ntmps12 rfl (fun e he => ?_)
  refine J.weak [(0, _), (1, _)] ⟨rfl, rfl, trivial⟩ ?_
  refine Sr ?_
  refine Ru 1 rfl ?_
  refine JL.nil ?_
  refine Sr ?_
  refine Ru 1 rfl ?_
  refine JL.op (RunV.strB (l := l) sb_22_9 rfl hl rfl) rfl ?_
  refine Ru 1 rfl ?_
  refine JL.op (RunV.strB (l := r) sb_22_9 rfl hr rfl) rfl ?_
  refine JL.op (RunV.eqlS rfl rfl) rfl ?_
  refine Ru 1 rfl ?_
  refine Nk [4] rfl ?_
  exact J.retP (RetV.one rfl rfl) rfl rfl




def amongI (k n : Int) : Int := if n < 1 then 0 else k % n
theorem amongI_bd (k n : Int) (h : 1 ≤ n) : 0 ≤ amongI k n ∧ amongI k n < n := by
  unfold amongI; rw [if_neg (by omega)]
  exact ⟨Int.emod_nonneg _ (by omega), Int.emod_lt_of_pos _ (by omega)⟩
theorem among_fn (k n : Int) (h : Part) (h0 : -9223372036854775808 ≤ k) (h1 : k ≤ 9223372036854775807) (h2 : n ≤ 9223372036854775807) : Pure Tryd.prog 28 [.int .i64 k, .int .i64 n] h (.int .i64 (amongI k n)) := by
  have key : 1 ≤ n → (Int.tmod k n < 0 → Int.tmod k n + n = k % n) ∧ (¬ Int.tmod k n < 0 → Int.tmod k n = k % n) ∧ -n < Int.tmod k n ∧ Int.tmod k n < n := fun hn => by
    have e1 : Int.tmod k n = k % n ∨ Int.tmod k n + n = k % n ∧ Int.tmod k n < 0 ∧ k % n ≠ 0 := by
      have hp := Int.emod_nonneg k (show n ≠ 0 by omega)
      have hlt := Int.emod_lt_of_pos k (show 0 < n by omega)
      by_cases hk : 0 ≤ k
      · left; exact Int.tmod_eq_emod_of_nonneg hk
      · rw [Int.tmod_eq_emod]
        split
        · left; omega
        · rename_i hnd
          right
          have hne : k % n ≠ 0 := fun hh => hnd (.inr (Int.dvd_of_emod_eq_zero hh))
          have hnn : (n.natAbs : Int) = n := by omega
          omega
    have hp := Int.emod_nonneg k (show n ≠ 0 by omega)
    have hlt := Int.emod_lt_of_pos k (show 0 < n by omega)
    omega
  refine Fn.intro Tryd.func28 rfl Tryd.ntmps28 rfl (fun e he => ?_)
  refine J.weak [(0, _), (1, _)] ⟨rfl, rfl, trivial⟩ ?_
  refine Sr ?_
  refine Ru 1 rfl ?_
  refine JL.nil ?_
  refine J.seq ?_
  refine Sr ?_
  refine Ru 2 rfl ?_
  refine JL.nil ?_
  refine Cs rfl (fun hc1 => ?_) fun hc1 => ?_
  ·
   refine Sr ?_
   refine Ru 1 rfl ?_
   refine JL.nil ?_
   exact J.retP (RetV.one rfl rfl) (by unfold amongI; rw [if_pos (by omega)]) rfl
  ·
   refine J.skip ?_
   refine Sr ?_
   obtain ⟨k1, k2, k3, k4⟩ := key (by omega)
   refine Ru 2 rfl ?_
   refine JL.op (RunV.rem rfl rfl (by omega)) rfl ?_
   refine Ru 1 rfl ?_
   refine Nk [0, 4, 1] rfl ?_
   refine J.seq ?_
   refine Sr ?_
   refine Ru 2 rfl ?_
   refine JL.nil ?_
   refine Cs rfl (fun hc2 => ?_) fun hc2 => ?_
   ·
    refine Rg ?_
    refine Ru 2 rfl ?_
    refine JL.op (by first | exact RunV.add_i64 rfl rfl (by omega) (by omega) | exact RunV.add rfl rfl) rfl ?_
    refine Ru 1 rfl ?_
    refine Nk [0, 4] rfl ?_
    refine Sr ?_
    refine Ru 2 rfl ?_
    refine JL.nil ?_
    exact J.retP (RetV.one rfl rfl) (by unfold amongI; rw [if_neg (by omega), k1 (by omega)]) rfl
   ·
    refine J.skip ?_
    refine Sr ?_
    refine Ru 2 rfl ?_
    refine Nk [4] rfl ?_
    exact J.retP (RetV.one rfl rfl) (by unfold amongI; rw [if_neg (by omega), k2 (by omega)]) rfl




def greatB (x : Nd) : Bool := decide (2000 < x.szM 2000) || decide (60 < x.rk)
theorem greatB_ok {x : Nd} (hb : x.okB) (h : greatB x = false) : x.sz ≤ 2000 ∧ x.rk ≤ 60 := by
  have := Nd.szM_bd _ x 2000 (Nat.le_refl _) hb (by decide)
  simp only [greatB, Bool.or_eq_false_iff, decide_eq_false_iff_not] at h
  have := this.2.2.1 (by omega)
  omega
theorem great_fn {x : Nd} {cs : List Value} {h : Part} (r : NdR h cs x) : Pure Tryd.prog 8 [.agg cs.toArray] h (.bool (greatB x)) := by
  have hbd := Nd.szM_bd _ x 2000 (Nat.le_refl _) r.okB (by decide)
  refine Fn.intro Tryd.func8 rfl Tryd.ntmps8 rfl (fun e he => ?_)
  refine J.weak [(0, _)] ⟨rfl, trivial⟩ ?_
  refine Sr ?_
  refine JL.box rfl rfl rfl (fun b1 => ?_)
  refine Ru 1 rfl ?_
  refine JL.nil ?_
  refine Sr ?_
  refine JL.op (RunV.ownA ag_25 rfl (by repeat (first | exact List.mem_cons_self .. | apply List.mem_cons_of_mem)) (by first | rfl | exact NdR.len5 (by assumption))) rfl ?_
  refine JL.callP ca_24 rfl (size_fn' (by assumption) (by omega) (by omega)) rfl ?_
  refine Ru 2 rfl ?_
  have hsz : ¬ (2000 < x.szM 2000) → x.sz ≤ 1125899906842624 := fun hh => by have := hbd.2.2.1 (by omega); omega
  refine Bs 6 rfl (fun hc3 => ?_) fun hc3 => ?_
  ·
   have hsz : ¬ (2000 < x.szM 2000) → x.sz ≤ 1125899906842624 := fun hh => by have := hbd.2.2.1 (by omega); omega
   refine Ru 5 rfl ?_
   refine Nk [2] rfl ?_
   exact J.retP (RetV.one rfl rfl) (by simp [greatB, *] <;> omega) rfl
  ·
   have hsz := hsz (by assumption)
   have hsz : ¬ (2000 < x.szM 2000) → x.sz ≤ 1125899906842624 := fun hh => by have := hbd.2.2.1 (by omega); omega
   refine JL.opg rfl rfl  (RunV.ownA ag_25 rfl (by repeat (first | exact List.mem_cons_self .. | apply List.mem_cons_of_mem)) (by first | rfl | exact NdR.len5 (by assumption))) rfl ?_
   refine JL.callPg rfl rfl  ca_23 rfl (deep_fn' (by assumption) (by assumption)) rfl ?_
   refine Ru 3 rfl ?_
   refine Nk [2] rfl ?_
   exact J.retP (RetV.one rfl rfl) (by simp [greatB, *] <;> omega) rfl




theorem cells_lit {h : Part} {cs : List Value} {l : List UInt8} (hc : cs = u8s l) : CellsR u8R 1 h cs l := hc ▸ CellsR.of_u8
/-! ## what is known -/
theorem read_at {a : Option Addr} {c : Nat} {l : List UInt8} {h : Part} {x : Nd} {at_ code : Int} (hr : rdTop l = (x, at_, code)) (hl : SlR u8R 1 h a c l) (hT : Tabs h) :
    FnR Tryd.prog 32 [.slice a l.length c] h (fun v h' => ∃ cs, v = .tuple #[.agg (List.toArray cs), .agg #[.int .i64 at_, .int .i64 code]] ∧ NdR h' cs x) := by
  have := read_fn hl hT
  rw [hr] at this
  exact this
theorem write_at {x : Nd} {cs : List Value} {h : Part} {b : List UInt8} {e : Int} (hr : x.wr = (b, e)) (r : NdR h cs x) (hT : Tabs h) (hsz : x.sz ≤ 1073741824) :
    FnR Tryd.prog 10 [.agg cs.toArray] h (fun v h' => ∃ a c, v = .tuple #[.slice a b.length c, .int .i64 e] ∧ SlR u8R 1 h' a c b) := by
  have := write_fn r hT hsz
  rw [hr] at this
  exact this
theorem kn1 : rdTop [48, 3, 2, 1, 5] = (.mk 0 16 true [] [.mk 0 2 false [5] []], 0, 0) := by kernel_rfl
theorem kn2 : Nd.wr (.mk 0 2 false (intB 128) []) = ([2, 2, 0, 128], 0) := by kernel_rfl
theorem kn3 : rdTop [48, 2, 4, 1] = (ndZ, 2, 30) := by kernel_rfl
theorem kn4 : rdTop [5, 0, 0] = (ndZ, 2, 35) := by kernel_rfl
theorem read_lit {a : Option Addr} {c n m : Nat} {l : List UInt8} {h : Part} {x : Nd} {at_ code : Int} (hr : rdTop l = (x, at_, code)) (hl : SlR u8R 1 h a c l) (hT : Tabs h) (hn : l.length = n) (hm : c = m) :
    FnR Tryd.prog 32 [.slice a n m] h (fun v h' => ∃ cs, v = .tuple #[.agg (List.toArray cs), .agg #[.int .i64 at_, .int .i64 code]] ∧ NdR h' cs x) := by
  subst hn hm
  exact read_at hr hl hT
theorem kn_fn {h : Part} (hT : Tabs h) : Pure Tryd.prog 9 [] h (.bool true) := by
  refine Pure.ofV ?_
  refine Fn.intro Tryd.func9 rfl Tryd.ntmps9 rfl (fun e he => ?_)
  refine Sr ?_
  refine Ru 1 rfl ?_
  refine JL.nil ?_
  refine Sr ?_
  refine JL.lit1 ap_22 zr_5 rfl rfl rfl rfl rfl (fun b1 => ?_)
  refine JL.pubB (R := u8R) (sz := 1) (l := [48, 3, 2, 1, 5]) (by repeat (first | exact Del.here | apply Del.there)) (cells_lit (by first | kernel_rfl | rfl)) (by first | decide | omega | (simp; done)) (fun h2 hle2 hQ1 => ?_)
  replace hT := hT.mono hle2
  refine JL.callR ca_32 rfl (read_lit kn1 hQ1 hT (by kernel_rfl) (by kernel_rfl)) rfl ?_
  rintro _ h3 hle3 ⟨w1, rfl, hNd1⟩
  replace hT := hT.mono hle3
  replace hQ1 := hQ1.mono hle3
  obtain ⟨ka, kca, kb, kcb, rfl, hka, hkb⟩ := hNd1.inv
  refine Ru 3 rfl ?_
  refine JL.alloc zr_25 rfl (fun b4 => ?_)
  refine JL.alloc zr_57 rfl (fun b5 => ?_)
  refine JL.storeA ag_25 rfl rfl (by repeat (first | exact Del.here | apply Del.there)) (by first | rfl | exact NdR.all1 (by assumption)) (by first | rfl | assumption | exact NdR.len5 (by assumption)) (by first | rfl | exact NdR.len5 (by assumption)) ?_
  refine JL.storeA ag_57 rfl rfl (by repeat (first | exact Del.here | apply Del.there)) (by first | rfl) (by first | rfl | assumption) (by first | rfl) ?_
  refine Nk [2, 1, 0] rfl ?_
  refine Sr ?_
  refine JL.callR ca_20 rfl (int_fn) rfl ?_
  rintro _ h6 hle6 ⟨w6, rfl, hNd6⟩
  replace hT := hT.mono hle6
  replace hQ1 := hQ1.mono hle6
  refine JL.callR ca_10 rfl (write_at kn2 (by assumption) (by assumption) (by decide)) rfl ?_
  rintro _ h7 hle7 ⟨wa, wc, rfl, hW1⟩
  replace hT := hT.mono hle7
  replace hQ1 := hQ1.mono hle7
  replace hNd6 := hNd6.mono hle7
  refine Ru 5 rfl ?_
  refine Nk [4, 3, 2, 1, 0] rfl ?_
  refine Sr ?_
  refine JL.lit1 ap_22 zr_5 rfl rfl rfl rfl rfl (fun b8 => ?_)
  refine JL.pubB (R := u8R) (sz := 1) (l := [48, 2, 4, 1]) (by repeat (first | exact Del.here | apply Del.there)) (cells_lit (by first | kernel_rfl | rfl)) (by first | decide | omega | (simp; done)) (fun h9 hle9 hQ3 => ?_)
  replace hT := hT.mono hle9
  replace hQ1 := hQ1.mono hle9
  replace hNd6 := hNd6.mono hle9
  replace hW1 := hW1.mono hle9
  refine JL.callR ca_32 rfl (read_lit kn3 hQ3 hT (by kernel_rfl) (by kernel_rfl)) rfl ?_
  rintro _ h10 hle10 ⟨w3, rfl, hNd3⟩
  replace hT := hT.mono hle10
  replace hQ1 := hQ1.mono hle10
  replace hNd6 := hNd6.mono hle10
  replace hW1 := hW1.mono hle10
  replace hQ3 := hQ3.mono hle10
  refine Ru 3 rfl ?_
  refine JL.alloc zr_25 rfl (fun b11 => ?_)
  refine JL.alloc zr_57 rfl (fun b12 => ?_)
  refine JL.storeA ag_25 rfl rfl (by repeat (first | exact Del.here | apply Del.there)) (by first | rfl | exact NdR.all1 (by assumption)) (by first | rfl | assumption | exact NdR.len5 (by assumption)) (by first | rfl | exact NdR.len5 (by assumption)) ?_
  refine JL.storeA ag_57 rfl rfl (by repeat (first | exact Del.here | apply Del.there)) (by first | rfl) (by first | rfl | assumption) (by first | rfl) ?_
  refine Nk [6, 4, 3, 2, 1, 0] rfl ?_
  refine Sr ?_
  refine JL.lit1 ap_22 zr_5 rfl rfl rfl rfl rfl (fun b13 => ?_)
  refine JL.pubB (R := u8R) (sz := 1) (l := [5, 0, 0]) (by repeat (first | exact Del.here | apply Del.there)) (cells_lit (by first | kernel_rfl | rfl)) (by first | decide | omega | (simp; done)) (fun h14 hle14 hQ4 => ?_)
  replace hT := hT.mono hle14
  replace hQ1 := hQ1.mono hle14
  replace hNd6 := hNd6.mono hle14
  replace hW1 := hW1.mono hle14
  replace hQ3 := hQ3.mono hle14
  replace hNd3 := hNd3.mono hle14
  refine JL.callR ca_32 rfl (read_lit kn4 hQ4 hT (by kernel_rfl) (by kernel_rfl)) rfl ?_
  rintro _ h15 hle15 ⟨w4, rfl, hNd4⟩
  replace hT := hT.mono hle15
  replace hQ1 := hQ1.mono hle15
  replace hNd6 := hNd6.mono hle15
  replace hW1 := hW1.mono hle15
  replace hQ3 := hQ3.mono hle15
  replace hNd3 := hNd3.mono hle15
  replace hQ4 := hQ4.mono hle15
  refine Ru 3 rfl ?_
  refine JL.alloc zr_25 rfl (fun b16 => ?_)
  refine JL.alloc zr_57 rfl (fun b17 => ?_)
  refine JL.storeA ag_25 rfl rfl (by repeat (first | exact Del.here | apply Del.there)) (by first | rfl | exact NdR.all1 (by assumption)) (by first | rfl | assumption | exact NdR.len5 (by assumption)) (by first | rfl | exact NdR.len5 (by assumption)) ?_
  refine JL.storeA ag_57 rfl rfl (by repeat (first | exact Del.here | apply Del.there)) (by first | rfl) (by first | rfl | assumption) (by first | rfl) ?_
  refine Nk [8, 6, 4, 3, 2, 1, 0] rfl ?_
  refine Sr ?_
  refine JL.op (RunV.ownA ag_57 rfl (by repeat (first | exact List.mem_cons_self .. | apply List.mem_cons_of_mem)) (by first | rfl)) rfl ?_
  refine JL.op (RunV.build (cs := [.int .i64 0, .int .i64 0]) pl_57 rfl rfl) rfl ?_
  refine JL.op (RunV.eql2 e2_57 rfl rfl) rfl ?_
  refine Ru 1 rfl ?_
  refine Bs 32 rfl (fun hc18 => ?_) fun hc18 => ?_
  ·
   refine Ru 1 rfl ?_
   refine JL.opg rfl rfl  (RunV.own1 ag_23 rfl (by repeat (first | exact List.mem_cons_self .. | apply List.mem_cons_of_mem)) rfl) rfl ?_
   refine Ru 4 rfl ?_
   refine Bs 38 rfl (fun hc19 => ?_) fun hc19 => ?_
   ·
    refine Ru 4 rfl ?_
    refine Bs 42 rfl (fun hc20 => ?_) fun hc20 => ?_
    ·
     refine Ru 1 rfl ?_
     refine JL.opg rfl rfl  (RunV.strB sb_22_9 rfl (by assumption) rfl) rfl ?_
     refine JL.opg rfl rfl  (RunV.eqlS rfl rfl) rfl ?_
     refine Ru 2 rfl ?_
     refine Bs 47 rfl (fun hc21 => ?_) fun hc21 => ?_
     ·
      refine JL.opg rfl rfl  (RunV.ownA ag_57 rfl (by repeat (first | exact List.mem_cons_self .. | apply List.mem_cons_of_mem)) (by first | rfl)) rfl ?_
      refine JL.opg rfl rfl  (RunV.build (cs := [_, _]) pl_57 rfl rfl) rfl ?_
      refine JL.opg rfl rfl  (RunV.eql2 e2_57 rfl rfl) rfl ?_
      refine Ru 2 rfl ?_
      refine Bs 52 rfl (fun hc22 => ?_) fun hc22 => ?_
      ·
       refine JL.opg rfl rfl  (RunV.ownA ag_57 rfl (by repeat (first | exact List.mem_cons_self .. | apply List.mem_cons_of_mem)) (by first | rfl)) rfl ?_
       refine JL.opg rfl rfl  (RunV.build (cs := [_, _]) pl_57 rfl rfl) rfl ?_
       refine JL.opg rfl rfl  (RunV.eql2 e2_57 rfl rfl) rfl ?_
       refine Ru 2 rfl ?_
       refine Nk [0] rfl ?_
       first | exact J.retV (RetV.one rfl rfl) rfl | (exfalso; simp_all; done) | (exfalso; omega)
      ·
       refine Ru 5 rfl ?_
       refine Nk [0] rfl ?_
       first | exact J.retV (RetV.one rfl rfl) rfl | (exfalso; simp_all; done) | (exfalso; omega)
     ·
      refine Ru 10 rfl ?_
      refine Nk [0] rfl ?_
      first | exact J.retV (RetV.one rfl rfl) rfl | (exfalso; simp_all; done) | (exfalso; omega)
    ·
     refine Ru 15 rfl ?_
     refine Nk [0] rfl ?_
     first | exact J.retV (RetV.one rfl rfl) rfl | (exfalso; simp_all; done) | (exfalso; omega)
   ·
    refine Ru 19 rfl ?_
    refine Nk [0] rfl ?_
    first | exact J.retV (RetV.one rfl rfl) rfl | (exfalso; simp_all; done) | (exfalso; omega)
  ·
   refine Ru 25 rfl ?_
   refine Nk [0] rfl ?_
   first | exact J.retV (RetV.one rfl rfl) rfl | (exfalso; simp_all; done) | (exfalso; omega)



end Go.Proofs.YtmngjbefnloljaaDoor
