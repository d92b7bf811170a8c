/- Walks: the program writes and makes nodes. -/
import Derived.Test.YtmngjbefnloljaaDoorDerW
set_option linter.unusedSimpArgs false
set_option linter.unusedVariables false
set_option linter.constructorNameAsVariable false
namespace Go.Proofs.YtmngjbefnloljaaDoor
open Go Go.RowKit
theorem ap_23 : apT Tryd.prog 23 = some (25, 5, 72) := by kernel_rfl
theorem ca_40 : callT Tryd.prog 40 = true := by kernel_rfl
theorem ca_45 : callT Tryd.prog 45 = true := by kernel_rfl
theorem cv_2_5 : convI Tryd.prog 2 5 = some .u8 := by kernel_rfl
theorem pl_25 : plT Tryd.prog 25 = some ([.int .i64 0, .int .i64 0, .bool false, .slice none 0 0, .slice none 0 0], [(0, 1), (1, 1), (2, 1), (3, 1), (4, 1)]) := by kernel_rfl
theorem pl_62 : plT Tryd.prog 62 = some ([.int .i64 0, .bool false], [(0, 1), (1, 1)]) := by kernel_rfl

def Nd.wr (x : Nd) : List UInt8 × Int := match x.put with
  | none => ([], 34)
  | some b => if 32 < x.rk then ([], 33) else if 16777216 < b.length then ([], 2) else (b, 0)
theorem write_fn {x : Nd} {cs : List Value} {h : Part} (r : NdR h cs x) (hT : Tabs h) (hsz : x.sz ≤ 1073741824) :
    FnR Tryd.prog 10 [.agg cs.toArray] h (fun v h' => ∃ a c, v = .tuple #[.slice a x.wr.1.length c, .int .i64 x.wr.2] ∧ SlR u8R 1 h' a c x.wr.1) := by
  have hrk : x.rk ≤ x.sz := Nd.rk_le_sz _ x (Nat.le_refl _)
  have hr1 : 1 ≤ x.rk := by cases x; simp [Nd.rk]
  refine Fn.intro Tryd.func10 rfl Tryd.ntmps10 rfl (fun e he => ?_)
  refine J.weak [(0, _)] ⟨rfl, trivial⟩ ?_
  refine Sr ?_
  refine JL.box rfl rfl rfl (fun b1 => ?_)
  refine Ru 2 rfl ?_
  refine JL.nil ?_
  refine Sr ?_
  refine JL.op (RunV.build (cs := [.int .i64 0, .bool false]) pl_62 rfl rfl) rfl ?_
  refine JL.box rfl rfl rfl (fun b2 => ?_)
  refine Ru 1 rfl ?_
  refine JL.nil ?_
  refine Sr ?_
  refine Ru 1 rfl ?_
  refine JL.op (RunV.ownA ag_25 rfl (by repeat (first | exact List.mem_cons_self .. | apply List.mem_cons_of_mem)) (by first | rfl | exact NdR.len5 (by assumption))) rfl ?_
  refine JL.call ca_33 rfl (put_fn _ x _ _ _ _ _ (Nat.le_refl _) r hT hsz (by omega) (by omega)) (by repeat first | exact Parts.nil | exact Del.here | apply Del.there | apply Parts.cons) rfl ?_
  rintro _ h3 Lo3 hle3 ⟨kb, ka, kc, kd, kbad, rfl, hkS, rfl, hkf, hkt⟩
  replace r := r.mono hle3
  replace hT := hT.mono hle3
  refine Ru 1 rfl ?_
  refine Nk [5, 4, 3, 2] rfl ?_
  refine J.seq ?_
  refine J.block ?_
  refine Sr ?_
  refine Ru 3 rfl ?_
  refine JL.op (RunV.own1 ag_4 rfl (by repeat (first | exact List.mem_cons_self .. | apply List.mem_cons_of_mem)) rfl) rfl ?_
  refine Ru 1 rfl ?_
  refine JL.nil ?_
  refine Cs rfl (fun hc4 => ?_) fun hc4 => ?_
  ·
   have hw : x.wr = ([], 34) := (by unfold Nd.wr; rw [hkf hc4])
   refine Sr ?_
   refine Ru 2 rfl ?_
   refine Nk [3, 2, 5] rfl ?_
   rw [hw]; exact J.retR (RetV.two rfl rfl rfl) ⟨_, _, rfl, SlR.nil_⟩
  ·
   have hkt := hkt hc4; have hkp := hkt.1; have hkd := hkt.2; have hl := hkS.big
   refine Sr ?_
   refine Ru 3 rfl ?_
   refine JL.op (RunV.own1 ag_3 rfl (by repeat (first | exact List.mem_cons_self .. | apply List.mem_cons_of_mem)) rfl) rfl ?_
   refine Ru 2 rfl ?_
   refine Nk [16, 5, 3, 2] rfl ?_
   refine Cs rfl (fun hc5 => ?_) fun hc5 => ?_
   ·
    have hw : x.wr = ([], 33) := (by unfold Nd.wr; rw [hkp]; simp only; rw [if_pos (by omega)])
    refine Sr ?_
    refine Ru 2 rfl ?_
    refine JL.nil ?_
    rw [hw]; exact J.retR (RetV.two rfl rfl rfl) ⟨_, _, rfl, SlR.nil_⟩
   ·
    refine Sr ?_
    refine Ru 4 rfl ?_
    refine Nk [22, 5, 3, 2] rfl ?_
    refine Cs rfl (fun hc6 => ?_) fun hc6 => ?_
    ·
     have hw : x.wr = ([], 2) := (by unfold Nd.wr; rw [hkp]; simp only; rw [if_neg (by omega), if_pos (by omega)])
     refine Sr ?_
     refine Ru 2 rfl ?_
     refine JL.nil ?_
     rw [hw]; exact J.retR (RetV.two rfl rfl rfl) ⟨_, _, rfl, SlR.nil_⟩
    ·
     have hw : x.wr = (kb, 0) := (by unfold Nd.wr; rw [hkp]; simp only; rw [if_neg (by omega), if_neg (by omega)])
     refine J.skip ?_
     refine Sr ?_
     refine Ru 3 rfl ?_
     refine Nk [3, 2] rfl ?_
     rw [hw]; exact J.retR (RetV.two rfl rfl rfl) ⟨_, _, rfl, hkS⟩




theorem right_fn {x : Nd} {cs : List Value} {h : Part} (r : NdR h cs x) (hT : Tabs h) (hsz : x.sz ≤ 1073741824) : Pure Tryd.prog 13 [.agg cs.toArray] h (.bool x.put.isSome) := by
  have hrk : x.rk ≤ x.sz := Nd.rk_le_sz _ x (Nat.le_refl _)
  refine Pure.ofV ?_
  refine Fn.intro Tryd.func13 rfl Tryd.ntmps13 rfl (fun e he => ?_)
  refine J.weak [(0, _)] ⟨rfl, trivial⟩ ?_
  refine Sr ?_
  refine JL.box rfl rfl rfl (fun b1 => ?_)
  refine Ru 1 rfl ?_
  refine JL.nil ?_
  refine Sr ?_
  refine JL.op (RunV.build (cs := [.int .i64 0, .bool false]) pl_62 rfl rfl) rfl ?_
  refine JL.box rfl rfl rfl (fun b2 => ?_)
  refine Ru 1 rfl ?_
  refine JL.nil ?_
  refine Sr ?_
  refine Ru 1 rfl ?_
  refine JL.op (RunV.ownA ag_25 rfl (by repeat (first | exact List.mem_cons_self .. | apply List.mem_cons_of_mem)) (by first | rfl | exact NdR.len5 (by assumption))) rfl ?_
  refine JL.call ca_33 rfl (put_fn _ x _ _ _ _ _ (Nat.le_refl _) r hT hsz (by omega) (by omega)) (by repeat first | exact Parts.nil | exact Del.here | apply Del.there | apply Parts.cons) rfl ?_
  rintro _ h3 Lo3 hle3 ⟨kb, ka, kc, kd, kbad, rfl, hkS, rfl, hkf, hkt⟩
  replace r := r.mono hle3
  replace hT := hT.mono hle3
  refine Nk [3, 2] rfl ?_
  refine Sr ?_
  refine Ru 3 rfl ?_
  refine JL.op (RunV.own1 ag_4 rfl (by repeat (first | exact List.mem_cons_self .. | apply List.mem_cons_of_mem)) rfl) rfl ?_
  refine Ru 2 rfl ?_
  refine Nk [2] rfl ?_
  exact J.retV (RetV.one rfl rfl) (by cases hb : kbad with | true => rw [hkf hb]; rfl | false => rw [(hkt hb).1]; rfl)




theorem prim_fn {t : Int} {a : Option Addr} {c : Nat} {l : List UInt8} {h : Part} (hl : SlR u8R 1 h a c l) : FnR Tryd.prog 40 [.int .i64 t, .slice a l.length c] h (fun v h' => ∃ cs, v = .agg (List.toArray cs) ∧ NdR h' cs (.mk 0 t false l [])) := by
  have hb := hl.big
  refine Fn.intro Tryd.func40 rfl Tryd.ntmps40 rfl (fun e he => ?_)
  refine J.weak [(0, _), (1, _)] ⟨rfl, rfl, trivial⟩ ?_
  refine Sr ?_
  refine JL.alloc zr_25 rfl (fun b1 => ?_)
  refine JL.nil ?_
  refine Sr ?_
  refine Ru 2 rfl ?_
  refine JL.row_nil 5 1 ?_
  refine JL.append ap_22 rfl rfl (CellsR.nil (R := u8R)) rfl (by assumption) rfl (by repeat (first | exact Del.here | apply Del.there)) (by first | omega | (simp only [List.length_append, List.length_cons, List.length_nil]; omega)) rfl rfl (fun a2 c2 xs2 hC2 hN2 => ?_)
  obtain rfl := hC2.u8
  refine JL.pub (R := u8R) (l := l) (by repeat (first | exact Del.here | apply Del.there)) CellsR.of_u8 rfl (by first | omega | (simp only [List.length_append, List.length_cons, List.length_nil]; omega)) (fun h3 hle3 hP3 => ?_)
  replace hl := hl.mono hle3
  refine JL.op (RunV.build (cs := [.int .i64 0, _, .bool false, _, .slice none 0 0]) pl_25 rfl rfl) rfl ?_
  refine JL.storeA ag_25 rfl rfl (by repeat (first | exact Del.here | apply Del.there)) (by first | rfl | exact NdR.all1 (by assumption)) (by first | rfl | assumption | exact NdR.len5 (by assumption)) (by first | rfl | exact NdR.len5 (by assumption)) ?_
  refine Nk [4] rfl ?_
  exact J.retR (RetV.cell rfl rfl ag_25 (by repeat (first | exact List.mem_cons_self .. | apply List.mem_cons_of_mem)) (by first | rfl | exact NdR.len5 (by assumption))) ⟨_, rfl, NdR.of (by assumption) SlR.nil_⟩




theorem Nd.len_le_szL (l : List Nd) : l.length ≤ Nd.szL l := by
  induction l with
  | nil => simp
  | cons x r ih => cases x; simp only [List.length_cons, Nd.szL, Nd.sz]; omega
theorem own_fn : ∀ (n : Nat) (ks : List Nd) (a : Option Addr) (c : Nat) (h : Part), Nd.rkL ks ≤ n → SlR NdR 5 h a c ks → Nd.szL ks ≤ 1099511627776 →
    FnR Tryd.prog 45 [.slice a ks.length c] h (fun v h' => ∃ a' c', v = .slice a' ks.length c' ∧ SlR NdR 5 h' a' c' ks) := by
  intro n
  induction n with
  | zero =>
    intro ks a c h hx
    cases ks with
    | cons x r => cases x; simp [Nd.rkL, Nd.rk] at hx
    | nil =>
      intro hk _
      have hx : (0 : Nat) = 0 := rfl
      refine Fn.intro Tryd.func45 rfl Tryd.ntmps45 rfl (fun e he => ?_)
      refine J.weak [(0, _)] ⟨rfl, trivial⟩ ?_
      refine Sr ?_
      refine Ru 1 rfl ?_
      refine JL.nil ?_
      refine Sr ?_
      refine Ru 1 rfl ?_
      refine JL.nil ?_
      refine J.seq ?_
      refine Sr ?_
      refine Ru 3 rfl ?_
      refine JL.nil ?_
      refine J.block ?_
      refine J.loop (fun t_ S_ h_ L_ => ∃ (i : Nat), t_ = 0 - i ∧ S_ = [(3, .slice none 0 0), (6, .slice a ([] : List Nd).length c), (7, .int .i64 0), (8, .int .i64 0)] ∧ h = h_ ∧ L_ = [] ∧ (True)) ⟨_, _, ?_, ⟨0, rfl, rfl, rfl, rfl, trivial⟩⟩ ?_
      ·
       repeat (first | exact trivial | refine ⟨rfl, ?_⟩)
      rintro _ _ _ _ ⟨i, rfl, rfl, rfl, rfl, -⟩
      refine Sr ?_
      refine Ru 1 rfl ?_
      refine JL.nil ?_
      refine J.seq ?_
      refine Cs rfl (fun hc1 => ?_) fun hc1 => ?_
      ·
       exfalso; simp at hc1 --done
      ·
       refine J.exit ?_
       refine Kp [3] rfl ?_
       refine Sr ?_
       refine Ru 2 rfl ?_
       refine JL.nil ?_
       exact J.retR (RetV.one rfl rfl) ⟨_, _, rfl, SlR.nil_⟩
  | succ n ih =>
    intro ks a c h hx hk hsz
    have hl := hk.big
    have hlz := Nd.len_le_szL ks
    have hz : ∀ i (hi : i < ks.length), ks[i].rk ≤ n + 1 ∧ ks[i].sz ≤ Nd.szL ks := fun i hi => ⟨by have := Nd.rk_lt (List.getElem_mem hi); omega, Nd.sz_le (List.getElem_mem hi)⟩
    refine Fn.intro Tryd.func45 rfl Tryd.ntmps45 rfl (fun e he => ?_)
    refine J.weak [(0, _)] ⟨rfl, trivial⟩ ?_
    refine Sr ?_
    refine Ru 1 rfl ?_
    refine JL.nil ?_
    refine Sr ?_
    refine Ru 1 rfl ?_
    refine JL.nil ?_
    refine J.seq ?_
    refine Sr ?_
    refine JL.row_nil 25 5 ?_
    refine Ru 3 rfl ?_
    refine JL.nil ?_
    refine J.block ?_
    refine J.loop (fun t_ S_ h_ L_ => ∃ (g : Part) (i : Nat) (ao : Option Addr) (co : Nat) (xs : List Value), t_ = ks.length - i ∧ S_ = [(3, .slice ao (ks.take i).length co), (6, .slice a ks.length c), (7, .int .i64 ks.length), (8, .int .i64 i)] ∧ g = h_ ∧ L_ = [.row ao co 25 5 (ks.take i).length xs] ∧ (h.le g ∧ i ≤ ks.length ∧ CellsR NdR 5 g xs (ks.take i))) ⟨_, _, ?_, ⟨_, 0, _, _, _, rfl, rfl, rfl, rfl, ⟨Part.le.refl _, by omega, CellsR.nil⟩⟩⟩ ?_
    ·
     repeat (first | exact trivial | refine ⟨rfl, ?_⟩)
    rintro _ _ _ _ ⟨g, i, ao, co, xs, rfl, rfl, rfl, rfl, hhg, hi, hC⟩
    have hk := hk.mono hhg
    refine Sr ?_
    refine Ru 1 rfl ?_
    refine JL.nil ?_
    refine J.seq ?_
    refine Cs rfl (fun hc1 => ?_) fun hc1 => ?_
    ·
     have hi' : i < ks.length := (by omega); have hzi := hz i hi'; obtain ⟨kc, kt, kk, kbs, kks, hkx⟩ : ∃ c t k bs ks', ks[i] = .mk c t k bs ks' := (by cases ks[i]; exact ⟨_, _, _, _, _, rfl⟩); have hke : ks.take i ++ [.mk kc kt kk kbs kks] = ks.take (i + 1) := (by rw [← hkx, List.take_succ_eq_append_getElem hi']); have htl : (ks.take i).length ≤ ks.length := (by simp; omega)
     refine J.skip ?_
     refine J.seq ?_
     refine J.block ?_
     refine Sr ?_
     refine JL.ope (RunE.index sl_23 rfl rfl (by first | with_reducible rfl | exact (Int.toNat_of_nonneg (by omega)).symm) (by assumption) rfl (by omega)) rfl ?_
     rintro _ ⟨b2, o2, hi2, rfl, hE2⟩
     refine JL.ope (RunE.loadA ag_25 rfl (by assumption)) rfl ?_
     rintro _ ⟨_, rfl, hNdx⟩
     rw [hkx] at hNdx hzi; obtain ⟨ka, kca, kb, kcb, rfl, hka, hkb⟩ := hNdx.inv; simp only [Nd.rk, Nd.sz] at hzi; have hkal := hka.big
     refine JL.alloc zr_25 rfl (fun b4 => ?_)
     refine JL.storeA ag_25 rfl rfl (by repeat (first | exact Del.here | apply Del.there)) (by first | rfl | exact NdR.all1 (by assumption)) (by first | rfl | assumption | exact NdR.len5 (by assumption)) (by first | rfl | exact NdR.len5 (by assumption)) ?_
     refine JL.nil ?_
     refine Sr ?_
     refine Ru 1 rfl ?_
     refine JL.op (RunV.own1 ag_22 rfl (by repeat (first | exact List.mem_cons_self .. | apply List.mem_cons_of_mem)) rfl) rfl ?_
     refine JL.row_nil 5 1 ?_
     refine JL.append ap_22 rfl rfl (CellsR.nil (R := u8R)) rfl (by assumption) rfl (by repeat (first | exact Del.here | apply Del.there)) (by first | omega | (simp only [List.length_append, List.length_cons, List.length_nil]; omega)) rfl rfl (fun a5 c5 xs5 hC5 hN5 => ?_)
     obtain rfl := hC5.u8
     refine JL.pub (R := u8R) (l := kbs) (by repeat (first | exact Del.here | apply Del.there)) CellsR.of_u8 rfl (by first | omega | (simp only [List.length_append, List.length_cons, List.length_nil]; omega)) (fun h6 hle6 hP6 => ?_)
     replace hk := hk.mono hle6
     replace hhg := hhg.mono hle6
     replace hC := hC.mono hle6
     replace hka := hka.mono hle6
     replace hkb := hkb.mono hle6
     refine Ru 1 rfl ?_
     refine JL.store1 ag_22 rfl rfl rfl (by repeat (first | exact Del.here | apply Del.there)) (by first | rfl | (simp; omega)) ?_
     refine JL.nil ?_
     refine Sr ?_
     refine Ru 1 rfl ?_
     refine JL.op (RunV.own1 ag_23 rfl (by repeat (first | exact List.mem_cons_self .. | apply List.mem_cons_of_mem)) rfl) rfl ?_
     refine JL.callR ca_45 rfl (ih kks _ _ _ (by omega) (by assumption) (by omega)) rfl ?_
     rintro _ h7 hle7 ⟨a7, c7, rfl, hS7⟩
     replace hk := hk.mono hle7
     replace hhg := hhg.mono hle7
     replace hC := hC.mono hle7
     replace hka := hka.mono hle7
     replace hkb := hkb.mono hle7
     replace hP6 := hP6.mono hle7
     refine Ru 1 rfl ?_
     refine JL.store1 ag_23 rfl rfl rfl (by repeat (first | exact Del.here | apply Del.there)) (by first | rfl | (simp; omega)) ?_
     refine JL.nil ?_
     refine Rg ?_
     refine Ru 1 rfl ?_
     refine JL.op (RunV.ownA ag_25 rfl (by repeat (first | exact List.mem_cons_self .. | apply List.mem_cons_of_mem)) (by first | rfl | exact NdR.len5 (by assumption))) rfl ?_
     refine JL.litA ap_23 rfl (by first | rfl | exact NdR.len5 (by assumption)) rfl rfl (fun b8 => ?_)
     refine JL.append1 ap_23 rfl rfl (by assumption) rfl (by repeat (first | exact Del.here | apply Del.there)) (by repeat (first | exact Del.here | apply Del.there)) (by first | rfl | exact NdR.len5 (by assumption)) ((NdR.of (by assumption) (by assumption) : NdR _ _ (.mk kc kt kk kbs kks))) (by first | omega | (simp only [List.length_append, List.length_cons, List.length_nil]; omega)) rfl rfl (fun a9 c9 xs9 hC9 hN9 => ?_)
     rw [hke] at *
     refine Ru 1 rfl ?_
     refine JL.nil ?_
     refine Rg ?_
     refine JL.ents [.row _ _ _ _ _ _] (by repeat first | exact Parts.nil | exact Del.here | apply Del.there | apply Parts.cons) ?_
     refine JL.op (by first | exact RunV.add_i64 rfl rfl (by omega) (by omega) | exact RunV.add rfl rfl) rfl ?_
     refine Ru 1 rfl ?_
     refine JL.nil ?_
     refine ⟨_, ?_, _, ?_, ⟨_, i + 1, _, _, _, rfl, rfl, rfl, rfl, ⟨by assumption, by omega, by assumption⟩⟩⟩
     ·
      omega
     ·
      repeat (first | exact trivial | refine ⟨rfl, ?_⟩)
    ·
     refine J.exit ?_
     refine Kp [3] rfl ?_
     refine Sr ?_
     refine Ru 1 rfl ?_
     have hke : ks.take i = ks := List.take_of_length_le (by omega); rw [hke] at hC ⊢; refine JL.pub (R := NdR) (by repeat (first | exact Del.here | apply Del.there)) (by assumption) rfl hl (fun h9 hle9 hS9 => ?_)
     refine Ru 1 rfl ?_
     refine JL.nil ?_
     exact J.retR (RetV.one rfl rfl) ⟨_, _, rfl, hS9⟩




theorem cons_fn {cl t : Int} {ks : List Nd} {a : Option Addr} {c : Nat} {h : Part} (hk : SlR NdR 5 h a c ks) (hz : Nd.szL ks ≤ 1099511627776) :
    FnR Tryd.prog 105 [.int .i64 cl, .int .i64 t, .slice a ks.length c] h (fun v h' => ∃ cs, v = .agg (List.toArray cs) ∧ NdR h' cs (.mk cl t true [] ks)) := by
  refine Fn.intro Tryd.func105 rfl Tryd.ntmps105 rfl (fun e he => ?_)
  refine J.weak [(0, _), (1, _), (2, _)] ⟨rfl, rfl, rfl, trivial⟩ ?_
  refine Sr ?_
  refine JL.alloc zr_25 rfl (fun b1 => ?_)
  refine JL.nil ?_
  refine Sr ?_
  refine Ru 3 rfl ?_
  refine JL.callR ca_45 rfl (own_fn _ _ _ _ _ (Nat.le_refl _) (by assumption) (by omega)) rfl ?_
  rintro _ h2 hle2 ⟨a2, c2, rfl, hS2⟩
  replace hk := hk.mono hle2
  refine JL.op (RunV.build (cs := [_, _, _, .slice none 0 0, _]) pl_25 rfl rfl) rfl ?_
  refine JL.storeA ag_25 rfl rfl (by repeat (first | exact Del.here | apply Del.there)) (by first | rfl | exact NdR.all1 (by assumption)) (by first | rfl | assumption | exact NdR.len5 (by assumption)) (by first | rfl | exact NdR.len5 (by assumption)) ?_
  refine Nk [6] rfl ?_
  exact J.retR (RetV.cell rfl rfl ag_25 (by repeat (first | exact List.mem_cons_self .. | apply List.mem_cons_of_mem)) (by first | rfl | exact NdR.len5 (by assumption))) ⟨_, rfl, NdR.of SlR.nil_ (by assumption)⟩




/-! ## integers -/
def ibytes (n : Int) : Nat → List UInt8
  | 0 => []
  | k + 1 => UInt8.ofNat ((n / 256 ^ k) % 256).toNat :: ibytes n k
def stripB : List UInt8 → List UInt8
  | [] => []
  | x :: r => if leastB (x :: r) then x :: r else stripB r
def intB (n : Int) : List UInt8 := stripB (ibytes n 8)
theorem shrI_cast (n : Int) (j : Nat) (e : Int) (he : e = 8 * (j : Int)) : n / 2 ^ e.toNat = n / 256 ^ j := by
  subst he
  have h1 : (8 * (j : Int)).toNat = 8 * j := by omega
  have h2 : (256 : Int) ^ j = 2 ^ (8 * j) := by rw [Int.pow_mul]; rfl
  rw [h1, h2]
theorem RunV.toByteI {f : Fr} {S : Sig} {h : Part} {L : List Ent} {ty : TypeId} {x : Operand} {p : Int} {src dst : TypeId} {k : IntKind} (hc : convI f.P src dst = some .u8) (hx : ev S x = some (.int k p)) : RunV f S h L (.convert src dst x) ty (.int .u8 ((UInt8.ofNat (p % 256).toNat).toNat : Int)) := by
  have := RunV.conv (f := f) (h := h) (L := L) (ty := ty) hc hx
  have e : IntKind.u8.wrap p = ((UInt8.ofNat (p % 256).toNat).toNat : Int) := by rw [IntKind.wrap_u8]; simp; omega
  rwa [e] at this
theorem leastB_short {l : List UInt8} (h : leastB l = false) (h0 : 1 ≤ l.length) : 2 ≤ l.length := by
  unfold leastB at h
  rw [if_neg (by omega)] at h
  split at h
  · cases h
  · omega
theorem stripB_drop {l : List UInt8} (h : leastB l = false) : stripB l = stripB (l.drop 1) := by
  cases l with
  | nil => rfl
  | cons x r => simp only [stripB]; rw [if_neg (by rw [h]; decide)]; rfl
theorem stripB_least {l : List UInt8} (h : leastB l = true) : stripB l = l := by
  cases l with
  | nil => rfl
  | cons x r => simp only [stripB]; rw [if_pos h]
theorem ibytes_len (n : Int) (k : Nat) : (ibytes n k).length = k := by
  induction k with
  | zero => rfl
  | succ k ih => simp [ibytes, ih]

theorem int_fn {n : Int} {h : Part} : FnR Tryd.prog 20 [.int .i64 n] h (fun v h' => ∃ cs, v = .agg (List.toArray cs) ∧ NdR h' cs (.mk 0 2 false (intB n) [])) := by
  refine Fn.intro Tryd.func20 rfl Tryd.ntmps20 rfl (fun e he => ?_)
  refine J.weak [(0, _)] ⟨rfl, trivial⟩ ?_
  refine Sr ?_
  refine JL.alloc zr_25 rfl (fun b1 => ?_)
  refine JL.nil ?_
  refine Sr ?_
  refine Ru 1 rfl ?_
  refine JL.nil ?_
  refine J.seq ?_
  refine Sr ?_
  refine JL.row_nil 5 1 ?_
  refine Ru 1 rfl ?_
  refine JL.nil ?_
  refine J.block ?_
  refine J.loop (fun t_ S_ h_ L_ => ∃ (j : Nat) (out : List UInt8) (a : Option Addr) (c : Nat), t_ = 9 + j ∧ S_ = [(0, .int .i64 n), (2, .pointer (some ⟨b1, 0, none⟩)), (3, .slice a out.length c), (4, .int .i64 ((j : Int) - 1))] ∧ h = h_ ∧ L_ = [.row a c 5 1 out.length (u8s out), .blk b1 25 [.int .i64 0, .int .i64 0, .bool false, .slice none 0 0, .slice none 0 0]] ∧ (j ≤ 8 ∧ out.length = 8 - j ∧ ibytes n 8 = out ++ ibytes n j)) ⟨_, _, ?_, ⟨8, [], none, 0, rfl, rfl, rfl, rfl, ⟨by omega, rfl, rfl⟩⟩⟩ ?_
  ·
   repeat (first | exact trivial | refine ⟨rfl, ?_⟩ | refine ⟨(by exact some_int (by omega)), ?_⟩)
  rintro _ _ _ _ ⟨j, out, a, c, rfl, rfl, rfl, rfl, hj, hol, he⟩
  refine J.seq ?_
  refine Sr ?_
  refine Ru 2 rfl ?_
  refine JL.nil ?_
  refine Cs rfl (fun hc2 => ?_) fun hc2 => ?_
  ·
   obtain ⟨i, rfl⟩ : ∃ i, j = i + 1 := ⟨j - 1, by omega⟩
   refine J.skip ?_
   refine J.seq ?_
   refine J.block ?_
   refine Rg ?_
   refine Ru 3 rfl ?_
   refine JL.op (by first | exact RunV.mul_i64 rfl rfl (by omega) (by omega) | exact RunV.mul rfl rfl) rfl ?_
   refine JL.op (RunV.shr rfl rfl (by omega) (by show _ ≤ ((64 : Nat) : Int); omega)) rfl ?_
   rw [shrI_cast n i _ (by omega)]
   refine JL.op (RunV.toByteI cv_2_5 rfl) rfl ?_
   refine JL.lit1 ap_22 zr_5 rfl rfl rfl rfl rfl (fun b3 => ?_)
   refine JL.append1 ap_22 rfl rfl CellsR.of_u8 rfl (by repeat (first | exact Del.here | apply Del.there)) (by repeat (first | exact Del.here | apply Del.there)) rfl (rfl) (by first | omega | (simp only [List.length_append, List.length_cons, List.length_nil]; omega)) rfl rfl (fun a4 c4 xs4 hC4 hN4 => ?_)
   obtain rfl := hC4.u8
   refine Ru 1 rfl ?_
   refine JL.nil ?_
   refine Rg ?_
   refine Ru 1 rfl ?_
   refine JL.op (by first | exact RunV.sub_i64 rfl rfl (by omega) (by omega) | exact RunV.sub rfl rfl) rfl ?_
   refine Ru 1 rfl ?_
   refine JL.nil ?_
   refine ⟨_, ?_, _, ?_, ⟨i, _, _, _, rfl, rfl, rfl, rfl, ⟨by omega, by simp; omega, by rw [he, ibytes, List.append_assoc]; rfl⟩⟩⟩
   ·
    omega
   ·
    repeat (first | exact trivial | refine ⟨rfl, ?_⟩ | refine ⟨(by exact some_int (by omega)), ?_⟩)
  ·
   have hj0 : j = 0 := (by omega); subst hj0; have hob : out = ibytes n 8 := (by rw [he]; simp [ibytes]); refine J.pub (R := u8R) (l := out) (by repeat (first | exact Del.here | apply Del.there)) CellsR.of_u8 rfl (by omega) (fun h9 hle9 hS9 => ?_)
   refine J.exit ?_
   refine Kp [2, 3] rfl ?_
   refine J.seq ?_
   refine J.block ?_
   refine J.loop (fun t_ S_ h_ L_ => ∃ (g : Part) (l : List UInt8) (a : Option Addr) (c : Nat), t_ = l.length + 5 ∧ S_ = [(2, .pointer (some ⟨b1, 0, none⟩)), (3, .slice a l.length c)] ∧ g = h_ ∧ L_ = [.blk b1 25 [.int .i64 0, .int .i64 0, .bool false, .slice none 0 0, .slice none 0 0]] ∧ (h.le g ∧ SlR u8R 1 g a c l ∧ 1 ≤ l.length ∧ intB n = stripB l)) ⟨_, _, ?_, ⟨_, out, _, _, rfl, rfl, rfl, rfl, ⟨by assumption, by assumption, by omega, by rw [hob]; rfl⟩⟩⟩ ?_
   ·
    repeat (first | exact trivial | refine ⟨rfl, ?_⟩)
   rintro _ _ _ _ ⟨g, l, a, c, rfl, rfl, rfl, rfl, hhg, hl, hll, hs⟩
   refine J.seq ?_
   refine Sr ?_
   refine Ru 1 rfl ?_
   refine JL.callP ca_39 rfl (least_fn (by assumption)) rfl ?_
   refine Ru 1 rfl ?_
   refine JL.nil ?_
   refine Cs rfl (fun hc6 => ?_) fun hc6 => ?_
   ·
    have hl2 := leastB_short hc6 hll; have hsd := stripB_drop hc6
    refine J.skip ?_
    refine J.block ?_
    refine Rg ?_
    refine Ru 1 rfl ?_
    refine JL.ope (RunE.cut_l sl_22 rfl rfl (show _ = ((1 : Nat) : Int) from rfl) (by assumption) rfl (by omega)) rfl ?_
    rintro _ ⟨a7, c7, rfl, hS7⟩
    refine Ru 1 rfl ?_
    refine JL.nil ?_
    refine ⟨_, ?_, _, ?_, ⟨_, l.drop 1, _, _, rfl, rfl, rfl, rfl, ⟨by assumption, by assumption, by simp; omega, by rw [hs, hsd]⟩⟩⟩
    ·
     simp; omega
    ·
     repeat (first | exact trivial | refine ⟨rfl, ?_⟩)
   ·
    have hi9 : intB n = l := (by rw [hs, stripB_least hc6])
    refine J.exit ?_
    refine Sr ?_
    refine Ru 1 rfl ?_
    refine JL.callR ca_40 rfl (prim_fn (by assumption)) rfl ?_
    rintro _ h8 hle8 ⟨w8, rfl, hNd8⟩
    replace hl := hl.mono hle8
    replace hhg := hhg.mono hle8
    refine JL.storeA ag_25 rfl rfl (by repeat (first | exact Del.here | apply Del.there)) (by first | rfl | exact NdR.all1 (by assumption)) (by first | rfl | assumption | exact NdR.len5 (by assumption)) (by first | rfl | exact NdR.len5 (by assumption)) ?_
    refine Nk [2] rfl ?_
    rw [hi9]; exact J.retR (RetV.cell rfl rfl ag_25 (by repeat (first | exact List.mem_cons_self .. | apply List.mem_cons_of_mem)) (by first | rfl | exact NdR.len5 (by assumption))) ⟨_, rfl, by assumption⟩




end Go.Proofs.YtmngjbefnloljaaDoor
