/- Walks: the law DerLengths. -/
import Derived.Test.YtbmlbefpnieglaaDoorDerV4
set_option linter.unusedSimpArgs false
set_option linter.unusedVariables false
set_option linter.constructorNameAsVariable false
namespace Go.Proofs.YtbmlbefpnieglaaDoor
open Go Go.RowKit
set_option maxRecDepth 100000
theorem ca_14 : callT Tryd.prog 14 = true := by kernel_rfl
theorem ca_19 : callT Tryd.prog 19 = true := by kernel_rfl
theorem ca_21 : callT Tryd.prog 21 = true := by kernel_rfl
theorem it_3 : isIntT Tryd.prog 3 = true := by kernel_rfl
theorem mk_22 : mkT Tryd.prog 22 = some (5, .int .u8 0, 1) := by kernel_rfl
theorem lens_put (k : Nat) (hk : k < 70000) : (Nd.mk 0 4 false (List.replicate k 0) []).wr = (4 :: lenB k ++ List.replicate k 0, 0) := by
  have hm : mayB 0 4 false = true := by decide
  have hok : okN 0 4 false (List.replicate k 0) [] = true := okN_of hm (fun hh => by cases hh) (fun _ => ⟨rfl, by rw [valB_0 (by omega)]; simp⟩)
  have hp : (Nd.mk 0 4 false (List.replicate k 0) []).put = some (4 :: lenB k ++ List.replicate k 0) := by
    simp only [Nd.put, hok, if_true, Nd.putL, Option.map_some, List.length_replicate]
    rfl
  have hb := nby_bd k
  have hl : (lenB k).length ≤ 7 := by unfold lenB; split <;> simp [be_len]; omega
  unfold Nd.wr
  rw [hp]
  simp only
  rw [if_neg (by simp [Nd.rk, Nd.rkL]), if_neg (by simp; omega)]
theorem lens_rd (k w : Nat) (hk : k < 70000) (hw1 : 1 ≤ w) (hw5 : w ≤ 5) (hf : k / 256 ^ w = 0) (hne : ¬ ((4 :: UInt8.ofNat (128 + w) :: be w k).length = (4 :: lenB k).length ∧ UInt8.ofNat (128 + w) = (lenB k)[0]'(by have := lenB_len k; omega))) :
    rdTop ((4 :: UInt8.ofNat (128 + w) :: be w k) ++ List.replicate k 0) = (ndZ, 0, 32) := by
  obtain ⟨l, hl⟩ : ∃ l, (4 :: UInt8.ofNat (128 + w) :: be w k) ++ List.replicate k 0 = l := ⟨_, rfl⟩
  rw [hl]
  have hlen : l.length = w + 2 + k := by rw [← hl]; simp [be_len]; omega
  have hpre : (4 : UInt8) :: UInt8.ofNat (128 + w) :: be w k <+: l.drop 0 := ⟨List.replicate k 0, by rw [List.drop_zero, ← hl]⟩
  obtain ⟨h1, h2, h3⟩ := pre_byte hpre
  obtain ⟨h4, h5, h6⟩ := pre_byte h3
  have e4 : (UInt8.ofNat (128 + w)).toNat = 128 + w := by simp; omega
  rw [e4] at h4
  have hS : rdS l 1 l.length = .error 32 := by
    unfold rdS
    simp only [Nat.zero_add] at h4 h6
    rw [h4, if_neg (by omega), if_neg (by omega)]
    split
    · rfl
    · rename_i hw4
      have hw4 : w ≤ 4 := by omega
      rw [if_neg (by omega)]
      have ht : (l.drop 2).take (128 + w - 128) = be w k := by
        have := List.prefix_iff_eq_take.1 h6
        rw [be_len] at this
        rw [show 128 + w - 128 = w by omega, ← this]
      have hlt : k < 256 ^ w := by
        rcases Nat.div_eq_zero_iff.1 hf with hh | hh
        · have : 0 < 256 ^ w := Nat.pow_pos (by decide); omega
        · exact hh
      have hv : beval (be w k) = k := by rw [beval_be, Nat.mod_eq_of_lt hlt]
      rw [ht, hv, if_pos]
      intro ⟨q1, q2⟩
      rw [show 128 + w - 128 - 1 = w - 1 by omega] at q2
      have hnb := nby_of k w hw1 hw4 hlt q2
      have hlb : lenB k = UInt8.ofNat (128 + w) :: be w k := by unfold lenB; rw [if_neg (by omega), hnb]
      refine hne ⟨by rw [hlb], ?_⟩
      simp [hlb]
  have hH : rdH l 0 l.length true = .error (0, 32) := by
    unfold rdH
    rw [h1, if_neg (by omega), if_neg (by decide), hS]
    rfl
  unfold rdTop
  rw [if_neg (by omega), rdN_err hH]

theorem dlen_fn {n w : Int} {h : Part} (h0 : -9223372036854775808 ≤ n) (h1 : n ≤ 9223372036854775807) (h2 : -9223372036854775808 ≤ w) (h3 : w ≤ 9223372036854775807) (hT : Tabs h) : Pure Tryd.prog 6 [.int .i64 n, .int .i64 w] h (.bool true) := by
  obtain ⟨k, hk⟩ : ∃ k : Nat, amongI n 70000 = k := ⟨_, (Int.toNat_of_nonneg (amongI_bd n 70000 (by decide)).1).symm⟩
  have hA := amongI_bd n 70000 (by decide)
  obtain ⟨w', hw'⟩ : ∃ k : Nat, amongI w 5 = k := ⟨_, (Int.toNat_of_nonneg (amongI_bd w 5 (by decide)).1).symm⟩
  have hB := amongI_bd w 5 (by decide)
  rw [hk] at hA
  rw [hw'] at hB
  have hwr := lens_put k (by omega)
  have hll := lenB_len k
  obtain ⟨zl, hzl⟩ : ∃ zl : List UInt8, zl = List.replicate k 0 := ⟨_, rfl⟩
  have hzk : zl.length = k := by rw [hzl]; simp
  rw [← hzl] at hwr
  have hl7 : (lenB k).length ≤ 7 := by have hb := nby_bd k; unfold lenB; split <;> simp [be_len]; omega
  refine Pure.ofV ?_
  refine Fn.intro Tryd.func6 rfl Tryd.ntmps6 rfl (fun e he => ?_)
  refine J.weak [(0, _), (1, _)] ⟨rfl, rfl, trivial⟩ ?_
  have hh0 := Part.le.refl h
  refine Sr ?_
  refine Ru 1 rfl ?_
  refine JL.nil ?_
  refine Sr ?_
  refine Ru 1 rfl ?_
  refine JL.callP ca_19 rfl (among_fn _ _ _ (by omega) (by omega) (by omega)) rfl ?_
  rw [hk]
  refine Ru 1 rfl ?_
  refine JL.callP ca_19 rfl (among_fn _ _ _ (by omega) (by omega) (by omega)) rfl ?_
  rw [hw']
  refine JL.op (by first | exact RunV.add_i64 rfl rfl (by omega) (by omega) | exact RunV.add rfl rfl) rfl ?_
  refine Ru 2 rfl ?_
  refine Nk [1, 0, 4] rfl ?_
  refine Sr ?_
  refine Ru 1 rfl ?_
  refine JL.makeB zl hzl mk_22 rfl rfl (by first | with_reducible rfl | exact (Int.toNat_of_nonneg (by omega)).symm) (by first | with_reducible rfl | exact (Int.toNat_of_nonneg (by omega)).symm) (by omega) rfl rfl (fun b3 => ?_)
  refine JL.pub (R := u8R) (l := zl) (by repeat (first | exact Del.here | apply Del.there)) CellsR.of_u8 rfl (by first | omega | (simp only [List.length_append, List.length_cons, List.length_nil]; omega)) (fun h4 hle4 hP4 => ?_)
  replace hT := hT.mono hle4
  replace hh0 := hh0.mono hle4
  refine JL.op (RunV.build (cs := [.int .i64 0, _, .bool false, _, .slice none 0 0]) pl_25 rfl rfl) rfl ?_
  refine JL.callR ca_15 rfl (write_at (x := .mk 0 4 false zl []) hwr (NdR.of (by assumption) SlR.nil_) hT (by simp [Nd.sz, Nd.szL]; omega)) rfl ?_
  rintro _ h5 hle5 ⟨wa, wc, rfl, hW⟩
  replace hT := hT.mono hle5
  replace hh0 := hh0.mono hle5
  replace hP4 := hP4.mono hle5
  refine Ru 5 rfl ?_
  refine Nk [6, 5, 1, 0, 4] rfl ?_
  refine Sr ?_
  refine JL.lit1 ap_22 zr_5 rfl rfl rfl rfl rfl (fun b6 => ?_)
  refine Ru 1 rfl ?_
  refine JL.callR ca_21 rfl (length_fn (by omega)) rfl ?_
  rintro _ h7 hle7 ⟨a7, c7, rfl, hS7⟩
  replace hT := hT.mono hle7
  replace hh0 := hh0.mono hle7
  replace hP4 := hP4.mono hle7
  replace hW := hW.mono hle7
  refine JL.rowL (l := [4]) (b := b6) (by repeat (first | exact Del.here | apply Del.there)) (by first | rfl | kernel_rfl) (by first | decide | (simp; done)) ?_
  refine JL.append ap_22 rfl rfl CellsR.of_u8 rfl (by assumption) rfl (by repeat (first | exact Del.here | apply Del.there)) (by first | omega | (simp only [List.length_append, List.length_cons, List.length_nil]; omega)) rfl rfl (fun a8 c8 xs8 hC8 hN8 => ?_)
  obtain rfl := hC8.u8
  have hl8 : (4 :: lenB k).length = (lenB k).length + 1 := rfl
  refine Ru 1 rfl ?_
  refine JL.pub (R := u8R) (l := 4 :: lenB k) (by repeat (first | exact Del.here | apply Del.there)) CellsR.of_u8 rfl (by first | omega | (simp only [List.length_append, List.length_cons, List.length_nil]; omega)) (fun h9 hle9 hP9 => ?_)
  replace hT := hT.mono hle9
  replace hh0 := hh0.mono hle9
  replace hP4 := hP4.mono hle9
  replace hW := hW.mono hle9
  replace hS7 := hS7.mono hle9
  refine JL.nil ?_
  refine J.seq ?_
  refine J.seq ?_
  refine J.drawn mixed_ (by kernel_rfl) ?_
  refine Rq 3 rfl ?_
  refine Bq 34 rfl (fun hc10 => ?_) fun hc10 => ?_
  ·
   exfalso; exact hc10 rfl
  refine Rq 5 rfl ?_
  refine JQ.opg rfl rfl  (by first | exact RunV.add_i64 rfl rfl (by omega) (by omega) | exact RunV.add rfl rfl) rfl ?_
  refine Rq 3 rfl ?_
  refine Bq 43 rfl (fun hc11 => ?_) fun hc11 => ?_
  ·
   exfalso; exact hc11 (by simp; omega)
  refine Rq 3 rfl ?_
  refine JQ.opeg rfl rfl  (RunE.cut_h sl_22 rfl rfl (by first | with_reducible rfl | exact (Int.toNat_of_nonneg (by omega)).symm) (by assumption) rfl (by omega)) rfl ?_
  rintro _ ⟨a12, c12, rfl, hS12⟩
  refine JQ.opg rfl rfl  (RunV.strB sb_22_9 rfl (by assumption) rfl) rfl ?_
  refine Rq 1 rfl ?_
  refine JQ.opg rfl rfl  (RunV.strB sb_22_9 rfl (by assumption) rfl) rfl ?_
  refine JQ.opg rfl rfl  (RunV.neqS rfl rfl) rfl ?_
  refine Rq 1 rfl ?_
  refine Nq [52, 7, 1, 0, 4] rfl ?_
  refine Cs rfl (fun hc13 => ?_) fun hc13 => ?_
  ·
   exfalso; exact hc13 (by simp)
  refine J.skip ?_
  refine Sr ?_
  refine Ru 1 rfl ?_
  refine JL.op (by first | exact RunV.add_i64 rfl rfl (by omega) (by omega) | exact RunV.add rfl rfl) rfl ?_
  refine JL.op (RunV.toByte (128 + (w' + 1)) cv_3_5 rfl (by omega)) rfl ?_
  refine JL.lit1 ap_22 zr_5 rfl rfl rfl rfl rfl (fun b14 => ?_)
  refine Ru 1 rfl ?_
  refine Nk [8, 7, 1, 0, 4] rfl ?_
  refine J.seq ?_
  refine Sr ?_
  refine JL.rowL (l := [4, UInt8.ofNat (128 + (w' + 1))]) (by repeat first | exact Del.here | apply Del.there) rfl (by simp) ?_
  refine Ru 1 rfl ?_
  refine JL.op (by first | exact RunV.sub_i64 rfl rfl (by omega) (by omega) | exact RunV.sub rfl rfl) rfl ?_
  refine Ru 1 rfl ?_
  refine JL.nil ?_
  refine J.block ?_
  refine J.loop (fun t_ S_ h_ L_ => ∃ (j : Nat) (out : List UInt8) (oa : Option Addr) (oc : Nat), t_ = 7 + j ∧ S_ = [(0, .int .i64 k), (1, .int .i64 (1 + (w' : Int))), (7, .slice a8 (4 :: lenB k).length c8), (8, .slice oa out.length oc), (9, .int .i64 ((j : Int) - 1))] ∧ h9 = h_ ∧ L_ = [.row oa oc 5 1 out.length (u8s out)] ∧ (j ≤ w' + 1 ∧ out.length + j = w' + 3 ∧ 4 :: UInt8.ofNat (128 + (w' + 1)) :: be (w' + 1) k = out ++ be j k)) ⟨_, _, ?_, ⟨w' + 1, _, _, _, rfl, rfl, rfl, rfl, ⟨by omega, by simp; omega, rfl⟩⟩⟩ ?_
  ·
   repeat (first | exact trivial | refine ⟨rfl, ?_⟩ | refine ⟨(by exact some_int (by omega)), ?_⟩)
  rintro _ _ _ _ ⟨j, out, oa, oc, rfl, rfl, rfl, rfl, hj, hol, he⟩
  refine J.seq ?_
  refine Sr ?_
  refine Ru 2 rfl ?_
  refine JL.nil ?_
  refine Cs rfl (fun hc15 => ?_) fun hc15 => ?_
  ·
   obtain ⟨i, rfl⟩ : ∃ i, j = i + 1 := ⟨j - 1, by omega⟩
   refine J.skip ?_
   refine J.seq ?_
   refine J.block ?_
   refine Sr ?_
   refine Ru 2 rfl ?_
   refine JL.nil ?_
   refine J.seq ?_
   refine Sr ?_
   refine Ru 1 rfl ?_
   refine JL.nil ?_
   refine J.block ?_
   refine J.loop (fun t_ S_ h_ L_ => ∃ (m : Nat), t_ = i - m ∧ S_ = [(0, .int .i64 k), (1, .int .i64 (1 + (w' : Int))), (7, .slice a8 (4 :: lenB k).length c8), (8, .slice oa out.length oc), (9, .int .i64 (((i + 1 : Nat) : Int) - 1)), (10, .int .i64 (k / 256 ^ m : Nat)), (11, .int .i64 m)] ∧ h9 = h_ ∧ L_ = [.row oa oc 5 1 out.length (u8s out)] ∧ (m ≤ i)) ⟨_, _, ?_, ⟨0, rfl, rfl, rfl, rfl, by omega⟩⟩ ?_
   ·
    repeat (first | exact trivial | refine ⟨rfl, ?_⟩ | refine ⟨(by exact some_int (by first | (simp; done) | (rw [Nat.pow_succ, ← Nat.div_div_eq_div_mul]; omega))), ?_⟩)
   rintro _ _ _ _ ⟨m, rfl, rfl, rfl, rfl, hm⟩
   have hle := Nat.div_le_self k (256 ^ m); have hq0 : (0 : Int) ≤ ((k / 256 ^ m : Nat) : Int) := Int.natCast_nonneg _
   refine J.seq ?_
   refine Sr ?_
   refine Ru 3 rfl ?_
   refine JL.nil ?_
   refine Cs rfl (fun hc16 => ?_) fun hc16 => ?_
   ·
    refine J.skip ?_
    refine J.seq ?_
    refine J.block ?_
    refine Rg ?_
    refine Ru 1 rfl ?_
    refine JL.op (by first | exact RunV.quo_i64 rfl rfl (by omega) (by omega) (by omega) | exact RunV.quo rfl rfl (by omega)) rfl ?_
    refine Ru 1 rfl ?_
    refine JL.nil ?_
    refine Rg ?_
    refine Ru 1 rfl ?_
    refine JL.op (by first | exact RunV.add_i64 rfl rfl (by omega) (by omega) | exact RunV.add rfl rfl) rfl ?_
    refine Ru 1 rfl ?_
    refine JL.nil ?_
    refine ⟨_, ?_, _, ?_, ⟨m + 1, rfl, rfl, rfl, rfl, by omega⟩⟩
    ·
     omega
    ·
     repeat (first | exact trivial | refine ⟨rfl, ?_⟩ | refine ⟨(by exact some_int (by first | (simp; done) | (rw [Nat.pow_succ, ← Nat.div_div_eq_div_mul]; omega))), ?_⟩)
   ·
    have hmi : m = i := (by omega); subst hmi
    refine J.exit ?_
    refine Rg ?_
    refine Ru 2 rfl ?_
    refine JL.op (by first | exact RunV.rem_i64 rfl rfl (by omega) (by omega) | exact RunV.rem rfl rfl (by omega)) rfl ?_
    refine JL.op (RunV.toByte (k / 256 ^ m % 256) cv_3_5 rfl (by omega)) rfl ?_
    rw [ofNat_mod]
    refine JL.lit1 ap_22 zr_5 rfl rfl rfl rfl rfl (fun b17 => ?_)
    refine JL.append1 ap_22 rfl rfl CellsR.of_u8 rfl (by repeat (first | exact Del.here | apply Del.there)) (by repeat (first | exact Del.here | apply Del.there)) rfl (rfl) (by first | omega | (simp only [List.length_append, List.length_cons, List.length_nil]; omega)) rfl rfl (fun a18 c18 xs18 hC18 hN18 => ?_)
    obtain rfl := hC18.u8
    refine Ru 1 rfl ?_
    refine JL.nil ?_
    refine Rg ?_
    refine Ru 1 rfl ?_
    refine JL.op (by first | exact RunV.sub_i64 rfl rfl (by omega) (by omega) | exact RunV.sub rfl rfl) rfl ?_
    refine Ru 1 rfl ?_
    refine JL.nil ?_
    refine ⟨_, ?_, _, ?_, ⟨m, _, _, _, rfl, rfl, rfl, rfl, ⟨by omega, by simp; omega, by rw [he, be, List.append_assoc]; rfl⟩⟩⟩
    ·
     omega
    ·
     repeat (first | exact trivial | refine ⟨rfl, ?_⟩ | refine ⟨(by exact some_int (by omega)), ?_⟩)
  ·
   have hj0 : j = 0 := (by omega); subst hj0; have ho : out = 4 :: UInt8.ofNat (128 + (w' + 1)) :: be (w' + 1) k := (by rw [he]; simp [be]); subst ho
   refine J.exit ?_
   refine Sr ?_
   refine Ru 2 rfl ?_
   refine Nk [12, 0, 1, 7, 8] rfl ?_
   refine J.seq ?_
   refine Sr ?_
   refine Ru 1 rfl ?_
   refine JL.nil ?_
   refine J.block ?_
   refine J.loop (fun t_ S_ h_ L_ => ∃ (m : Nat), t_ = w' + 1 - m ∧ S_ = [(0, .int .i64 k), (1, .int .i64 (1 + (w' : Int))), (7, .slice a8 (4 :: lenB k).length c8), (8, .slice oa (4 :: UInt8.ofNat (128 + (w' + 1)) :: be (w' + 1) k).length oc), (12, .int .i64 (k / 256 ^ m : Nat)), (13, .int .i64 m)] ∧ h9 = h_ ∧ L_ = [.row oa oc 5 1 (4 :: UInt8.ofNat (128 + (w' + 1)) :: be (w' + 1) k).length (u8s (4 :: UInt8.ofNat (128 + (w' + 1)) :: be (w' + 1) k))] ∧ (m ≤ w' + 1)) ⟨_, _, ?_, ⟨0, rfl, rfl, rfl, rfl, by omega⟩⟩ ?_
   ·
    repeat (first | exact trivial | refine ⟨rfl, ?_⟩ | refine ⟨(by exact some_int (by first | (simp; done) | (rw [Nat.pow_succ, ← Nat.div_div_eq_div_mul]; omega))), ?_⟩)
   rintro _ _ _ _ ⟨m, rfl, rfl, rfl, rfl, hm⟩
   have hle := Nat.div_le_self k (256 ^ m); have hq0 : (0 : Int) ≤ ((k / 256 ^ m : Nat) : Int) := Int.natCast_nonneg _
   refine J.seq ?_
   refine Sr ?_
   refine Ru 3 rfl ?_
   refine JL.nil ?_
   refine Cs rfl (fun hc19 => ?_) fun hc19 => ?_
   ·
    refine J.skip ?_
    refine J.seq ?_
    refine J.block ?_
    refine Rg ?_
    refine Ru 1 rfl ?_
    refine JL.op (by first | exact RunV.quo_i64 rfl rfl (by omega) (by omega) (by omega) | exact RunV.quo rfl rfl (by omega)) rfl ?_
    refine Ru 1 rfl ?_
    refine JL.nil ?_
    refine Rg ?_
    refine Ru 1 rfl ?_
    refine JL.op (by first | exact RunV.add_i64 rfl rfl (by omega) (by omega) | exact RunV.add rfl rfl) rfl ?_
    refine Ru 1 rfl ?_
    refine JL.nil ?_
    refine ⟨_, ?_, _, ?_, ⟨m + 1, rfl, rfl, rfl, rfl, by omega⟩⟩
    ·
     omega
    ·
     repeat (first | exact trivial | refine ⟨rfl, ?_⟩ | refine ⟨(by exact some_int (by first | (simp; done) | (rw [Nat.pow_succ, ← Nat.div_div_eq_div_mul]; omega))), ?_⟩)
   ·
    have hmw : m = w' + 1 := (by omega); subst hmw; refine J.rowsome (a := oa) (by repeat (first | exact List.mem_cons_self .. | apply List.mem_cons_of_mem)) (by simp) (fun g hg => ?_); subst hg
    refine J.exit ?_
    refine Kp [0, 7, 8, 12] rfl ?_
    refine J.seq ?_
    refine J.seq ?_
    refine J.drawn mixed_ (by kernel_rfl) ?_
    refine Rq 3 rfl ?_
    refine Bq 87 rfl (fun hc20 => ?_) fun hc20 => ?_
    ·
     refine Rq 15 rfl ?_
     refine Nq [102, 0, 8] rfl ?_
     refine J.cond_t rfl ?_
     refine Sr ?_
     refine JL.callP ca_14 rfl (kn_fn (by assumption)) rfl ?_
     refine Ru 1 rfl ?_
     refine JL.nil ?_
     first | exact J.retV (RetV.one rfl rfl) rfl | exact J.retV (RetV.one rfl rfl) (by simp)
    ·
     refine Rq 6 rfl ?_
     refine Bq 93 rfl (fun hc22 => ?_) fun hc22 => ?_
     ·
      refine Rq 1 rfl ?_
      refine JQ.opg rfl rfl  (RunV.index_at (m := 1) sl_22 rfl rfl rfl (by simp)) rfl ?_
      refine JQ.opg rfl rfl  (RunV.rowload ag_5 rfl (by repeat (first | exact List.mem_cons_self .. | apply List.mem_cons_of_mem)) (show (u8s (4 :: UInt8.ofNat (128 + (w' + 1)) :: be (w' + 1) k))[1]? = some (.int .u8 ((UInt8.ofNat (128 + (w' + 1))).toNat : Int)) from rfl)) rfl ?_
      refine Rq 1 rfl ?_
      refine JQ.opeg rfl rfl  (RunE.index (m := 1) (l := 4 :: lenB k) sl_22 rfl rfl rfl (by assumption) rfl (by omega)) rfl ?_
      rintro _ ⟨b23, o23, hi23, rfl, hE23⟩
      refine JQ.opg rfl rfl  (RunV.ld_u8 ag_5 rfl (by assumption)) rfl ?_
      refine Rq 3 rfl ?_
      refine Nq [102, 0, 8] rfl ?_
      refine Cs rfl (fun hc25 => ?_) fun hc25 => ?_
      ·
       refine Sr ?_
       refine JL.callP ca_14 rfl (kn_fn (by assumption)) rfl ?_
       refine Ru 1 rfl ?_
       refine JL.nil ?_
       first | exact J.retV (RetV.one rfl rfl) rfl | exact J.retV (RetV.one rfl rfl) (by simp)
      ·
       refine J.skip ?_
       refine Sr ?_
       have hbl := be_len (w' + 1) k; have hf0 : k / 256 ^ (w' + 1) = 0 := (by omega); have hrd := lens_rd k (w' + 1) (by omega) (by omega) (by omega) hf0 (fun ⟨q1, q2⟩ => by first | omega | simp_all); rw [← hzl] at hrd
       refine Ru 2 rfl ?_
       refine JL.appendMadeB zl hzl mk_22 it_3 rfl rfl (by first | with_reducible rfl | exact (Int.toNat_of_nonneg (by omega)).symm) (by repeat (first | exact Del.here | apply Del.there)) (by omega) rfl rfl (fun a27 c27 => ?_)
       refine JL.pub (R := u8R) (l := (4 :: UInt8.ofNat (128 + (w' + 1)) :: be (w' + 1) k) ++ zl) (by repeat (first | exact Del.here | apply Del.there)) CellsR.of_u8 rfl (by first | omega | (simp only [List.length_append, List.length_cons, List.length_nil]; omega)) (fun h28 hle28 hP28 => ?_)
       replace hT := hT.mono hle28
       replace hh0 := hh0.mono hle28
       replace hP4 := hP4.mono hle28
       replace hW := hW.mono hle28
       replace hS7 := hS7.mono hle28
       replace hP9 := hP9.mono hle28
       replace hS12 := hS12.mono hle28
       refine JL.callR ca_16 rfl (read_at hrd (by assumption) hT) rfl ?_
       rintro _ h29 hle29 ⟨w2, rfl, hNd2⟩
       replace hT := hT.mono hle29
       replace hh0 := hh0.mono hle29
       replace hP4 := hP4.mono hle29
       replace hW := hW.mono hle29
       replace hS7 := hS7.mono hle29
       replace hP9 := hP9.mono hle29
       replace hS12 := hS12.mono hle29
       replace hP28 := hP28.mono hle29
       refine Ru 3 rfl ?_
       refine JL.alloc zr_25 rfl (fun b30 => ?_)
       refine JL.alloc zr_32 rfl (fun b31 => ?_)
       refine JL.storeA ag_25 rfl rfl (by repeat (first | exact Del.here | apply Del.there)) (by first | rfl | exact NdR.all1 (by assumption)) (by first | rfl | assumption | exact NdR.len5 (by assumption)) (by first | rfl | exact NdR.len5 (by assumption)) ?_
       refine JL.storeA ag_32 rfl rfl (by repeat (first | exact Del.here | apply Del.there)) (by first | rfl) (by first | rfl | assumption) (by first | rfl) ?_
       refine Nk [15] rfl ?_
       refine Sr ?_
       refine JL.op (RunV.ownA ag_32 rfl (by repeat (first | exact List.mem_cons_self .. | apply List.mem_cons_of_mem)) (by first | rfl)) rfl ?_
       refine JL.op (RunV.build (cs := [.int .i64 0, _]) pl_32 rfl rfl) rfl ?_
       refine JL.op (RunV.eql2 e2_32 rfl rfl) rfl ?_
       refine Ru 1 rfl ?_
       apply An 114 116 2 [] rfl rfl
       ·
        intro hb32 hc32
        refine JL.callPg rfl rfl  ca_14 rfl (kn_fn (by assumption)) rfl ?_
        refine Ru 1 rfl ?_
        exact Ae (am_t hb32 rfl) rfl
       ·
        exact fun hb32 _ => Ru 2 rfl (Ae (am_f hb32 rfl) rfl)
       refine Ru 1 rfl ?_
       refine JL.nil ?_
       first | exact J.retV (RetV.one rfl rfl) rfl | exact J.retV (RetV.one rfl rfl) (by simp)
     ·
      refine Rq 9 rfl ?_
      refine Nq [102, 0, 8] rfl ?_
      refine J.cond_f rfl ?_
      refine J.skip ?_
      refine Sr ?_
      have hbl := be_len (w' + 1) k; have hf0 : k / 256 ^ (w' + 1) = 0 := (by omega); have hrd := lens_rd k (w' + 1) (by omega) (by omega) (by omega) hf0 (fun ⟨q1, q2⟩ => by first | omega | simp_all); rw [← hzl] at hrd
      refine Ru 2 rfl ?_
      refine JL.appendMadeB zl hzl mk_22 it_3 rfl rfl (by first | with_reducible rfl | exact (Int.toNat_of_nonneg (by omega)).symm) (by repeat (first | exact Del.here | apply Del.there)) (by omega) rfl rfl (fun a34 c34 => ?_)
      refine JL.pub (R := u8R) (l := (4 :: UInt8.ofNat (128 + (w' + 1)) :: be (w' + 1) k) ++ zl) (by repeat (first | exact Del.here | apply Del.there)) CellsR.of_u8 rfl (by first | omega | (simp only [List.length_append, List.length_cons, List.length_nil]; omega)) (fun h35 hle35 hP35 => ?_)
      replace hT := hT.mono hle35
      replace hh0 := hh0.mono hle35
      replace hP4 := hP4.mono hle35
      replace hW := hW.mono hle35
      replace hS7 := hS7.mono hle35
      replace hP9 := hP9.mono hle35
      replace hS12 := hS12.mono hle35
      refine JL.callR ca_16 rfl (read_at hrd (by assumption) hT) rfl ?_
      rintro _ h36 hle36 ⟨w2, rfl, hNd2⟩
      replace hT := hT.mono hle36
      replace hh0 := hh0.mono hle36
      replace hP4 := hP4.mono hle36
      replace hW := hW.mono hle36
      replace hS7 := hS7.mono hle36
      replace hP9 := hP9.mono hle36
      replace hS12 := hS12.mono hle36
      replace hP35 := hP35.mono hle36
      refine Ru 3 rfl ?_
      refine JL.alloc zr_25 rfl (fun b37 => ?_)
      refine JL.alloc zr_32 rfl (fun b38 => ?_)
      refine JL.storeA ag_25 rfl rfl (by repeat (first | exact Del.here | apply Del.there)) (by first | rfl | exact NdR.all1 (by assumption)) (by first | rfl | assumption | exact NdR.len5 (by assumption)) (by first | rfl | exact NdR.len5 (by assumption)) ?_
      refine JL.storeA ag_32 rfl rfl (by repeat (first | exact Del.here | apply Del.there)) (by first | rfl) (by first | rfl | assumption) (by first | rfl) ?_
      refine Nk [15] rfl ?_
      refine Sr ?_
      refine JL.op (RunV.ownA ag_32 rfl (by repeat (first | exact List.mem_cons_self .. | apply List.mem_cons_of_mem)) (by first | rfl)) rfl ?_
      refine JL.op (RunV.build (cs := [.int .i64 0, _]) pl_32 rfl rfl) rfl ?_
      refine JL.op (RunV.eql2 e2_32 rfl rfl) rfl ?_
      refine Ru 1 rfl ?_
      apply An 114 116 2 [] rfl rfl
      ·
       intro hb39 hc39
       refine JL.callPg rfl rfl  ca_14 rfl (kn_fn (by assumption)) rfl ?_
       refine Ru 1 rfl ?_
       exact Ae (am_t hb39 rfl) rfl
      ·
       exact fun hb39 _ => Ru 2 rfl (Ae (am_f hb39 rfl) rfl)
      refine Ru 1 rfl ?_
      refine JL.nil ?_
      first | exact J.retV (RetV.one rfl rfl) rfl | exact J.retV (RetV.one rfl rfl) (by simp)
end Go.Proofs.YtbmlbefpnieglaaDoor
