/- Numbers there and back: the law DerNumbersBack. -/
import Derived.Test.YtmngjbefnloljaaDoorNatO
set_option linter.unusedSimpArgs false
set_option linter.unusedVariables false
set_option linter.constructorNameAsVariable false
namespace Go.Proofs.YtmngjbefnloljaaDoor
open Go Go.RowKit
set_option maxRecDepth 100000
theorem ca_15 : callT Tryd.prog 15 = true := by kernel_rfl
theorem ca_17 : callT Tryd.prog 17 = true := by kernel_rfl
theorem ca_19 : callT Tryd.prog 19 = true := by kernel_rfl
theorem ca_21 : callT Tryd.prog 21 = true := by kernel_rfl
theorem ca_22 : callT Tryd.prog 22 = true := by kernel_rfl
theorem ca_9 : callT Tryd.prog 9 = true := by kernel_rfl

theorem fit_first (n : Int) : ∀ k, fitI n (k + 1) → ∃ j, j ≤ k ∧ fitI n (j + 1) ∧ (j = 0 ∨ ¬ fitI n j)
  | 0, h => ⟨0, Nat.le_refl _, h, .inl rfl⟩
  | k + 1, h => by
    by_cases hk : fitI n (k + 1)
    · obtain ⟨j, h1, h2⟩ := fit_first n k hk
      exact ⟨j, by omega, h2⟩
    · exact ⟨k + 1, Nat.le_refl _, h, .inr hk⟩
theorem beV_ib (n : Int) : ∀ k, (beV (ibytes n k) : Int) = n % 256 ^ k
  | 0 => by simp [ibytes, beV, Int.emod_one]
  | k + 1 => by
    have h1 : 0 ≤ n / 256 ^ k % 256 := Int.emod_nonneg _ (by decide)
    have h2 : n / 256 ^ k % 256 < 256 := Int.emod_lt_of_pos _ (by decide)
    have e : ((UInt8.ofNat (n / 256 ^ k % 256).toNat).toNat : Int) = n / 256 ^ k % 256 := by rw [UInt8.toNat_ofNat']; omega
    rw [ibytes, beV_cons, ibytes_len, Int.natCast_add, Int.natCast_mul, e, beV_ib n k, Int.pow_succ, Int.natCast_pow]
    have := Int.emod_add_mul_ediv n (256 ^ k)
    have h3 := Int.emod_add_mul_ediv (n / 256 ^ k) 256
    have hd : n / (256 ^ k * 256) = n / 256 ^ k / 256 := by rw [Int.ediv_ediv_of_nonneg (Int.le_of_lt (Int.pow_pos (by decide)))]
    have h4 := Int.emod_add_mul_ediv n (256 ^ k * 256)
    rw [hd] at h4
    show _ * (256 : Int) ^ k + _ = _
    have h5 : (n / 256 ^ k % 256 + 256 * (n / 256 ^ k / 256)) * 256 ^ k = n / 256 ^ k * 256 ^ k := by rw [h3]
    grind
theorem sV_ib (n : Int) (j : Nat) (h : fitI n (j + 1)) : sV (ibytes n (j + 1)) = n := by
  have h0 := ib_top n j
  unfold sV
  rw [h0, ibytes_len, show (ibytes n (j + 1)).drop 1 = ibytes n j from rfl, beV_ib, Nat.add_sub_cancel]
  unfold fitI at h
  rw [show j + 1 - 1 = j from rfl] at h
  have e : s8 (n / 256 ^ j % 256).toNat = n / 256 ^ j := by
    generalize n / 256 ^ j = q at *
    unfold s8; split <;> omega
  rw [e]
  have := Int.emod_add_mul_ediv n (256 ^ j)
  rw [Int.mul_comm]
  omega
theorem least_int (n : Int) (j : Nat) (h : fitI n (j + 1)) (hj : j = 0 ∨ ¬ fitI n j) : leastB (ibytes n (j + 1)) = true := by
  cases j with
  | zero => unfold leastB; rw [if_neg (by rw [ibytes_len]; decide), if_pos (ibytes_len n 1)]
  | succ i => rw [least_ib n i h]; exact decide_eq_true (hj.resolve_left (by omega))
theorem int_back (n : Int) (h0 : -9223372036854775808 ≤ n) (h1 : n ≤ 9223372036854775807) :
    (Nd.mk 0 2 false (intB n) []).intOk = true ∧ (Nd.mk 0 2 false (intB n) []).intV = n ∧ (intB n).length ≤ 8 ∧ 1 ≤ (intB n).length ∧ ∃ b, (Nd.mk 0 2 false (intB n) []).wr = (b, 0) ∧ b.length ≤ 10 := by
  obtain ⟨j, hj7, hf, hj⟩ := fit_first n 7 (fit8 n h0 h1)
  rw [intB_fit n j hj7 hj hf]
  have hl := ibytes_len n (j + 1)
  have hlb := least_int n j hf hj
  have hw : (Nd.mk 0 2 false (ibytes n (j + 1)) []).whole = true := whole_iff.2 ⟨rfl, .inl rfl, rfl, rfl, hlb⟩
  have hok : (Nd.mk 0 2 false (ibytes n (j + 1)) []).intOk = true := by rw [intOk_eq, hw, decide_eq_true (by omega)]; rfl
  refine ⟨hok, by rw [intV_t hok, sV_ib n j hf], by omega, by omega, headB 0 2 false (j + 1) ++ ibytes n (j + 1), ?_, ?_⟩
  · have hp : (Nd.mk 0 2 false (ibytes n (j + 1)) []).put = some (headB 0 2 false (j + 1) ++ ibytes n (j + 1)) := by
      have hokN : okN 0 2 false (ibytes n (j + 1)) [] = true := by
        unfold okN mayB
        rw [valB_2 (.inl rfl), hlb]
        rfl
      simp only [Nd.put]
      rw [hokN, if_pos rfl, Nd.putL, Option.map_some, hl]
    have hh := headB_short (c := 0) (t := 2) (k := false) (n := j + 1) (by omega)
    unfold Nd.wr
    rw [hp]
    simp only
    rw [if_neg (by simp [Nd.rk, Nd.rkL]), if_neg (by rw [hh]; simp [hl]; omega)]
  · have hh := headB_short (c := 0) (t := 2) (k := false) (n := j + 1) (by omega)
    rw [hh]; simp [hl]; omega
theorem nat_back (l : List UInt32) : (natN l).natOk = true ∧ (natN l).natL = trimL l ∧ (natN l).sz = 1 + (bl (vL l) / 8 + 1) := by
  have hn : natN l = .mk 0 2 false (be (bl (vL l) / 8 + 1) (vL l)) [] := by unfold natN; rw [natW_be, nbits_vL]
  have hlen := be_len (bl (vL l) / 8 + 1) (vL l)
  have htop := top_byte (vL l)
  have hb0 : byteAt (be (bl (vL l) / 8 + 1) (vL l)) 0 = vL l / 256 ^ (bl (vL l) / 8) := by
    show (UInt8.ofNat _).toNat = _
    rw [UInt8.toNat_ofNat']; exact Nat.mod_eq_of_lt (Nat.lt_trans htop (by decide))
  have hlb : leastB (be (bl (vL l) / 8 + 1) (vL l)) = true := by
    unfold leastB
    rw [if_neg (by omega)]
    split
    · rfl
    · rename_i h1
      obtain ⟨k, hk⟩ : ∃ k, bl (vL l) / 8 = k + 1 := ⟨bl (vL l) / 8 - 1, by omega⟩
      refine decide_eq_true ?_
      rw [hb0]
      rw [hk] at htop ⊢
      have hb1 : byteAt (be (k + 1 + 1) (vL l)) 1 = vL l / 256 ^ k % 256 := by
        show (UInt8.ofNat _).toNat = _
        rw [UInt8.toNat_ofNat']
      have h2 := second_byte (vL l) k hk
      rw [hb1]
      rintro (⟨e1, e2⟩ | ⟨e1, e2⟩)
      · have := h2 e1
        rw [Nat.pow_succ, ← Nat.div_div_eq_div_mul] at e1
        omega
      · omega
  have hw : (Nd.mk 0 2 false (be (bl (vL l) / 8 + 1) (vL l)) []).whole = true := whole_iff.2 ⟨rfl, .inl rfl, rfl, rfl, hlb⟩
  have hok := natOk_t hw (by rw [hb0]; exact htop)
  rw [hn]
  refine ⟨hok, ?_, by simp [Nd.sz, Nd.szL, hlen]⟩
  have : (Nd.mk 0 2 false (be (bl (vL l) / 8 + 1) (vL l)) []).natL = toL (beV (be (bl (vL l) / 8 + 1) (vL l))) := if_pos hok
  rw [this, be_full, trim_toL]
theorem bl_len (l : List UInt32) : bl (vL l) ≤ 32 * l.length := by
  have := vL_lt l
  rw [pow32] at this
  exact bl_le _ _ this










theorem numback_fn {n : Int} {a : Option Addr} {c : Nat} {l : List UInt32} {h : Part} (h0 : -9223372036854775808 ≤ n) (h1 : n ≤ 9223372036854775807) (hl : SlR u32R 1 h a c l) (hT : Tabs h) : Pure Tryd.prog 5 [.int .i64 n, .slice a l.length c] h (.bool true) := by
  have hll := hl.big
  obtain ⟨i1, i2, i3, i4, bw, hbw, hbl⟩ := int_back n h0 h1
  obtain ⟨n1, n2, n3⟩ := nat_back l
  have hbb := bl_len l
  refine Pure.ofV ?_
  refine Fn.intro Tryd.func5 rfl Tryd.ntmps5 rfl (fun e he => ?_)
  refine J.weak [(0, _), (1, _)] ⟨rfl, rfl, trivial⟩ ?_
  have hh0 := Part.le.refl h
  refine Sr ?_
  refine Ru 1 rfl ?_
  refine JL.nil ?_
  refine J.seq ?_
  refine Sr ?_
  refine Ru 3 rfl ?_
  refine JL.nil ?_
  refine Cs rfl (fun hc1 => ?_) fun hc1 => ?_
  ·
   refine Sr ?_
   refine JL.callP ca_9 rfl (kn_fn (by assumption)) rfl ?_
   refine Ru 1 rfl ?_
   refine Nk [4, 0, 1] rfl ?_
   first | exact J.retV (RetV.one rfl rfl) rfl | (exfalso; simp_all; done) | (exfalso; omega)
  ·
   refine J.skip ?_
   refine Sr ?_
   refine Ru 1 rfl ?_
   refine JL.callR ca_20 rfl (int_fn) rfl ?_
   rintro _ h3 hle3 ⟨w3, rfl, hNd3⟩
   replace hl := hl.mono hle3
   replace hT := hT.mono hle3
   replace hh0 := hh0.mono hle3
   refine JL.callP ca_15 rfl (intof_fn (by assumption) (by assumption) (by simp only [Nd.sz, Nd.szL]; omega)) rfl ?_
   rw [i1, i2]
   refine Ru 5 rfl ?_
   refine Nk [6, 5, 4, 0, 1] rfl ?_
   refine Sr ?_
   refine Ru 1 rfl ?_
   refine JL.callR ca_21 rfl (dernat_fn (by assumption) (by omega)) rfl ?_
   rintro _ h5 hle5 ⟨w5, rfl, hNd5⟩
   replace hl := hl.mono hle5
   replace hT := hT.mono hle5
   replace hh0 := hh0.mono hle5
   replace hNd3 := hNd3.mono hle5
   refine JL.callR ca_17 rfl (natof_fn (by assumption) (by assumption) (by omega)) rfl ?_
   rintro _ h6 hle6 ⟨a6, c6, rfl, hS6⟩
   replace hl := hl.mono hle6
   replace hT := hT.mono hle6
   replace hh0 := hh0.mono hle6
   replace hNd3 := hNd3.mono hle6
   replace hNd5 := hNd5.mono hle6
   rw [n1, n2]; rw [n2] at hS6
   refine Ru 5 rfl ?_
   refine Nk [8, 7, 6, 5, 4, 0, 1] rfl ?_
   refine Sr ?_
   refine Ru 1 rfl ?_
   refine JL.callR ca_20 rfl (int_fn) rfl ?_
   rintro _ h7 hle7 ⟨w7, rfl, hNd7⟩
   replace hl := hl.mono hle7
   replace hT := hT.mono hle7
   replace hh0 := hh0.mono hle7
   replace hNd3 := hNd3.mono hle7
   replace hNd5 := hNd5.mono hle7
   replace hS6 := hS6.mono hle7
   refine JL.callR ca_10 rfl (write_at hbw (by assumption) (by assumption) (by simp only [Nd.sz, Nd.szL]; omega)) rfl ?_
   rintro _ h8 hle8 ⟨a8, c8, rfl, hS8⟩
   replace hl := hl.mono hle8
   replace hT := hT.mono hle8
   replace hh0 := hh0.mono hle8
   replace hNd3 := hNd3.mono hle8
   replace hNd5 := hNd5.mono hle8
   replace hS6 := hS6.mono hle8
   replace hNd7 := hNd7.mono hle8
   refine Ru 5 rfl ?_
   refine Nk [10, 9, 8, 7, 6, 5, 4, 0, 1] rfl ?_
   refine Sr ?_
   refine Ru 2 rfl ?_
   refine Bs 34 rfl (fun hc9 => ?_) fun hc9 => ?_
   ·
    refine Ru 5 rfl ?_
    refine Bs 39 rfl (fun hc10 => ?_) fun hc10 => ?_
    ·
     refine Ru 3 rfl ?_
     refine Bs 42 rfl (fun hc11 => ?_) fun hc11 => ?_
     ·
      refine Ru 2 rfl ?_
      refine JL.callRg rfl rfl  ca_22 rfl (rtrim_fn (by assumption) (by omega)) rfl ?_
      rintro _ h12 hle12 ⟨a12, c12, rfl, hS12⟩
      replace hl := hl.mono hle12
      replace hT := hT.mono hle12
      replace hh0 := hh0.mono hle12
      replace hNd3 := hNd3.mono hle12
      replace hNd5 := hNd5.mono hle12
      replace hS6 := hS6.mono hle12
      replace hNd7 := hNd7.mono hle12
      replace hS8 := hS8.mono hle12
      refine JL.callPg rfl rfl  ca_19 rfl (natsame_fn (by assumption) (by assumption)) rfl ?_
      refine Ru 2 rfl ?_
      refine Bs 48 rfl (fun hc14 => ?_) fun hc14 => ?_
      ·
       refine Ru 4 rfl ?_
       refine Bs 52 rfl (fun hc15 => ?_) fun hc15 => ?_
       ·
        refine Ru 5 rfl ?_
        refine Bs 57 rfl (fun hc16 => ?_) fun hc16 => ?_
        ·
         refine JL.callPg rfl rfl  ca_9 rfl (kn_fn (by assumption)) rfl ?_
         refine Ru 2 rfl ?_
         refine Nk [4] rfl ?_
         first | exact J.retV (RetV.one rfl rfl) rfl | (exfalso; simp_all; done) | (exfalso; omega)
        ·
         refine Ru 3 rfl ?_
         refine Nk [4] rfl ?_
         first | exact J.retV (RetV.one rfl rfl) rfl | (exfalso; simp_all; done) | (exfalso; omega)
       ·
        refine Ru 8 rfl ?_
        refine Nk [4] rfl ?_
        first | exact J.retV (RetV.one rfl rfl) rfl | (exfalso; simp_all; done) | (exfalso; omega)
      ·
       refine Ru 12 rfl ?_
       refine Nk [4] rfl ?_
       first | exact J.retV (RetV.one rfl rfl) rfl | (exfalso; simp_all; done) | (exfalso; omega)
     ·
      refine Ru 18 rfl ?_
      refine Nk [4] rfl ?_
      first | exact J.retV (RetV.one rfl rfl) rfl | (exfalso; simp_all; done) | (exfalso; omega)
    ·
     refine Ru 21 rfl ?_
     refine Nk [4] rfl ?_
     first | exact J.retV (RetV.one rfl rfl) rfl | (exfalso; simp_all; done) | (exfalso; omega)
   ·
    refine Ru 26 rfl ?_
    refine Nk [4] rfl ?_
    first | exact J.retV (RetV.one rfl rfl) rfl | (exfalso; simp_all; done) | (exfalso; omega)
end Go.Proofs.YtmngjbefnloljaaDoor
