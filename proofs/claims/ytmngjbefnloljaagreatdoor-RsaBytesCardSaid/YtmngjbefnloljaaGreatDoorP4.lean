/- Walks: the reference's arithmetic: product, small numbers; its kept keys; Walks: the reference's division: by one digit; whether digits are above; digits taken away; Walks: the reference's rest of a product, and its division; Walks: the reference's power and comparison; Walks: which keys are right, and how great they are, by the program and by the reference; Walks: the reference's primes and private exponents, and its kept keys; Walks: a byte repeated, by the library; Walks: small functions of keys, by the program, the reference and the law; Walks: the digests there are: how long they are, by the program; Walks: the digests there are, by the reference; Walks: a digest's bytes and its form, by the reference; Walks: a digest's form for a key, signatures, by the reference; Plain: the fixed numbers that every law from 05 on asks for; Walks: a digest's bytes and its form, by the program; Walks: a digest's form, by the program; Numbers there and back: the law DerNumbersBack; Walks: keys' bytes, by the reference; Walks: signatures and keys' bytes, by the program; Walks: keys out of bytes, by the program; Walks: nodes out of bytes, by the reference; Walks: the reference reads a node. -/
import Derived.Test.YtmngjbefnloljaaGreatDoorP3
set_option linter.unusedSimpArgs false
set_option linter.unusedVariables false
set_option linter.constructorNameAsVariable false
namespace Go.Proofs.YtmngjbefnloljaaGreatDoor
open Go Go.RowKit
set_option maxRecDepth 100000
theorem ca_89 : callT Tryz.prog 89 = true := by kernel_rfl
theorem digs_eq (l : List UInt32) : digsB l = (toL (vL l)).map m64 := cutZ_map l
theorem rdigs_fn {a : Option Addr} {c : Nat} {l : List UInt32} {h : Part} (hl : SlR u32R 1 h a c l) (hlen : l.length ≤ 1000000) : FnR Tryz.prog 56 [.slice a l.length c] h (fun v h' => ∃ a' c', v = .slice a' (toL (vL l)).length c' ∧ SlR u64R 1 h' a' c' ((toL (vL l)).map m64)) := by
  have := digits32_fn hl hlen
  rw [digs_eq, List.length_map] at this
  exact this
theorem rcut_fn {a : Option Addr} {c n : Nat} {l : List UInt32} {h : Part} (hl : SlR u64R 1 h a c (l.map m64)) (hn : n = l.length) : FnR Tryz.prog 97 [.slice a n c] h (fun v h' => ∃ a' c', v = .slice a' (toL (vL l)).length c' ∧ SlR u64R 1 h' a' c' ((toL (vL l)).map m64)) := by
  have := cut_fn hl
  rw [cutZ_map, List.length_map, List.length_map, ← hn] at this
  exact this
theorem d64_mat (l : List UInt32) (i : Nat) (h : i < (l.map m64).length) : (((l.map m64)[i]'h).toNat : Int) = d32 l i := by rw [d64_at, d64_map]
theorem rtimes_fn {a b : Option Addr} {ca cb : Nat} {A B : List UInt32} {h : Part} (hA : SlR u64R 1 h a ca (A.map m64)) (hB : SlR u64R 1 h b cb (B.map m64)) (hlb : A.length ≤ 200000) (hrb : B.length ≤ 200000) : FnR Tryz.prog 89 [.slice a A.length ca, .slice b B.length cb] h (fun v h' => ∃ a c, v = .slice a (toL (vL A * vL B)).length c ∧ SlR u64R 1 h' a c ((toL (vL A * vL B)).map m64)) := by
  have hAl : (A.map m64).length = A.length := List.length_map ..
  have hBl : (B.map m64).length = B.length := List.length_map ..
  refine Fn.intro Tryz.func89 rfl Tryz.ntmps89 rfl (fun e he => ?_)
  refine J.weak [(0, _), (1, _)] ⟨rfl, rfl, trivial⟩ ?_
  have hh0 := Part.le.refl h
  refine Sr ?_
  refine Ru 1 rfl ?_
  refine JL.nil ?_
  refine Sr ?_
  refine Ru 4 rfl ?_
  refine JL.op ai_ rfl ?_
  refine JL.op ai_ rfl ?_
  refine JL.make1 mk_66 rfl rfl (m := A.length + B.length + 1) (by omega) (by omega) (by omega) rfl rfl (fun b1 => ?_); rw [ws_zero]
  refine Ru 1 rfl ?_
  refine Nk [5, 4, 0, 1] rfl ?_
  refine J.seq ?_
  refine Sr ?_
  refine Ru 1 rfl ?_
  refine JL.nil ?_
  refine J.block ?_
  refine J.loop (fun t_ S_ h_ L_ => ∃ (i : Nat) (out : List UInt32), t_ = A.length - i ∧ S_ = [(0, .slice a A.length ca), (1, .slice b B.length cb), (5, .slice (some ⟨b1, 0, none⟩) (A.length + B.length + 1) (A.length + B.length + 1)), (6, .int .i64 i)] ∧ h = h_ ∧ L_ = [.row (some ⟨b1, 0, none⟩) (A.length + B.length + 1) 63 1 (A.length + B.length + 1) (ws .u64 out)] ∧ (i ≤ A.length ∧ out.length = A.length + B.length + 1 ∧ vL out = vL (A.take i) * vL B)) ⟨_, _, ?_, ⟨0, _, rfl, rfl, rfl, rfl, ⟨by omega, digN_len _ _, by rw [vL_digN]; simp [vL]⟩⟩⟩ ?_
  ·
   exact z7_
  rintro _ _ _ _ ⟨i, out, rfl, rfl, rfl, rfl, hi, hol, hv⟩
  refine J.seq ?_
  refine Sr ?_
  refine Ru 4 rfl ?_
  refine JL.nil ?_
  refine Cs rfl (fun hc2 => ?_) fun hc2 => ?_
  ·
   have hi' : i < A.length := (by omega); have hz := vL_zero_above (l := out) (m := i + B.length) (by rw [hv]; exact mul_bound (vL_take_lt A i) (vL_lt B)) (i + B.length) (Nat.le_refl _); have hai := d32_lt A i
   refine J.skip ?_
   refine J.seq ?_
   refine J.block ?_
   refine Sr ?_
   refine Ru 1 rfl ?_
   refine JL.nil ?_
   refine J.seq ?_
   refine Sr ?_
   refine Ru 1 rfl ?_
   refine JL.nil ?_
   refine J.block ?_
   refine J.loop (fun t_ S_ h_ L_ => ∃ (k c : Nat) (o2 : List UInt32), t_ = B.length - k ∧ S_ = [(0, .slice a A.length ca), (1, .slice b B.length cb), (5, .slice (some ⟨b1, 0, none⟩) (A.length + B.length + 1) (A.length + B.length + 1)), (6, .int .i64 i), (7, .int .u64 c), (8, .int .i64 k)] ∧ h = h_ ∧ L_ = [.row (some ⟨b1, 0, none⟩) (A.length + B.length + 1) 63 1 (A.length + B.length + 1) (ws .u64 o2)] ∧ (k ≤ B.length ∧ o2.length = A.length + B.length + 1 ∧ c < 4294967296 ∧ d32 o2 (i + B.length) = 0 ∧ vL o2 + c * 4294967296 ^ (i + k) = vL out + d32 A i * vL (B.take k) * 4294967296 ^ i)) ⟨_, _, ?_, ⟨0, 0, out, rfl, rfl, rfl, rfl, ⟨by omega, hol, by omega, hz, by simp [vL]⟩⟩⟩ ?_
   ·
    exact z4_
   rintro _ _ _ _ ⟨k, c, o2, rfl, rfl, rfl, rfl, hk, ho2, hc, hz2, hv2⟩
   refine J.seq ?_
   refine Sr ?_
   refine Ru 4 rfl ?_
   refine JL.nil ?_
   refine Cs rfl (fun hc3 => ?_) fun hc3 => ?_
   ·
    have hk' : k < B.length := (by omega); have hbk := d32_lt B k; have hdo := d32_lt o2 (i + k); have hcl := carry_lt hc hai hbk hdo; have hst := mul_step (b := B) hk' (by omega) hv2; have ei := d64_mat A i (by omega); have ek := d64_mat B k (by omega); obtain ⟨xy, hxy⟩ : ∃ xy, xy = d32 A i * d32 B k := ⟨_, rfl⟩; rw [← hxy] at hcl hst
    refine J.skip ?_
    refine J.seq ?_
    refine J.block ?_
    refine J.seq ?_
    refine J.drawn mixed_ (by kernel_rfl) ?_
    refine Rq 4 rfl ?_
    refine JQ.op ai_ rfl ?_
    refine JQ.op (RunV.index_at sl_66 (m := i + k) rfl rfl (by omega) (by omega)) rfl ?_
    refine JQ.op (RunV.wload ag_63 rfl mm_ (by omega)) rfl ?_
    refine JQ.op (RunV.add_u64 rfl rfl (by omega) (by omega)) rfl ?_
    refine Rq 2 rfl ?_
    refine JQ.ope (RunE.index (m := i) sl_66 rfl rfl (by omega) hA hAl.symm (by omega)) rfl ?_
    rintro _ ⟨b4, o4, hi4, rfl, hE4⟩
    refine JQ.op (RunV.ld_u64 ag_63 rfl (by assumption)) rfl ?_
    rw [ei]
    refine Rq 2 rfl ?_
    refine JQ.ope (RunE.index (m := k) sl_66 rfl rfl (by omega) hB hBl.symm (by omega)) rfl ?_
    rintro _ ⟨b6, o6, hi6, rfl, hE6⟩
    refine JQ.op (RunV.ld_u64 ag_63 rfl (by assumption)) rfl ?_
    rw [ek]
    refine JQ.op (RunV.mul_u64 rfl rfl (by rw [← Int.natCast_mul, ← hxy]; omega) (by rw [← Int.natCast_mul, ← hxy]; omega)) rfl ?_
    rw [← Int.natCast_mul, ← hxy]
    refine JQ.op (RunV.add_u64 rfl rfl (by omega) (by omega)) rfl ?_
    rw [show (c : Int) + (d32 o2 (i + k) : Int) + (xy : Int) = ((c + xy + d32 o2 (i + k) : Nat) : Int) by omega]
    refine Rq 1 rfl ?_
    refine JQ.nil ?_
    refine Sr ?_
    refine Ru 3 rfl ?_
    refine JL.op ai_ rfl ?_
    refine Ru 1 rfl ?_
    refine JL.op z42_ rfl ?_
    refine JL.op (RunV.index_at sl_66 (m := i + k) rfl rfl (by omega) (by omega)) rfl ?_
    refine JL.storeW (c + xy + d32 o2 (i + k)) ag_63 rfl rfl (by omega) dl_ (by omega) ?_
    refine JL.nil ?_
    refine Rg ?_
    refine Ru 1 rfl ?_
    refine JL.op z29_ rfl ?_
    refine Ru 1 rfl ?_
    refine JL.nil ?_
    refine Rg ?_
    refine Ru 1 rfl ?_
    refine JL.op ai_ rfl ?_
    refine Ru 1 rfl ?_
    refine JL.nil ?_
    refine ⟨_, ?_, _, ?_, ⟨k + 1, (c + xy + d32 o2 (i + k)) / 4294967296, _, rfl, rfl, rfl, rfl, ⟨by omega, by rw [List.length_set]; exact ho2, by omega, by rw [d32_set _ _ _ _ (by omega), if_neg (by omega)]; exact hz2, hst⟩⟩⟩
    ·
     omega
    exact z4_
   have hke : k = B.length := (by omega); subst hke; have hrow := mul_row hi' (by omega) hz2 hc hv hv2
   refine J.exit ?_
   refine Rg ?_
   refine Ru 4 rfl ?_
   refine JL.op ai_ rfl ?_
   refine Ru 1 rfl ?_
   refine JL.op (RunV.index_at sl_66 (m := i + B.length) rfl rfl (by omega) (by omega)) rfl ?_
   refine JL.storeW c ag_63 rfl rfl (by omega) dl_ (by omega) ?_
   refine JL.nil ?_
   refine Rg ?_
   refine Ru 1 rfl ?_
   refine JL.op ai_ rfl ?_
   refine Ru 1 rfl ?_
   refine JL.nil ?_
   refine ⟨_, ?_, _, ?_, ⟨i + 1, _, rfl, rfl, rfl, rfl, ⟨by omega, by rw [List.length_set]; exact ho2, hrow⟩⟩⟩
   ·
    omega
   exact z7_
  have hie : i = A.length := (by omega); rw [hie, List.take_length] at hv
  refine J.exit ?_
  refine Kp [5] rfl ?_
  refine Sr ?_
  refine Ru 1 rfl ?_
  refine JL.pub64 dl_ hol.symm (by omega) (fun h9 hle9 hP9 => ?_); replace hh0 := hh0.mono hle9; replace hA := hA.mono hle9; replace hB := hB.mono hle9
  refine JL.callR ca_97 rfl (rcut_fn hP9 hol.symm) rfl ?_
  rintro _ h10 hle10 ⟨ra, rc, rfl, hR⟩
  replace hA := hA.mono hle10
  replace hB := hB.mono hle10
  replace hh0 := hh0.mono hle10
  refine Ru 1 rfl ?_
  refine JL.nil ?_
  rw [hv] at hR ⊢; exact J.retR (RetV.one rfl rfl) ⟨_, _, rfl, hR⟩
theorem rmul_fn {a b : Option Addr} {ca cb : Nat} {l r : List UInt32} {h : Part} (hl : SlR u32R 1 h a ca l) (hr : SlR u32R 1 h b cb r) (hlb : l.length ≤ 100000) (hrb : r.length ≤ 100000) : FnR Tryz.prog 51 [.slice a l.length ca, .slice b r.length cb] h (fun v h' => ∃ a c, v = .slice a (toL (vL l * vL r)).length c ∧ SlR u32R 1 h' a c (toL (vL l * vL r))) := by
  have n1 : (toL (vL l)).length ≤ 100000 := by rw [toL_len]; exact Nat.le_trans (nd_le _ _ (vL_lt l)) hlb
  have n2 : (toL (vL r)).length ≤ 100000 := by rw [toL_len]; exact Nat.le_trans (nd_le _ _ (vL_lt r)) hrb
  have n3 : (toL (vL l * vL r)).length ≤ 200000 := by
    rw [toL_len]
    exact Nat.le_trans (nd_le _ _ (mul_bound (vL_lt l) (vL_lt r))) (by omega)
  refine Fn.intro Tryz.func51 rfl Tryz.ntmps51 rfl (fun e he => ?_)
  refine J.weak [(0, _), (1, _)] ⟨rfl, rfl, trivial⟩ ?_
  have hh0 := Part.le.refl h
  refine Sr ?_
  refine Ru 1 rfl ?_
  refine JL.nil ?_
  refine Sr ?_
  refine Ru 1 rfl ?_
  refine JL.callR ca_56 rfl (rdigs_fn hl (by omega)) rfl ?_
  rintro _ h1 hle1 ⟨da, dc, rfl, hD⟩
  replace hl := hl.mono hle1
  replace hr := hr.mono hle1
  replace hh0 := hh0.mono hle1
  refine Ru 1 rfl ?_
  refine JL.callR ca_56 rfl (rdigs_fn hr (by omega)) rfl ?_
  rintro _ h2 hle2 ⟨ea, ec, rfl, hE⟩
  replace hl := hl.mono hle2
  replace hr := hr.mono hle2
  replace hh0 := hh0.mono hle2
  replace hD := hD.mono hle2
  refine JL.callR ca_89 rfl (rtimes_fn hD hE (by omega) (by omega)) rfl ?_
  rintro _ h3 hle3 ⟨ta, tc, rfl, hT⟩
  replace hl := hl.mono hle3
  replace hr := hr.mono hle3
  replace hh0 := hh0.mono hle3
  replace hD := hD.mono hle3
  replace hE := hE.mono hle3
  rw [vL_toL, vL_toL] at hT ⊢
  refine JL.callR ca_58 rfl (number32_fn hT rfl (by omega)) rfl ?_
  rintro _ h4 hle4 ⟨ra, rc, rfl, hR⟩
  replace hl := hl.mono hle4
  replace hr := hr.mono hle4
  replace hh0 := hh0.mono hle4
  replace hD := hD.mono hle4
  replace hE := hE.mono hle4
  replace hT := hT.mono hle4
  refine Ru 1 rfl ?_
  refine Nk [4] rfl ?_
  rw [vL_toL] at hR ⊢; exact J.retR (RetV.one rfl rfl) ⟨_, _, rfl, hR⟩
theorem rOf_fn {n : Nat} {h : Part} (hn : n < 18446744073709551616) : FnR Tryz.prog 53 [.int .u64 n] h (fun v h' => ∃ a c, v = .slice a (toL n).length c ∧ SlR u32R 1 h' a c (toL n)) := by
  have hv : vL (digN 2 n) = n := by rw [vL_digN]; exact Nat.mod_eq_of_lt (by simp only [Nat.reducePow]; omega)
  refine Fn.intro Tryz.func53 rfl Tryz.ntmps53 rfl (fun e he => ?_)
  refine J.weak [(0, _)] ⟨rfl, trivial⟩ ?_
  have hh0 := Part.le.refl h
  refine Sr ?_
  refine Ru 1 rfl ?_
  refine JL.nil ?_
  refine Sr ?_
  refine Ru 1 rfl ?_
  refine JL.op z42_ rfl ?_
  refine Ru 1 rfl ?_
  refine JL.op z29_ rfl ?_
  refine JL.lit1 ap_66 zr_63 rfl rfl rfl rfl rfl (fun b1 => ?_)
  refine JL.pubB (R := u64R) (sz := 1) (l := (digN 2 n).map m64) dl_ ((show CellsR u64R 1 _ [.int .u64 ((n : Int) % 4294967296), .int .u64 ((n : Int) / 4294967296)] ((digN 2 n).map m64) from (show ws .u64 (digN 2 n) = [.int .u64 ((n : Int) % 4294967296), .int .u64 ((n : Int) / 4294967296)] from by simp [ws, digN]; omega) ▸ CellsR.of_ws64)) z20_ (fun h2 hle2 hQ => ?_)
  replace hh0 := hh0.mono hle2
  refine JL.callR ca_58 rfl (number32_fn hQ (by rw [digN_len]) (by rw [digN_len]; decide)) rfl ?_
  rintro _ h3 hle3 ⟨ra, rc, rfl, hR⟩
  replace hh0 := hh0.mono hle3
  replace hQ := hQ.mono hle3
  refine Ru 1 rfl ?_
  refine Nk [2] rfl ?_
  rw [hv] at hR ⊢; exact J.retR (RetV.one rfl rfl) ⟨_, _, rfl, hR⟩
end Go.Proofs.YtmngjbefnloljaaGreatDoor
namespace Go.Proofs.YtmngjbefnloljaaGreatDoor
open Go Go.RowKit
set_option maxRecDepth 100000
end Go.Proofs.YtmngjbefnloljaaGreatDoor
namespace Go.Proofs.YtmngjbefnloljaaGreatDoor
open Go Go.RowKit
set_option maxRecDepth 100000
end Go.Proofs.YtmngjbefnloljaaGreatDoor
namespace Go.Proofs.YtmngjbefnloljaaGreatDoor
open Go Go.RowKit
set_option maxRecDepth 100000
theorem ca_92 : callT Tryz.prog 92 = true := by kernel_rfl
theorem rcompare_fn {a b : Option Addr} {ca cb X Y : Nat} {h : Part} (hA : SlR u64R 1 h a ca ((toL X).map m64)) (hB : SlR u64R 1 h b cb ((toL Y).map m64)) (hlA : (toL X).length ≤ 1000000) : Pure Tryz.prog 92 [.slice a (toL X).length ca, .slice b (toL Y).length cb] h (.int .i64 (cmpI3 X Y)) := by
  have hAl : ((toL X).map m64).length = (toL X).length := List.length_map ..
  have hBl : ((toL Y).map m64).length = (toL Y).length := List.length_map ..
  have e1 := toL_len X
  have e2 := toL_len Y
  refine Fn.intro Tryz.func92 rfl Tryz.ntmps92 rfl (fun e he => ?_)
  refine J.weak [(0, _), (1, _)] ⟨rfl, rfl, trivial⟩ ?_
  refine Sr ?_
  refine Ru 1 rfl ?_
  refine JL.nil ?_
  refine J.seq ?_
  refine Sr ?_
  refine Ru 5 rfl ?_
  refine JL.nil ?_
  refine Cs rfl (fun hc1 => ?_) fun hc1 => ?_
  ·
   refine J.seq ?_
   refine Sr ?_
   refine Ru 5 rfl ?_
   refine Nk [15, 4, 0, 1] rfl ?_
   refine Cs rfl (fun hc2 => ?_) fun hc2 => ?_
   ·
    have hlt := nd_lt (m := X) (n := Y) (by omega)
    refine Sr ?_
    refine Ru 1 rfl ?_
    refine JL.nil ?_
    exact J.retP (RetV.one rfl rfl) (by unfold cmpI3; rw [if_pos hlt]) rfl
   have hlt := nd_lt (m := Y) (n := X) (by omega)
   refine J.skip ?_
   refine Sr ?_
   refine Ru 1 rfl ?_
   refine JL.nil ?_
   exact J.retP (RetV.one rfl rfl) (by unfold cmpI3; rw [if_neg (by omega), if_pos hlt]) rfl
  refine J.skip ?_
  refine Kp [4, 0, 1] rfl ?_
  refine J.seq ?_
  refine Sr ?_
  refine Ru 2 rfl ?_
  refine JL.op si_ rfl ?_
  refine Ru 1 rfl ?_
  refine JL.nil ?_
  refine J.block ?_
  refine J.loop (fun t_ S_ h_ L_ => ∃ (j : Nat), t_ = j + 1 ∧ S_ = [(0, .slice a (toL X).length ca), (1, .slice b (toL Y).length cb), (5, .int .i64 ((j : Int) - 1))] ∧ h = h_ ∧ L_ = [] ∧ (j ≤ (toL X).length ∧ X / 4294967296 ^ j = Y / 4294967296 ^ j)) ⟨_, _, ?_, ⟨(toL X).length, rfl, rfl, rfl, rfl, ⟨Nat.le_refl _, by rw [e1, Nat.div_eq_of_lt (lt_nd _), show nd X = nd Y by omega, Nat.div_eq_of_lt (lt_nd _)]⟩⟩⟩ ?_
  ·
   exact z4_
  rintro _ _ _ _ ⟨j, rfl, rfl, rfl, rfl, hj, he⟩
  refine J.seq ?_
  refine Sr ?_
  refine Ru 2 rfl ?_
  refine JL.nil ?_
  refine Cs rfl (fun hc3 => ?_) fun hc3 => ?_
  ·
   obtain ⟨i, rfl⟩ : ∃ i, j = i + 1 := ⟨j - 1, by omega⟩; have dl := div_low X i; have dr := div_low Y i; have gl := vL_digit (toL X) i; have gr := vL_digit (toL Y) i; rw [vL_toL] at gl gr; rw [gl] at dl; rw [gr] at dr; rw [he] at dl; have al := d64_mat (toL X) i (by omega); have ar := d64_mat (toL Y) i (by omega)
   refine J.skip ?_
   refine J.seq ?_
   refine J.block ?_
   refine J.seq ?_
   refine J.seq ?_
   refine J.drawn mixed_ (by kernel_rfl) ?_
   refine Rq 2 rfl ?_
   refine JQ.ope (RunE.index (m := i) sl_66 rfl rfl (by omega) hA hAl.symm (by omega)) rfl ?_
   rintro _ ⟨b4, o4, hi4, rfl, hE4⟩
   refine JQ.op (RunV.ld_u64 ag_63 rfl (by assumption)) rfl ?_
   rw [al]
   refine Rq 2 rfl ?_
   refine JQ.ope (RunE.index (m := i) sl_66 rfl rfl (by omega) hB hBl.symm (by omega)) rfl ?_
   rintro _ ⟨b6, o6, hi6, rfl, hE6⟩
   refine JQ.op (RunV.ld_u64 ag_63 rfl (by assumption)) rfl ?_
   rw [ar]
   refine Rq 1 rfl ?_
   refine JQ.nil ?_
   refine Cs rfl (fun hc8 => ?_) fun hc8 => ?_
   ·
    have hlt := lt_of_div (x := X) (y := Y) (d := 4294967296 ^ i) (by omega)
    refine Sr ?_
    refine Ru 1 rfl ?_
    refine JL.nil ?_
    exact J.retP (RetV.one rfl rfl) (by unfold cmpI3; rw [if_pos hlt]) rfl
   refine J.skip ?_
   refine J.seq ?_
   refine J.drawn mixed_ (by kernel_rfl) ?_
   refine Rq 2 rfl ?_
   refine JQ.ope (RunE.index (m := i) sl_66 rfl rfl (by omega) hA hAl.symm (by omega)) rfl ?_
   rintro _ ⟨b9, o9, hi9, rfl, hE9⟩
   refine JQ.op (RunV.ld_u64 ag_63 rfl (by assumption)) rfl ?_
   rw [al]
   refine Rq 2 rfl ?_
   refine JQ.ope (RunE.index (m := i) sl_66 rfl rfl (by omega) hB hBl.symm (by omega)) rfl ?_
   rintro _ ⟨b11, o11, hi11, rfl, hE11⟩
   refine JQ.op (RunV.ld_u64 ag_63 rfl (by assumption)) rfl ?_
   rw [ar]
   refine Rq 1 rfl ?_
   refine JQ.nil ?_
   refine Cs rfl (fun hc13 => ?_) fun hc13 => ?_
   ·
    have hlt := lt_of_div (x := Y) (y := X) (d := 4294967296 ^ i) (by omega)
    refine Sr ?_
    refine Ru 1 rfl ?_
    refine JL.nil ?_
    exact J.retP (RetV.one rfl rfl) (by unfold cmpI3; rw [if_neg (by omega), if_pos hlt]) rfl
   refine J.skip ?_
   refine Rg ?_
   refine Ru 1 rfl ?_
   refine JL.op si_ rfl ?_
   refine Ru 1 rfl ?_
   refine JL.nil ?_
   refine ⟨_, ?_, _, ?_, ⟨i, rfl, rfl, rfl, rfl, ⟨by omega, by omega⟩⟩⟩
   ·
    omega
   exact z4_
  have hj0 : j = 0 := (by omega); rw [hj0, Nat.pow_zero, Nat.div_one, Nat.div_one] at he
  refine J.exit ?_
  refine Kp [] rfl ?_
  refine Sr ?_
  refine Ru 1 rfl ?_
  refine JL.nil ?_
  exact J.retP (RetV.one rfl rfl) (by unfold cmpI3; rw [if_neg (by omega), if_neg (by omega)]) rfl
theorem rcmp_fn {a b : Option Addr} {ca cb : Nat} {l r : List UInt32} {h : Part} (hl : SlR u32R 1 h a ca l) (hr : SlR u32R 1 h b cb r) (hlb : l.length ≤ 1000000) (hrb : r.length ≤ 1000000) : FnR Tryz.prog 49 [.slice a l.length ca, .slice b r.length cb] h (fun v _ => v = .int .i64 (cmpI3 (vL l) (vL r))) := by
  have n1 : (toL (vL l)).length ≤ l.length := by rw [toL_len]; exact nd_le _ _ (vL_lt l)
  refine Fn.intro Tryz.func49 rfl Tryz.ntmps49 rfl (fun e he => ?_)
  refine J.weak [(0, _), (1, _)] ⟨rfl, rfl, trivial⟩ ?_
  have hh0 := Part.le.refl h
  refine Sr ?_
  refine Ru 1 rfl ?_
  refine JL.nil ?_
  refine Sr ?_
  refine Ru 1 rfl ?_
  refine JL.callR ca_56 rfl (rdigs_fn hl hlb) rfl ?_
  rintro _ h1 hle1 ⟨da, dc, rfl, hD⟩
  replace hl := hl.mono hle1
  replace hr := hr.mono hle1
  replace hh0 := hh0.mono hle1
  refine Ru 1 rfl ?_
  refine JL.callR ca_56 rfl (rdigs_fn hr hrb) rfl ?_
  rintro _ h2 hle2 ⟨ea, ec, rfl, hE⟩
  replace hl := hl.mono hle2
  replace hr := hr.mono hle2
  replace hh0 := hh0.mono hle2
  replace hD := hD.mono hle2
  refine JL.callP ca_92 rfl (rcompare_fn hD hE (by omega)) rfl ?_
  refine Ru 1 rfl ?_
  refine Nk [4] rfl ?_
  exact J.retR (RetV.one rfl rfl) rfl
end Go.Proofs.YtmngjbefnloljaaGreatDoor
namespace Go.Proofs.YtmngjbefnloljaaGreatDoor
open Go Go.RowKit
theorem z25_ {p : Prop} (u : p := by unfold rightB; first | exact decide_eq_decide.2 (by omega) | exact (decide_eq_false (by omega)).symm) : p := u
theorem z44_ {p : Prop} (u : p := by first | exact RunV.fieldAt0 fo_32_1 rfl | exact RunV.fieldAt fo_32_1 rfl) : p := u
theorem z49_ {p : Prop} (u : p := by first | exact RunV.fieldAt0 fo_32_0 rfl | exact RunV.fieldAt fo_32_0 rfl) : p := u
end Go.Proofs.YtmngjbefnloljaaGreatDoor
namespace Go.Proofs.YtmngjbefnloljaaGreatDoor
open Go Go.RowKit
set_option maxRecDepth 100000
theorem ag_30 : aggT Tryz.prog 30 = some none := by kernel_rfl
theorem ca_101 : callT Tryz.prog 101 = true := by kernel_rfl
theorem ca_49 : callT Tryz.prog 49 = true := by kernel_rfl
theorem ca_53 : callT Tryz.prog 53 = true := by kernel_rfl
theorem ca_98 : callT Tryz.prog 98 = true := by kernel_rfl
theorem fo_32_0 : fieldOff Tryz.prog 32 0 = some 0 := by kernel_rfl
theorem fo_32_1 : fieldOff Tryz.prog 32 1 = some 1 := by kernel_rfl
theorem fo_32_2 : fieldOff Tryz.prog 32 2 = some 2 := by kernel_rfl
theorem d32_par (l : List UInt32) : d32 l 0 % 2 = vL l % 2 := by
  have := vL_digit l 0
  rw [Nat.pow_zero, Nat.div_one] at this
  omega
theorem odd_nil {l : List UInt32} (h : ¬ 0 < l.length) : vL l % 2 = 0 := by
  rw [← d32_par, d32_out l 0 (by omega)]
theorem odd_fn {a : Option Addr} {c : Nat} {l : List UInt32} {h : Part} (hl : SlR u32R 1 h a c l) : Pure Tryz.prog 98 [.slice a l.length c] h (.bool (decide (vL l % 2 = 1))) := by
  have hb := hl.big
  have hp := d32_par l
  have hd := d32_lt l 0
  refine Fn.intro Tryz.func98 rfl Tryz.ntmps98 rfl (fun e he => ?_)
  refine J.weak [(0, _)] ⟨rfl, trivial⟩ ?_
  refine Sr ?_
  refine Ru 1 rfl ?_
  refine JL.nil ?_
  refine Sr ?_
  refine Ru 4 rfl ?_
  refine Bs 6 rfl (fun hc1 => ?_) fun hc1 => ?_
  ·
   refine Ru 1 rfl ?_
   refine JL.opeg rfl rfl  (RunE.index (m := 0) sl_30 rfl rfl rfl hl rfl (by omega)) rfl ?_
   rintro _ ⟨b2, o2, hi2, rfl, hE2⟩
   refine JL.opg rfl rfl  (RunV.ld_u32 ag_103 rfl (by assumption)) rfl ?_
   rw [d32_at]
   refine JL.opg rfl rfl  (RunV.mask_u32 1 2 rfl rfl (by decide) (by decide) (by decide) (by omega) (by omega)) rfl ?_
   refine Ru 3 rfl ?_
   refine Nk [2] rfl ?_
   exact J.retP (RetV.one rfl rfl) (congrArg Value.bool (by first | exact decide_eq_decide.2 (by omega) | exact (decide_eq_false (by have := odd_nil (l := l) (by omega); omega)).symm)) rfl
  refine Ru 7 rfl ?_
  refine Nk [2] rfl ?_
  exact J.retP (RetV.one rfl rfl) (congrArg Value.bool (by first | exact decide_eq_decide.2 (by omega) | exact (decide_eq_false (by have := odd_nil (l := l) (by omega); omega)).symm)) rfl
theorem rodd_fn {a : Option Addr} {c : Nat} {l : List UInt32} {h : Part} (hl : SlR u32R 1 h a c l) : Pure Tryz.prog 101 [.slice a l.length c] h (.bool (decide (vL l % 2 = 1))) := by
  have hb := hl.big
  have hp := d32_par l
  have hd := d32_lt l 0
  refine Fn.intro Tryz.func101 rfl Tryz.ntmps101 rfl (fun e he => ?_)
  refine J.weak [(0, _)] ⟨rfl, trivial⟩ ?_
  refine Sr ?_
  refine Ru 1 rfl ?_
  refine JL.nil ?_
  refine Sr ?_
  refine Ru 4 rfl ?_
  refine Bs 6 rfl (fun hc1 => ?_) fun hc1 => ?_
  ·
   refine Ru 1 rfl ?_
   refine JL.opeg rfl rfl  (RunE.index (m := 0) sl_30 rfl rfl rfl hl rfl (by omega)) rfl ?_
   rintro _ ⟨b2, o2, hi2, rfl, hE2⟩
   refine JL.opg rfl rfl  (RunV.ld_u32 ag_103 rfl (by assumption)) rfl ?_
   rw [d32_at]
   refine JL.opg rfl rfl  (by first | exact RunV.rem_u32 rfl rfl (by omega) (by omega) | exact RunV.rem rfl rfl (by omega)) rfl ?_
   refine Ru 3 rfl ?_
   refine Nk [2] rfl ?_
   exact J.retP (RetV.one rfl rfl) (congrArg Value.bool (by first | exact decide_eq_decide.2 (by omega) | exact (decide_eq_false (by have := odd_nil (l := l) (by omega); omega)).symm)) rfl
  refine Ru 7 rfl ?_
  refine Nk [2] rfl ?_
  exact J.retP (RetV.one rfl rfl) (congrArg Value.bool (by first | exact decide_eq_decide.2 (by omega) | exact (decide_eq_false (by have := odd_nil (l := l) (by omega); omega)).symm)) rfl
def rightB (n e d : Nat) : Bool := decide (n % 2 = 1 ∧ 512 ≤ bl n ∧ bl n ≤ 4096 ∧ e % 2 = 1 ∧ 2 < e ∧ bl e ≤ 64 ∧ d < n)
theorem cmp_facts (a b : Nat) : (0 < cmpI3 a b ↔ b < a) ∧ (cmpI3 a b < 0 ↔ a < b) ∧ (cmpI3 a b = 1 ↔ b < a) ∧ (cmpI3 a b = -1 ↔ a < b) ∧ (cmpI3 a b = 0 ↔ a = b) := by
  unfold cmpI3
  split
  · omega
  · split <;> omega
theorem ksize_fn {an ae ad : Option Addr} {cn ce cd : Nat} {n e d : List UInt32} {h : Part} (hn : SlR u32R 1 h an cn n) : Pure Tryz.prog 25 [.agg #[.slice an n.length cn, .slice ae e.length ce, .slice ad d.length cd]] h (.int .i64 ((bl (vL n) + 7) / 8 : Nat)) := by
  have hb := hn.big
  have hbl := bl_len' n
  refine Fn.intro Tryz.func25 rfl Tryz.ntmps25 rfl (fun e he => ?_)
  refine J.weak [(0, _)] ⟨rfl, trivial⟩ ?_
  refine Sr ?_
  refine JL.box rfl rfl rfl (fun b1 => ?_)
  refine Ru 1 rfl ?_
  refine JL.nil ?_
  refine Sr ?_
  refine Ru 1 rfl ?_
  refine JL.op (RunV.own1 ag_30 rfl mm_ rfl) rfl ?_
  refine JL.callP ca_40 rfl (natbits_fn (by assumption)) rfl ?_
  rw [nbits_vL]
  refine JL.op ai_ rfl ?_
  refine JL.op z14_ rfl ?_
  refine Ru 1 rfl ?_
  refine Nk [2] rfl ?_
  exact J.retP (RetV.one rfl rfl) (congrArg (Value.int .i64) (by omega)) rfl
theorem keyright_fn {an ae ad : Option Addr} {cn ce cd : Nat} {n x d : List UInt32} {h : Part} (hn : SlR u32R 1 h an cn n) (hx : SlR u32R 1 h ae ce x) (hd : SlR u32R 1 h ad cd d) : FnR Tryz.prog 60 [.agg #[.slice an n.length cn, .slice ae x.length ce, .slice ad d.length cd]] h (fun v _ => v = .bool (rightB (vL n) (vL x) (vL d))) := by
  have hb := hn.big
  have hbl := bl_len' n
  have v2 : vL (toL 2) = 2 := vL_toL 2
  obtain ⟨k1, -, k2, -, -⟩ := cmp_facts (vL x) 2
  obtain ⟨-, k3, -, k4, -⟩ := cmp_facts (vL d) (vL n)
  refine Fn.intro Tryz.func60 rfl Tryz.ntmps60 rfl (fun e he => ?_)
  refine J.weak [(0, _)] ⟨rfl, trivial⟩ ?_
  have hh0 := Part.le.refl h
  refine Sr ?_
  refine JL.box rfl rfl rfl (fun b1 => ?_)
  refine Ru 1 rfl ?_
  refine JL.nil ?_
  refine Sr ?_
  refine Ru 1 rfl ?_
  refine JL.op (RunV.own1 ag_30 rfl mm_ rfl) rfl ?_
  refine JL.callP ca_40 rfl (natbits_fn (by assumption)) rfl ?_
  rw [nbits_vL]
  refine Ru 1 rfl ?_
  refine JL.nil ?_
  refine J.seq ?_
  refine J.held ([.blk b1 32 [.slice an n.length cn, .slice ae x.length ce, .slice ad d.length cd]]) 38 mixed_ rfl (fun h00 => ?_)
  refine JH.take 0 rfl (by kernel_rfl) (by kernel_rfl) (by kernel_rfl) (fun _ _ _ _ hh => hh) (br_ h00) z49_ rfl ?_
  refine JH.take 1 rfl (by kernel_rfl) (by kernel_rfl) (by kernel_rfl) (fun _ _ _ _ hh => hh) (br_ h00) (RunV.own1 ag_30 rfl mm_ rfl) rfl ?_
  refine JH.all1 2 (by kernel_rfl) rfl ?_
  unfold One
  refine JL.callP ca_98 rfl (odd_fn (by assumption)) rfl ?_
  refine JL.nil ⟨(br_ h00), ?_⟩
  refine JH.take 3 rfl (by kernel_rfl) (by kernel_rfl) (by kernel_rfl) (fun _ _ _ _ hh => hh) (br_ h00) (RunV.move rfl) rfl ?_
  refine Bh 10 rfl (fun hc4 => ?_) fun hc4 => ?_
  ·
   refine JH.takeG 4 rfl rfl rfl (by kernel_rfl) (by kernel_rfl) (by kernel_rfl) (fun _ _ _ _ hh => hh) (br_ h00) (RunV.move rfl) rfl ?_
   refine JH.takeG 5 rfl rfl rfl (by kernel_rfl) (by kernel_rfl) (by kernel_rfl) (fun _ _ _ _ hh => hh) (br_ h00) (RunV.geq rfl rfl) rfl ?_
   refine JH.take 6 rfl (by kernel_rfl) (by kernel_rfl) (by kernel_rfl) (fun _ _ _ _ hh => hh) (br_ h00) (RunV.pick_t rfl rfl) rfl ?_
   refine JH.take 7 rfl (by kernel_rfl) (by kernel_rfl) (by kernel_rfl) (fun _ _ _ _ hh => hh) (br_ h00) (RunV.move rfl) rfl ?_
   refine Bh 14 rfl (fun hc5 => ?_) fun hc5 => ?_
   ·
    refine JH.takeG 8 rfl rfl rfl (by kernel_rfl) (by kernel_rfl) (by kernel_rfl) (fun _ _ _ _ hh => hh) (br_ h00) (RunV.move rfl) rfl ?_
    refine JH.takeG 9 rfl rfl rfl (by kernel_rfl) (by kernel_rfl) (by kernel_rfl) (fun _ _ _ _ hh => hh) (br_ h00) (RunV.leq rfl rfl) rfl ?_
    refine JH.take 10 rfl (by kernel_rfl) (by kernel_rfl) (by kernel_rfl) (fun _ _ _ _ hh => hh) (br_ h00) (RunV.pick_t rfl rfl) rfl ?_
    refine JH.take 11 rfl (by kernel_rfl) (by kernel_rfl) (by kernel_rfl) (fun _ _ _ _ hh => hh) (br_ h00) (RunV.move rfl) rfl ?_
    refine Bh 18 rfl (fun hc6 => ?_) fun hc6 => ?_
    ·
     refine JH.takeG 12 rfl rfl rfl (by kernel_rfl) (by kernel_rfl) (by kernel_rfl) (fun _ _ _ _ hh => hh) (br_ h00) z44_ rfl ?_
     refine JH.takeG 13 rfl rfl rfl (by kernel_rfl) (by kernel_rfl) (by kernel_rfl) (fun _ _ _ _ hh => hh) (br_ h00) (RunV.own1 ag_30 rfl mm_ rfl) rfl ?_
     refine JH.all1 14 (by kernel_rfl) rfl ?_
     unfold One
     refine JL.callPg rfl rfl  ca_98 rfl (odd_fn (by assumption)) rfl ?_
     refine JL.nil ⟨(br_ h00), ?_⟩
     refine JH.take 15 rfl (by kernel_rfl) (by kernel_rfl) (by kernel_rfl) (fun _ _ _ _ hh => hh) (br_ h00) (RunV.pick_t rfl rfl) rfl ?_
     refine JH.take 16 rfl (by kernel_rfl) (by kernel_rfl) (by kernel_rfl) (fun _ _ _ _ hh => hh) (br_ h00) (RunV.move rfl) rfl ?_
     refine Bh 23 rfl (fun hc8 => ?_) fun hc8 => ?_
     ·
      refine JH.takeG 17 rfl rfl rfl (by kernel_rfl) (by kernel_rfl) (by kernel_rfl) (fun _ _ _ _ hh => hh) (br_ h00) z44_ rfl ?_
      refine JH.takeG 18 rfl rfl rfl (by kernel_rfl) (by kernel_rfl) (by kernel_rfl) (fun _ _ _ _ hh => hh) (br_ h00) (RunV.own1 ag_30 rfl mm_ rfl) rfl ?_
      refine JH.all1 19 (by kernel_rfl) rfl ?_
      unfold One
      refine JL.callRg rfl rfl  ca_87 rfl (natOf_fn (n := 2) (by decide)) rfl ?_
      rintro _ h9 hle9 ⟨oa, oc, rfl, hO1⟩
      replace hn := hn.mono hle9
      replace hx := hx.mono hle9
      replace hd := hd.mono hle9
      replace hh0 := hh0.mono hle9
      refine JL.nil ⟨(br_ h00), ?_⟩
      refine JH.all1 20 (by kernel_rfl) rfl ?_
      unfold One
      refine JL.callPg rfl rfl  ca_47 rfl (natcmp_fn (by assumption) (by assumption)) rfl ?_
      rw [v2]
      refine JL.nil ⟨(br_ h00), ?_⟩
      refine JH.takeG 21 rfl rfl rfl (by kernel_rfl) (by kernel_rfl) (by kernel_rfl) (fun _ _ _ _ hh => hh) (br_ h00) (RunV.gtr rfl rfl) rfl ?_
      refine JH.take 22 rfl (by kernel_rfl) (by kernel_rfl) (by kernel_rfl) (fun _ _ _ _ hh => hh) (br_ h00) (RunV.pick_t rfl rfl) rfl ?_
      refine JH.take 23 rfl (by kernel_rfl) (by kernel_rfl) (by kernel_rfl) (fun _ _ _ _ hh => hh) (br_ h00) (RunV.move rfl) rfl ?_
      refine Bh 30 rfl (fun hc11 => ?_) fun hc11 => ?_
      ·
       refine JH.takeG 24 rfl rfl rfl (by kernel_rfl) (by kernel_rfl) (by kernel_rfl) (fun _ _ _ _ hh => hh) (br_ h00) z44_ rfl ?_
       refine JH.takeG 25 rfl rfl rfl (by kernel_rfl) (by kernel_rfl) (by kernel_rfl) (fun _ _ _ _ hh => hh) (br_ h00) (RunV.own1 ag_30 rfl mm_ rfl) rfl ?_
       refine JH.all1 26 (by kernel_rfl) rfl ?_
       unfold One
       refine JL.callPg rfl rfl  ca_40 rfl (natbits_fn (by assumption)) rfl ?_
       rw [nbits_vL]
       refine JL.nil ⟨(br_ h00), ?_⟩
       refine JH.takeG 27 rfl rfl rfl (by kernel_rfl) (by kernel_rfl) (by kernel_rfl) (fun _ _ _ _ hh => hh) (br_ h00) (RunV.leq rfl rfl) rfl ?_
       refine JH.take 28 rfl (by kernel_rfl) (by kernel_rfl) (by kernel_rfl) (fun _ _ _ _ hh => hh) (br_ h00) (RunV.pick_t rfl rfl) rfl ?_
       refine JH.take 29 rfl (by kernel_rfl) (by kernel_rfl) (by kernel_rfl) (fun _ _ _ _ hh => hh) (br_ h00) (RunV.move rfl) rfl ?_
       refine Bh 36 rfl (fun hc13 => ?_) fun hc13 => ?_
       ·
        refine JH.takeG 30 rfl rfl rfl (by kernel_rfl) (by kernel_rfl) (by kernel_rfl) (fun _ _ _ _ hh => hh) (br_ h00) (by first | exact RunV.fieldAt0 fo_32_2 rfl | exact RunV.fieldAt fo_32_2 rfl) rfl ?_
        refine JH.takeG 31 rfl rfl rfl (by kernel_rfl) (by kernel_rfl) (by kernel_rfl) (fun _ _ _ _ hh => hh) (br_ h00) (RunV.own1 ag_30 rfl mm_ rfl) rfl ?_
        refine JH.takeG 32 rfl rfl rfl (by kernel_rfl) (by kernel_rfl) (by kernel_rfl) (fun _ _ _ _ hh => hh) (br_ h00) z49_ rfl ?_
        refine JH.takeG 33 rfl rfl rfl (by kernel_rfl) (by kernel_rfl) (by kernel_rfl) (fun _ _ _ _ hh => hh) (br_ h00) (RunV.own1 ag_30 rfl mm_ rfl) rfl ?_
        refine JH.all1 34 (by kernel_rfl) rfl ?_
        unfold One
        refine JL.callPg rfl rfl  ca_47 rfl (natcmp_fn (by assumption) (by assumption)) rfl ?_
        refine JL.nil ⟨(br_ h00), ?_⟩
        refine JH.takeG 35 rfl rfl rfl (by kernel_rfl) (by kernel_rfl) (by kernel_rfl) (fun _ _ _ _ hh => hh) (br_ h00) (RunV.lss rfl rfl) rfl ?_
        refine JH.take 36 rfl (by kernel_rfl) (by kernel_rfl) (by kernel_rfl) (fun _ _ _ _ hh => hh) (br_ h00) (RunV.pick_t rfl rfl) rfl ?_
        refine JH.take 37 rfl (by kernel_rfl) (by kernel_rfl) (by kernel_rfl) (fun _ _ _ _ hh => hh) (br_ h00) (RunV.assign rfl) rfl ?_
        refine JH.done (by kernel_rfl) ?_
        refine Kp [2] rfl ?_
        exact J.retR (RetV.one rfl rfl) (congrArg Value.bool z25_)
       refine JH.skip 30 rfl rfl rfl (by kernel_rfl) (by kernel_rfl) (by kernel_rfl) (fun _ _ _ _ hh => hh) (br_ h00) rfl ?_
       refine JH.skip 31 rfl rfl rfl (by kernel_rfl) (by kernel_rfl) (by kernel_rfl) (fun _ _ _ _ hh => hh) (br_ h00) rfl ?_
       refine JH.skip 32 rfl rfl rfl (by kernel_rfl) (by kernel_rfl) (by kernel_rfl) (fun _ _ _ _ hh => hh) (br_ h00) rfl ?_
       refine JH.skip 33 rfl rfl rfl (by kernel_rfl) (by kernel_rfl) (by kernel_rfl) (fun _ _ _ _ hh => hh) (br_ h00) rfl ?_
       refine JH.all1 34 (by kernel_rfl) rfl ?_
       unfold One
       refine JL.skip rfl rfl rfl ?_
       refine JL.nil ⟨(br_ h00), ?_⟩
       refine JH.skip 35 rfl rfl rfl (by kernel_rfl) (by kernel_rfl) (by kernel_rfl) (fun _ _ _ _ hh => hh) (br_ h00) rfl ?_
       refine JH.take 36 rfl (by kernel_rfl) (by kernel_rfl) (by kernel_rfl) (fun _ _ _ _ hh => hh) (br_ h00) (RunV.pick_f rfl rfl) rfl ?_
       refine JH.take 37 rfl (by kernel_rfl) (by kernel_rfl) (by kernel_rfl) (fun _ _ _ _ hh => hh) (br_ h00) (RunV.assign rfl) rfl ?_
       refine JH.done (by kernel_rfl) ?_
       refine Kp [2] rfl ?_
       exact J.retR (RetV.one rfl rfl) (congrArg Value.bool z25_)
      refine JH.skip 24 rfl rfl rfl (by kernel_rfl) (by kernel_rfl) (by kernel_rfl) (fun _ _ _ _ hh => hh) (br_ h00) rfl ?_
      refine JH.skip 25 rfl rfl rfl (by kernel_rfl) (by kernel_rfl) (by kernel_rfl) (fun _ _ _ _ hh => hh) (br_ h00) rfl ?_
      refine JH.all1 26 (by kernel_rfl) rfl ?_
      unfold One
      refine JL.skip rfl rfl rfl ?_
      refine JL.nil ⟨(br_ h00), ?_⟩
      refine JH.skip 27 rfl rfl rfl (by kernel_rfl) (by kernel_rfl) (by kernel_rfl) (fun _ _ _ _ hh => hh) (br_ h00) rfl ?_
      refine JH.take 28 rfl (by kernel_rfl) (by kernel_rfl) (by kernel_rfl) (fun _ _ _ _ hh => hh) (br_ h00) (RunV.pick_f rfl rfl) rfl ?_
      refine JH.take 29 rfl (by kernel_rfl) (by kernel_rfl) (by kernel_rfl) (fun _ _ _ _ hh => hh) (br_ h00) (RunV.move rfl) rfl ?_
      refine JH.skip 30 rfl rfl rfl (by kernel_rfl) (by kernel_rfl) (by kernel_rfl) (fun _ _ _ _ hh => hh) (br_ h00) rfl ?_
      refine JH.skip 31 rfl rfl rfl (by kernel_rfl) (by kernel_rfl) (by kernel_rfl) (fun _ _ _ _ hh => hh) (br_ h00) rfl ?_
      refine JH.skip 32 rfl rfl rfl (by kernel_rfl) (by kernel_rfl) (by kernel_rfl) (fun _ _ _ _ hh => hh) (br_ h00) rfl ?_
      refine JH.skip 33 rfl rfl rfl (by kernel_rfl) (by kernel_rfl) (by kernel_rfl) (fun _ _ _ _ hh => hh) (br_ h00) rfl ?_
      refine JH.all1 34 (by kernel_rfl) rfl ?_
      unfold One
      refine JL.skip rfl rfl rfl ?_
      refine JL.nil ⟨(br_ h00), ?_⟩
      refine JH.skip 35 rfl rfl rfl (by kernel_rfl) (by kernel_rfl) (by kernel_rfl) (fun _ _ _ _ hh => hh) (br_ h00) rfl ?_
      refine JH.take 36 rfl (by kernel_rfl) (by kernel_rfl) (by kernel_rfl) (fun _ _ _ _ hh => hh) (br_ h00) (RunV.pick_f rfl rfl) rfl ?_
      refine JH.take 37 rfl (by kernel_rfl) (by kernel_rfl) (by kernel_rfl) (fun _ _ _ _ hh => hh) (br_ h00) (RunV.assign rfl) rfl ?_
      refine JH.done (by kernel_rfl) ?_
      refine Kp [2] rfl ?_
      exact J.retR (RetV.one rfl rfl) (congrArg Value.bool z25_)
     refine JH.skip 17 rfl rfl rfl (by kernel_rfl) (by kernel_rfl) (by kernel_rfl) (fun _ _ _ _ hh => hh) (br_ h00) rfl ?_
     refine JH.skip 18 rfl rfl rfl (by kernel_rfl) (by kernel_rfl) (by kernel_rfl) (fun _ _ _ _ hh => hh) (br_ h00) rfl ?_
     refine JH.all1 19 (by kernel_rfl) rfl ?_
     unfold One
     refine JL.skip rfl rfl rfl ?_
     refine JL.nil ⟨(br_ h00), ?_⟩
     refine JH.all1 20 (by kernel_rfl) rfl ?_
     unfold One
     refine JL.skip rfl rfl rfl ?_
     refine JL.nil ⟨(br_ h00), ?_⟩
     refine JH.skip 21 rfl rfl rfl (by kernel_rfl) (by kernel_rfl) (by kernel_rfl) (fun _ _ _ _ hh => hh) (br_ h00) rfl ?_
     refine JH.take 22 rfl (by kernel_rfl) (by kernel_rfl) (by kernel_rfl) (fun _ _ _ _ hh => hh) (br_ h00) (RunV.pick_f rfl rfl) rfl ?_
     refine JH.take 23 rfl (by kernel_rfl) (by kernel_rfl) (by kernel_rfl) (fun _ _ _ _ hh => hh) (br_ h00) (RunV.move rfl) rfl ?_
     refine JH.skip 24 rfl rfl rfl (by kernel_rfl) (by kernel_rfl) (by kernel_rfl) (fun _ _ _ _ hh => hh) (br_ h00) rfl ?_
     refine JH.skip 25 rfl rfl rfl (by kernel_rfl) (by kernel_rfl) (by kernel_rfl) (fun _ _ _ _ hh => hh) (br_ h00) rfl ?_
     refine JH.all1 26 (by kernel_rfl) rfl ?_
     unfold One
     refine JL.skip rfl rfl rfl ?_
     refine JL.nil ⟨(br_ h00), ?_⟩
     refine JH.skip 27 rfl rfl rfl (by kernel_rfl) (by kernel_rfl) (by kernel_rfl) (fun _ _ _ _ hh => hh) (br_ h00) rfl ?_
     refine JH.take 28 rfl (by kernel_rfl) (by kernel_rfl) (by kernel_rfl) (fun _ _ _ _ hh => hh) (br_ h00) (RunV.pick_f rfl rfl) rfl ?_
     refine JH.take 29 rfl (by kernel_rfl) (by kernel_rfl) (by kernel_rfl) (fun _ _ _ _ hh => hh) (br_ h00) (RunV.move rfl) rfl ?_
     refine JH.skip 30 rfl rfl rfl (by kernel_rfl) (by kernel_rfl) (by kernel_rfl) (fun _ _ _ _ hh => hh) (br_ h00) rfl ?_
     refine JH.skip 31 rfl rfl rfl (by kernel_rfl) (by kernel_rfl) (by kernel_rfl) (fun _ _ _ _ hh => hh) (br_ h00) rfl ?_
     refine JH.skip 32 rfl rfl rfl (by kernel_rfl) (by kernel_rfl) (by kernel_rfl) (fun _ _ _ _ hh => hh) (br_ h00) rfl ?_
     refine JH.skip 33 rfl rfl rfl (by kernel_rfl) (by kernel_rfl) (by kernel_rfl) (fun _ _ _ _ hh => hh) (br_ h00) rfl ?_
     refine JH.all1 34 (by kernel_rfl) rfl ?_
     unfold One
     refine JL.skip rfl rfl rfl ?_
     refine JL.nil ⟨(br_ h00), ?_⟩
     refine JH.skip 35 rfl rfl rfl (by kernel_rfl) (by kernel_rfl) (by kernel_rfl) (fun _ _ _ _ hh => hh) (br_ h00) rfl ?_
     refine JH.take 36 rfl (by kernel_rfl) (by kernel_rfl) (by kernel_rfl) (fun _ _ _ _ hh => hh) (br_ h00) (RunV.pick_f rfl rfl) rfl ?_
     refine JH.take 37 rfl (by kernel_rfl) (by kernel_rfl) (by kernel_rfl) (fun _ _ _ _ hh => hh) (br_ h00) (RunV.assign rfl) rfl ?_
     refine JH.done (by kernel_rfl) ?_
     refine Kp [2] rfl ?_
     exact J.retR (RetV.one rfl rfl) (congrArg Value.bool z25_)
    refine JH.skip 12 rfl rfl rfl (by kernel_rfl) (by kernel_rfl) (by kernel_rfl) (fun _ _ _ _ hh => hh) (br_ h00) rfl ?_
    refine JH.skip 13 rfl rfl rfl (by kernel_rfl) (by kernel_rfl) (by kernel_rfl) (fun _ _ _ _ hh => hh) (br_ h00) rfl ?_
    refine JH.all1 14 (by kernel_rfl) rfl ?_
    unfold One
    refine JL.skip rfl rfl rfl ?_
    refine JL.nil ⟨(br_ h00), ?_⟩
    refine JH.take 15 rfl (by kernel_rfl) (by kernel_rfl) (by kernel_rfl) (fun _ _ _ _ hh => hh) (br_ h00) (RunV.pick_f rfl rfl) rfl ?_
    refine JH.take 16 rfl (by kernel_rfl) (by kernel_rfl) (by kernel_rfl) (fun _ _ _ _ hh => hh) (br_ h00) (RunV.move rfl) rfl ?_
    refine JH.skip 17 rfl rfl rfl (by kernel_rfl) (by kernel_rfl) (by kernel_rfl) (fun _ _ _ _ hh => hh) (br_ h00) rfl ?_
    refine JH.skip 18 rfl rfl rfl (by kernel_rfl) (by kernel_rfl) (by kernel_rfl) (fun _ _ _ _ hh => hh) (br_ h00) rfl ?_
    refine JH.all1 19 (by kernel_rfl) rfl ?_
    unfold One
    refine JL.skip rfl rfl rfl ?_
    refine JL.nil ⟨(br_ h00), ?_⟩
    refine JH.all1 20 (by kernel_rfl) rfl ?_
    unfold One
    refine JL.skip rfl rfl rfl ?_
    refine JL.nil ⟨(br_ h00), ?_⟩
    refine JH.skip 21 rfl rfl rfl (by kernel_rfl) (by kernel_rfl) (by kernel_rfl) (fun _ _ _ _ hh => hh) (br_ h00) rfl ?_
    refine JH.take 22 rfl (by kernel_rfl) (by kernel_rfl) (by kernel_rfl) (fun _ _ _ _ hh => hh) (br_ h00) (RunV.pick_f rfl rfl) rfl ?_
    refine JH.take 23 rfl (by kernel_rfl) (by kernel_rfl) (by kernel_rfl) (fun _ _ _ _ hh => hh) (br_ h00) (RunV.move rfl) rfl ?_
    refine JH.skip 24 rfl rfl rfl (by kernel_rfl) (by kernel_rfl) (by kernel_rfl) (fun _ _ _ _ hh => hh) (br_ h00) rfl ?_
    refine JH.skip 25 rfl rfl rfl (by kernel_rfl) (by kernel_rfl) (by kernel_rfl) (fun _ _ _ _ hh => hh) (br_ h00) rfl ?_
    refine JH.all1 26 (by kernel_rfl) rfl ?_
    unfold One
    refine JL.skip rfl rfl rfl ?_
    refine JL.nil ⟨(br_ h00), ?_⟩
    refine JH.skip 27 rfl rfl rfl (by kernel_rfl) (by kernel_rfl) (by kernel_rfl) (fun _ _ _ _ hh => hh) (br_ h00) rfl ?_
    refine JH.take 28 rfl (by kernel_rfl) (by kernel_rfl) (by kernel_rfl) (fun _ _ _ _ hh => hh) (br_ h00) (RunV.pick_f rfl rfl) rfl ?_
    refine JH.take 29 rfl (by kernel_rfl) (by kernel_rfl) (by kernel_rfl) (fun _ _ _ _ hh => hh) (br_ h00) (RunV.move rfl) rfl ?_
    refine JH.skip 30 rfl rfl rfl (by kernel_rfl) (by kernel_rfl) (by kernel_rfl) (fun _ _ _ _ hh => hh) (br_ h00) rfl ?_
    refine JH.skip 31 rfl rfl rfl (by kernel_rfl) (by kernel_rfl) (by kernel_rfl) (fun _ _ _ _ hh => hh) (br_ h00) rfl ?_
    refine JH.skip 32 rfl rfl rfl (by kernel_rfl) (by kernel_rfl) (by kernel_rfl) (fun _ _ _ _ hh => hh) (br_ h00) rfl ?_
    refine JH.skip 33 rfl rfl rfl (by kernel_rfl) (by kernel_rfl) (by kernel_rfl) (fun _ _ _ _ hh => hh) (br_ h00) rfl ?_
    refine JH.all1 34 (by kernel_rfl) rfl ?_
    unfold One
    refine JL.skip rfl rfl rfl ?_
    refine JL.nil ⟨(br_ h00), ?_⟩
    refine JH.skip 35 rfl rfl rfl (by kernel_rfl) (by kernel_rfl) (by kernel_rfl) (fun _ _ _ _ hh => hh) (br_ h00) rfl ?_
    refine JH.take 36 rfl (by kernel_rfl) (by kernel_rfl) (by kernel_rfl) (fun _ _ _ _ hh => hh) (br_ h00) (RunV.pick_f rfl rfl) rfl ?_
    refine JH.take 37 rfl (by kernel_rfl) (by kernel_rfl) (by kernel_rfl) (fun _ _ _ _ hh => hh) (br_ h00) (RunV.assign rfl) rfl ?_
    refine JH.done (by kernel_rfl) ?_
    refine Kp [2] rfl ?_
    exact J.retR (RetV.one rfl rfl) (congrArg Value.bool z25_)
   refine JH.skip 8 rfl rfl rfl (by kernel_rfl) (by kernel_rfl) (by kernel_rfl) (fun _ _ _ _ hh => hh) (br_ h00) rfl ?_
   refine JH.skip 9 rfl rfl rfl (by kernel_rfl) (by kernel_rfl) (by kernel_rfl) (fun _ _ _ _ hh => hh) (br_ h00) rfl ?_
   refine JH.take 10 rfl (by kernel_rfl) (by kernel_rfl) (by kernel_rfl) (fun _ _ _ _ hh => hh) (br_ h00) (RunV.pick_f rfl rfl) rfl ?_
   refine JH.take 11 rfl (by kernel_rfl) (by kernel_rfl) (by kernel_rfl) (fun _ _ _ _ hh => hh) (br_ h00) (RunV.move rfl) rfl ?_
   refine JH.skip 12 rfl rfl rfl (by kernel_rfl) (by kernel_rfl) (by kernel_rfl) (fun _ _ _ _ hh => hh) (br_ h00) rfl ?_
   refine JH.skip 13 rfl rfl rfl (by kernel_rfl) (by kernel_rfl) (by kernel_rfl) (fun _ _ _ _ hh => hh) (br_ h00) rfl ?_
   refine JH.all1 14 (by kernel_rfl) rfl ?_
   unfold One
   refine JL.skip rfl rfl rfl ?_
   refine JL.nil ⟨(br_ h00), ?_⟩
   refine JH.take 15 rfl (by kernel_rfl) (by kernel_rfl) (by kernel_rfl) (fun _ _ _ _ hh => hh) (br_ h00) (RunV.pick_f rfl rfl) rfl ?_
   refine JH.take 16 rfl (by kernel_rfl) (by kernel_rfl) (by kernel_rfl) (fun _ _ _ _ hh => hh) (br_ h00) (RunV.move rfl) rfl ?_
   refine JH.skip 17 rfl rfl rfl (by kernel_rfl) (by kernel_rfl) (by kernel_rfl) (fun _ _ _ _ hh => hh) (br_ h00) rfl ?_
   refine JH.skip 18 rfl rfl rfl (by kernel_rfl) (by kernel_rfl) (by kernel_rfl) (fun _ _ _ _ hh => hh) (br_ h00) rfl ?_
   refine JH.all1 19 (by kernel_rfl) rfl ?_
   unfold One
   refine JL.skip rfl rfl rfl ?_
   refine JL.nil ⟨(br_ h00), ?_⟩
   refine JH.all1 20 (by kernel_rfl) rfl ?_
   unfold One
   refine JL.skip rfl rfl rfl ?_
   refine JL.nil ⟨(br_ h00), ?_⟩
   refine JH.skip 21 rfl rfl rfl (by kernel_rfl) (by kernel_rfl) (by kernel_rfl) (fun _ _ _ _ hh => hh) (br_ h00) rfl ?_
   refine JH.take 22 rfl (by kernel_rfl) (by kernel_rfl) (by kernel_rfl) (fun _ _ _ _ hh => hh) (br_ h00) (RunV.pick_f rfl rfl) rfl ?_
   refine JH.take 23 rfl (by kernel_rfl) (by kernel_rfl) (by kernel_rfl) (fun _ _ _ _ hh => hh) (br_ h00) (RunV.move rfl) rfl ?_
   refine JH.skip 24 rfl rfl rfl (by kernel_rfl) (by kernel_rfl) (by kernel_rfl) (fun _ _ _ _ hh => hh) (br_ h00) rfl ?_
   refine JH.skip 25 rfl rfl rfl (by kernel_rfl) (by kernel_rfl) (by kernel_rfl) (fun _ _ _ _ hh => hh) (br_ h00) rfl ?_
   refine JH.all1 26 (by kernel_rfl) rfl ?_
   unfold One
   refine JL.skip rfl rfl rfl ?_
   refine JL.nil ⟨(br_ h00), ?_⟩
   refine JH.skip 27 rfl rfl rfl (by kernel_rfl) (by kernel_rfl) (by kernel_rfl) (fun _ _ _ _ hh => hh) (br_ h00) rfl ?_
   refine JH.take 28 rfl (by kernel_rfl) (by kernel_rfl) (by kernel_rfl) (fun _ _ _ _ hh => hh) (br_ h00) (RunV.pick_f rfl rfl) rfl ?_
   refine JH.take 29 rfl (by kernel_rfl) (by kernel_rfl) (by kernel_rfl) (fun _ _ _ _ hh => hh) (br_ h00) (RunV.move rfl) rfl ?_
   refine JH.skip 30 rfl rfl rfl (by kernel_rfl) (by kernel_rfl) (by kernel_rfl) (fun _ _ _ _ hh => hh) (br_ h00) rfl ?_
   refine JH.skip 31 rfl rfl rfl (by kernel_rfl) (by kernel_rfl) (by kernel_rfl) (fun _ _ _ _ hh => hh) (br_ h00) rfl ?_
   refine JH.skip 32 rfl rfl rfl (by kernel_rfl) (by kernel_rfl) (by kernel_rfl) (fun _ _ _ _ hh => hh) (br_ h00) rfl ?_
   refine JH.skip 33 rfl rfl rfl (by kernel_rfl) (by kernel_rfl) (by kernel_rfl) (fun _ _ _ _ hh => hh) (br_ h00) rfl ?_
   refine JH.all1 34 (by kernel_rfl) rfl ?_
   unfold One
   refine JL.skip rfl rfl rfl ?_
   refine JL.nil ⟨(br_ h00), ?_⟩
   refine JH.skip 35 rfl rfl rfl (by kernel_rfl) (by kernel_rfl) (by kernel_rfl) (fun _ _ _ _ hh => hh) (br_ h00) rfl ?_
   refine JH.take 36 rfl (by kernel_rfl) (by kernel_rfl) (by kernel_rfl) (fun _ _ _ _ hh => hh) (br_ h00) (RunV.pick_f rfl rfl) rfl ?_
   refine JH.take 37 rfl (by kernel_rfl) (by kernel_rfl) (by kernel_rfl) (fun _ _ _ _ hh => hh) (br_ h00) (RunV.assign rfl) rfl ?_
   refine JH.done (by kernel_rfl) ?_
   refine Kp [2] rfl ?_
   exact J.retR (RetV.one rfl rfl) (congrArg Value.bool z25_)
  refine JH.skip 4 rfl rfl rfl (by kernel_rfl) (by kernel_rfl) (by kernel_rfl) (fun _ _ _ _ hh => hh) (br_ h00) rfl ?_
  refine JH.skip 5 rfl rfl rfl (by kernel_rfl) (by kernel_rfl) (by kernel_rfl) (fun _ _ _ _ hh => hh) (br_ h00) rfl ?_
  refine JH.take 6 rfl (by kernel_rfl) (by kernel_rfl) (by kernel_rfl) (fun _ _ _ _ hh => hh) (br_ h00) (RunV.pick_f rfl rfl) rfl ?_
  refine JH.take 7 rfl (by kernel_rfl) (by kernel_rfl) (by kernel_rfl) (fun _ _ _ _ hh => hh) (br_ h00) (RunV.move rfl) rfl ?_
  refine JH.skip 8 rfl rfl rfl (by kernel_rfl) (by kernel_rfl) (by kernel_rfl) (fun _ _ _ _ hh => hh) (br_ h00) rfl ?_
  refine JH.skip 9 rfl rfl rfl (by kernel_rfl) (by kernel_rfl) (by kernel_rfl) (fun _ _ _ _ hh => hh) (br_ h00) rfl ?_
  refine JH.take 10 rfl (by kernel_rfl) (by kernel_rfl) (by kernel_rfl) (fun _ _ _ _ hh => hh) (br_ h00) (RunV.pick_f rfl rfl) rfl ?_
  refine JH.take 11 rfl (by kernel_rfl) (by kernel_rfl) (by kernel_rfl) (fun _ _ _ _ hh => hh) (br_ h00) (RunV.move rfl) rfl ?_
  refine JH.skip 12 rfl rfl rfl (by kernel_rfl) (by kernel_rfl) (by kernel_rfl) (fun _ _ _ _ hh => hh) (br_ h00) rfl ?_
  refine JH.skip 13 rfl rfl rfl (by kernel_rfl) (by kernel_rfl) (by kernel_rfl) (fun _ _ _ _ hh => hh) (br_ h00) rfl ?_
  refine JH.all1 14 (by kernel_rfl) rfl ?_
  unfold One
  refine JL.skip rfl rfl rfl ?_
  refine JL.nil ⟨(br_ h00), ?_⟩
  refine JH.take 15 rfl (by kernel_rfl) (by kernel_rfl) (by kernel_rfl) (fun _ _ _ _ hh => hh) (br_ h00) (RunV.pick_f rfl rfl) rfl ?_
  refine JH.take 16 rfl (by kernel_rfl) (by kernel_rfl) (by kernel_rfl) (fun _ _ _ _ hh => hh) (br_ h00) (RunV.move rfl) rfl ?_
  refine JH.skip 17 rfl rfl rfl (by kernel_rfl) (by kernel_rfl) (by kernel_rfl) (fun _ _ _ _ hh => hh) (br_ h00) rfl ?_
  refine JH.skip 18 rfl rfl rfl (by kernel_rfl) (by kernel_rfl) (by kernel_rfl) (fun _ _ _ _ hh => hh) (br_ h00) rfl ?_
  refine JH.all1 19 (by kernel_rfl) rfl ?_
  unfold One
  refine JL.skip rfl rfl rfl ?_
  refine JL.nil ⟨(br_ h00), ?_⟩
  refine JH.all1 20 (by kernel_rfl) rfl ?_
  unfold One
  refine JL.skip rfl rfl rfl ?_
  refine JL.nil ⟨(br_ h00), ?_⟩
  refine JH.skip 21 rfl rfl rfl (by kernel_rfl) (by kernel_rfl) (by kernel_rfl) (fun _ _ _ _ hh => hh) (br_ h00) rfl ?_
  refine JH.take 22 rfl (by kernel_rfl) (by kernel_rfl) (by kernel_rfl) (fun _ _ _ _ hh => hh) (br_ h00) (RunV.pick_f rfl rfl) rfl ?_
  refine JH.take 23 rfl (by kernel_rfl) (by kernel_rfl) (by kernel_rfl) (fun _ _ _ _ hh => hh) (br_ h00) (RunV.move rfl) rfl ?_
  refine JH.skip 24 rfl rfl rfl (by kernel_rfl) (by kernel_rfl) (by kernel_rfl) (fun _ _ _ _ hh => hh) (br_ h00) rfl ?_
  refine JH.skip 25 rfl rfl rfl (by kernel_rfl) (by kernel_rfl) (by kernel_rfl) (fun _ _ _ _ hh => hh) (br_ h00) rfl ?_
  refine JH.all1 26 (by kernel_rfl) rfl ?_
  unfold One
  refine JL.skip rfl rfl rfl ?_
  refine JL.nil ⟨(br_ h00), ?_⟩
  refine JH.skip 27 rfl rfl rfl (by kernel_rfl) (by kernel_rfl) (by kernel_rfl) (fun _ _ _ _ hh => hh) (br_ h00) rfl ?_
  refine JH.take 28 rfl (by kernel_rfl) (by kernel_rfl) (by kernel_rfl) (fun _ _ _ _ hh => hh) (br_ h00) (RunV.pick_f rfl rfl) rfl ?_
  refine JH.take 29 rfl (by kernel_rfl) (by kernel_rfl) (by kernel_rfl) (fun _ _ _ _ hh => hh) (br_ h00) (RunV.move rfl) rfl ?_
  refine JH.skip 30 rfl rfl rfl (by kernel_rfl) (by kernel_rfl) (by kernel_rfl) (fun _ _ _ _ hh => hh) (br_ h00) rfl ?_
  refine JH.skip 31 rfl rfl rfl (by kernel_rfl) (by kernel_rfl) (by kernel_rfl) (fun _ _ _ _ hh => hh) (br_ h00) rfl ?_
  refine JH.skip 32 rfl rfl rfl (by kernel_rfl) (by kernel_rfl) (by kernel_rfl) (fun _ _ _ _ hh => hh) (br_ h00) rfl ?_
  refine JH.skip 33 rfl rfl rfl (by kernel_rfl) (by kernel_rfl) (by kernel_rfl) (fun _ _ _ _ hh => hh) (br_ h00) rfl ?_
  refine JH.all1 34 (by kernel_rfl) rfl ?_
  unfold One
  refine JL.skip rfl rfl rfl ?_
  refine JL.nil ⟨(br_ h00), ?_⟩
  refine JH.skip 35 rfl rfl rfl (by kernel_rfl) (by kernel_rfl) (by kernel_rfl) (fun _ _ _ _ hh => hh) (br_ h00) rfl ?_
  refine JH.take 36 rfl (by kernel_rfl) (by kernel_rfl) (by kernel_rfl) (fun _ _ _ _ hh => hh) (br_ h00) (RunV.pick_f rfl rfl) rfl ?_
  refine JH.take 37 rfl (by kernel_rfl) (by kernel_rfl) (by kernel_rfl) (fun _ _ _ _ hh => hh) (br_ h00) (RunV.assign rfl) rfl ?_
  refine JH.done (by kernel_rfl) ?_
  refine Kp [2] rfl ?_
  exact J.retR (RetV.one rfl rfl) (congrArg Value.bool z25_)
theorem rkeyright_fn {an ae ad : Option Addr} {cn ce cd : Nat} {n x d : List UInt32} {h : Part} (hn : SlR u32R 1 h an cn n) (hx : SlR u32R 1 h ae ce x) (hd : SlR u32R 1 h ad cd d) (hln : n.length ≤ 100000) (hlx : x.length ≤ 100000) (hld : d.length ≤ 100000) : FnR Tryz.prog 64 [.agg #[.slice an n.length cn, .slice ae x.length ce, .slice ad d.length cd]] h (fun v _ => v = .bool (rightB (vL n) (vL x) (vL d))) := by
  have hb := hn.big
  have hbl := bl_len' n
  have l2 : (toL 2).length = 1 := by kernel_rfl
  have v2 : vL (toL 2) = 2 := vL_toL 2
  obtain ⟨k1, -, k2, -, -⟩ := cmp_facts (vL x) 2
  obtain ⟨-, k3, -, k4, -⟩ := cmp_facts (vL d) (vL n)
  refine Fn.intro Tryz.func64 rfl Tryz.ntmps64 rfl (fun e he => ?_)
  refine J.weak [(0, _)] ⟨rfl, trivial⟩ ?_
  have hh0 := Part.le.refl h
  refine Sr ?_
  refine JL.box rfl rfl rfl (fun b1 => ?_)
  refine Ru 1 rfl ?_
  refine JL.nil ?_
  refine Sr ?_
  refine Ru 1 rfl ?_
  refine JL.op (RunV.own1 ag_30 rfl mm_ rfl) rfl ?_
  refine JL.callR ca_45 rfl (rbits_fn (by assumption) (by omega)) rfl ?_
  rintro _ h2 hle2 rfl
  replace hn := hn.mono hle2
  replace hx := hx.mono hle2
  replace hd := hd.mono hle2
  replace hh0 := hh0.mono hle2
  rw [nbits_vL]
  refine Ru 1 rfl ?_
  refine JL.nil ?_
  refine J.seq ?_
  refine J.held ([.blk b1 32 [.slice an n.length cn, .slice ae x.length ce, .slice ad d.length cd]]) 38 mixed_ rfl (fun h00 => ?_)
  refine JH.take 0 rfl (by kernel_rfl) (by kernel_rfl) (by kernel_rfl) (fun _ _ _ _ hh => hh) (br_ h00) z49_ rfl ?_
  refine JH.take 1 rfl (by kernel_rfl) (by kernel_rfl) (by kernel_rfl) (fun _ _ _ _ hh => hh) (br_ h00) (RunV.own1 ag_30 rfl mm_ rfl) rfl ?_
  refine JH.all1 2 (by kernel_rfl) rfl ?_
  unfold One
  refine JL.callP ca_101 rfl (rodd_fn (by assumption)) rfl ?_
  refine JL.nil ⟨(br_ h00), ?_⟩
  refine JH.take 3 rfl (by kernel_rfl) (by kernel_rfl) (by kernel_rfl) (fun _ _ _ _ hh => hh) (br_ h00) (RunV.move rfl) rfl ?_
  refine Bh 10 rfl (fun hc4 => ?_) fun hc4 => ?_
  ·
   refine JH.takeG 4 rfl rfl rfl (by kernel_rfl) (by kernel_rfl) (by kernel_rfl) (fun _ _ _ _ hh => hh) (br_ h00) (RunV.move rfl) rfl ?_
   refine JH.takeG 5 rfl rfl rfl (by kernel_rfl) (by kernel_rfl) (by kernel_rfl) (fun _ _ _ _ hh => hh) (br_ h00) (RunV.geq rfl rfl) rfl ?_
   refine JH.take 6 rfl (by kernel_rfl) (by kernel_rfl) (by kernel_rfl) (fun _ _ _ _ hh => hh) (br_ h00) (RunV.pick_t rfl rfl) rfl ?_
   refine JH.take 7 rfl (by kernel_rfl) (by kernel_rfl) (by kernel_rfl) (fun _ _ _ _ hh => hh) (br_ h00) (RunV.move rfl) rfl ?_
   refine Bh 14 rfl (fun hc5 => ?_) fun hc5 => ?_
   ·
    refine JH.takeG 8 rfl rfl rfl (by kernel_rfl) (by kernel_rfl) (by kernel_rfl) (fun _ _ _ _ hh => hh) (br_ h00) (RunV.move rfl) rfl ?_
    refine JH.takeG 9 rfl rfl rfl (by kernel_rfl) (by kernel_rfl) (by kernel_rfl) (fun _ _ _ _ hh => hh) (br_ h00) (RunV.leq rfl rfl) rfl ?_
    refine JH.take 10 rfl (by kernel_rfl) (by kernel_rfl) (by kernel_rfl) (fun _ _ _ _ hh => hh) (br_ h00) (RunV.pick_t rfl rfl) rfl ?_
    refine JH.take 11 rfl (by kernel_rfl) (by kernel_rfl) (by kernel_rfl) (fun _ _ _ _ hh => hh) (br_ h00) (RunV.move rfl) rfl ?_
    refine Bh 18 rfl (fun hc6 => ?_) fun hc6 => ?_
    ·
     refine JH.takeG 12 rfl rfl rfl (by kernel_rfl) (by kernel_rfl) (by kernel_rfl) (fun _ _ _ _ hh => hh) (br_ h00) z44_ rfl ?_
     refine JH.takeG 13 rfl rfl rfl (by kernel_rfl) (by kernel_rfl) (by kernel_rfl) (fun _ _ _ _ hh => hh) (br_ h00) (RunV.own1 ag_30 rfl mm_ rfl) rfl ?_
     refine JH.all1 14 (by kernel_rfl) rfl ?_
     unfold One
     refine JL.callPg rfl rfl  ca_101 rfl (rodd_fn (by assumption)) rfl ?_
     refine JL.nil ⟨(br_ h00), ?_⟩
     refine JH.take 15 rfl (by kernel_rfl) (by kernel_rfl) (by kernel_rfl) (fun _ _ _ _ hh => hh) (br_ h00) (RunV.pick_t rfl rfl) rfl ?_
     refine JH.take 16 rfl (by kernel_rfl) (by kernel_rfl) (by kernel_rfl) (fun _ _ _ _ hh => hh) (br_ h00) (RunV.move rfl) rfl ?_
     refine Bh 23 rfl (fun hc8 => ?_) fun hc8 => ?_
     ·
      refine JH.takeG 17 rfl rfl rfl (by kernel_rfl) (by kernel_rfl) (by kernel_rfl) (fun _ _ _ _ hh => hh) (br_ h00) z44_ rfl ?_
      refine JH.takeG 18 rfl rfl rfl (by kernel_rfl) (by kernel_rfl) (by kernel_rfl) (fun _ _ _ _ hh => hh) (br_ h00) (RunV.own1 ag_30 rfl mm_ rfl) rfl ?_
      refine JH.all1 19 (by kernel_rfl) rfl ?_
      unfold One
      refine JL.callRg rfl rfl  ca_53 rfl (rOf_fn (n := 2) (by decide)) rfl ?_
      rintro _ h9 hle9 ⟨oa, oc, rfl, hO1⟩
      replace hn := hn.mono hle9
      replace hx := hx.mono hle9
      replace hd := hd.mono hle9
      replace hh0 := hh0.mono hle9
      refine JL.nil ⟨(br_ h00), ?_⟩
      refine JH.all1 20 (by kernel_rfl) rfl ?_
      unfold One
      refine JL.callRg rfl rfl  ca_49 rfl (rcmp_fn (by assumption) (by assumption) (by omega) (by omega)) rfl ?_
      rintro _ h10 hle10 rfl
      replace hn := hn.mono hle10
      replace hx := hx.mono hle10
      replace hd := hd.mono hle10
      replace hh0 := hh0.mono hle10
      replace hO1 := hO1.mono hle10
      rw [v2]
      refine JL.nil ⟨(br_ h00), ?_⟩
      refine JH.takeG 21 rfl rfl rfl (by kernel_rfl) (by kernel_rfl) (by kernel_rfl) (fun _ _ _ _ hh => hh) (br_ h00) (RunV.eql rfl rfl) rfl ?_
      refine JH.take 22 rfl (by kernel_rfl) (by kernel_rfl) (by kernel_rfl) (fun _ _ _ _ hh => hh) (br_ h00) (RunV.pick_t rfl rfl) rfl ?_
      refine JH.take 23 rfl (by kernel_rfl) (by kernel_rfl) (by kernel_rfl) (fun _ _ _ _ hh => hh) (br_ h00) (RunV.move rfl) rfl ?_
      refine Bh 30 rfl (fun hc11 => ?_) fun hc11 => ?_
      ·
       refine JH.takeG 24 rfl rfl rfl (by kernel_rfl) (by kernel_rfl) (by kernel_rfl) (fun _ _ _ _ hh => hh) (br_ h00) z44_ rfl ?_
       refine JH.takeG 25 rfl rfl rfl (by kernel_rfl) (by kernel_rfl) (by kernel_rfl) (fun _ _ _ _ hh => hh) (br_ h00) (RunV.own1 ag_30 rfl mm_ rfl) rfl ?_
       refine JH.all1 26 (by kernel_rfl) rfl ?_
       unfold One
       refine JL.callRg rfl rfl  ca_45 rfl (rbits_fn (by assumption) (by omega)) rfl ?_
       rintro _ h12 hle12 rfl
       replace hn := hn.mono hle12
       replace hx := hx.mono hle12
       replace hd := hd.mono hle12
       replace hh0 := hh0.mono hle12
       replace hO1 := hO1.mono hle12
       rw [nbits_vL]
       refine JL.nil ⟨(br_ h00), ?_⟩
       refine JH.takeG 27 rfl rfl rfl (by kernel_rfl) (by kernel_rfl) (by kernel_rfl) (fun _ _ _ _ hh => hh) (br_ h00) (RunV.leq rfl rfl) rfl ?_
       refine JH.take 28 rfl (by kernel_rfl) (by kernel_rfl) (by kernel_rfl) (fun _ _ _ _ hh => hh) (br_ h00) (RunV.pick_t rfl rfl) rfl ?_
       refine JH.take 29 rfl (by kernel_rfl) (by kernel_rfl) (by kernel_rfl) (fun _ _ _ _ hh => hh) (br_ h00) (RunV.move rfl) rfl ?_
       refine Bh 36 rfl (fun hc13 => ?_) fun hc13 => ?_
       ·
        refine JH.takeG 30 rfl rfl rfl (by kernel_rfl) (by kernel_rfl) (by kernel_rfl) (fun _ _ _ _ hh => hh) (br_ h00) (by first | exact RunV.fieldAt0 fo_32_2 rfl | exact RunV.fieldAt fo_32_2 rfl) rfl ?_
        refine JH.takeG 31 rfl rfl rfl (by kernel_rfl) (by kernel_rfl) (by kernel_rfl) (fun _ _ _ _ hh => hh) (br_ h00) (RunV.own1 ag_30 rfl mm_ rfl) rfl ?_
        refine JH.takeG 32 rfl rfl rfl (by kernel_rfl) (by kernel_rfl) (by kernel_rfl) (fun _ _ _ _ hh => hh) (br_ h00) z49_ rfl ?_
        refine JH.takeG 33 rfl rfl rfl (by kernel_rfl) (by kernel_rfl) (by kernel_rfl) (fun _ _ _ _ hh => hh) (br_ h00) (RunV.own1 ag_30 rfl mm_ rfl) rfl ?_
        refine JH.all1 34 (by kernel_rfl) rfl ?_
        unfold One
        refine JL.callRg rfl rfl  ca_49 rfl (rcmp_fn (by assumption) (by assumption) (by omega) (by omega)) rfl ?_
        rintro _ h14 hle14 rfl
        replace hn := hn.mono hle14
        replace hx := hx.mono hle14
        replace hd := hd.mono hle14
        replace hh0 := hh0.mono hle14
        replace hO1 := hO1.mono hle14
        refine JL.nil ⟨(br_ h00), ?_⟩
        refine JH.takeG 35 rfl rfl rfl (by kernel_rfl) (by kernel_rfl) (by kernel_rfl) (fun _ _ _ _ hh => hh) (br_ h00) (RunV.eql rfl rfl) rfl ?_
        refine JH.take 36 rfl (by kernel_rfl) (by kernel_rfl) (by kernel_rfl) (fun _ _ _ _ hh => hh) (br_ h00) (RunV.pick_t rfl rfl) rfl ?_
        refine JH.take 37 rfl (by kernel_rfl) (by kernel_rfl) (by kernel_rfl) (fun _ _ _ _ hh => hh) (br_ h00) (RunV.assign rfl) rfl ?_
        refine JH.done (by kernel_rfl) ?_
        refine Kp [2] rfl ?_
        exact J.retR (RetV.one rfl rfl) (congrArg Value.bool z25_)
       refine JH.skip 30 rfl rfl rfl (by kernel_rfl) (by kernel_rfl) (by kernel_rfl) (fun _ _ _ _ hh => hh) (br_ h00) rfl ?_
       refine JH.skip 31 rfl rfl rfl (by kernel_rfl) (by kernel_rfl) (by kernel_rfl) (fun _ _ _ _ hh => hh) (br_ h00) rfl ?_
       refine JH.skip 32 rfl rfl rfl (by kernel_rfl) (by kernel_rfl) (by kernel_rfl) (fun _ _ _ _ hh => hh) (br_ h00) rfl ?_
       refine JH.skip 33 rfl rfl rfl (by kernel_rfl) (by kernel_rfl) (by kernel_rfl) (fun _ _ _ _ hh => hh) (br_ h00) rfl ?_
       refine JH.all1 34 (by kernel_rfl) rfl ?_
       unfold One
       refine JL.skip rfl rfl rfl ?_
       refine JL.nil ⟨(br_ h00), ?_⟩
       refine JH.skip 35 rfl rfl rfl (by kernel_rfl) (by kernel_rfl) (by kernel_rfl) (fun _ _ _ _ hh => hh) (br_ h00) rfl ?_
       refine JH.take 36 rfl (by kernel_rfl) (by kernel_rfl) (by kernel_rfl) (fun _ _ _ _ hh => hh) (br_ h00) (RunV.pick_f rfl rfl) rfl ?_
       refine JH.take 37 rfl (by kernel_rfl) (by kernel_rfl) (by kernel_rfl) (fun _ _ _ _ hh => hh) (br_ h00) (RunV.assign rfl) rfl ?_
       refine JH.done (by kernel_rfl) ?_
       refine Kp [2] rfl ?_
       exact J.retR (RetV.one rfl rfl) (congrArg Value.bool z25_)
      refine JH.skip 24 rfl rfl rfl (by kernel_rfl) (by kernel_rfl) (by kernel_rfl) (fun _ _ _ _ hh => hh) (br_ h00) rfl ?_
      refine JH.skip 25 rfl rfl rfl (by kernel_rfl) (by kernel_rfl) (by kernel_rfl) (fun _ _ _ _ hh => hh) (br_ h00) rfl ?_
      refine JH.all1 26 (by kernel_rfl) rfl ?_
      unfold One
      refine JL.skip rfl rfl rfl ?_
      refine JL.nil ⟨(br_ h00), ?_⟩
      refine JH.skip 27 rfl rfl rfl (by kernel_rfl) (by kernel_rfl) (by kernel_rfl) (fun _ _ _ _ hh => hh) (br_ h00) rfl ?_
      refine JH.take 28 rfl (by kernel_rfl) (by kernel_rfl) (by kernel_rfl) (fun _ _ _ _ hh => hh) (br_ h00) (RunV.pick_f rfl rfl) rfl ?_
      refine JH.take 29 rfl (by kernel_rfl) (by kernel_rfl) (by kernel_rfl) (fun _ _ _ _ hh => hh) (br_ h00) (RunV.move rfl) rfl ?_
      refine JH.skip 30 rfl rfl rfl (by kernel_rfl) (by kernel_rfl) (by kernel_rfl) (fun _ _ _ _ hh => hh) (br_ h00) rfl ?_
      refine JH.skip 31 rfl rfl rfl (by kernel_rfl) (by kernel_rfl) (by kernel_rfl) (fun _ _ _ _ hh => hh) (br_ h00) rfl ?_
      refine JH.skip 32 rfl rfl rfl (by kernel_rfl) (by kernel_rfl) (by kernel_rfl) (fun _ _ _ _ hh => hh) (br_ h00) rfl ?_
      refine JH.skip 33 rfl rfl rfl (by kernel_rfl) (by kernel_rfl) (by kernel_rfl) (fun _ _ _ _ hh => hh) (br_ h00) rfl ?_
      refine JH.all1 34 (by kernel_rfl) rfl ?_
      unfold One
      refine JL.skip rfl rfl rfl ?_
      refine JL.nil ⟨(br_ h00), ?_⟩
      refine JH.skip 35 rfl rfl rfl (by kernel_rfl) (by kernel_rfl) (by kernel_rfl) (fun _ _ _ _ hh => hh) (br_ h00) rfl ?_
      refine JH.take 36 rfl (by kernel_rfl) (by kernel_rfl) (by kernel_rfl) (fun _ _ _ _ hh => hh) (br_ h00) (RunV.pick_f rfl rfl) rfl ?_
      refine JH.take 37 rfl (by kernel_rfl) (by kernel_rfl) (by kernel_rfl) (fun _ _ _ _ hh => hh) (br_ h00) (RunV.assign rfl) rfl ?_
      refine JH.done (by kernel_rfl) ?_
      refine Kp [2] rfl ?_
      exact J.retR (RetV.one rfl rfl) (congrArg Value.bool z25_)
     refine JH.skip 17 rfl rfl rfl (by kernel_rfl) (by kernel_rfl) (by kernel_rfl) (fun _ _ _ _ hh => hh) (br_ h00) rfl ?_
     refine JH.skip 18 rfl rfl rfl (by kernel_rfl) (by kernel_rfl) (by kernel_rfl) (fun _ _ _ _ hh => hh) (br_ h00) rfl ?_
     refine JH.all1 19 (by kernel_rfl) rfl ?_
     unfold One
     refine JL.skip rfl rfl rfl ?_
     refine JL.nil ⟨(br_ h00), ?_⟩
     refine JH.all1 20 (by kernel_rfl) rfl ?_
     unfold One
     refine JL.skip rfl rfl rfl ?_
     refine JL.nil ⟨(br_ h00), ?_⟩
     refine JH.skip 21 rfl rfl rfl (by kernel_rfl) (by kernel_rfl) (by kernel_rfl) (fun _ _ _ _ hh => hh) (br_ h00) rfl ?_
     refine JH.take 22 rfl (by kernel_rfl) (by kernel_rfl) (by kernel_rfl) (fun _ _ _ _ hh => hh) (br_ h00) (RunV.pick_f rfl rfl) rfl ?_
     refine JH.take 23 rfl (by kernel_rfl) (by kernel_rfl) (by kernel_rfl) (fun _ _ _ _ hh => hh) (br_ h00) (RunV.move rfl) rfl ?_
     refine JH.skip 24 rfl rfl rfl (by kernel_rfl) (by kernel_rfl) (by kernel_rfl) (fun _ _ _ _ hh => hh) (br_ h00) rfl ?_
     refine JH.skip 25 rfl rfl rfl (by kernel_rfl) (by kernel_rfl) (by kernel_rfl) (fun _ _ _ _ hh => hh) (br_ h00) rfl ?_
     refine JH.all1 26 (by kernel_rfl) rfl ?_
     unfold One
     refine JL.skip rfl rfl rfl ?_
     refine JL.nil ⟨(br_ h00), ?_⟩
     refine JH.skip 27 rfl rfl rfl (by kernel_rfl) (by kernel_rfl) (by kernel_rfl) (fun _ _ _ _ hh => hh) (br_ h00) rfl ?_
     refine JH.take 28 rfl (by kernel_rfl) (by kernel_rfl) (by kernel_rfl) (fun _ _ _ _ hh => hh) (br_ h00) (RunV.pick_f rfl rfl) rfl ?_
     refine JH.take 29 rfl (by kernel_rfl) (by kernel_rfl) (by kernel_rfl) (fun _ _ _ _ hh => hh) (br_ h00) (RunV.move rfl) rfl ?_
     refine JH.skip 30 rfl rfl rfl (by kernel_rfl) (by kernel_rfl) (by kernel_rfl) (fun _ _ _ _ hh => hh) (br_ h00) rfl ?_
     refine JH.skip 31 rfl rfl rfl (by kernel_rfl) (by kernel_rfl) (by kernel_rfl) (fun _ _ _ _ hh => hh) (br_ h00) rfl ?_
     refine JH.skip 32 rfl rfl rfl (by kernel_rfl) (by kernel_rfl) (by kernel_rfl) (fun _ _ _ _ hh => hh) (br_ h00) rfl ?_
     refine JH.skip 33 rfl rfl rfl (by kernel_rfl) (by kernel_rfl) (by kernel_rfl) (fun _ _ _ _ hh => hh) (br_ h00) rfl ?_
     refine JH.all1 34 (by kernel_rfl) rfl ?_
     unfold One
     refine JL.skip rfl rfl rfl ?_
     refine JL.nil ⟨(br_ h00), ?_⟩
     refine JH.skip 35 rfl rfl rfl (by kernel_rfl) (by kernel_rfl) (by kernel_rfl) (fun _ _ _ _ hh => hh) (br_ h00) rfl ?_
     refine JH.take 36 rfl (by kernel_rfl) (by kernel_rfl) (by kernel_rfl) (fun _ _ _ _ hh => hh) (br_ h00) (RunV.pick_f rfl rfl) rfl ?_
     refine JH.take 37 rfl (by kernel_rfl) (by kernel_rfl) (by kernel_rfl) (fun _ _ _ _ hh => hh) (br_ h00) (RunV.assign rfl) rfl ?_
     refine JH.done (by kernel_rfl) ?_
     refine Kp [2] rfl ?_
     exact J.retR (RetV.one rfl rfl) (congrArg Value.bool z25_)
    refine JH.skip 12 rfl rfl rfl (by kernel_rfl) (by kernel_rfl) (by kernel_rfl) (fun _ _ _ _ hh => hh) (br_ h00) rfl ?_
    refine JH.skip 13 rfl rfl rfl (by kernel_rfl) (by kernel_rfl) (by kernel_rfl) (fun _ _ _ _ hh => hh) (br_ h00) rfl ?_
    refine JH.all1 14 (by kernel_rfl) rfl ?_
    unfold One
    refine JL.skip rfl rfl rfl ?_
    refine JL.nil ⟨(br_ h00), ?_⟩
    refine JH.take 15 rfl (by kernel_rfl) (by kernel_rfl) (by kernel_rfl) (fun _ _ _ _ hh => hh) (br_ h00) (RunV.pick_f rfl rfl) rfl ?_
    refine JH.take 16 rfl (by kernel_rfl) (by kernel_rfl) (by kernel_rfl) (fun _ _ _ _ hh => hh) (br_ h00) (RunV.move rfl) rfl ?_
    refine JH.skip 17 rfl rfl rfl (by kernel_rfl) (by kernel_rfl) (by kernel_rfl) (fun _ _ _ _ hh => hh) (br_ h00) rfl ?_
    refine JH.skip 18 rfl rfl rfl (by kernel_rfl) (by kernel_rfl) (by kernel_rfl) (fun _ _ _ _ hh => hh) (br_ h00) rfl ?_
    refine JH.all1 19 (by kernel_rfl) rfl ?_
    unfold One
    refine JL.skip rfl rfl rfl ?_
    refine JL.nil ⟨(br_ h00), ?_⟩
    refine JH.all1 20 (by kernel_rfl) rfl ?_
    unfold One
    refine JL.skip rfl rfl rfl ?_
    refine JL.nil ⟨(br_ h00), ?_⟩
    refine JH.skip 21 rfl rfl rfl (by kernel_rfl) (by kernel_rfl) (by kernel_rfl) (fun _ _ _ _ hh => hh) (br_ h00) rfl ?_
    refine JH.take 22 rfl (by kernel_rfl) (by kernel_rfl) (by kernel_rfl) (fun _ _ _ _ hh => hh) (br_ h00) (RunV.pick_f rfl rfl) rfl ?_
    refine JH.take 23 rfl (by kernel_rfl) (by kernel_rfl) (by kernel_rfl) (fun _ _ _ _ hh => hh) (br_ h00) (RunV.move rfl) rfl ?_
    refine JH.skip 24 rfl rfl rfl (by kernel_rfl) (by kernel_rfl) (by kernel_rfl) (fun _ _ _ _ hh => hh) (br_ h00) rfl ?_
    refine JH.skip 25 rfl rfl rfl (by kernel_rfl) (by kernel_rfl) (by kernel_rfl) (fun _ _ _ _ hh => hh) (br_ h00) rfl ?_
    refine JH.all1 26 (by kernel_rfl) rfl ?_
    unfold One
    refine JL.skip rfl rfl rfl ?_
    refine JL.nil ⟨(br_ h00), ?_⟩
    refine JH.skip 27 rfl rfl rfl (by kernel_rfl) (by kernel_rfl) (by kernel_rfl) (fun _ _ _ _ hh => hh) (br_ h00) rfl ?_
    refine JH.take 28 rfl (by kernel_rfl) (by kernel_rfl) (by kernel_rfl) (fun _ _ _ _ hh => hh) (br_ h00) (RunV.pick_f rfl rfl) rfl ?_
    refine JH.take 29 rfl (by kernel_rfl) (by kernel_rfl) (by kernel_rfl) (fun _ _ _ _ hh => hh) (br_ h00) (RunV.move rfl) rfl ?_
    refine JH.skip 30 rfl rfl rfl (by kernel_rfl) (by kernel_rfl) (by kernel_rfl) (fun _ _ _ _ hh => hh) (br_ h00) rfl ?_
    refine JH.skip 31 rfl rfl rfl (by kernel_rfl) (by kernel_rfl) (by kernel_rfl) (fun _ _ _ _ hh => hh) (br_ h00) rfl ?_
    refine JH.skip 32 rfl rfl rfl (by kernel_rfl) (by kernel_rfl) (by kernel_rfl) (fun _ _ _ _ hh => hh) (br_ h00) rfl ?_
    refine JH.skip 33 rfl rfl rfl (by kernel_rfl) (by kernel_rfl) (by kernel_rfl) (fun _ _ _ _ hh => hh) (br_ h00) rfl ?_
    refine JH.all1 34 (by kernel_rfl) rfl ?_
    unfold One
    refine JL.skip rfl rfl rfl ?_
    refine JL.nil ⟨(br_ h00), ?_⟩
    refine JH.skip 35 rfl rfl rfl (by kernel_rfl) (by kernel_rfl) (by kernel_rfl) (fun _ _ _ _ hh => hh) (br_ h00) rfl ?_
    refine JH.take 36 rfl (by kernel_rfl) (by kernel_rfl) (by kernel_rfl) (fun _ _ _ _ hh => hh) (br_ h00) (RunV.pick_f rfl rfl) rfl ?_
    refine JH.take 37 rfl (by kernel_rfl) (by kernel_rfl) (by kernel_rfl) (fun _ _ _ _ hh => hh) (br_ h00) (RunV.assign rfl) rfl ?_
    refine JH.done (by kernel_rfl) ?_
    refine Kp [2] rfl ?_
    exact J.retR (RetV.one rfl rfl) (congrArg Value.bool z25_)
   refine JH.skip 8 rfl rfl rfl (by kernel_rfl) (by kernel_rfl) (by kernel_rfl) (fun _ _ _ _ hh => hh) (br_ h00) rfl ?_
   refine JH.skip 9 rfl rfl rfl (by kernel_rfl) (by kernel_rfl) (by kernel_rfl) (fun _ _ _ _ hh => hh) (br_ h00) rfl ?_
   refine JH.take 10 rfl (by kernel_rfl) (by kernel_rfl) (by kernel_rfl) (fun _ _ _ _ hh => hh) (br_ h00) (RunV.pick_f rfl rfl) rfl ?_
   refine JH.take 11 rfl (by kernel_rfl) (by kernel_rfl) (by kernel_rfl) (fun _ _ _ _ hh => hh) (br_ h00) (RunV.move rfl) rfl ?_
   refine JH.skip 12 rfl rfl rfl (by kernel_rfl) (by kernel_rfl) (by kernel_rfl) (fun _ _ _ _ hh => hh) (br_ h00) rfl ?_
   refine JH.skip 13 rfl rfl rfl (by kernel_rfl) (by kernel_rfl) (by kernel_rfl) (fun _ _ _ _ hh => hh) (br_ h00) rfl ?_
   refine JH.all1 14 (by kernel_rfl) rfl ?_
   unfold One
   refine JL.skip rfl rfl rfl ?_
   refine JL.nil ⟨(br_ h00), ?_⟩
   refine JH.take 15 rfl (by kernel_rfl) (by kernel_rfl) (by kernel_rfl) (fun _ _ _ _ hh => hh) (br_ h00) (RunV.pick_f rfl rfl) rfl ?_
   refine JH.take 16 rfl (by kernel_rfl) (by kernel_rfl) (by kernel_rfl) (fun _ _ _ _ hh => hh) (br_ h00) (RunV.move rfl) rfl ?_
   refine JH.skip 17 rfl rfl rfl (by kernel_rfl) (by kernel_rfl) (by kernel_rfl) (fun _ _ _ _ hh => hh) (br_ h00) rfl ?_
   refine JH.skip 18 rfl rfl rfl (by kernel_rfl) (by kernel_rfl) (by kernel_rfl) (fun _ _ _ _ hh => hh) (br_ h00) rfl ?_
   refine JH.all1 19 (by kernel_rfl) rfl ?_
   unfold One
   refine JL.skip rfl rfl rfl ?_
   refine JL.nil ⟨(br_ h00), ?_⟩
   refine JH.all1 20 (by kernel_rfl) rfl ?_
   unfold One
   refine JL.skip rfl rfl rfl ?_
   refine JL.nil ⟨(br_ h00), ?_⟩
   refine JH.skip 21 rfl rfl rfl (by kernel_rfl) (by kernel_rfl) (by kernel_rfl) (fun _ _ _ _ hh => hh) (br_ h00) rfl ?_
   refine JH.take 22 rfl (by kernel_rfl) (by kernel_rfl) (by kernel_rfl) (fun _ _ _ _ hh => hh) (br_ h00) (RunV.pick_f rfl rfl) rfl ?_
   refine JH.take 23 rfl (by kernel_rfl) (by kernel_rfl) (by kernel_rfl) (fun _ _ _ _ hh => hh) (br_ h00) (RunV.move rfl) rfl ?_
   refine JH.skip 24 rfl rfl rfl (by kernel_rfl) (by kernel_rfl) (by kernel_rfl) (fun _ _ _ _ hh => hh) (br_ h00) rfl ?_
   refine JH.skip 25 rfl rfl rfl (by kernel_rfl) (by kernel_rfl) (by kernel_rfl) (fun _ _ _ _ hh => hh) (br_ h00) rfl ?_
   refine JH.all1 26 (by kernel_rfl) rfl ?_
   unfold One
   refine JL.skip rfl rfl rfl ?_
   refine JL.nil ⟨(br_ h00), ?_⟩
   refine JH.skip 27 rfl rfl rfl (by kernel_rfl) (by kernel_rfl) (by kernel_rfl) (fun _ _ _ _ hh => hh) (br_ h00) rfl ?_
   refine JH.take 28 rfl (by kernel_rfl) (by kernel_rfl) (by kernel_rfl) (fun _ _ _ _ hh => hh) (br_ h00) (RunV.pick_f rfl rfl) rfl ?_
   refine JH.take 29 rfl (by kernel_rfl) (by kernel_rfl) (by kernel_rfl) (fun _ _ _ _ hh => hh) (br_ h00) (RunV.move rfl) rfl ?_
   refine JH.skip 30 rfl rfl rfl (by kernel_rfl) (by kernel_rfl) (by kernel_rfl) (fun _ _ _ _ hh => hh) (br_ h00) rfl ?_
   refine JH.skip 31 rfl rfl rfl (by kernel_rfl) (by kernel_rfl) (by kernel_rfl) (fun _ _ _ _ hh => hh) (br_ h00) rfl ?_
   refine JH.skip 32 rfl rfl rfl (by kernel_rfl) (by kernel_rfl) (by kernel_rfl) (fun _ _ _ _ hh => hh) (br_ h00) rfl ?_
   refine JH.skip 33 rfl rfl rfl (by kernel_rfl) (by kernel_rfl) (by kernel_rfl) (fun _ _ _ _ hh => hh) (br_ h00) rfl ?_
   refine JH.all1 34 (by kernel_rfl) rfl ?_
   unfold One
   refine JL.skip rfl rfl rfl ?_
   refine JL.nil ⟨(br_ h00), ?_⟩
   refine JH.skip 35 rfl rfl rfl (by kernel_rfl) (by kernel_rfl) (by kernel_rfl) (fun _ _ _ _ hh => hh) (br_ h00) rfl ?_
   refine JH.take 36 rfl (by kernel_rfl) (by kernel_rfl) (by kernel_rfl) (fun _ _ _ _ hh => hh) (br_ h00) (RunV.pick_f rfl rfl) rfl ?_
   refine JH.take 37 rfl (by kernel_rfl) (by kernel_rfl) (by kernel_rfl) (fun _ _ _ _ hh => hh) (br_ h00) (RunV.assign rfl) rfl ?_
   refine JH.done (by kernel_rfl) ?_
   refine Kp [2] rfl ?_
   exact J.retR (RetV.one rfl rfl) (congrArg Value.bool z25_)
  refine JH.skip 4 rfl rfl rfl (by kernel_rfl) (by kernel_rfl) (by kernel_rfl) (fun _ _ _ _ hh => hh) (br_ h00) rfl ?_
  refine JH.skip 5 rfl rfl rfl (by kernel_rfl) (by kernel_rfl) (by kernel_rfl) (fun _ _ _ _ hh => hh) (br_ h00) rfl ?_
  refine JH.take 6 rfl (by kernel_rfl) (by kernel_rfl) (by kernel_rfl) (fun _ _ _ _ hh => hh) (br_ h00) (RunV.pick_f rfl rfl) rfl ?_
  refine JH.take 7 rfl (by kernel_rfl) (by kernel_rfl) (by kernel_rfl) (fun _ _ _ _ hh => hh) (br_ h00) (RunV.move rfl) rfl ?_
  refine JH.skip 8 rfl rfl rfl (by kernel_rfl) (by kernel_rfl) (by kernel_rfl) (fun _ _ _ _ hh => hh) (br_ h00) rfl ?_
  refine JH.skip 9 rfl rfl rfl (by kernel_rfl) (by kernel_rfl) (by kernel_rfl) (fun _ _ _ _ hh => hh) (br_ h00) rfl ?_
  refine JH.take 10 rfl (by kernel_rfl) (by kernel_rfl) (by kernel_rfl) (fun _ _ _ _ hh => hh) (br_ h00) (RunV.pick_f rfl rfl) rfl ?_
  refine JH.take 11 rfl (by kernel_rfl) (by kernel_rfl) (by kernel_rfl) (fun _ _ _ _ hh => hh) (br_ h00) (RunV.move rfl) rfl ?_
  refine JH.skip 12 rfl rfl rfl (by kernel_rfl) (by kernel_rfl) (by kernel_rfl) (fun _ _ _ _ hh => hh) (br_ h00) rfl ?_
  refine JH.skip 13 rfl rfl rfl (by kernel_rfl) (by kernel_rfl) (by kernel_rfl) (fun _ _ _ _ hh => hh) (br_ h00) rfl ?_
  refine JH.all1 14 (by kernel_rfl) rfl ?_
  unfold One
  refine JL.skip rfl rfl rfl ?_
  refine JL.nil ⟨(br_ h00), ?_⟩
  refine JH.take 15 rfl (by kernel_rfl) (by kernel_rfl) (by kernel_rfl) (fun _ _ _ _ hh => hh) (br_ h00) (RunV.pick_f rfl rfl) rfl ?_
  refine JH.take 16 rfl (by kernel_rfl) (by kernel_rfl) (by kernel_rfl) (fun _ _ _ _ hh => hh) (br_ h00) (RunV.move rfl) rfl ?_
  refine JH.skip 17 rfl rfl rfl (by kernel_rfl) (by kernel_rfl) (by kernel_rfl) (fun _ _ _ _ hh => hh) (br_ h00) rfl ?_
  refine JH.skip 18 rfl rfl rfl (by kernel_rfl) (by kernel_rfl) (by kernel_rfl) (fun _ _ _ _ hh => hh) (br_ h00) rfl ?_
  refine JH.all1 19 (by kernel_rfl) rfl ?_
  unfold One
  refine JL.skip rfl rfl rfl ?_
  refine JL.nil ⟨(br_ h00), ?_⟩
  refine JH.all1 20 (by kernel_rfl) rfl ?_
  unfold One
  refine JL.skip rfl rfl rfl ?_
  refine JL.nil ⟨(br_ h00), ?_⟩
  refine JH.skip 21 rfl rfl rfl (by kernel_rfl) (by kernel_rfl) (by kernel_rfl) (fun _ _ _ _ hh => hh) (br_ h00) rfl ?_
  refine JH.take 22 rfl (by kernel_rfl) (by kernel_rfl) (by kernel_rfl) (fun _ _ _ _ hh => hh) (br_ h00) (RunV.pick_f rfl rfl) rfl ?_
  refine JH.take 23 rfl (by kernel_rfl) (by kernel_rfl) (by kernel_rfl) (fun _ _ _ _ hh => hh) (br_ h00) (RunV.move rfl) rfl ?_
  refine JH.skip 24 rfl rfl rfl (by kernel_rfl) (by kernel_rfl) (by kernel_rfl) (fun _ _ _ _ hh => hh) (br_ h00) rfl ?_
  refine JH.skip 25 rfl rfl rfl (by kernel_rfl) (by kernel_rfl) (by kernel_rfl) (fun _ _ _ _ hh => hh) (br_ h00) rfl ?_
  refine JH.all1 26 (by kernel_rfl) rfl ?_
  unfold One
  refine JL.skip rfl rfl rfl ?_
  refine JL.nil ⟨(br_ h00), ?_⟩
  refine JH.skip 27 rfl rfl rfl (by kernel_rfl) (by kernel_rfl) (by kernel_rfl) (fun _ _ _ _ hh => hh) (br_ h00) rfl ?_
  refine JH.take 28 rfl (by kernel_rfl) (by kernel_rfl) (by kernel_rfl) (fun _ _ _ _ hh => hh) (br_ h00) (RunV.pick_f rfl rfl) rfl ?_
  refine JH.take 29 rfl (by kernel_rfl) (by kernel_rfl) (by kernel_rfl) (fun _ _ _ _ hh => hh) (br_ h00) (RunV.move rfl) rfl ?_
  refine JH.skip 30 rfl rfl rfl (by kernel_rfl) (by kernel_rfl) (by kernel_rfl) (fun _ _ _ _ hh => hh) (br_ h00) rfl ?_
  refine JH.skip 31 rfl rfl rfl (by kernel_rfl) (by kernel_rfl) (by kernel_rfl) (fun _ _ _ _ hh => hh) (br_ h00) rfl ?_
  refine JH.skip 32 rfl rfl rfl (by kernel_rfl) (by kernel_rfl) (by kernel_rfl) (fun _ _ _ _ hh => hh) (br_ h00) rfl ?_
  refine JH.skip 33 rfl rfl rfl (by kernel_rfl) (by kernel_rfl) (by kernel_rfl) (fun _ _ _ _ hh => hh) (br_ h00) rfl ?_
  refine JH.all1 34 (by kernel_rfl) rfl ?_
  unfold One
  refine JL.skip rfl rfl rfl ?_
  refine JL.nil ⟨(br_ h00), ?_⟩
  refine JH.skip 35 rfl rfl rfl (by kernel_rfl) (by kernel_rfl) (by kernel_rfl) (fun _ _ _ _ hh => hh) (br_ h00) rfl ?_
  refine JH.take 36 rfl (by kernel_rfl) (by kernel_rfl) (by kernel_rfl) (fun _ _ _ _ hh => hh) (br_ h00) (RunV.pick_f rfl rfl) rfl ?_
  refine JH.take 37 rfl (by kernel_rfl) (by kernel_rfl) (by kernel_rfl) (fun _ _ _ _ hh => hh) (br_ h00) (RunV.assign rfl) rfl ?_
  refine JH.done (by kernel_rfl) ?_
  refine Kp [2] rfl ?_
  exact J.retR (RetV.one rfl rfl) (congrArg Value.bool z25_)
end Go.Proofs.YtmngjbefnloljaaGreatDoor
namespace Go.Proofs.YtmngjbefnloljaaGreatDoor
open Go Go.RowKit
set_option maxRecDepth 100000
theorem ag_32 : aggT Tryz.prog 32 = some (some 3) := by kernel_rfl
theorem ap_62 : apT Tryz.prog 62 = some (61, 2, 16) := by kernel_rfl
theorem ar_61 : arT Tryz.prog 61 = some (2, 1) := by kernel_rfl
theorem az_61 : arZ Tryz.prog 61 = some ([.int .i64 0, .int .i64 0], 1) := by kernel_rfl
theorem ca_50 : callT Tryz.prog 50 = true := by kernel_rfl
theorem ca_51 : callT Tryz.prog 51 = true := by kernel_rfl
theorem ca_52 : callT Tryz.prog 52 = true := by kernel_rfl
theorem ca_54 : callT Tryz.prog 54 = true := by kernel_rfl
theorem ca_93 : callT Tryz.prog 93 = true := by kernel_rfl
theorem cv_3_103 : convI Tryz.prog 3 103 = some .u32 := by kernel_rfl
theorem pl_32 : plT Tryz.prog 32 = some ([.slice none 0 0, .slice none 0 0, .slice none 0 0], [(0, 1), (1, 1), (2, 1)]) := by kernel_rfl
theorem sl_62 : slT Tryz.prog 62 = some (61, 2) := by kernel_rfl
theorem zr_32 : zeroT Tryz.prog 32 = some [.slice none 0 0, .slice none 0 0, .slice none 0 0] := by kernel_rfl
section
variable {f : Fr} {n : Post} {x : Nat → Post} {S : Sig} {h : Part} {L : List Ent} {ops : Array Oper} {l0 : List Oper}
theorem JL.rowsome {a : Option Addr} {c t sz m : Nat} {xs : List Value} (hm : Ent.row a c t sz m xs ∈ L) (h0 : 0 < m) (k : ∀ g, a = some ⟨g, 0, none⟩ → JL f ops n x l0 S h L) : JL f ops n x l0 S h L := fun ac w s => by
  obtain ⟨g, hg⟩ := s.ok.row_some hm h0
  exact k g hg ac w s
end
theorem cells_ws {h : Part} {xs : List Value} {l : List UInt32} (hC : CellsR u32R 1 h xs l) : xs = ws .u32 l := by
  apply List.ext_getElem?
  intro i
  rcases Nat.lt_or_ge i l.length with hi | hi
  · have := hC.2 i l[i] (List.getElem?_eq_getElem hi)
    unfold u32R at this
    rw [Nat.mul_one, List.take_one, List.head?_drop] at this
    rw [ws_at _ _ _ hi, d32_get l i hi]
    cases hx : xs[i]? with
    | none => rw [hx] at this; simp at this
    | some v => rw [hx] at this; simpa using this
  · have h1 := hC.1
    rw [List.getElem?_eq_none (by rw [h1]; omega), List.getElem?_eq_none (by rw [ws_len]; exact hi)]
def belowL (n k : Nat) : List UInt32 := (List.replicate (n / 32) 4294967295 ++ (if 0 < n % 32 then [UInt32.ofNat (2 ^ (n % 32) - 1)] else [])).set 0 (UInt32.ofNat (4294967296 - k))
theorem rbelow_fn {n k : Nat} {h : Part} (hn : 32 ≤ n) (hn2 : n ≤ 100000) (hk : 1 ≤ k) (hk2 : k < 4294967296) : FnR Tryz.prog 93 [.int .i64 n, .int .u32 k] h (fun v h' => ∃ a c, v = .slice a (belowL n k).length c ∧ SlR u32R 1 h' a c (belowL n k)) := by
  refine Fn.intro Tryz.func93 rfl Tryz.ntmps93 rfl (fun e he => ?_)
  refine J.weak [(0, _), (1, _)] ⟨rfl, rfl, trivial⟩ ?_
  have hh0 := Part.le.refl h
  refine Sr ?_
  refine Ru 1 rfl ?_
  refine JL.nil ?_
  refine Sr ?_
  refine Ru 1 rfl ?_
  refine JL.nil ?_
  refine J.seq ?_
  refine Sr ?_
  refine JL.row_nil 103 1 ?_
  refine Ru 1 rfl ?_
  refine JL.nil ?_
  refine J.block ?_
  refine J.loop (fun t_ S_ h_ L_ => ∃ (i : Nat) (ao : Option Addr) (co : Nat) (xs : List Value), t_ = n / 32 - i ∧ S_ = [(0, .int .i64 n), (1, .int .u32 k), (5, .slice ao (List.replicate i (4294967295 : UInt32)).length co), (6, .int .i64 i)] ∧ h = h_ ∧ L_ = [.row ao co 103 1 (List.replicate i (4294967295 : UInt32)).length xs] ∧ (i ≤ n / 32 ∧ CellsR u32R 1 h xs (List.replicate i 4294967295))) ⟨_, _, ?_, ⟨0, _, _, _, rfl, rfl, rfl, rfl, ⟨by omega, CellsR.nil⟩⟩⟩ ?_
  ·
   exact z4_
  rintro _ _ _ _ ⟨i, ao, co, xs, rfl, rfl, rfl, rfl, hi, hC⟩
  refine J.seq ?_
  refine Sr ?_
  refine Ru 2 rfl ?_
  refine JL.op z14_ rfl ?_
  refine Ru 1 rfl ?_
  refine JL.nil ?_
  refine Cs rfl (fun hc1 => ?_) fun hc1 => ?_
  ·
   have hlr : (List.replicate i (4294967295 : UInt32)).length = i := List.length_replicate; have hke : List.replicate i (4294967295 : UInt32) ++ [4294967295] = List.replicate (i + 1) 4294967295 := List.replicate_succ'.symm
   refine J.skip ?_
   refine J.seq ?_
   refine J.block ?_
   refine Rg ?_
   refine Ru 1 rfl ?_
   refine JL.lit1 ap_30 zr_103 rfl rfl rfl rfl rfl (fun b2 => ?_)
   refine JL.append1 ap_30 rfl rfl (by assumption) rfl dl_ dl_ rfl ((by exact rfl : u32R _ [.int .u32 4294967295] (4294967295 : UInt32))) z5_ rfl rfl (fun a3 c3 xs3 hC3 hN3 => ?_)
   rw [hke] at *
   refine Ru 1 rfl ?_
   refine JL.nil ?_
   refine Rg ?_
   refine Ru 1 rfl ?_
   refine JL.op ai_ rfl ?_
   refine Ru 1 rfl ?_
   refine JL.nil ?_
   refine ⟨_, ?_, _, ?_, ⟨i + 1, _, _, _, rfl, rfl, rfl, rfl, ⟨by omega, by assumption⟩⟩⟩
   ·
    omega
   exact z4_
  have hie : i = n / 32 := (by omega); subst hie; have hlr : (List.replicate (n / 32) (4294967295 : UInt32)).length = n / 32 := List.length_replicate; have hp2 : (0 : Int) < ((2 ^ (n % 32) : Nat) : Int) := (by have := Nat.two_pow_pos (n % 32); omega); have hp3 : ((2 ^ (n % 32) : Nat) : Int) ≤ 2147483648 := (by have := Nat.pow_le_pow_right (show 0 < 2 by decide) (show n % 32 ≤ 31 by omega); omega)
  refine J.exit ?_
  refine Kp [0, 1, 5] rfl ?_
  refine J.seq ?_
  refine Sr ?_
  refine Ru 1 rfl ?_
  refine JL.op z23_ rfl ?_
  refine Ru 1 rfl ?_
  refine JL.nil ?_
  refine Cs rfl (fun hc4 => ?_) fun hc4 => ?_
  ·
   refine Rg ?_
   refine Ru 2 rfl ?_
   refine JL.op z23_ rfl ?_
   refine JL.op (RunV.toW (n % 32) cv_3_103 rfl (by omega)) rfl ?_
   refine JL.op (RunV.shl_u32 ((2 ^ (n % 32) : Nat) : Int) rfl rfl (by omega) (by omega) (by rw [show (((n % 32 % 4294967296 : Nat) : Int)).toNat = n % 32 by omega, Int.natCast_pow]; rfl) (by omega) (by omega)) rfl ?_
   rw [Int.one_mul]
   refine JL.op (by first | exact RunV.sub_u32 rfl rfl (by omega) (by omega) | exact RunV.sub rfl rfl) rfl ?_
   refine JL.lit1 ap_30 zr_103 rfl rfl rfl rfl rfl (fun b5 => ?_)
   refine JL.append1 ap_30 rfl rfl (by assumption) rfl dl_ dl_ rfl ((by show _ = _; have hp4 : 2 ^ (n % 32) ≤ 2147483648 := (by omega); have hp5 : 0 < 2 ^ (n % 32) := Nat.two_pow_pos _; rw [UInt32.toNat_ofNat', Nat.mod_eq_of_lt (show 2 ^ (n % 32) - 1 < 2 ^ 32 by omega), show (((2 ^ (n % 32) : Nat) : Int) - 1) = ((2 ^ (n % 32) - 1 : Nat) : Int) by omega] : u32R _ [.int .u32 (((2 ^ (n % 32) : Nat) : Int) - 1)] (UInt32.ofNat (2 ^ (n % 32) - 1)))) z5_ rfl rfl (fun a6 c6 xs6 hC6 hN6 => ?_)
   refine Ru 1 rfl ?_
   refine Nk [5, 1] rfl ?_
   refine Sr ?_
   obtain ⟨LL, hLL⟩ : ∃ LL, List.replicate (n / 32) (4294967295 : UInt32) ++ (if 0 < n % 32 then [UInt32.ofNat (2 ^ (n % 32) - 1)] else []) = LL := ⟨_, rfl⟩; have hBL : LL.set 0 (UInt32.ofNat (4294967296 - k)) = belowL n k := (by rw [← hLL]; rfl); have hBl : LL.length = (belowL n k).length := (by rw [← hBL, List.length_set]); have hL2 : LL.length ≤ 1000000 := (by rw [← hLL, List.length_append, hlr]; split <;> simp <;> omega); have hL1 : 0 < LL.length := (by rw [← hLL, List.length_append, hlr]; omega); have hL0 : d32 LL 0 = 4294967295 := (by rw [d32_get LL 0 hL1]; subst hLL; rw [List.getElem_append_left (by rw [hlr]; omega), List.getElem_replicate]; rfl); (first | (rw [if_pos (show 0 < n % 32 by omega)] at hLL) | (rw [if_neg (show ¬ 0 < n % 32 by omega), List.append_nil] at hLL)); have hlm := congrArg List.length hLL; have hCC : CellsR u32R 1 _ _ LL := (by first | exact hLL ▸ (by assumption : CellsR u32R 1 _ _ (List.replicate (n / 32) (4294967295 : UInt32) ++ [UInt32.ofNat (2 ^ (n % 32) - 1)])) | exact hLL ▸ hC); refine JL.rowsome mm_ (by rw [hlm]; exact hL1) (fun g hg => ?_); subst hg; have hxw := cells_ws (l := LL) hCC; subst hxw
   refine Ru 2 rfl ?_
   refine JL.op (RunV.index_at sl_30 (m := 0) rfl rfl rfl (by first | exact hL1 | (rw [hlm]; exact hL1))) rfl ?_
   refine JL.op (RunV.wload ag_103 rfl mm_ hL1) rfl ?_
   rw [hL0]
   refine Ru 1 rfl ?_
   refine JL.op (by first | exact RunV.sub_u32 rfl rfl (by omega) (by omega) | exact RunV.sub rfl rfl) rfl ?_
   refine JL.op (by first | exact RunV.add_u32 rfl rfl (by omega) (by omega) | exact RunV.add rfl rfl) rfl ?_
   refine JL.op (RunV.index_at sl_30 (m := 0) rfl rfl rfl (by first | exact hL1 | (rw [hlm]; exact hL1))) rfl ?_
   refine JL.storeW (4294967296 - k) ag_103 rfl rfl (by omega) dl_ hL1 ?_
   refine Nk [5] rfl ?_
   refine Sr ?_
   refine JL.pub32 dl_ (by rw [List.length_set]; exact hlm) (by rw [List.length_set]; omega) (fun h9 hle9 hP9 => ?_)
   refine Ru 2 rfl ?_
   refine JL.nil ?_
   rw [hBL] at hP9; rw [hlm, hBl]; exact J.retR (RetV.one rfl rfl) ⟨_, _, rfl, hP9⟩
  refine J.skip ?_
  refine Kp [1, 5] rfl ?_
  refine Sr ?_
  obtain ⟨LL, hLL⟩ : ∃ LL, List.replicate (n / 32) (4294967295 : UInt32) ++ (if 0 < n % 32 then [UInt32.ofNat (2 ^ (n % 32) - 1)] else []) = LL := ⟨_, rfl⟩; have hBL : LL.set 0 (UInt32.ofNat (4294967296 - k)) = belowL n k := (by rw [← hLL]; rfl); have hBl : LL.length = (belowL n k).length := (by rw [← hBL, List.length_set]); have hL2 : LL.length ≤ 1000000 := (by rw [← hLL, List.length_append, hlr]; split <;> simp <;> omega); have hL1 : 0 < LL.length := (by rw [← hLL, List.length_append, hlr]; omega); have hL0 : d32 LL 0 = 4294967295 := (by rw [d32_get LL 0 hL1]; subst hLL; rw [List.getElem_append_left (by rw [hlr]; omega), List.getElem_replicate]; rfl); (first | (rw [if_pos (show 0 < n % 32 by omega)] at hLL) | (rw [if_neg (show ¬ 0 < n % 32 by omega), List.append_nil] at hLL)); have hlm := congrArg List.length hLL; have hCC : CellsR u32R 1 _ _ LL := (by first | exact hLL ▸ (by assumption : CellsR u32R 1 _ _ (List.replicate (n / 32) (4294967295 : UInt32) ++ [UInt32.ofNat (2 ^ (n % 32) - 1)])) | exact hLL ▸ hC); refine JL.rowsome mm_ (by rw [hlm]; exact hL1) (fun g hg => ?_); subst hg; have hxw := cells_ws (l := LL) hCC; subst hxw
  refine Ru 2 rfl ?_
  refine JL.op (RunV.index_at sl_30 (m := 0) rfl rfl rfl (by first | exact hL1 | (rw [hlm]; exact hL1))) rfl ?_
  refine JL.op (RunV.wload ag_103 rfl mm_ hL1) rfl ?_
  rw [hL0]
  refine Ru 1 rfl ?_
  refine JL.op (by first | exact RunV.sub_u32 rfl rfl (by omega) (by omega) | exact RunV.sub rfl rfl) rfl ?_
  refine JL.op (by first | exact RunV.add_u32 rfl rfl (by omega) (by omega) | exact RunV.add rfl rfl) rfl ?_
  refine JL.op (RunV.index_at sl_30 (m := 0) rfl rfl rfl (by first | exact hL1 | (rw [hlm]; exact hL1))) rfl ?_
  refine JL.storeW (4294967296 - k) ag_103 rfl rfl (by omega) dl_ hL1 ?_
  refine Nk [5] rfl ?_
  refine Sr ?_
  refine JL.pub32 dl_ (by rw [List.length_set]; exact hlm) (by rw [List.length_set]; omega) (fun h9 hle9 hP9 => ?_)
  refine Ru 2 rfl ?_
  refine JL.nil ?_
  rw [hBL] at hP9; rw [hlm, hBl]; exact J.retR (RetV.one rfl rfl) ⟨_, _, rfl, hP9⟩
def primeL : Nat → List UInt32
  | 0 => belowL 256 189
  | 1 => belowL 255 19
  | 2 => belowL 256 357
  | 3 => belowL 255 31
  | 4 => belowL 257 93
  | _ => belowL 521 1
theorem primeL_len : ∀ i, (primeL i).length ≤ 20 := fun i => by
  unfold primeL; split <;> decide
theorem rprimes_fn {k : Int} {h : Part} (h0 : -9223372036854775808 ≤ k) (h1 : k ≤ 9223372036854775807) : FnR Tryz.prog 52 [.int .i64 k] h (fun v h' => ∃ a c, v = .slice a (primeL (amongI k 6).toNat).length c ∧ SlR u32R 1 h' a c (primeL (amongI k 6).toNat)) := by
  obtain ⟨g0, g1⟩ := amongI_bd k 6 (by decide)
  obtain ⟨m, hm⟩ : ∃ m : Nat, amongI k 6 = (m : Int) := ⟨(amongI k 6).toNat, by omega⟩
  rw [hm, Int.toNat_natCast]
  refine Fn.intro Tryz.func52 rfl Tryz.ntmps52 rfl (fun e he => ?_)
  refine J.weak [(0, _)] ⟨rfl, trivial⟩ ?_
  have hh0 := Part.le.refl h
  refine Sr ?_
  refine Ru 1 rfl ?_
  refine JL.nil ?_
  refine J.seq ?_
  refine Sr ?_
  refine Ru 1 rfl ?_
  refine JL.callP ca_50 rfl (among_fn _ _ _ (by omega) (by omega) (by omega)) rfl ?_
  rw [hm]
  refine JL.nil ?_
  refine J.block ?_
  refine Sr ?_
  refine Ru 2 rfl ?_
  refine JL.nil ?_
  refine Cs rfl (fun hc2 => ?_) fun hc2 => ?_
  ·
   obtain rfl : m = 0 := (by omega)
   refine Sr ?_
   refine JL.callR ca_93 rfl (rbelow_fn (n := 256) (k := 189) (by decide) (by decide) (by decide) (by decide)) rfl ?_
   rintro _ h3 hle3 ⟨ra, rc, rfl, hR⟩
   replace hh0 := hh0.mono hle3
   refine Ru 1 rfl ?_
   refine Nk [2] rfl ?_
   exact J.retR (RetV.one rfl rfl) ⟨_, _, rfl, hR⟩
  refine Sr ?_
  refine Ru 2 rfl ?_
  refine Nk [8, 4, 2] rfl ?_
  refine Cs rfl (fun hc4 => ?_) fun hc4 => ?_
  ·
   obtain rfl : m = 1 := (by omega)
   refine Sr ?_
   refine JL.callR ca_93 rfl (rbelow_fn (n := 255) (k := 19) (by decide) (by decide) (by decide) (by decide)) rfl ?_
   rintro _ h5 hle5 ⟨ra, rc, rfl, hR⟩
   replace hh0 := hh0.mono hle5
   refine Ru 1 rfl ?_
   refine Nk [2] rfl ?_
   exact J.retR (RetV.one rfl rfl) ⟨_, _, rfl, hR⟩
  refine Sr ?_
  refine Ru 2 rfl ?_
  refine JL.nil ?_
  refine Cs rfl (fun hc6 => ?_) fun hc6 => ?_
  ·
   obtain rfl : m = 2 := (by omega)
   refine Sr ?_
   refine JL.callR ca_93 rfl (rbelow_fn (n := 256) (k := 357) (by decide) (by decide) (by decide) (by decide)) rfl ?_
   rintro _ h7 hle7 ⟨ra, rc, rfl, hR⟩
   replace hh0 := hh0.mono hle7
   refine Ru 1 rfl ?_
   refine Nk [2] rfl ?_
   exact J.retR (RetV.one rfl rfl) ⟨_, _, rfl, hR⟩
  refine Sr ?_
  refine Ru 2 rfl ?_
  refine Nk [14, 4, 2] rfl ?_
  refine Cs rfl (fun hc8 => ?_) fun hc8 => ?_
  ·
   obtain rfl : m = 3 := (by omega)
   refine Sr ?_
   refine JL.callR ca_93 rfl (rbelow_fn (n := 255) (k := 31) (by decide) (by decide) (by decide) (by decide)) rfl ?_
   rintro _ h9 hle9 ⟨ra, rc, rfl, hR⟩
   replace hh0 := hh0.mono hle9
   refine Ru 1 rfl ?_
   refine Nk [2] rfl ?_
   exact J.retR (RetV.one rfl rfl) ⟨_, _, rfl, hR⟩
  refine Sr ?_
  refine Ru 2 rfl ?_
  refine JL.nil ?_
  refine Cs rfl (fun hc10 => ?_) fun hc10 => ?_
  ·
   obtain rfl : m = 4 := (by omega)
   refine Sr ?_
   refine JL.callR ca_93 rfl (rbelow_fn (n := 257) (k := 93) (by decide) (by decide) (by decide) (by decide)) rfl ?_
   rintro _ h11 hle11 ⟨ra, rc, rfl, hR⟩
   replace hh0 := hh0.mono hle11
   refine Ru 1 rfl ?_
   refine Nk [2] rfl ?_
   exact J.retR (RetV.one rfl rfl) ⟨_, _, rfl, hR⟩
  obtain rfl : m = 5 := (by omega)
  refine J.skip ?_
  refine Kp [2] rfl ?_
  refine Sr ?_
  refine JL.callR ca_93 rfl (rbelow_fn (n := 521) (k := 1) (by decide) (by decide) (by decide) (by decide)) rfl ?_
  rintro _ h12 hle12 ⟨ra, rc, rfl, hR⟩
  replace hh0 := hh0.mono hle12
  refine Ru 1 rfl ?_
  refine JL.nil ?_
  exact J.retR (RetV.one rfl rfl) ⟨_, _, rfl, hR⟩
def expL : Nat → List UInt32
  | 0 => [0xb9c9afc1, 0xb9c94636, 0xb9c94636, 0xb9c94636, 0xb9c94636, 0xb9c94636, 0xb9c94636, 0xb9c94636, 0x65af9976, 0x65af9a50, 0x65af9a50, 0x65af9a50, 0x65af9a50, 0x65af9a50, 0x65af9a50, 0x65af9a50]
  | 1 => [0xa813656d, 0xa81357ec, 0xa81357ec, 0xa81357ec, 0xa81357ec, 0xa81357ec, 0xa81357ec, 0xa81357ec, 0x63159c8e, 0x63159cea, 0x63159cea, 0x63159cea, 0x63159cea, 0x63159cea, 0x63159cea, 0x63159cea]
  | 2 => [0x197912ed, 0x1978e687, 0x1978e687, 0x1978e687, 0x1978e687, 0x1978e687, 0x1978e687, 0x1978e687, 0xaced5201, 0xaced5312, 0xaced5312, 0xaced5312, 0xaced5312, 0xaced5312, 0xaced5312, 0xaced5312]
  | 3 => [0xc45a3f41, 0xc45a3ba5, 0xc45a3ba5, 0xc45a3ba5, 0xc45a3ba5, 0xc45a3ba5, 0xc45a3ba5, 0xc45a3ba5, 0x7db7821d, 0x7db78248, 0x7db78248, 0x7db78248, 0x7db78248, 0x7db78248, 0x7db78248, 0x7db78248]
  | 4 => [0x4623bbc1, 0x4623b9dc, 0x4623b9dc, 0x4623b9dc, 0x4623b9dc, 0x4623b9dc, 0x4623b9dc, 0x4623b9dc, 0x2940d6ad, 0x2940d6bf, 0x2940d6bf, 0x2940d6bf, 0x2940d6bf, 0x2940d6bf, 0x2940d6bf, 0x2940d6bf]
  | 5 => [0xa87558e9, 0xa875578a, 0xa875578a, 0xa875578a, 0xa875578a, 0xa875578a, 0xa875578a, 0xa875578a, 0x807f7f7e, 0x807f7f80, 0x807f7f80, 0x807f7f80, 0x807f7f80, 0x807f7f80, 0x807f7f80, 0x807f7f80, 0xa269780, 0xa27f5d8, 0xa27f5d8, 0xa27f5d8, 0xa27f5d8, 0xa27f5d8, 0xa27f5d8, 0xa27f5d8, 0x1d8]
  | 6 => [0xa4b65c7d, 0xa4b65b49, 0xa4b65b49, 0xa4b65b49, 0xa4b65b49, 0xa4b65b49, 0xa4b65b49, 0xa4b65b49, 0x807f7f7f, 0x807f7f80, 0x807f7f80, 0x807f7f80, 0x807f7f80, 0x807f7f80, 0x807f7f80, 0x807f7f80, 0xc9230380, 0xc92436db, 0xc92436db, 0xc92436db, 0xc92436db, 0xc92436db, 0xc92436db, 0xc92436db, 0xdb]
  | 7 => [0xb84e47d1, 0xb84e47b1, 0xb84e47b1, 0xb84e47b1, 0xb84e47b1, 0xb84e47b1, 0xb84e47b1, 0xb84e47b1, 0x807f7f7f, 0x807f7f80, 0x807f7f80, 0x807f7f80, 0x807f7f80, 0x807f7f80, 0x807f7f80, 0x807f7f80, 0x3137af80, 0x3137cec8, 0x3137cec8, 0x3137cec8, 0x3137cec8, 0x3137cec8, 0x3137cec8, 0x3137cec8, 0xc8]
  | 8 => [0xf86107c1, 0xf861079e, 0xf861079e, 0xf861079e, 0xf861079e, 0xf861079e, 0xf861079e, 0xf861079e, 0x807f7f7f, 0x807f7f80, 0x807f7f80, 0x807f7f80, 0x807f7f80, 0x807f7f80, 0x807f7f80, 0x807f7f80, 0x1e77bf80, 0x1e77e188, 0x1e77e188, 0x1e77e188, 0x1e77e188, 0x1e77e188, 0x1e77e188, 0x1e77e188, 0x88]
  | 9 => [0x72988d99, 0x72988d67, 0x72988d67, 0x72988d67, 0x72988d67, 0x72988d67, 0x72988d67, 0x72988d67, 0x807f7f7f, 0x807f7f80, 0x807f7f80, 0x807f7f80, 0x807f7f80, 0x807f7f80, 0x807f7f80, 0x807f7f80, 0xe6f1e780, 0xe6f2190d, 0xe6f2190d, 0xe6f2190d, 0xe6f2190d, 0xe6f2190d, 0xe6f2190d, 0xe6f2190d, 0x10d]
  | 10 => [0x956b39cd, 0x956a956a, 0x956a956a, 0x956a956a, 0x956a956a, 0x956a956a, 0x956a956a, 0x956a956a, 0x9e619d0e, 0x9e619e61, 0x9e619e61, 0x9e619e61, 0x9e619e61, 0x9e619e61, 0x9e619e61, 0x9e619e61]
  | 11 => [0x11ee43e1, 0x11ee11ee, 0x11ee11ee, 0x11ee11ee, 0x11ee11ee, 0x11ee11ee, 0x11ee11ee, 0x11ee11ee, 0x6e916d3e, 0x6e916e91, 0x6e916e91, 0x6e916e91, 0x6e916e91, 0x6e916e91, 0x6e916e91, 0x6e916e91, 0x1]
  | _ => []
theorem cells_lit32 {h : Part} {xs : List Value} {l : List UInt32} (e : ws .u32 l = xs) : CellsR u32R 1 h xs l := e ▸ CellsR.of_ws32
theorem rexponent_fn {i : Nat} {h : Part} (hi : i < 12) : FnR Tryz.prog 54 [.int .i64 i] h (fun v h' => ∃ a c, v = .slice a (expL i).length c ∧ SlR u32R 1 h' a c (expL i)) := by
  refine Fn.intro Tryz.func54 rfl Tryz.ntmps54 rfl (fun e he => ?_)
  refine J.weak [(0, _)] ⟨rfl, trivial⟩ ?_
  have hh0 := Part.le.refl h
  refine Sr ?_
  refine Ru 1 rfl ?_
  refine JL.nil ?_
  refine J.seq ?_
  refine Sr ?_
  refine Ru 1 rfl ?_
  refine JL.nil ?_
  refine J.block ?_
  refine Sr ?_
  refine Ru 2 rfl ?_
  refine JL.nil ?_
  refine Cs rfl (fun hc1 => ?_) fun hc1 => ?_
  ·
   obtain rfl : i = 0 := (by omega)
   refine Sr ?_
   refine JL.lit1 ap_30 zr_103 rfl rfl rfl rfl rfl (fun b2 => ?_)
   refine JL.pubB (R := u32R) (sz := 1) (l := (expL 0)) dl_ ((cells_lit32 (by kernel_rfl))) z20_ (fun h3 hle3 hQ => ?_)
   replace hh0 := hh0.mono hle3
   refine Ru 1 rfl ?_
   refine Nk [2] rfl ?_
   exact J.retR (RetV.one rfl rfl) ⟨_, _, rfl, hQ⟩
  refine Sr ?_
  refine Ru 2 rfl ?_
  refine Nk [7, 3, 2] rfl ?_
  refine Cs rfl (fun hc4 => ?_) fun hc4 => ?_
  ·
   obtain rfl : i = 1 := (by omega)
   refine Sr ?_
   refine JL.lit1 ap_30 zr_103 rfl rfl rfl rfl rfl (fun b5 => ?_)
   refine JL.pubB (R := u32R) (sz := 1) (l := (expL 1)) dl_ ((cells_lit32 (by kernel_rfl))) z20_ (fun h6 hle6 hQ => ?_)
   replace hh0 := hh0.mono hle6
   refine Ru 1 rfl ?_
   refine Nk [2] rfl ?_
   exact J.retR (RetV.one rfl rfl) ⟨_, _, rfl, hQ⟩
  refine Sr ?_
  refine Ru 2 rfl ?_
  refine JL.nil ?_
  refine Cs rfl (fun hc7 => ?_) fun hc7 => ?_
  ·
   obtain rfl : i = 2 := (by omega)
   refine Sr ?_
   refine JL.lit1 ap_30 zr_103 rfl rfl rfl rfl rfl (fun b8 => ?_)
   refine JL.pubB (R := u32R) (sz := 1) (l := (expL 2)) dl_ ((cells_lit32 (by kernel_rfl))) z20_ (fun h9 hle9 hQ => ?_)
   replace hh0 := hh0.mono hle9
   refine Ru 1 rfl ?_
   refine Nk [2] rfl ?_
   exact J.retR (RetV.one rfl rfl) ⟨_, _, rfl, hQ⟩
  refine Sr ?_
  refine Ru 2 rfl ?_
  refine Nk [13, 3, 2] rfl ?_
  refine Cs rfl (fun hc10 => ?_) fun hc10 => ?_
  ·
   obtain rfl : i = 3 := (by omega)
   refine Sr ?_
   refine JL.lit1 ap_30 zr_103 rfl rfl rfl rfl rfl (fun b11 => ?_)
   refine JL.pubB (R := u32R) (sz := 1) (l := (expL 3)) dl_ ((cells_lit32 (by kernel_rfl))) z20_ (fun h12 hle12 hQ => ?_)
   replace hh0 := hh0.mono hle12
   refine Ru 1 rfl ?_
   refine Nk [2] rfl ?_
   exact J.retR (RetV.one rfl rfl) ⟨_, _, rfl, hQ⟩
  refine Sr ?_
  refine Ru 2 rfl ?_
  refine JL.nil ?_
  refine Cs rfl (fun hc13 => ?_) fun hc13 => ?_
  ·
   obtain rfl : i = 4 := (by omega)
   refine Sr ?_
   refine JL.lit1 ap_30 zr_103 rfl rfl rfl rfl rfl (fun b14 => ?_)
   refine JL.pubB (R := u32R) (sz := 1) (l := (expL 4)) dl_ ((cells_lit32 (by kernel_rfl))) z20_ (fun h15 hle15 hQ => ?_)
   replace hh0 := hh0.mono hle15
   refine Ru 1 rfl ?_
   refine Nk [2] rfl ?_
   exact J.retR (RetV.one rfl rfl) ⟨_, _, rfl, hQ⟩
  refine Sr ?_
  refine Ru 2 rfl ?_
  refine Nk [19, 3, 2] rfl ?_
  refine Cs rfl (fun hc16 => ?_) fun hc16 => ?_
  ·
   obtain rfl : i = 5 := (by omega)
   refine Sr ?_
   refine JL.lit1 ap_30 zr_103 rfl rfl rfl rfl rfl (fun b17 => ?_)
   refine JL.pubB (R := u32R) (sz := 1) (l := (expL 5)) dl_ ((cells_lit32 (by kernel_rfl))) z20_ (fun h18 hle18 hQ => ?_)
   replace hh0 := hh0.mono hle18
   refine Ru 1 rfl ?_
   refine Nk [2] rfl ?_
   exact J.retR (RetV.one rfl rfl) ⟨_, _, rfl, hQ⟩
  refine Sr ?_
  refine Ru 2 rfl ?_
  refine JL.nil ?_
  refine Cs rfl (fun hc19 => ?_) fun hc19 => ?_
  ·
   obtain rfl : i = 6 := (by omega)
   refine Sr ?_
   refine JL.lit1 ap_30 zr_103 rfl rfl rfl rfl rfl (fun b20 => ?_)
   refine JL.pubB (R := u32R) (sz := 1) (l := (expL 6)) dl_ ((cells_lit32 (by kernel_rfl))) z20_ (fun h21 hle21 hQ => ?_)
   replace hh0 := hh0.mono hle21
   refine Ru 1 rfl ?_
   refine Nk [2] rfl ?_
   exact J.retR (RetV.one rfl rfl) ⟨_, _, rfl, hQ⟩
  refine Sr ?_
  refine Ru 2 rfl ?_
  refine Nk [25, 3, 2] rfl ?_
  refine Cs rfl (fun hc22 => ?_) fun hc22 => ?_
  ·
   obtain rfl : i = 7 := (by omega)
   refine Sr ?_
   refine JL.lit1 ap_30 zr_103 rfl rfl rfl rfl rfl (fun b23 => ?_)
   refine JL.pubB (R := u32R) (sz := 1) (l := (expL 7)) dl_ ((cells_lit32 (by kernel_rfl))) z20_ (fun h24 hle24 hQ => ?_)
   replace hh0 := hh0.mono hle24
   refine Ru 1 rfl ?_
   refine Nk [2] rfl ?_
   exact J.retR (RetV.one rfl rfl) ⟨_, _, rfl, hQ⟩
  refine Sr ?_
  refine Ru 2 rfl ?_
  refine JL.nil ?_
  refine Cs rfl (fun hc25 => ?_) fun hc25 => ?_
  ·
   obtain rfl : i = 8 := (by omega)
   refine Sr ?_
   refine JL.lit1 ap_30 zr_103 rfl rfl rfl rfl rfl (fun b26 => ?_)
   refine JL.pubB (R := u32R) (sz := 1) (l := (expL 8)) dl_ ((cells_lit32 (by kernel_rfl))) z20_ (fun h27 hle27 hQ => ?_)
   replace hh0 := hh0.mono hle27
   refine Ru 1 rfl ?_
   refine Nk [2] rfl ?_
   exact J.retR (RetV.one rfl rfl) ⟨_, _, rfl, hQ⟩
  refine Sr ?_
  refine Ru 2 rfl ?_
  refine Nk [31, 3, 2] rfl ?_
  refine Cs rfl (fun hc28 => ?_) fun hc28 => ?_
  ·
   obtain rfl : i = 9 := (by omega)
   refine Sr ?_
   refine JL.lit1 ap_30 zr_103 rfl rfl rfl rfl rfl (fun b29 => ?_)
   refine JL.pubB (R := u32R) (sz := 1) (l := (expL 9)) dl_ ((cells_lit32 (by kernel_rfl))) z20_ (fun h30 hle30 hQ => ?_)
   replace hh0 := hh0.mono hle30
   refine Ru 1 rfl ?_
   refine Nk [2] rfl ?_
   exact J.retR (RetV.one rfl rfl) ⟨_, _, rfl, hQ⟩
  refine Sr ?_
  refine Ru 2 rfl ?_
  refine JL.nil ?_
  refine Cs rfl (fun hc31 => ?_) fun hc31 => ?_
  ·
   obtain rfl : i = 10 := (by omega)
   refine Sr ?_
   refine JL.lit1 ap_30 zr_103 rfl rfl rfl rfl rfl (fun b32 => ?_)
   refine JL.pubB (R := u32R) (sz := 1) (l := (expL 10)) dl_ ((cells_lit32 (by kernel_rfl))) z20_ (fun h33 hle33 hQ => ?_)
   replace hh0 := hh0.mono hle33
   refine Ru 1 rfl ?_
   refine Nk [2] rfl ?_
   exact J.retR (RetV.one rfl rfl) ⟨_, _, rfl, hQ⟩
  refine Sr ?_
  refine Ru 2 rfl ?_
  refine Nk [37, 2] rfl ?_
  refine Cs rfl (fun hc34 => ?_) fun hc34 => ?_
  ·
   obtain rfl : i = 11 := (by omega)
   refine Sr ?_
   refine JL.lit1 ap_30 zr_103 rfl rfl rfl rfl rfl (fun b35 => ?_)
   refine JL.pubB (R := u32R) (sz := 1) (l := (expL 11)) dl_ ((cells_lit32 (by kernel_rfl))) z20_ (fun h36 hle36 hQ => ?_)
   replace hh0 := hh0.mono hle36
   refine Ru 1 rfl ?_
   refine JL.nil ?_
   exact J.retR (RetV.one rfl rfl) ⟨_, _, rfl, hQ⟩
  refine J.skip ?_
  refine Sr ?_
  refine Ru 1 rfl ?_
  refine JL.nil ?_
  exfalso; omega
def pairR : Rep (Int × Int) := fun _ cs p => cs = [.int .i64 p.1, .int .i64 p.2]
instance : Mono pairR := ⟨fun _ r => r, fun r u hu => by unfold pairR at r; subst r; simp only [List.mem_cons, List.not_mem_nil, or_false] at hu; rcases hu with rfl | rfl <;> rfl⟩
theorem cells_pairs {h : Part} : ∀ (l : List (Int × Int)), CellsR pairR 2 h (l.flatMap fun p => [.int .i64 p.1, .int .i64 p.2]) l
  | [] => CellsR.nil
  | p :: r => by
    have ih := cells_pairs (h := h) r
    refine ⟨by have := ih.1; simp only [List.flatMap_cons, List.length_append, List.length_cons, List.length_nil] at this ⊢; omega, fun i x hx => ?_⟩
    cases i with
    | zero => simp only [List.getElem?_cons_zero, Option.some.injEq] at hx; subst hx; rfl
    | succ i =>
      have := ih.2 i x (by simpa using hx)
      rw [show (i + 1) * 2 = i * 2 + 1 + 1 by omega, List.flatMap_cons]
      exact this
def pairsL : List (Int × Int) := [(0, 2), (0, 4), (2, 4), (4, 1), (4, 3), (0, 5), (2, 5), (1, 5), (3, 5), (4, 5), (0, 2), (0, 4)]
def keyN (i : Nat) : Nat := vL (primeL (amongI (pairsL.getD i (0, 0)).1 6).toNat) * vL (primeL (amongI (pairsL.getD i (0, 0)).2 6).toNat)
def keyE (i : Nat) : Nat := if 10 ≤ i then 257 else 65537
theorem pairs_bd (i : Nat) : -10 ≤ (pairsL.getD i (0, 0)).1 ∧ (pairsL.getD i (0, 0)).1 ≤ 10 ∧ -10 ≤ (pairsL.getD i (0, 0)).2 ∧ (pairsL.getD i (0, 0)).2 ≤ 10 := by
  rcases Nat.lt_or_ge i 12 with h | h
  · have : i = 0 ∨ i = 1 ∨ i = 2 ∨ i = 3 ∨ i = 4 ∨ i = 5 ∨ i = 6 ∨ i = 7 ∨ i = 8 ∨ i = 9 ∨ i = 10 ∨ i = 11 := by omega
    rcases this with rfl | rfl | rfl | rfl | rfl | rfl | rfl | rfl | rfl | rfl | rfl | rfl <;> decide
  · rw [List.getD_eq_getElem?_getD, List.getElem?_eq_none (by simpa [pairsL] using h)]; decide
theorem rkept_fn {k : Int} {h : Part} (h0 : -9223372036854775808 ≤ k) (h1 : k ≤ 9223372036854775807) : FnR Tryz.prog 19 [.int .i64 k] h
    (fun v h' => ∃ an cn ae ce ad cd, v = .agg #[.slice an (toL (keyN (amongI k 12).toNat)).length cn, .slice ae (toL (keyE (amongI k 12).toNat)).length ce, .slice ad (expL (amongI k 12).toNat).length cd] ∧ SlR u32R 1 h' an cn (toL (keyN (amongI k 12).toNat)) ∧ SlR u32R 1 h' ae ce (toL (keyE (amongI k 12).toNat)) ∧ SlR u32R 1 h' ad cd (expL (amongI k 12).toNat)) := by
  obtain ⟨g0, g1⟩ := amongI_bd k 12 (by decide)
  obtain ⟨i, hi⟩ : ∃ i : Nat, amongI k 12 = (i : Int) := ⟨(amongI k 12).toNat, by omega⟩
  rw [hi, Int.toNat_natCast]
  obtain ⟨p1, p2, p3, p4⟩ := pairs_bd i
  obtain ⟨y, hy⟩ : ∃ y, y = keyE i := ⟨_, rfl⟩
  have hy2 : y ≤ 65537 := by rw [hy]; unfold keyE; split <;> omega
  have hpl : pairsL.length = 12 := rfl
  have hpe : pairsL[i]'(by omega) = pairsL.getD i (0, 0) := by rw [List.getD_eq_getElem?_getD, List.getElem?_eq_getElem (by omega)]; rfl
  obtain ⟨pr, hpr⟩ : ∃ pr, pr = pairsL.getD i (0, 0) := ⟨_, rfl⟩
  have l1 := primeL_len (amongI pr.1 6).toNat
  have l2 := primeL_len (amongI pr.2 6).toNat
  rw [← hpr] at p1 p2 p3 p4 hpe
  refine Fn.intro Tryz.func19 rfl Tryz.ntmps19 rfl (fun e he => ?_)
  refine J.weak [(0, _)] ⟨rfl, trivial⟩ ?_
  have hh0 := Part.le.refl h
  refine Sr ?_
  refine JL.alloc zr_32 rfl (fun b1 => ?_)
  refine JL.nil ?_
  refine Sr ?_
  refine Ru 1 rfl ?_
  refine JL.callP ca_50 rfl (among_fn _ _ _ (by omega) (by omega) (by omega)) rfl ?_
  rw [hi]
  refine Ru 1 rfl ?_
  refine JL.nil ?_
  refine Sr ?_
  refine JL.op (RunV.buildArr az_61 rfl rfl rfl) rfl ?_
  refine JL.op (RunV.buildArr az_61 rfl rfl rfl) rfl ?_
  refine JL.op (RunV.buildArr az_61 rfl rfl rfl) rfl ?_
  refine JL.op (RunV.buildArr az_61 rfl rfl rfl) rfl ?_
  refine JL.op (RunV.buildArr az_61 rfl rfl rfl) rfl ?_
  refine JL.op (RunV.buildArr az_61 rfl rfl rfl) rfl ?_
  refine JL.op (RunV.buildArr az_61 rfl rfl rfl) rfl ?_
  refine JL.op (RunV.buildArr az_61 rfl rfl rfl) rfl ?_
  refine JL.op (RunV.buildArr az_61 rfl rfl rfl) rfl ?_
  refine JL.op (RunV.buildArr az_61 rfl rfl rfl) rfl ?_
  refine JL.op (RunV.buildArr az_61 rfl rfl rfl) rfl ?_
  refine JL.op (RunV.buildArr az_61 rfl rfl rfl) rfl ?_
  refine JL.litAll [_, _, _, _, _, _, _, _, _, _, _, _] ap_62 rfl rfl (List.forall_mem_cons.2 ⟨(by first | rfl), List.forall_mem_cons.2 ⟨(by first | rfl), List.forall_mem_cons.2 ⟨(by first | rfl), List.forall_mem_cons.2 ⟨(by first | rfl), List.forall_mem_cons.2 ⟨(by first | rfl), List.forall_mem_cons.2 ⟨(by first | rfl), List.forall_mem_cons.2 ⟨(by first | rfl), List.forall_mem_cons.2 ⟨(by first | rfl), List.forall_mem_cons.2 ⟨(by first | rfl), List.forall_mem_cons.2 ⟨(by first | rfl), List.forall_mem_cons.2 ⟨(by first | rfl), List.forall_mem_cons.2 ⟨(by first | rfl), List.forall_mem_nil _⟩⟩⟩⟩⟩⟩⟩⟩⟩⟩⟩⟩) rfl (by kernel_rfl) (by kernel_rfl) rfl (fun b3 => ?_)
  refine JL.pubB (R := pairR) (sz := 2) (l := pairsL) dl_ ((show CellsR pairR 2 _ (pairsL.flatMap fun p => [.int .i64 p.1, .int .i64 p.2]) pairsL from cells_pairs pairsL)) z20_ (fun h4 hle4 hK => ?_)
  replace hh0 := hh0.mono hle4
  refine Ru 1 rfl ?_
  refine Nk [3, 0, 2] rfl ?_
  refine Sr ?_
  refine Ru 1 rfl ?_
  refine JL.nil ?_
  refine J.seq ?_
  refine Sr ?_
  refine Ru 2 rfl ?_
  refine JL.nil ?_
  refine J.meet [(4, .int .u64 y)] [(3, _), (0, _), (2, _)] ⟨rfl, rfl, rfl, trivial⟩ ?_ ?_
  ·
   refine Cs rfl (fun hc5 => ?_) fun hc5 => ?_
   ·
    refine Rg ?_
    refine Ru 1 rfl ?_
    refine JL.nil ?_
    refine ⟨rfl, rfl, ?_⟩
    repeat (first | exact trivial | refine ⟨rfl, ?_⟩ | refine ⟨(by exact some_int (by rw [hy]; unfold keyE; split <;> omega)), ?_⟩)
   refine J.skip ?_
   refine ⟨rfl, rfl, ?_⟩
   repeat (first | exact trivial | refine ⟨rfl, ?_⟩ | refine ⟨(by exact some_int (by rw [hy]; unfold keyE; split <;> omega)), ?_⟩)
  refine J.seq ?_
  refine J.held ([]) 19 mixed_ rfl (fun h00 => ?_)
  refine JH.take 0 rfl (by kernel_rfl) (by kernel_rfl) (by kernel_rfl) (fun _ _ _ _ hh => hh) (br_ h00) (RunV.move rfl) rfl ?_
  refine JH.take 1 rfl (by kernel_rfl) (by kernel_rfl) (by kernel_rfl) (fun _ _ _ _ hh => hh) (br_ h00) (RunV.move rfl) rfl ?_
  refine JH.takeE 2 rfl (by kernel_rfl) (by kernel_rfl) (by kernel_rfl) (fun _ _ _ _ hh => hh) (br_ h00) (RunE.index (m := i) sl_62 rfl rfl rfl hK hpl.symm (by omega)) rfl ?_
  rintro _ ⟨b6, o6, hi6, rfl, hE6⟩
  refine JH.take 3 rfl (by kernel_rfl) (by kernel_rfl) (by kernel_rfl) (fun _ _ _ _ hh => hh) (br_ h00) (RunV.indexAt ar_61 rfl rfl (show _ = ((0 : Nat) : Int) from rfl) (by omega)) rfl ?_
  refine JH.takeE 4 rfl (by kernel_rfl) (by kernel_rfl) (by kernel_rfl) (fun _ _ _ _ hh => hh) (br_ h00) (RunE.loadF ag_3 rfl (by assumption) (by decide)) rfl ?_
  rintro v7 ⟨_, hv7, rfl⟩
  cases hv7
  rw [hpe]
  refine JH.take 6 rfl (by kernel_rfl) (by kernel_rfl) (by kernel_rfl) (fun _ _ _ _ hh => hh) (br_ h00) (RunV.move rfl) rfl ?_
  refine JH.take 7 rfl (by kernel_rfl) (by kernel_rfl) (by kernel_rfl) (fun _ _ _ _ hh => hh) (br_ h00) (RunV.move rfl) rfl ?_
  refine JH.takeE 8 rfl (by kernel_rfl) (by kernel_rfl) (by kernel_rfl) (fun _ _ _ _ hh => hh) (br_ h00) (RunE.index (m := i) sl_62 rfl rfl rfl hK hpl.symm (by omega)) rfl ?_
  rintro _ ⟨b8, o8, hi8, rfl, hE8⟩
  refine JH.take 9 rfl (by kernel_rfl) (by kernel_rfl) (by kernel_rfl) (fun _ _ _ _ hh => hh) (br_ h00) (RunV.indexAt ar_61 rfl rfl (show _ = ((1 : Nat) : Int) from rfl) (by omega)) rfl ?_
  refine JH.takeE 10 rfl (by kernel_rfl) (by kernel_rfl) (by kernel_rfl) (fun _ _ _ _ hh => hh) (br_ h00) (RunE.loadF ag_3 rfl (by assumption) (by decide)) rfl ?_
  rintro v9 ⟨_, hv9, rfl⟩
  cases hv9
  rw [hpe]
  refine JH.take 13 rfl (by kernel_rfl) (by kernel_rfl) (by kernel_rfl) (fun _ _ _ _ hh => hh) (br_ h00) (RunV.move rfl) rfl ?_
  refine JH.take 15 rfl (by kernel_rfl) (by kernel_rfl) (by kernel_rfl) (fun _ _ _ _ hh => hh) (br_ h00) (RunV.move rfl) rfl ?_
  refine JH.all1 5 (by kernel_rfl) rfl ?_
  unfold One
  refine JL.callR ca_52 rfl (rprimes_fn (k := pr.1) (by omega) (by omega)) rfl ?_
  rintro _ h10 hle10 ⟨pa, pc, rfl, hP1⟩
  replace hh0 := hh0.mono hle10
  replace hK := hK.mono hle10
  refine JL.nil ⟨(br_ h00), ?_⟩
  refine JH.all1 11 (by kernel_rfl) rfl ?_
  unfold One
  refine JL.callR ca_52 rfl (rprimes_fn (k := pr.2) (by omega) (by omega)) rfl ?_
  rintro _ h11 hle11 ⟨qa, qc, rfl, hP2⟩
  replace hh0 := hh0.mono hle11
  replace hK := hK.mono hle11
  replace hP1 := hP1.mono hle11
  refine JL.nil ⟨(br_ h00), ?_⟩
  refine JH.all1 12 (by kernel_rfl) rfl ?_
  unfold One
  refine JL.callR ca_51 rfl (rmul_fn hP1 hP2 (by omega) (by omega)) rfl ?_
  rintro _ h12 hle12 ⟨na, nc, rfl, hN⟩
  replace hh0 := hh0.mono hle12
  replace hK := hK.mono hle12
  replace hP1 := hP1.mono hle12
  replace hP2 := hP2.mono hle12
  refine JL.nil ⟨(br_ h00), ?_⟩
  refine JH.all1 14 (by kernel_rfl) rfl ?_
  unfold One
  refine JL.callR ca_53 rfl (rOf_fn (n := y) (by omega)) rfl ?_
  rintro _ h13 hle13 ⟨ea, ec, rfl, hE⟩
  replace hh0 := hh0.mono hle13
  replace hK := hK.mono hle13
  replace hP1 := hP1.mono hle13
  replace hP2 := hP2.mono hle13
  replace hN := hN.mono hle13
  refine JL.nil ⟨(br_ h00), ?_⟩
  refine JH.all1 16 (by kernel_rfl) rfl ?_
  unfold One
  refine JL.callR ca_54 rfl (rexponent_fn (i := i) (by omega)) rfl ?_
  rintro _ h14 hle14 ⟨da, dc, rfl, hD⟩
  replace hh0 := hh0.mono hle14
  replace hK := hK.mono hle14
  replace hP1 := hP1.mono hle14
  replace hP2 := hP2.mono hle14
  replace hN := hN.mono hle14
  replace hE := hE.mono hle14
  refine JL.nil ⟨(br_ h00), ?_⟩
  refine JH.take 17 rfl (by kernel_rfl) (by kernel_rfl) (by kernel_rfl) (fun _ _ _ _ hh => hh) (br_ h00) (RunV.build (cs := [_, _, _]) pl_32 rfl rfl) rfl ?_
  refine JH.all1 18 (by kernel_rfl) rfl ?_
  unfold One
  refine JL.storeA ag_32 rfl rfl dl_ (by first | rfl) z31_ (by first | rfl) ?_
  refine JL.nil ⟨(br_ h00), ?_⟩
  refine JH.done (by kernel_rfl) ?_
  refine Kp [2] rfl ?_
  have hkN : vL (primeL (amongI pr.1 6).toNat) * vL (primeL (amongI pr.2 6).toNat) = keyN i := (by rw [hpr]; rfl); rw [hkN] at hN ⊢; rw [hy] at hE ⊢; exact J.retR (RetV.cell rfl rfl ag_32 mm_ (by first | rfl)) ⟨_, _, _, _, _, _, rfl, hN, hE, hD⟩
end Go.Proofs.YtmngjbefnloljaaGreatDoor
namespace Go.Proofs.YtmngjbefnloljaaGreatDoor
open Go Go.RowKit
set_option maxRecDepth 100000
theorem ca_117 : callT Tryz.prog 117 = true := by kernel_rfl
theorem ca_79 : callT Tryz.prog 79 = true := by kernel_rfl
theorem cv_93_3 : convI Tryz.prog 93 3 = some .i64 := by kernel_rfl
theorem mul64_fn {y : Nat} {h : Part} (hy : y < 2147483648) : Pure Tryz.prog 117 [.int .u64 1, .int .u64 y] h (.tuple #[.int .u64 0, .int .u64 y]) := by
  refine Fn.intro Tryz.func117 rfl Tryz.ntmps117 rfl (fun e he => ?_)
  refine J.weak [(0, _), (1, _)] ⟨rfl, rfl, trivial⟩ ?_
  refine Sr ?_
  refine Ru 2 rfl ?_
  refine JL.nil ?_
  refine Sr ?_
  refine Ru 1 rfl ?_
  refine JL.op (RunV.mask_u64 32 4294967296 rfl rfl (by decide) (by decide) (by decide) (by omega) (by omega)) rfl ?_
  rw [show (1 : Int) % 4294967296 = 1 from rfl]
  refine Ru 1 rfl ?_
  refine JL.nil ?_
  refine Sr ?_
  refine Ru 1 rfl ?_
  refine JL.op (RunV.shr_u64 4294967296 rfl rfl (by decide) (by decide) (by decide)) rfl ?_
  rw [show (1 : Int) / 4294967296 = 0 from rfl]
  refine Ru 1 rfl ?_
  refine JL.nil ?_
  refine Sr ?_
  refine Ru 1 rfl ?_
  refine JL.op (RunV.mask_u64 32 4294967296 rfl rfl (by decide) (by decide) (by decide) (by omega) (by omega)) rfl ?_
  rw [show (y : Int) % 4294967296 = y by omega]
  refine Ru 1 rfl ?_
  refine Nk [8, 7, 6, 5, 4, 0, 1] rfl ?_
  refine Sr ?_
  refine Ru 1 rfl ?_
  refine JL.op (RunV.shr_u64 4294967296 rfl rfl (by decide) (by decide) (by decide)) rfl ?_
  rw [show (y : Int) / 4294967296 = 0 by omega]
  refine Ru 1 rfl ?_
  refine JL.nil ?_
  refine Sr ?_
  refine Ru 2 rfl ?_
  refine JL.op z33_ rfl ?_
  rw [Int.one_mul]
  refine Ru 1 rfl ?_
  refine Nk [10, 9, 8, 7, 6, 5, 4, 0, 1] rfl ?_
  refine Sr ?_
  refine Ru 2 rfl ?_
  refine JL.op z33_ rfl ?_
  rw [Int.zero_mul]
  refine Ru 1 rfl ?_
  refine JL.op (RunV.shr_u64 4294967296 rfl rfl (by decide) (by decide) (by decide)) rfl ?_
  refine JL.op z28_ rfl ?_
  rw [show (0 : Int) + (y : Int) / 4294967296 = 0 by omega]
  refine Ru 1 rfl ?_
  refine Nk [11, 9, 7, 6, 5, 4, 0, 1] rfl ?_
  refine Sr ?_
  refine Ru 1 rfl ?_
  refine JL.op (RunV.mask_u64 32 4294967296 rfl rfl (by decide) (by decide) (by decide) (by omega) (by omega)) rfl ?_
  rw [show (0 : Int) % 4294967296 = 0 from rfl]
  refine Ru 1 rfl ?_
  refine JL.nil ?_
  refine Sr ?_
  refine Ru 1 rfl ?_
  refine JL.op (RunV.shr_u64 4294967296 rfl rfl (by decide) (by decide) (by decide)) rfl ?_
  rw [show (0 : Int) / 4294967296 = 0 from rfl]
  refine Ru 1 rfl ?_
  refine Nk [13, 12, 9, 7, 6, 5, 4, 0, 1] rfl ?_
  refine Sr ?_
  refine Ru 3 rfl ?_
  refine JL.op z33_ rfl ?_
  rw [Int.mul_zero]
  refine JL.op z28_ rfl ?_
  refine Ru 1 rfl ?_
  refine Nk [12, 13, 9, 7, 5, 4, 0, 1] rfl ?_
  refine Sr ?_
  refine Ru 2 rfl ?_
  refine JL.op z33_ rfl ?_
  rw [Int.mul_zero]
  refine Ru 1 rfl ?_
  refine JL.op z28_ rfl ?_
  refine Ru 1 rfl ?_
  refine JL.op (RunV.shr_u64 4294967296 rfl rfl (by decide) (by decide) (by decide)) rfl ?_
  refine JL.op z28_ rfl ?_
  refine Ru 1 rfl ?_
  refine Nk [4, 5, 0, 1] rfl ?_
  refine Sr ?_
  refine Ru 2 rfl ?_
  refine JL.op z33_ rfl ?_
  refine Ru 1 rfl ?_
  refine Nk [5, 4] rfl ?_
  exact J.retP (RetV.two rfl rfl rfl) (by first | rfl | (rw [Int.one_mul]; rfl)) rfl
theorem mul1_fn {y : Nat} {h : Part} (hy : y < 2147483648) : Pure Tryz.prog 79 [.int .u64 1, .int .u64 y] h (.tuple #[.int .u64 0, .int .u64 y]) := by
  refine Fn.intro Tryz.func79 rfl Tryz.ntmps79 rfl (fun e he => ?_)
  refine J.weak [(0, _), (1, _)] ⟨rfl, rfl, trivial⟩ ?_
  refine Sr ?_
  refine Ru 2 rfl ?_
  refine JL.nil ?_
  refine J.seq ?_
  refine J.cond_f rfl ?_
  refine J.skip ?_
  refine Sr ?_
  refine Ru 2 rfl ?_
  refine JL.callP ca_117 rfl (mul64_fn hy) rfl ?_
  refine Ru 5 rfl ?_
  refine Nk [9, 8, 5, 4] rfl ?_
  refine Sr ?_
  refine Ru 4 rfl ?_
  refine Nk [5, 4] rfl ?_
  exact J.retP (RetV.two rfl rfl rfl) rfl rfl
section
variable {f : Fr} {n : Post} {x : Nat → Post} {S : Sig} {h : Part} {L L' : List Ent} {ops : Array Oper} {rest : List Oper}
variable {ty : TypeId} {pos : String} {af : Array Edge} {d : Nat} {T T2 : TypeId} {xo yo : Operand}
theorem JL.copyS {g o dl dc c t m sl sc e : Nat} {xs : List Value} (hT : slT f.P T = some (e, 1)) (hx : ev S xo = some (.slice (some ⟨g, o, none⟩) dl dc)) (hy : ev S yo = some (.slice (some ⟨g, 0, none⟩) sl sc)) (u : Del (.row (some ⟨g, 0, none⟩) c t 1 m xs) L L')
    (hm : xs.length = m) (hsm : Nat.min sl dl ≤ m) (hfit : o + Nat.min sl dl ≤ m) (h1 : ∀ v ∈ xs.take (Nat.min sl dl), v.oneCell' = true) (hd : Nat.blt d f.m = true)
    (k : JL f ops n x rest ((d, .int .i64 (Nat.min sl dl : Nat)) :: S) h (.row (some ⟨g, 0, none⟩) c t 1 m (over xs o (xs.take (Nat.min sl dl))) :: L')) :
    JL f ops n x (⟨some d, .call { callee := .builtin .copy, args := #[xo, yo], argTypes := #[T, T2] }, ty, pos, af, none⟩ :: rest) S h L := by
  have hl : (xs.take (Nat.min sl dl)).length = Nat.min sl dl := by rw [List.length_take]; omega
  refine JL.copy_ (cs := xs.take (Nat.min sl dl)) hT hx hy u hl (by rw [hl]; exact hfit) h1 (fun w hk j v hj => ?_) hd (by rw [hl]; exact k)
  have hj2 : xs[j]? = some v := by
    rw [List.getElem?_take] at hj
    split at hj
    · exact hj
    · cases hj
  rw [Addr.add_lit, Nat.zero_add, row_cell hk u.mem (List.getElem?_eq_some_iff.1 hj2).1, hj2]
end
theorem rep_take (b : UInt8) {xs : List Value} {bp k : Nat} (hx : xs.take bp = u8s (List.replicate bp b)) (hk : k ≤ bp) : xs.take k = u8s (List.replicate k b) := by
  have : xs.take k = (xs.take bp).take k := by rw [List.take_take, Nat.min_eq_left hk]
  rw [this, hx]
  simp [u8s, hk]
theorem brepeat_fn {a : Option Addr} {c N : Nat} {b : UInt8} {h : Part} (hl : SlR u8R 1 h a c [b]) (hN0 : 0 < N) (hN : N ≤ 8192) : FnR Tryz.prog 36 [.slice a 1 c, .int .i64 N] h (fun v h' => ∃ a c, v = .slice a (List.replicate N b).length c ∧ SlR u8R 1 h' a c (List.replicate N b)) := by
  have hNz := mnz (N := N) (by omega)
  have hrl : (List.replicate N b).length = N := List.length_replicate
  refine Fn.intro Tryz.func36 rfl Tryz.ntmps36 rfl (fun e he => ?_)
  refine J.weak [(0, _), (1, _)] ⟨rfl, rfl, trivial⟩ ?_
  have hh0 := Part.le.refl h
  refine Sr ?_
  refine Ru 1 rfl ?_
  refine JL.nil ?_
  refine J.seq ?_
  refine Sr ?_
  refine Ru 2 rfl ?_
  refine JL.nil ?_
  refine Cs rfl (fun hc1 => ?_) fun hc1 => ?_
  ·
   exfalso; omega
  refine J.skip ?_
  refine J.seq ?_
  refine Sr ?_
  refine Ru 2 rfl ?_
  refine JL.nil ?_
  refine Cs rfl (fun hc2 => ?_) fun hc2 => ?_
  ·
   exfalso; omega
  refine J.skip ?_
  refine Kp [4, 0, 1] rfl ?_
  refine Sr ?_
  refine Ru 2 rfl ?_
  refine JL.op (by first | exact RunV.conv_u64 cv_3_93 rfl (by omega) (by omega) | exact RunV.conv cv_3_93 rfl) rfl ?_
  refine Ru 1 rfl ?_
  refine JL.op (by first | exact RunV.conv_u64 cv_3_93 rfl (by omega) (by omega) | exact RunV.conv cv_3_93 rfl) rfl ?_
  refine JL.callP ca_79 rfl (mul1_fn (y := N) (by omega)) rfl ?_
  refine Ru 5 rfl ?_
  refine Nk [6, 5, 4, 0] rfl ?_
  refine J.seq ?_
  refine Sr ?_
  refine Ru 3 rfl ?_
  apply On 29 32 3 [6, 4, 0] rfl rfl
  rotate_left
  ·
   intro hb4 hc4
   refine Ru 3 rfl ?_
   exact Ae (om_f hb4 rfl) rfl
  rotate_right
  ·
   exact fun hb4 _ => Ru 3 rfl (Ae (om_t hb4 rfl) rfl)
  refine JL.nil ?_
  refine Cs rfl (fun hc5 => ?_) fun hc5 => ?_
  ·
   exfalso; omega
  refine J.skip ?_
  refine Sr ?_
  refine Ru 1 rfl ?_
  refine JL.op (by first | exact RunV.conv_i64 cv_93_3 rfl (by omega) (by omega) | exact RunV.conv cv_93_3 rfl) rfl ?_
  refine Ru 1 rfl ?_
  refine Nk [7, 4, 0] rfl ?_
  refine J.seq ?_
  refine Sr ?_
  refine Ru 3 rfl ?_
  refine JL.nil ?_
  refine Cs rfl (fun hc6 => ?_) fun hc6 => ?_
  ·
   exfalso; omega
  refine J.skip ?_
  refine Sr ?_
  refine Ru 2 rfl ?_
  refine Nk [8, 7, 4, 0] rfl ?_
  refine J.seq ?_
  refine Sr ?_
  refine Ru 2 rfl ?_
  refine JL.nil ?_
  refine Cs rfl (fun hc7 => ?_) fun hc7 => ?_
  ·
   exfalso; omega
  refine J.skip ?_
  refine Sr ?_
  refine Ru 1 rfl ?_
  refine JL.noZero rfl rfl hNz rfl (fun bR cR xs0 hx0 hc0 => ?_)
  refine Ru 2 rfl ?_
  refine JL.op (RunV.full3 sl_22 rfl rfl rfl rfl rfl hc0 (by omega)) rfl ?_
  refine Ru 1 rfl ?_
  refine Nk [9, 8, 7, 4, 0] rfl ?_
  refine Sr ?_
  refine Ru 2 rfl ?_
  refine JL.copyN sl_22 rfl rfl dl_ hl (by simp) rfl (by simp; omega) (by simp; omega) rfl ?_
  refine Ru 1 rfl ?_
  refine JL.nil ?_
  refine J.seq ?_
  refine J.block ?_
  refine J.loop (fun t_ S_ h_ L_ => ∃ (bp : Nat) (xs : List Value), t_ = N - bp ∧ S_ = [(7, .int .i64 N), (8, .int .i64 N), (9, .slice (some ⟨bR, 0, none⟩) N N), (10, .int .i64 bp)] ∧ h = h_ ∧ L_ = [.row (some ⟨bR, 0, none⟩) cR 5 1 N xs] ∧ (1 ≤ bp ∧ bp ≤ N ∧ xs.length = N ∧ xs.take bp = u8s (List.replicate bp b))) ⟨_, _, ?_, ⟨1, _, rfl, rfl, rfl, rfl, ⟨by omega, by omega, by rw [over_len (by simp [u8s]; omega)]; exact hx0, by simp [over, u8s]⟩⟩⟩ ?_
  ·
   exact z4_
  rintro _ _ _ _ ⟨bp, xs, rfl, rfl, rfl, rfl, hb1, hbp, hxl, hxt⟩
  refine J.seq ?_
  refine Sr ?_
  skip
  refine Ru 3 rfl ?_
  refine JL.nil ?_
  refine Cs rfl (fun hc10 => ?_) fun hc10 => ?_
  ·
   have hbN : bp < N := (by omega); obtain ⟨kk, hkk⟩ : ∃ kk, kk = Nat.min bp (N - bp) := ⟨_, rfl⟩; have hk1 : kk ≤ bp := (by rw [hkk]; exact Nat.min_le_left _ _); have hk2 : kk ≤ N - bp := (by rw [hkk]; exact Nat.min_le_right _ _); have hk0 : 0 < kk := (by rw [hkk]; exact Nat.lt_min.2 ⟨by omega, by omega⟩); have hrt := rep_take b hxt hk1; obtain ⟨q1, q2⟩ := over_flat (p := List.replicate bp b) (l := List.replicate kk b) (N := N) (by rw [List.length_replicate]; exact hxt) hxl (by rw [List.length_replicate, List.length_replicate]; omega); rw [List.length_replicate, List.replicate_append_replicate, List.length_replicate] at q1; rw [List.length_replicate] at q2
   refine J.skip ?_
   refine J.block ?_
   refine Sr ?_
   refine Ru 2 rfl ?_
   refine JL.op (RunV.min2 rfl rfl) rfl ?_
   rw [if_neg (show ¬ ((N : Int) < (bp : Int)) by omega)]
   refine Ru 1 rfl ?_
   refine JL.nil ?_
   refine J.held ([]) 10 mixed_ rfl (fun h00 => ?_)
   refine JH.take 0 rfl (by kernel_rfl) (by kernel_rfl) (by kernel_rfl) (fun _ _ _ _ hh => hh) (br_ h00) (RunV.move rfl) rfl ?_
   refine JH.take 1 rfl (by kernel_rfl) (by kernel_rfl) (by kernel_rfl) (fun _ _ _ _ hh => hh) (br_ h00) (RunV.move rfl) rfl ?_
   refine JH.take 2 rfl (by kernel_rfl) (by kernel_rfl) (by kernel_rfl) (fun _ _ _ _ hh => hh) (br_ h00) (RunV.move rfl) rfl ?_
   refine JH.take 3 rfl (by kernel_rfl) (by kernel_rfl) (by kernel_rfl) (fun _ _ _ _ hh => hh) (br_ h00) (RunV.fromv sl_22 (k := bp) rfl rfl rfl (by omega) (by omega)) rfl ?_
   refine JH.take 4 rfl (by kernel_rfl) (by kernel_rfl) (by kernel_rfl) (fun _ _ _ _ hh => hh) (br_ h00) (RunV.move rfl) rfl ?_
   refine JH.take 5 rfl (by kernel_rfl) (by kernel_rfl) (by kernel_rfl) (fun _ _ _ _ hh => hh) (br_ h00) (RunV.move rfl) rfl ?_
   refine JH.take 6 rfl (by kernel_rfl) (by kernel_rfl) (by kernel_rfl) (fun _ _ _ _ hh => hh) (br_ h00) (RunV.cutv sl_22 (m := bp) rfl rfl rfl (by omega) (by omega)) rfl ?_
   refine JH.all1 7 (by kernel_rfl) rfl ?_
   unfold One
   refine JL.copyS sl_22 rfl rfl dl_ hxl (by rw [← hkk]; omega) (by rw [← hkk]; omega) (by rw [← hkk, hrt]; intro v hv; obtain ⟨z, _, rfl⟩ := List.mem_map.1 hv; rfl) rfl ?_; rw [← hkk, hrt]
   refine JL.nil ⟨(br_ h00), ?_⟩
   refine JH.take 8 rfl (by kernel_rfl) (by kernel_rfl) (by kernel_rfl) (fun _ _ _ _ hh => hh) (br_ h00) ai_ rfl ?_
   refine JH.take 9 rfl (by kernel_rfl) (by kernel_rfl) (by kernel_rfl) (fun _ _ _ _ hh => hh) (br_ h00) (RunV.assign rfl) rfl ?_
   refine JH.done (by kernel_rfl) ?_
   refine ⟨_, ?_, _, ?_, ⟨bp + kk, _, rfl, rfl, rfl, rfl, ⟨by omega, by omega, q2, q1⟩⟩⟩
   ·
    omega
   exact z4_
  have hbe : bp = N := (by omega); subst hbe; rw [List.take_of_length_le (by omega)] at hxt; subst hxt
  refine J.exit ?_
  refine Kp [9] rfl ?_
  refine Sr ?_
  refine JL.pub (R := u8R) (l := List.replicate bp b) dl_ CellsR.of_u8 hrl.symm (by omega) (fun h9 hle9 hP9 => ?_)
  refine Ru 2 rfl ?_
  refine JL.nil ?_
  rw [hrl]; exact J.retR (RetV.one rfl rfl) ⟨_, _, rfl, hP9.recap (by omega) hc0⟩
end Go.Proofs.YtmngjbefnloljaaGreatDoor
namespace Go.Proofs.YtmngjbefnloljaaGreatDoor
open Go Go.RowKit
set_option maxRecDepth 100000
theorem ca_72 : callT Tryz.prog 72 = true := by kernel_rfl
theorem ca_78 : callT Tryz.prog 78 = true := by kernel_rfl
theorem join_fn {a : Option Addr} {c : Nat} {ls : List (List UInt8)} {h : Part} (hl : SlR (slR u8R 1) 1 h a c ls) (h2 : 2 ≤ ls.length) (hb : ls.flatten.length ≤ 1000000000) (hl0 : ∀ l ∈ ls, 0 < l.length) : FnR Tryz.prog 35 [.slice a ls.length c] h (fun v h' => ∃ a c, v = .slice a ls.flatten.length c ∧ SlR u8R 1 h' a c ls.flatten) := by
  refine Fn.intro Tryz.func35 rfl Tryz.ntmps35 rfl (fun e he => ?_)
  refine J.weak [(0, _)] ⟨rfl, trivial⟩ ?_
  have hh0 := Part.le.refl h
  refine Sr ?_
  refine Ru 1 rfl ?_
  refine JL.nil ?_
  refine Sr ?_
  refine Ru 1 rfl ?_
  refine JL.callR ca_78 rfl (bjoin_fn hl h2 hb hl0) rfl ?_
  rintro _ h1 hle1 ⟨ja, jc, rfl, hJ⟩
  replace hl := hl.mono hle1
  replace hh0 := hh0.mono hle1
  refine Ru 1 rfl ?_
  refine JL.nil ?_
  exact J.retR (RetV.one rfl rfl) ⟨_, _, rfl, hJ⟩
theorem alike_fn {an ae ad bn be bd : Option Addr} {cn ce cd kn ke kd : Nat} {n x d n2 x2 d2 : List UInt32} {h : Part} (hn : SlR u32R 1 h an cn n) (hx : SlR u32R 1 h ae ce x) (hd : SlR u32R 1 h ad cd d) (hn2 : SlR u32R 1 h bn kn n2) (hx2 : SlR u32R 1 h be ke x2) (hd2 : SlR u32R 1 h bd kd d2) :
    Pure Tryz.prog 32 [.agg #[.slice an n.length cn, .slice ae x.length ce, .slice ad d.length cd], .agg #[.slice bn n2.length kn, .slice be x2.length ke, .slice bd d2.length kd]] h (.bool (decide (n = n2 ∧ x = x2 ∧ d = d2))) := by
  refine Fn.intro Tryz.func32 rfl Tryz.ntmps32 rfl (fun e he => ?_)
  refine J.weak [(0, _), (1, _)] ⟨rfl, rfl, trivial⟩ ?_
  refine Sr ?_
  refine JL.box rfl rfl rfl (fun b1 => ?_)
  refine JL.box rfl rfl rfl (fun b2 => ?_)
  refine Ru 1 rfl ?_
  refine JL.nil ?_
  refine Sr ?_
  refine Ru 1 rfl ?_
  refine JL.op (RunV.own1 ag_30 rfl mm_ rfl) rfl ?_
  refine Ru 1 rfl ?_
  refine JL.op (RunV.own1 ag_30 rfl mm_ rfl) rfl ?_
  refine JL.callP ca_72 rfl (natsame_fn (by assumption) (by assumption)) rfl ?_
  refine Ru 1 rfl ?_
  refine Bs 10 rfl (fun hc4 => ?_) fun hc4 => ?_
  ·
   refine Ru 1 rfl ?_
   refine JL.opg rfl rfl  (RunV.own1 ag_30 rfl mm_ rfl) rfl ?_
   refine Ru 1 rfl ?_
   refine JL.opg rfl rfl  (RunV.own1 ag_30 rfl mm_ rfl) rfl ?_
   refine JL.callPg rfl rfl  ca_72 rfl (natsame_fn (by assumption) (by assumption)) rfl ?_
   refine Ru 2 rfl ?_
   refine Bs 17 rfl (fun hc6 => ?_) fun hc6 => ?_
   ·
    refine Ru 1 rfl ?_
    refine JL.opg rfl rfl  (RunV.own1 ag_30 rfl mm_ rfl) rfl ?_
    refine Ru 1 rfl ?_
    refine JL.opg rfl rfl  (RunV.own1 ag_30 rfl mm_ rfl) rfl ?_
    refine JL.callPg rfl rfl  ca_72 rfl (natsame_fn (by assumption) (by assumption)) rfl ?_
    refine Ru 2 rfl ?_
    refine Nk [4] rfl ?_
    exact J.retP (RetV.one rfl rfl) (congrArg Value.bool (by simp_all)) rfl
   refine Ru 7 rfl ?_
   refine Nk [4] rfl ?_
   exact J.retP (RetV.one rfl rfl) (congrArg Value.bool (by simp_all)) rfl
  refine Ru 14 rfl ?_
  refine Nk [4] rfl ?_
  exact J.retP (RetV.one rfl rfl) (congrArg Value.bool (by simp_all)) rfl
theorem heavy_fn {an ae ad : Option Addr} {cn ce cd ln le ld : Nat} {h : Part} : Pure Tryz.prog 14 [.agg #[.slice an ln cn, .slice ae le ce, .slice ad ld cd]] h (.bool (decide (26 < ln ∨ 26 < le ∨ 26 < ld))) := by
  refine Fn.intro Tryz.func14 rfl Tryz.ntmps14 rfl (fun e he => ?_)
  refine J.weak [(0, _)] ⟨rfl, trivial⟩ ?_
  refine Sr ?_
  refine JL.box rfl rfl rfl (fun b1 => ?_)
  refine Ru 1 rfl ?_
  refine JL.nil ?_
  refine Sr ?_
  refine Ru 1 rfl ?_
  refine JL.op (RunV.own1 ag_30 rfl mm_ rfl) rfl ?_
  refine Ru 3 rfl ?_
  refine Bs 7 rfl (fun hc2 => ?_) fun hc2 => ?_
  ·
   refine Ru 12 rfl ?_
   refine Nk [2] rfl ?_
   exact J.retP (RetV.one rfl rfl) (congrArg Value.bool (by first | exact decide_eq_decide.2 (by omega) | exact (decide_eq_true (by omega)).symm | exact (decide_eq_false (by omega)).symm)) rfl
  refine Ru 1 rfl ?_
  refine JL.opg rfl rfl  (RunV.own1 ag_30 rfl mm_ rfl) rfl ?_
  refine Ru 4 rfl ?_
  refine Bs 13 rfl (fun hc3 => ?_) fun hc3 => ?_
  ·
   refine Ru 6 rfl ?_
   refine Nk [2] rfl ?_
   exact J.retP (RetV.one rfl rfl) (congrArg Value.bool (by first | exact decide_eq_decide.2 (by omega) | exact (decide_eq_true (by omega)).symm | exact (decide_eq_false (by omega)).symm)) rfl
  refine Ru 1 rfl ?_
  refine JL.opg rfl rfl  (RunV.own1 ag_30 rfl mm_ rfl) rfl ?_
  refine Ru 4 rfl ?_
  refine Nk [2] rfl ?_
  exact J.retP (RetV.one rfl rfl) (congrArg Value.bool (by first | exact decide_eq_decide.2 (by omega) | exact (decide_eq_true (by omega)).symm | exact (decide_eq_false (by omega)).symm)) rfl
end Go.Proofs.YtmngjbefnloljaaGreatDoor
namespace Go.Proofs.YtmngjbefnloljaaGreatDoor
open Go Go.RowKit
set_option maxRecDepth 100000
theorem ag_168 : aggT Tryz.prog 168 = some (some 8) := by kernel_rfl
theorem ar_170 : arT Tryz.prog 170 = some (8, 1) := by kernel_rfl
theorem az_168 : arZ Tryz.prog 168 = some ([.int .u64 0, .int .u64 0, .int .u64 0, .int .u64 0, .int .u64 0, .int .u64 0, .int .u64 0, .int .u64 0], 1) := by kernel_rfl
theorem ca_112 : callT Tryz.prog 112 = true := by kernel_rfl
theorem ni_169 : niT Tryz.prog 169 = true := by kernel_rfl
theorem ni_173 : niT Tryz.prog 173 = true := by kernel_rfl
theorem pl_172 : plT Tryz.prog 172 = some ([.int .u32 0, .int .u32 0, .int .u32 0, .int .u32 0, .int .u32 0, .int .u32 0, .int .u32 0, .int .u32 0], [(0, 8)]) := by kernel_rfl
theorem pl_175 : plT Tryz.prog 175 = some ([.int .u64 0, .int .u64 0, .int .u64 0, .int .u64 0, .int .u64 0, .int .u64 0, .int .u64 0, .int .u64 0], [(0, 8)]) := by kernel_rfl
theorem zr_168 : zeroT Tryz.prog 168 = some [.int .u64 0, .int .u64 0, .int .u64 0, .int .u64 0, .int .u64 0, .int .u64 0, .int .u64 0, .int .u64 0] := by kernel_rfl
section
variable {f : Fr} {S : Sig} {h : Part} {L : List Ent} {ty T yt : TypeId} {xo yo : Operand}
theorem RunV.eql_nil_nil (hT : ifT f.P T = true) (hx : ev S xo = some .nilIface) : RunV f S h L (.binOp .eql T xo (.const .nilIface) yt) ty (.bool true) := RunV.bin (y := .const .nilIface) hx rfl fun w => by
  unfold ifT at hT
  split at hT <;> try cases hT
  rename_i ms hu
  have key : ∀ m : Nat, (Op.equalIn (m + 1) T .nilIface .nilIface).run f.P w = .ok true w := fun m => by simp [Op.equalIn, run_underlying hu]
  simp only [go_sem, binOp, Op.equal, Op.maxDepth]
  simp [eqGuard, key 9999]
theorem RunV.eql_iface_nil {t : TypeId} {v : Value} (hT : ifT f.P T = true) (hx : ev S xo = some (.iface t v)) : RunV f S h L (.binOp .eql T xo (.const .nilIface) yt) ty (.bool false) := RunV.bin (y := .const .nilIface) hx rfl fun w => by
  unfold ifT at hT
  split at hT <;> try cases hT
  rename_i ms hu
  have key : ∀ m : Nat, (Op.equalIn (m + 1) T (.iface t v) .nilIface).run f.P w = .ok false w := fun m => by simp [Op.equalIn, run_underlying hu]
  simp only [go_sem, binOp, Op.equal, Op.maxDepth]
  simp [eqGuard, key 9999]
def arE (P : Program) (T : Nat) : Option (Nat × Bool) :=
  match P.underlying T with
  | some (.array n e) => some (n, aggT P e == some none)
  | _ => none
theorem RunV.indexAgg {len m : Nat} {k : IntKind} {i : Int} {cs : List Value} {v : Value} (hT : arE f.P T = some (len, true)) (hx : ev S xo = some (.agg cs.toArray)) (hy : ev S yo = some (.int k i)) (hi : i = (m : Int)) (h1 : m < len) (hv : cs[m]? = some v) :
    RunV f S h L (.index T xo yo) ty v := fun a w s _ _ _ _ => by
  subst hi
  have h0 : (0 : Int) ≤ m := by omega
  unfold arE at hT
  split at hT <;> try cases hT
  rename_i n e hu
  simp only [Option.some.injEq, Prod.mk.injEq, beq_iff_eq] at hT
  obtain ⟨rfl, he⟩ := hT
  have ⟨e1, e2⟩ := aggT_one he w
  simp [execOp, s.eval hx, s.eval hy, Instr.index, asIntOf, run_underlying hu, h0, h1, e2, part, e1, hv]
end
def c64 (l : List UInt64) : List Value := l.map fun x => .int .u64 (x.toNat : Int)
theorem c64_at (l : List UInt64) (i : Nat) (h : i < l.length) : (c64 l)[i]? = some (.int .u64 ((l[i]'h).toNat : Int)) := by simp [c64, h]
def sqL : List UInt64 := [7640891576956012808, 13503953896175478587, 4354685564936845355, 11912009170470909681, 5840696475078001361, 11170449401992604703, 2270897969802886507, 6620516959819538809]
theorem shaoid_fn {n : Int} {h : Part} : Pure Tryz.prog 76 [.int .i64 n] h (.string ⟨(if n = 256 then [50, 46, 49, 54, 46, 56, 52, 48, 46, 49, 46, 49, 48, 49, 46, 51, 46, 52, 46, 50, 46, 49] else if n = 384 then [50, 46, 49, 54, 46, 56, 52, 48, 46, 49, 46, 49, 48, 49, 46, 51, 46, 52, 46, 50, 46, 50] else if n = 512 then [50, 46, 49, 54, 46, 56, 52, 48, 46, 49, 46, 49, 48, 49, 46, 51, 46, 52, 46, 50, 46, 51] else [] : List UInt8).toArray⟩) := by
  refine Fn.intro Tryz.func76 rfl Tryz.ntmps76 rfl (fun e he => ?_)
  refine J.weak [(0, _)] ⟨rfl, trivial⟩ ?_
  refine Sr ?_
  refine Ru 1 rfl ?_
  refine JL.nil ?_
  refine J.seq ?_
  refine Sr ?_
  refine Ru 1 rfl ?_
  refine JL.nil ?_
  refine J.block ?_
  refine Sr ?_
  refine Ru 2 rfl ?_
  refine JL.nil ?_
  refine Cs rfl (fun hc1 => ?_) fun hc1 => ?_
  ·
   refine Sr ?_
   refine Ru 1 rfl ?_
   refine Nk [2] rfl ?_
   rw [if_pos hc1]; exact J.retP (RetV.one rfl rfl) rfl rfl
  refine Sr ?_
  refine Ru 2 rfl ?_
  refine Nk [6, 3, 2] rfl ?_
  refine Cs rfl (fun hc2 => ?_) fun hc2 => ?_
  ·
   refine Sr ?_
   refine Ru 1 rfl ?_
   refine JL.nil ?_
   rw [if_neg (by omega), if_pos hc2]; exact J.retP (RetV.one rfl rfl) rfl rfl
  refine Sr ?_
  refine Ru 2 rfl ?_
  refine JL.nil ?_
  refine Cs rfl (fun hc3 => ?_) fun hc3 => ?_
  ·
   refine Sr ?_
   refine Ru 1 rfl ?_
   refine Nk [2] rfl ?_
   rw [if_neg (by omega), if_neg (by omega), if_pos hc3]; exact J.retP (RetV.one rfl rfl) rfl rfl
  refine J.skip ?_
  refine Kp [2] rfl ?_
  refine Sr ?_
  refine Ru 1 rfl ?_
  refine JL.nil ?_
  rw [if_neg (by omega), if_neg (by omega), if_neg (by omega)]; exact J.retP (RetV.one rfl rfl) rfl rfl
def someH (n : Int) : Prop := n = 256 ∨ n = 384 ∨ n = 512
instance (n : Int) : Decidable (someH n) := inferInstanceAs (Decidable (_ ∨ _ ∨ _))
theorem first_none {n : Int} {h : Part} (hn : ¬ someH n) : FnR Tryz.prog 112 [.int .i64 n] h (fun v _ => v = .nilIface) := by
  unfold someH at hn
  refine Fn.intro Tryz.func112 rfl Tryz.ntmps112 rfl (fun e he => ?_)
  refine J.weak [(0, _)] ⟨rfl, trivial⟩ ?_
  have hh0 := Part.le.refl h
  refine Sr ?_
  refine Ru 1 rfl ?_
  refine JL.nil ?_
  refine Sr ?_
  refine JL.op (RunV.buildArr az_168 rfl rfl rfl) rfl ?_
  refine JL.alloc zr_168 rfl (fun b1 => ?_)
  refine JL.storeA ag_168 rfl rfl dl_ (by first | rfl) z31_ (by first | rfl) ?_
  refine JL.nil ?_
  refine J.seq ?_
  refine Sr ?_
  refine Ru 1 rfl ?_
  refine JL.nil ?_
  refine J.block ?_
  refine Sr ?_
  refine Ru 2 rfl ?_
  refine JL.nil ?_
  refine Cs rfl (fun hc2 => ?_) fun hc2 => ?_
  ·
   exfalso; omega
  refine Sr ?_
  refine Ru 2 rfl ?_
  refine Nk [29, 8, 3, 2] rfl ?_
  refine Cs rfl (fun hc3 => ?_) fun hc3 => ?_
  ·
   exfalso; omega
  refine Sr ?_
  refine Ru 2 rfl ?_
  refine JL.nil ?_
  refine Cs rfl (fun hc4 => ?_) fun hc4 => ?_
  ·
   exfalso; omega
  refine J.skip ?_
  refine Kp [2] rfl ?_
  refine Sr ?_
  refine Ru 1 rfl ?_
  refine JL.nil ?_
  exact J.retR (RetV.one rfl rfl) rfl
theorem first_some {n : Int} {h : Part} (hn : someH n) : FnR Tryz.prog 112 [.int .i64 n] h (fun v _ => ∃ t u, v = .iface t u) := by
  unfold someH at hn
  have hsl : sqL.length = 8 := rfl
  refine Fn.intro Tryz.func112 rfl Tryz.ntmps112 rfl (fun e he => ?_)
  refine J.weak [(0, _)] ⟨rfl, trivial⟩ ?_
  have hh0 := Part.le.refl h
  refine Sr ?_
  refine Ru 1 rfl ?_
  refine JL.nil ?_
  refine Sr ?_
  refine JL.op (RunV.buildArr az_168 rfl rfl rfl) rfl ?_
  refine JL.alloc zr_168 rfl (fun b1 => ?_)
  refine JL.storeA ag_168 rfl rfl dl_ (by first | rfl) z31_ (by first | rfl) ?_
  refine JL.nil ?_
  refine J.seq ?_
  refine Sr ?_
  refine Ru 1 rfl ?_
  refine JL.nil ?_
  refine J.block ?_
  refine Sr ?_
  refine Ru 2 rfl ?_
  refine JL.nil ?_
  refine Cs rfl (fun hc2 => ?_) fun hc2 => ?_
  ·
   refine Sr ?_
   refine JL.op (RunV.build (cs := [.int .u32 0, .int .u32 0, .int .u32 0, .int .u32 0, .int .u32 0, .int .u32 0, .int .u32 0, .int .u32 0]) pl_172 rfl rfl) rfl ?_
   refine JL.box rfl rfl rfl (fun b3 => ?_)
   refine Ru 1 rfl ?_
   refine Nk [4, 3, 2] rfl ?_
   refine J.seq ?_
   refine Sr ?_
   refine JL.op (RunV.ownA ag_168 rfl mm_ (by first | rfl)) rfl ?_
   refine Ru 1 rfl ?_
   refine JL.nil ?_
   refine J.block ?_
   refine J.loop (fun t_ S_ h_ L_ => ∃ (i : Nat) (cs : List Value), t_ = 8 - i ∧ S_ = [(4, .pointer (some ⟨b3, 0, none⟩)), (13, .agg (c64 sqL).toArray), (14, .int .i64 i)] ∧ h = h_ ∧ L_ = [.blk b3 172 cs, .blk b1 168 (c64 sqL)] ∧ (i ≤ 8 ∧ cs.length = 8)) ⟨_, _, ?_, ⟨0, [.int .u32 0, .int .u32 0, .int .u32 0, .int .u32 0, .int .u32 0, .int .u32 0, .int .u32 0, .int .u32 0], rfl, rfl, rfl, rfl, ⟨by omega, rfl⟩⟩⟩ ?_
   ·
    exact z4_
   rintro _ _ _ _ ⟨i, cs, rfl, rfl, rfl, rfl, hi, hcl⟩
   refine Sr ?_
   refine Ru 1 rfl ?_
   refine JL.nil ?_
   refine J.seq ?_
   refine Cs rfl (fun hc4 => ?_) fun hc4 => ?_
   ·
    have hi' : i < 8 := (by omega); have hx64 := (sqL[i]'(by omega)).toNat_lt
    refine J.skip ?_
    refine J.seq ?_
    refine J.block ?_
    refine Sr ?_
    refine Ru 1 rfl ?_
    refine JL.op (RunV.indexAgg (len := 8) (m := i) (by kernel_rfl) rfl rfl rfl hi' (c64_at sqL i (by omega))) rfl ?_
    refine Ru 2 rfl ?_
    refine JL.nil ?_
    refine Rg ?_
    refine Ru 3 rfl ?_
    refine JL.op (RunV.shr_u64 4294967296 rfl rfl (by decide) (by decide) (by decide)) rfl ?_
    refine JL.op (RunV.toW ((sqL[i]'(by omega)).toNat / 4294967296) cv_63_103 rfl (by rw [Int.natCast_ediv]; rfl)) rfl ?_
    refine Ru 2 rfl ?_
    refine JL.op (RunV.indexArr ar_170 rfl rfl z9_ (by omega)) rfl ?_
    refine JL.store1 ag_103 rfl rfl rfl dl_ z32_ ?_
    refine JL.nil ?_
    refine Rg ?_
    refine JL.op ai_ rfl ?_
    refine Ru 1 rfl ?_
    refine JL.nil ?_
    refine ⟨_, ?_, _, ?_, ⟨i + 1, _, rfl, rfl, rfl, rfl, ⟨by omega, by rw [List.length_set]; exact hcl⟩⟩⟩
    ·
     omega
    exact z4_
   refine J.exit ?_
   refine Sr ?_
   refine Ru 1 rfl ?_
   refine JL.op (RunV.makeInterface ni_169 rfl) rfl ?_
   refine Ru 1 rfl ?_
   refine Nk [2] rfl ?_
   exact J.retR (RetV.one rfl rfl) ⟨_, _, rfl⟩
  refine Sr ?_
  refine Ru 2 rfl ?_
  refine Nk [29, 8, 3, 2] rfl ?_
  refine Cs rfl (fun hc5 => ?_) fun hc5 => ?_
  ·
   refine Sr ?_
   refine JL.op (RunV.buildArr az_168 rfl rfl rfl) rfl ?_
   refine JL.op (RunV.build (cs := [_, _, _, _, _, _, _, _]) pl_175 rfl rfl) rfl ?_
   refine JL.box rfl rfl rfl (fun b6 => ?_)
   refine JL.op (RunV.makeInterface ni_173 rfl) rfl ?_
   refine Ru 1 rfl ?_
   refine Nk [2] rfl ?_
   exact J.retR (RetV.one rfl rfl) ⟨_, _, rfl⟩
  refine Sr ?_
  refine Ru 2 rfl ?_
  refine JL.nil ?_
  refine Cs rfl (fun hc7 => ?_) fun hc7 => ?_
  ·
   refine Sr ?_
   refine JL.op (RunV.ownA ag_168 rfl mm_ (by first | rfl)) rfl ?_
   refine JL.op (RunV.build (cs := [_, _, _, _, _, _, _, _]) pl_175 rfl rfl) rfl ?_
   refine JL.box rfl rfl rfl (fun b8 => ?_)
   refine JL.op (RunV.makeInterface ni_173 rfl) rfl ?_
   refine Ru 1 rfl ?_
   refine Nk [2] rfl ?_
   exact J.retR (RetV.one rfl rfl) ⟨_, _, rfl⟩
  refine J.skip ?_
  refine Kp [2] rfl ?_
  refine Sr ?_
  refine Ru 1 rfl ?_
  refine JL.nil ?_
  exfalso; omega
def shaSize (n : Int) : Int := if someH n then n / 8 else 0
theorem shasize_fn {n : Int} {h : Part} : FnR Tryz.prog 74 [.int .i64 n] h (fun v _ => v = .int .i64 (shaSize n)) := by
  by_cases hn : someH n
  · have hs : shaSize n = n / 8 := if_pos hn
    rw [hs]
    have hn2 := hn
    unfold someH at hn2
    refine Fn.intro Tryz.func74 rfl Tryz.ntmps74 rfl (fun e he => ?_)
    refine J.weak [(0, _)] ⟨rfl, trivial⟩ ?_
    have hh0 := Part.le.refl h
    refine Sr ?_
    refine Ru 1 rfl ?_
    refine JL.nil ?_
    refine J.seq ?_
    refine Sr ?_
    refine Ru 1 rfl ?_
    refine JL.callR ca_112 rfl (first_some hn) rfl ?_
    rintro _ h1 hle1 ⟨t, u, rfl⟩
    replace hh0 := hh0.mono hle1
    refine JL.op (RunV.eql_iface_nil (by kernel_rfl) rfl) rfl ?_
    refine JL.nil ?_
    refine J.cond_f rfl ?_
    refine J.skip ?_
    refine Sr ?_
    refine Ru 1 rfl ?_
    refine JL.op z14_ rfl ?_
    refine Ru 1 rfl ?_
    refine Nk [2] rfl ?_
    exact J.retR (RetV.one rfl rfl) rfl
  · have hs : shaSize n = 0 := if_neg hn
    rw [hs]
    refine Fn.intro Tryz.func74 rfl Tryz.ntmps74 rfl (fun e he => ?_)
    refine J.weak [(0, _)] ⟨rfl, trivial⟩ ?_
    have hh0 := Part.le.refl h
    refine Sr ?_
    refine Ru 1 rfl ?_
    refine JL.nil ?_
    refine J.seq ?_
    refine Sr ?_
    refine Ru 1 rfl ?_
    refine JL.callR ca_112 rfl (first_none hn) rfl ?_
    rintro _ h1 hle1 rfl
    replace hh0 := hh0.mono hle1
    refine JL.op (RunV.eql_nil_nil (by kernel_rfl) rfl) rfl ?_
    refine JL.nil ?_
    refine J.cond_t rfl ?_
    refine Sr ?_
    refine Ru 1 rfl ?_
    refine JL.nil ?_
    exact J.retR (RetV.one rfl rfl) rfl
end Go.Proofs.YtmngjbefnloljaaGreatDoor
namespace Go.Proofs.YtmngjbefnloljaaGreatDoor
open Go Go.RowKit
set_option maxRecDepth 100000
def oidH (n : Int) : List UInt8 := if n = 256 then [50, 46, 49, 54, 46, 56, 52, 48, 46, 49, 46, 49, 48, 49, 46, 51, 46, 52, 46, 50, 46, 49] else if n = 384 then [50, 46, 49, 54, 46, 56, 52, 48, 46, 49, 46, 49, 48, 49, 46, 51, 46, 52, 46, 50, 46, 50] else if n = 512 then [50, 46, 49, 54, 46, 56, 52, 48, 46, 49, 46, 49, 48, 49, 46, 51, 46, 52, 46, 50, 46, 51] else []
theorem shaoid_fn' {n : Int} {h : Part} : Pure Tryz.prog 76 [.int .i64 n] h (.string ⟨(oidH n).toArray⟩) := shaoid_fn
end Go.Proofs.YtmngjbefnloljaaGreatDoor
namespace Go.Proofs.YtmngjbefnloljaaGreatDoor
open Go Go.RowKit
set_option maxRecDepth 100000
theorem ca_66 : callT Tryz.prog 66 = true := by kernel_rfl
theorem rseq_fn {b : Option Addr} {cb m : Nat} {h : Part} : FnR Tryz.prog 66 [.slice b m cb] h (fun v _ => v = .agg #[.int .i64 0, .int .i64 16, .bool true, .slice none 0 0, .slice b m cb]) := by
  refine Fn.intro Tryz.func66 rfl Tryz.ntmps66 rfl (fun e he => ?_)
  refine J.weak [(0, _)] ⟨rfl, trivial⟩ ?_
  have hh0 := Part.le.refl h
  refine Sr ?_
  refine JL.alloc zr_75 rfl (fun b1 => ?_)
  refine JL.nil ?_
  refine Sr ?_
  refine Ru 1 rfl ?_
  refine JL.op (RunV.build (cs := [.int .i64 0, _, _, .slice none 0 0, _]) pl_75 rfl rfl) rfl ?_
  refine JL.storeA ag_75 rfl rfl dl_ z22_ z17_ z6_ ?_
  refine JL.nil ?_
  exact J.retR (RetV.cell rfl rfl ag_75 mm_ z6_) rfl
def oidN (n : Int) : Nd := .mk 0 6 false ((oidB (oidH n)).getD []) []
def infoN (n : Int) (d : List UInt8) : Nd := .mk 0 16 true [] [.mk 0 16 true [] [oidN n, .mk 0 5 false [] []], .mk 0 4 false d []]
theorem oidH_len (n : Int) : (oidH n).length ≤ 30 := by
  unfold oidH; split
  · decide
  · split
    · decide
    · split <;> decide
def infoL (n : Int) (d : List UInt8) : List UInt8 := (infoN n d).put.getD []
def formE (n : Int) (d : List UInt8) (k : Int) : Int := if shaSize n = 0 ∨ (d.length : Int) ≠ shaSize n then 40 else if k < (infoL n d).length + 11 ∨ 512 < k then 50 else 0
def formL (n : Int) (d : List UInt8) (k : Int) : List UInt8 := if formE n d k = 0 then [0, 1] ++ List.replicate (k.toNat - (infoL n d).length - 3) 255 ++ [0] ++ infoL n d else []
end Go.Proofs.YtmngjbefnloljaaGreatDoor
namespace Go.Proofs.YtmngjbefnloljaaGreatDoor
open Go Go.RowKit
set_option maxRecDepth 100000
theorem ca_64 : callT Tryz.prog 64 = true := by kernel_rfl
def sizeB (N : Nat) : Nat := (bl N + 7) / 8
def kformE (n : Int) (d : List UInt8) (N E D : Nat) : Int := if formE n d 512 ≠ 0 then formE n d 512 else if rightB N E D = true then formE n d (sizeB N) else 50
def kformL (n : Int) (d : List UInt8) (N E D : Nat) : List UInt8 := if formE n d 512 ≠ 0 then [] else if rightB N E D = true then formL n d (sizeB N) else []
theorem formL_len (n : Int) (d : List UInt8) (k : Int) : (formL n d k).length ≤ 512 := by
  unfold formL
  split
  case isFalse => simp
  case isTrue h =>
    unfold formE at h
    split at h
    · cases h
    · split at h
      · cases h
      · rename_i hk
        simp only [List.length_append, List.length_cons, List.length_nil, List.length_replicate]
        omega
theorem kformL_len (n : Int) (d : List UInt8) (N E D : Nat) : (kformL n d N E D).length ≤ 512 := by
  unfold kformL
  split
  · simp
  · split
    · exact formL_len _ _ _
    · simp
theorem kform_right {n : Int} {d : List UInt8} {N E D : Nat} (h : kformE n d N E D = 0) : rightB N E D = true := by
  unfold kformE at h
  split at h
  · rename_i h1; exact absurd h h1
  · split at h
    · assumption
    · cases h
def numW (s k : Nat) : List UInt8 := natW (d32 (toL s)) k
def sigE (n : Int) (d : List UInt8) (N E D : Nat) : Int := if kformE n d N E D ≠ 0 then kformE n d N E D else if bl D = 0 then 50 else 0
def sigL (n : Int) (d : List UInt8) (N E D : Nat) : List UInt8 := if kformE n d N E D ≠ 0 then [] else if bl D = 0 then [] else numW (powV (beV (kformL n d N E D)) D N) (sizeB N)
theorem pow_fit (X E N : Nat) (hN : 0 < N) : bl (powV X E N) ≤ 8 * sizeB N := by
  have h1 : powV X E N < N := by unfold powV; rw [if_neg (by omega)]; exact Nat.mod_lt _ hN
  have := bl_le _ _ (Nat.lt_trans h1 (lt_bl N))
  unfold sizeB; omega
theorem toL_beV_len (l : List UInt8) : (toL (beV l)).length ≤ l.length := by
  rw [toL_len]
  refine nd_le _ _ (Nat.lt_of_lt_of_le (beV_lt l) ?_)
  rw [pow32, show (256 : Nat) = 2 ^ 8 from rfl, ← Nat.pow_mul]
  exact Nat.pow_le_pow_right (by decide) (by omega)
def proveE (n : Int) (d s : List UInt8) (N E D : Nat) : Int := if kformE n d N E D ≠ 0 then kformE n d N E D else if s.length ≠ sizeB N ∨ N ≤ beV s then 63 else if powV (beV s) E N = beV (kformL n d N E D) then 0 else 63
end Go.Proofs.YtmngjbefnloljaaGreatDoor
namespace Go.Proofs.YtmngjbefnloljaaGreatDoor
open Go Go.RowKit
set_option maxRecDepth 100000
def mp : Nat → Nat → Nat → Nat → Nat
  | 0, _, _, N => 1 % N
  | f + 1, X, E, N => if E % 2 = 1 then X * mp f (X * X % N) (E / 2) N % N else mp f (X * X % N) (E / 2) N
theorem mp_ok : ∀ (f X E N : Nat), E < 2 ^ f → mp f X E N = X ^ E % N
  | 0, X, E, N, h => by
    have : E = 0 := by simpa using h
    subst this; simp [mp]
  | f + 1, X, E, N, h => by
    have ih := mp_ok f (X * X % N) (E / 2) N (by rw [Nat.pow_succ] at h; omega)
    rw [mp, ih, ← Nat.pow_mod (X * X) (E / 2) N]
    have e1 : (X * X) ^ (E / 2) = X ^ (2 * (E / 2)) := by rw [← Nat.pow_two, ← Nat.pow_mul]
    rw [e1]
    split
    · rename_i h2
      rw [Nat.mul_mod_mod, ← Nat.pow_succ']
      congr 2; omega
    · rename_i h2
      congr 2; omega
def d0 : List UInt8 := List.replicate 32 1
theorem kn_right : rightB (keyN 0) (keyE 0) (vL (expL 0)) = true := by decide +kernel
theorem kn_size : sizeB (keyN 0) = 64 := by decide +kernel
theorem kn_form : formE 256 d0 62 = 0 ∧ formE 256 d0 61 = 50 ∧ formE 256 d0 512 = 0 ∧ formE 256 d0 64 = 0 := by decide +kernel
theorem kn_list : (formL 256 d0 62).length = 62 ∧ (formL 256 d0 62)[1]? = some 1 ∧ (formL 256 d0 62)[10]? = some 0 ∧ (formL 256 d0 62)[11]? = some 48 := by decide +kernel
def n0 : Nat := keyN 0
def x0 : Nat := keyE 0
def p0 : Nat := vL (expL 0)
def m0 : Nat := beV (formL 256 d0 64)
def s0 : Nat := mp 512 m0 p0 n0
theorem kn_pow : mp 17 s0 x0 n0 = m0 ∧ p0 < 2 ^ 512 ∧ x0 < 2 ^ 17 ∧ 0 < n0 ∧ bl p0 ≠ 0 ∧ beV (numW s0 64) = s0 ∧ (numW s0 64).length = 64 ∧ s0 < n0 := by decide +kernel
theorem kn_kform : kformE 256 d0 n0 x0 p0 = 0 ∧ kformL 256 d0 n0 x0 p0 = formL 256 d0 64 := by
  have h1 := kn_form.2.2.1
  have h2 := kn_form.2.2.2
  have h3 : rightB n0 x0 p0 = true := kn_right
  have h4 : sizeB n0 = 64 := kn_size
  refine ⟨?_, ?_⟩
  · unfold kformE
    rw [if_neg (by rw [h1]; decide), if_pos h3, h4]; exact h2
  · unfold kformL
    rw [if_neg (by rw [h1]; decide), if_pos h3, h4]; rfl
theorem kn_sign : sigE 256 d0 n0 x0 p0 = 0 ∧ sigL 256 d0 n0 x0 p0 = numW s0 64 := by
  obtain ⟨k1, k2⟩ := kn_kform
  obtain ⟨-, q1, -, q2, q3, -⟩ := kn_pow
  have h4 : sizeB n0 = 64 := kn_size
  refine ⟨by unfold sigE; rw [if_neg (by rw [k1]; decide), if_neg q3], ?_⟩
  unfold sigL
  rw [if_neg (by rw [k1]; decide), if_neg q3, k2, h4]
  have e : powV (beV (formL 256 d0 64)) p0 n0 = s0 := by
    unfold powV s0 m0
    rw [if_neg (by omega), mp_ok 512 _ _ _ q1]
  rw [e]
theorem kn_prove : proveE 256 d0 (numW s0 64) n0 x0 p0 = 0 := by
  obtain ⟨k1, k2⟩ := kn_kform
  obtain ⟨q0, -, q1, q2, -, q4, q5, q6⟩ := kn_pow
  have h4 : sizeB n0 = 64 := kn_size
  unfold proveE
  rw [if_neg (by rw [k1]; decide), if_neg (by rw [q4, q5, h4]; omega), q4, k2]
  refine if_pos ?_
  unfold powV
  rw [if_neg (by omega), ← mp_ok 17 s0 x0 n0 q1, q0]
  rfl
theorem numW_be (s k : Nat) : numW s k = be k s := by unfold numW; rw [natW_be, vL_toL]
theorem bl_256 {s k : Nat} (h : bl s ≤ 8 * k) : s < 256 ^ k := by
  refine Nat.lt_of_lt_of_le (lt_bl s) ?_
  rw [show (256 : Nat) = 2 ^ 8 from rfl, ← Nat.pow_mul]
  exact Nat.pow_le_pow_right (by decide) h
theorem numW_iff {s k : Nat} {m : List UInt8} (hm : m.length = k) (hs : bl s ≤ 8 * k) : numW s k = m ↔ s = beV m := by
  rw [numW_be]
  constructor
  · intro h
    rw [← h, beV_be, Nat.mod_eq_of_lt (bl_256 hs)]
  · intro h
    rw [h, ← hm, be_beV]
theorem formL_len_eq {n : Int} {d : List UInt8} {k : Int} (h : formE n d k = 0) (hk : 0 ≤ k) : ((formL n d k).length : Int) = k := by
  unfold formL
  rw [if_pos h]
  unfold formE at h
  split at h
  · cases h
  · split at h
    · cases h
    · rename_i hk2
      simp only [List.length_append, List.length_cons, List.length_nil, List.length_replicate]
      omega
theorem kformL_size {n : Int} {d : List UInt8} {N E D : Nat} (h : kformE n d N E D = 0) : (kformL n d N E D).length = sizeB N := by
  have hr := kform_right h
  unfold kformE at h
  split at h
  · rename_i h1; exact absurd h h1
  · rename_i h1
    have := formL_len_eq h (by omega)
    unfold kformL
    rw [if_neg h1, if_pos hr]
    omega
end Go.Proofs.YtmngjbefnloljaaGreatDoor
namespace Go.Proofs.YtmngjbefnloljaaGreatDoor
open Go Go.RowKit
set_option maxRecDepth 100000
theorem ca_61 : callT Tryz.prog 61 = true := by kernel_rfl
theorem ca_62 : callT Tryz.prog 62 = true := by kernel_rfl
theorem ca_74 : callT Tryz.prog 74 = true := by kernel_rfl
theorem ca_75 : callT Tryz.prog 75 = true := by kernel_rfl
theorem ca_76 : callT Tryz.prog 76 = true := by kernel_rfl
def infoO (O d : List UInt8) : Nd := .mk 0 16 true [] [.mk 0 16 true [] [.mk 0 6 false O [], .mk 0 5 false [] []], .mk 0 4 false d []]
theorem infoN_O (n : Int) (d : List UInt8) : infoN n d = infoO ((oidB (oidH n)).getD []) d := rfl
theorem size_some {n : Int} (h : shaSize n ≠ 0) : someH n := by
  unfold shaSize at h
  by_cases hn : someH n
  · exact hn
  · rw [if_neg hn] at h; exact absurd rfl h
theorem oidH_ok {n : Int} (h : someH n) : (oidB (oidH n)).isSome = true ∧ valB 6 ((oidB (oidH n)).getD []) = true ∧ ((oidB (oidH n)).getD []).length = 9 := by
  unfold someH at h
  rcases h with rfl | rfl | rfl <;> decide +kernel
theorem infoO_put {O d : List UInt8} (h1 : valB 6 O = true) (h2 : O.length ≤ 1000) (h3 : d.length ≤ 1000) : ∃ t, (infoO O d).put = some t ∧ t.length ≤ O.length + d.length + 40 := by
  have k1 : okN 0 6 false O [] = true := by
    unfold okN; rw [show mayB 0 6 false = true from by decide, h1]; simp
  have k2 : okN 0 5 false [] [] = true := by decide
  have k3 : okN 0 4 false d [] = true := by
    unfold okN; rw [show mayB 0 4 false = true from by decide, valB_0 (by omega)]; simp
  have k4 : ∀ ks, okN 0 16 true [] ks = true := fun ks => by
    unfold okN; rw [show mayB 0 16 true = true from by decide]; simp
  have b1 := headB_len 0 6 false O.length
  have b2 := headB_len 0 5 false 0
  have b3 := headB_len 0 4 false d.length
  refine ⟨_, by simp only [infoO, Nd.put, Nd.putL, k1, k2, k3, k4, if_true, Option.map_some, Bool.false_and, decide_eq_true_eq, Bool.and_self, show (decide ((16 : Int) = 17)) = false from rfl, Bool.and_false, Bool.false_eq_true, if_false]; rfl, ?_⟩
  simp only [List.length_append, List.length_nil]
  have b4 := headB_len 0 16 true (([] ++ (headB 0 6 false O.length ++ O)) ++ (headB 0 5 false ([] : List UInt8).length ++ [])).length
  simp only [List.length_append, List.length_nil] at b4
  generalize (headB 0 6 false O.length).length = z1 at *
  generalize (headB 0 5 false 0).length = z2 at *
  generalize (headB 0 4 false d.length).length = z3 at *
  generalize (headB 0 16 true (0 + (z1 + O.length) + (z2 + 0))).length = z4 at *
  have b5 := headB_len 0 16 true (0 + (z4 + (0 + (z1 + O.length) + (z2 + 0))) + (z3 + d.length))
  omega
theorem info_wr {n : Int} {d : List UInt8} (hz1 : shaSize n ≠ 0) (hz2 : (d.length : Int) = shaSize n) : (infoN n d).wr = (infoL n d, 0) ∧ (infoL n d).length ≤ 200 := by
  have h1 := oidH_ok (size_some hz1)
  have hd : d.length ≤ 64 := by
    have : shaSize n ≤ 64 := by unfold shaSize; split <;> (try unfold someH at *) <;> omega
    omega
  obtain ⟨t, ht, htl⟩ := infoO_put (O := (oidB (oidH n)).getD []) (d := d) h1.2.1 (by rw [h1.2.2]; decide) (by omega)
  have e : infoL n d = t := by unfold infoL; rw [infoN_O, ht]; rfl
  rw [h1.2.2] at htl
  refine ⟨?_, by rw [e]; omega⟩
  unfold Nd.wr
  rw [infoN_O, ht, e]
  simp only
  rw [if_neg (by simp [infoO, Nd.rk, Nd.rkL]), if_neg (by omega)]
theorem cons_fn' {cl t : Int} {ks : List Nd} {a : Option Addr} {c c' m : Nat} {h : Part} (hk : SlR NdR 5 h a c' ks) (hm : m = ks.length) (hc : c = c') (hz : Nd.szL ks ≤ 1099511627776) :
    FnR Tryz.prog 62 [.int .i64 cl, .int .i64 t, .slice a m c] h (fun v h' => ∃ cs, v = .agg (List.toArray cs) ∧ NdR h' cs (.mk cl t true [] ks)) := by
  subst hm hc; exact cons_fn hk hz
theorem infoO_fn {n : Int} {a : Option Addr} {c : Nat} {d O : List UInt8} {h : Part} (hd : SlR u8R 1 h a c d) (hT : Tabs h) (hz1 : shaSize n ≠ 0) (hz2 : (d.length : Int) = shaSize n) (hO : (oidB (oidH n)).getD [] = O) (hOl : O.length ≤ 1000) (hdl : d.length ≤ 1000) :
    FnR Tryz.prog 34 [.int .i64 n, .slice a d.length c] h (fun v h' => ∃ a c, v = .tuple #[.slice a (infoO O d).wr.1.length c, .int .i64 (infoO O d).wr.2] ∧ SlR u8R 1 h' a c (infoO O d).wr.1) := by
  have hol := oidH_len n
  have hs1 : Nd.szL [.mk 0 6 false O [], .mk 0 5 false [] []] ≤ 1099511627776 := by simp only [Nd.sz, Nd.szL, List.length_nil]; omega
  have hs2 : Nd.szL [.mk 0 16 true [] [.mk 0 6 false O [], .mk 0 5 false [] []], .mk 0 4 false d []] ≤ 1099511627776 := by simp only [Nd.sz, Nd.szL, List.length_nil]; omega
  have hs3 : (infoO O d).sz ≤ 1073741824 := by simp only [infoO, Nd.sz, Nd.szL, List.length_nil]; omega
  refine Fn.intro Tryz.func34 rfl Tryz.ntmps34 rfl (fun e he => ?_)
  refine J.weak [(0, _), (1, _)] ⟨rfl, rfl, trivial⟩ ?_
  have hh0 := Part.le.refl h
  refine Sr ?_
  refine Ru 2 rfl ?_
  refine JL.nil ?_
  refine J.seq ?_
  refine Sr ?_
  refine Ru 1 rfl ?_
  refine JL.callR ca_74 rfl (shasize_fn) rfl ?_
  rintro _ h1 hle1 rfl
  replace hd := hd.mono hle1
  replace hT := hT.mono hle1
  replace hh0 := hh0.mono hle1
  refine Ru 2 rfl ?_
  refine Bs 12 rfl (fun hc2 => ?_) fun hc2 => ?_
  ·
   exfalso; omega
  refine Ru 3 rfl ?_
  refine JL.callRg rfl rfl  ca_74 rfl (shasize_fn) rfl ?_
  rintro _ h3 hle3 rfl
  replace hd := hd.mono hle3
  replace hT := hT.mono hle3
  replace hh0 := hh0.mono hle3
  refine Ru 2 rfl ?_
  refine Nk [18, 5, 4, 0, 1] rfl ?_
  refine Cs rfl (fun hc4 => ?_) fun hc4 => ?_
  ·
   exfalso; omega
  refine J.skip ?_
  refine Sr ?_
  refine Ru 1 rfl ?_
  refine JL.callP ca_76 rfl (shaoid_fn') rfl ?_
  refine JL.callR ca_75 rfl (obytes_fn (s := oidH n) (by omega)) rfl ?_
  rintro _ h6 hle6 ⟨oa, oc, rfl, hOS⟩
  replace hd := hd.mono hle6
  replace hT := hT.mono hle6
  replace hh0 := hh0.mono hle6
  rw [hO] at hOS ⊢; generalize (if (oidB (oidH n)).isSome then (0 : Int) else 20) = ee
  refine Ru 5 rfl ?_
  refine Nk [6, 5, 4, 1] rfl ?_
  refine Sr ?_
  refine Ru 1 rfl ?_
  refine JL.callR ca_77 rfl (prim_fn (t := 6) hOS) rfl ?_
  rintro _ h7 hle7 ⟨w1, rfl, hA⟩
  replace hd := hd.mono hle7
  replace hT := hT.mono hle7
  replace hh0 := hh0.mono hle7
  replace hOS := hOS.mono hle7
  refine JL.callR ca_77 rfl (prim_fn (t := 5) (l := []) SlR.nil_) rfl ?_
  rintro _ h8 hle8 ⟨w2, rfl, hB⟩
  replace hd := hd.mono hle8
  replace hT := hT.mono hle8
  replace hh0 := hh0.mono hle8
  replace hOS := hOS.mono hle8
  replace hA := hA.mono hle8
  refine JL.litAll [_, _] ap_73 rfl rfl (List.forall_mem_cons.2 ⟨z6_, List.forall_mem_cons.2 ⟨z6_, List.forall_mem_nil _⟩⟩) rfl (by kernel_rfl) (by kernel_rfl) rfl (fun b9 => ?_)
  refine JL.pubB (R := NdR) (sz := 5) (l := [.mk 0 6 false O [], .mk 0 5 false [] []]) dl_ ((by have := (CellsR.one hA hA.len5).append (CellsR.one hB hB.len5); simpa using this)) z20_ (fun h10 hle10 hK1 => ?_)
  replace hd := hd.mono hle10
  replace hT := hT.mono hle10
  replace hh0 := hh0.mono hle10
  replace hOS := hOS.mono hle10
  replace hA := hA.mono hle10
  replace hB := hB.mono hle10
  refine JL.callR ca_62 rfl (cons_fn' (cl := 0) (t := 16) hK1 (by simp) (by simp) hs1) rfl ?_
  rintro _ h11 hle11 ⟨w3, rfl, hC⟩
  replace hd := hd.mono hle11
  replace hT := hT.mono hle11
  replace hh0 := hh0.mono hle11
  replace hOS := hOS.mono hle11
  replace hA := hA.mono hle11
  replace hB := hB.mono hle11
  replace hK1 := hK1.mono hle11
  refine Ru 1 rfl ?_
  refine JL.callR ca_77 rfl (prim_fn (t := 4) hd) rfl ?_
  rintro _ h12 hle12 ⟨w4, rfl, hD⟩
  replace hd := hd.mono hle12
  replace hT := hT.mono hle12
  replace hh0 := hh0.mono hle12
  replace hOS := hOS.mono hle12
  replace hA := hA.mono hle12
  replace hB := hB.mono hle12
  replace hK1 := hK1.mono hle12
  replace hC := hC.mono hle12
  refine JL.litAll [_, _] ap_73 rfl rfl (List.forall_mem_cons.2 ⟨z6_, List.forall_mem_cons.2 ⟨z6_, List.forall_mem_nil _⟩⟩) rfl (by kernel_rfl) (by kernel_rfl) rfl (fun b13 => ?_)
  refine JL.pubB (R := NdR) (sz := 5) (l := [.mk 0 16 true [] [.mk 0 6 false O [], .mk 0 5 false [] []], .mk 0 4 false d []]) dl_ ((by have := (CellsR.one hC hC.len5).append (CellsR.one hD hD.len5); simpa using this)) z20_ (fun h14 hle14 hK2 => ?_)
  replace hd := hd.mono hle14
  replace hT := hT.mono hle14
  replace hh0 := hh0.mono hle14
  replace hOS := hOS.mono hle14
  replace hA := hA.mono hle14
  replace hB := hB.mono hle14
  replace hK1 := hK1.mono hle14
  replace hC := hC.mono hle14
  replace hD := hD.mono hle14
  refine JL.callR ca_62 rfl (cons_fn' (cl := 0) (t := 16) hK2 (by simp) (by simp) hs2) rfl ?_
  rintro _ h15 hle15 ⟨w5, rfl, hE⟩
  replace hd := hd.mono hle15
  replace hT := hT.mono hle15
  replace hh0 := hh0.mono hle15
  replace hOS := hOS.mono hle15
  replace hA := hA.mono hle15
  replace hB := hB.mono hle15
  replace hK1 := hK1.mono hle15
  replace hC := hC.mono hle15
  replace hD := hD.mono hle15
  replace hK2 := hK2.mono hle15
  rw [show Nd.mk 0 16 true [] [Nd.mk 0 16 true [] [Nd.mk 0 6 false O [], Nd.mk 0 5 false [] []], Nd.mk 0 4 false d []] = infoO O d from rfl] at hE; generalize infoO O d = XX at *
  refine JL.alloc zr_75 rfl (fun b16 => ?_)
  refine JL.storeA ag_75 rfl rfl dl_ z22_ z17_ z6_ ?_
  refine Nk [8, 5, 4] rfl ?_
  refine Sr ?_
  refine JL.op (RunV.ownA ag_75 rfl mm_ z6_) rfl ?_
  refine JL.callR ca_61 rfl (write_fn (x := XX) hE hT (by omega)) rfl ?_
  rintro _ h17 hle17 ⟨ia, ic, rfl, hI⟩
  replace hd := hd.mono hle17
  replace hT := hT.mono hle17
  replace hh0 := hh0.mono hle17
  replace hOS := hOS.mono hle17
  replace hA := hA.mono hle17
  replace hB := hB.mono hle17
  replace hK1 := hK1.mono hle17
  replace hC := hC.mono hle17
  replace hD := hD.mono hle17
  replace hK2 := hK2.mono hle17
  replace hE := hE.mono hle17
  refine Ru 4 rfl ?_
  refine Nk [5, 4] rfl ?_
  exact J.retR (RetV.two rfl rfl rfl) ⟨_, _, rfl, hI⟩
def infoE (n : Int) (d : List UInt8) : Int := if shaSize n = 0 ∨ (d.length : Int) ≠ shaSize n then 40 else 0
def infoR (n : Int) (d : List UInt8) : List UInt8 := if shaSize n = 0 ∨ (d.length : Int) ≠ shaSize n then [] else infoL n d
theorem info_fn {n : Int} {a : Option Addr} {c : Nat} {d : List UInt8} {h : Part} (hd : SlR u8R 1 h a c d) (hT : Tabs h) :
    FnR Tryz.prog 34 [.int .i64 n, .slice a d.length c] h (fun v h' => ∃ a c, v = .tuple #[.slice a (infoR n d).length c, .int .i64 (infoE n d)] ∧ SlR u8R 1 h' a c (infoR n d)) := by
  by_cases hz : shaSize n = 0 ∨ (d.length : Int) ≠ shaSize n
  · rw [show infoE n d = 40 from if_pos hz, show infoR n d = [] from if_pos hz]
    have hdb := hd.big
    refine Fn.intro Tryz.func34 rfl Tryz.ntmps34 rfl (fun e he => ?_)
    refine J.weak [(0, _), (1, _)] ⟨rfl, rfl, trivial⟩ ?_
    have hh0 := Part.le.refl h
    refine Sr ?_
    refine Ru 2 rfl ?_
    refine JL.nil ?_
    refine J.seq ?_
    refine Sr ?_
    refine Ru 1 rfl ?_
    refine JL.callR ca_74 rfl (shasize_fn) rfl ?_
    rintro _ h1 hle1 rfl
    replace hd := hd.mono hle1
    replace hT := hT.mono hle1
    replace hh0 := hh0.mono hle1
    refine Ru 2 rfl ?_
    refine Bs 12 rfl (fun hc2 => ?_) fun hc2 => ?_
    ·
     refine Ru 6 rfl ?_
     refine Nk [18, 5, 4, 0, 1] rfl ?_
     refine J.cond_t rfl ?_
     refine Sr ?_
     refine Ru 2 rfl ?_
     refine JL.nil ?_
     exact J.retR (RetV.two rfl rfl rfl) ⟨_, _, rfl, SlR.nil_⟩
    refine Ru 3 rfl ?_
    refine JL.callRg rfl rfl  ca_74 rfl (shasize_fn) rfl ?_
    rintro _ h3 hle3 rfl
    replace hd := hd.mono hle3
    replace hT := hT.mono hle3
    replace hh0 := hh0.mono hle3
    refine Ru 2 rfl ?_
    refine Nk [18, 5, 4, 0, 1] rfl ?_
    refine Cs rfl (fun hc4 => ?_) fun hc4 => ?_
    rotate_left
    ·
     exfalso; omega
    refine Sr ?_
    refine Ru 2 rfl ?_
    refine JL.nil ?_
    exact J.retR (RetV.two rfl rfl rfl) ⟨_, _, rfl, SlR.nil_⟩
  · have hz1 : shaSize n ≠ 0 := fun e => hz (.inl e)
    have hz2 : (d.length : Int) = shaSize n := Classical.byContradiction fun e => hz (.inr e)
    rw [show infoE n d = 0 from if_neg hz, show infoR n d = infoL n d from if_neg hz]
    have h1 := oidH_ok (size_some hz1)
    have hdl : d.length ≤ 1000 := by
      have : shaSize n ≤ 64 := by unfold shaSize; split <;> (try unfold someH at *) <;> omega
      omega
    refine (infoO_fn hd hT hz1 hz2 rfl (by rw [h1.2.2]; decide) hdl).mono fun u h' _ hh => ?_
    have := (info_wr hz1 hz2).1
    rw [infoN_O] at this
    rw [this] at hh
    exact hh
end Go.Proofs.YtmngjbefnloljaaGreatDoor
namespace Go.Proofs.YtmngjbefnloljaaGreatDoor
open Go Go.RowKit
set_option maxRecDepth 100000
theorem ap_91 : apT Tryz.prog 91 = some (22, 1, 24) := by kernel_rfl
theorem ca_34 : callT Tryz.prog 34 = true := by kernel_rfl
theorem ca_35 : callT Tryz.prog 35 = true := by kernel_rfl
theorem ca_36 : callT Tryz.prog 36 = true := by kernel_rfl
theorem brepeat_fn' {a : Option Addr} {c c' m N : Nat} {q : Int} {b : UInt8} {h : Part} (hl : SlR u8R 1 h a c' [b]) (hm : m = 1) (hc : c = c') (hq : q = (N : Int)) (hN0 : 0 < N) (hN : N ≤ 8192) : FnR Tryz.prog 36 [.slice a m c, .int .i64 q] h (fun v h' => ∃ a c, v = .slice a (List.replicate N b).length c ∧ SlR u8R 1 h' a c (List.replicate N b)) := by
  subst hm hc hq; exact brepeat_fn hl hN0 hN
theorem join_fn' {a : Option Addr} {c c' m : Nat} {ls : List (List UInt8)} {l : List UInt8} {h : Part} (hl : SlR (slR u8R 1) 1 h a c' ls) (hm : m = ls.length) (hc : c = c') (hf : ls.flatten = l) (h2 : 2 ≤ ls.length) (hb : l.length ≤ 1000000000) (hl0 : ∀ l ∈ ls, 0 < l.length) : FnR Tryz.prog 35 [.slice a m c] h (fun v h' => ∃ a c, v = .slice a l.length c ∧ SlR u8R 1 h' a c l) := by
  subst hm hc hf; exact join_fn hl h2 hb hl0
theorem infoL_pos {n : Int} {d : List UInt8} (hz1 : shaSize n ≠ 0) (hz2 : (d.length : Int) = shaSize n) : 0 < (infoL n d).length := by
  have h1 := (info_wr hz1 hz2).1
  unfold infoL
  cases hb : (infoN n d).put with
  | none => unfold Nd.wr at h1; rw [hb] at h1; injection h1 with _ h2; cases h2
  | some b =>
    have h2 := (Nd.put_len _ _ _ (Nat.le_refl _) hb).1
    show 0 < b.length
    omega
theorem slcell {a : Option Addr} {c : Nat} {l : List UInt8} {h : Part} (k : SlR u8R 1 h a c l) : CellsR (slR u8R 1) 1 h [.slice a l.length c] [l] := CellsR.one (R := slR u8R 1) ⟨a, c, rfl, k⟩ rfl
theorem pform_fn {n k : Int} {a : Option Addr} {c : Nat} {d : List UInt8} {h : Part} (hd : SlR u8R 1 h a c d) (hT : Tabs h) (hk0 : -9223372036854775808 ≤ k) (hk1 : k ≤ 9223372036854775807) : FnR Tryz.prog 11 [.int .i64 n, .slice a d.length c, .int .i64 k] h (fun v h' => ∃ a c, v = .tuple #[.slice a (formL n d k).length c, .int .i64 (formE n d k)] ∧ SlR u8R 1 h' a c (formL n d k)) := by
  refine Fn.intro Tryz.func11 rfl Tryz.ntmps11 rfl (fun e he => ?_)
  refine J.weak [(0, _), (1, _), (2, _)] ⟨rfl, rfl, rfl, trivial⟩ ?_
  have hh0 := Part.le.refl h
  refine Sr ?_
  refine Ru 2 rfl ?_
  refine JL.nil ?_
  refine Sr ?_
  refine Ru 2 rfl ?_
  refine JL.callR ca_34 rfl (info_fn hd hT) rfl ?_
  rintro _ h1 hle1 ⟨ia, ic, rfl, hI⟩
  replace hd := hd.mono hle1
  replace hT := hT.mono hle1
  replace hh0 := hh0.mono hle1
  refine Ru 5 rfl ?_
  refine Nk [9, 8, 7, 6, 2] rfl ?_
  refine J.seq ?_
  refine Sr ?_
  refine Ru 2 rfl ?_
  refine JL.nil ?_
  refine Cs rfl (fun hc2 => ?_) fun hc2 => ?_
  ·
   have hz : shaSize n = 0 ∨ (d.length : Int) ≠ shaSize n := Classical.byContradiction (fun hn => hc2 (if_neg hn)); have he : formE n d k = 40 := if_pos hz; have hf : formL n d k = [] := if_neg (by rw [he]; decide); have he2 : infoE n d = 40 := if_pos hz
   refine Sr ?_
   refine Ru 3 rfl ?_
   refine Nk [7, 6, 8, 2] rfl ?_
   rw [he, hf, he2]; exact J.retR (RetV.two rfl rfl rfl) ⟨_, _, rfl, SlR.nil_⟩
  have hz : ¬ (shaSize n = 0 ∨ (d.length : Int) ≠ shaSize n) := (fun hn => by rw [show infoE n d = 40 from if_pos hn] at hc2; omega); have hz1 : shaSize n ≠ 0 := (fun e => hz (.inl e)); have hz2 : (d.length : Int) = shaSize n := Classical.byContradiction (fun e => hz (.inr e)); have htl := (info_wr hz1 hz2).2; rw [show infoR n d = infoL n d from if_neg hz] at hI ⊢; obtain ⟨t, ht⟩ : ∃ t, t = infoL n d := ⟨_, rfl⟩; rw [← ht] at hI htl ⊢
  refine J.skip ?_
  refine J.seq ?_
  refine Sr ?_
  refine Ru 3 rfl ?_
  refine JL.op ai_ rfl ?_
  refine Ru 2 rfl ?_
  apply On 24 27 3 [8, 7, 6, 2] rfl rfl
  rotate_left
  ·
   intro hb3 hc3
   refine Ru 3 rfl ?_
   exact Ae (om_f hb3 rfl) rfl
  rotate_right
  ·
   exact fun hb3 _ => Ru 3 rfl (Ae (om_t hb3 rfl) rfl)
  refine JL.nil ?_
  refine Cs rfl (fun hc4 => ?_) fun hc4 => ?_
  ·
   have he : formE n d k = 50 := (by unfold formE; rw [if_neg hz, ← ht, if_pos (by omega)]); have hf : formL n d k = [] := if_neg (by rw [he]; decide)
   refine Sr ?_
   refine Ru 2 rfl ?_
   refine JL.nil ?_
   rw [he, hf]; exact J.retR (RetV.two rfl rfl rfl) ⟨_, _, rfl, SlR.nil_⟩
  have he : formE n d k = 0 := (by unfold formE; rw [if_neg hz, ← ht, if_neg (by omega)]); have hf : formL n d k = [0, 1] ++ List.replicate (k.toNat - t.length - 3) 255 ++ [0] ++ t := (by unfold formL; rw [if_pos he, ← ht]); have htp : 0 < t.length := (by rw [ht]; exact infoL_pos hz1 hz2); have hne : ∀ l ∈ [[0, 1], List.replicate (k.toNat - t.length - 3) (255 : UInt8), [0], t], 0 < l.length := (by intro l hl; simp at hl; rcases hl with rfl | rfl | rfl | rfl <;> (first | (exact Nat.zero_lt_succ _) | omega | (rw [List.length_replicate]; omega)))
  refine J.skip ?_
  refine Sr ?_
  refine JL.lit1 ap_22 zr_5 rfl rfl rfl rfl rfl (fun b5 => ?_)
  refine JL.pubB (R := u8R) (sz := 1) (l := [0, 1]) dl_ (cells_lit (by first | kernel_rfl | rfl)) (by first | decide | omega | (simp; done)) (fun h6 hle6 h01 => ?_)
  replace hd := hd.mono hle6
  replace hT := hT.mono hle6
  replace hh0 := hh0.mono hle6
  replace hI := hI.mono hle6
  refine JL.lit1 ap_22 zr_5 rfl rfl rfl rfl rfl (fun b7 => ?_)
  refine JL.pubB (R := u8R) (sz := 1) (l := [255]) dl_ (cells_lit (by first | kernel_rfl | rfl)) (by first | decide | omega | (simp; done)) (fun h8 hle8 hFF => ?_)
  replace hd := hd.mono hle8
  replace hT := hT.mono hle8
  replace hh0 := hh0.mono hle8
  replace hI := hI.mono hle8
  replace h01 := h01.mono hle8
  refine Ru 3 rfl ?_
  refine JL.op si_ rfl ?_
  refine JL.op si_ rfl ?_
  refine JL.callR ca_36 rfl (brepeat_fn' (N := k.toNat - t.length - 3) hFF (by rfl) (by simp) (by omega) (by omega) (by omega)) rfl ?_
  rintro _ h9 hle9 ⟨ra, rc, rfl, hR⟩
  replace hd := hd.mono hle9
  replace hT := hT.mono hle9
  replace hh0 := hh0.mono hle9
  replace hI := hI.mono hle9
  replace h01 := h01.mono hle9
  replace hFF := hFF.mono hle9
  refine JL.lit1 ap_22 zr_5 rfl rfl rfl rfl rfl (fun b10 => ?_)
  refine JL.pubB (R := u8R) (sz := 1) (l := [0]) dl_ (cells_lit (by first | kernel_rfl | rfl)) (by first | decide | omega | (simp; done)) (fun h11 hle11 h00 => ?_)
  replace hd := hd.mono hle11
  replace hT := hT.mono hle11
  replace hh0 := hh0.mono hle11
  replace hI := hI.mono hle11
  replace h01 := h01.mono hle11
  replace hFF := hFF.mono hle11
  replace hR := hR.mono hle11
  refine Ru 1 rfl ?_
  refine JL.lit1 ap_91 zr_22 rfl rfl rfl rfl rfl (fun b12 => ?_)
  refine JL.pubB (R := (slR u8R 1)) (sz := 1) (l := [[0, 1], List.replicate (k.toNat - t.length - 3) 255, [0], t]) dl_ ((((slcell h01).append (slcell hR)).append ((slcell h00).append (slcell hI)))) z20_ (fun h13 hle13 hLs => ?_)
  replace hd := hd.mono hle13
  replace hT := hT.mono hle13
  replace hh0 := hh0.mono hle13
  replace hI := hI.mono hle13
  replace h01 := h01.mono hle13
  replace hFF := hFF.mono hle13
  replace hR := hR.mono hle13
  replace h00 := h00.mono hle13
  refine JL.callR ca_35 rfl (join_fn' (l := formL n d k) hLs (by simp) (by simp) (by rw [hf]; simp) (by simp) (by have := formL_len n d k; omega) hne) rfl ?_
  rintro _ h14 hle14 ⟨ja, jc, rfl, hJ⟩
  replace hd := hd.mono hle14
  replace hT := hT.mono hle14
  replace hh0 := hh0.mono hle14
  replace hI := hI.mono hle14
  replace h01 := h01.mono hle14
  replace hFF := hFF.mono hle14
  replace hR := hR.mono hle14
  replace h00 := h00.mono hle14
  replace hLs := hLs.mono hle14
  refine Ru 2 rfl ?_
  refine Nk [7, 6] rfl ?_
  rw [he]; exact J.retR (RetV.two rfl rfl rfl) ⟨_, _, rfl, hJ⟩
end Go.Proofs.YtmngjbefnloljaaGreatDoor
namespace Go.Proofs.YtmngjbefnloljaaGreatDoor
open Go Go.RowKit
set_option maxRecDepth 100000
theorem nat_back (l : List UInt32) : (natN l).natOk = true ∧ (natN l).natL = trimL l ∧ (natN l).sz = 1 + (bl (vL l) / 8 + 1) := by
  have hn : natN l = .mk 0 2 false (be (bl (vL l) / 8 + 1) (vL l)) [] := by unfold natN; rw [natW_be, nbits_vL]
  have hlen := be_len (bl (vL l) / 8 + 1) (vL l)
  have htop := top_byte (vL l)
  have hb0 : byteAt (be (bl (vL l) / 8 + 1) (vL l)) 0 = vL l / 256 ^ (bl (vL l) / 8) := by
    show (UInt8.ofNat _).toNat = _
    rw [UInt8.toNat_ofNat']; exact Nat.mod_eq_of_lt (Nat.lt_trans htop (by decide))
  have hlb : leastB (be (bl (vL l) / 8 + 1) (vL l)) = true := by
    unfold leastB
    rw [if_neg (by omega)]
    split
    · rfl
    · rename_i h1
      obtain ⟨k, hk⟩ : ∃ k, bl (vL l) / 8 = k + 1 := ⟨bl (vL l) / 8 - 1, by omega⟩
      refine decide_eq_true ?_
      rw [hb0]
      rw [hk] at htop ⊢
      have hb1 : byteAt (be (k + 1 + 1) (vL l)) 1 = vL l / 256 ^ k % 256 := by
        show (UInt8.ofNat _).toNat = _
        rw [UInt8.toNat_ofNat']
      have h2 := second_byte (vL l) k hk
      rw [hb1]
      rintro (⟨e1, e2⟩ | ⟨e1, e2⟩)
      · have := h2 e1
        rw [Nat.pow_succ, ← Nat.div_div_eq_div_mul] at e1
        omega
      · omega
  have hw : (Nd.mk 0 2 false (be (bl (vL l) / 8 + 1) (vL l)) []).whole = true := whole_iff.2 ⟨rfl, .inl rfl, rfl, rfl, hlb⟩
  have hok := natOk_t hw (by rw [hb0]; exact htop)
  rw [hn]
  refine ⟨hok, ?_, by simp [Nd.sz, Nd.szL, hlen]⟩
  have : (Nd.mk 0 2 false (be (bl (vL l) / 8 + 1) (vL l)) []).natL = toL (beV (be (bl (vL l) / 8 + 1) (vL l))) := if_pos hok
  rw [this, be_full, trim_toL]
end Go.Proofs.YtmngjbefnloljaaGreatDoor
namespace Go.Proofs.YtmngjbefnloljaaGreatDoor
open Go Go.RowKit
set_option maxRecDepth 100000
theorem ca_67 : callT Tryz.prog 67 = true := by kernel_rfl
def keyNd (n x : List UInt32) : Nd := .mk 0 16 true [] [natN n, natN x]
theorem keyNd_sz (n x : List UInt32) (h1 : n.length ≤ 60) (h2 : x.length ≤ 60) : (keyNd n x).sz ≤ 10000000 := by
  have e1 := (nat_back n).2.2
  have e2 := (nat_back x).2.2
  have b1 := bl_len' n
  have b2 := bl_len' x
  simp only [keyNd, Nd.sz, Nd.szL, List.length_nil]
  omega
def keyBE (n x d : List UInt32) : Int := if rightB (vL n) (vL x) (vL d) = true then 0 else 50
def keyBL (n x d : List UInt32) : List UInt8 := if rightB (vL n) (vL x) (vL d) = true then (keyNd n x).put.getD [] else []
theorem rkbytes_fn {an ae ad : Option Addr} {cn ce cd : Nat} {n x dd : List UInt32} {h : Part} (hn : SlR u32R 1 h an cn n) (hx : SlR u32R 1 h ae ce x) (hdd : SlR u32R 1 h ad cd dd) (hln : n.length ≤ 60) (hlx : x.length ≤ 60) (hld : dd.length ≤ 60) :
    FnR Tryz.prog 29 [.agg #[.slice an n.length cn, .slice ae x.length ce, .slice ad dd.length cd]] h (fun v h' => ∃ a c, v = .tuple #[.slice a (keyBL n x dd).length c, .int .i64 (keyBE n x dd)] ∧ SlR u8R 1 h' a c (keyBL n x dd)) := by
  have hsz := keyNd_sz n x hln hlx
  refine Fn.intro Tryz.func29 rfl Tryz.ntmps29 rfl (fun e he => ?_)
  refine J.weak [(0, _)] ⟨rfl, trivial⟩ ?_
  have hh0 := Part.le.refl h
  refine Sr ?_
  refine JL.box rfl rfl rfl (fun b1 => ?_)
  refine Ru 2 rfl ?_
  refine JL.nil ?_
  refine J.seq ?_
  refine Sr ?_
  refine JL.op (RunV.ownA ag_32 rfl mm_ (by first | rfl)) rfl ?_
  refine JL.callR ca_64 rfl (rkeyright_fn hn hx hdd (by omega) (by omega) (by omega)) rfl ?_
  rintro _ h2 hle2 rfl
  replace hn := hn.mono hle2
  replace hx := hx.mono hle2
  replace hdd := hdd.mono hle2
  replace hh0 := hh0.mono hle2
  refine Ru 1 rfl ?_
  refine JL.nil ?_
  refine Cs rfl (fun hc3 => ?_) fun hc3 => ?_
  ·
   have hrt : ¬ rightB (vL n) (vL x) (vL dd) = true := (by simpa using hc3); have e1 : keyBE n x dd = 50 := if_neg hrt; have e2 : keyBL n x dd = [] := if_neg hrt
   refine Sr ?_
   refine Ru 2 rfl ?_
   refine Nk [3, 2, 1] rfl ?_
   rw [e1, e2]; exact J.retR (RetV.two rfl rfl rfl) ⟨_, _, rfl, SlR.nil_⟩
  have hrt : rightB (vL n) (vL x) (vL dd) = true := (by simpa using hc3); have e1 : keyBE n x dd = 0 := if_pos hrt; have e2 : keyBL n x dd = (keyNd n x).put.getD [] := if_pos hrt
  refine J.skip ?_
  refine Kp [3, 2, 1] rfl ?_
  refine J.seq ?_
  refine J.held ([.blk b1 32 [.slice an n.length cn, .slice ae x.length ce, .slice ad dd.length cd]]) 14 mixed_ rfl (fun h00 => ?_)
  refine JH.take 0 rfl (by kernel_rfl) (by kernel_rfl) (by kernel_rfl) (fun _ _ _ _ hh => hh) (br_ h00) z49_ rfl ?_
  refine JH.take 1 rfl (by kernel_rfl) (by kernel_rfl) (by kernel_rfl) (fun _ _ _ _ hh => hh) (br_ h00) (RunV.own1 ag_30 rfl mm_ rfl) rfl ?_
  refine JH.take 3 rfl (by kernel_rfl) (by kernel_rfl) (by kernel_rfl) (fun _ _ _ _ hh => hh) (br_ h00) z44_ rfl ?_
  refine JH.take 4 rfl (by kernel_rfl) (by kernel_rfl) (by kernel_rfl) (fun _ _ _ _ hh => hh) (br_ h00) (RunV.own1 ag_30 rfl mm_ rfl) rfl ?_
  refine JH.all1 2 (by kernel_rfl) rfl ?_
  unfold One
  refine JL.callR ca_67 rfl (rnat_fn hn (by omega)) rfl ?_
  rintro _ h4 hle4 ⟨w1, rfl, hA⟩
  replace hn := hn.mono hle4
  replace hx := hx.mono hle4
  replace hdd := hdd.mono hle4
  replace hh0 := hh0.mono hle4
  refine JL.nil ⟨(br_ h00), ?_⟩
  refine JH.all1 5 (by kernel_rfl) rfl ?_
  unfold One
  refine JL.callR ca_67 rfl (rnat_fn hx (by omega)) rfl ?_
  rintro _ h5 hle5 ⟨w2, rfl, hB⟩
  replace hn := hn.mono hle5
  replace hx := hx.mono hle5
  replace hdd := hdd.mono hle5
  replace hh0 := hh0.mono hle5
  replace hA := hA.mono hle5
  refine JL.nil ⟨(br_ h00), ?_⟩
  refine JH.all1 6 (by kernel_rfl) rfl ?_
  unfold One
  refine JL.litAll [_, _] ap_73 rfl rfl (List.forall_mem_cons.2 ⟨z6_, List.forall_mem_cons.2 ⟨z6_, List.forall_mem_nil _⟩⟩) rfl (by kernel_rfl) (by kernel_rfl) rfl (fun b6 => ?_)
  refine JL.pubB (R := NdR) (sz := 5) (l := [natN n, natN x]) dl_ ((by have := (CellsR.one hA hA.len5).append (CellsR.one hB hB.len5); simpa using this)) z20_ (fun h7 hle7 hK => ?_)
  replace hn := hn.mono hle7
  replace hx := hx.mono hle7
  replace hdd := hdd.mono hle7
  replace hh0 := hh0.mono hle7
  replace hA := hA.mono hle7
  replace hB := hB.mono hle7
  refine JL.nil ⟨(br_ h00), ?_⟩
  refine JH.all1 7 (by kernel_rfl) rfl ?_
  unfold One
  refine JL.callR ca_66 rfl (rseq_fn) rfl ?_
  rintro _ h8 hle8 rfl
  replace hn := hn.mono hle8
  replace hx := hx.mono hle8
  replace hdd := hdd.mono hle8
  replace hh0 := hh0.mono hle8
  replace hA := hA.mono hle8
  replace hB := hB.mono hle8
  replace hK := hK.mono hle8
  refine JL.nil ⟨(br_ h00), ?_⟩
  refine JH.all1 8 (by kernel_rfl) rfl ?_
  unfold One
  refine JL.callR ca_65 rfl (rbytes_fn' (x := keyNd n x) (NdR.of SlR.nil_ hK) hsz) rfl ?_
  rintro _ h9 hle9 ⟨ia, ic, rfl, hI⟩
  replace hn := hn.mono hle9
  replace hx := hx.mono hle9
  replace hdd := hdd.mono hle9
  replace hh0 := hh0.mono hle9
  replace hA := hA.mono hle9
  replace hB := hB.mono hle9
  replace hK := hK.mono hle9
  refine JL.nil ⟨(br_ h00), ?_⟩
  refine JH.take 9 rfl (by kernel_rfl) (by kernel_rfl) (by kernel_rfl) (fun _ _ _ _ hh => hh) (br_ h00) (RunV.move rfl) rfl ?_
  refine JH.take 10 rfl (by kernel_rfl) (by kernel_rfl) (by kernel_rfl) (fun _ _ _ _ hh => hh) (br_ h00) (RunV.extract rfl rfl) rfl ?_
  refine JH.take 11 rfl (by kernel_rfl) (by kernel_rfl) (by kernel_rfl) (fun _ _ _ _ hh => hh) (br_ h00) (RunV.extract rfl rfl) rfl ?_
  refine JH.take 12 rfl (by kernel_rfl) (by kernel_rfl) (by kernel_rfl) (fun _ _ _ _ hh => hh) (br_ h00) (RunV.assign rfl) rfl ?_
  refine JH.take 13 rfl (by kernel_rfl) (by kernel_rfl) (by kernel_rfl) (fun _ _ _ _ hh => hh) (br_ h00) (RunV.assign rfl) rfl ?_
  refine JH.done (by kernel_rfl) ?_
  refine Kp [4, 3, 2] rfl ?_
  refine Sr ?_
  refine Ru 3 rfl ?_
  refine JL.nil ?_
  rw [e1, e2]; exact J.retR (RetV.two rfl rfl rfl) ⟨_, _, rfl, hI⟩
end Go.Proofs.YtmngjbefnloljaaGreatDoor
namespace Go.Proofs.YtmngjbefnloljaaGreatDoor
open Go Go.RowKit
set_option maxRecDepth 100000
theorem ca_11 : callT Tryz.prog 11 = true := by kernel_rfl
theorem ca_25 : callT Tryz.prog 25 = true := by kernel_rfl
theorem ca_39 : callT Tryz.prog 39 = true := by kernel_rfl
theorem ca_41 : callT Tryz.prog 41 = true := by kernel_rfl
theorem ca_48 : callT Tryz.prog 48 = true := by kernel_rfl
theorem ca_60 : callT Tryz.prog 60 = true := by kernel_rfl
theorem ca_63 : callT Tryz.prog 63 = true := by kernel_rfl
theorem form512 {n : Int} {d : List UInt8} (h : ¬ (shaSize n = 0 ∨ (d.length : Int) ≠ shaSize n)) : formE n d 512 = 0 := by
  have hz1 : shaSize n ≠ 0 := fun e => h (.inl e)
  have hz2 : (d.length : Int) = shaSize n := Classical.byContradiction fun e => h (.inr e)
  have := (info_wr hz1 hz2).2
  unfold formE
  rw [if_neg h, if_neg (by omega)]
theorem infoE_512 (n : Int) (d : List UInt8) : infoE n d = formE n d 512 := by
  by_cases h : shaSize n = 0 ∨ (d.length : Int) ≠ shaSize n
  · rw [show infoE n d = 40 from if_pos h]; unfold formE; rw [if_pos h]
  · rw [form512 h]; exact if_neg h
theorem kform_fn {an ae ad : Option Addr} {cn ce cd : Nat} {n x dd : List UInt32} {hash : Int} {a : Option Addr} {c : Nat} {d : List UInt8} {h : Part} (hn : SlR u32R 1 h an cn n) (hx : SlR u32R 1 h ae ce x) (hdd : SlR u32R 1 h ad cd dd) (hd : SlR u8R 1 h a c d) (hT : Tabs h) (hln : n.length ≤ 100000) :
    FnR Tryz.prog 39 [.agg #[.slice an n.length cn, .slice ae x.length ce, .slice ad dd.length cd], .int .i64 hash, .slice a d.length c] h (fun v h' => ∃ a c, v = .tuple #[.slice a (kformL hash d (vL n) (vL x) (vL dd)).length c, .int .i64 (kformE hash d (vL n) (vL x) (vL dd))] ∧ SlR u8R 1 h' a c (kformL hash d (vL n) (vL x) (vL dd))) := by
  have hbl := bl_len' n
  have hi := infoE_512 hash d
  refine Fn.intro Tryz.func39 rfl Tryz.ntmps39 rfl (fun e he => ?_)
  refine J.weak [(0, _), (1, _), (2, _)] ⟨rfl, rfl, rfl, trivial⟩ ?_
  have hh0 := Part.le.refl h
  refine Sr ?_
  refine JL.box rfl rfl rfl (fun b1 => ?_)
  refine Ru 2 rfl ?_
  refine JL.nil ?_
  refine J.seq ?_
  refine Sr ?_
  refine Ru 2 rfl ?_
  refine JL.callR ca_34 rfl (info_fn hd hT) rfl ?_
  rintro _ h2 hle2 ⟨fa, fc, rfl, hF⟩
  replace hn := hn.mono hle2
  replace hx := hx.mono hle2
  replace hdd := hdd.mono hle2
  replace hd := hd.mono hle2
  replace hT := hT.mono hle2
  replace hh0 := hh0.mono hle2
  rw [hi]
  refine Ru 5 rfl ?_
  refine Nk [9, 7, 6, 3, 1, 2] rfl ?_
  refine Sr ?_
  refine Ru 2 rfl ?_
  refine JL.nil ?_
  refine Cs rfl (fun hc3 => ?_) fun hc3 => ?_
  ·
   have e1 : kformE hash d (vL n) (vL x) (vL dd) = formE hash d 512 := if_pos hc3; have e2 : kformL hash d (vL n) (vL x) (vL dd) = [] := if_pos hc3
   refine Sr ?_
   refine Ru 3 rfl ?_
   refine Nk [7, 6, 3, 1, 2] rfl ?_
   rw [e1, e2]; exact J.retR (RetV.two rfl rfl rfl) ⟨_, _, rfl, SlR.nil_⟩
  have hc0 : ¬ formE hash d 512 ≠ 0 := (by simpa using hc3)
  refine J.skip ?_
  refine J.seq ?_
  refine Sr ?_
  refine JL.op (RunV.ownA ag_32 rfl mm_ (by first | rfl)) rfl ?_
  refine JL.callR ca_60 rfl (keyright_fn hn hx hdd) rfl ?_
  rintro _ h4 hle4 rfl
  replace hn := hn.mono hle4
  replace hx := hx.mono hle4
  replace hdd := hdd.mono hle4
  replace hd := hd.mono hle4
  replace hT := hT.mono hle4
  replace hh0 := hh0.mono hle4
  replace hF := hF.mono hle4
  refine Ru 1 rfl ?_
  refine Nk [21, 7, 6, 3, 1, 2] rfl ?_
  refine Cs rfl (fun hc5 => ?_) fun hc5 => ?_
  ·
   have hrt : ¬ rightB (vL n) (vL x) (vL dd) = true := (by simpa using hc5); have e1 : kformE hash d (vL n) (vL x) (vL dd) = 50 := (by unfold kformE; rw [if_neg hc0, if_neg hrt]); have e2 : kformL hash d (vL n) (vL x) (vL dd) = [] := (by unfold kformL; rw [if_neg hc0, if_neg hrt])
   refine Sr ?_
   refine Ru 2 rfl ?_
   refine JL.nil ?_
   rw [e1, e2]; exact J.retR (RetV.two rfl rfl rfl) ⟨_, _, rfl, SlR.nil_⟩
  have hrt : rightB (vL n) (vL x) (vL dd) = true := (by simpa using hc5); have e1 : kformE hash d (vL n) (vL x) (vL dd) = formE hash d (sizeB (vL n)) := (by unfold kformE; rw [if_neg hc0, if_pos hrt]); have e2 : kformL hash d (vL n) (vL x) (vL dd) = formL hash d (sizeB (vL n)) := (by unfold kformL; rw [if_neg hc0, if_pos hrt])
  refine J.skip ?_
  refine Sr ?_
  refine Ru 2 rfl ?_
  refine JL.op (RunV.ownA ag_32 rfl mm_ (by first | rfl)) rfl ?_
  refine JL.callP ca_25 rfl (ksize_fn hn) rfl ?_
  refine JL.callR ca_11 rfl (pform_fn (k := (sizeB (vL n) : Nat)) hd hT (by omega) (by unfold sizeB; omega)) rfl ?_
  rintro _ h7 hle7 ⟨ga, gc, rfl, hG⟩
  replace hn := hn.mono hle7
  replace hx := hx.mono hle7
  replace hdd := hdd.mono hle7
  replace hd := hd.mono hle7
  replace hT := hT.mono hle7
  replace hh0 := hh0.mono hle7
  replace hF := hF.mono hle7
  refine Ru 4 rfl ?_
  refine Nk [7, 6] rfl ?_
  rw [e1, e2]; exact J.retR (RetV.two rfl rfl rfl) ⟨_, _, rfl, hG⟩
theorem psign_fn {an ae ad : Option Addr} {cn ce cd : Nat} {n x dd : List UInt32} {hash : Int} {a : Option Addr} {c : Nat} {d : List UInt8} {h : Part} (hn : SlR u32R 1 h an cn n) (hx : SlR u32R 1 h ae ce x) (hdd : SlR u32R 1 h ad cd dd) (hd : SlR u8R 1 h a c d) (hT : Tabs h) (hln : n.length ≤ 10000) (hld : dd.length ≤ 10000) :
    FnR Tryz.prog 15 [.agg #[.slice an n.length cn, .slice ae x.length ce, .slice ad dd.length cd], .int .i64 hash, .slice a d.length c] h (fun v h' => ∃ a c, v = .tuple #[.slice a (sigL hash d (vL n) (vL x) (vL dd)).length c, .int .i64 (sigE hash d (vL n) (vL x) (vL dd))] ∧ SlR u8R 1 h' a c (sigL hash d (vL n) (vL x) (vL dd))) := by
  have hbl := bl_len' n
  have hkl := kformL_len hash d (vL n) (vL x) (vL dd)
  refine Fn.intro Tryz.func15 rfl Tryz.ntmps15 rfl (fun e he => ?_)
  refine J.weak [(0, _), (1, _), (2, _)] ⟨rfl, rfl, rfl, trivial⟩ ?_
  have hh0 := Part.le.refl h
  refine Sr ?_
  refine JL.box rfl rfl rfl (fun b1 => ?_)
  refine Ru 2 rfl ?_
  refine JL.nil ?_
  refine Sr ?_
  refine JL.op (RunV.ownA ag_32 rfl mm_ (by first | rfl)) rfl ?_
  refine Ru 2 rfl ?_
  refine JL.callR ca_39 rfl (kform_fn hn hx hdd hd hT (by omega)) rfl ?_
  rintro _ h2 hle2 ⟨fa, fc, rfl, hF⟩
  replace hn := hn.mono hle2
  replace hx := hx.mono hle2
  replace hdd := hdd.mono hle2
  replace hd := hd.mono hle2
  replace hT := hT.mono hle2
  replace hh0 := hh0.mono hle2
  refine Ru 5 rfl ?_
  refine Nk [9, 8, 7, 6, 3] rfl ?_
  refine J.seq ?_
  refine Sr ?_
  refine Ru 2 rfl ?_
  refine JL.nil ?_
  refine Cs rfl (fun hc3 => ?_) fun hc3 => ?_
  ·
   have e1 : sigE hash d (vL n) (vL x) (vL dd) = kformE hash d (vL n) (vL x) (vL dd) := if_pos hc3; have e2 : sigL hash d (vL n) (vL x) (vL dd) = [] := if_pos hc3
   refine Sr ?_
   refine Ru 3 rfl ?_
   refine Nk [7, 6, 8, 3] rfl ?_
   rw [e1, e2]; exact J.retR (RetV.two rfl rfl rfl) ⟨_, _, rfl, SlR.nil_⟩
  have hc0 : ¬ kformE hash d (vL n) (vL x) (vL dd) ≠ 0 := (by simpa using hc3); have hrt := kform_right (Classical.byContradiction hc0); have hrt2 := of_decide_eq_true hrt; have hN0 : 0 < vL n := (by omega); have hsz : sizeB (vL n) ≤ 65536 := (by unfold sizeB; omega); have hpf := pow_fit (beV (kformL hash d (vL n) (vL x) (vL dd))) (vL dd) (vL n) hN0
  refine J.skip ?_
  refine J.seq ?_
  refine Sr ?_
  refine Ru 1 rfl ?_
  refine JL.op (RunV.own1 ag_30 rfl mm_ rfl) rfl ?_
  refine JL.callP ca_40 rfl (natbits_fn hdd) rfl ?_
  rw [nbits_vL]
  refine Ru 1 rfl ?_
  refine Nk [25, 8, 7, 6, 3] rfl ?_
  refine Cs rfl (fun hc5 => ?_) fun hc5 => ?_
  ·
   have hb0 : bl (vL dd) = 0 := (by omega); have e1 : sigE hash d (vL n) (vL x) (vL dd) = 50 := (by unfold sigE; rw [if_neg hc0, if_pos hb0]); have e2 : sigL hash d (vL n) (vL x) (vL dd) = [] := (by unfold sigL; rw [if_neg hc0, if_pos hb0])
   refine Sr ?_
   refine Ru 2 rfl ?_
   refine JL.nil ?_
   rw [e1, e2]; exact J.retR (RetV.two rfl rfl rfl) ⟨_, _, rfl, SlR.nil_⟩
  have hb0 : ¬ bl (vL dd) = 0 := (by omega); have e1 : sigE hash d (vL n) (vL x) (vL dd) = 0 := (by unfold sigE; rw [if_neg hc0, if_neg hb0]); have e2 : sigL hash d (vL n) (vL x) (vL dd) = numW (powV (beV (kformL hash d (vL n) (vL x) (vL dd))) (vL dd) (vL n)) (sizeB (vL n)) := (by unfold sigL; rw [if_neg hc0, if_neg hb0])
  refine J.skip ?_
  refine J.seq ?_
  refine J.held ([.blk b1 32 [.slice an n.length cn, .slice ae x.length ce, .slice ad dd.length cd]]) 12 mixed_ rfl (fun h00 => ?_)
  refine JH.take 0 rfl (by kernel_rfl) (by kernel_rfl) (by kernel_rfl) (fun _ _ _ _ hh => hh) (br_ h00) (RunV.move rfl) rfl ?_
  refine JH.take 2 rfl (by kernel_rfl) (by kernel_rfl) (by kernel_rfl) (fun _ _ _ _ hh => hh) (br_ h00) (by first | exact RunV.fieldAt0 fo_32_2 rfl | exact RunV.fieldAt fo_32_2 rfl) rfl ?_
  refine JH.take 3 rfl (by kernel_rfl) (by kernel_rfl) (by kernel_rfl) (fun _ _ _ _ hh => hh) (br_ h00) (RunV.own1 ag_30 rfl mm_ rfl) rfl ?_
  refine JH.take 4 rfl (by kernel_rfl) (by kernel_rfl) (by kernel_rfl) (fun _ _ _ _ hh => hh) (br_ h00) z49_ rfl ?_
  refine JH.take 5 rfl (by kernel_rfl) (by kernel_rfl) (by kernel_rfl) (fun _ _ _ _ hh => hh) (br_ h00) (RunV.own1 ag_30 rfl mm_ rfl) rfl ?_
  refine JH.all1 1 (by kernel_rfl) rfl ?_
  unfold One
  refine JL.callR ca_42 rfl (natread_fn hF (by omega)) rfl ?_
  rintro _ h6 hle6 ⟨ma, mc, rfl, hM⟩
  replace hn := hn.mono hle6
  replace hx := hx.mono hle6
  replace hdd := hdd.mono hle6
  replace hd := hd.mono hle6
  replace hT := hT.mono hle6
  replace hh0 := hh0.mono hle6
  replace hF := hF.mono hle6
  have hml : (toL (beV (kformL hash d (vL n) (vL x) (vL dd)))).length ≤ 100000 := (by have := toL_beV_len (kformL hash d (vL n) (vL x) (vL dd)); omega)
  refine JL.nil ⟨(br_ h00), ?_⟩
  refine JH.all1 6 (by kernel_rfl) rfl ?_
  unfold One
  refine JL.callR ca_41 rfl (natpow_fn hM hdd hn hml (by omega) (by omega)) rfl ?_
  rintro _ h7 hle7 ⟨pa, pc, rfl, hP⟩
  replace hn := hn.mono hle7
  replace hx := hx.mono hle7
  replace hdd := hdd.mono hle7
  replace hd := hd.mono hle7
  replace hT := hT.mono hle7
  replace hh0 := hh0.mono hle7
  replace hF := hF.mono hle7
  replace hM := hM.mono hle7
  rw [vL_toL] at hP ⊢
  refine JL.nil ⟨(br_ h00), ?_⟩
  refine JH.take 7 rfl (by kernel_rfl) (by kernel_rfl) (by kernel_rfl) (fun _ _ _ _ hh => hh) (br_ h00) (RunV.move rfl) rfl ?_
  refine JH.take 8 rfl (by kernel_rfl) (by kernel_rfl) (by kernel_rfl) (fun _ _ _ _ hh => hh) (br_ h00) (RunV.extract rfl rfl) rfl ?_
  refine JH.take 9 rfl (by kernel_rfl) (by kernel_rfl) (by kernel_rfl) (fun _ _ _ _ hh => hh) (br_ h00) (RunV.extract rfl rfl) rfl ?_
  refine JH.take 10 rfl (by kernel_rfl) (by kernel_rfl) (by kernel_rfl) (fun _ _ _ _ hh => hh) (br_ h00) (RunV.assign rfl) rfl ?_
  refine JH.take 11 rfl (by kernel_rfl) (by kernel_rfl) (by kernel_rfl) (fun _ _ _ _ hh => hh) (br_ h00) (RunV.assign rfl) rfl ?_
  refine JH.done (by kernel_rfl) ?_
  refine Kp [10, 7, 6, 3] rfl ?_
  refine Sr ?_
  refine Ru 1 rfl ?_
  refine JL.op (RunV.ownA ag_32 rfl mm_ (by first | rfl)) rfl ?_
  refine JL.callP ca_25 rfl (ksize_fn hn) rfl ?_
  refine JL.callR ca_43 rfl (natwrite_fn (k := sizeB (vL n)) hP hsz (by rw [nbits_vL, vL_toL]; omega)) rfl ?_
  rintro _ h9 hle9 ⟨wa, wc, rfl, hW⟩
  replace hn := hn.mono hle9
  replace hx := hx.mono hle9
  replace hdd := hdd.mono hle9
  replace hd := hd.mono hle9
  replace hT := hT.mono hle9
  replace hh0 := hh0.mono hle9
  replace hF := hF.mono hle9
  replace hM := hM.mono hle9
  replace hP := hP.mono hle9
  refine Ru 4 rfl ?_
  refine Nk [7, 6] rfl ?_
  rw [e1, e2]; exact J.retR (RetV.two rfl rfl rfl) ⟨_, _, rfl, hW⟩
theorem pprove_fn {an ae ad : Option Addr} {cn ce cd : Nat} {n x dd : List UInt32} {hash : Int} {a b : Option Addr} {c cb : Nat} {d s : List UInt8} {h : Part} (hn : SlR u32R 1 h an cn n) (hx : SlR u32R 1 h ae ce x) (hdd : SlR u32R 1 h ad cd dd) (hd : SlR u8R 1 h a c d) (hs : SlR u8R 1 h b cb s) (hT : Tabs h) (hln : n.length ≤ 10000) (hlx : x.length ≤ 10000) (hsl : s.length ≤ 100000) :
    FnR Tryz.prog 17 [.agg #[.slice an n.length cn, .slice ae x.length ce, .slice ad dd.length cd], .int .i64 hash, .slice a d.length c, .slice b s.length cb] h (fun v _ => v = .int .i64 (proveE hash d s (vL n) (vL x) (vL dd))) := by
  have hbl := bl_len' n
  have hkl := kformL_len hash d (vL n) (vL x) (vL dd)
  have hts := toL_beV_len s
  obtain ⟨-, c2, -, -, -⟩ := cmp_facts (beV s) (vL n)
  refine Fn.intro Tryz.func17 rfl Tryz.ntmps17 rfl (fun e he => ?_)
  refine J.weak [(0, _), (1, _), (2, _), (3, _)] ⟨rfl, rfl, rfl, rfl, trivial⟩ ?_
  have hh0 := Part.le.refl h
  refine Sr ?_
  refine JL.box rfl rfl rfl (fun b1 => ?_)
  refine Ru 1 rfl ?_
  refine JL.nil ?_
  refine Sr ?_
  refine JL.op (RunV.ownA ag_32 rfl mm_ (by first | rfl)) rfl ?_
  refine Ru 2 rfl ?_
  refine JL.callR ca_39 rfl (kform_fn hn hx hdd hd hT (by omega)) rfl ?_
  rintro _ h2 hle2 ⟨fa, fc, rfl, hF⟩
  replace hn := hn.mono hle2
  replace hx := hx.mono hle2
  replace hdd := hdd.mono hle2
  replace hd := hd.mono hle2
  replace hs := hs.mono hle2
  replace hT := hT.mono hle2
  replace hh0 := hh0.mono hle2
  refine Ru 5 rfl ?_
  refine Nk [10, 9, 8, 4, 3] rfl ?_
  refine J.seq ?_
  refine Sr ?_
  refine Ru 2 rfl ?_
  refine JL.nil ?_
  refine Cs rfl (fun hc3 => ?_) fun hc3 => ?_
  ·
   have e1 : proveE hash d s (vL n) (vL x) (vL dd) = kformE hash d (vL n) (vL x) (vL dd) := if_pos hc3
   refine Sr ?_
   refine Ru 2 rfl ?_
   refine Nk [8, 9, 4, 3] rfl ?_
   rw [e1]; exact J.retR (RetV.one rfl rfl) rfl
  have hc0 : ¬ kformE hash d (vL n) (vL x) (vL dd) ≠ 0 := (by simpa using hc3); have hc00 := Classical.byContradiction hc0; have hrt := kform_right hc00; have hkz := kformL_size hc00; have hrt2 := of_decide_eq_true hrt; have hN0 : 0 < vL n := (by omega); have hsz : sizeB (vL n) ≤ 65536 := (by unfold sizeB; omega); have hpf := pow_fit (beV s) (vL x) (vL n) hN0; have hiff := numW_iff hkz hpf
  refine J.skip ?_
  refine Sr ?_
  refine Ru 1 rfl ?_
  refine JL.callR ca_42 rfl (natread_fn hs (by omega)) rfl ?_
  rintro _ h4 hle4 ⟨sa, sc, rfl, hS⟩
  replace hn := hn.mono hle4
  replace hx := hx.mono hle4
  replace hdd := hdd.mono hle4
  replace hd := hd.mono hle4
  replace hs := hs.mono hle4
  replace hT := hT.mono hle4
  replace hh0 := hh0.mono hle4
  replace hF := hF.mono hle4
  refine Ru 1 rfl ?_
  refine Nk [11, 9, 8, 4, 3] rfl ?_
  refine J.seq ?_
  refine Sr ?_
  refine Ru 2 rfl ?_
  refine JL.op (RunV.ownA ag_32 rfl mm_ (by first | rfl)) rfl ?_
  refine JL.callP ca_25 rfl (ksize_fn hn) rfl ?_
  refine Ru 2 rfl ?_
  refine Bs 33 rfl (fun hc6 => ?_) fun hc6 => ?_
  ·
   refine Ru 6 rfl ?_
   refine Nk [39, 11, 9, 8, 4] rfl ?_
   refine J.cond_t rfl ?_
   refine Sr ?_
   refine Ru 1 rfl ?_
   refine JL.nil ?_
   first | (rw [show proveE hash d s (vL n) (vL x) (vL dd) = 63 by unfold proveE; rw [if_neg hc0, if_pos (by unfold sizeB; omega)]]; exact J.retR (RetV.one rfl rfl) rfl) | (rw [show proveE hash d s (vL n) (vL x) (vL dd) = 63 by unfold proveE; rw [if_neg hc0, if_neg hc1, if_neg (fun hh => by have := hiff.2 hh; simp_all [numW])]]; exact J.retR (RetV.one rfl rfl) rfl) | (rw [show proveE hash d s (vL n) (vL x) (vL dd) = 0 by unfold proveE; rw [if_neg hc0, if_neg hc1, if_pos (hiff.1 (by simp_all [numW]))]]; exact J.retR (RetV.one rfl rfl) rfl)
  refine Ru 2 rfl ?_
  refine JL.opg rfl rfl  (RunV.own1 ag_30 rfl mm_ rfl) rfl ?_
  refine JL.callPg rfl rfl  ca_47 rfl (natcmp_fn hS hn) rfl ?_
  rw [vL_toL]
  refine Ru 2 rfl ?_
  refine Nk [39, 11, 9, 8, 4] rfl ?_
  refine Cs rfl (fun hc8 => ?_) fun hc8 => ?_
  ·
   refine Sr ?_
   refine Ru 1 rfl ?_
   refine JL.nil ?_
   first | (rw [show proveE hash d s (vL n) (vL x) (vL dd) = 63 by unfold proveE; rw [if_neg hc0, if_pos (by unfold sizeB; omega)]]; exact J.retR (RetV.one rfl rfl) rfl) | (rw [show proveE hash d s (vL n) (vL x) (vL dd) = 63 by unfold proveE; rw [if_neg hc0, if_neg hc1, if_neg (fun hh => by have := hiff.2 hh; simp_all [numW])]]; exact J.retR (RetV.one rfl rfl) rfl) | (rw [show proveE hash d s (vL n) (vL x) (vL dd) = 0 by unfold proveE; rw [if_neg hc0, if_neg hc1, if_pos (hiff.1 (by simp_all [numW]))]]; exact J.retR (RetV.one rfl rfl) rfl)
  refine J.skip ?_
  refine Sr ?_
  refine Ru 2 rfl ?_
  refine JL.op (RunV.own1 ag_30 rfl mm_ rfl) rfl ?_
  refine Ru 1 rfl ?_
  refine JL.op (RunV.own1 ag_30 rfl mm_ rfl) rfl ?_
  refine JL.callR ca_41 rfl (natpow_fn hS hx hn (by omega) (by omega) (by omega)) rfl ?_
  rintro _ h9 hle9 ⟨pa, pc, rfl, hP⟩
  replace hn := hn.mono hle9
  replace hx := hx.mono hle9
  replace hdd := hdd.mono hle9
  replace hd := hd.mono hle9
  replace hs := hs.mono hle9
  replace hT := hT.mono hle9
  replace hh0 := hh0.mono hle9
  replace hF := hF.mono hle9
  replace hS := hS.mono hle9
  rw [vL_toL] at hP ⊢; have hc1 : ¬ (s.length ≠ sizeB (vL n) ∨ vL n ≤ beV s) := (by unfold sizeB; omega)
  refine Ru 5 rfl ?_
  refine Nk [12, 9, 8, 4] rfl ?_
  refine Sr ?_
  refine Ru 1 rfl ?_
  refine JL.op (RunV.ownA ag_32 rfl mm_ (by first | rfl)) rfl ?_
  refine JL.callP ca_25 rfl (ksize_fn hn) rfl ?_
  refine JL.callR ca_43 rfl (natwrite_fn (k := sizeB (vL n)) hP hsz (by rw [nbits_vL, vL_toL]; omega)) rfl ?_
  rintro _ h11 hle11 ⟨wa, wc, rfl, hW⟩
  replace hn := hn.mono hle11
  replace hx := hx.mono hle11
  replace hdd := hdd.mono hle11
  replace hd := hd.mono hle11
  replace hs := hs.mono hle11
  replace hT := hT.mono hle11
  replace hh0 := hh0.mono hle11
  replace hF := hF.mono hle11
  replace hS := hS.mono hle11
  replace hP := hP.mono hle11
  refine Ru 5 rfl ?_
  refine Nk [14, 9, 8] rfl ?_
  refine J.seq ?_
  refine Sr ?_
  refine Ru 2 rfl ?_
  refine JL.callP ca_48 rfl (bequal_fn hW hF) rfl ?_
  refine Ru 1 rfl ?_
  refine Nk [59, 8] rfl ?_
  refine Cs rfl (fun hc13 => ?_) fun hc13 => ?_
  ·
   refine Sr ?_
   refine Ru 1 rfl ?_
   refine JL.nil ?_
   first | (rw [show proveE hash d s (vL n) (vL x) (vL dd) = 63 by unfold proveE; rw [if_neg hc0, if_pos (by unfold sizeB; omega)]]; exact J.retR (RetV.one rfl rfl) rfl) | (rw [show proveE hash d s (vL n) (vL x) (vL dd) = 63 by unfold proveE; rw [if_neg hc0, if_neg hc1, if_neg (fun hh => by have := hiff.2 hh; simp_all [numW])]]; exact J.retR (RetV.one rfl rfl) rfl) | (rw [show proveE hash d s (vL n) (vL x) (vL dd) = 0 by unfold proveE; rw [if_neg hc0, if_neg hc1, if_pos (hiff.1 (by simp_all [numW]))]]; exact J.retR (RetV.one rfl rfl) rfl)
  refine J.skip ?_
  refine Sr ?_
  refine Ru 1 rfl ?_
  refine JL.nil ?_
  first | (rw [show proveE hash d s (vL n) (vL x) (vL dd) = 63 by unfold proveE; rw [if_neg hc0, if_pos (by unfold sizeB; omega)]]; exact J.retR (RetV.one rfl rfl) rfl) | (rw [show proveE hash d s (vL n) (vL x) (vL dd) = 63 by unfold proveE; rw [if_neg hc0, if_neg hc1, if_neg (fun hh => by have := hiff.2 hh; simp_all [numW])]]; exact J.retR (RetV.one rfl rfl) rfl) | (rw [show proveE hash d s (vL n) (vL x) (vL dd) = 0 by unfold proveE; rw [if_neg hc0, if_neg hc1, if_pos (hiff.1 (by simp_all [numW]))]]; exact J.retR (RetV.one rfl rfl) rfl)
theorem natN_put (n : List UInt32) : ∃ t, (natN n).put = some t := by
  have h := (nat_back n).1
  unfold Nd.natOk Nd.whole at h
  simp only [Bool.and_eq_true] at h
  exact Option.isSome_iff_exists.1 h.1.2
theorem keyNd_wr {n x : List UInt32} (h1 : n.length ≤ 60) (h2 : x.length ≤ 60) : (keyNd n x).wr = ((keyNd n x).put.getD [], 0) := by
  have e1 := nat_back n
  have e2 := nat_back x
  have b1 := bl_len' n
  have b2 := bl_len' x
  have k4 : ∀ ks, okN 0 16 true [] ks = true := fun ks => by
    unfold okN; rw [show mayB 0 16 true = true from by decide]; simp
  obtain ⟨t1, ht1⟩ := natN_put n
  obtain ⟨t2, ht2⟩ := natN_put x
  have l1 := (Nd.put_len _ _ _ (Nat.le_refl _) ht1).2
  have l2 := (Nd.put_len _ _ _ (Nat.le_refl _) ht2).2
  obtain ⟨t, ht⟩ : ∃ t, (keyNd n x).put = some t := by
    simp [keyNd, Nd.put, Nd.putL, k4, ht1, ht2]
  have l3 := (Nd.put_len _ _ _ (Nat.le_refl _) ht).2
  have hsz := keyNd_sz n x h1 h2
  have hk : (keyNd n x).sz ≤ 1000 := by
    simp only [keyNd, Nd.sz, Nd.szL, List.length_nil]; omega
  unfold Nd.wr
  rw [ht]
  simp only [Option.getD_some]
  rw [if_neg (by simp [keyNd, natN, Nd.rk, Nd.rkL]), if_neg (by omega)]
theorem pkbytes_fn {an ae ad : Option Addr} {cn ce cd : Nat} {n x dd : List UInt32} {h : Part} (hn : SlR u32R 1 h an cn n) (hx : SlR u32R 1 h ae ce x) (hdd : SlR u32R 1 h ad cd dd) (hT : Tabs h) (hln : n.length ≤ 60) (hlx : x.length ≤ 60) :
    FnR Tryz.prog 28 [.agg #[.slice an n.length cn, .slice ae x.length ce, .slice ad dd.length cd]] h (fun v h' => ∃ a c, v = .tuple #[.slice a (keyBL n x dd).length c, .int .i64 (keyBE n x dd)] ∧ SlR u8R 1 h' a c (keyBL n x dd)) := by
  have hsz := keyNd_sz n x hln hlx
  have hwr := keyNd_wr hln hlx
  have hs1 : Nd.szL [natN n, natN x] ≤ 1099511627776 := by simp only [keyNd, Nd.sz, Nd.szL, List.length_nil] at hsz ⊢; omega
  refine Fn.intro Tryz.func28 rfl Tryz.ntmps28 rfl (fun e he => ?_)
  refine J.weak [(0, _)] ⟨rfl, trivial⟩ ?_
  have hh0 := Part.le.refl h
  refine Sr ?_
  refine JL.box rfl rfl rfl (fun b1 => ?_)
  refine Ru 2 rfl ?_
  refine JL.nil ?_
  refine J.seq ?_
  refine Sr ?_
  refine JL.op (RunV.ownA ag_32 rfl mm_ (by first | rfl)) rfl ?_
  refine JL.callR ca_60 rfl (keyright_fn hn hx hdd) rfl ?_
  rintro _ h2 hle2 rfl
  replace hn := hn.mono hle2
  replace hx := hx.mono hle2
  replace hdd := hdd.mono hle2
  replace hT := hT.mono hle2
  replace hh0 := hh0.mono hle2
  refine Ru 1 rfl ?_
  refine JL.nil ?_
  refine Cs rfl (fun hc3 => ?_) fun hc3 => ?_
  ·
   have hrt : ¬ rightB (vL n) (vL x) (vL dd) = true := (by simpa using hc3); have e1 : keyBE n x dd = 50 := if_neg hrt; have e2 : keyBL n x dd = [] := if_neg hrt
   refine Sr ?_
   refine Ru 2 rfl ?_
   refine Nk [3, 2, 1] rfl ?_
   rw [e1, e2]; exact J.retR (RetV.two rfl rfl rfl) ⟨_, _, rfl, SlR.nil_⟩
  have hrt : rightB (vL n) (vL x) (vL dd) = true := (by simpa using hc3); have e1 : keyBE n x dd = 0 := if_pos hrt; have e2 : keyBL n x dd = (keyNd n x).put.getD [] := if_pos hrt
  refine J.skip ?_
  refine Kp [3, 2, 1] rfl ?_
  refine J.seq ?_
  refine J.held ([.blk b1 32 [.slice an n.length cn, .slice ae x.length ce, .slice ad dd.length cd]]) 13 mixed_ rfl (fun h00 => ?_)
  refine JH.take 0 rfl (by kernel_rfl) (by kernel_rfl) (by kernel_rfl) (fun _ _ _ _ hh => hh) (br_ h00) z49_ rfl ?_
  refine JH.take 1 rfl (by kernel_rfl) (by kernel_rfl) (by kernel_rfl) (fun _ _ _ _ hh => hh) (br_ h00) (RunV.own1 ag_30 rfl mm_ rfl) rfl ?_
  refine JH.take 3 rfl (by kernel_rfl) (by kernel_rfl) (by kernel_rfl) (fun _ _ _ _ hh => hh) (br_ h00) z44_ rfl ?_
  refine JH.take 4 rfl (by kernel_rfl) (by kernel_rfl) (by kernel_rfl) (fun _ _ _ _ hh => hh) (br_ h00) (RunV.own1 ag_30 rfl mm_ rfl) rfl ?_
  refine JH.all1 2 (by kernel_rfl) rfl ?_
  unfold One
  refine JL.callR ca_63 rfl (dernat_fn hn (by omega)) rfl ?_
  rintro _ h4 hle4 ⟨w1, rfl, hA⟩
  replace hn := hn.mono hle4
  replace hx := hx.mono hle4
  replace hdd := hdd.mono hle4
  replace hT := hT.mono hle4
  replace hh0 := hh0.mono hle4
  refine JL.nil ⟨(br_ h00), ?_⟩
  refine JH.all1 5 (by kernel_rfl) rfl ?_
  unfold One
  refine JL.callR ca_63 rfl (dernat_fn hx (by omega)) rfl ?_
  rintro _ h5 hle5 ⟨w2, rfl, hB⟩
  replace hn := hn.mono hle5
  replace hx := hx.mono hle5
  replace hdd := hdd.mono hle5
  replace hT := hT.mono hle5
  replace hh0 := hh0.mono hle5
  replace hA := hA.mono hle5
  refine JL.nil ⟨(br_ h00), ?_⟩
  refine JH.all1 6 (by kernel_rfl) rfl ?_
  unfold One
  refine JL.litAll [_, _] ap_73 rfl rfl (List.forall_mem_cons.2 ⟨z6_, List.forall_mem_cons.2 ⟨z6_, List.forall_mem_nil _⟩⟩) rfl (by kernel_rfl) (by kernel_rfl) rfl (fun b6 => ?_)
  refine JL.pubB (R := NdR) (sz := 5) (l := [natN n, natN x]) dl_ ((by have := (CellsR.one hA hA.len5).append (CellsR.one hB hB.len5); simpa using this)) z20_ (fun h7 hle7 hK => ?_)
  replace hn := hn.mono hle7
  replace hx := hx.mono hle7
  replace hdd := hdd.mono hle7
  replace hT := hT.mono hle7
  replace hh0 := hh0.mono hle7
  replace hA := hA.mono hle7
  replace hB := hB.mono hle7
  refine JL.nil ⟨(br_ h00), ?_⟩
  refine JH.all1 7 (by kernel_rfl) rfl ?_
  unfold One
  refine JL.callR ca_62 rfl (cons_fn' (cl := 0) (t := 16) hK (by simp) (by simp) hs1) rfl ?_
  rintro _ h8 hle8 ⟨w3, rfl, hC⟩
  replace hn := hn.mono hle8
  replace hx := hx.mono hle8
  replace hdd := hdd.mono hle8
  replace hT := hT.mono hle8
  replace hh0 := hh0.mono hle8
  replace hA := hA.mono hle8
  replace hB := hB.mono hle8
  replace hK := hK.mono hle8
  refine JL.nil ⟨(br_ h00), ?_⟩
  refine JH.all1 8 (by kernel_rfl) rfl ?_
  unfold One
  refine JL.callR ca_61 rfl (write_fn (x := keyNd n x) hC hT (by omega)) rfl ?_
  rintro _ h9 hle9 ⟨ia, ic, rfl, hI⟩
  replace hn := hn.mono hle9
  replace hx := hx.mono hle9
  replace hdd := hdd.mono hle9
  replace hT := hT.mono hle9
  replace hh0 := hh0.mono hle9
  replace hA := hA.mono hle9
  replace hB := hB.mono hle9
  replace hK := hK.mono hle9
  replace hC := hC.mono hle9
  rw [hwr] at hI ⊢
  refine JL.nil ⟨(br_ h00), ?_⟩
  refine JH.take 9 rfl (by kernel_rfl) (by kernel_rfl) (by kernel_rfl) (fun _ _ _ _ hh => hh) (br_ h00) (RunV.extract rfl rfl) rfl ?_
  refine JH.take 10 rfl (by kernel_rfl) (by kernel_rfl) (by kernel_rfl) (fun _ _ _ _ hh => hh) (br_ h00) (RunV.extract rfl rfl) rfl ?_
  refine JH.take 11 rfl (by kernel_rfl) (by kernel_rfl) (by kernel_rfl) (fun _ _ _ _ hh => hh) (br_ h00) (RunV.assign rfl) rfl ?_
  refine JH.take 12 rfl (by kernel_rfl) (by kernel_rfl) (by kernel_rfl) (fun _ _ _ _ hh => hh) (br_ h00) (RunV.assign rfl) rfl ?_
  refine JH.done (by kernel_rfl) ?_
  refine Kp [3, 2] rfl ?_
  rw [e1, e2]; exact J.retR (RetV.two rfl rfl rfl) ⟨_, _, rfl, hI⟩
end Go.Proofs.YtmngjbefnloljaaGreatDoor
namespace Go.Proofs.YtmngjbefnloljaaGreatDoor
open Go Go.RowKit
set_option maxRecDepth 100000
theorem ca_68 : callT Tryz.prog 68 = true := by kernel_rfl
theorem ca_69 : callT Tryz.prog 69 = true := by kernel_rfl
theorem fo_75_1 : fieldOff Tryz.prog 75 1 = some 1 := by kernel_rfl
theorem RunV.ld_tag {f : Fr} {S : Sig} {h : Part} {L : List Ent} {ty T : TypeId} {xo : Operand} {x : Nd} {b o : Nat} (hT : aggT f.P T = some none) (hx : ev S xo = some (.pointer (some ⟨b, o + 1, none⟩))) (hE : EltR NdR 5 h b o x) : RunV f S h L (.load T xo) ty (.int .i64 x.tag) := by
  obtain ⟨v, hr, cs, hv, hR⟩ := RunE.loadF (f := f) (S := S) (L := L) (ty := ty) (i := 1) hT hx hE (by decide)
  cases x with
  | mk c t k bs ks =>
    obtain ⟨a, ca, b', cb, rfl, _, _⟩ := hR.inv
    simp only [List.getElem?_cons_succ, List.getElem?_cons_zero, Option.some.injEq] at hv
    subst hv
    exact hr
theorem RetV.cellAT {P : Program} {e : Env} {m : Nat} {fn : Func} {S : Sig} {h : Part} {L : List Ent} {t T b bt sz t' : Nat} {cs : List Value} {v' : Value} (hr : fn.results = #[.cell t T, .tmp t']) (hv : look S t = some (.pointer (some ⟨b, 0, none⟩))) (hT : aggT P T = some (some sz)) (hm : Ent.blk b bt cs ∈ L) (hl : cs.length = sz)
    (hv' : look S t' = some v') : RetV P e m fn S h L (.tuple #[.agg cs.toArray, v']) := fun a w s => by
  simp [results, hr, s.slot t _ hv, s.slot t' _ hv', asAddr, loadVarA s.ok hT hm hl]
theorem RunV.ld_kid {f : Fr} {S : Sig} {h : Part} {L : List Ent} {ty T : TypeId} {xo : Operand} {ks : List Nd} {i b o : Nat} (hi : i < ks.length) (hT : aggT f.P T = some none) (hx : ev S xo = some (.pointer (some ⟨b, o + 1, none⟩))) (hE : EltR NdR 5 h b o ks[i]) : RunV f S h L (.load T xo) ty (.int .i64 (ks.getD i ndZ).tag) := by
  have e : ks.getD i ndZ = ks[i] := by simp [hi]
  rw [e]; exact RunV.ld_tag hT hx hE
def kid (x : Nd) (i : Nat) : Nd := x.kids.getD i ndZ
def keyF (x : Nd) (code : Int) : Bool := decide (code = 0 ∧ x.cls = 0 ∧ x.tag = 16 ∧ x.kids.length = 2 ∧ (kid x 0).tag = 2 ∧ (kid x 1).tag = 2)
def parC (x : Nd) (code : Int) : Int := if keyF x code = false then 60 else if ((kid x 0).natOk && (kid x 1).natOk) = false then 60 else if rightB (vL (kid x 0).natL) (vL (kid x 1).natL) 0 = true then 0 else 50
def parN (x : Nd) (code : Int) (i : Nat) : List UInt32 := if parC x code = 0 then (kid x i).natL else []
theorem nd_sz_rd (l : List UInt8) : (rdTop l).1.sz ≤ 1073741824 := by
  have key : (rdTop l).1 = ndZ ∨ (rdTop l).2 = (0, 0) := by
    unfold rdTop
    split
    · exact .inl rfl
    · split
      · exact .inl rfl
      · split
        · exact .inl rfl
        · exact .inr rfl
  rcases key with h | h
  · rw [h]; decide
  · have hw := wr_rdTop (l := l) (x := (rdTop l).1) (a := 0) (by rw [← h])
    have := wr_sz hw
    omega
theorem kids_sz {x : Nd} {ks : List Nd} (h : x.kids = ks) (y : Nd) (hy : y ∈ ks) : y.sz ≤ x.sz := by
  subst h
  cases x with
  | mk c t k bs ks =>
    have : y.sz ≤ Nd.szL ks := by
      induction ks with
      | nil => cases hy
      | cons z r ih =>
        simp only [Nd.szL]
        rcases List.mem_cons.1 hy with rfl | hy
        · omega
        · have := ih hy; omega
    simp only [Nd.sz]; omega
def parR (l : List UInt8) : Value → Part → Prop := fun v h' => ∃ an cn ae ce, v = .tuple #[.agg #[.slice an (parN (rdTop l).1 (rdTop l).2.2 0).length cn, .slice ae (parN (rdTop l).1 (rdTop l).2.2 1).length ce, .slice none 0 0], .int .i64 (parC (rdTop l).1 (rdTop l).2.2)] ∧
  SlR u32R 1 h' an cn (parN (rdTop l).1 (rdTop l).2.2 0) ∧ SlR u32R 1 h' ae ce (parN (rdTop l).1 (rdTop l).2.2 1)
theorem parR_bad {l : List UInt8} {h : Part} {e : Int} (he : e ≠ 0) (h1 : parC (rdTop l).1 (rdTop l).2.2 = e) : parR l (.tuple #[.agg #[.slice none 0 0, .slice none 0 0, .slice none 0 0], .int .i64 e]) h := by
  have h2 : ∀ i, parN (rdTop l).1 (rdTop l).2.2 i = [] := fun i => if_neg (by rw [h1]; exact he)
  exact ⟨none, 0, none, 0, by rw [h2, h2, h1]; rfl, by rw [h2]; exact SlR.nil_, by rw [h2]; exact SlR.nil_⟩
theorem pparse_fn {a : Option Addr} {c : Nat} {l : List UInt8} {h : Part} (hl : SlR u8R 1 h a c l) (hT : Tabs h) : FnR Tryz.prog 30 [.slice a l.length c] h (parR l) := by
  have hsz := nd_sz_rd l
  obtain ⟨xc, xt, xk, xbs, xks, hxx⟩ : ∃ c t k bs ks, (rdTop l).1 = .mk c t k bs ks := by
    cases (rdTop l).1; exact ⟨_, _, _, _, _, rfl⟩
  obtain ⟨xcode, hxc⟩ : ∃ z, z = (rdTop l).2.2 := ⟨_, rfl⟩
  have hbad := @parR_bad l
  refine Fn.intro Tryz.func30 rfl Tryz.ntmps30 rfl (fun e he => ?_)
  refine J.weak [(0, _)] ⟨rfl, trivial⟩ ?_
  have hh0 := Part.le.refl h
  refine Sr ?_
  refine JL.alloc zr_32 rfl (fun b1 => ?_)
  refine Ru 1 rfl ?_
  refine JL.nil ?_
  refine Sr ?_
  refine Ru 1 rfl ?_
  refine JL.callR ca_68 rfl (read_fn hl hT) rfl ?_
  rintro _ h2 hle2 ⟨rcs, rfl, hX⟩
  replace hl := hl.mono hle2
  replace hT := hT.mono hle2
  replace hh0 := hh0.mono hle2
  rw [hxx] at hX; obtain ⟨ba, bca, ka, kca, rfl, hB, hK⟩ := hX.inv; rw [← hxc] at hbad ⊢; generalize (rdTop l).2.1 = xat
  refine Ru 3 rfl ?_
  refine JL.alloc zr_75 rfl (fun b3 => ?_)
  refine JL.alloc zr_82 rfl (fun b4 => ?_)
  refine JL.storeA ag_75 rfl rfl dl_ z22_ z17_ z6_ ?_
  refine JL.storeA ag_82 rfl rfl dl_ (by first | rfl) z31_ (by first | rfl) ?_
  refine Nk [5, 4, 3, 2] rfl ?_
  refine J.seq ?_
  refine J.seq ?_
  refine J.meet [(50, .bool (decide (¬ (xcode = 0 ∧ xc = 0 ∧ xt = 16 ∧ xks.length = 2 ∧ (xks.getD 0 ndZ).tag = 2 ∧ (xks.getD 1 ndZ).tag = 2))))] [(4, _), (3, _), (2, _)] ⟨rfl, rfl, rfl, trivial⟩ ?_ ?_
  ·
   refine Rg ?_
   refine Ru 1 rfl ?_
   refine JL.op (RunV.own1 ag_24 rfl mm_ rfl) rfl ?_
   refine Ru 2 rfl ?_
   refine Bs 19 rfl (fun hc5 => ?_) fun hc5 => ?_
   ·
    refine Ru 31 rfl ?_
    refine JL.nil ?_
    refine ⟨rfl, rfl, ?_⟩
    exact z3_
   refine Ru 1 rfl ?_
   refine JL.opg rfl rfl  (RunV.own1 ag_3 rfl mm_ rfl) rfl ?_
   refine Ru 3 rfl ?_
   refine Bs 24 rfl (fun hc6 => ?_) fun hc6 => ?_
   ·
    refine Ru 26 rfl ?_
    refine JL.nil ?_
    refine ⟨rfl, rfl, ?_⟩
    exact z3_
   refine Ru 1 rfl ?_
   refine JL.opg rfl rfl  (RunV.own1 ag_3 rfl mm_ rfl) rfl ?_
   refine Ru 3 rfl ?_
   refine Bs 29 rfl (fun hc7 => ?_) fun hc7 => ?_
   ·
    refine Ru 21 rfl ?_
    refine JL.nil ?_
    refine ⟨rfl, rfl, ?_⟩
    exact z3_
   refine Ru 1 rfl ?_
   refine JL.opg rfl rfl  (RunV.own1 ag_73 rfl mm_ rfl) rfl ?_
   refine Ru 4 rfl ?_
   refine Bs 35 rfl (fun hc8 => ?_) fun hc8 => ?_
   ·
    refine Ru 15 rfl ?_
    refine JL.nil ?_
    refine ⟨rfl, rfl, ?_⟩
    exact z3_
   refine Ru 1 rfl ?_
   refine JL.opg rfl rfl  (RunV.own1 ag_73 rfl mm_ rfl) rfl ?_
   refine JL.opeg rfl rfl  (RunE.index (m := 0) sl_73 rfl rfl rfl hK rfl (by omega)) rfl ?_
   rintro _ ⟨b9, o9, hi9, rfl, hE9⟩
   refine JL.opg rfl rfl  (RunV.fieldAt fo_75_1 rfl) rfl ?_
   refine JL.opg rfl rfl  (RunV.ld_kid (i := 0) (by assumption) ag_3 rfl (by assumption)) rfl ?_
   refine Ru 3 rfl ?_
   refine Bs 43 rfl (fun hc10 => ?_) fun hc10 => ?_
   ·
    refine Ru 7 rfl ?_
    refine JL.nil ?_
    refine ⟨rfl, rfl, ?_⟩
    exact z3_
   refine Ru 1 rfl ?_
   refine JL.opg rfl rfl  (RunV.own1 ag_73 rfl mm_ rfl) rfl ?_
   refine JL.opeg rfl rfl  (RunE.index (m := 1) sl_73 rfl rfl rfl hK rfl (by omega)) rfl ?_
   rintro _ ⟨b11, o11, hi11, rfl, hE11⟩
   refine JL.opg rfl rfl  (RunV.fieldAt fo_75_1 rfl) rfl ?_
   refine JL.opg rfl rfl  (RunV.ld_kid (i := 1) (by assumption) ag_3 rfl (by assumption)) rfl ?_
   refine Ru 2 rfl ?_
   refine JL.nil ?_
   refine ⟨rfl, rfl, ?_⟩
   exact z3_
  refine Cs rfl (fun hc12 => ?_) fun hc12 => ?_
  ·
   have hp60 : parC (rdTop l).1 xcode = 60 := (by rw [hxx]; exact if_pos (decide_eq_false hc12))
   refine Sr ?_
   refine JL.op (RunV.build (cs := [.slice none 0 0, .slice none 0 0, .slice none 0 0]) pl_32 rfl rfl) rfl ?_
   refine JL.storeA ag_32 rfl rfl dl_ (by first | rfl) z31_ (by first | rfl) ?_
   refine Ru 1 rfl ?_
   refine JL.nil ?_
   exact J.retR (RetV.cellAT rfl rfl ag_32 mm_ (by first | rfl) rfl) (hbad (by decide) hp60)
  obtain ⟨g1, g2, g3, g4, g5, g6⟩ := hc12; have hks : (rdTop l).1.kids = xks := (by rw [hxx]; rfl); have z0 : (xks[0]'(by omega)).sz ≤ 1073741824 := Nat.le_trans (kids_sz hks _ (List.getElem_mem _)) hsz; have z1 : (xks[1]'(by omega)).sz ≤ 1073741824 := Nat.le_trans (kids_sz hks _ (List.getElem_mem _)) hsz; have k0 : kid (rdTop l).1 0 = xks[0]'(by omega) := (by unfold kid; rw [hks]; simp [g4]); have k1 : kid (rdTop l).1 1 = xks[1]'(by omega) := (by unfold kid; rw [hks]; simp [g4]); have hkf : keyF (rdTop l).1 xcode = true := (by rw [hxx]; exact decide_eq_true ⟨g1, g2, g3, g4, g5, g6⟩)
  refine J.skip ?_
  refine Sr ?_
  refine Ru 1 rfl ?_
  refine JL.op (RunV.own1 ag_73 rfl mm_ rfl) rfl ?_
  refine JL.ope (RunE.index sl_73 rfl rfl (show _ = ((0 : Nat) : Int) from rfl) (by assumption) rfl (by omega)) rfl ?_
  rintro _ ⟨b13, o13, hi13, rfl, hE13⟩
  refine JL.ope (RunE.loadA ag_75 rfl (by assumption)) rfl ?_
  rintro _ ⟨_, rfl, hNd14⟩
  refine JL.callR ca_69 rfl (natof_fn (x := xks[0]) (by assumption) hT (by omega)) rfl ?_
  rintro _ h15 hle15 ⟨na, nc, rfl, hN0⟩
  replace hl := hl.mono hle15
  replace hT := hT.mono hle15
  replace hh0 := hh0.mono hle15
  replace hX := hX.mono hle15
  replace hB := hB.mono hle15
  replace hK := hK.mono hle15
  replace hNd14 := hNd14.mono hle15
  refine Ru 5 rfl ?_
  refine Nk [7, 6, 4, 3, 2] rfl ?_
  refine Sr ?_
  refine Ru 1 rfl ?_
  refine JL.op (RunV.own1 ag_73 rfl mm_ rfl) rfl ?_
  refine JL.ope (RunE.index sl_73 rfl rfl (show _ = ((1 : Nat) : Int) from rfl) (by assumption) rfl (by omega)) rfl ?_
  rintro _ ⟨b16, o16, hi16, rfl, hE16⟩
  refine JL.ope (RunE.loadA ag_75 rfl (by assumption)) rfl ?_
  rintro _ ⟨_, rfl, hNd17⟩
  refine JL.callR ca_69 rfl (natof_fn (x := xks[1]) (by assumption) hT (by omega)) rfl ?_
  rintro _ h18 hle18 ⟨ma, mc, rfl, hN1⟩
  replace hl := hl.mono hle18
  replace hT := hT.mono hle18
  replace hh0 := hh0.mono hle18
  replace hX := hX.mono hle18
  replace hB := hB.mono hle18
  replace hK := hK.mono hle18
  replace hNd14 := hNd14.mono hle18
  replace hN0 := hN0.mono hle18
  replace hNd17 := hNd17.mono hle18
  refine Ru 5 rfl ?_
  refine Nk [9, 8, 7, 6, 3, 2] rfl ?_
  refine J.seq ?_
  refine Sr ?_
  refine Ru 3 rfl ?_
  refine Bs 70 rfl (fun hc19 => ?_) fun hc19 => ?_
  ·
   refine Ru 3 rfl ?_
   refine Nk [73, 8, 6, 3, 2] rfl ?_
   refine J.cond_t rfl ?_
   refine Sr ?_
   refine JL.op (RunV.build (cs := [.slice none 0 0, .slice none 0 0, .slice none 0 0]) pl_32 rfl rfl) rfl ?_
   refine JL.storeA ag_32 rfl rfl dl_ (by first | rfl) z31_ (by first | rfl) ?_
   refine Ru 1 rfl ?_
   refine JL.nil ?_
   exact J.retR (RetV.cellAT rfl rfl ag_32 mm_ (by first | rfl) rfl) (hbad (by decide) (by unfold parC; rw [if_neg (by rw [hkf]; decide), if_pos (by rw [k0, k1]; simp_all)]))
  refine Ru 3 rfl ?_
  refine Nk [73, 8, 6, 3, 2] rfl ?_
  refine Cs rfl (fun hc20 => ?_) fun hc20 => ?_
  ·
   refine Sr ?_
   refine JL.op (RunV.build (cs := [.slice none 0 0, .slice none 0 0, .slice none 0 0]) pl_32 rfl rfl) rfl ?_
   refine JL.storeA ag_32 rfl rfl dl_ (by first | rfl) z31_ (by first | rfl) ?_
   refine Ru 1 rfl ?_
   refine JL.nil ?_
   exact J.retR (RetV.cellAT rfl rfl ag_32 mm_ (by first | rfl) rfl) (hbad (by decide) (by unfold parC; rw [if_neg (by rw [hkf]; decide), if_pos (by rw [k0, k1]; simp_all)]))
  refine J.skip ?_
  refine Sr ?_
  refine Ru 2 rfl ?_
  refine JL.op (RunV.build (cs := [_, _, .slice none 0 0]) pl_32 rfl rfl) rfl ?_
  refine JL.alloc zr_32 rfl (fun b21 => ?_)
  refine JL.storeA ag_32 rfl rfl dl_ (by first | rfl) z31_ (by first | rfl) ?_
  refine Nk [10, 3, 2] rfl ?_
  refine J.seq ?_
  refine Sr ?_
  refine JL.op (RunV.ownA ag_32 rfl mm_ (by first | rfl)) rfl ?_
  refine JL.callR ca_60 rfl (keyright_fn (d := []) hN0 hN1 SlR.nil_) rfl ?_
  rintro _ h22 hle22 rfl
  replace hl := hl.mono hle22
  replace hT := hT.mono hle22
  replace hh0 := hh0.mono hle22
  replace hX := hX.mono hle22
  replace hB := hB.mono hle22
  replace hK := hK.mono hle22
  replace hNd14 := hNd14.mono hle22
  replace hN0 := hN0.mono hle22
  replace hNd17 := hNd17.mono hle22
  replace hN1 := hN1.mono hle22
  refine Ru 1 rfl ?_
  refine JL.nil ?_
  refine Cs rfl (fun hc23 => ?_) fun hc23 => ?_
  ·
   have hrt : ¬ rightB (vL (kid (rdTop l).1 0).natL) (vL (kid (rdTop l).1 1).natL) 0 = true := (by rw [k0, k1]; simpa [show vL [] = 0 from rfl] using hc23)
   refine Sr ?_
   refine JL.op (RunV.build (cs := [.slice none 0 0, .slice none 0 0, .slice none 0 0]) pl_32 rfl rfl) rfl ?_
   refine JL.storeA ag_32 rfl rfl dl_ (by first | rfl) z31_ (by first | rfl) ?_
   refine Ru 1 rfl ?_
   refine Nk [3, 10, 2] rfl ?_
   exact J.retR (RetV.cellAT rfl rfl ag_32 mm_ (by first | rfl) rfl) (hbad (by decide) (by unfold parC; rw [if_neg (by rw [hkf]; decide), if_neg (by rw [k0, k1]; simp_all), if_neg hrt]))
  have hrt : rightB (vL (kid (rdTop l).1 0).natL) (vL (kid (rdTop l).1 1).natL) 0 = true := (by rw [k0, k1]; simpa [show vL [] = 0 from rfl] using hc23); have hp0 : parC (rdTop l).1 xcode = 0 := (by unfold parC; rw [if_neg (by rw [hkf]; decide), if_neg (by rw [k0, k1]; simp_all), if_pos hrt]); have hpn0 : parN (rdTop l).1 xcode 0 = (xks[0]'(by omega)).natL := (by unfold parN; rw [if_pos hp0, k0]); have hpn1 : parN (rdTop l).1 xcode 1 = (xks[1]'(by omega)).natL := (by unfold parN; rw [if_pos hp0, k1])
  refine J.skip ?_
  refine Sr ?_
  refine JL.op (RunV.ownA ag_32 rfl mm_ (by first | rfl)) rfl ?_
  refine JL.storeA ag_32 rfl rfl dl_ (by first | rfl) z31_ (by first | rfl) ?_
  refine Ru 1 rfl ?_
  refine Nk [3, 2] rfl ?_
  subst hxc; exact J.retR (RetV.cellAT rfl rfl ag_32 mm_ (by first | rfl) rfl) ⟨na, nc, ma, mc, by rw [hpn0, hpn1, hp0], by rw [hpn0]; exact hN0, by rw [hpn1]; exact hN1⟩
end Go.Proofs.YtmngjbefnloljaaGreatDoor
namespace Go.Proofs.YtmngjbefnloljaaGreatDoor
open Go Go.RowKit
set_option maxRecDepth 100000
def hdN : Except Int (Nat × Nat) → Nat | .ok (n, _) => n | .error _ => 0
def hdQ : Except Int (Nat × Nat) → Nat | .ok (_, q) => q | .error _ => 0
def hdC : Except Int (Nat × Nat) → Int | .ok _ => 0 | .error c => c
theorem lenB_lenI {n : Nat} (h : ¬ n < 128) : (lenB n).length = 1 + nby n := by unfold lenB; rw [if_neg h]; simp [be_len]; omega
theorem nby_le {n k : Nat} (h1 : 1 ≤ k) (h2 : k ≤ 4) (h : n < 256 ^ k) : nby n ≤ k := by
  have : k = 1 ∨ k = 2 ∨ k = 3 ∨ k = 4 := by omega
  have e1 : (256 : Nat) ^ 1 = 256 := rfl
  have e2 : (256 : Nat) ^ 2 = 65536 := rfl
  have e3 : (256 : Nat) ^ 3 = 16777216 := rfl
  have e4 : (256 : Nat) ^ 4 = 4294967296 := rfl
  unfold nby
  rcases this with rfl | rfl | rfl | rfl <;> simp only [e1, e2, e3, e4] at h <;> (repeat' split) <;> omega
theorem hd_len {n k : Nat} (h1 : 1 ≤ k) (h2 : k ≤ 4) (h : n < 256 ^ k) (h3 : ¬ n < 128) : (lenB n).length = k + 1 ↔ 0 < n / 256 ^ (k - 1) := by
  have hn : n ≤ 140737488355328 := by
    have : (256 : Nat) ^ k ≤ 256 ^ 4 := Nat.pow_le_pow_right (by decide) h2
    have e4 : (256 : Nat) ^ 4 = 4294967296 := rfl
    omega
  have a := nby_bd n
  have b := nby_le h1 h2 h
  rw [lenB_lenI h3]
  by_cases hk : k - 1 ≤ nby n
  · rw [nby_gt0 n (k - 1) hn (by omega) hk]; omega
  · constructor
    · omega
    · intro h5
      exfalso
      have := (nby_gt0 n (nby n) hn (by omega) (Nat.le_refl _)).1 (Nat.lt_of_lt_of_le h5 (Nat.div_le_div_left (Nat.pow_le_pow_right (by decide) (by omega)) (Nat.pow_pos (by decide))))
      omega
theorem rheader_fn {l : List UInt8} {p en : Nat} {ab : Option Addr} {cb : Nat} {h : Part} (hl : SlR u8R 1 h ab cb l) (he : en ≤ l.length) (hp : p ≤ l.length) :
    FnR Tryz.prog 144 [.slice ab l.length cb, .int .i64 p, .int .i64 en] h (fun v _ => v = .tuple #[.int .i64 (hdN (rdS l (p + 1) en)), .int .i64 (hdQ (rdS l (p + 1) en)), .int .i64 (hdC (rdS l (p + 1) en))]) := by
  have hb := hl.big
  have hen := he
  refine Fn.intro Tryz.func144 rfl Tryz.ntmps144 rfl (fun e he => ?_)
  refine J.weak [(0, _), (1, _), (2, _)] ⟨rfl, rfl, rfl, trivial⟩ ?_
  have hh0 := Part.le.refl h
  refine Sr ?_
  refine Ru 3 rfl ?_
  refine JL.nil ?_
  refine J.seq ?_
  refine Sr ?_
  refine Ru 1 rfl ?_
  refine JL.op ai_ rfl ?_
  refine Ru 2 rfl ?_
  refine JL.nil ?_
  refine Cs rfl (fun hc1 => ?_) fun hc1 => ?_
  ·
   refine Sr ?_
   refine Ru 3 rfl ?_
   refine Nk [8, 7, 6, 0, 1, 2] rfl ?_
   exact J.retR (RetV.three rfl rfl rfl rfl) (by unfold rdS; rw [if_pos (by omega)]; rfl)
  refine J.skip ?_
  refine Kp [8, 7, 6, 0, 1, 2] rfl ?_
  refine Sr ?_
  have hpl : p + 1 < l.length := (by omega); have hbt := byteAt_eq l (p + 1) hpl; have hlt := byteAt_lt l (p + 1)
  refine Ru 2 rfl ?_
  refine JL.op ai_ rfl ?_
  refine JL.ope (RunE.index (m := p + 1) sl_22 rfl rfl rfl hl rfl (by omega)) rfl ?_
  rintro _ ⟨b2, o2, hi2, rfl, hE2⟩
  refine JL.op (RunV.ld_u8 ag_5 rfl (by assumption)) rfl ?_
  refine JL.op z10_ rfl ?_
  refine Ru 1 rfl ?_
  refine Nk [9, 8, 7, 6, 0, 1, 2] rfl ?_
  refine J.seq ?_
  refine Sr ?_
  refine Ru 2 rfl ?_
  refine JL.nil ?_
  refine Cs rfl (fun hc4 => ?_) fun hc4 => ?_
  ·
   refine Sr ?_
   refine Ru 2 rfl ?_
   refine JL.op ai_ rfl ?_
   refine Ru 3 rfl ?_
   refine Nk [8, 7, 6, 9, 0, 1, 2] rfl ?_
   exact J.retR (RetV.three rfl rfl rfl rfl) (by unfold rdS; rw [if_neg (by omega), if_pos (by omega)]; rw [hbt]; unfold hdN hdQ hdC; simp only; rw [show ((p : Int) + 2) = ((p + 1 + 1 : Nat) : Int) by omega])
  refine J.skip ?_
  refine Sr ?_
  refine Ru 1 rfl ?_
  refine JL.op si_ rfl ?_
  refine Ru 1 rfl ?_
  refine Nk [10, 8, 7, 6, 0, 1, 2] rfl ?_
  refine J.seq ?_
  refine Sr ?_
  refine Ru 3 rfl ?_
  refine Bs 32 rfl (fun hc5 => ?_) fun hc5 => ?_
  ·
   refine Ru 3 rfl ?_
   refine Nk [35, 10, 8, 7, 6, 0, 1, 2] rfl ?_
   refine J.cond_t rfl ?_
   refine Sr ?_
   refine Ru 3 rfl ?_
   refine JL.nil ?_
   exact J.retR (RetV.three rfl rfl rfl rfl) (by unfold rdS; rw [if_neg (by omega), if_neg (by omega), if_pos (by omega)]; rfl)
  refine Ru 3 rfl ?_
  refine Nk [35, 10, 8, 7, 6, 0, 1, 2] rfl ?_
  refine Cs rfl (fun hc6 => ?_) fun hc6 => ?_
  ·
   refine Sr ?_
   refine Ru 3 rfl ?_
   refine Nk [8, 7, 6, 10, 0, 1, 2] rfl ?_
   exact J.retR (RetV.three rfl rfl rfl rfl) (by unfold rdS; rw [if_neg (by omega), if_neg (by omega), if_pos (by omega)]; rfl)
  refine J.skip ?_
  refine J.seq ?_
  refine Sr ?_
  refine Ru 1 rfl ?_
  refine JL.op ai_ rfl ?_
  refine Ru 1 rfl ?_
  refine JL.op ai_ rfl ?_
  refine Ru 2 rfl ?_
  refine Nk [41, 10, 8, 7, 6, 0, 1] rfl ?_
  refine Cs rfl (fun hc7 => ?_) fun hc7 => ?_
  ·
   refine Sr ?_
   refine Ru 3 rfl ?_
   refine Nk [8, 7, 6, 10, 0, 1] rfl ?_
   exact J.retR (RetV.three rfl rfl rfl rfl) (by unfold rdS; rw [if_neg (by omega), if_neg (by omega), if_neg (by omega), if_pos (by omega)]; rfl)
  refine J.skip ?_
  refine Sr ?_
  obtain ⟨kk, hkk⟩ : ∃ kk : Nat, byteAt l (p + 1) = 128 + kk := ⟨byteAt l (p + 1) - 128, by omega⟩; obtain ⟨sub, hsub⟩ : ∃ sub, sub = (l.drop (p + 2)).take kk := ⟨_, rfl⟩; have hsl : sub.length = kk := (by rw [hsub]; simp; omega); have hsi : ∀ (i : Nat) (hi : i < sub.length) (hj : p + 2 + i < l.length), l[p + 2 + i] = sub[i] := (by subst hsub; intro i hi hj; simp)
  refine Ru 1 rfl ?_
  refine JL.nil ?_
  refine J.seq ?_
  refine Sr ?_
  refine Ru 1 rfl ?_
  refine JL.nil ?_
  refine J.block ?_
  refine J.loop (fun t_ S_ h_ L_ => ∃ (g : Part) (i : Nat), t_ = kk - i ∧ S_ = [(0, .slice ab l.length cb), (1, .int .i64 p), (10, .int .i64 kk), (11, .int .i64 (beval (sub.take i))), (12, .int .i64 i)] ∧ g = h_ ∧ L_ = [] ∧ (h.le g ∧ SlR u8R 1 g ab cb l ∧ i ≤ kk)) ⟨_, _, ?_, ⟨_, 0, rfl, rfl, rfl, rfl, ⟨by assumption, by assumption, by omega⟩⟩⟩ ?_
  ·
   repeat (first | exact trivial | refine ⟨rfl, ?_⟩ | refine ⟨(by exact some_int (by first | rfl | omega)), ?_⟩)
  rintro _ _ _ _ ⟨g, i, rfl, rfl, rfl, rfl, hhg, hl, hi⟩
  have hbl := beval_lt sub i
  refine J.seq ?_
  refine Sr ?_
  refine Ru 3 rfl ?_
  refine JL.nil ?_
  refine Cs rfl (fun hc8 => ?_) fun hc8 => ?_
  ·
   refine J.skip ?_
   refine J.seq ?_
   refine J.block ?_
   refine Rg ?_
   have h256 := pow256_3 i (by omega); have hst := beval_step sub i (by omega); have hsb := (sub[i]'(by omega)).toNat_lt; have hsie := hsi i (by omega) (by omega); rw [← hsie] at hst hsb
   refine Ru 1 rfl ?_
   refine JL.op z16_ rfl ?_
   refine Ru 2 rfl ?_
   refine JL.op ai_ rfl ?_
   refine Ru 1 rfl ?_
   refine JL.op ai_ rfl ?_
   refine JL.ope (RunE.index (m := p + 2 + i) sl_22 rfl rfl rfl hl rfl (by omega)) rfl ?_
   rintro _ ⟨b9, o9, hi9, rfl, hE9⟩
   refine JL.op (RunV.ld_u8 ag_5 rfl (by assumption)) rfl ?_
   refine JL.op z10_ rfl ?_
   refine JL.op ai_ rfl ?_
   refine Ru 1 rfl ?_
   refine JL.nil ?_
   refine Rg ?_
   refine Ru 1 rfl ?_
   refine JL.op ai_ rfl ?_
   refine Ru 1 rfl ?_
   refine JL.nil ?_
   refine ⟨_, ?_, _, ?_, ⟨_, i + 1, rfl, rfl, rfl, rfl, ⟨by assumption, by assumption, by omega⟩⟩⟩
   ·
    omega
   repeat (first | exact trivial | refine ⟨rfl, ?_⟩ | refine ⟨(by exact some_int (by first | rfl | omega)), ?_⟩)
  refine J.exit ?_
  refine Kp [1, 10, 11] rfl ?_
  refine J.seq ?_
  refine Sr ?_
  have hik : i = kk := (by omega); have hv : beval ((l.drop (p + 1 + 1)).take (byteAt l (p + 1) - 128)) = beval (sub.take i) := (by rw [hkk, show 128 + kk - 128 = kk by omega, show p + 1 + 1 = p + 2 by omega, ← hsub, List.take_of_length_le (by omega)]); have hbl := beval_lt sub i; rw [hik] at hbl hv; subst hik; have hHL := @hd_len (beval (sub.take i)) i (by omega) (by omega) hbl; have h25 := Nat.pow_le_pow_right (n := 256) (by decide) (show i ≤ 4 by omega); have hw : 256 ^ (byteAt l (p + 1) - 128 - 1) = 256 ^ (i - 1) := (by rw [hkk, show 128 + i - 128 = i by omega])
  refine Ru 3 rfl ?_
  refine Bs 60 rfl (fun hc11 => ?_) fun hc11 => ?_
  ·
   refine Ru 7 rfl ?_
   refine Nk [67, 1, 10, 11] rfl ?_
   refine J.cond_t rfl ?_
   refine Sr ?_
   refine Ru 3 rfl ?_
   refine JL.nil ?_
   exact J.retR (RetV.three rfl rfl rfl rfl) (by unfold rdS; rw [if_neg (by omega), if_neg (by omega), if_neg (by omega), if_neg (by omega), if_pos (by rw [hv, hw]; omega)]; rfl)
  refine Ru 1 rfl ?_
  refine JL.callRg rfl rfl  ca_105 rfl (length_fn (by omega)) rfl ?_
  rintro _ h12 hle12 ⟨a12, c12, rfl, hS12⟩
  replace hhg := hhg.mono hle12
  replace hl := hl.mono hle12
  refine Ru 2 rfl ?_
  refine JL.opg rfl rfl  ai_ rfl ?_
  refine Ru 2 rfl ?_
  refine Nk [67, 1, 10, 11] rfl ?_
  refine Cs rfl (fun hc13 => ?_) fun hc13 => ?_
  ·
   refine Sr ?_
   refine Ru 3 rfl ?_
   refine JL.nil ?_
   have hhl := hHL (by omega); exact J.retR (RetV.three rfl rfl rfl rfl) (by unfold rdS; rw [if_neg (by omega), if_neg (by omega), if_neg (by omega), if_neg (by omega), if_pos (by rw [hv, hw]; omega)]; rfl)
  refine J.skip ?_
  refine Sr ?_
  refine Ru 2 rfl ?_
  refine JL.op ai_ rfl ?_
  refine Ru 1 rfl ?_
  refine JL.op ai_ rfl ?_
  refine Ru 3 rfl ?_
  refine Nk [8, 7, 6] rfl ?_
  have hhl := hHL (by omega); exact J.retR (RetV.three rfl rfl rfl rfl) (by unfold rdS; rw [if_neg (by omega), if_neg (by omega), if_neg (by omega), if_neg (by omega), if_neg (by rw [hv, hw]; omega), hv, hkk]; unfold hdN hdQ hdC; simp only; rw [show ((p + 1 + 1 + (128 + i - 128) : Nat) : Int) = (p : Int) + 2 + i by omega])
def hdE (s : Except Int (Nat × Nat)) (en : Nat) : Int := if hdC s = 0 ∧ (en : Int) - hdQ s < hdN s then 30 else hdC s
def hdF (s : Except Int (Nat × Nat)) (en d : Nat) : Int := if hdE s en = 0 ∧ d = 0 then 33 else hdE s en
theorem rdS_code {l : List UInt8} {p en : Nat} {c : Int} (h : rdS l p en = .error c) : c ≠ 0 := by
  unfold rdS at h
  (repeat' split at h) <;> first | (cases h; decide) | cases h
theorem hdQ_le (l : List UInt8) (p en : Nat) : hdQ (rdS l p en) ≤ en := by
  cases h : rdS l p en with
  | error c => exact Nat.zero_le _
  | ok x => exact (rdS_le h).2
theorem hdF_err {c : Int} {en d : Nat} (hc : c ≠ 0) : hdF (.error c) en d = c := by
  have e : hdE (.error c) en = c := if_neg (fun hh => hc hh.1)
  unfold hdF
  rw [e]
  exact if_neg (fun hh => hc hh.1)
theorem hdF_okv {n q en d : Nat} : hdF (.ok (n, q)) en d = if (en : Int) - q < n then 30 else if d = 0 then 33 else 0 := by
  have e : hdE (.ok (n, q)) en = if (en : Int) - q < n then 30 else 0 := by
    by_cases h1 : (en : Int) - q < n
    · rw [if_pos h1]; exact if_pos ⟨rfl, h1⟩
    · rw [if_neg h1]; exact if_neg (fun hh => h1 hh.2)
  unfold hdF
  rw [e]
  by_cases h1 : (en : Int) - q < n
  · simp only [if_pos h1]; simp
  · simp only [if_neg h1]
    by_cases h2 : d = 0
    · simp [h2]
    · simp [h2]
theorem hdF_bad {l : List UInt8} {p en d : Nat} {s : Except Int (Nat × Nat)} (hp : p < en) (hm : mayB (byteAt l p / 64 : Nat) (byteAt l p % 32 : Nat) (decide (byteAt l p / 32 % 2 = 1)) = true) (hs : rdS l (p + 1) en = s) (hF : hdF s en d ≠ 0) : rdN d l p en = .error (p, hdF s en d) := by
  have key : ∀ ok, (ok = false ↔ d = 0) → rdH l p en ok = .error (p, hdF s en d) := fun ok hok => by
    unfold rdH
    rw [if_neg (by omega), if_neg (by rw [hm]; decide), hs]
    cases s with
    | error c => simp only; rw [hdF_err (rdS_code hs)]
    | ok x =>
      obtain ⟨n, q⟩ := x
      have hq := (rdS_le hs).2
      rw [hdF_okv] at hF ⊢
      simp only
      by_cases h1 : n ≤ en - q
      · have h3 : ¬ (en : Int) - q < n := by omega
        rw [if_neg h3] at hF
        rw [if_neg (show ¬ ¬ n ≤ en - q from fun hh => hh h1), if_neg h3]
        by_cases h2 : d = 0
        · rw [if_pos (hok.2 h2), if_pos h2]
        · rw [if_neg h2] at hF; exact absurd rfl hF
      · rw [if_pos (show ¬ n ≤ en - q from h1), if_pos (show (en : Int) - q < n by omega)]
  cases d with
  | zero => exact rdN_err0 (key false (by simp))
  | succ d => exact rdN_err (key true (by simp))
theorem hdF_ok {l : List UInt8} {p en d : Nat} {s : Except Int (Nat × Nat)} (hp : p < en) (hm : mayB (byteAt l p / 64 : Nat) (byteAt l p % 32 : Nat) (decide (byteAt l p / 32 % 2 = 1)) = true) (hs : rdS l (p + 1) en = s) (hF : hdF s en d = 0) :
    ∃ n q d', hdN s = n ∧ hdQ s = q ∧ d = d' + 1 ∧ rdH l p en true = .ok (byteAt l p / 64, byteAt l p % 32, decide (byteAt l p / 32 % 2 = 1), n, q) := by
  cases s with
  | error c => rw [hdF_err (rdS_code hs)] at hF; exact absurd hF (rdS_code hs)
  | ok x =>
    obtain ⟨n, q⟩ := x
    have hq := (rdS_le hs).2
    rw [hdF_okv] at hF
    by_cases h1 : (en : Int) - q < n
    · rw [if_pos h1] at hF; exact absurd hF (by decide)
    · rw [if_neg h1] at hF
      by_cases h2 : d = 0
      · rw [if_pos h2] at hF; exact absurd hF (by decide)
      · refine ⟨n, q, d - 1, rfl, rfl, by omega, ?_⟩
        unfold rdH
        rw [if_neg (by omega), if_neg (by rw [hm]; decide), hs]
        simp only
        rw [if_neg (by omega), if_neg (by decide)]
theorem putL_false : ∀ (ks : List Nd) (set : Bool) (lo lo' : Option (List UInt8)) (ab b : List UInt8), Nd.putL set ks lo ab = some b → Nd.putL false ks lo' ab = some b
  | [], set, lo, lo', ab, b, h => by simpa [Nd.putL] using h
  | x :: r, set, lo, lo', ab, b, h => by
    simp only [Nd.putL] at h ⊢
    cases hx : x.put with
    | none => simp [hx] at h
    | some z =>
      simp only [hx] at h ⊢
      split at h
      · cases h
      · simp only [Bool.false_and, Bool.false_eq_true, if_false]
        exact putL_false r set _ _ _ _ h
theorem rdK_put {d : Nat} {l : List UInt8} {stop : Nat} (hst : stop ≤ l.length) : ∀ (f q1 : Nat) (acc : List Nd) (rr : Bool) (last : Nat) (ks : List Nd) (r' : Bool) (q2 : Nat), q1 ≤ stop → stop ≤ q1 + f → rdK (rdN d l) l stop f q1 acc rr last = .ok (ks, r', q2) →
    ∃ r, ks = acc ++ r ∧ Nd.rkL r ≤ d ∧ q2 = stop ∧ ∀ ab lo, Nd.putL false r lo ab = some (ab ++ cutL l q1 stop) := by
  intro f
  induction f with
  | zero =>
    intro q1 acc rr last ks r' q2 h1 h2 h3
    simp only [rdK] at h3
    injection h3 with h3; injection h3 with h7 h8; injection h8 with h8 h9
    have hq : q1 = stop := by omega
    exact ⟨[], by simp [h7], by simp [Nd.rkL], by omega, fun ab lo => by simp [Nd.putL, cutL, hq]⟩
  | succ f ih =>
    intro q1 acc rr last ks r' q2 h1 h2 h3
    by_cases hlt : q1 < stop
    · cases hx : rdN d l q1 stop with
      | error e => rw [rdK_err hlt hx] at h3; cases h3
      | ok y =>
        obtain ⟨x, p'⟩ := y
        rw [rdK_ok hlt hx] at h3
        have hle := rdN_le d l q1 stop x p' hx
        obtain ⟨hp, hr⟩ := rdN_inv d l q1 stop x p' hst hx
        obtain ⟨r, e1, e2, e3, e4⟩ := ih p' _ _ _ _ _ _ hle.2 (by omega) h3
        refine ⟨x :: r, by simp [e1], by simp only [Nd.rkL]; omega, e3, fun ab lo => ?_⟩
        simp only [Nd.putL, hp, Bool.false_and, Bool.false_eq_true, if_false]
        rw [e4, List.append_assoc, cut_cut (by omega) (by omega)]
    · rw [rdK_stop hlt] at h3
      injection h3 with h3; injection h3 with h7 h8; injection h8 with h8 h9
      have hq : q1 = stop := by omega
      exact ⟨[], by simp [h7], by simp [Nd.rkL], by omega, fun ab lo => by simp [Nd.putL, cutL, hq]⟩
theorem rk_right {d : Nat} {l : List UInt8} {p en c t n q p' : Nat} {ks : List Nd} {r : Bool} (he : en ≤ l.length) (hen : en < 4294967296) (hH : rdH l p en true = .ok (c, t, true, n, q)) (hK : rdK (rdN d l) l (q + n) n q [] true q = .ok (ks, r, p')) :
    (Nd.mk c t true [] ks).put.isSome = (r || (decide (c ≠ 0) || decide (t ≠ 17))) := by
  have h0 := rdH_le hH
  obtain ⟨hm, hcut, hn⟩ := rdH_inv hH he
  have hN : rdN (d + 1) l p en = if r || (decide (c ≠ 0) || decide (t ≠ 17)) then .ok (.mk c t true [] ks, p') else .error (p, 34) := by rw [rdN_cons hH, hK]
  cases hr : (r || (decide (c ≠ 0) || decide (t ≠ 17))) with
  | true =>
    rw [hr, if_pos rfl] at hN
    rw [(rdN_inv _ _ _ _ _ _ he hN).1]; rfl
  | false =>
    rw [hr, if_neg (by decide)] at hN
    cases hp : (Nd.mk c t true [] ks).put with
    | none => rfl
    | some b =>
      exfalso
      obtain ⟨r2, e1, e2, e3, e4⟩ := rdK_put (d := d) (l := l) (stop := q + n) (by omega) n q [] true q ks r p' (by omega) (by omega) hK
      rw [List.nil_append] at e1
      subst e1
      have hb := hp
      rw [put_cons hm rfl] at hb
      cases hpl : Nd.putL (decide ((c : Int) = 0) && decide ((t : Int) = 17)) ks none [] with
      | none => rw [hpl] at hb; simp at hb
      | some z =>
        rw [hpl] at hb
        simp only [Option.map_some, Option.some.injEq] at hb
        have hz := putL_false _ _ _ none _ _ hpl
        rw [e4 [] none, List.nil_append] at hz
        injection hz with hz
        subst hz
        have hbc : b = cutL l p (q + n) := by
          rw [← hb, cut_len (by omega) (by omega), show q + n - q = n by omega, ← hcut, cut_cut (by omega) (by omega)]
        have hbl : b.length = q + n - p := by rw [hbc, cut_len (by omega) (by omega)]
        have := rdN_put (d + 1) _ b l p en hp (by simp only [Nd.rk]; omega) (by omega) (by rw [hbc]; unfold cutL; exact List.take_prefix _ _) (by omega)
        rw [this] at hN
        cases hN
theorem rp_right {l : List UInt8} {p en c t n q : Nat} {bs : List UInt8} (he : en ≤ l.length) (hH : rdH l p en true = .ok (c, t, false, n, q)) : (Nd.mk c t false bs []).put.isSome = (decide (c = 2) || valB t bs) := by
  obtain ⟨hm, _, _⟩ := rdH_inv hH he
  have hr := (may_rng hm).1
  rw [put_prim hm rfl]
  by_cases h2 : c = 2
  · subst h2; simp
  · have h0 : (c : Int) = 0 := by omega
    rw [decide_eq_false h2, decide_eq_true h0]
    cases valB t bs <;> rfl
theorem rdN_sz {d : Nat} {l : List UInt8} {p e : Nat} {x : Nd} {q : Nat} (he : e ≤ l.length) (h : rdN d l p e = .ok (x, q)) : x.sz + p ≤ q := by
  have h1 := (rdN_inv d l p e x q he h).1
  have h2 := rdN_le d l p e x q h
  have := Nd.put_sz _ x _ (Nat.le_refl _) h1
  rw [cut_len (by omega) (by omega)] at this
  omega
theorem RetV.cellTC {P : Program} {e : Env} {m : Nat} {fn : Func} {S : Sig} {h : Part} {L : List Ent} {t T b bt sz t' t2 T2 b2 bt2 sz2 : Nat} {cs cs2 : List Value} {v' : Value} (hr : fn.results = #[.cell t T, .tmp t', .cell t2 T2]) (hv : look S t = some (.pointer (some ⟨b, 0, none⟩))) (hT : aggT P T = some (some sz)) (hm : Ent.blk b bt cs ∈ L) (hl : cs.length = sz)
    (hv' : look S t' = some v') (hv2 : look S t2 = some (.pointer (some ⟨b2, 0, none⟩))) (hT2 : aggT P T2 = some (some sz2)) (hm2 : Ent.blk b2 bt2 cs2 ∈ L) (hl2 : cs2.length = sz2) : RetV P e m fn S h L (.tuple #[.agg cs.toArray, v', .agg cs2.toArray]) := fun a w s => by
  simp [results, hr, s.slot t _ hv, s.slot t' _ hv', s.slot t2 _ hv2, asAddr, loadVarA s.ok hT hm hl, loadVarA s.ok hT2 hm2 hl2]
end Go.Proofs.YtmngjbefnloljaaGreatDoor
namespace Go.Proofs.YtmngjbefnloljaaGreatDoor
open Go Go.RowKit
theorem z41_ {p : Prop} (u : p := by repeat (first | exact trivial | refine ⟨rfl, ?_⟩ | refine ⟨(by exact some_bool (by first | exact and_t (by assumption) (by omega) | exact and_f (by assumption) | exact and_f (by simp_all))), ?_⟩)) : p := u
theorem z43_ {p : Prop} (u : p := by repeat (first | exact trivial | refine ⟨rfl, ?_⟩ | refine ⟨(by exact some_int (by first | exact (if_pos (by assumption)).symm | exact (if_neg (by assumption)).symm)), ?_⟩)) : p := u
end Go.Proofs.YtmngjbefnloljaaGreatDoor
namespace Go.Proofs.YtmngjbefnloljaaGreatDoor
open Go Go.RowKit
set_option maxRecDepth 100000
theorem ca_110 : callT Tryz.prog 110 = true := by kernel_rfl
theorem ca_144 : callT Tryz.prog 144 = true := by kernel_rfl
def rrX : RdE (Nd × Nat) → Nd | .ok (x, _) => x | .error _ => ndZ
def rrQ : RdE (Nd × Nat) → Nat | .ok (_, q) => q | .error _ => 0
def rrA : RdE (Nd × Nat) → Int | .ok _ => 0 | .error (a, _) => a
def rrC : RdE (Nd × Nat) → Int | .ok _ => 0 | .error (_, c) => c
def rrR (s : RdE (Nd × Nat)) : Value → Part → Prop := fun v h' => ∃ cs, v = .tuple #[.agg (List.toArray cs), .int .i64 (rrQ s), .agg #[.int .i64 (rrA s), .int .i64 (rrC s)]] ∧ NdR h' cs (rrX s)
theorem rrR_bad {s : RdE (Nd × Nat)} {a c : Int} {h : Part} (hs : s = .error (a, c)) : rrR s (.tuple #[.agg #[.int .i64 0, .int .i64 0, .bool false, .slice none 0 0, .slice none 0 0], .int .i64 0, .agg #[.int .i64 a, .int .i64 c]]) h := by
  subst hs; exact ⟨_, rfl, NdR.of SlR.nil_ SlR.nil_⟩
theorem rrR_ok {s : RdE (Nd × Nat)} {x : Nd} {q : Nat} {cs : List Value} {h : Part} (hs : s = .ok (x, q)) (hx : NdR h cs x) : rrR s (.tuple #[.agg cs.toArray, .int .i64 q, .agg #[.int .i64 0, .int .i64 0]]) h := by
  subst hs; exact ⟨cs, rfl, hx⟩
theorem rr_bad {s : RdE (Nd × Nat)} (h : rrC s ≠ 0) : s = .error (rrA s, rrC s) := by
  cases s with
  | error e => rfl
  | ok x => exact absurd rfl h
theorem rr_ok {d : Nat} {l : List UInt8} {p e : Nat} (hp : p ≤ e) (h : rrC (rdN d l p e) = 0) : rdN d l p e = .ok (rrX (rdN d l p e), rrQ (rdN d l p e)) := by
  cases hs : rdN d l p e with
  | ok x => rfl
  | error x =>
    obtain ⟨a, c⟩ := x
    rw [hs] at h
    have h : c = 0 := h
    have := rdN_at d l p e a c hp hs
    omega
theorem and_t {k : Bool} {P Q : Prop} [Decidable P] [Decidable Q] (hk : k = true) (h : P ↔ Q) : decide P = decide (k = true ∧ Q) := decide_eq_decide.2 ⟨fun hp => ⟨hk, h.1 hp⟩, fun hp => h.2 hp.2⟩
theorem and_f {k : Bool} {Q : Prop} [Decidable Q] (hk : ¬ k = true) : false = decide (k = true ∧ Q) := (decide_eq_false (fun hh => hk hh.1)).symm
theorem rd_kid {d d' : Nat} {l : List UInt8} {p en c t n q f pos last : Nat} {k r : Bool} {acc : List Nd} {a e : Int} (hd : d = d' + 1) (hH : rdH l p en true = .ok (c, t, k, n, q)) (hk : k = true) (hK : rdK (rdN d' l) l (q + n) n q [] true q = rdK (rdN d' l) l (q + n) (f + 1) pos acc r last) (hp : pos < q + n)
    (hx : rdN d' l pos (q + n) = .error (a, e)) : rdN d l p en = .error (a, e) := by
  subst hd hk
  rw [rdN_cons hH, hK, rdK_err hp hx]
theorem rd_end {d d' : Nat} {l : List UInt8} {p en c t n q f pos last : Nat} {k r : Bool} {acc : List Nd} {bs : List UInt8} (he : en ≤ l.length) (hen : en < 4294967296) (hd : d = d' + 1) (hH : rdH l p en true = .ok (c, t, k, n, q))
    (h1 : k = true → bs = [] ∧ rdK (rdN d' l) l (q + n) n q [] true q = rdK (rdN d' l) l (q + n) f pos acc r last) (h0 : k = false → acc = [] ∧ bs = cutL l q (q + n)) (hs : pos ≤ q + n) (hx : ¬ (k = true ∧ pos < q + n)) :
    rdN d l p en = if (Nd.mk c t k bs acc).put.isSome then .ok (.mk c t k bs acc, q + n) else .error (p, 34) := by
  subst hd
  cases k with
  | true =>
    obtain ⟨rfl, hK⟩ := h1 rfl
    have hx2 : ¬ pos < q + n := fun hh => hx ⟨rfl, hh⟩
    have hp : pos = q + n := by omega
    replace hK := hK.trans (rdK_stop hx2)
    rw [rk_right he hen hH hK, rdN_cons hH, hK, hp]
  | false =>
    obtain ⟨rfl, rfl⟩ := h0 rfl
    rw [rp_right he hH, rdN_prim hH]
theorem rdnode_fn : ∀ (d : Nat) (l : List UInt8) (p en : Nat) (ab : Option Addr) (cb : Nat) (h : Part), SlR u8R 1 h ab cb l → l.length ≤ 4000000 → en ≤ l.length → p ≤ l.length → d ≤ 32 →
    FnR Tryz.prog 110 [.slice ab l.length cb, .int .i64 p, .int .i64 en, .int .i64 ((33 : Int) - d)] h (rrR (rdN d l p en)) := by
  intro d
  induction d using Nat.strongRecOn with
  | _ d ih =>
  intro l p en ab cb h hl hll hen hpl0 hd
  refine Fn.intro Tryz.func110 rfl Tryz.ntmps110 rfl (fun e he => ?_)
  refine J.weak [(0, _), (1, _), (2, _), (3, _)] ⟨rfl, rfl, rfl, rfl, trivial⟩ ?_
  have hh0 := Part.le.refl h
  refine Sr ?_
  refine JL.alloc zr_75 rfl (fun b1 => ?_)
  refine Ru 1 rfl ?_
  refine JL.alloc zr_82 rfl (fun b2 => ?_)
  refine JL.nil ?_
  refine J.seq ?_
  refine Sr ?_
  refine Ru 3 rfl ?_
  refine JL.nil ?_
  refine Cs rfl (fun hc3 => ?_) fun hc3 => ?_
  ·
   refine Sr ?_
   refine JL.op (RunV.build (cs := [.int .i64 0, .int .i64 0, .bool false, .slice none 0 0, .slice none 0 0]) pl_75 rfl rfl) rfl ?_
   refine Ru 1 rfl ?_
   refine JL.op (RunV.build (cs := [_, _]) pl_82 rfl rfl) rfl ?_
   refine JL.storeA ag_75 rfl rfl dl_ z22_ z17_ z6_ ?_
   refine Ru 1 rfl ?_
   refine JL.storeA ag_82 rfl rfl dl_ (by first | rfl) z31_ (by first | rfl) ?_
   refine Nk [9, 10, 8, 0, 1, 2, 3] rfl ?_
   exact J.retR (RetV.cellTC rfl rfl ag_75 mm_ z6_ rfl rfl ag_82 mm_ (by first | rfl)) (rrR_bad (by cases d with
     | zero => exact rdN_err0 (by unfold rdH; rw [if_pos (by omega)])
     | succ d => exact rdN_err (by unfold rdH; rw [if_pos (by omega)])))
  refine J.skip ?_
  refine Sr ?_
  have hpl : p < l.length := (by omega); have hbt := byteAt_eq l p hpl; have hlt := byteAt_lt l p
  refine Ru 2 rfl ?_
  refine JL.ope (RunE.index (m := p) sl_22 rfl rfl rfl hl rfl (by omega)) rfl ?_
  rintro _ ⟨b4, o4, hi4, rfl, hE4⟩
  refine JL.op (RunV.ld_u8 ag_5 rfl (by assumption)) rfl ?_
  refine JL.op z10_ rfl ?_
  refine Ru 1 rfl ?_
  refine Nk [11, 10, 9, 8, 0, 1, 2, 3] rfl ?_
  refine Sr ?_
  refine Ru 1 rfl ?_
  refine JL.op z14_ rfl ?_
  rw [show ((l[p].toNat : Int) / 64) = ((byteAt l p / 64 : Nat) : Int) by rw [hbt]; simp]
  refine Ru 1 rfl ?_
  refine JL.op z23_ rfl ?_
  rw [show ((l[p].toNat : Int) % 32) = ((byteAt l p % 32 : Nat) : Int) by rw [hbt]; simp]
  refine Ru 1 rfl ?_
  refine JL.op z14_ rfl ?_
  refine JL.op z23_ rfl ?_
  refine Ru 1 rfl ?_
  rw [show decide ((l[p].toNat : Int) / 32 % 2 = 1) = decide (byteAt l p / 32 % 2 = 1) from decide_eq_decide.2 (by omega)]
  refine JL.op (RunV.build (cs := [_, _, _, .slice none 0 0, .slice none 0 0]) pl_75 rfl rfl) rfl ?_
  refine JL.alloc zr_75 rfl (fun b6 => ?_)
  refine JL.storeA ag_75 rfl rfl dl_ z22_ z17_ z6_ ?_
  refine Nk [12, 10, 9, 8, 0, 1, 2, 3] rfl ?_
  refine J.seq ?_
  refine Sr ?_
  refine Ru 1 rfl ?_
  refine JL.op (RunV.own1 ag_3 rfl mm_ rfl) rfl ?_
  refine Ru 1 rfl ?_
  refine JL.op (RunV.own1 ag_3 rfl mm_ rfl) rfl ?_
  refine Ru 1 rfl ?_
  refine JL.op (RunV.own1 ag_4 rfl mm_ rfl) rfl ?_
  refine JL.callP ca_102 rfl (rmay_fn _ _ _ _) rfl ?_
  refine Ru 1 rfl ?_
  refine Nk [47, 12, 10, 9, 8, 0, 1, 2, 3] rfl ?_
  refine Cs rfl (fun hc8 => ?_) fun hc8 => ?_
  ·
   have hmay : mayB (byteAt l p / 64 : Nat) (byteAt l p % 32 : Nat) (decide (byteAt l p / 32 % 2 = 1)) = false := (by simpa using hc8)
   refine Sr ?_
   refine JL.op (RunV.build (cs := [.int .i64 0, .int .i64 0, .bool false, .slice none 0 0, .slice none 0 0]) pl_75 rfl rfl) rfl ?_
   refine Ru 1 rfl ?_
   refine JL.op (RunV.build (cs := [_, _]) pl_82 rfl rfl) rfl ?_
   refine JL.storeA ag_75 rfl rfl dl_ z22_ z17_ z6_ ?_
   refine Ru 1 rfl ?_
   refine JL.storeA ag_82 rfl rfl dl_ (by first | rfl) z31_ (by first | rfl) ?_
   refine Nk [9, 12, 10, 8, 0, 1, 2, 3] rfl ?_
   exact J.retR (RetV.cellTC rfl rfl ag_75 mm_ z6_ rfl rfl ag_82 mm_ (by first | rfl)) (rrR_bad (by cases d with
     | zero => exact rdN_err0 (by unfold rdH; rw [if_neg (by omega), if_pos hmay])
     | succ d => exact rdN_err (by unfold rdH; rw [if_neg (by omega), if_pos hmay])))
  have hmay : mayB (byteAt l p / 64 : Nat) (byteAt l p % 32 : Nat) (decide (byteAt l p / 32 % 2 = 1)) = true := (by simpa using hc8)
  refine J.skip ?_
  refine Sr ?_
  refine Ru 3 rfl ?_
  refine JL.callR ca_144 rfl (rheader_fn (by assumption) (by omega) (by omega)) rfl ?_
  rintro _ h9 hle9 rfl
  replace hl := hl.mono hle9
  replace hh0 := hh0.mono hle9
  obtain ⟨s, hs⟩ : ∃ s, rdS l (p + 1) en = s := ⟨_, rfl⟩; rw [hs]; have hsq := hdQ_le l (p + 1) en; rw [hs] at hsq
  refine Ru 7 rfl ?_
  refine Nk [15, 14, 13, 12, 10, 9, 8, 0, 1, 2, 3] rfl ?_
  refine J.seq ?_
  refine J.seq ?_
  refine J.meet [(67, .bool (decide (hdC s = 0 ∧ (en : Int) - hdQ s < hdN s)))] [(15, _), (14, _), (13, _), (12, _), (10, _), (9, _), (8, _), (0, _), (1, _), (3, _)] ⟨rfl, rfl, rfl, rfl, rfl, rfl, rfl, rfl, rfl, rfl, trivial⟩ ?_ ?_
  ·
   refine Rg ?_
   refine Ru 3 rfl ?_
   refine Bs 61 rfl (fun hc10 => ?_) fun hc10 => ?_
   ·
    refine Ru 3 rfl ?_
    refine JL.opg rfl rfl  si_ rfl ?_
    refine Ru 2 rfl ?_
    refine JL.nil ?_
    refine ⟨rfl, rfl, ?_⟩
    exact z3_
   refine Ru 6 rfl ?_
   refine JL.nil ?_
   refine ⟨rfl, rfl, ?_⟩
   exact z3_
  refine J.meet [(15, .int .i64 (hdE s en))] [(14, _), (13, _), (12, _), (10, _), (9, _), (8, _), (0, _), (1, _), (3, _)] ⟨rfl, rfl, rfl, rfl, rfl, rfl, rfl, rfl, rfl, trivial⟩ ?_ ?_
  ·
   refine Cs rfl (fun hc11 => ?_) fun hc11 => ?_
   ·
    refine Rg ?_
    refine Ru 1 rfl ?_
    refine JL.nil ?_
    refine ⟨rfl, rfl, ?_⟩
    exact z43_
   refine J.skip ?_
   refine ⟨rfl, rfl, ?_⟩
   exact z43_
  refine J.seq ?_
  refine J.seq ?_
  refine J.meet [(73, .bool (decide (hdE s en = 0 ∧ d = 0)))] [(15, _), (14, _), (13, _), (12, _), (10, _), (9, _), (8, _), (0, _), (1, _), (3, _)] ⟨rfl, rfl, rfl, rfl, rfl, rfl, rfl, rfl, rfl, rfl, trivial⟩ ?_ ?_
  ·
   refine Rg ?_
   refine Ru 3 rfl ?_
   refine Bs 70 rfl (fun hc12 => ?_) fun hc12 => ?_
   ·
    refine Ru 3 rfl ?_
    refine JL.nil ?_
    refine ⟨rfl, rfl, ?_⟩
    exact z3_
   refine Ru 3 rfl ?_
   refine JL.nil ?_
   refine ⟨rfl, rfl, ?_⟩
   exact z3_
  refine J.meet [(15, .int .i64 (hdF s en d))] [(14, _), (13, _), (12, _), (10, _), (9, _), (8, _), (0, _), (1, _), (3, _)] ⟨rfl, rfl, rfl, rfl, rfl, rfl, rfl, rfl, rfl, trivial⟩ ?_ ?_
  ·
   refine Cs rfl (fun hc13 => ?_) fun hc13 => ?_
   ·
    refine Rg ?_
    refine Ru 1 rfl ?_
    refine JL.nil ?_
    refine ⟨rfl, rfl, ?_⟩
    exact z43_
   refine J.skip ?_
   refine ⟨rfl, rfl, ?_⟩
   exact z43_
  refine J.seq ?_
  refine Sr ?_
  refine Ru 2 rfl ?_
  refine JL.nil ?_
  refine Cs rfl (fun hc14 => ?_) fun hc14 => ?_
  ·
   refine Sr ?_
   refine JL.op (RunV.build (cs := [.int .i64 0, .int .i64 0, .bool false, .slice none 0 0, .slice none 0 0]) pl_75 rfl rfl) rfl ?_
   refine Ru 2 rfl ?_
   refine JL.op (RunV.build (cs := [_, _]) pl_82 rfl rfl) rfl ?_
   refine JL.storeA ag_75 rfl rfl dl_ z22_ z17_ z6_ ?_
   refine Ru 1 rfl ?_
   refine JL.storeA ag_82 rfl rfl dl_ (by first | rfl) z31_ (by first | rfl) ?_
   refine Nk [9, 14, 13, 12, 10, 8, 0, 1, 3] rfl ?_
   exact J.retR (RetV.cellTC rfl rfl ag_75 mm_ z6_ rfl rfl ag_82 mm_ (by first | rfl)) (rrR_bad (hdF_bad (by omega) hmay hs hc14))
  obtain ⟨zn, zq, d', hzn, hzq, hdd, hH⟩ := hdF_ok (d := d) (by omega) hmay hs (by omega); rw [hzn, hzq]; have hle := rdH_le hH; obtain ⟨c, hcd⟩ : ∃ c, byteAt l p / 64 = c := ⟨_, rfl⟩; obtain ⟨t, htd⟩ : ∃ t, byteAt l p % 32 = t := ⟨_, rfl⟩; obtain ⟨k, hkd⟩ : ∃ k, decide (byteAt l p / 32 % 2 = 1) = k := ⟨_, rfl⟩; rw [hcd, htd, hkd] at hH ⊢; rw [hcd, htd] at hle
  refine J.skip ?_
  refine J.seq ?_
  refine Sr ?_
  refine Ru 1 rfl ?_
  refine JL.op (RunV.own1 ag_4 rfl mm_ rfl) rfl ?_
  refine JL.row_nil 5 1 ?_; refine JL.row_nil 75 5 ?_
  refine Ru 1 rfl ?_
  refine Nk [82, 14, 13, 12, 10, 9, 8, 0, 1, 3] rfl ?_
  refine Cs rfl (fun hc15 => ?_) fun hc15 => ?_
  ·
   refine J.held ([]) 11 mixed_ rfl (fun h00 => ?_)
   refine JH.take 0 rfl (by kernel_rfl) (by kernel_rfl) (by kernel_rfl) (fun _ _ _ _ hh => hh) (br_ h00) (by first | exact RunV.fieldAt0 fo_75_3 rfl | exact RunV.fieldAt fo_75_3 rfl) rfl ?_
   refine JH.take 2 rfl (by kernel_rfl) (by kernel_rfl) (by kernel_rfl) (fun _ _ _ _ hh => hh) (br_ h00) (RunV.move rfl) rfl ?_
   refine JH.take 3 rfl (by kernel_rfl) (by kernel_rfl) (by kernel_rfl) (fun _ _ _ _ hh => hh) (br_ h00) (RunV.move rfl) rfl ?_
   refine JH.take 4 rfl (by kernel_rfl) (by kernel_rfl) (by kernel_rfl) (fun _ _ _ _ hh => hh) (br_ h00) (RunV.move rfl) rfl ?_
   refine JH.take 5 rfl (by kernel_rfl) (by kernel_rfl) (by kernel_rfl) (fun _ _ _ _ hh => hh) (br_ h00) (RunV.move rfl) rfl ?_
   refine JH.take 6 rfl (by kernel_rfl) (by kernel_rfl) (by kernel_rfl) (fun _ _ _ _ hh => hh) (br_ h00) ai_ rfl ?_
   refine JH.takeE 7 rfl (by kernel_rfl) (by kernel_rfl) (by kernel_rfl) (fun _ _ _ _ hh => hh) (br_ h00) (RunE.cut_lh (m := zq) (m' := zq + zn) sl_22 rfl rfl rfl rfl (by omega) (by assumption) rfl (by omega) (by omega)) rfl ?_
   rintro _ ⟨as_, cs_, rfl, hSs⟩
   obtain ⟨bs, hbs⟩ : ∃ bs, cutL l zq (zq + zn) = bs := ⟨_, rfl⟩; have hbc := hbs; unfold cutL at hbs; rw [hbs] at hSs ⊢; have hbsl := hSs.big; have hbl2 : bs.length = zn := (by rw [← hbs]; simp; omega)
   refine JH.all1 1 (by kernel_rfl) rfl ?_
   unfold One
   refine JL.op (RunV.own1 ag_22 rfl mm_ rfl) rfl ?_
   refine JL.nil ⟨(br_ h00), ?_⟩
   refine JH.all1 8 (by kernel_rfl) rfl ?_
   unfold One
   refine JL.append ap_22 rfl rfl (CellsR.nil : CellsR u8R 1 _ [] []) rfl (by assumption) rfl dl_ z5_ rfl rfl (fun a17 c17 xs17 hC17 hN17 => ?_)
   obtain rfl := hC17.u8
   refine JL.pub (R := u8R) (l := bs) dl_ CellsR.of_u8 rfl z5_ (fun h18 hle18 hP18 => ?_)
   replace hl := hl.mono hle18
   replace hh0 := hh0.mono hle18
   replace hSs := hSs.mono hle18
   refine JL.nil ⟨(br_ h00), ?_⟩
   refine JH.take 9 rfl (by kernel_rfl) (by kernel_rfl) (by kernel_rfl) (fun _ _ _ _ hh => hh) (br_ h00) (by first | exact RunV.fieldAt0 fo_75_3 rfl | exact RunV.fieldAt fo_75_3 rfl) rfl ?_
   refine JH.all1 10 (by kernel_rfl) rfl ?_
   unfold One
   refine JL.store1 ag_22 rfl rfl rfl dl_ z32_ ?_
   refine JL.nil ⟨(br_ h00), ?_⟩
   refine JH.done (by kernel_rfl) ?_
   refine Kp [14, 13, 12, 10, 9, 8, 0, 1, 3] rfl ?_
   refine J.seq ?_
   refine Sr ?_
   refine JL.ents [.blk b6 _ _, .row none 0 75 5 0 [], .blk b1 _ _, .blk b2 _ _] pt_ ?_
   refine Ru 2 rfl ?_
   refine JL.nil ?_
   refine J.block ?_
   refine J.loop (fun t_ S_ h_ L_ => ∃ (g : Part) (f pos last : Nat) (acc : List Nd) (r : Bool) (bs : List UInt8) (ak bk : Option Addr) (ck ckb : Nat) (xs : List Value), t_ = zq + zn - pos ∧ S_ = [(0, .slice ab l.length cb), (1, .int .i64 p), (3, .int .i64 ((33 : Int) - d)), (8, .pointer (some ⟨b1, 0, none⟩)), (10, .pointer (some ⟨b2, 0, none⟩)), (12, .pointer (some ⟨b6, 0, none⟩)), (13, .int .i64 zn), (14, .int .i64 zq), (16, .int .i64 pos)] ∧ g = h_ ∧ L_ = [.blk b6 75 [.int .i64 c, .int .i64 t, .bool k, .slice bk bs.length ckb, .slice ak acc.length ck], .row ak ck 75 5 acc.length xs, .blk b1 75 [.int .i64 0, .int .i64 0, .bool false, .slice none 0 0, .slice none 0 0], .blk b2 82 [.int .i64 0, .int .i64 0]] ∧ (h.le g ∧ SlR u8R 1 g ab cb l ∧ CellsR NdR 5 g xs acc ∧ SlR u8R 1 g bk ckb bs ∧ bs.length ≤ zn ∧ last ≤ pos ∧ zq ≤ pos ∧ pos ≤ zq + zn ∧ zq + zn ≤ pos + f ∧ Nd.szL acc + zq ≤ pos ∧ acc.length + zq ≤ pos ∧ (k = false → acc = [] ∧ bs = cutL l zq (zq + zn)) ∧ (k = true → bs = [] ∧ rdK (rdN d' l) l (zq + zn) zn zq [] true zq = rdK (rdN d' l) l (zq + zn) f pos acc r last))) ⟨_, _, ?_, ⟨_, zn, zq, zq, [], true, bs, none, _, 0, _, [], rfl, rfl, rfl, rfl, ⟨by assumption, by assumption, CellsR.nil, (by first | assumption | exact SlR.nil_), (by first | omega | exact Nat.zero_le _), by omega, by omega, by omega, by omega, by simp [Nd.szL], by simp, (by intro hh; first | exact ⟨rfl, hbc.symm⟩ | simp_all), (by intro hh; first | exact ⟨rfl, rfl⟩ | simp_all)⟩⟩⟩ ?_
   ·
    exact z7_
   rintro _ _ _ _ ⟨g, f, pos, last, acc, r, bs, ak, bk, ck, ckb, xs, rfl, rfl, rfl, rfl, hhg, hl, hC, hbsR, hbl, hlp, hzp, hps, hpf, hsz, hap, hK0, hK1⟩
   refine J.seq ?_
   refine J.seq ?_
   refine J.meet [(102, .bool (decide (k = true ∧ pos < zq + zn)))] [(0, _), (1, _), (3, _), (8, _), (10, _), (12, _), (13, _), (14, _), (16, _)] ⟨rfl, rfl, rfl, rfl, rfl, rfl, rfl, rfl, rfl, trivial⟩ ?_ ?_
   ·
    refine Rg ?_
    refine Ru 1 rfl ?_
    refine JL.op (RunV.own1 ag_4 rfl mm_ rfl) rfl ?_
    refine Ru 1 rfl ?_
    refine Bs 96 rfl (fun hc19 => ?_) fun hc19 => ?_
    ·
     refine Ru 3 rfl ?_
     refine JL.opg rfl rfl  ai_ rfl ?_
     refine Ru 2 rfl ?_
     refine JL.nil ?_
     refine ⟨rfl, rfl, ?_⟩
     exact z41_
    refine Ru 6 rfl ?_
    refine JL.nil ?_
    refine ⟨rfl, rfl, ?_⟩
    exact z41_
   refine Cs rfl (fun hc20 => ?_) fun hc20 => ?_
   ·
    obtain ⟨hkt, hpos⟩ := hc20; obtain ⟨hbs0, hK⟩ := hK1 hkt; obtain ⟨f', rfl⟩ : ∃ f', f = f' + 1 := ⟨f - 1, by omega⟩
    refine J.skip ?_
    refine J.block ?_
    refine Sr ?_
    refine Ru 4 rfl ?_
    refine JL.op ai_ rfl ?_
    rw [show (zq : Int) + zn = ((zq + zn : Nat) : Int) by omega]
    refine Ru 1 rfl ?_
    refine JL.op ai_ rfl ?_
    rw [show ((33 : Int) - (d : Int) + 1) = 33 - (d' : Int) by omega]
    refine JL.callR ca_110 rfl ((ih d' (by omega) l pos (zq + zn) ab cb _ (by assumption) hll (by omega) (by omega) (by omega))) rfl ?_
    rintro _ h21 hle21 ⟨xcs, rfl, hX⟩
    replace hhg := hhg.mono hle21
    replace hl := hl.mono hle21
    replace hC := hC.mono hle21
    replace hbsR := hbsR.mono hle21
    have hyo := @rr_ok d' l pos (zq + zn) (by omega); have hyb := @rr_bad (rdN d' l pos (zq + zn)); obtain ⟨y, hy⟩ : ∃ y, rdN d' l pos (zq + zn) = y := ⟨_, rfl⟩; rw [hy] at hX hyo hyb ⊢
    refine Ru 4 rfl ?_
    refine JL.alloc zr_75 rfl (fun b22 => ?_)
    refine JL.alloc zr_82 rfl (fun b23 => ?_)
    refine JL.storeA ag_75 rfl rfl dl_ z22_ z17_ z6_ ?_
    refine Ru 1 rfl ?_
    refine JL.storeA ag_82 rfl rfl dl_ (by first | rfl) z31_ (by first | rfl) ?_
    refine JL.nil ?_
    refine J.seq ?_
    refine Sr ?_
    refine Ru 1 rfl ?_
    refine JL.op (RunV.own1 ag_24 rfl mm_ rfl) rfl ?_
    refine Ru 1 rfl ?_
    refine JL.nil ?_
    refine Cs rfl (fun hc24 => ?_) fun hc24 => ?_
    ·
     have hrd := rd_kid hdd hH hkt hK hpos (hy.trans (hyb hc24))
     refine J.seq ?_
     refine J.held ([.blk (by first | exact b23 | exact b33) 82 [.int .i64 (rrA y), .int .i64 (rrC y)]]) 5 mixed_ rfl (fun h00 => ?_)
     refine JH.take 0 rfl (by kernel_rfl) (by kernel_rfl) (by kernel_rfl) (fun _ _ _ _ hh => hh) (br_ h00) (RunV.build (cs := [.int .i64 0, .int .i64 0, .bool false, .slice none 0 0, .slice none 0 0]) pl_75 rfl rfl) rfl ?_
     refine JH.take 1 rfl (by kernel_rfl) (by kernel_rfl) (by kernel_rfl) (fun _ _ _ _ hh => hh) (br_ h00) (RunV.ownA ag_82 rfl mm_ (by first | rfl)) rfl ?_
     refine JH.all1 2 (by kernel_rfl) rfl ?_
     unfold One
     refine JL.storeA ag_75 rfl rfl dl_ z22_ z17_ z6_ ?_
     refine JL.nil ⟨(br_ h00), ?_⟩
     refine JH.take 3 rfl (by kernel_rfl) (by kernel_rfl) (by kernel_rfl) (fun _ _ _ _ hh => hh) (br_ h00) (RunV.assign rfl) rfl ?_
     refine JH.all1 4 (by kernel_rfl) rfl ?_
     unfold One
     refine JL.storeA ag_82 rfl rfl dl_ (by first | rfl) z31_ (by first | rfl) ?_
     refine JL.nil ⟨(br_ h00), ?_⟩
     refine JH.done (by kernel_rfl) ?_
     exact J.retR (RetV.cellTC rfl rfl ag_75 mm_ z6_ rfl rfl ag_82 mm_ (by first | rfl)) (rrR_bad hrd)
    have hye := hy.trans (hyo (by omega)); obtain ⟨x, hxx⟩ : ∃ x, rrX y = x := ⟨_, rfl⟩; obtain ⟨p', hpp⟩ : ∃ p', rrQ y = p' := ⟨_, rfl⟩; rw [hxx, hpp] at hye; rw [hxx] at hX; rw [hpp]; have hxl := rdN_le d' l pos (zq + zn) _ _ hye; have hxz := rdN_sz (by omega) hye
    refine J.skip ?_
    refine Sr ?_
    refine Ru 1 rfl ?_
    refine JL.op (RunV.own1 ag_73 rfl mm_ rfl) rfl ?_
    refine JL.op (RunV.ownA ag_75 rfl mm_ z6_) rfl ?_
    refine JL.litA ap_73 rfl z6_ rfl rfl (fun b25 => ?_)
    refine JL.append1 ap_73 rfl rfl (by assumption) rfl dl_ dl_ z6_ (hX) z5_ rfl rfl (fun a26 c26 xs26 hC26 hN26 => ?_)
    refine Ru 1 rfl ?_
    refine JL.store1 ag_73 rfl rfl rfl dl_ z32_ ?_
    refine JL.nil ?_
    refine Rg ?_
    refine Ru 2 rfl ?_
    refine JL.ents [.blk b6 _ _, .row _ _ _ _ _ _, .blk b1 _ _, .blk b2 _ _] pt_ ?_
    refine JL.nil ?_
    refine ⟨_, ?_, _, ?_, ⟨_, f', p', pos, acc ++ [x], _, bs, _, _, _, _, _, rfl, rfl, rfl, rfl, ⟨by assumption, by assumption, by assumption, by assumption, by omega, by omega, by omega, by omega, by omega, by rw [Nd.szL_append]; simp [Nd.szL]; omega, by simp; omega, fun hh => by simp_all, fun _ => ⟨hbs0, by rw [hK, rdK_ok hpos hye]⟩⟩⟩⟩
    ·
     omega
    exact z7_
   refine J.exit ?_
   refine Kp [1, 8, 10, 12, 13, 14] rfl ?_
   refine J.seq ?_
   refine Sr ?_
   refine JL.pub (R := NdR) (l := acc) dl_ (by assumption) rfl (by omega) (fun h9 hle9 hS9 => ?_); have hB9 := hbsR.mono hle9; have hend := rd_end (d := d) (bs := bs) hen (by omega) hdd hH hK1 hK0 hps (by assumption)
   refine JL.op (RunV.ownA ag_75 rfl mm_ z6_) rfl ?_
   refine JL.callP ca_145 rfl (rright_fn (x := .mk c t k bs acc) (NdR.of hB9 hS9) (by simp only [Nd.sz]; omega)) rfl ?_
   refine Ru 1 rfl ?_
   refine JL.nil ?_
   refine Cs rfl (fun hc28 => ?_) fun hc28 => ?_
   ·
    rw [if_neg (by simpa using hc28)] at hend
    refine Sr ?_
    refine JL.op (RunV.build (cs := [.int .i64 0, .int .i64 0, .bool false, .slice none 0 0, .slice none 0 0]) pl_75 rfl rfl) rfl ?_
    refine Ru 1 rfl ?_
    refine JL.op (RunV.build (cs := [_, _]) pl_82 rfl rfl) rfl ?_
    refine JL.storeA ag_75 rfl rfl dl_ z22_ z17_ z6_ ?_
    refine Ru 1 rfl ?_
    refine JL.storeA ag_82 rfl rfl dl_ (by first | rfl) z31_ (by first | rfl) ?_
    refine Nk [9, 8, 10, 12, 13, 14] rfl ?_
    exact J.retR (RetV.cellTC rfl rfl ag_75 mm_ z6_ rfl rfl ag_82 mm_ (by first | rfl)) (rrR_bad hend)
   rw [if_pos (by simpa using hc28)] at hend
   refine J.skip ?_
   refine Kp [8, 10, 12, 13, 14] rfl ?_
   refine Sr ?_
   refine JL.op (RunV.ownA ag_75 rfl mm_ z6_) rfl ?_
   refine Ru 2 rfl ?_
   refine JL.op ai_ rfl ?_
   refine JL.op (RunV.build (cs := [.int .i64 0, .int .i64 0]) pl_82 rfl rfl) rfl ?_
   refine JL.storeA ag_75 rfl rfl dl_ z22_ z17_ z6_ ?_
   refine Ru 1 rfl ?_
   refine JL.storeA ag_82 rfl rfl dl_ (by first | rfl) z31_ (by first | rfl) ?_
   refine Nk [9, 8, 10] rfl ?_
   exact J.retR (RetV.cellTC rfl rfl ag_75 mm_ z6_ rfl rfl ag_82 mm_ (by first | rfl)) (rrR_ok hend (NdR.of hB9 hS9))
  let bs : List UInt8 := []
  refine J.skip ?_
  refine J.seq ?_
  refine Sr ?_
  refine JL.ents [.blk b6 _ _, .row none 0 75 5 0 [], .blk b1 _ _, .blk b2 _ _] pt_ ?_
  refine Ru 2 rfl ?_
  refine JL.nil ?_
  refine J.block ?_
  refine J.loop (fun t_ S_ h_ L_ => ∃ (g : Part) (f pos last : Nat) (acc : List Nd) (r : Bool) (bs : List UInt8) (ak bk : Option Addr) (ck ckb : Nat) (xs : List Value), t_ = zq + zn - pos ∧ S_ = [(0, .slice ab l.length cb), (1, .int .i64 p), (3, .int .i64 ((33 : Int) - d)), (8, .pointer (some ⟨b1, 0, none⟩)), (10, .pointer (some ⟨b2, 0, none⟩)), (12, .pointer (some ⟨b6, 0, none⟩)), (13, .int .i64 zn), (14, .int .i64 zq), (16, .int .i64 pos)] ∧ g = h_ ∧ L_ = [.blk b6 75 [.int .i64 c, .int .i64 t, .bool k, .slice bk bs.length ckb, .slice ak acc.length ck], .row ak ck 75 5 acc.length xs, .blk b1 75 [.int .i64 0, .int .i64 0, .bool false, .slice none 0 0, .slice none 0 0], .blk b2 82 [.int .i64 0, .int .i64 0]] ∧ (h.le g ∧ SlR u8R 1 g ab cb l ∧ CellsR NdR 5 g xs acc ∧ SlR u8R 1 g bk ckb bs ∧ bs.length ≤ zn ∧ last ≤ pos ∧ zq ≤ pos ∧ pos ≤ zq + zn ∧ zq + zn ≤ pos + f ∧ Nd.szL acc + zq ≤ pos ∧ acc.length + zq ≤ pos ∧ (k = false → acc = [] ∧ bs = cutL l zq (zq + zn)) ∧ (k = true → bs = [] ∧ rdK (rdN d' l) l (zq + zn) zn zq [] true zq = rdK (rdN d' l) l (zq + zn) f pos acc r last))) ⟨_, _, ?_, ⟨_, zn, zq, zq, [], true, bs, none, _, 0, _, [], rfl, rfl, rfl, rfl, ⟨by assumption, by assumption, CellsR.nil, (by first | assumption | exact SlR.nil_), (by first | omega | exact Nat.zero_le _), by omega, by omega, by omega, by omega, by simp [Nd.szL], by simp, (by intro hh; first | exact ⟨rfl, hbc.symm⟩ | simp_all), (by intro hh; first | exact ⟨rfl, rfl⟩ | simp_all)⟩⟩⟩ ?_
  ·
   exact z7_
  rintro _ _ _ _ ⟨g, f, pos, last, acc, r, bs, ak, bk, ck, ckb, xs, rfl, rfl, rfl, rfl, hhg, hl, hC, hbsR, hbl, hlp, hzp, hps, hpf, hsz, hap, hK0, hK1⟩
  refine J.seq ?_
  refine J.seq ?_
  refine J.meet [(102, .bool (decide (k = true ∧ pos < zq + zn)))] [(0, _), (1, _), (3, _), (8, _), (10, _), (12, _), (13, _), (14, _), (16, _)] ⟨rfl, rfl, rfl, rfl, rfl, rfl, rfl, rfl, rfl, trivial⟩ ?_ ?_
  ·
   refine Rg ?_
   refine Ru 1 rfl ?_
   refine JL.op (RunV.own1 ag_4 rfl mm_ rfl) rfl ?_
   refine Ru 1 rfl ?_
   refine Bs 96 rfl (fun hc29 => ?_) fun hc29 => ?_
   ·
    refine Ru 3 rfl ?_
    refine JL.opg rfl rfl  ai_ rfl ?_
    refine Ru 2 rfl ?_
    refine JL.nil ?_
    refine ⟨rfl, rfl, ?_⟩
    exact z41_
   refine Ru 6 rfl ?_
   refine JL.nil ?_
   refine ⟨rfl, rfl, ?_⟩
   exact z41_
  refine Cs rfl (fun hc30 => ?_) fun hc30 => ?_
  ·
   obtain ⟨hkt, hpos⟩ := hc30; obtain ⟨hbs0, hK⟩ := hK1 hkt; obtain ⟨f', rfl⟩ : ∃ f', f = f' + 1 := ⟨f - 1, by omega⟩
   refine J.skip ?_
   refine J.block ?_
   refine Sr ?_
   refine Ru 4 rfl ?_
   refine JL.op ai_ rfl ?_
   rw [show (zq : Int) + zn = ((zq + zn : Nat) : Int) by omega]
   refine Ru 1 rfl ?_
   refine JL.op ai_ rfl ?_
   rw [show ((33 : Int) - (d : Int) + 1) = 33 - (d' : Int) by omega]
   refine JL.callR ca_110 rfl ((ih d' (by omega) l pos (zq + zn) ab cb _ (by assumption) hll (by omega) (by omega) (by omega))) rfl ?_
   rintro _ h31 hle31 ⟨xcs, rfl, hX⟩
   replace hhg := hhg.mono hle31
   replace hl := hl.mono hle31
   replace hC := hC.mono hle31
   replace hbsR := hbsR.mono hle31
   have hyo := @rr_ok d' l pos (zq + zn) (by omega); have hyb := @rr_bad (rdN d' l pos (zq + zn)); obtain ⟨y, hy⟩ : ∃ y, rdN d' l pos (zq + zn) = y := ⟨_, rfl⟩; rw [hy] at hX hyo hyb ⊢
   refine Ru 4 rfl ?_
   refine JL.alloc zr_75 rfl (fun b32 => ?_)
   refine JL.alloc zr_82 rfl (fun b33 => ?_)
   refine JL.storeA ag_75 rfl rfl dl_ z22_ z17_ z6_ ?_
   refine Ru 1 rfl ?_
   refine JL.storeA ag_82 rfl rfl dl_ (by first | rfl) z31_ (by first | rfl) ?_
   refine JL.nil ?_
   refine J.seq ?_
   refine Sr ?_
   refine Ru 1 rfl ?_
   refine JL.op (RunV.own1 ag_24 rfl mm_ rfl) rfl ?_
   refine Ru 1 rfl ?_
   refine JL.nil ?_
   refine Cs rfl (fun hc34 => ?_) fun hc34 => ?_
   ·
    have hrd := rd_kid hdd hH hkt hK hpos (hy.trans (hyb hc34))
    refine J.seq ?_
    refine J.held ([.blk (by first | exact b23 | exact b33) 82 [.int .i64 (rrA y), .int .i64 (rrC y)]]) 5 mixed_ rfl (fun h00 => ?_)
    refine JH.take 0 rfl (by kernel_rfl) (by kernel_rfl) (by kernel_rfl) (fun _ _ _ _ hh => hh) (br_ h00) (RunV.build (cs := [.int .i64 0, .int .i64 0, .bool false, .slice none 0 0, .slice none 0 0]) pl_75 rfl rfl) rfl ?_
    refine JH.take 1 rfl (by kernel_rfl) (by kernel_rfl) (by kernel_rfl) (fun _ _ _ _ hh => hh) (br_ h00) (RunV.ownA ag_82 rfl mm_ (by first | rfl)) rfl ?_
    refine JH.all1 2 (by kernel_rfl) rfl ?_
    unfold One
    refine JL.storeA ag_75 rfl rfl dl_ z22_ z17_ z6_ ?_
    refine JL.nil ⟨(br_ h00), ?_⟩
    refine JH.take 3 rfl (by kernel_rfl) (by kernel_rfl) (by kernel_rfl) (fun _ _ _ _ hh => hh) (br_ h00) (RunV.assign rfl) rfl ?_
    refine JH.all1 4 (by kernel_rfl) rfl ?_
    unfold One
    refine JL.storeA ag_82 rfl rfl dl_ (by first | rfl) z31_ (by first | rfl) ?_
    refine JL.nil ⟨(br_ h00), ?_⟩
    refine JH.done (by kernel_rfl) ?_
    exact J.retR (RetV.cellTC rfl rfl ag_75 mm_ z6_ rfl rfl ag_82 mm_ (by first | rfl)) (rrR_bad hrd)
   have hye := hy.trans (hyo (by omega)); obtain ⟨x, hxx⟩ : ∃ x, rrX y = x := ⟨_, rfl⟩; obtain ⟨p', hpp⟩ : ∃ p', rrQ y = p' := ⟨_, rfl⟩; rw [hxx, hpp] at hye; rw [hxx] at hX; rw [hpp]; have hxl := rdN_le d' l pos (zq + zn) _ _ hye; have hxz := rdN_sz (by omega) hye
   refine J.skip ?_
   refine Sr ?_
   refine Ru 1 rfl ?_
   refine JL.op (RunV.own1 ag_73 rfl mm_ rfl) rfl ?_
   refine JL.op (RunV.ownA ag_75 rfl mm_ z6_) rfl ?_
   refine JL.litA ap_73 rfl z6_ rfl rfl (fun b35 => ?_)
   refine JL.append1 ap_73 rfl rfl (by assumption) rfl dl_ dl_ z6_ (hX) z5_ rfl rfl (fun a36 c36 xs36 hC36 hN36 => ?_)
   refine Ru 1 rfl ?_
   refine JL.store1 ag_73 rfl rfl rfl dl_ z32_ ?_
   refine JL.nil ?_
   refine Rg ?_
   refine Ru 2 rfl ?_
   refine JL.ents [.blk b6 _ _, .row _ _ _ _ _ _, .blk b1 _ _, .blk b2 _ _] pt_ ?_
   refine JL.nil ?_
   refine ⟨_, ?_, _, ?_, ⟨_, f', p', pos, acc ++ [x], _, bs, _, _, _, _, _, rfl, rfl, rfl, rfl, ⟨by assumption, by assumption, by assumption, by assumption, by omega, by omega, by omega, by omega, by omega, by rw [Nd.szL_append]; simp [Nd.szL]; omega, by simp; omega, fun hh => by simp_all, fun _ => ⟨hbs0, by rw [hK, rdK_ok hpos hye]⟩⟩⟩⟩
   ·
    omega
   exact z7_
  refine J.exit ?_
  refine Kp [1, 8, 10, 12, 13, 14] rfl ?_
  refine J.seq ?_
  refine Sr ?_
  refine JL.pub (R := NdR) (l := acc) dl_ (by assumption) rfl (by omega) (fun h9 hle9 hS9 => ?_); have hB9 := hbsR.mono hle9; have hend := rd_end (d := d) (bs := bs) hen (by omega) hdd hH hK1 hK0 hps (by assumption)
  refine JL.op (RunV.ownA ag_75 rfl mm_ z6_) rfl ?_
  refine JL.callP ca_145 rfl (rright_fn (x := .mk c t k bs acc) (NdR.of hB9 hS9) (by simp only [Nd.sz]; omega)) rfl ?_
  refine Ru 1 rfl ?_
  refine JL.nil ?_
  refine Cs rfl (fun hc38 => ?_) fun hc38 => ?_
  ·
   rw [if_neg (by simpa using hc38)] at hend
   refine Sr ?_
   refine JL.op (RunV.build (cs := [.int .i64 0, .int .i64 0, .bool false, .slice none 0 0, .slice none 0 0]) pl_75 rfl rfl) rfl ?_
   refine Ru 1 rfl ?_
   refine JL.op (RunV.build (cs := [_, _]) pl_82 rfl rfl) rfl ?_
   refine JL.storeA ag_75 rfl rfl dl_ z22_ z17_ z6_ ?_
   refine Ru 1 rfl ?_
   refine JL.storeA ag_82 rfl rfl dl_ (by first | rfl) z31_ (by first | rfl) ?_
   refine Nk [9, 8, 10, 12, 13, 14] rfl ?_
   exact J.retR (RetV.cellTC rfl rfl ag_75 mm_ z6_ rfl rfl ag_82 mm_ (by first | rfl)) (rrR_bad hend)
  rw [if_pos (by simpa using hc38)] at hend
  refine J.skip ?_
  refine Kp [8, 10, 12, 13, 14] rfl ?_
  refine Sr ?_
  refine JL.op (RunV.ownA ag_75 rfl mm_ z6_) rfl ?_
  refine Ru 2 rfl ?_
  refine JL.op ai_ rfl ?_
  refine JL.op (RunV.build (cs := [.int .i64 0, .int .i64 0]) pl_82 rfl rfl) rfl ?_
  refine JL.storeA ag_75 rfl rfl dl_ z22_ z17_ z6_ ?_
  refine Ru 1 rfl ?_
  refine JL.storeA ag_82 rfl rfl dl_ (by first | rfl) z31_ (by first | rfl) ?_
  refine Nk [9, 8, 10] rfl ?_
  exact J.retR (RetV.cellTC rfl rfl ag_75 mm_ z6_ rfl rfl ag_82 mm_ (by first | rfl)) (rrR_ok hend (NdR.of hB9 hS9))
end Go.Proofs.YtmngjbefnloljaaGreatDoor
