/- Plain: what a kept key has signed, its public part proves; Walks: digests, by the reference, in words of 64 bits (printed by sha4.py from the texts of 32): how long they are; Walks: the law RsaOwn. -/
import Derived.Test.YtmngjbefnloljaaGreatDoorP4
set_option linter.unusedSimpArgs false
set_option linter.unusedVariables false
set_option linter.constructorNameAsVariable false
namespace Go.Proofs.YtmngjbefnloljaaGreatDoor
open Go Go.RowKit
set_option maxRecDepth 100000
theorem kept_prime : ∀ j, Pr (vL (primeL j)) := fun j => by
  unfold primeL
  split
  · rw [show vL (belowL 256 189) = 115792089237316195423570985008687907853269984665640564039457584007913129639747 by decide +kernel]; exact cr6
  · rw [show vL (belowL 255 19) = 57896044618658097711785492504343953926634992332820282019728792003956564819949 by decide +kernel]; exact cr14
  · rw [show vL (belowL 256 357) = 115792089237316195423570985008687907853269984665640564039457584007913129639579 by decide +kernel]; exact cr21
  · rw [show vL (belowL 255 31) = 57896044618658097711785492504343953926634992332820282019728792003956564819937 by decide +kernel]; exact cr26
  · rw [show vL (belowL 257 93) = 231584178474632390847141970017375815706539969331281128078915168015826259279779 by decide +kernel]; exact cr32
  · rw [show vL (belowL 521 1) = 6864797660130609714981900799081393217269435300143305409394463459185543183397656052122559640661454554977296311391480858037121987999716643812574028291115057151 by decide +kernel]; exact cr40
def kP (i : Nat) : Nat := vL (primeL (amongI (pairsL.getD i (0, 0)).1 6).toNat)
def kQ (i : Nat) : Nat := vL (primeL (amongI (pairsL.getD i (0, 0)).2 6).toNat)
theorem kept_exp : ((List.range 12).all fun i => decide (kP i ≠ kQ i ∧ 1 ≤ vL (expL i) * keyE i ∧ vL (expL i) * keyE i % (kP i - 1) = 1 % (kP i - 1) ∧ vL (expL i) * keyE i % (kQ i - 1) = 1 % (kQ i - 1))) = true := by decide +kernel
theorem kept_back {i : Nat} (hi : i < 12) (m : Nat) : powV (powV m (vL (expL i)) (keyN i)) (keyE i) (keyN i) = m % keyN i := by
  have := List.all_eq_true.1 kept_exp i (List.mem_range.2 hi)
  rw [decide_eq_true_eq] at this
  obtain ⟨h1, h2, h3, h4⟩ := this
  have hN : keyN i ≠ 0 := by
    have := (kept_prime (amongI (pairsL.getD i (0, 0)).1 6).toNat).1
    have := (kept_prime (amongI (pairsL.getD i (0, 0)).2 6).toNat).1
    exact Nat.ne_of_gt (Nat.mul_pos (by omega) (by omega))
  unfold powV
  rw [if_neg hN, if_neg hN, ← Nat.pow_mod, ← Nat.pow_mul]
  exact rsa_back (kept_prime _) (kept_prime _) h1 h2 h3 h4
theorem form_lt {n : Int} {d : List UInt8} {N : Nat} (h : formE n d (sizeB N) = 0) (hN : 0 < N) : beV (formL n d (sizeB N)) < N := by
  have hf := h
  have hg := (form_good h).2.2.1
  have hl : (formL n d (sizeB N)).length = sizeB N := by
    have := formL_len_eq h (by omega)
    omega
  have hc : ∃ t, formL n d (sizeB N) = 0 :: t := by
    unfold formL
    rw [if_pos h]
    exact ⟨_, rfl⟩
  obtain ⟨t, ht⟩ := hc
  rw [ht] at hl ⊢
  rw [beV_cons]
  have h1 := beV_lt t
  have h2 : t.length + 1 = sizeB N := hl
  have h3 := (bl_pos N hN).1
  have h4 : (256 : Nat) ^ t.length ≤ 2 ^ (bl N - 1) := by
    rw [show (256 : Nat) = 2 ^ 8 from rfl, ← Nat.pow_mul]
    exact Nat.pow_le_pow_right (by decide) (by unfold sizeB at h2; omega)
  have h5 : (0 : UInt8).toNat = 0 := rfl
  rw [h5, Nat.zero_mul]
  omega
theorem right_pub {N E D : Nat} (h : rightB N E D = true) : rightB N E 0 = true := by
  have := of_decide_eq_true h
  exact decide_eq_true (by omega)
theorem kform_pub {n : Int} {d : List UInt8} {N E D : Nat} (h : rightB N E D = true) : kformE n d N E 0 = kformE n d N E D ∧ kformL n d N E 0 = kformL n d N E D := by
  unfold kformE kformL
  rw [h, right_pub h]
  exact ⟨rfl, rfl⟩
theorem own_prove {i : Nat} (hi : i < 12) {n : Int} {d : List UInt8} (hs : sigE n d (keyN i) (keyE i) (vL (expL i)) = 0) :
    proveE n d (sigL n d (keyN i) (keyE i) (vL (expL i))) (keyN i) (keyE i) 0 = 0 ∧ (sigL n d (keyN i) (keyE i) (vL (expL i))).length = sizeB (keyN i) := by
  obtain ⟨r1, ⟨-, -, r4⟩, -⟩ := kept_one hi
  have hN0 : 0 < keyN i := by have := of_decide_eq_true r1; omega
  have hk : kformE n d (keyN i) (keyE i) (vL (expL i)) = 0 := by
    unfold sigE at hs
    split at hs
    · rename_i h1; exact absurd hs h1
    · rename_i h1; exact Classical.byContradiction h1
  obtain ⟨c1, c2⟩ := kform_good hk
  obtain ⟨p1, p2⟩ := kform_pub (n := n) (d := d) r1
  have hsig : sigL n d (keyN i) (keyE i) (vL (expL i)) = numW (powV (beV (formL n d (sizeB (keyN i)))) (vL (expL i)) (keyN i)) (sizeB (keyN i)) := by
    unfold sigL
    rw [if_neg (by rw [hk]; decide), if_neg r4, c2]
  have hpf := pow_fit (beV (formL n d (sizeB (keyN i)))) (vL (expL i)) (keyN i) hN0
  have hlen : (sigL n d (keyN i) (keyE i) (vL (expL i))).length = sizeB (keyN i) := by rw [hsig, numW_be, be_len]
  have hbe : beV (sigL n d (keyN i) (keyE i) (vL (expL i))) = powV (beV (formL n d (sizeB (keyN i)))) (vL (expL i)) (keyN i) := by rw [hsig, numW_be, beV_be, Nat.mod_eq_of_lt (bl_256 hpf)]
  refine ⟨?_, hlen⟩
  have hlt : powV (beV (formL n d (sizeB (keyN i)))) (vL (expL i)) (keyN i) < keyN i := by
    unfold powV; rw [if_neg (by omega)]; exact Nat.mod_lt _ hN0
  unfold proveE
  rw [p1, p2, if_neg (by rw [hk]; decide), if_neg (by rw [hlen, hbe]; omega), hbe, c2]
  refine if_pos ?_
  rw [kept_back hi, Nat.mod_eq_of_lt (form_lt c1 hN0)]
theorem own_fail {i : Nat} (hi : i < 12) {n : Int} {d : List UInt8} (hn : someH n) (hd : (d.length : Int) = n / 8) (hs : sigE n d (keyN i) (keyE i) (vL (expL i)) ≠ 0) : sigE n d (keyN i) (keyE i) (vL (expL i)) = 50 ∧ 256 < n ∧ sizeB (keyN i) < 94 := by
  obtain ⟨r1, ⟨r2, r3, r4⟩, -⟩ := kept_one hi
  have hz : shaSize n = n / 8 := if_pos hn
  have hz1 : shaSize n ≠ 0 := by unfold someH at hn; omega
  have hz2 : (d.length : Int) = shaSize n := by omega
  have hbad : ¬ (shaSize n = 0 ∨ (d.length : Int) ≠ shaSize n) := by rintro (h | h); exact hz1 h; exact h hz2
  have hl := info_len hz1 hz2
  have f1 := form512 hbad
  have hk : kformE n d (keyN i) (keyE i) (vL (expL i)) = formE n d (sizeB (keyN i)) := by
    unfold kformE
    rw [if_neg (by rw [f1]; decide), if_pos r1]
  have hfe : formE n d (sizeB (keyN i)) = if (sizeB (keyN i) : Int) < (infoL n d).length + 11 ∨ 512 < (sizeB (keyN i) : Int) then 50 else 0 := by
    unfold formE; rw [if_neg hbad]
  unfold sigE at hs ⊢
  rw [hk, hfe] at hs ⊢
  by_cases hc : (sizeB (keyN i) : Int) < (infoL n d).length + 11 ∨ 512 < (sizeB (keyN i) : Int)
  · rw [if_pos hc]
    refine ⟨by simp, ?_⟩
    unfold someH at hn
    omega
  · rw [if_neg hc] at hs
    simp [r4] at hs
theorem other_prove {n : Int} {d s : List UInt8} {N E D : Nat} (hn : someH n) (hd : (d.length : Int) = n / 8) : s.length = sizeB N ∨ proveE n d s N E D = 63 ∨ proveE n d s N E D = 50 := by
  have hz : shaSize n = n / 8 := if_pos hn
  have hz1 : shaSize n ≠ 0 := by unfold someH at hn; omega
  have hz2 : (d.length : Int) = shaSize n := by omega
  have hbad : ¬ (shaSize n = 0 ∨ (d.length : Int) ≠ shaSize n) := by rintro (h | h); exact hz1 h; exact h hz2
  have f1 := form512 hbad
  have hk : kformE n d N E D = 0 ∨ kformE n d N E D = 50 := by
    unfold kformE
    rw [if_neg (by rw [f1]; decide)]
    split
    · unfold formE
      rw [if_neg hbad]
      split
      · exact .inr rfl
      · exact .inl rfl
    · exact .inr rfl
  by_cases hsl : s.length = sizeB N
  · exact .inl hsl
  · right
    unfold proveE
    rcases hk with hk | hk
    · rw [if_neg (by rw [hk]; decide), if_pos (.inl hsl)]; exact .inl rfl
    · rw [if_pos (by rw [hk]; decide), hk]; exact .inr rfl
end Go.Proofs.YtmngjbefnloljaaGreatDoor
namespace Go.Proofs.YtmngjbefnloljaaGreatDoor
open Go Go.RowKit
set_option maxRecDepth 100000
abbrev wayD (sz : Nat) (f g0 g1 k0 k1 : Option Addr) (fc c0 c1 d0 d1 : Nat) : List Value := [.int .u64 64, .int .i64 80, .slice f 8 fc, .slice g0 3 c0, .slice g1 3 c1, .slice k0 3 d0, .slice k1 3 d1, .int .i64 sz]
theorem ycut_fn {sz : Nat} {f g0 g1 k0 k1 : Option Addr} {fc c0 c1 d0 d1 m : Nat} {h : Part} (hm : m < 18446744073709551616) : FnR Tryz.prog 127 [.agg (wayD sz f g0 g1 k0 k1 fc c0 c1 d0 d1).toArray, .int .u64 m] h (fun v _ => W64 v) := by
  refine Fn.intro Tryz.func127 rfl Tryz.ntmps127 rfl (fun e he => ?_)
  refine J.weak [(0, _), (1, _)] ⟨rfl, rfl, trivial⟩ ?_
  have hh0 := Part.le.refl h
  refine Sr ?_
  refine JL.box rfl rfl rfl (fun b1 => ?_)
  refine Ru 1 rfl ?_
  refine JL.nil ?_
  refine J.seq ?_
  refine Sr ?_
  refine Ru 1 rfl ?_
  refine JL.op (RunV.own1 ag_93 rfl mm_ rfl) rfl ?_
  refine Ru 1 rfl ?_
  refine JL.nil ?_
  refine Cs rfl (fun hc2 => ?_) fun hc2 => ?_
  ·
   exfalso; cases hc2
  refine J.skip ?_
  refine Kp [4, 1] rfl ?_
  refine Sr ?_
  refine Ru 2 rfl ?_
  refine JL.nil ?_
  exact J.retR (RetV.one rfl rfl) ⟨m, hm, rfl⟩
theorem yturn_fn {sz : Nat} {f g0 g1 k0 k1 : Option Addr} {fc c0 c1 d0 d1 m n : Nat} {h : Part} (hm : m < 18446744073709551616) (hn : n ≤ 64) : FnR Tryz.prog 149 [.agg (wayD sz f g0 g1 k0 k1 fc c0 c1 d0 d1).toArray, .int .u64 m, .int .u64 n] h (fun v _ => W64 v) := by
  refine Fn.intro Tryz.func149 rfl Tryz.ntmps149 rfl (fun e he => ?_)
  refine J.weak [(0, _), (1, _), (2, _)] ⟨rfl, rfl, rfl, trivial⟩ ?_
  have hh0 := Part.le.refl h
  refine Sr ?_
  refine JL.box rfl rfl rfl (fun b1 => ?_)
  refine Ru 1 rfl ?_
  refine JL.nil ?_
  refine Sr ?_
  refine JL.op (RunV.ownA ag_99 rfl mm_ (by first | rfl)) rfl ?_
  refine Ru 2 rfl ?_
  refine JL.ope (RunE.shrW hm rfl rfl (by omega) (by omega)) rfl ?_
  rintro _ ⟨m1, hm1, rfl⟩
  refine Ru 2 rfl ?_
  refine JL.op (RunV.own1 ag_93 rfl mm_ rfl) rfl ?_
  refine Ru 1 rfl ?_
  refine JL.op z33_ rfl ?_
  refine JL.ope (RunE.shlW rfl rfl (by omega) (by omega)) rfl ?_
  rintro _ ⟨m2, hm2, rfl⟩
  refine JL.ope (RunE.orW rfl rfl) rfl ?_
  rintro _ ⟨m3, hm3, rfl⟩
  refine JL.callR ca_127 rfl (ycut_fn hm3) rfl ?_
  rintro _ h5 hle5 ⟨m4, hm4, rfl⟩
  replace hh0 := hh0.mono hle5
  refine Ru 1 rfl ?_
  refine Nk [6] rfl ?_
  exact J.retR (RetV.one rfl rfl) ⟨m4, hm4, rfl⟩
theorem ybig_fn {sz : Nat} {f g0 g1 k0 k1 a : Option Addr} {fc c0 c1 d0 d1 m c : Nat} {x0 x1 x2 : UInt64} {h : Part} (hm : m < 18446744073709551616) (hl : SlR u64R 1 h a c [x0, x1, x2]) (h0 : x0.toNat ≤ 64) (h1 : x1.toNat ≤ 64) (h2 : x2.toNat ≤ 64) : FnR Tryz.prog 129 [.agg (wayD sz f g0 g1 k0 k1 fc c0 c1 d0 d1).toArray, .int .u64 m, .slice a 3 c] h (fun v _ => W64 v) := by
  have hll : [x0, x1, x2].length = 3 := rfl
  refine Fn.intro Tryz.func129 rfl Tryz.ntmps129 rfl (fun e he => ?_)
  refine J.weak [(0, _), (1, _), (2, _)] ⟨rfl, rfl, rfl, trivial⟩ ?_
  have hh0 := Part.le.refl h
  refine Sr ?_
  refine JL.box rfl rfl rfl (fun b1 => ?_)
  refine Ru 1 rfl ?_
  refine JL.nil ?_
  refine J.seq ?_
  refine J.held ([.blk b1 99 (wayD sz f g0 g1 k0 k1 fc c0 c1 d0 d1)]) 21 mixed_ rfl (fun h00 => ?_)
  refine JH.take 0 rfl (by kernel_rfl) (by kernel_rfl) (by kernel_rfl) (fun _ _ _ _ hh => hh) (br_ h00) (RunV.ownA ag_99 rfl mm_ (by first | rfl)) rfl ?_
  refine JH.take 1 rfl (by kernel_rfl) (by kernel_rfl) (by kernel_rfl) (fun _ _ _ _ hh => hh) (br_ h00) (RunV.move rfl) rfl ?_
  refine JH.take 2 rfl (by kernel_rfl) (by kernel_rfl) (by kernel_rfl) (fun _ _ _ _ hh => hh) (br_ h00) (RunV.move rfl) rfl ?_
  refine JH.takeE 3 rfl (by kernel_rfl) (by kernel_rfl) (by kernel_rfl) (fun _ _ _ _ hh => hh) (br_ h00) (RunE.index sl_97 rfl rfl (show _ = ((0 : Nat) : Int) from rfl) (by assumption) rfl (by omega)) rfl ?_
  rintro _ ⟨b2, o2, hi2, rfl, hE2⟩
  refine JH.take 4 rfl (by kernel_rfl) (by kernel_rfl) (by kernel_rfl) (fun _ _ _ _ hh => hh) (br_ h00) (RunV.ld_u64 (y := x0) ag_93 rfl (by assumption)) rfl ?_
  refine JH.take 6 rfl (by kernel_rfl) (by kernel_rfl) (by kernel_rfl) (fun _ _ _ _ hh => hh) (br_ h00) (RunV.ownA ag_99 rfl mm_ (by first | rfl)) rfl ?_
  refine JH.take 7 rfl (by kernel_rfl) (by kernel_rfl) (by kernel_rfl) (fun _ _ _ _ hh => hh) (br_ h00) (RunV.move rfl) rfl ?_
  refine JH.take 8 rfl (by kernel_rfl) (by kernel_rfl) (by kernel_rfl) (fun _ _ _ _ hh => hh) (br_ h00) (RunV.move rfl) rfl ?_
  refine JH.takeE 9 rfl (by kernel_rfl) (by kernel_rfl) (by kernel_rfl) (fun _ _ _ _ hh => hh) (br_ h00) (RunE.index sl_97 rfl rfl (show _ = ((1 : Nat) : Int) from rfl) (by assumption) rfl (by omega)) rfl ?_
  rintro _ ⟨b3, o3, hi3, rfl, hE3⟩
  refine JH.take 10 rfl (by kernel_rfl) (by kernel_rfl) (by kernel_rfl) (fun _ _ _ _ hh => hh) (br_ h00) (RunV.ld_u64 (y := x1) ag_93 rfl (by assumption)) rfl ?_
  refine JH.take 13 rfl (by kernel_rfl) (by kernel_rfl) (by kernel_rfl) (fun _ _ _ _ hh => hh) (br_ h00) (RunV.ownA ag_99 rfl mm_ (by first | rfl)) rfl ?_
  refine JH.take 14 rfl (by kernel_rfl) (by kernel_rfl) (by kernel_rfl) (fun _ _ _ _ hh => hh) (br_ h00) (RunV.move rfl) rfl ?_
  refine JH.take 15 rfl (by kernel_rfl) (by kernel_rfl) (by kernel_rfl) (fun _ _ _ _ hh => hh) (br_ h00) (RunV.move rfl) rfl ?_
  refine JH.takeE 16 rfl (by kernel_rfl) (by kernel_rfl) (by kernel_rfl) (fun _ _ _ _ hh => hh) (br_ h00) (RunE.index sl_97 rfl rfl (show _ = ((2 : Nat) : Int) from rfl) (by assumption) rfl (by omega)) rfl ?_
  rintro _ ⟨b4, o4, hi4, rfl, hE4⟩
  refine JH.take 17 rfl (by kernel_rfl) (by kernel_rfl) (by kernel_rfl) (fun _ _ _ _ hh => hh) (br_ h00) (RunV.ld_u64 (y := x2) ag_93 rfl (by assumption)) rfl ?_
  refine JH.all1 5 (by kernel_rfl) rfl ?_
  unfold One
  refine JL.callR ca_149 rfl (yturn_fn hm h0) rfl ?_
  rintro _ h5 hle5 ⟨m1, hm1, rfl⟩
  replace hl := hl.mono hle5
  replace hh0 := hh0.mono hle5
  refine JL.nil ⟨(br_ h00), ?_⟩
  refine JH.all1 11 (by kernel_rfl) rfl ?_
  unfold One
  refine JL.callR ca_149 rfl (yturn_fn hm h1) rfl ?_
  rintro _ h6 hle6 ⟨m2, hm2, rfl⟩
  replace hl := hl.mono hle6
  replace hh0 := hh0.mono hle6
  refine JL.nil ⟨(br_ h00), ?_⟩
  refine JH.takeE 12 rfl (by kernel_rfl) (by kernel_rfl) (by kernel_rfl) (fun _ _ _ _ hh => hh) (br_ h00) (RunE.xorW rfl rfl) rfl ?_
  rintro _ ⟨m5, hm5, rfl⟩
  refine JH.all1 18 (by kernel_rfl) rfl ?_
  unfold One
  refine JL.callR ca_149 rfl (yturn_fn hm h2) rfl ?_
  rintro _ h8 hle8 ⟨m3, hm3, rfl⟩
  replace hl := hl.mono hle8
  replace hh0 := hh0.mono hle8
  refine JL.nil ⟨(br_ h00), ?_⟩
  refine JH.takeE 19 rfl (by kernel_rfl) (by kernel_rfl) (by kernel_rfl) (fun _ _ _ _ hh => hh) (br_ h00) (RunE.xorW rfl rfl) rfl ?_
  rintro _ ⟨m4, hm4, rfl⟩
  refine JH.take 20 rfl (by kernel_rfl) (by kernel_rfl) (by kernel_rfl) (fun _ _ _ _ hh => hh) (br_ h00) (RunV.assign rfl) rfl ?_
  refine JH.done (by kernel_rfl) ?_
  refine Kp [6] rfl ?_
  exact J.retR (RetV.one rfl rfl) ⟨m4, hm4, rfl⟩
theorem ylow_fn {sz : Nat} {f g0 g1 k0 k1 a : Option Addr} {fc c0 c1 d0 d1 m c : Nat} {x0 x1 x2 : UInt64} {h : Part} (hm : m < 18446744073709551616) (hl : SlR u64R 1 h a c [x0, x1, x2]) (h0 : x0.toNat ≤ 64) (h1 : x1.toNat ≤ 64) (h2 : x2.toNat ≤ 64) : FnR Tryz.prog 128 [.agg (wayD sz f g0 g1 k0 k1 fc c0 c1 d0 d1).toArray, .int .u64 m, .slice a 3 c] h (fun v _ => W64 v) := by
  have hll : [x0, x1, x2].length = 3 := rfl
  refine Fn.intro Tryz.func128 rfl Tryz.ntmps128 rfl (fun e he => ?_)
  refine J.weak [(0, _), (1, _), (2, _)] ⟨rfl, rfl, rfl, trivial⟩ ?_
  have hh0 := Part.le.refl h
  refine Sr ?_
  refine JL.box rfl rfl rfl (fun b1 => ?_)
  refine Ru 1 rfl ?_
  refine JL.nil ?_
  refine J.seq ?_
  refine J.held ([.blk b1 99 (wayD sz f g0 g1 k0 k1 fc c0 c1 d0 d1)]) 20 mixed_ rfl (fun h00 => ?_)
  refine JH.take 0 rfl (by kernel_rfl) (by kernel_rfl) (by kernel_rfl) (fun _ _ _ _ hh => hh) (br_ h00) (RunV.ownA ag_99 rfl mm_ (by first | rfl)) rfl ?_
  refine JH.take 1 rfl (by kernel_rfl) (by kernel_rfl) (by kernel_rfl) (fun _ _ _ _ hh => hh) (br_ h00) (RunV.move rfl) rfl ?_
  refine JH.take 2 rfl (by kernel_rfl) (by kernel_rfl) (by kernel_rfl) (fun _ _ _ _ hh => hh) (br_ h00) (RunV.move rfl) rfl ?_
  refine JH.takeE 3 rfl (by kernel_rfl) (by kernel_rfl) (by kernel_rfl) (fun _ _ _ _ hh => hh) (br_ h00) (RunE.index sl_97 rfl rfl (show _ = ((0 : Nat) : Int) from rfl) (by assumption) rfl (by omega)) rfl ?_
  rintro _ ⟨b2, o2, hi2, rfl, hE2⟩
  refine JH.take 4 rfl (by kernel_rfl) (by kernel_rfl) (by kernel_rfl) (fun _ _ _ _ hh => hh) (br_ h00) (RunV.ld_u64 (y := x0) ag_93 rfl (by assumption)) rfl ?_
  refine JH.take 6 rfl (by kernel_rfl) (by kernel_rfl) (by kernel_rfl) (fun _ _ _ _ hh => hh) (br_ h00) (RunV.ownA ag_99 rfl mm_ (by first | rfl)) rfl ?_
  refine JH.take 7 rfl (by kernel_rfl) (by kernel_rfl) (by kernel_rfl) (fun _ _ _ _ hh => hh) (br_ h00) (RunV.move rfl) rfl ?_
  refine JH.take 8 rfl (by kernel_rfl) (by kernel_rfl) (by kernel_rfl) (fun _ _ _ _ hh => hh) (br_ h00) (RunV.move rfl) rfl ?_
  refine JH.takeE 9 rfl (by kernel_rfl) (by kernel_rfl) (by kernel_rfl) (fun _ _ _ _ hh => hh) (br_ h00) (RunE.index sl_97 rfl rfl (show _ = ((1 : Nat) : Int) from rfl) (by assumption) rfl (by omega)) rfl ?_
  rintro _ ⟨b3, o3, hi3, rfl, hE3⟩
  refine JH.take 10 rfl (by kernel_rfl) (by kernel_rfl) (by kernel_rfl) (fun _ _ _ _ hh => hh) (br_ h00) (RunV.ld_u64 (y := x1) ag_93 rfl (by assumption)) rfl ?_
  refine JH.take 13 rfl (by kernel_rfl) (by kernel_rfl) (by kernel_rfl) (fun _ _ _ _ hh => hh) (br_ h00) (RunV.move rfl) rfl ?_
  refine JH.take 14 rfl (by kernel_rfl) (by kernel_rfl) (by kernel_rfl) (fun _ _ _ _ hh => hh) (br_ h00) (RunV.move rfl) rfl ?_
  refine JH.takeE 15 rfl (by kernel_rfl) (by kernel_rfl) (by kernel_rfl) (fun _ _ _ _ hh => hh) (br_ h00) (RunE.index sl_97 rfl rfl (show _ = ((2 : Nat) : Int) from rfl) (by assumption) rfl (by omega)) rfl ?_
  rintro _ ⟨b4, o4, hi4, rfl, hE4⟩
  refine JH.take 16 rfl (by kernel_rfl) (by kernel_rfl) (by kernel_rfl) (fun _ _ _ _ hh => hh) (br_ h00) (RunV.ld_u64 (y := x2) ag_93 rfl (by assumption)) rfl ?_
  refine JH.takeE 17 rfl (by kernel_rfl) (by kernel_rfl) (by kernel_rfl) (fun _ _ _ _ hh => hh) (br_ h00) (RunE.shrW hm rfl rfl (by omega) (by omega)) rfl ?_
  rintro _ ⟨m3, hm3, rfl⟩
  refine JH.all1 5 (by kernel_rfl) rfl ?_
  unfold One
  refine JL.callR ca_149 rfl (yturn_fn hm h0) rfl ?_
  rintro _ h6 hle6 ⟨m1, hm1, rfl⟩
  replace hl := hl.mono hle6
  replace hh0 := hh0.mono hle6
  refine JL.nil ⟨(br_ h00), ?_⟩
  refine JH.all1 11 (by kernel_rfl) rfl ?_
  unfold One
  refine JL.callR ca_149 rfl (yturn_fn hm h1) rfl ?_
  rintro _ h7 hle7 ⟨m2, hm2, rfl⟩
  replace hl := hl.mono hle7
  replace hh0 := hh0.mono hle7
  refine JL.nil ⟨(br_ h00), ?_⟩
  refine JH.takeE 12 rfl (by kernel_rfl) (by kernel_rfl) (by kernel_rfl) (fun _ _ _ _ hh => hh) (br_ h00) (RunE.xorW rfl rfl) rfl ?_
  rintro _ ⟨m5, hm5, rfl⟩
  refine JH.takeE 18 rfl (by kernel_rfl) (by kernel_rfl) (by kernel_rfl) (fun _ _ _ _ hh => hh) (br_ h00) (RunE.xorW rfl rfl) rfl ?_
  rintro _ ⟨m4, hm4, rfl⟩
  refine JH.take 19 rfl (by kernel_rfl) (by kernel_rfl) (by kernel_rfl) (fun _ _ _ _ hh => hh) (br_ h00) (RunV.assign rfl) rfl ?_
  refine JH.done (by kernel_rfl) ?_
  refine Kp [6] rfl ?_
  exact J.retR (RetV.one rfl rfl) ⟨m4, hm4, rfl⟩
theorem ypad_fn {sz : Nat} {f g0 g1 k0 k1 a : Option Addr} {fc c0 c1 d0 d1 c : Nat} {l : List UInt8} {h : Part} (hl : SlR u8R 1 h a c l) (hll : l.length ≤ 1000000) : FnR Tryz.prog 95 [.agg (wayD sz f g0 g1 k0 k1 fc c0 c1 d0 d1).toArray, .slice a l.length c] h
    (fun v h' => ∃ a' c' out, v = .slice a' (List.length out) c' ∧ SlR u8R 1 h' a' c' out ∧ out.length % 128 = 0 ∧ out.length ≤ l.length + 200) := by
  refine Fn.intro Tryz.func95 rfl Tryz.ntmps95 rfl (fun e he => ?_)
  refine J.weak [(0, _), (1, _)] ⟨rfl, rfl, trivial⟩ ?_
  have hh0 := Part.le.refl h
  refine Sr ?_
  refine JL.box rfl rfl rfl (fun b1 => ?_)
  refine Ru 1 rfl ?_
  refine JL.nil ?_
  refine Sr ?_
  refine Ru 1 rfl ?_
  refine JL.op (RunV.own1 ag_93 rfl mm_ rfl) rfl ?_
  refine JL.op z34_ rfl ?_
  refine JL.op z12_ rfl ?_
  refine Ru 1 rfl ?_
  refine Nk [5, 4, 1] rfl ?_
  refine Sr ?_
  refine Ru 1 rfl ?_
  refine JL.nil ?_
  refine Sr ?_
  refine Ru 2 rfl ?_
  refine JL.row_nil 5 1 ?_
  refine JL.append ap_22 rfl rfl (CellsR.nil (R := u8R)) rfl (by assumption) rfl dl_ z3_ rfl rfl (fun a2 c2 xs2 hC2 hN2 => ?_)
  obtain rfl := hC2.u8
  refine JL.lit1 ap_22 zr_5 rfl rfl rfl rfl rfl (fun b3 => ?_)
  refine JL.own (L' := [.blk _ _ [.int .u8 (((128 : UInt8).toNat : Nat) : Int)], _, _]) (fun w hk => hk) ?_
  refine JL.append1 ap_22 rfl rfl CellsR.of_u8 rfl dl_ dl_ rfl (rfl) z3_ rfl rfl (fun a4 c4 xs4 hC4 hN4 => ?_)
  obtain rfl := hC4.u8
  refine Ru 1 rfl ?_
  refine Nk [6, 5, 4, 1] rfl ?_
  refine J.seq ?_
  refine J.block ?_
  refine J.loop (fun t_ S_ h_ L_ => ∃ (out : List UInt8) (ao : Option Addr) (co k : Nat), t_ = k + 1 ∧ S_ = [(1, .slice a l.length c), (5, .int .i64 8), (6, .slice ao out.length co)] ∧ h = h_ ∧ L_ = [.row ao co 5 1 out.length (u8s out), .blk b1 99 (wayD sz f g0 g1 k0 k1 fc c0 c1 d0 d1)] ∧ ((out.length + 16 + k) % 128 = 0 ∧ k < 128 ∧ out.length + k ≤ l.length + 129)) ⟨_, _, ?_, ⟨_, _, _, (128 - (l.length + 17) % 128) % 128, rfl, rfl, rfl, rfl, ⟨by simp; omega, by omega, by simp; omega⟩⟩⟩ ?_
  ·
   exact z5_
  rintro _ _ _ _ ⟨out, ao, co, k, rfl, rfl, rfl, rfl, hk1, hk2, hk3⟩
  refine J.seq ?_
  refine Sr ?_
  refine Ru 3 rfl ?_
  refine JL.op z10_ rfl ?_
  refine JL.op ai_ rfl ?_
  refine Ru 1 rfl ?_
  refine JL.op z10_ rfl ?_
  refine JL.op z22_ rfl ?_
  refine Ru 1 rfl ?_
  refine JL.nil ?_
  refine Cs rfl (fun hc5 => ?_) fun hc5 => ?_
  ·
   obtain ⟨j, rfl⟩ : ∃ j, k = j + 1 := ⟨k - 1, by omega⟩
   refine J.skip ?_
   refine J.block ?_
   refine Rg ?_
   refine Ru 1 rfl ?_
   refine JL.lit1 ap_22 zr_5 rfl rfl rfl rfl rfl (fun b6 => ?_)
   refine JL.own (L' := [.blk _ _ [.int .u8 (((0 : UInt8).toNat : Nat) : Int)], _, _]) (fun w hk => hk) ?_
   refine JL.append1 ap_22 rfl rfl CellsR.of_u8 rfl dl_ dl_ rfl (rfl) z3_ rfl rfl (fun a7 c7 xs7 hC7 hN7 => ?_)
   obtain rfl := hC7.u8
   refine Ru 1 rfl ?_
   refine JL.nil ?_
   refine ⟨_, ?_, _, ?_, ⟨_, _, _, j, rfl, rfl, rfl, rfl, ⟨by simp; omega, by omega, by simp; omega⟩⟩⟩
   ·
    omega
   exact z5_
  refine J.exit ?_
  refine Kp [1, 5, 6] rfl ?_
  refine Sr ?_
  refine Ru 2 rfl ?_
  refine JL.op (by first | exact RunV.conv_u64 cv_3_63 rfl (by omega) (by omega) | exact RunV.conv cv_3_63 rfl) rfl ?_
  refine Ru 1 rfl ?_
  refine JL.nil ?_
  refine J.seq ?_
  refine Sr ?_
  refine Ru 1 rfl ?_
  refine JL.op z10_ rfl ?_
  refine JL.op si_ rfl ?_
  refine Ru 1 rfl ?_
  refine Nk [8, 7, 6] rfl ?_
  refine J.block ?_
  refine J.loop (fun t_ S_ h_ L_ => ∃ (out : List UInt8) (ao : Option Addr) (co j : Nat), t_ = j + 1 ∧ S_ = [(6, .slice ao out.length co), (7, .int .u64 l.length), (8, .int .i64 ((j : Int) - 1))] ∧ h = h_ ∧ L_ = [.row ao co 5 1 out.length (u8s out), .blk b1 99 (wayD sz f g0 g1 k0 k1 fc c0 c1 d0 d1)] ∧ ((out.length + j) % 128 = 0 ∧ j ≤ 16 ∧ out.length + j ≤ l.length + 145)) ⟨_, _, ?_, ⟨_, _, _, 16, rfl, rfl, rfl, rfl, ⟨by omega, by omega, by omega⟩⟩⟩ ?_
  ·
   exact z2_
  rintro _ _ _ _ ⟨out, ao, co, j, rfl, rfl, rfl, rfl, hj1, hj2, hj3⟩
  refine J.seq ?_
  refine Sr ?_
  refine Ru 2 rfl ?_
  refine JL.nil ?_
  refine Cs rfl (fun hc8 => ?_) fun hc8 => ?_
  ·
   obtain ⟨i, rfl⟩ : ∃ i, j = i + 1 := ⟨j - 1, by omega⟩
   refine J.skip ?_
   refine J.seq ?_
   refine J.block ?_
   refine Sr ?_
   refine Ru 1 rfl ?_
   refine JL.nil ?_
   refine J.seq ?_
   refine J.block ?_
   refine Sr ?_
   refine Ru 3 rfl ?_
   refine JL.nil ?_
   refine Cs rfl (fun hc9 => ?_) fun hc9 => ?_
   ·
    refine Rg ?_
    refine Ru 1 rfl ?_
    refine JL.ope (RunE.mulW rfl rfl) rfl ?_
    rintro _ ⟨m1, hm1, rfl⟩
    refine Ru 1 rfl ?_
    refine JL.op z41_ rfl ?_
    refine JL.op z29_ rfl ?_
    refine JL.ope (RunE.shrW hm1 rfl rfl (by omega) (by omega)) rfl ?_
    rintro _ ⟨m2, hm2, rfl⟩
    refine Ru 1 rfl ?_
    refine JL.nil ?_
    refine Rg ?_
    refine Ru 2 rfl ?_
    refine JL.op ((by first | exact RunV.toByte m2 cv_63_5 rfl rfl | exact RunV.toByte m3 cv_63_5 rfl rfl | exact RunV.toByte 0 cv_63_5 rfl rfl)) rfl ?_
    refine JL.lit1 ap_22 zr_5 rfl rfl rfl rfl rfl (fun b12 => ?_)
    refine JL.append1 ap_22 rfl rfl CellsR.of_u8 rfl dl_ dl_ rfl (rfl) z3_ rfl rfl (fun a13 c13 xs13 hC13 hN13 => ?_)
    obtain rfl := hC13.u8
    refine Ru 1 rfl ?_
    refine JL.nil ?_
    refine Rg ?_
    refine Ru 1 rfl ?_
    refine JL.op si_ rfl ?_
    refine Ru 1 rfl ?_
    refine JL.nil ?_
    refine ⟨_, ?_, _, ?_, ⟨_, _, _, i, rfl, rfl, rfl, rfl, ⟨by simp; omega, by omega, by simp; omega⟩⟩⟩
    ·
     omega
    exact z2_
   refine Sr ?_
   refine Ru 3 rfl ?_
   refine JL.nil ?_
   refine Cs rfl (fun hc14 => ?_) fun hc14 => ?_
   ·
    refine Rg ?_
    refine Ru 1 rfl ?_
    refine JL.ope (RunE.shrW (m := l.length) (by omega) rfl rfl (by omega) (by omega)) rfl ?_
    rintro _ ⟨m3, hm3, rfl⟩
    refine Ru 1 rfl ?_
    refine JL.nil ?_
    refine Rg ?_
    refine Ru 2 rfl ?_
    refine JL.op ((by first | exact RunV.toByte m2 cv_63_5 rfl rfl | exact RunV.toByte m3 cv_63_5 rfl rfl | exact RunV.toByte 0 cv_63_5 rfl rfl)) rfl ?_
    refine JL.lit1 ap_22 zr_5 rfl rfl rfl rfl rfl (fun b16 => ?_)
    refine JL.append1 ap_22 rfl rfl CellsR.of_u8 rfl dl_ dl_ rfl (rfl) z3_ rfl rfl (fun a17 c17 xs17 hC17 hN17 => ?_)
    obtain rfl := hC17.u8
    refine Ru 1 rfl ?_
    refine Nk [6, 59, 58, 57, 56, 55, 9, 54, 53, 50, 52, 51, 41, 43, 42, 38, 37, 7, 8] rfl ?_
    refine Rg ?_
    refine Ru 1 rfl ?_
    refine JL.op si_ rfl ?_
    refine Ru 1 rfl ?_
    refine JL.nil ?_
    refine ⟨_, ?_, _, ?_, ⟨_, _, _, i, rfl, rfl, rfl, rfl, ⟨by simp; omega, by omega, by simp; omega⟩⟩⟩
    ·
     omega
    exact z2_
   refine J.skip ?_
   refine Rg ?_
   refine Ru 2 rfl ?_
   refine JL.op ((by first | exact RunV.toByte m2 cv_63_5 rfl rfl | exact RunV.toByte m3 cv_63_5 rfl rfl | exact RunV.toByte 0 cv_63_5 rfl rfl)) rfl ?_
   refine JL.lit1 ap_22 zr_5 rfl rfl rfl rfl rfl (fun b18 => ?_)
   refine JL.append1 ap_22 rfl rfl CellsR.of_u8 rfl dl_ dl_ rfl (rfl) z3_ rfl rfl (fun a19 c19 xs19 hC19 hN19 => ?_)
   obtain rfl := hC19.u8
   refine Ru 1 rfl ?_
   refine JL.nil ?_
   refine Rg ?_
   refine Ru 1 rfl ?_
   refine JL.op si_ rfl ?_
   refine Ru 1 rfl ?_
   refine JL.nil ?_
   refine ⟨_, ?_, _, ?_, ⟨_, _, _, i, rfl, rfl, rfl, rfl, ⟨by simp; omega, by omega, by simp; omega⟩⟩⟩
   ·
    omega
   exact z2_
  refine J.exit ?_
  refine Kp [6] rfl ?_
  refine Sr ?_
  refine JL.pub (R := u8R) (l := out) dl_ CellsR.of_u8 rfl (by omega) (fun hp hlep hSp => ?_)
  refine Ru 2 rfl ?_
  refine JL.nil ?_
  exact J.retR (RetV.one rfl rfl) ⟨_, _, out, rfl, hSp, by omega, by omega⟩
theorem yblock_fn {sz : Nat} {f g0 g1 k0 k1 ka ha ba : Option Addr} {fc c0 c1 d0 d1 kc hc bc : Nat} {K H : List UInt64} {B : List UInt8} {h : Part} (hK : SlR u64R 1 h ka kc K) (hKl : K.length = 80) (hH : SlR u64R 1 h ha hc H) (hHl : H.length = 8) (hB : SlR u8R 1 h ba bc B) (hBl : B.length = 128)
    (hg0 : SlR u64R 1 h g0 c0 [28, 34, 39]) (hg1 : SlR u64R 1 h g1 c1 [14, 18, 41]) (hk0 : SlR u64R 1 h k0 d0 [1, 8, 7]) (hk1 : SlR u64R 1 h k1 d1 [19, 61, 6]) :
    FnR Tryz.prog 96 [.agg (wayD sz f g0 g1 k0 k1 fc c0 c1 d0 d1).toArray, .slice ka 80 kc, .slice ha 8 hc, .slice ba 128 bc] h (fun v h' => ∃ a c out, v = .slice a 8 c ∧ SlR u64R 1 h' a c out ∧ out.length = 8) := by
  refine Fn.intro Tryz.func96 rfl Tryz.ntmps96 rfl (fun e he => ?_)
  refine J.weak [(0, _), (1, _), (2, _), (3, _)] ⟨rfl, rfl, rfl, rfl, trivial⟩ ?_
  have hh0 := Part.le.refl h
  refine Sr ?_
  refine JL.box rfl rfl rfl (fun b1 => ?_)
  refine Ru 1 rfl ?_
  refine JL.nil ?_
  refine Sr ?_
  refine Ru 1 rfl ?_
  refine JL.op (RunV.own1 ag_93 rfl mm_ rfl) rfl ?_
  refine JL.op z34_ rfl ?_
  refine JL.op z12_ rfl ?_
  refine Ru 1 rfl ?_
  refine Nk [9, 8, 4, 1, 2, 3] rfl ?_
  refine Sr ?_
  refine Ru 1 rfl ?_
  refine JL.nil ?_
  refine J.seq ?_
  refine Sr ?_
  refine JL.row_nil 63 1 ?_
  refine Ru 1 rfl ?_
  refine JL.nil ?_
  refine J.block ?_
  refine J.loop (fun t_ S_ h_ L_ => ∃ (g : Part) (us : List UInt64) (ao : Option Addr) (co : Nat), t_ = 81 - us.length ∧ S_ = [(1, .slice ka 80 kc), (2, .slice ha 8 hc), (3, .slice ba 128 bc), (4, .pointer (some ⟨b1, 0, none⟩)), (9, .int .i64 8), (10, .slice ao us.length co), (11, .int .i64 us.length)] ∧ g = h_ ∧ L_ = [.row ao co 63 1 us.length (c64 us), .blk b1 99 (wayD sz f g0 g1 k0 k1 fc c0 c1 d0 d1)] ∧ (h.le g ∧ SlR u64R 1 g ka kc K ∧ SlR u64R 1 g ha hc H ∧ SlR u8R 1 g ba bc B ∧ SlR u64R 1 g g0 c0 [28, 34, 39] ∧ SlR u64R 1 g g1 c1 [14, 18, 41] ∧ SlR u64R 1 g k0 d0 [1, 8, 7] ∧ SlR u64R 1 g k1 d1 [19, 61, 6] ∧ us.length ≤ 80)) ⟨_, _, ?_, ⟨_, [], none, 0, rfl, rfl, rfl, rfl, ⟨hh0, hK, hH, hB, hg0, hg1, hk0, hk1, by simp⟩⟩⟩ ?_
  ·
   exact z24_
  rintro _ _ _ _ ⟨g, us, ao, co, rfl, rfl, rfl, rfl, hh0, hK, hH, hB, hg0, hg1, hk0, hk1, hul⟩
  refine J.seq ?_
  refine Sr ?_
  refine Ru 2 rfl ?_
  refine JL.op (RunV.own1 ag_3 rfl mm_ rfl) rfl ?_
  refine Ru 1 rfl ?_
  refine JL.nil ?_
  refine Cs rfl (fun hc2 => ?_) fun hc2 => ?_
  ·
   refine J.skip ?_
   refine J.seq ?_
   refine J.block ?_
   refine Sr ?_
   refine Ru 1 rfl ?_
   refine JL.nil ?_
   refine J.seq ?_
   refine Sr ?_
   refine Ru 2 rfl ?_
   refine JL.nil ?_
   refine Cs rfl (fun hc3 => ?_) fun hc3 => ?_
   ·
    refine Sr ?_
    refine Ru 1 rfl ?_
    refine JL.nil ?_
    refine J.block ?_
    refine J.loop (fun t_ S_ h_ L_ => ∃ (i x : Nat), t_ = 9 - i ∧ S_ = [(1, .slice ka 80 kc), (2, .slice ha 8 hc), (3, .slice ba 128 bc), (4, .pointer (some ⟨b1, 0, none⟩)), (9, .int .i64 8), (10, .slice ao us.length co), (11, .int .i64 us.length), (12, .int .u64 x), (13, .int .i64 i)] ∧ g = h_ ∧ L_ = [.row ao co 63 1 us.length (c64 us), .blk b1 99 (wayD sz f g0 g1 k0 k1 fc c0 c1 d0 d1)] ∧ (i ≤ 8 ∧ x < 18446744073709551616)) ⟨_, _, ?_, ⟨0, 0, rfl, rfl, rfl, rfl, ⟨by omega, by omega⟩⟩⟩ ?_
    ·
     exact z5_
    rintro _ _ _ _ ⟨i, x, rfl, rfl, rfl, rfl, hi, hx⟩
    refine J.seq ?_
    refine Sr ?_
    refine Ru 3 rfl ?_
    refine JL.nil ?_
    refine Cs rfl (fun hc4 => ?_) fun hc4 => ?_
    ·
     refine J.skip ?_
     refine J.seq ?_
     refine J.block ?_
     refine Rg ?_
     refine Ru 1 rfl ?_
     refine JL.ope (RunE.mulW rfl rfl) rfl ?_
     rintro _ ⟨m1, hm1, rfl⟩
     refine Ru 3 rfl ?_
     refine JL.op z10_ rfl ?_
     refine Ru 1 rfl ?_
     refine JL.op ai_ rfl ?_
     refine JL.ope (RunE.index (m := us.length * 8 + i) sl_22 rfl rfl (by omega) hB hBl.symm (by omega)) rfl ?_
     rintro _ ⟨b6, o6, hi6, rfl, hE6⟩
     refine JL.op (RunV.ld_u8 ag_5 rfl (by assumption)) rfl ?_
     refine JL.op z42_ rfl ?_
     refine JL.ope (RunE.addW rfl rfl) rfl ?_
     rintro _ ⟨m2, hm2, rfl⟩
     refine Ru 1 rfl ?_
     refine JL.nil ?_
     refine Rg ?_
     refine Ru 1 rfl ?_
     refine JL.op ai_ rfl ?_
     refine Ru 1 rfl ?_
     refine JL.nil ?_
     refine ⟨_, ?_, _, ?_, ⟨i + 1, m2, rfl, rfl, rfl, rfl, ⟨by omega, hm2⟩⟩⟩
     ·
      omega
     exact z5_
    refine J.exit ?_
    refine Rg ?_
    refine Ru 2 rfl ?_
    refine JL.lit1 ap_66 zr_63 rfl rfl rfl rfl rfl (fun b9 => ?_)
    refine JL.append1 ap_66 rfl rfl (cells_lit64 rfl) rfl dl_ dl_ rfl ((elW hx)) z3_ rfl rfl (fun a10 c10 xs10 hC10 hN10 => ?_)
    obtain rfl := CellsR.u64 (l := us ++ [UInt64.ofNat x]) (by assumption)
    refine Ru 1 rfl ?_
    refine JL.nil ?_
    refine Rg ?_
    refine Ru 1 rfl ?_
    refine JL.op ai_ rfl ?_
    refine Ru 1 rfl ?_
    refine JL.nil ?_
    refine ⟨_, ?_, _, ?_, ⟨_, us ++ [UInt64.ofNat x], _, _, rfl, rfl, rfl, rfl, ⟨by assumption, hK, hH, hB, hg0, hg1, hk0, hk1, by simp; omega⟩⟩⟩
    ·
     simp; omega
    exact z24_
   refine J.rowaddr (List.mem_cons_self ..) (by omega) (fun ga hga => ?_); subst hga
   refine J.held ([.row (some ⟨ga, 0, none⟩) co 63 1 us.length (c64 us), .blk b1 99 (wayD sz f g0 g1 k0 k1 fc c0 c1 d0 d1)]) 34 mixed_ rfl (fun h00 => ?_)
   refine JH.take 0 rfl (by kernel_rfl) (by kernel_rfl) (by kernel_rfl) (fun _ _ _ _ hh => hh) (br_ h00) (RunV.ownA ag_99 rfl mm_ (by first | rfl)) rfl ?_
   refine JH.take 1 rfl (by kernel_rfl) (by kernel_rfl) (by kernel_rfl) (fun _ _ _ _ hh => hh) (br_ h00) (RunV.ownA ag_99 rfl mm_ (by first | rfl)) rfl ?_
   refine JH.take 2 rfl (by kernel_rfl) (by kernel_rfl) (by kernel_rfl) (fun _ _ _ _ hh => hh) (br_ h00) (RunV.move rfl) rfl ?_
   refine JH.take 3 rfl (by kernel_rfl) (by kernel_rfl) (by kernel_rfl) (fun _ _ _ _ hh => hh) (br_ h00) (RunV.move rfl) rfl ?_
   refine JH.take 4 rfl (by kernel_rfl) (by kernel_rfl) (by kernel_rfl) (fun _ _ _ _ hh => hh) (br_ h00) si_ rfl ?_
   refine JH.take 5 rfl (by kernel_rfl) (by kernel_rfl) (by kernel_rfl) (fun _ _ _ _ hh => hh) (br_ h00) (RunV.index_at sl_66 (m := us.length - 2) rfl rfl (by omega) (by omega)) rfl ?_
   refine JH.takeE 6 rfl (by kernel_rfl) (by kernel_rfl) (by kernel_rfl) (fun _ _ _ _ hh => hh) (br_ h00) (RunE.rowW ag_63 rfl mm_ (by omega)) rfl ?_
   rintro _ ⟨n1, hn1, rfl⟩
   refine JH.take 7 rfl (by kernel_rfl) (by kernel_rfl) (by kernel_rfl) (fun _ _ _ _ hh => hh) (br_ h00) (by first | exact RunV.fieldAt0 fo_99_6 rfl | exact RunV.fieldAt fo_99_6 rfl) rfl ?_
   refine JH.take 8 rfl (by kernel_rfl) (by kernel_rfl) (by kernel_rfl) (fun _ _ _ _ hh => hh) (br_ h00) (RunV.own1 ag_97 rfl mm_ rfl) rfl ?_
   refine JH.take 10 rfl (by kernel_rfl) (by kernel_rfl) (by kernel_rfl) (fun _ _ _ _ hh => hh) (br_ h00) (RunV.move rfl) rfl ?_
   refine JH.take 11 rfl (by kernel_rfl) (by kernel_rfl) (by kernel_rfl) (fun _ _ _ _ hh => hh) (br_ h00) (RunV.move rfl) rfl ?_
   refine JH.take 12 rfl (by kernel_rfl) (by kernel_rfl) (by kernel_rfl) (fun _ _ _ _ hh => hh) (br_ h00) si_ rfl ?_
   refine JH.take 13 rfl (by kernel_rfl) (by kernel_rfl) (by kernel_rfl) (fun _ _ _ _ hh => hh) (br_ h00) (RunV.index_at sl_66 (m := us.length - 7) rfl rfl (by omega) (by omega)) rfl ?_
   refine JH.takeE 14 rfl (by kernel_rfl) (by kernel_rfl) (by kernel_rfl) (fun _ _ _ _ hh => hh) (br_ h00) (RunE.rowW ag_63 rfl mm_ (by omega)) rfl ?_
   rintro _ ⟨n2, hn2, rfl⟩
   refine JH.take 16 rfl (by kernel_rfl) (by kernel_rfl) (by kernel_rfl) (fun _ _ _ _ hh => hh) (br_ h00) (RunV.ownA ag_99 rfl mm_ (by first | rfl)) rfl ?_
   refine JH.take 17 rfl (by kernel_rfl) (by kernel_rfl) (by kernel_rfl) (fun _ _ _ _ hh => hh) (br_ h00) (RunV.move rfl) rfl ?_
   refine JH.take 18 rfl (by kernel_rfl) (by kernel_rfl) (by kernel_rfl) (fun _ _ _ _ hh => hh) (br_ h00) (RunV.move rfl) rfl ?_
   refine JH.take 19 rfl (by kernel_rfl) (by kernel_rfl) (by kernel_rfl) (fun _ _ _ _ hh => hh) (br_ h00) si_ rfl ?_
   refine JH.take 20 rfl (by kernel_rfl) (by kernel_rfl) (by kernel_rfl) (fun _ _ _ _ hh => hh) (br_ h00) (RunV.index_at sl_66 (m := us.length - 15) rfl rfl (by omega) (by omega)) rfl ?_
   refine JH.takeE 21 rfl (by kernel_rfl) (by kernel_rfl) (by kernel_rfl) (fun _ _ _ _ hh => hh) (br_ h00) (RunE.rowW ag_63 rfl mm_ (by omega)) rfl ?_
   rintro _ ⟨n3, hn3, rfl⟩
   refine JH.take 22 rfl (by kernel_rfl) (by kernel_rfl) (by kernel_rfl) (fun _ _ _ _ hh => hh) (br_ h00) (by first | exact RunV.fieldAt0 fo_99_5 rfl | exact RunV.fieldAt fo_99_5 rfl) rfl ?_
   refine JH.take 23 rfl (by kernel_rfl) (by kernel_rfl) (by kernel_rfl) (fun _ _ _ _ hh => hh) (br_ h00) (RunV.own1 ag_97 rfl mm_ rfl) rfl ?_
   refine JH.take 26 rfl (by kernel_rfl) (by kernel_rfl) (by kernel_rfl) (fun _ _ _ _ hh => hh) (br_ h00) (RunV.move rfl) rfl ?_
   refine JH.take 27 rfl (by kernel_rfl) (by kernel_rfl) (by kernel_rfl) (fun _ _ _ _ hh => hh) (br_ h00) (RunV.move rfl) rfl ?_
   refine JH.take 28 rfl (by kernel_rfl) (by kernel_rfl) (by kernel_rfl) (fun _ _ _ _ hh => hh) (br_ h00) si_ rfl ?_
   refine JH.take 29 rfl (by kernel_rfl) (by kernel_rfl) (by kernel_rfl) (fun _ _ _ _ hh => hh) (br_ h00) (RunV.index_at sl_66 (m := us.length - 16) rfl rfl (by omega) (by omega)) rfl ?_
   refine JH.takeE 30 rfl (by kernel_rfl) (by kernel_rfl) (by kernel_rfl) (fun _ _ _ _ hh => hh) (br_ h00) (RunE.rowW ag_63 rfl mm_ (by omega)) rfl ?_
   rintro _ ⟨n4, hn4, rfl⟩
   refine JH.all1 9 (by kernel_rfl) rfl ?_
   unfold One
   refine JL.callR ca_128 rfl (ylow_fn hn1 hk1 (by decide) (by decide) (by decide)) rfl ?_
   rintro _ h15 hle15 ⟨p1, hp1, rfl⟩
   replace hK := hK.mono hle15
   replace hH := hH.mono hle15
   replace hB := hB.mono hle15
   replace hg0 := hg0.mono hle15
   replace hg1 := hg1.mono hle15
   replace hk0 := hk0.mono hle15
   replace hk1 := hk1.mono hle15
   replace hh0 := hh0.mono hle15
   refine JL.nil ⟨(br_ h00), ?_⟩
   refine JH.takeE 15 rfl (by kernel_rfl) (by kernel_rfl) (by kernel_rfl) (fun _ _ _ _ hh => hh) (br_ h00) (RunE.addW rfl rfl) rfl ?_
   rintro _ ⟨q1, hq1, rfl⟩
   refine JH.all1 24 (by kernel_rfl) rfl ?_
   unfold One
   refine JL.callR ca_128 rfl (ylow_fn hn3 hk0 (by decide) (by decide) (by decide)) rfl ?_
   rintro _ h17 hle17 ⟨p2, hp2, rfl⟩
   replace hK := hK.mono hle17
   replace hH := hH.mono hle17
   replace hB := hB.mono hle17
   replace hg0 := hg0.mono hle17
   replace hg1 := hg1.mono hle17
   replace hk0 := hk0.mono hle17
   replace hk1 := hk1.mono hle17
   replace hh0 := hh0.mono hle17
   refine JL.nil ⟨(br_ h00), ?_⟩
   refine JH.takeE 25 rfl (by kernel_rfl) (by kernel_rfl) (by kernel_rfl) (fun _ _ _ _ hh => hh) (br_ h00) (RunE.addW rfl rfl) rfl ?_
   rintro _ ⟨q2, hq2, rfl⟩
   refine JH.takeE 31 rfl (by kernel_rfl) (by kernel_rfl) (by kernel_rfl) (fun _ _ _ _ hh => hh) (br_ h00) (RunE.addW rfl rfl) rfl ?_
   rintro _ ⟨q3, hq3, rfl⟩
   refine JH.all1 32 (by kernel_rfl) rfl ?_
   unfold One
   refine JL.callR ca_127 rfl (ycut_fn hq3) rfl ?_
   rintro _ h20 hle20 ⟨x, hx, rfl⟩
   replace hK := hK.mono hle20
   replace hH := hH.mono hle20
   replace hB := hB.mono hle20
   replace hg0 := hg0.mono hle20
   replace hg1 := hg1.mono hle20
   replace hk0 := hk0.mono hle20
   replace hk1 := hk1.mono hle20
   replace hh0 := hh0.mono hle20
   refine JL.nil ⟨(br_ h00), ?_⟩
   refine JH.take 33 rfl (by kernel_rfl) (by kernel_rfl) (by kernel_rfl) (fun _ _ _ _ hh => hh) (br_ h00) (RunV.assign rfl) rfl ?_
   refine JH.done (by kernel_rfl) ?_
   refine Rg ?_
   refine Ru 2 rfl ?_
   refine JL.lit1 ap_66 zr_63 rfl rfl rfl rfl rfl (fun b21 => ?_)
   refine JL.append1 ap_66 rfl rfl (cells_lit64 rfl) rfl dl_ dl_ rfl ((elW hx)) z3_ rfl rfl (fun a22 c22 xs22 hC22 hN22 => ?_)
   obtain rfl := CellsR.u64 (l := us ++ [UInt64.ofNat x]) (by assumption)
   refine Ru 1 rfl ?_
   refine JL.nil ?_
   refine Rg ?_
   refine Ru 1 rfl ?_
   refine JL.op ai_ rfl ?_
   refine Ru 1 rfl ?_
   refine JL.nil ?_
   refine ⟨_, ?_, _, ?_, ⟨_, us ++ [UInt64.ofNat x], _, _, rfl, rfl, rfl, rfl, ⟨by assumption, hK, hH, hB, hg0, hg1, hk0, hk1, by simp; omega⟩⟩⟩
   ·
    simp; omega
   exact z24_
  have hu64 : us.length = 80 := (by omega); refine J.rowaddr (List.mem_cons_self ..) (by omega) (fun gz hgz => ?_); subst hgz
  refine J.exit ?_
  refine Kp [1, 2, 4, 10] rfl ?_
  refine J.seq ?_
  refine J.drawn mixed_ (by kernel_rfl) ?_
  refine Rq 1 rfl ?_
  refine JQ.ope (RunE.index (m := 0) sl_66 rfl rfl rfl hH hHl.symm (by omega)) rfl ?_
  rintro _ ⟨b23, o23, hi23, rfl, hE23⟩
  refine JQ.ope (RunE.partW ag_63 rfl (by assumption)) rfl ?_
  rintro _ ⟨x0, hx0, rfl⟩
  refine Rq 1 rfl ?_
  refine JQ.ope (RunE.index (m := 1) sl_66 rfl rfl rfl hH hHl.symm (by omega)) rfl ?_
  rintro _ ⟨b25, o25, hi25, rfl, hE25⟩
  refine JQ.ope (RunE.partW ag_63 rfl (by assumption)) rfl ?_
  rintro _ ⟨x1, hx1, rfl⟩
  refine Rq 1 rfl ?_
  refine JQ.ope (RunE.index (m := 2) sl_66 rfl rfl rfl hH hHl.symm (by omega)) rfl ?_
  rintro _ ⟨b27, o27, hi27, rfl, hE27⟩
  refine JQ.ope (RunE.partW ag_63 rfl (by assumption)) rfl ?_
  rintro _ ⟨x2, hx2, rfl⟩
  refine Rq 1 rfl ?_
  refine JQ.ope (RunE.index (m := 3) sl_66 rfl rfl rfl hH hHl.symm (by omega)) rfl ?_
  rintro _ ⟨b29, o29, hi29, rfl, hE29⟩
  refine JQ.ope (RunE.partW ag_63 rfl (by assumption)) rfl ?_
  rintro _ ⟨x3, hx3, rfl⟩
  refine Rq 1 rfl ?_
  refine JQ.ope (RunE.index (m := 4) sl_66 rfl rfl rfl hH hHl.symm (by omega)) rfl ?_
  rintro _ ⟨b31, o31, hi31, rfl, hE31⟩
  refine JQ.ope (RunE.partW ag_63 rfl (by assumption)) rfl ?_
  rintro _ ⟨x4, hx4, rfl⟩
  refine Rq 1 rfl ?_
  refine JQ.ope (RunE.index (m := 5) sl_66 rfl rfl rfl hH hHl.symm (by omega)) rfl ?_
  rintro _ ⟨b33, o33, hi33, rfl, hE33⟩
  refine JQ.ope (RunE.partW ag_63 rfl (by assumption)) rfl ?_
  rintro _ ⟨x5, hx5, rfl⟩
  refine Rq 1 rfl ?_
  refine JQ.ope (RunE.index (m := 6) sl_66 rfl rfl rfl hH hHl.symm (by omega)) rfl ?_
  rintro _ ⟨b35, o35, hi35, rfl, hE35⟩
  refine JQ.ope (RunE.partW ag_63 rfl (by assumption)) rfl ?_
  rintro _ ⟨x6, hx6, rfl⟩
  refine Rq 1 rfl ?_
  refine JQ.ope (RunE.index (m := 7) sl_66 rfl rfl rfl hH hHl.symm (by omega)) rfl ?_
  rintro _ ⟨b37, o37, hi37, rfl, hE37⟩
  refine JQ.ope (RunE.partW ag_63 rfl (by assumption)) rfl ?_
  rintro _ ⟨x7, hx7, rfl⟩
  refine Rq 8 rfl ?_
  refine Nq [21, 20, 19, 18, 17, 16, 15, 14, 1, 2, 4, 10] rfl ?_
  refine J.seq ?_
  refine Sr ?_
  refine Ru 1 rfl ?_
  refine JL.nil ?_
  refine J.block ?_
  refine J.loop (fun t_ S_ h_ L_ => ∃ (g2 : Part) (t x0 x1 x2 x3 x4 x5 x6 x7 : Nat), t_ = 81 - t ∧ S_ = [(1, .slice ka 80 kc), (2, .slice ha 8 hc), (4, .pointer (some ⟨b1, 0, none⟩)), (10, .slice (some ⟨gz, 0, none⟩) us.length co), (14, .int .u64 x0), (15, .int .u64 x1), (16, .int .u64 x2), (17, .int .u64 x3), (18, .int .u64 x4), (19, .int .u64 x5), (20, .int .u64 x6), (21, .int .u64 x7), (22, .int .i64 t)] ∧ g2 = h_ ∧ L_ = [.row (some ⟨gz, 0, none⟩) co 63 1 us.length (c64 us), .blk b1 99 (wayD sz f g0 g1 k0 k1 fc c0 c1 d0 d1)] ∧ (h.le g2 ∧ SlR u64R 1 g2 ka kc K ∧ SlR u64R 1 g2 ha hc H ∧ SlR u64R 1 g2 g0 c0 [28, 34, 39] ∧ SlR u64R 1 g2 g1 c1 [14, 18, 41] ∧ t ≤ 80 ∧ x0 < 18446744073709551616 ∧ x1 < 18446744073709551616 ∧ x2 < 18446744073709551616 ∧ x3 < 18446744073709551616 ∧ x4 < 18446744073709551616 ∧ x5 < 18446744073709551616 ∧ x6 < 18446744073709551616 ∧ x7 < 18446744073709551616)) ⟨_, _, ?_, ⟨_, 0, x0, x1, x2, x3, x4, x5, x6, x7, rfl, rfl, rfl, rfl, ⟨by assumption, hK, hH, hg0, hg1, by omega, hx0, hx1, hx2, hx3, hx4, hx5, hx6, hx7⟩⟩⟩ ?_
  ·
   exact z5_
  rintro _ _ _ _ ⟨g2, t, x0, x1, x2, x3, x4, x5, x6, x7, rfl, rfl, rfl, rfl, hh0, hK, hH, hg0, hg1, ht, hx0, hx1, hx2, hx3, hx4, hx5, hx6, hx7⟩
  refine J.seq ?_
  refine Sr ?_
  refine Ru 2 rfl ?_
  refine JL.op (RunV.own1 ag_3 rfl mm_ rfl) rfl ?_
  refine Ru 1 rfl ?_
  refine JL.nil ?_
  refine Cs rfl (fun hc39 => ?_) fun hc39 => ?_
  ·
   refine J.skip ?_
   refine J.seq ?_
   refine J.block ?_
   refine Sr ?_
   refine Ru 2 rfl ?_
   refine JL.ope (RunE.index (m := t) sl_66 rfl rfl rfl hK hKl.symm (by omega)) rfl ?_
   rintro _ ⟨b40, o40, hi40, rfl, hE40⟩
   refine JL.ope (RunE.partW ag_63 rfl (by assumption)) rfl ?_
   rintro _ ⟨kk, hkk, rfl⟩
   refine Ru 1 rfl ?_
   refine JL.nil ?_
   refine J.seq ?_
   refine Sr ?_
   refine Ru 1 rfl ?_
   refine JL.op (RunV.own1 ag_93 rfl mm_ rfl) rfl ?_
   refine Ru 1 rfl ?_
   refine JL.nil ?_
   refine Cs rfl (fun hc42 => ?_) fun hc42 => ?_
   ·
    exfalso; cases hc42
   refine J.skip ?_
   refine J.seq ?_
   refine J.held ([.row (some ⟨gz, 0, none⟩) co 63 1 us.length (c64 us), .blk b1 99 (wayD sz f g0 g1 k0 k1 fc c0 c1 d0 d1)]) 26 mixed_ rfl (fun h00 => ?_)
   refine JH.take 0 rfl (by kernel_rfl) (by kernel_rfl) (by kernel_rfl) (fun _ _ _ _ hh => hh) (br_ h00) (RunV.move rfl) rfl ?_
   refine JH.take 1 rfl (by kernel_rfl) (by kernel_rfl) (by kernel_rfl) (fun _ _ _ _ hh => hh) (br_ h00) (RunV.ownA ag_99 rfl mm_ (by first | rfl)) rfl ?_
   refine JH.take 2 rfl (by kernel_rfl) (by kernel_rfl) (by kernel_rfl) (fun _ _ _ _ hh => hh) (br_ h00) (RunV.move rfl) rfl ?_
   refine JH.take 3 rfl (by kernel_rfl) (by kernel_rfl) (by kernel_rfl) (fun _ _ _ _ hh => hh) (br_ h00) (by first | exact RunV.fieldAt0 fo_99_4 rfl | exact RunV.fieldAt fo_99_4 rfl) rfl ?_
   refine JH.take 4 rfl (by kernel_rfl) (by kernel_rfl) (by kernel_rfl) (fun _ _ _ _ hh => hh) (br_ h00) (RunV.own1 ag_97 rfl mm_ rfl) rfl ?_
   refine JH.take 7 rfl (by kernel_rfl) (by kernel_rfl) (by kernel_rfl) (fun _ _ _ _ hh => hh) (br_ h00) (RunV.move rfl) rfl ?_
   refine JH.take 8 rfl (by kernel_rfl) (by kernel_rfl) (by kernel_rfl) (fun _ _ _ _ hh => hh) (br_ h00) (RunV.move rfl) rfl ?_
   refine JH.takeE 9 rfl (by kernel_rfl) (by kernel_rfl) (by kernel_rfl) (fun _ _ _ _ hh => hh) (br_ h00) (RunE.andW rfl rfl) rfl ?_
   rintro _ ⟨q2, hq2, rfl⟩
   refine JH.take 10 rfl (by kernel_rfl) (by kernel_rfl) (by kernel_rfl) (fun _ _ _ _ hh => hh) (br_ h00) (RunV.ownA ag_99 rfl mm_ (by first | rfl)) rfl ?_
   refine JH.take 11 rfl (by kernel_rfl) (by kernel_rfl) (by kernel_rfl) (fun _ _ _ _ hh => hh) (br_ h00) (RunV.move rfl) rfl ?_
   refine JH.takeE 12 rfl (by kernel_rfl) (by kernel_rfl) (by kernel_rfl) (fun _ _ _ _ hh => hh) (br_ h00) (RunE.notW rfl) rfl ?_
   rintro _ ⟨q3, hq3, rfl⟩
   refine JH.take 14 rfl (by kernel_rfl) (by kernel_rfl) (by kernel_rfl) (fun _ _ _ _ hh => hh) (br_ h00) (RunV.move rfl) rfl ?_
   refine JH.take 18 rfl (by kernel_rfl) (by kernel_rfl) (by kernel_rfl) (fun _ _ _ _ hh => hh) (br_ h00) (RunV.move rfl) rfl ?_
   refine JH.take 20 rfl (by kernel_rfl) (by kernel_rfl) (by kernel_rfl) (fun _ _ _ _ hh => hh) (br_ h00) (RunV.move rfl) rfl ?_
   refine JH.take 21 rfl (by kernel_rfl) (by kernel_rfl) (by kernel_rfl) (fun _ _ _ _ hh => hh) (br_ h00) (RunV.move rfl) rfl ?_
   refine JH.take 22 rfl (by kernel_rfl) (by kernel_rfl) (by kernel_rfl) (fun _ _ _ _ hh => hh) (br_ h00) (RunV.index_at sl_66 (m := t) rfl rfl (by omega) (by omega)) rfl ?_
   refine JH.takeE 23 rfl (by kernel_rfl) (by kernel_rfl) (by kernel_rfl) (fun _ _ _ _ hh => hh) (br_ h00) (RunE.rowW ag_63 rfl mm_ (by omega)) rfl ?_
   rintro _ ⟨n1, hn1, rfl⟩
   refine JH.all1 5 (by kernel_rfl) rfl ?_
   unfold One
   refine JL.callR ca_129 rfl (ybig_fn hx4 hg1 (by decide) (by decide) (by decide)) rfl ?_
   rintro _ h46 hle46 ⟨p1, hp1, rfl⟩
   replace hK := hK.mono hle46
   replace hH := hH.mono hle46
   replace hg0 := hg0.mono hle46
   replace hg1 := hg1.mono hle46
   replace hh0 := hh0.mono hle46
   refine JL.nil ⟨(br_ h00), ?_⟩
   refine JH.takeE 6 rfl (by kernel_rfl) (by kernel_rfl) (by kernel_rfl) (fun _ _ _ _ hh => hh) (br_ h00) (RunE.addW rfl rfl) rfl ?_
   rintro _ ⟨q1, hq1, rfl⟩
   refine JH.all1 13 (by kernel_rfl) rfl ?_
   unfold One
   refine JL.callR ca_127 rfl (ycut_fn hq3) rfl ?_
   rintro _ h48 hle48 ⟨p2, hp2, rfl⟩
   replace hK := hK.mono hle48
   replace hH := hH.mono hle48
   replace hg0 := hg0.mono hle48
   replace hg1 := hg1.mono hle48
   replace hh0 := hh0.mono hle48
   refine JL.nil ⟨(br_ h00), ?_⟩
   refine JH.takeE 15 rfl (by kernel_rfl) (by kernel_rfl) (by kernel_rfl) (fun _ _ _ _ hh => hh) (br_ h00) (RunE.andW rfl rfl) rfl ?_
   rintro _ ⟨q4, hq4, rfl⟩
   refine JH.takeE 16 rfl (by kernel_rfl) (by kernel_rfl) (by kernel_rfl) (fun _ _ _ _ hh => hh) (br_ h00) (RunE.xorW rfl rfl) rfl ?_
   rintro _ ⟨q5, hq5, rfl⟩
   refine JH.takeE 17 rfl (by kernel_rfl) (by kernel_rfl) (by kernel_rfl) (fun _ _ _ _ hh => hh) (br_ h00) (RunE.addW rfl rfl) rfl ?_
   rintro _ ⟨q6, hq6, rfl⟩
   refine JH.takeE 19 rfl (by kernel_rfl) (by kernel_rfl) (by kernel_rfl) (fun _ _ _ _ hh => hh) (br_ h00) (RunE.addW rfl rfl) rfl ?_
   rintro _ ⟨q7, hq7, rfl⟩
   refine JH.takeE 24 rfl (by kernel_rfl) (by kernel_rfl) (by kernel_rfl) (fun _ _ _ _ hh => hh) (br_ h00) (RunE.addW rfl rfl) rfl ?_
   rintro _ ⟨y1, hy1, rfl⟩
   refine JH.take 25 rfl (by kernel_rfl) (by kernel_rfl) (by kernel_rfl) (fun _ _ _ _ hh => hh) (br_ h00) (RunV.assign rfl) rfl ?_
   refine JH.done (by kernel_rfl) ?_
   refine Sr ?_
   refine JL.op (RunV.ownA ag_99 rfl mm_ (by first | rfl)) rfl ?_
   refine Ru 2 rfl ?_
   refine JL.op (RunV.own1 ag_97 rfl mm_ rfl) rfl ?_
   refine JL.callR ca_129 rfl (ybig_fn hx0 hg0 (by decide) (by decide) (by decide)) rfl ?_
   rintro _ h54 hle54 ⟨p3, hp3, rfl⟩
   replace hK := hK.mono hle54
   replace hH := hH.mono hle54
   replace hg0 := hg0.mono hle54
   replace hg1 := hg1.mono hle54
   replace hh0 := hh0.mono hle54
   refine Ru 2 rfl ?_
   refine JL.ope (RunE.andW rfl rfl) rfl ?_
   rintro _ ⟨r1, hr1, rfl⟩
   refine Ru 2 rfl ?_
   refine JL.ope (RunE.andW rfl rfl) rfl ?_
   rintro _ ⟨r2, hr2, rfl⟩
   refine JL.ope (RunE.xorW rfl rfl) rfl ?_
   rintro _ ⟨r3, hr3, rfl⟩
   refine Ru 2 rfl ?_
   refine JL.ope (RunE.andW rfl rfl) rfl ?_
   rintro _ ⟨r4, hr4, rfl⟩
   refine JL.ope (RunE.xorW rfl rfl) rfl ?_
   rintro _ ⟨r5, hr5, rfl⟩
   refine JL.ope (RunE.addW rfl rfl) rfl ?_
   rintro _ ⟨y2, hy2, rfl⟩
   refine Ru 1 rfl ?_
   refine JL.nil ?_
   refine Sr ?_
   refine Ru 6 rfl ?_
   refine Nk [19, 20, 21, 178, 177, 176, 25, 175, 174, 173, 172, 171, 170, 169, 168, 167, 166, 165, 164, 163, 162, 161, 160, 159, 24, 158, 153, 151, 150, 149, 147, 140, 139, 157, 156, 155, 154, 152, 148, 146, 145, 144, 143, 142, 141, 138, 137, 136, 135, 134, 131, 130, 129, 23, 128, 127, 126, 125, 122, 121, 120, 119, 1, 2, 4, 10, 14, 15, 16, 17, 18, 22] rfl ?_
   refine Sr ?_
   refine JL.op (RunV.ownA ag_99 rfl mm_ (by first | rfl)) rfl ?_
   refine Ru 2 rfl ?_
   refine JL.ope (RunE.addW rfl rfl) rfl ?_
   rintro _ ⟨z1, hz1, rfl⟩
   refine JL.callR ca_127 rfl (ycut_fn hz1) rfl ?_
   rintro _ h62 hle62 ⟨w1, hw1, rfl⟩
   replace hK := hK.mono hle62
   replace hH := hH.mono hle62
   replace hg0 := hg0.mono hle62
   replace hg1 := hg1.mono hle62
   replace hh0 := hh0.mono hle62
   refine Ru 1 rfl ?_
   refine JL.nil ?_
   refine Sr ?_
   refine Ru 6 rfl ?_
   refine JL.nil ?_
   refine Rg ?_
   refine JL.op (RunV.ownA ag_99 rfl mm_ (by first | rfl)) rfl ?_
   refine Ru 2 rfl ?_
   refine JL.ope (RunE.addW rfl rfl) rfl ?_
   rintro _ ⟨z2, hz2, rfl⟩
   refine JL.callR ca_127 rfl (ycut_fn hz2) rfl ?_
   rintro _ h64 hle64 ⟨w2, hw2, rfl⟩
   replace hK := hK.mono hle64
   replace hH := hH.mono hle64
   replace hg0 := hg0.mono hle64
   replace hg1 := hg1.mono hle64
   replace hh0 := hh0.mono hle64
   refine Ru 1 rfl ?_
   refine Nk [14, 191, 190, 189, 188, 187, 15, 16, 17, 186, 185, 184, 18, 183, 182, 181, 180, 179, 19, 20, 21, 178, 177, 176, 25, 175, 174, 173, 172, 171, 170, 169, 168, 167, 166, 165, 164, 163, 162, 161, 160, 159, 24, 158, 153, 151, 150, 149, 147, 140, 139, 157, 156, 155, 154, 152, 148, 146, 145, 144, 143, 142, 141, 138, 137, 136, 135, 134, 131, 130, 129, 23, 128, 127, 126, 125, 122, 121, 120, 119, 1, 2, 4, 10, 22] rfl ?_
   refine Rg ?_
   refine Ru 1 rfl ?_
   refine JL.op ai_ rfl ?_
   refine Ru 1 rfl ?_
   refine JL.nil ?_
   refine ⟨_, ?_, _, ?_, ⟨_, t + 1, w2, x0, x1, x2, w1, x4, x5, x6, rfl, rfl, rfl, rfl, ⟨by assumption, hK, hH, hg0, hg1, by omega, hw2, hx0, hx1, hx2, hw1, hx4, hx5, hx6⟩⟩⟩
   ·
    omega
   exact z5_
  refine J.exit ?_
  refine Kp [2, 4, 14, 15, 16, 17, 18, 19, 20, 21] rfl ?_
  refine Sr ?_
  refine Ru 8 rfl ?_
  refine JL.lit1 ap_66 zr_63 rfl rfl rfl rfl rfl (fun b65 => ?_)
  refine JL.pubB (R := u64R) (sz := 1) (l := [UInt64.ofNat x0, UInt64.ofNat x1, UInt64.ofNat x2, UInt64.ofNat x3, UInt64.ofNat x4, UInt64.ofNat x5, UInt64.ofNat x6, UInt64.ofNat x7]) dl_ ((((((((((CellsR.one (elW hx0) rfl).append (CellsR.one (elW hx1) rfl)).append (CellsR.one (elW hx2) rfl)).append (CellsR.one (elW hx3) rfl)).append (CellsR.one (elW hx4) rfl)).append (CellsR.one (elW hx5) rfl)).append (CellsR.one (elW hx6) rfl)).append (CellsR.one (elW hx7) rfl)))) z7_ (fun h66 hle66 hNow => ?_)
  replace hK := hK.mono hle66
  replace hH := hH.mono hle66
  replace hg0 := hg0.mono hle66
  replace hg1 := hg1.mono hle66
  replace hh0 := hh0.mono hle66
  refine Ru 1 rfl ?_
  refine Nk [26, 2, 4] rfl ?_
  refine Sr ?_
  refine JL.row_nil 63 1 ?_
  refine Ru 1 rfl ?_
  refine JL.nil ?_
  refine J.seq ?_
  refine Sr ?_
  refine Ru 1 rfl ?_
  refine JL.nil ?_
  refine J.block ?_
  refine J.loop (fun t_ S_ h_ L_ => ∃ (g3 : Part) (vs : List UInt64) (av : Option Addr) (cv : Nat), t_ = 9 - vs.length ∧ S_ = [(2, .slice ha 8 hc), (4, .pointer (some ⟨b1, 0, none⟩)), (26, .slice (some ⟨b65, 0, none⟩) 8 8), (27, .slice av vs.length cv), (28, .int .i64 vs.length)] ∧ g3 = h_ ∧ L_ = [.row av cv 63 1 vs.length (c64 vs), .row (some ⟨gz, 0, none⟩) co 63 1 us.length (c64 us), .blk b1 99 (wayD sz f g0 g1 k0 k1 fc c0 c1 d0 d1)] ∧ (h.le g3 ∧ SlR u64R 1 g3 ha hc H ∧ SlR u64R 1 g3 (some ⟨b65, 0, none⟩) 8 [UInt64.ofNat x0, UInt64.ofNat x1, UInt64.ofNat x2, UInt64.ofNat x3, UInt64.ofNat x4, UInt64.ofNat x5, UInt64.ofNat x6, UInt64.ofNat x7] ∧ vs.length ≤ 8)) ⟨_, _, ?_, ⟨_, [], none, 0, rfl, rfl, rfl, rfl, ⟨by assumption, hH, hNow, by simp⟩⟩⟩ ?_
  ·
   exact z24_
  rintro _ _ _ _ ⟨g3, vs, av, cv, rfl, rfl, rfl, rfl, hh0, hH, hNow, hvl⟩
  refine J.seq ?_
  refine Sr ?_
  refine Ru 2 rfl ?_
  refine JL.nil ?_
  refine Cs rfl (fun hc67 => ?_) fun hc67 => ?_
  ·
   refine J.skip ?_
   refine J.seq ?_
   refine J.block ?_
   refine J.held ([.blk b1 99 (wayD sz f g0 g1 k0 k1 fc c0 c1 d0 d1)]) 15 mixed_ rfl (fun h00 => ?_)
   refine JH.take 0 rfl (by kernel_rfl) (by kernel_rfl) (by kernel_rfl) (fun _ _ _ _ hh => hh) (br_ h00) (RunV.move rfl) rfl ?_
   refine JH.take 1 rfl (by kernel_rfl) (by kernel_rfl) (by kernel_rfl) (fun _ _ _ _ hh => hh) (br_ h00) (RunV.ownA ag_99 rfl mm_ (by first | rfl)) rfl ?_
   refine JH.take 2 rfl (by kernel_rfl) (by kernel_rfl) (by kernel_rfl) (fun _ _ _ _ hh => hh) (br_ h00) (RunV.move rfl) rfl ?_
   refine JH.take 3 rfl (by kernel_rfl) (by kernel_rfl) (by kernel_rfl) (fun _ _ _ _ hh => hh) (br_ h00) (RunV.move rfl) rfl ?_
   refine JH.takeE 4 rfl (by kernel_rfl) (by kernel_rfl) (by kernel_rfl) (fun _ _ _ _ hh => hh) (br_ h00) (RunE.index (m := vs.length) sl_66 rfl rfl rfl hH hHl.symm (by omega)) rfl ?_
   rintro _ ⟨b68, o68, hi68, rfl, hE68⟩
   refine JH.takeE 5 rfl (by kernel_rfl) (by kernel_rfl) (by kernel_rfl) (fun _ _ _ _ hh => hh) (br_ h00) (RunE.partW ag_63 rfl (by assumption)) rfl ?_
   rintro _ ⟨n1, hn1, rfl⟩
   refine JH.take 6 rfl (by kernel_rfl) (by kernel_rfl) (by kernel_rfl) (fun _ _ _ _ hh => hh) (br_ h00) (RunV.move rfl) rfl ?_
   refine JH.take 7 rfl (by kernel_rfl) (by kernel_rfl) (by kernel_rfl) (fun _ _ _ _ hh => hh) (br_ h00) (RunV.move rfl) rfl ?_
   refine JH.takeE 8 rfl (by kernel_rfl) (by kernel_rfl) (by kernel_rfl) (fun _ _ _ _ hh => hh) (br_ h00) (RunE.index (m := vs.length) sl_66 rfl rfl rfl hNow rfl (by have hl8 : [UInt64.ofNat x0, UInt64.ofNat x1, UInt64.ofNat x2, UInt64.ofNat x3, UInt64.ofNat x4, UInt64.ofNat x5, UInt64.ofNat x6, UInt64.ofNat x7].length = 8 := rfl; omega)) rfl ?_
   rintro _ ⟨b70, o70, hi70, rfl, hE70⟩
   refine JH.takeE 9 rfl (by kernel_rfl) (by kernel_rfl) (by kernel_rfl) (fun _ _ _ _ hh => hh) (br_ h00) (RunE.partW ag_63 rfl (by assumption)) rfl ?_
   rintro _ ⟨n2, hn2, rfl⟩
   refine JH.takeE 10 rfl (by kernel_rfl) (by kernel_rfl) (by kernel_rfl) (fun _ _ _ _ hh => hh) (br_ h00) (RunE.addW rfl rfl) rfl ?_
   rintro _ ⟨q1, hq1, rfl⟩
   refine JH.all1 11 (by kernel_rfl) rfl ?_
   unfold One
   refine JL.callR ca_127 rfl (ycut_fn hq1) rfl ?_
   rintro _ h73 hle73 ⟨x, hx, rfl⟩
   replace hH := hH.mono hle73
   replace hNow := hNow.mono hle73
   replace hh0 := hh0.mono hle73
   refine JL.nil ⟨(br_ h00), ?_⟩
   refine JH.all1 12 (by kernel_rfl) rfl ?_
   unfold One
   refine JL.lit1 ap_66 zr_63 rfl rfl rfl rfl rfl (fun b74 => ?_)
   refine JL.nil ⟨(br_ h00), ?_⟩
   refine JH.all1 13 (by kernel_rfl) rfl ?_
   unfold One
   refine JL.append1 ap_66 rfl rfl (cells_lit64 rfl) rfl dl_ dl_ rfl ((elW hx)) z3_ rfl rfl (fun a75 c75 xs75 hC75 hN75 => ?_)
   obtain rfl := CellsR.u64 (l := vs ++ [UInt64.ofNat x]) (by assumption)
   refine JL.nil ⟨(br_ h00), ?_⟩
   refine JH.take 14 rfl (by kernel_rfl) (by kernel_rfl) (by kernel_rfl) (fun _ _ _ _ hh => hh) (br_ h00) (RunV.assign rfl) rfl ?_
   refine JH.done (by kernel_rfl) ?_
   refine Rg ?_
   refine Ru 1 rfl ?_
   refine JL.op ai_ rfl ?_
   refine Ru 1 rfl ?_
   refine JL.nil ?_
   refine ⟨_, ?_, _, ?_, ⟨_, vs ++ [UInt64.ofNat x], _, _, rfl, rfl, rfl, rfl, ⟨by assumption, hH, hNow, by simp; omega⟩⟩⟩
   ·
    simp; omega
   exact z24_
  have hv8 : vs.length = 8 := (by omega)
  refine J.exit ?_
  refine Kp [27] rfl ?_
  refine Sr ?_
  refine JL.pub (R := u64R) (l := vs) dl_ (cells_lit64 rfl) rfl (by omega) (fun hp hlep hSp => ?_)
  refine Ru 2 rfl ?_
  refine JL.nil ?_
  exact J.retR (RetV.one rfl rfl) ⟨_, _, vs, by rw [hv8], hSp, hv8⟩
theorem ways384 {h : Part} : FnR Tryz.prog 81 [.int .i64 384] h (fun v h' => ∃ f fc g0 c0 g1 c1 k0 d0 k1 d1 F, v = .agg (wayD 48 f g0 g1 k0 k1 fc c0 c1 d0 d1).toArray ∧ SlR u64R 1 h' f fc F ∧ F.length = 8 ∧ SlR u64R 1 h' g0 c0 [28, 34, 39] ∧ SlR u64R 1 h' g1 c1 [14, 18, 41] ∧ SlR u64R 1 h' k0 d0 [1, 8, 7] ∧ SlR u64R 1 h' k1 d1 [19, 61, 6]) := by
  have hsl : sq16.length = 16 := rfl
  refine Fn.intro Tryz.func81 rfl Tryz.ntmps81 rfl (fun e he => ?_)
  refine J.weak [(0, _)] ⟨rfl, trivial⟩ ?_
  have hh0 := Part.le.refl h
  refine Sr ?_
  refine JL.alloc zr_99 rfl (fun b1 => ?_)
  refine JL.nil ?_
  refine Sr ?_
  refine JL.callR ca_118 rfl (squares_fn) rfl ?_
  rintro _ h2 hle2 ⟨sa, sc, rfl, hQ⟩
  replace hh0 := hh0.mono hle2
  refine Ru 1 rfl ?_
  refine JL.nil ?_
  refine J.seq ?_
  refine Sr ?_
  refine Ru 2 rfl ?_
  refine JL.nil ?_
  refine Cs rfl (fun hc3 => ?_) fun hc3 => ?_
  ·
   exfalso; cases hc3
  refine J.skip ?_
  refine Sr ?_
  refine JL.lit1 ap_97 zr_93 rfl rfl rfl rfl rfl (fun b4 => ?_)
  refine JL.pubB (R := u64R) (sz := 1) (l := [28, 34, 39]) dl_ ((cells_lit64 (by kernel_rfl))) z7_ (fun h5 hle5 hB0 => ?_)
  replace hh0 := hh0.mono hle5
  replace hQ := hQ.mono hle5
  refine JL.lit1 ap_97 zr_93 rfl rfl rfl rfl rfl (fun b6 => ?_)
  refine JL.pubB (R := u64R) (sz := 1) (l := [14, 18, 41]) dl_ ((cells_lit64 (by kernel_rfl))) z7_ (fun h7 hle7 hB1 => ?_)
  replace hh0 := hh0.mono hle7
  replace hQ := hQ.mono hle7
  replace hB0 := hB0.mono hle7
  refine JL.lit1 ap_97 zr_93 rfl rfl rfl rfl rfl (fun b8 => ?_)
  refine JL.pubB (R := u64R) (sz := 1) (l := [1, 8, 7]) dl_ ((cells_lit64 (by kernel_rfl))) z7_ (fun h9 hle9 hL0 => ?_)
  replace hh0 := hh0.mono hle9
  replace hQ := hQ.mono hle9
  replace hB0 := hB0.mono hle9
  replace hB1 := hB1.mono hle9
  refine JL.lit1 ap_97 zr_93 rfl rfl rfl rfl rfl (fun b10 => ?_)
  refine JL.pubB (R := u64R) (sz := 1) (l := [19, 61, 6]) dl_ ((cells_lit64 (by kernel_rfl))) z7_ (fun h11 hle11 hL1 => ?_)
  replace hh0 := hh0.mono hle11
  replace hQ := hQ.mono hle11
  replace hB0 := hB0.mono hle11
  replace hB1 := hB1.mono hle11
  replace hL0 := hL0.mono hle11
  refine JL.op (RunV.build (cs := [_, _, .slice none 0 0, _, _, _, _, .int .i64 0]) pl_99 rfl rfl) rfl ?_
  refine JL.alloc zr_99 rfl (fun b12 => ?_)
  refine JL.storeA ag_99 rfl rfl dl_ (by first | rfl) z43_ (by first | rfl) ?_
  refine Nk [6, 3, 2, 0] rfl ?_
  refine J.seq ?_
  refine Sr ?_
  refine Ru 2 rfl ?_
  refine JL.nil ?_
  refine Cs rfl (fun hc13 => ?_) fun hc13 => ?_
  rotate_left
  ·
   exfalso; exact hc13 rfl
  refine Sr ?_
  refine Ru 1 rfl ?_
  refine JL.store1 ag_3 rfl rfl rfl dl_ z32_ ?_
  refine JL.nil ?_
  refine Rg ?_
  refine Ru 1 rfl ?_
  refine JL.ope (RunE.cut_l (m := 8) sl_66 rfl rfl rfl hQ rfl (by omega)) rfl ?_
  rintro _ ⟨qa, qc, rfl, hS⟩
  refine Ru 1 rfl ?_
  refine JL.store1 ag_66 rfl rfl rfl dl_ z32_ ?_
  refine Nk [6, 3, 2, 0] rfl ?_
  refine J.seq ?_
  refine Sr ?_
  refine Ru 2 rfl ?_
  refine JL.nil ?_
  refine Cs rfl (fun hc15 => ?_) fun hc15 => ?_
  ·
   exfalso; cases hc15
  refine J.skip ?_
  refine Kp [6, 2] rfl ?_
  refine Sr ?_
  refine JL.op (RunV.ownA ag_99 rfl mm_ (by first | rfl)) rfl ?_
  refine JL.storeA ag_99 rfl rfl dl_ (by first | rfl) z43_ (by first | rfl) ?_
  refine JL.nil ?_
  exact J.retR (RetV.cell rfl rfl ag_99 mm_ (by first | rfl)) ⟨_, _, _, _, _, _, _, _, _, _, sq16.drop 8, rfl, hS, rfl, hB0, hB1, hL0, hL1⟩
theorem ways512 {h : Part} : FnR Tryz.prog 81 [.int .i64 512] h (fun v h' => ∃ f fc g0 c0 g1 c1 k0 d0 k1 d1 F, v = .agg (wayD 64 f g0 g1 k0 k1 fc c0 c1 d0 d1).toArray ∧ SlR u64R 1 h' f fc F ∧ F.length = 8 ∧ SlR u64R 1 h' g0 c0 [28, 34, 39] ∧ SlR u64R 1 h' g1 c1 [14, 18, 41] ∧ SlR u64R 1 h' k0 d0 [1, 8, 7] ∧ SlR u64R 1 h' k1 d1 [19, 61, 6]) := by
  have hsl : sq16.length = 16 := rfl
  refine Fn.intro Tryz.func81 rfl Tryz.ntmps81 rfl (fun e he => ?_)
  refine J.weak [(0, _)] ⟨rfl, trivial⟩ ?_
  have hh0 := Part.le.refl h
  refine Sr ?_
  refine JL.alloc zr_99 rfl (fun b1 => ?_)
  refine JL.nil ?_
  refine Sr ?_
  refine JL.callR ca_118 rfl (squares_fn) rfl ?_
  rintro _ h2 hle2 ⟨sa, sc, rfl, hQ⟩
  replace hh0 := hh0.mono hle2
  refine Ru 1 rfl ?_
  refine JL.nil ?_
  refine J.seq ?_
  refine Sr ?_
  refine Ru 2 rfl ?_
  refine JL.nil ?_
  refine Cs rfl (fun hc3 => ?_) fun hc3 => ?_
  ·
   exfalso; cases hc3
  refine J.skip ?_
  refine Sr ?_
  refine JL.lit1 ap_97 zr_93 rfl rfl rfl rfl rfl (fun b4 => ?_)
  refine JL.pubB (R := u64R) (sz := 1) (l := [28, 34, 39]) dl_ ((cells_lit64 (by kernel_rfl))) z7_ (fun h5 hle5 hB0 => ?_)
  replace hh0 := hh0.mono hle5
  replace hQ := hQ.mono hle5
  refine JL.lit1 ap_97 zr_93 rfl rfl rfl rfl rfl (fun b6 => ?_)
  refine JL.pubB (R := u64R) (sz := 1) (l := [14, 18, 41]) dl_ ((cells_lit64 (by kernel_rfl))) z7_ (fun h7 hle7 hB1 => ?_)
  replace hh0 := hh0.mono hle7
  replace hQ := hQ.mono hle7
  replace hB0 := hB0.mono hle7
  refine JL.lit1 ap_97 zr_93 rfl rfl rfl rfl rfl (fun b8 => ?_)
  refine JL.pubB (R := u64R) (sz := 1) (l := [1, 8, 7]) dl_ ((cells_lit64 (by kernel_rfl))) z7_ (fun h9 hle9 hL0 => ?_)
  replace hh0 := hh0.mono hle9
  replace hQ := hQ.mono hle9
  replace hB0 := hB0.mono hle9
  replace hB1 := hB1.mono hle9
  refine JL.lit1 ap_97 zr_93 rfl rfl rfl rfl rfl (fun b10 => ?_)
  refine JL.pubB (R := u64R) (sz := 1) (l := [19, 61, 6]) dl_ ((cells_lit64 (by kernel_rfl))) z7_ (fun h11 hle11 hL1 => ?_)
  replace hh0 := hh0.mono hle11
  replace hQ := hQ.mono hle11
  replace hB0 := hB0.mono hle11
  replace hB1 := hB1.mono hle11
  replace hL0 := hL0.mono hle11
  refine JL.op (RunV.build (cs := [_, _, .slice none 0 0, _, _, _, _, .int .i64 0]) pl_99 rfl rfl) rfl ?_
  refine JL.alloc zr_99 rfl (fun b12 => ?_)
  refine JL.storeA ag_99 rfl rfl dl_ (by first | rfl) z43_ (by first | rfl) ?_
  refine Nk [6, 3, 2, 0] rfl ?_
  refine J.seq ?_
  refine Sr ?_
  refine Ru 2 rfl ?_
  refine JL.nil ?_
  refine Cs rfl (fun hc13 => ?_) fun hc13 => ?_
  ·
   exfalso; cases hc13
  refine J.skip ?_
  refine J.seq ?_
  refine Sr ?_
  refine Ru 2 rfl ?_
  refine Nk [42, 6, 3, 2] rfl ?_
  refine Cs rfl (fun hc14 => ?_) fun hc14 => ?_
  rotate_left
  ·
   exfalso; exact hc14 rfl
  refine Sr ?_
  refine Ru 1 rfl ?_
  refine JL.store1 ag_3 rfl rfl rfl dl_ z32_ ?_
  refine JL.nil ?_
  refine Rg ?_
  refine Ru 1 rfl ?_
  refine JL.ope (RunE.cut_h (m := 8) sl_66 rfl rfl rfl hQ rfl (by omega)) rfl ?_
  rintro _ ⟨qa, qc, rfl, hS⟩
  refine Ru 1 rfl ?_
  refine JL.store1 ag_66 rfl rfl rfl dl_ z32_ ?_
  refine Nk [6, 2] rfl ?_
  refine Sr ?_
  refine JL.op (RunV.ownA ag_99 rfl mm_ (by first | rfl)) rfl ?_
  refine JL.storeA ag_99 rfl rfl dl_ (by first | rfl) z43_ (by first | rfl) ?_
  refine JL.nil ?_
  exact J.retR (RetV.cell rfl rfl ag_99 mm_ (by first | rfl)) ⟨_, _, _, _, _, _, _, _, _, _, sq16.take 8, rfl, hS, rfl, hB0, hB1, hL0, hL1⟩
theorem waysB {hash : Int} {sz : Nat} {h : Part} (hw : (hash = 384 ∧ sz = 48) ∨ (hash = 512 ∧ sz = 64)) : FnR Tryz.prog 81 [.int .i64 hash] h (fun v h' => ∃ f fc g0 c0 g1 c1 k0 d0 k1 d1 F, v = .agg (wayD sz f g0 g1 k0 k1 fc c0 c1 d0 d1).toArray ∧ SlR u64R 1 h' f fc F ∧ F.length = 8 ∧ SlR u64R 1 h' g0 c0 [28, 34, 39] ∧ SlR u64R 1 h' g1 c1 [14, 18, 41] ∧ SlR u64R 1 h' k0 d0 [1, 8, 7] ∧ SlR u64R 1 h' k1 d1 [19, 61, 6]) := by
  rcases hw with ⟨rfl, rfl⟩ | ⟨rfl, rfl⟩
  · exact ways384
  · exact ways512
theorem ydigest_fn {sz : Nat} {hash : Int} (hw : (hash = 384 ∧ sz = 48) ∨ (hash = 512 ∧ sz = 64)) {a : Option Addr} {c : Nat} {l : List UInt8} {h : Part} (hl : SlR u8R 1 h a c l) (hll : l.length ≤ 1000000) : FnR Tryz.prog 55 [.int .i64 hash, .slice a l.length c] h (fun v h' => ∃ a c out, v = .tuple #[.slice a sz c, .int .i64 0] ∧ SlR u8R 1 h' a c out ∧ out.length = sz) := by
  have hcl : cub80.length = 80 := rfl
  refine Fn.intro Tryz.func55 rfl Tryz.ntmps55 rfl (fun e he => ?_)
  refine J.weak [(0, _), (1, _)] ⟨rfl, rfl, trivial⟩ ?_
  have hh0 := Part.le.refl h
  refine Sr ?_
  refine Ru 2 rfl ?_
  refine JL.nil ?_
  refine Sr ?_
  refine Ru 1 rfl ?_
  refine JL.callR ca_81 rfl (waysB hw) rfl ?_
  rintro _ h1 hle1 ⟨f, fc, g0, c0, g1, c1, k0, d0, k1, d1, F, rfl, hF, hFl, hg0, hg1, hk0, hk1⟩
  replace hl := hl.mono hle1
  replace hh0 := hh0.mono hle1
  refine JL.alloc zr_99 rfl (fun b2 => ?_)
  refine JL.storeA ag_99 rfl rfl dl_ (by first | rfl) z43_ (by first | rfl) ?_
  refine JL.nil ?_
  refine J.seq ?_
  refine Sr ?_
  refine Ru 1 rfl ?_
  refine JL.op (RunV.own1 ag_3 rfl mm_ rfl) rfl ?_
  refine Ru 1 rfl ?_
  refine Nk [19, 6, 5, 4, 1] rfl ?_
  refine Cs rfl (fun hc3 => ?_) fun hc3 => ?_
  ·
   exfalso; omega
  refine J.skip ?_
  refine Sr ?_
  refine JL.callR ca_94 rfl (cubes_fn) rfl ?_
  rintro _ h4 hle4 ⟨ka, kc, rfl, hK⟩
  replace hl := hl.mono hle4
  replace hh0 := hh0.mono hle4
  replace hF := hF.mono hle4
  replace hg0 := hg0.mono hle4
  replace hg1 := hg1.mono hle4
  replace hk0 := hk0.mono hle4
  replace hk1 := hk1.mono hle4
  refine Ru 1 rfl ?_
  refine JL.nil ?_
  refine Sr ?_
  refine Ru 1 rfl ?_
  refine JL.op (RunV.own1 ag_66 rfl mm_ rfl) rfl ?_
  refine Ru 1 rfl ?_
  refine Nk [8, 7, 6, 5, 4, 1] rfl ?_
  refine Sr ?_
  refine JL.op (RunV.ownA ag_99 rfl mm_ (by first | rfl)) rfl ?_
  refine Ru 1 rfl ?_
  refine JL.callR ca_95 rfl (ypad_fn hl hll) rfl ?_
  rintro _ h5 hle5 ⟨pa, pc, P, rfl, hP, hPm, hPl⟩
  replace hl := hl.mono hle5
  replace hh0 := hh0.mono hle5
  replace hF := hF.mono hle5
  replace hg0 := hg0.mono hle5
  replace hg1 := hg1.mono hle5
  replace hk0 := hk0.mono hle5
  replace hk1 := hk1.mono hle5
  replace hK := hK.mono hle5
  refine Ru 1 rfl ?_
  refine JL.nil ?_
  refine Sr ?_
  refine Ru 1 rfl ?_
  refine JL.op (RunV.own1 ag_93 rfl mm_ rfl) rfl ?_
  refine JL.op z34_ rfl ?_
  refine JL.op z10_ rfl ?_
  refine Ru 1 rfl ?_
  refine Nk [10, 9, 8, 7, 6, 5, 4] rfl ?_
  refine J.seq ?_
  refine Sr ?_
  refine Ru 1 rfl ?_
  refine JL.nil ?_
  refine J.block ?_
  refine J.loop (fun t_ S_ h_ L_ => ∃ (g : Part) (i : Nat) (ha : Option Addr) (hc : Nat) (H : List UInt64), t_ = 1200000 - i ∧ S_ = [(6, .pointer (some ⟨b2, 0, none⟩)), (7, .slice ka 80 kc), (8, .slice ha 8 hc), (9, .slice pa P.length pc), (10, .int .i64 128), (11, .int .i64 i)] ∧ g = h_ ∧ L_ = [.blk b2 99 (wayD sz f g0 g1 k0 k1 fc c0 c1 d0 d1)] ∧ (h.le g ∧ SlR u64R 1 g g0 c0 [28, 34, 39] ∧ SlR u64R 1 g g1 c1 [14, 18, 41] ∧ SlR u64R 1 g k0 d0 [1, 8, 7] ∧ SlR u64R 1 g k1 d1 [19, 61, 6] ∧ SlR u64R 1 g ka kc cub80 ∧ SlR u8R 1 g pa pc P ∧ SlR u64R 1 g ha hc H ∧ H.length = 8 ∧ i % 128 = 0 ∧ i ≤ P.length)) ⟨_, _, ?_, ⟨_, 0, _, _, F, rfl, rfl, rfl, rfl, ⟨hh0, hg0, hg1, hk0, hk1, hK, hP, hF, hFl, by omega, by omega⟩⟩⟩ ?_
  ·
   exact z5_
  rintro _ _ _ _ ⟨g, i, ha, hc, H, rfl, rfl, rfl, rfl, hh0, hg0, hg1, hk0, hk1, hK, hP, hH, hHl, hi, hiP⟩
  refine J.seq ?_
  refine Sr ?_
  refine Ru 4 rfl ?_
  refine JL.nil ?_
  refine Cs rfl (fun hc6 => ?_) fun hc6 => ?_
  ·
   refine J.skip ?_
   refine J.seq ?_
   refine J.block ?_
   refine J.held ([.blk b2 99 (wayD sz f g0 g1 k0 k1 fc c0 c1 d0 d1)]) 11 mixed_ rfl (fun h00 => ?_)
   refine JH.take 0 rfl (by kernel_rfl) (by kernel_rfl) (by kernel_rfl) (fun _ _ _ _ hh => hh) (br_ h00) (RunV.ownA ag_99 rfl mm_ (by first | rfl)) rfl ?_
   refine JH.take 1 rfl (by kernel_rfl) (by kernel_rfl) (by kernel_rfl) (fun _ _ _ _ hh => hh) (br_ h00) (RunV.move rfl) rfl ?_
   refine JH.take 2 rfl (by kernel_rfl) (by kernel_rfl) (by kernel_rfl) (fun _ _ _ _ hh => hh) (br_ h00) (RunV.move rfl) rfl ?_
   refine JH.take 3 rfl (by kernel_rfl) (by kernel_rfl) (by kernel_rfl) (fun _ _ _ _ hh => hh) (br_ h00) (RunV.move rfl) rfl ?_
   refine JH.take 4 rfl (by kernel_rfl) (by kernel_rfl) (by kernel_rfl) (fun _ _ _ _ hh => hh) (br_ h00) (RunV.move rfl) rfl ?_
   refine JH.take 5 rfl (by kernel_rfl) (by kernel_rfl) (by kernel_rfl) (fun _ _ _ _ hh => hh) (br_ h00) (RunV.move rfl) rfl ?_
   refine JH.take 6 rfl (by kernel_rfl) (by kernel_rfl) (by kernel_rfl) (fun _ _ _ _ hh => hh) (br_ h00) (RunV.move rfl) rfl ?_
   refine JH.take 7 rfl (by kernel_rfl) (by kernel_rfl) (by kernel_rfl) (fun _ _ _ _ hh => hh) (br_ h00) ai_ rfl ?_
   refine JH.takeE 8 rfl (by kernel_rfl) (by kernel_rfl) (by kernel_rfl) (fun _ _ _ _ hh => hh) (br_ h00) (RunE.cut_lh (m := i) (m' := i + 128) sl_22 rfl rfl rfl rfl (by omega) hP rfl (by omega) (by omega)) rfl ?_
   rintro _ ⟨qa, qc, rfl, hS⟩
   obtain ⟨Q, hQe⟩ : ∃ Q, Q = (P.drop i).take (i + 128 - i) := ⟨_, rfl⟩; rw [← hQe] at hS ⊢; have hQl : Q.length = 128 := (by rw [hQe]; simp; omega); rw [hQl]
   refine JH.all1 9 (by kernel_rfl) rfl ?_
   unfold One
   refine JL.callR ca_96 rfl (yblock_fn hK rfl hH hHl hS hQl hg0 hg1 hk0 hk1) rfl ?_
   rintro _ h8 hle8 ⟨na, nc, NH, rfl, hNH, hNl⟩
   replace hh0 := hh0.mono hle8
   replace hg0 := hg0.mono hle8
   replace hg1 := hg1.mono hle8
   replace hk0 := hk0.mono hle8
   replace hk1 := hk1.mono hle8
   replace hK := hK.mono hle8
   replace hP := hP.mono hle8
   replace hH := hH.mono hle8
   refine JL.nil ⟨(br_ h00), ?_⟩
   refine JH.take 10 rfl (by kernel_rfl) (by kernel_rfl) (by kernel_rfl) (fun _ _ _ _ hh => hh) (br_ h00) (RunV.assign rfl) rfl ?_
   refine JH.done (by kernel_rfl) ?_
   refine Rg ?_
   refine Ru 2 rfl ?_
   refine JL.op ai_ rfl ?_
   refine Ru 1 rfl ?_
   refine JL.nil ?_
   refine ⟨_, ?_, _, ?_, ⟨_, i + 128, _, _, NH, rfl, rfl, rfl, rfl, ⟨by assumption, hg0, hg1, hk0, hk1, hK, hP, hNH, hNl, by omega, by omega⟩⟩⟩
   ·
    omega
   exact z5_
  refine J.exit ?_
  refine Kp [6, 8] rfl ?_
  refine Sr ?_
  refine Ru 1 rfl ?_
  refine JL.nil ?_
  refine J.seq ?_
  refine Sr ?_
  refine JL.row_nil 5 1 ?_
  refine Ru 1 rfl ?_
  refine JL.nil ?_
  refine J.block ?_
  refine J.loop (fun t_ S_ h_ L_ => ∃ (i : Nat) (out : List UInt8) (ao : Option Addr) (co : Nat), t_ = 9 - i ∧ S_ = [(6, .pointer (some ⟨b2, 0, none⟩)), (8, .slice ha 8 hc), (12, .slice ao out.length co), (13, .int .i64 i)] ∧ g = h_ ∧ L_ = [.row ao co 5 1 out.length (u8s out), .blk b2 99 (wayD sz f g0 g1 k0 k1 fc c0 c1 d0 d1)] ∧ (i ≤ 8 ∧ out.length = 8 * i)) ⟨_, _, ?_, ⟨0, [], none, 0, rfl, rfl, rfl, rfl, ⟨by omega, rfl⟩⟩⟩ ?_
  ·
   exact z5_
  rintro _ _ _ _ ⟨i, out, ao, co, rfl, rfl, rfl, rfl, hi2, hol⟩
  refine J.seq ?_
  refine Sr ?_
  refine Ru 2 rfl ?_
  refine JL.nil ?_
  refine Cs rfl (fun hc9 => ?_) fun hc9 => ?_
  ·
   refine J.skip ?_
   refine J.seq ?_
   refine J.block ?_
   refine Sr ?_
   refine Ru 1 rfl ?_
   refine JL.op (RunV.own1 ag_93 rfl mm_ rfl) rfl ?_
   refine JL.op z34_ rfl ?_
   refine JL.op si_ rfl ?_
   refine Ru 1 rfl ?_
   refine JL.nil ?_
   refine J.block ?_
   refine J.loop (fun t_ S_ h_ L_ => ∃ (j : Nat) (out : List UInt8) (ao : Option Addr) (co : Nat), t_ = j + 1 ∧ S_ = [(6, .pointer (some ⟨b2, 0, none⟩)), (8, .slice ha 8 hc), (12, .slice ao out.length co), (13, .int .i64 i), (14, .int .i64 (8 * (j : Int) - 8))] ∧ g = h_ ∧ L_ = [.row ao co 5 1 out.length (u8s out), .blk b2 99 (wayD sz f g0 g1 k0 k1 fc c0 c1 d0 d1)] ∧ (j ≤ 8 ∧ out.length + j = 8 * (i + 1))) ⟨_, _, ?_, ⟨8, _, _, _, rfl, rfl, rfl, rfl, ⟨by omega, by omega⟩⟩⟩ ?_
   ·
    exact z2_
   rintro _ _ _ _ ⟨j, out, ao, co, rfl, rfl, rfl, rfl, hj, hoj⟩
   refine J.seq ?_
   refine Sr ?_
   refine Ru 2 rfl ?_
   refine JL.nil ?_
   refine Cs rfl (fun hc10 => ?_) fun hc10 => ?_
   ·
    obtain ⟨z, rfl⟩ : ∃ z, j = z + 1 := ⟨j - 1, by omega⟩
    refine J.skip ?_
    refine J.seq ?_
    refine J.block ?_
    refine Rg ?_
    refine Ru 3 rfl ?_
    refine JL.ope (RunE.index (m := i) sl_66 rfl rfl rfl hH hHl.symm (by omega)) rfl ?_
    rintro _ ⟨b11, o11, hi11, rfl, hE11⟩
    refine JL.ope (RunE.partW ag_63 rfl (by assumption)) rfl ?_
    rintro _ ⟨x, hx, rfl⟩
    refine Ru 1 rfl ?_
    refine JL.op z41_ rfl ?_
    refine JL.ope (RunE.shrW hx rfl rfl (by omega) (by omega)) rfl ?_
    rintro _ ⟨y, hy, rfl⟩
    refine JL.op (RunV.toByte y cv_63_5 rfl rfl) rfl ?_
    refine JL.lit1 ap_22 zr_5 rfl rfl rfl rfl rfl (fun b14 => ?_)
    refine JL.append1 ap_22 rfl rfl CellsR.of_u8 rfl dl_ dl_ rfl (rfl) z3_ rfl rfl (fun a15 c15 xs15 hC15 hN15 => ?_)
    obtain rfl := hC15.u8
    refine Ru 1 rfl ?_
    refine JL.nil ?_
    refine Rg ?_
    refine Ru 1 rfl ?_
    refine JL.op si_ rfl ?_
    refine Ru 1 rfl ?_
    refine JL.nil ?_
    refine ⟨_, ?_, _, ?_, ⟨z, _, _, _, rfl, rfl, rfl, rfl, ⟨by omega, by simp; omega⟩⟩⟩
    ·
     omega
    exact z2_
   refine J.exit ?_
   refine Rg ?_
   refine Ru 1 rfl ?_
   refine JL.op ai_ rfl ?_
   refine Ru 1 rfl ?_
   refine JL.nil ?_
   refine ⟨_, ?_, _, ?_, ⟨i + 1, _, _, _, rfl, rfl, rfl, rfl, ⟨by omega, by omega⟩⟩⟩
   ·
    omega
   exact z5_
  have ho32 : out.length = 64 := (by omega)
  refine J.exit ?_
  refine Kp [6, 12] rfl ?_
  refine Sr ?_
  refine JL.pub (R := u8R) (l := out) dl_ CellsR.of_u8 rfl (by omega) (fun hp hlep hSp => ?_)
  refine Ru 2 rfl ?_
  refine JL.op (RunV.own1 ag_3 rfl mm_ rfl) rfl ?_
  refine JL.ope (RunE.cut_h (m := sz) sl_22 rfl rfl rfl hSp rfl (by omega)) rfl ?_
  rintro _ ⟨za, zc, rfl, hZ⟩
  have hz32 : (out.take sz).length = sz := (by rw [List.length_take]; omega); rw [hz32]
  refine Ru 2 rfl ?_
  refine Nk [5, 4] rfl ?_
  exact J.retR (RetV.two rfl rfl rfl) ⟨_, _, out.take sz, rfl, hZ, hz32⟩
end Go.Proofs.YtmngjbefnloljaaGreatDoor
namespace Go.Proofs.YtmngjbefnloljaaGreatDoor
open Go Go.RowKit
set_option maxRecDepth 100000
theorem ap_70 : apT Tryz.prog 70 = some (3, 1, 8) := by kernel_rfl
theorem ca_24 : callT Tryz.prog 24 = true := by kernel_rfl
theorem ca_26 : callT Tryz.prog 26 = true := by kernel_rfl
theorem sl_70 : slT Tryz.prog 70 = some (3, 1) := by kernel_rfl
theorem hone_fn {k : Int} {h : Part} (h0 : -9223372036854775808 ≤ k) (h1 : k ≤ 9223372036854775807) : FnR Tryz.prog 24 [.int .i64 k] h (fun v _ => ∃ z, v = .int .i64 z ∧ someH z) := by
  obtain ⟨g0, g1⟩ := amongI_bd k 3 (by decide)
  obtain ⟨m, hm⟩ : ∃ m : Nat, amongI k 3 = (m : Int) := ⟨(amongI k 3).toNat, by omega⟩
  have hlen : ([256, 384, 512] : List Int).length = 3 := rfl
  refine Fn.intro Tryz.func24 rfl Tryz.ntmps24 rfl (fun e he => ?_)
  refine J.weak [(0, _)] ⟨rfl, trivial⟩ ?_
  have hh0 := Part.le.refl h
  refine Sr ?_
  refine Ru 1 rfl ?_
  refine JL.nil ?_
  refine Sr ?_
  refine JL.lit1 ap_70 zr_3 rfl rfl rfl rfl rfl (fun b1 => ?_)
  refine JL.pubB (R := i64R) (sz := 1) (l := ([256, 384, 512] : List Int)) dl_ ((((CellsR.one (R := i64R) (x := 256) rfl rfl).append (CellsR.one (R := i64R) (x := 384) rfl rfl)).append (CellsR.one (R := i64R) (x := 512) rfl rfl))) z7_ (fun h2 hle2 hQ => ?_)
  replace hh0 := hh0.mono hle2
  refine Ru 1 rfl ?_
  refine JL.callP ca_50 rfl (among_fn _ _ _ (by omega) (by omega) (by omega)) rfl ?_
  rw [hm]
  refine JL.ope (RunE.index (m := m) sl_70 rfl rfl rfl hQ rfl (by omega)) rfl ?_
  rintro _ ⟨b4, o4, hi4, rfl, hE4⟩
  refine JL.op (RunV.ld_i64 ag_3 rfl (by assumption)) rfl ?_
  refine Ru 1 rfl ?_
  refine Nk [2] rfl ?_
  exact J.retR (RetV.one rfl rfl) ⟨_, rfl, by
    have : m = 0 ∨ m = 1 ∨ m = 2 := by omega
    rcases this with rfl | rfl | rfl
    · exact .inl rfl
    · exact .inr (.inl rfl)
    · exact .inr (.inr rfl)⟩
theorem anydig_fn {hash : Int} {a : Option Addr} {c : Nat} {l : List UInt8} {h : Part} (hn : someH hash) (hl : SlR u8R 1 h a c l) (hll : l.length ≤ 1000000) : FnR Tryz.prog 55 [.int .i64 hash, .slice a l.length c] h (fun v h' => ∃ a c out, v = .tuple #[.slice a (List.length out) c, .int .i64 0] ∧ SlR u8R 1 h' a c out ∧ (out.length : Int) = hash / 8) := by
  rcases hn with rfl | rfl | rfl
  · refine (wdigest_fn hl hll).mono fun v h' _ hh => ?_
    obtain ⟨a', c', out, rfl, hS, ho⟩ := hh
    exact ⟨a', c', out, by rw [ho], hS, by rw [ho]; rfl⟩
  · refine (ydigest_fn (sz := 48) (.inl ⟨rfl, rfl⟩) hl hll).mono fun v h' _ hh => ?_
    obtain ⟨a', c', out, rfl, hS, ho⟩ := hh
    exact ⟨a', c', out, by rw [ho], hS, by rw [ho]; rfl⟩
  · refine (ydigest_fn (sz := 64) (.inr ⟨rfl, rfl⟩) hl hll).mono fun v h' _ hh => ?_
    obtain ⟨a', c', out, rfl, hS, ho⟩ := hh
    exact ⟨a', c', out, by rw [ho], hS, by rw [ho]; rfl⟩
theorem hdigest_fn {hash : Int} {a : Option Addr} {c : Nat} {l : List UInt8} {h : Part} (hn : someH hash) (hl : SlR u8R 1 h a c l) : FnR Tryz.prog 20 [.int .i64 hash, .slice a l.length c] h (fun v h' => ∃ a c out, v = .slice a (List.length out) c ∧ SlR u8R 1 h' a c out ∧ (out.length : Int) = hash / 8) := by
  have hlb := hl.big
  refine Fn.intro Tryz.func20 rfl Tryz.ntmps20 rfl (fun e he => ?_)
  refine J.weak [(0, _), (1, _)] ⟨rfl, rfl, trivial⟩ ?_
  have hh0 := Part.le.refl h
  refine Sr ?_
  refine Ru 1 rfl ?_
  refine JL.nil ?_
  refine J.seq ?_
  refine Sr ?_
  refine Ru 3 rfl ?_
  refine JL.nil ?_
  refine Cs rfl (fun hc1 => ?_) fun hc1 => ?_
  ·
   refine Rg ?_
   refine Ru 1 rfl ?_
   refine JL.ope (RunE.cut_h (m := 300) sl_22 rfl rfl rfl hl rfl (by omega)) rfl ?_
   rintro _ ⟨qa, qc, rfl, hS⟩
   refine Ru 1 rfl ?_
   refine Nk [1, 4, 0] rfl ?_
   refine Sr ?_
   refine Ru 2 rfl ?_
   refine JL.callR ca_55 rfl (anydig_fn hn (by assumption) (by (try rw [List.length_take]); omega)) rfl ?_
   rintro _ h3 hle3 ⟨da, dc, out, rfl, hD, hDl⟩
   replace hl := hl.mono hle3
   replace hh0 := hh0.mono hle3
   refine Ru 5 rfl ?_
   refine Nk [5, 4] rfl ?_
   refine Sr ?_
   refine Ru 2 rfl ?_
   refine JL.nil ?_
   exact J.retR (RetV.one rfl rfl) ⟨_, _, out, rfl, hD, hDl⟩
  refine J.skip ?_
  refine Sr ?_
  refine Ru 2 rfl ?_
  refine JL.callR ca_55 rfl (anydig_fn hn (by assumption) (by (try rw [List.length_take]); omega)) rfl ?_
  rintro _ h4 hle4 ⟨da, dc, out, rfl, hD, hDl⟩
  replace hl := hl.mono hle4
  replace hh0 := hh0.mono hle4
  refine Ru 5 rfl ?_
  refine Nk [5, 4] rfl ?_
  refine Sr ?_
  refine Ru 2 rfl ?_
  refine JL.nil ?_
  exact J.retR (RetV.one rfl rfl) ⟨_, _, out, rfl, hD, hDl⟩
theorem rsaown_fn {k k2 q : Int} {a : Option Addr} {c : Nat} {b : List UInt8} {h : Part} (hb : SlR u8R 1 h a c b) (hk0 : -9223372036854775808 ≤ k) (hk1 : k ≤ 9223372036854775807) (hj0 : -9223372036854775808 ≤ k2) (hj1 : k2 ≤ 9223372036854775807) (hq0 : -9223372036854775808 ≤ q) (hq1 : q ≤ 9223372036854775807) (hT : Tabs h) :
    Pure Tryz.prog 7 [.int .i64 k, .int .i64 k2, .int .i64 q, .slice a b.length c] h (.bool true) := by
  refine Pure.ofV ?_
  obtain ⟨g0, g1⟩ := amongI_bd k 12 (by decide)
  obtain ⟨i, hi⟩ : ∃ i : Nat, i = (amongI k 12).toNat := ⟨_, rfl⟩
  have hi12 : i < 12 := by omega
  obtain ⟨g2, g3⟩ := amongI_bd k2 12 (by decide)
  obtain ⟨j, hj⟩ : ∃ j : Nat, j = (amongI k2 12).toNat := ⟨_, rfl⟩
  have hj12 : j < 12 := by omega
  obtain ⟨-, ⟨-, r3, -⟩, r5, r6, r7⟩ := kept_one hi12
  obtain ⟨-, -, t5, t6, t7⟩ := kept_one hj12
  refine Fn.intro Tryz.func7 rfl Tryz.ntmps7 rfl (fun e he => ?_)
  refine J.weak [(0, _), (1, _), (2, _), (3, _)] ⟨rfl, rfl, rfl, rfl, trivial⟩ ?_
  have hh0 := Part.le.refl h
  refine Sr ?_
  refine Ru 1 rfl ?_
  refine JL.nil ?_
  refine Sr ?_
  refine Ru 1 rfl ?_
  refine JL.callR ca_19 rfl (rkept_fn hk0 hk1) rfl ?_
  rintro _ h1 hle1 ⟨an1, cn1, ae1, ce1, ad1, cd1, rfl, hN1, hE1, hD1⟩
  replace hb := hb.mono hle1
  replace hT := hT.mono hle1
  replace hh0 := hh0.mono hle1
  rw [← hi] at hN1 hE1 hD1 ⊢
  refine Ru 1 rfl ?_
  refine JL.callR ca_19 rfl (rkept_fn hj0 hj1) rfl ?_
  rintro _ h2 hle2 ⟨an2, cn2, ae2, ce2, ad2, cd2, rfl, hN2, hE2, hD2⟩
  replace hb := hb.mono hle2
  replace hT := hT.mono hle2
  replace hh0 := hh0.mono hle2
  replace hN1 := hN1.mono hle2
  replace hE1 := hE1.mono hle2
  replace hD1 := hD1.mono hle2
  rw [← hj] at hN2 hE2 hD2 ⊢
  refine JL.alloc zr_32 rfl (fun b3 => ?_)
  refine JL.alloc zr_32 rfl (fun b4 => ?_)
  refine JL.storeA ag_32 rfl rfl dl_ (by first | rfl) z43_ (by first | rfl) ?_
  refine JL.storeA ag_32 rfl rfl dl_ (by first | rfl) z43_ (by first | rfl) ?_
  refine Nk [10, 9, 8, 2, 3] rfl ?_
  refine Sr ?_
  refine Ru 1 rfl ?_
  refine JL.callR ca_24 rfl (hone_fn hq0 hq1) rfl ?_
  rintro _ h5 hle5 ⟨z, rfl, hz⟩
  replace hb := hb.mono hle5
  replace hT := hT.mono hle5
  replace hh0 := hh0.mono hle5
  replace hN1 := hN1.mono hle5
  replace hE1 := hE1.mono hle5
  replace hD1 := hD1.mono hle5
  replace hN2 := hN2.mono hle5
  replace hE2 := hE2.mono hle5
  replace hD2 := hD2.mono hle5
  refine Ru 1 rfl ?_
  refine JL.nil ?_
  refine Sr ?_
  refine Ru 2 rfl ?_
  refine JL.callR ca_20 rfl (hdigest_fn hz hb) rfl ?_
  rintro _ h6 hle6 ⟨da, dc, dl, rfl, hD, hDl⟩
  replace hb := hb.mono hle6
  replace hT := hT.mono hle6
  replace hh0 := hh0.mono hle6
  replace hN1 := hN1.mono hle6
  replace hE1 := hE1.mono hle6
  replace hD1 := hD1.mono hle6
  replace hN2 := hN2.mono hle6
  replace hE2 := hE2.mono hle6
  replace hD2 := hD2.mono hle6
  have hdlb : dl.length ≤ 64 := (by unfold someH at hz; omega)
  refine Ru 1 rfl ?_
  refine Nk [12, 11, 10, 9, 8] rfl ?_
  refine Sr ?_
  refine JL.op (RunV.ownA ag_32 rfl mm_ (by first | rfl)) rfl ?_
  refine Ru 2 rfl ?_
  refine JL.callR ca_15 rfl (psign_fn (d := dl) hN1 hE1 hD1 hD hT (by omega) (by omega)) rfl ?_
  rintro _ h7 hle7 ⟨s1, c1, rfl, hS1⟩
  replace hb := hb.mono hle7
  replace hT := hT.mono hle7
  replace hh0 := hh0.mono hle7
  replace hN1 := hN1.mono hle7
  replace hE1 := hE1.mono hle7
  replace hD1 := hD1.mono hle7
  replace hN2 := hN2.mono hle7
  replace hE2 := hE2.mono hle7
  replace hD2 := hD2.mono hle7
  replace hD := hD.mono hle7
  rw [vL_toL, vL_toL] at hS1 ⊢; have hown := @own_prove i hi12 z dl; have hfail := own_fail (n := z) (d := dl) hi12 hz hDl; obtain ⟨se, hse⟩ : ∃ se, sigE z dl (keyN i) (keyE i) (vL (expL i)) = se := ⟨_, rfl⟩; obtain ⟨sg, hsg⟩ : ∃ sg, sigL z dl (keyN i) (keyE i) (vL (expL i)) = sg := ⟨_, rfl⟩; rw [hse] at hown hfail ⊢; rw [hsg] at hown hS1 ⊢
  refine Ru 5 rfl ?_
  refine Nk [14, 13, 12, 11, 10, 9, 8] rfl ?_
  refine J.seq ?_
  refine Sr ?_
  refine Ru 2 rfl ?_
  refine JL.nil ?_
  refine Cs rfl (fun hc8 => ?_) fun hc8 => ?_
  ·
   obtain ⟨f1, f2, f3⟩ := hfail hc8
   refine Sr ?_
   refine Ru 3 rfl ?_
   refine Bs 36 rfl (fun hc9 => ?_) fun hc9 => ?_
   rotate_left
   ·
    exfalso; (exact hc9 f1)
   refine Ru 4 rfl ?_
   refine Bs 40 rfl (fun hc10 => ?_) fun hc10 => ?_
   rotate_left
   ·
    exfalso; omega
   refine JL.opg rfl rfl  (RunV.ownA ag_32 rfl mm_ (by first | rfl)) rfl ?_
   refine JL.callPg rfl rfl  ca_25 rfl (ksize_fn hN1) rfl ?_
   refine Ru 3 rfl ?_
   refine Bs 45 rfl (fun hc12 => ?_) fun hc12 => ?_
   rotate_left
   ·
    exfalso; (unfold sizeB at *; rw [vL_toL] at *; omega)
   refine JL.callPg rfl rfl  ca_10 rfl (fixed_fn (by assumption)) rfl ?_
   refine Ru 2 rfl ?_
   refine Nk [8, 13, 12, 11, 10, 9] rfl ?_
   exact J.retV (RetV.one rfl rfl) rfl
  obtain ⟨o1, o2⟩ := hown (by simpa using hc8)
  refine J.skip ?_
  refine J.seq ?_
  refine Sr ?_
  refine JL.op (RunV.ownA ag_32 rfl mm_ (by first | rfl)) rfl ?_
  refine JL.callR ca_26 rfl (public_fn hN1 hE1 (by omega) (by omega)) rfl ?_
  rintro _ h14 hle14 ⟨va, vc, ua, uc, rfl, hV, hU⟩
  replace hb := hb.mono hle14
  replace hT := hT.mono hle14
  replace hh0 := hh0.mono hle14
  replace hN1 := hN1.mono hle14
  replace hE1 := hE1.mono hle14
  replace hD1 := hD1.mono hle14
  replace hN2 := hN2.mono hle14
  replace hE2 := hE2.mono hle14
  replace hD2 := hD2.mono hle14
  replace hD := hD.mono hle14
  replace hS1 := hS1.mono hle14
  rw [vL_toL] at hV hU; rw [vL_toL, vL_toL]
  refine Ru 3 rfl ?_
  refine JL.callR ca_17 rfl (pprove_fn (dd := []) (d := dl) (s := sg) hV hU SlR.nil_ hD hS1 hT (by omega) (by omega) (by omega)) rfl ?_
  rintro _ h15 hle15 rfl
  replace hb := hb.mono hle15
  replace hT := hT.mono hle15
  replace hh0 := hh0.mono hle15
  replace hN1 := hN1.mono hle15
  replace hE1 := hE1.mono hle15
  replace hD1 := hD1.mono hle15
  replace hN2 := hN2.mono hle15
  replace hE2 := hE2.mono hle15
  replace hD2 := hD2.mono hle15
  replace hD := hD.mono hle15
  replace hS1 := hS1.mono hle15
  replace hV := hV.mono hle15
  replace hU := hU.mono hle15
  rw [vL_toL, vL_toL]; rw [show vL [] = 0 from rfl, o1]
  refine Ru 2 rfl ?_
  refine Bs 55 rfl (fun hc16 => ?_) fun hc16 => ?_
  ·
   exfalso; (exact hc16 rfl)
  refine Ru 2 rfl ?_
  refine JL.opg rfl rfl  (RunV.ownA ag_32 rfl mm_ (by first | rfl)) rfl ?_
  refine JL.callPg rfl rfl  ca_25 rfl (ksize_fn hN1) rfl ?_
  refine Ru 2 rfl ?_
  refine Nk [61, 13, 12, 11, 10, 8] rfl ?_
  refine Cs rfl (fun hc18 => ?_) fun hc18 => ?_
  ·
   exfalso; (unfold sizeB at *; rw [vL_toL] at *; omega)
  refine J.skip ?_
  refine Sr ?_
  refine JL.op (RunV.ownA ag_32 rfl mm_ (by first | rfl)) rfl ?_
  refine Ru 3 rfl ?_
  refine JL.callR ca_17 rfl (pprove_fn (d := dl) (s := sg) hN2 hE2 hD2 hD hS1 hT (by omega) (by omega) (by omega)) rfl ?_
  rintro _ h19 hle19 rfl
  replace hb := hb.mono hle19
  replace hT := hT.mono hle19
  replace hh0 := hh0.mono hle19
  replace hN1 := hN1.mono hle19
  replace hE1 := hE1.mono hle19
  replace hD1 := hD1.mono hle19
  replace hN2 := hN2.mono hle19
  replace hE2 := hE2.mono hle19
  replace hD2 := hD2.mono hle19
  replace hD := hD.mono hle19
  replace hS1 := hS1.mono hle19
  replace hV := hV.mono hle19
  replace hU := hU.mono hle19
  rw [vL_toL, vL_toL]; have hop := other_prove (N := keyN j) (E := keyE j) (D := vL (expL j)) (s := sg) hz hDl
  refine Ru 1 rfl ?_
  refine Nk [15, 13, 12, 11, 10, 8] rfl ?_
  refine Sr ?_
  refine Ru 1 rfl ?_
  refine JL.op (RunV.ownA ag_32 rfl mm_ (by first | rfl)) rfl ?_
  refine Ru 3 rfl ?_
  refine JL.callR ca_18 rfl (rprove_fn (d := dl) (s := sg) hN2 hE2 hD2 hD hS1 (by omega) (by omega) (by omega) (by omega) (by omega)) rfl ?_
  rintro _ h20 hle20 rfl
  replace hb := hb.mono hle20
  replace hT := hT.mono hle20
  replace hh0 := hh0.mono hle20
  replace hN1 := hN1.mono hle20
  replace hE1 := hE1.mono hle20
  replace hD1 := hD1.mono hle20
  replace hN2 := hN2.mono hle20
  replace hE2 := hE2.mono hle20
  replace hD2 := hD2.mono hle20
  replace hD := hD.mono hle20
  replace hS1 := hS1.mono hle20
  replace hV := hV.mono hle20
  replace hU := hU.mono hle20
  rw [vL_toL, vL_toL]
  refine Ru 2 rfl ?_
  refine Bs 74 rfl (fun hc21 => ?_) fun hc21 => ?_
  rotate_left
  ·
   exfalso; (exact hc21 rfl)
  refine Ru 2 rfl ?_
  refine JL.opg rfl rfl  (RunV.ownA ag_32 rfl mm_ (by first | rfl)) rfl ?_
  refine JL.callRg rfl rfl  ca_27 rfl (rsize_fn hN2 (by omega)) rfl ?_
  rintro _ h22 hle22 rfl
  replace hb := hb.mono hle22
  replace hT := hT.mono hle22
  replace hh0 := hh0.mono hle22
  replace hN1 := hN1.mono hle22
  replace hE1 := hE1.mono hle22
  replace hD1 := hD1.mono hle22
  replace hN2 := hN2.mono hle22
  replace hE2 := hE2.mono hle22
  replace hD2 := hD2.mono hle22
  replace hD := hD.mono hle22
  replace hS1 := hS1.mono hle22
  replace hV := hV.mono hle22
  replace hU := hU.mono hle22
  refine Ru 2 rfl ?_
  refine Bs 80 rfl (fun hc23 => ?_) fun hc23 => ?_
  ·
   refine Ru 9 rfl ?_
   refine JL.callPg rfl rfl  ca_10 rfl (fixed_fn (by assumption)) rfl ?_
   refine Ru 2 rfl ?_
   refine Nk [8] rfl ?_
   exact J.retV (RetV.one rfl rfl) rfl
  refine Ru 4 rfl ?_
  refine Bs 84 rfl (fun hc25 => ?_) fun hc25 => ?_
  ·
   refine Ru 5 rfl ?_
   refine JL.callPg rfl rfl  ca_10 rfl (fixed_fn (by assumption)) rfl ?_
   refine Ru 2 rfl ?_
   refine Nk [8] rfl ?_
   exact J.retV (RetV.one rfl rfl) rfl
  refine Ru 5 rfl ?_
  refine Bs 89 rfl (fun hc27 => ?_) fun hc27 => ?_
  rotate_left
  ·
   exfalso; (unfold sizeB at *; rw [vL_toL] at *; omega)
  refine JL.callPg rfl rfl  ca_10 rfl (fixed_fn (by assumption)) rfl ?_
  refine Ru 2 rfl ?_
  refine Nk [8] rfl ?_
  exact J.retV (RetV.one rfl rfl) rfl
end Go.Proofs.YtmngjbefnloljaaGreatDoor
