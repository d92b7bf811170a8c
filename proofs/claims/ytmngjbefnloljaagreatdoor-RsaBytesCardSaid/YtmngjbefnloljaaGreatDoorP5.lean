/- Walks: the laws of layer 5: the fixed calls; RsaForms, RsaSigns, RsaProves; Walks: keys out of bytes by the reference, and the law RsaBytes. -/
import Derived.Test.YtmngjbefnloljaaGreatDoorP4
set_option linter.unusedSimpArgs false
set_option linter.unusedVariables false
set_option linter.constructorNameAsVariable false
namespace Go.Proofs.YtmngjbefnloljaaGreatDoor
open Go Go.RowKit
set_option maxRecDepth 100000
theorem ca_10 : callT Tryz.prog 10 = true := by kernel_rfl
theorem ca_13 : callT Tryz.prog 13 = true := by kernel_rfl
theorem ca_14 : callT Tryz.prog 14 = true := by kernel_rfl
theorem ca_15 : callT Tryz.prog 15 = true := by kernel_rfl
theorem ca_17 : callT Tryz.prog 17 = true := by kernel_rfl
theorem ca_19 : callT Tryz.prog 19 = true := by kernel_rfl
theorem fixed_fn {h : Part} (hT : Tabs h) : Pure Tryz.prog 10 [] h (.bool true) := by
  refine Pure.ofV ?_
  have hd0 : d0.length = 32 := List.length_replicate
  have hk : (amongI 0 12).toNat = 0 := by decide
  obtain ⟨k1, k2, k3, k4⟩ := kn_form
  obtain ⟨q1, q2, q3, q4⟩ := kn_list
  obtain ⟨s1, s2⟩ := kn_sign
  have p1 := kn_prove
  have hb0 : (toL (keyN 0)).length = 16 := by decide +kernel
  have hb1 : (toL (keyE 0)).length = 1 := by decide +kernel
  have hb2 : (expL 0).length = 16 := by decide +kernel
  obtain ⟨h2, e2⟩ := List.getElem?_eq_some_iff.1 q2
  obtain ⟨h3, e3⟩ := List.getElem?_eq_some_iff.1 q3
  obtain ⟨h4, e4⟩ := List.getElem?_eq_some_iff.1 q4
  have hsl := kn_pow.2.2.2.2.2.2.1
  refine Fn.intro Tryz.func10 rfl Tryz.ntmps10 rfl (fun e he => ?_)
  have hh0 := Part.le.refl h
  refine Sr ?_
  refine Ru 1 rfl ?_
  refine JL.nil ?_
  refine Sr ?_
  refine Ru 1 rfl ?_
  refine JL.nil ?_
  refine J.seq ?_
  refine Sr ?_
  refine JL.row_nil 5 1 ?_
  refine Ru 1 rfl ?_
  refine JL.nil ?_
  refine J.block ?_
  refine J.loop (fun t_ S_ h_ L_ => ∃ (i : Nat) (a : Option Addr) (c : Nat), t_ = 33 - i ∧ S_ = [(1, .slice a (List.replicate i (1 : UInt8)).length c), (2, .int .i64 i)] ∧ h = h_ ∧ L_ = [.row a c 5 1 (List.replicate i (1 : UInt8)).length (u8s (List.replicate i 1))] ∧ (i ≤ 32)) ⟨_, _, ?_, ⟨0, none, 0, rfl, rfl, rfl, rfl, by omega⟩⟩ ?_
  ·
   exact z7_
  rintro _ _ _ _ ⟨i, a, c, rfl, rfl, rfl, rfl, hi⟩
  refine J.seq ?_
  refine Sr ?_
  refine Ru 2 rfl ?_
  refine JL.nil ?_
  refine Cs rfl (fun hc1 => ?_) fun hc1 => ?_
  ·
   have hke : List.replicate i (1 : UInt8) ++ [1] = List.replicate (i + 1) 1 := (by rw [← List.replicate_succ']); have hrl : (List.replicate i (1 : UInt8)).length = i := List.length_replicate
   refine J.skip ?_
   refine J.seq ?_
   refine J.block ?_
   refine Rg ?_
   refine Ru 1 rfl ?_
   refine JL.lit1 ap_22 zr_5 rfl rfl rfl rfl rfl (fun b2 => ?_)
   refine JL.own (L' := [.blk _ _ [.int .u8 (((1 : UInt8).toNat : Nat) : Int)], _]) (fun w hk => hk) ?_
   refine JL.append1 ap_22 rfl rfl CellsR.of_u8 rfl dl_ dl_ rfl (rfl) z5_ rfl rfl (fun a3 c3 xs3 hC3 hN3 => ?_)
   obtain rfl := hC3.u8
   rw [hke]
   refine Ru 1 rfl ?_
   refine JL.nil ?_
   refine Rg ?_
   refine Ru 1 rfl ?_
   refine JL.op ai_ rfl ?_
   refine Ru 1 rfl ?_
   refine JL.nil ?_
   refine ⟨_, ?_, _, ?_, ⟨i + 1, _, _, rfl, rfl, rfl, rfl, by omega⟩⟩
   ·
    omega
   exact z7_
  obtain rfl : i = 32 := (by omega); 
  refine J.exit ?_
  refine Sr ?_
  refine JL.pub (R := u8R) (l := d0) dl_ CellsR.of_u8 rfl (by omega) (fun h9 hle9 hD => ?_); replace hT := hT.mono hle9; replace hh0 := hh0.mono hle9
  refine Ru 1 rfl ?_
  refine JL.callR ca_11 rfl (pform_fn (n := 256) (k := 62) (d := d0) hD hT (by decide) (by decide)) rfl ?_
  rintro _ h4 hle4 ⟨fa, fc, rfl, hF⟩
  replace hT := hT.mono hle4
  replace hh0 := hh0.mono hle4
  replace hD := hD.mono hle4
  rw [k1]
  refine Ru 5 rfl ?_
  refine Nk [4, 3, 1] rfl ?_
  refine Sr ?_
  refine Ru 1 rfl ?_
  refine JL.callR ca_11 rfl (pform_fn (n := 256) (k := 61) (d := d0) hD hT (by decide) (by decide)) rfl ?_
  rintro _ h5 hle5 ⟨ga, gc, rfl, hG⟩
  replace hT := hT.mono hle5
  replace hh0 := hh0.mono hle5
  replace hD := hD.mono hle5
  replace hF := hF.mono hle5
  rw [k2]
  refine Ru 5 rfl ?_
  refine Nk [6, 4, 3, 1] rfl ?_
  refine Sr ?_
  refine JL.callR ca_19 rfl (rkept_fn (k := 0) (by decide) (by decide)) rfl ?_
  rintro _ h6 hle6 ⟨an, cn, ae, ce, ad, cd, rfl, hN, hE, hX⟩
  replace hT := hT.mono hle6
  replace hh0 := hh0.mono hle6
  replace hD := hD.mono hle6
  replace hF := hF.mono hle6
  rw [hk] at hN hE hX ⊢
  refine JL.alloc zr_32 rfl (fun b7 => ?_)
  refine JL.storeA ag_32 rfl rfl dl_ (by first | rfl) z31_ (by first | rfl) ?_
  refine JL.nil ?_
  refine Sr ?_
  refine JL.op (RunV.ownA ag_32 rfl mm_ (by first | rfl)) rfl ?_
  refine Ru 1 rfl ?_
  refine JL.callR ca_15 rfl (psign_fn (hash := 256) (d := d0) hN hE hX hD hT (by omega) (by omega)) rfl ?_
  rintro _ h8 hle8 ⟨sa, sc, rfl, hS⟩
  replace hT := hT.mono hle8
  replace hh0 := hh0.mono hle8
  replace hD := hD.mono hle8
  replace hF := hF.mono hle8
  replace hN := hN.mono hle8
  replace hE := hE.mono hle8
  replace hX := hX.mono hle8
  rw [vL_toL, vL_toL, show sigE 256 d0 (keyN 0) (keyE 0) (vL (expL 0)) = 0 from s1, show sigL 256 d0 (keyN 0) (keyE 0) (vL (expL 0)) = numW s0 64 from s2] at *
  refine Ru 5 rfl ?_
  refine Nk [9, 8, 7, 6, 4, 3, 1] rfl ?_
  refine Sr ?_
  refine Ru 3 rfl ?_
  refine Bs 36 rfl (fun hc9 => ?_) fun hc9 => ?_
  rotate_left
  ·
   exfalso; (exact hc9 rfl)
  refine Ru 5 rfl ?_
  refine Bs 41 rfl (fun hc10 => ?_) fun hc10 => ?_
  rotate_left
  ·
   exfalso; omega
  refine Ru 1 rfl ?_
  refine JL.opeg rfl rfl  (RunE.index sl_22 rfl rfl (show _ = ((1 : Nat) : Int) from rfl) (by assumption) rfl (by omega)) rfl ?_
  rintro _ ⟨b11, o11, hi11, rfl, hE11⟩
  refine JL.opg rfl rfl  (RunV.ld_u8 ag_5 rfl (by assumption)) rfl ?_
  refine Ru 3 rfl ?_
  refine Bs 47 rfl (fun hc13 => ?_) fun hc13 => ?_
  rotate_left
  ·
   exfalso; (exact hc13 (by rw [e2]; rfl))
  refine Ru 1 rfl ?_
  refine JL.opeg rfl rfl  (RunE.index sl_22 rfl rfl (show _ = ((10 : Nat) : Int) from rfl) (by assumption) rfl (by omega)) rfl ?_
  rintro _ ⟨b14, o14, hi14, rfl, hE14⟩
  refine JL.opg rfl rfl  (RunV.ld_u8 ag_5 rfl (by assumption)) rfl ?_
  refine Ru 3 rfl ?_
  refine Bs 53 rfl (fun hc16 => ?_) fun hc16 => ?_
  rotate_left
  ·
   exfalso; (exact hc16 (by rw [e3]; rfl))
  refine Ru 1 rfl ?_
  refine JL.opeg rfl rfl  (RunE.index sl_22 rfl rfl (show _ = ((11 : Nat) : Int) from rfl) (by assumption) rfl (by omega)) rfl ?_
  rintro _ ⟨b17, o17, hi17, rfl, hE17⟩
  refine JL.opg rfl rfl  (RunV.ld_u8 ag_5 rfl (by assumption)) rfl ?_
  refine Ru 3 rfl ?_
  refine Bs 59 rfl (fun hc19 => ?_) fun hc19 => ?_
  rotate_left
  ·
   exfalso; (exact hc19 (by rw [e4]; rfl))
  refine Ru 4 rfl ?_
  refine Bs 63 rfl (fun hc20 => ?_) fun hc20 => ?_
  rotate_left
  ·
   exfalso; (exact hc20 rfl)
  refine Ru 4 rfl ?_
  refine Bs 67 rfl (fun hc21 => ?_) fun hc21 => ?_
  rotate_left
  ·
   exfalso; (exact hc21 rfl)
  refine JL.opg rfl rfl  (RunV.ownA ag_32 rfl mm_ (by first | rfl)) rfl ?_
  refine Ru 2 rfl ?_
  refine JL.callRg rfl rfl  ca_17 rfl (pprove_fn (hash := 256) (d := d0) hN hE hX hD hS hT (by omega) (by omega) (by omega)) rfl ?_
  rintro _ h22 hle22 rfl
  replace hT := hT.mono hle22
  replace hh0 := hh0.mono hle22
  replace hD := hD.mono hle22
  replace hF := hF.mono hle22
  replace hN := hN.mono hle22
  replace hE := hE.mono hle22
  replace hX := hX.mono hle22
  replace hS := hS.mono hle22
  rw [vL_toL, vL_toL, show proveE 256 d0 (numW s0 64) (keyN 0) (keyE 0) (vL (expL 0)) = 0 from p1]
  refine Ru 3 rfl ?_
  refine Nk [0] rfl ?_
  exact J.retV (RetV.one rfl rfl) rfl
end Go.Proofs.YtmngjbefnloljaaGreatDoor
namespace Go.Proofs.YtmngjbefnloljaaGreatDoor
open Go Go.RowKit
set_option maxRecDepth 100000
theorem ca_28 : callT Tryz.prog 28 = true := by kernel_rfl
theorem ca_29 : callT Tryz.prog 29 = true := by kernel_rfl
theorem ca_30 : callT Tryz.prog 30 = true := by kernel_rfl
theorem ca_31 : callT Tryz.prog 31 = true := by kernel_rfl
theorem ca_32 : callT Tryz.prog 32 = true := by kernel_rfl
theorem ca_70 : callT Tryz.prog 70 = true := by kernel_rfl
theorem ca_71 : callT Tryz.prog 71 = true := by kernel_rfl
theorem rtop_fn {a : Option Addr} {c : Nat} {l : List UInt8} {h : Part} (hl : SlR u8R 1 h a c l) (hll : l.length ≤ 4000000) :
    FnR Tryz.prog 70 [.slice a l.length c] h (fun v h' => ∃ cs, v = .tuple #[.agg (List.toArray cs), .agg #[.int .i64 (rdTop l).2.1, .int .i64 (rdTop l).2.2]] ∧ NdR h' cs (rdTop l).1) := by
  refine Fn.intro Tryz.func70 rfl Tryz.ntmps70 rfl (fun e he => ?_)
  refine J.weak [(0, _)] ⟨rfl, trivial⟩ ?_
  have hh0 := Part.le.refl h
  refine Sr ?_
  refine JL.alloc zr_75 rfl (fun b1 => ?_)
  refine JL.alloc zr_82 rfl (fun b2 => ?_)
  refine JL.nil ?_
  refine J.seq ?_
  refine Sr ?_
  refine Ru 3 rfl ?_
  refine JL.nil ?_
  refine Cs rfl (fun hc3 => ?_) fun hc3 => ?_
  ·
   exfalso; omega
  refine J.skip ?_
  refine Sr ?_
  refine Ru 3 rfl ?_
  refine JL.callR ca_110 rfl ((rdnode_fn 32 l 0 l.length a c _ hl (by omega) (by omega) (by omega) (by omega))) rfl ?_
  rintro _ h4 hle4 ⟨xcs, rfl, hX⟩
  replace hl := hl.mono hle4
  replace hh0 := hh0.mono hle4
  have hyo := @rr_ok 32 l 0 l.length (by omega); have hyb := @rr_bad (rdN 32 l 0 l.length); obtain ⟨y, hy⟩ : ∃ y, rdN 32 l 0 l.length = y := ⟨_, rfl⟩; rw [hy] at hX hyo hyb ⊢
  refine Ru 4 rfl ?_
  refine JL.alloc zr_75 rfl (fun b5 => ?_)
  refine JL.alloc zr_82 rfl (fun b6 => ?_)
  refine JL.storeA ag_75 rfl rfl dl_ z22_ z17_ z6_ ?_
  refine Ru 1 rfl ?_
  refine JL.storeA ag_82 rfl rfl dl_ (by first | rfl) z31_ (by first | rfl) ?_
  refine Nk [5, 6, 4, 3, 2, 0] rfl ?_
  refine J.seq ?_
  refine Sr ?_
  refine Ru 1 rfl ?_
  refine JL.op (RunV.own1 ag_24 rfl mm_ rfl) rfl ?_
  refine Ru 1 rfl ?_
  refine JL.nil ?_
  refine Cs rfl (fun hc7 => ?_) fun hc7 => ?_
  ·
   have hye := hy.trans (hyb hc7); have ht : rdTop l = (ndZ, rrA y, rrC y) := (by unfold rdTop; rw [if_neg (by omega), hye])
   refine J.seq ?_
   refine J.held ([.blk b6 82 [.int .i64 (rrA y), .int .i64 (rrC y)]]) 4 mixed_ rfl (fun h00 => ?_)
   refine JH.take 0 rfl (by kernel_rfl) (by kernel_rfl) (by kernel_rfl) (fun _ _ _ _ hh => hh) (br_ h00) (RunV.build (cs := [.int .i64 0, .int .i64 0, .bool false, .slice none 0 0, .slice none 0 0]) pl_75 rfl rfl) rfl ?_
   refine JH.take 1 rfl (by kernel_rfl) (by kernel_rfl) (by kernel_rfl) (fun _ _ _ _ hh => hh) (br_ h00) (RunV.ownA ag_82 rfl mm_ (by first | rfl)) rfl ?_
   refine JH.all1 2 (by kernel_rfl) rfl ?_
   unfold One
   refine JL.storeA ag_75 rfl rfl dl_ z22_ z17_ z6_ ?_
   refine JL.nil ⟨(br_ h00), ?_⟩
   refine JH.all1 3 (by kernel_rfl) rfl ?_
   unfold One
   refine JL.storeA ag_82 rfl rfl dl_ (by first | rfl) z31_ (by first | rfl) ?_
   refine JL.nil ⟨(br_ h00), ?_⟩
   refine JH.done (by kernel_rfl) ?_
   refine Kp [5, 4, 3, 2, 0] rfl ?_
   rw [ht]; exact J.retR (RetV.cell2 rfl rfl ag_75 mm_ z6_ rfl ag_82 mm_ (by first | rfl)) ⟨_, rfl, NdR.of SlR.nil_ SlR.nil_⟩
  have hye := hy.trans (hyo (by omega)); obtain ⟨x, hxx⟩ : ∃ x, rrX y = x := ⟨_, rfl⟩; obtain ⟨p', hpp⟩ : ∃ p', rrQ y = p' := ⟨_, rfl⟩; rw [hxx, hpp] at hye; rw [hxx] at hX; rw [hpp]; have hxl := rdN_le 32 l 0 l.length _ _ hye
  refine J.skip ?_
  refine Kp [5, 4, 3, 2, 0] rfl ?_
  refine J.seq ?_
  refine Sr ?_
  refine Ru 4 rfl ?_
  refine JL.nil ?_
  refine Cs rfl (fun hc8 => ?_) fun hc8 => ?_
  ·
   have ht : rdTop l = (ndZ, (p' : Int), 35) := (by unfold rdTop; rw [if_neg (by omega), hye]; simp only; rw [if_pos (by omega)])
   refine Sr ?_
   refine JL.op (RunV.build (cs := [.int .i64 0, .int .i64 0, .bool false, .slice none 0 0, .slice none 0 0]) pl_75 rfl rfl) rfl ?_
   refine Ru 1 rfl ?_
   refine JL.op (RunV.build (cs := [_, _]) pl_82 rfl rfl) rfl ?_
   refine JL.storeA ag_75 rfl rfl dl_ z22_ z17_ z6_ ?_
   refine JL.storeA ag_82 rfl rfl dl_ (by first | rfl) z31_ (by first | rfl) ?_
   refine Nk [4, 3, 2] rfl ?_
   rw [ht]; exact J.retR (RetV.cell2 rfl rfl ag_75 mm_ z6_ rfl ag_82 mm_ (by first | rfl)) ⟨_, rfl, NdR.of SlR.nil_ SlR.nil_⟩
  have ht : rdTop l = (x, 0, 0) := (by unfold rdTop; rw [if_neg (by omega), hye]; simp only; rw [if_neg (by omega)])
  refine J.skip ?_
  refine Kp [4, 3, 2] rfl ?_
  refine Sr ?_
  refine JL.op (RunV.ownA ag_75 rfl mm_ z6_) rfl ?_
  refine JL.op (RunV.build (cs := [.int .i64 0, .int .i64 0]) pl_82 rfl rfl) rfl ?_
  refine JL.storeA ag_75 rfl rfl dl_ z22_ z17_ z6_ ?_
  refine JL.storeA ag_82 rfl rfl dl_ (by first | rfl) z31_ (by first | rfl) ?_
  refine JL.nil ?_
  rw [ht]; exact J.retR (RetV.cell2 rfl rfl ag_75 mm_ z6_ rfl ag_82 mm_ (by first | rfl)) ⟨_, rfl, hX⟩
theorem rdTop_sz (l : List UInt8) : (rdTop l).1.sz ≤ l.length + 1 := by
  have hz : ndZ.sz ≤ 1 := by decide
  unfold rdTop
  split
  · exact Nat.le_trans hz (by omega)
  · split
    · exact Nat.le_trans hz (by omega)
    · rename_i x q h
      split
      · exact Nat.le_trans hz (by omega)
      · have h1 := rdN_sz (Nat.le_refl _) h
        have h2 := rdN_le _ _ _ _ _ _ h
        simp only
        omega
theorem natL_sz (x : Nd) : x.natL.length ≤ x.sz := by
  cases x with
  | mk c t k bs ks =>
  unfold Nd.natL
  split
  · have := toL_beV_len bs
    simp only [Nd.bytes, Nd.sz]
    omega
  · simp
theorem rparse_fn {a : Option Addr} {c : Nat} {l : List UInt8} {h : Part} (hl : SlR u8R 1 h a c l) (hll : l.length ≤ 500) : FnR Tryz.prog 31 [.slice a l.length c] h (parR l) := by
  have hsz : (rdTop l).1.sz ≤ 501 := Nat.le_trans (rdTop_sz l) (by omega)
  obtain ⟨xc, xt, xk, xbs, xks, hxx⟩ : ∃ c t k bs ks, (rdTop l).1 = .mk c t k bs ks := by
    cases (rdTop l).1; exact ⟨_, _, _, _, _, rfl⟩
  obtain ⟨xcode, hxc⟩ : ∃ z, z = (rdTop l).2.2 := ⟨_, rfl⟩
  have hbad := @parR_bad l
  refine Fn.intro Tryz.func31 rfl Tryz.ntmps31 rfl (fun e he => ?_)
  refine J.weak [(0, _)] ⟨rfl, trivial⟩ ?_
  have hh0 := Part.le.refl h
  refine Sr ?_
  refine JL.alloc zr_32 rfl (fun b1 => ?_)
  refine Ru 1 rfl ?_
  refine JL.nil ?_
  refine Sr ?_
  refine Ru 1 rfl ?_
  refine JL.callR ca_70 rfl (rtop_fn hl (by omega)) rfl ?_
  rintro _ h2 hle2 ⟨rcs, rfl, hX⟩
  replace hl := hl.mono hle2
  replace hh0 := hh0.mono hle2
  rw [hxx] at hX; obtain ⟨ba, bca, ka, kca, rfl, hB, hK⟩ := hX.inv; rw [← hxc] at hbad ⊢; generalize (rdTop l).2.1 = xat
  refine Ru 3 rfl ?_
  refine JL.alloc zr_75 rfl (fun b3 => ?_)
  refine JL.alloc zr_82 rfl (fun b4 => ?_)
  refine JL.storeA ag_75 rfl rfl dl_ z22_ z17_ z6_ ?_
  refine JL.storeA ag_82 rfl rfl dl_ (by first | rfl) z31_ (by first | rfl) ?_
  refine Nk [5, 4, 3, 2] rfl ?_
  refine J.seq ?_
  refine J.seq ?_
  refine J.meet [(50, .bool (decide (¬ (xcode = 0 ∧ xc = 0 ∧ xt = 16 ∧ xks.length = 2 ∧ (xks.getD 0 ndZ).tag = 2 ∧ (xks.getD 1 ndZ).tag = 2))))] [(4, _), (3, _), (2, _)] ⟨rfl, rfl, rfl, trivial⟩ ?_ ?_
  ·
   refine Rg ?_
   refine Ru 1 rfl ?_
   refine JL.op (RunV.own1 ag_24 rfl mm_ rfl) rfl ?_
   refine Ru 2 rfl ?_
   refine Bs 19 rfl (fun hc5 => ?_) fun hc5 => ?_
   ·
    refine Ru 31 rfl ?_
    refine JL.nil ?_
    refine ⟨rfl, rfl, ?_⟩
    exact z3_
   refine Ru 1 rfl ?_
   refine JL.opg rfl rfl  (RunV.own1 ag_3 rfl mm_ rfl) rfl ?_
   refine Ru 3 rfl ?_
   refine Bs 24 rfl (fun hc6 => ?_) fun hc6 => ?_
   ·
    refine Ru 26 rfl ?_
    refine JL.nil ?_
    refine ⟨rfl, rfl, ?_⟩
    exact z3_
   refine Ru 1 rfl ?_
   refine JL.opg rfl rfl  (RunV.own1 ag_3 rfl mm_ rfl) rfl ?_
   refine Ru 3 rfl ?_
   refine Bs 29 rfl (fun hc7 => ?_) fun hc7 => ?_
   ·
    refine Ru 21 rfl ?_
    refine JL.nil ?_
    refine ⟨rfl, rfl, ?_⟩
    exact z3_
   refine Ru 1 rfl ?_
   refine JL.opg rfl rfl  (RunV.own1 ag_73 rfl mm_ rfl) rfl ?_
   refine Ru 4 rfl ?_
   refine Bs 35 rfl (fun hc8 => ?_) fun hc8 => ?_
   ·
    refine Ru 15 rfl ?_
    refine JL.nil ?_
    refine ⟨rfl, rfl, ?_⟩
    exact z3_
   refine Ru 1 rfl ?_
   refine JL.opg rfl rfl  (RunV.own1 ag_73 rfl mm_ rfl) rfl ?_
   refine JL.opeg rfl rfl  (RunE.index (m := 0) sl_73 rfl rfl rfl hK rfl (by omega)) rfl ?_
   rintro _ ⟨b9, o9, hi9, rfl, hE9⟩
   refine JL.opg rfl rfl  (RunV.fieldAt fo_75_1 rfl) rfl ?_
   refine JL.opg rfl rfl  (RunV.ld_kid (i := 0) (by assumption) ag_3 rfl (by assumption)) rfl ?_
   refine Ru 3 rfl ?_
   refine Bs 43 rfl (fun hc10 => ?_) fun hc10 => ?_
   ·
    refine Ru 7 rfl ?_
    refine JL.nil ?_
    refine ⟨rfl, rfl, ?_⟩
    exact z3_
   refine Ru 1 rfl ?_
   refine JL.opg rfl rfl  (RunV.own1 ag_73 rfl mm_ rfl) rfl ?_
   refine JL.opeg rfl rfl  (RunE.index (m := 1) sl_73 rfl rfl rfl hK rfl (by omega)) rfl ?_
   rintro _ ⟨b11, o11, hi11, rfl, hE11⟩
   refine JL.opg rfl rfl  (RunV.fieldAt fo_75_1 rfl) rfl ?_
   refine JL.opg rfl rfl  (RunV.ld_kid (i := 1) (by assumption) ag_3 rfl (by assumption)) rfl ?_
   refine Ru 2 rfl ?_
   refine JL.nil ?_
   refine ⟨rfl, rfl, ?_⟩
   exact z3_
  refine Cs rfl (fun hc12 => ?_) fun hc12 => ?_
  ·
   have hp60 : parC (rdTop l).1 xcode = 60 := (by rw [hxx]; exact if_pos (decide_eq_false hc12))
   refine Sr ?_
   refine JL.op (RunV.build (cs := [.slice none 0 0, .slice none 0 0, .slice none 0 0]) pl_32 rfl rfl) rfl ?_
   refine JL.storeA ag_32 rfl rfl dl_ (by first | rfl) z31_ (by first | rfl) ?_
   refine Ru 1 rfl ?_
   refine JL.nil ?_
   exact J.retR (RetV.cellAT rfl rfl ag_32 mm_ (by first | rfl) rfl) (hbad (by decide) hp60)
  obtain ⟨g1, g2, g3, g4, g5, g6⟩ := hc12; have hks : (rdTop l).1.kids = xks := (by rw [hxx]; rfl); have z0 : (xks[0]'(by omega)).sz ≤ 501 := Nat.le_trans (kids_sz hks _ (List.getElem_mem _)) hsz; have z1 : (xks[1]'(by omega)).sz ≤ 501 := Nat.le_trans (kids_sz hks _ (List.getElem_mem _)) hsz; have k0 : kid (rdTop l).1 0 = xks[0]'(by omega) := (by unfold kid; rw [hks]; simp [g4]); have k1 : kid (rdTop l).1 1 = xks[1]'(by omega) := (by unfold kid; rw [hks]; simp [g4]); have hkf : keyF (rdTop l).1 xcode = true := (by rw [hxx]; exact decide_eq_true ⟨g1, g2, g3, g4, g5, g6⟩)
  refine J.skip ?_
  refine Sr ?_
  refine Ru 1 rfl ?_
  refine JL.op (RunV.own1 ag_73 rfl mm_ rfl) rfl ?_
  refine JL.ope (RunE.index sl_73 rfl rfl (show _ = ((0 : Nat) : Int) from rfl) (by assumption) rfl (by omega)) rfl ?_
  rintro _ ⟨b13, o13, hi13, rfl, hE13⟩
  refine JL.ope (RunE.loadA ag_75 rfl (by assumption)) rfl ?_
  rintro _ ⟨_, rfl, hNd14⟩
  refine JL.callR ca_71 rfl (rnatof_fn (x := xks[0]) (by assumption) (by omega)) rfl ?_
  rintro _ h15 hle15 ⟨na, nc, rfl, hN0⟩
  replace hl := hl.mono hle15
  replace hh0 := hh0.mono hle15
  replace hX := hX.mono hle15
  replace hB := hB.mono hle15
  replace hK := hK.mono hle15
  replace hNd14 := hNd14.mono hle15
  refine Ru 5 rfl ?_
  refine Nk [7, 6, 4, 3, 2] rfl ?_
  refine Sr ?_
  refine Ru 1 rfl ?_
  refine JL.op (RunV.own1 ag_73 rfl mm_ rfl) rfl ?_
  refine JL.ope (RunE.index sl_73 rfl rfl (show _ = ((1 : Nat) : Int) from rfl) (by assumption) rfl (by omega)) rfl ?_
  rintro _ ⟨b16, o16, hi16, rfl, hE16⟩
  refine JL.ope (RunE.loadA ag_75 rfl (by assumption)) rfl ?_
  rintro _ ⟨_, rfl, hNd17⟩
  refine JL.callR ca_71 rfl (rnatof_fn (x := xks[1]) (by assumption) (by omega)) rfl ?_
  rintro _ h18 hle18 ⟨ma, mc, rfl, hN1⟩
  replace hl := hl.mono hle18
  replace hh0 := hh0.mono hle18
  replace hX := hX.mono hle18
  replace hB := hB.mono hle18
  replace hK := hK.mono hle18
  replace hNd14 := hNd14.mono hle18
  replace hN0 := hN0.mono hle18
  replace hNd17 := hNd17.mono hle18
  refine Ru 5 rfl ?_
  refine Nk [9, 8, 7, 6, 3, 2] rfl ?_
  refine J.seq ?_
  refine Sr ?_
  refine Ru 3 rfl ?_
  refine Bs 70 rfl (fun hc19 => ?_) fun hc19 => ?_
  ·
   refine Ru 3 rfl ?_
   refine Nk [73, 8, 6, 3, 2] rfl ?_
   refine J.cond_t rfl ?_
   refine Sr ?_
   refine JL.op (RunV.build (cs := [.slice none 0 0, .slice none 0 0, .slice none 0 0]) pl_32 rfl rfl) rfl ?_
   refine JL.storeA ag_32 rfl rfl dl_ (by first | rfl) z31_ (by first | rfl) ?_
   refine Ru 1 rfl ?_
   refine JL.nil ?_
   exact J.retR (RetV.cellAT rfl rfl ag_32 mm_ (by first | rfl) rfl) (hbad (by decide) (by unfold parC; rw [if_neg (by rw [hkf]; decide), if_pos (by rw [k0, k1]; simp_all)]))
  refine Ru 3 rfl ?_
  refine Nk [73, 8, 6, 3, 2] rfl ?_
  refine Cs rfl (fun hc20 => ?_) fun hc20 => ?_
  ·
   refine Sr ?_
   refine JL.op (RunV.build (cs := [.slice none 0 0, .slice none 0 0, .slice none 0 0]) pl_32 rfl rfl) rfl ?_
   refine JL.storeA ag_32 rfl rfl dl_ (by first | rfl) z31_ (by first | rfl) ?_
   refine Ru 1 rfl ?_
   refine JL.nil ?_
   exact J.retR (RetV.cellAT rfl rfl ag_32 mm_ (by first | rfl) rfl) (hbad (by decide) (by unfold parC; rw [if_neg (by rw [hkf]; decide), if_pos (by rw [k0, k1]; simp_all)]))
  refine J.skip ?_
  refine Sr ?_
  refine Ru 2 rfl ?_
  refine JL.op (RunV.build (cs := [_, _, .slice none 0 0]) pl_32 rfl rfl) rfl ?_
  refine JL.alloc zr_32 rfl (fun b21 => ?_)
  refine JL.storeA ag_32 rfl rfl dl_ (by first | rfl) z31_ (by first | rfl) ?_
  refine Nk [10, 3, 2] rfl ?_
  refine J.seq ?_
  refine Sr ?_
  refine JL.op (RunV.ownA ag_32 rfl mm_ (by first | rfl)) rfl ?_
  refine JL.callR ca_64 rfl (rkeyright_fn (d := []) hN0 hN1 SlR.nil_ (Nat.le_trans (natL_sz _) (by omega)) (Nat.le_trans (natL_sz _) (by omega)) (by simp)) rfl ?_
  rintro _ h22 hle22 rfl
  replace hl := hl.mono hle22
  replace hh0 := hh0.mono hle22
  replace hX := hX.mono hle22
  replace hB := hB.mono hle22
  replace hK := hK.mono hle22
  replace hNd14 := hNd14.mono hle22
  replace hN0 := hN0.mono hle22
  replace hNd17 := hNd17.mono hle22
  replace hN1 := hN1.mono hle22
  refine Ru 1 rfl ?_
  refine JL.nil ?_
  refine Cs rfl (fun hc23 => ?_) fun hc23 => ?_
  ·
   have hrt : ¬ rightB (vL (kid (rdTop l).1 0).natL) (vL (kid (rdTop l).1 1).natL) 0 = true := (by rw [k0, k1]; simpa [show vL [] = 0 from rfl] using hc23)
   refine Sr ?_
   refine JL.op (RunV.build (cs := [.slice none 0 0, .slice none 0 0, .slice none 0 0]) pl_32 rfl rfl) rfl ?_
   refine JL.storeA ag_32 rfl rfl dl_ (by first | rfl) z31_ (by first | rfl) ?_
   refine Ru 1 rfl ?_
   refine Nk [3, 10, 2] rfl ?_
   exact J.retR (RetV.cellAT rfl rfl ag_32 mm_ (by first | rfl) rfl) (hbad (by decide) (by unfold parC; rw [if_neg (by rw [hkf]; decide), if_neg (by rw [k0, k1]; simp_all), if_neg hrt]))
  have hrt : rightB (vL (kid (rdTop l).1 0).natL) (vL (kid (rdTop l).1 1).natL) 0 = true := (by rw [k0, k1]; simpa [show vL [] = 0 from rfl] using hc23); have hp0 : parC (rdTop l).1 xcode = 0 := (by unfold parC; rw [if_neg (by rw [hkf]; decide), if_neg (by rw [k0, k1]; simp_all), if_pos hrt]); have hpn0 : parN (rdTop l).1 xcode 0 = (xks[0]'(by omega)).natL := (by unfold parN; rw [if_pos hp0, k0]); have hpn1 : parN (rdTop l).1 xcode 1 = (xks[1]'(by omega)).natL := (by unfold parN; rw [if_pos hp0, k1])
  refine J.skip ?_
  refine Sr ?_
  refine JL.op (RunV.ownA ag_32 rfl mm_ (by first | rfl)) rfl ?_
  refine JL.storeA ag_32 rfl rfl dl_ (by first | rfl) z31_ (by first | rfl) ?_
  refine Ru 1 rfl ?_
  refine Nk [3, 2] rfl ?_
  subst hxc; exact J.retR (RetV.cellAT rfl rfl ag_32 mm_ (by first | rfl) rfl) ⟨na, nc, ma, mc, by rw [hpn0, hpn1, hp0], by rw [hpn0]; exact hN0, by rw [hpn1]; exact hN1⟩
theorem rsabytes_fn {an ae ad : Option Addr} {cn ce cd : Nat} {n x dd : List UInt32} {a : Option Addr} {c : Nat} {b : List UInt8} {h : Part} (hn : SlR u32R 1 h an cn n) (hx : SlR u32R 1 h ae ce x) (hdd : SlR u32R 1 h ad cd dd) (hb : SlR u8R 1 h a c b) (hT : Tabs h) :
    Pure Tryz.prog 8 [.agg #[.slice an n.length cn, .slice ae x.length ce, .slice ad dd.length cd], .slice a b.length c] h (.bool true) := by
  refine Pure.ofV ?_
  refine Fn.intro Tryz.func8 rfl Tryz.ntmps8 rfl (fun e he => ?_)
  refine J.weak [(0, _), (1, _)] ⟨rfl, rfl, trivial⟩ ?_
  have hh0 := Part.le.refl h
  refine Sr ?_
  refine JL.box rfl rfl rfl (fun b1 => ?_)
  refine Ru 1 rfl ?_
  refine JL.nil ?_
  refine J.seq ?_
  refine Sr ?_
  refine JL.op (RunV.ownA ag_32 rfl mm_ (by first | rfl)) rfl ?_
  refine JL.callP ca_14 rfl (heavy_fn) rfl ?_
  refine Ru 1 rfl ?_
  refine Bs 15 rfl (fun hc3 => ?_) fun hc3 => ?_
  ·
   refine Ru 4 rfl ?_
   refine Nk [19, 4, 2, 1] rfl ?_
   refine J.cond_t rfl ?_
   refine Sr ?_
   refine JL.callP ca_10 rfl (fixed_fn (by assumption)) rfl ?_
   refine Ru 1 rfl ?_
   refine JL.nil ?_
   exact J.retV (RetV.one rfl rfl) rfl
  refine Ru 4 rfl ?_
  refine Nk [19, 4, 2, 1] rfl ?_
  refine Cs rfl (fun hc5 => ?_) fun hc5 => ?_
  ·
   refine Sr ?_
   refine JL.callP ca_10 rfl (fixed_fn (by assumption)) rfl ?_
   refine Ru 1 rfl ?_
   refine JL.nil ?_
   exact J.retV (RetV.one rfl rfl) rfl
  refine J.skip ?_
  refine Sr ?_
  refine JL.op (RunV.ownA ag_32 rfl mm_ (by first | rfl)) rfl ?_
  refine JL.callR ca_28 rfl (pkbytes_fn hn hx hdd hT (by omega) (by omega)) rfl ?_
  rintro _ h7 hle7 ⟨ka, kc, rfl, hC⟩
  replace hn := hn.mono hle7
  replace hx := hx.mono hle7
  replace hdd := hdd.mono hle7
  replace hb := hb.mono hle7
  replace hT := hT.mono hle7
  replace hh0 := hh0.mono hle7
  refine Ru 5 rfl ?_
  refine Nk [6, 5, 4, 2, 1] rfl ?_
  refine Sr ?_
  refine JL.op (RunV.ownA ag_32 rfl mm_ (by first | rfl)) rfl ?_
  refine JL.callR ca_29 rfl (rkbytes_fn hn hx hdd (by omega) (by omega) (by omega)) rfl ?_
  rintro _ h8 hle8 ⟨ra, rc, rfl, hC2⟩
  replace hn := hn.mono hle8
  replace hx := hx.mono hle8
  replace hdd := hdd.mono hle8
  replace hb := hb.mono hle8
  replace hT := hT.mono hle8
  replace hh0 := hh0.mono hle8
  replace hC := hC.mono hle8
  refine Ru 5 rfl ?_
  refine Nk [8, 7, 6, 5, 4, 1] rfl ?_
  refine Sr ?_
  refine Ru 1 rfl ?_
  refine JL.callR ca_30 rfl (pparse_fn hb hT) rfl ?_
  rintro _ h9 hle9 ⟨pn, pc, pe, pd, rfl, hPN, hPE⟩
  replace hn := hn.mono hle9
  replace hx := hx.mono hle9
  replace hdd := hdd.mono hle9
  replace hb := hb.mono hle9
  replace hT := hT.mono hle9
  replace hh0 := hh0.mono hle9
  replace hC := hC.mono hle9
  replace hC2 := hC2.mono hle9
  refine Ru 3 rfl ?_
  refine JL.alloc zr_32 rfl (fun b10 => ?_)
  refine JL.storeA ag_32 rfl rfl dl_ (by first | rfl) z31_ (by first | rfl) ?_
  refine Ru 1 rfl ?_
  refine Nk [10, 9, 8, 7, 6, 5, 4, 1] rfl ?_
  refine Sr ?_
  refine Ru 1 rfl ?_
  refine JL.callR ca_31 rfl (rparse_fn hb (by omega)) rfl ?_
  rintro _ h11 hle11 ⟨qn, qc, qe, qd, rfl, hQN, hQE⟩
  replace hn := hn.mono hle11
  replace hx := hx.mono hle11
  replace hdd := hdd.mono hle11
  replace hb := hb.mono hle11
  replace hT := hT.mono hle11
  replace hh0 := hh0.mono hle11
  replace hC := hC.mono hle11
  replace hC2 := hC2.mono hle11
  replace hPN := hPN.mono hle11
  replace hPE := hPE.mono hle11
  refine Ru 3 rfl ?_
  refine JL.alloc zr_32 rfl (fun b12 => ?_)
  refine JL.storeA ag_32 rfl rfl dl_ (by first | rfl) z31_ (by first | rfl) ?_
  refine Ru 1 rfl ?_
  refine Nk [12, 11, 10, 9, 8, 7, 6, 5, 4] rfl ?_
  refine Sr ?_
  refine Ru 2 rfl ?_
  refine JL.callP ca_13 rfl (samebytes_fn hC hC2) rfl ?_
  refine Ru 1 rfl ?_
  refine Bs 44 rfl (fun hc14 => ?_) fun hc14 => ?_
  rotate_left
  ·
   exfalso; (exact hc14 rfl)
  refine Ru 5 rfl ?_
  refine Bs 49 rfl (fun hc15 => ?_) fun hc15 => ?_
  rotate_left
  ·
   exfalso; (exact hc15 rfl)
  refine JL.opg rfl rfl  (RunV.ownA ag_32 rfl mm_ (by first | rfl)) rfl ?_
  refine JL.opg rfl rfl  (RunV.ownA ag_32 rfl mm_ (by first | rfl)) rfl ?_
  refine JL.callPg rfl rfl  ca_32 rfl (alike_fn (d := []) (d2 := []) hPN hPE SlR.nil_ hQN hQE SlR.nil_) rfl ?_
  refine Ru 2 rfl ?_
  refine Bs 54 rfl (fun hc17 => ?_) fun hc17 => ?_
  rotate_left
  ·
   exfalso; (exact hc17 ⟨rfl, rfl, rfl⟩)
  refine Ru 5 rfl ?_
  refine Bs 59 rfl (fun hc18 => ?_) fun hc18 => ?_
  rotate_left
  ·
   exfalso; (exact hc18 rfl)
  refine JL.callPg rfl rfl  ca_10 rfl (fixed_fn (by assumption)) rfl ?_
  refine Ru 2 rfl ?_
  refine Nk [4] rfl ?_
  exact J.retV (RetV.one rfl rfl) rfl
end Go.Proofs.YtmngjbefnloljaaGreatDoor
