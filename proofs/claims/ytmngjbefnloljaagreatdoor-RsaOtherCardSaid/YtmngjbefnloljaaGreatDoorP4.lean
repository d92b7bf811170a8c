/- Walks: the law RsaOther. -/
import Derived.Test.YtmngjbefnloljaaGreatDoorP3
set_option linter.unusedSimpArgs false
set_option linter.unusedVariables false
set_option linter.constructorNameAsVariable false
namespace Go.Proofs.YtmngjbefnloljaaGreatDoor
open Go Go.RowKit
set_option maxRecDepth 100000
theorem ca_21 : callT Tryz.prog 21 = true := by kernel_rfl
theorem elM {h : Part} {x : Nat} : u64R h [.int .u64 ((x : Int) % 4294967296)] (m64 (UInt32.ofNat (x % 4294967296))) := by
  unfold u64R m64
  rw [UInt64.toNat_ofNat', UInt32.toNat_ofNat']
  congr 2; omega
theorem radd_step {us D E : List UInt32} {i cy x : Nat} (hl : us.length = i) (he : vL us + cy * 4294967296 ^ i = vL (D.take i) + vL (E.take i)) (hx : x = cy + d32 D i + d32 E i) :
    vL (us ++ [UInt32.ofNat (x % 4294967296)]) + x / 4294967296 * 4294967296 ^ (i + 1) = vL (D.take (i + 1)) + vL (E.take (i + 1)) := by
  have h1 : (UInt32.ofNat (x % 4294967296)).toNat = x % 4294967296 := by rw [UInt32.toNat_ofNat']; omega
  rw [vL_append, vL_take_succ, vL_take_succ, hl, Nat.pow_succ]
  have e1 : vL [UInt32.ofNat (x % 4294967296)] = x % 4294967296 := by simp [vL, h1]
  rw [e1]
  have e2 : x / 4294967296 * (4294967296 ^ i * 4294967296) = 4294967296 ^ i * (x / 4294967296 * 4294967296) := by rw [Nat.mul_comm (4294967296 ^ i) 4294967296, ← Nat.mul_assoc, Nat.mul_comm]
  rw [e2, Nat.add_assoc, ← Nat.mul_add]
  have e3 : x % 4294967296 + x / 4294967296 * 4294967296 = x := by omega
  rw [e3, hx, Nat.mul_add, Nat.mul_add, Nat.mul_comm (4294967296 ^ i) cy, Nat.mul_comm (4294967296 ^ i) (d32 D i), Nat.mul_comm (4294967296 ^ i) (d32 E i)]
  omega
theorem radd_fn {a b : Option Addr} {ca cb : Nat} {l r : List UInt32} {h : Part} (hl : SlR u32R 1 h a ca l) (hr : SlR u32R 1 h b cb r) (hlb : l.length ≤ 100000) (hrb : r.length ≤ 100000) : FnR Tryz.prog 21 [.slice a l.length ca, .slice b r.length cb] h (fun v h' => ∃ a c, v = .slice a (toL (vL l + vL r)).length c ∧ SlR u32R 1 h' a c (toL (vL l + vL r))) := by
  have n1 : (toL (vL l)).length ≤ 100000 := by rw [toL_len]; exact Nat.le_trans (nd_le _ _ (vL_lt l)) hlb
  have n2 : (toL (vL r)).length ≤ 100000 := by rw [toL_len]; exact Nat.le_trans (nd_le _ _ (vL_lt r)) hrb
  obtain ⟨D, hDe⟩ : ∃ D, D = toL (vL l) := ⟨_, rfl⟩
  obtain ⟨E, hEe⟩ : ∃ E, E = toL (vL r) := ⟨_, rfl⟩
  have hvl : vL D = vL l := by rw [hDe, vL_toL]
  have hvr : vL E = vL r := by rw [hEe, vL_toL]
  rw [← hDe] at n1
  rw [← hEe] at n2
  obtain ⟨M, hM⟩ : ∃ M, M = max D.length E.length := ⟨_, rfl⟩
  refine Fn.intro Tryz.func21 rfl Tryz.ntmps21 rfl (fun e he => ?_)
  refine J.weak [(0, _), (1, _)] ⟨rfl, rfl, trivial⟩ ?_
  have hh0 := Part.le.refl h
  refine Sr ?_
  refine Ru 1 rfl ?_
  refine JL.nil ?_
  refine Sr ?_
  refine Ru 1 rfl ?_
  refine JL.callR ca_56 rfl (rdigs_fn hl (by omega)) rfl ?_
  rintro _ h1 hle1 ⟨da, dc, rfl, hD⟩
  replace hl := hl.mono hle1
  replace hr := hr.mono hle1
  replace hh0 := hh0.mono hle1
  refine Ru 1 rfl ?_
  refine JL.callR ca_56 rfl (rdigs_fn hr (by omega)) rfl ?_
  rintro _ h2 hle2 ⟨ea, ec, rfl, hE⟩
  replace hl := hl.mono hle2
  replace hr := hr.mono hle2
  replace hh0 := hh0.mono hle2
  replace hD := hD.mono hle2
  rw [← hDe] at hD ⊢; rw [← hEe] at hE ⊢
  refine Ru 2 rfl ?_
  refine Nk [6, 5, 4] rfl ?_
  refine Sr ?_
  refine Ru 1 rfl ?_
  refine JL.nil ?_
  refine Sr ?_
  refine JL.row_nil 63 1 ?_
  refine Ru 1 rfl ?_
  refine JL.nil ?_
  refine J.seq ?_
  refine Sr ?_
  refine Ru 1 rfl ?_
  refine JL.nil ?_
  refine J.block ?_
  refine J.loop (fun t_ S_ h_ L_ => ∃ (i cy : Nat) (us : List UInt32) (ao : Option Addr) (co : Nat), t_ = 2 * (M + 1 - i) + cy ∧ S_ = [(5, .slice da D.length dc), (6, .slice ea E.length ec), (7, .slice ao (us.map m64).length co), (8, .int .u64 cy), (9, .int .i64 i)] ∧ h2 = h_ ∧ L_ = [.row ao co 63 1 (us.map m64).length (c64 (us.map m64))] ∧ (us.length = i ∧ vL us + cy * 4294967296 ^ i = vL (D.take i) + vL (E.take i) ∧ cy ≤ 1 ∧ i ≤ M + 1 ∧ (M < i → cy = 0))) ⟨_, _, ?_, ⟨0, 0, [], none, 0, rfl, rfl, rfl, rfl, ⟨rfl, by simp [vL], by omega, by omega, by omega⟩⟩⟩ ?_
  ·
   repeat (first | exact trivial | refine ⟨rfl, ?_⟩ | refine ⟨(by exact some_int (by omega)), ?_⟩)
  rintro _ _ _ _ ⟨i, cy, us, ao, co, rfl, rfl, rfl, rfl, hul, hev, hcy, hiM, hMi⟩
  refine J.seq ?_
  refine J.seq ?_
  refine J.meet [(27, .bool (decide (i < M ∨ 0 < cy)))] [(5, _), (6, _), (7, _), (8, _), (9, _)] ⟨rfl, rfl, rfl, rfl, rfl, trivial⟩ ?_ ?_
  ·
   refine Rg ?_
   refine Ru 5 rfl ?_
   refine Bs 18 rfl (fun hc3 => ?_) fun hc3 => ?_
   ·
    refine Ru 9 rfl ?_
    refine JL.nil ?_
    refine ⟨rfl, rfl, ?_⟩
    repeat (first | exact trivial | refine ⟨rfl, ?_⟩ | refine ⟨(by exact some_bool (by first | exact decide_eq_decide.2 (by omega) | exact (decide_eq_true (by omega)).symm | exact (decide_eq_false (by omega)).symm)), ?_⟩)
   ·
    refine Ru 6 rfl ?_
    refine Bs 24 rfl (fun hc4 => ?_) fun hc4 => ?_
    ·
     refine Ru 3 rfl ?_
     refine JL.nil ?_
     refine ⟨rfl, rfl, ?_⟩
     repeat (first | exact trivial | refine ⟨rfl, ?_⟩ | refine ⟨(by exact some_bool (by first | exact decide_eq_decide.2 (by omega) | exact (decide_eq_true (by omega)).symm | exact (decide_eq_false (by omega)).symm)), ?_⟩)
    ·
     refine Ru 3 rfl ?_
     refine JL.nil ?_
     refine ⟨rfl, rfl, ?_⟩
     repeat (first | exact trivial | refine ⟨rfl, ?_⟩ | refine ⟨(by exact some_bool (by first | exact decide_eq_decide.2 (by omega) | exact (decide_eq_true (by omega)).symm | exact (decide_eq_false (by omega)).symm)), ?_⟩)
  ·
   refine Cs rfl (fun hc5 => ?_) fun hc5 => ?_
   ·
    have hml : (us.map m64).length = us.length := List.length_map ..; have hd1 := d32_lt D i; have hd2 := d32_lt E i; have hz : M ≤ i → d32 D i = 0 ∧ d32 E i = 0 := (fun hh => ⟨d32_out D i (by omega), d32_out E i (by omega)⟩); obtain ⟨x, hx⟩ : ∃ x, x = cy + d32 D i + d32 E i := ⟨_, rfl⟩; have hst := radd_step hul hev hx
    refine J.skip ?_
    refine J.seq ?_
    refine J.block ?_
    refine Sr ?_
    refine Ru 3 rfl ?_
    refine JL.callP ca_57 rfl (dig_fn (l := D) (i := i) hD rfl) rfl ?_
    refine JL.op (by first | exact RunV.add_u64 rfl rfl (by omega) (by omega) | exact RunV.add rfl rfl) rfl ?_
    refine Ru 2 rfl ?_
    refine JL.callP ca_57 rfl (dig_fn (l := E) (i := i) hE rfl) rfl ?_
    refine JL.op (by first | exact RunV.add_u64 rfl rfl (by omega) (by omega) | exact RunV.add rfl rfl) rfl ?_
    rw [show (cy : Int) + (d32 D i : Int) + (d32 E i : Int) = (x : Int) by omega]
    refine Ru 1 rfl ?_
    refine JL.nil ?_
    refine Sr ?_
    refine Ru 2 rfl ?_
    refine JL.op (by first | exact RunV.rem_u64 rfl rfl (by omega) (by omega) | exact RunV.rem rfl rfl (by omega)) rfl ?_
    refine JL.lit1 ap_66 zr_63 rfl rfl rfl rfl rfl (fun b8 => ?_)
    refine JL.append1 ap_66 rfl rfl (cells_lit64 rfl) rfl dl_ dl_ rfl (elM) (by first | omega | (simp only [List.length_append, List.length_cons, List.length_nil]; omega)) rfl rfl (fun a9 c9 xs9 hC9 hN9 => ?_)
    obtain rfl := CellsR.u64 (l := us.map m64 ++ [m64 (UInt32.ofNat (x % 4294967296))]) (by assumption); rw [show us.map m64 ++ [m64 (UInt32.ofNat (x % 4294967296))] = (us ++ [UInt32.ofNat (x % 4294967296)]).map m64 by simp]
    refine Ru 1 rfl ?_
    refine JL.nil ?_
    refine Rg ?_
    refine Ru 1 rfl ?_
    refine JL.op (by first | exact RunV.quo_u64 rfl rfl (by omega) (by omega) (by omega) | exact RunV.quo rfl rfl (by omega)) rfl ?_
    refine Ru 1 rfl ?_
    refine JL.nil ?_
    refine Rg ?_
    refine Ru 1 rfl ?_
    refine JL.op ai_ rfl ?_
    refine Ru 1 rfl ?_
    refine JL.nil ?_
    refine ⟨_, ?_, _, ?_, ⟨i + 1, x / 4294967296, us ++ [UInt32.ofNat (x % 4294967296)], _, _, rfl, rfl, rfl, rfl, ⟨by simp [hul], hst, by omega, by omega, by omega⟩⟩⟩
    ·
     omega
    ·
     repeat (first | exact trivial | refine ⟨rfl, ?_⟩ | refine ⟨(by exact some_int (by omega)), ?_⟩)
   ·
    have hfin : vL us = vL l + vL r := (by rw [List.take_of_length_le (by omega), List.take_of_length_le (by omega), hvl, hvr] at hev; rw [← hev, show cy = 0 by omega]; simp)
    refine J.exit ?_
    refine Kp [7] rfl ?_
    refine Sr ?_
    refine JL.pub (R := u64R) (l := us.map m64) dl_ (cells_lit64 rfl) rfl (by rw [List.length_map]; omega) (fun hp hlep hSp => ?_); replace hl := hl.mono hlep; replace hr := hr.mono hlep; replace hh0 := hh0.mono hlep; replace hD := hD.mono hlep; replace hE := hE.mono hlep
    refine Ru 1 rfl ?_
    refine JL.callR ca_58 rfl (number32_fn (l := us) hSp (by simp) (by omega)) rfl ?_
    rintro _ h10 hle10 ⟨ra, rc, rfl, hR⟩
    replace hl := hl.mono hle10
    replace hr := hr.mono hle10
    replace hh0 := hh0.mono hle10
    replace hD := hD.mono hle10
    replace hE := hE.mono hle10
    refine Ru 1 rfl ?_
    refine JL.nil ?_
    rw [hfin] at hR ⊢; exact J.retR (RetV.one rfl rfl) ⟨_, _, rfl, hR⟩
theorem rwrite_bad {a : Option Addr} {c k : Nat} {l : List UInt32} {h : Part} (hl : SlR u32R 1 h a c l) (hlen : l.length ≤ 1000000) (hk : k ≤ 65536) (hb : 8 * k < nbits (d32 l) l.length) :
    FnR Tryz.prog 23 [.slice a l.length c, .int .i64 k] h (fun v _ => v = .tuple #[.slice none 0 0, .int .i64 12]) := by
  refine Fn.intro Tryz.func23 rfl Tryz.ntmps23 rfl (fun e he => ?_)
  refine J.weak [(0, _), (1, _)] ⟨rfl, rfl, trivial⟩ ?_
  have hh0 := Part.le.refl h
  refine Sr ?_
  refine Ru 2 rfl ?_
  refine JL.nil ?_
  refine J.seq ?_
  refine Sr ?_
  refine Ru 3 rfl ?_
  refine Bs 13 rfl (fun hc1 => ?_) fun hc1 => ?_
  ·
   exfalso; omega
  refine Ru 3 rfl ?_
  refine Nk [16, 5, 4, 0, 1] rfl ?_
  refine Cs rfl (fun hc2 => ?_) fun hc2 => ?_
  ·
   exfalso; omega
  refine J.skip ?_
  refine Sr ?_
  refine Ru 1 rfl ?_
  refine JL.callR ca_56 rfl (digits32_fn (by assumption) (by omega)) rfl ?_
  rintro _ h3 hle3 ⟨a3, c3, rfl, hS3⟩
  replace hl := hl.mono hle3
  replace hh0 := hh0.mono hle3
  refine Ru 1 rfl ?_
  refine JL.nil ?_
  refine J.seq ?_
  refine Sr ?_
  refine Ru 1 rfl ?_
  refine JL.callR ca_45 rfl (rbits_fn (by assumption) (by omega)) rfl ?_
  rintro _ h4 hle4 rfl
  replace hl := hl.mono hle4
  replace hh0 := hh0.mono hle4
  replace hS3 := hS3.mono hle4
  refine Ru 1 rfl ?_
  refine JL.op (by first | exact RunV.mul_i64 rfl rfl (by omega) (by omega) | exact RunV.mul rfl rfl) rfl ?_
  refine Ru 1 rfl ?_
  refine Nk [23, 6, 5, 4, 1] rfl ?_
  refine Cs rfl (fun hc5 => ?_) fun hc5 => ?_
  rotate_left
  ·
   exfalso; omega
  refine Sr ?_
  refine Ru 2 rfl ?_
  refine JL.nil ?_
  exact J.retR (RetV.two rfl rfl rfl) rfl
theorem rwrite_any {a : Option Addr} {c k m : Nat} {l : List UInt32} {h : Part} (hl : SlR u32R 1 h a c l) (hlen : l.length ≤ 1000000) (hk : k ≤ 65536) (hm : (m : Int) = k) :
    FnR Tryz.prog 23 [.slice a l.length c, .int .i64 m] h (fun v h' => ∃ a c t e, v = .tuple #[.slice a (List.length t) c, .int .i64 e] ∧ SlR u8R 1 h' a c t ∧ ((e = 0 ∧ t.length = k ∧ beV t = vL l) ∨ e = 12)) := by
  rw [hm]
  by_cases hb : nbits (d32 l) l.length ≤ 8 * k
  · refine (rwrite_fn hl hlen hk hb).mono fun v h' _ hh => ?_
    obtain ⟨a', c', rfl, hS⟩ := hh
    refine ⟨a', c', _, 0, rfl, hS, .inl ⟨rfl, ?_, ?_⟩⟩
    · rw [natW_be, be_len]
    · rw [natW_be, beV_be]
      exact Nat.mod_eq_of_lt (bl_256 (by rw [nbits_vL] at hb; exact hb))
  · refine (rwrite_bad hl hlen hk (by omega)).mono fun v h' _ hh => ?_
    exact ⟨none, 0, [], 12, hh, SlR.nil_, .inr rfl⟩
theorem prove63 {n : Int} {d s : List UInt8} {N E D : Nat} (hk : kformE n d N E D = 0) (h : s.length ≠ sizeB N ∨ N ≤ beV s) : proveE n d s N E D = 63 := by
  unfold proveE
  rw [if_neg (by rw [hk]; decide), if_pos h]
theorem add_len {x y M : Nat} (hx : (toL x).length ≤ M) (hy : (toL y).length ≤ M) : (toL (x + y)).length ≤ M + 1 := by
  rw [toL_len] at *
  have h1 : x < 4294967296 ^ M := Nat.lt_of_lt_of_le (by have := vL_lt (toL x); rwa [vL_toL, toL_len] at this) (Nat.pow_le_pow_right (by decide) hx)
  have h2 : y < 4294967296 ^ M := Nat.lt_of_lt_of_le (by have := vL_lt (toL y); rwa [vL_toL, toL_len] at this) (Nat.pow_le_pow_right (by decide) hy)
  refine nd_le _ _ ?_
  rw [Nat.pow_succ]
  omega
theorem SlR.le_refl {α : Type} {R : Rep α} {sz : Nat} {h : Part} {a : Option Addr} {c : Nat} {l : List α} (_ : SlR R sz h a c l) : h.le h := Part.le.refl h
theorem rsaother_fn {k : Int} {a : Option Addr} {c : Nat} {b : List UInt8} {z : UInt8} {h : Part} (hb : SlR u8R 1 h a c b) (hk0 : -9223372036854775808 ≤ k) (hk1 : k ≤ 9223372036854775807) (hT : Tabs h) :
    Pure Tryz.prog 6 [.int .i64 k, .slice a b.length c, .int .u8 (z.toNat : Int)] h (.bool true) := by
  refine Pure.ofV ?_
  obtain ⟨g0, g1⟩ := amongI_bd k 12 (by decide)
  obtain ⟨i, hi⟩ : ∃ i : Nat, i = (amongI k 12).toNat := ⟨_, rfl⟩
  have hi12 : i < 12 := by omega
  obtain ⟨r1, ⟨r2, r3, r4⟩, r5, r6, r7⟩ := kept_one hi12
  have rN := of_decide_eq_true r1
  have rN0 : 0 < keyN i := by omega
  refine Fn.intro Tryz.func6 rfl Tryz.ntmps6 rfl (fun e he => ?_)
  refine J.weak [(0, _), (1, _), (2, _)] ⟨rfl, rfl, rfl, trivial⟩ ?_
  have hh0 := Part.le.refl h
  refine Sr ?_
  refine Ru 1 rfl ?_
  refine JL.nil ?_
  refine Sr ?_
  refine Ru 1 rfl ?_
  refine JL.callR ca_19 rfl (rkept_fn hk0 hk1) rfl ?_
  rintro _ h1 hle1 ⟨an1, cn1, ae1, ce1, ad1, cd1, rfl, hN1, hE1, hD1⟩
  replace hb := hb.mono hle1
  replace hT := hT.mono hle1
  replace hh0 := hh0.mono hle1
  rw [← hi] at hN1 hE1 hD1 ⊢
  refine JL.alloc zr_32 rfl (fun b2 => ?_)
  refine JL.storeA ag_32 rfl rfl dl_ (by first | rfl) (by first | rfl | assumption) (by first | rfl) ?_
  refine JL.nil ?_
  refine Sr ?_
  refine Ru 1 rfl ?_
  refine JL.callR ca_20 rfl (digest_fn hb) rfl ?_
  rintro _ h3 hle3 ⟨da, dc, dl, rfl, hD, hDl⟩
  replace hb := hb.mono hle3
  replace hT := hT.mono hle3
  replace hh0 := hh0.mono hle3
  replace hN1 := hN1.mono hle3
  replace hE1 := hE1.mono hle3
  replace hD1 := hD1.mono hle3
  obtain ⟨e1, e2⟩ := kept_sign hi12 hDl; have ekf := kept_kform hi12 hDl
  refine Ru 1 rfl ?_
  refine Nk [8, 7, 6, 2] rfl ?_
  refine Sr ?_
  refine JL.op (RunV.ownA ag_32 rfl mm_ (by first | rfl)) rfl ?_
  refine Ru 1 rfl ?_
  refine JL.callR ca_15 rfl (psign_fn' (d := dl) hN1 hE1 hD1 hD hDl hT (by omega) (by omega)) rfl ?_
  rintro _ h4 hle4 ⟨s1, c1, rfl, hS1⟩
  replace hb := hb.mono hle4
  replace hT := hT.mono hle4
  replace hh0 := hh0.mono hle4
  replace hN1 := hN1.mono hle4
  replace hE1 := hE1.mono hle4
  replace hD1 := hD1.mono hle4
  replace hD := hD.mono hle4
  rw [vL_toL, vL_toL] at hS1 ⊢; rw [e1]; rw [e2] at hS1 ⊢; have hpf := pow_fit (beV (kformL 256 dl (keyN i) (keyE i) (vL (expL i)))) (vL (expL i)) (keyN i) rN0; obtain ⟨sg, hsg⟩ : ∃ sg, sg = numW (powV (beV (kformL 256 dl (keyN i) (keyE i) (vL (expL i)))) (vL (expL i)) (keyN i)) (sizeB (keyN i)) := ⟨_, rfl⟩; rw [← hsg] at hS1 ⊢; have hsl : sg.length = sizeB (keyN i) := (by rw [hsg, numW_be, be_len])
  refine Ru 5 rfl ?_
  refine Nk [10, 9, 8, 7, 6, 2] rfl ?_
  refine J.seq ?_
  refine Sr ?_
  refine Ru 3 rfl ?_
  refine Bs 28 rfl (fun hc5 => ?_) fun hc5 => ?_
  ·
   exfalso; (exact hc5 rfl)
  refine Ru 4 rfl ?_
  refine Nk [32, 9, 8, 7, 6, 2] rfl ?_
  refine Cs rfl (fun hc6 => ?_) fun hc6 => ?_
  ·
   exfalso; omega
  refine J.skip ?_
  refine Sr ?_
  refine Ru 2 rfl ?_
  refine JL.nil ?_
  refine Sr ?_
  refine Ru 2 rfl ?_
  refine JL.row_nil 5 1 ?_
  refine JL.append ap_22 rfl rfl (CellsR.nil (R := u8R)) rfl (by assumption) rfl dl_ (by first | omega | (simp only [List.length_append, List.length_cons, List.length_nil]; omega)) rfl rfl (fun a7 c7 xs7 hC7 hN7 => ?_)
  obtain rfl := hC7.u8
  refine Ru 1 rfl ?_
  refine JL.lit1 ap_22 zr_5 rfl rfl rfl rfl rfl (fun b8 => ?_)
  refine JL.append1 ap_22 rfl rfl CellsR.of_u8 rfl dl_ dl_ rfl (rfl) (by first | omega | (simp only [List.length_append, List.length_cons, List.length_nil]; omega)) rfl rfl (fun a9 c9 xs9 hC9 hN9 => ?_)
  obtain rfl := hC9.u8
  refine Ru 1 rfl ?_
  refine Nk [11, 12, 9, 8, 7, 6] rfl ?_
  refine Sr ?_
  refine Ru 1 rfl ?_
  refine JL.lit1 ap_22 zr_5 rfl rfl rfl rfl rfl (fun b10 => ?_)
  refine JL.own (L' := [.blk _ _ [.int .u8 (((0 : UInt8).toNat : Nat) : Int)], _, _]) (fun w hk => hk) ?_
  refine JL.row_nil 5 1 ?_
  refine JL.append1 ap_22 rfl rfl (CellsR.nil (R := u8R)) rfl dl_ dl_ rfl (rfl) (by first | omega | (simp only [List.length_append, List.length_cons, List.length_nil]; omega)) rfl rfl (fun a11 c11 xs11 hC11 hN11 => ?_)
  obtain rfl := hC11.u8
  refine Ru 1 rfl ?_
  refine JL.append ap_22 rfl rfl CellsR.of_u8 rfl (by assumption) rfl dl_ (by first | omega | (simp only [List.length_append, List.length_cons, List.length_nil]; omega)) rfl rfl (fun a12 c12 xs12 hC12 hN12 => ?_)
  obtain rfl := hC12.u8
  refine Ru 1 rfl ?_
  refine JL.pub (R := u8R) (l := [] ++ sg ++ [z]) dl_ CellsR.of_u8 rfl (by simp; omega) (fun hp1 hlep1 hMore => ?_); refine JL.pub (R := u8R) (l := [] ++ [0] ++ sg) dl_ CellsR.of_u8 rfl (by simp; omega) (fun hp2 hlep2 hAhead => ?_); replace hMore := hMore.mono hlep2; replace hb := hb.mono (hlep1.trans hlep2); replace hT := hT.mono (hlep1.trans hlep2); replace hh0 := hh0.mono (hlep1.trans hlep2); replace hN1 := hN1.mono (hlep1.trans hlep2); replace hE1 := hE1.mono (hlep1.trans hlep2); replace hD1 := hD1.mono (hlep1.trans hlep2); replace hD := hD.mono (hlep1.trans hlep2); replace hS1 := hS1.mono (hlep1.trans hlep2)
  refine Nk [12, 11, 9, 8, 7, 6] rfl ?_
  refine J.seq ?_
  refine J.held ([.blk b2 32 [.slice an1 (toL (keyN i)).length cn1, .slice ae1 (toL (keyE i)).length ce1, .slice ad1 (expL i).length cd1]]) 6 mixed_ rfl (fun h00 => ?_)
  refine JH.take 0 rfl (by kernel_rfl) (by kernel_rfl) (by kernel_rfl) (fun _ _ _ _ hh => hh) (br_ h00) (RunV.move rfl) rfl ?_
  refine JH.take 2 rfl (by kernel_rfl) (by kernel_rfl) (by kernel_rfl) (fun _ _ _ _ hh => hh) (br_ h00) (by first | exact RunV.fieldAt0 fo_32_0 rfl | exact RunV.fieldAt fo_32_0 rfl) rfl ?_
  refine JH.take 3 rfl (by kernel_rfl) (by kernel_rfl) (by kernel_rfl) (fun _ _ _ _ hh => hh) (br_ h00) (RunV.own1 ag_30 rfl mm_ rfl) rfl ?_
  refine JH.all1 1 (by kernel_rfl) rfl ?_
  unfold One
  refine JL.callR ca_22 rfl (rread_fn hS1 (by omega)) rfl ?_
  rintro _ h13 hle13 ⟨ra, rc, rfl, hR⟩
  replace hb := hb.mono hle13
  replace hT := hT.mono hle13
  replace hh0 := hh0.mono hle13
  replace hN1 := hN1.mono hle13
  replace hE1 := hE1.mono hle13
  replace hD1 := hD1.mono hle13
  replace hD := hD.mono hle13
  replace hS1 := hS1.mono hle13
  replace hMore := hMore.mono hle13
  replace hAhead := hAhead.mono hle13
  have hsgl := toL_beV_len sg
  refine JL.nil ⟨(br_ h00), ?_⟩
  refine JH.all1 4 (by kernel_rfl) rfl ?_
  unfold One
  refine JL.callR ca_21 rfl (radd_fn hR hN1 (by omega) (by omega)) rfl ?_
  rintro _ h14 hle14 ⟨ua, uc, rfl, hU⟩
  replace hb := hb.mono hle14
  replace hT := hT.mono hle14
  replace hh0 := hh0.mono hle14
  replace hN1 := hN1.mono hle14
  replace hE1 := hE1.mono hle14
  replace hD1 := hD1.mono hle14
  replace hD := hD.mono hle14
  replace hS1 := hS1.mono hle14
  replace hMore := hMore.mono hle14
  replace hAhead := hAhead.mono hle14
  replace hR := hR.mono hle14
  rw [vL_toL, vL_toL] at hU ⊢; have hul : (toL (beV sg + keyN i)).length ≤ 1001 := add_len (by omega) (by omega)
  refine JL.nil ⟨(br_ h00), ?_⟩
  refine JH.take 5 rfl (by kernel_rfl) (by kernel_rfl) (by kernel_rfl) (fun _ _ _ _ hh => hh) (br_ h00) (RunV.assign rfl) rfl ?_
  refine JH.done (by kernel_rfl) ?_
  refine Kp [13, 12, 11, 9, 8, 7, 6] rfl ?_
  refine Sr ?_
  refine Ru 3 rfl ?_
  refine JL.callR ca_23 rfl (rwrite_any (k := sizeB (keyN i)) hU (by omega) (by omega) (by omega)) rfl ?_
  rintro _ h15 hle15 ⟨wa, wc, tt, te, rfl, hW, hor⟩
  replace hb := hb.mono hle15
  replace hT := hT.mono hle15
  replace hh0 := hh0.mono hle15
  replace hN1 := hN1.mono hle15
  replace hE1 := hE1.mono hle15
  replace hD1 := hD1.mono hle15
  replace hD := hD.mono hle15
  replace hS1 := hS1.mono hle15
  replace hMore := hMore.mono hle15
  replace hAhead := hAhead.mono hle15
  replace hR := hR.mono hle15
  replace hU := hU.mono hle15
  rw [vL_toL] at hor
  refine Ru 5 rfl ?_
  refine Nk [15, 14, 12, 11, 9, 8, 7, 6] rfl ?_
  refine J.seq ?_
  refine Sr ?_
  refine Ru 3 rfl ?_
  refine Bs 58 rfl (fun hc16 => ?_) fun hc16 => ?_
  ·
   refine JL.opg rfl rfl  (RunV.ownA ag_32 rfl mm_ (by first | rfl)) rfl ?_
   refine Ru 2 rfl ?_
   refine JL.callRg rfl rfl  ca_17 rfl (pprove_fn' (d := dl) hN1 hE1 hD1 hD hDl hW rfl hT (by omega) (by omega) (by have := hor.resolve_right (by omega); omega)) rfl ?_
   rintro _ h17 hle17 rfl
   replace hb := hb.mono hle17
   replace hT := hT.mono hle17
   replace hh0 := hh0.mono hle17
   replace hN1 := hN1.mono hle17
   replace hE1 := hE1.mono hle17
   replace hD1 := hD1.mono hle17
   replace hD := hD.mono hle17
   replace hS1 := hS1.mono hle17
   replace hMore := hMore.mono hle17
   replace hAhead := hAhead.mono hle17
   replace hR := hR.mono hle17
   replace hU := hU.mono hle17
   replace hW := hW.mono hle17
   rw [vL_toL, vL_toL]; rw [prove63 ekf (.inr (by have := hor.resolve_right (by omega); omega))]
   refine Ru 2 rfl ?_
   refine Nk [64, 12, 11, 9, 8, 7, 6] rfl ?_
   refine Cs rfl (fun hc18 => ?_) fun hc18 => ?_
   ·
    exfalso; (exact hc18 rfl)
   refine J.skip ?_
   refine J.seq ?_
   refine J.held ([.blk b2 32 [.slice an1 (toL (keyN i)).length cn1, .slice ae1 (toL (keyE i)).length ce1, .slice ad1 (expL i).length cd1]]) 24 mixed_ rfl (fun h00 => ?_)
   have hS0 := hS1; have hst := hS1.le_refl
   refine JH.take 0 rfl (by kernel_rfl) (by kernel_rfl) (by kernel_rfl) (fun _ _ _ _ hh => hh) (br_ h00) (RunV.ownA ag_32 rfl mm_ (by first | rfl)) rfl ?_
   refine JH.take 1 rfl (by kernel_rfl) (by kernel_rfl) (by kernel_rfl) (fun _ _ _ _ hh => hh) (br_ h00) (RunV.move rfl) rfl ?_
   refine JH.take 2 rfl (by kernel_rfl) (by kernel_rfl) (by kernel_rfl) (fun _ _ _ _ hh => hh) (br_ h00) (RunV.move rfl) rfl ?_
   refine JH.all1 3 (by kernel_rfl) rfl ?_
   unfold One
   refine JL.callR ca_17 rfl (pprove_fn' (d := dl) (s := [] ++ sg ++ [z]) hN1 hE1 hD1 hD hDl hMore rfl hT (by omega) (by omega) (by simp; omega)) rfl ?_
   rintro _ h19 hle19 rfl
   replace hb := hb.mono hle19
   replace hT := hT.mono hle19
   replace hh0 := hh0.mono hle19
   replace hN1 := hN1.mono hle19
   replace hE1 := hE1.mono hle19
   replace hD1 := hD1.mono hle19
   replace hD := hD.mono hle19
   replace hS1 := hS1.mono hle19
   replace hMore := hMore.mono hle19
   replace hAhead := hAhead.mono hle19
   replace hR := hR.mono hle19
   replace hU := hU.mono hle19
   replace hW := hW.mono hle19
   replace hst := hst.mono hle19
   rw [vL_toL, vL_toL]; rw [prove63 ekf (.inl (by simp; omega))]
   refine JL.nil ⟨(br_ h00), ?_⟩
   refine JH.take 4 rfl (by kernel_rfl) (by kernel_rfl) (by kernel_rfl) (fun _ _ _ _ hh => hh) (br_ h00) (RunV.eql rfl rfl) rfl ?_
   refine JH.take 5 rfl (by kernel_rfl) (by kernel_rfl) (by kernel_rfl) (fun _ _ _ _ hh => hh) (br_ h00) (RunV.move rfl) rfl ?_
   refine Bh 70 rfl (fun hc20 => ?_) fun hc20 => ?_
   ·
    refine JH.takeG 6 rfl rfl rfl (by kernel_rfl) (by kernel_rfl) (by kernel_rfl) (fun _ _ _ _ hh => hh) (br_ h00) (RunV.ownA ag_32 rfl mm_ (by first | rfl)) rfl ?_
    refine JH.takeG 7 rfl rfl rfl (by kernel_rfl) (by kernel_rfl) (by kernel_rfl) (fun _ _ _ _ hh => hh) (br_ h00) (RunV.move rfl) rfl ?_
    refine JH.takeG 8 rfl rfl rfl (by kernel_rfl) (by kernel_rfl) (by kernel_rfl) (fun _ _ _ _ hh => hh) (br_ h00) (RunV.move rfl) rfl ?_
    refine JH.all1 9 (by kernel_rfl) rfl ?_
    unfold One
    refine JL.callRg rfl rfl  ca_17 rfl (pprove_fn' (d := dl) (s := [] ++ [0] ++ sg) hN1 hE1 hD1 hD hDl hAhead rfl hT (by omega) (by omega) (by simp; omega)) rfl ?_
    rintro _ h21 hle21 rfl
    replace hb := hb.mono hle21
    replace hT := hT.mono hle21
    replace hh0 := hh0.mono hle21
    replace hN1 := hN1.mono hle21
    replace hE1 := hE1.mono hle21
    replace hD1 := hD1.mono hle21
    replace hD := hD.mono hle21
    replace hS1 := hS1.mono hle21
    replace hMore := hMore.mono hle21
    replace hAhead := hAhead.mono hle21
    replace hR := hR.mono hle21
    replace hU := hU.mono hle21
    replace hW := hW.mono hle21
    replace hst := hst.mono hle21
    rw [vL_toL, vL_toL]; rw [prove63 ekf (.inl (by simp; omega))]
    refine JL.nil ⟨(br_ h00), ?_⟩
    refine JH.takeG 10 rfl rfl rfl (by kernel_rfl) (by kernel_rfl) (by kernel_rfl) (fun _ _ _ _ hh => hh) (br_ h00) (RunV.eql rfl rfl) rfl ?_
    refine JH.take 11 rfl (by kernel_rfl) (by kernel_rfl) (by kernel_rfl) (fun _ _ _ _ hh => hh) (br_ h00) (RunV.pick_t rfl rfl) rfl ?_
    refine JH.take 12 rfl (by kernel_rfl) (by kernel_rfl) (by kernel_rfl) (fun _ _ _ _ hh => hh) (br_ h00) (RunV.move rfl) rfl ?_
    refine Bh 77 rfl (fun hc22 => ?_) fun hc22 => ?_
    ·
     refine JH.takeG 13 rfl rfl rfl (by kernel_rfl) (by kernel_rfl) (by kernel_rfl) (fun _ _ _ _ hh => hh) (br_ h00) (RunV.ownA ag_32 rfl mm_ (by first | rfl)) rfl ?_
     refine JH.takeG 14 rfl rfl rfl (by kernel_rfl) (by kernel_rfl) (by kernel_rfl) (fun _ _ _ _ hh => hh) (br_ h00) (RunV.move rfl) rfl ?_
     refine JH.takeG 15 rfl rfl rfl (by kernel_rfl) (by kernel_rfl) (by kernel_rfl) (fun _ _ _ _ hh => hh) (br_ h00) (RunV.move rfl) rfl ?_
     refine JH.takeEG 16 rfl rfl rfl (by kernel_rfl) (by kernel_rfl) (by kernel_rfl) (fun _ _ _ _ hh => hh) (br_ h00) (RunE.cut_l (m := 1) sl_22 rfl rfl rfl hS0 rfl (by omega)) rfl ?_
     rintro _ ⟨xa, xc, rfl, hX⟩
     refine JH.all1 17 (by kernel_rfl) rfl ?_
     unfold One
     refine JL.callRg rfl rfl  ca_17 rfl (pprove_fn' (d := dl) (s := sg.drop 1) hN1 hE1 hD1 hD hDl (hX.mono hst) rfl hT (by omega) (by omega) (by simp; omega)) rfl ?_
     rintro _ h24 hle24 rfl
     replace hb := hb.mono hle24
     replace hT := hT.mono hle24
     replace hh0 := hh0.mono hle24
     replace hN1 := hN1.mono hle24
     replace hE1 := hE1.mono hle24
     replace hD1 := hD1.mono hle24
     replace hD := hD.mono hle24
     replace hS1 := hS1.mono hle24
     replace hMore := hMore.mono hle24
     replace hAhead := hAhead.mono hle24
     replace hR := hR.mono hle24
     replace hU := hU.mono hle24
     replace hW := hW.mono hle24
     replace hst := hst.mono hle24
     rw [vL_toL, vL_toL]; rw [prove63 ekf (.inl (by simp; omega))]
     refine JL.nil ⟨(br_ h00), ?_⟩
     refine JH.takeG 18 rfl rfl rfl (by kernel_rfl) (by kernel_rfl) (by kernel_rfl) (fun _ _ _ _ hh => hh) (br_ h00) (RunV.eql rfl rfl) rfl ?_
     refine JH.take 19 rfl (by kernel_rfl) (by kernel_rfl) (by kernel_rfl) (fun _ _ _ _ hh => hh) (br_ h00) (RunV.pick_t rfl rfl) rfl ?_
     refine JH.take 20 rfl (by kernel_rfl) (by kernel_rfl) (by kernel_rfl) (fun _ _ _ _ hh => hh) (br_ h00) (RunV.move rfl) rfl ?_
     refine Bh 85 rfl (fun hc25 => ?_) fun hc25 => ?_
     ·
      refine JH.all1 21 (by kernel_rfl) rfl ?_
      unfold One
      refine JL.callPg rfl rfl  ca_10 rfl (fixed_fn (by assumption)) rfl ?_
      refine JL.nil ⟨(br_ h00), ?_⟩
      refine JH.take 22 rfl (by kernel_rfl) (by kernel_rfl) (by kernel_rfl) (fun _ _ _ _ hh => hh) (br_ h00) (RunV.pick_t rfl rfl) rfl ?_
      refine JH.take 23 rfl (by kernel_rfl) (by kernel_rfl) (by kernel_rfl) (fun _ _ _ _ hh => hh) (br_ h00) (RunV.assign rfl) rfl ?_
      refine JH.done (by kernel_rfl) ?_
      refine Kp [6] rfl ?_
      exact J.retV (RetV.one rfl rfl) rfl
     ·
      exact absurd rfl hc25 
    ·
     exact absurd rfl hc22 
   ·
    exact absurd rfl hc20 
  ·
   refine Ru 6 rfl ?_
   refine Nk [64, 12, 11, 9, 8, 7, 6] rfl ?_
   refine J.cond_f rfl ?_
   refine J.skip ?_
   refine J.seq ?_
   refine J.held ([.blk b2 32 [.slice an1 (toL (keyN i)).length cn1, .slice ae1 (toL (keyE i)).length ce1, .slice ad1 (expL i).length cd1]]) 24 mixed_ rfl (fun h00 => ?_)
   have hS0 := hS1; have hst := hS1.le_refl
   refine JH.take 0 rfl (by kernel_rfl) (by kernel_rfl) (by kernel_rfl) (fun _ _ _ _ hh => hh) (br_ h00) (RunV.ownA ag_32 rfl mm_ (by first | rfl)) rfl ?_
   refine JH.take 1 rfl (by kernel_rfl) (by kernel_rfl) (by kernel_rfl) (fun _ _ _ _ hh => hh) (br_ h00) (RunV.move rfl) rfl ?_
   refine JH.take 2 rfl (by kernel_rfl) (by kernel_rfl) (by kernel_rfl) (fun _ _ _ _ hh => hh) (br_ h00) (RunV.move rfl) rfl ?_
   refine JH.all1 3 (by kernel_rfl) rfl ?_
   unfold One
   refine JL.callR ca_17 rfl (pprove_fn' (d := dl) (s := [] ++ sg ++ [z]) hN1 hE1 hD1 hD hDl hMore rfl hT (by omega) (by omega) (by simp; omega)) rfl ?_
   rintro _ h27 hle27 rfl
   replace hb := hb.mono hle27
   replace hT := hT.mono hle27
   replace hh0 := hh0.mono hle27
   replace hN1 := hN1.mono hle27
   replace hE1 := hE1.mono hle27
   replace hD1 := hD1.mono hle27
   replace hD := hD.mono hle27
   replace hS1 := hS1.mono hle27
   replace hMore := hMore.mono hle27
   replace hAhead := hAhead.mono hle27
   replace hR := hR.mono hle27
   replace hU := hU.mono hle27
   replace hW := hW.mono hle27
   replace hst := hst.mono hle27
   rw [vL_toL, vL_toL]; rw [prove63 ekf (.inl (by simp; omega))]
   refine JL.nil ⟨(br_ h00), ?_⟩
   refine JH.take 4 rfl (by kernel_rfl) (by kernel_rfl) (by kernel_rfl) (fun _ _ _ _ hh => hh) (br_ h00) (RunV.eql rfl rfl) rfl ?_
   refine JH.take 5 rfl (by kernel_rfl) (by kernel_rfl) (by kernel_rfl) (fun _ _ _ _ hh => hh) (br_ h00) (RunV.move rfl) rfl ?_
   refine Bh 70 rfl (fun hc28 => ?_) fun hc28 => ?_
   ·
    refine JH.takeG 6 rfl rfl rfl (by kernel_rfl) (by kernel_rfl) (by kernel_rfl) (fun _ _ _ _ hh => hh) (br_ h00) (RunV.ownA ag_32 rfl mm_ (by first | rfl)) rfl ?_
    refine JH.takeG 7 rfl rfl rfl (by kernel_rfl) (by kernel_rfl) (by kernel_rfl) (fun _ _ _ _ hh => hh) (br_ h00) (RunV.move rfl) rfl ?_
    refine JH.takeG 8 rfl rfl rfl (by kernel_rfl) (by kernel_rfl) (by kernel_rfl) (fun _ _ _ _ hh => hh) (br_ h00) (RunV.move rfl) rfl ?_
    refine JH.all1 9 (by kernel_rfl) rfl ?_
    unfold One
    refine JL.callRg rfl rfl  ca_17 rfl (pprove_fn' (d := dl) (s := [] ++ [0] ++ sg) hN1 hE1 hD1 hD hDl hAhead rfl hT (by omega) (by omega) (by simp; omega)) rfl ?_
    rintro _ h29 hle29 rfl
    replace hb := hb.mono hle29
    replace hT := hT.mono hle29
    replace hh0 := hh0.mono hle29
    replace hN1 := hN1.mono hle29
    replace hE1 := hE1.mono hle29
    replace hD1 := hD1.mono hle29
    replace hD := hD.mono hle29
    replace hS1 := hS1.mono hle29
    replace hMore := hMore.mono hle29
    replace hAhead := hAhead.mono hle29
    replace hR := hR.mono hle29
    replace hU := hU.mono hle29
    replace hW := hW.mono hle29
    replace hst := hst.mono hle29
    rw [vL_toL, vL_toL]; rw [prove63 ekf (.inl (by simp; omega))]
    refine JL.nil ⟨(br_ h00), ?_⟩
    refine JH.takeG 10 rfl rfl rfl (by kernel_rfl) (by kernel_rfl) (by kernel_rfl) (fun _ _ _ _ hh => hh) (br_ h00) (RunV.eql rfl rfl) rfl ?_
    refine JH.take 11 rfl (by kernel_rfl) (by kernel_rfl) (by kernel_rfl) (fun _ _ _ _ hh => hh) (br_ h00) (RunV.pick_t rfl rfl) rfl ?_
    refine JH.take 12 rfl (by kernel_rfl) (by kernel_rfl) (by kernel_rfl) (fun _ _ _ _ hh => hh) (br_ h00) (RunV.move rfl) rfl ?_
    refine Bh 77 rfl (fun hc30 => ?_) fun hc30 => ?_
    ·
     refine JH.takeG 13 rfl rfl rfl (by kernel_rfl) (by kernel_rfl) (by kernel_rfl) (fun _ _ _ _ hh => hh) (br_ h00) (RunV.ownA ag_32 rfl mm_ (by first | rfl)) rfl ?_
     refine JH.takeG 14 rfl rfl rfl (by kernel_rfl) (by kernel_rfl) (by kernel_rfl) (fun _ _ _ _ hh => hh) (br_ h00) (RunV.move rfl) rfl ?_
     refine JH.takeG 15 rfl rfl rfl (by kernel_rfl) (by kernel_rfl) (by kernel_rfl) (fun _ _ _ _ hh => hh) (br_ h00) (RunV.move rfl) rfl ?_
     refine JH.takeEG 16 rfl rfl rfl (by kernel_rfl) (by kernel_rfl) (by kernel_rfl) (fun _ _ _ _ hh => hh) (br_ h00) (RunE.cut_l (m := 1) sl_22 rfl rfl rfl hS0 rfl (by omega)) rfl ?_
     rintro _ ⟨xa, xc, rfl, hX⟩
     refine JH.all1 17 (by kernel_rfl) rfl ?_
     unfold One
     refine JL.callRg rfl rfl  ca_17 rfl (pprove_fn' (d := dl) (s := sg.drop 1) hN1 hE1 hD1 hD hDl (hX.mono hst) rfl hT (by omega) (by omega) (by simp; omega)) rfl ?_
     rintro _ h32 hle32 rfl
     replace hb := hb.mono hle32
     replace hT := hT.mono hle32
     replace hh0 := hh0.mono hle32
     replace hN1 := hN1.mono hle32
     replace hE1 := hE1.mono hle32
     replace hD1 := hD1.mono hle32
     replace hD := hD.mono hle32
     replace hS1 := hS1.mono hle32
     replace hMore := hMore.mono hle32
     replace hAhead := hAhead.mono hle32
     replace hR := hR.mono hle32
     replace hU := hU.mono hle32
     replace hW := hW.mono hle32
     replace hst := hst.mono hle32
     rw [vL_toL, vL_toL]; rw [prove63 ekf (.inl (by simp; omega))]
     refine JL.nil ⟨(br_ h00), ?_⟩
     refine JH.takeG 18 rfl rfl rfl (by kernel_rfl) (by kernel_rfl) (by kernel_rfl) (fun _ _ _ _ hh => hh) (br_ h00) (RunV.eql rfl rfl) rfl ?_
     refine JH.take 19 rfl (by kernel_rfl) (by kernel_rfl) (by kernel_rfl) (fun _ _ _ _ hh => hh) (br_ h00) (RunV.pick_t rfl rfl) rfl ?_
     refine JH.take 20 rfl (by kernel_rfl) (by kernel_rfl) (by kernel_rfl) (fun _ _ _ _ hh => hh) (br_ h00) (RunV.move rfl) rfl ?_
     refine Bh 85 rfl (fun hc33 => ?_) fun hc33 => ?_
     ·
      refine JH.all1 21 (by kernel_rfl) rfl ?_
      unfold One
      refine JL.callPg rfl rfl  ca_10 rfl (fixed_fn (by assumption)) rfl ?_
      refine JL.nil ⟨(br_ h00), ?_⟩
      refine JH.take 22 rfl (by kernel_rfl) (by kernel_rfl) (by kernel_rfl) (fun _ _ _ _ hh => hh) (br_ h00) (RunV.pick_t rfl rfl) rfl ?_
      refine JH.take 23 rfl (by kernel_rfl) (by kernel_rfl) (by kernel_rfl) (fun _ _ _ _ hh => hh) (br_ h00) (RunV.assign rfl) rfl ?_
      refine JH.done (by kernel_rfl) ?_
      refine Kp [6] rfl ?_
      exact J.retV (RetV.one rfl rfl) rfl
     ·
      exact absurd rfl hc33 
    ·
     exact absurd rfl hc30 
   ·
    exact absurd rfl hc28
end Go.Proofs.YtmngjbefnloljaaGreatDoor
