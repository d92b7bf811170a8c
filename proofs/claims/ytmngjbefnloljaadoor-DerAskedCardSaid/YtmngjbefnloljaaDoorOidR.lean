/- Walks: the reference's object identifiers. -/
import Derived.Test.YtmngjbefnloljaaDoorOidP
import Derived.Test.YtmngjbefnloljaaDoorDerK
import Derived.Test.YtmngjbefnloljaaDoorTxr
set_option linter.unusedSimpArgs false
set_option linter.unusedVariables false
set_option linter.constructorNameAsVariable false
namespace Go.Proofs.YtmngjbefnloljaaDoor
open Go Go.RowKit
set_option maxRecDepth 100000
theorem ag_100 : aggT Tryd.prog 100 = some none := by kernel_rfl
theorem ap_75 : apT Tryd.prog 75 = some (100, 1, 8) := by kernel_rfl
theorem ca_121 : callT Tryd.prog 121 = true := by kernel_rfl
theorem ca_122 : callT Tryd.prog 122 = true := by kernel_rfl
theorem ca_137 : callT Tryd.prog 137 = true := by kernel_rfl
theorem ca_138 : callT Tryd.prog 138 = true := by kernel_rfl
theorem ca_143 : callT Tryd.prog 143 = true := by kernel_rfl
theorem sl_75 : slT Tryd.prog 75 = some (100, 1) := by kernel_rfl
theorem zr_100 : zeroT Tryd.prog 100 = some [.int .u64 0] := by kernel_rfl

/-! ## digits -/
theorem dgo_stop {f m len least : Nat} (h : ¬ (0 < m ∨ len < least)) : dgo f m len least = [] := dgo_end h
theorem rdigits_fn {n least : Nat} {h : Part} (hn : n < 18446744073709551616) (hl : least ≤ 20) : Pure Tryd.prog 121 [.int .u64 n, .int .i64 least] h (.string ⟨(dgs n least).toArray⟩) := by
  refine Pure.ofV ?_
  refine Fn.intro Tryd.func121 rfl Tryd.ntmps121 rfl (fun e he => ?_)
  refine J.weak [(0, _), (1, _)] ⟨rfl, rfl, trivial⟩ ?_
  have hh0 := Part.le.refl h
  refine Sr ?_
  refine Ru 1 rfl ?_
  refine JL.nil ?_
  refine Sr ?_
  refine Ru 1 rfl ?_
  refine JL.nil ?_
  refine J.seq ?_
  refine J.block ?_
  refine J.loop (fun t_ S_ h_ L_ => ∃ (g : Part) (f m : Nat) (s : List UInt8), t_ = f + m ∧ S_ = [(0, .int .u64 m), (1, .int .i64 least), (5, .string ⟨s.toArray⟩)] ∧ g = h_ ∧ L_ = [] ∧ (h.le g ∧ s.length + f = 20 ∧ m < 18446744073709551616 ∧ m < 10 ^ f ∧ dgs n least = dgo f m s.length least ++ s)) ⟨_, _, ?_, ⟨_, 20, n, [], rfl, rfl, rfl, rfl, ⟨by assumption, rfl, hn, by simp only [Nat.reducePow]; omega, by simp [dgs]⟩⟩⟩ ?_
  ·
   repeat (first | exact trivial | refine ⟨rfl, ?_⟩)
  rintro _ _ _ _ ⟨g, f, m, s, rfl, rfl, rfl, rfl, hhg, hf, hm1, hm, he⟩
  refine J.seq ?_
  refine J.seq ?_
  refine J.meet [(13, .bool (decide (0 < m ∨ s.length < least)))] [(0, _), (1, _), (5, _)] ⟨rfl, rfl, rfl, trivial⟩ ?_ ?_
  ·
   refine Rg ?_
   refine Ru 3 rfl ?_
   refine Bs 8 rfl (fun hc1 => ?_) fun hc1 => ?_
   ·
    refine Ru 5 rfl ?_
    refine JL.nil ?_
    refine ⟨rfl, rfl, ?_⟩
    repeat (first | exact trivial | refine ⟨rfl, ?_⟩ | refine ⟨(by exact some_bool (by first | exact decide_eq_decide.2 (by omega) | exact (decide_eq_false (by omega)).symm | exact (decide_eq_true (by omega)).symm)), ?_⟩)
   ·
    refine Ru 1 rfl ?_
    refine JL.opg rfl rfl  (RunV.lenS un_9 rfl) rfl ?_
    refine Ru 3 rfl ?_
    refine JL.nil ?_
    refine ⟨rfl, rfl, ?_⟩
    repeat (first | exact trivial | refine ⟨rfl, ?_⟩ | refine ⟨(by exact some_bool (by first | exact decide_eq_decide.2 (by omega) | exact (decide_eq_false (by omega)).symm | exact (decide_eq_true (by omega)).symm)), ?_⟩)
  ·
   refine Cs rfl (fun hc2 => ?_) fun hc2 => ?_
   ·
    obtain ⟨f', rfl⟩ : ∃ f', f = f' + 1 := ⟨f - 1, by have : f ≠ 0 := (by rintro rfl; simp at hm; omega); omega⟩; rw [Nat.pow_succ] at hm
    refine J.skip ?_
    refine J.block ?_
    refine Sr ?_
    refine Ru 1 rfl ?_
    refine JL.op (by first | exact RunV.rem_u64 rfl rfl (by omega) (by omega) | exact RunV.rem rfl rfl (by omega)) rfl ?_
    refine JL.op (by first | exact RunV.add_u64 rfl rfl (by omega) (by omega) | exact RunV.add rfl rfl) rfl ?_
    refine JL.op (RunV.toByte (48 + m % 10) cv_100_5 rfl (by omega)) rfl ?_
    refine JL.lit1 ap_22 zr_5 rfl rfl rfl rfl rfl (fun b3 => ?_)
    refine JL.pubB (R := u8R) (sz := 1) (l := [UInt8.ofNat (48 + m % 10)]) (by repeat (first | exact Del.here | apply Del.there)) (cells_lit (by first | kernel_rfl | rfl)) (by first | decide | omega | (simp; done)) (fun h4 hle4 hQ => ?_)
    replace hhg := hhg.mono hle4
    refine JL.op (RunV.strB (l := [UInt8.ofNat (48 + m % 10)]) sb_22_9 rfl hQ rfl) rfl ?_
    refine Ru 1 rfl ?_
    refine JL.op (RunV.addS rfl rfl (by simp; omega)) rfl ?_
    refine Ru 1 rfl ?_
    refine JL.nil ?_
    refine Rg ?_
    refine Ru 1 rfl ?_
    refine JL.op (by first | exact RunV.quo_u64 rfl rfl (by omega) (by omega) (by omega) | exact RunV.quo rfl rfl (by omega)) rfl ?_
    refine Ru 1 rfl ?_
    refine JL.nil ?_
    refine ⟨_, ?_, _, ?_, ⟨_, f', m / 10, [UInt8.ofNat (48 + m % 10)] ++ s, rfl, rfl, rfl, rfl, ⟨by assumption, by simp; omega, by omega, by omega, by rw [he, dgo, if_pos (by omega)]; simp⟩⟩⟩
    ·
     omega
    ·
     repeat (first | exact trivial | refine ⟨rfl, ?_⟩)
   ·
    have hds : dgs n least = s := (by rw [he, dgo_stop (by omega)]; rfl)
    refine J.exit ?_
    refine Sr ?_
    refine Ru 2 rfl ?_
    refine Nk [4] rfl ?_
    exact J.retV (RetV.one rfl rfl) (by rw [hds])
theorem rdigits_fn' {n least : Nat} {N Q : Int} {h : Part} (hN : N = (n : Int)) (hQ : Q = (least : Int)) (hn : n < 18446744073709551616) (hl : least ≤ 20) : Pure Tryd.prog 121 [.int .u64 N, .int .i64 Q] h (.string ⟨(dgs n least).toArray⟩) := by
  subst hN hQ; exact rdigits_fn hn hl

/-! ## a number -/
def numR (s : List UInt8) : Nat := if numBad s || !s.all dig then 0 else numV s
theorem numR_bad {s : List UInt8} (h : s.length = 0 ∨ 19 < s.length ∨ 1 < s.length ∧ byteAt s 0 = 48) : numR s = 0 ∧ numB s = none := by
  have hb : numBad s = true := decide_eq_true h
  simp [numR, numB, hb]
theorem numR_no {s : List UInt8} {i : Nat} (h : i < s.length) (hd : ¬ (48 ≤ byteAt s i ∧ byteAt s i ≤ 57)) : numR s = 0 ∧ numB s = none := by
  have hb : s.all dig = false := by
    rw [List.all_eq_false]
    refine ⟨s[i], List.getElem_mem _, ?_⟩
    have e := byteAt_eq s i h
    unfold dig
    rw [decide_eq_false (by omega)]
    decide
  unfold numR numB; rw [hb]; simp
theorem numR_ok {s : List UInt8} (h : ¬ (s.length = 0 ∨ 19 < s.length ∨ 1 < s.length ∧ byteAt s 0 = 48)) (hd : s.all dig = true) : numR s = numV s ∧ (numB s).isSome = decide (numV s < 9223372036854775808) := by
  have hb : numBad s = false := decide_eq_false h
  unfold numR numB; rw [hb, hd]
  simp only [Bool.not_true, Bool.or_self, Bool.false_eq_true, if_false]
  refine ⟨trivial, ?_⟩
  split
  · rename_i hh; rw [decide_eq_true hh]; rfl
  · rename_i hh; rw [decide_eq_false hh]; rfl
theorem numV_take (s : List UInt8) (i : Nat) (h : i < s.length) : numV (s.take (i + 1)) = numV (s.take i) * 10 + (byteAt s i - 48) := by
  rw [List.take_succ_eq_append_getElem h, numV_snoc, byteAt_eq s i h]
theorem all_take (s : List UInt8) (i : Nat) (h : i < s.length) : (s.take (i + 1)).all dig = ((s.take i).all dig && decide (48 ≤ byteAt s i ∧ byteAt s i ≤ 57)) := by
  rw [List.take_succ_eq_append_getElem h, List.all_append]
  simp [dig, byteAt_eq s i h]
theorem rnumber_fn (s : List UInt8) (h : Part) (hl : s.length ≤ 140737488355328) : Pure Tryd.prog 143 [.string ⟨s.toArray⟩] h (.tuple #[.int .u64 (numR s : Nat), .bool (numB s).isSome]) := by
  have hb0 : byteAt s 0 = (s.getD 0 0).toNat := rfl
  refine Fn.intro Tryd.func143 rfl Tryd.ntmps143 rfl (fun e he => ?_)
  refine J.weak [(0, _)] ⟨rfl, trivial⟩ ?_
  refine Sr ?_
  refine Ru 2 rfl ?_
  refine JL.nil ?_
  refine J.seq ?_
  refine J.seq ?_
  refine J.meet [(23, .bool (decide (s.length = 0 ∨ 19 < s.length ∨ 1 < s.length ∧ byteAt s 0 = 48)))] [(3, _), (2, _), (0, _)] ⟨rfl, rfl, rfl, trivial⟩ ?_ ?_
  ·
   refine Rg ?_
   refine Ru 1 rfl ?_
   refine JL.op (RunV.lenS un_9 rfl) rfl ?_
   refine Ru 2 rfl ?_
   refine Bs 9 rfl (fun hc1 => ?_) fun hc1 => ?_
   ·
    refine Ru 14 rfl ?_
    refine JL.nil ?_
    refine ⟨rfl, rfl, ?_⟩
    repeat (first | exact trivial | refine ⟨rfl, ?_⟩ | refine ⟨(by exact some_bool (by first | exact decide_eq_decide.2 (by omega) | exact (decide_eq_false (by omega)).symm | exact (decide_eq_true (by omega)).symm | (rw [eq_comm]; exact decide_eq_true (by omega)) | (rw [eq_comm]; exact decide_eq_false (by omega)))), ?_⟩)
   ·
    refine Ru 1 rfl ?_
    refine JL.opg rfl rfl  (RunV.lenS un_9 rfl) rfl ?_
    refine Ru 3 rfl ?_
    refine Bs 14 rfl (fun hc2 => ?_) fun hc2 => ?_
    ·
     refine Ru 9 rfl ?_
     refine JL.nil ?_
     refine ⟨rfl, rfl, ?_⟩
     repeat (first | exact trivial | refine ⟨rfl, ?_⟩ | refine ⟨(by exact some_bool (by first | exact decide_eq_decide.2 (by omega) | exact (decide_eq_false (by omega)).symm | exact (decide_eq_true (by omega)).symm | (rw [eq_comm]; exact decide_eq_true (by omega)) | (rw [eq_comm]; exact decide_eq_false (by omega)))), ?_⟩)
    ·
     refine Ru 1 rfl ?_
     refine JL.opg rfl rfl  (RunV.lenS un_9 rfl) rfl ?_
     refine Ru 2 rfl ?_
     refine Bs 18 rfl (fun hc3 => ?_) fun hc3 => ?_
     ·
      refine Ru 1 rfl ?_
      refine JL.opg rfl rfl  (RunV.strIndex un_9 rfl rfl (show _ = ((0 : Nat) : Int) from rfl) (by omega)) rfl ?_
      refine Ru 3 rfl ?_
      refine JL.nil ?_
      refine ⟨rfl, rfl, ?_⟩
      repeat (first | exact trivial | refine ⟨rfl, ?_⟩ | refine ⟨(by exact some_bool (by first | exact decide_eq_decide.2 (by omega) | exact (decide_eq_false (by omega)).symm | exact (decide_eq_true (by omega)).symm | (rw [eq_comm]; exact decide_eq_true (by omega)) | (rw [eq_comm]; exact decide_eq_false (by omega)))), ?_⟩)
     ·
      refine Ru 5 rfl ?_
      refine JL.nil ?_
      refine ⟨rfl, rfl, ?_⟩
      repeat (first | exact trivial | refine ⟨rfl, ?_⟩ | refine ⟨(by exact some_bool (by first | exact decide_eq_decide.2 (by omega) | exact (decide_eq_false (by omega)).symm | exact (decide_eq_true (by omega)).symm | (rw [eq_comm]; exact decide_eq_true (by omega)) | (rw [eq_comm]; exact decide_eq_false (by omega)))), ?_⟩)
  ·
   refine Cs rfl (fun hc4 => ?_) fun hc4 => ?_
   ·
    have hnr := numR_bad hc4
    refine Sr ?_
    refine Ru 2 rfl ?_
    refine JL.nil ?_
    exact J.retP (RetV.two rfl rfl rfl) (by rw [hnr.1, hnr.2]; rfl) rfl
   ·
    have hok := hc4
    refine J.skip ?_
    refine Sr ?_
    refine Ru 1 rfl ?_
    refine JL.nil ?_
    refine J.seq ?_
    refine Sr ?_
    refine Ru 1 rfl ?_
    refine JL.nil ?_
    refine J.block ?_
    refine J.loop (fun t_ S_ h_ L_ => ∃ (i : Nat), t_ = s.length - i ∧ S_ = [(0, .string ⟨s.toArray⟩), (4, .int .u64 (numV (s.take i) : Nat)), (5, .int .i64 i)] ∧ h = h_ ∧ L_ = [] ∧ (i ≤ s.length ∧ (s.take i).all dig = true ∧ numV (s.take i) < 10 ^ i)) ⟨_, _, ?_, ⟨0, rfl, rfl, rfl, rfl, ⟨by omega, by simp, by simp [numV]⟩⟩⟩ ?_
    ·
     repeat (first | exact trivial | refine ⟨rfl, ?_⟩ | refine ⟨(by exact some_int (by first | rfl | (rw [numV_take s i (by omega)]; omega))), ?_⟩)
    rintro _ _ _ _ ⟨i, rfl, rfl, rfl, rfl, hi, hd, hv⟩
    refine J.seq ?_
    refine Sr ?_
    refine Ru 2 rfl ?_
    refine JL.op (RunV.lenS un_9 rfl) rfl ?_
    refine Ru 1 rfl ?_
    refine JL.nil ?_
    refine Cs rfl (fun hc5 => ?_) fun hc5 => ?_
    ·
     have hi' : i < s.length := (by omega); have hst := numV_take s i hi'; have hat := all_take s i hi'; have hp : 10 ^ i ≤ 1000000000000000000 := Nat.le_trans (Nat.pow_le_pow_right (by decide) (show i ≤ 18 by omega)) (by decide); have hbl := byteAt_lt s i; have hbi : byteAt s i = (s.getD i 0).toNat := rfl
     refine J.skip ?_
     refine J.seq ?_
     refine J.block ?_
     refine J.seq ?_
     refine Sr ?_
     refine Ru 2 rfl ?_
     refine JL.op (RunV.strIndex (m := i) un_9 rfl rfl (by omega) (by omega)) rfl ?_
     refine JL.op (by first | exact RunV.convb_i64 cv_5_3 rfl | exact RunV.conv_i64 cv_5_3 rfl (by omega) (by omega) | exact RunV.conv cv_5_3 rfl) rfl ?_
     refine JL.callP ca_124 rfl (between_fn _ _ _ _) rfl ?_
     refine Ru 1 rfl ?_
     refine JL.nil ?_
     refine Cs rfl (fun hc7 => ?_) fun hc7 => ?_
     ·
      have hnr := numR_no hi' (show ¬ (48 ≤ byteAt s i ∧ byteAt s i ≤ 57) by omega)
      refine Sr ?_
      refine Ru 2 rfl ?_
      refine JL.nil ?_
      exact J.retP (RetV.two rfl rfl rfl) (by rw [hnr.1, hnr.2]; rfl) rfl
     ·
      refine J.skip ?_
      refine Rg ?_
      refine Ru 1 rfl ?_
      refine JL.op (by first | exact RunV.mul_u64 rfl rfl (by omega) (by omega) | exact RunV.mul rfl rfl) rfl ?_
      refine Ru 2 rfl ?_
      refine JL.op (RunV.strIndex (m := i) un_9 rfl rfl (by omega) (by omega)) rfl ?_
      refine JL.op (by first | exact RunV.sub_u8 rfl rfl (by omega) (by omega) | exact RunV.sub rfl rfl) rfl ?_
      refine JL.op (by first | exact RunV.convb_u64 cv_5_100 rfl | exact RunV.conv_u64 cv_5_100 rfl (by omega) (by omega) | exact RunV.conv cv_5_100 rfl) rfl ?_
      refine JL.op (by first | exact RunV.add_u64 rfl rfl (by omega) (by omega) | exact RunV.add rfl rfl) rfl ?_
      refine Ru 1 rfl ?_
      refine JL.nil ?_
      refine Rg ?_
      refine Ru 1 rfl ?_
      refine JL.op (by first | exact RunV.add_i64 rfl rfl (by omega) (by omega) | exact RunV.add rfl rfl) rfl ?_
      refine Ru 1 rfl ?_
      refine JL.nil ?_
      refine ⟨_, ?_, _, ?_, ⟨i + 1, rfl, rfl, rfl, rfl, ⟨by omega, by rw [hat, hd, decide_eq_true (by omega)]; rfl, by rw [hst, Nat.pow_succ]; omega⟩⟩⟩
      ·
       omega
      ·
       repeat (first | exact trivial | refine ⟨rfl, ?_⟩ | refine ⟨(by exact some_int (by first | rfl | (rw [numV_take s i (by omega)]; omega))), ?_⟩)
    ·
     have hie : s.take i = s := List.take_of_length_le (by omega); rw [hie] at hd hv ⊢; have hnr := numR_ok hok hd
     refine J.exit ?_
     refine Kp [4] rfl ?_
     refine Sr ?_
     refine Ru 5 rfl ?_
     refine JL.nil ?_
     exact J.retP (RetV.two rfl rfl rfl) (by rw [hnr.1, hnr.2]; exact congrArg (fun b => Value.tuple #[.int .u64 (numV s : Nat), .bool b]) (decide_eq_decide.2 (by omega))) rfl




/-! ## digits of 128 -/
theorem rb128_fn {n : Nat} {h : Part} (hn : n < 18446744073709551616) : Fn Tryd.prog 138 [.int .u64 n] h [] (Rets fun v _ Lo => ∃ a c, v = .slice a (b128 n).length c ∧ Lo = [.row a c 5 1 (b128 n).length (u8s (b128 n))]) := by
  refine Fn.intro Tryd.func138 rfl Tryd.ntmps138 rfl (fun e he => ?_)
  refine J.weak [(0, _)] ⟨rfl, trivial⟩ ?_
  have hh0 := Part.le.refl h
  refine Sr ?_
  refine Ru 1 rfl ?_
  refine JL.nil ?_
  refine Sr ?_
  refine Ru 1 rfl ?_
  refine JL.op (by first | exact RunV.rem_u64 rfl rfl (by omega) (by omega) | exact RunV.rem rfl rfl (by omega)) rfl ?_
  refine JL.op (RunV.toByte (n % 128) cv_100_5 rfl (by omega)) rfl ?_
  refine JL.lit1 ap_22 zr_5 rfl rfl rfl rfl rfl (fun b1 => ?_)
  refine JL.rowB (b := b1) (by repeat (first | exact Del.here | apply Del.there)) ?_
  refine Ru 1 rfl ?_
  refine JL.nil ?_
  refine J.seq ?_
  refine Sr ?_
  refine Ru 1 rfl ?_
  refine JL.op (by first | exact RunV.quo_u64 rfl rfl (by omega) (by omega) (by omega) | exact RunV.quo rfl rfl (by omega)) rfl ?_
  refine Ru 1 rfl ?_
  refine Nk [0, 3, 2] rfl ?_
  refine J.block ?_
  refine J.loop (fun t_ S_ h_ L_ => ∃ (g : Part) (f m : Nat) (out : List UInt8) (la : Option Addr) (lc : Nat), t_ = m + 1 ∧ S_ = [(0, .int .u64 m), (3, .slice la out.length lc)] ∧ g = h_ ∧ L_ = [.row la lc 5 1 out.length (u8s out)] ∧ (h.le g ∧ m < 18446744073709551616 ∧ out.length + f = 11 ∧ m < 128 ^ f ∧ b128 n = hiB m ++ out)) ⟨_, _, ?_, ⟨_, 10, n / 128, [UInt8.ofNat (n % 128)], _, _, rfl, rfl, rfl, rfl, ⟨by assumption, by omega, rfl, by simp only [Nat.reducePow]; omega, rfl⟩⟩⟩ ?_
  ·
   repeat (first | exact trivial | refine ⟨rfl, ?_⟩)
  rintro _ _ _ _ ⟨g, f, m, out, la, lc, rfl, rfl, rfl, rfl, hhg, hm, hol, hmf, he⟩
  refine J.seq ?_
  refine Sr ?_
  refine Ru 2 rfl ?_
  refine JL.nil ?_
  refine Cs rfl (fun hc2 => ?_) fun hc2 => ?_
  ·
   have hst := hiB_step m (by simp only [Nat.reducePow]; omega) (by omega); obtain ⟨f', rfl⟩ : ∃ f', f = f' + 1 := ⟨f - 1, by have : f ≠ 0 := (by rintro rfl; simp at hmf; omega); omega⟩; rw [Nat.pow_succ] at hmf
   refine J.skip ?_
   refine J.seq ?_
   refine J.block ?_
   refine Sr ?_
   refine Ru 1 rfl ?_
   refine JL.nil ?_
   refine Sr ?_
   refine Ru 2 rfl ?_
   refine JL.op (by first | exact RunV.rem_u64 rfl rfl (by omega) (by omega) | exact RunV.rem rfl rfl (by omega)) rfl ?_
   refine JL.op (RunV.toByte (m % 128) cv_100_5 rfl (by omega)) rfl ?_
   refine JL.op (RunV.add_u8 rfl rfl (by rw [ofNat_toNat8 (by omega)]; omega) (by rw [ofNat_toNat8 (by omega)]; omega)) rfl ?_
   rw [show ((UInt8.ofNat (m % 128)).toNat : Int) + 128 = ((UInt8.ofNat (m % 128 + 128)).toNat : Int) from by rw [ofNat_toNat8 (by omega), ofNat_toNat8 (by omega)]; omega]
   refine JL.lit1 ap_22 zr_5 rfl rfl rfl rfl rfl (fun b3 => ?_)
   refine JL.row_nil 5 1 ?_
   refine JL.append1 ap_22 rfl rfl (CellsR.nil (R := u8R)) rfl (by repeat (first | exact Del.here | apply Del.there)) (by repeat (first | exact Del.here | apply Del.there)) rfl (rfl) (by first | omega | (simp only [List.length_append, List.length_cons, List.length_nil]; omega)) rfl rfl (fun a4 c4 xs4 hC4 hN4 => ?_)
   obtain rfl := hC4.u8
   refine Ru 1 rfl ?_
   refine JL.nil ?_
   refine Rg ?_
   refine Ru 2 rfl ?_
   refine JL.pub (R := u8R) (l := out) (by repeat (first | exact Del.here | apply Del.there)) CellsR.of_u8 rfl (by omega) (fun h9 hle9 hP9 => ?_); replace hhg := hhg.mono hle9
   refine JL.append ap_22 rfl rfl CellsR.of_u8 rfl (by assumption) rfl (by repeat (first | exact Del.here | apply Del.there)) (by first | omega | (simp only [List.length_append, List.length_cons, List.length_nil]; omega)) rfl rfl (fun a5 c5 xs5 hC5 hN5 => ?_)
   obtain rfl := hC5.u8
   refine Ru 1 rfl ?_
   refine JL.nil ?_
   refine Rg ?_
   refine Ru 1 rfl ?_
   refine JL.op (by first | exact RunV.quo_u64 rfl rfl (by omega) (by omega) (by omega) | exact RunV.quo rfl rfl (by omega)) rfl ?_
   refine Ru 1 rfl ?_
   refine JL.nil ?_
   refine ⟨_, ?_, _, ?_, ⟨_, f', m / 128, _, _, _, rfl, rfl, rfl, rfl, ⟨by assumption, by omega, by simp; omega, by omega, by rw [he, hst]; simp⟩⟩⟩
   ·
    omega
   ·
    repeat (first | exact trivial | refine ⟨rfl, ?_⟩)
  ·
   have hm0 : m = 0 := (by omega); have hbe : b128 n = out := (by rw [he, hm0]; rfl)
   refine J.exit ?_
   refine Sr ?_
   refine Ru 2 rfl ?_
   refine Nk [2] rfl ?_
   rw [hbe]; exact J.ret ⟨_, [_], _, (RetV.one rfl rfl), .cons .here .nil, _, rfl, _, _, rfl, rfl⟩
theorem rb128_fn' {n : Nat} {N : Int} {h : Part} (hN : N = (n : Int)) (hn : n < 18446744073709551616) : Fn Tryd.prog 138 [.int .u64 N] h [] (Rets fun v _ Lo => ∃ a c, v = .slice a (b128 n).length c ∧ Lo = [.row a c 5 1 (b128 n).length (u8s (b128 n))]) := by
  subst hN; exact rb128_fn hn

/-! ## a text's numbers -/
theorem numB_some {s : List UInt8} (h : (numB s).isSome = true) : numB s = some (numR s) ∧ numR s < 9223372036854775808 := by
  unfold numB numR at *
  split at h
  · cases h
  · rename_i hb
    split at h
    · rename_i hh
      rw [if_neg hb]
      simp only [if_neg hb, if_pos hh]
      exact ⟨trivial, hh⟩
    · cases h
theorem numB_none {s : List UInt8} (h : (numB s).isSome = false) : numB s = none := by
  cases hn : numB s with
  | none => rfl
  | some x => rw [hn] at h; cases h
theorem numsGo_char (s cur : List UInt8) (i : Nat) (h : i < s.length) (hc : byteAt s i ≠ 46) : numsGo (s.drop i) cur = numsGo (s.drop (i + 1)) (cur ++ [s[i]]) := by
  rw [List.drop_eq_getElem_cons h, numsGo, if_neg]
  intro e
  have := byteAt_eq s i h
  rw [e] at this
  exact hc this.symm
theorem numsGo_dot (s cur : List UInt8) (i : Nat) (h : i < s.length) (hc : byteAt s i = 46) : numsGo (s.drop i) cur = match numB cur with | none => none | some n => (numsGo (s.drop (i + 1)) []).map (n :: ·) := by
  have := byteAt_eq s i h
  rw [List.drop_eq_getElem_cons h, numsGo, if_pos (UInt8.toNat_inj.1 ((this.trans hc).trans rfl))]
  cases numB cur <;> rfl
theorem cur_next (s : List UInt8) (fr i : Nat) (h : i < s.length) (hf : fr ≤ i) : (s.drop fr).take (i + 1 - fr) = (s.drop fr).take (i - fr) ++ [s[i]] := by
  rw [show i + 1 - fr = (i - fr) + 1 by omega, List.take_succ_eq_append_getElem (by rw [List.length_drop]; omega)]
  congr 2
  rw [List.getElem_drop]
  congr 1; omega
def numsL (s : List UInt8) : List Nat × Bool := match numsGo s [] with
  | none => ([], false)
  | some l => (l, oidOk l)
theorem oidOk_eq (l : List Nat) : oidOk l = decide (2 ≤ l.length ∧ (l.getD 0 0 = 2 ∧ l.getD 1 0 < 9223372036854775728 ∨ l.getD 0 0 < 2 ∧ l.getD 1 0 < 40)) := by
  unfold oidOk; rw [← Bool.decide_or, ← Bool.decide_and]
def u64L (l : List Nat) : List UInt64 := l.map UInt64.ofNat
theorem u64L_at (l : List Nat) (i : Nat) (hl : ∀ x ∈ l, x < 9223372036854775808) (h : i < (u64L l).length) : ((u64L l)[i]'h).toNat = l.getD i 0 := by
  have hi : i < l.length := by simpa [u64L] using h
  have := hl l[i] (List.getElem_mem hi)
  simp only [u64L, List.getElem_map, UInt64.toNat_ofNat', List.getD_eq_getElem?_getD, List.getElem?_eq_getElem hi, Option.getD_some]
  omega
theorem rnumbers_fn (s : List UInt8) (h : Part) (hl : s.length ≤ 1000000000) : FnR Tryd.prog 137 [.string ⟨s.toArray⟩] h (fun v h' => ∃ a c, v = .tuple #[.slice a (u64L (numsL s).1).length c, .bool (numsL s).2] ∧ SlR u64R 1 h' a c (u64L (numsL s).1) ∧ (∀ x ∈ (numsL s).1, x < 9223372036854775808) ∧ (numsL s).1.length ≤ 1000000001) := by
  refine Fn.intro Tryd.func137 rfl Tryd.ntmps137 rfl (fun e he => ?_)
  refine J.weak [(0, _)] ⟨rfl, trivial⟩ ?_
  have hh0 := Part.le.refl h
  refine Sr ?_
  refine Ru 2 rfl ?_
  refine JL.nil ?_
  refine Sr ?_
  refine JL.row_nil 100 1 ?_
  refine Ru 1 rfl ?_
  refine JL.nil ?_
  refine Sr ?_
  refine Ru 1 rfl ?_
  refine JL.nil ?_
  refine J.seq ?_
  refine Sr ?_
  refine Ru 1 rfl ?_
  refine JL.nil ?_
  refine J.block ?_
  refine J.loop (fun t_ S_ h_ L_ => ∃ (g : Part) (i fr : Nat) (acc : List Nat) (ao : Option Addr) (co : Nat) (xs : List Value), t_ = s.length + 1 - i ∧ S_ = [(0, .string ⟨s.toArray⟩), (4, .slice ao (u64L acc).length co), (5, .int .i64 fr), (6, .int .i64 i)] ∧ g = h_ ∧ L_ = [.row ao co 100 1 (u64L acc).length xs] ∧ (h.le g ∧ i ≤ s.length + 1 ∧ fr ≤ i ∧ acc.length ≤ i ∧ CellsR u64R 1 g xs (u64L acc) ∧ (∀ x ∈ acc, x < 9223372036854775808) ∧ (i ≤ s.length → numsGo s [] = (numsGo (s.drop i) ((s.drop fr).take (i - fr))).map (acc ++ ·)) ∧ (s.length < i → numsGo s [] = some acc))) ⟨_, _, ?_, ⟨_, 0, 0, [], _, _, _, rfl, rfl, rfl, rfl, ⟨by assumption, by omega, by omega, by simp, CellsR.nil, by simp, fun _ => by simp, fun hh => by omega⟩⟩⟩ ?_
  ·
   repeat (first | exact trivial | refine ⟨rfl, ?_⟩)
  rintro _ _ _ _ ⟨g, i, fr, acc, ao, co, xs, rfl, rfl, rfl, rfl, hhg, hi, hfr, hal, hC, hx, hq1, hq2⟩
  have hul : (u64L acc).length = acc.length := List.length_map ..
  refine J.seq ?_
  refine Sr ?_
  refine Ru 2 rfl ?_
  refine JL.op (RunV.lenS un_9 rfl) rfl ?_
  refine Ru 1 rfl ?_
  refine JL.nil ?_
  refine Cs rfl (fun hc1 => ?_) fun hc1 => ?_
  ·
   refine J.skip ?_
   refine J.seq ?_
   refine J.block ?_
   refine J.seq ?_
   refine J.seq ?_
   refine J.meet [(25, .bool (decide (i < s.length ∧ byteAt s i ≠ 46)))] [(13, _), (12, _), (11, _), (10, _), (0, _), (4, _), (5, _), (6, _)] ⟨rfl, rfl, rfl, rfl, rfl, rfl, rfl, rfl, trivial⟩ ?_ ?_
   ·
    refine Rg ?_
    refine Ru 2 rfl ?_
    refine JL.op (RunV.lenS un_9 rfl) rfl ?_
    refine Ru 2 rfl ?_
    refine Bs 20 rfl (fun hc2 => ?_) fun hc2 => ?_
    ·
     refine Ru 2 rfl ?_
     refine JL.opg rfl rfl  (RunV.strIndex (m := i) un_9 rfl rfl (by omega) (by omega)) rfl ?_
     refine Ru 2 rfl ?_
     refine JL.nil ?_
     refine ⟨rfl, rfl, ?_⟩
     repeat (first | exact trivial | refine ⟨rfl, ?_⟩ | refine ⟨(by exact some_bool (by first | exact decide_eq_decide.2 (by omega) | exact (decide_eq_false (by omega)).symm | exact (decide_eq_true (by omega)).symm)), ?_⟩)
    ·
     refine Ru 5 rfl ?_
     refine JL.nil ?_
     refine ⟨rfl, rfl, ?_⟩
     repeat (first | exact trivial | refine ⟨rfl, ?_⟩ | refine ⟨(by exact some_bool (by first | exact decide_eq_decide.2 (by omega) | exact (decide_eq_false (by omega)).symm | exact (decide_eq_true (by omega)).symm)), ?_⟩)
   ·
    refine Cs rfl (fun hc3 => ?_) fun hc3 => ?_
    ·
     refine J.exit ?_
     refine Rg ?_
     refine Ru 1 rfl ?_
     refine JL.op (by first | exact RunV.add_i64 rfl rfl (by omega) (by omega) | exact RunV.add rfl rfl) rfl ?_
     refine Ru 1 rfl ?_
     refine JL.nil ?_
     refine ⟨_, ?_, _, ?_, ⟨_, i + 1, fr, acc, _, _, _, rfl, rfl, rfl, rfl, ⟨by assumption, by omega, by omega, by omega, by assumption, hx, fun _ => by rw [hq1 (by omega), numsGo_char s _ i (by omega) (by omega), cur_next s fr i (by omega) hfr], fun hh => by omega⟩⟩⟩
     ·
      omega
     ·
      repeat (first | exact trivial | refine ⟨rfl, ?_⟩)
    ·
     obtain ⟨cur, hcur⟩ : ∃ cur, cur = (s.drop fr).take (i - fr) := ⟨_, rfl⟩; have hq := hq1 (by omega); rw [← hcur] at hq
     refine J.skip ?_
     refine Sr ?_
     refine Ru 3 rfl ?_
     refine JL.op (RunV.strCut_lh un_9 rfl rfl rfl (by first | with_reducible rfl | exact (Int.toNat_of_nonneg (by omega)).symm) (by first | with_reducible rfl | exact (Int.toNat_of_nonneg (by omega)).symm) (by omega) (by omega)) rfl ?_
     refine JL.callP ca_143 rfl (rnumber_fn _ _ (by try (simp only [List.length_take, List.length_drop]); omega)) rfl ?_
     refine Ru 5 rfl ?_
     refine JL.nil ?_
     refine J.seq ?_
     refine Sr ?_
     refine Ru 2 rfl ?_
     refine JL.nil ?_
     refine Cs rfl (fun hc5 => ?_) fun hc5 => ?_
     ·
      have hnone : numsGo s [] = none := (by have hnb := numB_none (s := cur) (by rw [hcur]; exact hc5); rw [hq]; rcases Nat.lt_or_ge i s.length with hlt | hge; rw [numsGo_dot s _ i hlt (by omega), hnb]; rfl; rw [List.drop_of_length_le hge, numsGo, hnb]; rfl); have hnl : numsL s = ([], false) := (by unfold numsL; rw [hnone])
      refine Sr ?_
      refine Ru 2 rfl ?_
      refine JL.nil ?_
      rw [hnl]; exact J.retR (RetV.two rfl rfl rfl) ⟨none, 0, rfl, SlR.nil_, by simp, by simp⟩
     ·
      have hsome := numB_some (s := cur) (by rw [hcur]; exact hc5); rw [hcur] at hsome; have hke : u64L acc ++ [UInt64.ofNat (numR ((s.drop fr).take (i - fr)))] = u64L (acc ++ [numR ((s.drop fr).take (i - fr))]) := (by simp [u64L])
      refine J.skip ?_
      refine Sr ?_
      refine Ru 2 rfl ?_
      refine JL.lit1 ap_75 zr_100 rfl rfl rfl rfl rfl (fun b6 => ?_)
      refine JL.append1 ap_75 rfl rfl (by assumption) rfl (by repeat (first | exact Del.here | apply Del.there)) (by repeat (first | exact Del.here | apply Del.there)) rfl ((by show _ = _; rw [UInt64.toNat_ofNat', Nat.mod_eq_of_lt (by omega)] : u64R _ [.int .u64 (numR ((s.drop fr).take (i - fr)) : Nat)] (UInt64.ofNat (numR ((s.drop fr).take (i - fr)))))) (by first | omega | (simp only [List.length_append, List.length_cons, List.length_nil]; omega)) rfl rfl (fun a7 c7 xs7 hC7 hN7 => ?_)
      rw [hke] at *
      refine Ru 1 rfl ?_
      refine JL.nil ?_
      refine Rg ?_
      refine Ru 1 rfl ?_
      refine JL.op (by first | exact RunV.add_i64 rfl rfl (by omega) (by omega) | exact RunV.add rfl rfl) rfl ?_
      refine Ru 1 rfl ?_
      refine JL.nil ?_
      refine Rg ?_
      refine Ru 1 rfl ?_
      refine JL.op (by first | exact RunV.add_i64 rfl rfl (by omega) (by omega) | exact RunV.add rfl rfl) rfl ?_
      refine Ru 1 rfl ?_
      refine JL.nil ?_
      refine ⟨_, ?_, _, ?_, ⟨_, i + 1, i + 1, acc ++ [numR ((s.drop fr).take (i - fr))], _, _, _, rfl, rfl, rfl, rfl, ⟨by assumption, by omega, by omega, by simp; omega, by assumption, by (intro y hy; rcases List.mem_append.1 hy with hy | hy; exact hx y hy; simp at hy; subst hy; exact hsome.2), fun hh => by rw [hq, numsGo_dot s _ i (by omega) (by omega), hcur, hsome.1]; simp only [Nat.sub_self, List.take_zero, Option.map_map]; congr 1; funext z; simp, fun hh => by rw [hq, List.drop_of_length_le (by omega), numsGo, hcur, hsome.1]; rfl⟩⟩⟩
      ·
       omega
      ·
       repeat (first | exact trivial | refine ⟨rfl, ?_⟩)
  ·
   have hnl : numsL s = (acc, oidOk acc) := (by unfold numsL; rw [hq2 (by omega)]); refine J.pub (R := u64R) (by repeat (first | exact Del.here | apply Del.there)) hC rfl (by omega) (fun h9 hle9 hP9 => ?_); have e0 := u64L_at acc 0 hx; have e1 := u64L_at acc 1 hx
   refine J.exit ?_
   refine Kp [4] rfl ?_
   refine J.seq ?_
   refine J.meet [(9, .bool (oidOk acc))] [(4, _)] ⟨rfl, trivial⟩ ?_ ?_
   ·
    refine Rg ?_
    refine Ru 4 rfl ?_
    refine Bs 45 rfl (fun hc8 => ?_) fun hc8 => ?_
    ·
     refine Ru 1 rfl ?_
     refine JL.opeg rfl rfl  (RunE.index sl_75 rfl rfl (show _ = ((0 : Nat) : Int) from rfl) (by assumption) rfl (by omega)) rfl ?_
     rintro _ ⟨b9, o9, hi9, rfl, hE9⟩
     refine JL.opg rfl rfl  (RunV.ld_u64 ag_100 rfl (by assumption)) rfl ?_
     refine Ru 3 rfl ?_
     refine Bs 51 rfl (fun hc11 => ?_) fun hc11 => ?_
     ·
      refine Ru 1 rfl ?_
      refine JL.opeg rfl rfl  (RunE.index sl_75 rfl rfl (show _ = ((0 : Nat) : Int) from rfl) (by assumption) rfl (by omega)) rfl ?_
      rintro _ ⟨b12, o12, hi12, rfl, hE12⟩
      refine JL.opg rfl rfl  (RunV.ld_u64 ag_100 rfl (by assumption)) rfl ?_
      refine Ru 2 rfl ?_
      refine Bs 56 rfl (fun hc14 => ?_) fun hc14 => ?_
      ·
       refine Ru 1 rfl ?_
       refine JL.opeg rfl rfl  (RunE.index sl_75 rfl rfl (show _ = ((1 : Nat) : Int) from rfl) (by assumption) rfl (by omega)) rfl ?_
       rintro _ ⟨b15, o15, hi15, rfl, hE15⟩
       refine JL.opg rfl rfl  (RunV.ld_u64 ag_100 rfl (by assumption)) rfl ?_
       refine Ru 3 rfl ?_
       refine Bs 62 rfl (fun hc17 => ?_) fun hc17 => ?_
       ·
        refine Ru 13 rfl ?_
        refine JL.nil ?_
        refine ⟨rfl, rfl, ?_⟩
        repeat (first | exact trivial | refine ⟨rfl, ?_⟩ | refine ⟨(by exact some_bool (by rw [oidOk_eq]; first | (have q0 := e0 (by omega); have q1 := e1 (by omega); first | exact decide_eq_decide.2 (by omega) | exact (decide_eq_false (by omega)).symm | exact (decide_eq_true (by omega)).symm) | exact (decide_eq_false (by omega)).symm)), ?_⟩)
       ·
        refine Ru 1 rfl ?_
        refine JL.opeg rfl rfl  (RunE.index sl_75 rfl rfl (show _ = ((0 : Nat) : Int) from rfl) (by assumption) rfl (by omega)) rfl ?_
        rintro _ ⟨b18, o18, hi18, rfl, hE18⟩
        refine JL.opg rfl rfl  (RunV.ld_u64 ag_100 rfl (by assumption)) rfl ?_
        refine Ru 2 rfl ?_
        refine Bs 67 rfl (fun hc20 => ?_) fun hc20 => ?_
        ·
         refine Ru 1 rfl ?_
         refine JL.opeg rfl rfl  (RunE.index sl_75 rfl rfl (show _ = ((1 : Nat) : Int) from rfl) (by assumption) rfl (by omega)) rfl ?_
         rintro _ ⟨b21, o21, hi21, rfl, hE21⟩
         refine JL.opg rfl rfl  (RunV.ld_u64 ag_100 rfl (by assumption)) rfl ?_
         refine Ru 5 rfl ?_
         refine JL.nil ?_
         refine ⟨rfl, rfl, ?_⟩
         repeat (first | exact trivial | refine ⟨rfl, ?_⟩ | refine ⟨(by exact some_bool (by rw [oidOk_eq]; first | (have q0 := e0 (by omega); have q1 := e1 (by omega); first | exact decide_eq_decide.2 (by omega) | exact (decide_eq_false (by omega)).symm | exact (decide_eq_true (by omega)).symm) | exact (decide_eq_false (by omega)).symm)), ?_⟩)
        ·
         refine Ru 8 rfl ?_
         refine JL.nil ?_
         refine ⟨rfl, rfl, ?_⟩
         repeat (first | exact trivial | refine ⟨rfl, ?_⟩ | refine ⟨(by exact some_bool (by rw [oidOk_eq]; first | (have q0 := e0 (by omega); have q1 := e1 (by omega); first | exact decide_eq_decide.2 (by omega) | exact (decide_eq_false (by omega)).symm | exact (decide_eq_true (by omega)).symm) | exact (decide_eq_false (by omega)).symm)), ?_⟩)
      ·
       refine Ru 7 rfl ?_
       refine JL.opeg rfl rfl  (RunE.index sl_75 rfl rfl (show _ = ((0 : Nat) : Int) from rfl) (by assumption) rfl (by omega)) rfl ?_
       rintro _ ⟨b23, o23, hi23, rfl, hE23⟩
       refine JL.opg rfl rfl  (RunV.ld_u64 ag_100 rfl (by assumption)) rfl ?_
       refine Ru 2 rfl ?_
       refine Bs 67 rfl (fun hc25 => ?_) fun hc25 => ?_
       ·
        refine Ru 1 rfl ?_
        refine JL.opeg rfl rfl  (RunE.index sl_75 rfl rfl (show _ = ((1 : Nat) : Int) from rfl) (by assumption) rfl (by omega)) rfl ?_
        rintro _ ⟨b26, o26, hi26, rfl, hE26⟩
        refine JL.opg rfl rfl  (RunV.ld_u64 ag_100 rfl (by assumption)) rfl ?_
        refine Ru 5 rfl ?_
        refine JL.nil ?_
        refine ⟨rfl, rfl, ?_⟩
        repeat (first | exact trivial | refine ⟨rfl, ?_⟩ | refine ⟨(by exact some_bool (by rw [oidOk_eq]; first | (have q0 := e0 (by omega); have q1 := e1 (by omega); first | exact decide_eq_decide.2 (by omega) | exact (decide_eq_false (by omega)).symm | exact (decide_eq_true (by omega)).symm) | exact (decide_eq_false (by omega)).symm)), ?_⟩)
       ·
        refine Ru 8 rfl ?_
        refine JL.nil ?_
        refine ⟨rfl, rfl, ?_⟩
        repeat (first | exact trivial | refine ⟨rfl, ?_⟩ | refine ⟨(by exact some_bool (by rw [oidOk_eq]; first | (have q0 := e0 (by omega); have q1 := e1 (by omega); first | exact decide_eq_decide.2 (by omega) | exact (decide_eq_false (by omega)).symm | exact (decide_eq_true (by omega)).symm) | exact (decide_eq_false (by omega)).symm)), ?_⟩)
     ·
      refine Ru 24 rfl ?_
      refine JL.nil ?_
      refine ⟨rfl, rfl, ?_⟩
      repeat (first | exact trivial | refine ⟨rfl, ?_⟩ | refine ⟨(by exact some_bool (by rw [oidOk_eq]; first | (have q0 := e0 (by omega); have q1 := e1 (by omega); first | exact decide_eq_decide.2 (by omega) | exact (decide_eq_false (by omega)).symm | exact (decide_eq_true (by omega)).symm) | exact (decide_eq_false (by omega)).symm)), ?_⟩)
    ·
     refine Ru 30 rfl ?_
     refine JL.nil ?_
     refine ⟨rfl, rfl, ?_⟩
     repeat (first | exact trivial | refine ⟨rfl, ?_⟩ | refine ⟨(by exact some_bool (by rw [oidOk_eq]; first | (have q0 := e0 (by omega); have q1 := e1 (by omega); first | exact decide_eq_decide.2 (by omega) | exact (decide_eq_false (by omega)).symm | exact (decide_eq_true (by omega)).symm) | exact (decide_eq_false (by omega)).symm)), ?_⟩)
   ·
    refine Sr ?_
    refine Ru 4 rfl ?_
    refine JL.nil ?_
    rw [hnl]; exact J.retR (RetV.two rfl rfl rfl) ⟨_, _, rfl, by assumption, hx, by simp only; omega⟩




/-! ## a text's bytes -/
theorem enc_len : ∀ (l : List Nat), (enc l).length ≤ 11 * l.length
  | [] => by simp [enc]
  | n :: r => by
    have h1 := enc_len r
    have h2 : ∀ f m, (hiF f m).length ≤ f := by
      intro f
      induction f with
      | zero => intro m; simp [hiF]
      | succ f ih => intro m; rw [hiF]; split; simp; (have := ih (m / 128); simp; omega)
    have h3 := h2 10 (n / 128)
    simp only [enc, b128, hiB, List.length_append, List.length_cons, List.length_nil]
    omega
theorem enc_append (a b : List Nat) : enc (a ++ b) = enc a ++ enc b := by
  induction a with
  | nil => rfl
  | cons n r ih => simp only [List.cons_append, enc, ih, List.append_assoc]
theorem take2_succ (l : List Nat) (i : Nat) (h2 : 2 ≤ i) (hi : i < l.length) : (l.drop 2).take (i + 1 - 2) = (l.drop 2).take (i - 2) ++ [l.getD i 0] := by
  rw [show i + 1 - 2 = (i - 2) + 1 by omega, List.take_succ_eq_append_getElem (by rw [List.length_drop]; omega), List.getElem_drop]
  congr 2
  simp [show 2 + (i - 2) = i by omega, hi]
theorem roidbytes_fn (s : List UInt8) (h : Part) (hl : s.length ≤ 1000000000) : FnR Tryd.prog 122 [.string ⟨s.toArray⟩] h (fun v h' => ∃ a c, v = .tuple #[.slice a ((oidB s).getD []).length c, .int .i64 (if (oidB s).isSome then 0 else 20)] ∧ SlR u8R 1 h' a c ((oidB s).getD [])) := by
  obtain ⟨L, ok, hL⟩ : ∃ L ok, numsL s = (L, ok) := ⟨_, _, rfl⟩
  have hB : oidB s = if ok then some (enc ((40 * L.getD 0 0 + L.getD 1 0) :: L.drop 2)) else none := by
    unfold oidB; unfold numsL at hL
    cases hn : numsGo s [] with
    | none => rw [hn] at hL; simp only [Prod.mk.injEq] at hL; rw [← hL.2]; rfl
    | some l => rw [hn] at hL; simp only [Prod.mk.injEq] at hL; obtain ⟨rfl, rfl⟩ := hL; rfl
  have hok : ok = true → 2 ≤ L.length ∧ (L.getD 0 0 = 2 ∧ L.getD 1 0 < 9223372036854775728 ∨ L.getD 0 0 < 2 ∧ L.getD 1 0 < 40) := fun hk => by
    unfold numsL at hL
    cases hn : numsGo s [] with
    | none => rw [hn] at hL; simp only [Prod.mk.injEq] at hL; rw [← hL.2] at hk; cases hk
    | some l => rw [hn] at hL; simp only [Prod.mk.injEq] at hL; obtain ⟨rfl, rfl⟩ := hL; rw [oidOk_eq] at hk; exact of_decide_eq_true hk
  have hul : (u64L L).length = L.length := List.length_map ..
  refine Fn.intro Tryd.func122 rfl Tryd.ntmps122 rfl (fun e he => ?_)
  refine J.weak [(0, _)] ⟨rfl, trivial⟩ ?_
  have hh0 := Part.le.refl h
  refine Sr ?_
  refine Ru 2 rfl ?_
  refine JL.nil ?_
  refine Sr ?_
  refine Ru 1 rfl ?_
  refine JL.callR ca_137 rfl (rnumbers_fn s _ (by omega)) rfl ?_
  rintro _ h1 hle1 ⟨a2, c2, rfl, hS2, hx2, hn2⟩
  replace hh0 := hh0.mono hle1
  rw [hL] at hx2 hn2 hS2 ⊢; simp only at hx2 hn2 hS2 ⊢; have e1 := u64L_at L 1 hx2; have e0 := u64L_at L 0 hx2
  refine Ru 5 rfl ?_
  refine Nk [5, 4, 3, 2] rfl ?_
  refine J.seq ?_
  refine Sr ?_
  refine Ru 2 rfl ?_
  refine JL.nil ?_
  refine Cs rfl (fun hc2 => ?_) fun hc2 => ?_
  ·
   have hb : oidB s = none := (by rw [hB]; simp_all)
   refine Sr ?_
   refine Ru 2 rfl ?_
   refine Nk [3, 2, 4] rfl ?_
   rw [hb]; exact J.retR (RetV.two rfl rfl rfl) ⟨none, 0, rfl, SlR.nil_⟩
  ·
   have hkt : ok = true := (by simp_all); have hoo := hok hkt; have hb : oidB s = some (enc ((40 * L.getD 0 0 + L.getD 1 0) :: L.drop 2)) := (by rw [hB, hkt]; rfl); have q0 := e0 (by omega); have q1 := e1 (by omega)
   refine J.skip ?_
   refine J.seq ?_
   refine J.held ([]) 10 mixed_ rfl (fun h00 => ?_)
   refine JH.take 0 rfl (by kernel_rfl) (by kernel_rfl) (by kernel_rfl) (fun _ _ _ _ hh => hh) (Ok.bridge (by repeat first | exact Parts.nil | exact Del.here | apply Del.there | apply Parts.cons) (by first | exact Part.le.refl _ | assumption) h00) (RunV.move rfl) rfl ?_
   refine JH.takeE 1 rfl (by kernel_rfl) (by kernel_rfl) (by kernel_rfl) (fun _ _ _ _ hh => hh) (Ok.bridge (by repeat first | exact Parts.nil | exact Del.here | apply Del.there | apply Parts.cons) (by first | exact Part.le.refl _ | assumption) h00) (RunE.index sl_75 rfl rfl (show _ = ((0 : Nat) : Int) from rfl) (by assumption) rfl (by omega)) rfl ?_
   rintro _ ⟨b3, o3, hi3, rfl, hE3⟩
   refine JH.take 2 rfl (by kernel_rfl) (by kernel_rfl) (by kernel_rfl) (fun _ _ _ _ hh => hh) (Ok.bridge (by repeat first | exact Parts.nil | exact Del.here | apply Del.there | apply Parts.cons) (by first | exact Part.le.refl _ | assumption) h00) (RunV.ld_u64 ag_100 rfl (by assumption)) rfl ?_
   refine JH.take 3 rfl (by kernel_rfl) (by kernel_rfl) (by kernel_rfl) (fun _ _ _ _ hh => hh) (Ok.bridge (by repeat first | exact Parts.nil | exact Del.here | apply Del.there | apply Parts.cons) (by first | exact Part.le.refl _ | assumption) h00) (by first | exact RunV.mul_u64 rfl rfl (by omega) (by omega) | exact RunV.mul rfl rfl) rfl ?_
   refine JH.take 4 rfl (by kernel_rfl) (by kernel_rfl) (by kernel_rfl) (fun _ _ _ _ hh => hh) (Ok.bridge (by repeat first | exact Parts.nil | exact Del.here | apply Del.there | apply Parts.cons) (by first | exact Part.le.refl _ | assumption) h00) (RunV.move rfl) rfl ?_
   refine JH.takeE 5 rfl (by kernel_rfl) (by kernel_rfl) (by kernel_rfl) (fun _ _ _ _ hh => hh) (Ok.bridge (by repeat first | exact Parts.nil | exact Del.here | apply Del.there | apply Parts.cons) (by first | exact Part.le.refl _ | assumption) h00) (RunE.index sl_75 rfl rfl (show _ = ((1 : Nat) : Int) from rfl) (by assumption) rfl (by omega)) rfl ?_
   rintro _ ⟨b5, o5, hi5, rfl, hE5⟩
   refine JH.take 6 rfl (by kernel_rfl) (by kernel_rfl) (by kernel_rfl) (fun _ _ _ _ hh => hh) (Ok.bridge (by repeat first | exact Parts.nil | exact Del.here | apply Del.there | apply Parts.cons) (by first | exact Part.le.refl _ | assumption) h00) (RunV.ld_u64 ag_100 rfl (by assumption)) rfl ?_
   refine JH.take 7 rfl (by kernel_rfl) (by kernel_rfl) (by kernel_rfl) (fun _ _ _ _ hh => hh) (Ok.bridge (by repeat first | exact Parts.nil | exact Del.here | apply Del.there | apply Parts.cons) (by first | exact Part.le.refl _ | assumption) h00) (by first | exact RunV.add_u64 rfl rfl (by omega) (by omega) | exact RunV.add rfl rfl) rfl ?_
   refine JH.all1 8 (by kernel_rfl) rfl ?_
   unfold One
   refine JL.call ca_138 rfl (rb128_fn' (n := 40 * L.getD 0 0 + L.getD 1 0) (by omega) (by omega)) (by repeat first | exact Parts.nil | exact Del.here | apply Del.there | apply Parts.cons) rfl ?_
   rintro _ h7 Lo7 hle7 ⟨a7, c7, rfl, rfl⟩
   replace hh0 := hh0.mono hle7
   replace hS2 := hS2.mono hle7
   refine JL.nil ⟨(Ok.bridge (by repeat first | exact Parts.nil | exact Del.here | apply Del.there | apply Parts.cons) (by first | exact Part.le.refl _ | assumption) h00), ?_⟩
   refine JH.take 9 rfl (by kernel_rfl) (by kernel_rfl) (by kernel_rfl) (fun _ _ _ _ hh => hh) (Ok.bridge (by repeat first | exact Parts.nil | exact Del.here | apply Del.there | apply Parts.cons) (by first | exact Part.le.refl _ | assumption) h00) (RunV.assign rfl) rfl ?_
   refine JH.done (by kernel_rfl) ?_
   refine Kp [6, 4, 3, 2] rfl ?_
   refine J.seq ?_
   refine Sr ?_
   refine Ru 1 rfl ?_
   refine JL.nil ?_
   refine J.block ?_
   refine J.loop (fun t_ S_ h_ L_ => ∃ (g : Part) (i : Nat) (out : List UInt8) (la : Option Addr) (lc : Nat), t_ = L.length - i ∧ S_ = [(4, .slice a2 (u64L L).length c2), (6, .slice la out.length lc), (7, .int .i64 i)] ∧ g = h_ ∧ L_ = [.row la lc 5 1 out.length (u8s out)] ∧ (h.le g ∧ SlR u64R 1 g a2 c2 (u64L L) ∧ 2 ≤ i ∧ i ≤ L.length ∧ out = enc ((40 * L.getD 0 0 + L.getD 1 0) :: (L.drop 2).take (i - 2)))) ⟨_, _, ?_, ⟨_, 2, _, _, _, rfl, rfl, rfl, rfl, ⟨by assumption, by assumption, by omega, by omega, by simp [enc]⟩⟩⟩ ?_
   ·
    repeat (first | exact trivial | refine ⟨rfl, ?_⟩)
   rintro _ _ _ _ ⟨g, i, out, la, lc, rfl, rfl, rfl, rfl, hhg, hS2, hi2, hi, ho⟩
   refine J.seq ?_
   refine Sr ?_
   refine Ru 4 rfl ?_
   refine JL.nil ?_
   refine Cs rfl (fun hc8 => ?_) fun hc8 => ?_
   ·
    have hi' : i < L.length := (by omega); have qi := u64L_at L i hx2 (by omega); have hxi := hx2 (L.getD i 0) (by simp [hi']); have htk := take2_succ L i hi2 hi'; have hel := enc_len ((40 * L.getD 0 0 + L.getD 1 0) :: (L.drop 2).take (i - 2)); rw [← ho] at hel; have hbl : (b128 (L.getD i 0)).length ≤ 11 := (by have := enc_len [L.getD i 0]; simpa [enc] using this)
    refine J.skip ?_
    refine J.seq ?_
    refine J.block ?_
    refine Rg ?_
    refine Ru 3 rfl ?_
    refine JL.ope (RunE.index sl_75 rfl rfl (by first | with_reducible rfl | exact (Int.toNat_of_nonneg (by omega)).symm) (by assumption) rfl (by omega)) rfl ?_
    rintro _ ⟨b9, o9, hi9, rfl, hE9⟩
    refine JL.op (RunV.ld_u64 ag_100 rfl (by assumption)) rfl ?_
    refine JL.call ca_138 rfl (rb128_fn' (n := L.getD i 0) (by omega) (by omega)) (by repeat first | exact Parts.nil | exact Del.here | apply Del.there | apply Parts.cons) rfl ?_
    rintro _ h11 Lo11 hle11 ⟨a11, c11, rfl, rfl⟩
    replace hhg := hhg.mono hle11
    replace hS2 := hS2.mono hle11
    refine JL.pub (R := u8R) (l := b128 (L.getD i 0)) (by repeat (first | exact Del.here | apply Del.there)) CellsR.of_u8 rfl (by omega) (fun h9 hle9 hP9 => ?_); replace hhg := hhg.mono hle9; replace hS2 := hS2.mono hle9; simp only [List.length_cons, List.length_take, List.length_drop] at hel
    refine JL.append ap_22 rfl rfl CellsR.of_u8 rfl (by assumption) rfl (by repeat (first | exact Del.here | apply Del.there)) (by first | omega | (simp only [List.length_append, List.length_cons, List.length_nil]; omega)) rfl rfl (fun a12 c12 xs12 hC12 hN12 => ?_)
    obtain rfl := hC12.u8
    refine Ru 1 rfl ?_
    refine JL.nil ?_
    refine Rg ?_
    refine Ru 1 rfl ?_
    refine JL.op (by first | exact RunV.add_i64 rfl rfl (by omega) (by omega) | exact RunV.add rfl rfl) rfl ?_
    refine Ru 1 rfl ?_
    refine JL.nil ?_
    refine ⟨_, ?_, _, ?_, ⟨_, i + 1, _, _, _, rfl, rfl, rfl, rfl, ⟨by assumption, by assumption, by omega, by omega, by rw [htk, ho, ← List.cons_append, enc_append]; simp [enc]⟩⟩⟩
    ·
     omega
    ·
     repeat (first | exact trivial | refine ⟨rfl, ?_⟩)
   ·
    have hob : out = enc ((40 * L.getD 0 0 + L.getD 1 0) :: L.drop 2) := (by rw [ho, List.take_of_length_le (by rw [List.length_drop]; omega)]); have hel := enc_len ((40 * L.getD 0 0 + L.getD 1 0) :: L.drop 2); rw [← hob] at hel; simp only [List.length_cons, List.length_drop] at hel
    refine J.exit ?_
    refine Kp [6] rfl ?_
    refine Sr ?_
    refine Ru 1 rfl ?_
    refine JL.pub (R := u8R) (l := out) (by repeat (first | exact Del.here | apply Del.there)) CellsR.of_u8 rfl (by omega) (fun h9 hle9 hP9 => ?_)
    refine Ru 2 rfl ?_
    refine JL.nil ?_
    rw [hb, Option.getD_some, ← hob]; exact J.retR (RetV.two rfl rfl rfl) ⟨_, _, rfl, by assumption⟩




/-! ## the text of bytes -/
theorem tail46_snoc (l : List Nat) (n : Nat) : tail46 (l ++ [n]) = tail46 l ++ ([46] ++ dgs n 1) := by
  induction l with
  | nil => simp [tail46]
  | cons m r ih => simp [tail46, ih]
theorem txtO_snoc (l : List Nat) (n : Nat) (h : l ≠ []) : txtO (l ++ [n]) = txtO l ++ [46] ++ dgs n 1 := by
  cases l with
  | nil => exact absurd rfl h
  | cons m r => simp [txtO, tail46_snoc]
theorem txtO_nil (l : List Nat) : txtO l = [] ↔ l = [] := by
  cases l with
  | nil => simp [txtO]
  | cons m r => simp [txtO]
theorem refGo_step (b : List UInt8) (i n long : Nat) (h : i < b.length) : refGo (b.drop i) n long = if 9 < long + 1 ∨ 9223372036854775808 ≤ n * 128 + byteAt b i % 128 then none else if 128 ≤ byteAt b i then refGo (b.drop (i + 1)) (n * 128 + byteAt b i % 128) (long + 1) else (refGo (b.drop (i + 1)) 0 0).map (fun l => (n * 128 + byteAt b i % 128) :: l) := by
  rw [List.drop_eq_getElem_cons h, refGo, byteAt_eq b i h]
theorem roidtext_fn {a0 : Option Addr} {c0 : Nat} {l : List UInt8} {h : Part} (hl : SlR u8R 1 h a0 c0 l) (hb : l.length ≤ 10000000) :
    Pure Tryd.prog 94 [.slice a0 l.length c0] h (.tuple #[.string ⟨((oidT l).getD []).toArray⟩, .int .i64 (if (oidT l).isSome then 0 else 20)]) := by
  rw [refO_oidT]
  refine Pure.ofV ?_
  refine Fn.intro Tryd.func94 rfl Tryd.ntmps94 rfl (fun e he => ?_)
  refine J.weak [(0, _)] ⟨rfl, trivial⟩ ?_
  refine Sr ?_
  refine Ru 2 rfl ?_
  refine JL.nil ?_
  refine Sr ?_
  refine Ru 1 rfl ?_
  refine JL.nil ?_
  refine Sr ?_
  refine Ru 1 rfl ?_
  refine JL.nil ?_
  refine Sr ?_
  refine Ru 1 rfl ?_
  refine JL.nil ?_
  refine J.seq ?_
  refine Sr ?_
  refine Ru 1 rfl ?_
  refine JL.nil ?_
  refine J.block ?_
  refine J.loop (fun t_ S_ h_ L_ => ∃ (i n long : Nat) (acc : List Nat) (s : List UInt8), t_ = l.length - i ∧ S_ = [(0, .slice a0 l.length c0), (4, .string ⟨s.toArray⟩), (5, .int .u64 n), (6, .int .i64 long), (7, .int .i64 i)] ∧ h = h_ ∧ L_ = [] ∧ (i ≤ l.length ∧ n < 128 ^ long ∧ long ≤ 9 ∧ s = txtO acc ∧ s.length ≤ 42 * i ∧ refGo l 0 0 = (refGo (l.drop i) n long).map (acc ++ ·) ∧ (∀ x ∈ acc, x < 9223372036854775808))) ⟨_, _, ?_, ⟨0, 0, 0, [], [], rfl, rfl, rfl, rfl, ⟨by omega, by simp, by omega, rfl, by simp, by simp, by simp⟩⟩⟩ ?_
  ·
   repeat (first | exact trivial | refine ⟨rfl, ?_⟩)
  rintro _ _ _ _ ⟨i, n, long, acc, s, rfl, rfl, rfl, rfl, hi, hn, hlg, hs, hsl, hq, hx⟩
  have h128 : long ≤ 8 → (128 : Nat) ^ long ≤ 72057594037927936 := (fun hh => Nat.le_trans (Nat.pow_le_pow_right (by decide) hh) (by decide))
  refine J.seq ?_
  refine Sr ?_
  refine Ru 4 rfl ?_
  refine JL.nil ?_
  refine Cs rfl (fun hc1 => ?_) fun hc1 => ?_
  ·
   have hi' : i < l.length := (by omega); have hst := refGo_step l i n long hi'; have hbt := byteAt_lt l i; have hbe := byteAt_eq l i hi'
   refine J.skip ?_
   refine J.seq ?_
   refine J.block ?_
   refine Sr ?_
   refine Ru 1 rfl ?_
   refine JL.op (RunV.mul rfl rfl) rfl ?_
   refine Ru 2 rfl ?_
   refine JL.ope (RunE.index sl_22 rfl rfl (by first | with_reducible rfl | exact (Int.toNat_of_nonneg (by omega)).symm) (by assumption) rfl (by omega)) rfl ?_
   rintro _ ⟨b2, o2, hi2, rfl, hE2⟩
   refine JL.op (RunV.ld_u8 ag_5 rfl (by assumption)) rfl ?_
   refine JL.op (RunV.rem_u8 rfl rfl (by omega) (by omega)) rfl ?_
   refine JL.op (by first | exact RunV.convb_u64 cv_5_100 rfl | exact RunV.conv_u64 cv_5_100 rfl (by omega) (by omega) | exact RunV.conv cv_5_100 rfl) rfl ?_
   refine JL.op (RunV.add rfl rfl) rfl ?_
   rw [show IntKind.u64.wrap (IntKind.u64.wrap ((n : Int) * 128) + (l[i].toNat : Int) % 128) = (((n * 128 + byteAt l i % 128) % 18446744073709551616 : Nat) : Int) from by rw [IntKind.wrap_u64, IntKind.wrap_u64, hbe]; omega]
   refine Ru 1 rfl ?_
   refine JL.nil ?_
   refine Sr ?_
   refine Ru 1 rfl ?_
   refine JL.op (by first | exact RunV.add_i64 rfl rfl (by omega) (by omega) | exact RunV.add rfl rfl) rfl ?_
   refine Ru 1 rfl ?_
   refine JL.nil ?_
   refine J.seq ?_
   refine J.seq ?_
   refine J.meet [(33, .bool (decide (9 < long + 1 ∨ 9223372036854775808 ≤ (n * 128 + byteAt l i % 128) % 18446744073709551616)))] [(6, _), (27, _), (26, _), (5, _), (25, _), (24, _), (23, _), (22, _), (21, _), (20, _), (19, _), (18, _), (17, _), (14, _), (13, _), (12, _), (11, _), (0, _), (4, _), (7, _)] ⟨rfl, rfl, rfl, rfl, rfl, rfl, rfl, rfl, rfl, rfl, rfl, rfl, rfl, rfl, rfl, rfl, rfl, rfl, rfl, rfl, trivial⟩ ?_ ?_
   ·
    refine Rg ?_
    refine Ru 3 rfl ?_
    refine Bs 30 rfl (fun hc4 => ?_) fun hc4 => ?_
    ·
     refine Ru 3 rfl ?_
     refine JL.nil ?_
     refine ⟨rfl, rfl, ?_⟩
     repeat (first | exact trivial | refine ⟨rfl, ?_⟩ | refine ⟨(by exact some_bool (by first | exact decide_eq_decide.2 (by omega) | exact (decide_eq_false (by omega)).symm | exact (decide_eq_true (by omega)).symm)), ?_⟩)
    ·
     refine Ru 3 rfl ?_
     refine JL.nil ?_
     refine ⟨rfl, rfl, ?_⟩
     repeat (first | exact trivial | refine ⟨rfl, ?_⟩ | refine ⟨(by exact some_bool (by first | exact decide_eq_decide.2 (by omega) | exact (decide_eq_false (by omega)).symm | exact (decide_eq_true (by omega)).symm)), ?_⟩)
   ·
    refine Cs rfl (fun hc5 => ?_) fun hc5 => ?_
    ·
     have hcz : 9 < long + 1 ∨ 9223372036854775808 ≤ n * 128 + byteAt l i % 128 := (by rcases Nat.lt_or_ge 8 long with hl8 | hl8; left; omega; have := h128 hl8; omega); have hro : refO l = none := (by unfold refO; rw [hq, hst, if_pos hcz]; rfl)
     refine Sr ?_
     refine Ru 2 rfl ?_
     refine JL.nil ?_
     exact J.retV (RetV.two rfl rfl rfl) (by rw [hro]; rfl)
    ·
     have hl8 : long ≤ 8 := (by omega); have h12 := h128 hl8; have hcz : ¬ (9 < long + 1 ∨ 9223372036854775808 ≤ n * 128 + byteAt l i % 128) := (by omega); rw [if_neg hcz] at hst; obtain ⟨N, hN⟩ : ∃ N, N = n * 128 + byteAt l i % 128 := ⟨_, rfl⟩; have hNm : (n * 128 + byteAt l i % 128) % 18446744073709551616 = N := (by omega); rw [hNm]; have hN63 : N < 9223372036854775808 := (by omega); rw [← hN] at hst
     refine J.skip ?_
     refine J.seq ?_
     refine Sr ?_
     refine Ru 2 rfl ?_
     refine JL.ope (RunE.index sl_22 rfl rfl (by first | with_reducible rfl | exact (Int.toNat_of_nonneg (by omega)).symm) (by assumption) rfl (by omega)) rfl ?_
     rintro _ ⟨b6, o6, hi6, rfl, hE6⟩
     refine JL.op (RunV.ld_u8 ag_5 rfl (by assumption)) rfl ?_
     refine Ru 1 rfl ?_
     refine JL.nil ?_
     refine Cs rfl (fun hc8 => ?_) fun hc8 => ?_
     ·
      refine J.exit ?_
      refine Rg ?_
      refine Ru 1 rfl ?_
      refine JL.op (by first | exact RunV.add_i64 rfl rfl (by omega) (by omega) | exact RunV.add rfl rfl) rfl ?_
      refine Ru 1 rfl ?_
      refine JL.nil ?_
      refine ⟨_, ?_, _, ?_, ⟨i + 1, N, long + 1, acc, s, rfl, rfl, rfl, rfl, ⟨by omega, by rw [Nat.pow_succ]; omega, by omega, hs, by omega, by rw [hq, hst, if_pos (by omega)], hx⟩⟩⟩
      ·
       omega
      ·
       repeat (first | exact trivial | refine ⟨rfl, ?_⟩)
     ·
      rw [if_neg (by omega)] at hst
      refine J.skip ?_
      refine J.seq ?_
      refine Sr ?_
      refine Ru 1 rfl ?_
      refine JL.op (RunV.eqlS rfl rfl) rfl ?_
      refine JL.nil ?_
      refine Cs rfl (fun hc9 => ?_) fun hc9 => ?_
      ·
       have ha0 : acc = [] := (txtO_nil acc).1 (by rw [← hs]; exact hc9); obtain ⟨m2, hm2⟩ : ∃ m2 : Nat, m2 = N - 40 * min (N / 40) 2 := ⟨_, rfl⟩; have hdl := dgs_len (min (N / 40) 2) 1; have hdl2 := dgs_len m2 1
       refine Sr ?_
       refine Ru 1 rfl ?_
       refine JL.nil ?_
       refine J.seq ?_
       refine Sr ?_
       refine Ru 2 rfl ?_
       refine JL.nil ?_
       refine J.meet [(8, .int .u64 (min (N / 40) 2 : Nat))] [(41, _), (40, _), (39, _), (38, _), (37, _), (36, _), (35, _), (34, _), (33, _), (6, _), (27, _), (26, _), (5, _), (25, _), (24, _), (23, _), (22, _), (21, _), (20, _), (19, _), (18, _), (17, _), (14, _), (13, _), (12, _), (11, _), (0, _), (4, _), (7, _)] ⟨rfl, rfl, rfl, rfl, rfl, rfl, rfl, rfl, rfl, rfl, rfl, rfl, rfl, rfl, rfl, rfl, rfl, rfl, rfl, rfl, rfl, rfl, rfl, rfl, rfl, rfl, rfl, rfl, rfl, trivial⟩ ?_ ?_
       ·
        refine Cs rfl (fun hc10 => ?_) fun hc10 => ?_
        ·
         refine Rg ?_
         refine Ru 1 rfl ?_
         refine JL.op (by first | exact RunV.quo_u64 rfl rfl (by omega) (by omega) (by omega) | exact RunV.quo rfl rfl (by omega)) rfl ?_
         refine Ru 1 rfl ?_
         refine JL.nil ?_
         refine ⟨rfl, rfl, ?_⟩
         repeat (first | exact trivial | refine ⟨rfl, ?_⟩ | refine ⟨(by exact some_int (by omega)), ?_⟩)
        ·
         refine J.skip ?_
         refine ⟨rfl, rfl, ?_⟩
         repeat (first | exact trivial | refine ⟨rfl, ?_⟩ | refine ⟨(by exact some_int (by omega)), ?_⟩)
       ·
        refine Sr ?_
        refine Ru 1 rfl ?_
        refine JL.callP ca_121 rfl (rdigits_fn' (n := min (N / 40) 2) (least := 1) (by omega) rfl (by omega) (by omega)) rfl ?_
        refine Ru 1 rfl ?_
        refine JL.nil ?_
        refine Rg ?_
        refine Ru 2 rfl ?_
        refine JL.op (by first | exact RunV.mul_u64 rfl rfl (by omega) (by omega) | exact RunV.mul rfl rfl) rfl ?_
        refine JL.op (by first | exact RunV.sub_u64 rfl rfl (by omega) (by omega) | exact RunV.sub rfl rfl) rfl ?_
        refine Ru 1 rfl ?_
        refine JL.nil ?_
        refine Sr ?_
        refine Ru 1 rfl ?_
        refine JL.op (RunV.addS rfl rfl (by first | omega | (simp only [List.length_append, List.length_cons, List.length_nil]; omega))) rfl ?_
        refine Ru 1 rfl ?_
        refine JL.callP ca_121 rfl (rdigits_fn' (n := m2) (least := 1) (by omega) rfl (by omega) (by omega)) rfl ?_
        refine JL.op (RunV.addS rfl rfl (by first | omega | (simp only [List.length_append, List.length_cons, List.length_nil]; omega))) rfl ?_
        refine Ru 1 rfl ?_
        refine JL.nil ?_
        refine Sr ?_
        refine Ru 1 rfl ?_
        refine JL.nil ?_
        refine Rg ?_
        refine Ru 1 rfl ?_
        refine Nk [6, 5, 4, 55, 54, 53, 52, 51, 50, 49, 48, 47, 46, 45, 8, 41, 40, 39, 38, 37, 36, 35, 34, 33, 27, 26, 25, 24, 23, 22, 21, 20, 19, 18, 17, 14, 13, 12, 11, 0, 7] rfl ?_
        refine Rg ?_
        refine Ru 1 rfl ?_
        refine JL.op (by first | exact RunV.add_i64 rfl rfl (by omega) (by omega) | exact RunV.add rfl rfl) rfl ?_
        refine Ru 1 rfl ?_
        refine JL.nil ?_
        refine ⟨_, ?_, _, ?_, ⟨i + 1, 0, 0, acc ++ [N], dgs (min (N / 40) 2) 1 ++ [46] ++ dgs m2 1, rfl, rfl, rfl, rfl, ⟨by omega, by simp, by omega, by rw [ha0, hm2]; simp [txtO, tail46], by simp only [List.length_append, List.length_cons, List.length_nil]; omega, by rw [hq, hst, Option.map_map]; congr 1; funext z; simp, by (intro y hy; rcases List.mem_append.1 hy with hy | hy; exact hx y hy; simp at hy; subst hy; exact hN63)⟩⟩⟩
        ·
         omega
        ·
         repeat (first | exact trivial | refine ⟨rfl, ?_⟩)
      ·
       have ha0 : acc ≠ [] := (fun e => hc9 (by rw [hs]; exact (txtO_nil acc).2 e)); obtain ⟨m2, hm2⟩ : ∃ m2 : Nat, m2 = N := ⟨_, rfl⟩; have hdl2 := dgs_len m2 1
       refine J.skip ?_
       refine Sr ?_
       refine Ru 1 rfl ?_
       refine JL.op (RunV.addS rfl rfl (by first | omega | (simp only [List.length_append, List.length_cons, List.length_nil]; omega))) rfl ?_
       refine Ru 1 rfl ?_
       refine JL.callP ca_121 rfl (rdigits_fn' (n := m2) (least := 1) (by omega) rfl (by omega) (by omega)) rfl ?_
       refine JL.op (RunV.addS rfl rfl (by first | omega | (simp only [List.length_append, List.length_cons, List.length_nil]; omega))) rfl ?_
       refine Ru 1 rfl ?_
       refine JL.nil ?_
       refine Sr ?_
       refine Ru 1 rfl ?_
       refine Nk [5, 4, 55, 54, 53, 52, 51, 40, 39, 38, 37, 36, 35, 34, 33, 6, 27, 26, 25, 24, 23, 22, 21, 20, 19, 18, 17, 14, 13, 12, 11, 0, 7] rfl ?_
       refine Rg ?_
       refine Ru 1 rfl ?_
       refine JL.nil ?_
       refine Rg ?_
       refine Ru 1 rfl ?_
       refine JL.op (by first | exact RunV.add_i64 rfl rfl (by omega) (by omega) | exact RunV.add rfl rfl) rfl ?_
       refine Ru 1 rfl ?_
       refine JL.nil ?_
       refine ⟨_, ?_, _, ?_, ⟨i + 1, 0, 0, acc ++ [N], s ++ [46] ++ dgs m2 1, rfl, rfl, rfl, rfl, ⟨by omega, by simp, by omega, by rw [txtO_snoc _ _ ha0, hs, hm2], by simp only [List.length_append, List.length_cons, List.length_nil]; omega, by rw [hq, hst, Option.map_map]; congr 1; funext z; simp, by (intro y hy; rcases List.mem_append.1 hy with hy | hy; exact hx y hy; simp at hy; subst hy; exact hN63)⟩⟩⟩
       ·
        omega
       ·
        repeat (first | exact trivial | refine ⟨rfl, ?_⟩)
  ·
   have hrg : refGo l 0 0 = some acc := (by rw [hq, List.drop_of_length_le (by omega), refGo]; simp); have hro : refO l = if acc ≠ [] ∧ enc acc = l then some acc else none := (by unfold refO; rw [hrg]); have hob := oidB_txt acc hx; rw [← hs] at hob; have hA : acc = [] → oidB s = none := (fun ha => by rw [hob, if_pos ha]); have hB : acc ≠ [] → oidB s = some (enc acc) := (fun ha => by rw [hob, if_neg ha])
   refine J.exit ?_
   refine Kp [0, 4] rfl ?_
   refine Sr ?_
   refine Ru 1 rfl ?_
   refine JL.callR ca_122 rfl (roidbytes_fn _ _ (by omega)) rfl ?_
   rintro _ h14 hle14 ⟨a14, c14, rfl, hS14⟩
   replace hl := hl.mono hle14
   refine Ru 5 rfl ?_
   refine Nk [10, 9, 0, 4] rfl ?_
   refine J.seq ?_
   refine Sr ?_
   refine Ru 3 rfl ?_
   refine Bs 63 rfl (fun hc15 => ?_) fun hc15 => ?_
   ·
    refine Ru 6 rfl ?_
    refine Nk [69, 4] rfl ?_
    refine J.cond_t rfl ?_
    refine Sr ?_
    refine Ru 2 rfl ?_
    refine JL.nil ?_
    exact J.retV (RetV.two rfl rfl rfl) (by
      rcases Classical.em (acc = []) with ha | ha
      · have hz := hA ha; rw [hro, if_neg (fun k => k.1 ha)]; first | rfl | (exfalso; simp_all; done)
      · have hz := hB ha
        by_cases hq9 : enc acc = l
        · rw [hro, if_pos ⟨ha, hq9⟩]; first | (rw [hs]; rfl) | (exfalso; simp_all; done)
        · rw [hro, if_neg (fun k => hq9 k.2)]; first | rfl | (exfalso; simp_all; done))
   ·
    refine Ru 1 rfl ?_
    refine JL.opg rfl rfl  (RunV.strB sb_22_9 rfl (by assumption) rfl) rfl ?_
    refine Ru 1 rfl ?_
    refine JL.opg rfl rfl  (RunV.strB sb_22_9 rfl (by assumption) rfl) rfl ?_
    refine JL.opg rfl rfl  (RunV.neqS rfl rfl) rfl ?_
    refine Ru 1 rfl ?_
    refine Nk [69, 4] rfl ?_
    refine Cs rfl (fun hc16 => ?_) fun hc16 => ?_
    ·
     refine Sr ?_
     refine Ru 2 rfl ?_
     refine JL.nil ?_
     exact J.retV (RetV.two rfl rfl rfl) (by
       rcases Classical.em (acc = []) with ha | ha
       · have hz := hA ha; rw [hro, if_neg (fun k => k.1 ha)]; first | rfl | (exfalso; simp_all; done)
       · have hz := hB ha
         by_cases hq9 : enc acc = l
         · rw [hro, if_pos ⟨ha, hq9⟩]; first | (rw [hs]; rfl) | (exfalso; simp_all; done)
         · rw [hro, if_neg (fun k => hq9 k.2)]; first | rfl | (exfalso; simp_all; done))
    ·
     refine J.skip ?_
     refine Sr ?_
     refine Ru 3 rfl ?_
     refine JL.nil ?_
     exact J.retV (RetV.two rfl rfl rfl) (by
       rcases Classical.em (acc = []) with ha | ha
       · have hz := hA ha; rw [hro, if_neg (fun k => k.1 ha)]; first | rfl | (exfalso; simp_all; done)
       · have hz := hB ha
         by_cases hq9 : enc acc = l
         · rw [hro, if_pos ⟨ha, hq9⟩]; first | (rw [hs]; rfl) | (exfalso; simp_all; done)
         · rw [hro, if_neg (fun k => hq9 k.2)]; first | rfl | (exfalso; simp_all; done))



end Go.Proofs.YtmngjbefnloljaaDoor
