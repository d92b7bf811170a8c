/- Walks: the reference's values and bytes of nodes. -/
import Derived.Test.YtmngjbefnloljaaDoorCal
import Derived.Test.YtmngjbefnloljaaDoorTxp
import Derived.Test.YtmngjbefnloljaaDoorDerV4
import Derived.Test.YtmngjbefnloljaaDoorDerM
set_option linter.unusedSimpArgs false
set_option linter.unusedVariables false
set_option linter.constructorNameAsVariable false
namespace Go.Proofs.YtmngjbefnloljaaDoor
open Go Go.RowKit
set_option maxRecDepth 100000
theorem ca_34 : callT Tryd.prog 34 = true := by kernel_rfl
theorem ca_49 : callT Tryd.prog 49 = true := by kernel_rfl
theorem ca_64 : callT Tryd.prog 64 = true := by kernel_rfl
theorem ca_65 : callT Tryd.prog 65 = true := by kernel_rfl
theorem ca_66 : callT Tryd.prog 66 = true := by kernel_rfl
theorem ca_94 : callT Tryd.prog 94 = true := by kernel_rfl
theorem ca_95 : callT Tryd.prog 95 = true := by kernel_rfl
theorem ca_96 : callT Tryd.prog 96 = true := by kernel_rfl
theorem ca_97 : callT Tryd.prog 97 = true := by kernel_rfl
theorem ca_98 : callT Tryd.prog 98 = true := by kernel_rfl
theorem ca_99 : callT Tryd.prog 99 = true := by kernel_rfl

theorem bits_f {b : List UInt8} (h : b.length = 0 ∨ 7 < byteAt b 0) : bitsB b = false := decide_eq_false (fun hh => hh.1 (by omega))
theorem bits_1 {b : List UInt8} (h : b.length = 1) (h7 : byteAt b 0 ≤ 7) : bitsB b = decide (((2 ^ byteAt b 0 : Nat) : Int) = 1) := by
  unfold bitsB
  refine decide_eq_decide.2 ?_
  rcases Nat.eq_zero_or_pos (byteAt b 0) with h0 | h0
  · exact ⟨fun _ => by rw [h0]; rfl, fun _ => ⟨by omega, .inl h0⟩⟩
  · have : 2 ≤ 2 ^ byteAt b 0 := Nat.pow_le_pow_right (n := 2) (by decide) h0
    constructor
    · rintro ⟨h1, _⟩; omega
    · intro h1; omega
theorem bits_n {b : List UInt8} (h0 : b.length ≠ 0) (h1 : b.length ≠ 1) (h7 : byteAt b 0 ≤ 7) : bitsB b = decide ((byteAt b (b.length - 1) : Int) % ((2 ^ byteAt b 0 : Nat) : Int) = 0) := by
  unfold bitsB
  refine decide_eq_decide.2 ?_
  constructor
  · rintro ⟨_, h2 | h2⟩
    · rw [h2]; simp
    · rw [← Int.natCast_emod, h2]; rfl
  · intro h2
    rw [← Int.natCast_emod] at h2
    exact ⟨by omega, .inr (by omega)⟩
theorem pow7 (n : Nat) (h : n ≤ 7) : 1 ≤ 2 ^ n ∧ 2 ^ n ≤ 128 := ⟨Nat.one_le_two_pow, Nat.pow_le_pow_right (n := 2) (by decide) h⟩
theorem rvalue_fn {t : Int} {a : Option Addr} {c : Nat} {l : List UInt8} {h : Part} (hl : SlR u8R 1 h a c l) (hb : l.length ≤ 10000000) : Pure Tryd.prog 65 [.int .i64 t, .slice a l.length c] h (.bool (valB t l)) := by
  have e0 := fun hh => byteAt_eq l 0 hh
  refine Fn.intro Tryd.func65 rfl Tryd.ntmps65 rfl (fun e he => ?_)
  refine J.weak [(0, _), (1, _)] ⟨rfl, rfl, trivial⟩ ?_
  refine Sr ?_
  refine Ru 1 rfl ?_
  refine JL.nil ?_
  refine Sr ?_
  refine Ru 3 rfl ?_
  refine JL.nil ?_
  refine J.seq ?_
  refine Sr ?_
  refine Ru 1 rfl ?_
  refine JL.nil ?_
  refine J.block ?_
  refine Sr ?_
  refine Ru 2 rfl ?_
  refine JL.nil ?_
  refine Cs rfl (fun hc1 => ?_) fun hc1 => ?_
  ·
   refine Sr ?_
   refine Ru 3 rfl ?_
   refine Bs 23 rfl (fun hc2 => ?_) fun hc2 => ?_
   ·
    refine Ru 1 rfl ?_
    refine JL.opeg rfl rfl  (RunE.index sl_22 rfl rfl (show _ = ((0 : Nat) : Int) from rfl) (by assumption) rfl (by omega)) rfl ?_
    rintro _ ⟨b3, o3, hi3, rfl, hE3⟩
    refine JL.opg rfl rfl  (RunV.ld_u8 ag_5 rfl (by assumption)) rfl ?_
    refine Ru 2 rfl ?_
    refine Bs 28 rfl (fun hc5 => ?_) fun hc5 => ?_
    ·
     refine Ru 7 rfl ?_
     refine Nk [4] rfl ?_
     exact J.retP (RetV.one rfl rfl) (by first | (rw [valB_1 (by omega), ← e0 (by omega)]; (congr 1; first | exact (decide_eq_true (by omega)).symm | exact (decide_eq_false (by omega)).symm | exact decide_eq_decide.2 (by omega) | (rw [← decide_not]; exact decide_eq_decide.2 (by omega)))) | (rw [valB_1 (by omega)]; (congr 1; first | exact (decide_eq_true (by omega)).symm | exact (decide_eq_false (by omega)).symm | exact decide_eq_decide.2 (by omega) | (rw [← decide_not]; exact decide_eq_decide.2 (by omega)))) | (rw [valB_2 (by omega), leastB]; (repeat' split) <;> first | (congr 1; first | exact (decide_eq_true (by omega)).symm | exact (decide_eq_false (by omega)).symm | exact decide_eq_decide.2 (by omega) | (rw [← decide_not]; exact decide_eq_decide.2 (by omega))) | (congr 1; first | exact decide_eq_true (by omega) | exact decide_eq_false (by omega)) | (exfalso; omega)) | (rw [valB_3 (by omega), bits_f (by first | omega | (rw [← e0 (by omega)]; omega))]; done) | (rw [valB_3 (by omega), bits_1 (by omega) (by omega)]; done) | (rw [valB_3 (by omega), bits_n (by omega) (by omega) (by omega), ← e1]; done) | (rw [valB_5 (by omega)]; (congr 1; first | exact (decide_eq_true (by omega)).symm | exact (decide_eq_false (by omega)).symm | exact decide_eq_decide.2 (by omega) | (rw [← decide_not]; exact decide_eq_decide.2 (by omega)))) | (rw [valB_6 (by omega)]; cases (oidT l).isSome <;> rfl) | rw [valB_12 (by omega)] | rw [valB_19 (by omega)] | rw [valB_22 (by omega)] | (rw [valB_23 (by omega)]; cases psOk l <;> rfl) | (rw [valB_24 (by omega)]; cases plOk l <;> rfl) | rw [valB_0 (by omega)]) rfl
    ·
     refine Ru 1 rfl ?_
     refine JL.opeg rfl rfl  (RunE.index sl_22 rfl rfl (show _ = ((0 : Nat) : Int) from rfl) (by assumption) rfl (by omega)) rfl ?_
     rintro _ ⟨b6, o6, hi6, rfl, hE6⟩
     refine JL.opg rfl rfl  (RunV.ld_u8 ag_5 rfl (by assumption)) rfl ?_
     refine Ru 4 rfl ?_
     refine Nk [4] rfl ?_
     exact J.retP (RetV.one rfl rfl) (by first | (rw [valB_1 (by omega), ← e0 (by omega)]; (congr 1; first | exact (decide_eq_true (by omega)).symm | exact (decide_eq_false (by omega)).symm | exact decide_eq_decide.2 (by omega) | (rw [← decide_not]; exact decide_eq_decide.2 (by omega)))) | (rw [valB_1 (by omega)]; (congr 1; first | exact (decide_eq_true (by omega)).symm | exact (decide_eq_false (by omega)).symm | exact decide_eq_decide.2 (by omega) | (rw [← decide_not]; exact decide_eq_decide.2 (by omega)))) | (rw [valB_2 (by omega), leastB]; (repeat' split) <;> first | (congr 1; first | exact (decide_eq_true (by omega)).symm | exact (decide_eq_false (by omega)).symm | exact decide_eq_decide.2 (by omega) | (rw [← decide_not]; exact decide_eq_decide.2 (by omega))) | (congr 1; first | exact decide_eq_true (by omega) | exact decide_eq_false (by omega)) | (exfalso; omega)) | (rw [valB_3 (by omega), bits_f (by first | omega | (rw [← e0 (by omega)]; omega))]; done) | (rw [valB_3 (by omega), bits_1 (by omega) (by omega)]; done) | (rw [valB_3 (by omega), bits_n (by omega) (by omega) (by omega), ← e1]; done) | (rw [valB_5 (by omega)]; (congr 1; first | exact (decide_eq_true (by omega)).symm | exact (decide_eq_false (by omega)).symm | exact decide_eq_decide.2 (by omega) | (rw [← decide_not]; exact decide_eq_decide.2 (by omega)))) | (rw [valB_6 (by omega)]; cases (oidT l).isSome <;> rfl) | rw [valB_12 (by omega)] | rw [valB_19 (by omega)] | rw [valB_22 (by omega)] | (rw [valB_23 (by omega)]; cases psOk l <;> rfl) | (rw [valB_24 (by omega)]; cases plOk l <;> rfl) | rw [valB_0 (by omega)]) rfl
   ·
    refine Ru 12 rfl ?_
    refine Nk [4] rfl ?_
    exact J.retP (RetV.one rfl rfl) (by first | (rw [valB_1 (by omega), ← e0 (by omega)]; (congr 1; first | exact (decide_eq_true (by omega)).symm | exact (decide_eq_false (by omega)).symm | exact decide_eq_decide.2 (by omega) | (rw [← decide_not]; exact decide_eq_decide.2 (by omega)))) | (rw [valB_1 (by omega)]; (congr 1; first | exact (decide_eq_true (by omega)).symm | exact (decide_eq_false (by omega)).symm | exact decide_eq_decide.2 (by omega) | (rw [← decide_not]; exact decide_eq_decide.2 (by omega)))) | (rw [valB_2 (by omega), leastB]; (repeat' split) <;> first | (congr 1; first | exact (decide_eq_true (by omega)).symm | exact (decide_eq_false (by omega)).symm | exact decide_eq_decide.2 (by omega) | (rw [← decide_not]; exact decide_eq_decide.2 (by omega))) | (congr 1; first | exact decide_eq_true (by omega) | exact decide_eq_false (by omega)) | (exfalso; omega)) | (rw [valB_3 (by omega), bits_f (by first | omega | (rw [← e0 (by omega)]; omega))]; done) | (rw [valB_3 (by omega), bits_1 (by omega) (by omega)]; done) | (rw [valB_3 (by omega), bits_n (by omega) (by omega) (by omega), ← e1]; done) | (rw [valB_5 (by omega)]; (congr 1; first | exact (decide_eq_true (by omega)).symm | exact (decide_eq_false (by omega)).symm | exact decide_eq_decide.2 (by omega) | (rw [← decide_not]; exact decide_eq_decide.2 (by omega)))) | (rw [valB_6 (by omega)]; cases (oidT l).isSome <;> rfl) | rw [valB_12 (by omega)] | rw [valB_19 (by omega)] | rw [valB_22 (by omega)] | (rw [valB_23 (by omega)]; cases psOk l <;> rfl) | (rw [valB_24 (by omega)]; cases plOk l <;> rfl) | rw [valB_0 (by omega)]) rfl
  ·
   refine J.seq ?_
   refine Sr ?_
   refine Ru 2 rfl ?_
   refine Nk [35, 18, 5, 4, 1] rfl ?_
   refine Cs rfl (fun hc8 => ?_) fun hc8 => ?_
   ·
    refine J.skip ?_
    refine J.cond_t rfl ?_
    refine J.seq ?_
    refine Sr ?_
    refine Ru 2 rfl ?_
    refine JL.nil ?_
    refine Cs rfl (fun hc9 => ?_) fun hc9 => ?_
    ·
     refine Sr ?_
     refine Ru 3 rfl ?_
     refine Nk [4, 1] rfl ?_
     exact J.retP (RetV.one rfl rfl) (by first | (rw [valB_1 (by omega), ← e0 (by omega)]; (congr 1; first | exact (decide_eq_true (by omega)).symm | exact (decide_eq_false (by omega)).symm | exact decide_eq_decide.2 (by omega) | (rw [← decide_not]; exact decide_eq_decide.2 (by omega)))) | (rw [valB_1 (by omega)]; (congr 1; first | exact (decide_eq_true (by omega)).symm | exact (decide_eq_false (by omega)).symm | exact decide_eq_decide.2 (by omega) | (rw [← decide_not]; exact decide_eq_decide.2 (by omega)))) | (rw [valB_2 (by omega), leastB]; (repeat' split) <;> first | (congr 1; first | exact (decide_eq_true (by omega)).symm | exact (decide_eq_false (by omega)).symm | exact decide_eq_decide.2 (by omega) | (rw [← decide_not]; exact decide_eq_decide.2 (by omega))) | (congr 1; first | exact decide_eq_true (by omega) | exact decide_eq_false (by omega)) | (exfalso; omega)) | (rw [valB_3 (by omega), bits_f (by first | omega | (rw [← e0 (by omega)]; omega))]; done) | (rw [valB_3 (by omega), bits_1 (by omega) (by omega)]; done) | (rw [valB_3 (by omega), bits_n (by omega) (by omega) (by omega), ← e1]; done) | (rw [valB_5 (by omega)]; (congr 1; first | exact (decide_eq_true (by omega)).symm | exact (decide_eq_false (by omega)).symm | exact decide_eq_decide.2 (by omega) | (rw [← decide_not]; exact decide_eq_decide.2 (by omega)))) | (rw [valB_6 (by omega)]; cases (oidT l).isSome <;> rfl) | rw [valB_12 (by omega)] | rw [valB_19 (by omega)] | rw [valB_22 (by omega)] | (rw [valB_23 (by omega)]; cases psOk l <;> rfl) | (rw [valB_24 (by omega)]; cases plOk l <;> rfl) | rw [valB_0 (by omega)]) rfl
    ·
     refine J.skip ?_
     refine Kp [4, 1] rfl ?_
     refine J.seq ?_
     refine J.drawn mixed_ (by kernel_rfl) ?_
     have e0 := byteAt_eq l 0 (by omega); have e1 := byteAt_eq l 1 (by omega); have b0 := byteAt_lt l 0; have b1 := byteAt_lt l 1
     refine Rq 1 rfl ?_
     refine JQ.ope (RunE.index sl_22 rfl rfl (show _ = ((0 : Nat) : Int) from rfl) (by assumption) rfl (by omega)) rfl ?_
     rintro _ ⟨b10, o10, hi10, rfl, hE10⟩
     refine JQ.op (RunV.ld_u8 ag_5 rfl (by assumption)) rfl ?_
     refine JQ.op (by first | exact RunV.convb_i64 cv_5_3 rfl | exact RunV.conv_i64 cv_5_3 rfl (by omega) (by omega) | exact RunV.conv cv_5_3 rfl) rfl ?_
     refine JQ.op (by first | exact RunV.mul_i64 rfl rfl (by omega) (by omega) | exact RunV.mul rfl rfl) rfl ?_
     refine Rq 1 rfl ?_
     refine JQ.ope (RunE.index sl_22 rfl rfl (show _ = ((1 : Nat) : Int) from rfl) (by assumption) rfl (by omega)) rfl ?_
     rintro _ ⟨b12, o12, hi12, rfl, hE12⟩
     refine JQ.op (RunV.ld_u8 ag_5 rfl (by assumption)) rfl ?_
     refine JQ.op (by first | exact RunV.convb_i64 cv_5_3 rfl | exact RunV.conv_i64 cv_5_3 rfl (by omega) (by omega) | exact RunV.conv cv_5_3 rfl) rfl ?_
     refine JQ.op (by first | exact RunV.quo_i64 rfl rfl (by omega) (by omega) (by omega) | exact RunV.quo rfl rfl (by omega)) rfl ?_
     refine JQ.op (by first | exact RunV.add_i64 rfl rfl (by omega) (by omega) | exact RunV.add rfl rfl) rfl ?_
     refine Rq 1 rfl ?_
     refine Nq [6, 4] rfl ?_
     refine Sr ?_
     refine Ru 3 rfl ?_
     refine Bs 55 rfl (fun hc14 => ?_) fun hc14 => ?_
     ·
      refine Ru 4 rfl ?_
      refine Nk [4] rfl ?_
      exact J.retP (RetV.one rfl rfl) (by first | (rw [valB_1 (by omega), ← e0 (by omega)]; (congr 1; first | exact (decide_eq_true (by omega)).symm | exact (decide_eq_false (by omega)).symm | exact decide_eq_decide.2 (by omega) | (rw [← decide_not]; exact decide_eq_decide.2 (by omega)))) | (rw [valB_1 (by omega)]; (congr 1; first | exact (decide_eq_true (by omega)).symm | exact (decide_eq_false (by omega)).symm | exact decide_eq_decide.2 (by omega) | (rw [← decide_not]; exact decide_eq_decide.2 (by omega)))) | (rw [valB_2 (by omega), leastB]; (repeat' split) <;> first | (congr 1; first | exact (decide_eq_true (by omega)).symm | exact (decide_eq_false (by omega)).symm | exact decide_eq_decide.2 (by omega) | (rw [← decide_not]; exact decide_eq_decide.2 (by omega))) | (congr 1; first | exact decide_eq_true (by omega) | exact decide_eq_false (by omega)) | (exfalso; omega)) | (rw [valB_3 (by omega), bits_f (by first | omega | (rw [← e0 (by omega)]; omega))]; done) | (rw [valB_3 (by omega), bits_1 (by omega) (by omega)]; done) | (rw [valB_3 (by omega), bits_n (by omega) (by omega) (by omega), ← e1]; done) | (rw [valB_5 (by omega)]; (congr 1; first | exact (decide_eq_true (by omega)).symm | exact (decide_eq_false (by omega)).symm | exact decide_eq_decide.2 (by omega) | (rw [← decide_not]; exact decide_eq_decide.2 (by omega)))) | (rw [valB_6 (by omega)]; cases (oidT l).isSome <;> rfl) | rw [valB_12 (by omega)] | rw [valB_19 (by omega)] | rw [valB_22 (by omega)] | (rw [valB_23 (by omega)]; cases psOk l <;> rfl) | (rw [valB_24 (by omega)]; cases plOk l <;> rfl) | rw [valB_0 (by omega)]) rfl
     ·
      refine Ru 4 rfl ?_
      refine Nk [4] rfl ?_
      exact J.retP (RetV.one rfl rfl) (by first | (rw [valB_1 (by omega), ← e0 (by omega)]; (congr 1; first | exact (decide_eq_true (by omega)).symm | exact (decide_eq_false (by omega)).symm | exact decide_eq_decide.2 (by omega) | (rw [← decide_not]; exact decide_eq_decide.2 (by omega)))) | (rw [valB_1 (by omega)]; (congr 1; first | exact (decide_eq_true (by omega)).symm | exact (decide_eq_false (by omega)).symm | exact decide_eq_decide.2 (by omega) | (rw [← decide_not]; exact decide_eq_decide.2 (by omega)))) | (rw [valB_2 (by omega), leastB]; (repeat' split) <;> first | (congr 1; first | exact (decide_eq_true (by omega)).symm | exact (decide_eq_false (by omega)).symm | exact decide_eq_decide.2 (by omega) | (rw [← decide_not]; exact decide_eq_decide.2 (by omega))) | (congr 1; first | exact decide_eq_true (by omega) | exact decide_eq_false (by omega)) | (exfalso; omega)) | (rw [valB_3 (by omega), bits_f (by first | omega | (rw [← e0 (by omega)]; omega))]; done) | (rw [valB_3 (by omega), bits_1 (by omega) (by omega)]; done) | (rw [valB_3 (by omega), bits_n (by omega) (by omega) (by omega), ← e1]; done) | (rw [valB_5 (by omega)]; (congr 1; first | exact (decide_eq_true (by omega)).symm | exact (decide_eq_false (by omega)).symm | exact decide_eq_decide.2 (by omega) | (rw [← decide_not]; exact decide_eq_decide.2 (by omega)))) | (rw [valB_6 (by omega)]; cases (oidT l).isSome <;> rfl) | rw [valB_12 (by omega)] | rw [valB_19 (by omega)] | rw [valB_22 (by omega)] | (rw [valB_23 (by omega)]; cases psOk l <;> rfl) | (rw [valB_24 (by omega)]; cases plOk l <;> rfl) | rw [valB_0 (by omega)]) rfl
   ·
    refine Rg ?_
    refine Ru 2 rfl ?_
    refine JL.nil ?_
    refine Cs rfl (fun hc15 => ?_) fun hc15 => ?_
    ·
     refine J.seq ?_
     refine Sr ?_
     refine Ru 2 rfl ?_
     refine Nk [39, 5, 4, 1] rfl ?_
     refine Cs rfl (fun hc16 => ?_) fun hc16 => ?_
     ·
      refine Sr ?_
      refine Ru 3 rfl ?_
      refine Nk [4, 1] rfl ?_
      exact J.retP (RetV.one rfl rfl) (by first | (rw [valB_1 (by omega), ← e0 (by omega)]; (congr 1; first | exact (decide_eq_true (by omega)).symm | exact (decide_eq_false (by omega)).symm | exact decide_eq_decide.2 (by omega) | (rw [← decide_not]; exact decide_eq_decide.2 (by omega)))) | (rw [valB_1 (by omega)]; (congr 1; first | exact (decide_eq_true (by omega)).symm | exact (decide_eq_false (by omega)).symm | exact decide_eq_decide.2 (by omega) | (rw [← decide_not]; exact decide_eq_decide.2 (by omega)))) | (rw [valB_2 (by omega), leastB]; (repeat' split) <;> first | (congr 1; first | exact (decide_eq_true (by omega)).symm | exact (decide_eq_false (by omega)).symm | exact decide_eq_decide.2 (by omega) | (rw [← decide_not]; exact decide_eq_decide.2 (by omega))) | (congr 1; first | exact decide_eq_true (by omega) | exact decide_eq_false (by omega)) | (exfalso; omega)) | (rw [valB_3 (by omega), bits_f (by first | omega | (rw [← e0 (by omega)]; omega))]; done) | (rw [valB_3 (by omega), bits_1 (by omega) (by omega)]; done) | (rw [valB_3 (by omega), bits_n (by omega) (by omega) (by omega), ← e1]; done) | (rw [valB_5 (by omega)]; (congr 1; first | exact (decide_eq_true (by omega)).symm | exact (decide_eq_false (by omega)).symm | exact decide_eq_decide.2 (by omega) | (rw [← decide_not]; exact decide_eq_decide.2 (by omega)))) | (rw [valB_6 (by omega)]; cases (oidT l).isSome <;> rfl) | rw [valB_12 (by omega)] | rw [valB_19 (by omega)] | rw [valB_22 (by omega)] | (rw [valB_23 (by omega)]; cases psOk l <;> rfl) | (rw [valB_24 (by omega)]; cases plOk l <;> rfl) | rw [valB_0 (by omega)]) rfl
     ·
      refine J.skip ?_
      refine J.seq ?_
      refine J.drawn mixed_ (by kernel_rfl) ?_
      have e0 := byteAt_eq l 0 (by omega); have e1 := byteAt_eq l 1 (by omega); have b0 := byteAt_lt l 0; have b1 := byteAt_lt l 1
      refine Rq 1 rfl ?_
      refine JQ.ope (RunE.index sl_22 rfl rfl (show _ = ((0 : Nat) : Int) from rfl) (by assumption) rfl (by omega)) rfl ?_
      rintro _ ⟨b17, o17, hi17, rfl, hE17⟩
      refine JQ.op (RunV.ld_u8 ag_5 rfl (by assumption)) rfl ?_
      refine JQ.op (by first | exact RunV.convb_i64 cv_5_3 rfl | exact RunV.conv_i64 cv_5_3 rfl (by omega) (by omega) | exact RunV.conv cv_5_3 rfl) rfl ?_
      refine JQ.op (by first | exact RunV.mul_i64 rfl rfl (by omega) (by omega) | exact RunV.mul rfl rfl) rfl ?_
      refine Rq 1 rfl ?_
      refine JQ.ope (RunE.index sl_22 rfl rfl (show _ = ((1 : Nat) : Int) from rfl) (by assumption) rfl (by omega)) rfl ?_
      rintro _ ⟨b19, o19, hi19, rfl, hE19⟩
      refine JQ.op (RunV.ld_u8 ag_5 rfl (by assumption)) rfl ?_
      refine JQ.op (by first | exact RunV.convb_i64 cv_5_3 rfl | exact RunV.conv_i64 cv_5_3 rfl (by omega) (by omega) | exact RunV.conv cv_5_3 rfl) rfl ?_
      refine JQ.op (by first | exact RunV.quo_i64 rfl rfl (by omega) (by omega) (by omega) | exact RunV.quo rfl rfl (by omega)) rfl ?_
      refine JQ.op (by first | exact RunV.add_i64 rfl rfl (by omega) (by omega) | exact RunV.add rfl rfl) rfl ?_
      refine Rq 1 rfl ?_
      refine Nq [6, 4] rfl ?_
      refine Sr ?_
      refine Ru 3 rfl ?_
      refine Bs 55 rfl (fun hc21 => ?_) fun hc21 => ?_
      ·
       refine Ru 4 rfl ?_
       refine Nk [4] rfl ?_
       exact J.retP (RetV.one rfl rfl) (by first | (rw [valB_1 (by omega), ← e0 (by omega)]; (congr 1; first | exact (decide_eq_true (by omega)).symm | exact (decide_eq_false (by omega)).symm | exact decide_eq_decide.2 (by omega) | (rw [← decide_not]; exact decide_eq_decide.2 (by omega)))) | (rw [valB_1 (by omega)]; (congr 1; first | exact (decide_eq_true (by omega)).symm | exact (decide_eq_false (by omega)).symm | exact decide_eq_decide.2 (by omega) | (rw [← decide_not]; exact decide_eq_decide.2 (by omega)))) | (rw [valB_2 (by omega), leastB]; (repeat' split) <;> first | (congr 1; first | exact (decide_eq_true (by omega)).symm | exact (decide_eq_false (by omega)).symm | exact decide_eq_decide.2 (by omega) | (rw [← decide_not]; exact decide_eq_decide.2 (by omega))) | (congr 1; first | exact decide_eq_true (by omega) | exact decide_eq_false (by omega)) | (exfalso; omega)) | (rw [valB_3 (by omega), bits_f (by first | omega | (rw [← e0 (by omega)]; omega))]; done) | (rw [valB_3 (by omega), bits_1 (by omega) (by omega)]; done) | (rw [valB_3 (by omega), bits_n (by omega) (by omega) (by omega), ← e1]; done) | (rw [valB_5 (by omega)]; (congr 1; first | exact (decide_eq_true (by omega)).symm | exact (decide_eq_false (by omega)).symm | exact decide_eq_decide.2 (by omega) | (rw [← decide_not]; exact decide_eq_decide.2 (by omega)))) | (rw [valB_6 (by omega)]; cases (oidT l).isSome <;> rfl) | rw [valB_12 (by omega)] | rw [valB_19 (by omega)] | rw [valB_22 (by omega)] | (rw [valB_23 (by omega)]; cases psOk l <;> rfl) | (rw [valB_24 (by omega)]; cases plOk l <;> rfl) | rw [valB_0 (by omega)]) rfl
      ·
       refine Ru 4 rfl ?_
       refine Nk [4] rfl ?_
       exact J.retP (RetV.one rfl rfl) (by first | (rw [valB_1 (by omega), ← e0 (by omega)]; (congr 1; first | exact (decide_eq_true (by omega)).symm | exact (decide_eq_false (by omega)).symm | exact decide_eq_decide.2 (by omega) | (rw [← decide_not]; exact decide_eq_decide.2 (by omega)))) | (rw [valB_1 (by omega)]; (congr 1; first | exact (decide_eq_true (by omega)).symm | exact (decide_eq_false (by omega)).symm | exact decide_eq_decide.2 (by omega) | (rw [← decide_not]; exact decide_eq_decide.2 (by omega)))) | (rw [valB_2 (by omega), leastB]; (repeat' split) <;> first | (congr 1; first | exact (decide_eq_true (by omega)).symm | exact (decide_eq_false (by omega)).symm | exact decide_eq_decide.2 (by omega) | (rw [← decide_not]; exact decide_eq_decide.2 (by omega))) | (congr 1; first | exact decide_eq_true (by omega) | exact decide_eq_false (by omega)) | (exfalso; omega)) | (rw [valB_3 (by omega), bits_f (by first | omega | (rw [← e0 (by omega)]; omega))]; done) | (rw [valB_3 (by omega), bits_1 (by omega) (by omega)]; done) | (rw [valB_3 (by omega), bits_n (by omega) (by omega) (by omega), ← e1]; done) | (rw [valB_5 (by omega)]; (congr 1; first | exact (decide_eq_true (by omega)).symm | exact (decide_eq_false (by omega)).symm | exact decide_eq_decide.2 (by omega) | (rw [← decide_not]; exact decide_eq_decide.2 (by omega)))) | (rw [valB_6 (by omega)]; cases (oidT l).isSome <;> rfl) | rw [valB_12 (by omega)] | rw [valB_19 (by omega)] | rw [valB_22 (by omega)] | (rw [valB_23 (by omega)]; cases psOk l <;> rfl) | (rw [valB_24 (by omega)]; cases plOk l <;> rfl) | rw [valB_0 (by omega)]) rfl
    ·
     refine Sr ?_
     refine Ru 2 rfl ?_
     refine Nk [59, 18, 5, 4, 1] rfl ?_
     refine Cs rfl (fun hc22 => ?_) fun hc22 => ?_
     ·
      refine J.seq ?_
      refine Sr ?_
      refine Ru 3 rfl ?_
      refine Bs 63 rfl (fun hc23 => ?_) fun hc23 => ?_
      ·
       refine Ru 5 rfl ?_
       refine Nk [68, 5, 4, 1] rfl ?_
       refine J.cond_t rfl ?_
       refine Sr ?_
       refine Ru 1 rfl ?_
       refine JL.nil ?_
       exact J.retP (RetV.one rfl rfl) (by first | (rw [valB_1 (by omega), ← e0 (by omega)]; (congr 1; first | exact (decide_eq_true (by omega)).symm | exact (decide_eq_false (by omega)).symm | exact decide_eq_decide.2 (by omega) | (rw [← decide_not]; exact decide_eq_decide.2 (by omega)))) | (rw [valB_1 (by omega)]; (congr 1; first | exact (decide_eq_true (by omega)).symm | exact (decide_eq_false (by omega)).symm | exact decide_eq_decide.2 (by omega) | (rw [← decide_not]; exact decide_eq_decide.2 (by omega)))) | (rw [valB_2 (by omega), leastB]; (repeat' split) <;> first | (congr 1; first | exact (decide_eq_true (by omega)).symm | exact (decide_eq_false (by omega)).symm | exact decide_eq_decide.2 (by omega) | (rw [← decide_not]; exact decide_eq_decide.2 (by omega))) | (congr 1; first | exact decide_eq_true (by omega) | exact decide_eq_false (by omega)) | (exfalso; omega)) | (rw [valB_3 (by omega), bits_f (by first | omega | (rw [← e0 (by omega)]; omega))]; done) | (rw [valB_3 (by omega), bits_1 (by omega) (by omega)]; done) | (rw [valB_3 (by omega), bits_n (by omega) (by omega) (by omega), ← e1]; done) | (rw [valB_5 (by omega)]; (congr 1; first | exact (decide_eq_true (by omega)).symm | exact (decide_eq_false (by omega)).symm | exact decide_eq_decide.2 (by omega) | (rw [← decide_not]; exact decide_eq_decide.2 (by omega)))) | (rw [valB_6 (by omega)]; cases (oidT l).isSome <;> rfl) | rw [valB_12 (by omega)] | rw [valB_19 (by omega)] | rw [valB_22 (by omega)] | (rw [valB_23 (by omega)]; cases psOk l <;> rfl) | (rw [valB_24 (by omega)]; cases plOk l <;> rfl) | rw [valB_0 (by omega)]) rfl
      ·
       refine Ru 1 rfl ?_
       refine JL.opeg rfl rfl  (RunE.index sl_22 rfl rfl (show _ = ((0 : Nat) : Int) from rfl) (by assumption) rfl (by omega)) rfl ?_
       rintro _ ⟨b24, o24, hi24, rfl, hE24⟩
       refine JL.opg rfl rfl  (RunV.ld_u8 ag_5 rfl (by assumption)) rfl ?_
       refine Ru 2 rfl ?_
       refine Nk [68, 5, 4, 1] rfl ?_
       refine Cs rfl (fun hc26 => ?_) fun hc26 => ?_
       ·
        refine Sr ?_
        refine Ru 1 rfl ?_
        refine JL.nil ?_
        exact J.retP (RetV.one rfl rfl) (by first | (rw [valB_1 (by omega), ← e0 (by omega)]; (congr 1; first | exact (decide_eq_true (by omega)).symm | exact (decide_eq_false (by omega)).symm | exact decide_eq_decide.2 (by omega) | (rw [← decide_not]; exact decide_eq_decide.2 (by omega)))) | (rw [valB_1 (by omega)]; (congr 1; first | exact (decide_eq_true (by omega)).symm | exact (decide_eq_false (by omega)).symm | exact decide_eq_decide.2 (by omega) | (rw [← decide_not]; exact decide_eq_decide.2 (by omega)))) | (rw [valB_2 (by omega), leastB]; (repeat' split) <;> first | (congr 1; first | exact (decide_eq_true (by omega)).symm | exact (decide_eq_false (by omega)).symm | exact decide_eq_decide.2 (by omega) | (rw [← decide_not]; exact decide_eq_decide.2 (by omega))) | (congr 1; first | exact decide_eq_true (by omega) | exact decide_eq_false (by omega)) | (exfalso; omega)) | (rw [valB_3 (by omega), bits_f (by first | omega | (rw [← e0 (by omega)]; omega))]; done) | (rw [valB_3 (by omega), bits_1 (by omega) (by omega)]; done) | (rw [valB_3 (by omega), bits_n (by omega) (by omega) (by omega), ← e1]; done) | (rw [valB_5 (by omega)]; (congr 1; first | exact (decide_eq_true (by omega)).symm | exact (decide_eq_false (by omega)).symm | exact decide_eq_decide.2 (by omega) | (rw [← decide_not]; exact decide_eq_decide.2 (by omega)))) | (rw [valB_6 (by omega)]; cases (oidT l).isSome <;> rfl) | rw [valB_12 (by omega)] | rw [valB_19 (by omega)] | rw [valB_22 (by omega)] | (rw [valB_23 (by omega)]; cases psOk l <;> rfl) | (rw [valB_24 (by omega)]; cases plOk l <;> rfl) | rw [valB_0 (by omega)]) rfl
       ·
        have e0 := byteAt_eq l 0 (by omega); have e1 := byteAt_eq l (l.length - 1) (by omega); have hp7 := pow7 (byteAt l 0) (by omega)
        refine J.skip ?_
        refine Sr ?_
        refine Ru 1 rfl ?_
        refine JL.nil ?_
        refine J.seq ?_
        refine Sr ?_
        refine Ru 1 rfl ?_
        refine JL.nil ?_
        refine J.block ?_
        refine J.loop (fun t_ S_ h_ L_ => ∃ (i : Nat), t_ = 9 - i ∧ S_ = [(1, .slice a l.length c), (5, .int .i64 l.length), (7, .int .i64 (2 ^ i : Nat)), (8, .int .i64 i)] ∧ h = h_ ∧ L_ = [] ∧ (i ≤ byteAt l 0)) ⟨_, _, ?_, ⟨0, rfl, rfl, rfl, rfl, by omega⟩⟩ ?_
        ·
         repeat (first | exact trivial | refine ⟨rfl, ?_⟩ | refine ⟨(by exact some_int (by first | rfl | (rw [Nat.pow_succ]; omega))), ?_⟩)
        rintro _ _ _ _ ⟨i, rfl, rfl, rfl, rfl, hi⟩
        have hpi := pow7 i (by omega)
        refine J.seq ?_
        refine Sr ?_
        refine Ru 2 rfl ?_
        refine JL.ope (RunE.index sl_22 rfl rfl (show _ = ((0 : Nat) : Int) from rfl) (by assumption) rfl (by omega)) rfl ?_
        rintro _ ⟨b27, o27, hi27, rfl, hE27⟩
        refine JL.op (RunV.ld_u8 ag_5 rfl (by assumption)) rfl ?_
        refine JL.op (by first | exact RunV.convb_i64 cv_5_3 rfl | exact RunV.conv_i64 cv_5_3 rfl (by omega) (by omega) | exact RunV.conv cv_5_3 rfl) rfl ?_
        refine Ru 1 rfl ?_
        refine JL.nil ?_
        refine Cs rfl (fun hc29 => ?_) fun hc29 => ?_
        ·
         refine J.skip ?_
         refine J.seq ?_
         refine J.block ?_
         refine Rg ?_
         refine Ru 1 rfl ?_
         refine JL.op (by first | exact RunV.mul_i64 rfl rfl (by omega) (by omega) | exact RunV.mul rfl rfl) rfl ?_
         refine Ru 1 rfl ?_
         refine JL.nil ?_
         refine Rg ?_
         refine Ru 1 rfl ?_
         refine JL.op (by first | exact RunV.add_i64 rfl rfl (by omega) (by omega) | exact RunV.add rfl rfl) rfl ?_
         refine Ru 1 rfl ?_
         refine JL.nil ?_
         refine ⟨_, ?_, _, ?_, ⟨i + 1, rfl, rfl, rfl, rfl, by omega⟩⟩
         ·
          omega
         ·
          repeat (first | exact trivial | refine ⟨rfl, ?_⟩ | refine ⟨(by exact some_int (by first | rfl | (rw [Nat.pow_succ]; omega))), ?_⟩)
        ·
         have hib : i = byteAt l 0 := (by omega); rw [hib]
         refine J.exit ?_
         refine Kp [1, 5, 7] rfl ?_
         refine J.seq ?_
         refine Sr ?_
         refine Ru 2 rfl ?_
         refine JL.nil ?_
         refine Cs rfl (fun hc30 => ?_) fun hc30 => ?_
         ·
          refine Sr ?_
          refine Ru 3 rfl ?_
          refine Nk [4, 1, 5, 7] rfl ?_
          exact J.retP (RetV.one rfl rfl) (by first | (rw [valB_1 (by omega), ← e0 (by omega)]; (congr 1; first | exact (decide_eq_true (by omega)).symm | exact (decide_eq_false (by omega)).symm | exact decide_eq_decide.2 (by omega) | (rw [← decide_not]; exact decide_eq_decide.2 (by omega)))) | (rw [valB_1 (by omega)]; (congr 1; first | exact (decide_eq_true (by omega)).symm | exact (decide_eq_false (by omega)).symm | exact decide_eq_decide.2 (by omega) | (rw [← decide_not]; exact decide_eq_decide.2 (by omega)))) | (rw [valB_2 (by omega), leastB]; (repeat' split) <;> first | (congr 1; first | exact (decide_eq_true (by omega)).symm | exact (decide_eq_false (by omega)).symm | exact decide_eq_decide.2 (by omega) | (rw [← decide_not]; exact decide_eq_decide.2 (by omega))) | (congr 1; first | exact decide_eq_true (by omega) | exact decide_eq_false (by omega)) | (exfalso; omega)) | (rw [valB_3 (by omega), bits_f (by first | omega | (rw [← e0 (by omega)]; omega))]; done) | (rw [valB_3 (by omega), bits_1 (by omega) (by omega)]; done) | (rw [valB_3 (by omega), bits_n (by omega) (by omega) (by omega), ← e1]; done) | (rw [valB_5 (by omega)]; (congr 1; first | exact (decide_eq_true (by omega)).symm | exact (decide_eq_false (by omega)).symm | exact decide_eq_decide.2 (by omega) | (rw [← decide_not]; exact decide_eq_decide.2 (by omega)))) | (rw [valB_6 (by omega)]; cases (oidT l).isSome <;> rfl) | rw [valB_12 (by omega)] | rw [valB_19 (by omega)] | rw [valB_22 (by omega)] | (rw [valB_23 (by omega)]; cases psOk l <;> rfl) | (rw [valB_24 (by omega)]; cases plOk l <;> rfl) | rw [valB_0 (by omega)]) rfl
         ·
          refine J.skip ?_
          refine Sr ?_
          refine Ru 2 rfl ?_
          refine JL.op (by first | exact RunV.sub_i64 rfl rfl (by omega) (by omega) | exact RunV.sub rfl rfl) rfl ?_
          refine JL.ope (RunE.index (m := l.length - 1) sl_22 rfl rfl (by omega) hl rfl (by omega)) rfl ?_
          rintro _ ⟨b31, o31, hi31, rfl, hE31⟩
          refine JL.op (RunV.ld_u8 ag_5 rfl (by assumption)) rfl ?_
          refine JL.op (by first | exact RunV.convb_i64 cv_5_3 rfl | exact RunV.conv_i64 cv_5_3 rfl (by omega) (by omega) | exact RunV.conv cv_5_3 rfl) rfl ?_
          refine Ru 1 rfl ?_
          refine JL.op (by first | exact RunV.rem_i64 rfl rfl (by omega) (by omega) | exact RunV.rem rfl rfl (by omega)) rfl ?_
          refine Ru 2 rfl ?_
          refine Nk [4] rfl ?_
          exact J.retP (RetV.one rfl rfl) (by first | (rw [valB_1 (by omega), ← e0 (by omega)]; (congr 1; first | exact (decide_eq_true (by omega)).symm | exact (decide_eq_false (by omega)).symm | exact decide_eq_decide.2 (by omega) | (rw [← decide_not]; exact decide_eq_decide.2 (by omega)))) | (rw [valB_1 (by omega)]; (congr 1; first | exact (decide_eq_true (by omega)).symm | exact (decide_eq_false (by omega)).symm | exact decide_eq_decide.2 (by omega) | (rw [← decide_not]; exact decide_eq_decide.2 (by omega)))) | (rw [valB_2 (by omega), leastB]; (repeat' split) <;> first | (congr 1; first | exact (decide_eq_true (by omega)).symm | exact (decide_eq_false (by omega)).symm | exact decide_eq_decide.2 (by omega) | (rw [← decide_not]; exact decide_eq_decide.2 (by omega))) | (congr 1; first | exact decide_eq_true (by omega) | exact decide_eq_false (by omega)) | (exfalso; omega)) | (rw [valB_3 (by omega), bits_f (by first | omega | (rw [← e0 (by omega)]; omega))]; done) | (rw [valB_3 (by omega), bits_1 (by omega) (by omega)]; done) | (rw [valB_3 (by omega), bits_n (by omega) (by omega) (by omega), ← e1]; done) | (rw [valB_5 (by omega)]; (congr 1; first | exact (decide_eq_true (by omega)).symm | exact (decide_eq_false (by omega)).symm | exact decide_eq_decide.2 (by omega) | (rw [← decide_not]; exact decide_eq_decide.2 (by omega)))) | (rw [valB_6 (by omega)]; cases (oidT l).isSome <;> rfl) | rw [valB_12 (by omega)] | rw [valB_19 (by omega)] | rw [valB_22 (by omega)] | (rw [valB_23 (by omega)]; cases psOk l <;> rfl) | (rw [valB_24 (by omega)]; cases plOk l <;> rfl) | rw [valB_0 (by omega)]) rfl
     ·
      refine Sr ?_
      refine Ru 2 rfl ?_
      refine JL.nil ?_
      refine Cs rfl (fun hc33 => ?_) fun hc33 => ?_
      ·
       refine Sr ?_
       refine Ru 3 rfl ?_
       refine Nk [4] rfl ?_
       exact J.retP (RetV.one rfl rfl) (by first | (rw [valB_1 (by omega), ← e0 (by omega)]; (congr 1; first | exact (decide_eq_true (by omega)).symm | exact (decide_eq_false (by omega)).symm | exact decide_eq_decide.2 (by omega) | (rw [← decide_not]; exact decide_eq_decide.2 (by omega)))) | (rw [valB_1 (by omega)]; (congr 1; first | exact (decide_eq_true (by omega)).symm | exact (decide_eq_false (by omega)).symm | exact decide_eq_decide.2 (by omega) | (rw [← decide_not]; exact decide_eq_decide.2 (by omega)))) | (rw [valB_2 (by omega), leastB]; (repeat' split) <;> first | (congr 1; first | exact (decide_eq_true (by omega)).symm | exact (decide_eq_false (by omega)).symm | exact decide_eq_decide.2 (by omega) | (rw [← decide_not]; exact decide_eq_decide.2 (by omega))) | (congr 1; first | exact decide_eq_true (by omega) | exact decide_eq_false (by omega)) | (exfalso; omega)) | (rw [valB_3 (by omega), bits_f (by first | omega | (rw [← e0 (by omega)]; omega))]; done) | (rw [valB_3 (by omega), bits_1 (by omega) (by omega)]; done) | (rw [valB_3 (by omega), bits_n (by omega) (by omega) (by omega), ← e1]; done) | (rw [valB_5 (by omega)]; (congr 1; first | exact (decide_eq_true (by omega)).symm | exact (decide_eq_false (by omega)).symm | exact decide_eq_decide.2 (by omega) | (rw [← decide_not]; exact decide_eq_decide.2 (by omega)))) | (rw [valB_6 (by omega)]; cases (oidT l).isSome <;> rfl) | rw [valB_12 (by omega)] | rw [valB_19 (by omega)] | rw [valB_22 (by omega)] | (rw [valB_23 (by omega)]; cases psOk l <;> rfl) | (rw [valB_24 (by omega)]; cases plOk l <;> rfl) | rw [valB_0 (by omega)]) rfl
      ·
       refine Sr ?_
       refine Ru 2 rfl ?_
       refine Nk [96, 18, 4, 1] rfl ?_
       refine Cs rfl (fun hc34 => ?_) fun hc34 => ?_
       ·
        refine Sr ?_
        refine Ru 1 rfl ?_
        refine JL.callP ca_94 rfl (roidtext_fn (by assumption) (by omega)) rfl ?_
        refine Ru 5 rfl ?_
        refine Nk [10, 4] rfl ?_
        refine Sr ?_
        refine Ru 3 rfl ?_
        refine JL.nil ?_
        exact J.retP (RetV.one rfl rfl) (by first | (rw [valB_1 (by omega), ← e0 (by omega)]; (congr 1; first | exact (decide_eq_true (by omega)).symm | exact (decide_eq_false (by omega)).symm | exact decide_eq_decide.2 (by omega) | (rw [← decide_not]; exact decide_eq_decide.2 (by omega)))) | (rw [valB_1 (by omega)]; (congr 1; first | exact (decide_eq_true (by omega)).symm | exact (decide_eq_false (by omega)).symm | exact decide_eq_decide.2 (by omega) | (rw [← decide_not]; exact decide_eq_decide.2 (by omega)))) | (rw [valB_2 (by omega), leastB]; (repeat' split) <;> first | (congr 1; first | exact (decide_eq_true (by omega)).symm | exact (decide_eq_false (by omega)).symm | exact decide_eq_decide.2 (by omega) | (rw [← decide_not]; exact decide_eq_decide.2 (by omega))) | (congr 1; first | exact decide_eq_true (by omega) | exact decide_eq_false (by omega)) | (exfalso; omega)) | (rw [valB_3 (by omega), bits_f (by first | omega | (rw [← e0 (by omega)]; omega))]; done) | (rw [valB_3 (by omega), bits_1 (by omega) (by omega)]; done) | (rw [valB_3 (by omega), bits_n (by omega) (by omega) (by omega), ← e1]; done) | (rw [valB_5 (by omega)]; (congr 1; first | exact (decide_eq_true (by omega)).symm | exact (decide_eq_false (by omega)).symm | exact decide_eq_decide.2 (by omega) | (rw [← decide_not]; exact decide_eq_decide.2 (by omega)))) | (rw [valB_6 (by omega)]; cases (oidT l).isSome <;> rfl) | rw [valB_12 (by omega)] | rw [valB_19 (by omega)] | rw [valB_22 (by omega)] | (rw [valB_23 (by omega)]; cases psOk l <;> rfl) | (rw [valB_24 (by omega)]; cases plOk l <;> rfl) | rw [valB_0 (by omega)]) rfl
       ·
        refine Sr ?_
        refine Ru 2 rfl ?_
        refine JL.nil ?_
        refine Cs rfl (fun hc36 => ?_) fun hc36 => ?_
        ·
         refine Sr ?_
         refine Ru 1 rfl ?_
         refine JL.op (RunV.strB sb_22_9 rfl (by assumption) rfl) rfl ?_
         refine JL.callP ca_95 rfl (rutf8_fn _ _ (by omega)) rfl ?_
         refine Ru 1 rfl ?_
         refine Nk [4] rfl ?_
         exact J.retP (RetV.one rfl rfl) (by first | (rw [valB_1 (by omega), ← e0 (by omega)]; (congr 1; first | exact (decide_eq_true (by omega)).symm | exact (decide_eq_false (by omega)).symm | exact decide_eq_decide.2 (by omega) | (rw [← decide_not]; exact decide_eq_decide.2 (by omega)))) | (rw [valB_1 (by omega)]; (congr 1; first | exact (decide_eq_true (by omega)).symm | exact (decide_eq_false (by omega)).symm | exact decide_eq_decide.2 (by omega) | (rw [← decide_not]; exact decide_eq_decide.2 (by omega)))) | (rw [valB_2 (by omega), leastB]; (repeat' split) <;> first | (congr 1; first | exact (decide_eq_true (by omega)).symm | exact (decide_eq_false (by omega)).symm | exact decide_eq_decide.2 (by omega) | (rw [← decide_not]; exact decide_eq_decide.2 (by omega))) | (congr 1; first | exact decide_eq_true (by omega) | exact decide_eq_false (by omega)) | (exfalso; omega)) | (rw [valB_3 (by omega), bits_f (by first | omega | (rw [← e0 (by omega)]; omega))]; done) | (rw [valB_3 (by omega), bits_1 (by omega) (by omega)]; done) | (rw [valB_3 (by omega), bits_n (by omega) (by omega) (by omega), ← e1]; done) | (rw [valB_5 (by omega)]; (congr 1; first | exact (decide_eq_true (by omega)).symm | exact (decide_eq_false (by omega)).symm | exact decide_eq_decide.2 (by omega) | (rw [← decide_not]; exact decide_eq_decide.2 (by omega)))) | (rw [valB_6 (by omega)]; cases (oidT l).isSome <;> rfl) | rw [valB_12 (by omega)] | rw [valB_19 (by omega)] | rw [valB_22 (by omega)] | (rw [valB_23 (by omega)]; cases psOk l <;> rfl) | (rw [valB_24 (by omega)]; cases plOk l <;> rfl) | rw [valB_0 (by omega)]) rfl
        ·
         refine Sr ?_
         refine Ru 2 rfl ?_
         refine Nk [110, 18, 4, 1] rfl ?_
         refine Cs rfl (fun hc38 => ?_) fun hc38 => ?_
         ·
          refine Sr ?_
          refine Ru 1 rfl ?_
          refine JL.op (RunV.strB sb_22_9 rfl (by assumption) rfl) rfl ?_
          refine JL.callP ca_96 rfl (rprint_fn _ _ (by omega)) rfl ?_
          refine Ru 1 rfl ?_
          refine Nk [4] rfl ?_
          exact J.retP (RetV.one rfl rfl) (by first | (rw [valB_1 (by omega), ← e0 (by omega)]; (congr 1; first | exact (decide_eq_true (by omega)).symm | exact (decide_eq_false (by omega)).symm | exact decide_eq_decide.2 (by omega) | (rw [← decide_not]; exact decide_eq_decide.2 (by omega)))) | (rw [valB_1 (by omega)]; (congr 1; first | exact (decide_eq_true (by omega)).symm | exact (decide_eq_false (by omega)).symm | exact decide_eq_decide.2 (by omega) | (rw [← decide_not]; exact decide_eq_decide.2 (by omega)))) | (rw [valB_2 (by omega), leastB]; (repeat' split) <;> first | (congr 1; first | exact (decide_eq_true (by omega)).symm | exact (decide_eq_false (by omega)).symm | exact decide_eq_decide.2 (by omega) | (rw [← decide_not]; exact decide_eq_decide.2 (by omega))) | (congr 1; first | exact decide_eq_true (by omega) | exact decide_eq_false (by omega)) | (exfalso; omega)) | (rw [valB_3 (by omega), bits_f (by first | omega | (rw [← e0 (by omega)]; omega))]; done) | (rw [valB_3 (by omega), bits_1 (by omega) (by omega)]; done) | (rw [valB_3 (by omega), bits_n (by omega) (by omega) (by omega), ← e1]; done) | (rw [valB_5 (by omega)]; (congr 1; first | exact (decide_eq_true (by omega)).symm | exact (decide_eq_false (by omega)).symm | exact decide_eq_decide.2 (by omega) | (rw [← decide_not]; exact decide_eq_decide.2 (by omega)))) | (rw [valB_6 (by omega)]; cases (oidT l).isSome <;> rfl) | rw [valB_12 (by omega)] | rw [valB_19 (by omega)] | rw [valB_22 (by omega)] | (rw [valB_23 (by omega)]; cases psOk l <;> rfl) | (rw [valB_24 (by omega)]; cases plOk l <;> rfl) | rw [valB_0 (by omega)]) rfl
         ·
          refine Sr ?_
          refine Ru 2 rfl ?_
          refine JL.nil ?_
          refine Cs rfl (fun hc40 => ?_) fun hc40 => ?_
          ·
           refine Sr ?_
           refine Ru 1 rfl ?_
           refine JL.op (RunV.strB sb_22_9 rfl (by assumption) rfl) rfl ?_
           refine JL.callP ca_97 rfl (ria5_fn _ _ (by omega)) rfl ?_
           refine Ru 1 rfl ?_
           refine Nk [4] rfl ?_
           exact J.retP (RetV.one rfl rfl) (by first | (rw [valB_1 (by omega), ← e0 (by omega)]; (congr 1; first | exact (decide_eq_true (by omega)).symm | exact (decide_eq_false (by omega)).symm | exact decide_eq_decide.2 (by omega) | (rw [← decide_not]; exact decide_eq_decide.2 (by omega)))) | (rw [valB_1 (by omega)]; (congr 1; first | exact (decide_eq_true (by omega)).symm | exact (decide_eq_false (by omega)).symm | exact decide_eq_decide.2 (by omega) | (rw [← decide_not]; exact decide_eq_decide.2 (by omega)))) | (rw [valB_2 (by omega), leastB]; (repeat' split) <;> first | (congr 1; first | exact (decide_eq_true (by omega)).symm | exact (decide_eq_false (by omega)).symm | exact decide_eq_decide.2 (by omega) | (rw [← decide_not]; exact decide_eq_decide.2 (by omega))) | (congr 1; first | exact decide_eq_true (by omega) | exact decide_eq_false (by omega)) | (exfalso; omega)) | (rw [valB_3 (by omega), bits_f (by first | omega | (rw [← e0 (by omega)]; omega))]; done) | (rw [valB_3 (by omega), bits_1 (by omega) (by omega)]; done) | (rw [valB_3 (by omega), bits_n (by omega) (by omega) (by omega), ← e1]; done) | (rw [valB_5 (by omega)]; (congr 1; first | exact (decide_eq_true (by omega)).symm | exact (decide_eq_false (by omega)).symm | exact decide_eq_decide.2 (by omega) | (rw [← decide_not]; exact decide_eq_decide.2 (by omega)))) | (rw [valB_6 (by omega)]; cases (oidT l).isSome <;> rfl) | rw [valB_12 (by omega)] | rw [valB_19 (by omega)] | rw [valB_22 (by omega)] | (rw [valB_23 (by omega)]; cases psOk l <;> rfl) | (rw [valB_24 (by omega)]; cases plOk l <;> rfl) | rw [valB_0 (by omega)]) rfl
          ·
           refine Sr ?_
           refine Ru 2 rfl ?_
           refine Nk [120, 18, 4, 1] rfl ?_
           refine Cs rfl (fun hc42 => ?_) fun hc42 => ?_
           ·
            refine Sr ?_
            refine Ru 1 rfl ?_
            refine JL.op (RunV.strB sb_22_9 rfl (by assumption) rfl) rfl ?_
            refine JL.callP ca_98 rfl (rpshort_fn _ _ (by omega)) rfl ?_
            refine Ru 5 rfl ?_
            refine Nk [12, 4] rfl ?_
            refine Sr ?_
            refine Ru 3 rfl ?_
            refine JL.nil ?_
            exact J.retP (RetV.one rfl rfl) (by first | (rw [valB_1 (by omega), ← e0 (by omega)]; (congr 1; first | exact (decide_eq_true (by omega)).symm | exact (decide_eq_false (by omega)).symm | exact decide_eq_decide.2 (by omega) | (rw [← decide_not]; exact decide_eq_decide.2 (by omega)))) | (rw [valB_1 (by omega)]; (congr 1; first | exact (decide_eq_true (by omega)).symm | exact (decide_eq_false (by omega)).symm | exact decide_eq_decide.2 (by omega) | (rw [← decide_not]; exact decide_eq_decide.2 (by omega)))) | (rw [valB_2 (by omega), leastB]; (repeat' split) <;> first | (congr 1; first | exact (decide_eq_true (by omega)).symm | exact (decide_eq_false (by omega)).symm | exact decide_eq_decide.2 (by omega) | (rw [← decide_not]; exact decide_eq_decide.2 (by omega))) | (congr 1; first | exact decide_eq_true (by omega) | exact decide_eq_false (by omega)) | (exfalso; omega)) | (rw [valB_3 (by omega), bits_f (by first | omega | (rw [← e0 (by omega)]; omega))]; done) | (rw [valB_3 (by omega), bits_1 (by omega) (by omega)]; done) | (rw [valB_3 (by omega), bits_n (by omega) (by omega) (by omega), ← e1]; done) | (rw [valB_5 (by omega)]; (congr 1; first | exact (decide_eq_true (by omega)).symm | exact (decide_eq_false (by omega)).symm | exact decide_eq_decide.2 (by omega) | (rw [← decide_not]; exact decide_eq_decide.2 (by omega)))) | (rw [valB_6 (by omega)]; cases (oidT l).isSome <;> rfl) | rw [valB_12 (by omega)] | rw [valB_19 (by omega)] | rw [valB_22 (by omega)] | (rw [valB_23 (by omega)]; cases psOk l <;> rfl) | (rw [valB_24 (by omega)]; cases plOk l <;> rfl) | rw [valB_0 (by omega)]) rfl
           ·
            refine Sr ?_
            refine Ru 2 rfl ?_
            refine JL.nil ?_
            refine Cs rfl (fun hc44 => ?_) fun hc44 => ?_
            ·
             refine Sr ?_
             refine Ru 1 rfl ?_
             refine JL.op (RunV.strB sb_22_9 rfl (by assumption) rfl) rfl ?_
             refine JL.callP ca_99 rfl (rplong_fn _ _ (by omega)) rfl ?_
             refine Ru 7 rfl ?_
             refine Nk [15, 4] rfl ?_
             refine Sr ?_
             refine Ru 3 rfl ?_
             refine JL.nil ?_
             exact J.retP (RetV.one rfl rfl) (by first | (rw [valB_1 (by omega), ← e0 (by omega)]; (congr 1; first | exact (decide_eq_true (by omega)).symm | exact (decide_eq_false (by omega)).symm | exact decide_eq_decide.2 (by omega) | (rw [← decide_not]; exact decide_eq_decide.2 (by omega)))) | (rw [valB_1 (by omega)]; (congr 1; first | exact (decide_eq_true (by omega)).symm | exact (decide_eq_false (by omega)).symm | exact decide_eq_decide.2 (by omega) | (rw [← decide_not]; exact decide_eq_decide.2 (by omega)))) | (rw [valB_2 (by omega), leastB]; (repeat' split) <;> first | (congr 1; first | exact (decide_eq_true (by omega)).symm | exact (decide_eq_false (by omega)).symm | exact decide_eq_decide.2 (by omega) | (rw [← decide_not]; exact decide_eq_decide.2 (by omega))) | (congr 1; first | exact decide_eq_true (by omega) | exact decide_eq_false (by omega)) | (exfalso; omega)) | (rw [valB_3 (by omega), bits_f (by first | omega | (rw [← e0 (by omega)]; omega))]; done) | (rw [valB_3 (by omega), bits_1 (by omega) (by omega)]; done) | (rw [valB_3 (by omega), bits_n (by omega) (by omega) (by omega), ← e1]; done) | (rw [valB_5 (by omega)]; (congr 1; first | exact (decide_eq_true (by omega)).symm | exact (decide_eq_false (by omega)).symm | exact decide_eq_decide.2 (by omega) | (rw [← decide_not]; exact decide_eq_decide.2 (by omega)))) | (rw [valB_6 (by omega)]; cases (oidT l).isSome <;> rfl) | rw [valB_12 (by omega)] | rw [valB_19 (by omega)] | rw [valB_22 (by omega)] | (rw [valB_23 (by omega)]; cases psOk l <;> rfl) | (rw [valB_24 (by omega)]; cases plOk l <;> rfl) | rw [valB_0 (by omega)]) rfl
            ·
             refine J.skip ?_
             refine Kp [4] rfl ?_
             refine Sr ?_
             refine Ru 1 rfl ?_
             refine JL.nil ?_
             exact J.retP (RetV.one rfl rfl) (by first | (rw [valB_1 (by omega), ← e0 (by omega)]; (congr 1; first | exact (decide_eq_true (by omega)).symm | exact (decide_eq_false (by omega)).symm | exact decide_eq_decide.2 (by omega) | (rw [← decide_not]; exact decide_eq_decide.2 (by omega)))) | (rw [valB_1 (by omega)]; (congr 1; first | exact (decide_eq_true (by omega)).symm | exact (decide_eq_false (by omega)).symm | exact decide_eq_decide.2 (by omega) | (rw [← decide_not]; exact decide_eq_decide.2 (by omega)))) | (rw [valB_2 (by omega), leastB]; (repeat' split) <;> first | (congr 1; first | exact (decide_eq_true (by omega)).symm | exact (decide_eq_false (by omega)).symm | exact decide_eq_decide.2 (by omega) | (rw [← decide_not]; exact decide_eq_decide.2 (by omega))) | (congr 1; first | exact decide_eq_true (by omega) | exact decide_eq_false (by omega)) | (exfalso; omega)) | (rw [valB_3 (by omega), bits_f (by first | omega | (rw [← e0 (by omega)]; omega))]; done) | (rw [valB_3 (by omega), bits_1 (by omega) (by omega)]; done) | (rw [valB_3 (by omega), bits_n (by omega) (by omega) (by omega), ← e1]; done) | (rw [valB_5 (by omega)]; (congr 1; first | exact (decide_eq_true (by omega)).symm | exact (decide_eq_false (by omega)).symm | exact decide_eq_decide.2 (by omega) | (rw [← decide_not]; exact decide_eq_decide.2 (by omega)))) | (rw [valB_6 (by omega)]; cases (oidT l).isSome <;> rfl) | rw [valB_12 (by omega)] | rw [valB_19 (by omega)] | rw [valB_22 (by omega)] | (rw [valB_23 (by omega)]; cases psOk l <;> rfl) | (rw [valB_24 (by omega)]; cases plOk l <;> rfl) | rw [valB_0 (by omega)]) rfl




/-! ## nodes' bytes -/
theorem below_cmp : ∀ (l r : List UInt8), belowB l r = decide (0 < Go.Lib.compareBytes r l)
  | [], [] => rfl
  | [], _ :: _ => rfl
  | _ :: _, [] => rfl
  | a :: l, b :: r => by
    have ih := below_cmp l r
    show (if a = b then belowB l r else decide (a < b)) = decide (0 < (if b < a then (-1 : Int) else if a < b then 1 else Go.Lib.compareBytes r l))
    by_cases h : a = b
    · subst h
      rw [if_pos rfl, if_neg (by simp [UInt8.lt_iff_toNat_lt]), if_neg (by simp [UInt8.lt_iff_toNat_lt]), ih]
    · rw [if_neg h]
      have hn : a.toNat ≠ b.toNat := fun e => h (UInt8.toNat_inj.1 e)
      by_cases h2 : b < a
      · rw [if_pos h2]
        rw [UInt8.lt_iff_toNat_lt] at h2
        exact decide_eq_decide.2 ⟨fun h3 => by rw [UInt8.lt_iff_toNat_lt] at h3; omega, fun h3 => by omega⟩
      · have h3 : a < b := by rw [UInt8.lt_iff_toNat_lt] at h2 ⊢; omega
        rw [if_neg h2, if_pos h3, decide_eq_true h3]; rfl
theorem put_cons {c t : Int} {bs : List UInt8} {ks : List Nd} (h : mayB c t true = true) (hb : bs.length = 0) : (Nd.mk c t true bs ks).put = (Nd.putL (decide (c = 0) && decide (t = 17)) ks none []).map (fun b => headB c t true b.length ++ b) := by
  have hn : bs = [] := List.eq_nil_of_length_eq_zero hb
  subst hn
  have hok : okN c t true [] ks = true := by unfold okN; rw [h]; simp
  simp only [Nd.put]
  rw [if_pos hok]
theorem put_prim {c t : Int} {bs : List UInt8} {ks : List Nd} (h : mayB c t false = true) (hk : ks.length = 0) : (Nd.mk c t false bs ks).put = if decide (c = 0) && !valB t bs then none else some (headB c t false bs.length ++ bs) := by
  have hn : ks = [] := List.eq_nil_of_length_eq_zero hk
  subst hn
  have hok : okN c t false bs [] = !(decide (c = 0) && !valB t bs) := by unfold okN; rw [h]; simp
  simp only [Nd.put]
  rw [hok]
  cases decide (c = 0) && !valB t bs <;> rfl
theorem put_bad {c t : Int} {k : Bool} {bs : List UInt8} {ks : List Nd} (h : ¬ (mayB c t k = true ∧ (k = true → bs.length = 0) ∧ (k = false → ks.length = 0))) : (Nd.mk c t k bs ks).put = none := by
  simp only [Nd.put]
  rw [if_neg]
  intro hok
  refine h ?_
  unfold okN at hok
  rw [Bool.and_eq_true, Bool.and_eq_true, Bool.and_eq_true] at hok
  obtain ⟨h1, h2, h3, _⟩ := hok
  refine ⟨h1, ?_, ?_⟩
  · rintro rfl
    simp at h2
    exact List.length_eq_zero_iff.2 h2
  · rintro rfl
    simp at h3
    exact List.length_eq_zero_iff.2 h3
theorem may_rng {c t : Int} {k : Bool} (h : mayB c t k = true) : (c = 0 ∨ c = 2) ∧ 0 ≤ t ∧ t ≤ 30 := by
  unfold mayB at h
  simp only [Bool.and_eq_true, Bool.or_eq_true, decide_eq_true_eq] at h
  obtain ⟨h1, h2⟩ := h
  exact ⟨by rcases h2 with h2 | h2; exact .inr h2; exact .inl h2.1, h1⟩
theorem rbytes_fn : ∀ (n : Nat) (x : Nd) (cs : List Value) (h : Part), x.rk ≤ n → NdR h cs x → x.sz ≤ 10000000 →
    FnR Tryd.prog 34 [.agg cs.toArray] h (fun v h' => ∃ a c, v = .tuple #[.slice a (x.put.getD []).length c, .bool x.put.isSome] ∧ SlR u8R 1 h' a c (x.put.getD [])) := by
  intro n
  induction n with
  | zero => intro x cs h hx; cases x; simp [Nd.rk] at hx
  | succ n ih =>
  intro x cs h hx r hsz
  cases x with
  | mk c t k bs ks =>
  obtain ⟨a, ca, b, cb, rfl, ha, hb⟩ := r.inv
  have hl := hb.big
  have hl2 := ha.big
  simp only [Nd.rk] at hx
  simp only [Nd.sz] at hsz
  have hkr : ∀ i (hi : i < ks.length), ks[i].rk ≤ n ∧ ks[i].sz ≤ Nd.szL ks := fun i hi => ⟨by have := Nd.rk_lt (List.getElem_mem hi); omega, Nd.sz_le (List.getElem_mem hi)⟩
  refine Fn.intro Tryd.func34 rfl Tryd.ntmps34 rfl (fun e he => ?_)
  refine J.weak [(0, _)] ⟨rfl, trivial⟩ ?_
  have hh0 := Part.le.refl h
  refine Sr ?_
  refine JL.box rfl rfl rfl (fun b1 => ?_)
  refine Ru 2 rfl ?_
  refine JL.nil ?_
  refine J.seq ?_
  refine J.seq ?_
  refine J.meet [(39, .bool (decide (¬ (mayB c t k = true ∧ (k = true → bs.length = 0) ∧ (k = false → ks.length = 0)))))] [(3, _), (2, _), (1, _)] ⟨rfl, rfl, rfl, trivial⟩ ?_ ?_
  ·
   refine Rg ?_
   refine Ru 1 rfl ?_
   refine JL.op (RunV.own1 ag_3 rfl (by repeat (first | exact List.mem_cons_self .. | apply List.mem_cons_of_mem)) rfl) rfl ?_
   refine Ru 1 rfl ?_
   refine JL.op (RunV.own1 ag_3 rfl (by repeat (first | exact List.mem_cons_self .. | apply List.mem_cons_of_mem)) rfl) rfl ?_
   refine Ru 1 rfl ?_
   refine JL.op (RunV.own1 ag_4 rfl (by repeat (first | exact List.mem_cons_self .. | apply List.mem_cons_of_mem)) rfl) rfl ?_
   refine JL.callP ca_64 rfl (rmay_fn _ _ _ _) rfl ?_
   refine Ru 2 rfl ?_
   refine Bs 19 rfl (fun hc3 => ?_) fun hc3 => ?_
   ·
    refine Ru 20 rfl ?_
    refine JL.nil ?_
    refine ⟨rfl, rfl, ?_⟩
    repeat (first | exact trivial | refine ⟨rfl, ?_⟩ | refine ⟨(by exact some_bool (by cases k <;> simp_all <;> omega)), ?_⟩)
   ·
    refine Ru 1 rfl ?_
    refine JL.opg rfl rfl  (RunV.own1 ag_4 rfl (by repeat (first | exact List.mem_cons_self .. | apply List.mem_cons_of_mem)) rfl) rfl ?_
    refine Ru 1 rfl ?_
    refine Bs 22 rfl (fun hc4 => ?_) fun hc4 => ?_
    ·
     refine Ru 1 rfl ?_
     refine JL.opg rfl rfl  (RunV.own1 ag_22 rfl (by repeat (first | exact List.mem_cons_self .. | apply List.mem_cons_of_mem)) rfl) rfl ?_
     refine Ru 5 rfl ?_
     refine Bs 29 rfl (fun hc5 => ?_) fun hc5 => ?_
     ·
      refine Ru 10 rfl ?_
      refine JL.nil ?_
      refine ⟨rfl, rfl, ?_⟩
      repeat (first | exact trivial | refine ⟨rfl, ?_⟩ | refine ⟨(by exact some_bool (by cases k <;> simp_all <;> omega)), ?_⟩)
     ·
      refine Ru 1 rfl ?_
      refine JL.opg rfl rfl  (RunV.own1 ag_4 rfl (by repeat (first | exact List.mem_cons_self .. | apply List.mem_cons_of_mem)) rfl) rfl ?_
      refine Ru 2 rfl ?_
      refine Bs 33 rfl (fun hc6 => ?_) fun hc6 => ?_
      ·
       refine Ru 1 rfl ?_
       refine JL.opg rfl rfl  (RunV.own1 ag_23 rfl (by repeat (first | exact List.mem_cons_self .. | apply List.mem_cons_of_mem)) rfl) rfl ?_
       refine Ru 4 rfl ?_
       refine JL.nil ?_
       refine ⟨rfl, rfl, ?_⟩
       repeat (first | exact trivial | refine ⟨rfl, ?_⟩ | refine ⟨(by exact some_bool (by cases k <;> simp_all <;> omega)), ?_⟩)
      ·
       refine Ru 6 rfl ?_
       refine JL.nil ?_
       refine ⟨rfl, rfl, ?_⟩
       repeat (first | exact trivial | refine ⟨rfl, ?_⟩ | refine ⟨(by exact some_bool (by cases k <;> simp_all <;> omega)), ?_⟩)
    ·
     refine Ru 8 rfl ?_
     refine JL.opg rfl rfl  (RunV.own1 ag_4 rfl (by repeat (first | exact List.mem_cons_self .. | apply List.mem_cons_of_mem)) rfl) rfl ?_
     refine Ru 2 rfl ?_
     refine Bs 33 rfl (fun hc7 => ?_) fun hc7 => ?_
     ·
      refine Ru 1 rfl ?_
      refine JL.opg rfl rfl  (RunV.own1 ag_23 rfl (by repeat (first | exact List.mem_cons_self .. | apply List.mem_cons_of_mem)) rfl) rfl ?_
      refine Ru 4 rfl ?_
      refine JL.nil ?_
      refine ⟨rfl, rfl, ?_⟩
      repeat (first | exact trivial | refine ⟨rfl, ?_⟩ | refine ⟨(by exact some_bool (by cases k <;> simp_all <;> omega)), ?_⟩)
     ·
      refine Ru 6 rfl ?_
      refine JL.nil ?_
      refine ⟨rfl, rfl, ?_⟩
      repeat (first | exact trivial | refine ⟨rfl, ?_⟩ | refine ⟨(by exact some_bool (by cases k <;> simp_all <;> omega)), ?_⟩)
  ·
   refine Cs rfl (fun hc8 => ?_) fun hc8 => ?_
   ·
    have hz := put_bad hc8
    refine Sr ?_
    refine Ru 2 rfl ?_
    refine JL.nil ?_
    rw [hz]; exact J.retR (RetV.two rfl rfl rfl) ⟨none, 0, rfl, SlR.nil_⟩
   ·
    obtain ⟨hm, hkb, hkk⟩ : mayB c t k = true ∧ (k = true → bs.length = 0) ∧ (k = false → ks.length = 0) := (by first | exact hc8 | exact Classical.not_not.1 hc8); have hrg := may_rng hm
    refine J.skip ?_
    refine Sr ?_
    refine Ru 1 rfl ?_
    refine JL.op (RunV.own1 ag_3 rfl (by repeat (first | exact List.mem_cons_self .. | apply List.mem_cons_of_mem)) rfl) rfl ?_
    refine JL.op (by first | exact RunV.mul_i64 rfl rfl (by omega) (by omega) | exact RunV.mul rfl rfl) rfl ?_
    refine Ru 1 rfl ?_
    refine JL.op (RunV.own1 ag_3 rfl (by repeat (first | exact List.mem_cons_self .. | apply List.mem_cons_of_mem)) rfl) rfl ?_
    refine JL.op (by first | exact RunV.add_i64 rfl rfl (by omega) (by omega) | exact RunV.add rfl rfl) rfl ?_
    refine Ru 1 rfl ?_
    refine Nk [4, 3, 2, 1] rfl ?_
    refine Sr ?_
    refine Ru 1 rfl ?_
    refine JL.op (RunV.own1 ag_22 rfl (by repeat (first | exact List.mem_cons_self .. | apply List.mem_cons_of_mem)) rfl) rfl ?_
    refine Ru 1 rfl ?_
    refine JL.nil ?_
    refine J.seq ?_
    refine Sr ?_
    refine Ru 1 rfl ?_
    refine JL.op (RunV.own1 ag_4 rfl (by repeat (first | exact List.mem_cons_self .. | apply List.mem_cons_of_mem)) rfl) rfl ?_
    refine JL.nil ?_
    refine Cs rfl (fun hc9 => ?_) fun hc9 => ?_
    ·
     subst hc9; have hbz := hkb rfl; have hpc := put_cons (bs := bs) (ks := ks) hm hbz
     refine Sr ?_
     refine Ru 1 rfl ?_
     refine JL.op (by first | exact RunV.add_i64 rfl rfl (by omega) (by omega) | exact RunV.add rfl rfl) rfl ?_
     refine Ru 1 rfl ?_
     refine Nk [4, 5, 3, 2, 1] rfl ?_
     refine Sr ?_
     refine Ru 1 rfl ?_
     refine JL.nil ?_
     refine Sr ?_
     refine JL.row_nil 5 1 ?_
     refine Ru 1 rfl ?_
     refine JL.nil ?_
     refine Sr ?_
     refine Ru 1 rfl ?_
     refine JL.nil ?_
     refine J.block ?_
     refine J.loop (fun t_ S_ h_ L_ => ∃ (g : Part) (i : Nat) (inB lb : List UInt8) (ai la : Option Addr) (ci lc : Nat), t_ = ks.length - i ∧ S_ = [(1, .pointer (some ⟨b1, 0, none⟩)), (4, .int .i64 (64 * c + t + 32)), (5, .slice ai inB.length ci), (6, .slice la lb.length lc), (7, .int .i64 i)] ∧ g = h_ ∧ L_ = [.row ai ci 5 1 inB.length (u8s inB), .blk b1 25 [.int .i64 c, .int .i64 t, .bool true, .slice a bs.length ca, .slice b ks.length cb]] ∧ (h.le g ∧ i ≤ ks.length ∧ SlR u8R 1 g la lc lb ∧ inB.length ≤ 8 * Nd.szL (ks.take i) ∧ Nd.putL (decide (c = 0) && decide (t = 17)) ks none [] = Nd.putL (decide (c = 0) && decide (t = 17)) (ks.drop i) (if i = 0 then none else some lb) inB)) ⟨_, _, ?_, ⟨_, 0, [], [], _, _, _, _, rfl, rfl, rfl, rfl, ⟨by assumption, by omega, SlR.nil_, by simp, rfl⟩⟩⟩ ?_
     ·
      repeat (first | exact trivial | refine ⟨rfl, ?_⟩)
     rintro _ _ _ _ ⟨g, i, inB, lb, ai, la, ci, lc, rfl, rfl, rfl, rfl, hhg, hi, hla, hil, hp⟩
     have r := r.mono hhg; have ha := ha.mono hhg; have hb := hb.mono hhg; have hst := Nd.szL_take_le ks i
     refine J.seq ?_
     refine Sr ?_
     refine Ru 2 rfl ?_
     refine JL.op (RunV.own1 ag_23 rfl (by repeat (first | exact List.mem_cons_self .. | apply List.mem_cons_of_mem)) rfl) rfl ?_
     refine Ru 2 rfl ?_
     refine JL.nil ?_
     refine Cs rfl (fun hc10 => ?_) fun hc10 => ?_
     ·
      have hi' : i < ks.length := (by omega); have hzt := Nd.szL_take ks i hi'; have hst2 := Nd.szL_take_le ks (i + 1); have hki := hkr i hi'; have hps := Nd.putL_step (decide (c = 0) && decide (t = 17)) ks i (if i = 0 then none else some lb) inB hi'
      refine J.skip ?_
      refine J.seq ?_
      refine J.block ?_
      refine Sr ?_
      refine Ru 1 rfl ?_
      refine JL.op (RunV.own1 ag_23 rfl (by repeat (first | exact List.mem_cons_self .. | apply List.mem_cons_of_mem)) rfl) rfl ?_
      refine Ru 1 rfl ?_
      refine JL.ope (RunE.index sl_23 rfl rfl (by first | with_reducible rfl | exact (Int.toNat_of_nonneg (by omega)).symm) (by assumption) rfl (by omega)) rfl ?_
      rintro _ ⟨b11, o11, hi11, rfl, hE11⟩
      refine JL.ope (RunE.loadA ag_25 rfl (by assumption)) rfl ?_
      rintro _ ⟨_, rfl, hNd12⟩
      refine JL.callR ca_34 rfl (ih (ks[i]'(by omega)) _ _ hki.1 (by assumption) (by omega)) rfl ?_
      rintro _ h13 hle13 ⟨ka, kc, rfl, hkS⟩
      replace r := r.mono hle13
      replace ha := ha.mono hle13
      replace hb := hb.mono hle13
      replace hhg := hhg.mono hle13
      replace hla := hla.mono hle13
      replace hNd12 := hNd12.mono hle13
      obtain ⟨kp, hkp⟩ : ∃ kp, kp = (ks[i]'(by omega)).put := ⟨_, rfl⟩; rw [← hkp] at hkS hps ⊢; obtain ⟨BB, hBB⟩ : ∃ BB, BB = (!kp.isSome || ((decide (c = 0) && decide (t = 17)) && (decide ((0 : Int) < i) && belowB (kp.getD []) lb))) := ⟨_, rfl⟩
      refine Ru 5 rfl ?_
      refine JL.nil ?_
      refine J.seq ?_
      refine J.seq ?_
      refine J.meet [(88, .bool BB)] [(9, _), (8, _), (67, _), (66, _), (59, _), (65, _), (64, _), (63, _), (62, _), (61, _), (60, _), (56, _), (55, _), (54, _), (53, _), (52, _), (1, _), (4, _), (5, _), (6, _), (7, _)] ⟨rfl, rfl, rfl, rfl, rfl, rfl, rfl, rfl, rfl, rfl, rfl, rfl, rfl, rfl, rfl, rfl, rfl, rfl, rfl, rfl, rfl, trivial⟩ ?_ ?_
      ·
       refine Rg ?_
       refine Ru 3 rfl ?_
       refine Bs 70 rfl (fun hc14 => ?_) fun hc14 => ?_
       ·
        refine Ru 18 rfl ?_
        refine JL.nil ?_
        refine ⟨rfl, rfl, ?_⟩
        repeat (first | exact trivial | refine ⟨rfl, ?_⟩ | refine ⟨(by exact some_bool (by rw [hBB]; simp_all)), ?_⟩)
       ·
        refine Ru 1 rfl ?_
        refine JL.opg rfl rfl  (RunV.own1 ag_3 rfl (by repeat (first | exact List.mem_cons_self .. | apply List.mem_cons_of_mem)) rfl) rfl ?_
        refine Ru 2 rfl ?_
        refine Bs 74 rfl (fun hc15 => ?_) fun hc15 => ?_
        ·
         refine Ru 1 rfl ?_
         refine JL.opg rfl rfl  (RunV.own1 ag_3 rfl (by repeat (first | exact List.mem_cons_self .. | apply List.mem_cons_of_mem)) rfl) rfl ?_
         refine Ru 3 rfl ?_
         refine Bs 79 rfl (fun hc16 => ?_) fun hc16 => ?_
         ·
          refine Ru 4 rfl ?_
          refine Bs 83 rfl (fun hc17 => ?_) fun hc17 => ?_
          ·
           refine Ru 2 rfl ?_
           refine JL.callPg rfl rfl  ca_49 rfl (below_fn (by assumption) (by assumption)) rfl ?_
           refine Ru 2 rfl ?_
           refine JL.nil ?_
           refine ⟨rfl, rfl, ?_⟩
           repeat (first | exact trivial | refine ⟨rfl, ?_⟩ | refine ⟨(by exact some_bool (by rw [hBB]; simp_all)), ?_⟩)
          ·
           refine Ru 5 rfl ?_
           refine JL.nil ?_
           refine ⟨rfl, rfl, ?_⟩
           repeat (first | exact trivial | refine ⟨rfl, ?_⟩ | refine ⟨(by exact some_bool (by rw [hBB]; simp_all)), ?_⟩)
         ·
          refine Ru 9 rfl ?_
          refine JL.nil ?_
          refine ⟨rfl, rfl, ?_⟩
          repeat (first | exact trivial | refine ⟨rfl, ?_⟩ | refine ⟨(by exact some_bool (by rw [hBB]; simp_all)), ?_⟩)
        ·
         refine Ru 14 rfl ?_
         refine JL.nil ?_
         refine ⟨rfl, rfl, ?_⟩
         repeat (first | exact trivial | refine ⟨rfl, ?_⟩ | refine ⟨(by exact some_bool (by rw [hBB]; simp_all)), ?_⟩)
      ·
       refine Cs rfl (fun hc19 => ?_) fun hc19 => ?_
       ·
        have hz : (Nd.mk c t true bs ks).put = none := (by rw [hpc, hp, hps]; rw [hc19] at hBB; cases kp with
          | none => rfl
          | some kb => show Option.map _ (if _ then _ else _) = _; rw [if_pos (by rw [above_if, ← below_cmp]; simpa using hBB.symm)]; rfl)
        refine Sr ?_
        refine Ru 2 rfl ?_
        refine JL.nil ?_
        rw [hz]; exact J.retR (RetV.two rfl rfl rfl) ⟨none, 0, rfl, SlR.nil_⟩
       ·
        rw [hc19] at hBB; obtain ⟨kb, hkb2⟩ : ∃ kb, kp = some kb := (by cases kp with
          | none => simp at hBB
          | some kb => exact ⟨kb, rfl⟩)
        subst hkb2; simp only [Option.getD_some] at hkS ⊢; have hcz : ((decide (c = 0) && decide (t = 17)) && (decide ((0 : Int) < i) && belowB kb lb)) = false := (by rw [Option.isSome_some, Bool.not_true, Bool.false_or] at hBB; exact hBB.symm); have hkl := Nd.put_len _ _ kb (Nat.le_refl _) hkp.symm
        refine J.skip ?_
        refine Sr ?_
        refine Ru 2 rfl ?_
        refine JL.append ap_22 rfl rfl CellsR.of_u8 rfl (by assumption) rfl (by repeat (first | exact Del.here | apply Del.there)) (by first | omega | (simp only [List.length_append, List.length_cons, List.length_nil]; omega)) rfl rfl (fun a20 c20 xs20 hC20 hN20 => ?_)
        obtain rfl := hC20.u8
        refine Ru 1 rfl ?_
        refine JL.nil ?_
        refine Rg ?_
        refine Ru 2 rfl ?_
        refine JL.nil ?_
        refine Rg ?_
        refine Ru 1 rfl ?_
        refine JL.op (by first | exact RunV.add_i64 rfl rfl (by omega) (by omega) | exact RunV.add rfl rfl) rfl ?_
        refine Ru 1 rfl ?_
        refine JL.nil ?_
        refine ⟨_, ?_, _, ?_, ⟨_, i + 1, inB ++ kb, kb, _, _, _, _, rfl, rfl, rfl, rfl, ⟨by assumption, by omega, by assumption, by rw [List.length_append, hzt]; omega, by rw [hp, hps]; show (if _ then _ else _) = _; rw [if_neg (by rw [above_if, ← below_cmp, hcz]; decide), if_neg (by omega)]⟩⟩⟩
        ·
         omega
        ·
         repeat (first | exact trivial | refine ⟨rfl, ?_⟩)
     ·
      refine J.pub (R := u8R) (l := inB) (by repeat (first | exact Del.here | apply Del.there)) CellsR.of_u8 rfl (by omega) (fun h9 hle9 hP9 => ?_); replace hhg := hhg.mono hle9; replace r := r.mono hle9; replace hb := hb.mono hle9; replace hla := hla.mono hle9; clear ha; have ha := hP9; obtain ⟨TG, htg, hz⟩ : ∃ TG : Nat, 64 * c + t + 32 = TG ∧ (Nd.mk c t true bs ks).put = some ((UInt8.ofNat TG :: lenB inB.length) ++ inB) := ⟨tagN c t true, by unfold tagN; rw [if_pos rfl]; omega, by rw [hpc, hp, List.drop_of_length_le (by omega)]; rfl⟩; have hinl : inB.length ≤ 100000000 := (by omega)
      refine J.exit ?_
      refine Kp [4, 5] rfl ?_
      refine Sr ?_
      refine Ru 1 rfl ?_
      refine JL.op (RunV.toByte TG cv_3_5 rfl htg) rfl ?_
      refine JL.lit1 ap_22 zr_5 rfl rfl rfl rfl rfl (fun b21 => ?_)
      refine Ru 1 rfl ?_
      refine JL.nil ?_
      refine Sr ?_
      refine Ru 3 rfl ?_
      refine JL.callR ca_66 rfl (length_fn (by omega)) rfl ?_
      rintro _ h22 hle22 ⟨a22, c22, rfl, hS22⟩
      replace r := r.mono hle22
      replace ha := ha.mono hle22
      replace hb := hb.mono hle22
      replace hhg := hhg.mono hle22
      replace hla := hla.mono hle22
      have hlb9 : (lenB inB.length).length ≤ 8 := (by have := headB_len 0 0 false inB.length; unfold headB at this; simp only [List.length_cons] at this; omega)
      refine JL.rowL (l := [UInt8.ofNat TG]) (b := b21) (by repeat (first | exact Del.here | apply Del.there)) (by first | rfl | kernel_rfl) (by first | decide | (simp; done)) ?_
      refine JL.append ap_22 rfl rfl CellsR.of_u8 rfl (by assumption) rfl (by repeat (first | exact Del.here | apply Del.there)) (by first | omega | (simp only [List.length_append, List.length_cons, List.length_nil]; omega)) rfl rfl (fun a23 c23 xs23 hC23 hN23 => ?_)
      obtain rfl := hC23.u8
      refine Ru 1 rfl ?_
      refine Nk [10, 5] rfl ?_
      refine Sr ?_
      refine Ru 2 rfl ?_
      refine JL.append ap_22 rfl rfl CellsR.of_u8 rfl (by assumption) rfl (by repeat (first | exact Del.here | apply Del.there)) (by first | omega | (simp only [List.length_append, List.length_cons, List.length_nil]; omega)) rfl rfl (fun a24 c24 xs24 hC24 hN24 => ?_)
      obtain rfl := hC24.u8
      refine JL.pub (R := u8R) (l := (UInt8.ofNat TG :: lenB inB.length) ++ inB) (by repeat (first | exact Del.here | apply Del.there)) CellsR.of_u8 rfl (by first | omega | (simp only [List.length_append, List.length_cons, List.length_nil]; omega)) (fun h25 hle25 hP25 => ?_)
      replace r := r.mono hle25
      replace ha := ha.mono hle25
      replace hb := hb.mono hle25
      replace hhg := hhg.mono hle25
      replace hla := hla.mono hle25
      replace hS22 := hS22.mono hle25
      refine Ru 2 rfl ?_
      refine Nk [3, 2] rfl ?_
      rw [hz]; exact J.retR (RetV.two rfl rfl rfl) ⟨_, _, rfl, by assumption⟩
    ·
     subst hc9; have hkz := hkk rfl; have hpp := put_prim (bs := bs) (ks := ks) hm hkz; have hhg := hh0
     refine J.seq ?_
     refine J.meet [(103, .bool (decide (c = 0) && !valB t bs))] [(5, _), (4, _), (3, _), (2, _)] ⟨rfl, rfl, rfl, rfl, trivial⟩ ?_ ?_
     ·
      refine Rg ?_
      refine Ru 1 rfl ?_
      refine JL.op (RunV.own1 ag_3 rfl (by repeat (first | exact List.mem_cons_self .. | apply List.mem_cons_of_mem)) rfl) rfl ?_
      refine Ru 2 rfl ?_
      refine Bs 96 rfl (fun hc26 => ?_) fun hc26 => ?_
      ·
       refine Ru 1 rfl ?_
       refine JL.opg rfl rfl  (RunV.own1 ag_3 rfl (by repeat (first | exact List.mem_cons_self .. | apply List.mem_cons_of_mem)) rfl) rfl ?_
       refine Ru 1 rfl ?_
       refine JL.opg rfl rfl  (RunV.own1 ag_22 rfl (by repeat (first | exact List.mem_cons_self .. | apply List.mem_cons_of_mem)) rfl) rfl ?_
       refine JL.callPg rfl rfl  ca_65 rfl (rvalue_fn (by assumption) (by omega)) rfl ?_
       refine Ru 2 rfl ?_
       refine JL.nil ?_
       refine ⟨rfl, rfl, ?_⟩
       repeat (first | exact trivial | refine ⟨rfl, ?_⟩ | refine ⟨(by exact some_bool (by simp_all)), ?_⟩)
      ·
       refine Ru 7 rfl ?_
       refine JL.nil ?_
       refine ⟨rfl, rfl, ?_⟩
       repeat (first | exact trivial | refine ⟨rfl, ?_⟩ | refine ⟨(by exact some_bool (by simp_all)), ?_⟩)
     ·
      refine Cs rfl (fun hc28 => ?_) fun hc28 => ?_
      ·
       have hz : (Nd.mk c t false bs ks).put = none := (by rw [hpp, if_pos (by simpa using hc28)])
       refine Sr ?_
       refine Ru 2 rfl ?_
       refine JL.nil ?_
       rw [hz]; exact J.retR (RetV.two rfl rfl rfl) ⟨none, 0, rfl, SlR.nil_⟩
      ·
       obtain ⟨inB, hinB⟩ : ∃ inB, inB = bs := ⟨_, rfl⟩; rw [← hinB]; rw [← hinB] at ha; obtain ⟨TG, htg, hz⟩ : ∃ TG : Nat, 64 * c + t = TG ∧ (Nd.mk c t false inB ks).put = some ((UInt8.ofNat TG :: lenB inB.length) ++ inB) := ⟨tagN c t false, by unfold tagN; rw [if_neg (by decide)]; omega, by rw [hinB, hpp, if_neg (by rw [Bool.not_eq_true]; first | exact hc28 | (simpa using hc28) | (cases hv : (decide (c = 0) && !valB t bs); rfl; exfalso; simp_all))]; rfl⟩; have hinl : inB.length ≤ 100000000 := (by rw [hinB]; omega)
       refine J.skip ?_
       refine Sr ?_
       refine Ru 1 rfl ?_
       refine JL.op (RunV.toByte TG cv_3_5 rfl htg) rfl ?_
       refine JL.lit1 ap_22 zr_5 rfl rfl rfl rfl rfl (fun b29 => ?_)
       refine Ru 1 rfl ?_
       refine Nk [10, 5, 3, 2] rfl ?_
       refine Sr ?_
       refine Ru 3 rfl ?_
       refine JL.callR ca_66 rfl (length_fn (by omega)) rfl ?_
       rintro _ h30 hle30 ⟨a30, c30, rfl, hS30⟩
       replace r := r.mono hle30
       replace ha := ha.mono hle30
       replace hb := hb.mono hle30
       have hlb9 : (lenB inB.length).length ≤ 8 := (by have := headB_len 0 0 false inB.length; unfold headB at this; simp only [List.length_cons] at this; omega)
       refine JL.rowL (l := [UInt8.ofNat TG]) (b := b29) (by repeat (first | exact Del.here | apply Del.there)) (by first | rfl | kernel_rfl) (by first | decide | (simp; done)) ?_
       refine JL.append ap_22 rfl rfl CellsR.of_u8 rfl (by assumption) rfl (by repeat (first | exact Del.here | apply Del.there)) (by first | omega | (simp only [List.length_append, List.length_cons, List.length_nil]; omega)) rfl rfl (fun a31 c31 xs31 hC31 hN31 => ?_)
       obtain rfl := hC31.u8
       refine Ru 1 rfl ?_
       refine Nk [10, 5, 3, 2] rfl ?_
       refine Sr ?_
       refine Ru 2 rfl ?_
       refine JL.append ap_22 rfl rfl CellsR.of_u8 rfl (by assumption) rfl (by repeat (first | exact Del.here | apply Del.there)) (by first | omega | (simp only [List.length_append, List.length_cons, List.length_nil]; omega)) rfl rfl (fun a32 c32 xs32 hC32 hN32 => ?_)
       obtain rfl := hC32.u8
       refine JL.pub (R := u8R) (l := (UInt8.ofNat TG :: lenB inB.length) ++ inB) (by repeat (first | exact Del.here | apply Del.there)) CellsR.of_u8 rfl (by first | omega | (simp only [List.length_append, List.length_cons, List.length_nil]; omega)) (fun h33 hle33 hP33 => ?_)
       replace r := r.mono hle33
       replace ha := ha.mono hle33
       replace hb := hb.mono hle33
       replace hS30 := hS30.mono hle33
       refine Ru 2 rfl ?_
       refine Nk [3, 2] rfl ?_
       rw [hz]; exact J.retR (RetV.two rfl rfl rfl) ⟨_, _, rfl, by assumption⟩
theorem rbytes_fn' {x : Nd} {cs : List Value} {h : Part} (r : NdR h cs x) (hs : x.sz ≤ 10000000) : FnR Tryd.prog 34 [.agg cs.toArray] h (fun v h' => ∃ a c, v = .tuple #[.slice a (x.put.getD []).length c, .bool x.put.isSome] ∧ SlR u8R 1 h' a c (x.put.getD [])) := rbytes_fn _ x cs h (Nat.le_refl _) r hs



theorem rright_fn {x : Nd} {cs : List Value} {h : Part} (r : NdR h cs x) (hs : x.sz ≤ 10000000) : Pure Tryd.prog 14 [.agg cs.toArray] h (.bool x.put.isSome) := by
  refine Pure.ofV ?_
  refine Fn.intro Tryd.func14 rfl Tryd.ntmps14 rfl (fun e he => ?_)
  refine J.weak [(0, _)] ⟨rfl, trivial⟩ ?_
  refine Sr ?_
  refine JL.box rfl rfl rfl (fun b1 => ?_)
  refine Ru 1 rfl ?_
  refine JL.nil ?_
  refine Sr ?_
  refine JL.op (RunV.ownA ag_25 rfl (by repeat (first | exact List.mem_cons_self .. | apply List.mem_cons_of_mem)) (by first | rfl | exact NdR.len5 (by assumption))) rfl ?_
  refine JL.callR ca_34 rfl (rbytes_fn' (by assumption) (by omega)) rfl ?_
  rintro _ h2 hle2 ⟨a2, c2, rfl, hS2⟩
  replace r := r.mono hle2
  refine Ru 5 rfl ?_
  refine Nk [4, 2] rfl ?_
  refine Sr ?_
  refine Ru 2 rfl ?_
  refine JL.nil ?_
  exact J.retV (RetV.one rfl rfl) rfl






theorem rwritex_fn {x : Nd} {cs : List Value} {h : Part} (r : NdR h cs x) (hs : x.sz ≤ 10000000) : FnR Tryd.prog 11 [.agg cs.toArray] h (fun v h' => ∃ a c, v = .tuple #[.slice a x.wr.1.length c, .int .i64 x.wr.2] ∧ SlR u8R 1 h' a c x.wr.1) := by
  refine Fn.intro Tryd.func11 rfl Tryd.ntmps11 rfl (fun e he => ?_)
  refine J.weak [(0, _)] ⟨rfl, trivial⟩ ?_
  have hh0 := Part.le.refl h
  refine Sr ?_
  refine JL.box rfl rfl rfl (fun b1 => ?_)
  refine Ru 2 rfl ?_
  refine JL.nil ?_
  refine Sr ?_
  refine JL.op (RunV.ownA ag_25 rfl (by repeat (first | exact List.mem_cons_self .. | apply List.mem_cons_of_mem)) (by first | rfl | exact NdR.len5 (by assumption))) rfl ?_
  refine JL.callR ca_34 rfl (rbytes_fn' (by assumption) (by omega)) rfl ?_
  rintro _ h2 hle2 ⟨a2, c2, rfl, hS2⟩
  replace r := r.mono hle2
  replace hh0 := hh0.mono hle2
  obtain ⟨p, hp⟩ : ∃ p, p = x.put := ⟨_, rfl⟩; rw [← hp] at hS2 ⊢
  refine Ru 5 rfl ?_
  refine Nk [5, 4, 3, 2, 1] rfl ?_
  refine J.seq ?_
  refine J.block ?_
  refine Sr ?_
  refine Ru 3 rfl ?_
  refine JL.nil ?_
  refine Cs rfl (fun hc3 => ?_) fun hc3 => ?_
  ·
   have hw : x.wr = ([], 34) := (by unfold Nd.wr; rw [← hp]; cases p with
     | none => rfl
     | some b => simp at hc3)
   refine Sr ?_
   refine Ru 2 rfl ?_
   refine Nk [3, 2, 4] rfl ?_
   rw [hw]; exact J.retR (RetV.two rfl rfl rfl) ⟨_, _, rfl, SlR.nil_⟩
  ·
   obtain ⟨b, hb⟩ : ∃ b, p = some b := (by cases p with
     | none => simp at hc3
     | some b => exact ⟨b, rfl⟩)
   subst hb; simp only [Option.getD_some] at hS2 ⊢; have hbl := hS2.big
   refine Sr ?_
   refine JL.op (RunV.ownA ag_25 rfl (by repeat (first | exact List.mem_cons_self .. | apply List.mem_cons_of_mem)) (by first | rfl | exact NdR.len5 (by assumption))) rfl ?_
   refine JL.callP ca_23 rfl (deep_fn' (by assumption) (by omega)) rfl ?_
   refine Ru 2 rfl ?_
   refine Nk [14, 4, 3, 2] rfl ?_
   refine Cs rfl (fun hc5 => ?_) fun hc5 => ?_
   ·
    have hw : x.wr = ([], 33) := (by unfold Nd.wr; rw [← hp]; simp only; rw [if_pos (by omega)])
    refine Sr ?_
    refine Ru 2 rfl ?_
    refine JL.nil ?_
    rw [hw]; exact J.retR (RetV.two rfl rfl rfl) ⟨_, _, rfl, SlR.nil_⟩
   ·
    refine Sr ?_
    refine Ru 4 rfl ?_
    refine Nk [18, 4, 3, 2] rfl ?_
    refine Cs rfl (fun hc6 => ?_) fun hc6 => ?_
    ·
     have hw : x.wr = ([], 2) := (by unfold Nd.wr; rw [← hp]; simp only; rw [if_neg (by omega), if_pos (by omega)])
     refine Sr ?_
     refine Ru 2 rfl ?_
     refine JL.nil ?_
     rw [hw]; exact J.retR (RetV.two rfl rfl rfl) ⟨_, _, rfl, SlR.nil_⟩
    ·
     have hw : x.wr = (b, 0) := (by unfold Nd.wr; rw [← hp]; simp only; rw [if_neg (by omega), if_neg (by omega)])
     refine J.skip ?_
     refine Sr ?_
     refine Ru 3 rfl ?_
     refine Nk [3, 2] rfl ?_
     rw [hw]; exact J.retR (RetV.two rfl rfl rfl) ⟨_, _, rfl, hS2⟩






end Go.Proofs.YtmngjbefnloljaaDoor
