/- Walks: the reference's texts: characters. -/
import Derived.Test.YtmngjbefnloljaaDoorChr
import Derived.Test.YtmngjbefnloljaaDoorSha
set_option linter.unusedSimpArgs false
set_option linter.unusedVariables false
set_option linter.constructorNameAsVariable false
namespace Go.Proofs.YtmngjbefnloljaaDoor
open Go Go.RowKit
theorem ca_123 : callT Tryd.prog 123 = true := by kernel_rfl
theorem ca_124 : callT Tryd.prog 124 = true := by kernel_rfl

theorem between_fn (n lo hi : Int) (h : Part) : Pure Tryd.prog 124 [.int .i64 n, .int .i64 lo, .int .i64 hi] h (.bool (decide (lo ≤ n ∧ n ≤ hi))) := by
  refine Fn.intro Tryd.func124 rfl Tryd.ntmps124 rfl (fun e he => ?_)
  refine J.weak [(0, _), (1, _), (2, _)] ⟨rfl, rfl, rfl, trivial⟩ ?_
  refine Sr ?_
  refine Ru 1 rfl ?_
  refine JL.nil ?_
  refine Sr ?_
  refine Ru 4 rfl ?_
  apply An 10 14 4 [6] rfl rfl
  ·
   intro hb1 hc1
   refine Ru 4 rfl ?_
   exact Ae (am_t hb1 rfl) rfl
  ·
   exact fun hb1 _ => Ru 4 rfl (Ae (am_f hb1 rfl) rfl)
  refine Ru 1 rfl ?_
  refine JL.nil ?_
  exact J.retP (RetV.one rfl rfl) (by rw [Bool.decide_and]) rfl




/-! ## a character -/
def nC (b : Nat) : Int := if 192 ≤ b ∧ b ≤ 223 then 2 else if 224 ≤ b ∧ b ≤ 239 then 3 else if 240 ≤ b ∧ b ≤ 247 then 4 else 0
def lC (b : Nat) : Int := if 192 ≤ b ∧ b ≤ 223 then 128 else if 224 ≤ b ∧ b ≤ 239 then 2048 else if 240 ≤ b ∧ b ≤ 247 then 65536 else 0
def vC (b : Nat) : Int := if 192 ≤ b ∧ b ≤ 223 then b - 192 else if 224 ≤ b ∧ b ≤ 239 then b - 224 else if 240 ≤ b ∧ b ≤ 247 then b - 240 else b
def cont (s : List UInt8) (v : Int) : Nat → Int
  | 0 => v
  | j + 1 => cont s v j * 64 + byteAt s (j + 1) - 128
def contOk (s : List UInt8) : Nat → Bool
  | 0 => true
  | j + 1 => contOk s j && decide (128 ≤ byteAt s (j + 1) ∧ byteAt s (j + 1) ≤ 191)
theorem cont_bd (s : List UInt8) (v : Int) (h0 : 0 ≤ v) (h1 : v ≤ 255) : ∀ j, j ≤ 3 → contOk s j = true → 0 ≤ cont s v j ∧ cont s v j + 1 ≤ 300 * 64 ^ j
  | 0, _, _ => by simp [cont]; omega
  | j + 1, hj, hk => by
    simp only [contOk, Bool.and_eq_true, decide_eq_true_eq] at hk
    have := cont_bd s v h0 h1 j (by omega) hk.1
    have e : (64 : Int) ^ (j + 1) = 64 ^ j * 64 := by rw [Int.pow_succ]
    have hp : (1 : Int) ≤ 64 ^ j := Int.pow_pos (by decide)
    have hb := byteAt_lt s (j + 1)
    simp only [cont]
    omega
theorem contOk_le (s : List UInt8) {k : Nat} : ∀ {m}, k ≤ m → contOk s k = false → contOk s m = false
  | 0, h, e => by have : k = 0 := (by omega); subst this; exact e
  | m + 1, h, e => by
    by_cases hk : k = m + 1
    · subst hk; exact e
    · simp only [contOk, contOk_le s (k := k) (m := m) (by omega) e, Bool.false_and]
theorem contOk_no (s : List UInt8) (j : Nat) (h : ¬ (128 ≤ byteAt s (j + 1) ∧ byteAt s (j + 1) ≤ 191)) : contOk s (j + 1) = false := by
  simp only [contOk, decide_eq_false h, Bool.and_false]
def charM (s : List UInt8) : Int × Int :=
  if byteAt s 0 < 128 then (byteAt s 0, 1) else if nC (byteAt s 0) = 0 ∨ (s.length : Int) < nC (byteAt s 0) then (0, 0)
  else if contOk s (nC (byteAt s 0) - 1).toNat = false then (0, 0)
  else if cont s (vC (byteAt s 0)) (nC (byteAt s 0) - 1).toNat < lC (byteAt s 0) ∨ 1114111 < cont s (vC (byteAt s 0)) (nC (byteAt s 0) - 1).toNat ∨ (55296 ≤ cont s (vC (byteAt s 0)) (nC (byteAt s 0) - 1).toNat ∧ cont s (vC (byteAt s 0)) (nC (byteAt s 0) - 1).toNat ≤ 57343) then (0, 0)
  else (cont s (vC (byteAt s 0)) (nC (byteAt s 0) - 1).toNat, nC (byteAt s 0))
theorem dec_s (s : List UInt8) : Go.Lib.decodeL s = Go.Lib.decodeN s.length (byteAt s 0) (byteAt s 1) (byteAt s 2) (byteAt s 3) := by
  unfold Go.Lib.decodeL
  rw [Go.Lib.decode_at]
  simp only [get!_list, bsize, Nat.sub_zero, Nat.zero_add]
  rfl
/-- The reference's character is the library's, or none. -/
def charR (s : List UInt8) : Int × Int := if chr s = 65533 ∧ wid s = 1 then (0, 0) else (chr s, wid s)
theorem pk_good {D : Nat × Nat} {a b : Nat} (h : D = (a, b)) (hb : b ≠ 1) : (if D.1 = 65533 ∧ D.2 = 1 then ((0, 0) : Int × Int) else (D.1, D.2)) = ((a : Int), (b : Int)) := by
  subst h; rw [if_neg (fun k => hb k.2)]
theorem pk_bad {D : Nat × Nat} (h : D = (65533, 1)) : (if D.1 = 65533 ∧ D.2 = 1 then ((0, 0) : Int × Int) else (D.1, D.2)) = (0, 0) := by
  subst h; rfl
theorem charM_eq (s : List UInt8) (h : s ≠ []) : charM s = charR s := by
  have hl := List.length_pos_iff.2 h
  have h0 := byteAt_lt s 0; have h1 := byteAt_lt s 1; have h2 := byteAt_lt s 2; have h3 := byteAt_lt s 3
  unfold charR
  simp only [chr, wid, dec_s]
  generalize hb0 : byteAt s 0 = b0 at *
  generalize hb1 : byteAt s 1 = b1 at *
  generalize hb2 : byteAt s 2 = b2 at *
  generalize hb3 : byteAt s 3 = b3 at *
  unfold charM
  rw [hb0]
  by_cases c0 : b0 < 128
  · rw [if_pos c0]
    simp only [Go.Lib.decodeN, if_pos c0]
    rw [if_neg (by omega)]
    rfl
  · rw [if_neg c0]
    by_cases c2 : 192 ≤ b0 ∧ b0 ≤ 223
    · have hn : nC b0 = 2 := if_pos c2
      have hv : vC b0 = b0 - 192 := if_pos c2
      have hll : lC b0 = 128 := if_pos c2
      rw [hn, hv, hll]
      simp only [show ((2 : Int) - 1).toNat = 1 from rfl, contOk, cont, Bool.true_and, Nat.zero_add, hb1, decide_eq_false_iff_not]
      by_cases k1 : 1 < s.length ∧ b1 / 64 = 2
      · have e : b0 / 32 = 6 ∧ 1 < s.length ∧ b1 / 64 = 2 := ⟨by omega, k1⟩
        by_cases g : b0 % 32 * 64 + b1 % 64 ≥ 128
        · rw [pk_good (a := b0 % 32 * 64 + b1 % 64) (b := 2) (by unfold Go.Lib.decodeN; rw [if_neg c0, if_pos e, if_pos g]) (by decide), if_neg (by omega), if_neg (by omega), if_neg (by omega)]
          simp only [Prod.mk.injEq]
          omega
        · rw [pk_bad (by unfold Go.Lib.decodeN; rw [if_neg c0, if_pos e, if_neg g]), if_neg (by omega), if_neg (by omega), if_pos (by omega)]
      · rw [pk_bad (by unfold Go.Lib.decodeN; rw [if_neg c0, if_neg (by omega), if_neg (by omega), if_neg (by omega)])]
        split
        · rfl
        · rw [if_pos (by omega)]
    · by_cases c3 : 224 ≤ b0 ∧ b0 ≤ 239
      · have hn : nC b0 = 3 := by unfold nC; rw [if_neg c2, if_pos c3]
        have hv : vC b0 = b0 - 224 := by unfold vC; rw [if_neg c2, if_pos c3]
        have hll : lC b0 = 2048 := by unfold lC; rw [if_neg c2, if_pos c3]
        rw [hn, hv, hll]
        simp only [show ((3 : Int) - 1).toNat = 2 from rfl, contOk, cont, Bool.true_and, Nat.zero_add, hb1, hb2, Bool.and_eq_false_iff, decide_eq_false_iff_not, Nat.reduceAdd]
        by_cases k1 : (1 < s.length ∧ b1 / 64 = 2) ∧ (2 < s.length ∧ b2 / 64 = 2)
        · have e : b0 / 16 = 14 ∧ (1 < s.length ∧ b1 / 64 = 2) ∧ (2 < s.length ∧ b2 / 64 = 2) := ⟨by omega, k1⟩
          by_cases g : b0 % 16 * 4096 + b1 % 64 * 64 + b2 % 64 ≥ 2048 ∧ (b0 % 16 * 4096 + b1 % 64 * 64 + b2 % 64 < 55296 ∨ (57344 ≤ b0 % 16 * 4096 + b1 % 64 * 64 + b2 % 64 ∧ b0 % 16 * 4096 + b1 % 64 * 64 + b2 % 64 ≤ 1114111))
          · rw [pk_good (a := b0 % 16 * 4096 + b1 % 64 * 64 + b2 % 64) (b := 3) (by unfold Go.Lib.decodeN; rw [if_neg c0, if_neg (by omega), if_pos e, if_pos g]) (by decide), if_neg (by omega), if_neg (by omega), if_neg (by omega)]
            simp only [Prod.mk.injEq]
            omega
          · rw [pk_bad (by unfold Go.Lib.decodeN; rw [if_neg c0, if_neg (by omega), if_pos e, if_neg g]), if_neg (by omega), if_neg (by omega), if_pos (by omega)]
        · rw [pk_bad (by unfold Go.Lib.decodeN; rw [if_neg c0, if_neg (by omega), if_neg (by omega), if_neg (by omega)])]
          split
          · rfl
          · rw [if_pos (by omega)]
      · by_cases c4 : 240 ≤ b0 ∧ b0 ≤ 247
        · have hn : nC b0 = 4 := by unfold nC; rw [if_neg c2, if_neg c3, if_pos c4]
          have hv : vC b0 = b0 - 240 := by unfold vC; rw [if_neg c2, if_neg c3, if_pos c4]
          have hll : lC b0 = 65536 := by unfold lC; rw [if_neg c2, if_neg c3, if_pos c4]
          rw [hn, hv, hll]
          simp only [show ((4 : Int) - 1).toNat = 3 from rfl, contOk, cont, Bool.true_and, Nat.zero_add, hb1, hb2, hb3, Bool.and_eq_false_iff, decide_eq_false_iff_not, Nat.reduceAdd]
          by_cases k1 : (1 < s.length ∧ b1 / 64 = 2) ∧ (2 < s.length ∧ b2 / 64 = 2) ∧ (3 < s.length ∧ b3 / 64 = 2)
          · have e : b0 / 8 = 30 ∧ (1 < s.length ∧ b1 / 64 = 2) ∧ (2 < s.length ∧ b2 / 64 = 2) ∧ (3 < s.length ∧ b3 / 64 = 2) := ⟨by omega, k1⟩
            by_cases g : b0 % 8 * 262144 + b1 % 64 * 4096 + b2 % 64 * 64 + b3 % 64 ≥ 65536 ∧ (b0 % 8 * 262144 + b1 % 64 * 4096 + b2 % 64 * 64 + b3 % 64 < 55296 ∨ (57344 ≤ b0 % 8 * 262144 + b1 % 64 * 4096 + b2 % 64 * 64 + b3 % 64 ∧ b0 % 8 * 262144 + b1 % 64 * 4096 + b2 % 64 * 64 + b3 % 64 ≤ 1114111))
            · rw [pk_good (a := b0 % 8 * 262144 + b1 % 64 * 4096 + b2 % 64 * 64 + b3 % 64) (b := 4) (by unfold Go.Lib.decodeN; rw [if_neg c0, if_neg (by omega), if_neg (by omega), if_pos e, if_pos g]) (by decide), if_neg (by omega), if_neg (by omega), if_neg (by omega)]
              simp only [Prod.mk.injEq]
              omega
            · rw [pk_bad (by unfold Go.Lib.decodeN; rw [if_neg c0, if_neg (by omega), if_neg (by omega), if_pos e, if_neg g]), if_neg (by omega), if_neg (by omega), if_pos (by omega)]
          · rw [pk_bad (by unfold Go.Lib.decodeN; rw [if_neg c0, if_neg (by omega), if_neg (by omega), if_neg (by omega)])]
            split
            · rfl
            · rw [if_pos (by omega)]
        · have hn : nC b0 = 0 := by unfold nC; rw [if_neg c2, if_neg c3, if_neg c4]
          rw [hn, if_pos (.inl rfl), pk_bad]
          unfold Go.Lib.decodeN
          rw [if_neg c0, if_neg (by omega), if_neg (by omega), if_neg (by omega)]
theorem nC_bd (b : Nat) (h : b < 256) (h1 : 128 ≤ b) : (nC b = 0 ∨ 2 ≤ nC b) ∧ nC b ≤ 4 ∧ 0 ≤ vC b ∧ vC b ≤ 255 ∧ 0 ≤ lC b ∧ lC b ≤ 65536 := by
  unfold nC vC lC
  (repeat' split) <;> omega
theorem char_fn (s : List UInt8) (h : Part) (hs : s ≠ []) (hl : s.length ≤ 140737488355328) : Pure Tryd.prog 123 [.string ⟨s.toArray⟩] h (.tuple #[.int .i64 (charR s).1, .int .i64 (charR s).2]) := by
  have hs1 := List.length_pos_iff.2 hs
  have hb := byteAt_lt s 0
  have hb0 : byteAt s 0 = (s.getD 0 0).toNat := rfl
  rw [← charM_eq s hs]
  refine Fn.intro Tryd.func123 rfl Tryd.ntmps123 rfl (fun e he => ?_)
  refine J.weak [(0, _)] ⟨rfl, trivial⟩ ?_
  refine Sr ?_
  refine Ru 2 rfl ?_
  refine JL.nil ?_
  refine Sr ?_
  refine Ru 1 rfl ?_
  refine JL.op (RunV.strIndex un_9 rfl rfl (show _ = ((0 : Nat) : Int) from rfl) (by omega)) rfl ?_
  refine JL.op (by first | exact RunV.convb_i64 cv_5_3 rfl | exact RunV.conv_i64 cv_5_3 rfl (by omega) (by omega) | exact RunV.conv cv_5_3 rfl) rfl ?_
  refine Ru 1 rfl ?_
  refine JL.nil ?_
  refine J.seq ?_
  refine Sr ?_
  refine Ru 2 rfl ?_
  refine JL.nil ?_
  refine Cs rfl (fun hc1 => ?_) fun hc1 => ?_
  ·
   have hcm : charM s = ((byteAt s 0 : Int), 1) := (by unfold charM; rw [if_pos (by omega)])
   refine Sr ?_
   refine Ru 3 rfl ?_
   refine Nk [3, 2, 4, 0] rfl ?_
   exact J.retP (RetV.two rfl rfl rfl) (by rw [hcm]; rfl) rfl
  ·
   have hnb := nC_bd (byteAt s 0) hb (by omega)
   refine J.skip ?_
   refine Kp [4, 3, 2, 0] rfl ?_
   refine Sr ?_
   refine Ru 1 rfl ?_
   refine JL.nil ?_
   refine Sr ?_
   refine Ru 1 rfl ?_
   refine JL.nil ?_
   refine J.seq ?_
   refine J.block ?_
   refine Sr ?_
   refine Ru 1 rfl ?_
   refine JL.callP ca_124 rfl (between_fn _ _ _ _) rfl ?_
   refine Ru 1 rfl ?_
   refine JL.nil ?_
   refine J.meet [(5, .int .i64 (nC (byteAt s 0))), (6, .int .i64 (lC (byteAt s 0))), (4, .int .i64 (vC (byteAt s 0)))] [(3, _), (2, _), (0, _)] ⟨rfl, rfl, rfl, trivial⟩ ?_ ?_
   ·
    refine Cs rfl (fun hc3 => ?_) fun hc3 => ?_
    ·
     refine Rg ?_
     refine Ru 1 rfl ?_
     refine JL.op (by first | exact RunV.sub_i64 rfl rfl (by omega) (by omega) | exact RunV.sub rfl rfl) rfl ?_
     refine Ru 3 rfl ?_
     refine JL.nil ?_
     refine ⟨rfl, rfl, ?_⟩
     repeat (first | exact trivial | refine ⟨rfl, ?_⟩ | refine ⟨(by exact some_int (by first | omega | (unfold nC; (repeat' split) <;> omega) | (unfold vC; (repeat' split) <;> omega) | (unfold lC; (repeat' split) <;> omega))), ?_⟩)
    ·
     refine Sr ?_
     refine Ru 1 rfl ?_
     refine JL.callP ca_124 rfl (between_fn _ _ _ _) rfl ?_
     refine Ru 1 rfl ?_
     refine Nk [20, 6, 5, 4, 3, 2, 0] rfl ?_
     refine Cs rfl (fun hc5 => ?_) fun hc5 => ?_
     ·
      refine Rg ?_
      refine Ru 1 rfl ?_
      refine JL.op (by first | exact RunV.sub_i64 rfl rfl (by omega) (by omega) | exact RunV.sub rfl rfl) rfl ?_
      refine Ru 3 rfl ?_
      refine JL.nil ?_
      refine ⟨rfl, rfl, ?_⟩
      repeat (first | exact trivial | refine ⟨rfl, ?_⟩ | refine ⟨(by exact some_int (by first | omega | (unfold nC; (repeat' split) <;> omega) | (unfold vC; (repeat' split) <;> omega) | (unfold lC; (repeat' split) <;> omega))), ?_⟩)
     ·
      refine Sr ?_
      refine Ru 1 rfl ?_
      refine JL.callP ca_124 rfl (between_fn _ _ _ _) rfl ?_
      refine Ru 1 rfl ?_
      refine JL.nil ?_
      refine Cs rfl (fun hc7 => ?_) fun hc7 => ?_
      ·
       refine Rg ?_
       refine Ru 1 rfl ?_
       refine JL.op (by first | exact RunV.sub_i64 rfl rfl (by omega) (by omega) | exact RunV.sub rfl rfl) rfl ?_
       refine Ru 3 rfl ?_
       refine JL.nil ?_
       refine ⟨rfl, rfl, ?_⟩
       repeat (first | exact trivial | refine ⟨rfl, ?_⟩ | refine ⟨(by exact some_int (by first | omega | (unfold nC; (repeat' split) <;> omega) | (unfold vC; (repeat' split) <;> omega) | (unfold lC; (repeat' split) <;> omega))), ?_⟩)
      ·
       refine J.skip ?_
       refine ⟨rfl, rfl, ?_⟩
       repeat (first | exact trivial | refine ⟨rfl, ?_⟩ | refine ⟨(by exact some_int (by first | omega | (unfold nC; (repeat' split) <;> omega) | (unfold vC; (repeat' split) <;> omega) | (unfold lC; (repeat' split) <;> omega))), ?_⟩)
   ·
    refine J.seq ?_
    refine Sr ?_
    refine Ru 3 rfl ?_
    apply On 32 37 5 [5, 6, 4, 3, 2, 0] rfl rfl
    rotate_left
    ·
     intro hb8 hc8
     refine Ru 1 rfl ?_
     refine JL.opg rfl rfl  (RunV.lenS un_9 rfl) rfl ?_
     refine Ru 3 rfl ?_
     exact Ae (om_f hb8 rfl) rfl
    rotate_right
    ·
     exact fun hb8 _ => Ru 5 rfl (Ae (om_t hb8 rfl) rfl)
    refine JL.nil ?_
    refine Cs rfl (fun hc9 => ?_) fun hc9 => ?_
    ·
     have hcm : charM s = (0, 0) := (by unfold charM; rw [if_neg (by omega), if_pos (by omega)])
     refine Sr ?_
     refine Ru 2 rfl ?_
     refine JL.nil ?_
     exact J.retP (RetV.two rfl rfl rfl) (by rw [hcm]) rfl
    ·
     refine J.skip ?_
     refine J.seq ?_
     refine Sr ?_
     refine Ru 1 rfl ?_
     refine JL.nil ?_
     refine J.block ?_
     refine J.loop (fun t_ S_ h_ L_ => ∃ (j : Nat), t_ = 5 - j ∧ S_ = [(0, .string ⟨s.toArray⟩), (4, .int .i64 (cont s (vC (byteAt s 0)) j)), (5, .int .i64 (nC (byteAt s 0))), (6, .int .i64 (lC (byteAt s 0))), (7, .int .i64 ((j : Int) + 1))] ∧ h = h_ ∧ L_ = [] ∧ ((j : Int) + 1 ≤ nC (byteAt s 0) ∧ contOk s j = true)) ⟨_, _, ?_, ⟨0, rfl, rfl, rfl, rfl, ⟨by omega, rfl⟩⟩⟩ ?_
     ·
      repeat (first | exact trivial | refine ⟨rfl, ?_⟩)
     rintro _ _ _ _ ⟨j, rfl, rfl, rfl, rfl, hj, hok⟩
     have hcb := cont_bd s (vC (byteAt s 0)) (by omega) (by omega) j (by omega) hok; have hbj := byteAt_lt s (j + 1); have hbj0 : byteAt s (j + 1) = (s.getD (j + 1) 0).toNat := rfl; have hp : (64 : Int) ^ j ≤ 262144 := (by have : j = 0 ∨ j = 1 ∨ j = 2 ∨ j = 3 := (by omega); rcases this with rfl | rfl | rfl | rfl <;> decide)
     refine J.seq ?_
     refine Sr ?_
     refine Ru 3 rfl ?_
     refine JL.nil ?_
     refine Cs rfl (fun hc10 => ?_) fun hc10 => ?_
     ·
      refine J.skip ?_
      refine J.seq ?_
      refine J.block ?_
      refine Sr ?_
      refine Ru 2 rfl ?_
      refine JL.op (RunV.strIndex (m := j + 1) un_9 rfl rfl (by omega) (by omega)) rfl ?_
      refine JL.op (by first | exact RunV.convb_i64 cv_5_3 rfl | exact RunV.conv_i64 cv_5_3 rfl (by omega) (by omega) | exact RunV.conv cv_5_3 rfl) rfl ?_
      refine Ru 1 rfl ?_
      refine JL.nil ?_
      refine J.seq ?_
      refine Sr ?_
      refine Ru 1 rfl ?_
      refine JL.callP ca_124 rfl (between_fn _ _ _ _) rfl ?_
      refine Ru 1 rfl ?_
      refine JL.nil ?_
      refine Cs rfl (fun hc12 => ?_) fun hc12 => ?_
      ·
       have hcm : charM s = (0, 0) := (by unfold charM; rw [if_neg (by omega), if_neg (by omega), if_pos (contOk_le s (k := j + 1) (by omega) (contOk_no s j (by omega)))])
       refine Sr ?_
       refine Ru 2 rfl ?_
       refine JL.nil ?_
       exact J.retP (RetV.two rfl rfl rfl) (by rw [hcm]) rfl
      ·
       refine J.skip ?_
       refine Rg ?_
       refine Ru 1 rfl ?_
       refine JL.op (by first | exact RunV.mul_i64 rfl rfl (by omega) (by omega) | exact RunV.mul rfl rfl) rfl ?_
       refine Ru 1 rfl ?_
       refine JL.op (by first | exact RunV.add_i64 rfl rfl (by omega) (by omega) | exact RunV.add rfl rfl) rfl ?_
       refine JL.op (by first | exact RunV.sub_i64 rfl rfl (by omega) (by omega) | exact RunV.sub rfl rfl) rfl ?_
       refine Ru 1 rfl ?_
       refine JL.nil ?_
       refine Rg ?_
       refine Ru 1 rfl ?_
       refine JL.op (by first | exact RunV.add_i64 rfl rfl (by omega) (by omega) | exact RunV.add rfl rfl) rfl ?_
       refine Ru 1 rfl ?_
       refine JL.nil ?_
       refine ⟨_, ?_, _, ?_, ⟨j + 1, rfl, rfl, rfl, rfl, ⟨by omega, by simp only [contOk, hok, Bool.true_and]; exact decide_eq_true (by omega)⟩⟩⟩
       ·
        omega
       ·
        repeat (first | exact trivial | refine ⟨rfl, ?_⟩)
     ·
      have hjn : (nC (byteAt s 0) - 1).toNat = j := (by omega)
      refine J.exit ?_
      refine Kp [4, 5, 6] rfl ?_
      refine J.seq ?_
      refine Sr ?_
      refine Ru 4 rfl ?_
      apply On 58 61 3 [4, 5] rfl rfl
      rotate_left
      ·
       intro hb13 hc13
       refine Ru 3 rfl ?_
       exact Ae (om_f hb13 rfl) rfl
      rotate_right
      ·
       exact fun hb13 _ => Ru 3 rfl (Ae (om_t hb13 rfl) rfl)
      refine Ru 1 rfl ?_
      apply On 62 65 3 [4, 5] rfl rfl
      rotate_left
      ·
       intro hb14 hc14
       refine Ru 1 rfl ?_
       refine JL.callPg rfl rfl  ca_124 rfl (between_fn _ _ _ _) rfl ?_
       refine Ru 1 rfl ?_
       exact Ae (om_f hb14 rfl) rfl
      rotate_right
      ·
       exact fun hb14 _ => Ru 3 rfl (Ae (om_t hb14 rfl) rfl)
      refine JL.nil ?_
      refine Cs rfl (fun hc16 => ?_) fun hc16 => ?_
      ·
       have hcm : charM s = (0, 0) := (by unfold charM; rw [if_neg (by omega), if_neg (by omega), hjn, if_neg (by rw [hok]; decide), if_pos (by omega)])
       refine Sr ?_
       refine Ru 2 rfl ?_
       refine JL.nil ?_
       exact J.retP (RetV.two rfl rfl rfl) (by rw [hcm]) rfl
      ·
       have hcm : charM s = (cont s (vC (byteAt s 0)) j, nC (byteAt s 0)) := (by unfold charM; rw [if_neg (by omega), if_neg (by omega), hjn, if_neg (by rw [hok]; decide), if_neg (by omega)])
       refine J.skip ?_
       refine Sr ?_
       refine Ru 4 rfl ?_
       refine Nk [3, 2] rfl ?_
       exact J.retP (RetV.two rfl rfl rfl) (by rw [hcm]) rfl




theorem rutf8_fn (s : List UInt8) (h : Part) (hl : s.length ≤ 140737488355328) : Pure Tryd.prog 95 [.string ⟨s.toArray⟩] h (.bool (runes (fun c n => !decide (c = 65533 ∧ n = 1)) s 0)) := by
  refine Fn.intro Tryd.func95 rfl Tryd.ntmps95 rfl (fun e he => ?_)
  refine J.weak [(0, _)] ⟨rfl, trivial⟩ ?_
  refine Sr ?_
  refine Ru 1 rfl ?_
  refine JL.nil ?_
  refine J.seq ?_
  refine Sr ?_
  refine Ru 1 rfl ?_
  refine JL.nil ?_
  refine J.block ?_
  refine J.loop (fun t_ S_ h_ L_ => ∃ (p : Nat), t_ = s.length - p ∧ S_ = [(0, .string ⟨s.toArray⟩), (3, .int .i64 p)] ∧ h = h_ ∧ L_ = [] ∧ (p ≤ s.length ∧ runes (fun c n => !decide (c = 65533 ∧ n = 1)) s 0 = runes (fun c n => !decide (c = 65533 ∧ n = 1)) (s.drop p) 0)) ⟨_, _, ?_, ⟨0, rfl, rfl, rfl, rfl, ⟨by omega, rfl⟩⟩⟩ ?_
  ·
   repeat (first | exact trivial | refine ⟨rfl, ?_⟩ | refine ⟨(by exact some_int (by omega)), ?_⟩)
  rintro _ _ _ _ ⟨p, rfl, rfl, rfl, rfl, hp, hq⟩
  refine J.seq ?_
  refine Sr ?_
  refine Ru 2 rfl ?_
  refine JL.op (RunV.lenS un_9 rfl) rfl ?_
  refine Ru 1 rfl ?_
  refine JL.nil ?_
  refine Cs rfl (fun hc1 => ?_) fun hc1 => ?_
  ·
   have hne : s.drop p ≠ [] := (by intro hh; have := congrArg List.length hh; simp at this; omega); have hw := wid_pos (s.drop p); have hwl := wid_le (s.drop p) hne; have hst := runes_step (fun c n => !decide (c = 65533 ∧ n = 1)) s p (by omega); rw [List.length_drop] at hwl; obtain ⟨cc, cn, hcr⟩ : ∃ a b, charR (s.drop p) = (a, b) := ⟨_, _, rfl⟩; have hcr2 := hcr; unfold charR at hcr2
   refine J.skip ?_
   refine J.block ?_
   refine Sr ?_
   refine Ru 2 rfl ?_
   refine JL.op (RunV.strCut_l un_9 rfl rfl (by first | with_reducible rfl | exact (Int.toNat_of_nonneg (by omega)).symm) (by omega)) rfl ?_
   refine JL.callP ca_123 rfl (char_fn _ _ (by assumption) (by try (simp only [List.length_drop]); omega)) rfl ?_
   rw [hcr]
   refine Ru 5 rfl ?_
   refine JL.nil ?_
   refine J.seq ?_
   refine Sr ?_
   refine Ru 2 rfl ?_
   refine JL.nil ?_
   refine Cs rfl (fun hc3 => ?_) fun hc3 => ?_
   ·
    have hz : chr (s.drop p) = 65533 ∧ wid (s.drop p) = 1 := (by by_cases hz : chr (s.drop p) = 65533 ∧ wid (s.drop p) = 1; exact hz; rw [if_neg hz] at hcr2; injection hcr2 with q1 q2; omega)
    refine Sr ?_
    refine Ru 1 rfl ?_
    refine JL.nil ?_
    exact J.retP (RetV.one rfl rfl) (by rw [hq, hst, decide_eq_true hz]; rfl) rfl
   ·
    have hz : ¬ (chr (s.drop p) = 65533 ∧ wid (s.drop p) = 1) := (fun hz => by rw [if_pos hz] at hcr2; injection hcr2 with q1 q2; omega); rw [if_neg hz] at hcr2; injection hcr2 with q1 q2
    refine J.skip ?_
    refine Rg ?_
    refine Ru 2 rfl ?_
    refine JL.op (by first | exact RunV.add_i64 rfl rfl (by omega) (by omega) | exact RunV.add rfl rfl) rfl ?_
    refine Ru 1 rfl ?_
    refine JL.nil ?_
    refine ⟨_, ?_, _, ?_, ⟨p + wid (s.drop p), rfl, rfl, rfl, rfl, ⟨by omega, by rw [hq, hst, decide_eq_false hz]; rfl⟩⟩⟩
    ·
     omega
    ·
     repeat (first | exact trivial | refine ⟨rfl, ?_⟩ | refine ⟨(by exact some_int (by omega)), ?_⟩)
  ·
   refine J.exit ?_
   refine Kp [] rfl ?_
   refine Sr ?_
   refine Ru 1 rfl ?_
   refine JL.nil ?_
   exact J.retP (RetV.one rfl rfl) (by rw [hq, runes_end _ _ _ (by omega)]) rfl




/-! ## texts of single bytes -/
theorem runes_all {P : Nat → Bool} (hP : ∀ c, P c = true → c < 128) : ∀ (n : Nat) (s : List UInt8), s.length ≤ n → runes (fun c _ => P c) s 0 = s.all fun b => P b.toNat := by
  intro n
  induction n with
  | zero => intro s hs; have : s = [] := List.eq_nil_of_length_eq_zero (by omega); subst this; rfl
  | succ n ih =>
    intro s hs
    cases s with
    | nil => rfl
    | cons b r =>
      have h0 : byteAt (b :: r) 0 = b.toNat := rfl
      by_cases hb : b.toNat < 128
      · have hd : Go.Lib.decodeL (b :: r) = (b.toNat, 1) := by rw [dec_s, h0]; unfold Go.Lib.decodeN; rw [if_pos hb]
        have hc : chr (b :: r) = b.toNat := by show (Go.Lib.decodeL (b :: r)).1 = _; rw [hd]
        have hw : wid (b :: r) = 1 := by show (Go.Lib.decodeL (b :: r)).2 = _; rw [hd]
        simp only [runes, hc, hw, Nat.sub_self, List.all_cons]
        rw [ih r (by simp at hs; omega)]
      · have hf : P b.toNat = false := by
          cases hp : P b.toNat with
          | false => rfl
          | true => exact absurd (hP _ hp) hb
        have hc : 128 ≤ chr (b :: r) := by
          show 128 ≤ (Go.Lib.decodeL (b :: r)).1
          rw [dec_s, h0]
          unfold Go.Lib.decodeN
          rw [if_neg hb]
          (repeat' split) <;> simp <;> omega
        have hf2 : P (chr (b :: r)) = false := by
          cases hp : P (chr (b :: r)) with
          | false => rfl
          | true => have := hP _ hp; omega
        simp only [runes, hf2, Bool.false_and, List.all_cons, hf]
theorem all_step (P : Nat → Bool) (s : List UInt8) (p : Nat) (h : p < s.length) : ((s.drop p).all fun b => P b.toNat) = (P (byteAt s p) && (s.drop (p + 1)).all fun b => P b.toNat) := by
  rw [List.drop_eq_getElem_cons h, List.all_cons, byteAt_eq s p h]
theorem ria5_fn (s : List UInt8) (h : Part) (hl : s.length ≤ 140737488355328) : Pure Tryd.prog 97 [.string ⟨s.toArray⟩] h (.bool (runes (fun c _ => decide (c ≤ 127)) s 0)) := by
  rw [runes_all (P := fun c => decide (c ≤ 127)) (fun c hc => by have := of_decide_eq_true hc; omega) _ s (Nat.le_refl _)]
  refine Fn.intro Tryd.func97 rfl Tryd.ntmps97 rfl (fun e he => ?_)
  refine J.weak [(0, _)] ⟨rfl, trivial⟩ ?_
  refine Sr ?_
  refine Ru 1 rfl ?_
  refine JL.nil ?_
  refine J.seq ?_
  refine Sr ?_
  refine Ru 1 rfl ?_
  refine JL.nil ?_
  refine J.block ?_
  refine J.loop (fun t_ S_ h_ L_ => ∃ (p : Nat), t_ = s.length - p ∧ S_ = [(0, .string ⟨s.toArray⟩), (3, .int .i64 p)] ∧ h = h_ ∧ L_ = [] ∧ (p ≤ s.length ∧ (s.all fun b => decide (b.toNat ≤ 127)) = (s.drop p).all fun b => decide (b.toNat ≤ 127))) ⟨_, _, ?_, ⟨0, rfl, rfl, rfl, rfl, ⟨by omega, rfl⟩⟩⟩ ?_
  ·
   repeat (first | exact trivial | refine ⟨rfl, ?_⟩)
  rintro _ _ _ _ ⟨p, rfl, rfl, rfl, rfl, hp, hq⟩
  refine J.seq ?_
  refine Sr ?_
  refine Ru 2 rfl ?_
  refine JL.op (RunV.lenS un_9 rfl) rfl ?_
  refine Ru 1 rfl ?_
  refine JL.nil ?_
  refine Cs rfl (fun hc1 => ?_) fun hc1 => ?_
  ·
   have hst := all_step (fun c => decide (c ≤ 127)) s p (by omega)
   refine J.skip ?_
   refine J.seq ?_
   refine J.block ?_
   refine Sr ?_
   refine Ru 2 rfl ?_
   refine JL.op (RunV.strIndex un_9 rfl rfl (by first | with_reducible rfl | exact (Int.toNat_of_nonneg (by omega)).symm) (by omega)) rfl ?_
   refine Ru 1 rfl ?_
   refine JL.nil ?_
   refine Cs rfl (fun hc2 => ?_) fun hc2 => ?_
   ·
    refine Sr ?_
    refine Ru 1 rfl ?_
    refine JL.nil ?_
    exact J.retP (RetV.one rfl rfl) (by rw [hq, hst, decide_eq_false (by omega)]; rfl) rfl
   ·
    refine J.skip ?_
    refine Rg ?_
    refine Ru 1 rfl ?_
    refine JL.op (by first | exact RunV.add_i64 rfl rfl (by omega) (by omega) | exact RunV.add rfl rfl) rfl ?_
    refine Ru 1 rfl ?_
    refine JL.nil ?_
    refine ⟨_, ?_, _, ?_, ⟨p + 1, rfl, rfl, rfl, rfl, ⟨by omega, by rw [hq, hst, decide_eq_true (by omega), Bool.true_and]⟩⟩⟩
    ·
     omega
    ·
     repeat (first | exact trivial | refine ⟨rfl, ?_⟩)
  ·
   refine J.exit ?_
   refine Kp [] rfl ?_
   refine Sr ?_
   refine Ru 1 rfl ?_
   refine JL.nil ?_
   exact J.retP (RetV.one rfl rfl) (by rw [hq, List.drop_of_length_le (by omega)]; rfl) rfl



end Go.Proofs.YtmngjbefnloljaaDoor
