/- Walks: the reference's calendar; Walk: the reference's printable texts; Walks: the reference's lengths; the law DerLengths; Walks: the reference's values and bytes of nodes; Walks: numbers of many digits: sizes, bits; Walks: numbers as nodes; the law DerNumbers; Plain: the value of digits of 2 to the 32, and of bytes; Walks: numbers out of bytes; integers and numbers out of nodes; Walks: the program's arithmetic: comparison, product, shift, division by one digit; Walks: the program's division: a digit of a quotient, the quotient, the power; Walks: the program's division and power; Walks: the program's power; Walks: the laws DerWrites and DerAsked; Walks: the reference's arithmetic: product, small numbers; its kept keys; Walks: the reference's division: by one digit; whether digits are above; digits taken away; Walks: the reference's rest of a product, and its division; Walks: the reference's power and comparison; Walks: which keys are right, and how great they are, by the program and by the reference; Walks: the reference's primes and private exponents, and its kept keys; Walks: a byte repeated, by the library; Walks: small functions of keys, by the program, the reference and the law; Walks: the digests there are: how long they are, by the program; Walks: the digests there are, by the reference; Walks: a digest's bytes and its form, by the reference; Walks: a digest's form for a key, signatures, by the reference; Plain: the fixed numbers that every law from 05 on asks for; Walks: a digest's bytes and its form, by the program; Walks: a digest's form, by the program; Numbers there and back: the law DerNumbersBack; Walks: keys' bytes, by the reference; Walks: signatures and keys' bytes, by the program; Walks: keys out of bytes, by the program; Walks: nodes out of bytes, by the reference; Walks: the reference reads a node; Walks: the laws of layer 5: the fixed calls; RsaForms, RsaSigns, RsaProves; Walks: keys out of bytes by the reference, and the law RsaBytes; Contracts over data: bytes and nodes, written and read, by the program and by the reference; The join over data: contracts over data as a law's end; fields as arguments; Plain laws: fields and their nodes; Arrays written out, and their places; Callees that take a row of the caller's own and hand one back; Callees that hand back a struct whose last cell is a row of the caller's own; callees that write one variable of the caller's; rows said to be data at any time; cms: fields, by the program; cms: fields' nodes, by the program; cms: fields, by the reference; cms: fields of nodes, by the reference; what is the same; how much it is; cms: what is the same; how much it is; cms: how much fields hold; what these laws look at; The join over data: lists of fields and texts as arguments; A row that has been appended to goes by its old name again; cms: rows of one element sorted; fields of their own; fields put and got; cms: fields put and got; Functions that write one variable of their caller's, over data; sets of texts (maps to true); Sets of texts (maps to true), over data. -/
import Derived.Test.YtohlpgoeheggdaaGreatDoorQ3
set_option linter.unusedSimpArgs false
set_option linter.unusedVariables false
set_option linter.constructorNameAsVariable false
namespace Go.Proofs.YtohlpgoeheggdaaGreatDoor
open Go Go.RowKit
theorem z16_ {p : Prop} (u : p := by repeat (first | exact trivial | refine ⟨rfl, ?_⟩ | refine ⟨(by exact some_bool (by first | exact decide_eq_decide.2 (by unfold atOk; omega) | exact (decide_eq_false (by unfold atOk; omega)).symm | exact (decide_eq_true (by unfold atOk; omega)).symm | (rw [← decide_not]; exact decide_eq_decide.2 (by unfold atOk; omega)))), ?_⟩)) : p := u
theorem z20_ {p : Prop} (u : p := by unfold daysI monthI; rw [hlp]; congr 1; simp only [if_true, Bool.false_eq_true, if_false]; (repeat' split) <;> omega) : p := u
theorem z31_ {p : Prop} (u : p := by simp only [List.length_take, List.length_drop]; omega) : p := u
end Go.Proofs.YtohlpgoeheggdaaGreatDoor
namespace Go.Proofs.YtohlpgoeheggdaaGreatDoor
open Go Go.RowKit
set_option maxRecDepth 100000
theorem ca_220 : callT Tryz.prog 220 = true := by kernel_rfl
theorem ca_221 : callT Tryz.prog 221 = true := by kernel_rfl
theorem ca_252 : callT Tryz.prog 252 = true := by kernel_rfl
theorem ca_265 : callT Tryz.prog 265 = true := by kernel_rfl
def daysI (y m : Int) : Int := if m = 0 then (if leapB y then 366 else 365) else monthI y m
theorem leapB_iff (y : Int) : leapB y = decide (y % 4 = 0 ∧ y % 100 ≠ 0 ∨ y % 400 = 0) := by
  unfold leapB
  rw [← Bool.decide_or, ← Bool.decide_and]
  exact decide_eq_decide.2 (by omega)
theorem days_fn (y m : Int) (h : Part) (h0 : 0 ≤ y) : Pure Tryz.prog 265 [.int .i64 y, .int .i64 m] h (.int .i64 (daysI y m)) := by
  have hlp := leapB_iff y
  refine Fn.intro Tryz.func265 rfl Tryz.ntmps265 rfl (fun e he => ?_)
  refine J.weak [(0, _), (1, _)] ⟨rfl, rfl, trivial⟩ ?_
  refine Sr ?_
  refine Ru 1 rfl ?_
  refine JL.nil ?_
  refine Sr ?_
  refine Ru 1 rfl ?_
  refine JL.nil ?_
  refine J.seq ?_
  refine J.seq ?_
  refine J.meet [(18, .bool (decide (y % 4 = 0 ∧ y % 100 ≠ 0 ∨ y % 400 = 0)))] [(5, _), (4, _), (1, _)] ⟨rfl, rfl, rfl, trivial⟩ ?_ ?_
  ·
   refine Rg ?_
   refine Ru 1 rfl ?_
   refine JL.op z26_ rfl ?_
   refine Ru 2 rfl ?_
   refine Bs 9 rfl (fun hc1 => ?_) fun hc1 => ?_
   ·
    refine Ru 1 rfl ?_
    refine JL.opg rfl rfl  z26_ rfl ?_
    refine Ru 3 rfl ?_
    refine Bs 14 rfl (fun hc2 => ?_) fun hc2 => ?_
    ·
     refine Ru 4 rfl ?_
     refine JL.nil ?_
     refine ⟨rfl, rfl, ?_⟩
     exact z6_
    refine Ru 1 rfl ?_
    refine JL.opg rfl rfl  z26_ rfl ?_
    refine Ru 2 rfl ?_
    refine JL.nil ?_
    refine ⟨rfl, rfl, ?_⟩
    exact z6_
   refine Ru 6 rfl ?_
   refine JL.opg rfl rfl  z26_ rfl ?_
   refine Ru 2 rfl ?_
   refine JL.nil ?_
   refine ⟨rfl, rfl, ?_⟩
   exact z6_
  refine Cs rfl (fun hc3 => ?_) fun hc3 => ?_
  ·
   rw [decide_eq_true hc3] at hlp
   refine Rg ?_
   refine Ru 1 rfl ?_
   refine JL.nil ?_
   refine J.seq ?_
   refine Sr ?_
   refine Ru 1 rfl ?_
   refine JL.nil ?_
   refine J.block ?_
   refine Sr ?_
   refine Ru 2 rfl ?_
   refine Nk [20, 19, 5, 4] rfl ?_
   refine Cs rfl (fun hc4 => ?_) fun hc4 => ?_
   ·
    refine Sr ?_
    refine Ru 1 rfl ?_
    refine JL.op ai_ rfl ?_
    refine Ru 1 rfl ?_
    refine Nk [4] rfl ?_
    exact J.retP (RetV.one rfl rfl) z20_ rfl
   refine Sr ?_
   refine Ru 2 rfl ?_
   refine JL.nil ?_
   refine Cs rfl (fun hc5 => ?_) fun hc5 => ?_
   ·
    refine Sr ?_
    refine Ru 1 rfl ?_
    refine JL.op ai_ rfl ?_
    refine Ru 1 rfl ?_
    refine Nk [4] rfl ?_
    exact J.retP (RetV.one rfl rfl) z20_ rfl
   refine J.seq ?_
   refine Sr ?_
   refine Ru 2 rfl ?_
   refine Nk [28, 19, 4] rfl ?_
   refine Cs rfl (fun hc6 => ?_) fun hc6 => ?_
   ·
    refine J.skip ?_
    refine J.cond_t rfl ?_
    refine Sr ?_
    refine Ru 1 rfl ?_
    refine JL.nil ?_
    exact J.retP (RetV.one rfl rfl) z20_ rfl
   refine Sr ?_
   refine Ru 2 rfl ?_
   refine JL.nil ?_
   refine Cs rfl (fun hc7 => ?_) fun hc7 => ?_
   ·
    refine J.skip ?_
    refine Kp [28, 4] rfl ?_
    refine J.cond_t rfl ?_
    refine Sr ?_
    refine Ru 1 rfl ?_
    refine JL.nil ?_
    exact J.retP (RetV.one rfl rfl) z20_ rfl
   refine Sr ?_
   refine Ru 2 rfl ?_
   refine Nk [28, 19, 4] rfl ?_
   refine Cs rfl (fun hc8 => ?_) fun hc8 => ?_
   ·
    refine J.skip ?_
    refine J.cond_t rfl ?_
    refine Sr ?_
    refine Ru 1 rfl ?_
    refine JL.nil ?_
    exact J.retP (RetV.one rfl rfl) z20_ rfl
   refine Rg ?_
   refine Ru 2 rfl ?_
   refine JL.nil ?_
   refine Cs rfl (fun hc9 => ?_) fun hc9 => ?_
   ·
    refine Sr ?_
    refine Ru 1 rfl ?_
    refine Nk [4] rfl ?_
    exact J.retP (RetV.one rfl rfl) z20_ rfl
   refine J.skip ?_
   refine Kp [4] rfl ?_
   refine Sr ?_
   refine Ru 1 rfl ?_
   refine JL.nil ?_
   exact J.retP (RetV.one rfl rfl) z20_ rfl
  rw [decide_eq_false hc3] at hlp
  refine J.skip ?_
  refine J.seq ?_
  refine Sr ?_
  refine Ru 1 rfl ?_
  refine JL.nil ?_
  refine J.block ?_
  refine Sr ?_
  refine Ru 2 rfl ?_
  refine JL.nil ?_
  refine Cs rfl (fun hc10 => ?_) fun hc10 => ?_
  ·
   refine Sr ?_
   refine Ru 1 rfl ?_
   refine JL.op ai_ rfl ?_
   refine Ru 1 rfl ?_
   refine Nk [4] rfl ?_
   exact J.retP (RetV.one rfl rfl) z20_ rfl
  refine Sr ?_
  refine Ru 2 rfl ?_
  refine Nk [24, 19, 5, 4] rfl ?_
  refine Cs rfl (fun hc11 => ?_) fun hc11 => ?_
  ·
   refine Sr ?_
   refine Ru 1 rfl ?_
   refine JL.op ai_ rfl ?_
   refine Ru 1 rfl ?_
   refine Nk [4] rfl ?_
   exact J.retP (RetV.one rfl rfl) z20_ rfl
  refine J.seq ?_
  refine Sr ?_
  refine Ru 2 rfl ?_
  refine JL.nil ?_
  refine Cs rfl (fun hc12 => ?_) fun hc12 => ?_
  ·
   refine J.skip ?_
   refine Kp [28, 4] rfl ?_
   refine J.cond_t rfl ?_
   refine Sr ?_
   refine Ru 1 rfl ?_
   refine JL.nil ?_
   exact J.retP (RetV.one rfl rfl) z20_ rfl
  refine Sr ?_
  refine Ru 2 rfl ?_
  refine Nk [28, 19, 4] rfl ?_
  refine Cs rfl (fun hc13 => ?_) fun hc13 => ?_
  ·
   refine J.skip ?_
   refine J.cond_t rfl ?_
   refine Sr ?_
   refine Ru 1 rfl ?_
   refine JL.nil ?_
   exact J.retP (RetV.one rfl rfl) z20_ rfl
  refine Sr ?_
  refine Ru 2 rfl ?_
  refine JL.nil ?_
  refine Cs rfl (fun hc14 => ?_) fun hc14 => ?_
  ·
   refine J.skip ?_
   refine Kp [28, 4] rfl ?_
   refine J.cond_t rfl ?_
   refine Sr ?_
   refine Ru 1 rfl ?_
   refine JL.nil ?_
   exact J.retP (RetV.one rfl rfl) z20_ rfl
  refine Rg ?_
  refine Ru 2 rfl ?_
  refine Nk [28, 4] rfl ?_
  refine Cs rfl (fun hc15 => ?_) fun hc15 => ?_
  ·
   refine Sr ?_
   refine Ru 1 rfl ?_
   refine JL.nil ?_
   exact J.retP (RetV.one rfl rfl) z20_ rfl
  refine J.skip ?_
  refine Sr ?_
  refine Ru 1 rfl ?_
  refine JL.nil ?_
  exact J.retP (RetV.one rfl rfl) z20_ rfl
theorem daysI_bd (y m : Int) : 28 ≤ daysI y m ∧ daysI y m ≤ 366 := by
  have := monthI_bd y m
  unfold daysI; (repeat' split) <;> omega
def partI (s : List UInt8) : Int := if s.all dig then numV s else -1
theorem part_fn (s : List UInt8) (h : Part) (hl : s.length ≤ 18) : Pure Tryz.prog 220 [.string ⟨s.toArray⟩] h (.int .i64 (partI s)) := by
  refine Fn.intro Tryz.func220 rfl Tryz.ntmps220 rfl (fun e he => ?_)
  refine J.weak [(0, _)] ⟨rfl, trivial⟩ ?_
  refine Sr ?_
  refine Ru 1 rfl ?_
  refine JL.nil ?_
  refine Sr ?_
  refine Ru 1 rfl ?_
  refine JL.nil ?_
  refine J.seq ?_
  refine Sr ?_
  refine Ru 1 rfl ?_
  refine JL.nil ?_
  refine J.block ?_
  refine J.loop (fun t_ S_ h_ L_ => ∃ (i : Nat), t_ = s.length - i ∧ S_ = [(0, .string ⟨s.toArray⟩), (3, .int .i64 (numV (s.take i) : Nat)), (4, .int .i64 i)] ∧ h = h_ ∧ L_ = [] ∧ (i ≤ s.length ∧ (s.take i).all dig = true ∧ numV (s.take i) < 10 ^ i)) ⟨_, _, ?_, ⟨0, rfl, rfl, rfl, rfl, ⟨by omega, by simp, by simp [numV]⟩⟩⟩ ?_
  ·
   exact z42_
  rintro _ _ _ _ ⟨i, rfl, rfl, rfl, rfl, hi, hd, hv⟩
  refine J.seq ?_
  refine Sr ?_
  refine Ru 2 rfl ?_
  refine JL.op (RunV.lenS un_9 rfl) rfl ?_
  refine Ru 1 rfl ?_
  refine JL.nil ?_
  refine Cs rfl (fun hc1 => ?_) fun hc1 => ?_
  ·
   have hi' : i < s.length := (by omega); have hst := numV_take s i hi'; have hat := all_take s i hi'; have hp : 10 ^ i ≤ 100000000000000000 := Nat.le_trans (Nat.pow_le_pow_right (by decide) (show i ≤ 17 by omega)) (by decide); have hbl := byteAt_lt s i; have hbi : byteAt s i = (s.getD i 0).toNat := rfl
   refine J.skip ?_
   refine J.seq ?_
   refine J.block ?_
   refine J.seq ?_
   refine Sr ?_
   refine Ru 2 rfl ?_
   refine JL.op (RunV.strIndex (m := i) un_9 rfl rfl (by omega) (by omega)) rfl ?_
   refine JL.op z8_ rfl ?_
   refine JL.callP ca_219 rfl (between_fn _ _ _ _) rfl ?_
   refine Ru 1 rfl ?_
   refine JL.nil ?_
   refine Cs rfl (fun hc3 => ?_) fun hc3 => ?_
   ·
    have hnr : partI s = -1 := (by have hb : s.all dig = false := (by rw [List.all_eq_false]; exact ⟨s[i], List.getElem_mem _, by have e := byteAt_eq s i hi'; unfold dig; rw [decide_eq_false (by omega)]; decide⟩); unfold partI; rw [hb]; rfl)
    refine Sr ?_
    refine Ru 1 rfl ?_
    refine JL.nil ?_
    exact J.retP (RetV.one rfl rfl) (by rw [hnr]) rfl
   refine J.skip ?_
   refine Rg ?_
   refine Ru 1 rfl ?_
   refine JL.op z17_ rfl ?_
   refine Ru 2 rfl ?_
   refine JL.op (RunV.strIndex (m := i) un_9 rfl rfl (by omega) (by omega)) rfl ?_
   refine JL.op (by first | exact RunV.sub_u8 rfl rfl (by omega) (by omega) | exact RunV.sub rfl rfl) rfl ?_
   refine JL.op z8_ rfl ?_
   refine JL.op ai_ rfl ?_
   refine Ru 1 rfl ?_
   refine JL.nil ?_
   refine Rg ?_
   refine Ru 1 rfl ?_
   refine JL.op ai_ rfl ?_
   refine Ru 1 rfl ?_
   refine JL.nil ?_
   refine ⟨_, ?_, _, ?_, ⟨i + 1, rfl, rfl, rfl, rfl, ⟨by omega, by rw [hat, hd, decide_eq_true (by omega)]; rfl, by rw [hst, Nat.pow_succ]; omega⟩⟩⟩
   ·
    omega
   exact z42_
  have hie : s.take i = s := List.take_of_length_le (by omega); rw [hie] at hd hv ⊢; have hnr : partI s = numV s := if_pos hd
  refine J.exit ?_
  refine Kp [3] rfl ?_
  refine Sr ?_
  refine Ru 2 rfl ?_
  refine JL.nil ?_
  exact J.retP (RetV.one rfl rfl) (by rw [hnr]) rfl
theorem byteAt_cut (s : List UInt8) (i n j : Nat) (h : j < n) : byteAt ((s.drop i).take n) j = byteAt s (i + j) := by
  unfold byteAt
  simp only [List.getD_eq_getElem?_getD]
  rw [List.getElem?_take, if_pos h, List.getElem?_drop]
theorem part2 (l : List UInt8) (h : l.length = 2) : partI l = if 48 ≤ byteAt l 0 ∧ byteAt l 0 ≤ 57 ∧ 48 ≤ byteAt l 1 ∧ byteAt l 1 ≤ 57 then (byteAt l 0 - 48 : Int) * 10 + (byteAt l 1 - 48) else -1 := by
  match l, h with
  | [a, b], _ =>
    have ha : byteAt [a, b] 0 = a.toNat := rfl
    have hb : byteAt [a, b] 1 = b.toNat := rfl
    rw [ha, hb]
    unfold partI numV dig
    simp only [List.all_cons, List.all_nil, Bool.and_true, List.foldl_cons, List.foldl_nil, Bool.and_eq_true, decide_eq_true_eq]
    split
    · rw [if_pos (by omega)]; omega
    · rw [if_neg (by omega)]
theorem part4 (l : List UInt8) (h : l.length = 4) : partI l = if (48 ≤ byteAt l 0 ∧ byteAt l 0 ≤ 57 ∧ 48 ≤ byteAt l 1 ∧ byteAt l 1 ≤ 57) ∧ 48 ≤ byteAt l 2 ∧ byteAt l 2 ≤ 57 ∧ 48 ≤ byteAt l 3 ∧ byteAt l 3 ≤ 57 then ((byteAt l 0 - 48 : Int) * 10 + (byteAt l 1 - 48)) * 100 + ((byteAt l 2 - 48 : Int) * 10 + (byteAt l 3 - 48)) else -1 := by
  match l, h with
  | [a, b, c, d], _ =>
    have ha : byteAt [a, b, c, d] 0 = a.toNat := rfl
    have hb : byteAt [a, b, c, d] 1 = b.toNat := rfl
    have hc : byteAt [a, b, c, d] 2 = c.toNat := rfl
    have hd : byteAt [a, b, c, d] 3 = d.toNat := rfl
    rw [ha, hb, hc, hd]
    unfold partI numV dig
    simp only [List.all_cons, List.all_nil, Bool.and_true, List.foldl_cons, List.foldl_nil, Bool.and_eq_true, decide_eq_true_eq]
    split
    · rw [if_pos (by omega)]; omega
    · rw [if_neg (by omega)]
theorem part_two (s : List UInt8) (i : Nat) (h : i + 1 < s.length) : partI ((s.drop i).take 2) = if 0 ≤ twoI s i then twoI s i else -1 := by
  rw [part2 _ (by simp; omega), byteAt_cut s i 2 0 (by decide), byteAt_cut s i 2 1 (by decide)]
  unfold twoI
  rw [Nat.add_zero]
  (repeat' split) <;> omega
theorem part_four (s : List UInt8) (h : 4 ≤ s.length) : (partI (s.take 4) = twoI s 0 * 100 + twoI s 2 ∧ 0 ≤ twoI s 0 * 100 + twoI s 2 ∧ twoI s 0 * 100 + twoI s 2 ≤ 9999) ∨ partI (s.take 4) = -1 ∧ twoI s 0 * 100 + twoI s 2 < 0 := by
  have e := part4 (s.take 4) (by simp; omega)
  have hb := fun j hj => byteAt_cut s 0 4 j hj
  rw [List.drop_zero] at hb
  rw [hb 0 (by decide), hb 1 (by decide), hb 2 (by decide), hb 3 (by decide)] at e
  simp only [Nat.zero_add] at e
  have h2 := twoI_bd s 0; have h3 := twoI_bd s 2
  unfold twoI at *
  rw [e]
  simp only [Nat.zero_add, Nat.reduceAdd] at *
  (repeat' split) <;> omega
def atOk (y m d hh mi s : Int) : Prop := 0 ≤ y ∧ y ≤ 9999 ∧ 1 ≤ m ∧ m ≤ 12 ∧ 1 ≤ d ∧ d ≤ monthI y m ∧ 0 ≤ hh ∧ hh ≤ 23 ∧ 0 ≤ mi ∧ mi ≤ 59 ∧ 0 ≤ s ∧ s ≤ 59
instance (y m d hh mi s : Int) : Decidable (atOk y m d hh mi s) := by unfold atOk; infer_instance
def atT (y m d hh mi s : Int) : Int := -62167219200 + (beforeI y + (d - 1) + mdays y (m.toNat - 1)) * 86400 + (hh * 3600 + mi * 60 + s)
theorem bef_400 (y : Int) (h : 0 ≤ y) : beforeI (y + 400) = beforeI y + 146097 := by unfold beforeI; (repeat' split) <;> omega
theorem bef_1 (y : Int) (h : 0 ≤ y) : beforeI (y + 1) = beforeI y + daysI y 0 := by
  have := leapB_iff y
  unfold beforeI daysI
  rw [if_pos rfl, this]
  simp only [decide_eq_true_eq]
  (repeat' split) <;> omega
theorem at_fn (y m d hh mi s : Int) (h : Part) : Pure Tryz.prog 252 [.int .i64 y, .int .i64 m, .int .i64 d, .int .i64 hh, .int .i64 mi, .int .i64 s] h (.tuple #[.int .i64 (if atOk y m d hh mi s then atT y m d hh mi s else 0), .bool (decide (atOk y m d hh mi s))]) := by
  have hmb := monthI_bd y m
  have hdm : 1 ≤ m → daysI y m = monthI y m := fun hm => if_neg (by omega)
  refine Fn.intro Tryz.func252 rfl Tryz.ntmps252 rfl (fun e he => ?_)
  refine J.weak [(0, _), (1, _), (2, _), (3, _), (4, _), (5, _)] ⟨rfl, rfl, rfl, rfl, rfl, rfl, trivial⟩ ?_
  refine Sr ?_
  refine Ru 2 rfl ?_
  refine JL.nil ?_
  refine J.seq ?_
  refine J.seq ?_
  refine J.meet [(50, .bool (decide (¬ atOk y m d hh mi s)))] [(13, _), (12, _), (0, _), (1, _), (2, _), (3, _), (4, _), (5, _)] ⟨rfl, rfl, rfl, rfl, rfl, rfl, rfl, rfl, trivial⟩ ?_ ?_
  ·
   refine Rg ?_
   refine Ru 1 rfl ?_
   refine JL.callP ca_219 rfl (between_fn _ _ _ _) rfl ?_
   refine Ru 2 rfl ?_
   refine Bs 20 rfl (fun hc2 => ?_) fun hc2 => ?_
   ·
    refine Ru 30 rfl ?_
    refine JL.nil ?_
    refine ⟨rfl, rfl, ?_⟩
    exact z16_
   refine Ru 1 rfl ?_
   refine JL.callPg rfl rfl  ca_219 rfl (between_fn _ _ _ _) rfl ?_
   refine Ru 3 rfl ?_
   refine Bs 25 rfl (fun hc4 => ?_) fun hc4 => ?_
   ·
    refine Ru 25 rfl ?_
    refine JL.nil ?_
    refine ⟨rfl, rfl, ?_⟩
    exact z16_
   refine Ru 4 rfl ?_
   refine Bs 29 rfl (fun hc5 => ?_) fun hc5 => ?_
   ·
    refine Ru 21 rfl ?_
    refine JL.nil ?_
    refine ⟨rfl, rfl, ?_⟩
    exact z16_
   refine Ru 3 rfl ?_
   refine JL.callPg rfl rfl  ca_265 rfl (days_fn _ _ _ (by omega)) rfl ?_
   refine Ru 3 rfl ?_
   refine Bs 36 rfl (fun hc7 => ?_) fun hc7 => ?_
   ·
    refine Ru 14 rfl ?_
    refine JL.nil ?_
    refine ⟨rfl, rfl, ?_⟩
    exact z16_
   refine Ru 1 rfl ?_
   refine JL.callPg rfl rfl  ca_219 rfl (between_fn _ _ _ _) rfl ?_
   refine Ru 3 rfl ?_
   refine Bs 41 rfl (fun hc9 => ?_) fun hc9 => ?_
   ·
    refine Ru 9 rfl ?_
    refine JL.nil ?_
    refine ⟨rfl, rfl, ?_⟩
    exact z16_
   refine Ru 1 rfl ?_
   refine JL.callPg rfl rfl  ca_219 rfl (between_fn _ _ _ _) rfl ?_
   refine Ru 3 rfl ?_
   refine Bs 46 rfl (fun hc11 => ?_) fun hc11 => ?_
   ·
    refine Ru 4 rfl ?_
    refine JL.nil ?_
    refine ⟨rfl, rfl, ?_⟩
    exact z16_
   refine Ru 1 rfl ?_
   refine JL.callPg rfl rfl  ca_219 rfl (between_fn _ _ _ _) rfl ?_
   refine Ru 2 rfl ?_
   refine JL.nil ?_
   refine ⟨rfl, rfl, ?_⟩
   exact z16_
  refine Cs rfl (fun hc13 => ?_) fun hc13 => ?_
  ·
   have hff := hc13
   refine Sr ?_
   refine Ru 2 rfl ?_
   refine JL.nil ?_
   exact J.retP (RetV.two rfl rfl rfl) (by rw [if_neg hff, decide_eq_false hff]) rfl
  have hok : atOk y m d hh mi s := (by first | exact hc13 | exact Classical.not_not.1 hc13); obtain ⟨y0, y1, m0, m1, d0, d1, h0, h1, mi0, mi1, s0, s1⟩ := hok
  refine J.skip ?_
  refine Sr ?_
  refine Ru 1 rfl ?_
  refine JL.op si_ rfl ?_
  refine Ru 1 rfl ?_
  refine Nk [14, 13, 12, 0, 1, 3, 4, 5] rfl ?_
  refine J.seq ?_
  refine Sr ?_
  refine Ru 1 rfl ?_
  refine JL.nil ?_
  refine J.block ?_
  refine J.loop (fun t_ S_ h_ L_ => ∃ (k : Nat), t_ = 13 - k ∧ S_ = [(0, .int .i64 y), (1, .int .i64 m), (3, .int .i64 hh), (4, .int .i64 mi), (5, .int .i64 s), (14, .int .i64 (d - 1 + mdays y k)), (15, .int .i64 (k + 1 : Nat))] ∧ h = h_ ∧ L_ = [] ∧ (k < m)) ⟨_, _, ?_, ⟨0, rfl, rfl, rfl, rfl, by omega⟩⟩ ?_
  ·
   repeat (first | exact trivial | refine ⟨rfl, ?_⟩ | refine ⟨(by exact some_int (by first | (simp only [mdays]; omega) | (simp only [mdays]; simp; done) | (simp [mdays] <;> omega))), ?_⟩)
  rintro _ _ _ _ ⟨k, rfl, rfl, rfl, rfl, hk⟩
  have hmd := mdays_bd y k; have hmb2 := monthI_bd y ((k : Int) + 1); have hdk : daysI y ((k + 1 : Nat) : Int) = monthI y ((k : Int) + 1) := (by rw [show ((k + 1 : Nat) : Int) = (k : Int) + 1 by omega]; exact if_neg (by omega))
  refine J.seq ?_
  refine Sr ?_
  refine Ru 3 rfl ?_
  refine JL.nil ?_
  refine Cs rfl (fun hc14 => ?_) fun hc14 => ?_
  ·
   refine J.skip ?_
   refine J.seq ?_
   refine J.block ?_
   refine Rg ?_
   refine Ru 3 rfl ?_
   refine JL.callP ca_265 rfl (days_fn _ _ _ (by omega)) rfl ?_
   refine JL.op ai_ rfl ?_
   refine Ru 1 rfl ?_
   refine JL.nil ?_
   refine Rg ?_
   refine Ru 1 rfl ?_
   refine JL.op ai_ rfl ?_
   refine Ru 1 rfl ?_
   refine JL.nil ?_
   refine ⟨_, ?_, _, ?_, ⟨k + 1, rfl, rfl, rfl, rfl, by omega⟩⟩
   ·
    omega
   repeat (first | exact trivial | refine ⟨rfl, ?_⟩ | refine ⟨(by exact some_int (by first | (simp only [mdays]; omega) | (simp only [mdays]; simp; done) | (simp [mdays] <;> omega))), ?_⟩)
  have hkm : k = m.toNat - 1 := (by omega); rw [hkm] at *; have hmd2 := mdays_bd y (m.toNat - 1)
  refine J.exit ?_
  refine Kp [0, 3, 4, 5, 14] rfl ?_
  refine J.seq ?_
  refine J.block ?_
  refine J.loop (fun t_ S_ h_ L_ => ∃ (q : Nat), t_ = 26 - q ∧ S_ = [(0, .int .i64 (y - 400 * q)), (3, .int .i64 hh), (4, .int .i64 mi), (5, .int .i64 s), (14, .int .i64 (d - 1 + mdays y (m.toNat - 1) + 146097 * q))] ∧ h = h_ ∧ L_ = [] ∧ (400 * q ≤ y ∧ beforeI y = beforeI (y - 400 * q) + 146097 * q)) ⟨_, _, ?_, ⟨0, rfl, rfl, rfl, rfl, ⟨by omega, by simp⟩⟩⟩ ?_
  ·
   exact z23_
  rintro _ _ _ _ ⟨q, rfl, rfl, rfl, rfl, hq, hbq⟩
  refine J.seq ?_
  refine Sr ?_
  refine Ru 2 rfl ?_
  refine JL.nil ?_
  refine Cs rfl (fun hc16 => ?_) fun hc16 => ?_
  ·
   refine J.skip ?_
   refine J.block ?_
   refine Sr ?_
   refine Ru 1 rfl ?_
   refine JL.op si_ rfl ?_
   refine Ru 1 rfl ?_
   refine JL.nil ?_
   refine Rg ?_
   refine Ru 1 rfl ?_
   refine JL.op ai_ rfl ?_
   refine Ru 1 rfl ?_
   refine JL.nil ?_
   refine ⟨_, ?_, _, ?_, ⟨q + 1, rfl, rfl, rfl, rfl, ⟨by omega, by rw [hbq]; have := bef_400 (y - 400 * (q + 1 : Nat)) (by omega); rw [show y - 400 * (q + 1 : Nat) + 400 = y - 400 * q by omega] at this; omega⟩⟩⟩
   ·
    omega
   exact z23_
  refine J.exit ?_
  refine J.seq ?_
  refine Sr ?_
  refine Ru 1 rfl ?_
  refine JL.nil ?_
  refine J.block ?_
  refine J.loop (fun t_ S_ h_ L_ => ∃ (z : Nat), t_ = 400 - z ∧ S_ = [(0, .int .i64 (y - 400 * q)), (3, .int .i64 hh), (4, .int .i64 mi), (5, .int .i64 s), (14, .int .i64 (d - 1 + mdays y (m.toNat - 1) + 146097 * q + beforeI z)), (16, .int .i64 z)] ∧ h = h_ ∧ L_ = [] ∧ (z ≤ y - 400 * q)) ⟨_, _, ?_, ⟨0, rfl, rfl, rfl, rfl, by omega⟩⟩ ?_
  ·
   repeat (first | exact trivial | refine ⟨rfl, ?_⟩ | refine ⟨(by exact some_int (by first | omega | (have := bef_1 z (by omega); rw [show ((z : Int) + 1) = (z + 1 : Nat) by omega] at this; omega) | (simp [beforeI]; done))), ?_⟩)
  rintro _ _ _ _ ⟨z, rfl, rfl, rfl, rfl, hz⟩
  have hbb := beforeI_bd z (by omega) (by omega); have hdb := daysI_bd z 0
  refine J.seq ?_
  refine Sr ?_
  refine Ru 3 rfl ?_
  refine JL.nil ?_
  refine Cs rfl (fun hc17 => ?_) fun hc17 => ?_
  ·
   refine J.skip ?_
   refine J.seq ?_
   refine J.block ?_
   refine Rg ?_
   refine Ru 2 rfl ?_
   refine JL.callP ca_265 rfl (days_fn _ _ _ (by omega)) rfl ?_
   refine JL.op ai_ rfl ?_
   refine Ru 1 rfl ?_
   refine JL.nil ?_
   refine Rg ?_
   refine Ru 1 rfl ?_
   refine JL.op ai_ rfl ?_
   refine Ru 1 rfl ?_
   refine JL.nil ?_
   refine ⟨_, ?_, _, ?_, ⟨z + 1, rfl, rfl, rfl, rfl, by omega⟩⟩
   ·
    omega
   repeat (first | exact trivial | refine ⟨rfl, ?_⟩ | refine ⟨(by exact some_int (by first | omega | (have := bef_1 z (by omega); rw [show ((z : Int) + 1) = (z + 1 : Nat) by omega] at this; omega) | (simp [beforeI]; done))), ?_⟩)
  have hzy : (z : Int) = y - 400 * q := (by omega); have hbz : beforeI y = beforeI z + 146097 * q := (by rw [hzy]; exact hbq)
  refine J.exit ?_
  refine Kp [3, 4, 5, 14] rfl ?_
  refine Sr ?_
  refine Ru 1 rfl ?_
  refine JL.op z17_ rfl ?_
  refine JL.op ai_ rfl ?_
  refine Ru 1 rfl ?_
  refine JL.op z17_ rfl ?_
  refine Ru 1 rfl ?_
  refine JL.op z17_ rfl ?_
  refine JL.op ai_ rfl ?_
  refine Ru 1 rfl ?_
  refine JL.op ai_ rfl ?_
  refine JL.op ai_ rfl ?_
  refine Ru 2 rfl ?_
  refine Nk [13, 12] rfl ?_
  exact J.retP (RetV.two rfl rfl rfl) (by rw [if_pos ⟨y0, y1, m0, m1, d0, d1, h0, h1, mi0, mi1, s0, s1⟩, decide_eq_true ⟨y0, y1, m0, m1, d0, d1, h0, h1, mi0, mi1, s0, s1⟩]; unfold atT; congr 3; congr 1; congr 1; omega) rfl
theorem momOk_at (y : Int) (s : List UInt8) (h : s.length = 10) (hy : y ≤ 9999) : momOk y s = decide (atOk y (partI ((s.drop 0).take 2)) (partI ((s.drop 2).take 2)) (partI ((s.drop 4).take 2)) (partI ((s.drop 6).take 2)) (partI ((s.drop 8).take 2))) ∧
    (momOk y s = true → momT y s = atT y (partI ((s.drop 0).take 2)) (partI ((s.drop 2).take 2)) (partI ((s.drop 4).take 2)) (partI ((s.drop 6).take 2)) (partI ((s.drop 8).take 2))) := by
  rw [part_two s 0 (by omega), part_two s 2 (by omega), part_two s 4 (by omega), part_two s 6 (by omega), part_two s 8 (by omega)]
  have w0 := twoI_bd s 0; have w2 := twoI_bd s 2; have w4 := twoI_bd s 4; have w6 := twoI_bd s 6; have w8 := twoI_bd s 8
  by_cases c0 : 0 ≤ twoI s 0
  · by_cases c2 : 0 ≤ twoI s 2
    · by_cases c4 : 0 ≤ twoI s 4
      · by_cases c6 : 0 ≤ twoI s 6
        · by_cases c8 : 0 ≤ twoI s 8
          · rw [if_pos c0, if_pos c2, if_pos c4, if_pos c6, if_pos c8]
            refine ⟨?_, fun _ => rfl⟩
            unfold momOk atOk
            exact decide_eq_decide.2 (by omega)
          · have hf : momOk y s = false := decide_eq_false (by omega)
            rw [hf, if_neg c8]
            exact ⟨(decide_eq_false (by unfold atOk; omega)).symm, fun h => by cases h⟩
        · have hf : momOk y s = false := decide_eq_false (by omega)
          rw [hf, if_neg c6]
          exact ⟨(decide_eq_false (by unfold atOk; omega)).symm, fun h => by cases h⟩
      · have hf : momOk y s = false := decide_eq_false (by omega)
        rw [hf, if_neg c4]
        exact ⟨(decide_eq_false (by unfold atOk; omega)).symm, fun h => by cases h⟩
    · have hf : momOk y s = false := decide_eq_false (by omega)
      rw [hf, if_neg c2]
      exact ⟨(decide_eq_false (by unfold atOk; omega)).symm, fun h => by cases h⟩
  · have hf : momOk y s = false := decide_eq_false (by omega)
    rw [hf, if_neg c0]
    exact ⟨(decide_eq_false (by unfold atOk; omega)).symm, fun h => by cases h⟩
theorem of_fn (y : Int) (s : List UInt8) (h : Part) (hl : s.length = 10) (hy : y ≤ 9999) : Pure Tryz.prog 221 [.int .i64 y, .string ⟨s.toArray⟩] h (.tuple #[.int .i64 (momV y s), .bool (momOk y s)]) := by
  obtain ⟨hm1, hm2⟩ := momOk_at y s hl hy
  refine Fn.intro Tryz.func221 rfl Tryz.ntmps221 rfl (fun e he => ?_)
  refine J.weak [(0, _), (1, _)] ⟨rfl, rfl, trivial⟩ ?_
  refine Sr ?_
  refine Ru 2 rfl ?_
  refine JL.nil ?_
  refine J.seq ?_
  refine J.drawn mixed_ (by kernel_rfl) ?_
  refine Rq 2 rfl ?_
  refine JQ.op (RunV.strCut_lh un_9 rfl rfl rfl (show _ = ((0 : Nat) : Int) from rfl) (show _ = ((2 : Nat) : Int) from rfl) (by omega) (by omega)) rfl ?_
  refine JQ.callP ca_220 rfl (part_fn _ _ z31_) rfl ?_
  refine Rq 1 rfl ?_
  refine JQ.op (RunV.strCut_lh un_9 rfl rfl rfl (show _ = ((2 : Nat) : Int) from rfl) (show _ = ((4 : Nat) : Int) from rfl) (by omega) (by omega)) rfl ?_
  refine JQ.callP ca_220 rfl (part_fn _ _ z31_) rfl ?_
  refine Rq 1 rfl ?_
  refine JQ.op (RunV.strCut_lh un_9 rfl rfl rfl (show _ = ((4 : Nat) : Int) from rfl) (show _ = ((6 : Nat) : Int) from rfl) (by omega) (by omega)) rfl ?_
  refine JQ.callP ca_220 rfl (part_fn _ _ z31_) rfl ?_
  refine Rq 1 rfl ?_
  refine JQ.op (RunV.strCut_lh un_9 rfl rfl rfl (show _ = ((6 : Nat) : Int) from rfl) (show _ = ((8 : Nat) : Int) from rfl) (by omega) (by omega)) rfl ?_
  refine JQ.callP ca_220 rfl (part_fn _ _ z31_) rfl ?_
  refine Rq 1 rfl ?_
  refine JQ.op (RunV.strCut_lh un_9 rfl rfl rfl (show _ = ((8 : Nat) : Int) from rfl) (show _ = ((10 : Nat) : Int) from rfl) (by omega) (by omega)) rfl ?_
  refine JQ.callP ca_220 rfl (part_fn _ _ z31_) rfl ?_
  refine JQ.callP ca_252 rfl (at_fn _ _ _ _ _ _ _) rfl ?_
  refine Rq 4 rfl ?_
  refine Nq [5, 4] rfl ?_
  exact J.retP (RetV.two rfl rfl rfl) (by rw [momV, hm1]; rw [hm1] at hm2; split; (rename_i hz; rw [if_pos (by simpa using hz), hm2 (by simpa using hz)]); (rename_i hz; rw [if_neg (by simpa using hz)])) rfl
theorem rpshort_fn (s : List UInt8) (h : Part) (h2 : s.length ≤ 140737488355328) : Pure Tryz.prog 179 [.string ⟨s.toArray⟩] h (.tuple #[.int .i64 (psT s), .int .i64 (if psOk s then 0 else 21)]) := by
  have w0 := twoI_bd s 0
  have hp2 : 2 ≤ s.length → (0 ≤ twoI s 0 ∧ partI (s.take 2) = twoI s 0) ∨ (twoI s 0 < 0 ∧ partI (s.take 2) = -1) := fun hh => by
    have := part_two s 0 (by omega)
    rw [List.drop_zero] at this
    split at this <;> omega
  refine Fn.intro Tryz.func179 rfl Tryz.ntmps179 rfl (fun e he => ?_)
  refine J.weak [(0, _)] ⟨rfl, trivial⟩ ?_
  refine Sr ?_
  refine Ru 2 rfl ?_
  refine JL.nil ?_
  refine J.seq ?_
  refine J.seq ?_
  refine J.meet [(20, .bool (decide (¬ (s.length = 13 ∧ byteAt s 12 = 90 ∧ 0 ≤ twoI s 0))))] [(3, _), (2, _), (0, _)] ⟨rfl, rfl, rfl, trivial⟩ ?_ ?_
  ·
   refine Rg ?_
   refine Ru 1 rfl ?_
   refine JL.op (RunV.lenS un_9 rfl) rfl ?_
   refine Ru 2 rfl ?_
   refine Bs 10 rfl (fun hc1 => ?_) fun hc1 => ?_
   ·
    refine Ru 10 rfl ?_
    refine JL.nil ?_
    refine ⟨rfl, rfl, ?_⟩
    exact z6_
   refine Ru 1 rfl ?_
   refine JL.opg rfl rfl  (RunV.strIndex (m := 12) un_9 rfl rfl rfl (by omega)) rfl ?_
   refine Ru 3 rfl ?_
   refine Bs 15 rfl (fun hc2 => ?_) fun hc2 => ?_
   ·
    refine Ru 5 rfl ?_
    refine JL.nil ?_
    refine ⟨rfl, rfl, ?_⟩
    exact z6_
   refine Ru 1 rfl ?_
   refine JL.opg rfl rfl  (RunV.strCut_h un_9 rfl rfl (show _ = ((2 : Nat) : Int) from rfl) (by omega)) rfl ?_
   refine JL.callPg rfl rfl  ca_220 rfl (part_fn _ _ z31_) rfl ?_
   refine Ru 2 rfl ?_
   refine JL.nil ?_
   refine ⟨rfl, rfl, ?_⟩
   exact z6_
  refine Cs rfl (fun hc4 => ?_) fun hc4 => ?_
  ·
   have hm : psOk s = false := (by unfold psOk; by_cases hz : s.length = 13 ∧ byteAt s 12 = 90; (have hy : psY s = twoI s 0 := if_neg (by omega)); rw [hy, show momOk (twoI s 0) ((s.drop 2).take 10) = false from decide_eq_false (by omega), Bool.and_false]; rw [decide_eq_false hz, Bool.false_and])
   refine Sr ?_
   refine Ru 2 rfl ?_
   refine JL.nil ?_
   exact J.retP (RetV.two rfl rfl rfl) (by rw [psT, hm]; rfl) rfl
  obtain ⟨hl13, hz90, htw⟩ : s.length = 13 ∧ byteAt s 12 = 90 ∧ 0 ≤ twoI s 0 := (by omega); have hp3 : partI (s.take 2) = twoI s 0 := (by omega)
  refine J.skip ?_
  refine Sr ?_
  refine Ru 1 rfl ?_
  refine JL.op (RunV.strCut_h un_9 rfl rfl (show _ = ((2 : Nat) : Int) from rfl) (by omega)) rfl ?_
  refine JL.callP ca_220 rfl (part_fn _ _ z31_) rfl ?_
  rw [hp3]
  refine JL.op ai_ rfl ?_
  refine Ru 1 rfl ?_
  refine Nk [4, 3, 2, 0] rfl ?_
  refine J.seq ?_
  refine Sr ?_
  refine Ru 2 rfl ?_
  refine JL.nil ?_
  refine Cs rfl (fun hc6 => ?_) fun hc6 => ?_
  ·
   have hy : psY s = twoI s 0 + 1900 + 100 := (by unfold psY; rw [if_pos (by omega), if_pos (by omega)])
   refine Rg ?_
   refine Ru 1 rfl ?_
   refine JL.op ai_ rfl ?_
   refine Ru 1 rfl ?_
   refine Nk [4, 3, 2, 0] rfl ?_
   refine Sr ?_
   rw [show 1900 + twoI s 0 = twoI s 0 + 1900 by omega]; rw [← hy]; have hps : psOk s = momOk (psY s) ((s.drop 2).take 10) := (by unfold psOk; rw [decide_eq_true ⟨hl13, hz90⟩, Bool.true_and])
   refine Ru 2 rfl ?_
   refine JL.op (RunV.strCut_lh un_9 rfl rfl rfl (show _ = ((2 : Nat) : Int) from rfl) (show _ = ((12 : Nat) : Int) from rfl) (by omega) (by omega)) rfl ?_
   refine JL.callP ca_221 rfl (of_fn _ _ _ z31_ (by omega)) rfl ?_
   refine Ru 5 rfl ?_
   refine Nk [6, 5, 3, 2] rfl ?_
   refine J.seq ?_
   refine Sr ?_
   refine Ru 2 rfl ?_
   refine JL.nil ?_
   refine Cs rfl (fun hc8 => ?_) fun hc8 => ?_
   ·
    refine Sr ?_
    refine Ru 2 rfl ?_
    refine Nk [3, 2, 5] rfl ?_
    exact J.retP (RetV.two rfl rfl rfl) (by rw [psT, hps, hc8]; rfl) rfl
   refine J.skip ?_
   refine Sr ?_
   refine Ru 3 rfl ?_
   refine Nk [3, 2] rfl ?_
   exact J.retP (RetV.two rfl rfl rfl) (by simp [psT, hps, momV, hc8]) rfl
  have hy : psY s = twoI s 0 + 1900 := (by unfold psY; rw [if_pos (by omega), if_neg (by omega)])
  refine J.skip ?_
  refine Sr ?_
  rw [show 1900 + twoI s 0 = twoI s 0 + 1900 by omega]; rw [← hy]; have hps : psOk s = momOk (psY s) ((s.drop 2).take 10) := (by unfold psOk; rw [decide_eq_true ⟨hl13, hz90⟩, Bool.true_and])
  refine Ru 2 rfl ?_
  refine JL.op (RunV.strCut_lh un_9 rfl rfl rfl (show _ = ((2 : Nat) : Int) from rfl) (show _ = ((12 : Nat) : Int) from rfl) (by omega) (by omega)) rfl ?_
  refine JL.callP ca_221 rfl (of_fn _ _ _ z31_ (by omega)) rfl ?_
  refine Ru 5 rfl ?_
  refine Nk [6, 5, 3, 2] rfl ?_
  refine J.seq ?_
  refine Sr ?_
  refine Ru 2 rfl ?_
  refine JL.nil ?_
  refine Cs rfl (fun hc10 => ?_) fun hc10 => ?_
  ·
   refine Sr ?_
   refine Ru 2 rfl ?_
   refine Nk [3, 2, 5] rfl ?_
   exact J.retP (RetV.two rfl rfl rfl) (by simp [psT, hps, momV, hc10]) rfl
  refine J.skip ?_
  refine Sr ?_
  refine Ru 3 rfl ?_
  refine Nk [3, 2] rfl ?_
  exact J.retP (RetV.two rfl rfl rfl) (by simp [psT, hps, momV, hc10]) rfl
theorem mic_take (s g : List UInt8) (hg : g.length = 6) (hb : ∀ k, k < 6 → byteAt g k = if 15 + k + 1 < s.length then byteAt s (15 + k) else 48) : ∀ k, k ≤ 6 → (g.take k).all dig = micOk s k ∧ (micOk s k = true → (numV (g.take k) : Int) = micI s k)
  | 0, _ => by simp [micOk, micI, numV]
  | k + 1, hk => by
    obtain ⟨i1, i2⟩ := mic_take s g hg hb k (by omega)
    have hbk := hb k (by omega)
    rw [all_take g k (by omega), numV_take g k (by omega), i1]
    simp only [micOk, micI]
    by_cases hh : 15 + k + 1 < s.length
    · rw [if_pos hh, if_pos hh]
      rw [if_pos hh] at hbk
      rw [hbk]
      refine ⟨rfl, fun hz => ?_⟩
      rw [Bool.and_eq_true] at hz
      have := i2 hz.1
      have := of_decide_eq_true hz.2
      omega
    · rw [if_neg hh, if_neg hh]
      rw [if_neg hh] at hbk
      rw [hbk, decide_eq_true (by omega), Bool.and_true]
      exact ⟨rfl, fun hz => by have := i2 hz; omega⟩
theorem part_mic (s g : List UInt8) (hg : g.length = 6) (hb : ∀ k, k < 6 → byteAt g k = if 15 + k + 1 < s.length then byteAt s (15 + k) else 48) : (micOk s 6 = true ∧ partI g = micI s 6 ∧ 0 ≤ partI g) ∨ (micOk s 6 = false ∧ partI g = -1) := by
  obtain ⟨i1, i2⟩ := mic_take s g hg hb 6 (Nat.le_refl _)
  rw [List.take_of_length_le (by omega)] at i1 i2
  unfold partI
  rw [i1]
  cases hm : micOk s 6 with
  | true => left; rw [if_pos rfl]; exact ⟨rfl, i2 hm, by omega⟩
  | false => right; exact ⟨rfl, by simp⟩
theorem byteAt_pad (l : List UInt8) (n k : Nat) (h : k < l.length + n) : byteAt (l ++ List.replicate n 48) k = if k < l.length then byteAt l k else 48 := by
  unfold byteAt
  rw [List.getD_eq_getElem?_getD, List.getElem?_append]
  split
  · rw [List.getD_eq_getElem?_getD]
  · rw [List.getElem?_replicate, if_pos (by omega)]; rfl
theorem pl_year {s : List UInt8} {y : Int} {q : List UInt8} (h : 4 ≤ s.length) (hy : y = partI (s.take 4)) : momOk y q = momOk (twoI s 0 * 100 + twoI s 2) q ∧ momV y q = momV (twoI s 0 * 100 + twoI s 2) q ∧ y ≤ 9999 := by
  rcases part_four s h with ⟨e1, e2, e3⟩ | ⟨e1, e2⟩
  · rw [hy, e1]; exact ⟨rfl, rfl, e3⟩
  · have f1 : momOk y q = false := decide_eq_false (by omega)
    have f2 : momOk (twoI s 0 * 100 + twoI s 2) q = false := decide_eq_false (by omega)
    unfold momV
    rw [f1, f2]
    exact ⟨rfl, rfl, by omega⟩
theorem rplong_fn (s : List UInt8) (h : Part) (h2 : s.length ≤ 140737488355328) : Pure Tryz.prog 180 [.string ⟨s.toArray⟩] h (.tuple #[.int .i64 (if plOk s then momT (twoI s 0 * 100 + twoI s 2) ((s.drop 4).take 10) else 0), .int .i64 (if plOk s then plM s else 0), .int .i64 (if plOk s then 0 else 21)]) := by
  have e1 : ((s.length : Int) - 1).toNat = s.length - 1 := by omega
  have hbl := byteAt_lt s (s.length - 1)
  refine Fn.intro Tryz.func180 rfl Tryz.ntmps180 rfl (fun e he => ?_)
  refine J.weak [(0, _)] ⟨rfl, trivial⟩ ?_
  refine Sr ?_
  refine Ru 3 rfl ?_
  refine JL.nil ?_
  refine J.seq ?_
  refine J.seq ?_
  refine J.meet [(30, .bool (decide (¬ (15 ≤ s.length ∧ s.length ≤ 22 ∧ byteAt s (s.length - 1) = 90 ∧ s.length ≠ 16))))] [(4, _), (3, _), (2, _), (0, _)] ⟨rfl, rfl, rfl, rfl, trivial⟩ ?_ ?_
  ·
   refine Rg ?_
   refine Ru 1 rfl ?_
   refine JL.op (RunV.lenS un_9 rfl) rfl ?_
   refine Ru 2 rfl ?_
   refine Bs 13 rfl (fun hc1 => ?_) fun hc1 => ?_
   ·
    refine Ru 17 rfl ?_
    refine JL.nil ?_
    refine ⟨rfl, rfl, ?_⟩
    exact z6_
   refine Ru 1 rfl ?_
   refine JL.opg rfl rfl  (RunV.lenS un_9 rfl) rfl ?_
   refine Ru 3 rfl ?_
   refine Bs 18 rfl (fun hc2 => ?_) fun hc2 => ?_
   ·
    refine Ru 12 rfl ?_
    refine JL.nil ?_
    refine ⟨rfl, rfl, ?_⟩
    exact z6_
   refine Ru 2 rfl ?_
   refine JL.opg rfl rfl  (RunV.lenS un_9 rfl) rfl ?_
   refine JL.opg rfl rfl  si_ rfl ?_
   refine JL.opg rfl rfl  (RunV.strIndex (m := s.length - 1) un_9 rfl rfl (by omega) (by omega)) rfl ?_
   refine Ru 3 rfl ?_
   refine Bs 26 rfl (fun hc3 => ?_) fun hc3 => ?_
   ·
    refine Ru 4 rfl ?_
    refine JL.nil ?_
    refine ⟨rfl, rfl, ?_⟩
    exact z6_
   refine Ru 1 rfl ?_
   refine JL.opg rfl rfl  (RunV.lenS un_9 rfl) rfl ?_
   refine Ru 2 rfl ?_
   refine JL.nil ?_
   refine ⟨rfl, rfl, ?_⟩
   exact z6_
  refine Cs rfl (fun hc4 => ?_) fun hc4 => ?_
  ·
   have hm : plOk s = false := (by by_cases hz : 15 ≤ s.length ∧ s.length ≤ 22 ∧ byteAt s (s.length - 1) = 90; exact pl_f2 (by omega) (by omega); exact pl_f1 hz)
   refine Sr ?_
   refine Ru 3 rfl ?_
   refine Nk [4, 3, 2, 0] rfl ?_
   exact J.retP (RetV.three rfl rfl rfl rfl) (by rw [hm]; rfl) rfl
  obtain ⟨l15, l22, lz, l16⟩ : 15 ≤ s.length ∧ s.length ≤ 22 ∧ byteAt s (s.length - 1) = 90 ∧ s.length ≠ 16 := (by omega); obtain ⟨F, hF⟩ : ∃ F, F = (s.drop 14).take (s.length - 1 - 14) := ⟨_, rfl⟩; have hFl : F.length = s.length - 15 := (by rw [hF]; simp; omega); have hFb : ∀ k, k < s.length - 15 → byteAt F k = byteAt s (14 + k) := (fun k hk => by rw [hF]; exact byteAt_cut s 14 _ k (by omega)); obtain ⟨hy1, hy2, hy3⟩ := pl_year (s := s) (y := partI (s.take 4)) (q := (s.drop 4).take 10) (by omega) rfl
  refine J.skip ?_
  refine Sr ?_
  refine Ru 2 rfl ?_
  refine JL.op (RunV.lenS un_9 rfl) rfl ?_
  refine JL.op si_ rfl ?_
  refine JL.op (RunV.strCut_lh (m := 14) (m' := s.length - 1) un_9 rfl rfl rfl rfl (by omega) (by omega) (by omega)) rfl ?_
  rw [← hF]
  refine Ru 1 rfl ?_
  refine Nk [5, 4, 3, 2, 0] rfl ?_
  refine Sr ?_
  refine Ru 1 rfl ?_
  refine JL.nil ?_
  refine J.seq ?_
  refine Sr ?_
  refine Ru 1 rfl ?_
  refine JL.op (RunV.neqS rfl rfl) rfl ?_
  refine JL.nil ?_
  refine Cs rfl (fun hc5 => ?_) fun hc5 => ?_
  ·
   have hne : s.length ≠ 15 := (fun h15 => hc5 (List.eq_nil_of_length_eq_zero (by omega))); have hd1 : (F.drop 1).length = s.length - 16 := (by rw [List.length_drop]; omega)
   refine Sr ?_
   refine Ru 1 rfl ?_
   refine JL.op (RunV.strCut_l un_9 rfl rfl (show _ = ((1 : Nat) : Int) from rfl) (by omega)) rfl ?_
   refine Ru 1 rfl ?_
   refine Nk [7, 6, 5, 4, 3, 2, 0] rfl ?_
   refine J.seq ?_
   refine J.block ?_
   refine J.loop (fun t_ S_ h_ L_ => ∃ (j : Nat) (G : List UInt8), t_ = 6 - j ∧ S_ = [(0, .string ⟨s.toArray⟩), (5, .string ⟨F.toArray⟩), (7, .string ⟨G.toArray⟩)] ∧ h = h_ ∧ L_ = [] ∧ ((F.drop 1).length + j ≤ 6 ∧ G = F.drop 1 ++ List.replicate j 48)) ⟨_, _, ?_, ⟨0, F.drop 1, rfl, rfl, rfl, rfl, ⟨by omega, by simp⟩⟩⟩ ?_
   ·
    exact z7_
   rintro _ _ _ _ ⟨j, G, rfl, rfl, rfl, rfl, hj, hG⟩
   have hgl : G.length = (F.drop 1).length + j := (by rw [hG, List.length_append, List.length_replicate])
   refine J.seq ?_
   refine Sr ?_
   refine Ru 1 rfl ?_
   refine JL.op (RunV.lenS un_9 rfl) rfl ?_
   refine Ru 1 rfl ?_
   refine JL.nil ?_
   refine Cs rfl (fun hc6 => ?_) fun hc6 => ?_
   ·
    refine J.skip ?_
    refine J.block ?_
    refine Rg ?_
    refine Ru 1 rfl ?_
    refine JL.op (RunV.addS rfl rfl z4_) rfl ?_
    refine Ru 1 rfl ?_
    refine JL.nil ?_
    refine ⟨_, ?_, _, ?_, ⟨j + 1, G ++ [48], rfl, rfl, rfl, rfl, ⟨by omega, by rw [hG, List.append_assoc, ← List.replicate_succ']⟩⟩⟩
    ·
     omega
    exact z7_
   have hgb : ∀ k, k < 6 → byteAt G k = if 15 + k + 1 < s.length then byteAt s (15 + k) else 48 := (fun k hk => by rw [hG, byteAt_pad _ _ _ (by omega)]; by_cases hz : k < (F.drop 1).length; rw [if_pos hz, if_pos (by omega), show 15 + k = 14 + (1 + k) by omega, ← hFb (1 + k) (by omega)]; unfold byteAt; simp [Nat.add_comm]; rw [if_neg hz, if_neg (by omega)]); have hpm := part_mic s _ (by omega) hgb; have hf0 : byteAt F 0 = byteAt s 14 := hFb 0 (by omega); have hf1 := hFb (s.length - 16) (by omega); rw [show 14 + (s.length - 16) = s.length - 2 by omega] at hf1
   refine J.exit ?_
   refine Sr ?_
   refine Ru 1 rfl ?_
   refine JL.callP ca_220 rfl (part_fn _ _ (by omega)) rfl ?_
   refine Ru 1 rfl ?_
   refine Nk [6, 0, 5] rfl ?_
   refine J.seq ?_
   refine J.meet [(61, .bool (decide (¬ (byteAt s 14 = 46 ∧ byteAt s (s.length - 2) ≠ 48) ∨ partI G < 0)))] [(6, _), (0, _)] ⟨rfl, rfl, trivial⟩ ?_ ?_
   ·
    refine Rg ?_
    refine Ru 1 rfl ?_
    refine JL.op (RunV.strIndex (m := 0) un_9 rfl rfl rfl (by omega)) rfl ?_
    refine Ru 2 rfl ?_
    refine Bs 50 rfl (fun hc8 => ?_) fun hc8 => ?_
    ·
     refine Ru 11 rfl ?_
     refine JL.nil ?_
     refine ⟨rfl, rfl, ?_⟩
     exact z6_
    refine Ru 4 rfl ?_
    refine Bs 54 rfl (fun hc9 => ?_) fun hc9 => ?_
    ·
     refine Ru 7 rfl ?_
     refine JL.nil ?_
     refine ⟨rfl, rfl, ?_⟩
     exact z6_
    refine Ru 2 rfl ?_
    refine JL.opg rfl rfl  (RunV.lenS un_9 rfl) rfl ?_
    refine JL.opg rfl rfl  si_ rfl ?_
    refine JL.opg rfl rfl  (RunV.strIndex (m := s.length - 16) un_9 rfl rfl (by omega) (by omega)) rfl ?_
    refine Ru 2 rfl ?_
    refine JL.nil ?_
    refine ⟨rfl, rfl, ?_⟩
    exact z6_
   refine Cs rfl (fun hc10 => ?_) fun hc10 => ?_
   ·
    have hm : plOk s = false := (by rcases hpm with ⟨p1, p2, p3⟩ | ⟨p1, p2⟩; exact pl_f2 hne (by omega); exact pl_f3 6 hne (by omega) p1)
    refine Sr ?_
    refine Ru 3 rfl ?_
    refine JL.nil ?_
    exact J.retP (RetV.three rfl rfl rfl rfl) (by rw [hm]; rfl) rfl
   obtain ⟨p1, p2, p3⟩ : micOk s 6 = true ∧ partI G = micI s 6 ∧ 0 ≤ partI G := (by rcases hpm with hq | ⟨q1, q2⟩; exact hq; exfalso; omega); have hpl := pl_t1 (s := s) ⟨l15, l22, lz⟩ hne (by omega) p1; have hpM : plM s = micI s 6 := if_neg hne; rw [p2, ← hpM]
   refine J.skip ?_
   refine J.seq ?_
   refine J.drawn mixed_ (by kernel_rfl) ?_
   refine Rq 1 rfl ?_
   refine JQ.op (RunV.strCut_h un_9 rfl rfl (show _ = ((4 : Nat) : Int) from rfl) (by omega)) rfl ?_
   refine JQ.callP ca_220 rfl (part_fn _ _ z31_) rfl ?_
   refine Rq 1 rfl ?_
   refine JQ.op (RunV.strCut_lh un_9 rfl rfl rfl (show _ = ((4 : Nat) : Int) from rfl) (show _ = ((14 : Nat) : Int) from rfl) (by omega) (by omega)) rfl ?_
   refine JQ.callP ca_221 rfl (of_fn _ _ _ z31_ hy3) rfl ?_
   rw [hy1, hy2]
   refine Rq 5 rfl ?_
   refine Nq [9, 8, 6] rfl ?_
   refine J.seq ?_
   refine Sr ?_
   refine Ru 2 rfl ?_
   refine JL.nil ?_
   refine Cs rfl (fun hc13 => ?_) fun hc13 => ?_
   ·
    refine Sr ?_
    refine Ru 3 rfl ?_
    refine JL.nil ?_
    exact J.retP (RetV.three rfl rfl rfl rfl) (by simp [hpl, hpM, momV, hc13]) rfl
   refine J.skip ?_
   refine Sr ?_
   refine Ru 5 rfl ?_
   refine Nk [4, 3, 2] rfl ?_
   exact J.retP (RetV.three rfl rfl rfl rfl) (by simp [hpl, hpM, momV, hc13]) rfl
  have h15 : s.length = 15 := (by have hF0 : F.length = 0 := (by rw [show F = [] from hc5]; rfl); omega); have hpl := pl_t0 (s := s) ⟨l15, l22, lz⟩ h15; have hpM : plM s = 0 := if_pos h15
  refine J.skip ?_
  refine J.seq ?_
  refine J.drawn mixed_ (by kernel_rfl) ?_
  refine Rq 1 rfl ?_
  refine JQ.op (RunV.strCut_h un_9 rfl rfl (show _ = ((4 : Nat) : Int) from rfl) (by omega)) rfl ?_
  refine JQ.callP ca_220 rfl (part_fn _ _ z31_) rfl ?_
  refine Rq 1 rfl ?_
  refine JQ.op (RunV.strCut_lh un_9 rfl rfl rfl (show _ = ((4 : Nat) : Int) from rfl) (show _ = ((14 : Nat) : Int) from rfl) (by omega) (by omega)) rfl ?_
  refine JQ.callP ca_221 rfl (of_fn _ _ _ z31_ hy3) rfl ?_
  rw [hy1, hy2]
  refine Rq 5 rfl ?_
  refine Nq [9, 8, 6, 4, 3, 2] rfl ?_
  refine J.seq ?_
  refine Sr ?_
  refine Ru 2 rfl ?_
  refine JL.nil ?_
  refine Cs rfl (fun hc16 => ?_) fun hc16 => ?_
  ·
   refine Sr ?_
   refine Ru 3 rfl ?_
   refine Nk [4, 3, 2, 8, 6] rfl ?_
   exact J.retP (RetV.three rfl rfl rfl rfl) (by simp [hpl, hpM, momV, hc16]) rfl
  refine J.skip ?_
  refine Sr ?_
  refine Ru 5 rfl ?_
  refine Nk [4, 3, 2] rfl ?_
  exact J.retP (RetV.three rfl rfl rfl rfl) (by simp [hpl, hpM, momV, hc16]) rfl
end Go.Proofs.YtohlpgoeheggdaaGreatDoor
namespace Go.Proofs.YtohlpgoeheggdaaGreatDoor
open Go Go.RowKit
def prL : List UInt8 := [32, 39, 40, 41, 43, 44, 45, 46, 47, 58, 61, 63]
def prAl (b : Int) : Bool := (decide (65 ≤ b ∧ b ≤ 90) || decide (97 ≤ b ∧ b ≤ 122)) || decide (48 ≤ b ∧ b ≤ 57)
def prAny (b : Int) (l : List UInt8) : Bool := l.any fun x => decide (b = x.toNat)
theorem prC_eq (b : Nat) : prC b = (prAl b || prAny b prL) := by
  rw [Bool.eq_iff_iff]
  simp only [prC, prAl, prAny, prL, List.any_cons, List.any_nil, Bool.or_eq_true, decide_eq_true_eq, Bool.or_false, show ((32 : UInt8).toNat = 32) from rfl, show ((39 : UInt8).toNat = 39) from rfl, show ((40 : UInt8).toNat = 40) from rfl, show ((41 : UInt8).toNat = 41) from rfl, show ((43 : UInt8).toNat = 43) from rfl, show ((44 : UInt8).toNat = 44) from rfl, show ((45 : UInt8).toNat = 45) from rfl, show ((46 : UInt8).toNat = 46) from rfl, show ((47 : UInt8).toNat = 47) from rfl, show ((58 : UInt8).toNat = 58) from rfl, show ((61 : UInt8).toNat = 61) from rfl, show ((63 : UInt8).toNat = 63) from rfl]
  omega
theorem prAny_next (b : Int) (q : Nat) (h : q < prL.length) : prAny b (prL.take (q + 1)) = (prAny b (prL.take q) || decide (b = byteAt prL q)) := by
  unfold prAny
  rw [List.take_succ_eq_append_getElem h, List.any_append, List.any_cons, List.any_nil, Bool.or_false, byteAt_eq prL q h]
theorem prC_lt (c : Nat) (h : prC c = true) : c < 128 := by
  have := of_decide_eq_true h; omega
theorem rprint_fn (s : List UInt8) (h : Part) (hl : s.length ≤ 140737488355328) : Pure Tryz.prog 177 [.string ⟨s.toArray⟩] h (.bool (runes (fun c _ => prC c) s 0)) := by
  rw [runes_all prC_lt _ s (Nat.le_refl _)]
  have hpl : prL.length = 12 := rfl
  refine Fn.intro Tryz.func177 rfl Tryz.ntmps177 rfl (fun e he => ?_)
  refine J.weak [(0, _)] ⟨rfl, trivial⟩ ?_
  refine Sr ?_
  refine Ru 1 rfl ?_
  refine JL.nil ?_
  refine Sr ?_
  refine Ru 1 rfl ?_
  refine JL.nil ?_
  refine J.seq ?_
  refine Sr ?_
  refine Ru 1 rfl ?_
  refine JL.nil ?_
  refine J.block ?_
  refine J.loop (fun t_ S_ h_ L_ => ∃ (p : Nat), t_ = s.length - p ∧ S_ = [(0, .string ⟨s.toArray⟩), (3, .string ⟨prL.toArray⟩), (4, .int .i64 p)] ∧ h = h_ ∧ L_ = [] ∧ (p ≤ s.length ∧ (s.all fun b => prC b.toNat) = (s.drop p).all fun b => prC b.toNat)) ⟨_, _, ?_, ⟨0, rfl, rfl, rfl, rfl, ⟨by omega, rfl⟩⟩⟩ ?_
  ·
   exact z7_
  rintro _ _ _ _ ⟨p, rfl, rfl, rfl, rfl, hp, hq⟩
  refine J.seq ?_
  refine Sr ?_
  refine Ru 2 rfl ?_
  refine JL.op (RunV.lenS un_9 rfl) rfl ?_
  refine Ru 1 rfl ?_
  refine JL.nil ?_
  refine Cs rfl (fun hc1 => ?_) fun hc1 => ?_
  ·
   have hst := all_step prC s p (by omega); have hbp := byteAt_lt s p
   refine J.skip ?_
   refine J.seq ?_
   refine J.block ?_
   refine Sr ?_
   refine Ru 2 rfl ?_
   refine JL.op (RunV.strIndex (m := p) un_9 rfl rfl (by omega) (by omega)) rfl ?_
   refine JL.op z8_ rfl ?_
   refine Ru 1 rfl ?_
   refine JL.nil ?_
   refine Sr ?_
   refine Ru 1 rfl ?_
   refine JL.callP ca_219 rfl (between_fn _ _ _ _) rfl ?_
   refine Ru 1 rfl ?_
   apply On 20 23 3 [5, 17, 16, 15, 14, 11, 10, 9, 8, 0, 3, 4] rfl rfl
   rotate_left
   ·
    intro hb3 hc3
    refine Ru 1 rfl ?_
    refine JL.callPg rfl rfl  ca_219 rfl (between_fn _ _ _ _) rfl ?_
    refine Ru 1 rfl ?_
    exact Ae (om_f hb3 rfl) rfl
   rotate_right
   ·
    exact fun hb3 _ => Ru 3 rfl (Ae (om_t hb3 rfl) rfl)
   refine Ru 1 rfl ?_
   apply On 24 27 3 [5, 17, 16, 15, 14, 11, 10, 9, 8, 0, 3, 4] rfl rfl
   rotate_left
   ·
    intro hb5 hc5
    refine Ru 1 rfl ?_
    refine JL.callPg rfl rfl  ca_219 rfl (between_fn _ _ _ _) rfl ?_
    refine Ru 1 rfl ?_
    exact Ae (om_f hb5 rfl) rfl
   rotate_right
   ·
    exact fun hb5 _ => Ru 3 rfl (Ae (om_t hb5 rfl) rfl)
   refine Ru 1 rfl ?_
   refine JL.nil ?_
   refine J.seq ?_
   refine Sr ?_
   refine Ru 1 rfl ?_
   refine JL.nil ?_
   refine J.block ?_
   refine J.loop (fun t_ S_ h_ L_ => ∃ (q : Nat) (v : Bool), t_ = prL.length - q ∧ S_ = [(0, .string ⟨s.toArray⟩), (3, .string ⟨prL.toArray⟩), (4, .int .i64 p), (6, .bool v), (7, .int .i64 q)] ∧ h = h_ ∧ L_ = [] ∧ (q ≤ prL.length ∧ v = (prAl (byteAt s p) || prAny (byteAt s p) (prL.take q)))) ⟨_, _, ?_, ⟨0, prAl (byteAt s p), rfl, rfl, rfl, rfl, ⟨by omega, by simp [prAny]⟩⟩⟩ ?_
   ·
    exact z7_
   rintro _ _ _ _ ⟨q, v, rfl, rfl, rfl, rfl, hq1, hv⟩
   refine J.seq ?_
   refine Sr ?_
   refine Ru 2 rfl ?_
   refine JL.op (RunV.lenS un_9 rfl) rfl ?_
   refine Ru 1 rfl ?_
   refine JL.nil ?_
   refine Cs rfl (fun hc7 => ?_) fun hc7 => ?_
   ·
    refine J.skip ?_
    refine J.seq ?_
    refine J.block ?_
    refine J.meet [(6, .bool (v || decide ((byteAt s p : Int) = byteAt prL q)))] [(31, _), (30, _), (29, _), (28, _), (0, _), (3, _), (4, _), (7, _)] ⟨rfl, rfl, rfl, rfl, rfl, rfl, rfl, rfl, trivial⟩ ?_ ?_
    ·
     refine J.drawn mixed_ (by kernel_rfl) ?_
     refine Rq 2 rfl ?_
     refine Bq 35 rfl (fun hc8 => ?_) fun hc8 => ?_
     ·
      refine Rq 9 rfl ?_
      refine JQ.nil ?_
      refine ⟨rfl, rfl, ?_⟩
      repeat (first | exact trivial | refine ⟨rfl, ?_⟩ | refine ⟨(by exact some_bool (by cases v <;> simp_all)), ?_⟩)
     refine Rq 2 rfl ?_
     refine JQ.opg rfl rfl  (RunV.strIndex (m := p) un_9 rfl rfl (by omega) (by omega)) rfl ?_
     refine Rq 2 rfl ?_
     refine JQ.opg rfl rfl  (RunV.strIndex (m := q) un_9 rfl rfl (by omega) (by omega)) rfl ?_
     refine Rq 3 rfl ?_
     refine JQ.nil ?_
     refine ⟨rfl, rfl, ?_⟩
     repeat (first | exact trivial | refine ⟨rfl, ?_⟩ | refine ⟨(by exact some_bool (by cases v <;> simp_all)), ?_⟩)
    refine Rg ?_
    refine Ru 1 rfl ?_
    refine JL.op ai_ rfl ?_
    refine Ru 1 rfl ?_
    refine JL.nil ?_
    refine ⟨_, ?_, _, ?_, ⟨q + 1, (v || decide ((byteAt s p : Int) = byteAt prL q)), rfl, rfl, rfl, rfl, ⟨by omega, by rw [hv, prAny_next _ _ (by omega), Bool.or_assoc]⟩⟩⟩
    ·
     omega
    exact z7_
   have hqe : q = prL.length := (by omega); have hpc : prC (byteAt s p) = v := (by rw [hv, prC_eq, hqe, List.take_length])
   refine J.exit ?_
   refine Sr ?_
   refine Ru 2 rfl ?_
   refine JL.nil ?_
   refine Cs rfl (fun hc9 => ?_) fun hc9 => ?_
   ·
    refine Sr ?_
    refine Ru 1 rfl ?_
    refine JL.nil ?_
    exact J.retP (RetV.one rfl rfl) (by rw [hq, hst, hpc]; simp_all) rfl
   refine J.skip ?_
   refine Rg ?_
   refine Ru 1 rfl ?_
   refine JL.op ai_ rfl ?_
   refine Ru 1 rfl ?_
   refine JL.nil ?_
   refine ⟨_, ?_, _, ?_, ⟨p + 1, rfl, rfl, rfl, rfl, ⟨by omega, by rw [hq, hst, hpc]; simp_all⟩⟩⟩
   ·
    omega
   exact z7_
  refine J.exit ?_
  refine Kp [] rfl ?_
  refine Sr ?_
  refine Ru 1 rfl ?_
  refine JL.nil ?_
  exact J.retP (RetV.one rfl rfl) (by rw [hq, List.drop_of_length_le (by omega)]; rfl) rfl
end Go.Proofs.YtohlpgoeheggdaaGreatDoor
namespace Go.Proofs.YtohlpgoeheggdaaGreatDoor
open Go Go.RowKit
set_option maxRecDepth 100000
theorem ofNat_mod (n : Nat) : UInt8.ofNat (n % 256) = UInt8.ofNat n := by
  apply UInt8.toNat_inj.1
  simp
theorem nby_gt0 (n j : Nat) (hn : n ≤ 140737488355328) (h0 : 128 ≤ n) (h2 : j ≤ nby n) : 0 < n / 256 ^ j ↔ j < nby n := by
  cases j with
  | zero => have := nby_bd n; simp; omega
  | succ j => exact nby_gt n (j + 1) hn (by omega) h2
theorem length_fn {n : Nat} {h : Part} (hn : n ≤ 140737488355328) : FnR Tryz.prog 115 [.int .i64 n] h (fun v h' => ∃ a c, v = .slice a (lenB n).length c ∧ SlR u8R 1 h' a c (lenB n)) := by
  have hk := nby_bd n
  refine Fn.intro Tryz.func115 rfl Tryz.ntmps115 rfl (fun e he => ?_)
  refine J.weak [(0, _)] ⟨rfl, trivial⟩ ?_
  have hh0 := Part.le.refl h
  refine Sr ?_
  refine Ru 1 rfl ?_
  refine JL.nil ?_
  refine J.seq ?_
  refine Sr ?_
  refine Ru 2 rfl ?_
  refine JL.nil ?_
  refine Cs rfl (fun hc1 => ?_) fun hc1 => ?_
  ·
   have hlb1 : lenB n = [UInt8.ofNat n] := if_pos (by omega)
   refine Sr ?_
   refine Ru 1 rfl ?_
   refine JL.op (RunV.toByte n cv_3_5 rfl rfl) rfl ?_
   refine JL.lit1 ap_25 zr_5 rfl rfl rfl rfl rfl (fun b2 => ?_)
   refine JL.pubB (R := u8R) (sz := 1) (l := [UInt8.ofNat n]) dl_ (cells_lit (by first | kernel_rfl | rfl)) (by first | decide | omega | (simp; done)) (fun h3 hle3 hQ => ?_)
   replace hh0 := hh0.mono hle3
   refine Ru 1 rfl ?_
   refine Nk [2, 0] rfl ?_
   rw [hlb1]; exact J.retR (RetV.one rfl rfl) ⟨some ⟨b2, 0, none⟩, 1, rfl, hQ⟩
  refine J.skip ?_
  refine Sr ?_
  refine Ru 1 rfl ?_
  refine JL.nil ?_
  refine J.seq ?_
  refine J.block ?_
  refine J.loop (fun t_ S_ h_ L_ => ∃ (g : Part) (j : Nat) (la : Option Addr) (lc : Nat), t_ = 7 - j ∧ S_ = [(0, .int .i64 (n / 256 ^ j : Nat)), (3, .slice la (be j n).length lc)] ∧ g = h_ ∧ L_ = [] ∧ (h.le g ∧ j ≤ nby n ∧ SlR u8R 1 g la lc (be j n))) ⟨_, _, ?_, ⟨_, 0, none, 0, rfl, rfl, rfl, rfl, ⟨by assumption, by omega, SlR.nil_⟩⟩⟩ ?_
  ·
   repeat (first | exact trivial | refine ⟨rfl, ?_⟩ | refine ⟨(by exact some_int (by first | (simp; done) | (rw [Nat.pow_succ, ← Nat.div_div_eq_div_mul]; omega))), ?_⟩)
  rintro _ _ _ _ ⟨g, j, la, lc, rfl, rfl, rfl, rfl, hhg, hj, hL⟩
  have hgt := nby_gt0 n j hn (by omega) hj; have hlb := be_len j n; have hlb3 := be_len (j + 1) n; have hle := Nat.div_le_self n (256 ^ j)
  refine J.seq ?_
  refine Sr ?_
  refine Ru 2 rfl ?_
  refine JL.nil ?_
  refine Cs rfl (fun hc4 => ?_) fun hc4 => ?_
  ·
   refine J.skip ?_
   refine J.block ?_
   refine Sr ?_
   refine Ru 1 rfl ?_
   refine JL.nil ?_
   refine Sr ?_
   refine Ru 2 rfl ?_
   refine JL.op z26_ rfl ?_
   refine JL.op (RunV.toByte (n / 256 ^ j % 256) cv_3_5 rfl (by omega)) rfl ?_
   rw [ofNat_mod]
   refine JL.lit1 ap_25 zr_5 rfl rfl rfl rfl rfl (fun b5 => ?_)
   refine JL.row_nil 5 1 ?_
   refine JL.append1 ap_25 rfl rfl (CellsR.nil (R := u8R)) rfl dl_ dl_ rfl (rfl) z4_ rfl rfl (fun a6 c6 xs6 hC6 hN6 => ?_)
   obtain rfl := hC6.u8
   refine Ru 1 rfl ?_
   refine JL.nil ?_
   refine Sr ?_
   refine Ru 2 rfl ?_
   refine JL.append ap_25 rfl rfl CellsR.of_u8 rfl (by assumption) rfl dl_ z4_ rfl rfl (fun a7 c7 xs7 hC7 hN7 => ?_)
   obtain rfl := hC7.u8
   refine JL.pub (R := u8R) (l := be (j + 1) n) dl_ CellsR.of_u8 rfl z4_ (fun h8 hle8 hP8 => ?_)
   replace hhg := hhg.mono hle8
   replace hL := hL.mono hle8
   refine Ru 1 rfl ?_
   refine JL.nil ?_
   refine Rg ?_
   refine Ru 1 rfl ?_
   refine JL.op z29_ rfl ?_
   refine Ru 1 rfl ?_
   refine JL.nil ?_
   refine ⟨_, ?_, _, ?_, ⟨_, j + 1, _, _, rfl, rfl, rfl, rfl, ⟨by assumption, by omega, by assumption⟩⟩⟩
   ·
    omega
   repeat (first | exact trivial | refine ⟨rfl, ?_⟩ | refine ⟨(by exact some_int (by first | (simp; done) | (rw [Nat.pow_succ, ← Nat.div_div_eq_div_mul]; omega))), ?_⟩)
  have hjn : j = nby n := (by omega); subst hjn; have hlb1 : lenB n = UInt8.ofNat (128 + nby n) :: be (nby n) n := if_neg (by omega)
  refine J.exit ?_
  refine Sr ?_
  refine Ru 2 rfl ?_
  refine JL.op ai_ rfl ?_
  refine JL.op (RunV.toByte (128 + nby n) cv_3_5 rfl (by rw [hlb]; omega)) rfl ?_
  refine JL.lit1 ap_25 zr_5 rfl rfl rfl rfl rfl (fun b9 => ?_)
  refine Ru 1 rfl ?_
  refine Nk [5, 3] rfl ?_
  refine Sr ?_
  refine Ru 2 rfl ?_
  refine JL.rowB (b := b9) dl_ ?_
  refine JL.append ap_25 rfl rfl CellsR.of_u8 rfl (by assumption) rfl dl_ z4_ rfl rfl (fun a10 c10 xs10 hC10 hN10 => ?_)
  obtain rfl := hC10.u8
  refine JL.pub (R := u8R) (l := UInt8.ofNat (128 + nby n) :: be (nby n) n) dl_ CellsR.of_u8 rfl z4_ (fun h11 hle11 hP11 => ?_)
  replace hhg := hhg.mono hle11
  replace hL := hL.mono hle11
  refine Ru 1 rfl ?_
  refine Nk [2] rfl ?_
  rw [hlb1]; exact J.retR (RetV.one rfl rfl) ⟨_, _, rfl, by assumption⟩
end Go.Proofs.YtohlpgoeheggdaaGreatDoor
namespace Go.Proofs.YtohlpgoeheggdaaGreatDoor
open Go Go.RowKit
theorem z0_ {p : Prop} (u : p := by first | (rw [valB_1 (by omega), ← e0 (by omega)]; (congr 1; first | exact (decide_eq_true (by omega)).symm | exact (decide_eq_false (by omega)).symm | exact decide_eq_decide.2 (by omega) | (rw [← decide_not]; exact decide_eq_decide.2 (by omega)))) | (rw [valB_1 (by omega)]; (congr 1; first | exact (decide_eq_true (by omega)).symm | exact (decide_eq_false (by omega)).symm | exact decide_eq_decide.2 (by omega) | (rw [← decide_not]; exact decide_eq_decide.2 (by omega)))) | (rw [valB_2 (by omega), leastB]; (repeat' split) <;> first | (congr 1; first | exact (decide_eq_true (by omega)).symm | exact (decide_eq_false (by omega)).symm | exact decide_eq_decide.2 (by omega) | (rw [← decide_not]; exact decide_eq_decide.2 (by omega))) | (congr 1; first | exact decide_eq_true (by omega) | exact decide_eq_false (by omega)) | (exfalso; omega)) | (rw [valB_3 (by omega), bits_f (by first | omega | (rw [← e0 (by omega)]; omega))]; done) | (rw [valB_3 (by omega), bits_1 (by omega) (by omega)]; done) | (rw [valB_3 (by omega), bits_n (by omega) (by omega) (by omega), ← e1]; done) | (rw [valB_5 (by omega)]; (congr 1; first | exact (decide_eq_true (by omega)).symm | exact (decide_eq_false (by omega)).symm | exact decide_eq_decide.2 (by omega) | (rw [← decide_not]; exact decide_eq_decide.2 (by omega)))) | (rw [valB_6 (by omega)]; cases (oidT l).isSome <;> rfl) | rw [valB_12 (by omega)] | rw [valB_19 (by omega)] | rw [valB_22 (by omega)] | (rw [valB_23 (by omega)]; cases psOk l <;> rfl) | (rw [valB_24 (by omega)]; cases plOk l <;> rfl) | rw [valB_0 (by omega)]) : p := u
theorem z32_ {p : Prop} (u : p := by repeat (first | exact trivial | refine ⟨rfl, ?_⟩ | refine ⟨(by exact some_bool (by cases k <;> simp_all <;> omega)), ?_⟩)) : p := u
theorem z41_ {p : Prop} (u : p := by repeat (first | exact trivial | refine ⟨rfl, ?_⟩ | refine ⟨(by exact some_bool (by rw [hBB]; simp_all)), ?_⟩)) : p := u
end Go.Proofs.YtohlpgoeheggdaaGreatDoor
namespace Go.Proofs.YtohlpgoeheggdaaGreatDoor
open Go Go.RowKit
set_option maxRecDepth 100000
theorem ca_111 : callT Tryz.prog 111 = true := by kernel_rfl
theorem ca_112 : callT Tryz.prog 112 = true := by kernel_rfl
theorem ca_113 : callT Tryz.prog 113 = true := by kernel_rfl
theorem ca_114 : callT Tryz.prog 114 = true := by kernel_rfl
theorem ca_115 : callT Tryz.prog 115 = true := by kernel_rfl
theorem ca_176 : callT Tryz.prog 176 = true := by kernel_rfl
theorem ca_177 : callT Tryz.prog 177 = true := by kernel_rfl
theorem ca_178 : callT Tryz.prog 178 = true := by kernel_rfl
theorem ca_179 : callT Tryz.prog 179 = true := by kernel_rfl
theorem ca_180 : callT Tryz.prog 180 = true := by kernel_rfl
theorem ca_53 : callT Tryz.prog 53 = true := by kernel_rfl
theorem bits_f {b : List UInt8} (h : b.length = 0 ∨ 7 < byteAt b 0) : bitsB b = false := decide_eq_false (fun hh => hh.1 (by omega))
theorem bits_1 {b : List UInt8} (h : b.length = 1) (h7 : byteAt b 0 ≤ 7) : bitsB b = decide (((2 ^ byteAt b 0 : Nat) : Int) = 1) := by
  unfold bitsB
  refine decide_eq_decide.2 ?_
  rcases Nat.eq_zero_or_pos (byteAt b 0) with h0 | h0
  · exact ⟨fun _ => by rw [h0]; rfl, fun _ => ⟨by omega, .inl h0⟩⟩
  · have : 2 ≤ 2 ^ byteAt b 0 := Nat.pow_le_pow_right (n := 2) (by decide) h0
    constructor
    · rintro ⟨h1, _⟩; omega
    · intro h1; omega
theorem bits_n {b : List UInt8} (h0 : b.length ≠ 0) (h1 : b.length ≠ 1) (h7 : byteAt b 0 ≤ 7) : bitsB b = decide ((byteAt b (b.length - 1) : Int) % ((2 ^ byteAt b 0 : Nat) : Int) = 0) := by
  unfold bitsB
  refine decide_eq_decide.2 ?_
  constructor
  · rintro ⟨_, h2 | h2⟩
    · rw [h2]; simp
    · rw [← Int.natCast_emod, h2]; rfl
  · intro h2
    rw [← Int.natCast_emod] at h2
    exact ⟨by omega, .inr (by omega)⟩
theorem pow7 (n : Nat) (h : n ≤ 7) : 1 ≤ 2 ^ n ∧ 2 ^ n ≤ 128 := ⟨Nat.one_le_two_pow, Nat.pow_le_pow_right (n := 2) (by decide) h⟩
theorem rvalue_fn {t : Int} {a : Option Addr} {c : Nat} {l : List UInt8} {h : Part} (hl : SlR u8R 1 h a c l) (hb : l.length ≤ 10000000) : Pure Tryz.prog 114 [.int .i64 t, .slice a l.length c] h (.bool (valB t l)) := by
  have e0 := fun hh => byteAt_eq l 0 hh
  refine Fn.intro Tryz.func114 rfl Tryz.ntmps114 rfl (fun e he => ?_)
  refine J.weak [(0, _), (1, _)] ⟨rfl, rfl, trivial⟩ ?_
  refine Sr ?_
  refine Ru 1 rfl ?_
  refine JL.nil ?_
  refine Sr ?_
  refine Ru 3 rfl ?_
  refine JL.nil ?_
  refine J.seq ?_
  refine Sr ?_
  refine Ru 1 rfl ?_
  refine JL.nil ?_
  refine J.block ?_
  refine Sr ?_
  refine Ru 2 rfl ?_
  refine JL.nil ?_
  refine Cs rfl (fun hc1 => ?_) fun hc1 => ?_
  ·
   refine Sr ?_
   refine Ru 3 rfl ?_
   refine Bs 23 rfl (fun hc2 => ?_) fun hc2 => ?_
   ·
    refine Ru 1 rfl ?_
    refine JL.opeg rfl rfl  (RunE.index sl_25 rfl rfl (show _ = ((0 : Nat) : Int) from rfl) (by assumption) rfl (by omega)) rfl ?_
    rintro _ ⟨b3, o3, hi3, rfl, hE3⟩
    refine JL.opg rfl rfl  (RunV.ld_u8 ag_5 rfl (by assumption)) rfl ?_
    refine Ru 2 rfl ?_
    refine Bs 28 rfl (fun hc5 => ?_) fun hc5 => ?_
    ·
     refine Ru 7 rfl ?_
     refine Nk [4] rfl ?_
     exact J.retP (RetV.one rfl rfl) z0_ rfl
    refine Ru 1 rfl ?_
    refine JL.opeg rfl rfl  (RunE.index sl_25 rfl rfl (show _ = ((0 : Nat) : Int) from rfl) (by assumption) rfl (by omega)) rfl ?_
    rintro _ ⟨b6, o6, hi6, rfl, hE6⟩
    refine JL.opg rfl rfl  (RunV.ld_u8 ag_5 rfl (by assumption)) rfl ?_
    refine Ru 4 rfl ?_
    refine Nk [4] rfl ?_
    exact J.retP (RetV.one rfl rfl) z0_ rfl
   refine Ru 12 rfl ?_
   refine Nk [4] rfl ?_
   exact J.retP (RetV.one rfl rfl) z0_ rfl
  refine J.seq ?_
  refine Sr ?_
  refine Ru 2 rfl ?_
  refine Nk [35, 18, 5, 4, 1] rfl ?_
  refine Cs rfl (fun hc8 => ?_) fun hc8 => ?_
  ·
   refine J.skip ?_
   refine J.cond_t rfl ?_
   refine J.seq ?_
   refine Sr ?_
   refine Ru 2 rfl ?_
   refine JL.nil ?_
   refine Cs rfl (fun hc9 => ?_) fun hc9 => ?_
   ·
    refine Sr ?_
    refine Ru 3 rfl ?_
    refine Nk [4, 1] rfl ?_
    exact J.retP (RetV.one rfl rfl) z0_ rfl
   refine J.skip ?_
   refine Kp [4, 1] rfl ?_
   refine J.seq ?_
   refine J.drawn mixed_ (by kernel_rfl) ?_
   have e0 := byteAt_eq l 0 (by omega); have e1 := byteAt_eq l 1 (by omega); have b0 := byteAt_lt l 0; have b1 := byteAt_lt l 1
   refine Rq 1 rfl ?_
   refine JQ.ope (RunE.index sl_25 rfl rfl (show _ = ((0 : Nat) : Int) from rfl) (by assumption) rfl (by omega)) rfl ?_
   rintro _ ⟨b10, o10, hi10, rfl, hE10⟩
   refine JQ.op (RunV.ld_u8 ag_5 rfl (by assumption)) rfl ?_
   refine JQ.op z8_ rfl ?_
   refine JQ.op z17_ rfl ?_
   refine Rq 1 rfl ?_
   refine JQ.ope (RunE.index sl_25 rfl rfl (show _ = ((1 : Nat) : Int) from rfl) (by assumption) rfl (by omega)) rfl ?_
   rintro _ ⟨b12, o12, hi12, rfl, hE12⟩
   refine JQ.op (RunV.ld_u8 ag_5 rfl (by assumption)) rfl ?_
   refine JQ.op z8_ rfl ?_
   refine JQ.op z29_ rfl ?_
   refine JQ.op ai_ rfl ?_
   refine Rq 1 rfl ?_
   refine Nq [6, 4] rfl ?_
   refine Sr ?_
   refine Ru 3 rfl ?_
   refine Bs 55 rfl (fun hc14 => ?_) fun hc14 => ?_
   ·
    refine Ru 4 rfl ?_
    refine Nk [4] rfl ?_
    exact J.retP (RetV.one rfl rfl) z0_ rfl
   refine Ru 4 rfl ?_
   refine Nk [4] rfl ?_
   exact J.retP (RetV.one rfl rfl) z0_ rfl
  refine Rg ?_
  refine Ru 2 rfl ?_
  refine JL.nil ?_
  refine Cs rfl (fun hc15 => ?_) fun hc15 => ?_
  ·
   refine J.seq ?_
   refine Sr ?_
   refine Ru 2 rfl ?_
   refine Nk [39, 5, 4, 1] rfl ?_
   refine Cs rfl (fun hc16 => ?_) fun hc16 => ?_
   ·
    refine Sr ?_
    refine Ru 3 rfl ?_
    refine Nk [4, 1] rfl ?_
    exact J.retP (RetV.one rfl rfl) z0_ rfl
   refine J.skip ?_
   refine J.seq ?_
   refine J.drawn mixed_ (by kernel_rfl) ?_
   have e0 := byteAt_eq l 0 (by omega); have e1 := byteAt_eq l 1 (by omega); have b0 := byteAt_lt l 0; have b1 := byteAt_lt l 1
   refine Rq 1 rfl ?_
   refine JQ.ope (RunE.index sl_25 rfl rfl (show _ = ((0 : Nat) : Int) from rfl) (by assumption) rfl (by omega)) rfl ?_
   rintro _ ⟨b17, o17, hi17, rfl, hE17⟩
   refine JQ.op (RunV.ld_u8 ag_5 rfl (by assumption)) rfl ?_
   refine JQ.op z8_ rfl ?_
   refine JQ.op z17_ rfl ?_
   refine Rq 1 rfl ?_
   refine JQ.ope (RunE.index sl_25 rfl rfl (show _ = ((1 : Nat) : Int) from rfl) (by assumption) rfl (by omega)) rfl ?_
   rintro _ ⟨b19, o19, hi19, rfl, hE19⟩
   refine JQ.op (RunV.ld_u8 ag_5 rfl (by assumption)) rfl ?_
   refine JQ.op z8_ rfl ?_
   refine JQ.op z29_ rfl ?_
   refine JQ.op ai_ rfl ?_
   refine Rq 1 rfl ?_
   refine Nq [6, 4] rfl ?_
   refine Sr ?_
   refine Ru 3 rfl ?_
   refine Bs 55 rfl (fun hc21 => ?_) fun hc21 => ?_
   ·
    refine Ru 4 rfl ?_
    refine Nk [4] rfl ?_
    exact J.retP (RetV.one rfl rfl) z0_ rfl
   refine Ru 4 rfl ?_
   refine Nk [4] rfl ?_
   exact J.retP (RetV.one rfl rfl) z0_ rfl
  refine Sr ?_
  refine Ru 2 rfl ?_
  refine Nk [59, 18, 5, 4, 1] rfl ?_
  refine Cs rfl (fun hc22 => ?_) fun hc22 => ?_
  ·
   refine J.seq ?_
   refine Sr ?_
   refine Ru 3 rfl ?_
   refine Bs 63 rfl (fun hc23 => ?_) fun hc23 => ?_
   ·
    refine Ru 5 rfl ?_
    refine Nk [68, 5, 4, 1] rfl ?_
    refine J.cond_t rfl ?_
    refine Sr ?_
    refine Ru 1 rfl ?_
    refine JL.nil ?_
    exact J.retP (RetV.one rfl rfl) z0_ rfl
   refine Ru 1 rfl ?_
   refine JL.opeg rfl rfl  (RunE.index sl_25 rfl rfl (show _ = ((0 : Nat) : Int) from rfl) (by assumption) rfl (by omega)) rfl ?_
   rintro _ ⟨b24, o24, hi24, rfl, hE24⟩
   refine JL.opg rfl rfl  (RunV.ld_u8 ag_5 rfl (by assumption)) rfl ?_
   refine Ru 2 rfl ?_
   refine Nk [68, 5, 4, 1] rfl ?_
   refine Cs rfl (fun hc26 => ?_) fun hc26 => ?_
   ·
    refine Sr ?_
    refine Ru 1 rfl ?_
    refine JL.nil ?_
    exact J.retP (RetV.one rfl rfl) z0_ rfl
   have e0 := byteAt_eq l 0 (by omega); have e1 := byteAt_eq l (l.length - 1) (by omega); have hp7 := pow7 (byteAt l 0) (by omega)
   refine J.skip ?_
   refine Sr ?_
   refine Ru 1 rfl ?_
   refine JL.nil ?_
   refine J.seq ?_
   refine Sr ?_
   refine Ru 1 rfl ?_
   refine JL.nil ?_
   refine J.block ?_
   refine J.loop (fun t_ S_ h_ L_ => ∃ (i : Nat), t_ = 9 - i ∧ S_ = [(1, .slice a l.length c), (5, .int .i64 l.length), (7, .int .i64 (2 ^ i : Nat)), (8, .int .i64 i)] ∧ h = h_ ∧ L_ = [] ∧ (i ≤ byteAt l 0)) ⟨_, _, ?_, ⟨0, rfl, rfl, rfl, rfl, by omega⟩⟩ ?_
   ·
    repeat (first | exact trivial | refine ⟨rfl, ?_⟩ | refine ⟨(by exact some_int (by first | rfl | (rw [Nat.pow_succ]; omega))), ?_⟩)
   rintro _ _ _ _ ⟨i, rfl, rfl, rfl, rfl, hi⟩
   have hpi := pow7 i (by omega)
   refine J.seq ?_
   refine Sr ?_
   refine Ru 2 rfl ?_
   refine JL.ope (RunE.index sl_25 rfl rfl (show _ = ((0 : Nat) : Int) from rfl) (by assumption) rfl (by omega)) rfl ?_
   rintro _ ⟨b27, o27, hi27, rfl, hE27⟩
   refine JL.op (RunV.ld_u8 ag_5 rfl (by assumption)) rfl ?_
   refine JL.op z8_ rfl ?_
   refine Ru 1 rfl ?_
   refine JL.nil ?_
   refine Cs rfl (fun hc29 => ?_) fun hc29 => ?_
   ·
    refine J.skip ?_
    refine J.seq ?_
    refine J.block ?_
    refine Rg ?_
    refine Ru 1 rfl ?_
    refine JL.op z17_ rfl ?_
    refine Ru 1 rfl ?_
    refine JL.nil ?_
    refine Rg ?_
    refine Ru 1 rfl ?_
    refine JL.op ai_ rfl ?_
    refine Ru 1 rfl ?_
    refine JL.nil ?_
    refine ⟨_, ?_, _, ?_, ⟨i + 1, rfl, rfl, rfl, rfl, by omega⟩⟩
    ·
     omega
    repeat (first | exact trivial | refine ⟨rfl, ?_⟩ | refine ⟨(by exact some_int (by first | rfl | (rw [Nat.pow_succ]; omega))), ?_⟩)
   have hib : i = byteAt l 0 := (by omega); rw [hib]
   refine J.exit ?_
   refine Kp [1, 5, 7] rfl ?_
   refine J.seq ?_
   refine Sr ?_
   refine Ru 2 rfl ?_
   refine JL.nil ?_
   refine Cs rfl (fun hc30 => ?_) fun hc30 => ?_
   ·
    refine Sr ?_
    refine Ru 3 rfl ?_
    refine Nk [4, 1, 5, 7] rfl ?_
    exact J.retP (RetV.one rfl rfl) z0_ rfl
   refine J.skip ?_
   refine Sr ?_
   refine Ru 2 rfl ?_
   refine JL.op si_ rfl ?_
   refine JL.ope (RunE.index (m := l.length - 1) sl_25 rfl rfl (by omega) hl rfl (by omega)) rfl ?_
   rintro _ ⟨b31, o31, hi31, rfl, hE31⟩
   refine JL.op (RunV.ld_u8 ag_5 rfl (by assumption)) rfl ?_
   refine JL.op z8_ rfl ?_
   refine Ru 1 rfl ?_
   refine JL.op z26_ rfl ?_
   refine Ru 2 rfl ?_
   refine Nk [4] rfl ?_
   exact J.retP (RetV.one rfl rfl) z0_ rfl
  refine Sr ?_
  refine Ru 2 rfl ?_
  refine JL.nil ?_
  refine Cs rfl (fun hc33 => ?_) fun hc33 => ?_
  ·
   refine Sr ?_
   refine Ru 3 rfl ?_
   refine Nk [4] rfl ?_
   exact J.retP (RetV.one rfl rfl) z0_ rfl
  refine Sr ?_
  refine Ru 2 rfl ?_
  refine Nk [96, 18, 4, 1] rfl ?_
  refine Cs rfl (fun hc34 => ?_) fun hc34 => ?_
  ·
   refine Sr ?_
   refine Ru 1 rfl ?_
   refine JL.callP ca_111 rfl (roidtext_fn (by assumption) (by omega)) rfl ?_
   refine Ru 5 rfl ?_
   refine Nk [10, 4] rfl ?_
   refine Sr ?_
   refine Ru 3 rfl ?_
   refine JL.nil ?_
   exact J.retP (RetV.one rfl rfl) z0_ rfl
  refine Sr ?_
  refine Ru 2 rfl ?_
  refine JL.nil ?_
  refine Cs rfl (fun hc36 => ?_) fun hc36 => ?_
  ·
   refine Sr ?_
   refine Ru 1 rfl ?_
   refine JL.op (RunV.strB sb_25_9 rfl (by assumption) rfl) rfl ?_
   refine JL.callP ca_176 rfl (rutf8_fn _ _ (by omega)) rfl ?_
   refine Ru 1 rfl ?_
   refine Nk [4] rfl ?_
   exact J.retP (RetV.one rfl rfl) z0_ rfl
  refine Sr ?_
  refine Ru 2 rfl ?_
  refine Nk [110, 18, 4, 1] rfl ?_
  refine Cs rfl (fun hc38 => ?_) fun hc38 => ?_
  ·
   refine Sr ?_
   refine Ru 1 rfl ?_
   refine JL.op (RunV.strB sb_25_9 rfl (by assumption) rfl) rfl ?_
   refine JL.callP ca_177 rfl (rprint_fn _ _ (by omega)) rfl ?_
   refine Ru 1 rfl ?_
   refine Nk [4] rfl ?_
   exact J.retP (RetV.one rfl rfl) z0_ rfl
  refine Sr ?_
  refine Ru 2 rfl ?_
  refine JL.nil ?_
  refine Cs rfl (fun hc40 => ?_) fun hc40 => ?_
  ·
   refine Sr ?_
   refine Ru 1 rfl ?_
   refine JL.op (RunV.strB sb_25_9 rfl (by assumption) rfl) rfl ?_
   refine JL.callP ca_178 rfl (ria5_fn _ _ (by omega)) rfl ?_
   refine Ru 1 rfl ?_
   refine Nk [4] rfl ?_
   exact J.retP (RetV.one rfl rfl) z0_ rfl
  refine Sr ?_
  refine Ru 2 rfl ?_
  refine Nk [120, 18, 4, 1] rfl ?_
  refine Cs rfl (fun hc42 => ?_) fun hc42 => ?_
  ·
   refine Sr ?_
   refine Ru 1 rfl ?_
   refine JL.op (RunV.strB sb_25_9 rfl (by assumption) rfl) rfl ?_
   refine JL.callP ca_179 rfl (rpshort_fn _ _ (by omega)) rfl ?_
   refine Ru 5 rfl ?_
   refine Nk [12, 4] rfl ?_
   refine Sr ?_
   refine Ru 3 rfl ?_
   refine JL.nil ?_
   exact J.retP (RetV.one rfl rfl) z0_ rfl
  refine Sr ?_
  refine Ru 2 rfl ?_
  refine JL.nil ?_
  refine Cs rfl (fun hc44 => ?_) fun hc44 => ?_
  ·
   refine Sr ?_
   refine Ru 1 rfl ?_
   refine JL.op (RunV.strB sb_25_9 rfl (by assumption) rfl) rfl ?_
   refine JL.callP ca_180 rfl (rplong_fn _ _ (by omega)) rfl ?_
   refine Ru 7 rfl ?_
   refine Nk [15, 4] rfl ?_
   refine Sr ?_
   refine Ru 3 rfl ?_
   refine JL.nil ?_
   exact J.retP (RetV.one rfl rfl) z0_ rfl
  refine J.skip ?_
  refine Kp [4] rfl ?_
  refine Sr ?_
  refine Ru 1 rfl ?_
  refine JL.nil ?_
  exact J.retP (RetV.one rfl rfl) z0_ rfl
theorem below_cmp : ∀ (l r : List UInt8), belowB l r = decide (0 < Go.Lib.compareBytes r l)
  | [], [] => rfl
  | [], _ :: _ => rfl
  | _ :: _, [] => rfl
  | a :: l, b :: r => by
    have ih := below_cmp l r
    show (if a = b then belowB l r else decide (a < b)) = decide (0 < (if b < a then (-1 : Int) else if a < b then 1 else Go.Lib.compareBytes r l))
    by_cases h : a = b
    · subst h
      rw [if_pos rfl, if_neg (by simp [UInt8.lt_iff_toNat_lt]), if_neg (by simp [UInt8.lt_iff_toNat_lt]), ih]
    · rw [if_neg h]
      have hn : a.toNat ≠ b.toNat := fun e => h (UInt8.toNat_inj.1 e)
      by_cases h2 : b < a
      · rw [if_pos h2]
        rw [UInt8.lt_iff_toNat_lt] at h2
        exact decide_eq_decide.2 ⟨fun h3 => by rw [UInt8.lt_iff_toNat_lt] at h3; omega, fun h3 => by omega⟩
      · have h3 : a < b := by rw [UInt8.lt_iff_toNat_lt] at h2 ⊢; omega
        rw [if_neg h2, if_pos h3, decide_eq_true h3]; rfl
theorem put_cons {c t : Int} {bs : List UInt8} {ks : List Nd} (h : mayB c t true = true) (hb : bs.length = 0) : (Nd.mk c t true bs ks).put = (Nd.putL (decide (c = 0) && decide (t = 17)) ks none []).map (fun b => headB c t true b.length ++ b) := by
  have hn : bs = [] := List.eq_nil_of_length_eq_zero hb
  subst hn
  have hok : okN c t true [] ks = true := by unfold okN; rw [h]; simp
  simp only [Nd.put]
  rw [if_pos hok]
theorem put_prim {c t : Int} {bs : List UInt8} {ks : List Nd} (h : mayB c t false = true) (hk : ks.length = 0) : (Nd.mk c t false bs ks).put = if decide (c = 0) && !valB t bs then none else some (headB c t false bs.length ++ bs) := by
  have hn : ks = [] := List.eq_nil_of_length_eq_zero hk
  subst hn
  have hok : okN c t false bs [] = !(decide (c = 0) && !valB t bs) := by unfold okN; rw [h]; simp
  simp only [Nd.put]
  rw [hok]
  cases decide (c = 0) && !valB t bs <;> rfl
theorem put_bad {c t : Int} {k : Bool} {bs : List UInt8} {ks : List Nd} (h : ¬ (mayB c t k = true ∧ (k = true → bs.length = 0) ∧ (k = false → ks.length = 0))) : (Nd.mk c t k bs ks).put = none := by
  simp only [Nd.put]
  rw [if_neg]
  intro hok
  refine h ?_
  unfold okN at hok
  rw [Bool.and_eq_true, Bool.and_eq_true, Bool.and_eq_true] at hok
  obtain ⟨h1, h2, h3, _⟩ := hok
  refine ⟨h1, ?_, ?_⟩
  · rintro rfl
    simp at h2
    exact List.length_eq_zero_iff.2 h2
  · rintro rfl
    simp at h3
    exact List.length_eq_zero_iff.2 h3
theorem may_rng {c t : Int} {k : Bool} (h : mayB c t k = true) : (c = 0 ∨ c = 2) ∧ 0 ≤ t ∧ t ≤ 30 := by
  unfold mayB at h
  simp only [Bool.and_eq_true, Bool.or_eq_true, decide_eq_true_eq] at h
  obtain ⟨h1, h2⟩ := h
  exact ⟨by rcases h2 with h2 | h2; exact .inr h2; exact .inl h2.1, h1⟩
theorem rbytes_fn : ∀ (n : Nat) (x : Nd) (cs : List Value) (h : Part), x.rk ≤ n → NdR h cs x → x.sz ≤ 10000000 →
    FnR Tryz.prog 53 [.agg cs.toArray] h (fun v h' => ∃ a c, v = .tuple #[.slice a (x.put.getD []).length c, .bool x.put.isSome] ∧ SlR u8R 1 h' a c (x.put.getD [])) := by
  intro n
  induction n with
  | zero => intro x cs h hx; cases x; simp [Nd.rk] at hx
  | succ n ih =>
  intro x cs h hx r hsz
  cases x with
  | mk c t k bs ks =>
  obtain ⟨a, ca, b, cb, rfl, ha, hb⟩ := r.inv
  have hl := hb.big
  have hl2 := ha.big
  simp only [Nd.rk] at hx
  simp only [Nd.sz] at hsz
  have hkr : ∀ i (hi : i < ks.length), ks[i].rk ≤ n ∧ ks[i].sz ≤ Nd.szL ks := fun i hi => ⟨by have := Nd.rk_lt (List.getElem_mem hi); omega, Nd.sz_le (List.getElem_mem hi)⟩
  refine Fn.intro Tryz.func53 rfl Tryz.ntmps53 rfl (fun e he => ?_)
  refine J.weak [(0, _)] ⟨rfl, trivial⟩ ?_
  have hh0 := Part.le.refl h
  refine Sr ?_
  refine JL.box rfl rfl rfl (fun b1 => ?_)
  refine Ru 2 rfl ?_
  refine JL.nil ?_
  refine J.seq ?_
  refine J.seq ?_
  refine J.meet [(39, .bool (decide (¬ (mayB c t k = true ∧ (k = true → bs.length = 0) ∧ (k = false → ks.length = 0)))))] [(3, _), (2, _), (1, _)] ⟨rfl, rfl, rfl, trivial⟩ ?_ ?_
  ·
   refine Rg ?_
   refine Ru 1 rfl ?_
   refine JL.op (RunV.own1 ag_3 rfl mm_ rfl) rfl ?_
   refine Ru 1 rfl ?_
   refine JL.op (RunV.own1 ag_3 rfl mm_ rfl) rfl ?_
   refine Ru 1 rfl ?_
   refine JL.op (RunV.own1 ag_4 rfl mm_ rfl) rfl ?_
   refine JL.callP ca_112 rfl (rmay_fn _ _ _ _) rfl ?_
   refine Ru 2 rfl ?_
   refine Bs 19 rfl (fun hc3 => ?_) fun hc3 => ?_
   ·
    refine Ru 20 rfl ?_
    refine JL.nil ?_
    refine ⟨rfl, rfl, ?_⟩
    exact z32_
   refine Ru 1 rfl ?_
   refine JL.opg rfl rfl  (RunV.own1 ag_4 rfl mm_ rfl) rfl ?_
   refine Ru 1 rfl ?_
   refine Bs 22 rfl (fun hc4 => ?_) fun hc4 => ?_
   ·
    refine Ru 1 rfl ?_
    refine JL.opg rfl rfl  (RunV.own1 ag_25 rfl mm_ rfl) rfl ?_
    refine Ru 5 rfl ?_
    refine Bs 29 rfl (fun hc5 => ?_) fun hc5 => ?_
    ·
     refine Ru 10 rfl ?_
     refine JL.nil ?_
     refine ⟨rfl, rfl, ?_⟩
     exact z32_
    refine Ru 1 rfl ?_
    refine JL.opg rfl rfl  (RunV.own1 ag_4 rfl mm_ rfl) rfl ?_
    refine Ru 2 rfl ?_
    refine Bs 33 rfl (fun hc6 => ?_) fun hc6 => ?_
    ·
     refine Ru 1 rfl ?_
     refine JL.opg rfl rfl  (RunV.own1 ag_26 rfl mm_ rfl) rfl ?_
     refine Ru 4 rfl ?_
     refine JL.nil ?_
     refine ⟨rfl, rfl, ?_⟩
     exact z32_
    refine Ru 6 rfl ?_
    refine JL.nil ?_
    refine ⟨rfl, rfl, ?_⟩
    exact z32_
   refine Ru 8 rfl ?_
   refine JL.opg rfl rfl  (RunV.own1 ag_4 rfl mm_ rfl) rfl ?_
   refine Ru 2 rfl ?_
   refine Bs 33 rfl (fun hc7 => ?_) fun hc7 => ?_
   ·
    refine Ru 1 rfl ?_
    refine JL.opg rfl rfl  (RunV.own1 ag_26 rfl mm_ rfl) rfl ?_
    refine Ru 4 rfl ?_
    refine JL.nil ?_
    refine ⟨rfl, rfl, ?_⟩
    exact z32_
   refine Ru 6 rfl ?_
   refine JL.nil ?_
   refine ⟨rfl, rfl, ?_⟩
   exact z32_
  refine Cs rfl (fun hc8 => ?_) fun hc8 => ?_
  ·
   have hz := put_bad hc8
   refine Sr ?_
   refine Ru 2 rfl ?_
   refine JL.nil ?_
   rw [hz]; exact J.retR (RetV.two rfl rfl rfl) ⟨none, 0, rfl, SlR.nil_⟩
  obtain ⟨hm, hkb, hkk⟩ : mayB c t k = true ∧ (k = true → bs.length = 0) ∧ (k = false → ks.length = 0) := (by first | exact hc8 | exact Classical.not_not.1 hc8); have hrg := may_rng hm
  refine J.skip ?_
  refine Sr ?_
  refine Ru 1 rfl ?_
  refine JL.op (RunV.own1 ag_3 rfl mm_ rfl) rfl ?_
  refine JL.op z17_ rfl ?_
  refine Ru 1 rfl ?_
  refine JL.op (RunV.own1 ag_3 rfl mm_ rfl) rfl ?_
  refine JL.op ai_ rfl ?_
  refine Ru 1 rfl ?_
  refine Nk [4, 3, 2, 1] rfl ?_
  refine Sr ?_
  refine Ru 1 rfl ?_
  refine JL.op (RunV.own1 ag_25 rfl mm_ rfl) rfl ?_
  refine Ru 1 rfl ?_
  refine JL.nil ?_
  refine J.seq ?_
  refine Sr ?_
  refine Ru 1 rfl ?_
  refine JL.op (RunV.own1 ag_4 rfl mm_ rfl) rfl ?_
  refine JL.nil ?_
  refine Cs rfl (fun hc9 => ?_) fun hc9 => ?_
  ·
   subst hc9; have hbz := hkb rfl; have hpc := put_cons (bs := bs) (ks := ks) hm hbz
   refine Sr ?_
   refine Ru 1 rfl ?_
   refine JL.op ai_ rfl ?_
   refine Ru 1 rfl ?_
   refine Nk [4, 5, 3, 2, 1] rfl ?_
   refine Sr ?_
   refine Ru 1 rfl ?_
   refine JL.nil ?_
   refine Sr ?_
   refine JL.row_nil 5 1 ?_
   refine Ru 1 rfl ?_
   refine JL.nil ?_
   refine Sr ?_
   refine Ru 1 rfl ?_
   refine JL.nil ?_
   refine J.block ?_
   refine J.loop (fun t_ S_ h_ L_ => ∃ (g : Part) (i : Nat) (inB lb : List UInt8) (ai la : Option Addr) (ci lc : Nat), t_ = ks.length - i ∧ S_ = [(1, .pointer (some ⟨b1, 0, none⟩)), (4, .int .i64 (64 * c + t + 32)), (5, .slice ai inB.length ci), (6, .slice la lb.length lc), (7, .int .i64 i)] ∧ g = h_ ∧ L_ = [.row ai ci 5 1 inB.length (u8s inB), .blk b1 28 [.int .i64 c, .int .i64 t, .bool true, .slice a bs.length ca, .slice b ks.length cb]] ∧ (h.le g ∧ i ≤ ks.length ∧ SlR u8R 1 g la lc lb ∧ inB.length ≤ 8 * Nd.szL (ks.take i) ∧ Nd.putL (decide (c = 0) && decide (t = 17)) ks none [] = Nd.putL (decide (c = 0) && decide (t = 17)) (ks.drop i) (if i = 0 then none else some lb) inB)) ⟨_, _, ?_, ⟨_, 0, [], [], _, _, _, _, rfl, rfl, rfl, rfl, ⟨by assumption, by omega, SlR.nil_, by simp, rfl⟩⟩⟩ ?_
   ·
    exact z7_
   rintro _ _ _ _ ⟨g, i, inB, lb, ai, la, ci, lc, rfl, rfl, rfl, rfl, hhg, hi, hla, hil, hp⟩
   have r := r.mono hhg; have ha := ha.mono hhg; have hb := hb.mono hhg; have hst := Nd.szL_take_le ks i
   refine J.seq ?_
   refine Sr ?_
   refine Ru 2 rfl ?_
   refine JL.op (RunV.own1 ag_26 rfl mm_ rfl) rfl ?_
   refine Ru 2 rfl ?_
   refine JL.nil ?_
   refine Cs rfl (fun hc10 => ?_) fun hc10 => ?_
   ·
    have hi' : i < ks.length := (by omega); have hzt := Nd.szL_take ks i hi'; have hst2 := Nd.szL_take_le ks (i + 1); have hki := hkr i hi'; have hps := Nd.putL_step (decide (c = 0) && decide (t = 17)) ks i (if i = 0 then none else some lb) inB hi'
    refine J.skip ?_
    refine J.seq ?_
    refine J.block ?_
    refine Sr ?_
    refine Ru 1 rfl ?_
    refine JL.op (RunV.own1 ag_26 rfl mm_ rfl) rfl ?_
    refine Ru 1 rfl ?_
    refine JL.ope (RunE.index sl_26 rfl rfl z10_ (by assumption) rfl (by omega)) rfl ?_
    rintro _ ⟨b11, o11, hi11, rfl, hE11⟩
    refine JL.ope (RunE.loadA ag_28 rfl (by assumption)) rfl ?_
    rintro _ ⟨_, rfl, hNd12⟩
    refine JL.callR ca_53 rfl (ih (ks[i]'(by omega)) _ _ hki.1 (by assumption) (by omega)) rfl ?_
    rintro _ h13 hle13 ⟨ka, kc, rfl, hkS⟩
    replace r := r.mono hle13
    replace ha := ha.mono hle13
    replace hb := hb.mono hle13
    replace hhg := hhg.mono hle13
    replace hla := hla.mono hle13
    replace hNd12 := hNd12.mono hle13
    obtain ⟨kp, hkp⟩ : ∃ kp, kp = (ks[i]'(by omega)).put := ⟨_, rfl⟩; rw [← hkp] at hkS hps ⊢; obtain ⟨BB, hBB⟩ : ∃ BB, BB = (!kp.isSome || ((decide (c = 0) && decide (t = 17)) && (decide ((0 : Int) < i) && belowB (kp.getD []) lb))) := ⟨_, rfl⟩
    refine Ru 5 rfl ?_
    refine JL.nil ?_
    refine J.seq ?_
    refine J.seq ?_
    refine J.meet [(88, .bool BB)] [(9, _), (8, _), (67, _), (66, _), (59, _), (65, _), (64, _), (63, _), (62, _), (61, _), (60, _), (56, _), (55, _), (54, _), (53, _), (52, _), (1, _), (4, _), (5, _), (6, _), (7, _)] ⟨rfl, rfl, rfl, rfl, rfl, rfl, rfl, rfl, rfl, rfl, rfl, rfl, rfl, rfl, rfl, rfl, rfl, rfl, rfl, rfl, rfl, trivial⟩ ?_ ?_
    ·
     refine Rg ?_
     refine Ru 3 rfl ?_
     refine Bs 70 rfl (fun hc14 => ?_) fun hc14 => ?_
     ·
      refine Ru 18 rfl ?_
      refine JL.nil ?_
      refine ⟨rfl, rfl, ?_⟩
      exact z41_
     refine Ru 1 rfl ?_
     refine JL.opg rfl rfl  (RunV.own1 ag_3 rfl mm_ rfl) rfl ?_
     refine Ru 2 rfl ?_
     refine Bs 74 rfl (fun hc15 => ?_) fun hc15 => ?_
     ·
      refine Ru 1 rfl ?_
      refine JL.opg rfl rfl  (RunV.own1 ag_3 rfl mm_ rfl) rfl ?_
      refine Ru 3 rfl ?_
      refine Bs 79 rfl (fun hc16 => ?_) fun hc16 => ?_
      ·
       refine Ru 4 rfl ?_
       refine Bs 83 rfl (fun hc17 => ?_) fun hc17 => ?_
       ·
        refine Ru 2 rfl ?_
        refine JL.callPg rfl rfl  ca_113 rfl (below_fn (by assumption) (by assumption)) rfl ?_
        refine Ru 2 rfl ?_
        refine JL.nil ?_
        refine ⟨rfl, rfl, ?_⟩
        exact z41_
       refine Ru 5 rfl ?_
       refine JL.nil ?_
       refine ⟨rfl, rfl, ?_⟩
       exact z41_
      refine Ru 9 rfl ?_
      refine JL.nil ?_
      refine ⟨rfl, rfl, ?_⟩
      exact z41_
     refine Ru 14 rfl ?_
     refine JL.nil ?_
     refine ⟨rfl, rfl, ?_⟩
     exact z41_
    refine Cs rfl (fun hc19 => ?_) fun hc19 => ?_
    ·
     have hz : (Nd.mk c t true bs ks).put = none := (by rw [hpc, hp, hps]; rw [hc19] at hBB; cases kp with
       | none => rfl
       | some kb => show Option.map _ (if _ then _ else _) = _; rw [if_pos (by rw [above_if, ← below_cmp]; simpa using hBB.symm)]; rfl)
     refine Sr ?_
     refine Ru 2 rfl ?_
     refine JL.nil ?_
     rw [hz]; exact J.retR (RetV.two rfl rfl rfl) ⟨none, 0, rfl, SlR.nil_⟩
    rw [hc19] at hBB; obtain ⟨kb, hkb2⟩ : ∃ kb, kp = some kb := (by cases kp with
      | none => simp at hBB
      | some kb => exact ⟨kb, rfl⟩)
    subst hkb2; simp only [Option.getD_some] at hkS ⊢; have hcz : ((decide (c = 0) && decide (t = 17)) && (decide ((0 : Int) < i) && belowB kb lb)) = false := (by rw [Option.isSome_some, Bool.not_true, Bool.false_or] at hBB; exact hBB.symm); have hkl := Nd.put_len _ _ kb (Nat.le_refl _) hkp.symm
    refine J.skip ?_
    refine Sr ?_
    refine Ru 2 rfl ?_
    refine JL.append ap_25 rfl rfl CellsR.of_u8 rfl (by assumption) rfl dl_ z4_ rfl rfl (fun a20 c20 xs20 hC20 hN20 => ?_)
    obtain rfl := hC20.u8
    refine Ru 1 rfl ?_
    refine JL.nil ?_
    refine Rg ?_
    refine Ru 2 rfl ?_
    refine JL.nil ?_
    refine Rg ?_
    refine Ru 1 rfl ?_
    refine JL.op ai_ rfl ?_
    refine Ru 1 rfl ?_
    refine JL.nil ?_
    refine ⟨_, ?_, _, ?_, ⟨_, i + 1, inB ++ kb, kb, _, _, _, _, rfl, rfl, rfl, rfl, ⟨by assumption, by omega, by assumption, by rw [List.length_append, hzt]; omega, by rw [hp, hps]; show (if _ then _ else _) = _; rw [if_neg (by rw [above_if, ← below_cmp, hcz]; decide), if_neg (by omega)]⟩⟩⟩
    ·
     omega
    exact z7_
   refine J.pub (R := u8R) (l := inB) dl_ CellsR.of_u8 rfl (by omega) (fun h9 hle9 hP9 => ?_); replace hhg := hhg.mono hle9; replace r := r.mono hle9; replace hb := hb.mono hle9; replace hla := hla.mono hle9; clear ha; have ha := hP9; obtain ⟨TG, htg, hz⟩ : ∃ TG : Nat, 64 * c + t + 32 = TG ∧ (Nd.mk c t true bs ks).put = some ((UInt8.ofNat TG :: lenB inB.length) ++ inB) := ⟨tagN c t true, by unfold tagN; rw [if_pos rfl]; omega, by rw [hpc, hp, List.drop_of_length_le (by omega)]; rfl⟩; have hinl : inB.length ≤ 100000000 := (by omega)
   refine J.exit ?_
   refine Kp [4, 5] rfl ?_
   refine Sr ?_
   refine Ru 1 rfl ?_
   refine JL.op (RunV.toByte TG cv_3_5 rfl htg) rfl ?_
   refine JL.lit1 ap_25 zr_5 rfl rfl rfl rfl rfl (fun b21 => ?_)
   refine Ru 1 rfl ?_
   refine JL.nil ?_
   refine Sr ?_
   refine Ru 3 rfl ?_
   refine JL.callR ca_115 rfl (length_fn (by omega)) rfl ?_
   rintro _ h22 hle22 ⟨a22, c22, rfl, hS22⟩
   replace r := r.mono hle22
   replace ha := ha.mono hle22
   replace hb := hb.mono hle22
   replace hhg := hhg.mono hle22
   replace hla := hla.mono hle22
   have hlb9 : (lenB inB.length).length ≤ 8 := (by have := headB_len 0 0 false inB.length; unfold headB at this; simp only [List.length_cons] at this; omega)
   refine JL.rowL (l := [UInt8.ofNat TG]) (b := b21) dl_ (by first | rfl | kernel_rfl) (by first | decide | (simp; done)) ?_
   refine JL.append ap_25 rfl rfl CellsR.of_u8 rfl (by assumption) rfl dl_ z4_ rfl rfl (fun a23 c23 xs23 hC23 hN23 => ?_)
   obtain rfl := hC23.u8
   refine Ru 1 rfl ?_
   refine Nk [10, 5] rfl ?_
   refine Sr ?_
   refine Ru 2 rfl ?_
   refine JL.append ap_25 rfl rfl CellsR.of_u8 rfl (by assumption) rfl dl_ z4_ rfl rfl (fun a24 c24 xs24 hC24 hN24 => ?_)
   obtain rfl := hC24.u8
   refine JL.pub (R := u8R) (l := (UInt8.ofNat TG :: lenB inB.length) ++ inB) dl_ CellsR.of_u8 rfl z4_ (fun h25 hle25 hP25 => ?_)
   replace r := r.mono hle25
   replace ha := ha.mono hle25
   replace hb := hb.mono hle25
   replace hhg := hhg.mono hle25
   replace hla := hla.mono hle25
   replace hS22 := hS22.mono hle25
   refine Ru 2 rfl ?_
   refine Nk [3, 2] rfl ?_
   rw [hz]; exact J.retR (RetV.two rfl rfl rfl) ⟨_, _, rfl, by assumption⟩
  subst hc9; have hkz := hkk rfl; have hpp := put_prim (bs := bs) (ks := ks) hm hkz; have hhg := hh0
  refine J.seq ?_
  refine J.meet [(103, .bool (decide (c = 0) && !valB t bs))] [(5, _), (4, _), (3, _), (2, _)] ⟨rfl, rfl, rfl, rfl, trivial⟩ ?_ ?_
  ·
   refine Rg ?_
   refine Ru 1 rfl ?_
   refine JL.op (RunV.own1 ag_3 rfl mm_ rfl) rfl ?_
   refine Ru 2 rfl ?_
   refine Bs 96 rfl (fun hc26 => ?_) fun hc26 => ?_
   ·
    refine Ru 1 rfl ?_
    refine JL.opg rfl rfl  (RunV.own1 ag_3 rfl mm_ rfl) rfl ?_
    refine Ru 1 rfl ?_
    refine JL.opg rfl rfl  (RunV.own1 ag_25 rfl mm_ rfl) rfl ?_
    refine JL.callPg rfl rfl  ca_114 rfl (rvalue_fn (by assumption) (by omega)) rfl ?_
    refine Ru 2 rfl ?_
    refine JL.nil ?_
    refine ⟨rfl, rfl, ?_⟩
    repeat (first | exact trivial | refine ⟨rfl, ?_⟩ | refine ⟨(by exact some_bool (by simp_all)), ?_⟩)
   refine Ru 7 rfl ?_
   refine JL.nil ?_
   refine ⟨rfl, rfl, ?_⟩
   repeat (first | exact trivial | refine ⟨rfl, ?_⟩ | refine ⟨(by exact some_bool (by simp_all)), ?_⟩)
  refine Cs rfl (fun hc28 => ?_) fun hc28 => ?_
  ·
   have hz : (Nd.mk c t false bs ks).put = none := (by rw [hpp, if_pos (by simpa using hc28)])
   refine Sr ?_
   refine Ru 2 rfl ?_
   refine JL.nil ?_
   rw [hz]; exact J.retR (RetV.two rfl rfl rfl) ⟨none, 0, rfl, SlR.nil_⟩
  obtain ⟨inB, hinB⟩ : ∃ inB, inB = bs := ⟨_, rfl⟩; rw [← hinB]; rw [← hinB] at ha; obtain ⟨TG, htg, hz⟩ : ∃ TG : Nat, 64 * c + t = TG ∧ (Nd.mk c t false inB ks).put = some ((UInt8.ofNat TG :: lenB inB.length) ++ inB) := ⟨tagN c t false, by unfold tagN; rw [if_neg (by decide)]; omega, by rw [hinB, hpp, if_neg (by rw [Bool.not_eq_true]; first | exact hc28 | (simpa using hc28) | (cases hv : (decide (c = 0) && !valB t bs); rfl; exfalso; simp_all))]; rfl⟩; have hinl : inB.length ≤ 100000000 := (by rw [hinB]; omega)
  refine J.skip ?_
  refine Sr ?_
  refine Ru 1 rfl ?_
  refine JL.op (RunV.toByte TG cv_3_5 rfl htg) rfl ?_
  refine JL.lit1 ap_25 zr_5 rfl rfl rfl rfl rfl (fun b29 => ?_)
  refine Ru 1 rfl ?_
  refine Nk [10, 5, 3, 2] rfl ?_
  refine Sr ?_
  refine Ru 3 rfl ?_
  refine JL.callR ca_115 rfl (length_fn (by omega)) rfl ?_
  rintro _ h30 hle30 ⟨a30, c30, rfl, hS30⟩
  replace r := r.mono hle30
  replace ha := ha.mono hle30
  replace hb := hb.mono hle30
  have hlb9 : (lenB inB.length).length ≤ 8 := (by have := headB_len 0 0 false inB.length; unfold headB at this; simp only [List.length_cons] at this; omega)
  refine JL.rowL (l := [UInt8.ofNat TG]) (b := b29) dl_ (by first | rfl | kernel_rfl) (by first | decide | (simp; done)) ?_
  refine JL.append ap_25 rfl rfl CellsR.of_u8 rfl (by assumption) rfl dl_ z4_ rfl rfl (fun a31 c31 xs31 hC31 hN31 => ?_)
  obtain rfl := hC31.u8
  refine Ru 1 rfl ?_
  refine Nk [10, 5, 3, 2] rfl ?_
  refine Sr ?_
  refine Ru 2 rfl ?_
  refine JL.append ap_25 rfl rfl CellsR.of_u8 rfl (by assumption) rfl dl_ z4_ rfl rfl (fun a32 c32 xs32 hC32 hN32 => ?_)
  obtain rfl := hC32.u8
  refine JL.pub (R := u8R) (l := (UInt8.ofNat TG :: lenB inB.length) ++ inB) dl_ CellsR.of_u8 rfl z4_ (fun h33 hle33 hP33 => ?_)
  replace r := r.mono hle33
  replace ha := ha.mono hle33
  replace hb := hb.mono hle33
  replace hS30 := hS30.mono hle33
  refine Ru 2 rfl ?_
  refine Nk [3, 2] rfl ?_
  rw [hz]; exact J.retR (RetV.two rfl rfl rfl) ⟨_, _, rfl, by assumption⟩
theorem rbytes_fn' {x : Nd} {cs : List Value} {h : Part} (r : NdR h cs x) (hs : x.sz ≤ 10000000) : FnR Tryz.prog 53 [.agg cs.toArray] h (fun v h' => ∃ a c, v = .tuple #[.slice a (x.put.getD []).length c, .bool x.put.isSome] ∧ SlR u8R 1 h' a c (x.put.getD [])) := rbytes_fn _ x cs h (Nat.le_refl _) r hs
theorem rright_fn {x : Nd} {cs : List Value} {h : Part} (r : NdR h cs x) (hs : x.sz ≤ 10000000) : Pure Tryz.prog 171 [.agg cs.toArray] h (.bool x.put.isSome) := by
  refine Pure.ofV ?_
  refine Fn.intro Tryz.func171 rfl Tryz.ntmps171 rfl (fun e he => ?_)
  refine J.weak [(0, _)] ⟨rfl, trivial⟩ ?_
  refine Sr ?_
  refine JL.box rfl rfl rfl (fun b1 => ?_)
  refine Ru 1 rfl ?_
  refine JL.nil ?_
  refine Sr ?_
  refine JL.op (RunV.ownA ag_28 rfl mm_ z5_) rfl ?_
  refine JL.callR ca_53 rfl (rbytes_fn' (by assumption) (by omega)) rfl ?_
  rintro _ h2 hle2 ⟨a2, c2, rfl, hS2⟩
  replace r := r.mono hle2
  refine Ru 5 rfl ?_
  refine Nk [4, 2] rfl ?_
  refine Sr ?_
  refine Ru 2 rfl ?_
  refine JL.nil ?_
  exact J.retV (RetV.one rfl rfl) rfl
end Go.Proofs.YtohlpgoeheggdaaGreatDoor
namespace Go.Proofs.YtohlpgoeheggdaaGreatDoor
open Go Go.RowKit
set_option maxRecDepth 100000
def bl (n : Nat) : Nat := if n = 0 then 0 else n.log2 + 1
end Go.Proofs.YtohlpgoeheggdaaGreatDoor
namespace Go.Proofs.YtohlpgoeheggdaaGreatDoor
open Go Go.RowKit
set_option maxRecDepth 100000
theorem ca_47 : callT Tryz.prog 47 = true := by kernel_rfl
def fitI (n : Int) (j : Nat) : Prop := -128 ≤ n / 256 ^ (j - 1) ∧ n / 256 ^ (j - 1) < 128
instance (n : Int) (j : Nat) : Decidable (fitI n j) := by unfold fitI; infer_instance
theorem whole_fn {c t : Int} {k : Bool} {bs : List UInt8} {ks : List Nd} {cs : List Value} {h : Part} (r : NdR h cs (.mk c t k bs ks)) (hT : Tabs h) (hsz : (Nd.mk c t k bs ks).sz ≤ 1073741824) :
    Pure Tryz.prog 194 [.agg cs.toArray] h (.bool ((decide (c = 0) && (decide (t = 2) || decide (t = 10))) && (Nd.mk c t k bs ks).put.isSome)) := by
  obtain ⟨ka, kca, kb, kcb, rfl, hka, hkb⟩ := r.inv
  refine Pure.ofV ?_
  refine Fn.intro Tryz.func194 rfl Tryz.ntmps194 rfl (fun e he => ?_)
  refine J.weak [(0, _)] ⟨rfl, trivial⟩ ?_
  refine Sr ?_
  refine JL.box rfl rfl rfl (fun b1 => ?_)
  refine Ru 1 rfl ?_
  refine JL.nil ?_
  refine Sr ?_
  refine Ru 1 rfl ?_
  refine JL.op (RunV.own1 ag_3 rfl mm_ rfl) rfl ?_
  refine Ru 2 rfl ?_
  apply An 6 15 9 [2, 1] rfl rfl
  ·
   intro hb2 hc2
   refine Ru 1 rfl ?_
   refine JL.opg rfl rfl  (RunV.own1 ag_3 rfl mm_ rfl) rfl ?_
   refine Ru 2 rfl ?_
   apply On 10 14 4 [6, 2, 1] rfl rfl
   rotate_left
   ·
    intro hb3 hc3
    refine Ru 1 rfl ?_
    refine JL.opg rfl rfl  (RunV.own1 ag_3 rfl mm_ rfl) rfl ?_
    refine Ru 2 rfl ?_
    exact Ae (om_f hb3 rfl) rfl
   rotate_right
   ·
    exact fun hb3 _ => Ru 4 rfl (Ae (om_t hb3 rfl) rfl)
   refine Ru 1 rfl ?_
   exact Ae (am_t hb2 rfl) rfl
  ·
   exact fun hb2 _ => Ru 9 rfl (Ae (am_f hb2 rfl) rfl)
  refine Ru 1 rfl ?_
  apply An 16 19 3 [2] rfl rfl
  ·
   intro hb4 hc4
   refine JL.opg rfl rfl  (RunV.ownA ag_28 rfl mm_ z5_) rfl ?_
   refine JL.callPg rfl rfl  ca_47 rfl (right_fn r hT hsz) rfl ?_
   refine Ru 1 rfl ?_
   exact Ae (am_t hb4 rfl) rfl
  ·
   exact fun hb4 _ => Ru 3 rfl (Ae (am_f hb4 rfl) rfl)
  refine Ru 1 rfl ?_
  refine JL.nil ?_
  exact J.retV (RetV.one rfl rfl) rfl
theorem bits_join256 (x y : Int) (hx : x % 256 = 0) (hx0 : -9223372036854775808 ≤ x) (hx1 : x ≤ 9223372036854775807) (hy0 : 0 ≤ y) (hy1 : y < 256) : bits .or .i64 x y = x + y := by
  have e1 : (BitVec.ofInt 64 x).toNat = (x % 18446744073709551616).toNat := by rw [BitVec.toNat_ofInt]; rfl
  have e2 : (BitVec.ofInt 64 y).toNat = y.toNat := by rw [BitVec.toNat_ofInt, show (((2 ^ 64 : Nat) : Int)) = 18446744073709551616 from rfl]; omega
  show IntKind.i64.wrap (((BitVec.ofInt 64 x) ||| (BitVec.ofInt 64 y)).toNat : Nat) = x + y
  rw [BitVec.toNat_or, e1, e2]
  obtain ⟨q, hq⟩ : ∃ q : Nat, (x % 18446744073709551616).toNat = 2 ^ 8 * q := ⟨(x % 18446744073709551616).toNat / 256, by omega⟩
  rw [hq, ← Nat.two_pow_add_eq_or_of_lt (show y.toNat < 2 ^ 8 by omega) q, IntKind.wrap_i64]
  omega
theorem RunV.join256 {f : Fr} {S : Sig} {h : Part} {L : List Ent} {ty T yt : TypeId} {x y : Operand} {p q : Int} (hx : ev S x = some (.int .i64 p)) (hy : ev S y = some (.int .i64 q)) (hp : p % 256 = 0) (h0 : -9223372036854775808 ≤ p) (h1 : p ≤ 9223372036854775807) (hq0 : 0 ≤ q) (hq : q < 256) : RunV f S h L (.binOp .or T x y yt) ty (.int .i64 (p + q)) := by
  have := RunV.or_ (f := f) (h := h) (L := L) (ty := ty) (T := T) (yt := yt) hx hy
  rwa [bits_join256 p q hp h0 h1 hq0 hq] at this
end Go.Proofs.YtohlpgoeheggdaaGreatDoor
namespace Go.Proofs.YtohlpgoeheggdaaGreatDoor
open Go Go.RowKit
set_option maxRecDepth 100000
def vL : List UInt32 → Nat
  | [] => 0
  | x :: r => x.toNat + 4294967296 * vL r
def nd (n : Nat) : Nat := (bl n + 31) / 32
def beV (b : List UInt8) : Nat := b.foldl (fun v c => v * 256 + c.toNat) 0
theorem beV_from (b : List UInt8) (v : Nat) : b.foldl (fun v c => v * 256 + c.toNat) v = v * 256 ^ b.length + beV b := by
  induction b generalizing v with
  | nil => simp [beV]
  | cons x t ih =>
    unfold beV
    simp only [List.foldl_cons, List.length_cons, Nat.zero_mul, Nat.zero_add]
    rw [ih, ih x.toNat, Nat.pow_succ, Nat.add_mul, Nat.mul_assoc, Nat.mul_comm 256, Nat.add_assoc]
theorem beV_cons (x : UInt8) (t : List UInt8) : beV (x :: t) = x.toNat * 256 ^ t.length + beV t := by
  show t.foldl _ _ = _
  rw [beV_from]; simp
theorem beV_append (l r : List UInt8) : beV (l ++ r) = beV l * 256 ^ r.length + beV r := by
  unfold beV
  rw [List.foldl_append, beV_from]; rfl
theorem beV_lt (b : List UInt8) : beV b < 256 ^ b.length := by
  induction b with
  | nil => simp [beV]
  | cons x t ih =>
    have hx := UInt8.toNat_lt x
    rw [beV_cons, List.length_cons, Nat.pow_succ]
    have : x.toNat * 256 ^ t.length ≤ 255 * 256 ^ t.length := Nat.mul_le_mul_right _ (by omega)
    omega
def ws (k : IntKind) (l : List UInt32) : List Value := l.map fun x => .int k (x.toNat : Int)
end Go.Proofs.YtohlpgoeheggdaaGreatDoor
namespace Go.Proofs.YtohlpgoeheggdaaGreatDoor
open Go Go.RowKit
set_option maxRecDepth 100000
theorem ca_194 : callT Tryz.prog 194 = true := by kernel_rfl
theorem cv_233_2 : convI Tryz.prog 233 2 = some .i64 := by kernel_rfl
theorem cv_5_2 : convI Tryz.prog 5 2 = some .i64 := by kernel_rfl
theorem cv_5_233 : convI Tryz.prog 5 233 = some .i8 := by kernel_rfl
def Nd.whole (x : Nd) : Bool := (decide (x.cls = 0) && (decide (x.tag = 2) || decide (x.tag = 10))) && x.put.isSome
theorem whole_fn' {x : Nd} {cs : List Value} {h : Part} (r : NdR h cs x) (hT : Tabs h) (hsz : x.sz ≤ 1073741824) : Pure Tryz.prog 194 [.agg cs.toArray] h (.bool x.whole) := by
  cases x; exact whole_fn r hT hsz
theorem form_int {t : Int} (h : t = 2 ∨ t = 10) : form t = 1 := by rcases h with rfl | rfl <;> rfl
theorem whole_iff {c t : Int} {k : Bool} {bs : List UInt8} {ks : List Nd} : (Nd.mk c t k bs ks).whole = true ↔ c = 0 ∧ (t = 2 ∨ t = 10) ∧ k = false ∧ ks = [] ∧ leastB bs = true := by
  show ((decide (c = 0) && (decide (t = 2) || decide (t = 10))) && (Nd.mk c t k bs ks).put.isSome) = true ↔ _
  simp only [Bool.and_eq_true, Bool.or_eq_true, decide_eq_true_eq]
  constructor
  · rintro ⟨⟨rfl, ht⟩, hp⟩
    simp only [Nd.put] at hp
    split at hp
    · rename_i hok
      have hf := form_int ht
      have hr : 0 ≤ t ∧ t ≤ 30 := by omega
      unfold okN mayB at hok
      rw [hf, valB_2 ht] at hok
      cases k with
      | true => simp at hok
      | false =>
        have hn : ks = [] := by
          cases ks with
          | nil => rfl
          | cons y r => simp at hok
        subst hn
        simp at hok
        exact ⟨rfl, ht, rfl, rfl, hok.2⟩
    · cases hp
  · rintro ⟨rfl, ht, rfl, rfl, hb⟩
    refine ⟨⟨rfl, ht⟩, ?_⟩
    have hf := form_int ht
    have hr : 0 ≤ t ∧ t ≤ 30 := by omega
    have hok : okN 0 t false bs [] = true := by
      unfold okN mayB
      rw [hf, valB_2 ht, hb]
      simp [hr]
    simp only [Nd.put]
    rw [hok]
    rfl
theorem leastB_pos {b : List UInt8} (h : leastB b = true) : 0 < b.length := by
  unfold leastB at h
  split at h
  · cases h
  · omega
theorem Nd.bytes_sz (c t : Int) (k : Bool) (bs : List UInt8) (ks : List Nd) : bs.length ≤ (Nd.mk c t k bs ks).sz := by simp only [Nd.sz]; omega
def s8 (b : Nat) : Int := if b < 128 then b else b - 256
theorem wrap_s8 (b : Nat) (h : b < 256) : IntKind.i8.wrap (b : Int) = s8 b := by
  unfold IntKind.wrap s8; simp [IntKind.signed, IntKind.bits]; split <;> omega
theorem RunV.toI8 {f : Fr} {S : Sig} {h : Part} {L : List Ent} {ty src dst : TypeId} {x : Operand} {k : IntKind} {b : UInt8} (hc : convI f.P src dst = some .i8) (hx : ev S x = some (.int k (b.toNat : Int))) : RunV f S h L (.convert src dst x) ty (.int .i8 (s8 b.toNat)) := by
  have := RunV.conv (f := f) (h := h) (L := L) (ty := ty) hc hx
  rwa [wrap_s8 _ (UInt8.toNat_lt b)] at this
theorem s8_bd (b : Nat) (h : b < 256) : -128 ≤ s8 b ∧ s8 b ≤ 127 := by unfold s8; split <;> omega
def sV (b : List UInt8) : Int := s8 (byteAt b 0) * 256 ^ (b.length - 1) + beV (b.drop 1)
theorem sV_bd {s : Int} {w i : Nat} (hs : -128 ≤ s ∧ s ≤ 127) (hw : w < 256 ^ i) : -128 * 256 ^ i ≤ s * 256 ^ i + w ∧ s * 256 ^ i + w ≤ 128 * 256 ^ i - 1 := by
  have hp : (0 : Int) ≤ 256 ^ i := Int.le_of_lt (Int.pow_pos (by decide))
  have h1 : -128 * (256 : Int) ^ i ≤ s * 256 ^ i := Int.mul_le_mul_of_nonneg_right hs.1 hp
  have h2 : s * (256 : Int) ^ i ≤ 127 * 256 ^ i := Int.mul_le_mul_of_nonneg_right hs.2 hp
  have h3 : (w : Int) < 256 ^ i := by exact_mod_cast hw
  omega
theorem beV_take_succ (b : List UInt8) (i : Nat) (h : i < b.length) : beV (b.take (i + 1)) = beV (b.take i) * 256 + b[i].toNat := by
  rw [List.take_succ_eq_append_getElem h, beV_append]
  simp [beV_cons, beV]
theorem pow8_le (i : Nat) (h : i ≤ 6) : (256 : Int) ^ i ≤ 281474976710656 := by
  have : i = 0 ∨ i = 1 ∨ i = 2 ∨ i = 3 ∨ i = 4 ∨ i = 5 ∨ i = 6 := by omega
  rcases this with rfl | rfl | rfl | rfl | rfl | rfl | rfl <;> decide
def Nd.intOk (x : Nd) : Bool := x.whole && decide (x.bytes.length ≤ 8)
def Nd.intV (x : Nd) : Int := if x.intOk then sV x.bytes else 0
theorem intOk_eq {c t : Int} {k : Bool} {bs : List UInt8} {ks : List Nd} : (Nd.mk c t k bs ks).intOk = ((Nd.mk c t k bs ks).whole && decide (bs.length ≤ 8)) := rfl
theorem intV_t {c t : Int} {k : Bool} {bs : List UInt8} {ks : List Nd} (h : (Nd.mk c t k bs ks).intOk = true) : (Nd.mk c t k bs ks).intV = sV bs := if_pos h
theorem intV_f {c t : Int} {k : Bool} {bs : List UInt8} {ks : List Nd} (h : (Nd.mk c t k bs ks).intOk = false) : (Nd.mk c t k bs ks).intV = 0 := if_neg (by rw [h]; decide)
theorem intof_fn {x : Nd} {cs : List Value} {h : Part} (r : NdR h cs x) (hT : Tabs h) (hsz : x.sz ≤ 1073741824) :
    Pure Tryz.prog 134 [.agg cs.toArray] h (.tuple #[.int .i64 x.intV, .bool x.intOk]) := by
  cases x with
  | mk c t k bs ks =>
  have hbs := Nd.bytes_sz c t k bs ks
  have hpos : (Nd.mk c t k bs ks).whole = true → 0 < bs.length := fun hw => leastB_pos (whole_iff.1 hw).2.2.2.2
  obtain ⟨ka, kca, kb, kcb, rfl, hka, hkb⟩ := r.inv
  refine Pure.ofV ?_
  refine Fn.intro Tryz.func134 rfl Tryz.ntmps134 rfl (fun e he => ?_)
  refine J.weak [(0, _)] ⟨rfl, trivial⟩ ?_
  refine Sr ?_
  refine JL.box rfl rfl rfl (fun b1 => ?_)
  refine Ru 2 rfl ?_
  refine JL.nil ?_
  refine J.seq ?_
  refine Sr ?_
  refine JL.op (RunV.ownA ag_28 rfl mm_ z5_) rfl ?_
  refine JL.callP ca_194 rfl (whole_fn' (by assumption) (by assumption) (by omega)) rfl ?_
  refine Ru 2 rfl ?_
  apply On 10 15 5 [3, 2, 1] rfl rfl
  rotate_left
  ·
   intro hb3 hc3
   refine Ru 1 rfl ?_
   refine JL.opg rfl rfl  (RunV.own1 ag_25 rfl mm_ rfl) rfl ?_
   refine Ru 3 rfl ?_
   exact Ae (om_f hb3 rfl) rfl
  rotate_right
  ·
   exact fun hb3 _ => Ru 5 rfl (Ae (om_t hb3 rfl) rfl)
  refine JL.nil ?_
  refine Cs rfl (fun hc4 => ?_) fun hc4 => ?_
  ·
   have hff : (Nd.mk c t k bs ks).intOk = false := (by rw [intOk_eq]; revert hc4; cases (Nd.mk c t k bs ks).whole <;> simp <;> omega)
   refine Sr ?_
   refine Ru 2 rfl ?_
   refine JL.nil ?_
   exact J.retV (RetV.two rfl rfl rfl) (by rw [hff, intV_f hff])
  obtain ⟨hww, hb8⟩ : (Nd.mk c t k bs ks).whole = true ∧ bs.length ≤ 8 := (by revert hc4; cases (Nd.mk c t k bs ks).whole <;> simp <;> omega)
  have hps := hpos hww; have hff : (Nd.mk c t k bs ks).intOk = true := (by rw [intOk_eq, hww, decide_eq_true hb8]; rfl); have e0 := byteAt_eq bs 0 hps; have hb0 := byteAt_lt bs 0; have hsb := s8_bd (byteAt bs 0) hb0; have hdl : (bs.drop 1).length = bs.length - 1 := List.length_drop
  refine J.skip ?_
  refine Sr ?_
  refine Ru 1 rfl ?_
  refine JL.op (RunV.own1 ag_25 rfl mm_ rfl) rfl ?_
  refine JL.ope (RunE.index sl_25 rfl rfl (show _ = ((0 : Nat) : Int) from rfl) (by assumption) rfl (by omega)) rfl ?_
  rintro _ ⟨b5, o5, hi5, rfl, hE5⟩
  refine JL.op (RunV.ld_u8 ag_5 rfl (by assumption)) rfl ?_
  refine JL.op (RunV.toI8 cv_5_233 rfl) rfl ?_
  rw [e0]
  refine JL.op (RunV.conv_i64 cv_233_2 rfl (by omega) (by omega)) rfl ?_
  refine Ru 1 rfl ?_
  refine Nk [4, 3, 2, 1] rfl ?_
  refine J.seq ?_
  refine Sr ?_
  refine Ru 1 rfl ?_
  refine JL.op (RunV.own1 ag_25 rfl mm_ rfl) rfl ?_
  refine JL.ope (RunE.cut_l sl_25 rfl rfl (m := 1) rfl hka rfl (by omega)) rfl ?_
  rintro _ ⟨a9, c9, rfl, hS9⟩
  refine Ru 2 rfl ?_
  refine JL.nil ?_
  refine J.block ?_
  refine J.loop (fun t_ S_ h_ L_ => ∃ (i : Nat) (w : Int), t_ = bs.length - i ∧ S_ = [(4, .int .i64 w), (24, .slice a9 (bs.drop 1).length c9), (25, .int .i64 (bs.drop 1).length), (26, .int .i64 i)] ∧ h = h_ ∧ L_ = [.blk b1 28 [.int .i64 c, .int .i64 t, .bool k, .slice ka bs.length kca, .slice kb ks.length kcb]] ∧ (i ≤ (bs.drop 1).length ∧ w = s8 (byteAt bs 0) * 256 ^ i + beV ((bs.drop 1).take i))) ⟨_, _, ?_, ⟨0, s8 (byteAt bs 0), rfl, rfl, rfl, rfl, ⟨by omega, by simp [beV]⟩⟩⟩ ?_
  ·
   exact z7_
  rintro _ _ _ _ ⟨i, w, rfl, rfl, rfl, rfl, hi, hw⟩
  refine Sr ?_
  refine Ru 1 rfl ?_
  refine JL.nil ?_
  refine J.seq ?_
  refine Cs rfl (fun hc8 => ?_) fun hc8 => ?_
  ·
   have hi' : i < (bs.drop 1).length := (by omega); have hbv := beV_lt ((bs.drop 1).take i); rw [List.length_take, Nat.min_eq_left (by omega)] at hbv; have hwb := sV_bd hsb hbv; rw [← hw] at hwb; have hp8 := pow8_le i (by omega); have hns := beV_take_succ (bs.drop 1) i hi'; have hcb := UInt8.toNat_lt ((bs.drop 1)[i]'hi')
   refine J.skip ?_
   refine J.seq ?_
   refine J.block ?_
   refine Sr ?_
   refine JL.ope (RunE.index sl_25 rfl rfl z10_ (by assumption) rfl (by omega)) rfl ?_
   rintro _ ⟨b9, o9, hi9, rfl, hE9⟩
   refine JL.op (RunV.ld_u8 ag_5 rfl (by assumption)) rfl ?_
   refine Ru 1 rfl ?_
   refine JL.nil ?_
   refine Rg ?_
   refine Ru 1 rfl ?_
   refine JL.op (by first | exact RunV.shl_i64 256 rfl rfl (by decide) (by decide) (by decide) (by omega) (by omega) | exact RunV.shl rfl rfl (by decide) (by decide)) rfl ?_
   refine Ru 1 rfl ?_
   refine JL.op (by first | exact RunV.convb_i64 cv_5_2 rfl | exact RunV.conv_i64 cv_5_2 rfl (by omega) (by omega) | exact RunV.conv cv_5_2 rfl) rfl ?_
   refine JL.op (RunV.join256 rfl rfl (by omega) (by omega) (by omega) (by omega) (by omega)) rfl ?_
   refine Ru 1 rfl ?_
   refine JL.nil ?_
   refine Rg ?_
   refine JL.op ai_ rfl ?_
   refine Ru 1 rfl ?_
   refine JL.nil ?_
   refine ⟨_, ?_, _, ?_, ⟨i + 1, w * 256 + ((bs.drop 1)[i]'hi').toNat, rfl, rfl, rfl, rfl, ⟨by omega, by rw [hns, hw, Int.pow_succ, Int.natCast_add, Int.natCast_mul, Int.add_mul, Int.mul_assoc, Int.add_assoc]; rfl⟩⟩⟩
   ·
    omega
   exact z7_
  have hie : i = (bs.drop 1).length := (by omega); have hsv : (Nd.mk c t k bs ks).intV = w := (by rw [intV_t hff, hw, hie, List.take_length, sV, hdl])
  refine J.exit ?_
  refine Kp [4] rfl ?_
  refine Sr ?_
  refine Ru 3 rfl ?_
  refine JL.nil ?_
  exact J.retV (RetV.two rfl rfl rfl) (by rw [hff, hsv])
end Go.Proofs.YtohlpgoeheggdaaGreatDoor
namespace Go.Proofs.YtohlpgoeheggdaaGreatDoor
open Go Go.RowKit
set_option maxRecDepth 100000
end Go.Proofs.YtohlpgoeheggdaaGreatDoor
namespace Go.Proofs.YtohlpgoeheggdaaGreatDoor
open Go Go.RowKit
set_option maxRecDepth 100000
end Go.Proofs.YtohlpgoeheggdaaGreatDoor
namespace Go.Proofs.YtohlpgoeheggdaaGreatDoor
open Go Go.RowKit
set_option maxRecDepth 100000
end Go.Proofs.YtohlpgoeheggdaaGreatDoor
namespace Go.Proofs.YtohlpgoeheggdaaGreatDoor
open Go Go.RowKit
set_option maxRecDepth 100000
end Go.Proofs.YtohlpgoeheggdaaGreatDoor
namespace Go.Proofs.YtohlpgoeheggdaaGreatDoor
open Go Go.RowKit
set_option maxRecDepth 100000
theorem ca_171 : callT Tryz.prog 171 = true := by kernel_rfl
end Go.Proofs.YtohlpgoeheggdaaGreatDoor
namespace Go.Proofs.YtohlpgoeheggdaaGreatDoor
open Go Go.RowKit
set_option maxRecDepth 100000
end Go.Proofs.YtohlpgoeheggdaaGreatDoor
namespace Go.Proofs.YtohlpgoeheggdaaGreatDoor
open Go Go.RowKit
set_option maxRecDepth 100000
end Go.Proofs.YtohlpgoeheggdaaGreatDoor
namespace Go.Proofs.YtohlpgoeheggdaaGreatDoor
open Go Go.RowKit
set_option maxRecDepth 100000
end Go.Proofs.YtohlpgoeheggdaaGreatDoor
namespace Go.Proofs.YtohlpgoeheggdaaGreatDoor
open Go Go.RowKit
set_option maxRecDepth 100000
end Go.Proofs.YtohlpgoeheggdaaGreatDoor
namespace Go.Proofs.YtohlpgoeheggdaaGreatDoor
open Go Go.RowKit
set_option maxRecDepth 100000
end Go.Proofs.YtohlpgoeheggdaaGreatDoor
namespace Go.Proofs.YtohlpgoeheggdaaGreatDoor
open Go Go.RowKit
set_option maxRecDepth 100000
def belowL (n k : Nat) : List UInt32 := (List.replicate (n / 32) 4294967295 ++ (if 0 < n % 32 then [UInt32.ofNat (2 ^ (n % 32) - 1)] else [])).set 0 (UInt32.ofNat (4294967296 - k))
def primeL : Nat → List UInt32
  | 0 => belowL 256 189
  | 1 => belowL 255 19
  | 2 => belowL 256 357
  | 3 => belowL 255 31
  | 4 => belowL 257 93
  | _ => belowL 521 1
def expL : Nat → List UInt32
  | 0 => [0xb9c9afc1, 0xb9c94636, 0xb9c94636, 0xb9c94636, 0xb9c94636, 0xb9c94636, 0xb9c94636, 0xb9c94636, 0x65af9976, 0x65af9a50, 0x65af9a50, 0x65af9a50, 0x65af9a50, 0x65af9a50, 0x65af9a50, 0x65af9a50]
  | 1 => [0xa813656d, 0xa81357ec, 0xa81357ec, 0xa81357ec, 0xa81357ec, 0xa81357ec, 0xa81357ec, 0xa81357ec, 0x63159c8e, 0x63159cea, 0x63159cea, 0x63159cea, 0x63159cea, 0x63159cea, 0x63159cea, 0x63159cea]
  | 2 => [0x197912ed, 0x1978e687, 0x1978e687, 0x1978e687, 0x1978e687, 0x1978e687, 0x1978e687, 0x1978e687, 0xaced5201, 0xaced5312, 0xaced5312, 0xaced5312, 0xaced5312, 0xaced5312, 0xaced5312, 0xaced5312]
  | 3 => [0xc45a3f41, 0xc45a3ba5, 0xc45a3ba5, 0xc45a3ba5, 0xc45a3ba5, 0xc45a3ba5, 0xc45a3ba5, 0xc45a3ba5, 0x7db7821d, 0x7db78248, 0x7db78248, 0x7db78248, 0x7db78248, 0x7db78248, 0x7db78248, 0x7db78248]
  | 4 => [0x4623bbc1, 0x4623b9dc, 0x4623b9dc, 0x4623b9dc, 0x4623b9dc, 0x4623b9dc, 0x4623b9dc, 0x4623b9dc, 0x2940d6ad, 0x2940d6bf, 0x2940d6bf, 0x2940d6bf, 0x2940d6bf, 0x2940d6bf, 0x2940d6bf, 0x2940d6bf]
  | 5 => [0xa87558e9, 0xa875578a, 0xa875578a, 0xa875578a, 0xa875578a, 0xa875578a, 0xa875578a, 0xa875578a, 0x807f7f7e, 0x807f7f80, 0x807f7f80, 0x807f7f80, 0x807f7f80, 0x807f7f80, 0x807f7f80, 0x807f7f80, 0xa269780, 0xa27f5d8, 0xa27f5d8, 0xa27f5d8, 0xa27f5d8, 0xa27f5d8, 0xa27f5d8, 0xa27f5d8, 0x1d8]
  | 6 => [0xa4b65c7d, 0xa4b65b49, 0xa4b65b49, 0xa4b65b49, 0xa4b65b49, 0xa4b65b49, 0xa4b65b49, 0xa4b65b49, 0x807f7f7f, 0x807f7f80, 0x807f7f80, 0x807f7f80, 0x807f7f80, 0x807f7f80, 0x807f7f80, 0x807f7f80, 0xc9230380, 0xc92436db, 0xc92436db, 0xc92436db, 0xc92436db, 0xc92436db, 0xc92436db, 0xc92436db, 0xdb]
  | 7 => [0xb84e47d1, 0xb84e47b1, 0xb84e47b1, 0xb84e47b1, 0xb84e47b1, 0xb84e47b1, 0xb84e47b1, 0xb84e47b1, 0x807f7f7f, 0x807f7f80, 0x807f7f80, 0x807f7f80, 0x807f7f80, 0x807f7f80, 0x807f7f80, 0x807f7f80, 0x3137af80, 0x3137cec8, 0x3137cec8, 0x3137cec8, 0x3137cec8, 0x3137cec8, 0x3137cec8, 0x3137cec8, 0xc8]
  | 8 => [0xf86107c1, 0xf861079e, 0xf861079e, 0xf861079e, 0xf861079e, 0xf861079e, 0xf861079e, 0xf861079e, 0x807f7f7f, 0x807f7f80, 0x807f7f80, 0x807f7f80, 0x807f7f80, 0x807f7f80, 0x807f7f80, 0x807f7f80, 0x1e77bf80, 0x1e77e188, 0x1e77e188, 0x1e77e188, 0x1e77e188, 0x1e77e188, 0x1e77e188, 0x1e77e188, 0x88]
  | 9 => [0x72988d99, 0x72988d67, 0x72988d67, 0x72988d67, 0x72988d67, 0x72988d67, 0x72988d67, 0x72988d67, 0x807f7f7f, 0x807f7f80, 0x807f7f80, 0x807f7f80, 0x807f7f80, 0x807f7f80, 0x807f7f80, 0x807f7f80, 0xe6f1e780, 0xe6f2190d, 0xe6f2190d, 0xe6f2190d, 0xe6f2190d, 0xe6f2190d, 0xe6f2190d, 0xe6f2190d, 0x10d]
  | 10 => [0x956b39cd, 0x956a956a, 0x956a956a, 0x956a956a, 0x956a956a, 0x956a956a, 0x956a956a, 0x956a956a, 0x9e619d0e, 0x9e619e61, 0x9e619e61, 0x9e619e61, 0x9e619e61, 0x9e619e61, 0x9e619e61, 0x9e619e61]
  | 11 => [0x11ee43e1, 0x11ee11ee, 0x11ee11ee, 0x11ee11ee, 0x11ee11ee, 0x11ee11ee, 0x11ee11ee, 0x11ee11ee, 0x6e916d3e, 0x6e916e91, 0x6e916e91, 0x6e916e91, 0x6e916e91, 0x6e916e91, 0x6e916e91, 0x6e916e91, 0x1]
  | _ => []
def pairR : Rep (Int × Int) := fun _ cs p => cs = [.int .i64 p.1, .int .i64 p.2]
instance : Mono pairR := ⟨fun _ r => r, fun r u hu => by unfold pairR at r; subst r; simp only [List.mem_cons, List.not_mem_nil, or_false] at hu; rcases hu with rfl | rfl <;> rfl⟩
def pairsL : List (Int × Int) := [(0, 2), (0, 4), (2, 4), (4, 1), (4, 3), (0, 5), (2, 5), (1, 5), (3, 5), (4, 5), (0, 2), (0, 4)]
def keyN (i : Nat) : Nat := vL (primeL (amongI (pairsL.getD i (0, 0)).1 6).toNat) * vL (primeL (amongI (pairsL.getD i (0, 0)).2 6).toNat)
def keyE (i : Nat) : Nat := if 10 ≤ i then 257 else 65537
end Go.Proofs.YtohlpgoeheggdaaGreatDoor
namespace Go.Proofs.YtohlpgoeheggdaaGreatDoor
open Go Go.RowKit
set_option maxRecDepth 100000
end Go.Proofs.YtohlpgoeheggdaaGreatDoor
namespace Go.Proofs.YtohlpgoeheggdaaGreatDoor
open Go Go.RowKit
set_option maxRecDepth 100000
end Go.Proofs.YtohlpgoeheggdaaGreatDoor
namespace Go.Proofs.YtohlpgoeheggdaaGreatDoor
open Go Go.RowKit
set_option maxRecDepth 100000
def someH (n : Int) : Prop := n = 256 ∨ n = 384 ∨ n = 512
instance (n : Int) : Decidable (someH n) := inferInstanceAs (Decidable (_ ∨ _ ∨ _))
def shaSize (n : Int) : Int := if someH n then n / 8 else 0
end Go.Proofs.YtohlpgoeheggdaaGreatDoor
namespace Go.Proofs.YtohlpgoeheggdaaGreatDoor
open Go Go.RowKit
set_option maxRecDepth 100000
def oidH (n : Int) : List UInt8 := if n = 256 then [50, 46, 49, 54, 46, 56, 52, 48, 46, 49, 46, 49, 48, 49, 46, 51, 46, 52, 46, 50, 46, 49] else if n = 384 then [50, 46, 49, 54, 46, 56, 52, 48, 46, 49, 46, 49, 48, 49, 46, 51, 46, 52, 46, 50, 46, 50] else if n = 512 then [50, 46, 49, 54, 46, 56, 52, 48, 46, 49, 46, 49, 48, 49, 46, 51, 46, 52, 46, 50, 46, 51] else []
end Go.Proofs.YtohlpgoeheggdaaGreatDoor
namespace Go.Proofs.YtohlpgoeheggdaaGreatDoor
open Go Go.RowKit
set_option maxRecDepth 100000
theorem rseq_fn {b : Option Addr} {cb m : Nat} {h : Part} : FnR Tryz.prog 74 [.slice b m cb] h (fun v _ => v = .agg #[.int .i64 0, .int .i64 16, .bool true, .slice none 0 0, .slice b m cb]) := by
  refine Fn.intro Tryz.func74 rfl Tryz.ntmps74 rfl (fun e he => ?_)
  refine J.weak [(0, _)] ⟨rfl, trivial⟩ ?_
  have hh0 := Part.le.refl h
  refine Sr ?_
  refine JL.alloc zr_28 rfl (fun b1 => ?_)
  refine JL.nil ?_
  refine Sr ?_
  refine Ru 1 rfl ?_
  refine JL.op (RunV.build (cs := [.int .i64 0, _, _, .slice none 0 0, _]) pl_28 rfl rfl) rfl ?_
  refine JL.storeA ag_28 rfl rfl dl_ z19_ z14_ z5_ ?_
  refine JL.nil ?_
  exact J.retR (RetV.cell rfl rfl ag_28 mm_ z5_) rfl
theorem roid_fn {s : List UInt8} {h : Part} (hs : s.length ≤ 1000000) : FnR Tryz.prog 46 [.string ⟨s.toArray⟩] h (fun v h' => ∃ a c, v = .agg #[.int .i64 0, .int .i64 6, .bool false, .slice a ((oidB s).getD []).length c, .slice none 0 0] ∧ SlR u8R 1 h' a c ((oidB s).getD [])) := by
  refine Fn.intro Tryz.func46 rfl Tryz.ntmps46 rfl (fun e he => ?_)
  refine J.weak [(0, _)] ⟨rfl, trivial⟩ ?_
  have hh0 := Part.le.refl h
  refine Sr ?_
  refine JL.alloc zr_28 rfl (fun b1 => ?_)
  refine JL.nil ?_
  refine Sr ?_
  refine Ru 1 rfl ?_
  refine JL.callR ca_107 rfl (roidbytes_fn s _ (by omega)) rfl ?_
  rintro _ h2 hle2 ⟨oa, oc, rfl, hO⟩
  replace hh0 := hh0.mono hle2
  refine Ru 5 rfl ?_
  refine Nk [3, 2] rfl ?_
  refine Sr ?_
  refine Ru 1 rfl ?_
  refine JL.op (RunV.build (cs := [.int .i64 0, _, .bool false, _, .slice none 0 0]) pl_28 rfl rfl) rfl ?_
  refine JL.storeA ag_28 rfl rfl dl_ z19_ z14_ z5_ ?_
  refine JL.nil ?_
  exact J.retR (RetV.cell rfl rfl ag_28 mm_ z5_) ⟨_, _, rfl, hO⟩
def oidN (n : Int) : Nd := .mk 0 6 false ((oidB (oidH n)).getD []) []
def infoN (n : Int) (d : List UInt8) : Nd := .mk 0 16 true [] [.mk 0 16 true [] [oidN n, .mk 0 5 false [] []], .mk 0 4 false d []]
def infoL (n : Int) (d : List UInt8) : List UInt8 := (infoN n d).put.getD []
def formE (n : Int) (d : List UInt8) (k : Int) : Int := if shaSize n = 0 ∨ (d.length : Int) ≠ shaSize n then 40 else if k < (infoL n d).length + 11 ∨ 512 < k then 50 else 0
def formL (n : Int) (d : List UInt8) (k : Int) : List UInt8 := if formE n d k = 0 then [0, 1] ++ List.replicate (k.toNat - (infoL n d).length - 3) 255 ++ [0] ++ infoL n d else []
end Go.Proofs.YtohlpgoeheggdaaGreatDoor
namespace Go.Proofs.YtohlpgoeheggdaaGreatDoor
open Go Go.RowKit
set_option maxRecDepth 100000
end Go.Proofs.YtohlpgoeheggdaaGreatDoor
namespace Go.Proofs.YtohlpgoeheggdaaGreatDoor
open Go Go.RowKit
set_option maxRecDepth 100000
def mp : Nat → Nat → Nat → Nat → Nat
  | 0, _, _, N => 1 % N
  | f + 1, X, E, N => if E % 2 = 1 then X * mp f (X * X % N) (E / 2) N % N else mp f (X * X % N) (E / 2) N
def d0 : List UInt8 := List.replicate 32 1
def n0 : Nat := keyN 0
def x0 : Nat := keyE 0
def p0 : Nat := vL (expL 0)
def m0 : Nat := beV (formL 256 d0 64)
def s0 : Nat := mp 512 m0 p0 n0
end Go.Proofs.YtohlpgoeheggdaaGreatDoor
namespace Go.Proofs.YtohlpgoeheggdaaGreatDoor
open Go Go.RowKit
set_option maxRecDepth 100000
end Go.Proofs.YtohlpgoeheggdaaGreatDoor
namespace Go.Proofs.YtohlpgoeheggdaaGreatDoor
open Go Go.RowKit
set_option maxRecDepth 100000
end Go.Proofs.YtohlpgoeheggdaaGreatDoor
namespace Go.Proofs.YtohlpgoeheggdaaGreatDoor
open Go Go.RowKit
set_option maxRecDepth 100000
end Go.Proofs.YtohlpgoeheggdaaGreatDoor
namespace Go.Proofs.YtohlpgoeheggdaaGreatDoor
open Go Go.RowKit
set_option maxRecDepth 100000
end Go.Proofs.YtohlpgoeheggdaaGreatDoor
namespace Go.Proofs.YtohlpgoeheggdaaGreatDoor
open Go Go.RowKit
set_option maxRecDepth 100000
end Go.Proofs.YtohlpgoeheggdaaGreatDoor
namespace Go.Proofs.YtohlpgoeheggdaaGreatDoor
open Go Go.RowKit
set_option maxRecDepth 100000
end Go.Proofs.YtohlpgoeheggdaaGreatDoor
namespace Go.Proofs.YtohlpgoeheggdaaGreatDoor
open Go Go.RowKit
set_option maxRecDepth 100000
def hdN : Except Int (Nat × Nat) → Nat | .ok (n, _) => n | .error _ => 0
def hdQ : Except Int (Nat × Nat) → Nat | .ok (_, q) => q | .error _ => 0
def hdC : Except Int (Nat × Nat) → Int | .ok _ => 0 | .error c => c
theorem lenB_lenI {n : Nat} (h : ¬ n < 128) : (lenB n).length = 1 + nby n := by unfold lenB; rw [if_neg h]; simp [be_len]; omega
theorem nby_le {n k : Nat} (h1 : 1 ≤ k) (h2 : k ≤ 4) (h : n < 256 ^ k) : nby n ≤ k := by
  have : k = 1 ∨ k = 2 ∨ k = 3 ∨ k = 4 := by omega
  have e1 : (256 : Nat) ^ 1 = 256 := rfl
  have e2 : (256 : Nat) ^ 2 = 65536 := rfl
  have e3 : (256 : Nat) ^ 3 = 16777216 := rfl
  have e4 : (256 : Nat) ^ 4 = 4294967296 := rfl
  unfold nby
  rcases this with rfl | rfl | rfl | rfl <;> simp only [e1, e2, e3, e4] at h <;> (repeat' split) <;> omega
theorem hd_len {n k : Nat} (h1 : 1 ≤ k) (h2 : k ≤ 4) (h : n < 256 ^ k) (h3 : ¬ n < 128) : (lenB n).length = k + 1 ↔ 0 < n / 256 ^ (k - 1) := by
  have hn : n ≤ 140737488355328 := by
    have : (256 : Nat) ^ k ≤ 256 ^ 4 := Nat.pow_le_pow_right (by decide) h2
    have e4 : (256 : Nat) ^ 4 = 4294967296 := rfl
    omega
  have a := nby_bd n
  have b := nby_le h1 h2 h
  rw [lenB_lenI h3]
  by_cases hk : k - 1 ≤ nby n
  · rw [nby_gt0 n (k - 1) hn (by omega) hk]; omega
  · constructor
    · omega
    · intro h5
      exfalso
      have := (nby_gt0 n (nby n) hn (by omega) (Nat.le_refl _)).1 (Nat.lt_of_lt_of_le h5 (Nat.div_le_div_left (Nat.pow_le_pow_right (by decide) (by omega)) (Nat.pow_pos (by decide))))
      omega
theorem rheader_fn {l : List UInt8} {p en : Nat} {ab : Option Addr} {cb : Nat} {h : Part} (hl : SlR u8R 1 h ab cb l) (he : en ≤ l.length) (hp : p ≤ l.length) :
    FnR Tryz.prog 170 [.slice ab l.length cb, .int .i64 p, .int .i64 en] h (fun v _ => v = .tuple #[.int .i64 (hdN (rdS l (p + 1) en)), .int .i64 (hdQ (rdS l (p + 1) en)), .int .i64 (hdC (rdS l (p + 1) en))]) := by
  have hb := hl.big
  have hen := he
  refine Fn.intro Tryz.func170 rfl Tryz.ntmps170 rfl (fun e he => ?_)
  refine J.weak [(0, _), (1, _), (2, _)] ⟨rfl, rfl, rfl, trivial⟩ ?_
  have hh0 := Part.le.refl h
  refine Sr ?_
  refine Ru 3 rfl ?_
  refine JL.nil ?_
  refine J.seq ?_
  refine Sr ?_
  refine Ru 1 rfl ?_
  refine JL.op ai_ rfl ?_
  refine Ru 2 rfl ?_
  refine JL.nil ?_
  refine Cs rfl (fun hc1 => ?_) fun hc1 => ?_
  ·
   refine Sr ?_
   refine Ru 3 rfl ?_
   refine Nk [8, 7, 6, 0, 1, 2] rfl ?_
   exact J.retR (RetV.three rfl rfl rfl rfl) (by unfold rdS; rw [if_pos (by omega)]; rfl)
  refine J.skip ?_
  refine Kp [8, 7, 6, 0, 1, 2] rfl ?_
  refine Sr ?_
  have hpl : p + 1 < l.length := (by omega); have hbt := byteAt_eq l (p + 1) hpl; have hlt := byteAt_lt l (p + 1)
  refine Ru 2 rfl ?_
  refine JL.op ai_ rfl ?_
  refine JL.ope (RunE.index (m := p + 1) sl_25 rfl rfl rfl hl rfl (by omega)) rfl ?_
  rintro _ ⟨b2, o2, hi2, rfl, hE2⟩
  refine JL.op (RunV.ld_u8 ag_5 rfl (by assumption)) rfl ?_
  refine JL.op z8_ rfl ?_
  refine Ru 1 rfl ?_
  refine Nk [9, 8, 7, 6, 0, 1, 2] rfl ?_
  refine J.seq ?_
  refine Sr ?_
  refine Ru 2 rfl ?_
  refine JL.nil ?_
  refine Cs rfl (fun hc4 => ?_) fun hc4 => ?_
  ·
   refine Sr ?_
   refine Ru 2 rfl ?_
   refine JL.op ai_ rfl ?_
   refine Ru 3 rfl ?_
   refine Nk [8, 7, 6, 9, 0, 1, 2] rfl ?_
   exact J.retR (RetV.three rfl rfl rfl rfl) (by unfold rdS; rw [if_neg (by omega), if_pos (by omega)]; rw [hbt]; unfold hdN hdQ hdC; simp only; rw [show ((p : Int) + 2) = ((p + 1 + 1 : Nat) : Int) by omega])
  refine J.skip ?_
  refine Sr ?_
  refine Ru 1 rfl ?_
  refine JL.op si_ rfl ?_
  refine Ru 1 rfl ?_
  refine Nk [10, 8, 7, 6, 0, 1, 2] rfl ?_
  refine J.seq ?_
  refine Sr ?_
  refine Ru 3 rfl ?_
  refine Bs 32 rfl (fun hc5 => ?_) fun hc5 => ?_
  ·
   refine Ru 3 rfl ?_
   refine Nk [35, 10, 8, 7, 6, 0, 1, 2] rfl ?_
   refine J.cond_t rfl ?_
   refine Sr ?_
   refine Ru 3 rfl ?_
   refine JL.nil ?_
   exact J.retR (RetV.three rfl rfl rfl rfl) (by unfold rdS; rw [if_neg (by omega), if_neg (by omega), if_pos (by omega)]; rfl)
  refine Ru 3 rfl ?_
  refine Nk [35, 10, 8, 7, 6, 0, 1, 2] rfl ?_
  refine Cs rfl (fun hc6 => ?_) fun hc6 => ?_
  ·
   refine Sr ?_
   refine Ru 3 rfl ?_
   refine Nk [8, 7, 6, 10, 0, 1, 2] rfl ?_
   exact J.retR (RetV.three rfl rfl rfl rfl) (by unfold rdS; rw [if_neg (by omega), if_neg (by omega), if_pos (by omega)]; rfl)
  refine J.skip ?_
  refine J.seq ?_
  refine Sr ?_
  refine Ru 1 rfl ?_
  refine JL.op ai_ rfl ?_
  refine Ru 1 rfl ?_
  refine JL.op ai_ rfl ?_
  refine Ru 2 rfl ?_
  refine Nk [41, 10, 8, 7, 6, 0, 1] rfl ?_
  refine Cs rfl (fun hc7 => ?_) fun hc7 => ?_
  ·
   refine Sr ?_
   refine Ru 3 rfl ?_
   refine Nk [8, 7, 6, 10, 0, 1] rfl ?_
   exact J.retR (RetV.three rfl rfl rfl rfl) (by unfold rdS; rw [if_neg (by omega), if_neg (by omega), if_neg (by omega), if_pos (by omega)]; rfl)
  refine J.skip ?_
  refine Sr ?_
  obtain ⟨kk, hkk⟩ : ∃ kk : Nat, byteAt l (p + 1) = 128 + kk := ⟨byteAt l (p + 1) - 128, by omega⟩; obtain ⟨sub, hsub⟩ : ∃ sub, sub = (l.drop (p + 2)).take kk := ⟨_, rfl⟩; have hsl : sub.length = kk := (by rw [hsub]; simp; omega); have hsi : ∀ (i : Nat) (hi : i < sub.length) (hj : p + 2 + i < l.length), l[p + 2 + i] = sub[i] := (by subst hsub; intro i hi hj; simp)
  refine Ru 1 rfl ?_
  refine JL.nil ?_
  refine J.seq ?_
  refine Sr ?_
  refine Ru 1 rfl ?_
  refine JL.nil ?_
  refine J.block ?_
  refine J.loop (fun t_ S_ h_ L_ => ∃ (g : Part) (i : Nat), t_ = kk - i ∧ S_ = [(0, .slice ab l.length cb), (1, .int .i64 p), (10, .int .i64 kk), (11, .int .i64 (beval (sub.take i))), (12, .int .i64 i)] ∧ g = h_ ∧ L_ = [] ∧ (h.le g ∧ SlR u8R 1 g ab cb l ∧ i ≤ kk)) ⟨_, _, ?_, ⟨_, 0, rfl, rfl, rfl, rfl, ⟨by assumption, by assumption, by omega⟩⟩⟩ ?_
  ·
   repeat (first | exact trivial | refine ⟨rfl, ?_⟩ | refine ⟨(by exact some_int (by first | rfl | omega)), ?_⟩)
  rintro _ _ _ _ ⟨g, i, rfl, rfl, rfl, rfl, hhg, hl, hi⟩
  have hbl := beval_lt sub i
  refine J.seq ?_
  refine Sr ?_
  refine Ru 3 rfl ?_
  refine JL.nil ?_
  refine Cs rfl (fun hc8 => ?_) fun hc8 => ?_
  ·
   refine J.skip ?_
   refine J.seq ?_
   refine J.block ?_
   refine Rg ?_
   have h256 := pow256_3 i (by omega); have hst := beval_step sub i (by omega); have hsb := (sub[i]'(by omega)).toNat_lt; have hsie := hsi i (by omega) (by omega); rw [← hsie] at hst hsb
   refine Ru 1 rfl ?_
   refine JL.op z17_ rfl ?_
   refine Ru 2 rfl ?_
   refine JL.op ai_ rfl ?_
   refine Ru 1 rfl ?_
   refine JL.op ai_ rfl ?_
   refine JL.ope (RunE.index (m := p + 2 + i) sl_25 rfl rfl rfl hl rfl (by omega)) rfl ?_
   rintro _ ⟨b9, o9, hi9, rfl, hE9⟩
   refine JL.op (RunV.ld_u8 ag_5 rfl (by assumption)) rfl ?_
   refine JL.op z8_ rfl ?_
   refine JL.op ai_ rfl ?_
   refine Ru 1 rfl ?_
   refine JL.nil ?_
   refine Rg ?_
   refine Ru 1 rfl ?_
   refine JL.op ai_ rfl ?_
   refine Ru 1 rfl ?_
   refine JL.nil ?_
   refine ⟨_, ?_, _, ?_, ⟨_, i + 1, rfl, rfl, rfl, rfl, ⟨by assumption, by assumption, by omega⟩⟩⟩
   ·
    omega
   repeat (first | exact trivial | refine ⟨rfl, ?_⟩ | refine ⟨(by exact some_int (by first | rfl | omega)), ?_⟩)
  refine J.exit ?_
  refine Kp [1, 10, 11] rfl ?_
  refine J.seq ?_
  refine Sr ?_
  have hik : i = kk := (by omega); have hv : beval ((l.drop (p + 1 + 1)).take (byteAt l (p + 1) - 128)) = beval (sub.take i) := (by rw [hkk, show 128 + kk - 128 = kk by omega, show p + 1 + 1 = p + 2 by omega, ← hsub, List.take_of_length_le (by omega)]); have hbl := beval_lt sub i; rw [hik] at hbl hv; subst hik; have hHL := @hd_len (beval (sub.take i)) i (by omega) (by omega) hbl; have h25 := Nat.pow_le_pow_right (n := 256) (by decide) (show i ≤ 4 by omega); have hw : 256 ^ (byteAt l (p + 1) - 128 - 1) = 256 ^ (i - 1) := (by rw [hkk, show 128 + i - 128 = i by omega])
  refine Ru 3 rfl ?_
  refine Bs 60 rfl (fun hc11 => ?_) fun hc11 => ?_
  ·
   refine Ru 7 rfl ?_
   refine Nk [67, 1, 10, 11] rfl ?_
   refine J.cond_t rfl ?_
   refine Sr ?_
   refine Ru 3 rfl ?_
   refine JL.nil ?_
   exact J.retR (RetV.three rfl rfl rfl rfl) (by unfold rdS; rw [if_neg (by omega), if_neg (by omega), if_neg (by omega), if_neg (by omega), if_pos (by rw [hv, hw]; omega)]; rfl)
  refine Ru 1 rfl ?_
  refine JL.callRg rfl rfl  ca_115 rfl (length_fn (by omega)) rfl ?_
  rintro _ h12 hle12 ⟨a12, c12, rfl, hS12⟩
  replace hhg := hhg.mono hle12
  replace hl := hl.mono hle12
  refine Ru 2 rfl ?_
  refine JL.opg rfl rfl  ai_ rfl ?_
  refine Ru 2 rfl ?_
  refine Nk [67, 1, 10, 11] rfl ?_
  refine Cs rfl (fun hc13 => ?_) fun hc13 => ?_
  ·
   refine Sr ?_
   refine Ru 3 rfl ?_
   refine JL.nil ?_
   have hhl := hHL (by omega); exact J.retR (RetV.three rfl rfl rfl rfl) (by unfold rdS; rw [if_neg (by omega), if_neg (by omega), if_neg (by omega), if_neg (by omega), if_pos (by rw [hv, hw]; omega)]; rfl)
  refine J.skip ?_
  refine Sr ?_
  refine Ru 2 rfl ?_
  refine JL.op ai_ rfl ?_
  refine Ru 1 rfl ?_
  refine JL.op ai_ rfl ?_
  refine Ru 3 rfl ?_
  refine Nk [8, 7, 6] rfl ?_
  have hhl := hHL (by omega); exact J.retR (RetV.three rfl rfl rfl rfl) (by unfold rdS; rw [if_neg (by omega), if_neg (by omega), if_neg (by omega), if_neg (by omega), if_neg (by rw [hv, hw]; omega), hv, hkk]; unfold hdN hdQ hdC; simp only; rw [show ((p + 1 + 1 + (128 + i - 128) : Nat) : Int) = (p : Int) + 2 + i by omega])
def hdE (s : Except Int (Nat × Nat)) (en : Nat) : Int := if hdC s = 0 ∧ (en : Int) - hdQ s < hdN s then 30 else hdC s
def hdF (s : Except Int (Nat × Nat)) (en d : Nat) : Int := if hdE s en = 0 ∧ d = 0 then 33 else hdE s en
theorem rdS_code {l : List UInt8} {p en : Nat} {c : Int} (h : rdS l p en = .error c) : c ≠ 0 := by
  unfold rdS at h
  (repeat' split at h) <;> first | (cases h; decide) | cases h
theorem hdQ_le (l : List UInt8) (p en : Nat) : hdQ (rdS l p en) ≤ en := by
  cases h : rdS l p en with
  | error c => exact Nat.zero_le _
  | ok x => exact (rdS_le h).2
theorem hdF_err {c : Int} {en d : Nat} (hc : c ≠ 0) : hdF (.error c) en d = c := by
  have e : hdE (.error c) en = c := if_neg (fun hh => hc hh.1)
  unfold hdF
  rw [e]
  exact if_neg (fun hh => hc hh.1)
theorem hdF_okv {n q en d : Nat} : hdF (.ok (n, q)) en d = if (en : Int) - q < n then 30 else if d = 0 then 33 else 0 := by
  have e : hdE (.ok (n, q)) en = if (en : Int) - q < n then 30 else 0 := by
    by_cases h1 : (en : Int) - q < n
    · rw [if_pos h1]; exact if_pos ⟨rfl, h1⟩
    · rw [if_neg h1]; exact if_neg (fun hh => h1 hh.2)
  unfold hdF
  rw [e]
  by_cases h1 : (en : Int) - q < n
  · simp only [if_pos h1]; simp
  · simp only [if_neg h1]
    by_cases h2 : d = 0
    · simp [h2]
    · simp [h2]
theorem hdF_bad {l : List UInt8} {p en d : Nat} {s : Except Int (Nat × Nat)} (hp : p < en) (hm : mayB (byteAt l p / 64 : Nat) (byteAt l p % 32 : Nat) (decide (byteAt l p / 32 % 2 = 1)) = true) (hs : rdS l (p + 1) en = s) (hF : hdF s en d ≠ 0) : rdN d l p en = .error (p, hdF s en d) := by
  have key : ∀ ok, (ok = false ↔ d = 0) → rdH l p en ok = .error (p, hdF s en d) := fun ok hok => by
    unfold rdH
    rw [if_neg (by omega), if_neg (by rw [hm]; decide), hs]
    cases s with
    | error c => simp only; rw [hdF_err (rdS_code hs)]
    | ok x =>
      obtain ⟨n, q⟩ := x
      have hq := (rdS_le hs).2
      rw [hdF_okv] at hF ⊢
      simp only
      by_cases h1 : n ≤ en - q
      · have h3 : ¬ (en : Int) - q < n := by omega
        rw [if_neg h3] at hF
        rw [if_neg (show ¬ ¬ n ≤ en - q from fun hh => hh h1), if_neg h3]
        by_cases h2 : d = 0
        · rw [if_pos (hok.2 h2), if_pos h2]
        · rw [if_neg h2] at hF; exact absurd rfl hF
      · rw [if_pos (show ¬ n ≤ en - q from h1), if_pos (show (en : Int) - q < n by omega)]
  cases d with
  | zero => exact rdN_err0 (key false (by simp))
  | succ d => exact rdN_err (key true (by simp))
theorem hdF_ok {l : List UInt8} {p en d : Nat} {s : Except Int (Nat × Nat)} (hp : p < en) (hm : mayB (byteAt l p / 64 : Nat) (byteAt l p % 32 : Nat) (decide (byteAt l p / 32 % 2 = 1)) = true) (hs : rdS l (p + 1) en = s) (hF : hdF s en d = 0) :
    ∃ n q d', hdN s = n ∧ hdQ s = q ∧ d = d' + 1 ∧ rdH l p en true = .ok (byteAt l p / 64, byteAt l p % 32, decide (byteAt l p / 32 % 2 = 1), n, q) := by
  cases s with
  | error c => rw [hdF_err (rdS_code hs)] at hF; exact absurd hF (rdS_code hs)
  | ok x =>
    obtain ⟨n, q⟩ := x
    have hq := (rdS_le hs).2
    rw [hdF_okv] at hF
    by_cases h1 : (en : Int) - q < n
    · rw [if_pos h1] at hF; exact absurd hF (by decide)
    · rw [if_neg h1] at hF
      by_cases h2 : d = 0
      · rw [if_pos h2] at hF; exact absurd hF (by decide)
      · refine ⟨n, q, d - 1, rfl, rfl, by omega, ?_⟩
        unfold rdH
        rw [if_neg (by omega), if_neg (by rw [hm]; decide), hs]
        simp only
        rw [if_neg (by omega), if_neg (by decide)]
theorem putL_false : ∀ (ks : List Nd) (set : Bool) (lo lo' : Option (List UInt8)) (ab b : List UInt8), Nd.putL set ks lo ab = some b → Nd.putL false ks lo' ab = some b
  | [], set, lo, lo', ab, b, h => by simpa [Nd.putL] using h
  | x :: r, set, lo, lo', ab, b, h => by
    simp only [Nd.putL] at h ⊢
    cases hx : x.put with
    | none => simp [hx] at h
    | some z =>
      simp only [hx] at h ⊢
      split at h
      · cases h
      · simp only [Bool.false_and, Bool.false_eq_true, if_false]
        exact putL_false r set _ _ _ _ h
theorem rdK_put {d : Nat} {l : List UInt8} {stop : Nat} (hst : stop ≤ l.length) : ∀ (f q1 : Nat) (acc : List Nd) (rr : Bool) (last : Nat) (ks : List Nd) (r' : Bool) (q2 : Nat), q1 ≤ stop → stop ≤ q1 + f → rdK (rdN d l) l stop f q1 acc rr last = .ok (ks, r', q2) →
    ∃ r, ks = acc ++ r ∧ Nd.rkL r ≤ d ∧ q2 = stop ∧ ∀ ab lo, Nd.putL false r lo ab = some (ab ++ cutL l q1 stop) := by
  intro f
  induction f with
  | zero =>
    intro q1 acc rr last ks r' q2 h1 h2 h3
    simp only [rdK] at h3
    injection h3 with h3; injection h3 with h7 h8; injection h8 with h8 h9
    have hq : q1 = stop := by omega
    exact ⟨[], by simp [h7], by simp [Nd.rkL], by omega, fun ab lo => by simp [Nd.putL, cutL, hq]⟩
  | succ f ih =>
    intro q1 acc rr last ks r' q2 h1 h2 h3
    by_cases hlt : q1 < stop
    · cases hx : rdN d l q1 stop with
      | error e => rw [rdK_err hlt hx] at h3; cases h3
      | ok y =>
        obtain ⟨x, p'⟩ := y
        rw [rdK_ok hlt hx] at h3
        have hle := rdN_le d l q1 stop x p' hx
        obtain ⟨hp, hr⟩ := rdN_inv d l q1 stop x p' hst hx
        obtain ⟨r, e1, e2, e3, e4⟩ := ih p' _ _ _ _ _ _ hle.2 (by omega) h3
        refine ⟨x :: r, by simp [e1], by simp only [Nd.rkL]; omega, e3, fun ab lo => ?_⟩
        simp only [Nd.putL, hp, Bool.false_and, Bool.false_eq_true, if_false]
        rw [e4, List.append_assoc, cut_cut (by omega) (by omega)]
    · rw [rdK_stop hlt] at h3
      injection h3 with h3; injection h3 with h7 h8; injection h8 with h8 h9
      have hq : q1 = stop := by omega
      exact ⟨[], by simp [h7], by simp [Nd.rkL], by omega, fun ab lo => by simp [Nd.putL, cutL, hq]⟩
theorem rk_right {d : Nat} {l : List UInt8} {p en c t n q p' : Nat} {ks : List Nd} {r : Bool} (he : en ≤ l.length) (hen : en < 4294967296) (hH : rdH l p en true = .ok (c, t, true, n, q)) (hK : rdK (rdN d l) l (q + n) n q [] true q = .ok (ks, r, p')) :
    (Nd.mk c t true [] ks).put.isSome = (r || (decide (c ≠ 0) || decide (t ≠ 17))) := by
  have h0 := rdH_le hH
  obtain ⟨hm, hcut, hn⟩ := rdH_inv hH he
  have hN : rdN (d + 1) l p en = if r || (decide (c ≠ 0) || decide (t ≠ 17)) then .ok (.mk c t true [] ks, p') else .error (p, 34) := by rw [rdN_cons hH, hK]
  cases hr : (r || (decide (c ≠ 0) || decide (t ≠ 17))) with
  | true =>
    rw [hr, if_pos rfl] at hN
    rw [(rdN_inv _ _ _ _ _ _ he hN).1]; rfl
  | false =>
    rw [hr, if_neg (by decide)] at hN
    cases hp : (Nd.mk c t true [] ks).put with
    | none => rfl
    | some b =>
      exfalso
      obtain ⟨r2, e1, e2, e3, e4⟩ := rdK_put (d := d) (l := l) (stop := q + n) (by omega) n q [] true q ks r p' (by omega) (by omega) hK
      rw [List.nil_append] at e1
      subst e1
      have hb := hp
      rw [put_cons hm rfl] at hb
      cases hpl : Nd.putL (decide ((c : Int) = 0) && decide ((t : Int) = 17)) ks none [] with
      | none => rw [hpl] at hb; simp at hb
      | some z =>
        rw [hpl] at hb
        simp only [Option.map_some, Option.some.injEq] at hb
        have hz := putL_false _ _ _ none _ _ hpl
        rw [e4 [] none, List.nil_append] at hz
        injection hz with hz
        subst hz
        have hbc : b = cutL l p (q + n) := by
          rw [← hb, cut_len (by omega) (by omega), show q + n - q = n by omega, ← hcut, cut_cut (by omega) (by omega)]
        have hbl : b.length = q + n - p := by rw [hbc, cut_len (by omega) (by omega)]
        have := rdN_put (d + 1) _ b l p en hp (by simp only [Nd.rk]; omega) (by omega) (by rw [hbc]; unfold cutL; exact List.take_prefix _ _) (by omega)
        rw [this] at hN
        cases hN
theorem rp_right {l : List UInt8} {p en c t n q : Nat} {bs : List UInt8} (he : en ≤ l.length) (hH : rdH l p en true = .ok (c, t, false, n, q)) : (Nd.mk c t false bs []).put.isSome = (decide (c = 2) || valB t bs) := by
  obtain ⟨hm, _, _⟩ := rdH_inv hH he
  have hr := (may_rng hm).1
  rw [put_prim hm rfl]
  by_cases h2 : c = 2
  · subst h2; simp
  · have h0 : (c : Int) = 0 := by omega
    rw [decide_eq_false h2, decide_eq_true h0]
    cases valB t bs <;> rfl
theorem rdN_sz {d : Nat} {l : List UInt8} {p e : Nat} {x : Nd} {q : Nat} (he : e ≤ l.length) (h : rdN d l p e = .ok (x, q)) : x.sz + p ≤ q := by
  have h1 := (rdN_inv d l p e x q he h).1
  have h2 := rdN_le d l p e x q h
  have := Nd.put_sz _ x _ (Nat.le_refl _) h1
  rw [cut_len (by omega) (by omega)] at this
  omega
end Go.Proofs.YtohlpgoeheggdaaGreatDoor
namespace Go.Proofs.YtohlpgoeheggdaaGreatDoor
open Go Go.RowKit
theorem z35_ {p : Prop} (u : p := by repeat (first | exact trivial | refine ⟨rfl, ?_⟩ | refine ⟨(by exact some_bool (by first | exact and_t (by assumption) (by omega) | exact and_f (by assumption) | exact and_f (by simp_all))), ?_⟩)) : p := u
theorem z36_ {p : Prop} (u : p := by repeat (first | exact trivial | refine ⟨rfl, ?_⟩ | refine ⟨(by exact some_int (by first | exact (if_pos (by assumption)).symm | exact (if_neg (by assumption)).symm)), ?_⟩)) : p := u
end Go.Proofs.YtohlpgoeheggdaaGreatDoor
namespace Go.Proofs.YtohlpgoeheggdaaGreatDoor
open Go Go.RowKit
set_option maxRecDepth 100000
theorem ca_108 : callT Tryz.prog 108 = true := by kernel_rfl
theorem ca_170 : callT Tryz.prog 170 = true := by kernel_rfl
def rrX : RdE (Nd × Nat) → Nd | .ok (x, _) => x | .error _ => ndZ
def rrQ : RdE (Nd × Nat) → Nat | .ok (_, q) => q | .error _ => 0
def rrA : RdE (Nd × Nat) → Int | .ok _ => 0 | .error (a, _) => a
def rrC : RdE (Nd × Nat) → Int | .ok _ => 0 | .error (_, c) => c
def rrR (s : RdE (Nd × Nat)) : Value → Part → Prop := fun v h' => ∃ cs, v = .tuple #[.agg (List.toArray cs), .int .i64 (rrQ s), .agg #[.int .i64 (rrA s), .int .i64 (rrC s)]] ∧ NdR h' cs (rrX s)
theorem rrR_bad {s : RdE (Nd × Nat)} {a c : Int} {h : Part} (hs : s = .error (a, c)) : rrR s (.tuple #[.agg #[.int .i64 0, .int .i64 0, .bool false, .slice none 0 0, .slice none 0 0], .int .i64 0, .agg #[.int .i64 a, .int .i64 c]]) h := by
  subst hs; exact ⟨_, rfl, NdR.of SlR.nil_ SlR.nil_⟩
theorem rrR_ok {s : RdE (Nd × Nat)} {x : Nd} {q : Nat} {cs : List Value} {h : Part} (hs : s = .ok (x, q)) (hx : NdR h cs x) : rrR s (.tuple #[.agg cs.toArray, .int .i64 q, .agg #[.int .i64 0, .int .i64 0]]) h := by
  subst hs; exact ⟨cs, rfl, hx⟩
theorem rr_bad {s : RdE (Nd × Nat)} (h : rrC s ≠ 0) : s = .error (rrA s, rrC s) := by
  cases s with
  | error e => rfl
  | ok x => exact absurd rfl h
theorem rr_ok {d : Nat} {l : List UInt8} {p e : Nat} (hp : p ≤ e) (h : rrC (rdN d l p e) = 0) : rdN d l p e = .ok (rrX (rdN d l p e), rrQ (rdN d l p e)) := by
  cases hs : rdN d l p e with
  | ok x => rfl
  | error x =>
    obtain ⟨a, c⟩ := x
    rw [hs] at h
    have h : c = 0 := h
    have := rdN_at d l p e a c hp hs
    omega
theorem and_t {k : Bool} {P Q : Prop} [Decidable P] [Decidable Q] (hk : k = true) (h : P ↔ Q) : decide P = decide (k = true ∧ Q) := decide_eq_decide.2 ⟨fun hp => ⟨hk, h.1 hp⟩, fun hp => h.2 hp.2⟩
theorem and_f {k : Bool} {Q : Prop} [Decidable Q] (hk : ¬ k = true) : false = decide (k = true ∧ Q) := (decide_eq_false (fun hh => hk hh.1)).symm
theorem rd_kid {d d' : Nat} {l : List UInt8} {p en c t n q f pos last : Nat} {k r : Bool} {acc : List Nd} {a e : Int} (hd : d = d' + 1) (hH : rdH l p en true = .ok (c, t, k, n, q)) (hk : k = true) (hK : rdK (rdN d' l) l (q + n) n q [] true q = rdK (rdN d' l) l (q + n) (f + 1) pos acc r last) (hp : pos < q + n)
    (hx : rdN d' l pos (q + n) = .error (a, e)) : rdN d l p en = .error (a, e) := by
  subst hd hk
  rw [rdN_cons hH, hK, rdK_err hp hx]
theorem rd_end {d d' : Nat} {l : List UInt8} {p en c t n q f pos last : Nat} {k r : Bool} {acc : List Nd} {bs : List UInt8} (he : en ≤ l.length) (hen : en < 4294967296) (hd : d = d' + 1) (hH : rdH l p en true = .ok (c, t, k, n, q))
    (h1 : k = true → bs = [] ∧ rdK (rdN d' l) l (q + n) n q [] true q = rdK (rdN d' l) l (q + n) f pos acc r last) (h0 : k = false → acc = [] ∧ bs = cutL l q (q + n)) (hs : pos ≤ q + n) (hx : ¬ (k = true ∧ pos < q + n)) :
    rdN d l p en = if (Nd.mk c t k bs acc).put.isSome then .ok (.mk c t k bs acc, q + n) else .error (p, 34) := by
  subst hd
  cases k with
  | true =>
    obtain ⟨rfl, hK⟩ := h1 rfl
    have hx2 : ¬ pos < q + n := fun hh => hx ⟨rfl, hh⟩
    have hp : pos = q + n := by omega
    replace hK := hK.trans (rdK_stop hx2)
    rw [rk_right he hen hH hK, rdN_cons hH, hK, hp]
  | false =>
    obtain ⟨rfl, rfl⟩ := h0 rfl
    rw [rp_right he hH, rdN_prim hH]
theorem rdnode_fn : ∀ (d : Nat) (l : List UInt8) (p en : Nat) (ab : Option Addr) (cb : Nat) (h : Part), SlR u8R 1 h ab cb l → l.length ≤ 4000000 → en ≤ l.length → p ≤ l.length → d ≤ 32 →
    FnR Tryz.prog 108 [.slice ab l.length cb, .int .i64 p, .int .i64 en, .int .i64 ((33 : Int) - d)] h (rrR (rdN d l p en)) := by
  intro d
  induction d using Nat.strongRecOn with
  | _ d ih =>
  intro l p en ab cb h hl hll hen hpl0 hd
  refine Fn.intro Tryz.func108 rfl Tryz.ntmps108 rfl (fun e he => ?_)
  refine J.weak [(0, _), (1, _), (2, _), (3, _)] ⟨rfl, rfl, rfl, rfl, trivial⟩ ?_
  have hh0 := Part.le.refl h
  refine Sr ?_
  refine JL.alloc zr_28 rfl (fun b1 => ?_)
  refine Ru 1 rfl ?_
  refine JL.alloc zr_74 rfl (fun b2 => ?_)
  refine JL.nil ?_
  refine J.seq ?_
  refine Sr ?_
  refine Ru 3 rfl ?_
  refine JL.nil ?_
  refine Cs rfl (fun hc3 => ?_) fun hc3 => ?_
  ·
   refine Sr ?_
   refine JL.op (RunV.build (cs := [.int .i64 0, .int .i64 0, .bool false, .slice none 0 0, .slice none 0 0]) pl_28 rfl rfl) rfl ?_
   refine Ru 1 rfl ?_
   refine JL.op (RunV.build (cs := [_, _]) pl_74 rfl rfl) rfl ?_
   refine JL.storeA ag_28 rfl rfl dl_ z19_ z14_ z5_ ?_
   refine Ru 1 rfl ?_
   refine JL.storeA ag_74 rfl rfl dl_ (by first | rfl) z38_ (by first | rfl) ?_
   refine Nk [9, 10, 8, 0, 1, 2, 3] rfl ?_
   exact J.retR (RetV.cellTC rfl rfl ag_28 mm_ z5_ rfl rfl ag_74 mm_ (by first | rfl)) (rrR_bad (by cases d with
     | zero => exact rdN_err0 (by unfold rdH; rw [if_pos (by omega)])
     | succ d => exact rdN_err (by unfold rdH; rw [if_pos (by omega)])))
  refine J.skip ?_
  refine Sr ?_
  have hpl : p < l.length := (by omega); have hbt := byteAt_eq l p hpl; have hlt := byteAt_lt l p
  refine Ru 2 rfl ?_
  refine JL.ope (RunE.index (m := p) sl_25 rfl rfl rfl hl rfl (by omega)) rfl ?_
  rintro _ ⟨b4, o4, hi4, rfl, hE4⟩
  refine JL.op (RunV.ld_u8 ag_5 rfl (by assumption)) rfl ?_
  refine JL.op z8_ rfl ?_
  refine Ru 1 rfl ?_
  refine Nk [11, 10, 9, 8, 0, 1, 2, 3] rfl ?_
  refine Sr ?_
  refine Ru 1 rfl ?_
  refine JL.op z29_ rfl ?_
  rw [show ((l[p].toNat : Int) / 64) = ((byteAt l p / 64 : Nat) : Int) by rw [hbt]; simp]
  refine Ru 1 rfl ?_
  refine JL.op z26_ rfl ?_
  rw [show ((l[p].toNat : Int) % 32) = ((byteAt l p % 32 : Nat) : Int) by rw [hbt]; simp]
  refine Ru 1 rfl ?_
  refine JL.op z29_ rfl ?_
  refine JL.op z26_ rfl ?_
  refine Ru 1 rfl ?_
  rw [show decide ((l[p].toNat : Int) / 32 % 2 = 1) = decide (byteAt l p / 32 % 2 = 1) from decide_eq_decide.2 (by omega)]
  refine JL.op (RunV.build (cs := [_, _, _, .slice none 0 0, .slice none 0 0]) pl_28 rfl rfl) rfl ?_
  refine JL.alloc zr_28 rfl (fun b6 => ?_)
  refine JL.storeA ag_28 rfl rfl dl_ z19_ z14_ z5_ ?_
  refine Nk [12, 10, 9, 8, 0, 1, 2, 3] rfl ?_
  refine J.seq ?_
  refine Sr ?_
  refine Ru 1 rfl ?_
  refine JL.op (RunV.own1 ag_3 rfl mm_ rfl) rfl ?_
  refine Ru 1 rfl ?_
  refine JL.op (RunV.own1 ag_3 rfl mm_ rfl) rfl ?_
  refine Ru 1 rfl ?_
  refine JL.op (RunV.own1 ag_4 rfl mm_ rfl) rfl ?_
  refine JL.callP ca_112 rfl (rmay_fn _ _ _ _) rfl ?_
  refine Ru 1 rfl ?_
  refine Nk [47, 12, 10, 9, 8, 0, 1, 2, 3] rfl ?_
  refine Cs rfl (fun hc8 => ?_) fun hc8 => ?_
  ·
   have hmay : mayB (byteAt l p / 64 : Nat) (byteAt l p % 32 : Nat) (decide (byteAt l p / 32 % 2 = 1)) = false := (by simpa using hc8)
   refine Sr ?_
   refine JL.op (RunV.build (cs := [.int .i64 0, .int .i64 0, .bool false, .slice none 0 0, .slice none 0 0]) pl_28 rfl rfl) rfl ?_
   refine Ru 1 rfl ?_
   refine JL.op (RunV.build (cs := [_, _]) pl_74 rfl rfl) rfl ?_
   refine JL.storeA ag_28 rfl rfl dl_ z19_ z14_ z5_ ?_
   refine Ru 1 rfl ?_
   refine JL.storeA ag_74 rfl rfl dl_ (by first | rfl) z38_ (by first | rfl) ?_
   refine Nk [9, 12, 10, 8, 0, 1, 2, 3] rfl ?_
   exact J.retR (RetV.cellTC rfl rfl ag_28 mm_ z5_ rfl rfl ag_74 mm_ (by first | rfl)) (rrR_bad (by cases d with
     | zero => exact rdN_err0 (by unfold rdH; rw [if_neg (by omega), if_pos hmay])
     | succ d => exact rdN_err (by unfold rdH; rw [if_neg (by omega), if_pos hmay])))
  have hmay : mayB (byteAt l p / 64 : Nat) (byteAt l p % 32 : Nat) (decide (byteAt l p / 32 % 2 = 1)) = true := (by simpa using hc8)
  refine J.skip ?_
  refine Sr ?_
  refine Ru 3 rfl ?_
  refine JL.callR ca_170 rfl (rheader_fn (by assumption) (by omega) (by omega)) rfl ?_
  rintro _ h9 hle9 rfl
  replace hl := hl.mono hle9
  replace hh0 := hh0.mono hle9
  obtain ⟨s, hs⟩ : ∃ s, rdS l (p + 1) en = s := ⟨_, rfl⟩; rw [hs]; have hsq := hdQ_le l (p + 1) en; rw [hs] at hsq
  refine Ru 7 rfl ?_
  refine Nk [15, 14, 13, 12, 10, 9, 8, 0, 1, 2, 3] rfl ?_
  refine J.seq ?_
  refine J.seq ?_
  refine J.meet [(67, .bool (decide (hdC s = 0 ∧ (en : Int) - hdQ s < hdN s)))] [(15, _), (14, _), (13, _), (12, _), (10, _), (9, _), (8, _), (0, _), (1, _), (3, _)] ⟨rfl, rfl, rfl, rfl, rfl, rfl, rfl, rfl, rfl, rfl, trivial⟩ ?_ ?_
  ·
   refine Rg ?_
   refine Ru 3 rfl ?_
   refine Bs 61 rfl (fun hc10 => ?_) fun hc10 => ?_
   ·
    refine Ru 3 rfl ?_
    refine JL.opg rfl rfl  si_ rfl ?_
    refine Ru 2 rfl ?_
    refine JL.nil ?_
    refine ⟨rfl, rfl, ?_⟩
    exact z9_
   refine Ru 6 rfl ?_
   refine JL.nil ?_
   refine ⟨rfl, rfl, ?_⟩
   exact z9_
  refine J.meet [(15, .int .i64 (hdE s en))] [(14, _), (13, _), (12, _), (10, _), (9, _), (8, _), (0, _), (1, _), (3, _)] ⟨rfl, rfl, rfl, rfl, rfl, rfl, rfl, rfl, rfl, trivial⟩ ?_ ?_
  ·
   refine Cs rfl (fun hc11 => ?_) fun hc11 => ?_
   ·
    refine Rg ?_
    refine Ru 1 rfl ?_
    refine JL.nil ?_
    refine ⟨rfl, rfl, ?_⟩
    exact z36_
   refine J.skip ?_
   refine ⟨rfl, rfl, ?_⟩
   exact z36_
  refine J.seq ?_
  refine J.seq ?_
  refine J.meet [(73, .bool (decide (hdE s en = 0 ∧ d = 0)))] [(15, _), (14, _), (13, _), (12, _), (10, _), (9, _), (8, _), (0, _), (1, _), (3, _)] ⟨rfl, rfl, rfl, rfl, rfl, rfl, rfl, rfl, rfl, rfl, trivial⟩ ?_ ?_
  ·
   refine Rg ?_
   refine Ru 3 rfl ?_
   refine Bs 70 rfl (fun hc12 => ?_) fun hc12 => ?_
   ·
    refine Ru 3 rfl ?_
    refine JL.nil ?_
    refine ⟨rfl, rfl, ?_⟩
    exact z9_
   refine Ru 3 rfl ?_
   refine JL.nil ?_
   refine ⟨rfl, rfl, ?_⟩
   exact z9_
  refine J.meet [(15, .int .i64 (hdF s en d))] [(14, _), (13, _), (12, _), (10, _), (9, _), (8, _), (0, _), (1, _), (3, _)] ⟨rfl, rfl, rfl, rfl, rfl, rfl, rfl, rfl, rfl, trivial⟩ ?_ ?_
  ·
   refine Cs rfl (fun hc13 => ?_) fun hc13 => ?_
   ·
    refine Rg ?_
    refine Ru 1 rfl ?_
    refine JL.nil ?_
    refine ⟨rfl, rfl, ?_⟩
    exact z36_
   refine J.skip ?_
   refine ⟨rfl, rfl, ?_⟩
   exact z36_
  refine J.seq ?_
  refine Sr ?_
  refine Ru 2 rfl ?_
  refine JL.nil ?_
  refine Cs rfl (fun hc14 => ?_) fun hc14 => ?_
  ·
   refine Sr ?_
   refine JL.op (RunV.build (cs := [.int .i64 0, .int .i64 0, .bool false, .slice none 0 0, .slice none 0 0]) pl_28 rfl rfl) rfl ?_
   refine Ru 2 rfl ?_
   refine JL.op (RunV.build (cs := [_, _]) pl_74 rfl rfl) rfl ?_
   refine JL.storeA ag_28 rfl rfl dl_ z19_ z14_ z5_ ?_
   refine Ru 1 rfl ?_
   refine JL.storeA ag_74 rfl rfl dl_ (by first | rfl) z38_ (by first | rfl) ?_
   refine Nk [9, 14, 13, 12, 10, 8, 0, 1, 3] rfl ?_
   exact J.retR (RetV.cellTC rfl rfl ag_28 mm_ z5_ rfl rfl ag_74 mm_ (by first | rfl)) (rrR_bad (hdF_bad (by omega) hmay hs hc14))
  obtain ⟨zn, zq, d', hzn, hzq, hdd, hH⟩ := hdF_ok (d := d) (by omega) hmay hs (by omega); rw [hzn, hzq]; have hle := rdH_le hH; obtain ⟨c, hcd⟩ : ∃ c, byteAt l p / 64 = c := ⟨_, rfl⟩; obtain ⟨t, htd⟩ : ∃ t, byteAt l p % 32 = t := ⟨_, rfl⟩; obtain ⟨k, hkd⟩ : ∃ k, decide (byteAt l p / 32 % 2 = 1) = k := ⟨_, rfl⟩; rw [hcd, htd, hkd] at hH ⊢; rw [hcd, htd] at hle
  refine J.skip ?_
  refine J.seq ?_
  refine Sr ?_
  refine Ru 1 rfl ?_
  refine JL.op (RunV.own1 ag_4 rfl mm_ rfl) rfl ?_
  refine JL.row_nil 5 1 ?_; refine JL.row_nil 28 5 ?_
  refine Ru 1 rfl ?_
  refine Nk [82, 14, 13, 12, 10, 9, 8, 0, 1, 3] rfl ?_
  refine Cs rfl (fun hc15 => ?_) fun hc15 => ?_
  ·
   refine J.held ([]) 11 mixed_ rfl (fun h00 => ?_)
   refine Tk 0 rfl (by first | exact RunV.fieldAt0 fo_28_3 rfl | exact RunV.fieldAt fo_28_3 rfl) ?_
   refine Tk 2 rfl (RunV.move rfl) ?_
   refine Tk 3 rfl (RunV.move rfl) ?_
   refine Tk 4 rfl (RunV.move rfl) ?_
   refine Tk 5 rfl (RunV.move rfl) ?_
   refine Tk 6 rfl ai_ ?_
   refine Te 7 rfl (RunE.cut_lh (m := zq) (m' := zq + zn) sl_25 rfl rfl rfl rfl (by omega) (by assumption) rfl (by omega) (by omega)) ?_
   rintro _ ⟨as_, cs_, rfl, hSs⟩
   obtain ⟨bs, hbs⟩ : ∃ bs, cutL l zq (zq + zn) = bs := ⟨_, rfl⟩; have hbc := hbs; unfold cutL at hbs; rw [hbs] at hSs ⊢; have hbsl := hSs.big; have hbl2 : bs.length = zn := (by rw [← hbs]; simp; omega)
   refine Ta 1 rfl ?_
   unfold One
   refine JL.op (RunV.own1 ag_25 rfl mm_ rfl) rfl ?_
   refine JL.nil ⟨(br_ h00), ?_⟩
   refine Ta 8 rfl ?_
   unfold One
   refine JL.append ap_25 rfl rfl (CellsR.nil : CellsR u8R 1 _ [] []) rfl (by assumption) rfl dl_ z4_ rfl rfl (fun a17 c17 xs17 hC17 hN17 => ?_)
   obtain rfl := hC17.u8
   refine JL.pub (R := u8R) (l := bs) dl_ CellsR.of_u8 rfl z4_ (fun h18 hle18 hP18 => ?_)
   replace hl := hl.mono hle18
   replace hh0 := hh0.mono hle18
   replace hSs := hSs.mono hle18
   refine JL.nil ⟨(br_ h00), ?_⟩
   refine Tk 9 rfl (by first | exact RunV.fieldAt0 fo_28_3 rfl | exact RunV.fieldAt fo_28_3 rfl) ?_
   refine Ta 10 rfl ?_
   unfold One
   refine JL.store1 ag_25 rfl rfl rfl dl_ z27_ ?_
   refine JL.nil ⟨(br_ h00), ?_⟩
   refine JH.done (by kernel_rfl) ?_
   refine Kp [14, 13, 12, 10, 9, 8, 0, 1, 3] rfl ?_
   refine J.seq ?_
   refine Sr ?_
   refine JL.ents [.blk b6 _ _, .row none 0 28 5 0 [], .blk b1 _ _, .blk b2 _ _] pt_ ?_
   refine Ru 2 rfl ?_
   refine JL.nil ?_
   refine J.block ?_
   refine J.loop (fun t_ S_ h_ L_ => ∃ (g : Part) (f pos last : Nat) (acc : List Nd) (r : Bool) (bs : List UInt8) (ak bk : Option Addr) (ck ckb : Nat) (xs : List Value), t_ = zq + zn - pos ∧ S_ = [(0, .slice ab l.length cb), (1, .int .i64 p), (3, .int .i64 ((33 : Int) - d)), (8, .pointer (some ⟨b1, 0, none⟩)), (10, .pointer (some ⟨b2, 0, none⟩)), (12, .pointer (some ⟨b6, 0, none⟩)), (13, .int .i64 zn), (14, .int .i64 zq), (16, .int .i64 pos)] ∧ g = h_ ∧ L_ = [.blk b6 28 [.int .i64 c, .int .i64 t, .bool k, .slice bk bs.length ckb, .slice ak acc.length ck], .row ak ck 28 5 acc.length xs, .blk b1 28 [.int .i64 0, .int .i64 0, .bool false, .slice none 0 0, .slice none 0 0], .blk b2 74 [.int .i64 0, .int .i64 0]] ∧ (h.le g ∧ SlR u8R 1 g ab cb l ∧ CellsR NdR 5 g xs acc ∧ SlR u8R 1 g bk ckb bs ∧ bs.length ≤ zn ∧ last ≤ pos ∧ zq ≤ pos ∧ pos ≤ zq + zn ∧ zq + zn ≤ pos + f ∧ Nd.szL acc + zq ≤ pos ∧ acc.length + zq ≤ pos ∧ (k = false → acc = [] ∧ bs = cutL l zq (zq + zn)) ∧ (k = true → bs = [] ∧ rdK (rdN d' l) l (zq + zn) zn zq [] true zq = rdK (rdN d' l) l (zq + zn) f pos acc r last))) ⟨_, _, ?_, ⟨_, zn, zq, zq, [], true, bs, none, _, 0, _, [], rfl, rfl, rfl, rfl, ⟨by assumption, by assumption, CellsR.nil, (by first | assumption | exact SlR.nil_), (by first | omega | exact Nat.zero_le _), by omega, by omega, by omega, by omega, by simp [Nd.szL], by simp, (by intro hh; first | exact ⟨rfl, hbc.symm⟩ | simp_all), (by intro hh; first | exact ⟨rfl, rfl⟩ | simp_all)⟩⟩⟩ ?_
   ·
    exact z7_
   rintro _ _ _ _ ⟨g, f, pos, last, acc, r, bs, ak, bk, ck, ckb, xs, rfl, rfl, rfl, rfl, hhg, hl, hC, hbsR, hbl, hlp, hzp, hps, hpf, hsz, hap, hK0, hK1⟩
   refine J.seq ?_
   refine J.seq ?_
   refine J.meet [(102, .bool (decide (k = true ∧ pos < zq + zn)))] [(0, _), (1, _), (3, _), (8, _), (10, _), (12, _), (13, _), (14, _), (16, _)] ⟨rfl, rfl, rfl, rfl, rfl, rfl, rfl, rfl, rfl, trivial⟩ ?_ ?_
   ·
    refine Rg ?_
    refine Ru 1 rfl ?_
    refine JL.op (RunV.own1 ag_4 rfl mm_ rfl) rfl ?_
    refine Ru 1 rfl ?_
    refine Bs 96 rfl (fun hc19 => ?_) fun hc19 => ?_
    ·
     refine Ru 3 rfl ?_
     refine JL.opg rfl rfl  ai_ rfl ?_
     refine Ru 2 rfl ?_
     refine JL.nil ?_
     refine ⟨rfl, rfl, ?_⟩
     exact z35_
    refine Ru 6 rfl ?_
    refine JL.nil ?_
    refine ⟨rfl, rfl, ?_⟩
    exact z35_
   refine Cs rfl (fun hc20 => ?_) fun hc20 => ?_
   ·
    obtain ⟨hkt, hpos⟩ := hc20; obtain ⟨hbs0, hK⟩ := hK1 hkt; obtain ⟨f', rfl⟩ : ∃ f', f = f' + 1 := ⟨f - 1, by omega⟩
    refine J.skip ?_
    refine J.block ?_
    refine Sr ?_
    refine Ru 4 rfl ?_
    refine JL.op ai_ rfl ?_
    rw [show (zq : Int) + zn = ((zq + zn : Nat) : Int) by omega]
    refine Ru 1 rfl ?_
    refine JL.op ai_ rfl ?_
    rw [show ((33 : Int) - (d : Int) + 1) = 33 - (d' : Int) by omega]
    refine JL.callR ca_108 rfl ((ih d' (by omega) l pos (zq + zn) ab cb _ (by assumption) hll (by omega) (by omega) (by omega))) rfl ?_
    rintro _ h21 hle21 ⟨xcs, rfl, hX⟩
    replace hhg := hhg.mono hle21
    replace hl := hl.mono hle21
    replace hC := hC.mono hle21
    replace hbsR := hbsR.mono hle21
    have hyo := @rr_ok d' l pos (zq + zn) (by omega); have hyb := @rr_bad (rdN d' l pos (zq + zn)); obtain ⟨y, hy⟩ : ∃ y, rdN d' l pos (zq + zn) = y := ⟨_, rfl⟩; rw [hy] at hX hyo hyb ⊢
    refine Ru 4 rfl ?_
    refine JL.alloc zr_28 rfl (fun b22 => ?_)
    refine JL.alloc zr_74 rfl (fun b23 => ?_)
    refine JL.storeA ag_28 rfl rfl dl_ z19_ z14_ z5_ ?_
    refine Ru 1 rfl ?_
    refine JL.storeA ag_74 rfl rfl dl_ (by first | rfl) z38_ (by first | rfl) ?_
    refine JL.nil ?_
    refine J.seq ?_
    refine Sr ?_
    refine Ru 1 rfl ?_
    refine JL.op (RunV.own1 ag_33 rfl mm_ rfl) rfl ?_
    refine Ru 1 rfl ?_
    refine JL.nil ?_
    refine Cs rfl (fun hc24 => ?_) fun hc24 => ?_
    ·
     have hrd := rd_kid hdd hH hkt hK hpos (hy.trans (hyb hc24))
     refine J.seq ?_
     refine J.held ([.blk (by first | exact b23 | exact b33) 74 [.int .i64 (rrA y), .int .i64 (rrC y)]]) 5 mixed_ rfl (fun h00 => ?_)
     refine Tk 0 rfl (RunV.build (cs := [.int .i64 0, .int .i64 0, .bool false, .slice none 0 0, .slice none 0 0]) pl_28 rfl rfl) ?_
     refine Tk 1 rfl (RunV.ownA ag_74 rfl mm_ (by first | rfl)) ?_
     refine Ta 2 rfl ?_
     unfold One
     refine JL.storeA ag_28 rfl rfl dl_ z19_ z14_ z5_ ?_
     refine JL.nil ⟨(br_ h00), ?_⟩
     refine Tk 3 rfl (RunV.assign rfl) ?_
     refine Ta 4 rfl ?_
     unfold One
     refine JL.storeA ag_74 rfl rfl dl_ (by first | rfl) z38_ (by first | rfl) ?_
     refine JL.nil ⟨(br_ h00), ?_⟩
     refine JH.done (by kernel_rfl) ?_
     exact J.retR (RetV.cellTC rfl rfl ag_28 mm_ z5_ rfl rfl ag_74 mm_ (by first | rfl)) (rrR_bad hrd)
    have hye := hy.trans (hyo (by omega)); obtain ⟨x, hxx⟩ : ∃ x, rrX y = x := ⟨_, rfl⟩; obtain ⟨p', hpp⟩ : ∃ p', rrQ y = p' := ⟨_, rfl⟩; rw [hxx, hpp] at hye; rw [hxx] at hX; rw [hpp]; have hxl := rdN_le d' l pos (zq + zn) _ _ hye; have hxz := rdN_sz (by omega) hye
    refine J.skip ?_
    refine Sr ?_
    refine Ru 1 rfl ?_
    refine JL.op (RunV.own1 ag_26 rfl mm_ rfl) rfl ?_
    refine JL.op (RunV.ownA ag_28 rfl mm_ z5_) rfl ?_
    refine JL.litA ap_26 rfl z5_ rfl rfl (fun b25 => ?_)
    refine JL.append1 ap_26 rfl rfl (by assumption) rfl dl_ dl_ z5_ (hX) z4_ rfl rfl (fun a26 c26 xs26 hC26 hN26 => ?_)
    refine Ru 1 rfl ?_
    refine JL.store1 ag_26 rfl rfl rfl dl_ z27_ ?_
    refine JL.nil ?_
    refine Rg ?_
    refine Ru 2 rfl ?_
    refine JL.ents [.blk b6 _ _, .row _ _ _ _ _ _, .blk b1 _ _, .blk b2 _ _] pt_ ?_
    refine JL.nil ?_
    refine ⟨_, ?_, _, ?_, ⟨_, f', p', pos, acc ++ [x], _, bs, _, _, _, _, _, rfl, rfl, rfl, rfl, ⟨by assumption, by assumption, by assumption, by assumption, by omega, by omega, by omega, by omega, by omega, by rw [Nd.szL_append]; simp [Nd.szL]; omega, by simp; omega, fun hh => by simp_all, fun _ => ⟨hbs0, by rw [hK, rdK_ok hpos hye]⟩⟩⟩⟩
    ·
     omega
    exact z7_
   refine J.exit ?_
   refine Kp [1, 8, 10, 12, 13, 14] rfl ?_
   refine J.seq ?_
   refine Sr ?_
   refine JL.pub (R := NdR) (l := acc) dl_ (by assumption) rfl (by omega) (fun h9 hle9 hS9 => ?_); have hB9 := hbsR.mono hle9; have hend := rd_end (d := d) (bs := bs) hen (by omega) hdd hH hK1 hK0 hps (by assumption)
   refine JL.op (RunV.ownA ag_28 rfl mm_ z5_) rfl ?_
   refine JL.callP ca_171 rfl (rright_fn (x := .mk c t k bs acc) (NdR.of hB9 hS9) (by simp only [Nd.sz]; omega)) rfl ?_
   refine Ru 1 rfl ?_
   refine JL.nil ?_
   refine Cs rfl (fun hc28 => ?_) fun hc28 => ?_
   ·
    rw [if_neg (by simpa using hc28)] at hend
    refine Sr ?_
    refine JL.op (RunV.build (cs := [.int .i64 0, .int .i64 0, .bool false, .slice none 0 0, .slice none 0 0]) pl_28 rfl rfl) rfl ?_
    refine Ru 1 rfl ?_
    refine JL.op (RunV.build (cs := [_, _]) pl_74 rfl rfl) rfl ?_
    refine JL.storeA ag_28 rfl rfl dl_ z19_ z14_ z5_ ?_
    refine Ru 1 rfl ?_
    refine JL.storeA ag_74 rfl rfl dl_ (by first | rfl) z38_ (by first | rfl) ?_
    refine Nk [9, 8, 10, 12, 13, 14] rfl ?_
    exact J.retR (RetV.cellTC rfl rfl ag_28 mm_ z5_ rfl rfl ag_74 mm_ (by first | rfl)) (rrR_bad hend)
   rw [if_pos (by simpa using hc28)] at hend
   refine J.skip ?_
   refine Kp [8, 10, 12, 13, 14] rfl ?_
   refine Sr ?_
   refine JL.op (RunV.ownA ag_28 rfl mm_ z5_) rfl ?_
   refine Ru 2 rfl ?_
   refine JL.op ai_ rfl ?_
   refine JL.op (RunV.build (cs := [.int .i64 0, .int .i64 0]) pl_74 rfl rfl) rfl ?_
   refine JL.storeA ag_28 rfl rfl dl_ z19_ z14_ z5_ ?_
   refine Ru 1 rfl ?_
   refine JL.storeA ag_74 rfl rfl dl_ (by first | rfl) z38_ (by first | rfl) ?_
   refine Nk [9, 8, 10] rfl ?_
   exact J.retR (RetV.cellTC rfl rfl ag_28 mm_ z5_ rfl rfl ag_74 mm_ (by first | rfl)) (rrR_ok hend (NdR.of hB9 hS9))
  let bs : List UInt8 := []
  refine J.skip ?_
  refine J.seq ?_
  refine Sr ?_
  refine JL.ents [.blk b6 _ _, .row none 0 28 5 0 [], .blk b1 _ _, .blk b2 _ _] pt_ ?_
  refine Ru 2 rfl ?_
  refine JL.nil ?_
  refine J.block ?_
  refine J.loop (fun t_ S_ h_ L_ => ∃ (g : Part) (f pos last : Nat) (acc : List Nd) (r : Bool) (bs : List UInt8) (ak bk : Option Addr) (ck ckb : Nat) (xs : List Value), t_ = zq + zn - pos ∧ S_ = [(0, .slice ab l.length cb), (1, .int .i64 p), (3, .int .i64 ((33 : Int) - d)), (8, .pointer (some ⟨b1, 0, none⟩)), (10, .pointer (some ⟨b2, 0, none⟩)), (12, .pointer (some ⟨b6, 0, none⟩)), (13, .int .i64 zn), (14, .int .i64 zq), (16, .int .i64 pos)] ∧ g = h_ ∧ L_ = [.blk b6 28 [.int .i64 c, .int .i64 t, .bool k, .slice bk bs.length ckb, .slice ak acc.length ck], .row ak ck 28 5 acc.length xs, .blk b1 28 [.int .i64 0, .int .i64 0, .bool false, .slice none 0 0, .slice none 0 0], .blk b2 74 [.int .i64 0, .int .i64 0]] ∧ (h.le g ∧ SlR u8R 1 g ab cb l ∧ CellsR NdR 5 g xs acc ∧ SlR u8R 1 g bk ckb bs ∧ bs.length ≤ zn ∧ last ≤ pos ∧ zq ≤ pos ∧ pos ≤ zq + zn ∧ zq + zn ≤ pos + f ∧ Nd.szL acc + zq ≤ pos ∧ acc.length + zq ≤ pos ∧ (k = false → acc = [] ∧ bs = cutL l zq (zq + zn)) ∧ (k = true → bs = [] ∧ rdK (rdN d' l) l (zq + zn) zn zq [] true zq = rdK (rdN d' l) l (zq + zn) f pos acc r last))) ⟨_, _, ?_, ⟨_, zn, zq, zq, [], true, bs, none, _, 0, _, [], rfl, rfl, rfl, rfl, ⟨by assumption, by assumption, CellsR.nil, (by first | assumption | exact SlR.nil_), (by first | omega | exact Nat.zero_le _), by omega, by omega, by omega, by omega, by simp [Nd.szL], by simp, (by intro hh; first | exact ⟨rfl, hbc.symm⟩ | simp_all), (by intro hh; first | exact ⟨rfl, rfl⟩ | simp_all)⟩⟩⟩ ?_
  ·
   exact z7_
  rintro _ _ _ _ ⟨g, f, pos, last, acc, r, bs, ak, bk, ck, ckb, xs, rfl, rfl, rfl, rfl, hhg, hl, hC, hbsR, hbl, hlp, hzp, hps, hpf, hsz, hap, hK0, hK1⟩
  refine J.seq ?_
  refine J.seq ?_
  refine J.meet [(102, .bool (decide (k = true ∧ pos < zq + zn)))] [(0, _), (1, _), (3, _), (8, _), (10, _), (12, _), (13, _), (14, _), (16, _)] ⟨rfl, rfl, rfl, rfl, rfl, rfl, rfl, rfl, rfl, trivial⟩ ?_ ?_
  ·
   refine Rg ?_
   refine Ru 1 rfl ?_
   refine JL.op (RunV.own1 ag_4 rfl mm_ rfl) rfl ?_
   refine Ru 1 rfl ?_
   refine Bs 96 rfl (fun hc29 => ?_) fun hc29 => ?_
   ·
    refine Ru 3 rfl ?_
    refine JL.opg rfl rfl  ai_ rfl ?_
    refine Ru 2 rfl ?_
    refine JL.nil ?_
    refine ⟨rfl, rfl, ?_⟩
    exact z35_
   refine Ru 6 rfl ?_
   refine JL.nil ?_
   refine ⟨rfl, rfl, ?_⟩
   exact z35_
  refine Cs rfl (fun hc30 => ?_) fun hc30 => ?_
  ·
   obtain ⟨hkt, hpos⟩ := hc30; obtain ⟨hbs0, hK⟩ := hK1 hkt; obtain ⟨f', rfl⟩ : ∃ f', f = f' + 1 := ⟨f - 1, by omega⟩
   refine J.skip ?_
   refine J.block ?_
   refine Sr ?_
   refine Ru 4 rfl ?_
   refine JL.op ai_ rfl ?_
   rw [show (zq : Int) + zn = ((zq + zn : Nat) : Int) by omega]
   refine Ru 1 rfl ?_
   refine JL.op ai_ rfl ?_
   rw [show ((33 : Int) - (d : Int) + 1) = 33 - (d' : Int) by omega]
   refine JL.callR ca_108 rfl ((ih d' (by omega) l pos (zq + zn) ab cb _ (by assumption) hll (by omega) (by omega) (by omega))) rfl ?_
   rintro _ h31 hle31 ⟨xcs, rfl, hX⟩
   replace hhg := hhg.mono hle31
   replace hl := hl.mono hle31
   replace hC := hC.mono hle31
   replace hbsR := hbsR.mono hle31
   have hyo := @rr_ok d' l pos (zq + zn) (by omega); have hyb := @rr_bad (rdN d' l pos (zq + zn)); obtain ⟨y, hy⟩ : ∃ y, rdN d' l pos (zq + zn) = y := ⟨_, rfl⟩; rw [hy] at hX hyo hyb ⊢
   refine Ru 4 rfl ?_
   refine JL.alloc zr_28 rfl (fun b32 => ?_)
   refine JL.alloc zr_74 rfl (fun b33 => ?_)
   refine JL.storeA ag_28 rfl rfl dl_ z19_ z14_ z5_ ?_
   refine Ru 1 rfl ?_
   refine JL.storeA ag_74 rfl rfl dl_ (by first | rfl) z38_ (by first | rfl) ?_
   refine JL.nil ?_
   refine J.seq ?_
   refine Sr ?_
   refine Ru 1 rfl ?_
   refine JL.op (RunV.own1 ag_33 rfl mm_ rfl) rfl ?_
   refine Ru 1 rfl ?_
   refine JL.nil ?_
   refine Cs rfl (fun hc34 => ?_) fun hc34 => ?_
   ·
    have hrd := rd_kid hdd hH hkt hK hpos (hy.trans (hyb hc34))
    refine J.seq ?_
    refine J.held ([.blk (by first | exact b23 | exact b33) 74 [.int .i64 (rrA y), .int .i64 (rrC y)]]) 5 mixed_ rfl (fun h00 => ?_)
    refine Tk 0 rfl (RunV.build (cs := [.int .i64 0, .int .i64 0, .bool false, .slice none 0 0, .slice none 0 0]) pl_28 rfl rfl) ?_
    refine Tk 1 rfl (RunV.ownA ag_74 rfl mm_ (by first | rfl)) ?_
    refine Ta 2 rfl ?_
    unfold One
    refine JL.storeA ag_28 rfl rfl dl_ z19_ z14_ z5_ ?_
    refine JL.nil ⟨(br_ h00), ?_⟩
    refine Tk 3 rfl (RunV.assign rfl) ?_
    refine Ta 4 rfl ?_
    unfold One
    refine JL.storeA ag_74 rfl rfl dl_ (by first | rfl) z38_ (by first | rfl) ?_
    refine JL.nil ⟨(br_ h00), ?_⟩
    refine JH.done (by kernel_rfl) ?_
    exact J.retR (RetV.cellTC rfl rfl ag_28 mm_ z5_ rfl rfl ag_74 mm_ (by first | rfl)) (rrR_bad hrd)
   have hye := hy.trans (hyo (by omega)); obtain ⟨x, hxx⟩ : ∃ x, rrX y = x := ⟨_, rfl⟩; obtain ⟨p', hpp⟩ : ∃ p', rrQ y = p' := ⟨_, rfl⟩; rw [hxx, hpp] at hye; rw [hxx] at hX; rw [hpp]; have hxl := rdN_le d' l pos (zq + zn) _ _ hye; have hxz := rdN_sz (by omega) hye
   refine J.skip ?_
   refine Sr ?_
   refine Ru 1 rfl ?_
   refine JL.op (RunV.own1 ag_26 rfl mm_ rfl) rfl ?_
   refine JL.op (RunV.ownA ag_28 rfl mm_ z5_) rfl ?_
   refine JL.litA ap_26 rfl z5_ rfl rfl (fun b35 => ?_)
   refine JL.append1 ap_26 rfl rfl (by assumption) rfl dl_ dl_ z5_ (hX) z4_ rfl rfl (fun a36 c36 xs36 hC36 hN36 => ?_)
   refine Ru 1 rfl ?_
   refine JL.store1 ag_26 rfl rfl rfl dl_ z27_ ?_
   refine JL.nil ?_
   refine Rg ?_
   refine Ru 2 rfl ?_
   refine JL.ents [.blk b6 _ _, .row _ _ _ _ _ _, .blk b1 _ _, .blk b2 _ _] pt_ ?_
   refine JL.nil ?_
   refine ⟨_, ?_, _, ?_, ⟨_, f', p', pos, acc ++ [x], _, bs, _, _, _, _, _, rfl, rfl, rfl, rfl, ⟨by assumption, by assumption, by assumption, by assumption, by omega, by omega, by omega, by omega, by omega, by rw [Nd.szL_append]; simp [Nd.szL]; omega, by simp; omega, fun hh => by simp_all, fun _ => ⟨hbs0, by rw [hK, rdK_ok hpos hye]⟩⟩⟩⟩
   ·
    omega
   exact z7_
  refine J.exit ?_
  refine Kp [1, 8, 10, 12, 13, 14] rfl ?_
  refine J.seq ?_
  refine Sr ?_
  refine JL.pub (R := NdR) (l := acc) dl_ (by assumption) rfl (by omega) (fun h9 hle9 hS9 => ?_); have hB9 := hbsR.mono hle9; have hend := rd_end (d := d) (bs := bs) hen (by omega) hdd hH hK1 hK0 hps (by assumption)
  refine JL.op (RunV.ownA ag_28 rfl mm_ z5_) rfl ?_
  refine JL.callP ca_171 rfl (rright_fn (x := .mk c t k bs acc) (NdR.of hB9 hS9) (by simp only [Nd.sz]; omega)) rfl ?_
  refine Ru 1 rfl ?_
  refine JL.nil ?_
  refine Cs rfl (fun hc38 => ?_) fun hc38 => ?_
  ·
   rw [if_neg (by simpa using hc38)] at hend
   refine Sr ?_
   refine JL.op (RunV.build (cs := [.int .i64 0, .int .i64 0, .bool false, .slice none 0 0, .slice none 0 0]) pl_28 rfl rfl) rfl ?_
   refine Ru 1 rfl ?_
   refine JL.op (RunV.build (cs := [_, _]) pl_74 rfl rfl) rfl ?_
   refine JL.storeA ag_28 rfl rfl dl_ z19_ z14_ z5_ ?_
   refine Ru 1 rfl ?_
   refine JL.storeA ag_74 rfl rfl dl_ (by first | rfl) z38_ (by first | rfl) ?_
   refine Nk [9, 8, 10, 12, 13, 14] rfl ?_
   exact J.retR (RetV.cellTC rfl rfl ag_28 mm_ z5_ rfl rfl ag_74 mm_ (by first | rfl)) (rrR_bad hend)
  rw [if_pos (by simpa using hc38)] at hend
  refine J.skip ?_
  refine Kp [8, 10, 12, 13, 14] rfl ?_
  refine Sr ?_
  refine JL.op (RunV.ownA ag_28 rfl mm_ z5_) rfl ?_
  refine Ru 2 rfl ?_
  refine JL.op ai_ rfl ?_
  refine JL.op (RunV.build (cs := [.int .i64 0, .int .i64 0]) pl_74 rfl rfl) rfl ?_
  refine JL.storeA ag_28 rfl rfl dl_ z19_ z14_ z5_ ?_
  refine Ru 1 rfl ?_
  refine JL.storeA ag_74 rfl rfl dl_ (by first | rfl) z38_ (by first | rfl) ?_
  refine Nk [9, 8, 10] rfl ?_
  exact J.retR (RetV.cellTC rfl rfl ag_28 mm_ z5_ rfl rfl ag_74 mm_ (by first | rfl)) (rrR_ok hend (NdR.of hB9 hS9))
end Go.Proofs.YtohlpgoeheggdaaGreatDoor
namespace Go.Proofs.YtohlpgoeheggdaaGreatDoor
open Go Go.RowKit
set_option maxRecDepth 100000
end Go.Proofs.YtohlpgoeheggdaaGreatDoor
namespace Go.Proofs.YtohlpgoeheggdaaGreatDoor
open Go Go.RowKit
set_option maxRecDepth 100000
theorem rtop_fn {a : Option Addr} {c : Nat} {l : List UInt8} {h : Part} (hl : SlR u8R 1 h a c l) (hll : l.length ≤ 4000000) :
    FnR Tryz.prog 43 [.slice a l.length c] h (fun v h' => ∃ cs, v = .tuple #[.agg (List.toArray cs), .agg #[.int .i64 (rdTop l).2.1, .int .i64 (rdTop l).2.2]] ∧ NdR h' cs (rdTop l).1) := by
  refine Fn.intro Tryz.func43 rfl Tryz.ntmps43 rfl (fun e he => ?_)
  refine J.weak [(0, _)] ⟨rfl, trivial⟩ ?_
  have hh0 := Part.le.refl h
  refine Sr ?_
  refine JL.alloc zr_28 rfl (fun b1 => ?_)
  refine JL.alloc zr_74 rfl (fun b2 => ?_)
  refine JL.nil ?_
  refine J.seq ?_
  refine Sr ?_
  refine Ru 3 rfl ?_
  refine JL.nil ?_
  refine Cs rfl (fun hc3 => ?_) fun hc3 => ?_
  ·
   exfalso; omega
  refine J.skip ?_
  refine Sr ?_
  refine Ru 3 rfl ?_
  refine JL.callR ca_108 rfl ((rdnode_fn 32 l 0 l.length a c _ hl (by omega) (by omega) (by omega) (by omega))) rfl ?_
  rintro _ h4 hle4 ⟨xcs, rfl, hX⟩
  replace hl := hl.mono hle4
  replace hh0 := hh0.mono hle4
  have hyo := @rr_ok 32 l 0 l.length (by omega); have hyb := @rr_bad (rdN 32 l 0 l.length); obtain ⟨y, hy⟩ : ∃ y, rdN 32 l 0 l.length = y := ⟨_, rfl⟩; rw [hy] at hX hyo hyb ⊢
  refine Ru 4 rfl ?_
  refine JL.alloc zr_28 rfl (fun b5 => ?_)
  refine JL.alloc zr_74 rfl (fun b6 => ?_)
  refine JL.storeA ag_28 rfl rfl dl_ z19_ z14_ z5_ ?_
  refine Ru 1 rfl ?_
  refine JL.storeA ag_74 rfl rfl dl_ (by first | rfl) z38_ (by first | rfl) ?_
  refine Nk [5, 6, 4, 3, 2, 0] rfl ?_
  refine J.seq ?_
  refine Sr ?_
  refine Ru 1 rfl ?_
  refine JL.op (RunV.own1 ag_33 rfl mm_ rfl) rfl ?_
  refine Ru 1 rfl ?_
  refine JL.nil ?_
  refine Cs rfl (fun hc7 => ?_) fun hc7 => ?_
  ·
   have hye := hy.trans (hyb hc7); have ht : rdTop l = (ndZ, rrA y, rrC y) := (by unfold rdTop; rw [if_neg (by omega), hye])
   refine J.seq ?_
   refine J.held ([.blk b6 74 [.int .i64 (rrA y), .int .i64 (rrC y)]]) 4 mixed_ rfl (fun h00 => ?_)
   refine Tk 0 rfl (RunV.build (cs := [.int .i64 0, .int .i64 0, .bool false, .slice none 0 0, .slice none 0 0]) pl_28 rfl rfl) ?_
   refine Tk 1 rfl (RunV.ownA ag_74 rfl mm_ (by first | rfl)) ?_
   refine Ta 2 rfl ?_
   unfold One
   refine JL.storeA ag_28 rfl rfl dl_ z19_ z14_ z5_ ?_
   refine JL.nil ⟨(br_ h00), ?_⟩
   refine Ta 3 rfl ?_
   unfold One
   refine JL.storeA ag_74 rfl rfl dl_ (by first | rfl) z38_ (by first | rfl) ?_
   refine JL.nil ⟨(br_ h00), ?_⟩
   refine JH.done (by kernel_rfl) ?_
   refine Kp [5, 4, 3, 2, 0] rfl ?_
   rw [ht]; exact J.retR (RetV.cell2 rfl rfl ag_28 mm_ z5_ rfl ag_74 mm_ (by first | rfl)) ⟨_, rfl, NdR.of SlR.nil_ SlR.nil_⟩
  have hye := hy.trans (hyo (by omega)); obtain ⟨x, hxx⟩ : ∃ x, rrX y = x := ⟨_, rfl⟩; obtain ⟨p', hpp⟩ : ∃ p', rrQ y = p' := ⟨_, rfl⟩; rw [hxx, hpp] at hye; rw [hxx] at hX; rw [hpp]; have hxl := rdN_le 32 l 0 l.length _ _ hye
  refine J.skip ?_
  refine Kp [5, 4, 3, 2, 0] rfl ?_
  refine J.seq ?_
  refine Sr ?_
  refine Ru 4 rfl ?_
  refine JL.nil ?_
  refine Cs rfl (fun hc8 => ?_) fun hc8 => ?_
  ·
   have ht : rdTop l = (ndZ, (p' : Int), 35) := (by unfold rdTop; rw [if_neg (by omega), hye]; simp only; rw [if_pos (by omega)])
   refine Sr ?_
   refine JL.op (RunV.build (cs := [.int .i64 0, .int .i64 0, .bool false, .slice none 0 0, .slice none 0 0]) pl_28 rfl rfl) rfl ?_
   refine Ru 1 rfl ?_
   refine JL.op (RunV.build (cs := [_, _]) pl_74 rfl rfl) rfl ?_
   refine JL.storeA ag_28 rfl rfl dl_ z19_ z14_ z5_ ?_
   refine JL.storeA ag_74 rfl rfl dl_ (by first | rfl) z38_ (by first | rfl) ?_
   refine Nk [4, 3, 2] rfl ?_
   rw [ht]; exact J.retR (RetV.cell2 rfl rfl ag_28 mm_ z5_ rfl ag_74 mm_ (by first | rfl)) ⟨_, rfl, NdR.of SlR.nil_ SlR.nil_⟩
  have ht : rdTop l = (x, 0, 0) := (by unfold rdTop; rw [if_neg (by omega), hye]; simp only; rw [if_neg (by omega)])
  refine J.skip ?_
  refine Kp [4, 3, 2] rfl ?_
  refine Sr ?_
  refine JL.op (RunV.ownA ag_28 rfl mm_ z5_) rfl ?_
  refine JL.op (RunV.build (cs := [.int .i64 0, .int .i64 0]) pl_74 rfl rfl) rfl ?_
  refine JL.storeA ag_28 rfl rfl dl_ z19_ z14_ z5_ ?_
  refine JL.storeA ag_74 rfl rfl dl_ (by first | rfl) z38_ (by first | rfl) ?_
  refine JL.nil ?_
  rw [ht]; exact J.retR (RetV.cell2 rfl rfl ag_28 mm_ z5_ rfl ag_74 mm_ (by first | rfl)) ⟨_, rfl, hX⟩
theorem rdTop_sz (l : List UInt8) : (rdTop l).1.sz ≤ l.length + 1 := by
  have hz : ndZ.sz ≤ 1 := by decide
  unfold rdTop
  split
  · exact Nat.le_trans hz (by omega)
  · split
    · exact Nat.le_trans hz (by omega)
    · rename_i x q h
      split
      · exact Nat.le_trans hz (by omega)
      · have h1 := rdN_sz (Nat.le_refl _) h
        have h2 := rdN_le _ _ _ _ _ _ h
        simp only
        omega
end Go.Proofs.YtohlpgoeheggdaaGreatDoor
namespace Go.Proofs.YtohlpgoeheggdaaGreatDoor
open Go Go.RowKit
set_option maxRecDepth 100000
theorem write_d {n : Nd} (hz : n.sz ≤ 1073741824) : FnD Tryz.prog 50 [.nd n] (.tup [.bs n.wr.1, .i n.wr.2]) := .mk fun h vs hT hd => by
  obtain ⟨v, rfl, h1⟩ := den1 hd
  obtain ⟨cs, rfl, hR⟩ := den_nd.1 h1
  exact (write_fn hR hT hz).mono fun v h' _ ⟨a, c, e, r⟩ => ⟨_, rfl, by rw [e]; exact den_t2 ((den_bs (h := h')).2 ⟨_, _, rfl, r⟩) (den_vv (h := h'))⟩
theorem den_flt {h : Part} {a c : Int} : Den (.st (Flt.enc ⟨a, c⟩)) h (.agg #[.int .i64 a, .int .i64 c]) := (den_st (h := h)).2 ⟨[.int .i64 a, .int .i64 c], rfl, .c rfl (den_vv (h := h)) (.c rfl (den_vv (h := h)) .n)⟩
theorem read_d {l : Txt} : FnD Tryz.prog 37 [.bs l] (.tup [.nd (rdTop l).1, .st (Flt.enc ⟨(rdTop l).2.1, (rdTop l).2.2⟩)]) := .mk fun h vs hT hd => by
  obtain ⟨v, rfl, h1⟩ := den1 hd
  obtain ⟨a, cc, rfl, hR⟩ := den_bs.1 h1
  exact (read_fn hR hT).mono fun v h' _ ⟨cs, e, r⟩ => ⟨_, rfl, by rw [e]; exact den_t2 ((den_nd (h := h')).2 ⟨cs, rfl, r⟩) den_flt⟩
theorem rread_d {l : Txt} (hl : l.length ≤ 4000000) : FnD Tryz.prog 43 [.bs l] (.tup [.nd (rdTop l).1, .st (Flt.enc ⟨(rdTop l).2.1, (rdTop l).2.2⟩)]) := .mk fun h vs hT hd => by
  obtain ⟨v, rfl, h1⟩ := den1 hd
  obtain ⟨a, cc, rfl, hR⟩ := den_bs.1 h1
  exact (rtop_fn hR hl).mono fun v h' _ ⟨cs, e, r⟩ => ⟨_, rfl, by rw [e]; exact den_t2 ((den_nd (h := h')).2 ⟨cs, rfl, r⟩) den_flt⟩
theorem rbytes_d {n : Nd} (hz : n.sz ≤ 10000000) : FnD Tryz.prog 53 [.nd n] (.tup [.bs (n.put.getD []), .b n.put.isSome]) := .mk fun h vs hT hd => by
  obtain ⟨v, rfl, h1⟩ := den1 hd
  obtain ⟨cs, rfl, hR⟩ := den_nd.1 h1
  exact (rbytes_fn' hR hz).mono fun v h' _ ⟨a, c, e, r⟩ => ⟨_, rfl, by rw [e]; exact den_t2 ((den_bs (h := h')).2 ⟨_, _, rfl, r⟩) ((den_bq (h := h')).2 rfl)⟩
theorem rsame_d {x y : Nd} : FnD Tryz.prog 13 [.nd x, .nd y] (.b (x.beq y)) := .mk fun h vs hT hd => by
  obtain ⟨v, w, rfl, h1, h2⟩ := den2 hd
  obtain ⟨cs, rfl, hR⟩ := den_nd.1 h1
  obtain ⟨cs', rfl, hR'⟩ := den_nd.1 h2
  exact (same_fn' hR hR').d ((den_bq (h := h)).2 rfl)
theorem rdeep_d {x : Nd} (hz : x.sz ≤ 1125899906842624) : FnD Tryz.prog 31 [.nd x] (.i x.rk) := .mk fun h vs hT hd => by
  obtain ⟨v, rfl, h1⟩ := den1 hd
  obtain ⟨cs, rfl, hR⟩ := den_nd.1 h1
  exact (deep_fn' hR hz).d (den_vv (h := h))
theorem rsize_d {x : Nd} {m : Int} (h0 : 0 ≤ m) (h1 : m ≤ 1125899906842624) : FnD Tryz.prog 30 [.nd x, .i m] (.i (x.szM m)) := .mk fun h vs hT hd => by
  obtain ⟨v, w, rfl, h2, h3⟩ := den2 hd
  obtain ⟨cs, rfl, hR⟩ := den_nd.1 h2
  rw [den_v.1 h3]
  exact (size_fn' hR h0 h1).d (den_vv (h := h))
theorem bcompare_d {l r : Txt} : FnD Tryz.prog 106 [.bs l, .bs r] (.i (Go.Lib.compareBytes l r)) := .mk fun h vs hT hd => by
  obtain ⟨v, w, rfl, h1, h2⟩ := den2 hd
  obtain ⟨a, cc, rfl, hR⟩ := den_bs.1 h1
  obtain ⟨a', cc', rfl, hR'⟩ := den_bs.1 h2
  exact (bcompare_fn hR hR').d (den_vv (h := h))
theorem roidb_d {s : Txt} (hs : s.length ≤ 1000000000) : FnD Tryz.prog 107 [.s s] (.tup [.bs ((oidB s).getD []), .i (if (oidB s).isSome then 0 else 20)]) := .mk fun h vs hT hd => by
  obtain ⟨v, rfl, h1⟩ := den1 hd
  rw [den_v.1 h1]
  exact (roidbytes_fn s h hs).mono fun v h' _ ⟨a, c, e, r⟩ => ⟨_, rfl, by rw [e]; exact den_t2 ((den_bs (h := h')).2 ⟨_, _, rfl, r⟩) (den_vv (h := h'))⟩
theorem roidt_d {l : Txt} (hb : l.length ≤ 10000000) : FnD Tryz.prog 111 [.bs l] (.tup [.s ((oidT l).getD []), .i (if (oidT l).isSome then 0 else 20)]) := .mk fun h vs hT hd => by
  obtain ⟨v, rfl, h1⟩ := den1 hd
  obtain ⟨a, cc, rfl, hR⟩ := den_bs.1 h1
  exact (roidtext_fn hR hb).d (den_t2 (den_vv (h := h)) (den_vv (h := h)))
theorem roid_d {s : Txt} (hs : s.length ≤ 1000000) : FnD Tryz.prog 46 [.s s] (.nd (oiN s)) := .mk fun h vs hT hd => by
  obtain ⟨v, rfl, h1⟩ := den1 hd
  rw [den_v.1 h1]
  exact (roid_fn hs).mono fun v h' _ ⟨a, c, e, r⟩ => ⟨_, rfl, by rw [e]; exact (den_nd (h := h')).2 ⟨_, rfl, NdR.of r SlR.nil_⟩⟩
theorem rseq_d {l : List Nd} : FnD Tryz.prog 74 [.nds l] (.nd (.mk 0 16 true [] l)) := .mk fun h vs hT hd => by
  obtain ⟨v, rfl, h1⟩ := den1 hd
  obtain ⟨a, cc, rfl, hR⟩ := den_nds.1 h1
  exact rseq_fn.mono fun v h' hle e => ⟨_, rfl, by rw [e]; exact (den_nd (h := h')).2 ⟨_, rfl, NdR.of SlR.nil_ (hR.mono hle)⟩⟩
instance : Cn Tryz.prog 50 (type_of% @write_d) := ⟨@write_d⟩
instance : Cn Tryz.prog 37 (type_of% @read_d) := ⟨@read_d⟩
instance : Cn Tryz.prog 43 (type_of% @rread_d) := ⟨@rread_d⟩
instance : Cn Tryz.prog 53 (type_of% @rbytes_d) := ⟨@rbytes_d⟩
instance : Cn Tryz.prog 13 (type_of% @rsame_d) := ⟨@rsame_d⟩
instance : Cn Tryz.prog 31 (type_of% @rdeep_d) := ⟨@rdeep_d⟩
instance : Cn Tryz.prog 30 (type_of% @rsize_d) := ⟨@rsize_d⟩
instance : Cn Tryz.prog 106 (type_of% @bcompare_d) := ⟨@bcompare_d⟩
instance : Cn Tryz.prog 107 (type_of% @roidb_d) := ⟨@roidb_d⟩
instance : Cn Tryz.prog 111 (type_of% @roidt_d) := ⟨@roidt_d⟩
instance : Cn Tryz.prog 46 (type_of% @roid_d) := ⟨@roid_d⟩
instance : Cn Tryz.prog 74 (type_of% @rseq_d) := ⟨@rseq_d⟩
end Go.Proofs.YtohlpgoeheggdaaGreatDoor
namespace Go.Proofs.YtohlpgoeheggdaaGreatDoor
open Go Go.RowKit Go.ChangeShapes Go.WideShapes Go.Lib Go.ChangeAt
set_option maxRecDepth 100000
theorem FnD.tt {P : Program} [Tb P] {Fi : Nat} {ds : List D} {h : Part} {vs : List Value} (c : FnD P Fi ds (.bq true)) (hT : Tb.T P h) (hd : DenT ds h vs) : Pure P Fi vs h (.bool true) :=
  Pure.of (R := fun u h' Lo => Lo = [] ∧ ∃ d, d = D.bq true ∧ Den d h' u) (c.fn h vs hT hd) (fun u h' Lo ⟨_, d, e, k⟩ => by subst e; exact den_bq.1 k)
theorem DenT.n {h : Part} : DenT [] h [] := by unfold DenT; rfl
theorem DenT.c {h : Part} {d : D} {r : List D} {v : Value} {t : List Value} (h2 : Den d h v) (h3 : DenT r h t) : DenT (d :: r) h (v :: t) := by unfold DenT; exact ⟨v, t, rfl, h2, h3⟩
theorem slR_bE {h : Part} {cs : List Value} {l : Txt} (k : slR u8R 1 h cs l) : encR bE h cs l := by
  obtain ⟨a, c, rfl, r⟩ := k
  exact .c rfl ((den_bs (h := h)).2 ⟨_, _, rfl, r⟩) .n
theorem slR_enc {α : Type} {R : Rep α} {sz : Nat} {enc : α → List D} (hR : ∀ {h cs y}, R h cs y → encR enc h cs y) {h : Part} {cs : List Value} {l : List α} (k : slR R sz h cs l) : ∃ v, cs = [v] ∧ v.oneCell' = true ∧ Den (.sl sz enc l) h v := by
  obtain ⟨a, c, rfl, r⟩ := k
  exact ⟨_, rfl, rfl, (den_sl (h := h)).2 ⟨_, _, rfl, r.imp rfl (Part.le.refl h) (fun i p q cs h1 h2 h3 => by rw [h1] at h2; cases h2; exact hR h3)⟩⟩
section
variable {H : Type} {enc : TypeId × Value → H} {W : World} {base : Nat} {v : Value} {d : DataW H} {ps : List MemPlace}
theorem opens_by (n : Nat) : Opens Tryz.prog n 25 (slR u8R 1) 1 (fun l => (l.map fun _ => 1).sum + 1) := by
  cases n with
  | zero => intro H enc W cs x h; simp [DataW.trod] at h
  | succ n => exact opens_bytes n
theorem cells_bss : Tryz.prog.cellsOf 22 = 1 := by kernel_rfl
theorem cells_string : Tryz.prog.cellsOf 9 = 1 := by kernel_rfl
theorem cells_field : Tryz.prog.cellsOf 24 = 2 := by kernel_rfl
theorem bytes_bytes : 0 < Tryz.prog.bytesOf 25 := by rw [show Tryz.prog.bytesOf 25 = 24 by kernel_rfl]; decide
theorem opens_bss (n : Nat) : Opens Tryz.prog n 22 (slR (slR u8R 1) 1) 1 (fun l => (l.map fun l => (l.map fun _ => 1).sum + 1).sum + 1) := by
  cases n with
  | zero => intro H enc W cs x h; simp [DataW.trod] at h
  | succ n => exact opens_slice Tryz.underlying22 cells_bytes (by decide) bytes_bytes (opens_by n)
theorem opens_fe (n : Nat) : Opens Tryz.prog n 24 (fun h cs f => encR Fe.enc h cs f ∧ f.oid.length ≤ 140737488355328 ∧ f.vals.length ≤ 140737488355328 ∧ ∀ v ∈ f.vals, v.length ≤ 140737488355328) 2 (fun _ => 0) := by
  intro H enc W cs x h hw
  cases n with
  | zero => simp [DataW.trod] at h
  | succ n =>
    obtain ⟨xs, m, hm, rfl, hl, hxl, hall⟩ := DataW.trod_struct Tryz.underlying24 h
    rw [cells_field] at hl
    match cs, hl with
    | [v0, v1], _ =>
    match xs, hxl with
    | [x0, x1], _ =>
    have h0 : DataW.trod enc Tryz.prog W 0 (fun _ => true) true m 9 ((List.drop 0 [v0, v1]).take (Tryz.prog.cellsOf 9)) = some x0 := hall 0 _ rfl
    rw [cells_string] at h0
    change DataW.trod enc Tryz.prog W 0 (fun _ => true) true m 9 [v0] = some x0 at h0
    have h1 : DataW.trod enc Tryz.prog W 0 (fun _ => true) true m 22 ((List.drop 1 [v0, v1]).take (Tryz.prog.cellsOf 22)) = some x1 := hall 1 _ rfl
    rw [cells_bss] at h1
    change DataW.trod enc Tryz.prog W 0 (fun _ => true) true m 22 [v1] = some x1 at h1
    simp only [DataW.weights, Tryz.underlying24, List.map_cons, List.map_nil, DataW.weightsEach, List.all_append, Bool.and_eq_true, List.append_nil] at hw
    obtain ⟨w0, w1⟩ := hw
    obtain ⟨s, _, ⟨e0, hs⟩, _⟩ := opens_str Tryz.underlying9 enc W _ _ h0 w0
    obtain ⟨l, _, hl1, _⟩ := opens_bss m enc W _ _ h1 w1
    have hb : l.length ≤ 140737488355328 ∧ ∀ v ∈ l, v.length ≤ 140737488355328 := by
      obtain ⟨a, c, _, r⟩ := hl1
      refine ⟨r.big, fun v hv => ?_⟩
      obtain ⟨i, hi, e⟩ := List.getElem_of_mem hv
      obtain ⟨_, _, _, _, _, _, _, _, ⟨_, _, _, r'⟩⟩ := r.elt i v (by rw [List.getElem?_eq_getElem hi, e])
      exact r'.big
    obtain ⟨u, e1, o1, d1⟩ := slR_enc (enc := bE) slR_bE hl1
    cases e0
    cases e1
    exact ⟨⟨s, l⟩, rfl, ⟨.c rfl (den_vv (h := _)) (.c o1 d1 .n), Nat.le_trans hs (by decide), hb⟩, Nat.zero_le _⟩
end
end Go.Proofs.YtohlpgoeheggdaaGreatDoor
namespace Go.Proofs.YtohlpgoeheggdaaGreatDoor
open Go Go.RowKit
theorem oid_tr {b s : Txt} (h : oidB s = some b) : (oidT b).isSome = true := by
  unfold oidB at h
  split at h
  · cases h
  · rename_i l hl
    split at h
    · rename_i hok
      cases h
      have hlt := numsGo_lt s [] l hl
      have hg : ∀ i, l.getD i 0 < 9223372036854775808 := fun i => by
        by_cases hi : i < l.length
        · rw [getD_at hi]; exact hlt _ (List.getElem_mem hi)
        · rw [List.getD_eq_getElem?_getD, List.getElem?_eq_none (by omega)]; simp
      have h3 : decGo (enc ((40 * l.getD 0 0 + l.getD 1 0) :: l.drop 2)) 0 true = some ((40 * l.getD 0 0 + l.getD 1 0) :: l.drop 2) := by
        refine enc_dec _ fun x hx => ?_
        rw [List.mem_cons] at hx
        rcases hx with rfl | hx
        · unfold oidOk at hok
          simp only [Bool.and_eq_true, Bool.or_eq_true, decide_eq_true_eq] at hok
          have := hg 1
          omega
        · exact hlt x (List.mem_of_mem_drop hx)
      rw [oidT_dec]
      unfold decO
      rw [h3]
      simp
    · cases h
def OrdK (l : List Txt) (i : Nat) : Prop := ∀ j, j < i → ¬ 0 < Go.Lib.compareBytes (l.getD j []) (l.getD (j + 1) [])
instance (l : List Txt) (i : Nat) : Decidable (OrdK l i) := inferInstanceAs (Decidable (∀ j, j < i → _))
def ordB (l : List Txt) : Bool := decide (OrdK l (l.length - 1))
theorem ord_cons (x y : Txt) (r : List Txt) : ordB (x :: y :: r) = (!decide (0 < Go.Lib.compareBytes x y) && ordB (y :: r)) := by
  unfold ordB OrdK
  rw [Bool.eq_iff_iff]
  simp only [decide_eq_true_eq, Bool.and_eq_true, Bool.not_eq_true', decide_eq_false_iff_not, List.length_cons, Nat.add_sub_cancel]
  constructor
  · intro h
    exact ⟨h 0 (by omega), fun j hj => h (j + 1) (by omega)⟩
  · rintro ⟨h1, h2⟩ j hj
    cases j with
    | zero => exact h1
    | succ j => exact h2 j (by omega)
theorem putL_some (set : Bool) : ∀ (ks : List Nd) (last acc : Txt), (Nd.putL set ks (some last) acc).isSome = (ks.all (·.put.isSome) && (!set || ordB (last :: ks.map fun k => k.put.getD [])))
  | [], last, acc => by simp [Nd.putL, ordB, OrdK]
  | x :: r, last, acc => by
    simp only [Nd.putL, List.map_cons, List.all_cons]
    cases hx : x.put with
    | none => simp
    | some b =>
      simp only [Option.isSome_some, Bool.true_and, Option.getD_some]
      rw [ord_cons]
      simp only [aboveB]
      by_cases hc : 0 < Go.Lib.compareBytes last b
      · simp only [decide_eq_true hc, Bool.and_true, Bool.not_true, Bool.false_and, Bool.or_false]
        cases set with
        | true => simp
        | false => simp only [Bool.false_eq_true, if_false, Bool.not_false, Bool.and_true]; rw [putL_some]; simp
      · simp only [decide_eq_false hc, Bool.and_false, Bool.false_eq_true, if_false, Bool.not_false, Bool.true_and]
        rw [putL_some]
theorem putL_some0 (set : Bool) (ks : List Nd) (acc : Txt) : (Nd.putL set ks none acc).isSome = (ks.all (·.put.isSome) && (!set || ordB (ks.map fun k => k.put.getD []))) := by
  cases ks with
  | nil => simp [Nd.putL, ordB, OrdK]
  | cons x r =>
    simp only [Nd.putL, List.map_cons, List.all_cons]
    cases hx : x.put with
    | none => simp
    | some b =>
      simp only [aboveB, Bool.and_false, Bool.false_eq_true, if_false, Option.isSome_some, Bool.true_and, Option.getD_some]
      rw [putL_some]
theorem put_seq (ks : List Nd) : (Nd.mk 0 16 true [] ks).put.isSome = ks.all (·.put.isSome) := by
  have h : okN 0 16 true [] ks = true := by simp [okN, mayB, form]
  rw [Nd.put, if_pos h, Option.isSome_map, show (decide ((0 : Int) = 0) && decide ((16 : Int) = 17)) = false by decide, putL_some0]
  simp
theorem put_set (ks : List Nd) : (Nd.mk 0 17 true [] ks).put.isSome = (ks.all (·.put.isSome) && ordB (ks.map fun k => k.put.getD [])) := by
  have h : okN 0 17 true [] ks = true := by simp [okN, mayB, form]
  rw [Nd.put, if_pos h, Option.isSome_map, show (decide ((0 : Int) = 0) && decide ((17 : Int) = 17)) = true by decide, putL_some0]
  simp
theorem oiN_put {s : Txt} (h : (oidB s).isSome = true) : (oiN s).put.isSome = true := by
  obtain ⟨b, hb⟩ := Option.isSome_iff_exists.1 h
  have h2 := oid_tr hb
  have hv : valB 6 b = true := by unfold valB; simp [h2]
  have h3 : okN 0 6 false b [] = true := by simp [okN, mayB, form, hv]
  simp only [oiN, hb, Option.getD_some, Nd.put, h3, if_true, Option.isSome_map]
  rw [putL_some0]; simp
theorem wr_put {n : Nd} (h : n.wr.2 = 0) : n.put = some n.wr.1 := by
  rcases wr_cases n with h1 | h1
  · exact h1.2.1
  · exact absurd h h1
theorem rd_wr {v : Txt} (h : (rdTop v).2.2 = 0) : (rdTop v).1.wr = (v, 0) := wr_rdTop (a := (rdTop v).2.1) (by rw [← h])
def fldV (v : Txt) : Bool := decide ((rdTop v).2.2 = 0) && decide (((rdTop v).1.rk : Int) ≤ 20)
def fnOk (f : Fe) : Bool := (oidB f.oid).isSome && decide (1 ≤ (f.vals.length : Int)) && decide ((f.vals.length : Int) ≤ 8) && f.vals.all fldV && ordB f.vals
def setN (f : Fe) : Nd := .mk 0 17 true [] (f.vals.map fun v => (rdTop v).1)
def fieldN (f : Fe) : Nd := if fnOk f then .mk 0 16 true [] [oiN f.oid, setN f] else ndZ0
def fieldE (f : Fe) : Int := if fnOk f then 0 else 60
def cOid (n : Nd) : Txt × Bool := if decide (n.cls = 0) && decide (n.tag = 6) then ((oidT n.bytes).getD [], (oidT n.bytes).isSome) else ([], false)
def fldK (k : Nd) : Bool := decide (k.wr.2 = 0) && decide ((k.rk : Int) ≤ 20)
def foOk (n : Nd) : Bool := n.put.isSome && isSeqB n 2 2 && (cOid (kd n 0)).2 && decide ((kd n 1).cls = 0) && decide ((kd n 1).tag = 17) && decide (1 ≤ ((kd n 1).kids.length : Int)) && decide (((kd n 1).kids.length : Int) ≤ 8) && (kd n 1).kids.all fldK
def fieldOf (n : Nd) : Fe × Bool := if foOk n then (⟨(cOid (kd n 0)).1, (kd n 1).kids.map (·.wr.1)⟩, true) else (⟨[], []⟩, false)
def fR (n : Nd) : Fe := ⟨(oidT (kd n 0).bytes).getD [], ((kd n 1).kids.take 10).map fun k => k.put.getD []⟩
def fieldOfR (n : Nd) : Fe × Bool := if decide (fieldE (fR n) = 0) && (fieldN (fR n)).beq n then (fR n, true) else (⟨[], []⟩, false)
theorem fieldE_ok {f : Fe} : fieldE f = 0 ↔ fnOk f = true := by
  unfold fieldE
  cases fnOk f <;> simp
end Go.Proofs.YtohlpgoeheggdaaGreatDoor
namespace Go.Proofs.YtohlpgoeheggdaaGreatDoor
open Go Go.RowKit
end Go.Proofs.YtohlpgoeheggdaaGreatDoor
namespace Go.Proofs.YtohlpgoeheggdaaGreatDoor
open Go Go.RowKit
end Go.Proofs.YtohlpgoeheggdaaGreatDoor
namespace Go.Proofs.YtohlpgoeheggdaaGreatDoor
open Go Go.RowKit
structure FnO (P : Program) [Tb P] (Fi e : Nat) {α : Type} (K : Kd α) (ds cs : List D) (l : List α) : Prop where
  fn : ∀ h vs, Tb.T P h → DenT ds h vs → Fn P Fi vs h [] (Rets fun v h' Lo => ∃ us a c xs, v = .agg (us ++ [Value.slice a l.length c]).toArray ∧ DenL cs h' us ∧ Lo = [.row a c e K.sz l.length xs] ∧ CellsR K.R K.sz h' xs l ∧ l.length ≤ 140737488355328)
structure FnB (P : Program) [Tb P] (Fi t : Nat) (ds1 : List D) (d0 : D) (ds2 : List D) (R : D → D → Prop) : Prop where
  fn : ∀ h b vs0 vs1 vs2, Tb.T P h → DenT ds1 h vs1 → Den d0 h (.agg vs0.toArray) → DenT ds2 h vs2 → Fn P Fi (vs1 ++ .pointer (some ⟨b, 0, none⟩) :: vs2) h [.blk b t vs0] (Rets fun v h' Lo => ∃ d d1 ws, R d d1 ∧ Den d h' v ∧ Den d1 h' (.agg ws.toArray) ∧ Lo = [.blk b t ws])
def whlO : OE → Option (Nat × D)
  | .whl t d => some (t, d)
  | .var t cs => match dsOf cs with
    | some ds => some (t, .st ds)
    | none => none
  | _ => none
theorem whlO_ok {ρ : Rho} {h : Part} {k t : Nat} {e : OE} {d : D} {x : Ent} (hw : whlO e = some (t, d)) (q : DenE ρ h k e x) : ∃ vs, x = .blk (ρ.b k) t vs ∧ Den d h (.agg vs.toArray) := by
  unfold whlO at hw
  split at hw
  · cases hw; exact q
  · split at hw <;> cases hw
    rename_i hds
    obtain ⟨vs, e1, e2⟩ := q
    exact ⟨vs, e1, (den_st (h := h)).2 ⟨vs, rfl, e2.ds hds⟩⟩
  · cases hw
theorem evl_app {S : Sig} : ∀ {os1 os2 : List Operand} {vs1 vs2 : List Value}, evl S os1 = some vs1 → evl S os2 = some vs2 → evl S (os1 ++ os2) = some (vs1 ++ vs2)
  | [], os2, vs1, vs2, h1, h2 => by cases h1; exact h2
  | y :: r, os2, vs1, vs2, h1, h2 => by
    simp only [evl] at h1
    split at h1 <;> cases h1
    rename_i v vs h3 h4
    simp only [List.cons_append, evl, h3, evl_app h4 h2]
section
variable {P : Program} [Tb P] {F : Fd} {n : PostD} {x : Nat → PostD} {a a1 : List (Nat × A)} {o o1 o2 : List (Nat × OE)} {ops : Array Oper} {rest l0 : List Oper}
variable {d Fi e k t : Nat} {ty : TypeId} {pos : String} {af : Array Edge} {os : Array Operand} {ts : Array TypeId} {ds cs : List D}
theorem Co {α : Type} {K : Kd α} {l : List α} (hp : pubs (rowsA a os.toList) a o = some (a1, o1)) (ha : argsA P a1 os.toList ts.toList = some ds) (c : FnO P Fi e K ds cs l) (hk : nextK a1 o1 = some k)
    (kk : JLD P F ops n x rest ((d, .recr cs k) :: a1) ((k, .row e (K.f l)) :: o1)) (hF : callT P Fi = true := by kernel_rfl) (hd : Nat.blt d F.m = true := by rfl) :
    JLD P F ops n x (⟨some d, .call { callee := .value (.func Fi), args := os, argTypes := ts }, ty, pos, af, none⟩ :: rest) a o := .mk fun ρ h S L cz ac w s => by
  obtain ⟨h', L', hle, hok, cz'⟩ := pubs_ok hp cz s.ok
  obtain ⟨vs, h3, h4⟩ := argsA_ok cz' ha
  have := K.mono
  obtain ⟨os⟩ := os
  refine JL.call hF h3 (c.fn h' vs cz'.t h4) .nil hd (fun v h2 Lo hle2 ⟨us, a2, c2, xs2, e1, e2, e3, e4, e5⟩ => ?_) ac w (s.with hok)
  subst e1 e3
  have cN' := (cz'.mono hle2).eqv hk (ρ.eqv_setR k a2 c2 l.length)
  have hden : DenO (ρ.setR k a2 c2 l.length) h2 ((k, .row e (K.f l)) :: o1) ([.row a2 c2 e K.sz l.length xs2] ++ L') := by
    have en : (ρ.setR k a2 c2 l.length).n k = l.length := by simp [Rho.setR]
    refine ⟨_, L', rfl, ⟨xs2, K.sz, by simp [Rho.setR], ?_, by rw [en]; exact e5⟩, cN'.o⟩
    rw [en]; exact K.row.2 ⟨rfl, rfl, e4⟩
  exact kk.k (ρ.setR k a2 c2 l.length) h2 _ _ (Cz.put (u := .recr cs k) ⟨cN'.t, cN'.s, hden⟩ ⟨us, by simp [Rho.setR], e2⟩ d)
theorem Pb (k : Nat) {c : Code} (hp : pub1 k a o = some (a1, o1)) (kk : JD P F c n x a1 o1) : JD P F c n x a o := .mk fun ρ h S L cz ac w s => by
  obtain ⟨h', L', hle, hok, cz'⟩ := pub1_ok hp cz s.ok
  exact kk.k ρ h' S L' cz' ac w (s.with hok)
theorem Pl (k : Nat) (hp : pub1 k a o = some (a1, o1)) (kk : JLD P F ops n x l0 a1 o1) : JLD P F ops n x l0 a o := .mk fun ρ h S L cz ac w s => by
  obtain ⟨h', L', hle, hok, cz'⟩ := pub1_ok hp cz s.ok
  exact kk.k ρ h' S L' cz' ac w (s.with hok)
theorem Cp {R : D → D → Prop} {os1 os2 : List Operand} {xo : Operand} {ds1 ds2 : List D} {d0 : D} {e0 : OE} (hos : os.toList = os1 ++ xo :: os2) (hp : pubs (rowsA a (os1 ++ os2)) a o = some (a1, o1)) (hx : evA a1 xo = some (.own k 0)) (hk : lkO o1 k = some e0) (he : whlO e0 = some (t, d0))
    (h1 : argsA P a1 os1 ts.toList = some ds1) (h2 : argsA P a1 os2 (ts.toList.drop (os1.length + 1)) = some ds2) (c : FnB P Fi t ds1 d0 ds2 R) (hdel : delQ o1 k = some o2)
    (kk : ∀ d' d1, R d' d1 → JLD P F ops n x rest ((d, .d d') :: a1) ((k, .whl t d1) :: o2)) (hF : callT P Fi = true := by kernel_rfl) (hd : Nat.blt d F.m = true := by rfl) :
    JLD P F ops n x (⟨some d, .call { callee := .value (.func Fi), args := os, argTypes := ts }, ty, pos, af, none⟩ :: rest) a o := .mk fun ρ h S L cz ac w s => by
  obtain rfl := delQ_eq hdel
  obtain ⟨h', L', hle, hok, cz'⟩ := pubs_ok hp cz s.ok
  obtain ⟨v, g1, g2⟩ := evA_ok cz' hx
  cases g2
  obtain ⟨vs1, h3, h4⟩ := argsA_ok cz' h1
  obtain ⟨vs2, h5, h6⟩ := argsA_ok cz' h2
  obtain ⟨y, L2, hD, hE, hr⟩ := cz'.o.get hk
  obtain ⟨vs0, rfl, hd0⟩ := whlO_ok he hE
  obtain ⟨os⟩ := os
  simp only at hos
  subst hos
  have hev : evl S (os1 ++ xo :: os2) = some (vs1 ++ .pointer (some ⟨ρ.b k, 0, none⟩) :: vs2) := evl_app h3 (by simp only [evl, g1, h5])
  refine JL.call hF hev (c.fn h' (ρ.b k) vs0 vs1 vs2 cz'.t h4 hd0 h6) (.cons hD .nil) hd (fun v h2 Lo hle2 ⟨d', d1, ws, hR, e1, e2, e3⟩ => ?_) ac w (s.with hok)
  subst e3
  have czm := cz'.mono hle2
  have hden : DenO ρ h2 ((k, .whl t d1) :: delO o1 k) (.blk (ρ.b k) t ws :: L2) := ⟨_, L2, rfl, ⟨ws, rfl, e2⟩, hr.mono hle2⟩
  exact (kk d' d1 hR).k ρ h2 _ _ (Cz.put (u := .d d') ⟨czm.t, czm.s, hden⟩ e1 d)
def varO : OE → Option (Nat × List A)
  | .var t cs => some (t, cs)
  | .whl t d => match cellsD d with
    | some l => match aOf l with
      | some cs => some (t, cs)
      | none => none
    | none => none
  | _ => none
theorem varO_ok {ρ : Rho} {h : Part} {t : Nat} {e : OE} {cs : List A} {x : Ent} (hv : varO e = some (t, cs)) (q : DenE ρ h k e x) : ∃ vs, x = .blk (ρ.b k) t vs ∧ DenAL ρ h cs vs := by
  unfold varO at hv
  split at hv
  · cases hv; exact q
  · split at hv <;> try (cases hv; done)
    rename_i l hl
    split at hv <;> cases hv
    rename_i hcs
    obtain ⟨vs, e1, e2⟩ := q
    obtain ⟨ws, e3, e4⟩ := (cells_den hl).1 e2
    have : vs = ws := by injection e3 with e3; simpa using congrArg Array.toList e3
    subst this
    exact ⟨vs, e1, aOf_den hcs e4⟩
  · cases hv
theorem Rv {α : Type} (K : Kd α) (kv i e : Nat) {k t : Nat} {c : Code} {ov : OE} {cs cs' : List A} (hlk : lkO o kv = some ov) (hv : varO ov = some (t, cs)) (hi : nthG cs i = some (.d (.v (.slice none 0 0)))) (hk : nextK a o = some k) (hs : setG cs i (.row k) = some cs') (hd : delQ o kv = some o1)
    (kk : JD P F c n x a ((kv, .var t cs') :: (k, .row e (K.f [])) :: o1)) : JD P F c n x a o := .mk fun ρ h S L cz => by
  obtain rfl := delQ_eq hd
  have c' := cz.eqv hk (ρ.eqv_setR k none 0 0)
  obtain ⟨y, L2, hD, hE, hr⟩ := c'.o.get hlk
  obtain ⟨vs, rfl, hcs⟩ := varO_ok hv hE
  obtain ⟨h1, rfl⟩ := setG_eq hs
  obtain ⟨v, h2, h3, h4⟩ := hcs.nth hi
  have h5 := (den_v (h := h)).1 h4
  subst h5
  refine J.own (L' := .row none 0 e K.sz 0 [] :: L) (fun _ hw => hw.row_nil e K.sz) (J.ents (.blk ((ρ.setR k none 0 0).b kv) t vs :: .row none 0 e K.sz 0 [] :: L2) (.cons (.there hD) (.cons .here .all)) ?_)
  have hset : vs.set i (.slice none 0 0) = vs := by
    have hlt := (List.getElem?_eq_some_iff.1 h2).1
    have hg : vs[i] = .slice none 0 0 := (List.getElem?_eq_some_iff.1 h2).2
    rw [← hg]; exact List.set_getElem_self hlt
  have hcs' := hcs.set (x := .row k) (v := .slice none 0 0) (i := i) rfl (by simp [DenA, Rho.setR])
  rw [hset] at hcs'
  have hden : DenO (ρ.setR k none 0 0) h ((kv, .var t (cs.set i (.row k))) :: (k, .row e (K.f [])) :: delO o kv) (.blk ((ρ.setR k none 0 0).b kv) t vs :: .row none 0 e K.sz 0 [] :: L2) :=
    ⟨_, _, rfl, ⟨vs, rfl, hcs'⟩, _, _, rfl, ⟨[], K.sz, by simp [Rho.setR], K.row.2 ⟨rfl, by simp [Rho.setR], CellsR.nil⟩, by simp [Rho.setR]⟩, hr⟩
  exact kk.k (ρ.setR k none 0 0) h S _ ⟨c'.t, c'.s, hden⟩
end
section
variable {P : Program} [Tb P] {F : Fd} {n : PostD} {x : Nat → PostD} {a b Au : List (Nat × A)} {o ob o' : List (Nat × OE)} {ops : Array Oper} {rest : List Oper} {base : Nat} {es r : List Ef} {c : Code}
variable {d k v e bytes Fi : Nat} {ty T : TypeId} {pos : String} {af : Array Edge} {xo yo : Operand} {us : List Nat} {d2 : D} {os : Array Operand} {ts : Array TypeId} {ds cs : List D}
theorem Obl.app {α : Type} (K : Kd α) {l1 l2 : List α} (hk0 : keepA us (aR allT b r) = some Au) (hx : evA Au xo = some (.row k)) (hk : lkO (oS ob r) k = some (.row e (K.f l1))) (hy : evA Au yo = some (.d d2)) (hd2 : nilD P T d2 = K.f l2) (hT : findP (Tb.ap P) T = some (e, K.sz, bytes))
    (hb : (l1.length + l2.length) * bytes ≤ 140737488355328) (hb0 : Nat.blt 0 bytes = true) (hd : Nat.blt d F.m = true) :
    Obl P F ops x b ob r (eUpd us d k v (.rowv v e (K.f (l1 ++ l2)))) ⟨some d, .call { callee := .builtin .append, args := #[xo, yo], argTypes := #[T, T] }, ty, pos, af, none⟩ := ⟨Au, hk0, _, hk, fun n A' O' hA hO hfr hn => .mk fun ρ h S L cz => by
  obtain ⟨fA, fO⟩ := hfr v rfl
  have cu := cz.wk hA
  obtain ⟨w1, h1, h2⟩ := evA_ok cu hx
  cases h2
  obtain ⟨w, h3, h4⟩ := evA_ok cu hy
  have h5 := nilD_ok (P := P) (T := T) h w h4
  rw [hd2] at h5
  obtain ⟨a2, c2, rfl, hR⟩ := K.den.1 h5
  obtain ⟨y, L', hD, ⟨xs, sz, rfl, hRow, hbig⟩, hr⟩ := cz.o.get hO
  obtain ⟨rfl, hn', hc⟩ := K.row.1 hRow
  have := K.mono
  refine JL.append (Tb.apt hT) h1 h3 hc hn' hR rfl hD hb hd hb0 (fun aN cN xsN hcN hbN => ?_)
  have w := ρ.ofk_setR v aN cN (l1 ++ l2).length
  have cf := cz.fresh w fA fO
  have en : (ρ.setR v aN cN (l1 ++ l2).length).n v = (l1 ++ l2).length := by simp [Rho.setR]
  have hden : DenO (ρ.setR v aN cN (l1 ++ l2).length) h ((k, .rowv v e (K.f (l1 ++ l2))) :: delO O' k) (.row aN cN e K.sz (l1 ++ l2).length xsN :: L') :=
    ⟨_, L', rfl, ⟨xsN, K.sz, by simp [Rho.setR], by rw [en]; exact K.row.2 ⟨rfl, rfl, hcN⟩, by rw [en]; exact hbN⟩, hr.fresh w fO.del⟩
  exact JL.nil ⟨_, _, _, Cz.put (u := .row v) ⟨cf.t, cf.s, hden⟩ (by simp [Rho.setR, DenA]) d, hn⟩⟩
theorem Obl.callO {α : Type} {K : Kd α} {l : List α} (hk0 : keepA us (aR allT b r) = some Au) (ha : argsA P Au os.toList ts.toList = some ds) (cc : FnO P Fi e K ds cs l) (hF : callT P Fi = true) (hd : Nat.blt d F.m = true) :
    Obl P F ops x b ob r (eMk us d k (.recr cs k) (.row e (K.f l))) ⟨some d, .call { callee := .value (.func Fi), args := os, argTypes := ts }, ty, pos, af, none⟩ := ⟨Au, hk0, fun n A' O' hA fA fO hn => .mk fun ρ h S L cz => by
  have cu := cz.wk hA
  obtain ⟨vs, h3, h4⟩ := argsA_ok cu ha
  have := K.mono
  obtain ⟨os⟩ := os
  refine JL.call hF h3 (cc.fn h vs cz.t h4) .nil hd (fun v h2 Lo hle2 ⟨us, a2, c2, xs2, e1, e2, e3, e4, e5⟩ => ?_)
  subst e1 e3
  have cf := (cz.mono hle2).fresh (ρ.ofk_setR k a2 c2 l.length) fA fO
  have en : (ρ.setR k a2 c2 l.length).n k = l.length := by simp [Rho.setR]
  have hden : DenO (ρ.setR k a2 c2 l.length) h2 ((k, .row e (K.f l)) :: O') ([.row a2 c2 e K.sz l.length xs2] ++ L) :=
    ⟨_, L, rfl, ⟨xs2, K.sz, by simp [Rho.setR], by rw [en]; exact K.row.2 ⟨rfl, rfl, e4⟩, by rw [en]; exact e5⟩, cf.o⟩
  exact JL.nil ⟨_, _, _, Cz.put (u := .recr cs k) ⟨cf.t, cf.s, hden⟩ ⟨us, by simp [Rho.setR], e2⟩ d, hn⟩⟩
theorem Xap {α : Type} (K : Kd α) {l1 l2 : List α} (hk0 : keepA (tms [xo, yo]) a = some Au) (hx : evA Au xo = some (.row k)) (hk : lkO o k = some (.row e (K.f l1))) (hy : evA Au yo = some (.d d2)) (hd2 : nilD P T d2 = K.f l2) (hT : findP (Tb.ap P) T = some (e, K.sz, bytes)) (hv : nextK a o = some v)
    (hb : (l1.length + l2.length) * bytes ≤ 140737488355328) (hb0 : Nat.blt 0 bytes = true) (hd : Nat.blt d F.m = true) (hdel : delQ o k = some o')
    (kk : JX P F ops n x b ob base (eUpd (tms [xo, yo]) d k v (.rowv v e (K.f (l1 ++ l2))) :: es) rest ((d, .row v) :: a) ((k, .rowv v e (K.f (l1 ++ l2))) :: o')) :
    JX P F ops n x b ob base es (⟨some d, .call { callee := .builtin .append, args := #[xo, yo], argTypes := #[T, T] }, ty, pos, af, none⟩ :: rest) a o := by
  obtain rfl := delQ_eq hdel
  exact JX.put (fun ha ho => ⟨Obl.app K (by rw [← ha]; exact hk0) hx (by rw [← ho]; exact hk) hy hd2 hT hb hb0 hd, by subst ha; rfl, by subst ho; rfl⟩) kk
theorem Xco {α : Type} {K : Kd α} {l : List α} (hk0 : keepA (tms os.toList) a = some Au) (ha : argsA P Au os.toList ts.toList = some ds) (cc : FnO P Fi e K ds cs l) (hv : nextK a o = some k)
    (kk : JX P F ops n x b ob base (eMk (tms os.toList) d k (.recr cs k) (.row e (K.f l)) :: es) rest ((d, .recr cs k) :: a) ((k, .row e (K.f l)) :: o)) (hF : callT P Fi = true := by kernel_rfl) (hd : Nat.blt d F.m = true := by rfl) :
    JX P F ops n x b ob base es (⟨some d, .call { callee := .value (.func Fi), args := os, argTypes := ts }, ty, pos, af, none⟩ :: rest) a o :=
  JX.put (fun ha' ho => ⟨Obl.callO (by rw [← ha']; exact hk0) ha cc hF hd, by subst ha'; rfl, by subst ho; rfl⟩) kk
end
end Go.Proofs.YtohlpgoeheggdaaGreatDoor
namespace Go.Proofs.YtohlpgoeheggdaaGreatDoor
open Go Go.RowKit
set_option maxRecDepth 100000
set_option maxHeartbeats 4000000
theorem cisseq_d (n : Nd) (l m : Int) : FnD Tryz.prog 48 [.nd n, .i l, .i m] (.b (isSeqB n l m)) := by
  unfold isSeqB
  exact FnE.intro Tryz.func48 rfl Tryz.ntmps48 rfl (fun e => Z)
instance : Cn Tryz.prog 48 (type_of% @cisseq_d) := ⟨@cisseq_d⟩
def isCtxB (n : Nd) (t : Int) (c : Bool) : Bool := decide (n.cls = 2) && decide (n.tag = t) && (n.cons == c)
theorem cisctx_d (n : Nd) (t : Int) (c : Bool) : FnD Tryz.prog 77 [.nd n, .i t, .b c] (.b (isCtxB n t c)) := by
  unfold isCtxB
  exact FnE.intro Tryz.func77 rfl Tryz.ntmps77 rfl (fun e => Z)
instance : Cn Tryz.prog 77 (type_of% @cisctx_d) := ⟨@cisctx_d⟩
theorem coid_d (s : Txt) (hs : s.length ≤ 50000000000) : FnD Tryz.prog 36 [.s s] (.tup [.nd (oiN s), .b (oidB s).isSome]) := by
  unfold oiN
  exact FnE.intro Tryz.func36 rfl Tryz.ntmps36 rfl (fun e => Z)
instance : Cn Tryz.prog 36 (type_of% @coid_d) := ⟨@coid_d⟩
theorem coidof_d (n : Nd) (hz : n.sz ≤ 1073741824) : FnD Tryz.prog 49 [.nd n] (.tup [.s (cOid n).1, .b (cOid n).2]) := by
  have := nd_bytes_sz n
  unfold cOid
  exact FnE.intro Tryz.func49 rfl Tryz.ntmps49 rfl (fun e => Z)
instance : Cn Tryz.prog 49 (type_of% @coidof_d) := ⟨@coidof_d⟩
theorem cseq_d (l : List Nd) (hz : Nd.szL l ≤ 1099511627776) : FnD Tryz.prog 41 [.nds l] (.nd (.mk 0 16 true [] l)) := by
  exact FnE.intro Tryz.func41 rfl Tryz.ntmps41 rfl (fun e => Z)
theorem cwritten_d (n : Nd) (hz : n.sz ≤ 1073741824) : FnD Tryz.prog 145 [.nd n] (.bs n.wr.1) := by
  exact FnE.intro Tryz.func145 rfl Tryz.ntmps145 rfl (fun e => Z)
instance : Cn Tryz.prog 145 (type_of% @cwritten_d) := ⟨@cwritten_d⟩
theorem cid_d (b : Txt) : FnD Tryz.prog 40 [.bs b] (.bs b) := by
  exact FnE.intro Tryz.func40 rfl Tryz.ntmps40 rfl (fun e => Z)
instance : Cn Tryz.prog 40 (type_of% @cid_d) := ⟨@cid_d⟩
theorem cdeep_go : ∀ (m : Nat) (n : Nd), n.rk ≤ m → n.sz ≤ 1073741824 → FnD Tryz.prog 38 [.nd n] (.i n.rk) := by
  intro m
  induction m with
  | zero => intro n hn; cases n; simp [Nd.rk] at hn
  | succ m ih =>
  intro n hn hz
  obtain ⟨c, t, k, bs, ks⟩ := n
  simp only [Nd.rk] at hn
  simp only [Nd.sz] at hz
  have hll := Nd.len_le_szL ks
  have hrl := Nd.rkL_le_szL ks
  refine FnE.intro Tryz.func38 rfl Tryz.ntmps38 rfl (fun e => ?_)
  refine W ?_
  refine Lp (γ := Nat) (fun g => g ≤ ks.length) (fun g => ks.length + 1 - g) (fun g => [(3, .d (.i (Nd.rkL (ks.take g) : Nat))), (7, .d (.nds ks)), (8, .d (.i (ks.length : Int))), (9, .d (.i (g : Int)))]) (fun _ => []) 0 (by omega) ⟨rfl, rfl, rfl, rfl, trivial⟩ trivial ?_
  intro g hg
  refine W ?_
  refine Ci rfl (fun h => ?_) (fun h => ?_)
  · have hl : g < ks.length := by omega
    have hget : ks.getD g (.mk 0 0 false [] []) = ks[g] := getD_at hl
    have h1 := Nd.rk_lt (List.getElem_mem hl)
    have h2 : ks[g].sz ≤ Nd.szL ks := Nd.sz_le (List.getElem_mem hl)
    have h3 := Nd.rkL_le ks (g + 1)
    have hk := ih (ks.getD g (.mk 0 0 false [] [])) (by rw [hget]; omega) (by rw [hget]; omega)
    refine W ?_
    have e1 : ((Nd.rkL (ks.take (g + 1)) : Nat) : Int) = max ((Nd.rkL (ks.take g) : Nat) : Int) ((ks.getD g (.mk 0 0 false [] [])).rk : Int) := by rw [Nd.rkL_take ks g hl, hget]; omega
    refine ⟨g + 1, by omega, by omega, ?_, trivial⟩
    show WkA [(3, .d (.i (Nd.rkL (ks.take (g + 1)) : Nat))), (7, .d (.nds ks)), (8, .d (.i (ks.length : Int))), (9, .d (.i ((g + 1 : Nat) : Int)))] _
    rw [e1]
    exact ⟨rfl, rfl, rfl, rfl, trivial⟩
  · have hge : g = ks.length := by omega
    subst hge
    rw [List.take_length]
    refine W ?_
    refine Rt rfl rfl ?_
    simp only [resD, Nd.rk]; rfl
theorem cdeep_d (n : Nd) (hz : n.sz ≤ 1073741824) : FnD Tryz.prog 38 [.nd n] (.i n.rk) := cdeep_go _ n (Nat.le_refl _) hz
instance : Cn Tryz.prog 38 (type_of% @cdeep_d) := ⟨@cdeep_d⟩
theorem ordk_step {l : List Txt} {i : Nat} (h : OrdK l i) (hc : ¬ 0 < Go.Lib.compareBytes (l.getD i []) (l.getD (i + 1) [])) : OrdK l (i + 1) := fun j hj => by
  by_cases hji : j = i
  · subst hji; exact hc
  · exact h j (by omega)
theorem cordered_d (l : List Txt) (hl : l.length ≤ 1073741824) : FnD Tryz.prog 39 [.sl 1 bE l, .v (.func (.func 40) #[] #[]), .b false] (.b (ordB l)) := by
  refine FnE.intro Tryz.func39 rfl Tryz.ntmps39 rfl (fun e => ?_)
  refine W ?_
  refine Lp (γ := Nat) (fun g => (g = 0 ∨ g + 1 ≤ l.length) ∧ OrdK l g) (fun g => l.length + 1 - g) (fun g => [(0, .d (.sl 1 bE l)), (1, .d (.v (.func (.func 40) #[] #[]))), (2, .d (.b false)), (7, .d (.i ((g : Int) + 1)))]) (fun _ => []) 0 ⟨.inl rfl, fun j hj => by omega⟩ ⟨rfl, rfl, rfl, rfl, trivial⟩ trivial ?_
  rintro g ⟨hg, ho⟩
  refine W ?_
  refine Ci rfl (fun h => ?_) (fun h => ?_)
  · refine W ?_
    have hgg : ((g : Int) + 1 - 1).toNat = g := by omega
    refine Bg rfl rfl (fun h2 => ?_) (fun h2 => ?_)
    · rw [hgg] at h2
      have hb : ordB l = false := by
        refine decide_eq_false fun hh => hh g (by omega) h2
      refine W ?_
      refine Rt rfl rfl ?_
      rw [hb]; rfl
    rw [hgg] at h2
    refine W ?_
    refine Bg rfl rfl (fun h3 => ?_) (fun h3 => ?_)
    all_goals
      refine W ?_
      first | exact ⟨g + 1, by omega, ⟨.inr (by omega), ordk_step ho h2⟩, ⟨rfl, rfl, rfl, rfl, trivial⟩, trivial⟩ | (refine Ci rfl (fun h => by cases h) (fun _ => ?_); refine W ?_; exact ⟨g + 1, by omega, ⟨.inr (by omega), ordk_step ho h2⟩, ⟨rfl, rfl, rfl, rfl, trivial⟩, trivial⟩)
  · have hb : ordB l = true := decide_eq_true fun j hj => ho j (by omega)
    refine W ?_
    refine Rt rfl rfl ?_
    rw [hb]; rfl
instance : Cn Tryz.prog 39 (type_of% @cordered_d) := ⟨@cordered_d⟩
end Go.Proofs.YtohlpgoeheggdaaGreatDoor
namespace Go.Proofs.YtohlpgoeheggdaaGreatDoor
open Go Go.RowKit
set_option maxRecDepth 100000
set_option maxHeartbeats 4000000
theorem szl_rd (B : Nat) : ∀ (l : List Txt), (∀ v ∈ l, v.length ≤ B) → Nd.szL (l.map fun v => (rdTop v).1) ≤ l.length * (B + 1)
  | [], _ => by simp [Nd.szL]
  | v :: r, h => by
    have h1 := rdTop_sz v
    have h2 := h v (List.mem_cons_self ..)
    have h3 := szl_rd B r (fun w hw => h w (List.mem_cons_of_mem _ hw))
    simp only [List.map_cons, Nd.szL, List.length_cons, Nat.add_mul]
    omega
theorem cfieldnode_d (f : Fe) (h1 : f.oid.length ≤ 10000000) (h2 : f.vals.length ≤ 10000000) (h3 : ∀ v ∈ f.vals, v.length ≤ 10000000) : FnD Tryz.prog 9 [.st f.enc] (.tup [.nd (fieldN f), .i (fieldE f)]) := by
  have ho := oiN_sz f.oid
  have bad : fnOk f = false → resD [.nd ndZ0, .i 60] = .tup [.nd (fieldN f), .i (fieldE f)] := fun hb => by simp [resD, fieldN, fieldE, hb]
  refine FnE.intro Tryz.func9 rfl Tryz.ntmps9 rfl (fun e => ?_)
  refine W ?_
  refine Bg rfl rfl (fun g1 => ?_) (fun g1 => ?_)
  · refine W ?_
    exact Rt rfl rfl (bad (by simp [fnOk, g1]))
  refine W ?_
  refine Bg rfl rfl (fun g2 => ?_) (fun g2 => ?_)
  · refine W ?_
    exact Rt rfl rfl (bad (by simp [fnOk, show ¬ 1 ≤ (f.vals.length : Int) by omega]))
  refine W ?_
  refine Ci rfl (fun g3 => ?_) (fun g3 => ?_)
  · refine W ?_
    exact Rt rfl rfl (bad (by simp [fnOk, show ¬ (f.vals.length : Int) ≤ 8 by omega]))
  refine W ?_
  refine Rv kN 3 4 28 rfl rfl rfl rfl rfl rfl ?_
  refine Lp (γ := Nat) (fun g => g ≤ f.vals.length ∧ (f.vals.take g).all fldV = true) (fun g => f.vals.length + 1 - g)
    (fun g => [(1, .own 0 0), (2, .own 1 0), (4, .own 2 0), (6, .own 3 0), (34, .d (.sl 1 bE f.vals)), (35, .d (.i (f.vals.length : Int))), (36, .d (.i (g : Int)))])
    (fun g => [(3, .var 28 [.d (.i 0), .d (.i 17), .d (.v (.bool true)), .d (.v (.slice none 0 0)), .row 4]), (4, .row 28 (.nds ((f.vals.take g).map fun v => (rdTop v).1))), (0, .whl 24 (.st f.enc)), (1, .var 28 [.d (.i 0), .d (.i 0), .d (.b false), .d (.v (.slice none 0 0)), .d (.v (.slice none 0 0))]), (2, .whl 28 (.nd (oiN f.oid)))]) 0 ⟨by omega, rfl⟩ ?_ ?_ ?_
  · exact ⟨rfl, rfl, rfl, rfl, rfl, rfl, rfl, trivial⟩
  · exact ⟨rfl, rfl, rfl, rfl, rfl, trivial⟩
  rintro g ⟨hg, hall⟩
  have hs := rdTop_sz (f.vals.getD g default)
  have hml : ((f.vals.take g).map fun v => (rdTop v).1).length ≤ 10000000 := by rw [List.length_map]; have := List.length_take_le' g f.vals; omega
  refine W ?_
  refine Ci rfl (fun h => ?_) (fun h => ?_)
  · have hl : g < f.vals.length := by omega
    have hget : f.vals.getD g default = f.vals[g] := getD_at hl
    have hvl := h3 _ (List.getElem_mem hl)
    have hvl2 : (f.vals.getD g default).length ≤ 10000000 := by rw [hget]; exact hvl
    have hbad : fldV (f.vals.getD g default) = false → fnOk f = false := fun hb => by
      have : f.vals.all fldV = false := by
        rw [List.all_eq_false]
        exact ⟨f.vals[g], List.getElem_mem hl, by rw [← hget, hb]; simp⟩
      simp [fnOk, this]
    refine W ?_
    refine Bg rfl rfl (fun h4 => ?_) (fun h4 => ?_)
    · refine W ?_
      exact Rt rfl rfl (bad (hbad (by unfold fldV; rw [decide_eq_false (p := (rdTop (f.vals.getD g default)).2.2 = 0) h4]; rfl)))
    refine W ?_
    refine Ci rfl (fun h5 => ?_) (fun h5 => ?_)
    · refine W ?_
      exact Rt rfl rfl (bad (hbad (by unfold fldV; rw [decide_eq_false (p := ((rdTop (f.vals.getD g default)).1.rk : Int) ≤ 20) (by omega), Bool.and_false])))
    refine W ?_
    have hok : fldV (f.vals.getD g default) = true := by unfold fldV; rw [decide_eq_true (p := (rdTop (f.vals.getD g default)).2.2 = 0) h4, decide_eq_true (p := ((rdTop (f.vals.getD g default)).1.rk : Int) ≤ 20) (by omega)]; rfl
    have e1 : (f.vals.take (g + 1)).map (fun v => (rdTop v).1) = (f.vals.take g).map (fun v => (rdTop v).1) ++ [(rdTop (f.vals.getD g default)).1] := by
      rw [List.take_succ_eq_append_getElem hl, List.map_append, hget]; rfl
    have e2 : (f.vals.take (g + 1)).all fldV = true := by
      rw [List.take_succ_eq_append_getElem hl, List.all_append, hall, ← hget]; simp only [List.all_cons, hok, List.all_nil]; rfl
    refine ⟨g + 1, by omega, ⟨by omega, e2⟩, ⟨rfl, rfl, rfl, rfl, rfl, rfl, rfl, trivial⟩, ?_⟩
    show WkO [(3, .var 28 [.d (.i 0), .d (.i 17), .d (.v (.bool true)), .d (.v (.slice none 0 0)), .row 4]), (4, .row 28 (.nds ((f.vals.take (g + 1)).map fun v => (rdTop v).1))), (0, .whl 24 (.st f.enc)), (1, .var 28 [.d (.i 0), .d (.i 0), .d (.b false), .d (.v (.slice none 0 0)), .d (.v (.slice none 0 0))]), (2, .whl 28 (.nd (oiN f.oid)))] _
    rw [e1]
    exact ⟨rfl, rfl, rfl, rfl, rfl, trivial⟩
  · have hge : g = f.vals.length := by omega
    subst hge
    rw [List.take_length] at hall
    rw [List.take_length]
    have hsz := szl_rd 10000000 f.vals h3
    have hsz2 : Nd.szL (f.vals.map fun v => (rdTop v).1) ≤ 8 * 10000001 := Nat.le_trans hsz (Nat.mul_le_mul_right _ (by omega))
    refine W ?_
    refine Ci rfl (fun h6 => ?_) (fun h6 => ?_)
    · refine W ?_
      exact Rt rfl rfl (bad (by simp [fnOk, h6]))
    have hsq := cseq_d [oiN f.oid, .mk 0 17 true [] (f.vals.map fun v => (rdTop v).1)] (by simp only [Nd.szL, Nd.sz, List.length_nil]; omega)
    refine Pb 4 rfl ?_
    refine W ?_
    refine Rt rfl rfl ?_
    have hb : fnOk f = true := by
      simp only [fnOk, g1, hall, h6, show (1 : Int) ≤ f.vals.length by omega, show (f.vals.length : Int) ≤ 8 by omega, decide_true, Bool.and_true]
    simp only [resD, fieldN, fieldE, hb, if_true, setN]
instance : Cn Tryz.prog 9 (type_of% @cfieldnode_d) := ⟨@cfieldnode_d⟩
theorem cfieldof_d (n : Nd) (hz : n.sz ≤ 100000000) : FnD Tryz.prog 11 [.nd n] (.tup [.st (fieldOf n).1.enc, .b (fieldOf n).2]) := by
  have k0 := kid_sz n 0
  have k1 := kid_sz n 1
  have bad : foOk n = false → resD [.st (Fe.enc ⟨[], []⟩), .b false] = .tup [.st (fieldOf n).1.enc, .b (fieldOf n).2] := fun hb => by simp [resD, fieldOf, hb]
  refine FnE.intro Tryz.func11 rfl Tryz.ntmps11 rfl (fun e => ?_)
  refine W ?_
  refine Bg rfl rfl (fun g1 => ?_) (fun g1 => ?_)
  · refine W ?_
    exact Rt rfl rfl (bad (by simp [foOk, g1]))
  refine W ?_
  refine Ci rfl (fun g2 => ?_) (fun g2 => ?_)
  · refine W ?_
    exact Rt rfl rfl (bad (by simp [foOk, g2]))
  refine W ?_
  refine Bg rfl rfl (fun g3 => ?_) (fun g3 => ?_)
  · refine W ?_
    exact Rt rfl rfl (bad (by unfold foOk kd; simp only [g3, Bool.and_false, Bool.false_and]))
  refine W ?_
  refine Bg rfl rfl (fun g4 => ?_) (fun g4 => ?_)
  · refine W ?_
    exact Rt rfl rfl (bad (by unfold foOk kd; simp only [decide_eq_false g4, Bool.and_false, Bool.false_and]))
  refine W ?_
  refine Bg rfl rfl (fun g5 => ?_) (fun g5 => ?_)
  · refine W ?_
    exact Rt rfl rfl (bad (by unfold foOk kd; simp only [decide_eq_false g5, Bool.and_false, Bool.false_and]))
  refine W ?_
  refine Bg rfl rfl (fun g6 => ?_) (fun g6 => ?_)
  · refine W ?_
    exact Rt rfl rfl (bad (by unfold foOk kd; simp only [decide_eq_false (p := 1 ≤ ((n.kids.getD 1 (.mk 0 0 false [] [])).kids.length : Int)) (by omega), Bool.and_false, Bool.false_and]))
  refine W ?_
  refine Ci rfl (fun g7 => ?_) (fun g7 => ?_)
  · refine W ?_
    exact Rt rfl rfl (bad (by unfold foOk kd; simp only [decide_eq_false (p := ((n.kids.getD 1 (.mk 0 0 false [] [])).kids.length : Int) ≤ 8) (by omega), Bool.and_false, Bool.false_and]))
  refine W ?_
  refine Rv (kS 1 bE) 3 1 25 rfl rfl rfl rfl rfl rfl ?_
  generalize hs : n.kids.getD 1 (.mk 0 0 false [] []) = s at *
  have hkd : kd n 1 = s := hs
  refine Lp (γ := Nat) (fun g => g ≤ s.kids.length ∧ (s.kids.take g).all fldK = true) (fun g => s.kids.length + 1 - g)
    (fun g => [(2, .own 1 0), (7, .own 3 0), (61, .d (.nds s.kids)), (62, .d (.i (s.kids.length : Int))), (63, .d (.i (g : Int)))])
    (fun g => [(3, .var 24 [.d (.s (cOid (n.kids.getD 0 (.mk 0 0 false [] []))).1), .row 4]), (4, .row 25 (.sl 1 bE ((s.kids.take g).map (·.wr.1)))), (1, .var 24 [.d (.s []), .d (.v (.slice none 0 0))])]) 0 ⟨by omega, rfl⟩ ?_ ?_ ?_
  · exact ⟨rfl, rfl, rfl, rfl, rfl, trivial⟩
  · exact ⟨rfl, rfl, rfl, trivial⟩
  rintro g ⟨hg, hall⟩
  have k2 := kid_sz s g
  have hml : ((s.kids.take g).map (·.wr.1)).length ≤ 10 := by rw [List.length_map]; have := List.length_take_le' g s.kids; omega
  refine W ?_
  refine Ci rfl (fun h => ?_) (fun h => ?_)
  · have hl : g < s.kids.length := by omega
    have hget : s.kids.getD g (.mk 0 0 false [] []) = s.kids[g] := getD_at hl
    have hbad : fldK (s.kids.getD g (.mk 0 0 false [] [])) = false → foOk n = false := fun hb => by
      have : s.kids.all fldK = false := by
        rw [List.all_eq_false]
        exact ⟨s.kids[g], List.getElem_mem hl, by rw [← hget, hb]; simp⟩
      unfold foOk; rw [hkd, this, Bool.and_false]
    refine W ?_
    refine Bg rfl rfl (fun h4 => ?_) (fun h4 => ?_)
    · refine W ?_
      exact Rt rfl rfl (bad (hbad (by unfold fldK; rw [decide_eq_false h4]; rfl)))
    refine W ?_
    refine Ci rfl (fun h5 => ?_) (fun h5 => ?_)
    · refine W ?_
      exact Rt rfl rfl (bad (hbad (by unfold fldK; rw [decide_eq_false (p := ((s.kids.getD g (.mk 0 0 false [] [])).rk : Int) ≤ 20) (by omega), Bool.and_false])))
    refine W ?_
    have hok : fldK (s.kids.getD g (.mk 0 0 false [] [])) = true := by unfold fldK; rw [decide_eq_true h4, decide_eq_true (p := ((s.kids.getD g (.mk 0 0 false [] [])).rk : Int) ≤ 20) (by omega)]; rfl
    have e1 : (s.kids.take (g + 1)).map (·.wr.1) = (s.kids.take g).map (·.wr.1) ++ [(s.kids.getD g (.mk 0 0 false [] [])).wr.1] := by
      rw [List.take_succ_eq_append_getElem hl, List.map_append, hget]; rfl
    have e2 : (s.kids.take (g + 1)).all fldK = true := by
      rw [List.take_succ_eq_append_getElem hl, List.all_append, hall, ← hget]; simp only [List.all_cons, hok, List.all_nil]; rfl
    refine ⟨g + 1, by omega, ⟨by omega, e2⟩, ⟨rfl, rfl, rfl, rfl, rfl, trivial⟩, ?_⟩
    show WkO [(3, .var 24 [.d (.s (cOid (n.kids.getD 0 (.mk 0 0 false [] []))).1), .row 4]), (4, .row 25 (.sl 1 bE ((s.kids.take (g + 1)).map (·.wr.1)))), (1, .var 24 [.d (.s []), .d (.v (.slice none 0 0))])] _
    rw [e1]
    exact ⟨rfl, rfl, rfl, trivial⟩
  · have hge : g = s.kids.length := by omega
    subst hge
    rw [List.take_length] at hall
    rw [List.take_length]
    refine Pb 4 rfl ?_
    refine W ?_
    refine Rt rfl rfl ?_
    have hb : foOk n = true := by
      unfold foOk
      rw [hkd, g1, g2.1, show (cOid (kd n 0)).2 = true from g3, decide_eq_true g4, decide_eq_true g5, decide_eq_true (p := 1 ≤ (s.kids.length : Int)) (by omega), decide_eq_true (p := (s.kids.length : Int) ≤ 8) (by omega), hall]; rfl
    simp only [resD, fieldOf, hb, if_true, hkd]; rfl
instance : Cn Tryz.prog 11 (type_of% @cfieldof_d) := ⟨@cfieldof_d⟩
end Go.Proofs.YtohlpgoeheggdaaGreatDoor
namespace Go.Proofs.YtohlpgoeheggdaaGreatDoor
open Go Go.RowKit
set_option maxRecDepth 100000
set_option maxHeartbeats 4000000
theorem less_below : ∀ (p q : Txt), Go.Op.bytesLess p q = belowB p q
  | _, [] => by simp [Go.Op.bytesLess, belowB]
  | [], _ :: _ => by simp [Go.Op.bytesLess, belowB]
  | a :: x, b :: y => by
    simp only [Go.Op.bytesLess, belowB, less_below x y]
    by_cases h : a = b
    · subst h; simp
    · simp [h]
theorem below_d (p q : Txt) : FnD Tryz.prog 44 [.bs p, .bs q] (.b (decide (0 < Go.Lib.compareBytes q p))) := by
  rw [← below_cmp, ← less_below]
  exact FnE.intro Tryz.func44 rfl Tryz.ntmps44 rfl (fun e => Z)
instance : Cn Tryz.prog 44 (type_of% @below_d) := ⟨@below_d⟩
theorem risoid_d (s : Txt) (hs : s.length ≤ 1000000000) : FnD Tryz.prog 42 [.s s] (.b (oidB s).isSome) := by
  exact FnE.intro Tryz.func42 rfl Tryz.ntmps42 rfl (fun e => Z)
instance : Cn Tryz.prog 42 (type_of% @risoid_d) := ⟨@risoid_d⟩
def kdI (n : Nd) (i : Int) : Nd := if i < 0 ∨ (n.kids.length : Int) ≤ i then .mk 0 0 false [] [] else n.kids.getD i.toNat (.mk 0 0 false [] [])
theorem kid_d (n : Nd) (i : Int) : FnD Tryz.prog 52 [.nd n, .i i] (.nd (kdI n i)) := by
  unfold kdI
  exact FnE.intro Tryz.func52 rfl Tryz.ntmps52 rfl (fun e => Z)
instance : Cn Tryz.prog 52 (type_of% @kid_d) := ⟨@kid_d⟩
theorem roidtxt_d (n : Nd) (hz : n.sz ≤ 10000000) : FnD Tryz.prog 51 [.nd n] (.s ((oidT n.bytes).getD [])) := by
  have := nd_bytes_sz n
  exact FnE.intro Tryz.func51 rfl Tryz.ntmps51 rfl (fun e => Z)
instance : Cn Tryz.prog 51 (type_of% @roidtxt_d) := ⟨@roidtxt_d⟩
theorem seq2_d (x y : Nd) : FnD Tryz.prog 45 [.nd x, .nd y] (.nd (.mk 0 16 true [] [x, y])) := by
  exact FnE.intro Tryz.func45 rfl Tryz.ntmps45 rfl (fun e => Z)
instance : Cn Tryz.prog 45 (type_of% @seq2_d) := ⟨@seq2_d⟩
theorem rfieldnode_d (f : Fe) (h1 : f.oid.length ≤ 1000000) (h2 : f.vals.length ≤ 1000000) (h3 : ∀ v ∈ f.vals, v.length ≤ 1000000) : FnD Tryz.prog 10 [.st f.enc] (.tup [.nd (fieldN f), .i (fieldE f)]) := by
  have bad : fnOk f = false → resD [.nd ndZ0, .i 60] = .tup [.nd (fieldN f), .i (fieldE f)] := fun hb => by simp [resD, fieldN, fieldE, hb]
  refine FnE.intro Tryz.func10 rfl Tryz.ntmps10 rfl (fun e => ?_)
  refine W ?_
  refine Bg rfl rfl (fun g1 => ?_) (fun g1 => ?_)
  · refine W ?_
    exact Rt rfl rfl (bad (by simp [fnOk, g1]))
  refine W ?_
  refine Bg rfl rfl (fun g2 => ?_) (fun g2 => ?_)
  · refine W ?_
    exact Rt rfl rfl (bad (by simp [fnOk, show ¬ 1 ≤ (f.vals.length : Int) by omega]))
  refine W ?_
  refine Ci rfl (fun g3 => ?_) (fun g3 => ?_)
  · refine W ?_
    exact Rt rfl rfl (bad (by simp [fnOk, show ¬ (f.vals.length : Int) ≤ 8 by omega]))
  refine W ?_
  refine Rn kN 4 28 rfl rfl ?_
  refine Lp (γ := Nat) (fun g => g ≤ f.vals.length ∧ (f.vals.take g).all fldV = true ∧ OrdK f.vals (g - 1)) (fun g => f.vals.length + 1 - g)
    (fun g => [(1, .own 0 0), (2, .own 1 0), (4, .row 2), (5, .d (.i (g : Int)))])
    (fun g => [(2, .row 28 (.nds ((f.vals.take g).map fun v => (rdTop v).1))), (0, .whl 24 (.st f.enc)), (1, .var 28 [.d (.i 0), .d (.i 0), .d (.b false), .d (.v (.slice none 0 0)), .d (.v (.slice none 0 0))])]) 0 ⟨by omega, rfl, fun j hj => by omega⟩ ?_ ?_ ?_
  · exact ⟨rfl, rfl, rfl, rfl, trivial⟩
  · exact ⟨rfl, rfl, rfl, trivial⟩
  rintro g ⟨hg, hall, hord⟩
  have hs := rdTop_sz (f.vals.getD g default)
  have hml : ((f.vals.take g).map fun v => (rdTop v).1).length ≤ 10000000 := by rw [List.length_map]; have := List.length_take_le' g f.vals; omega
  refine W ?_
  refine Ci rfl (fun h => ?_) (fun h => ?_)
  · have hl : g < f.vals.length := by omega
    have hget : f.vals.getD g default = f.vals[g] := getD_at hl
    have hvl := h3 _ (List.getElem_mem hl)
    have hvl2 : (f.vals.getD g default).length ≤ 1000000 := by rw [hget]; exact hvl
    have hbad : fldV (f.vals.getD g default) = false → fnOk f = false := fun hb => by
      have : f.vals.all fldV = false := by
        rw [List.all_eq_false]
        exact ⟨f.vals[g], List.getElem_mem hl, by rw [← hget, hb]; simp⟩
      simp [fnOk, this]
    refine W ?_
    refine BXl 44 rfl (fun hc h4 => ?_) (fun hc h4 => ?_)
    · rw [hc]
      refine W ?_
      exact Rt rfl rfl (bad (hbad (by unfold fldV; rw [decide_eq_false (p := (rdTop (f.vals.getD g default)).2.2 = 0) h4]; rfl)))
    rw [hc]
    clear hc
    refine W ?_
    refine BXl 49 rfl (fun hc h5 => ?_) (fun hc h5 => ?_)
    · rw [hc]
      refine W ?_
      exact Rt rfl rfl (bad (hbad (by unfold fldV; rw [decide_eq_false (p := ((rdTop (f.vals.getD g default)).1.rk : Int) ≤ 20) (by omega), Bool.and_false])))
    rw [hc]
    clear hc
    refine W ?_
    have hok : fldV (f.vals.getD g default) = true := by unfold fldV; rw [decide_eq_true (p := (rdTop (f.vals.getD g default)).2.2 = 0) h4, decide_eq_true (p := ((rdTop (f.vals.getD g default)).1.rk : Int) ≤ 20) (by omega)]; rfl
    have e1 : (f.vals.take (g + 1)).map (fun v => (rdTop v).1) = (f.vals.take g).map (fun v => (rdTop v).1) ++ [(rdTop (f.vals.getD g default)).1] := by
      rw [List.take_succ_eq_append_getElem hl, List.map_append, hget]; rfl
    have e2 : (f.vals.take (g + 1)).all fldV = true := by
      rw [List.take_succ_eq_append_getElem hl, List.all_append, hall, ← hget]; simp only [List.all_cons, hok, List.all_nil]; rfl
    refine BXl 52 rfl (fun hc h6 => ?_) (fun hc h6 => ?_)
    · rw [hc]
      clear hc
      have hgg : ((g : Int) - 1).toNat = g - 1 := by omega
      have hg1 : g - 1 + 1 = g := by omega
      refine W ?_
      refine Ci rfl (fun h7 => ?_) (fun h7 => ?_)
      · rw [hgg] at h7
        refine W ?_
        exact Rt rfl rfl (bad (by
          have : ordB f.vals = false := decide_eq_false fun hh => hh (g - 1) (by omega) (by rw [hg1]; exact h7)
          simp [fnOk, this]))
      · rw [hgg] at h7
        refine W ?_
        refine ⟨g + 1, by omega, ⟨by omega, e2, ?_⟩, ⟨rfl, rfl, rfl, rfl, trivial⟩, ?_⟩
        · have := ordk_step hord (by rw [hg1]; exact h7)
          rw [hg1] at this
          exact this
        show WkO [(2, .row 28 (.nds ((f.vals.take (g + 1)).map fun v => (rdTop v).1))), (0, .whl 24 (.st f.enc)), (1, .var 28 [.d (.i 0), .d (.i 0), .d (.b false), .d (.v (.slice none 0 0)), .d (.v (.slice none 0 0))])] _
        rw [e1]
        exact ⟨rfl, rfl, rfl, trivial⟩
    · rw [hc]
      clear hc
      refine W ?_
      refine ⟨g + 1, by omega, ⟨by omega, e2, fun j hj => by omega⟩, ⟨rfl, rfl, rfl, rfl, trivial⟩, ?_⟩
      show WkO [(2, .row 28 (.nds ((f.vals.take (g + 1)).map fun v => (rdTop v).1))), (0, .whl 24 (.st f.enc)), (1, .var 28 [.d (.i 0), .d (.i 0), .d (.b false), .d (.v (.slice none 0 0)), .d (.v (.slice none 0 0))])] _
      rw [e1]
      exact ⟨rfl, rfl, rfl, trivial⟩
  · have hge : g = f.vals.length := by omega
    subst hge
    rw [List.take_length] at hall
    rw [List.take_length]
    refine Pb 2 rfl ?_
    refine W ?_
    refine Rt rfl rfl ?_
    have hb : fnOk f = true := by
      simp only [fnOk, g1, hall, show (1 : Int) ≤ f.vals.length by omega, show (f.vals.length : Int) ≤ 8 by omega, decide_true, Bool.and_true, Bool.true_and]
      exact decide_eq_true hord
    simp only [resD, fieldN, fieldE, hb, if_true, setN]
instance : Cn Tryz.prog 10 (type_of% @rfieldnode_d) := ⟨@rfieldnode_d⟩
end Go.Proofs.YtohlpgoeheggdaaGreatDoor
namespace Go.Proofs.YtohlpgoeheggdaaGreatDoor
open Go Go.RowKit
set_option maxRecDepth 100000
set_option maxHeartbeats 4000000
theorem kdI_nat (n : Nd) (i : Nat) : kdI n (i : Int) = kd n i := by
  unfold kdI kd
  split
  · rw [List.getD_eq_getElem?_getD, List.getElem?_eq_none (by omega)]; rfl
  · rfl
theorem put_getD_sz (n : Nd) : (n.put.getD []).length ≤ 8 * n.sz := by
  cases h : n.put with
  | none => simp
  | some b => exact (Nd.put_len _ n b (Nat.le_refl _) h).2
theorem rfieldof_d (n : Nd) (hz : n.sz ≤ 20000) : FnD Tryz.prog 12 [.nd n] (.tup [.st (fieldOfR n).1.enc, .b (fieldOfR n).2]) := by
  have e0 : kdI n 0 = kd n 0 := kdI_nat n 0
  have e1 : kdI n 1 = kd n 1 := kdI_nat n 1
  have k0 : (kd n 0).sz ≤ n.sz := kid_sz n 0
  have k1 : (kd n 1).sz ≤ n.sz := kid_sz n 1
  rw [← e0] at k0
  refine FnE.intro Tryz.func12 rfl Tryz.ntmps12 rfl (fun e => ?_)
  refine W ?_
  refine Rv (kS 1 bE) 2 1 25 rfl rfl rfl rfl rfl rfl ?_
  rw [e0, e1]
  rw [e0] at k0
  have hR : fR n = ⟨(oidT (kd n 0).bytes).getD [], ((kd n 1).kids.take 10).map fun k => k.put.getD []⟩ := rfl
  have ol := oidT_len (kd n 0).bytes
  have kb := nd_bytes_sz (kd n 0)
  have hc : fnOk (fR n) = true ∨ fnOk (fR n) = false := by cases fnOk (fR n) <;> simp
  generalize hs : kd n 1 = s at *
  generalize ho : (oidT (kd n 0).bytes).getD [] = ot at *
  have hvl : ∀ v ∈ (s.kids.take 10).map (fun k => k.put.getD []), v.length ≤ 1000000 := fun v hv => by
    obtain ⟨k, hk, rfl⟩ := List.mem_map.1 hv
    have h1 := put_getD_sz k
    have h2 : k.sz ≤ s.sz := by
      have := Nd.sz_le (List.mem_of_mem_take hk)
      cases s; simp only [Nd.kids, Nd.sz] at this ⊢; omega
    omega
  have hvn : ((s.kids.take 10).map (fun k => k.put.getD [])).length ≤ 10 := by rw [List.length_map]; exact List.length_take_le ..
  refine Lp (γ := Nat) (fun g => g ≤ s.kids.length ∧ g ≤ 10) (fun g => 20 - g)
    (fun g => [(1, .own 0 0), (2, .own 1 0), (4, .own 2 0), (5, .d (.nds s.kids)), (6, .d (.i (g : Int)))])
    (fun g => [(2, .var 24 [.d (.s ot), .row 3]), (3, .row 25 (.sl 1 bE ((s.kids.take g).map fun k => k.put.getD []))), (1, .var 24 [.d (.s []), .d (.v (.slice none 0 0))]), (0, .whl 28 (.nd n))]) 0 ⟨by omega, by omega⟩ ?_ ?_ ?_
  · exact ⟨rfl, rfl, rfl, rfl, rfl, trivial⟩
  · exact ⟨rfl, rfl, rfl, rfl, trivial⟩
  rintro g ⟨hg, hg10⟩
  have k2 := kid_sz s g
  have hml : ((s.kids.take g).map (fun k => k.put.getD [])).length ≤ 10 := by rw [List.length_map]; have := List.length_take_le g s.kids; omega
  have hcall : FnD Tryz.prog 10 [.st (Fe.enc ⟨ot, (s.kids.take 10).map fun k => k.put.getD []⟩)] (.tup [.nd (fieldN (fR n)), .i (fieldE (fR n))]) := by
    have h1 := rfieldnode_d (fR n) (by rw [hR]; show ot.length ≤ _; omega) (by rw [hR]; exact Nat.le_trans hvn (by omega)) (by rw [hR]; exact hvl)
    rw [← hR]; exact h1
  have bad : (decide (fieldE (fR n) = 0) && (fieldN (fR n)).beq n) = false → resD [.st (Fe.enc ⟨[], []⟩), .b false] = .tup [.st (fieldOfR n).1.enc, .b (fieldOfR n).2] := fun hb => by
    simp only [fieldOfR, hb]; rfl
  refine W ?_
  refine Bg rfl rfl (fun h => ?_) (fun h => ?_)
  · refine W ?_
    refine Ci rfl (fun h2 => ?_) (fun h2 => ?_)
    · have hl : g < s.kids.length := by omega
      have hget : s.kids.getD g (.mk 0 0 false [] []) = s.kids[g] := getD_at hl
      refine W ?_
      have e3 : (s.kids.take (g + 1)).map (fun k => k.put.getD []) = (s.kids.take g).map (fun k => k.put.getD []) ++ [(s.kids.getD g (.mk 0 0 false [] [])).put.getD []] := by
        rw [List.take_succ_eq_append_getElem hl, List.map_append, hget]; rfl
      refine ⟨g + 1, by omega, ⟨by omega, by omega⟩, ⟨rfl, rfl, rfl, rfl, rfl, trivial⟩, ?_⟩
      show WkO [(2, .var 24 [.d (.s ot), .row 3]), (3, .row 25 (.sl 1 bE ((s.kids.take (g + 1)).map fun k => k.put.getD []))), (1, .var 24 [.d (.s []), .d (.v (.slice none 0 0))]), (0, .whl 28 (.nd n))] _
      rw [e3]
      exact ⟨rfl, rfl, rfl, rfl, trivial⟩
    · have hT : s.kids.take g = s.kids.take 10 := by rw [show g = 10 by omega]
      rw [hT]
      refine W ?_
      refine Pl 3 rfl ?_
      refine W ?_
      refine Bg rfl rfl (fun q1 => ?_) (fun q1 => ?_)
      · refine W ?_
        exact Rt rfl rfl (bad (by rw [decide_eq_false q1]; rfl))
      refine W ?_
      refine Ci rfl (fun q2 => ?_) (fun q2 => ?_)
      · refine W ?_
        exact Rt rfl rfl (bad (by rw [q2, Bool.and_false]))
      refine W ?_
      refine Rt rfl rfl ?_
      have hb : (decide (fieldE (fR n) = 0) && (fieldN (fR n)).beq n) = true := by rw [decide_eq_true q1, q2]; rfl
      simp only [resD, fieldOfR, hb, if_true]
      rw [hR]; rfl
  · have hT : s.kids.take g = s.kids.take 10 := by rw [show g = s.kids.length by omega, List.take_length, List.take_of_length_le (by omega)]
    rw [hT]
    refine W ?_
    refine Pl 3 rfl ?_
    refine W ?_
    refine Bg rfl rfl (fun q1 => ?_) (fun q1 => ?_)
    · refine W ?_
      exact Rt rfl rfl (bad (by rw [decide_eq_false q1]; rfl))
    refine W ?_
    refine Ci rfl (fun q2 => ?_) (fun q2 => ?_)
    · refine W ?_
      exact Rt rfl rfl (bad (by rw [q2, Bool.and_false]))
    refine W ?_
    refine Rt rfl rfl ?_
    have hb : (decide (fieldE (fR n) = 0) && (fieldN (fR n)).beq n) = true := by rw [decide_eq_true q1, q2]; rfl
    simp only [resD, fieldOfR, hb, if_true]
    rw [hR]; rfl
instance : Cn Tryz.prog 12 (type_of% @rfieldof_d) := ⟨@rfieldof_d⟩
end Go.Proofs.YtohlpgoeheggdaaGreatDoor
namespace Go.Proofs.YtohlpgoeheggdaaGreatDoor
open Go Go.RowKit
set_option maxRecDepth 100000
set_option maxHeartbeats 4000000
theorem taken_next {α : Type} {a b : List α} {g : Nat} {z : α} (h : a.take g = b.take g) (ha : g < a.length) (hb : g < b.length) (he : a.getD g z = b.getD g z) : a.take (g + 1) = b.take (g + 1) := by
  rw [getD_at ha, getD_at hb] at he
  rw [List.take_succ_eq_append_getElem ha, List.take_succ_eq_append_getElem hb, h, he]
theorem getD_ne {α : Type} {a b : List α} {g : Nat} {z : α} (he : ¬ a.getD g z = b.getD g z) : a ≠ b := fun h => he (by rw [h])
theorem samevalues_d (a b : List Txt) (ha : a.length ≤ 1000000000000) : FnD Tryz.prog 28 [.sl 1 bE a, .sl 1 bE b] (.b (decide (a = b))) := by
  refine FnE.intro Tryz.func28 rfl Tryz.ntmps28 rfl (fun e => ?_)
  refine W ?_
  refine Ci rfl (fun h => ?_) (fun h => ?_)
  · refine W ?_
    refine Rt rfl rfl ?_
    rw [decide_eq_false (fun hh => by rw [hh] at h; exact h rfl)]; rfl
  refine W ?_
  refine Lp (γ := Nat) (fun g => g ≤ a.length ∧ a.take g = b.take g) (fun g => a.length + 1 - g) (fun g => [(0, .d (.sl 1 bE a)), (1, .d (.sl 1 bE b)), (5, .d (.i (g : Int)))]) (fun _ => []) 0 ⟨by omega, rfl⟩ ⟨rfl, rfl, rfl, trivial⟩ trivial ?_
  rintro g ⟨hg, ht⟩
  refine W ?_
  refine Ci rfl (fun h2 => ?_) (fun h2 => ?_)
  · refine W ?_
    refine Ci rfl (fun h3 => ?_) (fun h3 => ?_)
    · refine W ?_
      refine Rt rfl rfl ?_
      rw [decide_eq_false (getD_ne h3)]; rfl
    · refine W ?_
      exact ⟨g + 1, by omega, ⟨by omega, taken_next ht (by omega) (by omega) h3⟩, ⟨rfl, rfl, rfl, trivial⟩, trivial⟩
  · refine W ?_
    refine Rt rfl rfl ?_
    rw [decide_eq_true (by rw [List.take_of_length_le (by omega), List.take_of_length_le (by omega)] at ht; exact ht)]; rfl
instance : Cn Tryz.prog 28 (type_of% @samevalues_d) := ⟨@samevalues_d⟩
instance : DecidableEq Fe := fun a b => decidable_of_iff (a.oid = b.oid ∧ a.vals = b.vals) (by cases a; cases b; simp)
theorem samefields_d (a b : List Fe) (ha : a.length ≤ 1000000000000) (hv : ∀ f ∈ a, f.vals.length ≤ 1000000000000) : FnD Tryz.prog 14 [.sl 2 Fe.enc a, .sl 2 Fe.enc b] (.b (decide (a = b))) := by
  refine FnE.intro Tryz.func14 rfl Tryz.ntmps14 rfl (fun e => ?_)
  refine W ?_
  refine Ci rfl (fun h => ?_) (fun h => ?_)
  · refine W ?_
    refine Rt rfl rfl ?_
    rw [decide_eq_false (fun hh => by rw [hh] at h; exact h rfl)]; rfl
  refine W ?_
  refine Lp (γ := Nat) (fun g => g ≤ a.length ∧ a.take g = b.take g) (fun g => a.length + 1 - g) (fun g => [(0, .d (.sl 2 Fe.enc a)), (1, .d (.sl 2 Fe.enc b)), (5, .d (.i (g : Int)))]) (fun _ => []) 0 ⟨by omega, rfl⟩ ⟨rfl, rfl, rfl, trivial⟩ trivial ?_
  rintro g ⟨hg, ht⟩
  refine W ?_
  refine Ci rfl (fun h2 => ?_) (fun h2 => ?_)
  · have hvg : (a.getD g default).vals.length ≤ 1000000000000 := by rw [getD_at (show g < a.length by omega)]; exact hv _ (List.getElem_mem _)
    refine W ?_
    refine BXl 28 rfl (fun hc h3 => ?_) (fun hc h3 => ?_)
    · rw [hc]
      refine W ?_
      refine Rt rfl rfl ?_
      rw [decide_eq_false (fun hh => h3 (by rw [hh]))]; rfl
    rw [hc]
    clear hc
    refine W ?_
    refine Ci rfl (fun h4 => ?_) (fun h4 => ?_)
    · refine W ?_
      refine Rt rfl rfl ?_
      rw [decide_eq_false (fun hh => by rw [hh] at h4; simp at h4)]; rfl
    · refine W ?_
      refine ⟨g + 1, by omega, ⟨by omega, taken_next (z := default) ht (by omega) (by omega) ?_⟩, ⟨rfl, rfl, rfl, trivial⟩, trivial⟩
      generalize a.getD g default = x at *
      generalize b.getD g default = y at *
      cases x; cases y; simp_all
  · refine W ?_
    refine Rt rfl rfl ?_
    rw [decide_eq_true (by rw [List.take_of_length_le (by omega), List.take_of_length_le (by omega)] at ht; exact ht)]; rfl
instance : Cn Tryz.prog 14 (type_of% @samefields_d) := ⟨@samefields_d⟩
end Go.Proofs.YtohlpgoeheggdaaGreatDoor
namespace Go.Proofs.YtohlpgoeheggdaaGreatDoor
open Go Go.RowKit
set_option maxRecDepth 100000
set_option maxHeartbeats 4000000
def fvM (m : Int) : List Txt → Int → Int
  | [], n => n
  | v :: r, n => if n ≤ m then fvM m r (n + 1 + v.length) else n
def fsM (m : Int) : List Fe → Int → Int
  | [], n => n
  | f :: r, n => if n ≤ m then fsM m r (fvM m f.vals (n + 1 + f.oid.length)) else n
theorem fvM_stop (m n : Int) (h : m < n) : ∀ l, fvM m l n = n
  | [] => rfl
  | _ :: _ => if_neg (by omega)
theorem fsM_stop (m n : Int) (h : m < n) : ∀ l, fsM m l n = n
  | [] => rfl
  | _ :: _ => if_neg (by omega)
def FeB (f : Fe) : Prop := f.oid.length ≤ 140737488355328 ∧ f.vals.length ≤ 140737488355328 ∧ ∀ v ∈ f.vals, v.length ≤ 140737488355328
theorem fieldssize_d (l : List Fe) (m : Int) (h0 : 0 ≤ m) (h1 : m ≤ 1000000000000) (hl : l.length ≤ 140737488355328) (hB : ∀ f ∈ l, FeB f) : FnD Tryz.prog 29 [.sl 2 Fe.enc l, .i m] (.i (fsM m l 0)) := by
  refine FnE.intro Tryz.func29 rfl Tryz.ntmps29 rfl (fun e => ?_)
  refine W ?_
  refine Lp (γ := Nat × Int) (fun g => g.1 ≤ l.length ∧ 0 ≤ g.2 ∧ g.2 ≤ m + 1 + 140737488355328 ∧ fsM m l 0 = fsM m (l.drop g.1) g.2) (fun g => l.length + 1 - g.1) (fun g => [(0, .d (.sl 2 Fe.enc l)), (1, .d (.i m)), (5, .d (.i g.2)), (6, .d (.i (g.1 : Int)))]) (fun _ => []) (0, 0) ⟨by simp, by simp, by simp only; omega, rfl⟩ ⟨rfl, rfl, rfl, rfl, trivial⟩ trivial ?_
  rintro ⟨g, n⟩ ⟨i0, i1, i2, i3⟩
  dsimp only at i0 i1 i2 i3
  show JD _ _ _ _ _ [(0, .d (.sl 2 Fe.enc l)), (1, .d (.i m)), (5, .d (.i n)), (6, .d (.i (g : Int)))] []
  have fin : m < n ∨ g = l.length → resD [.i n] = .i (fsM m l 0) := fun h => by
    rw [i3]
    rcases h with h | h
    · rw [fsM_stop m n h]; rfl
    · rw [h, List.drop_length]; rfl
  refine W ?_
  refine Bg rfl rfl (fun h => ?_) (fun h => ?_)
  · have hlt : g < l.length := by omega
    obtain ⟨b1, b2, b3⟩ := hB _ (List.getElem_mem hlt)
    rw [← getD_at (z := default) hlt] at b1 b2 b3
    have hdr : l.drop g = l.getD g default :: l.drop (g + 1) := by rw [List.drop_eq_getElem_cons hlt, getD_at hlt]
    refine W ?_
    refine Ci rfl (fun h2 => ?_) (fun h2 => ?_)
    · rw [hdr] at i3
      simp only [fsM, if_pos h2] at i3
      refine W ?_
      refine Lp (γ := Nat × Int) (fun k => k.1 ≤ (l.getD g default).vals.length ∧ 0 ≤ k.2 ∧ k.2 ≤ m + 1 + 140737488355328 ∧ fvM m (l.getD g default).vals (n + 1 + (l.getD g default).oid.length) = fvM m ((l.getD g default).vals.drop k.1) k.2) (fun k => (l.getD g default).vals.length + 1 - k.1) (fun k => [(0, .d (.sl 2 Fe.enc l)), (1, .d (.i m)), (5, .d (.i k.2)), (6, .d (.i (g : Int))), (7, .d (.i (k.1 : Int)))]) (fun _ => []) (0, n + 1 + (l.getD g default).oid.length) ⟨by simp, by simp only; omega, by simp only; omega, rfl⟩ ⟨rfl, rfl, rfl, rfl, rfl, trivial⟩ trivial ?_
      rintro ⟨k, q⟩ ⟨j0, j1, j2, j3⟩
      dsimp only at j0 j1 j2 j3
      show JD _ _ _ _ _ [(0, .d (.sl 2 Fe.enc l)), (1, .d (.i m)), (5, .d (.i q)), (6, .d (.i (g : Int))), (7, .d (.i (k : Int)))] []
      have nx : m < q ∨ k = (l.getD g default).vals.length → fsM m l 0 = fsM m (l.drop (g + 1)) q := fun h => by
        rw [i3, j3]
        rcases h with h | h
        · rw [fvM_stop m q h]
        · rw [h, List.drop_length]; rfl
      refine W ?_
      refine Bg rfl rfl (fun h3 => ?_) (fun h3 => ?_)
      · have hlk : k < (l.getD g default).vals.length := by omega
        have c1 := b3 _ (List.getElem_mem hlk)
        rw [← getD_at (z := default) hlk] at c1
        have hdk : (l.getD g default).vals.drop k = (l.getD g default).vals.getD k default :: (l.getD g default).vals.drop (k + 1) := by rw [List.drop_eq_getElem_cons hlk, getD_at hlk]
        refine W ?_
        refine Ci rfl (fun h4 => ?_) (fun h4 => ?_)
        · rw [hdk] at j3
          simp only [fvM, if_pos h4] at j3
          refine W ?_
          exact ⟨(k + 1, q + 1 + ((l.getD g default).vals.getD k default).length), by simp only; omega, ⟨by simp only; omega, by simp only; omega, by simp only; omega, j3⟩, ⟨rfl, rfl, rfl, rfl, rfl, trivial⟩, trivial⟩
        · refine W ?_
          exact ⟨(g + 1, q), by simp only; omega, ⟨by simp only; omega, j1, j2, nx (.inl (by omega))⟩, ⟨rfl, rfl, rfl, rfl, trivial⟩, trivial⟩
      · refine W ?_
        exact ⟨(g + 1, q), by simp only; omega, ⟨by simp only; omega, j1, j2, nx (.inr (by omega))⟩, ⟨rfl, rfl, rfl, rfl, trivial⟩, trivial⟩
    · refine W ?_
      exact Rt rfl rfl (fin (.inl (by omega)))
  · refine W ?_
    exact Rt rfl rfl (fin (.inr (by omega)))
instance : Cn Tryz.prog 29 (type_of% @fieldssize_d) := ⟨@fieldssize_d⟩
theorem long_d (l : List Fe) (hl : l.length ≤ 140737488355328) (hB : ∀ f ∈ l, FeB f) : FnD Tryz.prog 6 [.sl 2 Fe.enc l] (.b (decide (6000 < fsM 6000 l 0))) := by
  exact FnE.intro Tryz.func6 rfl Tryz.ntmps6 rfl (fun e => Z)
instance : Cn Tryz.prog 6 (type_of% @long_d) := ⟨@long_d⟩
def wideB (n : Nd) : Bool := decide (8000 < n.szM 8000) || decide (40 < (n.rk : Int))
theorem wide_sz {n : Nd} (hb : n.okB) (h : ¬ 8000 < n.szM 8000) : n.sz ≤ 8000 := by
  obtain ⟨_, _, h3, _⟩ := Nd.szM_bd _ n 8000 (Nat.le_refl _) hb (by omega)
  have := h3 (by omega)
  omega
theorem wide_d (n : Nd) (hb : n.okB) : FnD Tryz.prog 7 [.nd n] (.b (wideB n)) := by
  unfold wideB
  refine FnE.intro Tryz.func7 rfl Tryz.ntmps7 rfl (fun e => ?_)
  refine W ?_
  refine Bg rfl rfl (fun h => ?_) (fun h => ?_)
  · exact Z
  · have := wide_sz hb h
    exact Z
instance : Cn Tryz.prog 7 (type_of% @wide_d) := ⟨@wide_d⟩
end Go.Proofs.YtohlpgoeheggdaaGreatDoor
namespace Go.Proofs.YtohlpgoeheggdaaGreatDoor
open Go Go.RowKit Go.ChangeShapes Go.WideShapes Go.Lib Go.ChangeAt
set_option maxRecDepth 100000
section
variable {H : Type} {enc : TypeId × Value → H} {W : World} {base : Nat} {v : Value} {d : DataW H} {ps : List MemPlace}
theorem bytes_field : 0 < Tryz.prog.bytesOf 24 := by rw [show Tryz.prog.bytesOf 24 = 40 by kernel_rfl]; decide
theorem opens_fes (n : Nat) : Opens Tryz.prog (n + 1) 30 (slR (fun h cs f => encR Fe.enc h cs f ∧ f.oid.length ≤ 140737488355328 ∧ f.vals.length ≤ 140737488355328 ∧ ∀ v ∈ f.vals, v.length ≤ 140737488355328) 2) 1 (fun l => (l.map fun _ => 0).sum + 1) := opens_slice Tryz.underlying30 cells_field (by decide) bytes_field (opens_fe n)
theorem arg_fields (hval : Value.okWide Tryz.prog W .any base 30 v) (hd : DataW.Trod enc Tryz.prog W 0 (fun _ => true) true 30 v d ps) (hw : (d.weights Tryz.prog 30).all (· ≤ reachBytes) = true) :
    ∃ l : List Fe, Den (.sl 2 Fe.enc l) (partOf W) v ∧ l.length ≤ 140737488355328 ∧ ∀ f ∈ l, FeB f := by
  obtain ⟨a, c, l, rfl, r, _⟩ := arg_sl Tryz.underlying30 opens_fes hval hd hw
  refine ⟨l, (den_sl (h := _)).2 ⟨a, c, rfl, r.imp rfl (Part.le.refl _) (fun i p q cs h1 h2 h3 => by rw [h1] at h2; cases h2; exact h3.1)⟩, r.big, fun f hf => ?_⟩
  obtain ⟨i, hi, e⟩ := List.getElem_of_mem hf
  obtain ⟨_, _, _, _, _, _, _, _, h3⟩ := r.elt i f (by rw [List.getElem?_eq_getElem hi, e])
  exact h3.2
theorem arg_str (hval : Value.okWide Tryz.prog W .any base 9 v) (hd : DataW.Trod enc Tryz.prog W 0 (fun _ => true) true 9 v d ps) (hw : (d.weights Tryz.prog 9).all (· ≤ reachBytes) = true) : ∃ s : Txt, Den (.s s) (partOf W) v := by
  obtain ⟨n, hn⟩ := hd
  obtain ⟨s, _, ⟨e0, _⟩, _⟩ := opens_str (n := n) Tryz.underlying9 enc W _ _ hn hw
  refine ⟨s, (den_v (h := _)).2 ?_⟩
  simp only [Value.okWide, Tryz.underlying9] at hval
  cases v <;> simp [Value.cells] at e0 <;> first | (simp [e0]; done) | (simp [Cell.okWide, Cell.ok, Tryz.underlying9] at hval)
def plainTsF : List TypeId := [9, 5, 3, 4, 25, 22, 24, 30, 26, 28]
theorem plainTsF_ok : plainB Tryz.prog plainTsF = true := by kernel_rfl
end
end Go.Proofs.YtohlpgoeheggdaaGreatDoor
namespace Go.Proofs.YtohlpgoeheggdaaGreatDoor
open Go Go.RowKit
def renA (v k : Nat) : List (Nat × A) → Option (List (Nat × A))
  | [] => some []
  | (t, x) :: r => match renA v k r with
    | some r' => match x with
      | .row j => bif Nat.beq j v then some ((t, .row k) :: r') else some ((t, .row j) :: r')
      | .recr l j => bif Nat.beq j v then some ((t, .recr l k) :: r') else some ((t, .recr l j) :: r')
      | x => some ((t, x) :: r')
    | none => none
def renL (v k : Nat) : List A → Option (List A)
  | [] => some []
  | x :: r => match renL v k r with
    | some r' => match x with
      | .row j => bif Nat.beq j v then some (.row k :: r') else some (.row j :: r')
      | .recr l j => bif Nat.beq j v then some (.recr l k :: r') else some (.recr l j :: r')
      | x => some (x :: r')
    | none => none
def renO (v k : Nat) : List (Nat × OE) → Option (List (Nat × OE))
  | [] => some []
  | (i, e) :: r => match renO v k r with
    | some r' => match e with
      | .var t cs => match renL v k cs with
        | some cs' => some ((i, .var t cs') :: r')
        | none => none
      | e => some ((i, e) :: r')
    | none => none
section
variable {ρ : Rho} {h : Part} {v k : Nat} (q : ρ.a k = ρ.a v ∧ ρ.c k = ρ.c v ∧ ρ.n k = ρ.n v)
include q
theorem renA_ok : ∀ {a a' : List (Nat × A)}, renA v k a = some a' → ∀ {t : Nat} {x : A}, lkA a' t = some x → ∃ y, lkA a t = some y ∧ ∀ w, DenA ρ h y w → DenA ρ h x w
  | [], a', e, t, x, hx => by cases e; cases hx
  | (i, y) :: r, a', e, t, x, hx => by
    simp only [renA] at e
    split at e
    · rename_i r' hr
      have ih := renA_ok hr (t := t) (x := x)
      have key : ∀ z, (∀ w, DenA ρ h y w → DenA ρ h z w) → a' = (i, z) :: r' → ∃ u, lkA ((i, y) :: r) t = some u ∧ ∀ w, DenA ρ h u w → DenA ρ h x w := fun z hz ha => by
        subst ha
        simp only [lkA] at hx ⊢
        cases hb : Nat.beq i t with
        | true => simp only [hb, cond_true, Option.some.injEq] at hx ⊢; subst hx; exact ⟨y, rfl, hz⟩
        | false => simp only [hb, cond_false] at hx ⊢; exact ih hx
      split at e
      · rename_i j
        cases hb : Nat.beq j v with
        | true =>
          obtain rfl := Nat.eq_of_beq_eq_true hb
          rw [hb, cond_true] at e
          exact key (.row k) (fun w hw => by simp only [DenA] at hw ⊢; rw [q.1, q.2.1, q.2.2]; exact hw) (by simpa using e.symm)
        | false => rw [hb, cond_false] at e; exact key _ (fun w hw => hw) (by simpa using e.symm)
      · rename_i l j
        cases hb : Nat.beq j v with
        | true =>
          obtain rfl := Nat.eq_of_beq_eq_true hb
          rw [hb, cond_true] at e
          exact key (.recr l k) (fun w hw => by simp only [DenA] at hw ⊢; rw [q.1, q.2.1, q.2.2]; exact hw) (by simpa using e.symm)
        | false => rw [hb, cond_false] at e; exact key _ (fun w hw => hw) (by simpa using e.symm)
      · exact key _ (fun w hw => hw) (by simpa using e.symm)
    · cases e
theorem renL_ok : ∀ {l l' : List A} {cs : List Value}, renL v k l = some l' → DenAL ρ h l cs → DenAL ρ h l' cs
  | [], l', cs, e, hd => by cases e; exact hd
  | y :: r, l', cs, e, ⟨w, t, e2, h1, h2, h3⟩ => by
    simp only [renL] at e
    split at e
    · rename_i r' hr
      have ih := renL_ok hr h3
      split at e
      · rename_i j
        cases hb : Nat.beq j v with
        | true =>
          obtain rfl := Nat.eq_of_beq_eq_true hb
          rw [hb, cond_true] at e; cases e
          exact ⟨w, t, e2, h1, by simp only [DenA] at h2 ⊢; rw [q.1, q.2.1, q.2.2]; exact h2, ih⟩
        | false => rw [hb, cond_false] at e; cases e; exact ⟨w, t, e2, h1, h2, ih⟩
      · rename_i l j
        cases hb : Nat.beq j v with
        | true =>
          obtain rfl := Nat.eq_of_beq_eq_true hb
          rw [hb, cond_true] at e; cases e
          exact ⟨w, t, e2, h1, by simp only [DenA] at h2 ⊢; rw [q.1, q.2.1, q.2.2]; exact h2, ih⟩
        | false => rw [hb, cond_false] at e; cases e; exact ⟨w, t, e2, h1, h2, ih⟩
      · cases e; exact ⟨w, t, e2, h1, h2, ih⟩
    · cases e
theorem renO_ok : ∀ {o o' : List (Nat × OE)} {L : List Ent}, renO v k o = some o' → DenO ρ h o L → DenO ρ h o' L
  | [], o', L, e, hd => by cases e; exact hd
  | (i, y) :: r, o', L, e, ⟨x, L', e2, h1, h2⟩ => by
    simp only [renO] at e
    split at e
    · rename_i r' hr
      have ih := renO_ok hr h2
      split at e
      · split at e <;> cases e
        rename_i cs' hcs
        obtain ⟨vs, h3, h4⟩ := h1
        exact ⟨x, L', e2, ⟨vs, h3, renL_ok q hcs h4⟩, ih⟩
      · cases e; exact ⟨x, L', e2, h1, ih⟩
    · cases e
end
section
variable {P : Program} [Tb P] {F : Fd} {n : PostD} {x : Nat → PostD} {a a1 a2 : List (Nat × A)} {o o1 o2 : List (Nat × OE)} {v t : Nat} {d : D}
theorem Nvk (k : Nat) {c : Code} (hk : lkO o k = some (.rowv v t d)) (hja : junA k a = some a1) (hjo : junO k (delO o k) = some o1) (hra : renA v k a1 = some a2) (hro : renO v k o1 = some o2) (kk : JD P F c n x a2 ((k, .row t d) :: o2)) : JD P F c n x a o := .mk fun ρ h S L cz => by
  obtain ⟨y, L2, hD, ⟨xs, sz, rfl, hR, hb⟩, hr⟩ := cz.o.get hk
  refine J.ents (.row (ρ.a v) (ρ.c v) t sz (ρ.n v) xs :: L2) (.cons hD .all) ?_
  have q : (ρ.setR k (ρ.a v) (ρ.c v) (ρ.n v)).a k = (ρ.setR k (ρ.a v) (ρ.c v) (ρ.n v)).a v ∧ (ρ.setR k (ρ.a v) (ρ.c v) (ρ.n v)).c k = (ρ.setR k (ρ.a v) (ρ.c v) (ρ.n v)).c v ∧ (ρ.setR k (ρ.a v) (ρ.c v) (ρ.n v)).n k = (ρ.setR k (ρ.a v) (ρ.c v) (ρ.n v)).n v := by
    by_cases hvk : v = k
    · subst hvk; simp
    · obtain ⟨_, e1, e2, e3⟩ := setR_ne ρ hvk (ρ.a v) (ρ.c v) (ρ.n v)
      rw [e1, e2, e3]; simp [Rho.setR]
  refine kk.k (ρ.setR k (ρ.a v) (ρ.c v) (ρ.n v)) h S _ ⟨cz.t, fun s y hy => ?_, _, L2, rfl, ⟨xs, sz, by simp [Rho.setR], by simpa [Rho.setR] using hR, by simpa [Rho.setR] using hb⟩, renO_ok q hro (junO_ok hjo hr)⟩
  obtain ⟨y1, g1, g2⟩ := renA_ok (h := h) q hra hy
  obtain ⟨y2, g3, g4⟩ := junA_ok (aa := ρ.a v) (c := ρ.c v) (nn := ρ.n v) (h := h) (ρ := ρ) hja g1
  obtain ⟨w, g5, g6⟩ := cz.s s _ g3
  exact ⟨w, g5, g2 w (g4 w g6)⟩
end
end Go.Proofs.YtohlpgoeheggdaaGreatDoor
namespace Go.Proofs.YtohlpgoeheggdaaGreatDoor
open Go Go.RowKit
set_option maxRecDepth 100000
set_option maxHeartbeats 4000000
abbrev fnD (i : Nat) : D := .v (.func (.func i) #[] #[])
theorem insB_d (v : Txt) : FnD Tryz.prog 238 [.sl 1 bE [v], .i 0, .i 1, fnD 106] (.v (.tuple #[])) := by
  refine FnE.intro Tryz.func238 rfl Tryz.ntmps238 rfl (fun e => ?_)
  refine W ?_
  refine Lp (fun _ : Unit => True) (fun _ => 0) (fun _ => [(2, .d (.i 1)), (8, .d (.i 1))]) (fun _ => []) () trivial ⟨rfl, rfl, trivial⟩ trivial ?_
  rintro _ _
  refine W ?_
  exact ⟨_, _, _, rfl, rfl, rfl⟩
instance : Cn Tryz.prog 238 (type_of% @insB_d) := ⟨@insB_d⟩
theorem stbB_d (v : Txt) : FnD Tryz.prog 204 [.sl 1 bE [v], .i 1, fnD 106] (.v (.tuple #[])) := by
  refine FnE.intro Tryz.func204 rfl Tryz.ntmps204 rfl (fun e => ?_)
  refine W ?_
  refine Lp (fun _ : Unit => True) (fun _ => 0) (fun _ => [(0, .d (.sl 1 bE [v])), (1, .d (.i 1)), (2, .d (fnD 106)), (6, .d (.i 20)), (7, .d (.i 0)), (8, .d (.i 20))]) (fun _ => []) () trivial ⟨rfl, rfl, rfl, rfl, rfl, rfl, trivial⟩ trivial ?_
  rintro _ _
  refine W ?_
  refine Lp (fun _ : Unit => True) (fun _ => 0) (fun _ => [(1, .d (.i 1)), (6, .d (.i 20))]) (fun _ => []) () trivial ⟨rfl, rfl, trivial⟩ trivial ?_
  rintro _ _
  refine W ?_
  exact ⟨_, _, _, rfl, rfl, rfl⟩
instance : Cn Tryz.prog 204 (type_of% @stbB_d) := ⟨@stbB_d⟩
theorem srtB_d (v : Txt) : FnD Tryz.prog 152 [.sl 1 bE [v], fnD 106] (.v (.tuple #[])) := by
  refine FnE.intro Tryz.func152 rfl Tryz.ntmps152 rfl (fun e => ?_)
  refine W ?_
  exact ⟨_, _, _, rfl, rfl, rfl⟩
instance : Cn Tryz.prog 152 (type_of% @srtB_d) := ⟨@srtB_d⟩
theorem insF_d (f : Fe) : FnD Tryz.prog 240 [.sl 2 Fe.enc [f], .i 0, .i 1, fnD 154] (.v (.tuple #[])) := by
  refine FnE.intro Tryz.func240 rfl Tryz.ntmps240 rfl (fun e => ?_)
  refine W ?_
  refine Lp (fun _ : Unit => True) (fun _ => 0) (fun _ => [(2, .d (.i 1)), (8, .d (.i 1))]) (fun _ => []) () trivial ⟨rfl, rfl, trivial⟩ trivial ?_
  rintro _ _
  refine W ?_
  exact ⟨_, _, _, rfl, rfl, rfl⟩
instance : Cn Tryz.prog 240 (type_of% @insF_d) := ⟨@insF_d⟩
theorem stbF_d (f : Fe) : FnD Tryz.prog 205 [.sl 2 Fe.enc [f], .i 1, fnD 154] (.v (.tuple #[])) := by
  refine FnE.intro Tryz.func205 rfl Tryz.ntmps205 rfl (fun e => ?_)
  refine W ?_
  refine Lp (fun _ : Unit => True) (fun _ => 0) (fun _ => [(0, .d (.sl 2 Fe.enc [f])), (1, .d (.i 1)), (2, .d (fnD 154)), (6, .d (.i 20)), (7, .d (.i 0)), (8, .d (.i 20))]) (fun _ => []) () trivial ⟨rfl, rfl, rfl, rfl, rfl, rfl, trivial⟩ trivial ?_
  rintro _ _
  refine W ?_
  refine Lp (fun _ : Unit => True) (fun _ => 0) (fun _ => [(1, .d (.i 1)), (6, .d (.i 20))]) (fun _ => []) () trivial ⟨rfl, rfl, trivial⟩ trivial ?_
  rintro _ _
  refine W ?_
  exact ⟨_, _, _, rfl, rfl, rfl⟩
instance : Cn Tryz.prog 205 (type_of% @stbF_d) := ⟨@stbF_d⟩
theorem srtF_d (f : Fe) : FnD Tryz.prog 153 [.sl 2 Fe.enc [f], fnD 154] (.v (.tuple #[])) := by
  refine FnE.intro Tryz.func153 rfl Tryz.ntmps153 rfl (fun e => ?_)
  refine W ?_
  exact ⟨_, _, _, rfl, rfl, rfl⟩
instance : Cn Tryz.prog 153 (type_of% @srtF_d) := ⟨@srtF_d⟩
theorem cown_d (f : Fe) (hl : f.vals.length ≤ 1000000000000) (hv : ∀ v ∈ f.vals, v.length ≤ 140737488355328) : FnD Tryz.prog 87 [.st f.enc] (.st f.enc) := by
  refine FnE.intro Tryz.func87 rfl Tryz.ntmps87 rfl (fun e => ?_)
  refine W ?_
  refine Rv (kS 1 bE) 2 1 25 rfl rfl rfl rfl rfl rfl ?_
  refine Lp (γ := Nat) (fun g => g ≤ f.vals.length) (fun g => f.vals.length + 1 - g)
    (fun g => [(1, .own 0 0), (2, .own 1 0), (3, .own 2 0), (10, .d (.sl 1 bE f.vals)), (11, .d (.i (f.vals.length : Int))), (12, .d (.i (g : Int)))])
    (fun g => [(2, .var 24 [.d (.s f.oid), .row 3]), (3, .row 25 (.sl 1 bE (f.vals.take g))), (1, .var 24 [.d (.s []), .d (.v (.slice none 0 0))]), (0, .whl 24 (.st f.enc))]) 0 (by omega) ?_ ?_ ?_
  · exact ⟨rfl, rfl, rfl, rfl, rfl, rfl, trivial⟩
  · exact ⟨rfl, rfl, rfl, rfl, trivial⟩
  intro g hg
  have hml : (f.vals.take g).length ≤ 1000000000000 := by have := List.length_take_le' g f.vals; omega
  refine W ?_
  refine Ci rfl (fun h => ?_) (fun h => ?_)
  · have hlt : g < f.vals.length := by omega
    have hget : f.vals.getD g default = f.vals[g] := getD_at hlt
    have hb := hv _ (List.getElem_mem hlt)
    rw [← hget] at hb
    refine W ?_
    refine Xap (kS 1 bE) rfl rfl rfl rfl rfl rfl rfl (by simp only [List.length_cons, List.length_nil]; omega) rfl rfl rfl ?_
    refine RX1 rfl rfl ?_
    refine JX.nil rfl ?_
    refine Nvk 3 rfl rfl rfl rfl rfl ?_
    refine W ?_
    have e1 : f.vals.take (g + 1) = f.vals.take g ++ [f.vals.getD g default] := by rw [List.take_succ_eq_append_getElem hlt, hget]
    refine ⟨g + 1, by omega, by omega, ⟨rfl, rfl, rfl, rfl, rfl, rfl, trivial⟩, ?_⟩
    show WkO [(2, .var 24 [.d (.s f.oid), .row 3]), (3, .row 25 (.sl 1 bE (f.vals.take (g + 1)))), (1, .var 24 [.d (.s []), .d (.v (.slice none 0 0))]), (0, .whl 24 (.st f.enc))] _
    rw [e1]
    exact ⟨rfl, rfl, rfl, rfl, trivial⟩
  · have hge : g = f.vals.length := by omega
    subst hge
    rw [List.take_length]
    refine Pb 3 rfl ?_
    refine W ?_
    exact Rt rfl rfl rfl
instance : Cn Tryz.prog 87 (type_of% @cown_d) := ⟨@cown_d⟩
end Go.Proofs.YtohlpgoeheggdaaGreatDoor
namespace Go.Proofs.YtohlpgoeheggdaaGreatDoor
open Go Go.RowKit
set_option maxRecDepth 100000
set_option maxHeartbeats 4000000
def getF (l : List Fe) (o : Txt) : List Txt × Bool := match l.find? (fun f => decide (f.oid = o)) with
  | some f => (f.vals, true)
  | none => ([], false)
theorem cget_d (l : List Fe) (o : Txt) (hl : l.length ≤ 140737488355328) (hB : ∀ f ∈ l, f.vals.length ≤ 1000000000000 ∧ ∀ v ∈ f.vals, v.length ≤ 140737488355328) : FnD Tryz.prog 23 [.sl 2 Fe.enc l, .s o] (.tup [.sl 1 bE (getF l o).1, .b (getF l o).2]) := by
  refine FnE.intro Tryz.func23 rfl Tryz.ntmps23 rfl (fun e => ?_)
  refine W ?_
  refine Lp (γ := Nat) (fun g => g ≤ l.length ∧ getF l o = getF (l.drop g) o) (fun g => l.length + 1 - g) (fun g => [(1, .d (.s o)), (8, .d (.sl 2 Fe.enc l)), (9, .d (.i (l.length : Int))), (10, .d (.i (g : Int)))]) (fun _ => []) 0 ⟨by omega, rfl⟩ ⟨rfl, rfl, rfl, rfl, trivial⟩ trivial ?_
  rintro g ⟨hg, hf⟩
  refine W ?_
  refine Ci rfl (fun h => ?_) (fun h => ?_)
  · have hlt : g < l.length := by omega
    have hget : l.getD g default = l[g] := getD_at hlt
    obtain ⟨b2, b3⟩ := hB _ (List.getElem_mem hlt)
    rw [← hget] at b2 b3
    have hdr : l.drop g = l.getD g default :: l.drop (g + 1) := by rw [List.drop_eq_getElem_cons hlt, hget]
    rw [hdr] at hf
    refine W ?_
    refine Ci rfl (fun h2 => ?_) (fun h2 => ?_)
    · have hgf : getF l o = ((l.getD g default).vals, true) := by
        rw [hf]
        unfold getF
        rw [List.find?_cons, decide_eq_true h2]
      refine W ?_
      refine Rt rfl rfl ?_
      rw [hgf]; rfl
    · refine W ?_
      refine ⟨g + 1, by omega, ⟨by omega, ?_⟩, ⟨rfl, rfl, rfl, rfl, trivial⟩, trivial⟩
      rw [hf]
      unfold getF
      rw [List.find?_cons, decide_eq_false h2]
  · refine W ?_
    refine Rt rfl rfl ?_
    rw [hf, List.drop_of_length_le (by omega)]; rfl
instance : Cn Tryz.prog 23 (type_of% @cget_d) := ⟨@cget_d⟩
theorem csorted_d (o v : Txt) (hv : v.length ≤ 140737488355328) : FnD Tryz.prog 93 [.sl 2 Fe.enc [⟨o, [v]⟩]] (.sl 2 Fe.enc [⟨o, [v]⟩]) := by
  have ho := @cown_d ⟨o, [v]⟩ (by simp) (fun w hw => by simp at hw; subst hw; exact hv)
  refine FnE.intro Tryz.func93 rfl Tryz.ntmps93 rfl (fun e => ?_)
  refine W ?_
  refine Rn (kS 2 Fe.enc) 3 24 rfl rfl ?_
  refine Lp (γ := Nat) (fun g => g ≤ 1) (fun g => 2 - g)
    (fun g => [(3, .row 0), (7, .d (.sl 2 Fe.enc [⟨o, [v]⟩])), (8, .d (.i 1)), (9, .d (.i (g : Int)))])
    (fun g => [(0, .row 24 (.sl 2 Fe.enc (if g = 0 then [] else [⟨o, [v]⟩])))]) 0 (by omega) ⟨rfl, rfl, rfl, rfl, trivial⟩ ⟨rfl, trivial⟩ ?_
  intro g hg
  obtain rfl | rfl : g = 0 ∨ g = 1 := by omega
  · show JD _ _ _ _ _ [(3, .row 0), (7, .d (.sl 2 Fe.enc [⟨o, [v]⟩])), (8, .d (.i 1)), (9, .d (.i 0))] [(0, .row 24 (.sl 2 Fe.enc []))]
    refine W ?_
    refine JLD.s1 (St1.litS (enc := Fe.enc) [⟨o, [v]⟩] rfl rfl rfl rfl (fun _ _ => rfl) rfl rfl rfl rfl rfl) ?_
    refine W ?_
    exact ⟨1, by omega, by omega, ⟨rfl, rfl, rfl, rfl, trivial⟩, ⟨rfl, trivial⟩⟩
  · show JD _ _ _ _ _ [(3, .row 0), (7, .d (.sl 2 Fe.enc [⟨o, [v]⟩])), (8, .d (.i 1)), (9, .d (.i 1))] [(0, .row 24 (.sl 2 Fe.enc [⟨o, [v]⟩]))]
    refine Pb 0 rfl ?_
    refine W ?_
    exact Rt rfl rfl rfl
instance : Cn Tryz.prog 93 (type_of% @csorted_d) := ⟨@csorted_d⟩
theorem cput_d (o v : Txt) (hv : v.length ≤ 140737488355328) : FnD Tryz.prog 34 [.sl 2 Fe.enc [], .st (Fe.enc ⟨o, [v]⟩)] (.sl 2 Fe.enc [⟨o, [v]⟩]) := by
  refine FnE.intro Tryz.func34 rfl Tryz.ntmps34 rfl (fun e => ?_)
  refine W ?_
  refine Lp (γ := Unit) (fun _ => True) (fun _ => 0) (fun _ => [(3, .own 0 0), (5, .d (.v (.slice none 0 0))), (9, .d (.i 0)), (10, .d (.i 0))]) (fun _ => [(0, .whl 24 (.st (Fe.enc ⟨o, [v]⟩)))]) () trivial ⟨rfl, rfl, rfl, rfl, trivial⟩ ⟨rfl, trivial⟩ ?_
  rintro _ _
  refine W ?_
  refine JLD.s1 (St1.litS (enc := Fe.enc) [⟨o, [v]⟩] rfl rfl rfl rfl (fun _ _ => rfl) rfl rfl rfl rfl rfl) ?_
  refine JLD.s1 (St1.app0 (kS 2 Fe.enc) rfl rfl rfl rfl (by simp) rfl rfl) ?_
  refine W ?_
  exact Rt rfl rfl rfl
instance : Cn Tryz.prog 34 (type_of% @cput_d) := ⟨@cput_d⟩
end Go.Proofs.YtohlpgoeheggdaaGreatDoor
namespace Go.Proofs.YtohlpgoeheggdaaGreatDoor
open Go Go.RowKit
section
variable {P : Program} [Tb P] {n : PostD} {x : Nat → PostD} {a a1 : List (Nat × A)} {o o1 : List (Nat × OE)} {e : Env} {m : Nat} {fn : Func} {ρ : Rho} {h : Part} {S : Sig} {L : List Ent} {ds : List D} {b t : Nat}
theorem rtv_ok (cz : Cz P ρ h a o S L) (hp : pubs (ksO o) a o = some (a1, o1)) (hr : resL P a1 o1 fn.results.toList fn.resultTypes.toList = some ds) {ac : Act} {w : World} (s : Sat e m S h L ac w) : ∃ h' L' v, h.le h' ∧ Sat e m S h' L' ac w ∧ Cz P ρ h' a1 o1 S L' ∧ RetV P e m fn S h' L' v ∧ Den (resD ds) h' v := by
  obtain ⟨h', L', hle, hok, cz'⟩ := pubs_ok hp cz s.ok
  obtain ⟨vs, h1, h2⟩ := resL_ok (e := e) (m := m) cz' hr
  have hlen := h1.len
  have hrun : ∀ ac w, Sat e m S h' L' ac w → (fn.results.mapM (relem ac.tmps)).run P w = .ok vs.toArray w := fun ac w s => by
    have := h2 ac w s
    rw [Array.mapM_eq_mapM_toList]
    simp [this]
  refine (fun ⟨v, hv, hd⟩ => ⟨h', L', v, hle, s.with hok, cz', fun ac w s => hv ac w s, hd⟩ : (∃ v, (∀ ac w, Sat e m S h' L' ac w → (results fn ac.tmps).run P w = .ok v w) ∧ Den (resD ds) h' v) → _) ?_
  match ds, vs, h1, hlen with
  | [], [], h1, _ => exact ⟨.tuple #[], fun ac w s => by rw [results_eq]; simp [hrun ac w s], den_vv (h := h')⟩
  | [d], [v], h1, _ =>
    unfold DenT at h1
    obtain ⟨v', t, e1, h3, h4⟩ := h1
    cases e1
    exact ⟨v, fun ac w s => by rw [results_eq]; simp [hrun ac w s], h3⟩
  | d :: d2 :: r, v :: v2 :: r', h1, _ => exact ⟨.tuple (v :: v2 :: r').toArray, fun ac w s => by rw [results_eq]; simp [hrun ac w s], (den_tup (h := h')).2 ⟨_, rfl, h1⟩⟩
abbrev RB (b t : Nat) (R : D → D → Prop) : Ending → Part → List Ent → Prop := Rets fun v h' Lo => ∃ d d1 ws, R d d1 ∧ Den d h' v ∧ Den d1 h' (.agg ws.toArray) ∧ Lo = [.blk b t ws]
def FB (P : Program) (e : Env) (m : Nat) (fn : Func) (b t : Nat) (R : D → D → Prop) : Fd := ⟨e, m, RetPost P e m fn (RB b t R), PanPost (RB b t R)⟩
def RtBD (P : Program) [Tb P] (fn : Func) (b t : Nat) (R : D → D → Prop) : PostD := fun a o => ∃ a1 o1 ds e0 d1 kp, pubs (ksO o) a o = some (a1, o1) ∧ resL P a1 o1 fn.results.toList fn.resultTypes.toList = some ds ∧ lkO o1 0 = some e0 ∧ whlO e0 = some (t, d1) ∧ lkO o1 kp = some (.pin 0 b) ∧ R (resD ds) d1
variable {R : D → D → Prop}
theorem rtB_ok (k : up P (RtBD P fn b t R) S h L) {ac : Act} {w : World} (s : Sat e m S h L ac w) : ∃ S h' L', Sat e m S h' L' ac w ∧ RetPost P e m fn (RB b t R) S h' L' := by
  obtain ⟨ρ, a, o, cz, a1, o1, ds, e0, d1, kp, hp, hr, h0, hw, hpin, hR⟩ := k
  obtain ⟨h', L', v, hle, s', cz', hv, hd⟩ := rtv_ok cz hp hr s
  obtain ⟨y, L2, hD, hE, _⟩ := cz'.o.get h0
  obtain ⟨ws, rfl, hd1⟩ := whlO_ok hw hE
  obtain ⟨z, L3, _, ⟨hb, _⟩, _⟩ := cz'.o.get hpin
  rw [hb] at hD
  exact ⟨S, h', L', s', v, _, L2, hv, .cons hD .nil, v, rfl, _, _, ws, hR, hd, hd1, rfl⟩
theorem RtB {d1 : D} {e0 : OE} (kp : Nat) (hp : pubs (ksO o) a o = some (a1, o1)) (hr : resL P a1 o1 fn.results.toList fn.resultTypes.toList = some ds) (h0 : lkO o1 0 = some e0) (hw : whlO e0 = some (t, d1)) (hpin : lkO o1 kp = some (.pin 0 b)) (hR : R (resD ds) d1) : JD P (FB P e m fn b t R) .ret n x a o := .mk fun ρ h S L cz ac w s => by
  obtain ⟨S', h', L', s', hh⟩ := rtB_ok ⟨ρ, a, o, cz, a1, o1, ds, e0, d1, kp, hp, hr, h0, hw, hpin, hR⟩ s
  exact J.ret (f := (FB P e m fn b t R).fr P) (n := up P n) (x := fun i => up P (x i)) hh ac w s'
omit [Tb P] in
theorem argS {A2 : List (Nat × A)} {S2 : Sig} (h2 : ∀ t y, lkA A2 t = some y → ∃ v, look S2 t = some v ∧ DenA ρ h y v) : ∀ {ds : List D} {vs : List Value} {i t : Nat} {y : A}, DenT ds h vs → lkA (argA i ds ++ A2) t = some y → ∃ v, look (argSig i vs ++ S2) t = some v ∧ DenA ρ h y v
  | [], vs, i, t, y, hd, hy => by unfold DenT at hd; subst hd; exact h2 t y hy
  | d :: r, vs, i, t, y, hd, hy => by
    unfold DenT at hd
    obtain ⟨v, t', rfl, h3, h4⟩ := hd
    simp only [argA, lkA, argSig, look, List.cons_append] at hy ⊢
    cases hb : Nat.beq i t with
    | true => simp only [hb, cond_true, Option.some.injEq] at hy ⊢; subst hy; exact ⟨v, rfl, h3⟩
    | false => simp only [hb, cond_false] at hy ⊢; exact argS h2 h4 hy
theorem argSig_app : ∀ (vs us : List Value) (i : Nat), argSig i (vs ++ us) = argSig i vs ++ argSig (i + vs.length) us
  | [], us, i => rfl
  | v :: r, us, i => by
    simp only [List.cons_append, argSig, argSig_app r us (i + 1), List.length_cons]
    rw [show i + 1 + r.length = i + (r.length + 1) by omega]
theorem FnB.intro {Fi : Nat} {c : Code} {ds1 ds2 : List D} {d0 : D} (hf : P.funcs[Fi]? = some fn) (hb : fn.body = some c) (hm : fn.ntmps = m) (hl : Nat.ble (ds1.length + (ds2.length + 1)) m = true)
    (k : ∀ e b, JD P (FB P e m fn b t R) c (RtBD P fn b t R) NoExD (argA 0 ds1 ++ (ds1.length, .own 0 0) :: argA (ds1.length + 1) ds2) [(1, .pin 0 b), (0, .whl t d0)]) : FnB P Fi t ds1 d0 ds2 R := .mk fun h b vs0 vs1 vs2 hT h1 h0 h2 => by
  have l1 := h1.len
  have l2 := h2.len
  refine Fn.intro hf hb hm (by simp only [List.length_append, List.length_cons, l1, l2]; exact hl) (fun e he => ?_)
  refine J.own (L' := .row none 0 0 0 0 [] :: [.blk b t vs0]) (fun _ hw => hw.row_nil 0 0) ?_
  have cz : Cz P ⟨fun _ => b, fun _ => none, fun _ => 0, fun _ => 0⟩ h (argA 0 ds1 ++ (ds1.length, .own 0 0) :: argA (ds1.length + 1) ds2) [(1, .pin 0 b), (0, .whl t d0)] (argSig 0 (vs1 ++ .pointer (some ⟨b, 0, none⟩) :: vs2)) (.row none 0 0 0 0 [] :: [.blk b t vs0]) := by
    refine ⟨hT, fun t y hy => ?_, _, _, rfl, ⟨rfl, rfl⟩, _, _, rfl, ⟨vs0, rfl, h0⟩, rfl⟩
    rw [argSig_app]
    refine argS (fun t y hy => ?_) h1 hy
    rw [Nat.zero_add, l1]
    simp only [lkA, argSig, look] at hy ⊢
    cases hb : Nat.beq ds1.length t with
    | true => simp only [hb, cond_true, Option.some.injEq] at hy ⊢; subst hy; exact ⟨_, rfl, rfl⟩
    | false =>
      simp only [hb, cond_false] at hy ⊢
      have := argS (A2 := []) (S2 := []) (ρ := ⟨fun _ => b, fun _ => none, fun _ => 0, fun _ => 0⟩) (fun t y hy => by cases hy) h2 (by rw [List.append_nil]; exact hy)
      simpa using this
  intro ac w s
  refine wpm ((k e b).k _ h _ _ cz ac w s) (fun ex a' w' q => ?_)
  cases ex with
  | normal => obtain ⟨S', h', L', s', q'⟩ := q; obtain ⟨S2, h2, L2, s2, hh⟩ := rtB_ok q' s'; exact ⟨S2, h2, L2, s2, hh⟩
  | exit i => obtain ⟨S', h', L', s', ⟨_, _, _, _, hh⟩, _⟩ := q; exact hh.elim
  | goto i => obtain ⟨S', h', L', s', ⟨_, _, _, _, hh⟩⟩ := q; exact hh.elim
  | _ => exact q
end
def mapT (P : Program) (T : Nat) : Bool := match P.underlying T with
  | some (.map K E) => match P.underlying K, P.info? E with
    | some .string, some i => match i.zero with
      | some (.bool false) => true
      | _ => false
    | _, _ => false
  | _ => false
theorem mapT_ok {P : Program} {T : Nat} (h : mapT P T = true) : ∃ K E i, P.underlying T = some (.map K E) ∧ P.underlying K = some .string ∧ P.info? E = some i ∧ i.zero = some (.bool false) := by
  unfold mapT at h
  split at h <;> try (cases h; done)
  rename_i K E h1
  split at h <;> try (cases h; done)
  rename_i i h2 h3
  split at h <;> try (cases h; done)
  rename_i h4
  exact ⟨K, E, i, h1, h2, h3, h4⟩
theorem findNow_set {s : List UInt8} : ∀ {arr : List MapEntry} {es : List (List UInt8)} (i : Nat), arr.map (fun e => (e.key, e.val)) = es.map (fun s => (Value.string ⟨s.toArray⟩, Value.bool true)) → ∃ r, Instr.findNow .string (.string ⟨s.toArray⟩) arr i = some r ∧ (r = none ∧ (es.any fun t => decide (t = s)) = false ∨ ∃ j, r = some (j, .bool true) ∧ (es.any fun t => decide (t = s)) = true)
  | [], es, i, he => by
    have : es = [] := by simpa using he.symm
    subst this
    exact ⟨none, rfl, .inl ⟨rfl, rfl⟩⟩
  | e :: r, [], i, he => by simp at he
  | e :: r, t :: es, i, he => by
    simp only [List.map_cons, List.cons.injEq, Prod.mk.injEq] at he
    obtain ⟨⟨h1, h2⟩, h3⟩ := he
    unfold Instr.findNow
    rw [h1, h2]
    by_cases hts : t = s
    · subst hts
      have hself : ((⟨t.toArray⟩ : ByteArray) == ⟨t.toArray⟩) = true := by show (t.toArray == t.toArray) = true; simp
      exact ⟨some (i, .bool true), by simp only [Instr.sameNow, hself], .inr ⟨i, rfl, by simp⟩⟩
    · have hne : ((⟨s.toArray⟩ : ByteArray) == ⟨t.toArray⟩) = false := by
        show (s.toArray == t.toArray) = false
        rw [beq_eq_false_iff_ne]
        intro hh
        exact hts (by simpa using (congrArg Array.toList hh.symm))
      obtain ⟨r', h4, h5⟩ := findNow_set (s := s) (i + 1) h3
      exact ⟨r', by simp [Instr.sameNow, hne, h4], by simpa [hts] using h5⟩
end Go.Proofs.YtohlpgoeheggdaaGreatDoor
namespace Go.Proofs.YtohlpgoeheggdaaGreatDoor
open Go Go.RowKit
section
variable {f : Fr} {n : Post} {x : Nat → Post} {S : Sig} {h : Part} {L L' : List Ent} {ops : Array Oper} {rest : List Oper} {d b cl T : Nat} {ty : TypeId} {pos : String} {af : Array Edge} {arr : Array MapEntry} {es : List (List UInt8)} {s : List UInt8} {xo yo vo : Operand}
theorem JL.makeMap (hd : Nat.blt d f.m = true) (k : ∀ b, JL f ops n x rest ((d, .map (some b)) :: S) h (.obj b (.map #[] 0) :: L)) : JL f ops n x (⟨some d, .makeMap T none, ty, pos, af, none⟩ :: rest) S h L := fun a w s =>
  wpList_val (v := .map (some w.heap.size)) (w' := w.alloc (.map #[] 0)) rfl (by simp [execOp, Instr.makeMap, newObj, Sem.run]) (k w.heap.size _ _ (s.put hd _ (s.ok.allocObj _)))
theorem run_keySet {P : Program} {K : Nat} {w : World} {e : Bool} (h2 : P.underlying K = some .string) : (Instr.checkKey e 10000 K (.string ⟨s.toArray⟩)).run P w = .ok () w := by
  unfold Instr.checkKey
  simp [run_underlying h2, Result.andThen]
theorem run_findSet {P : Program} {K : Nat} {w : World} {r : Option (Nat × Value)} (h2 : P.underlying K = some .string) (hr : Instr.findNow .string (.string ⟨s.toArray⟩) arr.toList 0 = some r) : (Instr.findKey K (.string ⟨s.toArray⟩) arr.toList).run P w = .ok r w := by
  simp [Instr.findKey, run_underlying h2, Result.andThen, hr]
theorem RunV.lookSet (hT : mapT f.P T = true) (hx : ev S xo = some (.map (some b))) (hy : ev S yo = some (.string ⟨s.toArray⟩)) (hm : Ent.obj b (.map arr cl) ∈ L) (he : arr.toList.map (fun e => (e.key, e.val)) = es.map (fun s => (Value.string ⟨s.toArray⟩, Value.bool true))) :
    RunV f S h L (.lookup T xo yo false) ty (.bool (es.any fun t => decide (t = s))) := fun a w st _ _ _ _ => by
  obtain ⟨K, E, i, h1, h2, h3, h4⟩ := mapT_ok hT
  have hw : w.heap[b]? = some (.map arr cl) := st.ok.own _ hm
  obtain ⟨r, hr, hc⟩ := findNow_set (s := s) 0 he
  have hck := run_keySet (P := f.P) (s := s) (w := w) (e := arr.isEmpty) h2
  have hfk := run_findSet (P := f.P) (w := w) h2 hr
  rcases hc with ⟨rfl, hc⟩ | ⟨j, rfl, hc⟩
  · simp [execOp, st.eval hx, st.eval hy, Instr.lookup, run_underlying h1, getObj, Sem.run, hw, hck, hfk, Result.andThen, zeroValue, typeInfo, h3, h4, hc]
  · simp [execOp, st.eval hx, st.eval hy, Instr.lookup, run_underlying h1, getObj, Sem.run, hw, hck, hfk, Result.andThen, zeroValue, typeInfo, h3, h4, hc]
theorem JL.putSet (hT : mapT f.P T = true) (hx : ev S xo = some (.map (some b))) (hy : ev S yo = some (.string ⟨s.toArray⟩)) (hv : ev S vo = some (.bool true)) (u : Del (.obj b (.map arr cl)) L L') (he : arr.toList.map (fun e => (e.key, e.val)) = es.map (fun s => (Value.string ⟨s.toArray⟩, Value.bool true))) (hn : (es.any fun t => decide (t = s)) = false)
    (k : JL f ops n x rest S h (.obj b (.map (arr.push ⟨.string ⟨s.toArray⟩, .bool true, cl⟩) (cl + 1)) :: L')) : JL f ops n x (⟨none, .mapUpdate T xo yo vo, ty, pos, af, none⟩ :: rest) S h L := fun a w st => by
  obtain ⟨K, E, i, h1, h2, h3, h4⟩ := mapT_ok hT
  have hw : w.heap[b]? = some (.map arr cl) := st.ok.own _ u.mem
  obtain ⟨r, hr, hc⟩ := findNow_set (s := s) 0 he
  have hck := run_keySet (P := f.P) (s := s) (w := w) (e := false) h2
  have hfk := run_findSet (P := f.P) (w := w) h2 hr
  rcases hc with ⟨rfl, hc⟩ | ⟨j, rfl, hc⟩
  · refine wpList_skp (w' := w.putObj b (.map (arr.push ⟨.string ⟨s.toArray⟩, .bool true, cl⟩) (cl + 1))) rfl ?_ (k _ _ (st.with ((st.ok.perm u.perm).putObj _)))
    simp [execOp, st.eval hx, st.eval hy, st.eval hv, Instr.mapUpdate, run_underlying h1, getObj, setObj, Sem.run, hw, hck, hfk, Result.andThen, World.putObj]
  · rw [hn] at hc; cases hc
end
section
variable {P : Program} [Tb P] {F : Fd} {n : PostD} {x : Nat → PostD} {a b Au : List (Nat × A)} {o o1 ob : List (Nat × OE)} {ops : Array Oper} {rest : List Oper} {base : Nat} {es0 : List Ef}
variable {d k T : Nat} {ty : TypeId} {pos : String} {af : Array Edge} {g : Option (Nat × Bool)} {xo yo vo : Operand} {s : Txt} {es : List Txt}
theorem Mm (hk : nextK a o = some k) (hd : Nat.blt d F.m = true) (kk : JLD P F ops n x rest ((d, .mp k) :: a) ((k, .set []) :: o)) : JLD P F ops n x (⟨some d, .makeMap T none, ty, pos, af, none⟩ :: rest) a o := .mk fun ρ h S L cz => by
  refine JL.makeMap hd (fun bb => ?_)
  have c' := cz.eqv hk (ρ.eqv_setB k bb)
  exact kk.k (ρ.setB k bb) h _ _ (Cz.put (u := .mp k) (⟨c'.t, c'.s, _, L, rfl, ⟨#[], 0, by rw [setB_b], rfl⟩, c'.o⟩ : Cz P (ρ.setB k bb) h a ((k, .set []) :: o) S (.obj bb (.map #[] 0) :: L)) (by show _ = _; rw [setB_b]) d)
theorem St1.look (hx : evA a xo = some (.mp k)) (hy : evA a yo = some (.d (.v (.string ⟨⟨s⟩⟩)))) (hk : lkO o k = some (.set es)) (hT : mapT P T = true) (hg : gdB ops a g = some true) (hd : Nat.blt d F.m = true) :
    St1 P F ops a o ⟨some d, .lookup T xo yo false, ty, pos, af, g⟩ d (.d (.bq (es.any fun t => decide (t = s)))) := .run hg hd fun ρ h S L cz => by
  obtain ⟨v, h1, h2⟩ := evA_ok cz hx
  cases h2
  obtain ⟨y, L', hD, ⟨arr, cl, rfl, he⟩, hr⟩ := cz.o.get hk
  exact ⟨_, RunV.lookSet hT h1 (evA_v cz hy) hD.mem he, (den_bq (h := h)).2 rfl⟩
theorem Mu (hx : evA a xo = some (.mp k)) (hy : evA a yo = some (.d (.v (.string ⟨⟨s⟩⟩)))) (hv : evA a vo = some (.d (.v (.bool true)))) (hk : lkO o k = some (.set es)) (hn : (es.any fun t => decide (t = s)) = false) (hT : mapT P T = true) (hdel : delQ o k = some o1)
    (kk : JLD P F ops n x rest a ((k, .set (es ++ [s])) :: o1)) : JLD P F ops n x (⟨none, .mapUpdate T xo yo vo, ty, pos, af, none⟩ :: rest) a o := .mk fun ρ h S L cz => by
  obtain rfl := delQ_eq hdel
  obtain ⟨v, h1, h2⟩ := evA_ok cz hx
  cases h2
  obtain ⟨y, L', hD, ⟨arr, cl, rfl, he⟩, hr⟩ := cz.o.get hk
  refine JL.putSet hT h1 (evA_v cz hy) (evA_v cz hv) hD he hn ?_
  exact kk.k ρ h S _ ⟨cz.t, cz.s, _, L', rfl, ⟨_, _, rfl, by simp [he]⟩, hr⟩
end
end Go.Proofs.YtohlpgoeheggdaaGreatDoor
