/- Walks: the program reads nodes. -/
import Derived.Test.YtmngjbefnloljaaDoorDerM
import Derived.Test.YtmngjbefnloljaaDoorHeld
set_option linter.unusedSimpArgs false
set_option linter.unusedVariables false
set_option linter.constructorNameAsVariable false
namespace Go.Proofs.YtmngjbefnloljaaDoor
open Go Go.RowKit
theorem ca_116 : callT Tryd.prog 116 = true := by kernel_rfl
theorem ni_115 : niT Tryd.prog 115 = true := by kernel_rfl
theorem pl_115 : plT Tryd.prog 115 = some ([.int .i64 0, .int .i64 0], [(0, 2)]) := by kernel_rfl
theorem pl_57 : plT Tryd.prog 57 = some ([.int .i64 0, .int .i64 0], [(0, 1), (1, 1)]) := by kernel_rfl

/-- What is thrown. -/
def gvn (at_ c : Int) : Value := .iface 115 (.agg #[.int .i64 at_, .int .i64 c])
theorem nfail_fn {ok : Bool} {e from_ : Int} {bf : Nat} {h : Part} : Fn Tryd.prog 84 [.bool ok, .int .i64 e, .pointer (some ⟨bf, 0, none⟩)] h [.blk bf 3 [.int .i64 from_]] (FailR ok (gvn from_ e) bf 3 [.int .i64 from_]) := by
  refine Fn.intro Tryd.func84 rfl Tryd.ntmps84 rfl (fun e he => ?_)
  refine J.weak [(0, _), (1, _), (2, _)] ⟨rfl, rfl, rfl, trivial⟩ ?_
  refine Sr ?_
  refine Ru 2 rfl ?_
  refine JL.nil ?_
  refine Cs rfl (fun hc1 => ?_) fun hc1 => ?_
  ·
   refine Rg ?_
   refine JL.op (RunV.own1 ag_3 rfl (by repeat (first | exact List.mem_cons_self .. | apply List.mem_cons_of_mem)) rfl) rfl ?_
   refine Ru 1 rfl ?_
   refine JL.op (RunV.build (cs := [_, _]) pl_57 rfl rfl) rfl ?_
   refine JL.op (RunV.build (cs := [_, _]) pl_115 rfl rfl) rfl ?_
   refine JL.op (RunV.makeInterface ni_115 rfl) rfl ?_
   refine JL.panic rfl ?_
   exact ⟨_, _, .cons .here .nil, .inr ⟨hc1, rfl, rfl⟩⟩
  ·
   refine J.skip ?_
   exact ⟨_, _, _, (RetV.none_ rfl), .cons .here .nil, .inl ⟨hc1, rfl, rfl⟩⟩



theorem sfail_fn {ok : Bool} {e from_ : Int} {bf : Nat} {h : Part} : Fn Tryd.prog 116 [.bool ok, .int .i64 e, .pointer (some ⟨bf, 0, none⟩)] h [.blk bf 3 [.int .i64 from_]] (FailR ok (gvn from_ e) bf 3 [.int .i64 from_]) := by
  refine Fn.intro Tryd.func116 rfl Tryd.ntmps116 rfl (fun e he => ?_)
  refine J.weak [(0, _), (1, _), (2, _)] ⟨rfl, rfl, rfl, trivial⟩ ?_
  refine Sr ?_
  refine Ru 2 rfl ?_
  refine JL.nil ?_
  refine Cs rfl (fun hc1 => ?_) fun hc1 => ?_
  ·
   refine Rg ?_
   refine JL.op (RunV.own1 ag_3 rfl (by repeat (first | exact List.mem_cons_self .. | apply List.mem_cons_of_mem)) rfl) rfl ?_
   refine Ru 1 rfl ?_
   refine JL.op (RunV.build (cs := [_, _]) pl_57 rfl rfl) rfl ?_
   refine JL.op (RunV.build (cs := [_, _]) pl_115 rfl rfl) rfl ?_
   refine JL.op (RunV.makeInterface ni_115 rfl) rfl ?_
   refine JL.panic rfl ?_
   exact ⟨_, _, .cons .here .nil, .inr ⟨hc1, rfl, rfl⟩⟩
  ·
   refine J.skip ?_
   exact ⟨_, _, _, (RetV.none_ rfl), .cons .here .nil, .inl ⟨hc1, rfl, rfl⟩⟩




/-! ## lengths -/
def beval (l : List UInt8) : Nat := l.foldl (fun a b => a * 256 + b.toNat) 0
def rdS (l : List UInt8) (p e : Nat) : Except Int (Nat × Nat) :=
  if ¬ p < e then .error 30 else if byteAt l p < 128 then .ok (byteAt l p, p + 1)
  else if ¬ (1 ≤ byteAt l p - 128 ∧ byteAt l p - 128 ≤ 4) then .error 32
  else if ¬ (byteAt l p - 128 ≤ e - (p + 1)) then .error 30
  else if ¬ (128 ≤ beval ((l.drop (p + 1)).take (byteAt l p - 128)) ∧ 0 < beval ((l.drop (p + 1)).take (byteAt l p - 128)) / 256 ^ (byteAt l p - 128 - 1)) then .error 32
  else .ok (beval ((l.drop (p + 1)).take (byteAt l p - 128)), p + 1 + (byteAt l p - 128))
/-- What reading a length comes to. -/
def SizeR (s : Except Int (Nat × Nat)) (from_ : Int) (br : Nat) (b : Value) : Ending → Part → List Ent → Prop := fun e _ Lo =>
  match s with
  | .ok (n, q) => e = .returned (.int .i64 n) ∧ Lo = [.blk br 95 [b, .int .i64 q]]
  | .error c => e = .panicked [{ v := gvn from_ c, recovered := false }] ∧ Lo = []
theorem beval_step (l : List UInt8) (i : Nat) (h : i < l.length) : beval (l.take (i + 1)) = beval (l.take i) * 256 + l[i].toNat := by
  rw [List.take_succ_eq_append_getElem h]; unfold beval; rw [List.foldl_append]; rfl
theorem beval_lt (l : List UInt8) (i : Nat) : beval (l.take i) < 256 ^ i := by
  induction i with
  | zero => simp [beval]
  | succ i ih =>
    by_cases h : i < l.length
    · rw [beval_step l i h]
      have := l[i].toNat_lt
      have e : (256 : Nat) ^ (i + 1) = 256 ^ i * 256 := Nat.pow_succ ..
      omega
    · rw [List.take_of_length_le (by omega)]
      rw [List.take_of_length_le (by omega)] at ih
      have e : (256 : Nat) ^ (i + 1) = 256 ^ i * 256 := Nat.pow_succ ..
      omega

theorem pow256_3 (i : Nat) (h : i ≤ 3) : (256 : Nat) ^ i ≤ 16777216 := by
  have : i = 0 ∨ i = 1 ∨ i = 2 ∨ i = 3 := by omega
  rcases this with rfl | rfl | rfl | rfl <;> decide
theorem size_rd {l : List UInt8} {p en : Nat} {from_ : Int} {br : Nat} {ab : Option Addr} {cb : Nat} {h : Part} (hl : SlR u8R 1 h ab cb l) (he : en ≤ l.length) :
    Fn Tryd.prog 85 [.pointer (some ⟨br, 0, none⟩), .int .i64 from_, .int .i64 en] h [.blk br 95 [.slice ab l.length cb, .int .i64 p]] (SizeR (rdS l p en) from_ br (.slice ab l.length cb)) := by
  have hb := hl.big
  have hen := he
  refine Fn.intro Tryd.func85 rfl Tryd.ntmps85 rfl (fun e he => ?_)
  refine J.weak [(0, _), (1, _), (2, _)] ⟨rfl, rfl, rfl, trivial⟩ ?_
  have hh0 := Part.le.refl h
  refine Sr ?_
  refine JL.box rfl rfl rfl (fun b1 => ?_)
  refine Ru 1 rfl ?_
  refine JL.nil ?_
  refine Sr ?_
  refine JL.op (RunV.makeFunc (os1 := []) (os2 := [.tmp 4]) rfl rfl) rfl ?_
  refine Ru 1 rfl ?_
  refine JL.nil ?_
  refine Sr ?_
  refine Ru 4 rfl ?_
  refine JL.op (RunV.own1 ag_3 rfl (by repeat (first | exact List.mem_cons_self .. | apply List.mem_cons_of_mem)) rfl) rfl ?_
  refine Ru 2 rfl ?_
  refine JL.fail ca_116 rfl rfl (sfail_fn) (by repeat (first | exact Del.here | apply Del.there)) rfl (fun hc2 h2 hle2 => ?_) (fun hc2 h2 hle2 => ?_)
  ·
   try simp only [decide_eq_true_eq, decide_eq_false_iff_not, Bool.not_eq_eq_eq_not, Bool.not_true, Bool.not_false, ne_eq, Decidable.not_not] at hc2
   exact ⟨[], _, .nil, by unfold rdS; rw [if_pos (by omega)]; exact ⟨rfl, rfl⟩⟩
  try simp only [decide_eq_true_eq, decide_eq_false_iff_not, Bool.not_eq_eq_eq_not, Bool.not_true, Bool.not_false, ne_eq, Decidable.not_not] at hc2
  replace hl := hl.mono hle2
  replace hh0 := hh0.mono hle2
  refine Nk [7, 6, 0, 2] rfl ?_
  refine J.seq ?_
  refine J.drawn mixed_ (by kernel_rfl) ?_
  refine Rq 3 rfl ?_
  refine JQ.op (RunV.own1 ag_22 rfl (by repeat (first | exact List.mem_cons_self .. | apply List.mem_cons_of_mem)) rfl) rfl ?_
  refine Rq 3 rfl ?_
  refine JQ.op (RunV.own1 ag_3 rfl (by repeat (first | exact List.mem_cons_self .. | apply List.mem_cons_of_mem)) rfl) rfl ?_
  refine JQ.ope (RunE.index sl_22 rfl rfl (by first | with_reducible rfl | exact (Int.toNat_of_nonneg (by omega)).symm) (by assumption) rfl (by omega)) rfl ?_
  rintro _ ⟨b3, o3, hi3, rfl, hE3⟩
  refine JQ.op (RunV.ld_u8 ag_5 rfl (by assumption)) rfl ?_
  refine JQ.op (by first | exact RunV.convb_i64 cv_5_3 rfl | exact RunV.conv_i64 cv_5_3 rfl (by omega) (by omega) | exact RunV.conv cv_5_3 rfl) rfl ?_
  refine Rq 1 rfl ?_
  refine Nq [8, 7, 6, 0, 2] rfl ?_
  refine Sr ?_
  have hpl : p < l.length := (by omega); have hbt := byteAt_eq l p hpl; have hlt := byteAt_lt l p
  refine Ru 3 rfl ?_
  refine JL.op (RunV.own1 ag_3 rfl (by repeat (first | exact List.mem_cons_self .. | apply List.mem_cons_of_mem)) rfl) rfl ?_
  refine JL.op (by first | exact RunV.add_i64 rfl rfl (by omega) (by omega) | exact RunV.add rfl rfl) rfl ?_
  refine Ru 2 rfl ?_
  refine JL.store1 ag_3 rfl rfl rfl (by repeat (first | exact Del.here | apply Del.there)) (by first | rfl | (simp; omega)) ?_
  refine Nk [8, 7, 6, 0, 2] rfl ?_
  refine J.seq ?_
  refine Sr ?_
  refine Ru 2 rfl ?_
  refine JL.nil ?_
  refine Cs rfl (fun hc5 => ?_) fun hc5 => ?_
  ·
   refine Sr ?_
   refine Ru 2 rfl ?_
   refine Nk [6, 8, 7, 0, 2] rfl ?_
   exact J.ret ⟨_, [_], _, (RetV.one rfl rfl), .cons .here .nil, by unfold rdS; rw [if_neg (by omega), if_pos (by omega)]; exact ⟨by rw [hbt], by simp⟩⟩
  ·
   refine J.skip ?_
   refine Sr ?_
   refine Ru 1 rfl ?_
   refine JL.op (by first | exact RunV.sub_i64 rfl rfl (by omega) (by omega) | exact RunV.sub rfl rfl) rfl ?_
   refine Ru 1 rfl ?_
   refine Nk [9, 8, 7, 6, 0, 2] rfl ?_
   refine Sr ?_
   refine Ru 4 rfl ?_
   refine Bs 47 rfl (fun hc6 => ?_) fun hc6 => ?_
   ·
    refine Ru 3 rfl ?_
    refine JL.fail ca_116 rfl rfl (sfail_fn) (by repeat (first | exact Del.here | apply Del.there)) rfl (fun hc7 h7 hle7 => ?_) (fun hc7 h7 hle7 => ?_)
    ·
     try simp only [decide_eq_true_eq, decide_eq_false_iff_not, Bool.not_eq_eq_eq_not, Bool.not_true, Bool.not_false, ne_eq, Decidable.not_not] at hc7
     exact ⟨[], _, .nil, by unfold rdS; rw [if_neg (by omega), if_neg (by omega), if_pos (by omega)]; exact ⟨rfl, rfl⟩⟩
    try simp only [decide_eq_true_eq, decide_eq_false_iff_not, Bool.not_eq_eq_eq_not, Bool.not_true, Bool.not_false, ne_eq, Decidable.not_not] at hc7
    replace hl := hl.mono hle7
    replace hh0 := hh0.mono hle7
    refine Nk [9, 8, 7, 6, 0, 2] rfl ?_
    refine Sr ?_
    refine Ru 6 rfl ?_
    refine JL.op (RunV.own1 ag_3 rfl (by repeat (first | exact List.mem_cons_self .. | apply List.mem_cons_of_mem)) rfl) rfl ?_
    refine JL.op (by first | exact RunV.sub_i64 rfl rfl (by omega) (by omega) | exact RunV.sub rfl rfl) rfl ?_
    refine Ru 1 rfl ?_
    refine JL.fail ca_116 rfl rfl (sfail_fn) (by repeat (first | exact Del.here | apply Del.there)) rfl (fun hc8 h8 hle8 => ?_) (fun hc8 h8 hle8 => ?_)
    ·
     try simp only [decide_eq_true_eq, decide_eq_false_iff_not, Bool.not_eq_eq_eq_not, Bool.not_true, Bool.not_false, ne_eq, Decidable.not_not] at hc8
     exact ⟨[], _, .nil, by unfold rdS; rw [if_neg (by omega), if_neg (by omega), if_neg (by omega), if_pos (by omega)]; exact ⟨rfl, rfl⟩⟩
    try simp only [decide_eq_true_eq, decide_eq_false_iff_not, Bool.not_eq_eq_eq_not, Bool.not_true, Bool.not_false, ne_eq, Decidable.not_not] at hc8
    replace hl := hl.mono hle8
    replace hh0 := hh0.mono hle8
    refine Nk [9, 8, 7, 6, 0] rfl ?_
    refine Sr ?_
    obtain ⟨kk, hkk⟩ : ∃ kk : Nat, byteAt l p = 128 + kk := ⟨byteAt l p - 128, by omega⟩
    refine Ru 1 rfl ?_
    refine JL.nil ?_
    refine J.seq ?_
    refine J.seq ?_
    refine J.drawn mixed_ (by kernel_rfl) ?_
    refine Rq 3 rfl ?_
    refine JQ.op (RunV.own1 ag_22 rfl (by repeat (first | exact List.mem_cons_self .. | apply List.mem_cons_of_mem)) rfl) rfl ?_
    refine Rq 3 rfl ?_
    refine JQ.op (RunV.own1 ag_3 rfl (by repeat (first | exact List.mem_cons_self .. | apply List.mem_cons_of_mem)) rfl) rfl ?_
    refine Rq 3 rfl ?_
    refine JQ.op (RunV.own1 ag_3 rfl (by repeat (first | exact List.mem_cons_self .. | apply List.mem_cons_of_mem)) rfl) rfl ?_
    refine Rq 1 rfl ?_
    refine JQ.op (by first | exact RunV.add_i64 rfl rfl (by omega) (by omega) | exact RunV.add rfl rfl) rfl ?_
    refine JQ.ope (RunE.cut_lh (m := p + 1) (m' := p + 1 + kk) sl_22 rfl rfl rfl (by omega) (by omega) (by assumption) rfl (by omega) (by omega)) rfl ?_
    rintro _ ⟨as_, cs_, rfl, hSs⟩
    rw [show p + 1 + kk - (p + 1) = kk by omega] at *; obtain ⟨sub, hsub⟩ : ∃ sub, sub = (l.drop (p + 1)).take kk := ⟨_, rfl⟩; rw [← hsub] at hSs ⊢; have hsl : sub.length = kk := (by rw [hsub]; simp; omega)
    refine Rq 2 rfl ?_
    refine Nq [78, 77, 76, 8, 9, 7, 6, 0] rfl ?_
    refine J.block ?_
    refine J.loop (fun t_ S_ h_ L_ => ∃ (g : Part) (i : Nat), t_ = kk - i ∧ S_ = [(0, .pointer (some ⟨br, 0, none⟩)), (7, .func (.func 116) #[] #[.pointer (some ⟨b1, 0, none⟩)]), (8, .int .i64 (beval (sub.take i))), (9, .int .i64 ((l[p].toNat : Int) - 128)), (76, .slice as_ sub.length cs_), (77, .int .i64 sub.length), (78, .int .i64 i)] ∧ g = h_ ∧ L_ = [.blk b1 3 [.int .i64 from_], .blk br 95 [.slice ab l.length cb, .int .i64 (p + 1)]] ∧ (h.le g ∧ SlR u8R 1 g as_ cs_ sub ∧ i ≤ kk)) ⟨_, _, ?_, ⟨_, 0, rfl, rfl, rfl, rfl, ⟨by assumption, by assumption, by omega⟩⟩⟩ ?_
    ·
     repeat (first | exact trivial | refine ⟨rfl, ?_⟩ | refine ⟨(by exact some_int (by first | rfl | omega)), ?_⟩)
    rintro _ _ _ _ ⟨g, i, rfl, rfl, rfl, rfl, hhg, hSs, hi⟩
    have hbl := beval_lt sub i
    refine Sr ?_
    refine Ru 1 rfl ?_
    refine JL.nil ?_
    refine J.seq ?_
    refine Cs rfl (fun hc10 => ?_) fun hc10 => ?_
    ·
     have h256 := pow256_3 i (by omega); have hst := beval_step sub i (by omega); have hsb := (sub[i]'(by omega)).toNat_lt
     refine J.skip ?_
     refine J.seq ?_
     refine J.block ?_
     refine Sr ?_
     refine JL.ope (RunE.index sl_22 rfl rfl (by first | with_reducible rfl | exact (Int.toNat_of_nonneg (by omega)).symm) (by assumption) rfl (by omega)) rfl ?_
     rintro _ ⟨b11, o11, hi11, rfl, hE11⟩
     refine JL.op (RunV.ld_u8 ag_5 rfl (by assumption)) rfl ?_
     refine Ru 1 rfl ?_
     refine JL.nil ?_
     refine Rg ?_
     refine Ru 1 rfl ?_
     refine JL.op (by first | exact RunV.shl_i64 256 rfl rfl (by decide) (by decide) (by decide) (by omega) (by omega) | exact RunV.shl rfl rfl (by decide) (by decide)) rfl ?_
     refine Ru 1 rfl ?_
     refine JL.op (by first | exact RunV.convb_i64 cv_5_3 rfl | exact RunV.conv_i64 cv_5_3 rfl (by omega) (by omega) | exact RunV.conv cv_5_3 rfl) rfl ?_
     refine JL.op (RunV.join_i64 8 256 rfl rfl (by decide) (by omega) (by omega) (by omega) (by omega) (by omega) (by omega)) rfl ?_
     refine Ru 1 rfl ?_
     refine JL.nil ?_
     refine Rg ?_
     refine JL.op (by first | exact RunV.add_i64 rfl rfl (by omega) (by omega) | exact RunV.add rfl rfl) rfl ?_
     refine Ru 1 rfl ?_
     refine JL.nil ?_
     refine ⟨_, ?_, _, ?_, ⟨_, i + 1, rfl, rfl, rfl, rfl, ⟨by assumption, by assumption, by omega⟩⟩⟩
     ·
      omega
     ·
      repeat (first | exact trivial | refine ⟨rfl, ?_⟩ | refine ⟨(by exact some_int (by first | rfl | omega)), ?_⟩)
    ·
     refine J.exit ?_
     refine Kp [0, 7, 8, 9] rfl ?_
     refine Sr ?_
     have hv : beval ((l.drop (p + 1)).take (byteAt l p - 128)) = beval (sub.take i) := (by rw [hkk, show 128 + kk - 128 = kk by omega, ← hsub, List.take_of_length_le (by omega)]); have hsh := shr_cast (beval (sub.take i)) (byteAt l p - 128 - 1) (8 * ((l[p].toNat : Int) - 128 - 1)) (by omega)
     refine Ru 4 rfl ?_
     refine Bs 91 rfl (fun hc13 => ?_) fun hc13 => ?_
     ·
      refine Ru 2 rfl ?_
      refine JL.opg rfl rfl  (by first | exact RunV.sub_i64 rfl rfl (by omega) (by omega) | exact RunV.sub rfl rfl) rfl ?_
      refine JL.opg rfl rfl  (by first | exact RunV.mul_i64 rfl rfl (by omega) (by omega) | exact RunV.mul rfl rfl) rfl ?_
      refine JL.opg rfl rfl  (RunV.shr rfl rfl (by omega) (by show _ ≤ ((64 : Nat) : Int); omega)) rfl ?_
      rw [hsh]
      refine Ru 2 rfl ?_
      refine JL.fail ca_116 rfl rfl (sfail_fn) (by repeat (first | exact Del.here | apply Del.there)) rfl (fun hc14 h14 hle14 => ?_) (fun hc14 h14 hle14 => ?_)
      ·
       try simp only [decide_eq_true_eq, decide_eq_false_iff_not, Bool.not_eq_eq_eq_not, Bool.not_true, Bool.not_false, ne_eq, Decidable.not_not] at hc14
       exact ⟨[], _, .nil, by unfold rdS; rw [if_neg (by omega), if_neg (by omega), if_neg (by omega), if_neg (by omega), if_pos (by rw [hv]; omega)]; exact ⟨rfl, rfl⟩⟩
      try simp only [decide_eq_true_eq, decide_eq_false_iff_not, Bool.not_eq_eq_eq_not, Bool.not_true, Bool.not_false, ne_eq, Decidable.not_not] at hc14
      replace hhg := hhg.mono hle14
      replace hSs := hSs.mono hle14
      refine Nk [0, 8, 9] rfl ?_
      refine Sr ?_
      refine Ru 3 rfl ?_
      refine JL.op (RunV.own1 ag_3 rfl (by repeat (first | exact List.mem_cons_self .. | apply List.mem_cons_of_mem)) rfl) rfl ?_
      refine Ru 1 rfl ?_
      refine JL.op (by first | exact RunV.add_i64 rfl rfl (by omega) (by omega) | exact RunV.add rfl rfl) rfl ?_
      refine Ru 2 rfl ?_
      refine JL.store1 ag_3 rfl rfl rfl (by repeat (first | exact Del.here | apply Del.there)) (by first | rfl | (simp; omega)) ?_
      refine Nk [8] rfl ?_
      refine Sr ?_
      refine Ru 2 rfl ?_
      refine JL.nil ?_
      exact J.ret ⟨_, [_], _, (RetV.one rfl rfl), .cons (by repeat (first | exact Del.here | apply Del.there)) .nil, by unfold rdS; rw [if_neg (by omega), if_neg (by omega), if_neg (by omega), if_neg (by omega), if_neg (by rw [hv]; omega)]; exact ⟨by rw [hv], by simp; omega⟩⟩
     ·
      refine Ru 7 rfl ?_
      refine JL.fail ca_116 rfl rfl (sfail_fn) (by repeat (first | exact Del.here | apply Del.there)) rfl (fun hc15 h15 hle15 => ?_) (fun hc15 => by cases hc15)
      exact ⟨[], _, .nil, by unfold rdS; rw [if_neg (by omega), if_neg (by omega), if_neg (by omega), if_neg (by omega), if_pos (by rw [hv]; omega)]; exact ⟨rfl, rfl⟩⟩
   ·
    refine Ru 3 rfl ?_
    refine JL.fail ca_116 rfl rfl (sfail_fn) (by repeat (first | exact Del.here | apply Del.there)) rfl (fun hc16 h16 hle16 => ?_) (fun hc16 => by cases hc16)
    exact ⟨[], _, .nil, by unfold rdS; rw [if_neg (by omega), if_neg (by omega), if_pos (by omega)]; exact ⟨rfl, rfl⟩⟩

theorem SizeR.out {s : Except Int (Nat × Nat)} {fr : Int} {br : Nat} {b : Value} {h : Part} {Lo : List Ent} (k : SizeR s fr br b .outgrown h Lo) : False := by
  unfold SizeR at k; split at k <;> cases k.1
theorem SizeR.pan {s : Except Int (Nat × Nat)} {fr : Int} {br : Nat} {b : Value} {h : Part} {Lo : List Ent} {ch : List PanicEntry} (k : SizeR s fr br b (.panicked ch) h Lo) : ∃ c, s = .error c ∧ ch = [{ v := gvn fr c, recovered := false }] := by
  unfold SizeR at k
  split at k
  · cases k.1
  · rename_i c; have := k.1; injection this with e; exact ⟨c, rfl, e⟩
theorem SizeR.ret {s : Except Int (Nat × Nat)} {fr : Int} {br : Nat} {b v : Value} {h : Part} {Lo : List Ent} (k : SizeR s fr br b (.returned v) h Lo) : ∃ n q : Nat, s = .ok (n, q) ∧ v = .int .i64 n ∧ Lo = [.blk br 95 [b, .int .i64 q]] := by
  unfold SizeR at k
  split at k
  · rename_i n q; have := k.1; injection this with e; exact ⟨n, q, rfl, e, k.2⟩
  · cases k.1



theorem rdS_le {l : List UInt8} {p en n q : Nat} (h : rdS l p en = .ok (n, q)) : p < q ∧ q ≤ en := by
  unfold rdS at h
  split at h
  · cases h
  · split at h
    · cases h; omega
    · split at h
      · cases h
      · split at h
        · cases h
        · split at h
          · cases h
          · injection h with h; injection h with h1 h2; omega

end Go.Proofs.YtmngjbefnloljaaDoor
