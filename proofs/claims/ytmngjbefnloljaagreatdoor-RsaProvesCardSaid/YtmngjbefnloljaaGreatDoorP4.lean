/- Walks: the laws DerWrites and DerAsked; Walks: the reference's arithmetic: product, small numbers; its kept keys; Walks: the reference's division: by one digit; whether digits are above; digits taken away; Walks: the reference's rest of a product, and its division; Walks: the reference's power and comparison; Walks: which keys are right, and how great they are, by the program and by the reference; Walks: the reference's primes and private exponents, and its kept keys; Walks: a byte repeated, by the library; Walks: small functions of keys, by the program, the reference and the law; Walks: the digests there are: how long they are, by the program; Walks: the digests there are, by the reference. -/
import Derived.Test.YtmngjbefnloljaaGreatDoorP3
set_option linter.unusedSimpArgs false
set_option linter.unusedVariables false
set_option linter.constructorNameAsVariable false
namespace Go.Proofs.YtmngjbefnloljaaGreatDoor
open Go Go.RowKit
set_option maxRecDepth 100000
theorem ca_22 : callT Tryz.prog 22 = true := by kernel_rfl
theorem mk_66 : mkT Tryz.prog 66 = some (63, .int .u64 0, 8) := by kernel_rfl
theorem number32_fn {a : Option Addr} {c n : Nat} {l : List UInt32} {h : Part} (hl : SlR u64R 1 h a c (l.map m64)) (hn : n = l.length) (hlen : l.length ≤ 1000000) : FnR Tryz.prog 58 [.slice a n c] h (fun v h' => ∃ a' c', v = .slice a' (toL (vL l)).length c' ∧ SlR u32R 1 h' a' c' (toL (vL l))) := by
  have hml : (l.map m64).length = l.length := List.length_map ..
  have := number_fn hl (fun i => by rw [d64_map]; exact d32_lt l i) (by omega)
  rw [hml, ← hn, cutZ_map, map_n32] at this
  exact this
def pw (i : Nat) : Nat := if i = 0 then 1 else 256 ^ ((i - 1) % 4 + 1)
theorem pw_next (i : Nat) : pw (i + 1) = 256 ^ (i % 4) * 256 := by unfold pw; rw [if_neg (by omega), Nat.add_sub_cancel, Nat.pow_succ]
theorem pw_keep (i : Nat) (h : i % 4 ≠ 0) : pw i = 256 ^ (i % 4) := by
  unfold pw; rw [if_neg (by omega)]; congr 1; omega
theorem rread_fn {a : Option Addr} {c : Nat} {l : List UInt8} {h : Part} (hl : SlR u8R 1 h a c l) (hlen : l.length ≤ 3000000) : FnR Tryz.prog 22 [.slice a l.length c] h (fun v h' => ∃ a' c', v = .slice a' (toL (beV l)).length c' ∧ SlR u32R 1 h' a' c' (toL (beV l))) := by
  refine Fn.intro Tryz.func22 rfl Tryz.ntmps22 rfl (fun e he => ?_)
  refine J.weak [(0, _)] ⟨rfl, trivial⟩ ?_
  have hh0 := Part.le.refl h
  refine Sr ?_
  refine Ru 1 rfl ?_
  refine JL.nil ?_
  refine Sr ?_
  refine Ru 2 rfl ?_
  refine JL.op (by first | exact RunV.quo_i64 rfl rfl (by omega) (by omega) (by omega) | exact RunV.quo rfl rfl (by omega)) rfl ?_
  refine JL.op ai_ rfl ?_
  refine JL.make1 mk_66 rfl rfl (m := l.length / 4 + 1) (by omega) (by omega) (by omega) rfl rfl (fun b1 => ?_); rw [ws_zero]
  refine Ru 1 rfl ?_
  refine Nk [3, 2, 0] rfl ?_
  refine Sr ?_
  refine Ru 1 rfl ?_
  refine JL.nil ?_
  refine J.seq ?_
  refine Sr ?_
  refine Ru 1 rfl ?_
  refine JL.nil ?_
  refine J.block ?_
  refine J.loop (fun t_ S_ h_ L_ => ∃ (i v : Nat), t_ = l.length - i ∧ S_ = [(0, .slice a l.length c), (3, .slice (some ⟨b1, 0, none⟩) (l.length / 4 + 1) (l.length / 4 + 1)), (4, .int .u64 (pw i : Nat)), (5, .int .i64 i)] ∧ h = h_ ∧ L_ = [.row (some ⟨b1, 0, none⟩) (l.length / 4 + 1) 63 1 (l.length / 4 + 1) (ws .u64 (digN (l.length / 4 + 1) v))] ∧ (i ≤ l.length ∧ v = beV (l.drop (l.length - i)))) ⟨_, _, ?_, ⟨0, 0, rfl, rfl, rfl, rfl, ⟨by omega, by simp [beV]⟩⟩⟩ ?_
  ·
   repeat (first | exact trivial | refine ⟨rfl, ?_⟩ | refine ⟨(by exact some_int (by rw [pw_next, Int.natCast_mul]; rfl)), ?_⟩)
  rintro _ _ _ _ ⟨i, v, rfl, rfl, rfl, rfl, hi, hv⟩
  refine J.seq ?_
  refine Sr ?_
  refine Ru 4 rfl ?_
  refine JL.nil ?_
  refine Cs rfl (fun hc2 => ?_) fun hc2 => ?_
  ·
   have hi' : i < l.length := (by omega); have hvl := beV_drop_lt l i (by omega); have hbl := byteAt_lt l (l.length - 1 - i); have hdb := digN_byte (l.length / 4 + 1) _ _ i hvl hbl (by omega); have hst := beV_drop l i hi'; have hd0 := digN_at (l.length / 4 + 1) (beV (l.drop (l.length - i))) (i / 4) (by omega); have hr4 := pow4 (i % 4) (by omega); have hbe := byteAt_eq l (l.length - 1 - i) (by omega); rw [← hv] at hvl hdb hst hd0; have hsb : 256 ^ (i % 4) * byteAt l (l.length - 1 - i) ≤ 4278190080 := (by rcases hr4 with e | e | e | e <;> rw [e] <;> omega); have hsum : v / 4294967296 ^ (i / 4) + byteAt l (l.length - 1 - i) * 256 ^ (i % 4) < 4294967296 := (by have := hdb.2; rcases hr4 with e | e | e | e <;> rw [e] at this ⊢ <;> omega); have hdd : d32 (digN (l.length / 4 + 1) v) (i / 4) = v / 4294967296 ^ (i / 4) := (by rw [hd0]; exact Nat.mod_eq_of_lt (by omega)); have hp16 : 256 ^ (i % 4) ≤ 16777216 := (by rcases hr4 with e | e | e | e <;> rw [e] <;> omega)
   refine J.skip ?_
   refine J.seq ?_
   refine J.block ?_
   refine J.seq ?_
   refine Sr ?_
   refine Ru 1 rfl ?_
   refine JL.op (by first | exact RunV.rem_i64 rfl rfl (by omega) (by omega) | exact RunV.rem rfl rfl (by omega)) rfl ?_
   refine Ru 1 rfl ?_
   refine JL.nil ?_
   refine J.meet [(4, .int .u64 (256 ^ (i % 4) : Nat))] [(18, _), (17, _), (14, _), (13, _), (12, _), (11, _), (0, _), (3, _), (5, _)] ⟨rfl, rfl, rfl, rfl, rfl, rfl, rfl, rfl, rfl, trivial⟩ ?_ ?_
   ·
    refine Cs rfl (fun hc3 => ?_) fun hc3 => ?_
    ·
     refine Rg ?_
     refine Ru 1 rfl ?_
     refine JL.nil ?_
     refine ⟨rfl, rfl, ?_⟩
     repeat (first | exact trivial | refine ⟨rfl, ?_⟩ | refine ⟨(by exact some_int (by first | (rw [pw_keep i (by omega)]; done) | (rw [show i % 4 = 0 by omega]; rfl))), ?_⟩)
    ·
     refine J.skip ?_
     refine ⟨rfl, rfl, ?_⟩
     repeat (first | exact trivial | refine ⟨rfl, ?_⟩ | refine ⟨(by exact some_int (by first | (rw [pw_keep i (by omega)]; done) | (rw [show i % 4 = 0 by omega]; rfl))), ?_⟩)
   ·
    refine J.seq ?_
    refine J.held ([]) 22 mixed_ rfl (fun h00 => ?_)
    refine JH.take 0 rfl (by kernel_rfl) (by kernel_rfl) (by kernel_rfl) (fun _ _ _ _ hh => hh) (br_ h00) (RunV.move rfl) rfl ?_
    refine JH.take 1 rfl (by kernel_rfl) (by kernel_rfl) (by kernel_rfl) (fun _ _ _ _ hh => hh) (br_ h00) (RunV.move rfl) rfl ?_
    refine JH.take 2 rfl (by kernel_rfl) (by kernel_rfl) (by kernel_rfl) (fun _ _ _ _ hh => hh) (br_ h00) (by first | exact RunV.quo_i64 rfl rfl (by omega) (by omega) (by omega) | exact RunV.quo rfl rfl (by omega)) rfl ?_
    refine JH.take 3 rfl (by kernel_rfl) (by kernel_rfl) (by kernel_rfl) (fun _ _ _ _ hh => hh) (br_ h00) (RunV.move rfl) rfl ?_
    refine JH.take 4 rfl (by kernel_rfl) (by kernel_rfl) (by kernel_rfl) (fun _ _ _ _ hh => hh) (br_ h00) (RunV.move rfl) rfl ?_
    refine JH.take 5 rfl (by kernel_rfl) (by kernel_rfl) (by kernel_rfl) (fun _ _ _ _ hh => hh) (br_ h00) (by first | exact RunV.quo_i64 rfl rfl (by omega) (by omega) (by omega) | exact RunV.quo rfl rfl (by omega)) rfl ?_
    refine JH.take 6 rfl (by kernel_rfl) (by kernel_rfl) (by kernel_rfl) (fun _ _ _ _ hh => hh) (br_ h00) (RunV.index_at sl_66 (m := i / 4) rfl rfl (by omega) (by omega)) rfl ?_
    refine JH.take 8 rfl (by kernel_rfl) (by kernel_rfl) (by kernel_rfl) (fun _ _ _ _ hh => hh) (br_ h00) (RunV.move rfl) rfl ?_
    refine JH.take 9 rfl (by kernel_rfl) (by kernel_rfl) (by kernel_rfl) (fun _ _ _ _ hh => hh) (br_ h00) (RunV.move rfl) rfl ?_
    refine JH.take 10 rfl (by kernel_rfl) (by kernel_rfl) (by kernel_rfl) (fun _ _ _ _ hh => hh) (br_ h00) (RunV.move rfl) rfl ?_
    refine JH.take 11 rfl (by kernel_rfl) (by kernel_rfl) (by kernel_rfl) (fun _ _ _ _ hh => hh) (br_ h00) (RunV.len sl_22 rfl) rfl ?_
    refine JH.take 12 rfl (by kernel_rfl) (by kernel_rfl) (by kernel_rfl) (fun _ _ _ _ hh => hh) (br_ h00) si_ rfl ?_
    refine JH.take 13 rfl (by kernel_rfl) (by kernel_rfl) (by kernel_rfl) (fun _ _ _ _ hh => hh) (br_ h00) (RunV.move rfl) rfl ?_
    refine JH.take 14 rfl (by kernel_rfl) (by kernel_rfl) (by kernel_rfl) (fun _ _ _ _ hh => hh) (br_ h00) si_ rfl ?_
    refine JH.takeE 15 rfl (by kernel_rfl) (by kernel_rfl) (by kernel_rfl) (fun _ _ _ _ hh => hh) (br_ h00) (RunE.index (m := l.length - 1 - i) sl_22 rfl rfl (by omega) hl rfl (by omega)) rfl ?_
    rintro _ ⟨b8, o8, hi8, rfl, hE8⟩
    refine JH.take 16 rfl (by kernel_rfl) (by kernel_rfl) (by kernel_rfl) (fun _ _ _ _ hh => hh) (br_ h00) ((hbe ▸ RunV.ld_u8 ag_5 rfl hE8 : RunV _ _ _ _ _ _ (.int .u8 (byteAt l (l.length - 1 - i) : Nat)))) rfl ?_
    refine JH.take 17 rfl (by kernel_rfl) (by kernel_rfl) (by kernel_rfl) (fun _ _ _ _ hh => hh) (br_ h00) (RunV.conv_u64 cv_5_63 rfl (by omega) (by omega)) rfl ?_
    refine JH.take 18 rfl (by kernel_rfl) (by kernel_rfl) (by kernel_rfl) (fun _ _ _ _ hh => hh) (br_ h00) (RunV.mul_u64 rfl rfl (by rw [← Int.natCast_mul]; omega) (by rw [← Int.natCast_mul]; omega)) rfl ?_
    refine JH.all1 7 (by kernel_rfl) rfl ?_
    unfold One
    refine JL.op (RunV.wload ag_63 rfl mm_ (by rw [digN_len]; omega)) rfl ?_
    refine JL.nil ⟨(br_ h00), ?_⟩
    refine JH.take 19 rfl (by kernel_rfl) (by kernel_rfl) (by kernel_rfl) (fun _ _ _ _ hh => hh) (br_ h00) (RunV.add_u64 rfl rfl (by rw [← Int.natCast_mul]; omega) (by rw [← Int.natCast_mul]; omega)) rfl ?_
    refine JH.take 20 rfl (by kernel_rfl) (by kernel_rfl) (by kernel_rfl) (fun _ _ _ _ hh => hh) (br_ h00) (RunV.index_at sl_66 (m := i / 4) rfl rfl (by omega) (by omega)) rfl ?_
    refine JH.all1 21 (by kernel_rfl) rfl ?_
    unfold One
    refine JL.storeW (v / 4294967296 ^ (i / 4) + byteAt l (l.length - 1 - i) * 256 ^ (i % 4)) ag_63 rfl rfl (by rw [Nat.mod_eq_of_lt hsum, hdd, ← Int.natCast_mul, ← Int.natCast_add, Nat.mul_comm]) dl_ (by rw [digN_len]; omega) ?_
    rw [← hdb.1]
    refine JL.nil ⟨(br_ h00), ?_⟩
    refine JH.done (by kernel_rfl) ?_
    refine Rg ?_
    refine Ru 1 rfl ?_
    refine JL.op (RunV.mul_u64 rfl rfl (by omega) (by omega)) rfl ?_
    refine Ru 1 rfl ?_
    refine JL.nil ?_
    refine Rg ?_
    refine Ru 1 rfl ?_
    refine JL.op ai_ rfl ?_
    refine Ru 1 rfl ?_
    refine JL.nil ?_
    refine ⟨_, ?_, _, ?_, ⟨i + 1, v + byteAt l (l.length - 1 - i) * 256 ^ i, rfl, rfl, rfl, rfl, ⟨by omega, by rw [hst, Nat.add_comm]⟩⟩⟩
    ·
     omega
    ·
     repeat (first | exact trivial | refine ⟨rfl, ?_⟩ | refine ⟨(by exact some_int (by rw [pw_next, Int.natCast_mul]; rfl)), ?_⟩)
  ·
   refine J.exit ?_
   refine Kp [3] rfl ?_
   refine Sr ?_
   refine Ru 1 rfl ?_
   refine JL.pub64 dl_ (by rw [digN_len]) (by rw [digN_len]; omega) (fun h9 hle9 hP9 => ?_); replace hl := hl.mono hle9; replace hh0 := hh0.mono hle9; have hve : vL (digN (l.length / 4 + 1) v) = beV l := (by rw [vL_digN, hv, show l.length - i = 0 by omega, List.drop_zero]; refine Nat.mod_eq_of_lt (Nat.lt_of_lt_of_le (beV_lt l) ?_); rw [show (4294967296 : Nat) = 256 ^ 4 from rfl, ← Nat.pow_mul]; exact Nat.pow_le_pow_right (by decide) (by omega))
   refine JL.callR ca_58 rfl (number32_fn hP9 (by rw [digN_len]) (by rw [digN_len]; omega)) rfl ?_
   rintro _ h6 hle6 ⟨ra, rc, rfl, hR⟩
   replace hl := hl.mono hle6
   replace hh0 := hh0.mono hle6
   refine Ru 1 rfl ?_
   refine JL.nil ?_
   rw [hve] at hR ⊢; exact J.retR (RetV.one rfl rfl) ⟨_, _, rfl, hR⟩
end Go.Proofs.YtmngjbefnloljaaGreatDoor
set_option linter.unusedSimpArgs false
set_option linter.unusedVariables false
set_option linter.constructorNameAsVariable false
namespace Go.Proofs.YtmngjbefnloljaaGreatDoor
open Go Go.RowKit
set_option maxRecDepth 100000
theorem ca_89 : callT Tryz.prog 89 = true := by kernel_rfl
theorem digs_eq (l : List UInt32) : digsB l = (toL (vL l)).map m64 := cutZ_map l
theorem rdigs_fn {a : Option Addr} {c : Nat} {l : List UInt32} {h : Part} (hl : SlR u32R 1 h a c l) (hlen : l.length ≤ 1000000) : FnR Tryz.prog 56 [.slice a l.length c] h (fun v h' => ∃ a' c', v = .slice a' (toL (vL l)).length c' ∧ SlR u64R 1 h' a' c' ((toL (vL l)).map m64)) := by
  have := digits32_fn hl hlen
  rw [digs_eq, List.length_map] at this
  exact this
theorem rcut_fn {a : Option Addr} {c n : Nat} {l : List UInt32} {h : Part} (hl : SlR u64R 1 h a c (l.map m64)) (hn : n = l.length) : FnR Tryz.prog 97 [.slice a n c] h (fun v h' => ∃ a' c', v = .slice a' (toL (vL l)).length c' ∧ SlR u64R 1 h' a' c' ((toL (vL l)).map m64)) := by
  have := cut_fn hl
  rw [cutZ_map, List.length_map, List.length_map, ← hn] at this
  exact this
theorem d64_mat (l : List UInt32) (i : Nat) (h : i < (l.map m64).length) : (((l.map m64)[i]'h).toNat : Int) = d32 l i := by rw [d64_at, d64_map]
theorem rtimes_fn {a b : Option Addr} {ca cb : Nat} {A B : List UInt32} {h : Part} (hA : SlR u64R 1 h a ca (A.map m64)) (hB : SlR u64R 1 h b cb (B.map m64)) (hlb : A.length ≤ 200000) (hrb : B.length ≤ 200000) : FnR Tryz.prog 89 [.slice a A.length ca, .slice b B.length cb] h (fun v h' => ∃ a c, v = .slice a (toL (vL A * vL B)).length c ∧ SlR u64R 1 h' a c ((toL (vL A * vL B)).map m64)) := by
  have hAl : (A.map m64).length = A.length := List.length_map ..
  have hBl : (B.map m64).length = B.length := List.length_map ..
  refine Fn.intro Tryz.func89 rfl Tryz.ntmps89 rfl (fun e he => ?_)
  refine J.weak [(0, _), (1, _)] ⟨rfl, rfl, trivial⟩ ?_
  have hh0 := Part.le.refl h
  refine Sr ?_
  refine Ru 1 rfl ?_
  refine JL.nil ?_
  refine Sr ?_
  refine Ru 4 rfl ?_
  refine JL.op ai_ rfl ?_
  refine JL.op ai_ rfl ?_
  refine JL.make1 mk_66 rfl rfl (m := A.length + B.length + 1) (by omega) (by omega) (by omega) rfl rfl (fun b1 => ?_); rw [ws_zero]
  refine Ru 1 rfl ?_
  refine Nk [5, 4, 0, 1] rfl ?_
  refine J.seq ?_
  refine Sr ?_
  refine Ru 1 rfl ?_
  refine JL.nil ?_
  refine J.block ?_
  refine J.loop (fun t_ S_ h_ L_ => ∃ (i : Nat) (out : List UInt32), t_ = A.length - i ∧ S_ = [(0, .slice a A.length ca), (1, .slice b B.length cb), (5, .slice (some ⟨b1, 0, none⟩) (A.length + B.length + 1) (A.length + B.length + 1)), (6, .int .i64 i)] ∧ h = h_ ∧ L_ = [.row (some ⟨b1, 0, none⟩) (A.length + B.length + 1) 63 1 (A.length + B.length + 1) (ws .u64 out)] ∧ (i ≤ A.length ∧ out.length = A.length + B.length + 1 ∧ vL out = vL (A.take i) * vL B)) ⟨_, _, ?_, ⟨0, _, rfl, rfl, rfl, rfl, ⟨by omega, digN_len _ _, by rw [vL_digN]; simp [vL]⟩⟩⟩ ?_
  ·
   repeat (first | exact trivial | refine ⟨rfl, ?_⟩)
  rintro _ _ _ _ ⟨i, out, rfl, rfl, rfl, rfl, hi, hol, hv⟩
  refine J.seq ?_
  refine Sr ?_
  refine Ru 4 rfl ?_
  refine JL.nil ?_
  refine Cs rfl (fun hc2 => ?_) fun hc2 => ?_
  ·
   have hi' : i < A.length := (by omega); have hz := vL_zero_above (l := out) (m := i + B.length) (by rw [hv]; exact mul_bound (vL_take_lt A i) (vL_lt B)) (i + B.length) (Nat.le_refl _); have hai := d32_lt A i
   refine J.skip ?_
   refine J.seq ?_
   refine J.block ?_
   refine Sr ?_
   refine Ru 1 rfl ?_
   refine JL.nil ?_
   refine J.seq ?_
   refine Sr ?_
   refine Ru 1 rfl ?_
   refine JL.nil ?_
   refine J.block ?_
   refine J.loop (fun t_ S_ h_ L_ => ∃ (k c : Nat) (o2 : List UInt32), t_ = B.length - k ∧ S_ = [(0, .slice a A.length ca), (1, .slice b B.length cb), (5, .slice (some ⟨b1, 0, none⟩) (A.length + B.length + 1) (A.length + B.length + 1)), (6, .int .i64 i), (7, .int .u64 c), (8, .int .i64 k)] ∧ h = h_ ∧ L_ = [.row (some ⟨b1, 0, none⟩) (A.length + B.length + 1) 63 1 (A.length + B.length + 1) (ws .u64 o2)] ∧ (k ≤ B.length ∧ o2.length = A.length + B.length + 1 ∧ c < 4294967296 ∧ d32 o2 (i + B.length) = 0 ∧ vL o2 + c * 4294967296 ^ (i + k) = vL out + d32 A i * vL (B.take k) * 4294967296 ^ i)) ⟨_, _, ?_, ⟨0, 0, out, rfl, rfl, rfl, rfl, ⟨by omega, hol, by omega, hz, by simp [vL]⟩⟩⟩ ?_
   ·
    repeat (first | exact trivial | refine ⟨rfl, ?_⟩ | refine ⟨(by exact some_int (by omega)), ?_⟩)
   rintro _ _ _ _ ⟨k, c, o2, rfl, rfl, rfl, rfl, hk, ho2, hc, hz2, hv2⟩
   refine J.seq ?_
   refine Sr ?_
   refine Ru 4 rfl ?_
   refine JL.nil ?_
   refine Cs rfl (fun hc3 => ?_) fun hc3 => ?_
   ·
    have hk' : k < B.length := (by omega); have hbk := d32_lt B k; have hdo := d32_lt o2 (i + k); have hcl := carry_lt hc hai hbk hdo; have hst := mul_step (b := B) hk' (by omega) hv2; have ei := d64_mat A i (by omega); have ek := d64_mat B k (by omega); obtain ⟨xy, hxy⟩ : ∃ xy, xy = d32 A i * d32 B k := ⟨_, rfl⟩; rw [← hxy] at hcl hst
    refine J.skip ?_
    refine J.seq ?_
    refine J.block ?_
    refine J.seq ?_
    refine J.drawn mixed_ (by kernel_rfl) ?_
    refine Rq 4 rfl ?_
    refine JQ.op ai_ rfl ?_
    refine JQ.op (RunV.index_at sl_66 (m := i + k) rfl rfl (by omega) (by omega)) rfl ?_
    refine JQ.op (RunV.wload ag_63 rfl mm_ (by omega)) rfl ?_
    refine JQ.op (RunV.add_u64 rfl rfl (by omega) (by omega)) rfl ?_
    refine Rq 2 rfl ?_
    refine JQ.ope (RunE.index (m := i) sl_66 rfl rfl (by omega) hA hAl.symm (by omega)) rfl ?_
    rintro _ ⟨b4, o4, hi4, rfl, hE4⟩
    refine JQ.op (RunV.ld_u64 ag_63 rfl (by assumption)) rfl ?_
    rw [ei]
    refine Rq 2 rfl ?_
    refine JQ.ope (RunE.index (m := k) sl_66 rfl rfl (by omega) hB hBl.symm (by omega)) rfl ?_
    rintro _ ⟨b6, o6, hi6, rfl, hE6⟩
    refine JQ.op (RunV.ld_u64 ag_63 rfl (by assumption)) rfl ?_
    rw [ek]
    refine JQ.op (RunV.mul_u64 rfl rfl (by rw [← Int.natCast_mul, ← hxy]; omega) (by rw [← Int.natCast_mul, ← hxy]; omega)) rfl ?_
    rw [← Int.natCast_mul, ← hxy]
    refine JQ.op (RunV.add_u64 rfl rfl (by omega) (by omega)) rfl ?_
    rw [show (c : Int) + (d32 o2 (i + k) : Int) + (xy : Int) = ((c + xy + d32 o2 (i + k) : Nat) : Int) by omega]
    refine Rq 1 rfl ?_
    refine JQ.nil ?_
    refine Sr ?_
    refine Ru 3 rfl ?_
    refine JL.op ai_ rfl ?_
    refine Ru 1 rfl ?_
    refine JL.op (by first | exact RunV.rem_u64 rfl rfl (by omega) (by omega) | exact RunV.rem rfl rfl (by omega)) rfl ?_
    refine JL.op (RunV.index_at sl_66 (m := i + k) rfl rfl (by omega) (by omega)) rfl ?_
    refine JL.storeW (c + xy + d32 o2 (i + k)) ag_63 rfl rfl (by omega) dl_ (by omega) ?_
    refine JL.nil ?_
    refine Rg ?_
    refine Ru 1 rfl ?_
    refine JL.op (by first | exact RunV.quo_u64 rfl rfl (by omega) (by omega) (by omega) | exact RunV.quo rfl rfl (by omega)) rfl ?_
    refine Ru 1 rfl ?_
    refine JL.nil ?_
    refine Rg ?_
    refine Ru 1 rfl ?_
    refine JL.op ai_ rfl ?_
    refine Ru 1 rfl ?_
    refine JL.nil ?_
    refine ⟨_, ?_, _, ?_, ⟨k + 1, (c + xy + d32 o2 (i + k)) / 4294967296, _, rfl, rfl, rfl, rfl, ⟨by omega, by rw [List.length_set]; exact ho2, by omega, by rw [d32_set _ _ _ _ (by omega), if_neg (by omega)]; exact hz2, hst⟩⟩⟩
    ·
     omega
    ·
     repeat (first | exact trivial | refine ⟨rfl, ?_⟩ | refine ⟨(by exact some_int (by omega)), ?_⟩)
   ·
    have hke : k = B.length := (by omega); subst hke; have hrow := mul_row hi' (by omega) hz2 hc hv hv2
    refine J.exit ?_
    refine Rg ?_
    refine Ru 4 rfl ?_
    refine JL.op ai_ rfl ?_
    refine Ru 1 rfl ?_
    refine JL.op (RunV.index_at sl_66 (m := i + B.length) rfl rfl (by omega) (by omega)) rfl ?_
    refine JL.storeW c ag_63 rfl rfl (by omega) dl_ (by omega) ?_
    refine JL.nil ?_
    refine Rg ?_
    refine Ru 1 rfl ?_
    refine JL.op ai_ rfl ?_
    refine Ru 1 rfl ?_
    refine JL.nil ?_
    refine ⟨_, ?_, _, ?_, ⟨i + 1, _, rfl, rfl, rfl, rfl, ⟨by omega, by rw [List.length_set]; exact ho2, hrow⟩⟩⟩
    ·
     omega
    ·
     repeat (first | exact trivial | refine ⟨rfl, ?_⟩)
  ·
   have hie : i = A.length := (by omega); rw [hie, List.take_length] at hv
   refine J.exit ?_
   refine Kp [5] rfl ?_
   refine Sr ?_
   refine Ru 1 rfl ?_
   refine JL.pub64 dl_ hol.symm (by omega) (fun h9 hle9 hP9 => ?_); replace hh0 := hh0.mono hle9; replace hA := hA.mono hle9; replace hB := hB.mono hle9
   refine JL.callR ca_97 rfl (rcut_fn hP9 hol.symm) rfl ?_
   rintro _ h10 hle10 ⟨ra, rc, rfl, hR⟩
   replace hA := hA.mono hle10
   replace hB := hB.mono hle10
   replace hh0 := hh0.mono hle10
   refine Ru 1 rfl ?_
   refine JL.nil ?_
   rw [hv] at hR ⊢; exact J.retR (RetV.one rfl rfl) ⟨_, _, rfl, hR⟩
theorem rmul_fn {a b : Option Addr} {ca cb : Nat} {l r : List UInt32} {h : Part} (hl : SlR u32R 1 h a ca l) (hr : SlR u32R 1 h b cb r) (hlb : l.length ≤ 100000) (hrb : r.length ≤ 100000) : FnR Tryz.prog 51 [.slice a l.length ca, .slice b r.length cb] h (fun v h' => ∃ a c, v = .slice a (toL (vL l * vL r)).length c ∧ SlR u32R 1 h' a c (toL (vL l * vL r))) := by
  have n1 : (toL (vL l)).length ≤ 100000 := by rw [toL_len]; exact Nat.le_trans (nd_le _ _ (vL_lt l)) hlb
  have n2 : (toL (vL r)).length ≤ 100000 := by rw [toL_len]; exact Nat.le_trans (nd_le _ _ (vL_lt r)) hrb
  have n3 : (toL (vL l * vL r)).length ≤ 200000 := by
    rw [toL_len]
    exact Nat.le_trans (nd_le _ _ (mul_bound (vL_lt l) (vL_lt r))) (by omega)
  refine Fn.intro Tryz.func51 rfl Tryz.ntmps51 rfl (fun e he => ?_)
  refine J.weak [(0, _), (1, _)] ⟨rfl, rfl, trivial⟩ ?_
  have hh0 := Part.le.refl h
  refine Sr ?_
  refine Ru 1 rfl ?_
  refine JL.nil ?_
  refine Sr ?_
  refine Ru 1 rfl ?_
  refine JL.callR ca_56 rfl (rdigs_fn hl (by omega)) rfl ?_
  rintro _ h1 hle1 ⟨da, dc, rfl, hD⟩
  replace hl := hl.mono hle1
  replace hr := hr.mono hle1
  replace hh0 := hh0.mono hle1
  refine Ru 1 rfl ?_
  refine JL.callR ca_56 rfl (rdigs_fn hr (by omega)) rfl ?_
  rintro _ h2 hle2 ⟨ea, ec, rfl, hE⟩
  replace hl := hl.mono hle2
  replace hr := hr.mono hle2
  replace hh0 := hh0.mono hle2
  replace hD := hD.mono hle2
  refine JL.callR ca_89 rfl (rtimes_fn hD hE (by omega) (by omega)) rfl ?_
  rintro _ h3 hle3 ⟨ta, tc, rfl, hT⟩
  replace hl := hl.mono hle3
  replace hr := hr.mono hle3
  replace hh0 := hh0.mono hle3
  replace hD := hD.mono hle3
  replace hE := hE.mono hle3
  rw [vL_toL, vL_toL] at hT ⊢
  refine JL.callR ca_58 rfl (number32_fn hT rfl (by omega)) rfl ?_
  rintro _ h4 hle4 ⟨ra, rc, rfl, hR⟩
  replace hl := hl.mono hle4
  replace hr := hr.mono hle4
  replace hh0 := hh0.mono hle4
  replace hD := hD.mono hle4
  replace hE := hE.mono hle4
  replace hT := hT.mono hle4
  refine Ru 1 rfl ?_
  refine Nk [4] rfl ?_
  rw [vL_toL] at hR ⊢; exact J.retR (RetV.one rfl rfl) ⟨_, _, rfl, hR⟩
theorem rOf_fn {n : Nat} {h : Part} (hn : n < 18446744073709551616) : FnR Tryz.prog 53 [.int .u64 n] h (fun v h' => ∃ a c, v = .slice a (toL n).length c ∧ SlR u32R 1 h' a c (toL n)) := by
  have hv : vL (digN 2 n) = n := by rw [vL_digN]; exact Nat.mod_eq_of_lt (by simp only [Nat.reducePow]; omega)
  refine Fn.intro Tryz.func53 rfl Tryz.ntmps53 rfl (fun e he => ?_)
  refine J.weak [(0, _)] ⟨rfl, trivial⟩ ?_
  have hh0 := Part.le.refl h
  refine Sr ?_
  refine Ru 1 rfl ?_
  refine JL.nil ?_
  refine Sr ?_
  refine Ru 1 rfl ?_
  refine JL.op (by first | exact RunV.rem_u64 rfl rfl (by omega) (by omega) | exact RunV.rem rfl rfl (by omega)) rfl ?_
  refine Ru 1 rfl ?_
  refine JL.op (by first | exact RunV.quo_u64 rfl rfl (by omega) (by omega) (by omega) | exact RunV.quo rfl rfl (by omega)) rfl ?_
  refine JL.lit1 ap_66 zr_63 rfl rfl rfl rfl rfl (fun b1 => ?_)
  refine JL.pubB (R := u64R) (sz := 1) (l := (digN 2 n).map m64) dl_ ((show CellsR u64R 1 _ [.int .u64 ((n : Int) % 4294967296), .int .u64 ((n : Int) / 4294967296)] ((digN 2 n).map m64) from (show ws .u64 (digN 2 n) = [.int .u64 ((n : Int) % 4294967296), .int .u64 ((n : Int) / 4294967296)] from by simp [ws, digN]; omega) ▸ CellsR.of_ws64)) (by first | decide | omega | (rw [digN_len]; decide) | (simp; done) | (simp [digN_len]; done)) (fun h2 hle2 hQ => ?_)
  replace hh0 := hh0.mono hle2
  refine JL.callR ca_58 rfl (number32_fn hQ (by rw [digN_len]) (by rw [digN_len]; decide)) rfl ?_
  rintro _ h3 hle3 ⟨ra, rc, rfl, hR⟩
  replace hh0 := hh0.mono hle3
  replace hQ := hQ.mono hle3
  refine Ru 1 rfl ?_
  refine Nk [2] rfl ?_
  rw [hv] at hR ⊢; exact J.retR (RetV.one rfl rfl) ⟨_, _, rfl, hR⟩
end Go.Proofs.YtmngjbefnloljaaGreatDoor
set_option linter.unusedSimpArgs false
set_option linter.unusedVariables false
set_option linter.constructorNameAsVariable false
namespace Go.Proofs.YtmngjbefnloljaaGreatDoor
open Go Go.RowKit
set_option maxRecDepth 100000
theorem rshortly_fn {a : Option Addr} {c b : Nat} {l : List UInt32} {h : Part} (hl : SlR u64R 1 h a c (l.map m64)) (hb0 : 0 < b) (hb : b ≤ 4294967296) (hlb : l.length ≤ 1000000) : FnR Tryz.prog 124 [.slice a l.length c, .int .u64 b] h
    (fun v h' => ∃ a1 c1, v = .tuple #[.slice a1 (toL (vL l / b)).length c1, .int .u64 (vL l % b : Nat)] ∧ SlR u64R 1 h' a1 c1 ((toL (vL l / b)).map m64)) := by
  have hll : (l.map m64).length = l.length := List.length_map ..
  refine Fn.intro Tryz.func124 rfl Tryz.ntmps124 rfl (fun e he => ?_)
  refine J.weak [(0, _), (1, _)] ⟨rfl, rfl, trivial⟩ ?_
  have hh0 := Part.le.refl h
  refine Sr ?_
  refine Ru 2 rfl ?_
  refine JL.nil ?_
  refine Sr ?_
  refine Ru 2 rfl ?_
  refine JL.make1 mk_66 rfl rfl (m := l.length) (by omega) (by omega) (by omega) rfl rfl (fun b1 => ?_); rw [ws_zero]
  refine Ru 1 rfl ?_
  refine JL.nil ?_
  refine Sr ?_
  refine Ru 1 rfl ?_
  refine JL.nil ?_
  refine J.seq ?_
  refine Sr ?_
  refine Ru 2 rfl ?_
  refine JL.op si_ rfl ?_
  refine Ru 1 rfl ?_
  refine Nk [8, 7, 6, 5, 4, 0, 1] rfl ?_
  refine J.block ?_
  refine J.loop (fun t_ S_ h_ L_ => ∃ (j r : Nat) (out : List UInt32), t_ = j + 1 ∧ S_ = [(0, .slice a l.length c), (1, .int .u64 b), (6, .slice (some ⟨b1, 0, none⟩) l.length l.length), (7, .int .u64 r), (8, .int .i64 ((j : Int) - 1))] ∧ h = h_ ∧ L_ = [.row (some ⟨b1, 0, none⟩) l.length 63 1 l.length (ws .u64 out)] ∧ (j ≤ l.length ∧ out.length = l.length ∧ r = vL l / 4294967296 ^ j % b ∧ vL out = vL l / 4294967296 ^ j / b * 4294967296 ^ j)) ⟨_, _, ?_, ⟨l.length, 0, _, rfl, rfl, rfl, rfl, ⟨Nat.le_refl _, digN_len _ _, by rw [Nat.div_eq_of_lt (vL_lt l)]; simp, by rw [vL_digN, Nat.div_eq_of_lt (vL_lt l)]; simp⟩⟩⟩ ?_
  ·
   repeat (first | exact trivial | refine ⟨rfl, ?_⟩ | refine ⟨(by exact some_int (by omega)), ?_⟩)
  rintro _ _ _ _ ⟨j, r, out, rfl, rfl, rfl, rfl, hj, hol, hr, hv⟩
  refine J.seq ?_
  refine Sr ?_
  refine Ru 2 rfl ?_
  refine JL.nil ?_
  refine Cs rfl (fun hc2 => ?_) fun hc2 => ?_
  ·
   obtain ⟨i, rfl⟩ : ∃ i, j = i + 1 := ⟨j - 1, by omega⟩; have bi := d32_lt l i; have ei := d64_mat l i (by omega); have hrb : r < b := (by rw [hr]; exact Nat.mod_lt _ hb0); obtain ⟨s1, s2⟩ := short_step (j := i) hb0 hr; rw [vL_digit] at s1 s2; obtain ⟨t, ht⟩ : ∃ t, t = r * 4294967296 + d32 l i := ⟨_, rfl⟩; rw [← ht] at s1 s2; have htq : t / b < 4294967296 := Nat.div_lt_of_lt_mul (by have := Nat.mul_le_mul_right 4294967296 (show r + 1 ≤ b by omega); omega); have hz : d32 out i = 0 := (by rw [← vL_digit, hv, Nat.pow_succ, Nat.mul_comm (4294967296 ^ i), ← Nat.mul_assoc, Nat.mul_div_cancel _ (Nat.pow_pos (by decide))]; exact Nat.mul_mod_left _ _); have hp := vL_put out i (t / b) (by omega); rw [hz, Nat.div_eq_of_lt htq] at hp; have ht64 : t < 18446744073709551616 := (by omega)
   refine J.skip ?_
   refine J.seq ?_
   refine J.block ?_
   refine Sr ?_
   refine Ru 1 rfl ?_
   refine JL.op (by first | exact RunV.mul_u64 rfl rfl (by omega) (by omega) | exact RunV.mul rfl rfl) rfl ?_
   refine Ru 2 rfl ?_
   refine JL.ope (RunE.index (m := i) sl_66 rfl rfl (by omega) hl hll.symm (by omega)) rfl ?_
   rintro _ ⟨b3, o3, hi3, rfl, hE3⟩
   refine JL.op (RunV.ld_u64 ag_63 rfl (by assumption)) rfl ?_
   rw [ei]
   refine JL.op (RunV.add_u64 rfl rfl (by omega) (by omega)) rfl ?_
   rw [show (r : Int) * 4294967296 + (d32 l i : Int) = (t : Int) by omega]
   refine Ru 1 rfl ?_
   refine JL.nil ?_
   refine Sr ?_
   refine Ru 4 rfl ?_
   refine JL.op (RunV.quo_u64 rfl rfl (by omega) (by omega) (by omega)) rfl ?_
   refine JL.op (RunV.index_at sl_66 (m := i) rfl rfl (by omega) (by omega)) rfl ?_
   refine JL.storeW (t / b) ag_63 rfl rfl (by rw [Nat.mod_eq_of_lt htq, Int.natCast_ediv]) dl_ (by omega) ?_
   refine JL.nil ?_
   refine Rg ?_
   refine Ru 2 rfl ?_
   refine JL.op (RunV.rem_u64 rfl rfl (by omega) (by omega)) rfl ?_
   rw [← Int.natCast_emod]
   refine Ru 1 rfl ?_
   refine JL.nil ?_
   refine Rg ?_
   refine Ru 1 rfl ?_
   refine JL.op si_ rfl ?_
   refine Ru 1 rfl ?_
   refine JL.nil ?_
   refine ⟨_, ?_, _, ?_, ⟨i, t % b, _, rfl, rfl, rfl, rfl, ⟨by omega, by rw [List.length_set]; exact hol, s2.symm, by rw [s1, Nat.add_mul, Nat.mul_assoc, Nat.mul_comm 4294967296, ← Nat.pow_succ, ← hv]; omega⟩⟩⟩
   ·
    omega
   ·
    repeat (first | exact trivial | refine ⟨rfl, ?_⟩ | refine ⟨(by exact some_int (by omega)), ?_⟩)
  ·
   have hj0 : j = 0 := (by omega); subst hj0; rw [Nat.pow_zero, Nat.div_one] at hr hv; rw [Nat.mul_one] at hv
   refine J.exit ?_
   refine Kp [6, 7] rfl ?_
   refine Sr ?_
   refine Ru 1 rfl ?_
   refine JL.pub64 dl_ hol.symm (by omega) (fun h9 hle9 hP9 => ?_); replace hh0 := hh0.mono hle9; replace hl := hl.mono hle9
   refine JL.callR ca_97 rfl (rcut_fn hP9 hol.symm) rfl ?_
   rintro _ h6 hle6 ⟨ra, rc, rfl, hR⟩
   replace hl := hl.mono hle6
   replace hh0 := hh0.mono hle6
   refine Ru 3 rfl ?_
   refine Nk [5, 4] rfl ?_
   rw [hv] at hR ⊢; rw [hr]; exact J.retR (RetV.two rfl rfl rfl) ⟨_, _, rfl, hR⟩
theorem rabove_fn {g k n cr N w : Nat} {av : Option Addr} {cv : Nat} {l : List UInt32} {h : Part} (hl : SlR u64R 1 h av cv (l.map m64)) (hn : n = l.length) (hw : w < 4294967296 ^ (k + n + 1)) (hk : k + n < N) (hN : N ≤ 1000000) :
    Fn Tryz.prog 125 [.slice (some ⟨g, 0, none⟩) N cr, .int .i64 k, .slice av n cv] h [.row (some ⟨g, 0, none⟩) cr 63 1 N (ws .u64 (digN N w))]
      (Rets fun v _ Lo => v = .bool (decide (vL l * 4294967296 ^ k ≤ w)) ∧ Lo = [.row (some ⟨g, 0, none⟩) cr 63 1 N (ws .u64 (digN N w))]) := by
  have hll : (l.map m64).length = l.length := List.length_map ..
  have hdl : (digN N w).length = N := digN_len _ _
  have hdig : ∀ j, j < N → d32 (digN N w) j = w / 4294967296 ^ j % 4294967296 := fun j hj => digN_at N w j hj
  have hlt := vL_lt l
  rw [← hn] at hlt
  have htop := hdig (k + n) hk
  have hwd : w / 4294967296 ^ (k + n) < 4294967296 := Nat.div_lt_of_lt_mul (by rw [← Nat.pow_succ]; exact hw)
  rw [Nat.mod_eq_of_lt hwd] at htop
  have hBk : 0 < 4294967296 ^ k := Nat.pow_pos (by decide)
  have hcmp : decide (vL l * 4294967296 ^ k ≤ w) = decide (vL l ≤ w / 4294967296 ^ k) := decide_eq_decide.2 (Nat.le_div_iff_mul_le hBk).symm
  rw [hcmp]
  obtain ⟨Y, hY⟩ : ∃ Y, Y = w / 4294967296 ^ k := ⟨_, rfl⟩
  have hdY : ∀ j, k + j < N → d32 (digN N w) (k + j) = Y / 4294967296 ^ j % 4294967296 := fun j hj => by
    rw [hdig _ hj, hY, Nat.div_div_eq_div_mul, ← Nat.pow_add]
  have hYn : w / 4294967296 ^ (k + n) = Y / 4294967296 ^ n := by rw [hY, Nat.div_div_eq_div_mul, ← Nat.pow_add]
  rw [hYn] at htop
  rw [← hY]
  refine Fn.intro Tryz.func125 rfl Tryz.ntmps125 rfl (fun e he => ?_)
  refine J.weak [(0, _), (1, _), (2, _)] ⟨rfl, rfl, rfl, trivial⟩ ?_
  refine Sr ?_
  refine Ru 1 rfl ?_
  refine JL.nil ?_
  refine J.seq ?_
  refine Sr ?_
  refine Ru 4 rfl ?_
  refine JL.op ai_ rfl ?_
  refine JL.op (RunV.index_at sl_66 (m := k + n) rfl rfl (by omega) (by omega)) rfl ?_
  refine JL.op (RunV.wload ag_63 rfl mm_ (by omega)) rfl ?_
  refine Ru 1 rfl ?_
  refine Nk [15, 6, 0, 1, 2] rfl ?_
  refine Cs rfl (fun hc1 => ?_) fun hc1 => ?_
  ·
   have hge : vL l ≤ Y := (by rcases Nat.lt_or_ge Y (4294967296 ^ n) with h1 | h1; (rw [Nat.div_eq_of_lt h1] at htop; omega); omega)
   refine Sr ?_
   refine Ru 1 rfl ?_
   refine JL.nil ?_
   exact J.ret ⟨_, [_], _, (RetV.one rfl rfl), .cons .here .nil, _, rfl, by rw [decide_eq_true hge], rfl⟩
  ·
   have hYlt : Y / 4294967296 ^ n = 0 := (by omega); have hlz : vL l / 4294967296 ^ n = 0 := Nat.div_eq_of_lt hlt
   refine J.skip ?_
   refine J.seq ?_
   refine Sr ?_
   refine Ru 2 rfl ?_
   refine JL.op si_ rfl ?_
   refine Ru 1 rfl ?_
   refine Nk [7, 6, 0, 1, 2] rfl ?_
   refine J.block ?_
   refine J.loop (fun t_ S_ h_ L_ => ∃ (j : Nat), t_ = j + 1 ∧ S_ = [(0, .slice (some ⟨g, 0, none⟩) N cr), (1, .int .i64 k), (2, .slice av n cv), (7, .int .i64 ((j : Int) - 1))] ∧ h = h_ ∧ L_ = [.row (some ⟨g, 0, none⟩) cr 63 1 N (ws .u64 (digN N w))] ∧ (j ≤ n ∧ Y / 4294967296 ^ j = vL l / 4294967296 ^ j)) ⟨_, _, ?_, ⟨n, rfl, rfl, rfl, rfl, ⟨Nat.le_refl _, by omega⟩⟩⟩ ?_
   ·
    repeat (first | exact trivial | refine ⟨rfl, ?_⟩ | refine ⟨(by exact some_int (by omega)), ?_⟩)
   rintro _ _ _ _ ⟨j, rfl, rfl, rfl, rfl, hj, he⟩
   refine J.seq ?_
   refine Sr ?_
   refine Ru 2 rfl ?_
   refine JL.nil ?_
   refine Cs rfl (fun hc2 => ?_) fun hc2 => ?_
   ·
    obtain ⟨i, rfl⟩ : ∃ i, j = i + 1 := ⟨j - 1, by omega⟩; have dl := div_low (vL l) i; have dy := div_low Y i; rw [vL_digit] at dl; rw [he] at dy; have hdi := hdY i (by omega); rw [← hdi] at dy; have ei := d64_mat l i (by omega)
    refine J.skip ?_
    refine J.seq ?_
    refine J.block ?_
    refine J.seq ?_
    refine J.drawn mixed_ (by kernel_rfl) ?_
    refine Rq 3 rfl ?_
    refine JQ.op ai_ rfl ?_
    refine JQ.op (RunV.index_at sl_66 (m := k + i) rfl rfl (by omega) (by omega)) rfl ?_
    refine JQ.op (RunV.wload ag_63 rfl mm_ (by omega)) rfl ?_
    refine Rq 2 rfl ?_
    refine JQ.ope (RunE.index (m := i) sl_66 rfl rfl (by omega) hl (by omega) (by omega)) rfl ?_
    rintro _ ⟨b3, o3, hi3, rfl, hE3⟩
    refine JQ.op (RunV.ld_u64 ag_63 rfl (by assumption)) rfl ?_
    rw [ei]
    refine Rq 1 rfl ?_
    refine JQ.nil ?_
    refine Cs rfl (fun hc5 => ?_) fun hc5 => ?_
    ·
     refine J.seq ?_
     refine J.drawn mixed_ (by kernel_rfl) ?_
     refine Rq 3 rfl ?_
     refine JQ.op ai_ rfl ?_
     refine JQ.op (RunV.index_at sl_66 (m := k + i) rfl rfl (by omega) (by omega)) rfl ?_
     refine JQ.op (RunV.wload ag_63 rfl mm_ (by omega)) rfl ?_
     refine Rq 2 rfl ?_
     refine JQ.ope (RunE.index (m := i) sl_66 rfl rfl (by omega) hl (by omega) (by omega)) rfl ?_
     rintro _ ⟨b6, o6, hi6, rfl, hE6⟩
     refine JQ.op (RunV.ld_u64 ag_63 rfl (by assumption)) rfl ?_
     rw [ei]
     refine Rq 2 rfl ?_
     refine JQ.nil ?_
     exact J.ret ⟨_, [_], _, (RetV.one rfl rfl), .cons .here .nil, _, rfl, congrArg Value.bool (by rcases Nat.lt_or_ge (d32 l i) (d32 (digN N w) (k + i)) with h1 | h1; (have := lt_of_div (x := vL l) (y := Y) (d := 4294967296 ^ i) (by omega); rw [decide_eq_true (by omega), decide_eq_true (by omega)]); (have := lt_of_div (x := Y) (y := vL l) (d := 4294967296 ^ i) (by omega); rw [decide_eq_false (by omega), decide_eq_false (by omega)])), rfl⟩
    ·
     refine J.skip ?_
     refine Rg ?_
     refine Ru 1 rfl ?_
     refine JL.op si_ rfl ?_
     refine Ru 1 rfl ?_
     refine JL.nil ?_
     refine ⟨_, ?_, _, ?_, ⟨i, rfl, rfl, rfl, rfl, ⟨by omega, by omega⟩⟩⟩
     ·
      omega
     ·
      repeat (first | exact trivial | refine ⟨rfl, ?_⟩ | refine ⟨(by exact some_int (by omega)), ?_⟩)
   ·
    have hj0 : j = 0 := (by omega); subst hj0; rw [Nat.pow_zero, Nat.div_one, Nat.div_one] at he
    refine J.exit ?_
    refine Kp [] rfl ?_
    refine Sr ?_
    refine Ru 1 rfl ?_
    refine JL.nil ?_
    exact J.ret ⟨_, [_], _, (RetV.one rfl rfl), .cons .here .nil, _, rfl, by rw [decide_eq_true (by omega)], rfl⟩
theorem dig_fn {a : Option Addr} {c i n : Nat} {l : List UInt32} {h : Part} (hl : SlR u64R 1 h a c (l.map m64)) (hn : n = l.length) : Pure Tryz.prog 57 [.slice a n c, .int .i64 i] h (.int .u64 (d32 l i : Nat)) := by
  have := digit_fn (i := i) hl
  rw [List.length_map, d64_map] at this
  rw [hn]; exact this
theorem rtake_fn {g k n cr N w gg : Nat} {av : Option Addr} {cv : Nat} {l : List UInt32} {h : Part} (hl : SlR u64R 1 h av cv (l.map m64)) (hn : n = l.length) (hw : w < 4294967296 ^ (k + n + 1)) (hk : k + n < N) (hN : N ≤ 1000000) (hg : gg < 4294967296) (hle : gg * (vL l * 4294967296 ^ k) ≤ w) :
    Fn Tryz.prog 126 [.slice (some ⟨g, 0, none⟩) N cr, .int .i64 k, .slice av n cv, .int .u64 gg] h [.row (some ⟨g, 0, none⟩) cr 63 1 N (ws .u64 (digN N w))]
      (Rets fun v _ Lo => v = .tuple #[] ∧ Lo = [.row (some ⟨g, 0, none⟩) cr 63 1 N (ws .u64 (digN N (w - gg * (vL l * 4294967296 ^ k))))]) := by
  have hll : (l.map m64).length = l.length := List.length_map ..
  have hdl : (digN N w).length = N := digN_len _ _
  have hvw : vL (digN N w) = w := by rw [vL_digN]; exact Nat.mod_eq_of_lt (Nat.lt_of_lt_of_le hw (Nat.pow_le_pow_right (by decide) (by omega)))
  have hzD : ∀ j, k + n < j → d32 (digN N w) j = 0 := fun j hj => vL_zero_above (m := k + n + 1) (by rw [vL_digN]; exact Nat.lt_of_le_of_lt (Nat.mod_le _ _) hw) j (by omega)
  refine Fn.intro Tryz.func126 rfl Tryz.ntmps126 rfl (fun e he => ?_)
  refine J.weak [(0, _), (1, _), (2, _), (3, _)] ⟨rfl, rfl, rfl, rfl, trivial⟩ ?_
  have hh0 := Part.le.refl h
  refine Sr ?_
  refine Ru 2 rfl ?_
  refine JL.nil ?_
  refine Sr ?_
  refine Ru 1 rfl ?_
  refine JL.nil ?_
  refine J.block ?_
  refine J.loop (fun t_ S_ h_ L_ => ∃ (i c b : Nat) (U : List UInt32), t_ = n + 1 - i ∧ S_ = [(0, .slice (some ⟨g, 0, none⟩) N cr), (1, .int .i64 k), (2, .slice av n cv), (3, .int .u64 gg), (8, .int .u64 c), (9, .int .u64 b), (10, .int .i64 i)] ∧ h = h_ ∧ L_ = [.row (some ⟨g, 0, none⟩) cr 63 1 N (ws .u64 U)] ∧ (i ≤ n + 1 ∧ U.length = N ∧ c < 4294967296 ∧ b ≤ 1 ∧ (∀ j, k + i ≤ j → d32 U j = d32 (digN N w) j) ∧ vL U + gg * vL (l.take i) * 4294967296 ^ k = w + (c + b) * 4294967296 ^ (k + i))) ⟨_, _, ?_, ⟨0, 0, 0, digN N w, rfl, rfl, rfl, rfl, ⟨by omega, hdl, by omega, by omega, fun _ _ => rfl, by rw [hvw]; simp [vL]⟩⟩⟩ ?_
  ·
   repeat (first | exact trivial | refine ⟨rfl, ?_⟩ | refine ⟨(by exact some_int (by omega)), ?_⟩)
  rintro _ _ _ _ ⟨i, c, b, U, rfl, rfl, rfl, rfl, hi, hUl, hc, hb, hUj, hv⟩
  refine J.seq ?_
  refine Sr ?_
  refine Ru 4 rfl ?_
  refine JL.nil ?_
  refine Cs rfl (fun hc1 => ?_) fun hc1 => ?_
  ·
   have hi' : i ≤ n := (by omega); have bi := d32_lt l i; have bu := d32_lt U (k + i); have hCl := carry_lt hc hg bi (show 0 < 4294967296 by decide); obtain ⟨C, hC⟩ : ∃ C, C = c + gg * d32 l i := ⟨_, rfl⟩; have hC64 : C < 18446744073709551616 := (by omega); obtain ⟨dd, hdd⟩ : ∃ dd : Nat, dd = 4294967296 + d32 U (k + i) - C % 4294967296 - b := ⟨_, rfl⟩; obtain ⟨ee, hee⟩ : ∃ ee : Nat, ee = if dd < 4294967296 then 1 else 0 := ⟨_, rfl⟩; have he1 : ee ≤ 1 := (by rw [hee]; split <;> omega); have hre : d32 U (k + i) + ee * 4294967296 = b + C % 4294967296 + dd % 4294967296 := (by rw [hee]; split <;> omega); have hrB : dd % 4294967296 < 4294967296 := (by omega); rw [hC] at hre; have hst := sub_step (g := gg) (by omega) hv hrB hre; rw [← hC] at hst hre
   refine J.skip ?_
   refine J.seq ?_
   refine J.block ?_
   refine Sr ?_
   refine Ru 4 rfl ?_
   refine JL.callP ca_57 rfl (dig_fn hl hn) rfl ?_
   refine JL.op (RunV.mul_u64 rfl rfl (by rw [← Int.natCast_mul]; omega) (by rw [← Int.natCast_mul]; omega)) rfl ?_
   refine JL.op (RunV.add_u64 rfl rfl (by rw [← Int.natCast_mul]; omega) (by rw [← Int.natCast_mul]; omega)) rfl ?_
   rw [show (c : Int) + (gg : Int) * (d32 l i : Int) = (C : Int) by rw [hC, Int.natCast_add, Int.natCast_mul]]
   refine Ru 1 rfl ?_
   refine JL.nil ?_
   refine Sr ?_
   refine Ru 3 rfl ?_
   refine JL.op ai_ rfl ?_
   refine JL.op (RunV.index_at sl_66 (m := k + i) rfl rfl (by omega) (by omega)) rfl ?_
   refine JL.op (RunV.wload ag_63 rfl mm_ (by omega)) rfl ?_
   refine JL.op (by first | exact RunV.add_u64 rfl rfl (by omega) (by omega) | exact RunV.add rfl rfl) rfl ?_
   refine Ru 1 rfl ?_
   refine JL.op (by first | exact RunV.rem_u64 rfl rfl (by omega) (by omega) | exact RunV.rem rfl rfl (by omega)) rfl ?_
   refine JL.op (by first | exact RunV.sub_u64 rfl rfl (by omega) (by omega) | exact RunV.sub rfl rfl) rfl ?_
   refine Ru 1 rfl ?_
   refine JL.op (by first | exact RunV.sub_u64 rfl rfl (by omega) (by omega) | exact RunV.sub rfl rfl) rfl ?_
   rw [show (4294967296 : Int) + (d32 U (k + i) : Int) - (C : Int) % 4294967296 - (b : Int) = (dd : Int) by omega]
   refine Ru 1 rfl ?_
   refine JL.nil ?_
   refine Sr ?_
   refine Ru 1 rfl ?_
   refine JL.op (by first | exact RunV.quo_u64 rfl rfl (by omega) (by omega) (by omega) | exact RunV.quo rfl rfl (by omega)) rfl ?_
   refine Ru 1 rfl ?_
   refine JL.nil ?_
   refine Sr ?_
   refine Ru 1 rfl ?_
   refine JL.nil ?_
   refine J.seq ?_
   refine Sr ?_
   refine Ru 2 rfl ?_
   refine JL.nil ?_
   refine J.meet [(9, .int .u64 ee)] [(39, _), (8, _), (38, _), (37, _), (11, _), (36, _), (35, _), (34, _), (33, _), (32, _), (31, _), (30, _), (29, _), (28, _), (27, _), (26, _), (25, _), (24, _), (23, _), (22, _), (21, _), (20, _), (19, _), (18, _), (15, _), (14, _), (13, _), (12, _), (0, _), (1, _), (2, _), (3, _), (10, _)] ⟨rfl, rfl, rfl, rfl, rfl, rfl, rfl, rfl, rfl, rfl, rfl, rfl, rfl, rfl, rfl, rfl, rfl, rfl, rfl, rfl, rfl, rfl, rfl, rfl, rfl, rfl, rfl, rfl, rfl, rfl, rfl, rfl, rfl, trivial⟩ ?_ ?_
   ·
    refine Cs rfl (fun hc3 => ?_) fun hc3 => ?_
    ·
     refine Rg ?_
     refine Ru 1 rfl ?_
     refine JL.nil ?_
     refine ⟨rfl, rfl, ?_⟩
     repeat (first | exact trivial | refine ⟨rfl, ?_⟩ | refine ⟨(by exact some_int (by rw [hee]; split <;> omega)), ?_⟩)
    ·
     refine J.skip ?_
     refine ⟨rfl, rfl, ?_⟩
     repeat (first | exact trivial | refine ⟨rfl, ?_⟩ | refine ⟨(by exact some_int (by rw [hee]; split <;> omega)), ?_⟩)
   ·
    refine Rg ?_
    refine Ru 3 rfl ?_
    refine JL.op ai_ rfl ?_
    refine Ru 1 rfl ?_
    refine JL.op (by first | exact RunV.rem_u64 rfl rfl (by omega) (by omega) | exact RunV.rem rfl rfl (by omega)) rfl ?_
    refine JL.op (RunV.index_at sl_66 (m := k + i) rfl rfl (by omega) (by omega)) rfl ?_
    refine JL.storeW (dd % 4294967296) ag_63 rfl rfl (by omega) dl_ (by omega) ?_
    refine JL.nil ?_
    refine Rg ?_
    refine Ru 1 rfl ?_
    refine JL.op ai_ rfl ?_
    refine Ru 1 rfl ?_
    refine JL.nil ?_
    refine ⟨_, ?_, _, ?_, ⟨i + 1, C / 4294967296, ee, _, rfl, rfl, rfl, rfl, ⟨by omega, by rw [List.length_set]; exact hUl, by omega, he1, fun j hj => by rw [d32_set _ _ _ _ (by omega), if_neg (by omega)]; exact hUj j (by omega), hst⟩⟩⟩
    ·
     omega
    ·
     repeat (first | exact trivial | refine ⟨rfl, ?_⟩ | refine ⟨(by exact some_int (by omega)), ?_⟩)
  ·
   have hie : i = n + 1 := (by omega); subst hie; rw [List.take_of_length_le (by omega), Nat.mul_assoc] at hv; have hok := take_ok (n := n) hUl hv (fun j hj => by rw [hUj j (by omega)]; exact hzD j hj) hle
   refine J.exit ?_
   exact ⟨_, [_], _, (RetV.none_ rfl), .cons .here .nil, _, rfl, rfl, by rw [hok]⟩
end Go.Proofs.YtmngjbefnloljaaGreatDoor
set_option linter.unusedSimpArgs false
set_option linter.unusedVariables false
set_option linter.constructorNameAsVariable false
namespace Go.Proofs.YtmngjbefnloljaaGreatDoor
open Go Go.RowKit
set_option maxRecDepth 100000
theorem ca_124 : callT Tryz.prog 124 = true := by kernel_rfl
theorem ca_125 : callT Tryz.prog 125 = true := by kernel_rfl
theorem ca_126 : callT Tryz.prog 126 = true := by kernel_rfl
theorem rtimes_fn' {a b : Option Addr} {ca cb n m : Nat} {A B : List UInt32} {h : Part} (hA : SlR u64R 1 h a ca (A.map m64)) (hB : SlR u64R 1 h b cb (B.map m64)) (hn : n = A.length) (hm : m = B.length) (hlb : A.length ≤ 200000) (hrb : B.length ≤ 200000) : FnR Tryz.prog 89 [.slice a n ca, .slice b m cb] h (fun v h' => ∃ a c, v = .slice a (toL (vL A * vL B)).length c ∧ SlR u64R 1 h' a c ((toL (vL A * vL B)).map m64)) := by
  subst hn hm; exact rtimes_fn hA hB hlb hrb
theorem rshortly_fn' {a : Option Addr} {c b n : Nat} {l : List UInt32} {h : Part} (hl : SlR u64R 1 h a c (l.map m64)) (hn : n = l.length) (hb0 : 0 < b) (hb : b ≤ 4294967296) (hlb : l.length ≤ 1000000) : FnR Tryz.prog 124 [.slice a n c, .int .u64 b] h
    (fun v h' => ∃ a1 c1, v = .tuple #[.slice a1 (toL (vL l / b)).length c1, .int .u64 (vL l % b : Nat)] ∧ SlR u64R 1 h' a1 c1 ((toL (vL l / b)).map m64)) := by
  subst hn; exact rshortly_fn hl hb0 hb hlb
theorem vL_one (f : Nat) (h : f < 4294967296) : vL (digN 1 f) = f := by
  rw [vL_digN]; exact Nat.mod_eq_of_lt (by omega)
theorem ws_one (f : Nat) (h : f < 4294967296) : ws .u64 (digN 1 f) = [.int .u64 f] := by
  simp [ws, digN]; omega
theorem cells_one {h : Part} (f : Nat) (hf : f < 4294967296) : CellsR u64R 1 h [.int .u64 f] ((digN 1 f).map m64) := ws_one f hf ▸ CellsR.of_ws64
theorem copy_step {U P : List UInt32} {i N : Nat} (hN : U.length = N) (h : vL U = vL (P.take i)) (hi : i < N) : vL (U.set i (UInt32.ofNat (d32 P i))) = vL (P.take (i + 1)) := by
  have hz : d32 U i = 0 := vL_zero_above (m := i) (by rw [h]; exact vL_take_lt P i) i (Nat.le_refl _)
  have hp := vL_put U i (d32 P i) (by omega)
  rw [hz, Nat.div_eq_of_lt (d32_lt _ _), Nat.zero_mul, Nat.zero_mul] at hp
  rw [vL_take_succ]; omega
theorem take_mod {z V D g W : Nat} (h : g * (V * D) ≤ z) (e : z % V = W % V) : (z - g * (V * D)) % V = W % V := by
  have e1 : g * (V * D) = V * (g * D) := by grind
  rw [e1] at h ⊢
  rw [Nat.sub_mul_mod h]; exact e
theorem rest_end {X Y M f w : Nat} (hf : 0 < f) (hM : 0 < M) (h : w < M * f) (e : w % (M * f) = X * f * Y % (M * f)) : w / f = X * Y % M := by
  rw [Nat.mod_eq_of_lt h, show X * f * Y = X * Y * f by grind, Nat.mul_mod_mul_right] at e
  rw [e]; exact Nat.mul_div_cancel _ hf
theorem u_digs {z NN i n V : Nat} (hn1 : 1 ≤ n) (hV : V < 4294967296 ^ n) (hz : z < V * 4294967296 ^ (i + 1)) (hN : i + n < NN) : z < 4294967296 ^ (i + n + 1) ∧ d32 (digN NN z) (i + n) * 4294967296 + d32 (digN NN z) (i + n - 1) = z / 4294967296 ^ (i + (n - 1)) := by
  have h1 : z < 4294967296 ^ (i + n + 1) := by
    refine Nat.lt_of_lt_of_le hz ?_
    rw [show i + n + 1 = n + (i + 1) by omega, Nat.pow_add 4294967296 n (i + 1)]
    exact Nat.mul_le_mul_right _ (Nat.le_of_lt hV)
  refine ⟨h1, ?_⟩
  rw [digN_at _ _ _ (by omega), digN_at _ _ _ (by omega)]
  have e1 : z / 4294967296 ^ (i + n) = z / 4294967296 ^ (i + (n - 1)) / 4294967296 := by
    rw [Nat.div_div_eq_div_mul, ← Nat.pow_succ]; congr 2; omega
  have h2 : z / 4294967296 ^ (i + n) < 4294967296 := Nat.div_lt_of_lt_mul (by rw [← Nat.pow_succ]; exact h1)
  rw [Nat.mod_eq_of_lt h2, e1, show i + n - 1 = i + (n - 1) by omega]
  omega
theorem top_dig {V : List UInt32} {n : Nat} (hn : n = V.length) (hn1 : 1 ≤ n) : d32 V (n - 1) = vL V / 4294967296 ^ (n - 1) := by
  rw [← vL_digit]
  refine Nat.mod_eq_of_lt (Nat.div_lt_of_lt_mul ?_)
  rw [← Nat.pow_succ, show (n - 1).succ = n by omega, hn]; exact vL_lt V
theorem guess_pack {z NN i n q : Nat} {V : List UInt32} (hn : n = V.length) (hn1 : 1 ≤ n) (hz : z < vL V * 4294967296 ^ (i + 1)) (hN : i + n < NN) (hab : vL V * 4294967296 ^ i ≤ z) (hV0 : 0 < vL V)
    (hq : q = (d32 (digN NN z) (i + n) * 4294967296 + d32 (digN NN z) (i + n - 1)) / (d32 V (n - 1) + 1)) :
    q < 4294967296 ∧ (if q = 0 then 1 else q) < 4294967296 ∧ (if q = 0 then 1 else q) * (vL V * 4294967296 ^ i) ≤ z ∧ z - (if q = 0 then 1 else q) * (vL V * 4294967296 ^ i) < z ∧ z < 4294967296 ^ (i + n + 1) := by
  have hlt := vL_lt V
  rw [← hn] at hlt
  obtain ⟨h1, h2⟩ := u_digs hn1 hlt hz hN
  rw [h2, top_dig hn hn1] at hq
  have hg := guess_ref z (vL V) i (n - 1)
  rw [← hq] at hg
  have hD : 0 < vL V * 4294967296 ^ i := Nat.mul_pos hV0 (Nat.pow_pos (by decide))
  rw [Nat.pow_succ, ← Nat.mul_assoc] at hz
  generalize vL V * 4294967296 ^ i = D at *
  have hqB : q < 4294967296 := by
    rcases Nat.lt_or_ge q 4294967296 with h | h
    · exact h
    · have := Nat.mul_le_mul_right D h
      rw [Nat.mul_comm D] at hz; omega
  have hg2 : (if q = 0 then 1 else q) * D ≤ z := by split <;> simp_all
  have hg3 : 0 < (if q = 0 then 1 else q) * D := Nat.mul_pos (by split <;> omega) hD
  exact ⟨hqB, by split <;> omega, hg2, by omega, h1⟩
set_option maxHeartbeats 1000000 in
theorem rest_fn {a b d : Option Addr} {ca cb cd M f n na nb : Nat} {A B V : List UInt32} {h : Part} (hA : SlR u64R 1 h a ca (A.map m64)) (hB : SlR u64R 1 h b cb (B.map m64)) (hV : SlR u64R 1 h d cd (V.map m64)) (hna : na = A.length) (hnb : nb = B.length) (hn : n = V.length) (hn1 : 1 ≤ n)
    (hf0 : 0 < f) (hf : f < 4294967296) (hM : 0 < M) (hvV : vL V = M * f) (hVn : 4294967296 ^ (n - 1) ≤ vL V) (hlA : A.length ≤ 100000) (hlB : B.length ≤ 100000) (hlV : V.length ≤ 100000) :
    FnR Tryz.prog 91 [.slice a na ca, .slice b nb cb, .slice d n cd, .int .u64 f] h (fun v h' => ∃ a1 c1, v = .slice a1 (toL (vL A * vL B % M)).length c1 ∧ SlR u64R 1 h' a1 c1 ((toL (vL A * vL B % M)).map m64)) := by
  have hV0 : 0 < vL V := by rw [hvV]; exact Nat.mul_pos hM hf0
  have l1 : (digN 1 f).length = 1 := digN_len 1 f
  have hf1 := vL_one f hf
  have n1 : (toL (vL A * f)).length ≤ A.length + 1 := by
    rw [toL_len]; exact nd_le _ _ (mul_bound (vL_lt A) (by omega))
  have n2 : (toL (vL A * f * vL B)).length ≤ A.length + 1 + B.length := by
    rw [toL_len]; exact nd_le _ _ (mul_bound (mul_bound (vL_lt A) (by omega)) (vL_lt B))
  obtain ⟨W, hW⟩ : ∃ W, W = vL A * f * vL B := ⟨_, rfl⟩
  obtain ⟨N, hN⟩ : ∃ N, N = (toL W).length + 1 := ⟨_, rfl⟩
  have hPl : ((toL W).map m64).length = (toL W).length := List.length_map ..
  rw [← hW] at n2
  have hWl : W < 4294967296 ^ (N - 1) := by rw [hN, toL_len]; exact lt_nd W
  have hW0 : W < vL V * 4294967296 ^ (N - n) := by
    refine Nat.lt_of_lt_of_le hWl (Nat.le_trans (Nat.pow_le_pow_right (by decide) (show N - 1 ≤ (n - 1) + (N - n) by omega)) ?_)
    rw [Nat.pow_add]; exact Nat.mul_le_mul_right _ hVn
  refine Fn.intro Tryz.func91 rfl Tryz.ntmps91 rfl (fun e he => ?_)
  refine J.weak [(0, _), (1, _), (2, _), (3, _)] ⟨rfl, rfl, rfl, rfl, trivial⟩ ?_
  have hh0 := Part.le.refl h
  refine Sr ?_
  refine Ru 1 rfl ?_
  refine JL.nil ?_
  refine Sr ?_
  refine Ru 2 rfl ?_
  refine JL.lit1 ap_66 zr_63 rfl rfl rfl rfl rfl (fun b1 => ?_)
  refine JL.pubB (R := u64R) (sz := 1) (l := (digN 1 f).map m64) dl_ ((cells_one f hf)) (by first | decide | omega | (rw [digN_len]; decide) | (simp; done) | (simp [digN_len]; done)) (fun h2 hle2 hF => ?_)
  replace hA := hA.mono hle2
  replace hB := hB.mono hle2
  replace hV := hV.mono hle2
  replace hh0 := hh0.mono hle2
  refine JL.callR ca_89 rfl (rtimes_fn' hA hF hna (by omega) (by omega) (by omega)) rfl ?_
  rintro _ h3 hle3 ⟨ta, tc, rfl, hT⟩
  replace hA := hA.mono hle3
  replace hB := hB.mono hle3
  replace hV := hV.mono hle3
  replace hh0 := hh0.mono hle3
  replace hF := hF.mono hle3
  rw [hf1] at hT ⊢
  refine Ru 1 rfl ?_
  refine JL.callR ca_89 rfl (rtimes_fn' hT hB rfl hnb (by omega) (by omega)) rfl ?_
  rintro _ h4 hle4 ⟨pa, pc, rfl, hP⟩
  replace hA := hA.mono hle4
  replace hB := hB.mono hle4
  replace hV := hV.mono hle4
  replace hh0 := hh0.mono hle4
  replace hF := hF.mono hle4
  replace hT := hT.mono hle4
  rw [vL_toL, ← hW] at hP ⊢
  refine Ru 1 rfl ?_
  refine Nk [9, 8, 2, 3] rfl ?_
  refine Sr ?_
  refine Ru 2 rfl ?_
  refine JL.op ai_ rfl ?_
  refine JL.make1 mk_66 rfl rfl (m := N) (by omega) (by omega) (by omega) rfl rfl (fun bu => ?_); rw [ws_zero]
  refine Ru 1 rfl ?_
  refine JL.nil ?_
  refine J.seq ?_
  refine Sr ?_
  refine Ru 1 rfl ?_
  refine JL.nil ?_
  refine J.block ?_
  refine J.loop (fun t_ S_ h_ L_ => ∃ (i : Nat) (U : List UInt32), t_ = (toL W).length - i ∧ S_ = [(2, .slice d n cd), (3, .int .u64 f), (9, .slice pa (toL W).length pc), (10, .slice (some ⟨bu, 0, none⟩) N N), (11, .int .i64 i)] ∧ h4 = h_ ∧ L_ = [.row (some ⟨bu, 0, none⟩) N 63 1 N (ws .u64 U)] ∧ (i ≤ (toL W).length ∧ U.length = N ∧ vL U = vL ((toL W).take i))) ⟨_, _, ?_, ⟨0, _, rfl, rfl, rfl, rfl, ⟨by omega, digN_len _ _, by rw [vL_digN]; simp [vL]⟩⟩⟩ ?_
  ·
   repeat (first | exact trivial | refine ⟨rfl, ?_⟩ | refine ⟨(by exact some_int (by omega)), ?_⟩)
  rintro _ _ _ _ ⟨i, U, rfl, rfl, rfl, rfl, hi, hUl, hUv⟩
  refine J.seq ?_
  refine Sr ?_
  refine Ru 4 rfl ?_
  refine JL.nil ?_
  refine Cs rfl (fun hc6 => ?_) fun hc6 => ?_
  ·
   have hi' : i < (toL W).length := (by omega); have ei := d64_mat (toL W) i (by omega); have bi := d32_lt (toL W) i; have hst := copy_step hUl hUv (show i < N by omega)
   refine J.skip ?_
   refine J.seq ?_
   refine J.block ?_
   refine Rg ?_
   refine Ru 4 rfl ?_
   refine JL.ope (RunE.index (m := i) sl_66 rfl rfl (by omega) hP hPl.symm (by omega)) rfl ?_
   rintro _ ⟨b7, o7, hi7, rfl, hE7⟩
   refine JL.op (RunV.ld_u64 ag_63 rfl (by assumption)) rfl ?_
   rw [ei]
   refine JL.op (RunV.index_at sl_66 (m := i) rfl rfl (by omega) (by omega)) rfl ?_
   refine JL.storeW (d32 (toL W) i) ag_63 rfl rfl (by rw [Nat.mod_eq_of_lt bi]) dl_ (by omega) ?_
   refine JL.nil ?_
   refine Rg ?_
   refine Ru 1 rfl ?_
   refine JL.op ai_ rfl ?_
   refine Ru 1 rfl ?_
   refine JL.nil ?_
   refine ⟨_, ?_, _, ?_, ⟨i + 1, _, rfl, rfl, rfl, rfl, ⟨by omega, by rw [List.length_set]; exact hUl, hst⟩⟩⟩
   ·
    omega
   ·
    repeat (first | exact trivial | refine ⟨rfl, ?_⟩ | refine ⟨(by exact some_int (by omega)), ?_⟩)
  ·
   have hie : i = (toL W).length := (by omega); have hUd : U = digN N W := (by refine digN_fix hUl ?_; rw [hUv, hie, List.take_length, vL_toL]); subst hUd
   refine J.exit ?_
   refine Kp [2, 3, 10] rfl ?_
   refine Sr ?_
   refine Ru 3 rfl ?_
   refine JL.nil ?_
   refine J.seq ?_
   refine Sr ?_
   refine Ru 3 rfl ?_
   refine JL.op si_ rfl ?_
   refine JL.op si_ rfl ?_
   refine Ru 1 rfl ?_
   refine Nk [13, 12, 2, 3, 10] rfl ?_
   refine J.block ?_
   refine J.loop (fun t_ S_ h_ L_ => ∃ (g : Part) (j w : Nat) (q : Int), t_ = j + 1 ∧ S_ = [(2, .slice d n cd), (3, .int .u64 f), (10, .slice (some ⟨bu, 0, none⟩) N N), (12, .int .i64 n), (13, .int .i64 q)] ∧ g = h_ ∧ L_ = [.row (some ⟨bu, 0, none⟩) N 63 1 N (ws .u64 (digN N w))] ∧ (h.le g ∧ SlR u64R 1 g d cd (V.map m64) ∧ -2000000 ≤ q ∧ q + n < N ∧ (q < 0 → j = 0) ∧ (0 ≤ q → q = (j : Int) - 1) ∧ w ≤ W ∧ w < vL V * 4294967296 ^ j ∧ w % vL V = W % vL V)) ⟨_, _, ?_, ⟨_, N - n, W, (N : Int) - n - 1, rfl, rfl, rfl, rfl, ⟨hh0, hV, by omega, by omega, by omega, by omega, Nat.le_refl _, hW0, rfl⟩⟩⟩ ?_
   ·
    repeat (first | exact trivial | refine ⟨rfl, ?_⟩ | refine ⟨(by exact some_int (by omega)), ?_⟩)
   rintro _ _ _ _ ⟨g, j, w, q, rfl, rfl, rfl, rfl, hhg, hV, hq0, hqN, hq1, hq2, hww, hwj, hwm⟩
   refine J.seq ?_
   refine Sr ?_
   refine Ru 2 rfl ?_
   refine JL.nil ?_
   refine Cs rfl (fun hc10 => ?_) fun hc10 => ?_
   ·
    obtain ⟨i, rfl, rfl⟩ : ∃ i : Nat, j = i + 1 ∧ q = (i : Int) := ⟨j - 1, by omega, by omega⟩
    refine J.skip ?_
    refine J.seq ?_
    refine J.block ?_
    refine J.block ?_
    refine J.loop (fun t_ S_ h_ L_ => ∃ (g2 : Part) (z : Nat), t_ = z + 1 ∧ S_ = [(2, .slice d n cd), (3, .int .u64 f), (10, .slice (some ⟨bu, 0, none⟩) N N), (12, .int .i64 n), (13, .int .i64 i)] ∧ g2 = h_ ∧ L_ = [.row (some ⟨bu, 0, none⟩) N 63 1 N (ws .u64 (digN N z))] ∧ (h.le g2 ∧ SlR u64R 1 g2 d cd (V.map m64) ∧ z ≤ W ∧ z < vL V * 4294967296 ^ (i + 1) ∧ z % vL V = W % vL V)) ⟨_, _, ?_, ⟨_, w, rfl, rfl, rfl, rfl, ⟨hhg, hV, hww, hwj, hwm⟩⟩⟩ ?_
    ·
     repeat (first | exact trivial | refine ⟨rfl, ?_⟩)
    rintro _ _ _ _ ⟨g2, z, rfl, rfl, rfl, rfl, hhg, hV, hzw, hzj, hzm⟩
    refine J.seq ?_
    refine Sr ?_
    refine Ru 3 rfl ?_
    refine JL.call ca_125 rfl (rabove_fn (k := i) (w := z) hV hn (u_digs hn1 (by rw [hn]; exact vL_lt V) hzj (show i + n < N by omega)).1 (by omega) (by omega)) pt_ rfl ?_
    rintro _ h11 Lo11 hle11 ⟨rfl, rfl⟩
    replace hhg := hhg.mono hle11
    replace hV := hV.mono hle11
    refine JL.nil ?_
    refine Cs rfl (fun hc12 => ?_) fun hc12 => ?_
    ·
     obtain ⟨t, ht⟩ : ∃ t, t = (d32 (digN N z) (i + n) * 4294967296 + d32 (digN N z) (i + n - 1)) / (d32 V (n - 1) + 1) := ⟨_, rfl⟩; obtain ⟨g1, g2', g3, g4, g5⟩ := guess_pack hn hn1 hzj (show i + n < N by omega) hc12 hV0 ht; obtain ⟨e, he⟩ : ∃ e, e = if t = 0 then 1 else t := ⟨_, rfl⟩; rw [← he] at g2' g3 g4; have bz1 := d32_lt (digN N z) (i + n); have bz0 := d32_lt (digN N z) (i + n - 1); have bv := d32_lt V (n - 1); have hdl : (digN N z).length = N := digN_len _ _; have ev := d64_mat V (n - 1) (by rw [List.length_map]; omega); have hVl : (V.map m64).length = V.length := List.length_map ..
     refine J.skip ?_
     refine J.block ?_
     refine J.seq ?_
     refine J.held ([.row (some ⟨bu, 0, none⟩) N 63 1 N (ws .u64 (digN N z))]) 23 mixed_ rfl (fun h00 => ?_)
     refine JH.take 0 rfl (by kernel_rfl) (by kernel_rfl) (by kernel_rfl) (fun _ _ _ _ hh => hh) (br_ h00) (RunV.move rfl) rfl ?_
     refine JH.take 1 rfl (by kernel_rfl) (by kernel_rfl) (by kernel_rfl) (fun _ _ _ _ hh => hh) (br_ h00) (RunV.move rfl) rfl ?_
     refine JH.take 2 rfl (by kernel_rfl) (by kernel_rfl) (by kernel_rfl) (fun _ _ _ _ hh => hh) (br_ h00) (RunV.move rfl) rfl ?_
     refine JH.take 3 rfl (by kernel_rfl) (by kernel_rfl) (by kernel_rfl) (fun _ _ _ _ hh => hh) (br_ h00) ai_ rfl ?_
     refine JH.take 4 rfl (by kernel_rfl) (by kernel_rfl) (by kernel_rfl) (fun _ _ _ _ hh => hh) (br_ h00) (RunV.index_at sl_66 (m := i + n) rfl rfl (by omega) (by omega)) rfl ?_
     refine JH.take 5 rfl (by kernel_rfl) (by kernel_rfl) (by kernel_rfl) (fun _ _ _ _ hh => hh) (br_ h00) (RunV.wload ag_63 rfl mm_ (by omega)) rfl ?_
     refine JH.take 6 rfl (by kernel_rfl) (by kernel_rfl) (by kernel_rfl) (fun _ _ _ _ hh => hh) (br_ h00) (RunV.mul_u64 rfl rfl (by omega) (by omega)) rfl ?_
     refine JH.take 7 rfl (by kernel_rfl) (by kernel_rfl) (by kernel_rfl) (fun _ _ _ _ hh => hh) (br_ h00) (RunV.move rfl) rfl ?_
     refine JH.take 8 rfl (by kernel_rfl) (by kernel_rfl) (by kernel_rfl) (fun _ _ _ _ hh => hh) (br_ h00) (RunV.move rfl) rfl ?_
     refine JH.take 9 rfl (by kernel_rfl) (by kernel_rfl) (by kernel_rfl) (fun _ _ _ _ hh => hh) (br_ h00) (RunV.move rfl) rfl ?_
     refine JH.take 10 rfl (by kernel_rfl) (by kernel_rfl) (by kernel_rfl) (fun _ _ _ _ hh => hh) (br_ h00) ai_ rfl ?_
     refine JH.take 11 rfl (by kernel_rfl) (by kernel_rfl) (by kernel_rfl) (fun _ _ _ _ hh => hh) (br_ h00) si_ rfl ?_
     refine JH.take 12 rfl (by kernel_rfl) (by kernel_rfl) (by kernel_rfl) (fun _ _ _ _ hh => hh) (br_ h00) (RunV.index_at sl_66 (m := i + n - 1) rfl rfl (by omega) (by omega)) rfl ?_
     refine JH.take 13 rfl (by kernel_rfl) (by kernel_rfl) (by kernel_rfl) (fun _ _ _ _ hh => hh) (br_ h00) (RunV.wload ag_63 rfl mm_ (by omega)) rfl ?_
     refine JH.take 14 rfl (by kernel_rfl) (by kernel_rfl) (by kernel_rfl) (fun _ _ _ _ hh => hh) (br_ h00) (RunV.add_u64 rfl rfl (by omega) (by omega)) rfl ?_
     rw [show ((d32 (digN N z) (i + n) : Nat) : Int) * 4294967296 + (d32 (digN N z) (i + n - 1) : Nat) = ((d32 (digN N z) (i + n) * 4294967296 + d32 (digN N z) (i + n - 1) : Nat) : Int) by omega]
     refine JH.take 15 rfl (by kernel_rfl) (by kernel_rfl) (by kernel_rfl) (fun _ _ _ _ hh => hh) (br_ h00) (RunV.move rfl) rfl ?_
     refine JH.take 16 rfl (by kernel_rfl) (by kernel_rfl) (by kernel_rfl) (fun _ _ _ _ hh => hh) (br_ h00) (RunV.move rfl) rfl ?_
     refine JH.take 17 rfl (by kernel_rfl) (by kernel_rfl) (by kernel_rfl) (fun _ _ _ _ hh => hh) (br_ h00) si_ rfl ?_
     refine JH.takeE 18 rfl (by kernel_rfl) (by kernel_rfl) (by kernel_rfl) (fun _ _ _ _ hh => hh) (br_ h00) (RunE.index (m := n - 1) sl_66 rfl rfl (by omega) hV (by omega) (by omega)) rfl ?_
     rintro _ ⟨b13, o13, hi13, rfl, hE13⟩
     refine JH.take 19 rfl (by kernel_rfl) (by kernel_rfl) (by kernel_rfl) (fun _ _ _ _ hh => hh) (br_ h00) (RunV.ld_u64 ag_63 rfl (by assumption)) rfl ?_
     rw [ev]
     refine JH.take 20 rfl (by kernel_rfl) (by kernel_rfl) (by kernel_rfl) (fun _ _ _ _ hh => hh) (br_ h00) (by first | exact RunV.add_u64 rfl rfl (by omega) (by omega) | exact RunV.add rfl rfl) rfl ?_
     rw [show ((d32 V (n - 1) : Nat) : Int) + 1 = ((d32 V (n - 1) + 1 : Nat) : Int) by omega]
     refine JH.take 21 rfl (by kernel_rfl) (by kernel_rfl) (by kernel_rfl) (fun _ _ _ _ hh => hh) (br_ h00) (by first | exact RunV.quo_u64 rfl rfl (by omega) (by omega) (by omega) | exact RunV.quo rfl rfl (by omega)) rfl ?_
     rw [← Int.natCast_ediv, ← ht]
     refine JH.take 22 rfl (by kernel_rfl) (by kernel_rfl) (by kernel_rfl) (fun _ _ _ _ hh => hh) (br_ h00) (RunV.assign rfl) rfl ?_
     refine JH.done (by kernel_rfl) ?_
     refine J.seq ?_
     refine Sr ?_
     refine Ru 2 rfl ?_
     refine JL.nil ?_
     refine J.meet [(14, .int .u64 e)] [(77, _), (76, _), (75, _), (74, _), (73, _), (72, _), (71, _), (70, _), (69, _), (68, _), (67, _), (66, _), (65, _), (64, _), (63, _), (62, _), (61, _), (60, _), (59, _), (58, _), (57, _), (56, _), (55, _), (54, _), (53, _), (52, _), (51, _), (2, _), (3, _), (10, _), (12, _), (13, _)] ⟨rfl, rfl, rfl, rfl, rfl, rfl, rfl, rfl, rfl, rfl, rfl, rfl, rfl, rfl, rfl, rfl, rfl, rfl, rfl, rfl, rfl, rfl, rfl, rfl, rfl, rfl, rfl, rfl, rfl, rfl, rfl, rfl, trivial⟩ ?_ ?_
     ·
      refine Cs rfl (fun hc15 => ?_) fun hc15 => ?_
      ·
       refine Rg ?_
       refine Ru 1 rfl ?_
       refine JL.nil ?_
       refine ⟨rfl, rfl, ?_⟩
       repeat (first | exact trivial | refine ⟨rfl, ?_⟩ | refine ⟨(by exact some_int (by rw [he]; split <;> omega)), ?_⟩)
      ·
       refine J.skip ?_
       refine ⟨rfl, rfl, ?_⟩
       repeat (first | exact trivial | refine ⟨rfl, ?_⟩ | refine ⟨(by exact some_int (by rw [he]; split <;> omega)), ?_⟩)
     ·
      refine Rg ?_
      refine Ru 4 rfl ?_
      refine JL.call ca_126 rfl (rtake_fn (k := i) (w := z) (gg := e) hV hn g5 (by omega) (by omega) g2' g3) pt_ rfl ?_
      rintro _ h16 Lo16 hle16 ⟨rfl, rfl⟩
      replace hhg := hhg.mono hle16
      replace hV := hV.mono hle16
      refine JL.nil ?_
      refine ⟨_, ?_, _, ?_, ⟨_, z - e * (vL V * 4294967296 ^ i), rfl, rfl, rfl, rfl, ⟨hhg, hV, by omega, by omega, take_mod g3 hzm⟩⟩⟩
      ·
       omega
      ·
       repeat (first | exact trivial | refine ⟨rfl, ?_⟩)
    ·
     refine J.exit ?_
     refine Rg ?_
     refine Ru 1 rfl ?_
     refine JL.op si_ rfl ?_
     refine Ru 1 rfl ?_
     refine JL.nil ?_
     refine ⟨_, ?_, _, ?_, ⟨_, i, z, (i : Int) - 1, rfl, rfl, rfl, rfl, ⟨hhg, hV, by omega, by omega, by omega, by omega, hzw, by omega, hzm⟩⟩⟩
     ·
      omega
     ·
      repeat (first | exact trivial | refine ⟨rfl, ?_⟩ | refine ⟨(by exact some_int (by omega)), ?_⟩)
   ·
    have hj0 : j = 0 := hq1 (by omega); subst hj0; rw [Nat.pow_zero, Nat.mul_one] at hwj; rw [hvV] at hwj hwm; have hend := rest_end hf0 hM hwj (by rw [hwm, hW]); have hwN : vL (digN N w) = w := (by rw [vL_digN]; exact Nat.mod_eq_of_lt (Nat.lt_of_le_of_lt hww (Nat.lt_of_lt_of_le hWl (Nat.pow_le_pow_right (by decide) (by omega))))); have hwl : (toL w).length ≤ N - 1 := (by rw [toL_len]; exact nd_le _ _ (Nat.lt_of_le_of_lt hww hWl))
    refine J.exit ?_
    refine Kp [3, 10] rfl ?_
    refine Sr ?_
    refine JL.pub64 dl_ (digN_len N w).symm (by rw [digN_len]; omega) (fun h9 hle9 hP9 => ?_); replace hhg := hhg.mono hle9; replace hV := hV.mono hle9
    refine Ru 1 rfl ?_
    refine JL.callR ca_97 rfl (rcut_fn hP9 (digN_len N w).symm) rfl ?_
    rintro _ h17 hle17 ⟨ra, rc, rfl, hR⟩
    replace hhg := hhg.mono hle17
    replace hV := hV.mono hle17
    rw [hwN] at hR ⊢
    refine Ru 1 rfl ?_
    refine JL.callR ca_124 rfl (rshortly_fn' hR rfl hf0 (by omega) (by omega)) rfl ?_
    rintro _ h18 hle18 ⟨sa, sc, rfl, hS⟩
    replace hhg := hhg.mono hle18
    replace hV := hV.mono hle18
    replace hR := hR.mono hle18
    refine Ru 5 rfl ?_
    refine Nk [15] rfl ?_
    refine Sr ?_
    refine Ru 2 rfl ?_
    refine JL.nil ?_
    rw [vL_toL, hend] at hS ⊢; exact J.retR (RetV.one rfl rfl) ⟨_, _, rfl, hS⟩
theorem norm_f {B : List UInt32} {n f : Nat} (hn : n = B.length) (hn1 : 1 ≤ n) (hY : 4294967296 ^ (n - 1) ≤ vL B) (hf : f = 4294967296 / (d32 B (n - 1) + 1)) : 0 < f ∧ f < 4294967296 ∧ vL B * f < 4294967296 ^ n ∧ 4294967296 ^ (n - 1) ≤ vL B * f := by
  have ht := d32_lt B (n - 1)
  have hd := top_dig hn hn1
  have hB0 : 0 < 4294967296 ^ (n - 1) := Nat.pow_pos (by decide)
  have ht1 : 1 ≤ d32 B (n - 1) := by rw [hd]; exact (Nat.le_div_iff_mul_le hB0).2 (by omega)
  have hlt : vL B < (d32 B (n - 1) + 1) * 4294967296 ^ (n - 1) := by
    rw [hd]; have := Nat.lt_div_mul_add hB0 (a := vL B); rw [Nat.add_mul]; omega
  generalize d32 B (n - 1) = t at *
  have hf1 : f * (t + 1) ≤ 4294967296 := by rw [hf]; exact Nat.div_mul_le_self _ _
  have hf0 : 0 < f := by rw [hf]; exact Nat.div_pos (by omega) (by omega)
  have hf2 : f < 4294967296 := by rw [hf]; exact Nat.div_lt_self (by decide) (by omega)
  refine ⟨hf0, hf2, ?_, Nat.le_trans hY (Nat.le_mul_of_pos_right _ hf0)⟩
  have e : 4294967296 ^ n = 4294967296 * 4294967296 ^ (n - 1) := by rw [← Nat.pow_succ', show (n - 1).succ = n by omega]
  rw [e]
  refine Nat.lt_of_lt_of_le (Nat.mul_lt_mul_of_pos_right hlt hf0) ?_
  rw [Nat.mul_right_comm, Nat.mul_comm (t + 1)]
  exact Nat.mul_le_mul_right _ hf1
theorem q_put {Q : List UInt32} {N i g V z W : Nat} (hN : Q.length = N) (hi : i < N) (hW : vL Q * V + z = W) (hlt : d32 Q i * (V * 4294967296 ^ i) + z < V * 4294967296 ^ (i + 1)) (hg : g * (V * 4294967296 ^ i) ≤ z) :
    d32 Q i + g < 4294967296 ∧ vL (Q.set i (UInt32.ofNat (d32 Q i + g))) * V + (z - g * (V * 4294967296 ^ i)) = W ∧ d32 (Q.set i (UInt32.ofNat (d32 Q i + g))) i * (V * 4294967296 ^ i) + (z - g * (V * 4294967296 ^ i)) < V * 4294967296 ^ (i + 1) := by
  have hp := vL_put Q i (d32 Q i + g) (by omega)
  have e1 : V * 4294967296 ^ (i + 1) = 4294967296 * (V * 4294967296 ^ i) := by rw [Nat.pow_succ]; grind
  have hb : d32 Q i + g < 4294967296 := by
    rcases Nat.lt_or_ge (d32 Q i + g) 4294967296 with h | h
    · exact h
    · have h2 := Nat.mul_le_mul_right (V * 4294967296 ^ i) h
      rw [Nat.add_mul] at h2; omega
  refine ⟨hb, ?_, ?_⟩
  · rw [Nat.div_eq_of_lt hb, Nat.zero_mul, Nat.add_mul] at hp
    have e2 : vL (Q.set i (UInt32.ofNat (d32 Q i + g))) = vL Q + g * 4294967296 ^ i := by omega
    have e3 : (vL Q + g * 4294967296 ^ i) * V = vL Q * V + g * (V * 4294967296 ^ i) := by grind
    rw [e2, e3]; omega
  · rw [d32_set _ _ _ _ (by omega), if_pos rfl, UInt32.toNat_ofNat', Nat.mod_eq_of_lt (show d32 Q i + g < 2 ^ 32 by omega), Nat.add_mul]; omega
theorem part_end {X Y f Q w : Nat} (hf : 0 < f) (hY : 0 < Y) (h : w < Y * f) (e : Q * (Y * f) + w = X * f) : Q = X / Y ∧ w / f = X % Y := by
  have h1 : X * f / (Y * f) = Q := by
    rw [← e, Nat.add_comm, Nat.add_mul_div_right _ _ (by omega), Nat.div_eq_of_lt h, Nat.zero_add]
  have h2 : X * f % (Y * f) = w := by rw [← e, Nat.add_comm, Nat.add_mul_mod_self_right, Nat.mod_eq_of_lt h]
  rw [Nat.mul_div_mul_right _ _ hf] at h1
  rw [Nat.mul_mod_mul_right] at h2
  exact ⟨h1.symm, by rw [← h2]; exact Nat.mul_div_cancel _ hf⟩
set_option maxHeartbeats 1000000 in
theorem parted_fn {a b : Option Addr} {ca cb n na : Nat} {A B : List UInt32} {h : Part} (hA : SlR u64R 1 h a ca (A.map m64)) (hB : SlR u64R 1 h b cb (B.map m64)) (hna : na = A.length) (hn : n = B.length) (hn1 : 1 ≤ n)
    (hYn : 4294967296 ^ (n - 1) ≤ vL B) (hlA : A.length ≤ 200000) (hlB : B.length ≤ 100000) :
    FnR Tryz.prog 90 [.slice a na ca, .slice b n cb] h (fun v h' => ∃ a1 c1 a2 c2, v = .tuple #[.slice a1 (toL (vL A / vL B)).length c1, .slice a2 (toL (vL A % vL B)).length c2] ∧ SlR u64R 1 h' a1 c1 ((toL (vL A / vL B)).map m64) ∧ SlR u64R 1 h' a2 c2 ((toL (vL A % vL B)).map m64)) := by
  have hBl : (B.map m64).length = B.length := List.length_map ..
  have hB0 : 0 < 4294967296 ^ (n - 1) := Nat.pow_pos (by decide)
  have hY0 : 0 < vL B := by omega
  obtain ⟨f, hf⟩ : ∃ f, f = 4294967296 / (d32 B (n - 1) + 1) := ⟨_, rfl⟩
  obtain ⟨f0, fB, fV, fV2⟩ := norm_f hn hn1 hYn hf
  have l1 : (digN 1 f).length = 1 := digN_len 1 f
  have hf1 := vL_one f fB
  obtain ⟨W, hW⟩ : ∃ W, W = vL A * f := ⟨_, rfl⟩
  obtain ⟨D, hD⟩ : ∃ D, D = vL B * f := ⟨_, rfl⟩
  rw [← hD] at fV fV2
  have n1 : (toL W).length ≤ A.length + 1 := by
    rw [toL_len, hW]; exact nd_le _ _ (mul_bound (vL_lt A) (by omega))
  have hVl : (toL D).length = n := by
    rw [toL_len, nd_eq D (n - 1) (by rw [show n - 1 + 1 = n by omega]; exact fV) fV2]; omega
  obtain ⟨V, hVV⟩ : ∃ V, V = toL D := ⟨_, rfl⟩
  have hvV : vL V = D := by rw [hVV, vL_toL]
  rw [← hVV] at hVl
  have hV0 : 0 < vL V := by rw [hvV]; omega
  obtain ⟨N, hN⟩ : ∃ N, N = A.length + 2 := ⟨_, rfl⟩
  have hPl : ((toL W).map m64).length = (toL W).length := List.length_map ..
  have hWl : W < 4294967296 ^ (N - 1) := by rw [hN, hW]; exact mul_bound (vL_lt A) (by omega)
  have hW0 : W < vL V * 4294967296 ^ (N - n) := by
    refine Nat.lt_of_lt_of_le hWl (Nat.le_trans (Nat.pow_le_pow_right (by decide) (show N - 1 ≤ (n - 1) + (N - n) by omega)) ?_)
    rw [Nat.pow_add, hvV]; exact Nat.mul_le_mul_right _ fV2
  have ht := d32_lt B (n - 1)
  have ev0 := d64_mat B (n - 1) (by omega)
  have ht0 := d32_lt B 0
  have ev1 := d64_mat B 0 (by omega)
  refine Fn.intro Tryz.func90 rfl Tryz.ntmps90 rfl (fun e he => ?_)
  refine J.weak [(0, _), (1, _)] ⟨rfl, rfl, trivial⟩ ?_
  have hh0 := Part.le.refl h
  refine Sr ?_
  refine Ru 2 rfl ?_
  refine JL.nil ?_
  refine Sr ?_
  refine Ru 3 rfl ?_
  refine JL.nil ?_
  refine J.seq ?_
  refine Sr ?_
  refine Ru 2 rfl ?_
  refine JL.nil ?_
  refine Cs rfl (fun hc1 => ?_) fun hc1 => ?_
  ·
   have hb0 : d32 B 0 = vL B := (by have h1 := top_dig hn hn1; have hn2 : n = 1 := (by omega); rw [hn2] at h1; rw [h1]; exact Nat.div_one _)
   refine Sr ?_
   refine Ru 2 rfl ?_
   refine JL.ope (RunE.index (m := 0) sl_66 rfl rfl rfl hB (by omega) (by omega)) rfl ?_
   rintro _ ⟨b2, o2, hi2, rfl, hE2⟩
   refine JL.op (RunV.ld_u64 ag_63 rfl (by assumption)) rfl ?_
   rw [ev1, hb0]
   refine JL.callR ca_124 rfl (rshortly_fn' hA hna hY0 (by omega) (by omega)) rfl ?_
   rintro _ h4 hle4 ⟨sa, sc, rfl, hS⟩
   replace hA := hA.mono hle4
   replace hB := hB.mono hle4
   replace hh0 := hh0.mono hle4
   refine Ru 5 rfl ?_
   refine Nk [8, 7, 6, 5, 4, 0, 1] rfl ?_
   refine Sr ?_
   refine Ru 2 rfl ?_
   refine JL.lit1 ap_66 zr_63 rfl rfl rfl rfl rfl (fun b5 => ?_)
   refine JL.pubB (R := u64R) (sz := 1) (l := (digN 1 (vL A % vL B)).map m64) dl_ ((cells_one (vL A % vL B) (Nat.lt_of_lt_of_le (Nat.mod_lt _ hY0) (by omega)))) (by first | decide | omega | (rw [digN_len]; decide) | (simp; done) | (simp [digN_len]; done)) (fun h6 hle6 hQ => ?_)
   replace hA := hA.mono hle6
   replace hB := hB.mono hle6
   replace hh0 := hh0.mono hle6
   replace hS := hS.mono hle6
   refine JL.callR ca_97 rfl (rcut_fn hQ (digN_len 1 _).symm) rfl ?_
   rintro _ h7 hle7 ⟨ra, rc, rfl, hR⟩
   replace hA := hA.mono hle7
   replace hB := hB.mono hle7
   replace hh0 := hh0.mono hle7
   replace hS := hS.mono hle7
   replace hQ := hQ.mono hle7
   refine Ru 2 rfl ?_
   refine Nk [5, 4, 6, 0, 1] rfl ?_
   rw [vL_one _ (Nat.lt_of_lt_of_le (Nat.mod_lt _ hY0) (by omega))] at hR ⊢; exact J.retR (RetV.two rfl rfl rfl) ⟨_, _, _, _, rfl, hS, hR⟩
  ·
   refine J.skip ?_
   refine Kp [6, 5, 4, 0, 1] rfl ?_
   refine Sr ?_
   refine Ru 2 rfl ?_
   refine JL.op si_ rfl ?_
   refine JL.ope (RunE.index (m := n - 1) sl_66 rfl rfl (by omega) hB (by omega) (by omega)) rfl ?_
   rintro _ ⟨b8, o8, hi8, rfl, hE8⟩
   refine JL.op (RunV.ld_u64 ag_63 rfl (by assumption)) rfl ?_
   rw [ev0]
   refine JL.op (by first | exact RunV.add_u64 rfl rfl (by omega) (by omega) | exact RunV.add rfl rfl) rfl ?_
   rw [show ((d32 B (n - 1) : Nat) : Int) + 1 = ((d32 B (n - 1) + 1 : Nat) : Int) by omega]
   refine JL.op (by first | exact RunV.quo_u64 rfl rfl (by omega) (by omega) (by omega) | exact RunV.quo rfl rfl (by omega)) rfl ?_
   rw [show (4294967296 : Int) / ((d32 B (n - 1) + 1 : Nat) : Int) = (f : Int) by rw [hf, Int.natCast_ediv]; rfl]
   refine Ru 1 rfl ?_
   refine Nk [9, 6, 5, 4, 0, 1] rfl ?_
   refine Sr ?_
   refine Ru 2 rfl ?_
   refine JL.lit1 ap_66 zr_63 rfl rfl rfl rfl rfl (fun b10 => ?_)
   refine JL.pubB (R := u64R) (sz := 1) (l := (digN 1 f).map m64) dl_ ((cells_one f fB)) (by first | decide | omega | (rw [digN_len]; decide) | (simp; done) | (simp [digN_len]; done)) (fun h11 hle11 hF => ?_)
   replace hA := hA.mono hle11
   replace hB := hB.mono hle11
   replace hh0 := hh0.mono hle11
   refine JL.callR ca_89 rfl (rtimes_fn' hB hF hn (by omega) (by omega) (by omega)) rfl ?_
   rintro _ h12 hle12 ⟨va, vc, rfl, hV⟩
   replace hA := hA.mono hle12
   replace hB := hB.mono hle12
   replace hh0 := hh0.mono hle12
   replace hF := hF.mono hle12
   rw [hf1, ← hD, ← hVV] at hV ⊢; rw [hVl]
   refine Ru 1 rfl ?_
   refine Nk [10, 9, 6, 5, 4, 0] rfl ?_
   refine Sr ?_
   refine Ru 2 rfl ?_
   refine JL.op ai_ rfl ?_
   refine JL.make1 mk_66 rfl rfl (m := N) (by omega) (by omega) (by omega) rfl rfl (fun bu => ?_); rw [ws_zero]
   refine Ru 1 rfl ?_
   refine JL.nil ?_
   refine Sr ?_
   refine Ru 2 rfl ?_
   refine JL.lit1 ap_66 zr_63 rfl rfl rfl rfl rfl (fun b14 => ?_)
   refine JL.pubB (R := u64R) (sz := 1) (l := (digN 1 f).map m64) dl_ ((cells_one f fB)) (by first | decide | omega | (rw [digN_len]; decide) | (simp; done) | (simp [digN_len]; done)) (fun h15 hle15 hF2 => ?_)
   replace hA := hA.mono hle15
   replace hB := hB.mono hle15
   replace hh0 := hh0.mono hle15
   replace hF := hF.mono hle15
   replace hV := hV.mono hle15
   refine JL.callR ca_89 rfl (rtimes_fn' hA hF2 hna (by omega) (by omega) (by omega)) rfl ?_
   rintro _ h16 hle16 ⟨pa, pc, rfl, hP⟩
   replace hA := hA.mono hle16
   replace hB := hB.mono hle16
   replace hh0 := hh0.mono hle16
   replace hF := hF.mono hle16
   replace hV := hV.mono hle16
   replace hF2 := hF2.mono hle16
   rw [hf1, ← hW] at hP ⊢
   refine Ru 1 rfl ?_
   refine Nk [12, 11, 10, 9, 6, 5, 4] rfl ?_
   refine J.seq ?_
   refine Sr ?_
   refine Ru 1 rfl ?_
   refine JL.nil ?_
   refine J.block ?_
   refine J.loop (fun t_ S_ h_ L_ => ∃ (i : Nat) (U : List UInt32), t_ = (toL W).length - i ∧ S_ = [(6, .int .i64 n), (9, .int .u64 f), (10, .slice va n vc), (11, .slice (some ⟨bu, 0, none⟩) N N), (12, .slice pa (toL W).length pc), (13, .int .i64 i)] ∧ h16 = h_ ∧ L_ = [.row (some ⟨bu, 0, none⟩) N 63 1 N (ws .u64 U)] ∧ (i ≤ (toL W).length ∧ U.length = N ∧ vL U = vL ((toL W).take i))) ⟨_, _, ?_, ⟨0, _, rfl, rfl, rfl, rfl, ⟨by omega, digN_len _ _, by rw [vL_digN]; simp [vL]⟩⟩⟩ ?_
   ·
    repeat (first | exact trivial | refine ⟨rfl, ?_⟩ | refine ⟨(by exact some_int (by omega)), ?_⟩)
   rintro _ _ _ _ ⟨i, U, rfl, rfl, rfl, rfl, hi, hUl, hUv⟩
   refine J.seq ?_
   refine Sr ?_
   refine Ru 4 rfl ?_
   refine JL.nil ?_
   refine Cs rfl (fun hc17 => ?_) fun hc17 => ?_
   ·
    have hi' : i < (toL W).length := (by omega); have ei := d64_mat (toL W) i (by omega); have bi := d32_lt (toL W) i; have hst := copy_step hUl hUv (show i < N by omega)
    refine J.skip ?_
    refine J.seq ?_
    refine J.block ?_
    refine Rg ?_
    refine Ru 4 rfl ?_
    refine JL.ope (RunE.index (m := i) sl_66 rfl rfl (by omega) hP hPl.symm (by omega)) rfl ?_
    rintro _ ⟨b18, o18, hi18, rfl, hE18⟩
    refine JL.op (RunV.ld_u64 ag_63 rfl (by assumption)) rfl ?_
    rw [ei]
    refine JL.op (RunV.index_at sl_66 (m := i) rfl rfl (by omega) (by omega)) rfl ?_
    refine JL.storeW (d32 (toL W) i) ag_63 rfl rfl (by rw [Nat.mod_eq_of_lt bi]) dl_ (by omega) ?_
    refine JL.nil ?_
    refine Rg ?_
    refine Ru 1 rfl ?_
    refine JL.op ai_ rfl ?_
    refine Ru 1 rfl ?_
    refine JL.nil ?_
    refine ⟨_, ?_, _, ?_, ⟨i + 1, _, rfl, rfl, rfl, rfl, ⟨by omega, by rw [List.length_set]; exact hUl, hst⟩⟩⟩
    ·
     omega
    ·
     repeat (first | exact trivial | refine ⟨rfl, ?_⟩ | refine ⟨(by exact some_int (by omega)), ?_⟩)
   ·
    have hie : i = (toL W).length := (by omega); have hUd : U = digN N W := (by refine digN_fix hUl ?_; rw [hUv, hie, List.take_length, vL_toL]); subst hUd
    refine J.exit ?_
    refine Kp [6, 9, 10, 11] rfl ?_
    refine Sr ?_
    refine Ru 2 rfl ?_
    refine JL.make1 mk_66 rfl rfl (m := N) (by omega) (by omega) (by omega) rfl rfl (fun bq => ?_); rw [ws_zero]
    refine Ru 1 rfl ?_
    refine JL.nil ?_
    refine J.seq ?_
    refine Sr ?_
    refine Ru 3 rfl ?_
    refine JL.own (fun w hk => hk.perm (.swap ..)) ?_
    refine JL.op si_ rfl ?_
    refine JL.op si_ rfl ?_
    refine Ru 1 rfl ?_
    refine Nk [15, 14, 6, 9, 10, 11] rfl ?_
    refine J.block ?_
    refine J.loop (fun t_ S_ h_ L_ => ∃ (g : Part) (j w : Nat) (q : Int) (Q : List UInt32), t_ = j + 1 ∧ S_ = [(6, .int .i64 n), (9, .int .u64 f), (10, .slice va n vc), (11, .slice (some ⟨bu, 0, none⟩) N N), (14, .slice (some ⟨bq, 0, none⟩) N N), (15, .int .i64 q)] ∧ g = h_ ∧ L_ = [.row (some ⟨bu, 0, none⟩) N 63 1 N (ws .u64 (digN N w)), .row (some ⟨bq, 0, none⟩) N 63 1 N (ws .u64 Q)] ∧ (h.le g ∧ SlR u64R 1 g va vc (V.map m64) ∧ -2000000 ≤ q ∧ q + n < N ∧ (q < 0 → j = 0) ∧ (0 ≤ q → q = (j : Int) - 1) ∧ w ≤ W ∧ w < vL V * 4294967296 ^ j ∧ Q.length = N ∧ (∀ m, m < j → d32 Q m = 0) ∧ vL Q * vL V + w = W)) ⟨_, _, ?_, ⟨_, N - n, W, (N : Int) - n - 1, _, rfl, rfl, rfl, rfl, ⟨hh0, hV, by omega, by omega, by omega, by omega, Nat.le_refl _, hW0, digN_len _ _, fun m _ => vL_zero_above (m := 0) (by rw [vL_digN]; simp) m (Nat.zero_le _), by rw [vL_digN]; simp⟩⟩⟩ ?_
    ·
     repeat (first | exact trivial | refine ⟨rfl, ?_⟩ | refine ⟨(by exact some_int (by omega)), ?_⟩)
    rintro _ _ _ _ ⟨g, j, w, q, Q, rfl, rfl, rfl, rfl, hhg, hV, hq0, hqN, hq1, hq2, hww, hwj, hQl, hQz, hQW⟩
    refine J.seq ?_
    refine Sr ?_
    refine Ru 2 rfl ?_
    refine JL.nil ?_
    refine Cs rfl (fun hc22 => ?_) fun hc22 => ?_
    ·
     obtain ⟨i, rfl, rfl⟩ : ∃ i : Nat, j = i + 1 ∧ q = (i : Int) := ⟨j - 1, by omega, by omega⟩; have hQi := hQz i (by omega)
     refine J.skip ?_
     refine J.seq ?_
     refine J.block ?_
     refine J.block ?_
     refine J.loop (fun t_ S_ h_ L_ => ∃ (g2 : Part) (z : Nat) (Q2 : List UInt32), t_ = z + 1 ∧ S_ = [(6, .int .i64 n), (9, .int .u64 f), (10, .slice va n vc), (11, .slice (some ⟨bu, 0, none⟩) N N), (14, .slice (some ⟨bq, 0, none⟩) N N), (15, .int .i64 i)] ∧ g2 = h_ ∧ L_ = [.row (some ⟨bu, 0, none⟩) N 63 1 N (ws .u64 (digN N z)), .row (some ⟨bq, 0, none⟩) N 63 1 N (ws .u64 Q2)] ∧ (h.le g2 ∧ SlR u64R 1 g2 va vc (V.map m64) ∧ z ≤ W ∧ Q2.length = N ∧ (∀ m, m < i → d32 Q2 m = 0) ∧ vL Q2 * vL V + z = W ∧ d32 Q2 i * (vL V * 4294967296 ^ i) + z < vL V * 4294967296 ^ (i + 1))) ⟨_, _, ?_, ⟨_, w, Q, rfl, rfl, rfl, rfl, ⟨hhg, hV, hww, hQl, fun m hm => hQz m (by omega), hQW, by rw [hQi]; omega⟩⟩⟩ ?_
     ·
      repeat (first | exact trivial | refine ⟨rfl, ?_⟩)
     rintro _ _ _ _ ⟨g2, z, Q2, rfl, rfl, rfl, rfl, hhg, hV, hzw, hQ2l, hQ2z, hQ2W, hQ2lt⟩
     refine J.seq ?_
     refine Sr ?_
     refine Ru 3 rfl ?_
     refine JL.call ca_125 rfl (rabove_fn (k := i) (w := z) hV hVl.symm (u_digs hn1 (by rw [hvV]; exact fV) (show z < vL V * 4294967296 ^ (i + 1) by omega) (show i + n < N by omega)).1 (by omega) (by omega)) pt_ rfl ?_
     rintro _ h23 Lo23 hle23 ⟨rfl, rfl⟩
     replace hhg := hhg.mono hle23
     replace hV := hV.mono hle23
     refine JL.nil ?_
     refine Cs rfl (fun hc24 => ?_) fun hc24 => ?_
     ·
      have hzj : z < vL V * 4294967296 ^ (i + 1) := (by omega); obtain ⟨t, ht⟩ : ∃ t, t = (d32 (digN N z) (i + n) * 4294967296 + d32 (digN N z) (i + n - 1)) / (d32 V (n - 1) + 1) := ⟨_, rfl⟩; obtain ⟨g1, g2', g3, g4, g5⟩ := guess_pack hVl.symm hn1 hzj (show i + n < N by omega) hc24 hV0 ht; obtain ⟨e, he⟩ : ∃ e, e = if t = 0 then 1 else t := ⟨_, rfl⟩; rw [← he] at g2' g3 g4; have bz1 := d32_lt (digN N z) (i + n); have bz0 := d32_lt (digN N z) (i + n - 1); have bv := d32_lt V (n - 1); have hdl : (digN N z).length = N := digN_len _ _; have ev := d64_mat V (n - 1) (by rw [List.length_map]; omega); have hVl2 : (V.map m64).length = V.length := List.length_map ..; obtain ⟨p1, p2, p3⟩ := q_put hQ2l (show i < N by omega) hQ2W hQ2lt g3; have bq := d32_lt Q2 i
      refine J.skip ?_
      refine J.block ?_
      refine J.seq ?_
      refine J.held ([.row (some ⟨bu, 0, none⟩) N 63 1 N (ws .u64 (digN N z))]) 23 mixed_ rfl (fun h00 => ?_)
      refine JH.take 0 rfl (by kernel_rfl) (by kernel_rfl) (by kernel_rfl) (fun _ _ _ _ hh => hh) (br_ h00) (RunV.move rfl) rfl ?_
      refine JH.take 1 rfl (by kernel_rfl) (by kernel_rfl) (by kernel_rfl) (fun _ _ _ _ hh => hh) (br_ h00) (RunV.move rfl) rfl ?_
      refine JH.take 2 rfl (by kernel_rfl) (by kernel_rfl) (by kernel_rfl) (fun _ _ _ _ hh => hh) (br_ h00) (RunV.move rfl) rfl ?_
      refine JH.take 3 rfl (by kernel_rfl) (by kernel_rfl) (by kernel_rfl) (fun _ _ _ _ hh => hh) (br_ h00) ai_ rfl ?_
      refine JH.take 4 rfl (by kernel_rfl) (by kernel_rfl) (by kernel_rfl) (fun _ _ _ _ hh => hh) (br_ h00) (RunV.index_at sl_66 (m := i + n) rfl rfl (by omega) (by omega)) rfl ?_
      refine JH.take 5 rfl (by kernel_rfl) (by kernel_rfl) (by kernel_rfl) (fun _ _ _ _ hh => hh) (br_ h00) (RunV.wload ag_63 rfl mm_ (by omega)) rfl ?_
      refine JH.take 6 rfl (by kernel_rfl) (by kernel_rfl) (by kernel_rfl) (fun _ _ _ _ hh => hh) (br_ h00) (RunV.mul_u64 rfl rfl (by omega) (by omega)) rfl ?_
      refine JH.take 7 rfl (by kernel_rfl) (by kernel_rfl) (by kernel_rfl) (fun _ _ _ _ hh => hh) (br_ h00) (RunV.move rfl) rfl ?_
      refine JH.take 8 rfl (by kernel_rfl) (by kernel_rfl) (by kernel_rfl) (fun _ _ _ _ hh => hh) (br_ h00) (RunV.move rfl) rfl ?_
      refine JH.take 9 rfl (by kernel_rfl) (by kernel_rfl) (by kernel_rfl) (fun _ _ _ _ hh => hh) (br_ h00) (RunV.move rfl) rfl ?_
      refine JH.take 10 rfl (by kernel_rfl) (by kernel_rfl) (by kernel_rfl) (fun _ _ _ _ hh => hh) (br_ h00) ai_ rfl ?_
      refine JH.take 11 rfl (by kernel_rfl) (by kernel_rfl) (by kernel_rfl) (fun _ _ _ _ hh => hh) (br_ h00) si_ rfl ?_
      refine JH.take 12 rfl (by kernel_rfl) (by kernel_rfl) (by kernel_rfl) (fun _ _ _ _ hh => hh) (br_ h00) (RunV.index_at sl_66 (m := i + n - 1) rfl rfl (by omega) (by omega)) rfl ?_
      refine JH.take 13 rfl (by kernel_rfl) (by kernel_rfl) (by kernel_rfl) (fun _ _ _ _ hh => hh) (br_ h00) (RunV.wload ag_63 rfl mm_ (by omega)) rfl ?_
      refine JH.take 14 rfl (by kernel_rfl) (by kernel_rfl) (by kernel_rfl) (fun _ _ _ _ hh => hh) (br_ h00) (RunV.add_u64 rfl rfl (by omega) (by omega)) rfl ?_
      rw [show ((d32 (digN N z) (i + n) : Nat) : Int) * 4294967296 + (d32 (digN N z) (i + n - 1) : Nat) = ((d32 (digN N z) (i + n) * 4294967296 + d32 (digN N z) (i + n - 1) : Nat) : Int) by omega]
      refine JH.take 15 rfl (by kernel_rfl) (by kernel_rfl) (by kernel_rfl) (fun _ _ _ _ hh => hh) (br_ h00) (RunV.move rfl) rfl ?_
      refine JH.take 16 rfl (by kernel_rfl) (by kernel_rfl) (by kernel_rfl) (fun _ _ _ _ hh => hh) (br_ h00) (RunV.move rfl) rfl ?_
      refine JH.take 17 rfl (by kernel_rfl) (by kernel_rfl) (by kernel_rfl) (fun _ _ _ _ hh => hh) (br_ h00) si_ rfl ?_
      refine JH.takeE 18 rfl (by kernel_rfl) (by kernel_rfl) (by kernel_rfl) (fun _ _ _ _ hh => hh) (br_ h00) (RunE.index (m := n - 1) sl_66 rfl rfl (by omega) hV (by omega) (by omega)) rfl ?_
      rintro _ ⟨b25, o25, hi25, rfl, hE25⟩
      refine JH.take 19 rfl (by kernel_rfl) (by kernel_rfl) (by kernel_rfl) (fun _ _ _ _ hh => hh) (br_ h00) (RunV.ld_u64 ag_63 rfl (by assumption)) rfl ?_
      rw [ev]
      refine JH.take 20 rfl (by kernel_rfl) (by kernel_rfl) (by kernel_rfl) (fun _ _ _ _ hh => hh) (br_ h00) (by first | exact RunV.add_u64 rfl rfl (by omega) (by omega) | exact RunV.add rfl rfl) rfl ?_
      rw [show ((d32 V (n - 1) : Nat) : Int) + 1 = ((d32 V (n - 1) + 1 : Nat) : Int) by omega]
      refine JH.take 21 rfl (by kernel_rfl) (by kernel_rfl) (by kernel_rfl) (fun _ _ _ _ hh => hh) (br_ h00) (by first | exact RunV.quo_u64 rfl rfl (by omega) (by omega) (by omega) | exact RunV.quo rfl rfl (by omega)) rfl ?_
      rw [← Int.natCast_ediv, ← ht]
      refine JH.take 22 rfl (by kernel_rfl) (by kernel_rfl) (by kernel_rfl) (fun _ _ _ _ hh => hh) (br_ h00) (RunV.assign rfl) rfl ?_
      refine JH.done (by kernel_rfl) ?_
      refine J.seq ?_
      refine Sr ?_
      refine Ru 2 rfl ?_
      refine JL.nil ?_
      refine J.meet [(16, .int .u64 e)] [(105, _), (104, _), (103, _), (102, _), (101, _), (100, _), (99, _), (98, _), (97, _), (96, _), (95, _), (94, _), (93, _), (92, _), (91, _), (90, _), (89, _), (88, _), (87, _), (86, _), (85, _), (84, _), (83, _), (82, _), (81, _), (80, _), (79, _), (6, _), (9, _), (10, _), (11, _), (14, _), (15, _)] ⟨rfl, rfl, rfl, rfl, rfl, rfl, rfl, rfl, rfl, rfl, rfl, rfl, rfl, rfl, rfl, rfl, rfl, rfl, rfl, rfl, rfl, rfl, rfl, rfl, rfl, rfl, rfl, rfl, rfl, rfl, rfl, rfl, rfl, trivial⟩ ?_ ?_
      ·
       refine Cs rfl (fun hc27 => ?_) fun hc27 => ?_
       ·
        refine Rg ?_
        refine Ru 1 rfl ?_
        refine JL.nil ?_
        refine ⟨rfl, rfl, ?_⟩
        repeat (first | exact trivial | refine ⟨rfl, ?_⟩ | refine ⟨(by exact some_int (by rw [he]; split <;> omega)), ?_⟩)
       ·
        refine J.skip ?_
        refine ⟨rfl, rfl, ?_⟩
        repeat (first | exact trivial | refine ⟨rfl, ?_⟩ | refine ⟨(by exact some_int (by rw [he]; split <;> omega)), ?_⟩)
      ·
       refine Sr ?_
       refine Ru 4 rfl ?_
       refine JL.op (RunV.index_at sl_66 (m := i) rfl rfl (by omega) (by omega)) rfl ?_
       refine JL.op (RunV.wload ag_63 rfl mm_ (by omega)) rfl ?_
       refine Ru 1 rfl ?_
       refine JL.op (by first | exact RunV.add_u64 rfl rfl (by omega) (by omega) | exact RunV.add rfl rfl) rfl ?_
       refine JL.op (RunV.index_at sl_66 (m := i) rfl rfl (by omega) (by omega)) rfl ?_
       refine JL.storeW (d32 Q2 i + e) ag_63 rfl rfl (by omega) dl_ (by omega) ?_
       refine JL.nil ?_
       refine Rg ?_
       refine Ru 4 rfl ?_
       refine JL.call ca_126 rfl (rtake_fn (k := i) (w := z) (gg := e) hV hVl.symm g5 (by omega) (by omega) g2' g3) pt_ rfl ?_
       rintro _ h29 Lo29 hle29 ⟨rfl, rfl⟩
       replace hhg := hhg.mono hle29
       replace hV := hV.mono hle29
       refine JL.nil ?_
       refine ⟨_, ?_, _, ?_, ⟨_, z - e * (vL V * 4294967296 ^ i), _, rfl, rfl, rfl, rfl, ⟨hhg, hV, by omega, by rw [List.length_set]; exact hQ2l, fun m hm => by rw [d32_set _ _ _ _ (by omega), if_neg (by omega)]; exact hQ2z m hm, p2, p3⟩⟩⟩
       ·
        omega
       ·
        repeat (first | exact trivial | refine ⟨rfl, ?_⟩)
     ·
      refine J.exit ?_
      refine Rg ?_
      refine Ru 1 rfl ?_
      refine JL.op si_ rfl ?_
      refine Ru 1 rfl ?_
      refine JL.nil ?_
      refine ⟨_, ?_, _, ?_, ⟨_, i, z, (i : Int) - 1, _, rfl, rfl, rfl, rfl, ⟨hhg, hV, by omega, by omega, by omega, by omega, hzw, by omega, hQ2l, hQ2z, hQ2W⟩⟩⟩
      ·
       omega
      ·
       repeat (first | exact trivial | refine ⟨rfl, ?_⟩ | refine ⟨(by exact some_int (by omega)), ?_⟩)
    ·
     have hj0 : j = 0 := hq1 (by omega); subst hj0; rw [Nat.pow_zero, Nat.mul_one, hvV, hD] at hwj; rw [hvV, hD, hW] at hQW; obtain ⟨he1, he2⟩ := part_end f0 hY0 hwj hQW; have hwN : vL (digN N w) = w := (by rw [vL_digN]; exact Nat.mod_eq_of_lt (Nat.lt_of_le_of_lt hww (Nat.lt_of_lt_of_le hWl (Nat.pow_le_pow_right (by decide) (by omega))))); have hwl : (toL w).length ≤ N - 1 := (by rw [toL_len]; exact nd_le _ _ (Nat.lt_of_le_of_lt hww hWl))
     refine J.exit ?_
     refine Kp [9, 11, 14] rfl ?_
     refine Sr ?_
     refine JL.pub64 (a := some ⟨bu, 0, none⟩) (l := digN N w) dl_ (digN_len N w).symm (by rw [digN_len]; omega) (fun h9 hle9 hP9 => ?_); replace hhg := hhg.mono hle9; replace hV := hV.mono hle9; refine JL.pub64 (a := some ⟨bq, 0, none⟩) (l := Q) dl_ hQl.symm (by omega) (fun h8 hle8 hQ8 => ?_); replace hhg := hhg.mono hle8; replace hV := hV.mono hle8; replace hP9 := hP9.mono hle8
     refine Ru 1 rfl ?_
     refine JL.callR ca_97 rfl (rcut_fn hP9 (digN_len N w).symm) rfl ?_
     rintro _ h30 hle30 ⟨ra, rc, rfl, hR⟩
     replace hhg := hhg.mono hle30
     replace hV := hV.mono hle30
     replace hQ8 := hQ8.mono hle30
     rw [hwN] at hR ⊢
     refine Ru 1 rfl ?_
     refine JL.callR ca_124 rfl (rshortly_fn' hR rfl f0 (by omega) (by omega)) rfl ?_
     rintro _ h31 hle31 ⟨sa, sc, rfl, hS⟩
     replace hhg := hhg.mono hle31
     replace hV := hV.mono hle31
     replace hQ8 := hQ8.mono hle31
     replace hR := hR.mono hle31
     rw [vL_toL, he2] at hS ⊢
     refine Ru 5 rfl ?_
     refine Nk [17, 14] rfl ?_
     refine Sr ?_
     refine Ru 1 rfl ?_
     refine JL.callR ca_97 rfl (rcut_fn hQ8 hQl.symm) rfl ?_
     rintro _ h32 hle32 ⟨qa, qc, rfl, hQQ⟩
     replace hhg := hhg.mono hle32
     replace hV := hV.mono hle32
     replace hQ8 := hQ8.mono hle32
     replace hR := hR.mono hle32
     replace hS := hS.mono hle32
     refine Ru 3 rfl ?_
     refine Nk [5, 4] rfl ?_
     rw [he1] at hQQ ⊢; exact J.retR (RetV.two rfl rfl rfl) ⟨_, _, _, _, rfl, hQQ, hS⟩
end Go.Proofs.YtmngjbefnloljaaGreatDoor
set_option linter.unusedSimpArgs false
set_option linter.unusedVariables false
set_option linter.constructorNameAsVariable false
namespace Go.Proofs.YtmngjbefnloljaaGreatDoor
open Go Go.RowKit
set_option maxRecDepth 100000
theorem ca_90 : callT Tryz.prog 90 = true := by kernel_rfl
theorem ca_91 : callT Tryz.prog 91 = true := by kernel_rfl
theorem ca_92 : callT Tryz.prog 92 = true := by kernel_rfl
theorem rcompare_fn {a b : Option Addr} {ca cb X Y : Nat} {h : Part} (hA : SlR u64R 1 h a ca ((toL X).map m64)) (hB : SlR u64R 1 h b cb ((toL Y).map m64)) (hlA : (toL X).length ≤ 1000000) : Pure Tryz.prog 92 [.slice a (toL X).length ca, .slice b (toL Y).length cb] h (.int .i64 (cmpI3 X Y)) := by
  have hAl : ((toL X).map m64).length = (toL X).length := List.length_map ..
  have hBl : ((toL Y).map m64).length = (toL Y).length := List.length_map ..
  have e1 := toL_len X
  have e2 := toL_len Y
  refine Fn.intro Tryz.func92 rfl Tryz.ntmps92 rfl (fun e he => ?_)
  refine J.weak [(0, _), (1, _)] ⟨rfl, rfl, trivial⟩ ?_
  refine Sr ?_
  refine Ru 1 rfl ?_
  refine JL.nil ?_
  refine J.seq ?_
  refine Sr ?_
  refine Ru 5 rfl ?_
  refine JL.nil ?_
  refine Cs rfl (fun hc1 => ?_) fun hc1 => ?_
  ·
   refine J.seq ?_
   refine Sr ?_
   refine Ru 5 rfl ?_
   refine Nk [15, 4, 0, 1] rfl ?_
   refine Cs rfl (fun hc2 => ?_) fun hc2 => ?_
   ·
    have hlt := nd_lt (m := X) (n := Y) (by omega)
    refine Sr ?_
    refine Ru 1 rfl ?_
    refine JL.nil ?_
    exact J.retP (RetV.one rfl rfl) (by unfold cmpI3; rw [if_pos hlt]) rfl
   ·
    have hlt := nd_lt (m := Y) (n := X) (by omega)
    refine J.skip ?_
    refine Sr ?_
    refine Ru 1 rfl ?_
    refine JL.nil ?_
    exact J.retP (RetV.one rfl rfl) (by unfold cmpI3; rw [if_neg (by omega), if_pos hlt]) rfl
  ·
   refine J.skip ?_
   refine Kp [4, 0, 1] rfl ?_
   refine J.seq ?_
   refine Sr ?_
   refine Ru 2 rfl ?_
   refine JL.op si_ rfl ?_
   refine Ru 1 rfl ?_
   refine JL.nil ?_
   refine J.block ?_
   refine J.loop (fun t_ S_ h_ L_ => ∃ (j : Nat), t_ = j + 1 ∧ S_ = [(0, .slice a (toL X).length ca), (1, .slice b (toL Y).length cb), (5, .int .i64 ((j : Int) - 1))] ∧ h = h_ ∧ L_ = [] ∧ (j ≤ (toL X).length ∧ X / 4294967296 ^ j = Y / 4294967296 ^ j)) ⟨_, _, ?_, ⟨(toL X).length, rfl, rfl, rfl, rfl, ⟨Nat.le_refl _, by rw [e1, Nat.div_eq_of_lt (lt_nd _), show nd X = nd Y by omega, Nat.div_eq_of_lt (lt_nd _)]⟩⟩⟩ ?_
   ·
    repeat (first | exact trivial | refine ⟨rfl, ?_⟩ | refine ⟨(by exact some_int (by omega)), ?_⟩)
   rintro _ _ _ _ ⟨j, rfl, rfl, rfl, rfl, hj, he⟩
   refine J.seq ?_
   refine Sr ?_
   refine Ru 2 rfl ?_
   refine JL.nil ?_
   refine Cs rfl (fun hc3 => ?_) fun hc3 => ?_
   ·
    obtain ⟨i, rfl⟩ : ∃ i, j = i + 1 := ⟨j - 1, by omega⟩; have dl := div_low X i; have dr := div_low Y i; have gl := vL_digit (toL X) i; have gr := vL_digit (toL Y) i; rw [vL_toL] at gl gr; rw [gl] at dl; rw [gr] at dr; rw [he] at dl; have al := d64_mat (toL X) i (by omega); have ar := d64_mat (toL Y) i (by omega)
    refine J.skip ?_
    refine J.seq ?_
    refine J.block ?_
    refine J.seq ?_
    refine J.seq ?_
    refine J.drawn mixed_ (by kernel_rfl) ?_
    refine Rq 2 rfl ?_
    refine JQ.ope (RunE.index (m := i) sl_66 rfl rfl (by omega) hA hAl.symm (by omega)) rfl ?_
    rintro _ ⟨b4, o4, hi4, rfl, hE4⟩
    refine JQ.op (RunV.ld_u64 ag_63 rfl (by assumption)) rfl ?_
    rw [al]
    refine Rq 2 rfl ?_
    refine JQ.ope (RunE.index (m := i) sl_66 rfl rfl (by omega) hB hBl.symm (by omega)) rfl ?_
    rintro _ ⟨b6, o6, hi6, rfl, hE6⟩
    refine JQ.op (RunV.ld_u64 ag_63 rfl (by assumption)) rfl ?_
    rw [ar]
    refine Rq 1 rfl ?_
    refine JQ.nil ?_
    refine Cs rfl (fun hc8 => ?_) fun hc8 => ?_
    ·
     have hlt := lt_of_div (x := X) (y := Y) (d := 4294967296 ^ i) (by omega)
     refine Sr ?_
     refine Ru 1 rfl ?_
     refine JL.nil ?_
     exact J.retP (RetV.one rfl rfl) (by unfold cmpI3; rw [if_pos hlt]) rfl
    ·
     refine J.skip ?_
     refine J.seq ?_
     refine J.drawn mixed_ (by kernel_rfl) ?_
     refine Rq 2 rfl ?_
     refine JQ.ope (RunE.index (m := i) sl_66 rfl rfl (by omega) hA hAl.symm (by omega)) rfl ?_
     rintro _ ⟨b9, o9, hi9, rfl, hE9⟩
     refine JQ.op (RunV.ld_u64 ag_63 rfl (by assumption)) rfl ?_
     rw [al]
     refine Rq 2 rfl ?_
     refine JQ.ope (RunE.index (m := i) sl_66 rfl rfl (by omega) hB hBl.symm (by omega)) rfl ?_
     rintro _ ⟨b11, o11, hi11, rfl, hE11⟩
     refine JQ.op (RunV.ld_u64 ag_63 rfl (by assumption)) rfl ?_
     rw [ar]
     refine Rq 1 rfl ?_
     refine JQ.nil ?_
     refine Cs rfl (fun hc13 => ?_) fun hc13 => ?_
     ·
      have hlt := lt_of_div (x := Y) (y := X) (d := 4294967296 ^ i) (by omega)
      refine Sr ?_
      refine Ru 1 rfl ?_
      refine JL.nil ?_
      exact J.retP (RetV.one rfl rfl) (by unfold cmpI3; rw [if_neg (by omega), if_pos hlt]) rfl
     ·
      refine J.skip ?_
      refine Rg ?_
      refine Ru 1 rfl ?_
      refine JL.op si_ rfl ?_
      refine Ru 1 rfl ?_
      refine JL.nil ?_
      refine ⟨_, ?_, _, ?_, ⟨i, rfl, rfl, rfl, rfl, ⟨by omega, by omega⟩⟩⟩
      ·
       omega
      ·
       repeat (first | exact trivial | refine ⟨rfl, ?_⟩ | refine ⟨(by exact some_int (by omega)), ?_⟩)
   ·
    have hj0 : j = 0 := (by omega); rw [hj0, Nat.pow_zero, Nat.div_one, Nat.div_one] at he
    refine J.exit ?_
    refine Kp [] rfl ?_
    refine Sr ?_
    refine Ru 1 rfl ?_
    refine JL.nil ?_
    exact J.retP (RetV.one rfl rfl) (by unfold cmpI3; rw [if_neg (by omega), if_neg (by omega)]) rfl
theorem rcmp_fn {a b : Option Addr} {ca cb : Nat} {l r : List UInt32} {h : Part} (hl : SlR u32R 1 h a ca l) (hr : SlR u32R 1 h b cb r) (hlb : l.length ≤ 1000000) (hrb : r.length ≤ 1000000) : FnR Tryz.prog 49 [.slice a l.length ca, .slice b r.length cb] h (fun v _ => v = .int .i64 (cmpI3 (vL l) (vL r))) := by
  have n1 : (toL (vL l)).length ≤ l.length := by rw [toL_len]; exact nd_le _ _ (vL_lt l)
  refine Fn.intro Tryz.func49 rfl Tryz.ntmps49 rfl (fun e he => ?_)
  refine J.weak [(0, _), (1, _)] ⟨rfl, rfl, trivial⟩ ?_
  have hh0 := Part.le.refl h
  refine Sr ?_
  refine Ru 1 rfl ?_
  refine JL.nil ?_
  refine Sr ?_
  refine Ru 1 rfl ?_
  refine JL.callR ca_56 rfl (rdigs_fn hl hlb) rfl ?_
  rintro _ h1 hle1 ⟨da, dc, rfl, hD⟩
  replace hl := hl.mono hle1
  replace hr := hr.mono hle1
  replace hh0 := hh0.mono hle1
  refine Ru 1 rfl ?_
  refine JL.callR ca_56 rfl (rdigs_fn hr hrb) rfl ?_
  rintro _ h2 hle2 ⟨ea, ec, rfl, hE⟩
  replace hl := hl.mono hle2
  replace hr := hr.mono hle2
  replace hh0 := hh0.mono hle2
  replace hD := hD.mono hle2
  refine JL.callP ca_92 rfl (rcompare_fn hD hE (by omega)) rfl ?_
  refine Ru 1 rfl ?_
  refine Nk [4] rfl ?_
  exact J.retR (RetV.one rfl rfl) rfl
theorem toL_nd (N : Nat) (h : 0 < N) : 1 ≤ (toL N).length ∧ 4294967296 ^ ((toL N).length - 1) ≤ vL (toL N) := by
  rw [toL_len, vL_toL]; have := nd_pos N h; exact ⟨this.2, this.1⟩
theorem pow_start (X E N : Nat) : 1 % N = X ^ (E / 4294967296 ^ nd E) % N := by
  rw [Nat.div_eq_of_lt (lt_nd E), Nat.pow_zero]
set_option maxHeartbeats 1000000 in
theorem rpow_fn {a b d : Option Addr} {ca cb cd : Nat} {l m r : List UInt32} {h : Part} (hl : SlR u32R 1 h a ca l) (hm : SlR u32R 1 h b cb m) (hr : SlR u32R 1 h d cd r) (hlb : l.length ≤ 100000) (hmb : m.length ≤ 100000) (hrb : r.length ≤ 10000) : FnR Tryz.prog 46 [.slice a l.length ca, .slice b m.length cb, .slice d r.length cd] h
    (fun v h' => ∃ a1 c1, v = .tuple #[.slice a1 (toL (powV (vL l) (vL m) (vL r))).length c1, .int .i64 (if vL r = 0 then 10 else 0)] ∧ SlR u32R 1 h' a1 c1 (toL (powV (vL l) (vL m) (vL r)))) := by
  have nl : (toL (vL l)).length ≤ l.length := by rw [toL_len]; exact nd_le _ _ (vL_lt l)
  have nm : (toL (vL m)).length ≤ m.length := by rw [toL_len]; exact nd_le _ _ (vL_lt m)
  have nr : (toL (vL r)).length ≤ r.length := by rw [toL_len]; exact nd_le _ _ (vL_lt r)
  obtain ⟨X, hX⟩ : ∃ X, X = vL l := ⟨_, rfl⟩
  obtain ⟨E, hE⟩ : ∃ E, E = vL m := ⟨_, rfl⟩
  obtain ⟨N, hN⟩ : ∃ N, N = vL r := ⟨_, rfl⟩
  have hRl := vL_lt (toL N)
  rw [← hX] at nl
  rw [← hE] at nm
  rw [← hN] at nr
  rw [← hX, ← hE, ← hN]
  have l1 : (digN 1 1).length = 1 := digN_len 1 1
  have mle : ∀ z, N ≠ 0 → (toL (z % N)).length ≤ 10000 := fun z h0 => by
    rw [toL_len]; exact Nat.le_trans (nd_le _ r.length (by rw [hN] at h0 ⊢; exact Nat.lt_trans (Nat.mod_lt _ (by omega)) (vL_lt r))) hrb
  refine Fn.intro Tryz.func46 rfl Tryz.ntmps46 rfl (fun e he => ?_)
  refine J.weak [(0, _), (1, _), (2, _)] ⟨rfl, rfl, rfl, trivial⟩ ?_
  have hh0 := Part.le.refl h
  refine Sr ?_
  refine Ru 2 rfl ?_
  refine JL.nil ?_
  refine Sr ?_
  refine Ru 1 rfl ?_
  refine JL.callR ca_56 rfl (rdigs_fn hr (by omega)) rfl ?_
  rintro _ h1 hle1 ⟨ra, rc, rfl, hR⟩
  replace hl := hl.mono hle1
  replace hm := hm.mono hle1
  replace hr := hr.mono hle1
  replace hh0 := hh0.mono hle1
  rw [← hN] at hR ⊢
  refine Ru 1 rfl ?_
  refine JL.nil ?_
  refine J.seq ?_
  refine Sr ?_
  refine Ru 3 rfl ?_
  refine Nk [22, 8, 7, 6, 0, 1] rfl ?_
  refine Cs rfl (fun hc2 => ?_) fun hc2 => ?_
  ·
   have hN0 : N = 0 := (by rcases Nat.eq_zero_or_pos N with h0 | h0; exact h0; have := (toL_nd N h0).1; omega); have hp : toL (powV X E N) = [] := (by rw [powV, if_pos hN0]; rfl)
   refine Sr ?_
   refine Ru 2 rfl ?_
   refine JL.nil ?_
   rw [hp, if_pos hN0]; exact J.retR (RetV.two rfl rfl rfl) ⟨none, 0, rfl, SlR.nil_⟩
  ·
   have hN0 : 0 < N := (by rcases Nat.eq_zero_or_pos N with h0 | h0; (exfalso; apply hc2; rw [h0]; rfl); exact h0); obtain ⟨t1, t2⟩ := toL_nd N hN0; obtain ⟨n, hn⟩ : ∃ n, n = (toL N).length := ⟨_, rfl⟩; rw [← hn] at t1 t2; obtain ⟨f, hf⟩ : ∃ f, f = 4294967296 / (d32 (toL N) (n - 1) + 1) := ⟨_, rfl⟩; obtain ⟨f0, fB, fV, fV2⟩ := norm_f hn t1 t2 hf; rw [vL_toL] at fV fV2; have ht := d32_lt (toL N) (n - 1); have ev0 := d64_mat (toL N) (n - 1) (by rw [List.length_map]; omega); have hRm : ((toL N).map m64).length = (toL N).length := List.length_map ..; have hEm : ((toL E).map m64).length = (toL E).length := List.length_map ..; have hVl : (toL (N * f)).length = n := (by rw [toL_len, nd_eq (N * f) (n - 1) (by rw [show n - 1 + 1 = n by omega]; exact fV) fV2]; omega); have lf : (digN 1 f).length = 1 := digN_len 1 f; have hmle := fun z => mle z (by omega)
   refine J.skip ?_
   refine Sr ?_
   refine Ru 3 rfl ?_
   refine JL.op si_ rfl ?_
   refine JL.ope (RunE.index (m := n - 1) sl_66 rfl rfl (by omega) hR hRm.symm (by omega)) rfl ?_
   rintro _ ⟨b3, o3, hi3, rfl, hE3⟩
   refine JL.op (RunV.ld_u64 ag_63 rfl (by assumption)) rfl ?_
   rw [ev0]
   refine JL.op (by first | exact RunV.add_u64 rfl rfl (by omega) (by omega) | exact RunV.add rfl rfl) rfl ?_
   rw [show ((d32 (toL N) (n - 1) : Nat) : Int) + 1 = ((d32 (toL N) (n - 1) + 1 : Nat) : Int) by omega]
   refine JL.op (by first | exact RunV.quo_u64 rfl rfl (by omega) (by omega) (by omega) | exact RunV.quo rfl rfl (by omega)) rfl ?_
   rw [show (4294967296 : Int) / ((d32 (toL N) (n - 1) + 1 : Nat) : Int) = (f : Int) by rw [hf, Int.natCast_ediv]; rfl]
   refine Ru 1 rfl ?_
   refine Nk [9, 8, 7, 6, 0, 1] rfl ?_
   refine Sr ?_
   refine Ru 2 rfl ?_
   refine JL.lit1 ap_66 zr_63 rfl rfl rfl rfl rfl (fun b5 => ?_)
   refine JL.pubB (R := u64R) (sz := 1) (l := (digN 1 f).map m64) dl_ ((cells_one f fB)) (by first | decide | omega | (rw [digN_len]; decide) | (simp; done) | (simp [digN_len]; done)) (fun h6 hle6 hF => ?_)
   replace hl := hl.mono hle6
   replace hm := hm.mono hle6
   replace hr := hr.mono hle6
   replace hh0 := hh0.mono hle6
   replace hR := hR.mono hle6
   refine JL.callR ca_89 rfl (rtimes_fn' hR hF rfl lf.symm (by omega) (by omega)) rfl ?_
   rintro _ h7 hle7 ⟨va, vc, rfl, hV⟩
   replace hl := hl.mono hle7
   replace hm := hm.mono hle7
   replace hr := hr.mono hle7
   replace hh0 := hh0.mono hle7
   replace hR := hR.mono hle7
   replace hF := hF.mono hle7
   rw [vL_one f fB, vL_toL] at hV ⊢
   refine Ru 1 rfl ?_
   refine JL.nil ?_
   refine Sr ?_
   refine Ru 1 rfl ?_
   refine JL.callR ca_56 rfl (rdigs_fn hl (by omega)) rfl ?_
   rintro _ h8 hle8 ⟨la, lc, rfl, hL⟩
   replace hl := hl.mono hle8
   replace hm := hm.mono hle8
   replace hr := hr.mono hle8
   replace hh0 := hh0.mono hle8
   replace hR := hR.mono hle8
   replace hF := hF.mono hle8
   replace hV := hV.mono hle8
   rw [← hX] at hL ⊢
   refine Ru 1 rfl ?_
   refine JL.callR ca_90 rfl (parted_fn hL hR rfl rfl (by omega) (by rw [← hn]; exact t2) (by omega) (by omega)) rfl ?_
   rintro _ h9 hle9 ⟨qa, qc, xa, xc, rfl, hQ, hXX⟩
   replace hl := hl.mono hle9
   replace hm := hm.mono hle9
   replace hr := hr.mono hle9
   replace hh0 := hh0.mono hle9
   replace hR := hR.mono hle9
   replace hF := hF.mono hle9
   replace hV := hV.mono hle9
   replace hL := hL.mono hle9
   rw [vL_toL, vL_toL] at hXX ⊢
   refine Ru 5 rfl ?_
   refine Nk [12, 10, 9, 8, 7, 6, 1] rfl ?_
   refine Sr ?_
   refine JL.lit1 ap_66 zr_63 rfl rfl rfl rfl rfl (fun b10 => ?_)
   refine JL.pubB (R := u64R) (sz := 1) (l := (digN 1 1).map m64) dl_ ((cells_one 1 (by decide))) (by first | decide | omega | (rw [digN_len]; decide) | (simp; done) | (simp [digN_len]; done)) (fun h11 hle11 hO1 => ?_)
   replace hl := hl.mono hle11
   replace hm := hm.mono hle11
   replace hr := hr.mono hle11
   replace hh0 := hh0.mono hle11
   replace hR := hR.mono hle11
   replace hF := hF.mono hle11
   replace hV := hV.mono hle11
   replace hL := hL.mono hle11
   replace hXX := hXX.mono hle11
   refine Ru 1 rfl ?_
   refine JL.callR ca_90 rfl (parted_fn hO1 hR l1.symm rfl (by omega) (by rw [← hn]; exact t2) (by omega) (by omega)) rfl ?_
   rintro _ h12 hle12 ⟨qa2, qc2, oa, oc, rfl, hQ2, hO⟩
   replace hl := hl.mono hle12
   replace hm := hm.mono hle12
   replace hr := hr.mono hle12
   replace hh0 := hh0.mono hle12
   replace hR := hR.mono hle12
   replace hF := hF.mono hle12
   replace hV := hV.mono hle12
   replace hL := hL.mono hle12
   replace hXX := hXX.mono hle12
   replace hO1 := hO1.mono hle12
   rw [vL_one 1 (by decide), vL_toL] at hO ⊢
   refine Ru 5 rfl ?_
   refine Nk [14, 12, 10, 9, 7, 6, 1] rfl ?_
   refine Sr ?_
   refine Ru 1 rfl ?_
   refine JL.callR ca_56 rfl (rdigs_fn hm (by omega)) rfl ?_
   rintro _ h13 hle13 ⟨ea, ec, rfl, hEE⟩
   replace hl := hl.mono hle13
   replace hm := hm.mono hle13
   replace hr := hr.mono hle13
   replace hh0 := hh0.mono hle13
   replace hR := hR.mono hle13
   replace hF := hF.mono hle13
   replace hV := hV.mono hle13
   replace hL := hL.mono hle13
   replace hXX := hXX.mono hle13
   replace hO1 := hO1.mono hle13
   replace hO := hO.mono hle13
   rw [← hE] at hEE ⊢
   refine Ru 1 rfl ?_
   refine JL.nil ?_
   refine J.seq ?_
   refine Sr ?_
   refine Ru 2 rfl ?_
   refine JL.op si_ rfl ?_
   refine Ru 1 rfl ?_
   refine Nk [16, 15, 14, 12, 10, 9, 7, 6] rfl ?_
   refine J.block ?_
   refine J.loop (fun t_ S_ h_ L_ => ∃ (g : Part) (j : Nat) (O : List UInt32) (oa2 : Option Addr) (oc2 : Nat), t_ = j + 1 ∧ S_ = [(9, .int .u64 f), (10, .slice va (toL (N * f)).length vc), (12, .slice xa (toL (X % N)).length xc), (14, .slice oa2 O.length oc2), (15, .slice ea (toL E).length ec), (16, .int .i64 ((j : Int) - 1))] ∧ g = h_ ∧ L_ = [] ∧ (h.le g ∧ SlR u64R 1 g va vc ((toL (N * f)).map m64) ∧ SlR u64R 1 g xa xc ((toL (X % N)).map m64) ∧ SlR u64R 1 g ea ec ((toL E).map m64) ∧ SlR u64R 1 g oa2 oc2 (O.map m64) ∧ j ≤ (toL E).length ∧ O = toL (X ^ (E / 2 ^ (32 * j)) % N))) ⟨_, _, ?_, ⟨_, (toL E).length, _, oa, oc, rfl, rfl, rfl, rfl, ⟨hh0, hV, hXX, hEE, hO, Nat.le_refl _, by rw [toL_len, ← pow32, ← pow_start]⟩⟩⟩ ?_
   ·
    repeat (first | exact trivial | refine ⟨rfl, ?_⟩ | refine ⟨(by exact some_int (by omega)), ?_⟩)
   rintro _ _ _ _ ⟨g, j, O, oa2, oc2, rfl, rfl, rfl, rfl, hhg, hV, hXX, hEE, hO, hj, hOe⟩
   refine J.seq ?_
   refine Sr ?_
   refine Ru 2 rfl ?_
   refine JL.nil ?_
   refine Cs rfl (fun hc14 => ?_) fun hc14 => ?_
   ·
    obtain ⟨i, rfl⟩ : ∃ i, j = i + 1 := ⟨j - 1, by omega⟩; have ei := d64_mat (toL E) i (by omega); have bi := d32_lt (toL E) i
    refine J.skip ?_
    refine J.seq ?_
    refine J.block ?_
    refine Sr ?_
    refine Ru 1 rfl ?_
    refine JL.nil ?_
    refine J.block ?_
    refine J.loop (fun t_ S_ h_ L_ => ∃ (g2 : Part) (s : Nat) (O2 : List UInt32) (oa3 : Option Addr) (oc3 : Nat), t_ = s + 1 ∧ S_ = [(9, .int .u64 f), (10, .slice va (toL (N * f)).length vc), (12, .slice xa (toL (X % N)).length xc), (14, .slice oa3 O2.length oc3), (15, .slice ea (toL E).length ec), (16, .int .i64 i), (17, .int .u64 (2 ^ s / 2 : Nat))] ∧ g2 = h_ ∧ L_ = [] ∧ (h.le g2 ∧ SlR u64R 1 g2 va vc ((toL (N * f)).map m64) ∧ SlR u64R 1 g2 xa xc ((toL (X % N)).map m64) ∧ SlR u64R 1 g2 ea ec ((toL E).map m64) ∧ SlR u64R 1 g2 oa3 oc3 (O2.map m64) ∧ s ≤ 32 ∧ O2 = toL (X ^ (E / 2 ^ (32 * i + s)) % N))) ⟨_, _, ?_, ⟨_, 32, O, oa2, oc2, rfl, rfl, rfl, rfl, ⟨hhg, hV, hXX, hEE, hO, Nat.le_refl _, by rw [hOe]; rfl⟩⟩⟩ ?_
    ·
     repeat (first | exact trivial | refine ⟨rfl, ?_⟩ | refine ⟨(by exact some_int (by omega)), ?_⟩)
    rintro _ _ _ _ ⟨g2, s, O2, oa3, oc3, rfl, rfl, rfl, rfl, hhg, hV, hXX, hEE, hO, hs, hOe2⟩
    refine J.seq ?_
    refine Sr ?_
    refine Ru 2 rfl ?_
    refine JL.nil ?_
    refine Cs rfl (fun hc15 => ?_) fun hc15 => ?_
    ·
     obtain ⟨p, rfl⟩ : ∃ p, s = p + 1 := ⟨s - 1, by rcases Nat.eq_zero_or_pos s with h0 | h0; (rw [h0] at hc15; exact absurd hc15 (by decide)); omega⟩; have hk : 2 ^ (p + 1) / 2 = 2 ^ p := (by rw [Nat.pow_succ]; omega); have hk0 : 0 < 2 ^ p := Nat.two_pow_pos p; have hk1 : 2 ^ p ≤ 2147483648 := (Nat.pow_le_pow_right (by decide) (show p ≤ 31 by omega) : 2 ^ p ≤ 2 ^ 31); rw [hk]; subst hOe2; obtain ⟨Z, hZ⟩ : ∃ Z, Z = E / 2 ^ (32 * i + p + 1) := ⟨_, rfl⟩; have hsq := pow_sq X E N (32 * i + p); have hhb := half_bit E (32 * i + p); have hba := bit_at (toL E) (32 * i + p); rw [show (32 * i + p) / 32 = i by omega, show (32 * i + p) % 32 = p by omega, vL_toL] at hba; obtain ⟨bq, hbq⟩ : ∃ bq, bq = d32 (toL E) i / 2 ^ p := ⟨_, rfl⟩; have hbq2 : bq ≤ d32 (toL E) i := (by rw [hbq]; exact Nat.div_le_self _ _); rw [← hbq] at hba; rw [show 32 * i + (p + 1) = 32 * i + p + 1 by omega, ← hZ] at hO ⊢; rw [← hZ] at hsq hhb; have hO1 := hmle (X ^ Z); have hO2 := hmle (X ^ (2 * Z)); have hO3 := hmle X
     refine J.skip ?_
     refine J.seq ?_
     refine J.block ?_
     refine Sr ?_
     refine Ru 4 rfl ?_
     refine JL.callR ca_91 rfl (rest_fn hO hO hV rfl rfl rfl (by omega) f0 fB hN0 (vL_toL _) (by rw [hVl, vL_toL]; exact fV2) (by omega) (by omega) (by omega)) rfl ?_
     rintro _ h16 hle16 ⟨sa, sc, rfl, hS⟩
     replace hhg := hhg.mono hle16
     replace hV := hV.mono hle16
     replace hXX := hXX.mono hle16
     replace hEE := hEE.mono hle16
     replace hO := hO.mono hle16
     rw [vL_toL, hsq] at hS ⊢
     refine Ru 1 rfl ?_
     refine JL.nil ?_
     refine Sr ?_
     refine Ru 2 rfl ?_
     refine JL.ope (RunE.index (m := i) sl_66 rfl rfl (by omega) hEE hEm.symm (by omega)) rfl ?_
     rintro _ ⟨b17, o17, hi17, rfl, hE17⟩
     refine JL.op (RunV.ld_u64 ag_63 rfl (by assumption)) rfl ?_
     rw [ei]
     refine Ru 1 rfl ?_
     refine JL.op (RunV.quo_u64 rfl rfl (by omega) (by omega) (by omega)) rfl ?_
     rw [← Int.natCast_ediv, ← hbq]
     refine JL.op (by first | exact RunV.rem_u64 rfl rfl (by omega) (by omega) | exact RunV.rem rfl rfl (by omega)) rfl ?_
     refine Ru 1 rfl ?_
     refine JL.nil ?_
     refine Cs rfl (fun hc19 => ?_) fun hc19 => ?_
     ·
      have hbit : E / 2 ^ (32 * i + p) = 2 * Z + 1 := (by omega); have hp1 := pow_one X (2 * Z) N
      refine Rg ?_
      refine Ru 4 rfl ?_
      refine JL.callR ca_91 rfl (rest_fn hS hXX hV rfl rfl rfl (by omega) f0 fB hN0 (vL_toL _) (by rw [hVl, vL_toL]; exact fV2) (by omega) (by omega) (by omega)) rfl ?_
      rintro _ h20 hle20 ⟨ta, tc, rfl, hT⟩
      replace hhg := hhg.mono hle20
      replace hV := hV.mono hle20
      replace hXX := hXX.mono hle20
      replace hEE := hEE.mono hle20
      replace hO := hO.mono hle20
      replace hS := hS.mono hle20
      rw [vL_toL, vL_toL, hp1, ← hbit] at hT ⊢
      refine Ru 1 rfl ?_
      refine JL.nil ?_
      refine Rg ?_
      refine Ru 1 rfl ?_
      refine JL.op (by first | exact RunV.quo_u64 rfl rfl (by omega) (by omega) (by omega) | exact RunV.quo rfl rfl (by omega)) rfl ?_
      refine Ru 1 rfl ?_
      refine JL.nil ?_
      refine ⟨_, ?_, _, ?_, ⟨_, p, _, ta, tc, rfl, rfl, rfl, rfl, ⟨hhg, hV, hXX, hEE, hT, by omega, rfl⟩⟩⟩
      ·
       omega
      ·
       repeat (first | exact trivial | refine ⟨rfl, ?_⟩ | refine ⟨(by exact some_int (by omega)), ?_⟩)
     ·
      have hbit : E / 2 ^ (32 * i + p) = 2 * Z := (by omega); rw [← hbit] at hS ⊢
      refine J.skip ?_
      refine Rg ?_
      refine Ru 1 rfl ?_
      refine JL.op (by first | exact RunV.quo_u64 rfl rfl (by omega) (by omega) (by omega) | exact RunV.quo rfl rfl (by omega)) rfl ?_
      refine Ru 1 rfl ?_
      refine JL.nil ?_
      refine ⟨_, ?_, _, ?_, ⟨_, p, _, sa, sc, rfl, rfl, rfl, rfl, ⟨hhg, hV, hXX, hEE, hS, by omega, rfl⟩⟩⟩
      ·
       omega
      ·
       repeat (first | exact trivial | refine ⟨rfl, ?_⟩ | refine ⟨(by exact some_int (by omega)), ?_⟩)
    ·
     have hs0 : s = 0 := (by rcases Nat.eq_zero_or_pos s with h0 | h0; exact h0; exfalso; apply hc15; obtain ⟨p, rfl⟩ : ∃ p, s = p + 1 := ⟨s - 1, by omega⟩; rw [show 2 ^ (p + 1) / 2 = 2 ^ p by rw [Nat.pow_succ]; omega]; have := Nat.two_pow_pos p; omega)
     refine J.exit ?_
     refine Rg ?_
     refine Ru 1 rfl ?_
     refine JL.op si_ rfl ?_
     refine Ru 1 rfl ?_
     refine JL.nil ?_
     refine ⟨_, ?_, _, ?_, ⟨_, i, _, oa3, oc3, rfl, rfl, rfl, rfl, ⟨hhg, hV, hXX, hEE, hO, by omega, by rw [hOe2, hs0]; rfl⟩⟩⟩
     ·
      omega
     ·
      repeat (first | exact trivial | refine ⟨rfl, ?_⟩ | refine ⟨(by exact some_int (by omega)), ?_⟩)
   ·
    have hj0 : j = 0 := (by omega); subst hj0; subst hOe; rw [Nat.mul_zero, Nat.pow_zero, Nat.div_one] at hO ⊢; have hpv : powV X E N = X ^ E % N := if_neg (by omega); have hO9 := hmle (X ^ E)
    refine J.exit ?_
    refine Kp [14] rfl ?_
    refine Sr ?_
    refine Ru 1 rfl ?_
    refine JL.callR ca_58 rfl (number32_fn hO rfl (by omega)) rfl ?_
    rintro _ h21 hle21 ⟨na, nc, rfl, hNN⟩
    replace hhg := hhg.mono hle21
    replace hV := hV.mono hle21
    replace hXX := hXX.mono hle21
    replace hEE := hEE.mono hle21
    replace hO := hO.mono hle21
    refine Ru 2 rfl ?_
    refine JL.nil ?_
    rw [vL_toL] at hNN ⊢; rw [hpv, if_neg (by omega)]; exact J.retR (RetV.two rfl rfl rfl) ⟨_, _, rfl, hNN⟩
end Go.Proofs.YtmngjbefnloljaaGreatDoor
set_option linter.unusedSimpArgs false
set_option linter.unusedVariables false
set_option linter.constructorNameAsVariable false
namespace Go.Proofs.YtmngjbefnloljaaGreatDoor
open Go Go.RowKit
set_option maxRecDepth 100000
theorem ag_30 : aggT Tryz.prog 30 = some none := by kernel_rfl
theorem ca_101 : callT Tryz.prog 101 = true := by kernel_rfl
theorem ca_49 : callT Tryz.prog 49 = true := by kernel_rfl
theorem ca_53 : callT Tryz.prog 53 = true := by kernel_rfl
theorem ca_98 : callT Tryz.prog 98 = true := by kernel_rfl
theorem fo_32_0 : fieldOff Tryz.prog 32 0 = some 0 := by kernel_rfl
theorem fo_32_1 : fieldOff Tryz.prog 32 1 = some 1 := by kernel_rfl
theorem fo_32_2 : fieldOff Tryz.prog 32 2 = some 2 := by kernel_rfl
theorem d32_par (l : List UInt32) : d32 l 0 % 2 = vL l % 2 := by
  have := vL_digit l 0
  rw [Nat.pow_zero, Nat.div_one] at this
  omega
theorem odd_nil {l : List UInt32} (h : ¬ 0 < l.length) : vL l % 2 = 0 := by
  rw [← d32_par, d32_out l 0 (by omega)]
theorem odd_fn {a : Option Addr} {c : Nat} {l : List UInt32} {h : Part} (hl : SlR u32R 1 h a c l) : Pure Tryz.prog 98 [.slice a l.length c] h (.bool (decide (vL l % 2 = 1))) := by
  have hb := hl.big
  have hp := d32_par l
  have hd := d32_lt l 0
  refine Fn.intro Tryz.func98 rfl Tryz.ntmps98 rfl (fun e he => ?_)
  refine J.weak [(0, _)] ⟨rfl, trivial⟩ ?_
  refine Sr ?_
  refine Ru 1 rfl ?_
  refine JL.nil ?_
  refine Sr ?_
  refine Ru 4 rfl ?_
  refine Bs 6 rfl (fun hc1 => ?_) fun hc1 => ?_
  ·
   refine Ru 1 rfl ?_
   refine JL.opeg rfl rfl  (RunE.index (m := 0) sl_30 rfl rfl rfl hl rfl (by omega)) rfl ?_
   rintro _ ⟨b2, o2, hi2, rfl, hE2⟩
   refine JL.opg rfl rfl  (RunV.ld_u32 ag_103 rfl (by assumption)) rfl ?_
   rw [d32_at]
   refine JL.opg rfl rfl  (RunV.mask_u32 1 2 rfl rfl (by decide) (by decide) (by decide) (by omega) (by omega)) rfl ?_
   refine Ru 3 rfl ?_
   refine Nk [2] rfl ?_
   exact J.retP (RetV.one rfl rfl) (congrArg Value.bool (by first | exact decide_eq_decide.2 (by omega) | exact (decide_eq_false (by have := odd_nil (l := l) (by omega); omega)).symm)) rfl
  ·
   refine Ru 7 rfl ?_
   refine Nk [2] rfl ?_
   exact J.retP (RetV.one rfl rfl) (congrArg Value.bool (by first | exact decide_eq_decide.2 (by omega) | exact (decide_eq_false (by have := odd_nil (l := l) (by omega); omega)).symm)) rfl
theorem rodd_fn {a : Option Addr} {c : Nat} {l : List UInt32} {h : Part} (hl : SlR u32R 1 h a c l) : Pure Tryz.prog 101 [.slice a l.length c] h (.bool (decide (vL l % 2 = 1))) := by
  have hb := hl.big
  have hp := d32_par l
  have hd := d32_lt l 0
  refine Fn.intro Tryz.func101 rfl Tryz.ntmps101 rfl (fun e he => ?_)
  refine J.weak [(0, _)] ⟨rfl, trivial⟩ ?_
  refine Sr ?_
  refine Ru 1 rfl ?_
  refine JL.nil ?_
  refine Sr ?_
  refine Ru 4 rfl ?_
  refine Bs 6 rfl (fun hc1 => ?_) fun hc1 => ?_
  ·
   refine Ru 1 rfl ?_
   refine JL.opeg rfl rfl  (RunE.index (m := 0) sl_30 rfl rfl rfl hl rfl (by omega)) rfl ?_
   rintro _ ⟨b2, o2, hi2, rfl, hE2⟩
   refine JL.opg rfl rfl  (RunV.ld_u32 ag_103 rfl (by assumption)) rfl ?_
   rw [d32_at]
   refine JL.opg rfl rfl  (by first | exact RunV.rem_u32 rfl rfl (by omega) (by omega) | exact RunV.rem rfl rfl (by omega)) rfl ?_
   refine Ru 3 rfl ?_
   refine Nk [2] rfl ?_
   exact J.retP (RetV.one rfl rfl) (congrArg Value.bool (by first | exact decide_eq_decide.2 (by omega) | exact (decide_eq_false (by have := odd_nil (l := l) (by omega); omega)).symm)) rfl
  ·
   refine Ru 7 rfl ?_
   refine Nk [2] rfl ?_
   exact J.retP (RetV.one rfl rfl) (congrArg Value.bool (by first | exact decide_eq_decide.2 (by omega) | exact (decide_eq_false (by have := odd_nil (l := l) (by omega); omega)).symm)) rfl
def rightB (n e d : Nat) : Bool := decide (n % 2 = 1 ∧ 512 ≤ bl n ∧ bl n ≤ 4096 ∧ e % 2 = 1 ∧ 2 < e ∧ bl e ≤ 64 ∧ d < n)
theorem cmp_facts (a b : Nat) : (0 < cmpI3 a b ↔ b < a) ∧ (cmpI3 a b < 0 ↔ a < b) ∧ (cmpI3 a b = 1 ↔ b < a) ∧ (cmpI3 a b = -1 ↔ a < b) ∧ (cmpI3 a b = 0 ↔ a = b) := by
  unfold cmpI3
  split
  · omega
  · split <;> omega
theorem ksize_fn {an ae ad : Option Addr} {cn ce cd : Nat} {n e d : List UInt32} {h : Part} (hn : SlR u32R 1 h an cn n) : Pure Tryz.prog 25 [.agg #[.slice an n.length cn, .slice ae e.length ce, .slice ad d.length cd]] h (.int .i64 ((bl (vL n) + 7) / 8 : Nat)) := by
  have hb := hn.big
  have hbl := bl_len' n
  refine Fn.intro Tryz.func25 rfl Tryz.ntmps25 rfl (fun e he => ?_)
  refine J.weak [(0, _)] ⟨rfl, trivial⟩ ?_
  refine Sr ?_
  refine JL.box rfl rfl rfl (fun b1 => ?_)
  refine Ru 1 rfl ?_
  refine JL.nil ?_
  refine Sr ?_
  refine Ru 1 rfl ?_
  refine JL.op (RunV.own1 ag_30 rfl mm_ rfl) rfl ?_
  refine JL.callP ca_40 rfl (natbits_fn (by assumption)) rfl ?_
  rw [nbits_vL]
  refine JL.op ai_ rfl ?_
  refine JL.op (by first | exact RunV.quo_i64 rfl rfl (by omega) (by omega) (by omega) | exact RunV.quo rfl rfl (by omega)) rfl ?_
  refine Ru 1 rfl ?_
  refine Nk [2] rfl ?_
  exact J.retP (RetV.one rfl rfl) (congrArg (Value.int .i64) (by omega)) rfl
theorem rsize_fn {an ae ad : Option Addr} {cn ce cd : Nat} {n e d : List UInt32} {h : Part} (hn : SlR u32R 1 h an cn n) (hln : n.length ≤ 100000) : FnR Tryz.prog 27 [.agg #[.slice an n.length cn, .slice ae e.length ce, .slice ad d.length cd]] h (fun v _ => v = .int .i64 ((bl (vL n) + 7) / 8 : Nat)) := by
  have hb := hn.big
  have hbl := bl_len' n
  refine Fn.intro Tryz.func27 rfl Tryz.ntmps27 rfl (fun e he => ?_)
  refine J.weak [(0, _)] ⟨rfl, trivial⟩ ?_
  have hh0 := Part.le.refl h
  refine Sr ?_
  refine JL.box rfl rfl rfl (fun b1 => ?_)
  refine Ru 1 rfl ?_
  refine JL.nil ?_
  refine Sr ?_
  refine Ru 1 rfl ?_
  refine JL.op (RunV.own1 ag_30 rfl mm_ rfl) rfl ?_
  refine JL.callR ca_45 rfl (rbits_fn (by assumption) (by omega)) rfl ?_
  rintro _ h2 hle2 rfl
  replace hn := hn.mono hle2
  replace hh0 := hh0.mono hle2
  rw [nbits_vL]
  refine JL.op ai_ rfl ?_
  refine JL.op (by first | exact RunV.quo_i64 rfl rfl (by omega) (by omega) (by omega) | exact RunV.quo rfl rfl (by omega)) rfl ?_
  refine Ru 1 rfl ?_
  refine Nk [2] rfl ?_
  exact J.retR (RetV.one rfl rfl) (congrArg (Value.int .i64) (by omega))
theorem keyright_fn {an ae ad : Option Addr} {cn ce cd : Nat} {n x d : List UInt32} {h : Part} (hn : SlR u32R 1 h an cn n) (hx : SlR u32R 1 h ae ce x) (hd : SlR u32R 1 h ad cd d) : FnR Tryz.prog 60 [.agg #[.slice an n.length cn, .slice ae x.length ce, .slice ad d.length cd]] h (fun v _ => v = .bool (rightB (vL n) (vL x) (vL d))) := by
  have hb := hn.big
  have hbl := bl_len' n
  have v2 : vL (toL 2) = 2 := vL_toL 2
  obtain ⟨k1, -, k2, -, -⟩ := cmp_facts (vL x) 2
  obtain ⟨-, k3, -, k4, -⟩ := cmp_facts (vL d) (vL n)
  refine Fn.intro Tryz.func60 rfl Tryz.ntmps60 rfl (fun e he => ?_)
  refine J.weak [(0, _)] ⟨rfl, trivial⟩ ?_
  have hh0 := Part.le.refl h
  refine Sr ?_
  refine JL.box rfl rfl rfl (fun b1 => ?_)
  refine Ru 1 rfl ?_
  refine JL.nil ?_
  refine Sr ?_
  refine Ru 1 rfl ?_
  refine JL.op (RunV.own1 ag_30 rfl mm_ rfl) rfl ?_
  refine JL.callP ca_40 rfl (natbits_fn (by assumption)) rfl ?_
  rw [nbits_vL]
  refine Ru 1 rfl ?_
  refine JL.nil ?_
  refine J.seq ?_
  refine J.held ([.blk b1 32 [.slice an n.length cn, .slice ae x.length ce, .slice ad d.length cd]]) 38 mixed_ rfl (fun h00 => ?_)
  refine JH.take 0 rfl (by kernel_rfl) (by kernel_rfl) (by kernel_rfl) (fun _ _ _ _ hh => hh) (br_ h00) (by first | exact RunV.fieldAt0 fo_32_0 rfl | exact RunV.fieldAt fo_32_0 rfl) rfl ?_
  refine JH.take 1 rfl (by kernel_rfl) (by kernel_rfl) (by kernel_rfl) (fun _ _ _ _ hh => hh) (br_ h00) (RunV.own1 ag_30 rfl mm_ rfl) rfl ?_
  refine JH.all1 2 (by kernel_rfl) rfl ?_
  unfold One
  refine JL.callP ca_98 rfl (odd_fn (by assumption)) rfl ?_
  refine JL.nil ⟨(br_ h00), ?_⟩
  refine JH.take 3 rfl (by kernel_rfl) (by kernel_rfl) (by kernel_rfl) (fun _ _ _ _ hh => hh) (br_ h00) (RunV.move rfl) rfl ?_
  refine Bh 10 rfl (fun hc4 => ?_) fun hc4 => ?_
  ·
   refine JH.takeG 4 rfl rfl rfl (by kernel_rfl) (by kernel_rfl) (by kernel_rfl) (fun _ _ _ _ hh => hh) (br_ h00) (RunV.move rfl) rfl ?_
   refine JH.takeG 5 rfl rfl rfl (by kernel_rfl) (by kernel_rfl) (by kernel_rfl) (fun _ _ _ _ hh => hh) (br_ h00) (RunV.geq rfl rfl) rfl ?_
   refine JH.take 6 rfl (by kernel_rfl) (by kernel_rfl) (by kernel_rfl) (fun _ _ _ _ hh => hh) (br_ h00) (RunV.pick_t rfl rfl) rfl ?_
   refine JH.take 7 rfl (by kernel_rfl) (by kernel_rfl) (by kernel_rfl) (fun _ _ _ _ hh => hh) (br_ h00) (RunV.move rfl) rfl ?_
   refine Bh 14 rfl (fun hc5 => ?_) fun hc5 => ?_
   ·
    refine JH.takeG 8 rfl rfl rfl (by kernel_rfl) (by kernel_rfl) (by kernel_rfl) (fun _ _ _ _ hh => hh) (br_ h00) (RunV.move rfl) rfl ?_
    refine JH.takeG 9 rfl rfl rfl (by kernel_rfl) (by kernel_rfl) (by kernel_rfl) (fun _ _ _ _ hh => hh) (br_ h00) (RunV.leq rfl rfl) rfl ?_
    refine JH.take 10 rfl (by kernel_rfl) (by kernel_rfl) (by kernel_rfl) (fun _ _ _ _ hh => hh) (br_ h00) (RunV.pick_t rfl rfl) rfl ?_
    refine JH.take 11 rfl (by kernel_rfl) (by kernel_rfl) (by kernel_rfl) (fun _ _ _ _ hh => hh) (br_ h00) (RunV.move rfl) rfl ?_
    refine Bh 18 rfl (fun hc6 => ?_) fun hc6 => ?_
    ·
     refine JH.takeG 12 rfl rfl rfl (by kernel_rfl) (by kernel_rfl) (by kernel_rfl) (fun _ _ _ _ hh => hh) (br_ h00) (by first | exact RunV.fieldAt0 fo_32_1 rfl | exact RunV.fieldAt fo_32_1 rfl) rfl ?_
     refine JH.takeG 13 rfl rfl rfl (by kernel_rfl) (by kernel_rfl) (by kernel_rfl) (fun _ _ _ _ hh => hh) (br_ h00) (RunV.own1 ag_30 rfl mm_ rfl) rfl ?_
     refine JH.all1 14 (by kernel_rfl) rfl ?_
     unfold One
     refine JL.callPg rfl rfl  ca_98 rfl (odd_fn (by assumption)) rfl ?_
     refine JL.nil ⟨(br_ h00), ?_⟩
     refine JH.take 15 rfl (by kernel_rfl) (by kernel_rfl) (by kernel_rfl) (fun _ _ _ _ hh => hh) (br_ h00) (RunV.pick_t rfl rfl) rfl ?_
     refine JH.take 16 rfl (by kernel_rfl) (by kernel_rfl) (by kernel_rfl) (fun _ _ _ _ hh => hh) (br_ h00) (RunV.move rfl) rfl ?_
     refine Bh 23 rfl (fun hc8 => ?_) fun hc8 => ?_
     ·
      refine JH.takeG 17 rfl rfl rfl (by kernel_rfl) (by kernel_rfl) (by kernel_rfl) (fun _ _ _ _ hh => hh) (br_ h00) (by first | exact RunV.fieldAt0 fo_32_1 rfl | exact RunV.fieldAt fo_32_1 rfl) rfl ?_
      refine JH.takeG 18 rfl rfl rfl (by kernel_rfl) (by kernel_rfl) (by kernel_rfl) (fun _ _ _ _ hh => hh) (br_ h00) (RunV.own1 ag_30 rfl mm_ rfl) rfl ?_
      refine JH.all1 19 (by kernel_rfl) rfl ?_
      unfold One
      refine JL.callRg rfl rfl  ca_87 rfl (natOf_fn (n := 2) (by decide)) rfl ?_
      rintro _ h9 hle9 ⟨oa, oc, rfl, hO1⟩
      replace hn := hn.mono hle9
      replace hx := hx.mono hle9
      replace hd := hd.mono hle9
      replace hh0 := hh0.mono hle9
      refine JL.nil ⟨(br_ h00), ?_⟩
      refine JH.all1 20 (by kernel_rfl) rfl ?_
      unfold One
      refine JL.callPg rfl rfl  ca_47 rfl (natcmp_fn (by assumption) (by assumption)) rfl ?_
      rw [v2]
      refine JL.nil ⟨(br_ h00), ?_⟩
      refine JH.takeG 21 rfl rfl rfl (by kernel_rfl) (by kernel_rfl) (by kernel_rfl) (fun _ _ _ _ hh => hh) (br_ h00) (RunV.gtr rfl rfl) rfl ?_
      refine JH.take 22 rfl (by kernel_rfl) (by kernel_rfl) (by kernel_rfl) (fun _ _ _ _ hh => hh) (br_ h00) (RunV.pick_t rfl rfl) rfl ?_
      refine JH.take 23 rfl (by kernel_rfl) (by kernel_rfl) (by kernel_rfl) (fun _ _ _ _ hh => hh) (br_ h00) (RunV.move rfl) rfl ?_
      refine Bh 30 rfl (fun hc11 => ?_) fun hc11 => ?_
      ·
       refine JH.takeG 24 rfl rfl rfl (by kernel_rfl) (by kernel_rfl) (by kernel_rfl) (fun _ _ _ _ hh => hh) (br_ h00) (by first | exact RunV.fieldAt0 fo_32_1 rfl | exact RunV.fieldAt fo_32_1 rfl) rfl ?_
       refine JH.takeG 25 rfl rfl rfl (by kernel_rfl) (by kernel_rfl) (by kernel_rfl) (fun _ _ _ _ hh => hh) (br_ h00) (RunV.own1 ag_30 rfl mm_ rfl) rfl ?_
       refine JH.all1 26 (by kernel_rfl) rfl ?_
       unfold One
       refine JL.callPg rfl rfl  ca_40 rfl (natbits_fn (by assumption)) rfl ?_
       rw [nbits_vL]
       refine JL.nil ⟨(br_ h00), ?_⟩
       refine JH.takeG 27 rfl rfl rfl (by kernel_rfl) (by kernel_rfl) (by kernel_rfl) (fun _ _ _ _ hh => hh) (br_ h00) (RunV.leq rfl rfl) rfl ?_
       refine JH.take 28 rfl (by kernel_rfl) (by kernel_rfl) (by kernel_rfl) (fun _ _ _ _ hh => hh) (br_ h00) (RunV.pick_t rfl rfl) rfl ?_
       refine JH.take 29 rfl (by kernel_rfl) (by kernel_rfl) (by kernel_rfl) (fun _ _ _ _ hh => hh) (br_ h00) (RunV.move rfl) rfl ?_
       refine Bh 36 rfl (fun hc13 => ?_) fun hc13 => ?_
       ·
        refine JH.takeG 30 rfl rfl rfl (by kernel_rfl) (by kernel_rfl) (by kernel_rfl) (fun _ _ _ _ hh => hh) (br_ h00) (by first | exact RunV.fieldAt0 fo_32_2 rfl | exact RunV.fieldAt fo_32_2 rfl) rfl ?_
        refine JH.takeG 31 rfl rfl rfl (by kernel_rfl) (by kernel_rfl) (by kernel_rfl) (fun _ _ _ _ hh => hh) (br_ h00) (RunV.own1 ag_30 rfl mm_ rfl) rfl ?_
        refine JH.takeG 32 rfl rfl rfl (by kernel_rfl) (by kernel_rfl) (by kernel_rfl) (fun _ _ _ _ hh => hh) (br_ h00) (by first | exact RunV.fieldAt0 fo_32_0 rfl | exact RunV.fieldAt fo_32_0 rfl) rfl ?_
        refine JH.takeG 33 rfl rfl rfl (by kernel_rfl) (by kernel_rfl) (by kernel_rfl) (fun _ _ _ _ hh => hh) (br_ h00) (RunV.own1 ag_30 rfl mm_ rfl) rfl ?_
        refine JH.all1 34 (by kernel_rfl) rfl ?_
        unfold One
        refine JL.callPg rfl rfl  ca_47 rfl (natcmp_fn (by assumption) (by assumption)) rfl ?_
        refine JL.nil ⟨(br_ h00), ?_⟩
        refine JH.takeG 35 rfl rfl rfl (by kernel_rfl) (by kernel_rfl) (by kernel_rfl) (fun _ _ _ _ hh => hh) (br_ h00) (RunV.lss rfl rfl) rfl ?_
        refine JH.take 36 rfl (by kernel_rfl) (by kernel_rfl) (by kernel_rfl) (fun _ _ _ _ hh => hh) (br_ h00) (RunV.pick_t rfl rfl) rfl ?_
        refine JH.take 37 rfl (by kernel_rfl) (by kernel_rfl) (by kernel_rfl) (fun _ _ _ _ hh => hh) (br_ h00) (RunV.assign rfl) rfl ?_
        refine JH.done (by kernel_rfl) ?_
        refine Kp [2] rfl ?_
        exact J.retR (RetV.one rfl rfl) (congrArg Value.bool (by unfold rightB; first | exact decide_eq_decide.2 (by omega) | exact (decide_eq_false (by omega)).symm))
       ·
        refine JH.skip 30 rfl rfl rfl (by kernel_rfl) (by kernel_rfl) (by kernel_rfl) (fun _ _ _ _ hh => hh) (br_ h00) rfl ?_
        refine JH.skip 31 rfl rfl rfl (by kernel_rfl) (by kernel_rfl) (by kernel_rfl) (fun _ _ _ _ hh => hh) (br_ h00) rfl ?_
        refine JH.skip 32 rfl rfl rfl (by kernel_rfl) (by kernel_rfl) (by kernel_rfl) (fun _ _ _ _ hh => hh) (br_ h00) rfl ?_
        refine JH.skip 33 rfl rfl rfl (by kernel_rfl) (by kernel_rfl) (by kernel_rfl) (fun _ _ _ _ hh => hh) (br_ h00) rfl ?_
        refine JH.all1 34 (by kernel_rfl) rfl ?_
        unfold One
        refine JL.skip rfl rfl rfl ?_
        refine JL.nil ⟨(br_ h00), ?_⟩
        refine JH.skip 35 rfl rfl rfl (by kernel_rfl) (by kernel_rfl) (by kernel_rfl) (fun _ _ _ _ hh => hh) (br_ h00) rfl ?_
        refine JH.take 36 rfl (by kernel_rfl) (by kernel_rfl) (by kernel_rfl) (fun _ _ _ _ hh => hh) (br_ h00) (RunV.pick_f rfl rfl) rfl ?_
        refine JH.take 37 rfl (by kernel_rfl) (by kernel_rfl) (by kernel_rfl) (fun _ _ _ _ hh => hh) (br_ h00) (RunV.assign rfl) rfl ?_
        refine JH.done (by kernel_rfl) ?_
        refine Kp [2] rfl ?_
        exact J.retR (RetV.one rfl rfl) (congrArg Value.bool (by unfold rightB; first | exact decide_eq_decide.2 (by omega) | exact (decide_eq_false (by omega)).symm))
      ·
       refine JH.skip 24 rfl rfl rfl (by kernel_rfl) (by kernel_rfl) (by kernel_rfl) (fun _ _ _ _ hh => hh) (br_ h00) rfl ?_
       refine JH.skip 25 rfl rfl rfl (by kernel_rfl) (by kernel_rfl) (by kernel_rfl) (fun _ _ _ _ hh => hh) (br_ h00) rfl ?_
       refine JH.all1 26 (by kernel_rfl) rfl ?_
       unfold One
       refine JL.skip rfl rfl rfl ?_
       refine JL.nil ⟨(br_ h00), ?_⟩
       refine JH.skip 27 rfl rfl rfl (by kernel_rfl) (by kernel_rfl) (by kernel_rfl) (fun _ _ _ _ hh => hh) (br_ h00) rfl ?_
       refine JH.take 28 rfl (by kernel_rfl) (by kernel_rfl) (by kernel_rfl) (fun _ _ _ _ hh => hh) (br_ h00) (RunV.pick_f rfl rfl) rfl ?_
       refine JH.take 29 rfl (by kernel_rfl) (by kernel_rfl) (by kernel_rfl) (fun _ _ _ _ hh => hh) (br_ h00) (RunV.move rfl) rfl ?_
       refine JH.skip 30 rfl rfl rfl (by kernel_rfl) (by kernel_rfl) (by kernel_rfl) (fun _ _ _ _ hh => hh) (br_ h00) rfl ?_
       refine JH.skip 31 rfl rfl rfl (by kernel_rfl) (by kernel_rfl) (by kernel_rfl) (fun _ _ _ _ hh => hh) (br_ h00) rfl ?_
       refine JH.skip 32 rfl rfl rfl (by kernel_rfl) (by kernel_rfl) (by kernel_rfl) (fun _ _ _ _ hh => hh) (br_ h00) rfl ?_
       refine JH.skip 33 rfl rfl rfl (by kernel_rfl) (by kernel_rfl) (by kernel_rfl) (fun _ _ _ _ hh => hh) (br_ h00) rfl ?_
       refine JH.all1 34 (by kernel_rfl) rfl ?_
       unfold One
       refine JL.skip rfl rfl rfl ?_
       refine JL.nil ⟨(br_ h00), ?_⟩
       refine JH.skip 35 rfl rfl rfl (by kernel_rfl) (by kernel_rfl) (by kernel_rfl) (fun _ _ _ _ hh => hh) (br_ h00) rfl ?_
       refine JH.take 36 rfl (by kernel_rfl) (by kernel_rfl) (by kernel_rfl) (fun _ _ _ _ hh => hh) (br_ h00) (RunV.pick_f rfl rfl) rfl ?_
       refine JH.take 37 rfl (by kernel_rfl) (by kernel_rfl) (by kernel_rfl) (fun _ _ _ _ hh => hh) (br_ h00) (RunV.assign rfl) rfl ?_
       refine JH.done (by kernel_rfl) ?_
       refine Kp [2] rfl ?_
       exact J.retR (RetV.one rfl rfl) (congrArg Value.bool (by unfold rightB; first | exact decide_eq_decide.2 (by omega) | exact (decide_eq_false (by omega)).symm))
     ·
      refine JH.skip 17 rfl rfl rfl (by kernel_rfl) (by kernel_rfl) (by kernel_rfl) (fun _ _ _ _ hh => hh) (br_ h00) rfl ?_
      refine JH.skip 18 rfl rfl rfl (by kernel_rfl) (by kernel_rfl) (by kernel_rfl) (fun _ _ _ _ hh => hh) (br_ h00) rfl ?_
      refine JH.all1 19 (by kernel_rfl) rfl ?_
      unfold One
      refine JL.skip rfl rfl rfl ?_
      refine JL.nil ⟨(br_ h00), ?_⟩
      refine JH.all1 20 (by kernel_rfl) rfl ?_
      unfold One
      refine JL.skip rfl rfl rfl ?_
      refine JL.nil ⟨(br_ h00), ?_⟩
      refine JH.skip 21 rfl rfl rfl (by kernel_rfl) (by kernel_rfl) (by kernel_rfl) (fun _ _ _ _ hh => hh) (br_ h00) rfl ?_
      refine JH.take 22 rfl (by kernel_rfl) (by kernel_rfl) (by kernel_rfl) (fun _ _ _ _ hh => hh) (br_ h00) (RunV.pick_f rfl rfl) rfl ?_
      refine JH.take 23 rfl (by kernel_rfl) (by kernel_rfl) (by kernel_rfl) (fun _ _ _ _ hh => hh) (br_ h00) (RunV.move rfl) rfl ?_
      refine JH.skip 24 rfl rfl rfl (by kernel_rfl) (by kernel_rfl) (by kernel_rfl) (fun _ _ _ _ hh => hh) (br_ h00) rfl ?_
      refine JH.skip 25 rfl rfl rfl (by kernel_rfl) (by kernel_rfl) (by kernel_rfl) (fun _ _ _ _ hh => hh) (br_ h00) rfl ?_
      refine JH.all1 26 (by kernel_rfl) rfl ?_
      unfold One
      refine JL.skip rfl rfl rfl ?_
      refine JL.nil ⟨(br_ h00), ?_⟩
      refine JH.skip 27 rfl rfl rfl (by kernel_rfl) (by kernel_rfl) (by kernel_rfl) (fun _ _ _ _ hh => hh) (br_ h00) rfl ?_
      refine JH.take 28 rfl (by kernel_rfl) (by kernel_rfl) (by kernel_rfl) (fun _ _ _ _ hh => hh) (br_ h00) (RunV.pick_f rfl rfl) rfl ?_
      refine JH.take 29 rfl (by kernel_rfl) (by kernel_rfl) (by kernel_rfl) (fun _ _ _ _ hh => hh) (br_ h00) (RunV.move rfl) rfl ?_
      refine JH.skip 30 rfl rfl rfl (by kernel_rfl) (by kernel_rfl) (by kernel_rfl) (fun _ _ _ _ hh => hh) (br_ h00) rfl ?_
      refine JH.skip 31 rfl rfl rfl (by kernel_rfl) (by kernel_rfl) (by kernel_rfl) (fun _ _ _ _ hh => hh) (br_ h00) rfl ?_
      refine JH.skip 32 rfl rfl rfl (by kernel_rfl) (by kernel_rfl) (by kernel_rfl) (fun _ _ _ _ hh => hh) (br_ h00) rfl ?_
      refine JH.skip 33 rfl rfl rfl (by kernel_rfl) (by kernel_rfl) (by kernel_rfl) (fun _ _ _ _ hh => hh) (br_ h00) rfl ?_
      refine JH.all1 34 (by kernel_rfl) rfl ?_
      unfold One
      refine JL.skip rfl rfl rfl ?_
      refine JL.nil ⟨(br_ h00), ?_⟩
      refine JH.skip 35 rfl rfl rfl (by kernel_rfl) (by kernel_rfl) (by kernel_rfl) (fun _ _ _ _ hh => hh) (br_ h00) rfl ?_
      refine JH.take 36 rfl (by kernel_rfl) (by kernel_rfl) (by kernel_rfl) (fun _ _ _ _ hh => hh) (br_ h00) (RunV.pick_f rfl rfl) rfl ?_
      refine JH.take 37 rfl (by kernel_rfl) (by kernel_rfl) (by kernel_rfl) (fun _ _ _ _ hh => hh) (br_ h00) (RunV.assign rfl) rfl ?_
      refine JH.done (by kernel_rfl) ?_
      refine Kp [2] rfl ?_
      exact J.retR (RetV.one rfl rfl) (congrArg Value.bool (by unfold rightB; first | exact decide_eq_decide.2 (by omega) | exact (decide_eq_false (by omega)).symm))
    ·
     refine JH.skip 12 rfl rfl rfl (by kernel_rfl) (by kernel_rfl) (by kernel_rfl) (fun _ _ _ _ hh => hh) (br_ h00) rfl ?_
     refine JH.skip 13 rfl rfl rfl (by kernel_rfl) (by kernel_rfl) (by kernel_rfl) (fun _ _ _ _ hh => hh) (br_ h00) rfl ?_
     refine JH.all1 14 (by kernel_rfl) rfl ?_
     unfold One
     refine JL.skip rfl rfl rfl ?_
     refine JL.nil ⟨(br_ h00), ?_⟩
     refine JH.take 15 rfl (by kernel_rfl) (by kernel_rfl) (by kernel_rfl) (fun _ _ _ _ hh => hh) (br_ h00) (RunV.pick_f rfl rfl) rfl ?_
     refine JH.take 16 rfl (by kernel_rfl) (by kernel_rfl) (by kernel_rfl) (fun _ _ _ _ hh => hh) (br_ h00) (RunV.move rfl) rfl ?_
     refine JH.skip 17 rfl rfl rfl (by kernel_rfl) (by kernel_rfl) (by kernel_rfl) (fun _ _ _ _ hh => hh) (br_ h00) rfl ?_
     refine JH.skip 18 rfl rfl rfl (by kernel_rfl) (by kernel_rfl) (by kernel_rfl) (fun _ _ _ _ hh => hh) (br_ h00) rfl ?_
     refine JH.all1 19 (by kernel_rfl) rfl ?_
     unfold One
     refine JL.skip rfl rfl rfl ?_
     refine JL.nil ⟨(br_ h00), ?_⟩
     refine JH.all1 20 (by kernel_rfl) rfl ?_
     unfold One
     refine JL.skip rfl rfl rfl ?_
     refine JL.nil ⟨(br_ h00), ?_⟩
     refine JH.skip 21 rfl rfl rfl (by kernel_rfl) (by kernel_rfl) (by kernel_rfl) (fun _ _ _ _ hh => hh) (br_ h00) rfl ?_
     refine JH.take 22 rfl (by kernel_rfl) (by kernel_rfl) (by kernel_rfl) (fun _ _ _ _ hh => hh) (br_ h00) (RunV.pick_f rfl rfl) rfl ?_
     refine JH.take 23 rfl (by kernel_rfl) (by kernel_rfl) (by kernel_rfl) (fun _ _ _ _ hh => hh) (br_ h00) (RunV.move rfl) rfl ?_
     refine JH.skip 24 rfl rfl rfl (by kernel_rfl) (by kernel_rfl) (by kernel_rfl) (fun _ _ _ _ hh => hh) (br_ h00) rfl ?_
     refine JH.skip 25 rfl rfl rfl (by kernel_rfl) (by kernel_rfl) (by kernel_rfl) (fun _ _ _ _ hh => hh) (br_ h00) rfl ?_
     refine JH.all1 26 (by kernel_rfl) rfl ?_
     unfold One
     refine JL.skip rfl rfl rfl ?_
     refine JL.nil ⟨(br_ h00), ?_⟩
     refine JH.skip 27 rfl rfl rfl (by kernel_rfl) (by kernel_rfl) (by kernel_rfl) (fun _ _ _ _ hh => hh) (br_ h00) rfl ?_
     refine JH.take 28 rfl (by kernel_rfl) (by kernel_rfl) (by kernel_rfl) (fun _ _ _ _ hh => hh) (br_ h00) (RunV.pick_f rfl rfl) rfl ?_
     refine JH.take 29 rfl (by kernel_rfl) (by kernel_rfl) (by kernel_rfl) (fun _ _ _ _ hh => hh) (br_ h00) (RunV.move rfl) rfl ?_
     refine JH.skip 30 rfl rfl rfl (by kernel_rfl) (by kernel_rfl) (by kernel_rfl) (fun _ _ _ _ hh => hh) (br_ h00) rfl ?_
     refine JH.skip 31 rfl rfl rfl (by kernel_rfl) (by kernel_rfl) (by kernel_rfl) (fun _ _ _ _ hh => hh) (br_ h00) rfl ?_
     refine JH.skip 32 rfl rfl rfl (by kernel_rfl) (by kernel_rfl) (by kernel_rfl) (fun _ _ _ _ hh => hh) (br_ h00) rfl ?_
     refine JH.skip 33 rfl rfl rfl (by kernel_rfl) (by kernel_rfl) (by kernel_rfl) (fun _ _ _ _ hh => hh) (br_ h00) rfl ?_
     refine JH.all1 34 (by kernel_rfl) rfl ?_
     unfold One
     refine JL.skip rfl rfl rfl ?_
     refine JL.nil ⟨(br_ h00), ?_⟩
     refine JH.skip 35 rfl rfl rfl (by kernel_rfl) (by kernel_rfl) (by kernel_rfl) (fun _ _ _ _ hh => hh) (br_ h00) rfl ?_
     refine JH.take 36 rfl (by kernel_rfl) (by kernel_rfl) (by kernel_rfl) (fun _ _ _ _ hh => hh) (br_ h00) (RunV.pick_f rfl rfl) rfl ?_
     refine JH.take 37 rfl (by kernel_rfl) (by kernel_rfl) (by kernel_rfl) (fun _ _ _ _ hh => hh) (br_ h00) (RunV.assign rfl) rfl ?_
     refine JH.done (by kernel_rfl) ?_
     refine Kp [2] rfl ?_
     exact J.retR (RetV.one rfl rfl) (congrArg Value.bool (by unfold rightB; first | exact decide_eq_decide.2 (by omega) | exact (decide_eq_false (by omega)).symm))
   ·
    refine JH.skip 8 rfl rfl rfl (by kernel_rfl) (by kernel_rfl) (by kernel_rfl) (fun _ _ _ _ hh => hh) (br_ h00) rfl ?_
    refine JH.skip 9 rfl rfl rfl (by kernel_rfl) (by kernel_rfl) (by kernel_rfl) (fun _ _ _ _ hh => hh) (br_ h00) rfl ?_
    refine JH.take 10 rfl (by kernel_rfl) (by kernel_rfl) (by kernel_rfl) (fun _ _ _ _ hh => hh) (br_ h00) (RunV.pick_f rfl rfl) rfl ?_
    refine JH.take 11 rfl (by kernel_rfl) (by kernel_rfl) (by kernel_rfl) (fun _ _ _ _ hh => hh) (br_ h00) (RunV.move rfl) rfl ?_
    refine JH.skip 12 rfl rfl rfl (by kernel_rfl) (by kernel_rfl) (by kernel_rfl) (fun _ _ _ _ hh => hh) (br_ h00) rfl ?_
    refine JH.skip 13 rfl rfl rfl (by kernel_rfl) (by kernel_rfl) (by kernel_rfl) (fun _ _ _ _ hh => hh) (br_ h00) rfl ?_
    refine JH.all1 14 (by kernel_rfl) rfl ?_
    unfold One
    refine JL.skip rfl rfl rfl ?_
    refine JL.nil ⟨(br_ h00), ?_⟩
    refine JH.take 15 rfl (by kernel_rfl) (by kernel_rfl) (by kernel_rfl) (fun _ _ _ _ hh => hh) (br_ h00) (RunV.pick_f rfl rfl) rfl ?_
    refine JH.take 16 rfl (by kernel_rfl) (by kernel_rfl) (by kernel_rfl) (fun _ _ _ _ hh => hh) (br_ h00) (RunV.move rfl) rfl ?_
    refine JH.skip 17 rfl rfl rfl (by kernel_rfl) (by kernel_rfl) (by kernel_rfl) (fun _ _ _ _ hh => hh) (br_ h00) rfl ?_
    refine JH.skip 18 rfl rfl rfl (by kernel_rfl) (by kernel_rfl) (by kernel_rfl) (fun _ _ _ _ hh => hh) (br_ h00) rfl ?_
    refine JH.all1 19 (by kernel_rfl) rfl ?_
    unfold One
    refine JL.skip rfl rfl rfl ?_
    refine JL.nil ⟨(br_ h00), ?_⟩
    refine JH.all1 20 (by kernel_rfl) rfl ?_
    unfold One
    refine JL.skip rfl rfl rfl ?_
    refine JL.nil ⟨(br_ h00), ?_⟩
    refine JH.skip 21 rfl rfl rfl (by kernel_rfl) (by kernel_rfl) (by kernel_rfl) (fun _ _ _ _ hh => hh) (br_ h00) rfl ?_
    refine JH.take 22 rfl (by kernel_rfl) (by kernel_rfl) (by kernel_rfl) (fun _ _ _ _ hh => hh) (br_ h00) (RunV.pick_f rfl rfl) rfl ?_
    refine JH.take 23 rfl (by kernel_rfl) (by kernel_rfl) (by kernel_rfl) (fun _ _ _ _ hh => hh) (br_ h00) (RunV.move rfl) rfl ?_
    refine JH.skip 24 rfl rfl rfl (by kernel_rfl) (by kernel_rfl) (by kernel_rfl) (fun _ _ _ _ hh => hh) (br_ h00) rfl ?_
    refine JH.skip 25 rfl rfl rfl (by kernel_rfl) (by kernel_rfl) (by kernel_rfl) (fun _ _ _ _ hh => hh) (br_ h00) rfl ?_
    refine JH.all1 26 (by kernel_rfl) rfl ?_
    unfold One
    refine JL.skip rfl rfl rfl ?_
    refine JL.nil ⟨(br_ h00), ?_⟩
    refine JH.skip 27 rfl rfl rfl (by kernel_rfl) (by kernel_rfl) (by kernel_rfl) (fun _ _ _ _ hh => hh) (br_ h00) rfl ?_
    refine JH.take 28 rfl (by kernel_rfl) (by kernel_rfl) (by kernel_rfl) (fun _ _ _ _ hh => hh) (br_ h00) (RunV.pick_f rfl rfl) rfl ?_
    refine JH.take 29 rfl (by kernel_rfl) (by kernel_rfl) (by kernel_rfl) (fun _ _ _ _ hh => hh) (br_ h00) (RunV.move rfl) rfl ?_
    refine JH.skip 30 rfl rfl rfl (by kernel_rfl) (by kernel_rfl) (by kernel_rfl) (fun _ _ _ _ hh => hh) (br_ h00) rfl ?_
    refine JH.skip 31 rfl rfl rfl (by kernel_rfl) (by kernel_rfl) (by kernel_rfl) (fun _ _ _ _ hh => hh) (br_ h00) rfl ?_
    refine JH.skip 32 rfl rfl rfl (by kernel_rfl) (by kernel_rfl) (by kernel_rfl) (fun _ _ _ _ hh => hh) (br_ h00) rfl ?_
    refine JH.skip 33 rfl rfl rfl (by kernel_rfl) (by kernel_rfl) (by kernel_rfl) (fun _ _ _ _ hh => hh) (br_ h00) rfl ?_
    refine JH.all1 34 (by kernel_rfl) rfl ?_
    unfold One
    refine JL.skip rfl rfl rfl ?_
    refine JL.nil ⟨(br_ h00), ?_⟩
    refine JH.skip 35 rfl rfl rfl (by kernel_rfl) (by kernel_rfl) (by kernel_rfl) (fun _ _ _ _ hh => hh) (br_ h00) rfl ?_
    refine JH.take 36 rfl (by kernel_rfl) (by kernel_rfl) (by kernel_rfl) (fun _ _ _ _ hh => hh) (br_ h00) (RunV.pick_f rfl rfl) rfl ?_
    refine JH.take 37 rfl (by kernel_rfl) (by kernel_rfl) (by kernel_rfl) (fun _ _ _ _ hh => hh) (br_ h00) (RunV.assign rfl) rfl ?_
    refine JH.done (by kernel_rfl) ?_
    refine Kp [2] rfl ?_
    exact J.retR (RetV.one rfl rfl) (congrArg Value.bool (by unfold rightB; first | exact decide_eq_decide.2 (by omega) | exact (decide_eq_false (by omega)).symm))
  ·
   refine JH.skip 4 rfl rfl rfl (by kernel_rfl) (by kernel_rfl) (by kernel_rfl) (fun _ _ _ _ hh => hh) (br_ h00) rfl ?_
   refine JH.skip 5 rfl rfl rfl (by kernel_rfl) (by kernel_rfl) (by kernel_rfl) (fun _ _ _ _ hh => hh) (br_ h00) rfl ?_
   refine JH.take 6 rfl (by kernel_rfl) (by kernel_rfl) (by kernel_rfl) (fun _ _ _ _ hh => hh) (br_ h00) (RunV.pick_f rfl rfl) rfl ?_
   refine JH.take 7 rfl (by kernel_rfl) (by kernel_rfl) (by kernel_rfl) (fun _ _ _ _ hh => hh) (br_ h00) (RunV.move rfl) rfl ?_
   refine JH.skip 8 rfl rfl rfl (by kernel_rfl) (by kernel_rfl) (by kernel_rfl) (fun _ _ _ _ hh => hh) (br_ h00) rfl ?_
   refine JH.skip 9 rfl rfl rfl (by kernel_rfl) (by kernel_rfl) (by kernel_rfl) (fun _ _ _ _ hh => hh) (br_ h00) rfl ?_
   refine JH.take 10 rfl (by kernel_rfl) (by kernel_rfl) (by kernel_rfl) (fun _ _ _ _ hh => hh) (br_ h00) (RunV.pick_f rfl rfl) rfl ?_
   refine JH.take 11 rfl (by kernel_rfl) (by kernel_rfl) (by kernel_rfl) (fun _ _ _ _ hh => hh) (br_ h00) (RunV.move rfl) rfl ?_
   refine JH.skip 12 rfl rfl rfl (by kernel_rfl) (by kernel_rfl) (by kernel_rfl) (fun _ _ _ _ hh => hh) (br_ h00) rfl ?_
   refine JH.skip 13 rfl rfl rfl (by kernel_rfl) (by kernel_rfl) (by kernel_rfl) (fun _ _ _ _ hh => hh) (br_ h00) rfl ?_
   refine JH.all1 14 (by kernel_rfl) rfl ?_
   unfold One
   refine JL.skip rfl rfl rfl ?_
   refine JL.nil ⟨(br_ h00), ?_⟩
   refine JH.take 15 rfl (by kernel_rfl) (by kernel_rfl) (by kernel_rfl) (fun _ _ _ _ hh => hh) (br_ h00) (RunV.pick_f rfl rfl) rfl ?_
   refine JH.take 16 rfl (by kernel_rfl) (by kernel_rfl) (by kernel_rfl) (fun _ _ _ _ hh => hh) (br_ h00) (RunV.move rfl) rfl ?_
   refine JH.skip 17 rfl rfl rfl (by kernel_rfl) (by kernel_rfl) (by kernel_rfl) (fun _ _ _ _ hh => hh) (br_ h00) rfl ?_
   refine JH.skip 18 rfl rfl rfl (by kernel_rfl) (by kernel_rfl) (by kernel_rfl) (fun _ _ _ _ hh => hh) (br_ h00) rfl ?_
   refine JH.all1 19 (by kernel_rfl) rfl ?_
   unfold One
   refine JL.skip rfl rfl rfl ?_
   refine JL.nil ⟨(br_ h00), ?_⟩
   refine JH.all1 20 (by kernel_rfl) rfl ?_
   unfold One
   refine JL.skip rfl rfl rfl ?_
   refine JL.nil ⟨(br_ h00), ?_⟩
   refine JH.skip 21 rfl rfl rfl (by kernel_rfl) (by kernel_rfl) (by kernel_rfl) (fun _ _ _ _ hh => hh) (br_ h00) rfl ?_
   refine JH.take 22 rfl (by kernel_rfl) (by kernel_rfl) (by kernel_rfl) (fun _ _ _ _ hh => hh) (br_ h00) (RunV.pick_f rfl rfl) rfl ?_
   refine JH.take 23 rfl (by kernel_rfl) (by kernel_rfl) (by kernel_rfl) (fun _ _ _ _ hh => hh) (br_ h00) (RunV.move rfl) rfl ?_
   refine JH.skip 24 rfl rfl rfl (by kernel_rfl) (by kernel_rfl) (by kernel_rfl) (fun _ _ _ _ hh => hh) (br_ h00) rfl ?_
   refine JH.skip 25 rfl rfl rfl (by kernel_rfl) (by kernel_rfl) (by kernel_rfl) (fun _ _ _ _ hh => hh) (br_ h00) rfl ?_
   refine JH.all1 26 (by kernel_rfl) rfl ?_
   unfold One
   refine JL.skip rfl rfl rfl ?_
   refine JL.nil ⟨(br_ h00), ?_⟩
   refine JH.skip 27 rfl rfl rfl (by kernel_rfl) (by kernel_rfl) (by kernel_rfl) (fun _ _ _ _ hh => hh) (br_ h00) rfl ?_
   refine JH.take 28 rfl (by kernel_rfl) (by kernel_rfl) (by kernel_rfl) (fun _ _ _ _ hh => hh) (br_ h00) (RunV.pick_f rfl rfl) rfl ?_
   refine JH.take 29 rfl (by kernel_rfl) (by kernel_rfl) (by kernel_rfl) (fun _ _ _ _ hh => hh) (br_ h00) (RunV.move rfl) rfl ?_
   refine JH.skip 30 rfl rfl rfl (by kernel_rfl) (by kernel_rfl) (by kernel_rfl) (fun _ _ _ _ hh => hh) (br_ h00) rfl ?_
   refine JH.skip 31 rfl rfl rfl (by kernel_rfl) (by kernel_rfl) (by kernel_rfl) (fun _ _ _ _ hh => hh) (br_ h00) rfl ?_
   refine JH.skip 32 rfl rfl rfl (by kernel_rfl) (by kernel_rfl) (by kernel_rfl) (fun _ _ _ _ hh => hh) (br_ h00) rfl ?_
   refine JH.skip 33 rfl rfl rfl (by kernel_rfl) (by kernel_rfl) (by kernel_rfl) (fun _ _ _ _ hh => hh) (br_ h00) rfl ?_
   refine JH.all1 34 (by kernel_rfl) rfl ?_
   unfold One
   refine JL.skip rfl rfl rfl ?_
   refine JL.nil ⟨(br_ h00), ?_⟩
   refine JH.skip 35 rfl rfl rfl (by kernel_rfl) (by kernel_rfl) (by kernel_rfl) (fun _ _ _ _ hh => hh) (br_ h00) rfl ?_
   refine JH.take 36 rfl (by kernel_rfl) (by kernel_rfl) (by kernel_rfl) (fun _ _ _ _ hh => hh) (br_ h00) (RunV.pick_f rfl rfl) rfl ?_
   refine JH.take 37 rfl (by kernel_rfl) (by kernel_rfl) (by kernel_rfl) (fun _ _ _ _ hh => hh) (br_ h00) (RunV.assign rfl) rfl ?_
   refine JH.done (by kernel_rfl) ?_
   refine Kp [2] rfl ?_
   exact J.retR (RetV.one rfl rfl) (congrArg Value.bool (by unfold rightB; first | exact decide_eq_decide.2 (by omega) | exact (decide_eq_false (by omega)).symm))
theorem rkeyright_fn {an ae ad : Option Addr} {cn ce cd : Nat} {n x d : List UInt32} {h : Part} (hn : SlR u32R 1 h an cn n) (hx : SlR u32R 1 h ae ce x) (hd : SlR u32R 1 h ad cd d) (hln : n.length ≤ 100000) (hlx : x.length ≤ 100000) (hld : d.length ≤ 100000) : FnR Tryz.prog 64 [.agg #[.slice an n.length cn, .slice ae x.length ce, .slice ad d.length cd]] h (fun v _ => v = .bool (rightB (vL n) (vL x) (vL d))) := by
  have hb := hn.big
  have hbl := bl_len' n
  have l2 : (toL 2).length = 1 := by kernel_rfl
  have v2 : vL (toL 2) = 2 := vL_toL 2
  obtain ⟨k1, -, k2, -, -⟩ := cmp_facts (vL x) 2
  obtain ⟨-, k3, -, k4, -⟩ := cmp_facts (vL d) (vL n)
  refine Fn.intro Tryz.func64 rfl Tryz.ntmps64 rfl (fun e he => ?_)
  refine J.weak [(0, _)] ⟨rfl, trivial⟩ ?_
  have hh0 := Part.le.refl h
  refine Sr ?_
  refine JL.box rfl rfl rfl (fun b1 => ?_)
  refine Ru 1 rfl ?_
  refine JL.nil ?_
  refine Sr ?_
  refine Ru 1 rfl ?_
  refine JL.op (RunV.own1 ag_30 rfl mm_ rfl) rfl ?_
  refine JL.callR ca_45 rfl (rbits_fn (by assumption) (by omega)) rfl ?_
  rintro _ h2 hle2 rfl
  replace hn := hn.mono hle2
  replace hx := hx.mono hle2
  replace hd := hd.mono hle2
  replace hh0 := hh0.mono hle2
  rw [nbits_vL]
  refine Ru 1 rfl ?_
  refine JL.nil ?_
  refine J.seq ?_
  refine J.held ([.blk b1 32 [.slice an n.length cn, .slice ae x.length ce, .slice ad d.length cd]]) 38 mixed_ rfl (fun h00 => ?_)
  refine JH.take 0 rfl (by kernel_rfl) (by kernel_rfl) (by kernel_rfl) (fun _ _ _ _ hh => hh) (br_ h00) (by first | exact RunV.fieldAt0 fo_32_0 rfl | exact RunV.fieldAt fo_32_0 rfl) rfl ?_
  refine JH.take 1 rfl (by kernel_rfl) (by kernel_rfl) (by kernel_rfl) (fun _ _ _ _ hh => hh) (br_ h00) (RunV.own1 ag_30 rfl mm_ rfl) rfl ?_
  refine JH.all1 2 (by kernel_rfl) rfl ?_
  unfold One
  refine JL.callP ca_101 rfl (rodd_fn (by assumption)) rfl ?_
  refine JL.nil ⟨(br_ h00), ?_⟩
  refine JH.take 3 rfl (by kernel_rfl) (by kernel_rfl) (by kernel_rfl) (fun _ _ _ _ hh => hh) (br_ h00) (RunV.move rfl) rfl ?_
  refine Bh 10 rfl (fun hc4 => ?_) fun hc4 => ?_
  ·
   refine JH.takeG 4 rfl rfl rfl (by kernel_rfl) (by kernel_rfl) (by kernel_rfl) (fun _ _ _ _ hh => hh) (br_ h00) (RunV.move rfl) rfl ?_
   refine JH.takeG 5 rfl rfl rfl (by kernel_rfl) (by kernel_rfl) (by kernel_rfl) (fun _ _ _ _ hh => hh) (br_ h00) (RunV.geq rfl rfl) rfl ?_
   refine JH.take 6 rfl (by kernel_rfl) (by kernel_rfl) (by kernel_rfl) (fun _ _ _ _ hh => hh) (br_ h00) (RunV.pick_t rfl rfl) rfl ?_
   refine JH.take 7 rfl (by kernel_rfl) (by kernel_rfl) (by kernel_rfl) (fun _ _ _ _ hh => hh) (br_ h00) (RunV.move rfl) rfl ?_
   refine Bh 14 rfl (fun hc5 => ?_) fun hc5 => ?_
   ·
    refine JH.takeG 8 rfl rfl rfl (by kernel_rfl) (by kernel_rfl) (by kernel_rfl) (fun _ _ _ _ hh => hh) (br_ h00) (RunV.move rfl) rfl ?_
    refine JH.takeG 9 rfl rfl rfl (by kernel_rfl) (by kernel_rfl) (by kernel_rfl) (fun _ _ _ _ hh => hh) (br_ h00) (RunV.leq rfl rfl) rfl ?_
    refine JH.take 10 rfl (by kernel_rfl) (by kernel_rfl) (by kernel_rfl) (fun _ _ _ _ hh => hh) (br_ h00) (RunV.pick_t rfl rfl) rfl ?_
    refine JH.take 11 rfl (by kernel_rfl) (by kernel_rfl) (by kernel_rfl) (fun _ _ _ _ hh => hh) (br_ h00) (RunV.move rfl) rfl ?_
    refine Bh 18 rfl (fun hc6 => ?_) fun hc6 => ?_
    ·
     refine JH.takeG 12 rfl rfl rfl (by kernel_rfl) (by kernel_rfl) (by kernel_rfl) (fun _ _ _ _ hh => hh) (br_ h00) (by first | exact RunV.fieldAt0 fo_32_1 rfl | exact RunV.fieldAt fo_32_1 rfl) rfl ?_
     refine JH.takeG 13 rfl rfl rfl (by kernel_rfl) (by kernel_rfl) (by kernel_rfl) (fun _ _ _ _ hh => hh) (br_ h00) (RunV.own1 ag_30 rfl mm_ rfl) rfl ?_
     refine JH.all1 14 (by kernel_rfl) rfl ?_
     unfold One
     refine JL.callPg rfl rfl  ca_101 rfl (rodd_fn (by assumption)) rfl ?_
     refine JL.nil ⟨(br_ h00), ?_⟩
     refine JH.take 15 rfl (by kernel_rfl) (by kernel_rfl) (by kernel_rfl) (fun _ _ _ _ hh => hh) (br_ h00) (RunV.pick_t rfl rfl) rfl ?_
     refine JH.take 16 rfl (by kernel_rfl) (by kernel_rfl) (by kernel_rfl) (fun _ _ _ _ hh => hh) (br_ h00) (RunV.move rfl) rfl ?_
     refine Bh 23 rfl (fun hc8 => ?_) fun hc8 => ?_
     ·
      refine JH.takeG 17 rfl rfl rfl (by kernel_rfl) (by kernel_rfl) (by kernel_rfl) (fun _ _ _ _ hh => hh) (br_ h00) (by first | exact RunV.fieldAt0 fo_32_1 rfl | exact RunV.fieldAt fo_32_1 rfl) rfl ?_
      refine JH.takeG 18 rfl rfl rfl (by kernel_rfl) (by kernel_rfl) (by kernel_rfl) (fun _ _ _ _ hh => hh) (br_ h00) (RunV.own1 ag_30 rfl mm_ rfl) rfl ?_
      refine JH.all1 19 (by kernel_rfl) rfl ?_
      unfold One
      refine JL.callRg rfl rfl  ca_53 rfl (rOf_fn (n := 2) (by decide)) rfl ?_
      rintro _ h9 hle9 ⟨oa, oc, rfl, hO1⟩
      replace hn := hn.mono hle9
      replace hx := hx.mono hle9
      replace hd := hd.mono hle9
      replace hh0 := hh0.mono hle9
      refine JL.nil ⟨(br_ h00), ?_⟩
      refine JH.all1 20 (by kernel_rfl) rfl ?_
      unfold One
      refine JL.callRg rfl rfl  ca_49 rfl (rcmp_fn (by assumption) (by assumption) (by omega) (by omega)) rfl ?_
      rintro _ h10 hle10 rfl
      replace hn := hn.mono hle10
      replace hx := hx.mono hle10
      replace hd := hd.mono hle10
      replace hh0 := hh0.mono hle10
      replace hO1 := hO1.mono hle10
      rw [v2]
      refine JL.nil ⟨(br_ h00), ?_⟩
      refine JH.takeG 21 rfl rfl rfl (by kernel_rfl) (by kernel_rfl) (by kernel_rfl) (fun _ _ _ _ hh => hh) (br_ h00) (RunV.eql rfl rfl) rfl ?_
      refine JH.take 22 rfl (by kernel_rfl) (by kernel_rfl) (by kernel_rfl) (fun _ _ _ _ hh => hh) (br_ h00) (RunV.pick_t rfl rfl) rfl ?_
      refine JH.take 23 rfl (by kernel_rfl) (by kernel_rfl) (by kernel_rfl) (fun _ _ _ _ hh => hh) (br_ h00) (RunV.move rfl) rfl ?_
      refine Bh 30 rfl (fun hc11 => ?_) fun hc11 => ?_
      ·
       refine JH.takeG 24 rfl rfl rfl (by kernel_rfl) (by kernel_rfl) (by kernel_rfl) (fun _ _ _ _ hh => hh) (br_ h00) (by first | exact RunV.fieldAt0 fo_32_1 rfl | exact RunV.fieldAt fo_32_1 rfl) rfl ?_
       refine JH.takeG 25 rfl rfl rfl (by kernel_rfl) (by kernel_rfl) (by kernel_rfl) (fun _ _ _ _ hh => hh) (br_ h00) (RunV.own1 ag_30 rfl mm_ rfl) rfl ?_
       refine JH.all1 26 (by kernel_rfl) rfl ?_
       unfold One
       refine JL.callRg rfl rfl  ca_45 rfl (rbits_fn (by assumption) (by omega)) rfl ?_
       rintro _ h12 hle12 rfl
       replace hn := hn.mono hle12
       replace hx := hx.mono hle12
       replace hd := hd.mono hle12
       replace hh0 := hh0.mono hle12
       replace hO1 := hO1.mono hle12
       rw [nbits_vL]
       refine JL.nil ⟨(br_ h00), ?_⟩
       refine JH.takeG 27 rfl rfl rfl (by kernel_rfl) (by kernel_rfl) (by kernel_rfl) (fun _ _ _ _ hh => hh) (br_ h00) (RunV.leq rfl rfl) rfl ?_
       refine JH.take 28 rfl (by kernel_rfl) (by kernel_rfl) (by kernel_rfl) (fun _ _ _ _ hh => hh) (br_ h00) (RunV.pick_t rfl rfl) rfl ?_
       refine JH.take 29 rfl (by kernel_rfl) (by kernel_rfl) (by kernel_rfl) (fun _ _ _ _ hh => hh) (br_ h00) (RunV.move rfl) rfl ?_
       refine Bh 36 rfl (fun hc13 => ?_) fun hc13 => ?_
       ·
        refine JH.takeG 30 rfl rfl rfl (by kernel_rfl) (by kernel_rfl) (by kernel_rfl) (fun _ _ _ _ hh => hh) (br_ h00) (by first | exact RunV.fieldAt0 fo_32_2 rfl | exact RunV.fieldAt fo_32_2 rfl) rfl ?_
        refine JH.takeG 31 rfl rfl rfl (by kernel_rfl) (by kernel_rfl) (by kernel_rfl) (fun _ _ _ _ hh => hh) (br_ h00) (RunV.own1 ag_30 rfl mm_ rfl) rfl ?_
        refine JH.takeG 32 rfl rfl rfl (by kernel_rfl) (by kernel_rfl) (by kernel_rfl) (fun _ _ _ _ hh => hh) (br_ h00) (by first | exact RunV.fieldAt0 fo_32_0 rfl | exact RunV.fieldAt fo_32_0 rfl) rfl ?_
        refine JH.takeG 33 rfl rfl rfl (by kernel_rfl) (by kernel_rfl) (by kernel_rfl) (fun _ _ _ _ hh => hh) (br_ h00) (RunV.own1 ag_30 rfl mm_ rfl) rfl ?_
        refine JH.all1 34 (by kernel_rfl) rfl ?_
        unfold One
        refine JL.callRg rfl rfl  ca_49 rfl (rcmp_fn (by assumption) (by assumption) (by omega) (by omega)) rfl ?_
        rintro _ h14 hle14 rfl
        replace hn := hn.mono hle14
        replace hx := hx.mono hle14
        replace hd := hd.mono hle14
        replace hh0 := hh0.mono hle14
        replace hO1 := hO1.mono hle14
        refine JL.nil ⟨(br_ h00), ?_⟩
        refine JH.takeG 35 rfl rfl rfl (by kernel_rfl) (by kernel_rfl) (by kernel_rfl) (fun _ _ _ _ hh => hh) (br_ h00) (RunV.eql rfl rfl) rfl ?_
        refine JH.take 36 rfl (by kernel_rfl) (by kernel_rfl) (by kernel_rfl) (fun _ _ _ _ hh => hh) (br_ h00) (RunV.pick_t rfl rfl) rfl ?_
        refine JH.take 37 rfl (by kernel_rfl) (by kernel_rfl) (by kernel_rfl) (fun _ _ _ _ hh => hh) (br_ h00) (RunV.assign rfl) rfl ?_
        refine JH.done (by kernel_rfl) ?_
        refine Kp [2] rfl ?_
        exact J.retR (RetV.one rfl rfl) (congrArg Value.bool (by unfold rightB; first | exact decide_eq_decide.2 (by omega) | exact (decide_eq_false (by omega)).symm))
       ·
        refine JH.skip 30 rfl rfl rfl (by kernel_rfl) (by kernel_rfl) (by kernel_rfl) (fun _ _ _ _ hh => hh) (br_ h00) rfl ?_
        refine JH.skip 31 rfl rfl rfl (by kernel_rfl) (by kernel_rfl) (by kernel_rfl) (fun _ _ _ _ hh => hh) (br_ h00) rfl ?_
        refine JH.skip 32 rfl rfl rfl (by kernel_rfl) (by kernel_rfl) (by kernel_rfl) (fun _ _ _ _ hh => hh) (br_ h00) rfl ?_
        refine JH.skip 33 rfl rfl rfl (by kernel_rfl) (by kernel_rfl) (by kernel_rfl) (fun _ _ _ _ hh => hh) (br_ h00) rfl ?_
        refine JH.all1 34 (by kernel_rfl) rfl ?_
        unfold One
        refine JL.skip rfl rfl rfl ?_
        refine JL.nil ⟨(br_ h00), ?_⟩
        refine JH.skip 35 rfl rfl rfl (by kernel_rfl) (by kernel_rfl) (by kernel_rfl) (fun _ _ _ _ hh => hh) (br_ h00) rfl ?_
        refine JH.take 36 rfl (by kernel_rfl) (by kernel_rfl) (by kernel_rfl) (fun _ _ _ _ hh => hh) (br_ h00) (RunV.pick_f rfl rfl) rfl ?_
        refine JH.take 37 rfl (by kernel_rfl) (by kernel_rfl) (by kernel_rfl) (fun _ _ _ _ hh => hh) (br_ h00) (RunV.assign rfl) rfl ?_
        refine JH.done (by kernel_rfl) ?_
        refine Kp [2] rfl ?_
        exact J.retR (RetV.one rfl rfl) (congrArg Value.bool (by unfold rightB; first | exact decide_eq_decide.2 (by omega) | exact (decide_eq_false (by omega)).symm))
      ·
       refine JH.skip 24 rfl rfl rfl (by kernel_rfl) (by kernel_rfl) (by kernel_rfl) (fun _ _ _ _ hh => hh) (br_ h00) rfl ?_
       refine JH.skip 25 rfl rfl rfl (by kernel_rfl) (by kernel_rfl) (by kernel_rfl) (fun _ _ _ _ hh => hh) (br_ h00) rfl ?_
       refine JH.all1 26 (by kernel_rfl) rfl ?_
       unfold One
       refine JL.skip rfl rfl rfl ?_
       refine JL.nil ⟨(br_ h00), ?_⟩
       refine JH.skip 27 rfl rfl rfl (by kernel_rfl) (by kernel_rfl) (by kernel_rfl) (fun _ _ _ _ hh => hh) (br_ h00) rfl ?_
       refine JH.take 28 rfl (by kernel_rfl) (by kernel_rfl) (by kernel_rfl) (fun _ _ _ _ hh => hh) (br_ h00) (RunV.pick_f rfl rfl) rfl ?_
       refine JH.take 29 rfl (by kernel_rfl) (by kernel_rfl) (by kernel_rfl) (fun _ _ _ _ hh => hh) (br_ h00) (RunV.move rfl) rfl ?_
       refine JH.skip 30 rfl rfl rfl (by kernel_rfl) (by kernel_rfl) (by kernel_rfl) (fun _ _ _ _ hh => hh) (br_ h00) rfl ?_
       refine JH.skip 31 rfl rfl rfl (by kernel_rfl) (by kernel_rfl) (by kernel_rfl) (fun _ _ _ _ hh => hh) (br_ h00) rfl ?_
       refine JH.skip 32 rfl rfl rfl (by kernel_rfl) (by kernel_rfl) (by kernel_rfl) (fun _ _ _ _ hh => hh) (br_ h00) rfl ?_
       refine JH.skip 33 rfl rfl rfl (by kernel_rfl) (by kernel_rfl) (by kernel_rfl) (fun _ _ _ _ hh => hh) (br_ h00) rfl ?_
       refine JH.all1 34 (by kernel_rfl) rfl ?_
       unfold One
       refine JL.skip rfl rfl rfl ?_
       refine JL.nil ⟨(br_ h00), ?_⟩
       refine JH.skip 35 rfl rfl rfl (by kernel_rfl) (by kernel_rfl) (by kernel_rfl) (fun _ _ _ _ hh => hh) (br_ h00) rfl ?_
       refine JH.take 36 rfl (by kernel_rfl) (by kernel_rfl) (by kernel_rfl) (fun _ _ _ _ hh => hh) (br_ h00) (RunV.pick_f rfl rfl) rfl ?_
       refine JH.take 37 rfl (by kernel_rfl) (by kernel_rfl) (by kernel_rfl) (fun _ _ _ _ hh => hh) (br_ h00) (RunV.assign rfl) rfl ?_
       refine JH.done (by kernel_rfl) ?_
       refine Kp [2] rfl ?_
       exact J.retR (RetV.one rfl rfl) (congrArg Value.bool (by unfold rightB; first | exact decide_eq_decide.2 (by omega) | exact (decide_eq_false (by omega)).symm))
     ·
      refine JH.skip 17 rfl rfl rfl (by kernel_rfl) (by kernel_rfl) (by kernel_rfl) (fun _ _ _ _ hh => hh) (br_ h00) rfl ?_
      refine JH.skip 18 rfl rfl rfl (by kernel_rfl) (by kernel_rfl) (by kernel_rfl) (fun _ _ _ _ hh => hh) (br_ h00) rfl ?_
      refine JH.all1 19 (by kernel_rfl) rfl ?_
      unfold One
      refine JL.skip rfl rfl rfl ?_
      refine JL.nil ⟨(br_ h00), ?_⟩
      refine JH.all1 20 (by kernel_rfl) rfl ?_
      unfold One
      refine JL.skip rfl rfl rfl ?_
      refine JL.nil ⟨(br_ h00), ?_⟩
      refine JH.skip 21 rfl rfl rfl (by kernel_rfl) (by kernel_rfl) (by kernel_rfl) (fun _ _ _ _ hh => hh) (br_ h00) rfl ?_
      refine JH.take 22 rfl (by kernel_rfl) (by kernel_rfl) (by kernel_rfl) (fun _ _ _ _ hh => hh) (br_ h00) (RunV.pick_f rfl rfl) rfl ?_
      refine JH.take 23 rfl (by kernel_rfl) (by kernel_rfl) (by kernel_rfl) (fun _ _ _ _ hh => hh) (br_ h00) (RunV.move rfl) rfl ?_
      refine JH.skip 24 rfl rfl rfl (by kernel_rfl) (by kernel_rfl) (by kernel_rfl) (fun _ _ _ _ hh => hh) (br_ h00) rfl ?_
      refine JH.skip 25 rfl rfl rfl (by kernel_rfl) (by kernel_rfl) (by kernel_rfl) (fun _ _ _ _ hh => hh) (br_ h00) rfl ?_
      refine JH.all1 26 (by kernel_rfl) rfl ?_
      unfold One
      refine JL.skip rfl rfl rfl ?_
      refine JL.nil ⟨(br_ h00), ?_⟩
      refine JH.skip 27 rfl rfl rfl (by kernel_rfl) (by kernel_rfl) (by kernel_rfl) (fun _ _ _ _ hh => hh) (br_ h00) rfl ?_
      refine JH.take 28 rfl (by kernel_rfl) (by kernel_rfl) (by kernel_rfl) (fun _ _ _ _ hh => hh) (br_ h00) (RunV.pick_f rfl rfl) rfl ?_
      refine JH.take 29 rfl (by kernel_rfl) (by kernel_rfl) (by kernel_rfl) (fun _ _ _ _ hh => hh) (br_ h00) (RunV.move rfl) rfl ?_
      refine JH.skip 30 rfl rfl rfl (by kernel_rfl) (by kernel_rfl) (by kernel_rfl) (fun _ _ _ _ hh => hh) (br_ h00) rfl ?_
      refine JH.skip 31 rfl rfl rfl (by kernel_rfl) (by kernel_rfl) (by kernel_rfl) (fun _ _ _ _ hh => hh) (br_ h00) rfl ?_
      refine JH.skip 32 rfl rfl rfl (by kernel_rfl) (by kernel_rfl) (by kernel_rfl) (fun _ _ _ _ hh => hh) (br_ h00) rfl ?_
      refine JH.skip 33 rfl rfl rfl (by kernel_rfl) (by kernel_rfl) (by kernel_rfl) (fun _ _ _ _ hh => hh) (br_ h00) rfl ?_
      refine JH.all1 34 (by kernel_rfl) rfl ?_
      unfold One
      refine JL.skip rfl rfl rfl ?_
      refine JL.nil ⟨(br_ h00), ?_⟩
      refine JH.skip 35 rfl rfl rfl (by kernel_rfl) (by kernel_rfl) (by kernel_rfl) (fun _ _ _ _ hh => hh) (br_ h00) rfl ?_
      refine JH.take 36 rfl (by kernel_rfl) (by kernel_rfl) (by kernel_rfl) (fun _ _ _ _ hh => hh) (br_ h00) (RunV.pick_f rfl rfl) rfl ?_
      refine JH.take 37 rfl (by kernel_rfl) (by kernel_rfl) (by kernel_rfl) (fun _ _ _ _ hh => hh) (br_ h00) (RunV.assign rfl) rfl ?_
      refine JH.done (by kernel_rfl) ?_
      refine Kp [2] rfl ?_
      exact J.retR (RetV.one rfl rfl) (congrArg Value.bool (by unfold rightB; first | exact decide_eq_decide.2 (by omega) | exact (decide_eq_false (by omega)).symm))
    ·
     refine JH.skip 12 rfl rfl rfl (by kernel_rfl) (by kernel_rfl) (by kernel_rfl) (fun _ _ _ _ hh => hh) (br_ h00) rfl ?_
     refine JH.skip 13 rfl rfl rfl (by kernel_rfl) (by kernel_rfl) (by kernel_rfl) (fun _ _ _ _ hh => hh) (br_ h00) rfl ?_
     refine JH.all1 14 (by kernel_rfl) rfl ?_
     unfold One
     refine JL.skip rfl rfl rfl ?_
     refine JL.nil ⟨(br_ h00), ?_⟩
     refine JH.take 15 rfl (by kernel_rfl) (by kernel_rfl) (by kernel_rfl) (fun _ _ _ _ hh => hh) (br_ h00) (RunV.pick_f rfl rfl) rfl ?_
     refine JH.take 16 rfl (by kernel_rfl) (by kernel_rfl) (by kernel_rfl) (fun _ _ _ _ hh => hh) (br_ h00) (RunV.move rfl) rfl ?_
     refine JH.skip 17 rfl rfl rfl (by kernel_rfl) (by kernel_rfl) (by kernel_rfl) (fun _ _ _ _ hh => hh) (br_ h00) rfl ?_
     refine JH.skip 18 rfl rfl rfl (by kernel_rfl) (by kernel_rfl) (by kernel_rfl) (fun _ _ _ _ hh => hh) (br_ h00) rfl ?_
     refine JH.all1 19 (by kernel_rfl) rfl ?_
     unfold One
     refine JL.skip rfl rfl rfl ?_
     refine JL.nil ⟨(br_ h00), ?_⟩
     refine JH.all1 20 (by kernel_rfl) rfl ?_
     unfold One
     refine JL.skip rfl rfl rfl ?_
     refine JL.nil ⟨(br_ h00), ?_⟩
     refine JH.skip 21 rfl rfl rfl (by kernel_rfl) (by kernel_rfl) (by kernel_rfl) (fun _ _ _ _ hh => hh) (br_ h00) rfl ?_
     refine JH.take 22 rfl (by kernel_rfl) (by kernel_rfl) (by kernel_rfl) (fun _ _ _ _ hh => hh) (br_ h00) (RunV.pick_f rfl rfl) rfl ?_
     refine JH.take 23 rfl (by kernel_rfl) (by kernel_rfl) (by kernel_rfl) (fun _ _ _ _ hh => hh) (br_ h00) (RunV.move rfl) rfl ?_
     refine JH.skip 24 rfl rfl rfl (by kernel_rfl) (by kernel_rfl) (by kernel_rfl) (fun _ _ _ _ hh => hh) (br_ h00) rfl ?_
     refine JH.skip 25 rfl rfl rfl (by kernel_rfl) (by kernel_rfl) (by kernel_rfl) (fun _ _ _ _ hh => hh) (br_ h00) rfl ?_
     refine JH.all1 26 (by kernel_rfl) rfl ?_
     unfold One
     refine JL.skip rfl rfl rfl ?_
     refine JL.nil ⟨(br_ h00), ?_⟩
     refine JH.skip 27 rfl rfl rfl (by kernel_rfl) (by kernel_rfl) (by kernel_rfl) (fun _ _ _ _ hh => hh) (br_ h00) rfl ?_
     refine JH.take 28 rfl (by kernel_rfl) (by kernel_rfl) (by kernel_rfl) (fun _ _ _ _ hh => hh) (br_ h00) (RunV.pick_f rfl rfl) rfl ?_
     refine JH.take 29 rfl (by kernel_rfl) (by kernel_rfl) (by kernel_rfl) (fun _ _ _ _ hh => hh) (br_ h00) (RunV.move rfl) rfl ?_
     refine JH.skip 30 rfl rfl rfl (by kernel_rfl) (by kernel_rfl) (by kernel_rfl) (fun _ _ _ _ hh => hh) (br_ h00) rfl ?_
     refine JH.skip 31 rfl rfl rfl (by kernel_rfl) (by kernel_rfl) (by kernel_rfl) (fun _ _ _ _ hh => hh) (br_ h00) rfl ?_
     refine JH.skip 32 rfl rfl rfl (by kernel_rfl) (by kernel_rfl) (by kernel_rfl) (fun _ _ _ _ hh => hh) (br_ h00) rfl ?_
     refine JH.skip 33 rfl rfl rfl (by kernel_rfl) (by kernel_rfl) (by kernel_rfl) (fun _ _ _ _ hh => hh) (br_ h00) rfl ?_
     refine JH.all1 34 (by kernel_rfl) rfl ?_
     unfold One
     refine JL.skip rfl rfl rfl ?_
     refine JL.nil ⟨(br_ h00), ?_⟩
     refine JH.skip 35 rfl rfl rfl (by kernel_rfl) (by kernel_rfl) (by kernel_rfl) (fun _ _ _ _ hh => hh) (br_ h00) rfl ?_
     refine JH.take 36 rfl (by kernel_rfl) (by kernel_rfl) (by kernel_rfl) (fun _ _ _ _ hh => hh) (br_ h00) (RunV.pick_f rfl rfl) rfl ?_
     refine JH.take 37 rfl (by kernel_rfl) (by kernel_rfl) (by kernel_rfl) (fun _ _ _ _ hh => hh) (br_ h00) (RunV.assign rfl) rfl ?_
     refine JH.done (by kernel_rfl) ?_
     refine Kp [2] rfl ?_
     exact J.retR (RetV.one rfl rfl) (congrArg Value.bool (by unfold rightB; first | exact decide_eq_decide.2 (by omega) | exact (decide_eq_false (by omega)).symm))
   ·
    refine JH.skip 8 rfl rfl rfl (by kernel_rfl) (by kernel_rfl) (by kernel_rfl) (fun _ _ _ _ hh => hh) (br_ h00) rfl ?_
    refine JH.skip 9 rfl rfl rfl (by kernel_rfl) (by kernel_rfl) (by kernel_rfl) (fun _ _ _ _ hh => hh) (br_ h00) rfl ?_
    refine JH.take 10 rfl (by kernel_rfl) (by kernel_rfl) (by kernel_rfl) (fun _ _ _ _ hh => hh) (br_ h00) (RunV.pick_f rfl rfl) rfl ?_
    refine JH.take 11 rfl (by kernel_rfl) (by kernel_rfl) (by kernel_rfl) (fun _ _ _ _ hh => hh) (br_ h00) (RunV.move rfl) rfl ?_
    refine JH.skip 12 rfl rfl rfl (by kernel_rfl) (by kernel_rfl) (by kernel_rfl) (fun _ _ _ _ hh => hh) (br_ h00) rfl ?_
    refine JH.skip 13 rfl rfl rfl (by kernel_rfl) (by kernel_rfl) (by kernel_rfl) (fun _ _ _ _ hh => hh) (br_ h00) rfl ?_
    refine JH.all1 14 (by kernel_rfl) rfl ?_
    unfold One
    refine JL.skip rfl rfl rfl ?_
    refine JL.nil ⟨(br_ h00), ?_⟩
    refine JH.take 15 rfl (by kernel_rfl) (by kernel_rfl) (by kernel_rfl) (fun _ _ _ _ hh => hh) (br_ h00) (RunV.pick_f rfl rfl) rfl ?_
    refine JH.take 16 rfl (by kernel_rfl) (by kernel_rfl) (by kernel_rfl) (fun _ _ _ _ hh => hh) (br_ h00) (RunV.move rfl) rfl ?_
    refine JH.skip 17 rfl rfl rfl (by kernel_rfl) (by kernel_rfl) (by kernel_rfl) (fun _ _ _ _ hh => hh) (br_ h00) rfl ?_
    refine JH.skip 18 rfl rfl rfl (by kernel_rfl) (by kernel_rfl) (by kernel_rfl) (fun _ _ _ _ hh => hh) (br_ h00) rfl ?_
    refine JH.all1 19 (by kernel_rfl) rfl ?_
    unfold One
    refine JL.skip rfl rfl rfl ?_
    refine JL.nil ⟨(br_ h00), ?_⟩
    refine JH.all1 20 (by kernel_rfl) rfl ?_
    unfold One
    refine JL.skip rfl rfl rfl ?_
    refine JL.nil ⟨(br_ h00), ?_⟩
    refine JH.skip 21 rfl rfl rfl (by kernel_rfl) (by kernel_rfl) (by kernel_rfl) (fun _ _ _ _ hh => hh) (br_ h00) rfl ?_
    refine JH.take 22 rfl (by kernel_rfl) (by kernel_rfl) (by kernel_rfl) (fun _ _ _ _ hh => hh) (br_ h00) (RunV.pick_f rfl rfl) rfl ?_
    refine JH.take 23 rfl (by kernel_rfl) (by kernel_rfl) (by kernel_rfl) (fun _ _ _ _ hh => hh) (br_ h00) (RunV.move rfl) rfl ?_
    refine JH.skip 24 rfl rfl rfl (by kernel_rfl) (by kernel_rfl) (by kernel_rfl) (fun _ _ _ _ hh => hh) (br_ h00) rfl ?_
    refine JH.skip 25 rfl rfl rfl (by kernel_rfl) (by kernel_rfl) (by kernel_rfl) (fun _ _ _ _ hh => hh) (br_ h00) rfl ?_
    refine JH.all1 26 (by kernel_rfl) rfl ?_
    unfold One
    refine JL.skip rfl rfl rfl ?_
    refine JL.nil ⟨(br_ h00), ?_⟩
    refine JH.skip 27 rfl rfl rfl (by kernel_rfl) (by kernel_rfl) (by kernel_rfl) (fun _ _ _ _ hh => hh) (br_ h00) rfl ?_
    refine JH.take 28 rfl (by kernel_rfl) (by kernel_rfl) (by kernel_rfl) (fun _ _ _ _ hh => hh) (br_ h00) (RunV.pick_f rfl rfl) rfl ?_
    refine JH.take 29 rfl (by kernel_rfl) (by kernel_rfl) (by kernel_rfl) (fun _ _ _ _ hh => hh) (br_ h00) (RunV.move rfl) rfl ?_
    refine JH.skip 30 rfl rfl rfl (by kernel_rfl) (by kernel_rfl) (by kernel_rfl) (fun _ _ _ _ hh => hh) (br_ h00) rfl ?_
    refine JH.skip 31 rfl rfl rfl (by kernel_rfl) (by kernel_rfl) (by kernel_rfl) (fun _ _ _ _ hh => hh) (br_ h00) rfl ?_
    refine JH.skip 32 rfl rfl rfl (by kernel_rfl) (by kernel_rfl) (by kernel_rfl) (fun _ _ _ _ hh => hh) (br_ h00) rfl ?_
    refine JH.skip 33 rfl rfl rfl (by kernel_rfl) (by kernel_rfl) (by kernel_rfl) (fun _ _ _ _ hh => hh) (br_ h00) rfl ?_
    refine JH.all1 34 (by kernel_rfl) rfl ?_
    unfold One
    refine JL.skip rfl rfl rfl ?_
    refine JL.nil ⟨(br_ h00), ?_⟩
    refine JH.skip 35 rfl rfl rfl (by kernel_rfl) (by kernel_rfl) (by kernel_rfl) (fun _ _ _ _ hh => hh) (br_ h00) rfl ?_
    refine JH.take 36 rfl (by kernel_rfl) (by kernel_rfl) (by kernel_rfl) (fun _ _ _ _ hh => hh) (br_ h00) (RunV.pick_f rfl rfl) rfl ?_
    refine JH.take 37 rfl (by kernel_rfl) (by kernel_rfl) (by kernel_rfl) (fun _ _ _ _ hh => hh) (br_ h00) (RunV.assign rfl) rfl ?_
    refine JH.done (by kernel_rfl) ?_
    refine Kp [2] rfl ?_
    exact J.retR (RetV.one rfl rfl) (congrArg Value.bool (by unfold rightB; first | exact decide_eq_decide.2 (by omega) | exact (decide_eq_false (by omega)).symm))
  ·
   refine JH.skip 4 rfl rfl rfl (by kernel_rfl) (by kernel_rfl) (by kernel_rfl) (fun _ _ _ _ hh => hh) (br_ h00) rfl ?_
   refine JH.skip 5 rfl rfl rfl (by kernel_rfl) (by kernel_rfl) (by kernel_rfl) (fun _ _ _ _ hh => hh) (br_ h00) rfl ?_
   refine JH.take 6 rfl (by kernel_rfl) (by kernel_rfl) (by kernel_rfl) (fun _ _ _ _ hh => hh) (br_ h00) (RunV.pick_f rfl rfl) rfl ?_
   refine JH.take 7 rfl (by kernel_rfl) (by kernel_rfl) (by kernel_rfl) (fun _ _ _ _ hh => hh) (br_ h00) (RunV.move rfl) rfl ?_
   refine JH.skip 8 rfl rfl rfl (by kernel_rfl) (by kernel_rfl) (by kernel_rfl) (fun _ _ _ _ hh => hh) (br_ h00) rfl ?_
   refine JH.skip 9 rfl rfl rfl (by kernel_rfl) (by kernel_rfl) (by kernel_rfl) (fun _ _ _ _ hh => hh) (br_ h00) rfl ?_
   refine JH.take 10 rfl (by kernel_rfl) (by kernel_rfl) (by kernel_rfl) (fun _ _ _ _ hh => hh) (br_ h00) (RunV.pick_f rfl rfl) rfl ?_
   refine JH.take 11 rfl (by kernel_rfl) (by kernel_rfl) (by kernel_rfl) (fun _ _ _ _ hh => hh) (br_ h00) (RunV.move rfl) rfl ?_
   refine JH.skip 12 rfl rfl rfl (by kernel_rfl) (by kernel_rfl) (by kernel_rfl) (fun _ _ _ _ hh => hh) (br_ h00) rfl ?_
   refine JH.skip 13 rfl rfl rfl (by kernel_rfl) (by kernel_rfl) (by kernel_rfl) (fun _ _ _ _ hh => hh) (br_ h00) rfl ?_
   refine JH.all1 14 (by kernel_rfl) rfl ?_
   unfold One
   refine JL.skip rfl rfl rfl ?_
   refine JL.nil ⟨(br_ h00), ?_⟩
   refine JH.take 15 rfl (by kernel_rfl) (by kernel_rfl) (by kernel_rfl) (fun _ _ _ _ hh => hh) (br_ h00) (RunV.pick_f rfl rfl) rfl ?_
   refine JH.take 16 rfl (by kernel_rfl) (by kernel_rfl) (by kernel_rfl) (fun _ _ _ _ hh => hh) (br_ h00) (RunV.move rfl) rfl ?_
   refine JH.skip 17 rfl rfl rfl (by kernel_rfl) (by kernel_rfl) (by kernel_rfl) (fun _ _ _ _ hh => hh) (br_ h00) rfl ?_
   refine JH.skip 18 rfl rfl rfl (by kernel_rfl) (by kernel_rfl) (by kernel_rfl) (fun _ _ _ _ hh => hh) (br_ h00) rfl ?_
   refine JH.all1 19 (by kernel_rfl) rfl ?_
   unfold One
   refine JL.skip rfl rfl rfl ?_
   refine JL.nil ⟨(br_ h00), ?_⟩
   refine JH.all1 20 (by kernel_rfl) rfl ?_
   unfold One
   refine JL.skip rfl rfl rfl ?_
   refine JL.nil ⟨(br_ h00), ?_⟩
   refine JH.skip 21 rfl rfl rfl (by kernel_rfl) (by kernel_rfl) (by kernel_rfl) (fun _ _ _ _ hh => hh) (br_ h00) rfl ?_
   refine JH.take 22 rfl (by kernel_rfl) (by kernel_rfl) (by kernel_rfl) (fun _ _ _ _ hh => hh) (br_ h00) (RunV.pick_f rfl rfl) rfl ?_
   refine JH.take 23 rfl (by kernel_rfl) (by kernel_rfl) (by kernel_rfl) (fun _ _ _ _ hh => hh) (br_ h00) (RunV.move rfl) rfl ?_
   refine JH.skip 24 rfl rfl rfl (by kernel_rfl) (by kernel_rfl) (by kernel_rfl) (fun _ _ _ _ hh => hh) (br_ h00) rfl ?_
   refine JH.skip 25 rfl rfl rfl (by kernel_rfl) (by kernel_rfl) (by kernel_rfl) (fun _ _ _ _ hh => hh) (br_ h00) rfl ?_
   refine JH.all1 26 (by kernel_rfl) rfl ?_
   unfold One
   refine JL.skip rfl rfl rfl ?_
   refine JL.nil ⟨(br_ h00), ?_⟩
   refine JH.skip 27 rfl rfl rfl (by kernel_rfl) (by kernel_rfl) (by kernel_rfl) (fun _ _ _ _ hh => hh) (br_ h00) rfl ?_
   refine JH.take 28 rfl (by kernel_rfl) (by kernel_rfl) (by kernel_rfl) (fun _ _ _ _ hh => hh) (br_ h00) (RunV.pick_f rfl rfl) rfl ?_
   refine JH.take 29 rfl (by kernel_rfl) (by kernel_rfl) (by kernel_rfl) (fun _ _ _ _ hh => hh) (br_ h00) (RunV.move rfl) rfl ?_
   refine JH.skip 30 rfl rfl rfl (by kernel_rfl) (by kernel_rfl) (by kernel_rfl) (fun _ _ _ _ hh => hh) (br_ h00) rfl ?_
   refine JH.skip 31 rfl rfl rfl (by kernel_rfl) (by kernel_rfl) (by kernel_rfl) (fun _ _ _ _ hh => hh) (br_ h00) rfl ?_
   refine JH.skip 32 rfl rfl rfl (by kernel_rfl) (by kernel_rfl) (by kernel_rfl) (fun _ _ _ _ hh => hh) (br_ h00) rfl ?_
   refine JH.skip 33 rfl rfl rfl (by kernel_rfl) (by kernel_rfl) (by kernel_rfl) (fun _ _ _ _ hh => hh) (br_ h00) rfl ?_
   refine JH.all1 34 (by kernel_rfl) rfl ?_
   unfold One
   refine JL.skip rfl rfl rfl ?_
   refine JL.nil ⟨(br_ h00), ?_⟩
   refine JH.skip 35 rfl rfl rfl (by kernel_rfl) (by kernel_rfl) (by kernel_rfl) (fun _ _ _ _ hh => hh) (br_ h00) rfl ?_
   refine JH.take 36 rfl (by kernel_rfl) (by kernel_rfl) (by kernel_rfl) (fun _ _ _ _ hh => hh) (br_ h00) (RunV.pick_f rfl rfl) rfl ?_
   refine JH.take 37 rfl (by kernel_rfl) (by kernel_rfl) (by kernel_rfl) (fun _ _ _ _ hh => hh) (br_ h00) (RunV.assign rfl) rfl ?_
   refine JH.done (by kernel_rfl) ?_
   refine Kp [2] rfl ?_
   exact J.retR (RetV.one rfl rfl) (congrArg Value.bool (by unfold rightB; first | exact decide_eq_decide.2 (by omega) | exact (decide_eq_false (by omega)).symm))
end Go.Proofs.YtmngjbefnloljaaGreatDoor
set_option linter.unusedSimpArgs false
set_option linter.unusedVariables false
set_option linter.constructorNameAsVariable false
namespace Go.Proofs.YtmngjbefnloljaaGreatDoor
open Go Go.RowKit
set_option maxRecDepth 100000
theorem ag_32 : aggT Tryz.prog 32 = some (some 3) := by kernel_rfl
theorem ap_62 : apT Tryz.prog 62 = some (61, 2, 16) := by kernel_rfl
theorem ar_61 : arT Tryz.prog 61 = some (2, 1) := by kernel_rfl
theorem az_61 : arZ Tryz.prog 61 = some ([.int .i64 0, .int .i64 0], 1) := by kernel_rfl
theorem ca_50 : callT Tryz.prog 50 = true := by kernel_rfl
theorem ca_51 : callT Tryz.prog 51 = true := by kernel_rfl
theorem ca_52 : callT Tryz.prog 52 = true := by kernel_rfl
theorem ca_54 : callT Tryz.prog 54 = true := by kernel_rfl
theorem ca_93 : callT Tryz.prog 93 = true := by kernel_rfl
theorem cv_3_103 : convI Tryz.prog 3 103 = some .u32 := by kernel_rfl
theorem pl_32 : plT Tryz.prog 32 = some ([.slice none 0 0, .slice none 0 0, .slice none 0 0], [(0, 1), (1, 1), (2, 1)]) := by kernel_rfl
theorem sl_62 : slT Tryz.prog 62 = some (61, 2) := by kernel_rfl
theorem zr_32 : zeroT Tryz.prog 32 = some [.slice none 0 0, .slice none 0 0, .slice none 0 0] := by kernel_rfl
section
variable {f : Fr} {n : Post} {x : Nat → Post} {S : Sig} {h : Part} {L : List Ent} {ops : Array Oper} {l0 : List Oper}
theorem JL.rowsome {a : Option Addr} {c t sz m : Nat} {xs : List Value} (hm : Ent.row a c t sz m xs ∈ L) (h0 : 0 < m) (k : ∀ g, a = some ⟨g, 0, none⟩ → JL f ops n x l0 S h L) : JL f ops n x l0 S h L := fun ac w s => by
  obtain ⟨g, hg⟩ := s.ok.row_some hm h0
  exact k g hg ac w s
end
theorem cells_ws {h : Part} {xs : List Value} {l : List UInt32} (hC : CellsR u32R 1 h xs l) : xs = ws .u32 l := by
  apply List.ext_getElem?
  intro i
  rcases Nat.lt_or_ge i l.length with hi | hi
  · have := hC.2 i l[i] (List.getElem?_eq_getElem hi)
    unfold u32R at this
    rw [Nat.mul_one, List.take_one, List.head?_drop] at this
    rw [ws_at _ _ _ hi, d32_get l i hi]
    cases hx : xs[i]? with
    | none => rw [hx] at this; simp at this
    | some v => rw [hx] at this; simpa using this
  · have h1 := hC.1
    rw [List.getElem?_eq_none (by rw [h1]; omega), List.getElem?_eq_none (by rw [ws_len]; exact hi)]
def belowL (n k : Nat) : List UInt32 := (List.replicate (n / 32) 4294967295 ++ (if 0 < n % 32 then [UInt32.ofNat (2 ^ (n % 32) - 1)] else [])).set 0 (UInt32.ofNat (4294967296 - k))
theorem rbelow_fn {n k : Nat} {h : Part} (hn : 32 ≤ n) (hn2 : n ≤ 100000) (hk : 1 ≤ k) (hk2 : k < 4294967296) : FnR Tryz.prog 93 [.int .i64 n, .int .u32 k] h (fun v h' => ∃ a c, v = .slice a (belowL n k).length c ∧ SlR u32R 1 h' a c (belowL n k)) := by
  refine Fn.intro Tryz.func93 rfl Tryz.ntmps93 rfl (fun e he => ?_)
  refine J.weak [(0, _), (1, _)] ⟨rfl, rfl, trivial⟩ ?_
  have hh0 := Part.le.refl h
  refine Sr ?_
  refine Ru 1 rfl ?_
  refine JL.nil ?_
  refine Sr ?_
  refine Ru 1 rfl ?_
  refine JL.nil ?_
  refine J.seq ?_
  refine Sr ?_
  refine JL.row_nil 103 1 ?_
  refine Ru 1 rfl ?_
  refine JL.nil ?_
  refine J.block ?_
  refine J.loop (fun t_ S_ h_ L_ => ∃ (i : Nat) (ao : Option Addr) (co : Nat) (xs : List Value), t_ = n / 32 - i ∧ S_ = [(0, .int .i64 n), (1, .int .u32 k), (5, .slice ao (List.replicate i (4294967295 : UInt32)).length co), (6, .int .i64 i)] ∧ h = h_ ∧ L_ = [.row ao co 103 1 (List.replicate i (4294967295 : UInt32)).length xs] ∧ (i ≤ n / 32 ∧ CellsR u32R 1 h xs (List.replicate i 4294967295))) ⟨_, _, ?_, ⟨0, _, _, _, rfl, rfl, rfl, rfl, ⟨by omega, CellsR.nil⟩⟩⟩ ?_
  ·
   repeat (first | exact trivial | refine ⟨rfl, ?_⟩ | refine ⟨(by exact some_int (by omega)), ?_⟩)
  rintro _ _ _ _ ⟨i, ao, co, xs, rfl, rfl, rfl, rfl, hi, hC⟩
  refine J.seq ?_
  refine Sr ?_
  refine Ru 2 rfl ?_
  refine JL.op (by first | exact RunV.quo_i64 rfl rfl (by omega) (by omega) (by omega) | exact RunV.quo rfl rfl (by omega)) rfl ?_
  refine Ru 1 rfl ?_
  refine JL.nil ?_
  refine Cs rfl (fun hc1 => ?_) fun hc1 => ?_
  ·
   have hlr : (List.replicate i (4294967295 : UInt32)).length = i := List.length_replicate; have hke : List.replicate i (4294967295 : UInt32) ++ [4294967295] = List.replicate (i + 1) 4294967295 := List.replicate_succ'.symm
   refine J.skip ?_
   refine J.seq ?_
   refine J.block ?_
   refine Rg ?_
   refine Ru 1 rfl ?_
   refine JL.lit1 ap_30 zr_103 rfl rfl rfl rfl rfl (fun b2 => ?_)
   refine JL.append1 ap_30 rfl rfl (by assumption) rfl dl_ dl_ rfl ((by exact rfl : u32R _ [.int .u32 4294967295] (4294967295 : UInt32))) (by first | omega | (simp only [List.length_append, List.length_cons, List.length_nil]; omega)) rfl rfl (fun a3 c3 xs3 hC3 hN3 => ?_)
   rw [hke] at *
   refine Ru 1 rfl ?_
   refine JL.nil ?_
   refine Rg ?_
   refine Ru 1 rfl ?_
   refine JL.op ai_ rfl ?_
   refine Ru 1 rfl ?_
   refine JL.nil ?_
   refine ⟨_, ?_, _, ?_, ⟨i + 1, _, _, _, rfl, rfl, rfl, rfl, ⟨by omega, by assumption⟩⟩⟩
   ·
    omega
   ·
    repeat (first | exact trivial | refine ⟨rfl, ?_⟩ | refine ⟨(by exact some_int (by omega)), ?_⟩)
  ·
   have hie : i = n / 32 := (by omega); subst hie; have hlr : (List.replicate (n / 32) (4294967295 : UInt32)).length = n / 32 := List.length_replicate; have hp2 : (0 : Int) < ((2 ^ (n % 32) : Nat) : Int) := (by have := Nat.two_pow_pos (n % 32); omega); have hp3 : ((2 ^ (n % 32) : Nat) : Int) ≤ 2147483648 := (by have := Nat.pow_le_pow_right (show 0 < 2 by decide) (show n % 32 ≤ 31 by omega); omega)
   refine J.exit ?_
   refine Kp [0, 1, 5] rfl ?_
   refine J.seq ?_
   refine Sr ?_
   refine Ru 1 rfl ?_
   refine JL.op (by first | exact RunV.rem_i64 rfl rfl (by omega) (by omega) | exact RunV.rem rfl rfl (by omega)) rfl ?_
   refine Ru 1 rfl ?_
   refine JL.nil ?_
   refine Cs rfl (fun hc4 => ?_) fun hc4 => ?_
   ·
    refine Rg ?_
    refine Ru 2 rfl ?_
    refine JL.op (by first | exact RunV.rem_i64 rfl rfl (by omega) (by omega) | exact RunV.rem rfl rfl (by omega)) rfl ?_
    refine JL.op (RunV.toW (n % 32) cv_3_103 rfl (by omega)) rfl ?_
    refine JL.op (RunV.shl_u32 ((2 ^ (n % 32) : Nat) : Int) rfl rfl (by omega) (by omega) (by rw [show (((n % 32 % 4294967296 : Nat) : Int)).toNat = n % 32 by omega, Int.natCast_pow]; rfl) (by omega) (by omega)) rfl ?_
    rw [Int.one_mul]
    refine JL.op (by first | exact RunV.sub_u32 rfl rfl (by omega) (by omega) | exact RunV.sub rfl rfl) rfl ?_
    refine JL.lit1 ap_30 zr_103 rfl rfl rfl rfl rfl (fun b5 => ?_)
    refine JL.append1 ap_30 rfl rfl (by assumption) rfl dl_ dl_ rfl ((by show _ = _; have hp4 : 2 ^ (n % 32) ≤ 2147483648 := (by omega); have hp5 : 0 < 2 ^ (n % 32) := Nat.two_pow_pos _; rw [UInt32.toNat_ofNat', Nat.mod_eq_of_lt (show 2 ^ (n % 32) - 1 < 2 ^ 32 by omega), show (((2 ^ (n % 32) : Nat) : Int) - 1) = ((2 ^ (n % 32) - 1 : Nat) : Int) by omega] : u32R _ [.int .u32 (((2 ^ (n % 32) : Nat) : Int) - 1)] (UInt32.ofNat (2 ^ (n % 32) - 1)))) (by first | omega | (simp only [List.length_append, List.length_cons, List.length_nil]; omega)) rfl rfl (fun a6 c6 xs6 hC6 hN6 => ?_)
    refine Ru 1 rfl ?_
    refine Nk [5, 1] rfl ?_
    refine Sr ?_
    obtain ⟨LL, hLL⟩ : ∃ LL, List.replicate (n / 32) (4294967295 : UInt32) ++ (if 0 < n % 32 then [UInt32.ofNat (2 ^ (n % 32) - 1)] else []) = LL := ⟨_, rfl⟩; have hBL : LL.set 0 (UInt32.ofNat (4294967296 - k)) = belowL n k := (by rw [← hLL]; rfl); have hBl : LL.length = (belowL n k).length := (by rw [← hBL, List.length_set]); have hL2 : LL.length ≤ 1000000 := (by rw [← hLL, List.length_append, hlr]; split <;> simp <;> omega); have hL1 : 0 < LL.length := (by rw [← hLL, List.length_append, hlr]; omega); have hL0 : d32 LL 0 = 4294967295 := (by rw [d32_get LL 0 hL1]; subst hLL; rw [List.getElem_append_left (by rw [hlr]; omega), List.getElem_replicate]; rfl); (first | (rw [if_pos (show 0 < n % 32 by omega)] at hLL) | (rw [if_neg (show ¬ 0 < n % 32 by omega), List.append_nil] at hLL)); have hlm := congrArg List.length hLL; have hCC : CellsR u32R 1 _ _ LL := (by first | exact hLL ▸ (by assumption : CellsR u32R 1 _ _ (List.replicate (n / 32) (4294967295 : UInt32) ++ [UInt32.ofNat (2 ^ (n % 32) - 1)])) | exact hLL ▸ hC); refine JL.rowsome mm_ (by rw [hlm]; exact hL1) (fun g hg => ?_); subst hg; have hxw := cells_ws (l := LL) hCC; subst hxw
    refine Ru 2 rfl ?_
    refine JL.op (RunV.index_at sl_30 (m := 0) rfl rfl rfl (by first | exact hL1 | (rw [hlm]; exact hL1))) rfl ?_
    refine JL.op (RunV.wload ag_103 rfl mm_ hL1) rfl ?_
    rw [hL0]
    refine Ru 1 rfl ?_
    refine JL.op (by first | exact RunV.sub_u32 rfl rfl (by omega) (by omega) | exact RunV.sub rfl rfl) rfl ?_
    refine JL.op (by first | exact RunV.add_u32 rfl rfl (by omega) (by omega) | exact RunV.add rfl rfl) rfl ?_
    refine JL.op (RunV.index_at sl_30 (m := 0) rfl rfl rfl (by first | exact hL1 | (rw [hlm]; exact hL1))) rfl ?_
    refine JL.storeW (4294967296 - k) ag_103 rfl rfl (by omega) dl_ hL1 ?_
    refine Nk [5] rfl ?_
    refine Sr ?_
    refine JL.pub32 dl_ (by rw [List.length_set]; exact hlm) (by rw [List.length_set]; omega) (fun h9 hle9 hP9 => ?_)
    refine Ru 2 rfl ?_
    refine JL.nil ?_
    rw [hBL] at hP9; rw [hlm, hBl]; exact J.retR (RetV.one rfl rfl) ⟨_, _, rfl, hP9⟩
   ·
    refine J.skip ?_
    refine Kp [1, 5] rfl ?_
    refine Sr ?_
    obtain ⟨LL, hLL⟩ : ∃ LL, List.replicate (n / 32) (4294967295 : UInt32) ++ (if 0 < n % 32 then [UInt32.ofNat (2 ^ (n % 32) - 1)] else []) = LL := ⟨_, rfl⟩; have hBL : LL.set 0 (UInt32.ofNat (4294967296 - k)) = belowL n k := (by rw [← hLL]; rfl); have hBl : LL.length = (belowL n k).length := (by rw [← hBL, List.length_set]); have hL2 : LL.length ≤ 1000000 := (by rw [← hLL, List.length_append, hlr]; split <;> simp <;> omega); have hL1 : 0 < LL.length := (by rw [← hLL, List.length_append, hlr]; omega); have hL0 : d32 LL 0 = 4294967295 := (by rw [d32_get LL 0 hL1]; subst hLL; rw [List.getElem_append_left (by rw [hlr]; omega), List.getElem_replicate]; rfl); (first | (rw [if_pos (show 0 < n % 32 by omega)] at hLL) | (rw [if_neg (show ¬ 0 < n % 32 by omega), List.append_nil] at hLL)); have hlm := congrArg List.length hLL; have hCC : CellsR u32R 1 _ _ LL := (by first | exact hLL ▸ (by assumption : CellsR u32R 1 _ _ (List.replicate (n / 32) (4294967295 : UInt32) ++ [UInt32.ofNat (2 ^ (n % 32) - 1)])) | exact hLL ▸ hC); refine JL.rowsome mm_ (by rw [hlm]; exact hL1) (fun g hg => ?_); subst hg; have hxw := cells_ws (l := LL) hCC; subst hxw
    refine Ru 2 rfl ?_
    refine JL.op (RunV.index_at sl_30 (m := 0) rfl rfl rfl (by first | exact hL1 | (rw [hlm]; exact hL1))) rfl ?_
    refine JL.op (RunV.wload ag_103 rfl mm_ hL1) rfl ?_
    rw [hL0]
    refine Ru 1 rfl ?_
    refine JL.op (by first | exact RunV.sub_u32 rfl rfl (by omega) (by omega) | exact RunV.sub rfl rfl) rfl ?_
    refine JL.op (by first | exact RunV.add_u32 rfl rfl (by omega) (by omega) | exact RunV.add rfl rfl) rfl ?_
    refine JL.op (RunV.index_at sl_30 (m := 0) rfl rfl rfl (by first | exact hL1 | (rw [hlm]; exact hL1))) rfl ?_
    refine JL.storeW (4294967296 - k) ag_103 rfl rfl (by omega) dl_ hL1 ?_
    refine Nk [5] rfl ?_
    refine Sr ?_
    refine JL.pub32 dl_ (by rw [List.length_set]; exact hlm) (by rw [List.length_set]; omega) (fun h9 hle9 hP9 => ?_)
    refine Ru 2 rfl ?_
    refine JL.nil ?_
    rw [hBL] at hP9; rw [hlm, hBl]; exact J.retR (RetV.one rfl rfl) ⟨_, _, rfl, hP9⟩
def primeL : Nat → List UInt32
  | 0 => belowL 256 189
  | 1 => belowL 255 19
  | 2 => belowL 256 357
  | 3 => belowL 255 31
  | 4 => belowL 257 93
  | _ => belowL 521 1
theorem primeL_len : ∀ i, (primeL i).length ≤ 20 := fun i => by
  unfold primeL; split <;> decide
theorem rprimes_fn {k : Int} {h : Part} (h0 : -9223372036854775808 ≤ k) (h1 : k ≤ 9223372036854775807) : FnR Tryz.prog 52 [.int .i64 k] h (fun v h' => ∃ a c, v = .slice a (primeL (amongI k 6).toNat).length c ∧ SlR u32R 1 h' a c (primeL (amongI k 6).toNat)) := by
  obtain ⟨g0, g1⟩ := amongI_bd k 6 (by decide)
  obtain ⟨m, hm⟩ : ∃ m : Nat, amongI k 6 = (m : Int) := ⟨(amongI k 6).toNat, by omega⟩
  rw [hm, Int.toNat_natCast]
  refine Fn.intro Tryz.func52 rfl Tryz.ntmps52 rfl (fun e he => ?_)
  refine J.weak [(0, _)] ⟨rfl, trivial⟩ ?_
  have hh0 := Part.le.refl h
  refine Sr ?_
  refine Ru 1 rfl ?_
  refine JL.nil ?_
  refine J.seq ?_
  refine Sr ?_
  refine Ru 1 rfl ?_
  refine JL.callP ca_50 rfl (among_fn _ _ _ (by omega) (by omega) (by omega)) rfl ?_
  rw [hm]
  refine JL.nil ?_
  refine J.block ?_
  refine Sr ?_
  refine Ru 2 rfl ?_
  refine JL.nil ?_
  refine Cs rfl (fun hc2 => ?_) fun hc2 => ?_
  ·
   obtain rfl : m = 0 := (by omega)
   refine Sr ?_
   refine JL.callR ca_93 rfl (rbelow_fn (n := 256) (k := 189) (by decide) (by decide) (by decide) (by decide)) rfl ?_
   rintro _ h3 hle3 ⟨ra, rc, rfl, hR⟩
   replace hh0 := hh0.mono hle3
   refine Ru 1 rfl ?_
   refine Nk [2] rfl ?_
   exact J.retR (RetV.one rfl rfl) ⟨_, _, rfl, hR⟩
  ·
   refine Sr ?_
   refine Ru 2 rfl ?_
   refine Nk [8, 4, 2] rfl ?_
   refine Cs rfl (fun hc4 => ?_) fun hc4 => ?_
   ·
    obtain rfl : m = 1 := (by omega)
    refine Sr ?_
    refine JL.callR ca_93 rfl (rbelow_fn (n := 255) (k := 19) (by decide) (by decide) (by decide) (by decide)) rfl ?_
    rintro _ h5 hle5 ⟨ra, rc, rfl, hR⟩
    replace hh0 := hh0.mono hle5
    refine Ru 1 rfl ?_
    refine Nk [2] rfl ?_
    exact J.retR (RetV.one rfl rfl) ⟨_, _, rfl, hR⟩
   ·
    refine Sr ?_
    refine Ru 2 rfl ?_
    refine JL.nil ?_
    refine Cs rfl (fun hc6 => ?_) fun hc6 => ?_
    ·
     obtain rfl : m = 2 := (by omega)
     refine Sr ?_
     refine JL.callR ca_93 rfl (rbelow_fn (n := 256) (k := 357) (by decide) (by decide) (by decide) (by decide)) rfl ?_
     rintro _ h7 hle7 ⟨ra, rc, rfl, hR⟩
     replace hh0 := hh0.mono hle7
     refine Ru 1 rfl ?_
     refine Nk [2] rfl ?_
     exact J.retR (RetV.one rfl rfl) ⟨_, _, rfl, hR⟩
    ·
     refine Sr ?_
     refine Ru 2 rfl ?_
     refine Nk [14, 4, 2] rfl ?_
     refine Cs rfl (fun hc8 => ?_) fun hc8 => ?_
     ·
      obtain rfl : m = 3 := (by omega)
      refine Sr ?_
      refine JL.callR ca_93 rfl (rbelow_fn (n := 255) (k := 31) (by decide) (by decide) (by decide) (by decide)) rfl ?_
      rintro _ h9 hle9 ⟨ra, rc, rfl, hR⟩
      replace hh0 := hh0.mono hle9
      refine Ru 1 rfl ?_
      refine Nk [2] rfl ?_
      exact J.retR (RetV.one rfl rfl) ⟨_, _, rfl, hR⟩
     ·
      refine Sr ?_
      refine Ru 2 rfl ?_
      refine JL.nil ?_
      refine Cs rfl (fun hc10 => ?_) fun hc10 => ?_
      ·
       obtain rfl : m = 4 := (by omega)
       refine Sr ?_
       refine JL.callR ca_93 rfl (rbelow_fn (n := 257) (k := 93) (by decide) (by decide) (by decide) (by decide)) rfl ?_
       rintro _ h11 hle11 ⟨ra, rc, rfl, hR⟩
       replace hh0 := hh0.mono hle11
       refine Ru 1 rfl ?_
       refine Nk [2] rfl ?_
       exact J.retR (RetV.one rfl rfl) ⟨_, _, rfl, hR⟩
      ·
       obtain rfl : m = 5 := (by omega)
       refine J.skip ?_
       refine Kp [2] rfl ?_
       refine Sr ?_
       refine JL.callR ca_93 rfl (rbelow_fn (n := 521) (k := 1) (by decide) (by decide) (by decide) (by decide)) rfl ?_
       rintro _ h12 hle12 ⟨ra, rc, rfl, hR⟩
       replace hh0 := hh0.mono hle12
       refine Ru 1 rfl ?_
       refine JL.nil ?_
       exact J.retR (RetV.one rfl rfl) ⟨_, _, rfl, hR⟩
def expL : Nat → List UInt32
  | 0 => [0xb9c9afc1, 0xb9c94636, 0xb9c94636, 0xb9c94636, 0xb9c94636, 0xb9c94636, 0xb9c94636, 0xb9c94636, 0x65af9976, 0x65af9a50, 0x65af9a50, 0x65af9a50, 0x65af9a50, 0x65af9a50, 0x65af9a50, 0x65af9a50]
  | 1 => [0xa813656d, 0xa81357ec, 0xa81357ec, 0xa81357ec, 0xa81357ec, 0xa81357ec, 0xa81357ec, 0xa81357ec, 0x63159c8e, 0x63159cea, 0x63159cea, 0x63159cea, 0x63159cea, 0x63159cea, 0x63159cea, 0x63159cea]
  | 2 => [0x197912ed, 0x1978e687, 0x1978e687, 0x1978e687, 0x1978e687, 0x1978e687, 0x1978e687, 0x1978e687, 0xaced5201, 0xaced5312, 0xaced5312, 0xaced5312, 0xaced5312, 0xaced5312, 0xaced5312, 0xaced5312]
  | 3 => [0xc45a3f41, 0xc45a3ba5, 0xc45a3ba5, 0xc45a3ba5, 0xc45a3ba5, 0xc45a3ba5, 0xc45a3ba5, 0xc45a3ba5, 0x7db7821d, 0x7db78248, 0x7db78248, 0x7db78248, 0x7db78248, 0x7db78248, 0x7db78248, 0x7db78248]
  | 4 => [0x4623bbc1, 0x4623b9dc, 0x4623b9dc, 0x4623b9dc, 0x4623b9dc, 0x4623b9dc, 0x4623b9dc, 0x4623b9dc, 0x2940d6ad, 0x2940d6bf, 0x2940d6bf, 0x2940d6bf, 0x2940d6bf, 0x2940d6bf, 0x2940d6bf, 0x2940d6bf]
  | 5 => [0xa87558e9, 0xa875578a, 0xa875578a, 0xa875578a, 0xa875578a, 0xa875578a, 0xa875578a, 0xa875578a, 0x807f7f7e, 0x807f7f80, 0x807f7f80, 0x807f7f80, 0x807f7f80, 0x807f7f80, 0x807f7f80, 0x807f7f80, 0xa269780, 0xa27f5d8, 0xa27f5d8, 0xa27f5d8, 0xa27f5d8, 0xa27f5d8, 0xa27f5d8, 0xa27f5d8, 0x1d8]
  | 6 => [0xa4b65c7d, 0xa4b65b49, 0xa4b65b49, 0xa4b65b49, 0xa4b65b49, 0xa4b65b49, 0xa4b65b49, 0xa4b65b49, 0x807f7f7f, 0x807f7f80, 0x807f7f80, 0x807f7f80, 0x807f7f80, 0x807f7f80, 0x807f7f80, 0x807f7f80, 0xc9230380, 0xc92436db, 0xc92436db, 0xc92436db, 0xc92436db, 0xc92436db, 0xc92436db, 0xc92436db, 0xdb]
  | 7 => [0xb84e47d1, 0xb84e47b1, 0xb84e47b1, 0xb84e47b1, 0xb84e47b1, 0xb84e47b1, 0xb84e47b1, 0xb84e47b1, 0x807f7f7f, 0x807f7f80, 0x807f7f80, 0x807f7f80, 0x807f7f80, 0x807f7f80, 0x807f7f80, 0x807f7f80, 0x3137af80, 0x3137cec8, 0x3137cec8, 0x3137cec8, 0x3137cec8, 0x3137cec8, 0x3137cec8, 0x3137cec8, 0xc8]
  | 8 => [0xf86107c1, 0xf861079e, 0xf861079e, 0xf861079e, 0xf861079e, 0xf861079e, 0xf861079e, 0xf861079e, 0x807f7f7f, 0x807f7f80, 0x807f7f80, 0x807f7f80, 0x807f7f80, 0x807f7f80, 0x807f7f80, 0x807f7f80, 0x1e77bf80, 0x1e77e188, 0x1e77e188, 0x1e77e188, 0x1e77e188, 0x1e77e188, 0x1e77e188, 0x1e77e188, 0x88]
  | 9 => [0x72988d99, 0x72988d67, 0x72988d67, 0x72988d67, 0x72988d67, 0x72988d67, 0x72988d67, 0x72988d67, 0x807f7f7f, 0x807f7f80, 0x807f7f80, 0x807f7f80, 0x807f7f80, 0x807f7f80, 0x807f7f80, 0x807f7f80, 0xe6f1e780, 0xe6f2190d, 0xe6f2190d, 0xe6f2190d, 0xe6f2190d, 0xe6f2190d, 0xe6f2190d, 0xe6f2190d, 0x10d]
  | 10 => [0x956b39cd, 0x956a956a, 0x956a956a, 0x956a956a, 0x956a956a, 0x956a956a, 0x956a956a, 0x956a956a, 0x9e619d0e, 0x9e619e61, 0x9e619e61, 0x9e619e61, 0x9e619e61, 0x9e619e61, 0x9e619e61, 0x9e619e61]
  | 11 => [0x11ee43e1, 0x11ee11ee, 0x11ee11ee, 0x11ee11ee, 0x11ee11ee, 0x11ee11ee, 0x11ee11ee, 0x11ee11ee, 0x6e916d3e, 0x6e916e91, 0x6e916e91, 0x6e916e91, 0x6e916e91, 0x6e916e91, 0x6e916e91, 0x6e916e91, 0x1]
  | _ => []
theorem cells_lit32 {h : Part} {xs : List Value} {l : List UInt32} (e : ws .u32 l = xs) : CellsR u32R 1 h xs l := e ▸ CellsR.of_ws32
theorem rexponent_fn {i : Nat} {h : Part} (hi : i < 12) : FnR Tryz.prog 54 [.int .i64 i] h (fun v h' => ∃ a c, v = .slice a (expL i).length c ∧ SlR u32R 1 h' a c (expL i)) := by
  refine Fn.intro Tryz.func54 rfl Tryz.ntmps54 rfl (fun e he => ?_)
  refine J.weak [(0, _)] ⟨rfl, trivial⟩ ?_
  have hh0 := Part.le.refl h
  refine Sr ?_
  refine Ru 1 rfl ?_
  refine JL.nil ?_
  refine J.seq ?_
  refine Sr ?_
  refine Ru 1 rfl ?_
  refine JL.nil ?_
  refine J.block ?_
  refine Sr ?_
  refine Ru 2 rfl ?_
  refine JL.nil ?_
  refine Cs rfl (fun hc1 => ?_) fun hc1 => ?_
  ·
   obtain rfl : i = 0 := (by omega)
   refine Sr ?_
   refine JL.lit1 ap_30 zr_103 rfl rfl rfl rfl rfl (fun b2 => ?_)
   refine JL.pubB (R := u32R) (sz := 1) (l := (expL 0)) dl_ ((cells_lit32 (by kernel_rfl))) (by first | decide | omega | (rw [digN_len]; decide) | (simp; done) | (simp [digN_len]; done)) (fun h3 hle3 hQ => ?_)
   replace hh0 := hh0.mono hle3
   refine Ru 1 rfl ?_
   refine Nk [2] rfl ?_
   exact J.retR (RetV.one rfl rfl) ⟨_, _, rfl, hQ⟩
  ·
   refine Sr ?_
   refine Ru 2 rfl ?_
   refine Nk [7, 3, 2] rfl ?_
   refine Cs rfl (fun hc4 => ?_) fun hc4 => ?_
   ·
    obtain rfl : i = 1 := (by omega)
    refine Sr ?_
    refine JL.lit1 ap_30 zr_103 rfl rfl rfl rfl rfl (fun b5 => ?_)
    refine JL.pubB (R := u32R) (sz := 1) (l := (expL 1)) dl_ ((cells_lit32 (by kernel_rfl))) (by first | decide | omega | (rw [digN_len]; decide) | (simp; done) | (simp [digN_len]; done)) (fun h6 hle6 hQ => ?_)
    replace hh0 := hh0.mono hle6
    refine Ru 1 rfl ?_
    refine Nk [2] rfl ?_
    exact J.retR (RetV.one rfl rfl) ⟨_, _, rfl, hQ⟩
   ·
    refine Sr ?_
    refine Ru 2 rfl ?_
    refine JL.nil ?_
    refine Cs rfl (fun hc7 => ?_) fun hc7 => ?_
    ·
     obtain rfl : i = 2 := (by omega)
     refine Sr ?_
     refine JL.lit1 ap_30 zr_103 rfl rfl rfl rfl rfl (fun b8 => ?_)
     refine JL.pubB (R := u32R) (sz := 1) (l := (expL 2)) dl_ ((cells_lit32 (by kernel_rfl))) (by first | decide | omega | (rw [digN_len]; decide) | (simp; done) | (simp [digN_len]; done)) (fun h9 hle9 hQ => ?_)
     replace hh0 := hh0.mono hle9
     refine Ru 1 rfl ?_
     refine Nk [2] rfl ?_
     exact J.retR (RetV.one rfl rfl) ⟨_, _, rfl, hQ⟩
    ·
     refine Sr ?_
     refine Ru 2 rfl ?_
     refine Nk [13, 3, 2] rfl ?_
     refine Cs rfl (fun hc10 => ?_) fun hc10 => ?_
     ·
      obtain rfl : i = 3 := (by omega)
      refine Sr ?_
      refine JL.lit1 ap_30 zr_103 rfl rfl rfl rfl rfl (fun b11 => ?_)
      refine JL.pubB (R := u32R) (sz := 1) (l := (expL 3)) dl_ ((cells_lit32 (by kernel_rfl))) (by first | decide | omega | (rw [digN_len]; decide) | (simp; done) | (simp [digN_len]; done)) (fun h12 hle12 hQ => ?_)
      replace hh0 := hh0.mono hle12
      refine Ru 1 rfl ?_
      refine Nk [2] rfl ?_
      exact J.retR (RetV.one rfl rfl) ⟨_, _, rfl, hQ⟩
     ·
      refine Sr ?_
      refine Ru 2 rfl ?_
      refine JL.nil ?_
      refine Cs rfl (fun hc13 => ?_) fun hc13 => ?_
      ·
       obtain rfl : i = 4 := (by omega)
       refine Sr ?_
       refine JL.lit1 ap_30 zr_103 rfl rfl rfl rfl rfl (fun b14 => ?_)
       refine JL.pubB (R := u32R) (sz := 1) (l := (expL 4)) dl_ ((cells_lit32 (by kernel_rfl))) (by first | decide | omega | (rw [digN_len]; decide) | (simp; done) | (simp [digN_len]; done)) (fun h15 hle15 hQ => ?_)
       replace hh0 := hh0.mono hle15
       refine Ru 1 rfl ?_
       refine Nk [2] rfl ?_
       exact J.retR (RetV.one rfl rfl) ⟨_, _, rfl, hQ⟩
      ·
       refine Sr ?_
       refine Ru 2 rfl ?_
       refine Nk [19, 3, 2] rfl ?_
       refine Cs rfl (fun hc16 => ?_) fun hc16 => ?_
       ·
        obtain rfl : i = 5 := (by omega)
        refine Sr ?_
        refine JL.lit1 ap_30 zr_103 rfl rfl rfl rfl rfl (fun b17 => ?_)
        refine JL.pubB (R := u32R) (sz := 1) (l := (expL 5)) dl_ ((cells_lit32 (by kernel_rfl))) (by first | decide | omega | (rw [digN_len]; decide) | (simp; done) | (simp [digN_len]; done)) (fun h18 hle18 hQ => ?_)
        replace hh0 := hh0.mono hle18
        refine Ru 1 rfl ?_
        refine Nk [2] rfl ?_
        exact J.retR (RetV.one rfl rfl) ⟨_, _, rfl, hQ⟩
       ·
        refine Sr ?_
        refine Ru 2 rfl ?_
        refine JL.nil ?_
        refine Cs rfl (fun hc19 => ?_) fun hc19 => ?_
        ·
         obtain rfl : i = 6 := (by omega)
         refine Sr ?_
         refine JL.lit1 ap_30 zr_103 rfl rfl rfl rfl rfl (fun b20 => ?_)
         refine JL.pubB (R := u32R) (sz := 1) (l := (expL 6)) dl_ ((cells_lit32 (by kernel_rfl))) (by first | decide | omega | (rw [digN_len]; decide) | (simp; done) | (simp [digN_len]; done)) (fun h21 hle21 hQ => ?_)
         replace hh0 := hh0.mono hle21
         refine Ru 1 rfl ?_
         refine Nk [2] rfl ?_
         exact J.retR (RetV.one rfl rfl) ⟨_, _, rfl, hQ⟩
        ·
         refine Sr ?_
         refine Ru 2 rfl ?_
         refine Nk [25, 3, 2] rfl ?_
         refine Cs rfl (fun hc22 => ?_) fun hc22 => ?_
         ·
          obtain rfl : i = 7 := (by omega)
          refine Sr ?_
          refine JL.lit1 ap_30 zr_103 rfl rfl rfl rfl rfl (fun b23 => ?_)
          refine JL.pubB (R := u32R) (sz := 1) (l := (expL 7)) dl_ ((cells_lit32 (by kernel_rfl))) (by first | decide | omega | (rw [digN_len]; decide) | (simp; done) | (simp [digN_len]; done)) (fun h24 hle24 hQ => ?_)
          replace hh0 := hh0.mono hle24
          refine Ru 1 rfl ?_
          refine Nk [2] rfl ?_
          exact J.retR (RetV.one rfl rfl) ⟨_, _, rfl, hQ⟩
         ·
          refine Sr ?_
          refine Ru 2 rfl ?_
          refine JL.nil ?_
          refine Cs rfl (fun hc25 => ?_) fun hc25 => ?_
          ·
           obtain rfl : i = 8 := (by omega)
           refine Sr ?_
           refine JL.lit1 ap_30 zr_103 rfl rfl rfl rfl rfl (fun b26 => ?_)
           refine JL.pubB (R := u32R) (sz := 1) (l := (expL 8)) dl_ ((cells_lit32 (by kernel_rfl))) (by first | decide | omega | (rw [digN_len]; decide) | (simp; done) | (simp [digN_len]; done)) (fun h27 hle27 hQ => ?_)
           replace hh0 := hh0.mono hle27
           refine Ru 1 rfl ?_
           refine Nk [2] rfl ?_
           exact J.retR (RetV.one rfl rfl) ⟨_, _, rfl, hQ⟩
          ·
           refine Sr ?_
           refine Ru 2 rfl ?_
           refine Nk [31, 3, 2] rfl ?_
           refine Cs rfl (fun hc28 => ?_) fun hc28 => ?_
           ·
            obtain rfl : i = 9 := (by omega)
            refine Sr ?_
            refine JL.lit1 ap_30 zr_103 rfl rfl rfl rfl rfl (fun b29 => ?_)
            refine JL.pubB (R := u32R) (sz := 1) (l := (expL 9)) dl_ ((cells_lit32 (by kernel_rfl))) (by first | decide | omega | (rw [digN_len]; decide) | (simp; done) | (simp [digN_len]; done)) (fun h30 hle30 hQ => ?_)
            replace hh0 := hh0.mono hle30
            refine Ru 1 rfl ?_
            refine Nk [2] rfl ?_
            exact J.retR (RetV.one rfl rfl) ⟨_, _, rfl, hQ⟩
           ·
            refine Sr ?_
            refine Ru 2 rfl ?_
            refine JL.nil ?_
            refine Cs rfl (fun hc31 => ?_) fun hc31 => ?_
            ·
             obtain rfl : i = 10 := (by omega)
             refine Sr ?_
             refine JL.lit1 ap_30 zr_103 rfl rfl rfl rfl rfl (fun b32 => ?_)
             refine JL.pubB (R := u32R) (sz := 1) (l := (expL 10)) dl_ ((cells_lit32 (by kernel_rfl))) (by first | decide | omega | (rw [digN_len]; decide) | (simp; done) | (simp [digN_len]; done)) (fun h33 hle33 hQ => ?_)
             replace hh0 := hh0.mono hle33
             refine Ru 1 rfl ?_
             refine Nk [2] rfl ?_
             exact J.retR (RetV.one rfl rfl) ⟨_, _, rfl, hQ⟩
            ·
             refine Sr ?_
             refine Ru 2 rfl ?_
             refine Nk [37, 2] rfl ?_
             refine Cs rfl (fun hc34 => ?_) fun hc34 => ?_
             ·
              obtain rfl : i = 11 := (by omega)
              refine Sr ?_
              refine JL.lit1 ap_30 zr_103 rfl rfl rfl rfl rfl (fun b35 => ?_)
              refine JL.pubB (R := u32R) (sz := 1) (l := (expL 11)) dl_ ((cells_lit32 (by kernel_rfl))) (by first | decide | omega | (rw [digN_len]; decide) | (simp; done) | (simp [digN_len]; done)) (fun h36 hle36 hQ => ?_)
              replace hh0 := hh0.mono hle36
              refine Ru 1 rfl ?_
              refine JL.nil ?_
              exact J.retR (RetV.one rfl rfl) ⟨_, _, rfl, hQ⟩
             ·
              refine J.skip ?_
              refine Sr ?_
              refine Ru 1 rfl ?_
              refine JL.nil ?_
              exfalso; omega
def pairR : Rep (Int × Int) := fun _ cs p => cs = [.int .i64 p.1, .int .i64 p.2]
instance : Mono pairR := ⟨fun _ r => r, fun r u hu => by unfold pairR at r; subst r; simp only [List.mem_cons, List.not_mem_nil, or_false] at hu; rcases hu with rfl | rfl <;> rfl⟩
theorem cells_pairs {h : Part} : ∀ (l : List (Int × Int)), CellsR pairR 2 h (l.flatMap fun p => [.int .i64 p.1, .int .i64 p.2]) l
  | [] => CellsR.nil
  | p :: r => by
    have ih := cells_pairs (h := h) r
    refine ⟨by have := ih.1; simp only [List.flatMap_cons, List.length_append, List.length_cons, List.length_nil] at this ⊢; omega, fun i x hx => ?_⟩
    cases i with
    | zero => simp only [List.getElem?_cons_zero, Option.some.injEq] at hx; subst hx; rfl
    | succ i =>
      have := ih.2 i x (by simpa using hx)
      rw [show (i + 1) * 2 = i * 2 + 1 + 1 by omega, List.flatMap_cons]
      exact this
def pairsL : List (Int × Int) := [(0, 2), (0, 4), (2, 4), (4, 1), (4, 3), (0, 5), (2, 5), (1, 5), (3, 5), (4, 5), (0, 2), (0, 4)]
def keyN (i : Nat) : Nat := vL (primeL (amongI (pairsL.getD i (0, 0)).1 6).toNat) * vL (primeL (amongI (pairsL.getD i (0, 0)).2 6).toNat)
def keyE (i : Nat) : Nat := if 10 ≤ i then 257 else 65537
theorem pairs_bd (i : Nat) : -10 ≤ (pairsL.getD i (0, 0)).1 ∧ (pairsL.getD i (0, 0)).1 ≤ 10 ∧ -10 ≤ (pairsL.getD i (0, 0)).2 ∧ (pairsL.getD i (0, 0)).2 ≤ 10 := by
  rcases Nat.lt_or_ge i 12 with h | h
  · have : i = 0 ∨ i = 1 ∨ i = 2 ∨ i = 3 ∨ i = 4 ∨ i = 5 ∨ i = 6 ∨ i = 7 ∨ i = 8 ∨ i = 9 ∨ i = 10 ∨ i = 11 := by omega
    rcases this with rfl | rfl | rfl | rfl | rfl | rfl | rfl | rfl | rfl | rfl | rfl | rfl <;> decide
  · rw [List.getD_eq_getElem?_getD, List.getElem?_eq_none (by simpa [pairsL] using h)]; decide
theorem rkept_fn {k : Int} {h : Part} (h0 : -9223372036854775808 ≤ k) (h1 : k ≤ 9223372036854775807) : FnR Tryz.prog 19 [.int .i64 k] h
    (fun v h' => ∃ an cn ae ce ad cd, v = .agg #[.slice an (toL (keyN (amongI k 12).toNat)).length cn, .slice ae (toL (keyE (amongI k 12).toNat)).length ce, .slice ad (expL (amongI k 12).toNat).length cd] ∧ SlR u32R 1 h' an cn (toL (keyN (amongI k 12).toNat)) ∧ SlR u32R 1 h' ae ce (toL (keyE (amongI k 12).toNat)) ∧ SlR u32R 1 h' ad cd (expL (amongI k 12).toNat)) := by
  obtain ⟨g0, g1⟩ := amongI_bd k 12 (by decide)
  obtain ⟨i, hi⟩ : ∃ i : Nat, amongI k 12 = (i : Int) := ⟨(amongI k 12).toNat, by omega⟩
  rw [hi, Int.toNat_natCast]
  obtain ⟨p1, p2, p3, p4⟩ := pairs_bd i
  obtain ⟨y, hy⟩ : ∃ y, y = keyE i := ⟨_, rfl⟩
  have hy2 : y ≤ 65537 := by rw [hy]; unfold keyE; split <;> omega
  have hpl : pairsL.length = 12 := rfl
  have hpe : pairsL[i]'(by omega) = pairsL.getD i (0, 0) := by rw [List.getD_eq_getElem?_getD, List.getElem?_eq_getElem (by omega)]; rfl
  obtain ⟨pr, hpr⟩ : ∃ pr, pr = pairsL.getD i (0, 0) := ⟨_, rfl⟩
  have l1 := primeL_len (amongI pr.1 6).toNat
  have l2 := primeL_len (amongI pr.2 6).toNat
  rw [← hpr] at p1 p2 p3 p4 hpe
  refine Fn.intro Tryz.func19 rfl Tryz.ntmps19 rfl (fun e he => ?_)
  refine J.weak [(0, _)] ⟨rfl, trivial⟩ ?_
  have hh0 := Part.le.refl h
  refine Sr ?_
  refine JL.alloc zr_32 rfl (fun b1 => ?_)
  refine JL.nil ?_
  refine Sr ?_
  refine Ru 1 rfl ?_
  refine JL.callP ca_50 rfl (among_fn _ _ _ (by omega) (by omega) (by omega)) rfl ?_
  rw [hi]
  refine Ru 1 rfl ?_
  refine JL.nil ?_
  refine Sr ?_
  refine JL.op (RunV.buildArr az_61 rfl rfl rfl) rfl ?_
  refine JL.op (RunV.buildArr az_61 rfl rfl rfl) rfl ?_
  refine JL.op (RunV.buildArr az_61 rfl rfl rfl) rfl ?_
  refine JL.op (RunV.buildArr az_61 rfl rfl rfl) rfl ?_
  refine JL.op (RunV.buildArr az_61 rfl rfl rfl) rfl ?_
  refine JL.op (RunV.buildArr az_61 rfl rfl rfl) rfl ?_
  refine JL.op (RunV.buildArr az_61 rfl rfl rfl) rfl ?_
  refine JL.op (RunV.buildArr az_61 rfl rfl rfl) rfl ?_
  refine JL.op (RunV.buildArr az_61 rfl rfl rfl) rfl ?_
  refine JL.op (RunV.buildArr az_61 rfl rfl rfl) rfl ?_
  refine JL.op (RunV.buildArr az_61 rfl rfl rfl) rfl ?_
  refine JL.op (RunV.buildArr az_61 rfl rfl rfl) rfl ?_
  refine JL.litAll [_, _, _, _, _, _, _, _, _, _, _, _] ap_62 rfl rfl (List.forall_mem_cons.2 ⟨(by first | rfl), List.forall_mem_cons.2 ⟨(by first | rfl), List.forall_mem_cons.2 ⟨(by first | rfl), List.forall_mem_cons.2 ⟨(by first | rfl), List.forall_mem_cons.2 ⟨(by first | rfl), List.forall_mem_cons.2 ⟨(by first | rfl), List.forall_mem_cons.2 ⟨(by first | rfl), List.forall_mem_cons.2 ⟨(by first | rfl), List.forall_mem_cons.2 ⟨(by first | rfl), List.forall_mem_cons.2 ⟨(by first | rfl), List.forall_mem_cons.2 ⟨(by first | rfl), List.forall_mem_cons.2 ⟨(by first | rfl), List.forall_mem_nil _⟩⟩⟩⟩⟩⟩⟩⟩⟩⟩⟩⟩) rfl (by kernel_rfl) (by kernel_rfl) rfl (fun b3 => ?_)
  refine JL.pubB (R := pairR) (sz := 2) (l := pairsL) dl_ ((show CellsR pairR 2 _ (pairsL.flatMap fun p => [.int .i64 p.1, .int .i64 p.2]) pairsL from cells_pairs pairsL)) (by first | decide | omega | (rw [digN_len]; decide) | (simp; done) | (simp [digN_len]; done)) (fun h4 hle4 hK => ?_)
  replace hh0 := hh0.mono hle4
  refine Ru 1 rfl ?_
  refine Nk [3, 0, 2] rfl ?_
  refine Sr ?_
  refine Ru 1 rfl ?_
  refine JL.nil ?_
  refine J.seq ?_
  refine Sr ?_
  refine Ru 2 rfl ?_
  refine JL.nil ?_
  refine J.meet [(4, .int .u64 y)] [(3, _), (0, _), (2, _)] ⟨rfl, rfl, rfl, trivial⟩ ?_ ?_
  ·
   refine Cs rfl (fun hc5 => ?_) fun hc5 => ?_
   ·
    refine Rg ?_
    refine Ru 1 rfl ?_
    refine JL.nil ?_
    refine ⟨rfl, rfl, ?_⟩
    repeat (first | exact trivial | refine ⟨rfl, ?_⟩ | refine ⟨(by exact some_int (by rw [hy]; unfold keyE; split <;> omega)), ?_⟩)
   ·
    refine J.skip ?_
    refine ⟨rfl, rfl, ?_⟩
    repeat (first | exact trivial | refine ⟨rfl, ?_⟩ | refine ⟨(by exact some_int (by rw [hy]; unfold keyE; split <;> omega)), ?_⟩)
  ·
   refine J.seq ?_
   refine J.held ([]) 19 mixed_ rfl (fun h00 => ?_)
   refine JH.take 0 rfl (by kernel_rfl) (by kernel_rfl) (by kernel_rfl) (fun _ _ _ _ hh => hh) (br_ h00) (RunV.move rfl) rfl ?_
   refine JH.take 1 rfl (by kernel_rfl) (by kernel_rfl) (by kernel_rfl) (fun _ _ _ _ hh => hh) (br_ h00) (RunV.move rfl) rfl ?_
   refine JH.takeE 2 rfl (by kernel_rfl) (by kernel_rfl) (by kernel_rfl) (fun _ _ _ _ hh => hh) (br_ h00) (RunE.index (m := i) sl_62 rfl rfl rfl hK hpl.symm (by omega)) rfl ?_
   rintro _ ⟨b6, o6, hi6, rfl, hE6⟩
   refine JH.take 3 rfl (by kernel_rfl) (by kernel_rfl) (by kernel_rfl) (fun _ _ _ _ hh => hh) (br_ h00) (RunV.indexAt ar_61 rfl rfl (show _ = ((0 : Nat) : Int) from rfl) (by omega)) rfl ?_
   refine JH.takeE 4 rfl (by kernel_rfl) (by kernel_rfl) (by kernel_rfl) (fun _ _ _ _ hh => hh) (br_ h00) (RunE.loadF ag_3 rfl (by assumption) (by decide)) rfl ?_
   rintro v7 ⟨_, hv7, rfl⟩
   cases hv7
   rw [hpe]
   refine JH.take 6 rfl (by kernel_rfl) (by kernel_rfl) (by kernel_rfl) (fun _ _ _ _ hh => hh) (br_ h00) (RunV.move rfl) rfl ?_
   refine JH.take 7 rfl (by kernel_rfl) (by kernel_rfl) (by kernel_rfl) (fun _ _ _ _ hh => hh) (br_ h00) (RunV.move rfl) rfl ?_
   refine JH.takeE 8 rfl (by kernel_rfl) (by kernel_rfl) (by kernel_rfl) (fun _ _ _ _ hh => hh) (br_ h00) (RunE.index (m := i) sl_62 rfl rfl rfl hK hpl.symm (by omega)) rfl ?_
   rintro _ ⟨b8, o8, hi8, rfl, hE8⟩
   refine JH.take 9 rfl (by kernel_rfl) (by kernel_rfl) (by kernel_rfl) (fun _ _ _ _ hh => hh) (br_ h00) (RunV.indexAt ar_61 rfl rfl (show _ = ((1 : Nat) : Int) from rfl) (by omega)) rfl ?_
   refine JH.takeE 10 rfl (by kernel_rfl) (by kernel_rfl) (by kernel_rfl) (fun _ _ _ _ hh => hh) (br_ h00) (RunE.loadF ag_3 rfl (by assumption) (by decide)) rfl ?_
   rintro v9 ⟨_, hv9, rfl⟩
   cases hv9
   rw [hpe]
   refine JH.take 13 rfl (by kernel_rfl) (by kernel_rfl) (by kernel_rfl) (fun _ _ _ _ hh => hh) (br_ h00) (RunV.move rfl) rfl ?_
   refine JH.take 15 rfl (by kernel_rfl) (by kernel_rfl) (by kernel_rfl) (fun _ _ _ _ hh => hh) (br_ h00) (RunV.move rfl) rfl ?_
   refine JH.all1 5 (by kernel_rfl) rfl ?_
   unfold One
   refine JL.callR ca_52 rfl (rprimes_fn (k := pr.1) (by omega) (by omega)) rfl ?_
   rintro _ h10 hle10 ⟨pa, pc, rfl, hP1⟩
   replace hh0 := hh0.mono hle10
   replace hK := hK.mono hle10
   refine JL.nil ⟨(br_ h00), ?_⟩
   refine JH.all1 11 (by kernel_rfl) rfl ?_
   unfold One
   refine JL.callR ca_52 rfl (rprimes_fn (k := pr.2) (by omega) (by omega)) rfl ?_
   rintro _ h11 hle11 ⟨qa, qc, rfl, hP2⟩
   replace hh0 := hh0.mono hle11
   replace hK := hK.mono hle11
   replace hP1 := hP1.mono hle11
   refine JL.nil ⟨(br_ h00), ?_⟩
   refine JH.all1 12 (by kernel_rfl) rfl ?_
   unfold One
   refine JL.callR ca_51 rfl (rmul_fn hP1 hP2 (by omega) (by omega)) rfl ?_
   rintro _ h12 hle12 ⟨na, nc, rfl, hN⟩
   replace hh0 := hh0.mono hle12
   replace hK := hK.mono hle12
   replace hP1 := hP1.mono hle12
   replace hP2 := hP2.mono hle12
   refine JL.nil ⟨(br_ h00), ?_⟩
   refine JH.all1 14 (by kernel_rfl) rfl ?_
   unfold One
   refine JL.callR ca_53 rfl (rOf_fn (n := y) (by omega)) rfl ?_
   rintro _ h13 hle13 ⟨ea, ec, rfl, hE⟩
   replace hh0 := hh0.mono hle13
   replace hK := hK.mono hle13
   replace hP1 := hP1.mono hle13
   replace hP2 := hP2.mono hle13
   replace hN := hN.mono hle13
   refine JL.nil ⟨(br_ h00), ?_⟩
   refine JH.all1 16 (by kernel_rfl) rfl ?_
   unfold One
   refine JL.callR ca_54 rfl (rexponent_fn (i := i) (by omega)) rfl ?_
   rintro _ h14 hle14 ⟨da, dc, rfl, hD⟩
   replace hh0 := hh0.mono hle14
   replace hK := hK.mono hle14
   replace hP1 := hP1.mono hle14
   replace hP2 := hP2.mono hle14
   replace hN := hN.mono hle14
   replace hE := hE.mono hle14
   refine JL.nil ⟨(br_ h00), ?_⟩
   refine JH.take 17 rfl (by kernel_rfl) (by kernel_rfl) (by kernel_rfl) (fun _ _ _ _ hh => hh) (br_ h00) (RunV.build (cs := [_, _, _]) pl_32 rfl rfl) rfl ?_
   refine JH.all1 18 (by kernel_rfl) rfl ?_
   unfold One
   refine JL.storeA ag_32 rfl rfl dl_ (by first | rfl) (by first | rfl | assumption) (by first | rfl) ?_
   refine JL.nil ⟨(br_ h00), ?_⟩
   refine JH.done (by kernel_rfl) ?_
   refine Kp [2] rfl ?_
   have hkN : vL (primeL (amongI pr.1 6).toNat) * vL (primeL (amongI pr.2 6).toNat) = keyN i := (by rw [hpr]; rfl); rw [hkN] at hN ⊢; rw [hy] at hE ⊢; exact J.retR (RetV.cell rfl rfl ag_32 mm_ (by first | rfl)) ⟨_, _, _, _, _, _, rfl, hN, hE, hD⟩
end Go.Proofs.YtmngjbefnloljaaGreatDoor
set_option linter.unusedSimpArgs false
set_option linter.unusedVariables false
set_option linter.constructorNameAsVariable false
namespace Go.Proofs.YtmngjbefnloljaaGreatDoor
open Go Go.RowKit
set_option maxRecDepth 100000
theorem ca_117 : callT Tryz.prog 117 = true := by kernel_rfl
theorem ca_79 : callT Tryz.prog 79 = true := by kernel_rfl
theorem cv_93_3 : convI Tryz.prog 93 3 = some .i64 := by kernel_rfl
theorem mul64_fn {y : Nat} {h : Part} (hy : y < 2147483648) : Pure Tryz.prog 117 [.int .u64 1, .int .u64 y] h (.tuple #[.int .u64 0, .int .u64 y]) := by
  refine Fn.intro Tryz.func117 rfl Tryz.ntmps117 rfl (fun e he => ?_)
  refine J.weak [(0, _), (1, _)] ⟨rfl, rfl, trivial⟩ ?_
  refine Sr ?_
  refine Ru 2 rfl ?_
  refine JL.nil ?_
  refine Sr ?_
  refine Ru 1 rfl ?_
  refine JL.op (RunV.mask_u64 32 4294967296 rfl rfl (by decide) (by decide) (by decide) (by omega) (by omega)) rfl ?_
  rw [show (1 : Int) % 4294967296 = 1 from rfl]
  refine Ru 1 rfl ?_
  refine JL.nil ?_
  refine Sr ?_
  refine Ru 1 rfl ?_
  refine JL.op (RunV.shr_u64 4294967296 rfl rfl (by decide) (by decide) (by decide)) rfl ?_
  rw [show (1 : Int) / 4294967296 = 0 from rfl]
  refine Ru 1 rfl ?_
  refine JL.nil ?_
  refine Sr ?_
  refine Ru 1 rfl ?_
  refine JL.op (RunV.mask_u64 32 4294967296 rfl rfl (by decide) (by decide) (by decide) (by omega) (by omega)) rfl ?_
  rw [show (y : Int) % 4294967296 = y by omega]
  refine Ru 1 rfl ?_
  refine Nk [8, 7, 6, 5, 4, 0, 1] rfl ?_
  refine Sr ?_
  refine Ru 1 rfl ?_
  refine JL.op (RunV.shr_u64 4294967296 rfl rfl (by decide) (by decide) (by decide)) rfl ?_
  rw [show (y : Int) / 4294967296 = 0 by omega]
  refine Ru 1 rfl ?_
  refine JL.nil ?_
  refine Sr ?_
  refine Ru 2 rfl ?_
  refine JL.op (by first | exact RunV.mul_u64 rfl rfl (by omega) (by omega) | exact RunV.mul rfl rfl) rfl ?_
  rw [Int.one_mul]
  refine Ru 1 rfl ?_
  refine Nk [10, 9, 8, 7, 6, 5, 4, 0, 1] rfl ?_
  refine Sr ?_
  refine Ru 2 rfl ?_
  refine JL.op (by first | exact RunV.mul_u64 rfl rfl (by omega) (by omega) | exact RunV.mul rfl rfl) rfl ?_
  rw [Int.zero_mul]
  refine Ru 1 rfl ?_
  refine JL.op (RunV.shr_u64 4294967296 rfl rfl (by decide) (by decide) (by decide)) rfl ?_
  refine JL.op (by first | exact RunV.add_u64 rfl rfl (by omega) (by omega) | exact RunV.add rfl rfl) rfl ?_
  rw [show (0 : Int) + (y : Int) / 4294967296 = 0 by omega]
  refine Ru 1 rfl ?_
  refine Nk [11, 9, 7, 6, 5, 4, 0, 1] rfl ?_
  refine Sr ?_
  refine Ru 1 rfl ?_
  refine JL.op (RunV.mask_u64 32 4294967296 rfl rfl (by decide) (by decide) (by decide) (by omega) (by omega)) rfl ?_
  rw [show (0 : Int) % 4294967296 = 0 from rfl]
  refine Ru 1 rfl ?_
  refine JL.nil ?_
  refine Sr ?_
  refine Ru 1 rfl ?_
  refine JL.op (RunV.shr_u64 4294967296 rfl rfl (by decide) (by decide) (by decide)) rfl ?_
  rw [show (0 : Int) / 4294967296 = 0 from rfl]
  refine Ru 1 rfl ?_
  refine Nk [13, 12, 9, 7, 6, 5, 4, 0, 1] rfl ?_
  refine Sr ?_
  refine Ru 3 rfl ?_
  refine JL.op (by first | exact RunV.mul_u64 rfl rfl (by omega) (by omega) | exact RunV.mul rfl rfl) rfl ?_
  rw [Int.mul_zero]
  refine JL.op (by first | exact RunV.add_u64 rfl rfl (by omega) (by omega) | exact RunV.add rfl rfl) rfl ?_
  refine Ru 1 rfl ?_
  refine Nk [12, 13, 9, 7, 5, 4, 0, 1] rfl ?_
  refine Sr ?_
  refine Ru 2 rfl ?_
  refine JL.op (by first | exact RunV.mul_u64 rfl rfl (by omega) (by omega) | exact RunV.mul rfl rfl) rfl ?_
  rw [Int.mul_zero]
  refine Ru 1 rfl ?_
  refine JL.op (by first | exact RunV.add_u64 rfl rfl (by omega) (by omega) | exact RunV.add rfl rfl) rfl ?_
  refine Ru 1 rfl ?_
  refine JL.op (RunV.shr_u64 4294967296 rfl rfl (by decide) (by decide) (by decide)) rfl ?_
  refine JL.op (by first | exact RunV.add_u64 rfl rfl (by omega) (by omega) | exact RunV.add rfl rfl) rfl ?_
  refine Ru 1 rfl ?_
  refine Nk [4, 5, 0, 1] rfl ?_
  refine Sr ?_
  refine Ru 2 rfl ?_
  refine JL.op (by first | exact RunV.mul_u64 rfl rfl (by omega) (by omega) | exact RunV.mul rfl rfl) rfl ?_
  refine Ru 1 rfl ?_
  refine Nk [5, 4] rfl ?_
  exact J.retP (RetV.two rfl rfl rfl) (by first | rfl | (rw [Int.one_mul]; rfl)) rfl
theorem mul1_fn {y : Nat} {h : Part} (hy : y < 2147483648) : Pure Tryz.prog 79 [.int .u64 1, .int .u64 y] h (.tuple #[.int .u64 0, .int .u64 y]) := by
  refine Fn.intro Tryz.func79 rfl Tryz.ntmps79 rfl (fun e he => ?_)
  refine J.weak [(0, _), (1, _)] ⟨rfl, rfl, trivial⟩ ?_
  refine Sr ?_
  refine Ru 2 rfl ?_
  refine JL.nil ?_
  refine J.seq ?_
  refine J.cond_f rfl ?_
  refine J.skip ?_
  refine Sr ?_
  refine Ru 2 rfl ?_
  refine JL.callP ca_117 rfl (mul64_fn hy) rfl ?_
  refine Ru 5 rfl ?_
  refine Nk [9, 8, 5, 4] rfl ?_
  refine Sr ?_
  refine Ru 4 rfl ?_
  refine Nk [5, 4] rfl ?_
  exact J.retP (RetV.two rfl rfl rfl) rfl rfl
section
variable {f : Fr} {n : Post} {x : Nat → Post} {S : Sig} {h : Part} {L L' : List Ent} {ops : Array Oper} {rest : List Oper}
variable {ty : TypeId} {pos : String} {af : Array Edge} {d : Nat} {T T2 : TypeId} {xo yo : Operand}
theorem JL.copyS {g o dl dc c t m sl sc e : Nat} {xs : List Value} (hT : slT f.P T = some (e, 1)) (hx : ev S xo = some (.slice (some ⟨g, o, none⟩) dl dc)) (hy : ev S yo = some (.slice (some ⟨g, 0, none⟩) sl sc)) (u : Del (.row (some ⟨g, 0, none⟩) c t 1 m xs) L L')
    (hm : xs.length = m) (hsm : Nat.min sl dl ≤ m) (hfit : o + Nat.min sl dl ≤ m) (h1 : ∀ v ∈ xs.take (Nat.min sl dl), v.oneCell' = true) (hd : Nat.blt d f.m = true)
    (k : JL f ops n x rest ((d, .int .i64 (Nat.min sl dl : Nat)) :: S) h (.row (some ⟨g, 0, none⟩) c t 1 m (over xs o (xs.take (Nat.min sl dl))) :: L')) :
    JL f ops n x (⟨some d, .call { callee := .builtin .copy, args := #[xo, yo], argTypes := #[T, T2] }, ty, pos, af, none⟩ :: rest) S h L := by
  have hl : (xs.take (Nat.min sl dl)).length = Nat.min sl dl := by rw [List.length_take]; omega
  refine JL.copy_ (cs := xs.take (Nat.min sl dl)) hT hx hy u hl (by rw [hl]; exact hfit) h1 (fun w hk j v hj => ?_) hd (by rw [hl]; exact k)
  have hj2 : xs[j]? = some v := by
    rw [List.getElem?_take] at hj
    split at hj
    · exact hj
    · cases hj
  rw [Addr.add_lit, Nat.zero_add, row_cell hk u.mem (List.getElem?_eq_some_iff.1 hj2).1, hj2]
end
theorem rep_take (b : UInt8) {xs : List Value} {bp k : Nat} (hx : xs.take bp = u8s (List.replicate bp b)) (hk : k ≤ bp) : xs.take k = u8s (List.replicate k b) := by
  have : xs.take k = (xs.take bp).take k := by rw [List.take_take, Nat.min_eq_left hk]
  rw [this, hx]
  simp [u8s, hk]
theorem brepeat_fn {a : Option Addr} {c N : Nat} {b : UInt8} {h : Part} (hl : SlR u8R 1 h a c [b]) (hN0 : 0 < N) (hN : N ≤ 8192) : FnR Tryz.prog 36 [.slice a 1 c, .int .i64 N] h (fun v h' => ∃ a c, v = .slice a (List.replicate N b).length c ∧ SlR u8R 1 h' a c (List.replicate N b)) := by
  have hNz := mnz (N := N) (by omega)
  have hrl : (List.replicate N b).length = N := List.length_replicate
  refine Fn.intro Tryz.func36 rfl Tryz.ntmps36 rfl (fun e he => ?_)
  refine J.weak [(0, _), (1, _)] ⟨rfl, rfl, trivial⟩ ?_
  have hh0 := Part.le.refl h
  refine Sr ?_
  refine Ru 1 rfl ?_
  refine JL.nil ?_
  refine J.seq ?_
  refine Sr ?_
  refine Ru 2 rfl ?_
  refine JL.nil ?_
  refine Cs rfl (fun hc1 => ?_) fun hc1 => ?_
  ·
   exfalso; omega
  refine J.skip ?_
  refine J.seq ?_
  refine Sr ?_
  refine Ru 2 rfl ?_
  refine JL.nil ?_
  refine Cs rfl (fun hc2 => ?_) fun hc2 => ?_
  ·
   exfalso; omega
  refine J.skip ?_
  refine Kp [4, 0, 1] rfl ?_
  refine Sr ?_
  refine Ru 2 rfl ?_
  refine JL.op (by first | exact RunV.conv_u64 cv_3_93 rfl (by omega) (by omega) | exact RunV.conv cv_3_93 rfl) rfl ?_
  refine Ru 1 rfl ?_
  refine JL.op (by first | exact RunV.conv_u64 cv_3_93 rfl (by omega) (by omega) | exact RunV.conv cv_3_93 rfl) rfl ?_
  refine JL.callP ca_79 rfl (mul1_fn (y := N) (by omega)) rfl ?_
  refine Ru 5 rfl ?_
  refine Nk [6, 5, 4, 0] rfl ?_
  refine J.seq ?_
  refine Sr ?_
  refine Ru 3 rfl ?_
  apply On 29 32 3 [6, 4, 0] rfl rfl
  rotate_left
  ·
   intro hb4 hc4
   refine Ru 3 rfl ?_
   exact Ae (om_f hb4 rfl) rfl
  rotate_right
  ·
   exact fun hb4 _ => Ru 3 rfl (Ae (om_t hb4 rfl) rfl)
  refine JL.nil ?_
  refine Cs rfl (fun hc5 => ?_) fun hc5 => ?_
  ·
   exfalso; omega
  refine J.skip ?_
  refine Sr ?_
  refine Ru 1 rfl ?_
  refine JL.op (by first | exact RunV.conv_i64 cv_93_3 rfl (by omega) (by omega) | exact RunV.conv cv_93_3 rfl) rfl ?_
  refine Ru 1 rfl ?_
  refine Nk [7, 4, 0] rfl ?_
  refine J.seq ?_
  refine Sr ?_
  refine Ru 3 rfl ?_
  refine JL.nil ?_
  refine Cs rfl (fun hc6 => ?_) fun hc6 => ?_
  ·
   exfalso; omega
  refine J.skip ?_
  refine Sr ?_
  refine Ru 2 rfl ?_
  refine Nk [8, 7, 4, 0] rfl ?_
  refine J.seq ?_
  refine Sr ?_
  refine Ru 2 rfl ?_
  refine JL.nil ?_
  refine Cs rfl (fun hc7 => ?_) fun hc7 => ?_
  ·
   exfalso; omega
  refine J.skip ?_
  refine Sr ?_
  refine Ru 1 rfl ?_
  refine JL.noZero rfl rfl hNz rfl (fun bR cR xs0 hx0 hc0 => ?_)
  refine Ru 2 rfl ?_
  refine JL.op (RunV.full3 sl_22 rfl rfl rfl rfl rfl hc0 (by omega)) rfl ?_
  refine Ru 1 rfl ?_
  refine Nk [9, 8, 7, 4, 0] rfl ?_
  refine Sr ?_
  refine Ru 2 rfl ?_
  refine JL.copyN sl_22 rfl rfl dl_ hl (by simp) rfl (by simp; omega) (by simp; omega) rfl ?_
  refine Ru 1 rfl ?_
  refine JL.nil ?_
  refine J.seq ?_
  refine J.block ?_
  refine J.loop (fun t_ S_ h_ L_ => ∃ (bp : Nat) (xs : List Value), t_ = N - bp ∧ S_ = [(7, .int .i64 N), (8, .int .i64 N), (9, .slice (some ⟨bR, 0, none⟩) N N), (10, .int .i64 bp)] ∧ h = h_ ∧ L_ = [.row (some ⟨bR, 0, none⟩) cR 5 1 N xs] ∧ (1 ≤ bp ∧ bp ≤ N ∧ xs.length = N ∧ xs.take bp = u8s (List.replicate bp b))) ⟨_, _, ?_, ⟨1, _, rfl, rfl, rfl, rfl, ⟨by omega, by omega, by rw [over_len (by simp [u8s]; omega)]; exact hx0, by simp [over, u8s]⟩⟩⟩ ?_
  ·
   repeat (first | exact trivial | refine ⟨rfl, ?_⟩ | refine ⟨(by exact some_int (by omega)), ?_⟩)
  rintro _ _ _ _ ⟨bp, xs, rfl, rfl, rfl, rfl, hb1, hbp, hxl, hxt⟩
  refine J.seq ?_
  refine Sr ?_
  skip
  refine Ru 3 rfl ?_
  refine JL.nil ?_
  refine Cs rfl (fun hc10 => ?_) fun hc10 => ?_
  ·
   have hbN : bp < N := (by omega); obtain ⟨kk, hkk⟩ : ∃ kk, kk = Nat.min bp (N - bp) := ⟨_, rfl⟩; have hk1 : kk ≤ bp := (by rw [hkk]; exact Nat.min_le_left _ _); have hk2 : kk ≤ N - bp := (by rw [hkk]; exact Nat.min_le_right _ _); have hk0 : 0 < kk := (by rw [hkk]; exact Nat.lt_min.2 ⟨by omega, by omega⟩); have hrt := rep_take b hxt hk1; obtain ⟨q1, q2⟩ := over_flat (p := List.replicate bp b) (l := List.replicate kk b) (N := N) (by rw [List.length_replicate]; exact hxt) hxl (by rw [List.length_replicate, List.length_replicate]; omega); rw [List.length_replicate, List.replicate_append_replicate, List.length_replicate] at q1; rw [List.length_replicate] at q2
   refine J.skip ?_
   refine J.block ?_
   refine Sr ?_
   refine Ru 2 rfl ?_
   refine JL.op (RunV.min2 rfl rfl) rfl ?_
   rw [if_neg (show ¬ ((N : Int) < (bp : Int)) by omega)]
   refine Ru 1 rfl ?_
   refine JL.nil ?_
   refine J.held ([]) 10 mixed_ rfl (fun h00 => ?_)
   refine JH.take 0 rfl (by kernel_rfl) (by kernel_rfl) (by kernel_rfl) (fun _ _ _ _ hh => hh) (br_ h00) (RunV.move rfl) rfl ?_
   refine JH.take 1 rfl (by kernel_rfl) (by kernel_rfl) (by kernel_rfl) (fun _ _ _ _ hh => hh) (br_ h00) (RunV.move rfl) rfl ?_
   refine JH.take 2 rfl (by kernel_rfl) (by kernel_rfl) (by kernel_rfl) (fun _ _ _ _ hh => hh) (br_ h00) (RunV.move rfl) rfl ?_
   refine JH.take 3 rfl (by kernel_rfl) (by kernel_rfl) (by kernel_rfl) (fun _ _ _ _ hh => hh) (br_ h00) (RunV.fromv sl_22 (k := bp) rfl rfl rfl (by omega) (by omega)) rfl ?_
   refine JH.take 4 rfl (by kernel_rfl) (by kernel_rfl) (by kernel_rfl) (fun _ _ _ _ hh => hh) (br_ h00) (RunV.move rfl) rfl ?_
   refine JH.take 5 rfl (by kernel_rfl) (by kernel_rfl) (by kernel_rfl) (fun _ _ _ _ hh => hh) (br_ h00) (RunV.move rfl) rfl ?_
   refine JH.take 6 rfl (by kernel_rfl) (by kernel_rfl) (by kernel_rfl) (fun _ _ _ _ hh => hh) (br_ h00) (RunV.cutv sl_22 (m := bp) rfl rfl rfl (by omega) (by omega)) rfl ?_
   refine JH.all1 7 (by kernel_rfl) rfl ?_
   unfold One
   refine JL.copyS sl_22 rfl rfl dl_ hxl (by rw [← hkk]; omega) (by rw [← hkk]; omega) (by rw [← hkk, hrt]; intro v hv; obtain ⟨z, _, rfl⟩ := List.mem_map.1 hv; rfl) rfl ?_; rw [← hkk, hrt]
   refine JL.nil ⟨(br_ h00), ?_⟩
   refine JH.take 8 rfl (by kernel_rfl) (by kernel_rfl) (by kernel_rfl) (fun _ _ _ _ hh => hh) (br_ h00) ai_ rfl ?_
   refine JH.take 9 rfl (by kernel_rfl) (by kernel_rfl) (by kernel_rfl) (fun _ _ _ _ hh => hh) (br_ h00) (RunV.assign rfl) rfl ?_
   refine JH.done (by kernel_rfl) ?_
   refine ⟨_, ?_, _, ?_, ⟨bp + kk, _, rfl, rfl, rfl, rfl, ⟨by omega, by omega, q2, q1⟩⟩⟩
   ·
    omega
   ·
    repeat (first | exact trivial | refine ⟨rfl, ?_⟩ | refine ⟨(by exact some_int (by omega)), ?_⟩)
  ·
   have hbe : bp = N := (by omega); subst hbe; rw [List.take_of_length_le (by omega)] at hxt; subst hxt
   refine J.exit ?_
   refine Kp [9] rfl ?_
   refine Sr ?_
   refine JL.pub (R := u8R) (l := List.replicate bp b) dl_ CellsR.of_u8 hrl.symm (by omega) (fun h9 hle9 hP9 => ?_)
   refine Ru 2 rfl ?_
   refine JL.nil ?_
   rw [hrl]; exact J.retR (RetV.one rfl rfl) ⟨_, _, rfl, hP9.recap (by omega) hc0⟩
end Go.Proofs.YtmngjbefnloljaaGreatDoor
set_option linter.unusedSimpArgs false
set_option linter.unusedVariables false
set_option linter.constructorNameAsVariable false
namespace Go.Proofs.YtmngjbefnloljaaGreatDoor
open Go Go.RowKit
set_option maxRecDepth 100000
theorem ca_78 : callT Tryz.prog 78 = true := by kernel_rfl
theorem join_fn {a : Option Addr} {c : Nat} {ls : List (List UInt8)} {h : Part} (hl : SlR (slR u8R 1) 1 h a c ls) (h2 : 2 ≤ ls.length) (hb : ls.flatten.length ≤ 1000000000) (hl0 : ∀ l ∈ ls, 0 < l.length) : FnR Tryz.prog 35 [.slice a ls.length c] h (fun v h' => ∃ a c, v = .slice a ls.flatten.length c ∧ SlR u8R 1 h' a c ls.flatten) := by
  refine Fn.intro Tryz.func35 rfl Tryz.ntmps35 rfl (fun e he => ?_)
  refine J.weak [(0, _)] ⟨rfl, trivial⟩ ?_
  have hh0 := Part.le.refl h
  refine Sr ?_
  refine Ru 1 rfl ?_
  refine JL.nil ?_
  refine Sr ?_
  refine Ru 1 rfl ?_
  refine JL.callR ca_78 rfl (bjoin_fn hl h2 hb hl0) rfl ?_
  rintro _ h1 hle1 ⟨ja, jc, rfl, hJ⟩
  replace hl := hl.mono hle1
  replace hh0 := hh0.mono hle1
  refine Ru 1 rfl ?_
  refine JL.nil ?_
  exact J.retR (RetV.one rfl rfl) ⟨_, _, rfl, hJ⟩
theorem heavy_fn {an ae ad : Option Addr} {cn ce cd ln le ld : Nat} {h : Part} : Pure Tryz.prog 14 [.agg #[.slice an ln cn, .slice ae le ce, .slice ad ld cd]] h (.bool (decide (26 < ln ∨ 26 < le ∨ 26 < ld))) := by
  refine Fn.intro Tryz.func14 rfl Tryz.ntmps14 rfl (fun e he => ?_)
  refine J.weak [(0, _)] ⟨rfl, trivial⟩ ?_
  refine Sr ?_
  refine JL.box rfl rfl rfl (fun b1 => ?_)
  refine Ru 1 rfl ?_
  refine JL.nil ?_
  refine Sr ?_
  refine Ru 1 rfl ?_
  refine JL.op (RunV.own1 ag_30 rfl mm_ rfl) rfl ?_
  refine Ru 3 rfl ?_
  refine Bs 7 rfl (fun hc2 => ?_) fun hc2 => ?_
  ·
   refine Ru 12 rfl ?_
   refine Nk [2] rfl ?_
   exact J.retP (RetV.one rfl rfl) (congrArg Value.bool (by first | exact decide_eq_decide.2 (by omega) | exact (decide_eq_true (by omega)).symm | exact (decide_eq_false (by omega)).symm)) rfl
  ·
   refine Ru 1 rfl ?_
   refine JL.opg rfl rfl  (RunV.own1 ag_30 rfl mm_ rfl) rfl ?_
   refine Ru 4 rfl ?_
   refine Bs 13 rfl (fun hc3 => ?_) fun hc3 => ?_
   ·
    refine Ru 6 rfl ?_
    refine Nk [2] rfl ?_
    exact J.retP (RetV.one rfl rfl) (congrArg Value.bool (by first | exact decide_eq_decide.2 (by omega) | exact (decide_eq_true (by omega)).symm | exact (decide_eq_false (by omega)).symm)) rfl
   ·
    refine Ru 1 rfl ?_
    refine JL.opg rfl rfl  (RunV.own1 ag_30 rfl mm_ rfl) rfl ?_
    refine Ru 4 rfl ?_
    refine Nk [2] rfl ?_
    exact J.retP (RetV.one rfl rfl) (congrArg Value.bool (by first | exact decide_eq_decide.2 (by omega) | exact (decide_eq_true (by omega)).symm | exact (decide_eq_false (by omega)).symm)) rfl
end Go.Proofs.YtmngjbefnloljaaGreatDoor
set_option linter.unusedSimpArgs false
set_option linter.unusedVariables false
set_option linter.constructorNameAsVariable false
namespace Go.Proofs.YtmngjbefnloljaaGreatDoor
open Go Go.RowKit
set_option maxRecDepth 100000
theorem ag_168 : aggT Tryz.prog 168 = some (some 8) := by kernel_rfl
theorem ar_170 : arT Tryz.prog 170 = some (8, 1) := by kernel_rfl
theorem az_168 : arZ Tryz.prog 168 = some ([.int .u64 0, .int .u64 0, .int .u64 0, .int .u64 0, .int .u64 0, .int .u64 0, .int .u64 0, .int .u64 0], 1) := by kernel_rfl
theorem ca_112 : callT Tryz.prog 112 = true := by kernel_rfl
theorem ni_169 : niT Tryz.prog 169 = true := by kernel_rfl
theorem ni_173 : niT Tryz.prog 173 = true := by kernel_rfl
theorem pl_172 : plT Tryz.prog 172 = some ([.int .u32 0, .int .u32 0, .int .u32 0, .int .u32 0, .int .u32 0, .int .u32 0, .int .u32 0, .int .u32 0], [(0, 8)]) := by kernel_rfl
theorem pl_175 : plT Tryz.prog 175 = some ([.int .u64 0, .int .u64 0, .int .u64 0, .int .u64 0, .int .u64 0, .int .u64 0, .int .u64 0, .int .u64 0], [(0, 8)]) := by kernel_rfl
theorem zr_168 : zeroT Tryz.prog 168 = some [.int .u64 0, .int .u64 0, .int .u64 0, .int .u64 0, .int .u64 0, .int .u64 0, .int .u64 0, .int .u64 0] := by kernel_rfl
section
variable {f : Fr} {S : Sig} {h : Part} {L : List Ent} {ty T yt : TypeId} {xo yo : Operand}
theorem RunV.eql_nil_nil (hT : ifT f.P T = true) (hx : ev S xo = some .nilIface) : RunV f S h L (.binOp .eql T xo (.const .nilIface) yt) ty (.bool true) := RunV.bin (y := .const .nilIface) hx rfl fun w => by
  unfold ifT at hT
  split at hT <;> try cases hT
  rename_i ms hu
  have key : ∀ m : Nat, (Op.equalIn (m + 1) T .nilIface .nilIface).run f.P w = .ok true w := fun m => by simp [Op.equalIn, run_underlying hu]
  simp only [go_sem, binOp, Op.equal, Op.maxDepth]
  simp [eqGuard, key 9999]
theorem RunV.eql_iface_nil {t : TypeId} {v : Value} (hT : ifT f.P T = true) (hx : ev S xo = some (.iface t v)) : RunV f S h L (.binOp .eql T xo (.const .nilIface) yt) ty (.bool false) := RunV.bin (y := .const .nilIface) hx rfl fun w => by
  unfold ifT at hT
  split at hT <;> try cases hT
  rename_i ms hu
  have key : ∀ m : Nat, (Op.equalIn (m + 1) T (.iface t v) .nilIface).run f.P w = .ok false w := fun m => by simp [Op.equalIn, run_underlying hu]
  simp only [go_sem, binOp, Op.equal, Op.maxDepth]
  simp [eqGuard, key 9999]
def arE (P : Program) (T : Nat) : Option (Nat × Bool) :=
  match P.underlying T with
  | some (.array n e) => some (n, aggT P e == some none)
  | _ => none
theorem RunV.indexAgg {len m : Nat} {k : IntKind} {i : Int} {cs : List Value} {v : Value} (hT : arE f.P T = some (len, true)) (hx : ev S xo = some (.agg cs.toArray)) (hy : ev S yo = some (.int k i)) (hi : i = (m : Int)) (h1 : m < len) (hv : cs[m]? = some v) :
    RunV f S h L (.index T xo yo) ty v := fun a w s _ _ _ _ => by
  subst hi
  have h0 : (0 : Int) ≤ m := by omega
  unfold arE at hT
  split at hT <;> try cases hT
  rename_i n e hu
  simp only [Option.some.injEq, Prod.mk.injEq, beq_iff_eq] at hT
  obtain ⟨rfl, he⟩ := hT
  have ⟨e1, e2⟩ := aggT_one he w
  simp [execOp, s.eval hx, s.eval hy, Instr.index, asIntOf, run_underlying hu, h0, h1, e2, part, e1, hv]
end
def c64 (l : List UInt64) : List Value := l.map fun x => .int .u64 (x.toNat : Int)
theorem c64_at (l : List UInt64) (i : Nat) (h : i < l.length) : (c64 l)[i]? = some (.int .u64 ((l[i]'h).toNat : Int)) := by simp [c64, h]
def sqL : List UInt64 := [7640891576956012808, 13503953896175478587, 4354685564936845355, 11912009170470909681, 5840696475078001361, 11170449401992604703, 2270897969802886507, 6620516959819538809]
theorem shaoid_fn {n : Int} {h : Part} : Pure Tryz.prog 76 [.int .i64 n] h (.string ⟨(if n = 256 then [50, 46, 49, 54, 46, 56, 52, 48, 46, 49, 46, 49, 48, 49, 46, 51, 46, 52, 46, 50, 46, 49] else if n = 384 then [50, 46, 49, 54, 46, 56, 52, 48, 46, 49, 46, 49, 48, 49, 46, 51, 46, 52, 46, 50, 46, 50] else if n = 512 then [50, 46, 49, 54, 46, 56, 52, 48, 46, 49, 46, 49, 48, 49, 46, 51, 46, 52, 46, 50, 46, 51] else [] : List UInt8).toArray⟩) := by
  refine Fn.intro Tryz.func76 rfl Tryz.ntmps76 rfl (fun e he => ?_)
  refine J.weak [(0, _)] ⟨rfl, trivial⟩ ?_
  refine Sr ?_
  refine Ru 1 rfl ?_
  refine JL.nil ?_
  refine J.seq ?_
  refine Sr ?_
  refine Ru 1 rfl ?_
  refine JL.nil ?_
  refine J.block ?_
  refine Sr ?_
  refine Ru 2 rfl ?_
  refine JL.nil ?_
  refine Cs rfl (fun hc1 => ?_) fun hc1 => ?_
  ·
   refine Sr ?_
   refine Ru 1 rfl ?_
   refine Nk [2] rfl ?_
   rw [if_pos hc1]; exact J.retP (RetV.one rfl rfl) rfl rfl
  ·
   refine Sr ?_
   refine Ru 2 rfl ?_
   refine Nk [6, 3, 2] rfl ?_
   refine Cs rfl (fun hc2 => ?_) fun hc2 => ?_
   ·
    refine Sr ?_
    refine Ru 1 rfl ?_
    refine JL.nil ?_
    rw [if_neg (by omega), if_pos hc2]; exact J.retP (RetV.one rfl rfl) rfl rfl
   ·
    refine Sr ?_
    refine Ru 2 rfl ?_
    refine JL.nil ?_
    refine Cs rfl (fun hc3 => ?_) fun hc3 => ?_
    ·
     refine Sr ?_
     refine Ru 1 rfl ?_
     refine Nk [2] rfl ?_
     rw [if_neg (by omega), if_neg (by omega), if_pos hc3]; exact J.retP (RetV.one rfl rfl) rfl rfl
    ·
     refine J.skip ?_
     refine Kp [2] rfl ?_
     refine Sr ?_
     refine Ru 1 rfl ?_
     refine JL.nil ?_
     rw [if_neg (by omega), if_neg (by omega), if_neg (by omega)]; exact J.retP (RetV.one rfl rfl) rfl rfl
def someH (n : Int) : Prop := n = 256 ∨ n = 384 ∨ n = 512
instance (n : Int) : Decidable (someH n) := inferInstanceAs (Decidable (_ ∨ _ ∨ _))
theorem first_none {n : Int} {h : Part} (hn : ¬ someH n) : FnR Tryz.prog 112 [.int .i64 n] h (fun v _ => v = .nilIface) := by
  unfold someH at hn
  refine Fn.intro Tryz.func112 rfl Tryz.ntmps112 rfl (fun e he => ?_)
  refine J.weak [(0, _)] ⟨rfl, trivial⟩ ?_
  have hh0 := Part.le.refl h
  refine Sr ?_
  refine Ru 1 rfl ?_
  refine JL.nil ?_
  refine Sr ?_
  refine JL.op (RunV.buildArr az_168 rfl rfl rfl) rfl ?_
  refine JL.alloc zr_168 rfl (fun b1 => ?_)
  refine JL.storeA ag_168 rfl rfl dl_ (by first | rfl) (by first | rfl | assumption) (by first | rfl) ?_
  refine JL.nil ?_
  refine J.seq ?_
  refine Sr ?_
  refine Ru 1 rfl ?_
  refine JL.nil ?_
  refine J.block ?_
  refine Sr ?_
  refine Ru 2 rfl ?_
  refine JL.nil ?_
  refine Cs rfl (fun hc2 => ?_) fun hc2 => ?_
  ·
   exfalso; omega
  refine Sr ?_
  refine Ru 2 rfl ?_
  refine Nk [29, 8, 3, 2] rfl ?_
  refine Cs rfl (fun hc3 => ?_) fun hc3 => ?_
  ·
   exfalso; omega
  refine Sr ?_
  refine Ru 2 rfl ?_
  refine JL.nil ?_
  refine Cs rfl (fun hc4 => ?_) fun hc4 => ?_
  ·
   exfalso; omega
  refine J.skip ?_
  refine Kp [2] rfl ?_
  refine Sr ?_
  refine Ru 1 rfl ?_
  refine JL.nil ?_
  exact J.retR (RetV.one rfl rfl) rfl
theorem first_some {n : Int} {h : Part} (hn : someH n) : FnR Tryz.prog 112 [.int .i64 n] h (fun v _ => ∃ t u, v = .iface t u) := by
  unfold someH at hn
  have hsl : sqL.length = 8 := rfl
  refine Fn.intro Tryz.func112 rfl Tryz.ntmps112 rfl (fun e he => ?_)
  refine J.weak [(0, _)] ⟨rfl, trivial⟩ ?_
  have hh0 := Part.le.refl h
  refine Sr ?_
  refine Ru 1 rfl ?_
  refine JL.nil ?_
  refine Sr ?_
  refine JL.op (RunV.buildArr az_168 rfl rfl rfl) rfl ?_
  refine JL.alloc zr_168 rfl (fun b1 => ?_)
  refine JL.storeA ag_168 rfl rfl dl_ (by first | rfl) (by first | rfl | assumption) (by first | rfl) ?_
  refine JL.nil ?_
  refine J.seq ?_
  refine Sr ?_
  refine Ru 1 rfl ?_
  refine JL.nil ?_
  refine J.block ?_
  refine Sr ?_
  refine Ru 2 rfl ?_
  refine JL.nil ?_
  refine Cs rfl (fun hc2 => ?_) fun hc2 => ?_
  ·
   refine Sr ?_
   refine JL.op (RunV.build (cs := [.int .u32 0, .int .u32 0, .int .u32 0, .int .u32 0, .int .u32 0, .int .u32 0, .int .u32 0, .int .u32 0]) pl_172 rfl rfl) rfl ?_
   refine JL.box rfl rfl rfl (fun b3 => ?_)
   refine Ru 1 rfl ?_
   refine Nk [4, 3, 2] rfl ?_
   refine J.seq ?_
   refine Sr ?_
   refine JL.op (RunV.ownA ag_168 rfl mm_ (by first | rfl)) rfl ?_
   refine Ru 1 rfl ?_
   refine JL.nil ?_
   refine J.block ?_
   refine J.loop (fun t_ S_ h_ L_ => ∃ (i : Nat) (cs : List Value), t_ = 8 - i ∧ S_ = [(4, .pointer (some ⟨b3, 0, none⟩)), (13, .agg (c64 sqL).toArray), (14, .int .i64 i)] ∧ h = h_ ∧ L_ = [.blk b3 172 cs, .blk b1 168 (c64 sqL)] ∧ (i ≤ 8 ∧ cs.length = 8)) ⟨_, _, ?_, ⟨0, [.int .u32 0, .int .u32 0, .int .u32 0, .int .u32 0, .int .u32 0, .int .u32 0, .int .u32 0, .int .u32 0], rfl, rfl, rfl, rfl, ⟨by omega, rfl⟩⟩⟩ ?_
   ·
    repeat (first | exact trivial | refine ⟨rfl, ?_⟩ | refine ⟨(by exact some_int (by omega)), ?_⟩)
   rintro _ _ _ _ ⟨i, cs, rfl, rfl, rfl, rfl, hi, hcl⟩
   refine Sr ?_
   refine Ru 1 rfl ?_
   refine JL.nil ?_
   refine J.seq ?_
   refine Cs rfl (fun hc4 => ?_) fun hc4 => ?_
   ·
    have hi' : i < 8 := (by omega); have hx64 := (sqL[i]'(by omega)).toNat_lt
    refine J.skip ?_
    refine J.seq ?_
    refine J.block ?_
    refine Sr ?_
    refine Ru 1 rfl ?_
    refine JL.op (RunV.indexAgg (len := 8) (m := i) (by kernel_rfl) rfl rfl rfl hi' (c64_at sqL i (by omega))) rfl ?_
    refine Ru 2 rfl ?_
    refine JL.nil ?_
    refine Rg ?_
    refine Ru 3 rfl ?_
    refine JL.op (RunV.shr_u64 4294967296 rfl rfl (by decide) (by decide) (by decide)) rfl ?_
    refine JL.op (RunV.toW ((sqL[i]'(by omega)).toNat / 4294967296) cv_63_103 rfl (by rw [Int.natCast_ediv]; rfl)) rfl ?_
    refine Ru 2 rfl ?_
    refine JL.op (RunV.indexArr ar_170 rfl rfl (by first | with_reducible rfl | exact (Int.toNat_of_nonneg (by omega)).symm) (by omega)) rfl ?_
    refine JL.store1 ag_103 rfl rfl rfl dl_ (by first | rfl | (simp; omega)) ?_
    refine JL.nil ?_
    refine Rg ?_
    refine JL.op ai_ rfl ?_
    refine Ru 1 rfl ?_
    refine JL.nil ?_
    refine ⟨_, ?_, _, ?_, ⟨i + 1, _, rfl, rfl, rfl, rfl, ⟨by omega, by rw [List.length_set]; exact hcl⟩⟩⟩
    ·
     omega
    ·
     repeat (first | exact trivial | refine ⟨rfl, ?_⟩ | refine ⟨(by exact some_int (by omega)), ?_⟩)
   ·
    refine J.exit ?_
    refine Sr ?_
    refine Ru 1 rfl ?_
    refine JL.op (RunV.makeInterface ni_169 rfl) rfl ?_
    refine Ru 1 rfl ?_
    refine Nk [2] rfl ?_
    exact J.retR (RetV.one rfl rfl) ⟨_, _, rfl⟩
  ·
   refine Sr ?_
   refine Ru 2 rfl ?_
   refine Nk [29, 8, 3, 2] rfl ?_
   refine Cs rfl (fun hc5 => ?_) fun hc5 => ?_
   ·
    refine Sr ?_
    refine JL.op (RunV.buildArr az_168 rfl rfl rfl) rfl ?_
    refine JL.op (RunV.build (cs := [_, _, _, _, _, _, _, _]) pl_175 rfl rfl) rfl ?_
    refine JL.box rfl rfl rfl (fun b6 => ?_)
    refine JL.op (RunV.makeInterface ni_173 rfl) rfl ?_
    refine Ru 1 rfl ?_
    refine Nk [2] rfl ?_
    exact J.retR (RetV.one rfl rfl) ⟨_, _, rfl⟩
   ·
    refine Sr ?_
    refine Ru 2 rfl ?_
    refine JL.nil ?_
    refine Cs rfl (fun hc7 => ?_) fun hc7 => ?_
    ·
     refine Sr ?_
     refine JL.op (RunV.ownA ag_168 rfl mm_ (by first | rfl)) rfl ?_
     refine JL.op (RunV.build (cs := [_, _, _, _, _, _, _, _]) pl_175 rfl rfl) rfl ?_
     refine JL.box rfl rfl rfl (fun b8 => ?_)
     refine JL.op (RunV.makeInterface ni_173 rfl) rfl ?_
     refine Ru 1 rfl ?_
     refine Nk [2] rfl ?_
     exact J.retR (RetV.one rfl rfl) ⟨_, _, rfl⟩
    ·
     refine J.skip ?_
     refine Kp [2] rfl ?_
     refine Sr ?_
     refine Ru 1 rfl ?_
     refine JL.nil ?_
     exfalso; omega
def shaSize (n : Int) : Int := if someH n then n / 8 else 0
theorem shasize_fn {n : Int} {h : Part} : FnR Tryz.prog 74 [.int .i64 n] h (fun v _ => v = .int .i64 (shaSize n)) := by
  by_cases hn : someH n
  · have hs : shaSize n = n / 8 := if_pos hn
    rw [hs]
    have hn2 := hn
    unfold someH at hn2
    refine Fn.intro Tryz.func74 rfl Tryz.ntmps74 rfl (fun e he => ?_)
    refine J.weak [(0, _)] ⟨rfl, trivial⟩ ?_
    have hh0 := Part.le.refl h
    refine Sr ?_
    refine Ru 1 rfl ?_
    refine JL.nil ?_
    refine J.seq ?_
    refine Sr ?_
    refine Ru 1 rfl ?_
    refine JL.callR ca_112 rfl (first_some hn) rfl ?_
    rintro _ h1 hle1 ⟨t, u, rfl⟩
    replace hh0 := hh0.mono hle1
    refine JL.op (RunV.eql_iface_nil (by kernel_rfl) rfl) rfl ?_
    refine JL.nil ?_
    refine J.cond_f rfl ?_
    refine J.skip ?_
    refine Sr ?_
    refine Ru 1 rfl ?_
    refine JL.op (by first | exact RunV.quo_i64 rfl rfl (by omega) (by omega) (by omega) | exact RunV.quo rfl rfl (by omega)) rfl ?_
    refine Ru 1 rfl ?_
    refine Nk [2] rfl ?_
    exact J.retR (RetV.one rfl rfl) rfl
  · have hs : shaSize n = 0 := if_neg hn
    rw [hs]
    refine Fn.intro Tryz.func74 rfl Tryz.ntmps74 rfl (fun e he => ?_)
    refine J.weak [(0, _)] ⟨rfl, trivial⟩ ?_
    have hh0 := Part.le.refl h
    refine Sr ?_
    refine Ru 1 rfl ?_
    refine JL.nil ?_
    refine J.seq ?_
    refine Sr ?_
    refine Ru 1 rfl ?_
    refine JL.callR ca_112 rfl (first_none hn) rfl ?_
    rintro _ h1 hle1 rfl
    replace hh0 := hh0.mono hle1
    refine JL.op (RunV.eql_nil_nil (by kernel_rfl) rfl) rfl ?_
    refine JL.nil ?_
    refine J.cond_t rfl ?_
    refine Sr ?_
    refine Ru 1 rfl ?_
    refine JL.nil ?_
    exact J.retR (RetV.one rfl rfl) rfl
end Go.Proofs.YtmngjbefnloljaaGreatDoor
set_option linter.unusedSimpArgs false
set_option linter.unusedVariables false
set_option linter.constructorNameAsVariable false
namespace Go.Proofs.YtmngjbefnloljaaGreatDoor
open Go Go.RowKit
set_option maxRecDepth 100000
theorem ag_99 : aggT Tryz.prog 99 = some (some 8) := by kernel_rfl
theorem ap_97 : apT Tryz.prog 97 = some (93, 1, 8) := by kernel_rfl
theorem ca_118 : callT Tryz.prog 118 = true := by kernel_rfl
theorem ca_37 : callT Tryz.prog 37 = true := by kernel_rfl
theorem ca_81 : callT Tryz.prog 81 = true := by kernel_rfl
theorem fo_99_2 : fieldOff Tryz.prog 99 2 = some 2 := by kernel_rfl
theorem pl_99 : plT Tryz.prog 99 = some ([.int .u64 0, .int .i64 0, .slice none 0 0, .slice none 0 0, .slice none 0 0, .slice none 0 0, .slice none 0 0, .int .i64 0], [(0, 1), (1, 1), (2, 1), (3, 1), (4, 1), (5, 1), (6, 1), (7, 1)]) := by kernel_rfl
theorem zr_93 : zeroT Tryz.prog 93 = some [.int .u64 0] := by kernel_rfl
theorem zr_99 : zeroT Tryz.prog 99 = some [.int .u64 0, .int .i64 0, .slice none 0 0, .slice none 0 0, .slice none 0 0, .slice none 0 0, .slice none 0 0, .int .i64 0] := by kernel_rfl
def waySize (n : Int) : Int := if n = 256 then 32 else if n = 384 then 48 else if n = 512 then 64 else 0
theorem way_sha (n : Int) : waySize n = shaSize n := by
  by_cases h1 : n = 256
  · subst h1; rfl
  · by_cases h2 : n = 384
    · subst h2; rfl
    · by_cases h3 : n = 512
      · subst h3; rfl
      · have h4 : ¬ someH n := (by unfold someH; omega)
        show (if n = 256 then 32 else if n = 384 then 48 else if n = 512 then 64 else 0 : Int) = shaSize n
        rw [if_neg h1, if_neg h2, if_neg h3, show shaSize n = 0 from if_neg h4]
def sq16 : List UInt64 := [0x6a09e667f3bcc908, 0xbb67ae8584caa73b, 0x3c6ef372fe94f82b, 0xa54ff53a5f1d36f1, 0x510e527fade682d1, 0x9b05688c2b3e6c1f, 0x1f83d9abfb41bd6b, 0x5be0cd19137e2179, 0xcbbb9d5dc1059ed8, 0x629a292a367cd507, 0x9159015a3070dd17, 0x152fecd8f70e5939, 0x67332667ffc00b31, 0x8eb44a8768581511, 0xdb0c2e0d64f98fa7, 0x47b5481dbefa4fa4]
theorem cells_lit64 {h : Part} {xs : List Value} {l : List UInt64} (e : c64 l = xs) : CellsR u64R 1 h xs l := by
  subst e
  refine ⟨by simp [c64], fun i x hx => ?_⟩
  obtain ⟨hi, rfl⟩ := List.getElem?_eq_some_iff.1 hx
  unfold u64R
  rw [Nat.mul_one, List.take_one, List.head?_drop, c64_at l i hi]
  rfl
theorem squares_fn {h : Part} : FnR Tryz.prog 118 [] h (fun v h' => ∃ a c, v = .slice a sq16.length c ∧ SlR u64R 1 h' a c sq16) := by
  refine Fn.intro Tryz.func118 rfl Tryz.ntmps118 rfl (fun e he => ?_)
  have hh0 := Part.le.refl h
  refine Sr ?_
  refine Ru 1 rfl ?_
  refine JL.nil ?_
  refine Sr ?_
  refine JL.lit1 ap_66 zr_63 rfl rfl rfl rfl rfl (fun b1 => ?_)
  refine JL.pubB (R := u64R) (sz := 1) (l := sq16) dl_ ((cells_lit64 (by kernel_rfl))) (by first | decide | omega | (rw [digN_len]; decide) | (simp; done) | (simp [digN_len]; done)) (fun h2 hle2 hQ => ?_)
  replace hh0 := hh0.mono hle2
  refine Ru 1 rfl ?_
  refine JL.nil ?_
  exact J.retR (RetV.one rfl rfl) ⟨_, _, rfl, hQ⟩
theorem ways_some {n : Int} {h : Part} (hn : n = 256) : FnR Tryz.prog 81 [.int .i64 n] h (fun v _ => ∃ c0 c1 c2 c3 c4 c5 c6, v = .agg #[c0, c1, c2, c3, c4, c5, c6, .int .i64 (waySize n)]) := by
  have hw : waySize n = 32 := if_pos hn
  have hsl : sq16.length = 16 := rfl
  rw [hw]
  refine Fn.intro Tryz.func81 rfl Tryz.ntmps81 rfl (fun e he => ?_)
  refine J.weak [(0, _)] ⟨rfl, trivial⟩ ?_
  have hh0 := Part.le.refl h
  refine Sr ?_
  refine JL.alloc zr_99 rfl (fun b1 => ?_)
  refine JL.nil ?_
  refine Sr ?_
  refine JL.callR ca_118 rfl (squares_fn) rfl ?_
  rintro _ h2 hle2 ⟨sa, sc, rfl, hQ⟩
  replace hh0 := hh0.mono hle2
  refine Ru 1 rfl ?_
  refine JL.nil ?_
  refine J.seq ?_
  refine Sr ?_
  refine Ru 2 rfl ?_
  refine JL.nil ?_
  refine Cs rfl (fun hc3 => ?_) fun hc3 => ?_
  rotate_left
  ·
   exfalso; omega
  refine Sr ?_
  refine JL.lit1 ap_97 zr_93 rfl rfl rfl rfl rfl (fun b4 => ?_)
  refine JL.lit1 ap_97 zr_93 rfl rfl rfl rfl rfl (fun b5 => ?_)
  refine JL.lit1 ap_97 zr_93 rfl rfl rfl rfl rfl (fun b6 => ?_)
  refine JL.lit1 ap_97 zr_93 rfl rfl rfl rfl rfl (fun b7 => ?_)
  refine JL.op (RunV.build (cs := [_, _, .slice none 0 0, _, _, _, _, _]) pl_99 rfl rfl) rfl ?_
  refine JL.alloc zr_99 rfl (fun b8 => ?_)
  refine JL.storeA ag_99 rfl rfl dl_ (by first | rfl) (by first | rfl | assumption) (by first | rfl) ?_
  refine Nk [4, 3, 2, 0] rfl ?_
  refine J.seq ?_
  refine Sr ?_
  refine JL.own (L' := [.blk b8 99 _, .blk b1 99 _]) (fun w hk => hk.drop (by repeat (first | exact List.nil_sublist _ | apply List.Sublist.cons_cons | apply List.Sublist.cons))) ?_; refine JL.row_nil 63 1 ?_; refine JL.own (fun w hk => hk.perm (.swap ..)) ?_
  refine Ru 1 rfl ?_
  refine JL.nil ?_
  refine J.block ?_
  refine J.loop (fun t_ S_ h_ L_ => ∃ (i : Nat) (l : List UInt64) (ao : Option Addr) (co : Nat) (xs : List Value), t_ = 8 - i ∧ S_ = [(2, .pointer (some ⟨b1, 0, none⟩)), (3, .slice sa sq16.length sc), (4, .pointer (some ⟨b8, 0, none⟩)), (5, .int .i64 i)] ∧ h2 = h_ ∧ L_ = [.blk b8 99 [.int .u64 32, .int .i64 64, .slice ao l.length co, (.slice (some ⟨b4, 0, none⟩) 3 3), (.slice (some ⟨b5, 0, none⟩) 3 3), (.slice (some ⟨b6, 0, none⟩) 3 3), (.slice (some ⟨b7, 0, none⟩) 3 3), .int .i64 32], .row ao co 63 1 l.length xs, .blk b1 99 [.int .u64 0, .int .i64 0, .slice none 0 0, .slice none 0 0, .slice none 0 0, .slice none 0 0, .slice none 0 0, .int .i64 0]] ∧ (i ≤ 8 ∧ l.length = i ∧ CellsR u64R 1 h2 xs l)) ⟨_, _, ?_, ⟨0, [], none, 0, [], rfl, rfl, rfl, rfl, ⟨by omega, rfl, CellsR.nil⟩⟩⟩ ?_
  ·
   repeat (first | exact trivial | refine ⟨rfl, ?_⟩ | refine ⟨(by exact some_int (by omega)), ?_⟩)
  rintro _ _ _ _ ⟨i, l, ao, co, xs, rfl, rfl, rfl, rfl, hi, hll, hC⟩
  refine J.seq ?_
  refine Sr ?_
  refine Ru 2 rfl ?_
  refine JL.nil ?_
  refine Cs rfl (fun hc9 => ?_) fun hc9 => ?_
  ·
   have hi' : i < 8 := (by omega); have hi16 : i < sq16.length := (by omega); have hx64 := (sq16[i]'hi16).toNat_lt
   refine J.skip ?_
   refine J.seq ?_
   refine J.block ?_
   refine J.held ([]) 11 mixed_ rfl (fun h00 => ?_)
   refine JH.take 0 rfl (by kernel_rfl) (by kernel_rfl) (by kernel_rfl) (fun _ _ _ _ hh => hh) (br_ h00) (by first | exact RunV.fieldAt0 fo_99_2 rfl | exact RunV.fieldAt fo_99_2 rfl) rfl ?_
   refine JH.take 2 rfl (by kernel_rfl) (by kernel_rfl) (by kernel_rfl) (fun _ _ _ _ hh => hh) (br_ h00) (RunV.move rfl) rfl ?_
   refine JH.take 3 rfl (by kernel_rfl) (by kernel_rfl) (by kernel_rfl) (fun _ _ _ _ hh => hh) (br_ h00) (RunV.move rfl) rfl ?_
   refine JH.takeE 4 rfl (by kernel_rfl) (by kernel_rfl) (by kernel_rfl) (fun _ _ _ _ hh => hh) (br_ h00) (RunE.index sl_66 rfl rfl (by first | with_reducible rfl | exact (Int.toNat_of_nonneg (by omega)).symm) (by assumption) rfl (by omega)) rfl ?_
   rintro _ ⟨b10, o10, hi10, rfl, hE10⟩
   refine JH.take 5 rfl (by kernel_rfl) (by kernel_rfl) (by kernel_rfl) (fun _ _ _ _ hh => hh) (br_ h00) (RunV.ld_u64 ag_63 rfl (by assumption)) rfl ?_
   refine JH.take 6 rfl (by kernel_rfl) (by kernel_rfl) (by kernel_rfl) (fun _ _ _ _ hh => hh) (br_ h00) (by first | exact RunV.quo_u64 rfl rfl (by omega) (by omega) (by omega) | exact RunV.quo rfl rfl (by omega)) rfl ?_
   refine JH.all2 1 7 (by kernel_rfl) rfl rfl ?_ ?_
   ·
    unfold One
    refine JL.op (RunV.own1 ag_66 rfl mm_ rfl) rfl ?_
    refine JL.nil ⟨(br_ h00), ?_⟩
    refine JH.all1 7 (by kernel_rfl) rfl ?_
    unfold One
    refine JL.lit1 ap_66 zr_63 rfl rfl rfl rfl rfl (fun b12 => ?_)
    refine JL.nil ⟨(br_ h00), ?_⟩
    refine JH.all1 8 (by kernel_rfl) rfl ?_
    unfold One
    refine JL.append1 ap_66 rfl rfl (by assumption) rfl dl_ dl_ rfl ((by show _ = _; rw [UInt64.toNat_div]; rfl : u64R _ [.int .u64 (((sq16[i]'hi16).toNat : Int) / 4294967296)] (sq16[i]'hi16 / 4294967296))) (by first | omega | (simp only [List.length_append, List.length_cons, List.length_nil]; omega)) rfl rfl (fun a13 c13 xs13 hC13 hN13 => ?_)
    refine JL.nil ⟨(br_ h00), ?_⟩
    refine JH.take 9 rfl (by kernel_rfl) (by kernel_rfl) (by kernel_rfl) (fun _ _ _ _ hh => hh) (br_ h00) (by first | exact RunV.fieldAt0 fo_99_2 rfl | exact RunV.fieldAt fo_99_2 rfl) rfl ?_
    refine JH.all1 10 (by kernel_rfl) rfl ?_
    unfold One
    refine JL.store1 ag_66 rfl rfl rfl dl_ (by first | rfl | (simp; omega)) ?_
    refine JL.nil ⟨(br_ h00), ?_⟩
    refine JH.done (by kernel_rfl) ?_
    refine Rg ?_
    refine Ru 1 rfl ?_
    refine JL.op ai_ rfl ?_
    refine Ru 1 rfl ?_
    refine JL.nil ?_
    refine ⟨_, ?_, _, ?_, ⟨i + 1, _, _, _, _, rfl, rfl, rfl, rfl, ⟨by omega, by simp [hll], by assumption⟩⟩⟩
    ·
     omega
    ·
     repeat (first | exact trivial | refine ⟨rfl, ?_⟩ | refine ⟨(by exact some_int (by omega)), ?_⟩)
   ·
    unfold One
    refine JL.lit1 ap_66 zr_63 rfl rfl rfl rfl rfl (fun b14 => ?_)
    refine JL.nil ⟨(br_ h00), ?_⟩
    refine JH.all1 1 (by kernel_rfl) rfl ?_
    unfold One
    refine JL.op (RunV.own1 ag_66 rfl mm_ rfl) rfl ?_
    refine JL.nil ⟨(br_ h00), ?_⟩
    refine JH.all1 8 (by kernel_rfl) rfl ?_
    unfold One
    refine JL.append1 ap_66 rfl rfl (by assumption) rfl dl_ dl_ rfl ((by show _ = _; rw [UInt64.toNat_div]; rfl : u64R _ [.int .u64 (((sq16[i]'hi16).toNat : Int) / 4294967296)] (sq16[i]'hi16 / 4294967296))) (by first | omega | (simp only [List.length_append, List.length_cons, List.length_nil]; omega)) rfl rfl (fun a15 c15 xs15 hC15 hN15 => ?_)
    refine JL.nil ⟨(br_ h00), ?_⟩
    refine JH.take 9 rfl (by kernel_rfl) (by kernel_rfl) (by kernel_rfl) (fun _ _ _ _ hh => hh) (br_ h00) (by first | exact RunV.fieldAt0 fo_99_2 rfl | exact RunV.fieldAt fo_99_2 rfl) rfl ?_
    refine JH.all1 10 (by kernel_rfl) rfl ?_
    unfold One
    refine JL.store1 ag_66 rfl rfl rfl dl_ (by first | rfl | (simp; omega)) ?_
    refine JL.nil ⟨(br_ h00), ?_⟩
    refine JH.done (by kernel_rfl) ?_
    refine Rg ?_
    refine Ru 1 rfl ?_
    refine JL.op ai_ rfl ?_
    refine Ru 1 rfl ?_
    refine JL.nil ?_
    refine ⟨_, ?_, _, ?_, ⟨i + 1, _, _, _, _, rfl, rfl, rfl, rfl, ⟨by omega, by simp [hll], by assumption⟩⟩⟩
    ·
     omega
    ·
     repeat (first | exact trivial | refine ⟨rfl, ?_⟩ | refine ⟨(by exact some_int (by omega)), ?_⟩)
  ·
   refine J.exit ?_
   refine Sr ?_
   refine JL.op (RunV.ownA ag_99 rfl mm_ (by first | rfl)) rfl ?_
   refine JL.storeA ag_99 rfl rfl dl_ (by first | rfl) (by first | rfl | assumption) (by first | rfl) ?_
   refine Nk [2, 3] rfl ?_
   exact J.retR (RetV.cell rfl rfl ag_99 mm_ (by first | rfl)) ⟨_, _, _, _, _, _, _, rfl⟩
theorem ways_other {n : Int} {h : Part} (hn : n ≠ 256) : FnR Tryz.prog 81 [.int .i64 n] h (fun v _ => ∃ c0 c1 c2 c3 c4 c5 c6, v = .agg #[c0, c1, c2, c3, c4, c5, c6, .int .i64 (waySize n)]) := by
  have hw : waySize n = if n = 384 then 48 else if n = 512 then 64 else 0 := if_neg hn
  have hsl : sq16.length = 16 := rfl
  rw [hw]
  refine Fn.intro Tryz.func81 rfl Tryz.ntmps81 rfl (fun e he => ?_)
  refine J.weak [(0, _)] ⟨rfl, trivial⟩ ?_
  have hh0 := Part.le.refl h
  refine Sr ?_
  refine JL.alloc zr_99 rfl (fun b1 => ?_)
  refine JL.nil ?_
  refine Sr ?_
  refine JL.callR ca_118 rfl (squares_fn) rfl ?_
  rintro _ h2 hle2 ⟨sa, sc, rfl, hQ⟩
  replace hh0 := hh0.mono hle2
  refine Ru 1 rfl ?_
  refine JL.nil ?_
  refine J.seq ?_
  refine Sr ?_
  refine Ru 2 rfl ?_
  refine JL.nil ?_
  refine Cs rfl (fun hc3 => ?_) fun hc3 => ?_
  ·
   exfalso; omega
  refine J.skip ?_
  refine Sr ?_
  refine JL.lit1 ap_97 zr_93 rfl rfl rfl rfl rfl (fun b4 => ?_)
  refine JL.lit1 ap_97 zr_93 rfl rfl rfl rfl rfl (fun b5 => ?_)
  refine JL.lit1 ap_97 zr_93 rfl rfl rfl rfl rfl (fun b6 => ?_)
  refine JL.lit1 ap_97 zr_93 rfl rfl rfl rfl rfl (fun b7 => ?_)
  refine JL.op (RunV.build (cs := [_, _, .slice none 0 0, _, _, _, _, .int .i64 0]) pl_99 rfl rfl) rfl ?_
  refine JL.alloc zr_99 rfl (fun b8 => ?_)
  refine JL.storeA ag_99 rfl rfl dl_ (by first | rfl) (by first | rfl | assumption) (by first | rfl) ?_
  refine Nk [6, 3, 2, 0] rfl ?_
  refine J.seq ?_
  refine Sr ?_
  refine Ru 2 rfl ?_
  refine JL.nil ?_
  refine Cs rfl (fun hc9 => ?_) fun hc9 => ?_
  ·
   refine Sr ?_
   refine Ru 1 rfl ?_
   refine JL.store1 ag_3 rfl rfl rfl dl_ (by first | rfl | (simp; omega)) ?_
   refine JL.nil ?_
   refine Rg ?_
   refine Ru 1 rfl ?_
   refine JL.ope (RunE.cut_l sl_66 rfl rfl (show _ = ((8 : Nat) : Int) from rfl) (by assumption) rfl (by omega)) rfl ?_
   rintro _ ⟨a10, c10, rfl, hS10⟩
   refine Ru 1 rfl ?_
   refine JL.store1 ag_66 rfl rfl rfl dl_ (by first | rfl | (simp; omega)) ?_
   refine Nk [6, 3, 2, 0] rfl ?_
   refine J.seq ?_
   refine Sr ?_
   refine Ru 2 rfl ?_
   refine JL.nil ?_
   refine Cs rfl (fun hc11 => ?_) fun hc11 => ?_
   ·
    refine Sr ?_
    refine Ru 1 rfl ?_
    refine JL.store1 ag_3 rfl rfl rfl dl_ (by first | rfl | (simp; omega)) ?_
    refine Nk [6, 3, 2] rfl ?_
    refine Rg ?_
    refine Ru 1 rfl ?_
    refine JL.ope (RunE.cut_h sl_66 rfl rfl (show _ = ((8 : Nat) : Int) from rfl) (by assumption) rfl (by omega)) rfl ?_
    rintro _ ⟨a12, c12, rfl, hS12⟩
    refine Ru 1 rfl ?_
    refine JL.store1 ag_66 rfl rfl rfl dl_ (by first | rfl | (simp; omega)) ?_
    refine JL.nil ?_
    refine Sr ?_
    refine JL.op (RunV.ownA ag_99 rfl mm_ (by first | rfl)) rfl ?_
    refine JL.storeA ag_99 rfl rfl dl_ (by first | rfl) (by first | rfl | assumption) (by first | rfl) ?_
    refine Nk [2] rfl ?_
    exfalso; omega
   ·
    refine J.skip ?_
    refine Kp [6, 2] rfl ?_
    refine Sr ?_
    refine JL.op (RunV.ownA ag_99 rfl mm_ (by first | rfl)) rfl ?_
    refine JL.storeA ag_99 rfl rfl dl_ (by first | rfl) (by first | rfl | assumption) (by first | rfl) ?_
    refine JL.nil ?_
    first | (exfalso; omega) | (rw [if_pos (show n = 384 by omega)]; exact J.retR (RetV.cell rfl rfl ag_99 mm_ (by first | rfl)) ⟨_, _, _, _, _, _, _, rfl⟩) | (rw [if_neg (show ¬ n = 384 by omega), if_pos (show n = 512 by omega)]; exact J.retR (RetV.cell rfl rfl ag_99 mm_ (by first | rfl)) ⟨_, _, _, _, _, _, _, rfl⟩) | (rw [if_neg (show ¬ n = 384 by omega), if_neg (show ¬ n = 512 by omega)]; exact J.retR (RetV.cell rfl rfl ag_99 mm_ (by first | rfl)) ⟨_, _, _, _, _, _, _, rfl⟩)
  ·
   refine J.skip ?_
   refine J.seq ?_
   refine Sr ?_
   refine Ru 2 rfl ?_
   refine Nk [42, 6, 3, 2] rfl ?_
   refine Cs rfl (fun hc13 => ?_) fun hc13 => ?_
   ·
    refine Sr ?_
    refine Ru 1 rfl ?_
    refine JL.store1 ag_3 rfl rfl rfl dl_ (by first | rfl | (simp; omega)) ?_
    refine JL.nil ?_
    refine Rg ?_
    refine Ru 1 rfl ?_
    refine JL.ope (RunE.cut_h sl_66 rfl rfl (show _ = ((8 : Nat) : Int) from rfl) (by assumption) rfl (by omega)) rfl ?_
    rintro _ ⟨a14, c14, rfl, hS14⟩
    refine Ru 1 rfl ?_
    refine JL.store1 ag_66 rfl rfl rfl dl_ (by first | rfl | (simp; omega)) ?_
    refine Nk [6, 2] rfl ?_
    refine Sr ?_
    refine JL.op (RunV.ownA ag_99 rfl mm_ (by first | rfl)) rfl ?_
    refine JL.storeA ag_99 rfl rfl dl_ (by first | rfl) (by first | rfl | assumption) (by first | rfl) ?_
    refine JL.nil ?_
    first | (exfalso; omega) | (rw [if_pos (show n = 384 by omega)]; exact J.retR (RetV.cell rfl rfl ag_99 mm_ (by first | rfl)) ⟨_, _, _, _, _, _, _, rfl⟩) | (rw [if_neg (show ¬ n = 384 by omega), if_pos (show n = 512 by omega)]; exact J.retR (RetV.cell rfl rfl ag_99 mm_ (by first | rfl)) ⟨_, _, _, _, _, _, _, rfl⟩) | (rw [if_neg (show ¬ n = 384 by omega), if_neg (show ¬ n = 512 by omega)]; exact J.retR (RetV.cell rfl rfl ag_99 mm_ (by first | rfl)) ⟨_, _, _, _, _, _, _, rfl⟩)
   ·
    refine J.skip ?_
    refine Sr ?_
    refine JL.op (RunV.ownA ag_99 rfl mm_ (by first | rfl)) rfl ?_
    refine JL.storeA ag_99 rfl rfl dl_ (by first | rfl) (by first | rfl | assumption) (by first | rfl) ?_
    refine Nk [2] rfl ?_
    first | (exfalso; omega) | (rw [if_pos (show n = 384 by omega)]; exact J.retR (RetV.cell rfl rfl ag_99 mm_ (by first | rfl)) ⟨_, _, _, _, _, _, _, rfl⟩) | (rw [if_neg (show ¬ n = 384 by omega), if_pos (show n = 512 by omega)]; exact J.retR (RetV.cell rfl rfl ag_99 mm_ (by first | rfl)) ⟨_, _, _, _, _, _, _, rfl⟩) | (rw [if_neg (show ¬ n = 384 by omega), if_neg (show ¬ n = 512 by omega)]; exact J.retR (RetV.cell rfl rfl ag_99 mm_ (by first | rfl)) ⟨_, _, _, _, _, _, _, rfl⟩)
theorem ways_fn {n : Int} {h : Part} : FnR Tryz.prog 81 [.int .i64 n] h (fun v _ => ∃ c0 c1 c2 c3 c4 c5 c6, v = .agg #[c0, c1, c2, c3, c4, c5, c6, .int .i64 (waySize n)]) := by
  by_cases hn : n = 256
  · exact ways_some hn
  · exact ways_other hn
section
variable {f : Fr} {S : Sig} {h : Part} {L : List Ent} {ty T : TypeId} {xo : Operand}
def fld1 (P : Program) (T i : Nat) : Option Nat :=
  match P.underlying T with
  | some (.struct fs) => match fs[i]? with
    | some g => if aggT P g.type == some none then some g.offset else none
    | none => none
  | _ => none
theorem RunV.field1 {i o : Nat} {cs : List Value} {v : Value} (hT : fld1 f.P T i = some o) (hx : ev S xo = some (.agg cs.toArray)) (hv : cs[o]? = some v) : RunV f S h L (.field T xo i) ty v := fun a w s _ _ _ _ => by
  unfold fld1 at hT
  split at hT <;> try cases hT
  rename_i fs hu
  split at hT <;> try cases hT
  rename_i g hg
  split at hT <;> cases hT
  rename_i he
  have ⟨e1, e2⟩ := aggT_one (by simpa using he : aggT f.P g.type = some none) w
  simp [execOp, s.eval hx, Instr.field, run_underlying hu, hg, part, e1, hv, asAgg]
end
theorem rshasize_fn {n : Int} {h : Part} : FnR Tryz.prog 37 [.int .i64 n] h (fun v _ => v = .int .i64 (shaSize n)) := by
  rw [← way_sha]
  refine Fn.intro Tryz.func37 rfl Tryz.ntmps37 rfl (fun e he => ?_)
  refine J.weak [(0, _)] ⟨rfl, trivial⟩ ?_
  have hh0 := Part.le.refl h
  refine Sr ?_
  refine Ru 1 rfl ?_
  refine JL.nil ?_
  refine Sr ?_
  refine Ru 1 rfl ?_
  refine JL.callR ca_81 rfl (ways_fn) rfl ?_
  rintro _ h1 hle1 ⟨c0, c1, c2, c3, c4, c5, c6, rfl⟩
  replace hh0 := hh0.mono hle1
  refine JL.op (RunV.field1 (o := 7) (cs := [c0, c1, c2, c3, c4, c5, c6, .int .i64 (waySize n)]) (by kernel_rfl) rfl rfl) rfl ?_
  refine Ru 1 rfl ?_
  refine Nk [2] rfl ?_
  exact J.retR (RetV.one rfl rfl) rfl
def oidH (n : Int) : List UInt8 := if n = 256 then [50, 46, 49, 54, 46, 56, 52, 48, 46, 49, 46, 49, 48, 49, 46, 51, 46, 52, 46, 50, 46, 49] else if n = 384 then [50, 46, 49, 54, 46, 56, 52, 48, 46, 49, 46, 49, 48, 49, 46, 51, 46, 52, 46, 50, 46, 50] else if n = 512 then [50, 46, 49, 54, 46, 56, 52, 48, 46, 49, 46, 49, 48, 49, 46, 51, 46, 52, 46, 50, 46, 51] else []
theorem shaoid_fn' {n : Int} {h : Part} : Pure Tryz.prog 76 [.int .i64 n] h (.string ⟨(oidH n).toArray⟩) := shaoid_fn
theorem rshaoid_fn {n : Int} {h : Part} : FnR Tryz.prog 83 [.int .i64 n] h (fun v _ => v = .string ⟨(oidH n).toArray⟩) := by
  have h0 : shaSize n = 0 ↔ ¬ someH n := by
    unfold shaSize
    by_cases hn : someH n
    · rw [if_pos hn]; unfold someH at hn ⊢; omega
    · rw [if_neg hn]; exact ⟨fun _ => hn, fun _ => rfl⟩
  unfold someH at h0
  unfold oidH
  refine Fn.intro Tryz.func83 rfl Tryz.ntmps83 rfl (fun e he => ?_)
  refine J.weak [(0, _)] ⟨rfl, trivial⟩ ?_
  have hh0 := Part.le.refl h
  refine Sr ?_
  refine Ru 1 rfl ?_
  refine JL.nil ?_
  refine J.seq ?_
  refine Sr ?_
  refine Ru 1 rfl ?_
  refine JL.callR ca_37 rfl (rshasize_fn) rfl ?_
  rintro _ h1 hle1 rfl
  replace hh0 := hh0.mono hle1
  refine Ru 1 rfl ?_
  refine JL.nil ?_
  refine Cs rfl (fun hc2 => ?_) fun hc2 => ?_
  ·
   refine Sr ?_
   refine Ru 1 rfl ?_
   refine Nk [2, 0] rfl ?_
   rw [if_neg (by omega), if_neg (by omega), if_neg (by omega)]; exact J.retR (RetV.one rfl rfl) rfl
  ·
   refine J.skip ?_
   refine Sr ?_
   refine Ru 1 rfl ?_
   refine JL.nil ?_
   refine J.seq ?_
   refine Sr ?_
   refine Ru 2 rfl ?_
   refine Nk [8, 3, 2, 0] rfl ?_
   refine Cs rfl (fun hc3 => ?_) fun hc3 => ?_
   ·
    refine Rg ?_
    refine Ru 1 rfl ?_
    refine JL.nil ?_
    refine J.seq ?_
    refine Sr ?_
    refine Ru 2 rfl ?_
    refine Nk [10, 3, 2] rfl ?_
    refine Cs rfl (fun hc4 => ?_) fun hc4 => ?_
    ·
     refine Rg ?_
     refine Ru 1 rfl ?_
     refine JL.nil ?_
     refine Sr ?_
     refine Ru 1 rfl ?_
     refine JL.op (RunV.addS rfl rfl (by first | omega | (simp only [List.length_append, List.length_cons, List.length_nil]; omega))) rfl ?_
     refine Ru 1 rfl ?_
     refine Nk [2] rfl ?_
     first | (exfalso; omega) | (rw [if_pos (show n = 256 by omega)]; exact J.retR (RetV.one rfl rfl) rfl) | (rw [if_neg (show ¬ n = 256 by omega), if_pos (show n = 384 by omega)]; exact J.retR (RetV.one rfl rfl) rfl) | (rw [if_neg (show ¬ n = 256 by omega), if_neg (show ¬ n = 384 by omega), if_pos (show n = 512 by omega)]; exact J.retR (RetV.one rfl rfl) rfl)
    ·
     refine J.skip ?_
     refine Sr ?_
     refine Ru 1 rfl ?_
     refine JL.op (RunV.addS rfl rfl (by first | omega | (simp only [List.length_append, List.length_cons, List.length_nil]; omega))) rfl ?_
     refine Ru 1 rfl ?_
     refine Nk [2] rfl ?_
     first | (exfalso; omega) | (rw [if_pos (show n = 256 by omega)]; exact J.retR (RetV.one rfl rfl) rfl) | (rw [if_neg (show ¬ n = 256 by omega), if_pos (show n = 384 by omega)]; exact J.retR (RetV.one rfl rfl) rfl) | (rw [if_neg (show ¬ n = 256 by omega), if_neg (show ¬ n = 384 by omega), if_pos (show n = 512 by omega)]; exact J.retR (RetV.one rfl rfl) rfl)
   ·
    refine J.skip ?_
    refine J.seq ?_
    refine Sr ?_
    refine Ru 2 rfl ?_
    refine JL.nil ?_
    refine Cs rfl (fun hc5 => ?_) fun hc5 => ?_
    ·
     refine Rg ?_
     refine Ru 1 rfl ?_
     refine Nk [3, 2] rfl ?_
     refine Sr ?_
     refine Ru 1 rfl ?_
     refine JL.op (RunV.addS rfl rfl (by first | omega | (simp only [List.length_append, List.length_cons, List.length_nil]; omega))) rfl ?_
     refine Ru 1 rfl ?_
     refine JL.nil ?_
     first | (exfalso; omega) | (rw [if_pos (show n = 256 by omega)]; exact J.retR (RetV.one rfl rfl) rfl) | (rw [if_neg (show ¬ n = 256 by omega), if_pos (show n = 384 by omega)]; exact J.retR (RetV.one rfl rfl) rfl) | (rw [if_neg (show ¬ n = 256 by omega), if_neg (show ¬ n = 384 by omega), if_pos (show n = 512 by omega)]; exact J.retR (RetV.one rfl rfl) rfl)
    ·
     refine J.skip ?_
     refine Kp [3, 2] rfl ?_
     refine Sr ?_
     refine Ru 1 rfl ?_
     refine JL.op (RunV.addS rfl rfl (by first | omega | (simp only [List.length_append, List.length_cons, List.length_nil]; omega))) rfl ?_
     refine Ru 1 rfl ?_
     refine JL.nil ?_
     first | (exfalso; omega) | (rw [if_pos (show n = 256 by omega)]; exact J.retR (RetV.one rfl rfl) rfl) | (rw [if_neg (show ¬ n = 256 by omega), if_pos (show n = 384 by omega)]; exact J.retR (RetV.one rfl rfl) rfl) | (rw [if_neg (show ¬ n = 256 by omega), if_neg (show ¬ n = 384 by omega), if_pos (show n = 512 by omega)]; exact J.retR (RetV.one rfl rfl) rfl)
end Go.Proofs.YtmngjbefnloljaaGreatDoor
