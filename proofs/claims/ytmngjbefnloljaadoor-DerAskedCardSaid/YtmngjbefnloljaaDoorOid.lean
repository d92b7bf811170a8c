/- Walks: the program's texts: digits, object identifiers. -/
import Derived.Test.YtmngjbefnloljaaDoorChr
import Derived.Test.YtmngjbefnloljaaDoorBits
set_option linter.unusedSimpArgs false
set_option linter.unusedVariables false
set_option linter.constructorNameAsVariable false
namespace Go.Proofs.YtmngjbefnloljaaDoor
open Go Go.RowKit
theorem ag_5 : aggT Tryd.prog 5 = some none := by kernel_rfl
theorem ap_22 : apT Tryd.prog 22 = some (5, 1, 1) := by kernel_rfl
theorem ar_165 : arT Tryd.prog 165 = some (20, 1) := by kernel_rfl
theorem ca_117 : callT Tryd.prog 117 = true := by kernel_rfl
theorem cv_100_5 : convI Tryd.prog 100 5 = some .u8 := by kernel_rfl
theorem cv_5_100 : convI Tryd.prog 5 100 = some .u64 := by kernel_rfl
theorem sb_22_9 : strT Tryd.prog 22 9 = true := by kernel_rfl
theorem sl_22 : slT Tryd.prog 22 = some (5, 1) := by kernel_rfl
theorem zr_165 : zeroT Tryd.prog 165 = some [.int .u8 0, .int .u8 0, .int .u8 0, .int .u8 0, .int .u8 0, .int .u8 0, .int .u8 0, .int .u8 0, .int .u8 0, .int .u8 0, .int .u8 0, .int .u8 0, .int .u8 0, .int .u8 0, .int .u8 0, .int .u8 0, .int .u8 0, .int .u8 0, .int .u8 0, .int .u8 0] := by kernel_rfl
theorem zr_5 : zeroT Tryd.prog 5 = some [.int .u8 0] := by kernel_rfl

/-- Digits of ten. -/
def dgo : Nat → Nat → Nat → Nat → List UInt8
  | 0, _, _, _ => []
  | f + 1, n, len, least => if 0 < n ∨ len < least then dgo f (n / 10) (len + 1) least ++ [UInt8.ofNat (48 + n % 10)] else []
def dgs (n least : Nat) : List UInt8 := dgo 20 n 0 least
theorem dgo_end {f n len least : Nat} (h : ¬ (0 < n ∨ len < least)) : dgo f n len least = [] := by
  cases f with
  | zero => rfl
  | succ f => simp only [dgo]; rw [if_neg h]
theorem dgo_len : ∀ f n len least, (dgo f n len least).length ≤ f
  | 0, _, _, _ => Nat.le_refl _
  | f + 1, n, len, least => by
    simp only [dgo]; split
    · have := dgo_len f (n / 10) (len + 1) least; simp; omega
    · simp
theorem dgs_len (n least : Nat) : (dgs n least).length ≤ 20 := dgo_len _ _ _ _
theorem ofNat_toNat8 {n : Nat} (h : n < 256) : ((UInt8.ofNat n).toNat : Int) = n := by simp; omega

theorem drop_set_cons {α : Type} (l : List α) (j : Nat) (x : α) (h : j < l.length) : (l.set j x).drop j = x :: l.drop (j + 1) := by
  rw [List.drop_eq_getElem_cons (by simpa using h), List.getElem_set_self]
  congr 1
  apply List.ext_getElem?
  intro i
  simp [List.getElem?_set, show ¬ j = j + 1 + i by omega]
theorem digits_fn {a : Option Addr} {c : Nat} {l : List UInt8} {n least : Nat} {h : Part} (hn : n < 18446744073709551616) (hl : least ≤ 20) (hb : l.length ≤ 70368744177664) :
    Fn Tryd.prog 117 [.slice a l.length c, .int .u64 n, .int .i64 least] h [.row a c 5 1 l.length (u8s l)]
      (Rets fun v _ Lo => ∃ a' c', v = .slice a' (l ++ dgs n least).length c' ∧ Lo = [.row a' c' 5 1 (l ++ dgs n least).length (u8s (l ++ dgs n least))]) := by
  refine Fn.intro Tryd.func117 rfl Tryd.ntmps117 rfl (fun e he => ?_)
  refine J.weak [(0, _), (1, _), (2, _)] ⟨rfl, rfl, rfl, trivial⟩ ?_
  refine Sr ?_
  refine Ru 1 rfl ?_
  refine JL.nil ?_
  refine Sr ?_
  refine JL.alloc zr_165 rfl (fun b1 => ?_)
  refine JL.nil ?_
  refine Sr ?_
  refine Ru 1 rfl ?_
  refine JL.nil ?_
  refine J.seq ?_
  refine J.block ?_
  refine J.loop (fun t_ S_ h_ L_ => ∃ (k m : Nat) (bs : List UInt8), t_ = m + k ∧ S_ = [(0, .slice a l.length c), (1, .int .u64 m), (2, .int .i64 least), (7, .pointer (some ⟨b1, 0, none⟩)), (8, .int .i64 k)] ∧ h = h_ ∧ L_ = [.blk b1 165 (u8s bs), .row a c 5 1 l.length (u8s l)] ∧ (k ≤ 20 ∧ bs.length = 20 ∧ m ≤ n ∧ m < 10 ^ k ∧ dgs n least = dgo k m (20 - k) least ++ bs.drop k)) ⟨_, _, ?_, ⟨20, n, List.replicate 20 0, rfl, rfl, rfl, rfl, ⟨by omega, rfl, by omega, by omega, by simp [dgs]⟩⟩⟩ ?_
  ·
   repeat (first | exact trivial | refine ⟨rfl, ?_⟩ | refine ⟨(by exact some_i64 (by omega)), ?_⟩)
  rintro _ _ _ _ ⟨k, m, bs, rfl, rfl, rfl, rfl, hk, hbs, hmn, hm, he⟩
  have hul : (u8s bs).length = 20 := by rw [u8s_length, hbs]
  refine J.seq ?_
  refine J.seq ?_
  refine J.meet [(16, .bool (decide (0 < m ∨ 20 - k < least)))] [(0, _), (1, _), (2, _), (7, _), (8, _)] ⟨rfl, rfl, rfl, rfl, rfl, trivial⟩ ?_ ?_
  ·
   refine Rg ?_
   refine Ru 3 rfl ?_
   refine Bs 11 rfl (fun hc2 => ?_) fun hc2 => ?_
   ·
    refine Ru 5 rfl ?_
    refine JL.nil ?_
    refine ⟨rfl, rfl, ?_⟩
    repeat (first | exact trivial | refine ⟨rfl, ?_⟩ | refine ⟨(by exact some_bool (by first | exact decide_eq_decide.2 (by omega) | exact (decide_eq_false (by omega)).symm | exact (decide_eq_true (by omega)).symm | simp_all)), ?_⟩)
   ·
    refine Ru 1 rfl ?_
    refine JL.opg rfl rfl  (by first | exact RunV.sub_i64 rfl rfl (by omega) (by omega) | exact RunV.sub rfl rfl) rfl ?_
    refine Ru 3 rfl ?_
    refine JL.nil ?_
    refine ⟨rfl, rfl, ?_⟩
    repeat (first | exact trivial | refine ⟨rfl, ?_⟩ | refine ⟨(by exact some_bool (by first | exact decide_eq_decide.2 (by omega) | exact (decide_eq_false (by omega)).symm | exact (decide_eq_true (by omega)).symm | simp_all)), ?_⟩)
  ·
   refine Cs rfl (fun hc3 => ?_) fun hc3 => ?_
   ·
    obtain ⟨j, rfl⟩ : ∃ j, k = j + 1 := ⟨k - 1, by have : k ≠ 0 := (by rintro rfl; simp at hm; omega); omega⟩
    refine J.skip ?_
    refine J.block ?_
    refine Sr ?_
    refine Ru 1 rfl ?_
    refine JL.op (by first | exact RunV.sub_i64 rfl rfl (by omega) (by omega) | exact RunV.sub rfl rfl) rfl ?_
    refine Ru 1 rfl ?_
    refine JL.nil ?_
    refine Sr ?_
    refine Ru 2 rfl ?_
    refine JL.op (by first | exact RunV.rem_u64 rfl rfl (by omega) (by omega) | exact RunV.rem rfl rfl (by omega)) rfl ?_
    refine JL.op (by first | exact RunV.add_u64 rfl rfl (by omega) (by omega) | exact RunV.add rfl rfl) rfl ?_
    refine JL.op (by first | exact RunV.conv_u8 cv_100_5 rfl (by omega) (by omega) | exact RunV.conv cv_100_5 rfl) rfl ?_
    refine JL.op (RunV.indexArr ar_165 rfl rfl (by first | with_reducible rfl | exact (Int.toNat_of_nonneg (by omega)).symm) (by omega)) rfl ?_
    refine JL.store1 ag_5 rfl rfl rfl (by repeat (first | exact Del.here | apply Del.there)) (by first | rfl | (simp; omega)) ?_
    refine JL.nil ?_
    refine Rg ?_
    refine Ru 1 rfl ?_
    refine JL.op (by first | exact RunV.quo_u64 rfl rfl (by omega) (by omega) (by omega) | exact RunV.quo rfl rfl (by omega)) rfl ?_
    refine Ru 1 rfl ?_
    refine JL.nil ?_
    rw [show (((j + 1 : Nat) : Int) - 1).toNat = j by omega, show (48 + (m : Int) % 10) = ((UInt8.ofNat (48 + m % 10)).toNat : Int) by rw [ofNat_toNat8 (by omega)]; omega, u8s_set]
    refine ⟨_, ?_, _, ?_, ⟨j, m / 10, bs.set j (UInt8.ofNat (48 + m % 10)), rfl, rfl, rfl, rfl, ⟨by omega, by simp [hbs], by omega, by rw [Nat.pow_succ] at hm; omega, by rw [he, dgo, if_pos hc3, List.append_assoc, show 20 - (j + 1) + 1 = 20 - j by omega, drop_set_cons bs j _ (by omega)]; rfl⟩⟩⟩
    ·
     omega
    ·
     repeat (first | exact trivial | refine ⟨rfl, ?_⟩ | refine ⟨(by exact some_i64 (by omega)), ?_⟩)
   ·
    refine J.exit ?_
    refine Sr ?_
    refine Ru 2 rfl ?_
    have hdl : (bs.drop k).length ≤ 20 := (by simp; omega); have hd : dgs n least = bs.drop k := by rw [he, dgo_end (by omega)]; rfl
    refine JL.pubB (R := u8R) (sz := 1) (by repeat (first | exact Del.here | apply Del.there)) CellsR.of_u8 (by omega) (fun h4 hle4 hB4 => ?_)
    refine JL.ope (RunE.cutArr ar_165 rfl rfl (by first | with_reducible rfl | exact (Int.toNat_of_nonneg (by omega)).symm) hB4 (by omega) (by omega)) rfl ?_
    rintro _ ⟨a4, c4, rfl, hS4⟩
    refine JL.append ap_22 rfl rfl CellsR.of_u8 rfl (by assumption) rfl (by repeat (first | exact Del.here | apply Del.there)) (by first | omega | (simp only [List.length_append, List.length_cons, List.length_nil]; omega)) rfl rfl (fun a5 c5 xs5 hC5 hN5 => ?_)
    obtain rfl := hC5.u8
    refine Ru 1 rfl ?_
    refine Nk [6] rfl ?_
    rw [← hd]; exact J.ret ⟨_, [_], _, (RetV.one rfl rfl), .cons .here .nil, _, rfl, _, _, rfl, rfl⟩
theorem digits_fn' {a : Option Addr} {c : Nat} {l : List UInt8} {n least : Nat} {N Q : Int} {h : Part} (hN : N = (n : Int)) (hQ : Q = (least : Int)) (hn : n < 18446744073709551616) (hl : least ≤ 20) (hb : l.length ≤ 70368744177664) :
    Fn Tryd.prog 117 [.slice a l.length c, .int .u64 N, .int .i64 Q] h [.row a c 5 1 l.length (u8s l)]
      (Rets fun v _ Lo => ∃ a' c', v = .slice a' (l ++ dgs n least).length c' ∧ Lo = [.row a' c' 5 1 (l ++ dgs n least).length (u8s (l ++ dgs n least))]) := by
  subst hN hQ
  exact digits_fn hn hl hb

/-- The text of an object identifier's bytes: what is written, the number that is read, whether it is a fresh one, whether it is the first. -/
def oidGo : List UInt8 → List UInt8 → Nat → Bool → Bool → Option (List UInt8)
  | [], out, _, fresh, first => if !fresh || first then none else some out
  | c :: r, out, n, fresh, first =>
    if (fresh && decide (c.toNat = 128)) || decide (72057594037927935 < n) then none
    else if 127 < c.toNat then oidGo r out (n * 128 + c.toNat % 128) false first
    else if first then oidGo r (out ++ dgs (min ((n * 128 + c.toNat % 128) / 40) 2) 1 ++ [46] ++ dgs (n * 128 + c.toNat % 128 - 40 * min ((n * 128 + c.toNat % 128) / 40) 2) 1) 0 true false
    else oidGo r (out ++ [46] ++ dgs (n * 128 + c.toNat % 128) 1) 0 true false
def oidT (b : List UInt8) : Option (List UInt8) := oidGo b [] 0 true true

theorem oidtext_fn' {a0 : Option Addr} {c0 : Nat} {l : List UInt8} {h : Part} (hl : SlR u8R 1 h a0 c0 l) (hb : l.length ≤ 1073741824) :
    Fn Tryd.prog 87 [.slice a0 l.length c0] h [] (Rets fun u _ _ => u = .tuple #[.string ⟨((oidT l).getD []).toArray⟩, .int .i64 (if (oidT l).isSome then 0 else 20)]) := by
  refine Fn.intro Tryd.func87 rfl Tryd.ntmps87 rfl (fun e he => ?_)
  refine J.weak [(0, _)] ⟨rfl, trivial⟩ ?_
  refine Sr ?_
  refine Ru 2 rfl ?_
  refine JL.nil ?_
  refine Sr ?_
  refine Ru 1 rfl ?_
  refine JL.nil ?_
  refine Sr ?_
  refine Ru 3 rfl ?_
  refine JL.nil ?_
  refine J.seq ?_
  refine Sr ?_
  refine JL.row_nil 5 1 ?_
  refine Ru 3 rfl ?_
  refine JL.nil ?_
  refine J.block ?_
  refine J.loop (fun t_ S_ h_ L_ => ∃ (g : Part) (i : Nat) (out : List UInt8) (n : Nat) (fresh first : Bool) (a : Option Addr) (c : Nat), t_ = l.length - i ∧ S_ = [(4, .slice a out.length c), (5, .int .u64 n), (6, .bool fresh), (7, .bool first), (11, .slice a0 l.length c0), (12, .int .i64 l.length), (13, .int .i64 i)] ∧ g = h_ ∧ L_ = [.row a c 5 1 out.length (u8s out)] ∧ (h.le g ∧ i ≤ l.length ∧ n ≤ 9223372036854775807 ∧ out.length ≤ 41 * i ∧ oidT l = oidGo (l.drop i) out n fresh first)) ⟨_, _, ?_, ⟨_, 0, [], 0, true, true, none, 0, rfl, rfl, rfl, rfl, ⟨Part.le.refl _, by omega, by omega, by simp, rfl⟩⟩⟩ ?_
  ·
   repeat (first | exact trivial | refine ⟨rfl, ?_⟩ | refine ⟨(by exact some_int (by simp <;> omega)), ?_⟩)
  rintro _ _ _ _ ⟨g, i, out, n, fresh, first, a, c, rfl, rfl, rfl, rfl, hhg, hi, hn, ho, he⟩
  have hl := hl.mono hhg
  refine Sr ?_
  refine Ru 1 rfl ?_
  refine JL.nil ?_
  refine J.seq ?_
  refine Cs rfl (fun hc1 => ?_) fun hc1 => ?_
  ·
   refine J.skip ?_
   refine J.seq ?_
   refine J.block ?_
   refine Sr ?_
   refine JL.ope (RunE.index sl_22 rfl rfl (by first | with_reducible rfl | exact (Int.toNat_of_nonneg (by omega)).symm) (by assumption) rfl (by omega)) rfl ?_
   rintro _ ⟨b2, o2, hi2, rfl, hE2⟩
   have e1 : decide ((l[i].toNat : Int) = 128) = decide (l[i].toNat = 128) := decide_eq_decide.2 (by omega); have e2 : decide ((72057594037927935 : Int) < n) = decide (72057594037927935 < n) := decide_eq_decide.2 (by omega)
   refine JL.op (RunV.ld_u8 ag_5 rfl (by assumption)) rfl ?_
   refine Ru 1 rfl ?_
   refine JL.nil ?_
   refine J.seq ?_
   refine J.seq ?_
   refine J.meet [(25, .bool ((fresh && decide ((l[i].toNat : Int) = 128)) || decide ((72057594037927935 : Int) < n)))] [(9, _), (16, _), (15, _), (14, _), (4, _), (5, _), (6, _), (7, _), (11, _), (12, _), (13, _)] ⟨rfl, rfl, rfl, rfl, rfl, rfl, rfl, rfl, rfl, rfl, rfl, trivial⟩ ?_ ?_
   ·
    refine Rg ?_
    refine Ru 2 rfl ?_
    refine Bs 18 rfl (fun hc4 => ?_) fun hc4 => ?_
    ·
     refine Ru 4 rfl ?_
     refine Bs 22 rfl (fun hc5 => ?_) fun hc5 => ?_
     ·
      refine Ru 3 rfl ?_
      refine JL.nil ?_
      refine ⟨rfl, rfl, ?_⟩
      repeat (first | exact trivial | refine ⟨rfl, ?_⟩ | refine ⟨(by exact some_bool (by cases fresh <;> simp_all)), ?_⟩)
     ·
      refine Ru 3 rfl ?_
      refine JL.nil ?_
      refine ⟨rfl, rfl, ?_⟩
      repeat (first | exact trivial | refine ⟨rfl, ?_⟩ | refine ⟨(by exact some_bool (by cases fresh <;> simp_all)), ?_⟩)
    ·
     refine Ru 7 rfl ?_
     refine JL.nil ?_
     refine ⟨rfl, rfl, ?_⟩
     repeat (first | exact trivial | refine ⟨rfl, ?_⟩ | refine ⟨(by exact some_bool (by cases fresh <;> simp_all)), ?_⟩)
   ·
    refine Cs rfl (fun hc6 => ?_) fun hc6 => ?_
    ·
     rw [e1, e2] at hc6; have hcz := hc6
     refine Sr ?_
     refine Ru 2 rfl ?_
     refine JL.nil ?_
     exact J.retV (RetV.two rfl rfl rfl) (by have hz : oidT l = none := (by rw [he, List.drop_eq_getElem_cons (by omega), oidGo, if_pos hcz]); rw [hz]; rfl)
    ·
     rw [e1, e2] at hc6; have hcz := hc6; have hnn : ¬ 72057594037927935 < n := (by intro hh; rw [decide_eq_true hh] at hc6; simp at hc6); have hdr := List.drop_eq_getElem_cons hi2
     refine J.skip ?_
     refine Sr ?_
     refine Ru 1 rfl ?_
     refine JL.op (by first | exact RunV.shl_u64 128 rfl rfl (by decide) (by decide) (by decide) (by omega) (by omega) | exact RunV.shl rfl rfl (by decide) (by decide)) rfl ?_
     refine Ru 1 rfl ?_
     refine JL.op (by first | exact RunV.maskb_u8 7 128 rfl rfl (by decide) (by decide) (by decide) | exact RunV.mask_u8 7 128 rfl rfl (by decide) (by decide) (by decide) (by omega) (by omega) | exact RunV.and_ rfl rfl) rfl ?_
     refine JL.op (by first | exact RunV.convb_u64 cv_5_100 rfl | exact RunV.conv_u64 cv_5_100 rfl (by omega) (by omega) | exact RunV.conv cv_5_100 rfl) rfl ?_
     refine JL.op (RunV.join_u64 7 128 rfl rfl (by decide) (by omega) (by omega) (by omega) (by omega) (by omega) (by omega)) rfl ?_
     refine Ru 2 rfl ?_
     refine JL.nil ?_
     refine J.seq ?_
     refine Sr ?_
     refine Ru 2 rfl ?_
     refine JL.nil ?_
     refine Cs rfl (fun hc7 => ?_) fun hc7 => ?_
     ·
      refine J.exit ?_
      refine Rg ?_
      refine JL.op (by first | exact RunV.add_i64 rfl rfl (by omega) (by omega) | exact RunV.add rfl rfl) rfl ?_
      refine Ru 1 rfl ?_
      refine JL.nil ?_
      refine ⟨_, ?_, _, ?_, ⟨_, i + 1, out, n * 128 + l[i].toNat % 128, false, first, a, c, rfl, rfl, rfl, rfl, ⟨by assumption, by omega, by omega, by omega, by rw [he, hdr, oidGo, if_neg (by rw [hcz]; decide), if_pos (by omega)]⟩⟩⟩
      ·
       omega
      ·
       repeat (first | exact trivial | refine ⟨rfl, ?_⟩ | refine ⟨(by exact some_int (by simp <;> omega)), ?_⟩)
     ·
      refine J.skip ?_
      refine J.seq ?_
      refine Sr ?_
      refine Ru 1 rfl ?_
      refine JL.nil ?_
      refine Cs rfl (fun hc8 => ?_) fun hc8 => ?_
      ·
       subst hc8; obtain ⟨m2, hm2⟩ : ∃ m2 : Nat, m2 = n * 128 + l[i].toNat % 128 - 40 * min ((n * 128 + l[i].toNat % 128) / 40) 2 := ⟨_, rfl⟩
       refine Sr ?_
       refine Ru 1 rfl ?_
       refine JL.op (by first | exact RunV.quo_u64 rfl rfl (by omega) (by omega) (by omega) | exact RunV.quo rfl rfl (by omega)) rfl ?_
       refine JL.op (RunV.min2 rfl rfl) rfl ?_
       refine Ru 1 rfl ?_
       refine Nk [10, 37, 36, 35, 34, 33, 32, 6, 5, 31, 30, 29, 28, 27, 26, 25, 9, 16, 15, 14, 4, 7, 11, 12, 13] rfl ?_
       refine Sr ?_
       refine Ru 2 rfl ?_
       refine JL.call ca_117 rfl (digits_fn' (n := min ((n * 128 + l[i].toNat % 128) / 40) 2) (least := 1) (by split <;> omega) rfl (by omega) (by omega) (by omega)) (by repeat first | exact Parts.nil | exact Del.here | apply Del.there | apply Parts.cons) rfl ?_
       rintro _ h9 Lo9 hle9 ⟨a9, c9, rfl, rfl⟩
       replace hl := hl.mono hle9
       replace hhg := hhg.mono hle9
       refine Ru 1 rfl ?_
       refine JL.nil ?_
       refine Sr ?_
       refine Ru 2 rfl ?_
       refine JL.op (by first | exact RunV.mul_u64 rfl rfl (by omega) (by omega) | exact RunV.mul rfl rfl) rfl ?_
       refine JL.op (by first | exact RunV.sub_u64 rfl rfl (by omega) (by omega) | exact RunV.sub rfl rfl) rfl ?_
       refine Ru 1 rfl ?_
       refine JL.nil ?_
       refine Rg ?_
       refine Ru 1 rfl ?_
       refine JL.nil ?_
       refine Sr ?_
       have hdl2 := dgs_len m2 1; have hdl := dgs_len (min ((n * 128 + l[i].toNat % 128) / 40) 2) 1
       refine Ru 1 rfl ?_
       refine JL.lit1 ap_22 zr_5 rfl rfl rfl rfl rfl (fun b10 => ?_)
       refine JL.append1 ap_22 rfl rfl CellsR.of_u8 rfl (by repeat (first | exact Del.here | apply Del.there)) (by repeat (first | exact Del.here | apply Del.there)) rfl ((show u8R _ [.int .u8 46] 46 from rfl)) (by first | omega | (simp only [List.length_append, List.length_cons, List.length_nil]; omega)) rfl rfl (fun a11 c11 xs11 hC11 hN11 => ?_)
       obtain rfl := hC11.u8
       refine Ru 1 rfl ?_
       refine JL.call ca_117 rfl (digits_fn' (n := m2) (least := 1) (by (try split) <;> omega) rfl (by omega) (by omega) (by simp; omega)) (by repeat first | exact Parts.nil | exact Del.here | apply Del.there | apply Parts.cons) rfl ?_
       rintro _ h12 Lo12 hle12 ⟨a12, c12, rfl, rfl⟩
       replace hl := hl.mono hle12
       replace hhg := hhg.mono hle12
       refine Ru 1 rfl ?_
       refine JL.nil ?_
       refine Rg ?_
       refine Ru 2 rfl ?_
       refine Nk [6, 5, 4, 49, 48, 47, 46, 45, 7, 44, 43, 42, 41, 40, 39, 38, 10, 37, 36, 35, 34, 33, 32, 31, 30, 29, 28, 27, 26, 25, 9, 16, 15, 14, 11, 12, 13] rfl ?_
       refine Rg ?_
       refine JL.op (by first | exact RunV.add_i64 rfl rfl (by omega) (by omega) | exact RunV.add rfl rfl) rfl ?_
       refine Ru 1 rfl ?_
       refine JL.nil ?_
       refine ⟨_, ?_, _, ?_, ⟨_, i + 1, _, 0, true, false, _, _, rfl, rfl, rfl, rfl, ⟨by assumption, by omega, by omega, by simp; omega, by rw [he, hdr, oidGo, if_neg (by rw [hcz]; decide), if_neg (by omega)]; subst hm2; simp [*]⟩⟩⟩
       ·
        omega
       ·
        repeat (first | exact trivial | refine ⟨rfl, ?_⟩ | refine ⟨(by exact some_int (by simp <;> omega)), ?_⟩)
      ·
       subst hc8; obtain ⟨m2, hm2⟩ : ∃ m2 : Nat, m2 = n * 128 + l[i].toNat % 128 := ⟨_, rfl⟩
       refine J.skip ?_
       refine Kp [34, 33, 32, 6, 5, 31, 30, 29, 28, 27, 26, 25, 9, 16, 15, 14, 4, 7, 11, 12, 13] rfl ?_
       refine Sr ?_
       have hdl2 := dgs_len m2 1; have hdl := dgs_len (min ((n * 128 + l[i].toNat % 128) / 40) 2) 1
       refine Ru 1 rfl ?_
       refine JL.lit1 ap_22 zr_5 rfl rfl rfl rfl rfl (fun b13 => ?_)
       refine JL.append1 ap_22 rfl rfl CellsR.of_u8 rfl (by repeat (first | exact Del.here | apply Del.there)) (by repeat (first | exact Del.here | apply Del.there)) rfl ((show u8R _ [.int .u8 46] 46 from rfl)) (by first | omega | (simp only [List.length_append, List.length_cons, List.length_nil]; omega)) rfl rfl (fun a14 c14 xs14 hC14 hN14 => ?_)
       obtain rfl := hC14.u8
       refine Ru 1 rfl ?_
       refine JL.call ca_117 rfl (digits_fn' (n := m2) (least := 1) (by (try split) <;> omega) rfl (by omega) (by omega) (by simp; omega)) (by repeat first | exact Parts.nil | exact Del.here | apply Del.there | apply Parts.cons) rfl ?_
       rintro _ h15 Lo15 hle15 ⟨a15, c15, rfl, rfl⟩
       replace hl := hl.mono hle15
       replace hhg := hhg.mono hle15
       refine Ru 1 rfl ?_
       refine JL.nil ?_
       refine Rg ?_
       refine Ru 2 rfl ?_
       refine JL.nil ?_
       refine Rg ?_
       refine JL.op (by first | exact RunV.add_i64 rfl rfl (by omega) (by omega) | exact RunV.add rfl rfl) rfl ?_
       refine Ru 1 rfl ?_
       refine JL.nil ?_
       refine ⟨_, ?_, _, ?_, ⟨_, i + 1, _, 0, true, false, _, _, rfl, rfl, rfl, rfl, ⟨by assumption, by omega, by omega, by simp; omega, by rw [he, hdr, oidGo, if_neg (by rw [hcz]; decide), if_neg (by omega)]; subst hm2; simp [*]⟩⟩⟩
       ·
        omega
       ·
        repeat (first | exact trivial | refine ⟨rfl, ?_⟩ | refine ⟨(by exact some_int (by simp <;> omega)), ?_⟩)
  ·
   refine J.exit ?_
   refine Kp [4, 6, 7] rfl ?_
   refine J.seq ?_
   refine Sr ?_
   refine Ru 3 rfl ?_
   refine Bs 53 rfl (fun hc16 => ?_) fun hc16 => ?_
   ·
    refine Ru 2 rfl ?_
    refine Nk [55, 4] rfl ?_
    refine J.cond_t rfl ?_
    refine Sr ?_
    refine Ru 2 rfl ?_
    refine JL.nil ?_
    exact J.retV (RetV.two rfl rfl rfl) (by first | (have hz : oidT l = none := (by rw [he, List.drop_of_length_le (by omega), oidGo]; simp [*]); rw [hz]; rfl) | (have hz : oidT l = some out := (by rw [he, List.drop_of_length_le (by omega), oidGo]; simp [*]); rw [hz]; rfl))
   ·
    refine Ru 2 rfl ?_
    refine Nk [55, 4] rfl ?_
    refine Cs rfl (fun hc17 => ?_) fun hc17 => ?_
    ·
     refine Sr ?_
     refine Ru 2 rfl ?_
     refine JL.nil ?_
     exact J.retV (RetV.two rfl rfl rfl) (by first | (have hz : oidT l = none := (by rw [he, List.drop_of_length_le (by omega), oidGo]; simp [*]); rw [hz]; rfl) | (have hz : oidT l = some out := (by rw [he, List.drop_of_length_le (by omega), oidGo]; simp [*]); rw [hz]; rfl))
    ·
     refine J.skip ?_
     refine Sr ?_
     refine Ru 1 rfl ?_
     refine JL.pub (R := u8R) (l := out) (by repeat (first | exact Del.here | apply Del.there)) CellsR.of_u8 rfl (by omega) (fun hp hlep hSp => ?_)
     refine JL.op (RunV.strB sb_22_9 rfl (by assumption) rfl) rfl ?_
     refine Ru 2 rfl ?_
     refine Nk [3, 2] rfl ?_
     exact J.retV (RetV.two rfl rfl rfl) (by first | (have hz : oidT l = none := (by rw [he, List.drop_of_length_le (by omega), oidGo]; simp [*]); rw [hz]; rfl) | (have hz : oidT l = some out := (by rw [he, List.drop_of_length_le (by omega), oidGo]; simp [*]); rw [hz]; rfl))

end Go.Proofs.YtmngjbefnloljaaDoor
