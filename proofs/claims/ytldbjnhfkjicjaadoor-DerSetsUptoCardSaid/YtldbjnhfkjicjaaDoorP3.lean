/- Walk: the reference's printable texts; Walks: the reference's lengths; the law DerLengths; Walks: the reference's values and bytes of nodes; Walks: sets by the reference; Walks: the law DerSets; Walks: the law DerSets, itself. -/
import Derived.Test.YtldbjnhfkjicjaaDoorP2
set_option linter.unusedSimpArgs false
set_option linter.unusedVariables false
set_option linter.constructorNameAsVariable false
namespace Go.Proofs.YtldbjnhfkjicjaaDoor
open Go Go.RowKit
def prL : List UInt8 := [32, 39, 40, 41, 43, 44, 45, 46, 47, 58, 61, 63]
def prAl (b : Int) : Bool := (decide (65 ≤ b ∧ b ≤ 90) || decide (97 ≤ b ∧ b ≤ 122)) || decide (48 ≤ b ∧ b ≤ 57)
def prAny (b : Int) (l : List UInt8) : Bool := l.any fun x => decide (b = x.toNat)
theorem prC_eq (b : Nat) : prC b = (prAl b || prAny b prL) := by
  rw [Bool.eq_iff_iff]
  simp only [prC, prAl, prAny, prL, List.any_cons, List.any_nil, Bool.or_eq_true, decide_eq_true_eq, Bool.or_false, show ((32 : UInt8).toNat = 32) from rfl, show ((39 : UInt8).toNat = 39) from rfl, show ((40 : UInt8).toNat = 40) from rfl, show ((41 : UInt8).toNat = 41) from rfl, show ((43 : UInt8).toNat = 43) from rfl, show ((44 : UInt8).toNat = 44) from rfl, show ((45 : UInt8).toNat = 45) from rfl, show ((46 : UInt8).toNat = 46) from rfl, show ((47 : UInt8).toNat = 47) from rfl, show ((58 : UInt8).toNat = 58) from rfl, show ((61 : UInt8).toNat = 61) from rfl, show ((63 : UInt8).toNat = 63) from rfl]
  omega
theorem prAny_next (b : Int) (q : Nat) (h : q < prL.length) : prAny b (prL.take (q + 1)) = (prAny b (prL.take q) || decide (b = byteAt prL q)) := by
  unfold prAny
  rw [List.take_succ_eq_append_getElem h, List.any_append, List.any_cons, List.any_nil, Bool.or_false, byteAt_eq prL q h]
theorem prC_lt (c : Nat) (h : prC c = true) : c < 128 := by
  have := of_decide_eq_true h; omega
theorem rprint_fn (s : List UInt8) (h : Part) (hl : s.length ≤ 140737488355328) : Pure Tryd.prog 49 [.string ⟨s.toArray⟩] h (.bool (runes (fun c _ => prC c) s 0)) := by
  rw [runes_all prC_lt _ s (Nat.le_refl _)]
  have hpl : prL.length = 12 := rfl
  refine Fn.intro Tryd.func49 rfl Tryd.ntmps49 rfl (fun e he => ?_)
  refine J.weak [(0, _)] ⟨rfl, trivial⟩ ?_
  refine Sr ?_
  refine Ru 1 rfl ?_
  refine JL.nil ?_
  refine Sr ?_
  refine Ru 1 rfl ?_
  refine JL.nil ?_
  refine J.seq ?_
  refine Sr ?_
  refine Ru 1 rfl ?_
  refine JL.nil ?_
  refine J.block ?_
  refine J.loop (fun t_ S_ h_ L_ => ∃ (p : Nat), t_ = s.length - p ∧ S_ = [(0, .string ⟨s.toArray⟩), (3, .string ⟨prL.toArray⟩), (4, .int .i64 p)] ∧ h = h_ ∧ L_ = [] ∧ (p ≤ s.length ∧ (s.all fun b => prC b.toNat) = (s.drop p).all fun b => prC b.toNat)) ⟨_, _, ?_, ⟨0, rfl, rfl, rfl, rfl, ⟨by omega, rfl⟩⟩⟩ ?_
  ·
   exact z5_
  rintro _ _ _ _ ⟨p, rfl, rfl, rfl, rfl, hp, hq⟩
  refine J.seq ?_
  refine Sr ?_
  refine Ru 2 rfl ?_
  refine JL.op (RunV.lenS un_9 rfl) rfl ?_
  refine Ru 1 rfl ?_
  refine JL.nil ?_
  refine Cs rfl (fun hc1 => ?_) fun hc1 => ?_
  ·
   have hst := all_step prC s p (by omega); have hbp := byteAt_lt s p
   refine J.skip ?_
   refine J.seq ?_
   refine J.block ?_
   refine Sr ?_
   refine Ru 2 rfl ?_
   refine JL.op (RunV.strIndex (m := p) un_9 rfl rfl (by omega) (by omega)) rfl ?_
   refine JL.op z11_ rfl ?_
   refine Ru 1 rfl ?_
   refine JL.nil ?_
   refine Sr ?_
   refine Ru 1 rfl ?_
   refine JL.callP ca_62 rfl (between_fn _ _ _ _) rfl ?_
   refine Ru 1 rfl ?_
   apply On 20 23 3 [5, 17, 16, 15, 14, 11, 10, 9, 8, 0, 3, 4] rfl rfl
   rotate_left
   ·
    intro hb3 hc3
    refine Ru 1 rfl ?_
    refine JL.callPg rfl rfl  ca_62 rfl (between_fn _ _ _ _) rfl ?_
    refine Ru 1 rfl ?_
    exact Ae (om_f hb3 rfl) rfl
   rotate_right
   ·
    exact fun hb3 _ => Ru 3 rfl (Ae (om_t hb3 rfl) rfl)
   refine Ru 1 rfl ?_
   apply On 24 27 3 [5, 17, 16, 15, 14, 11, 10, 9, 8, 0, 3, 4] rfl rfl
   rotate_left
   ·
    intro hb5 hc5
    refine Ru 1 rfl ?_
    refine JL.callPg rfl rfl  ca_62 rfl (between_fn _ _ _ _) rfl ?_
    refine Ru 1 rfl ?_
    exact Ae (om_f hb5 rfl) rfl
   rotate_right
   ·
    exact fun hb5 _ => Ru 3 rfl (Ae (om_t hb5 rfl) rfl)
   refine Ru 1 rfl ?_
   refine JL.nil ?_
   refine J.seq ?_
   refine Sr ?_
   refine Ru 1 rfl ?_
   refine JL.nil ?_
   refine J.block ?_
   refine J.loop (fun t_ S_ h_ L_ => ∃ (q : Nat) (v : Bool), t_ = prL.length - q ∧ S_ = [(0, .string ⟨s.toArray⟩), (3, .string ⟨prL.toArray⟩), (4, .int .i64 p), (6, .bool v), (7, .int .i64 q)] ∧ h = h_ ∧ L_ = [] ∧ (q ≤ prL.length ∧ v = (prAl (byteAt s p) || prAny (byteAt s p) (prL.take q)))) ⟨_, _, ?_, ⟨0, prAl (byteAt s p), rfl, rfl, rfl, rfl, ⟨by omega, by simp [prAny]⟩⟩⟩ ?_
   ·
    exact z5_
   rintro _ _ _ _ ⟨q, v, rfl, rfl, rfl, rfl, hq1, hv⟩
   refine J.seq ?_
   refine Sr ?_
   refine Ru 2 rfl ?_
   refine JL.op (RunV.lenS un_9 rfl) rfl ?_
   refine Ru 1 rfl ?_
   refine JL.nil ?_
   refine Cs rfl (fun hc7 => ?_) fun hc7 => ?_
   ·
    refine J.skip ?_
    refine J.seq ?_
    refine J.block ?_
    refine J.meet [(6, .bool (v || decide ((byteAt s p : Int) = byteAt prL q)))] [(31, _), (30, _), (29, _), (28, _), (0, _), (3, _), (4, _), (7, _)] ⟨rfl, rfl, rfl, rfl, rfl, rfl, rfl, rfl, trivial⟩ ?_ ?_
    ·
     refine J.drawn mixed_ (by kernel_rfl) ?_
     refine Rq 2 rfl ?_
     refine Bq 35 rfl (fun hc8 => ?_) fun hc8 => ?_
     ·
      refine Rq 9 rfl ?_
      refine JQ.nil ?_
      refine ⟨rfl, rfl, ?_⟩
      repeat (first | exact trivial | refine ⟨rfl, ?_⟩ | refine ⟨(by exact some_bool (by cases v <;> simp_all)), ?_⟩)
     refine Rq 2 rfl ?_
     refine JQ.opg rfl rfl  (RunV.strIndex (m := p) un_9 rfl rfl (by omega) (by omega)) rfl ?_
     refine Rq 2 rfl ?_
     refine JQ.opg rfl rfl  (RunV.strIndex (m := q) un_9 rfl rfl (by omega) (by omega)) rfl ?_
     refine Rq 3 rfl ?_
     refine JQ.nil ?_
     refine ⟨rfl, rfl, ?_⟩
     repeat (first | exact trivial | refine ⟨rfl, ?_⟩ | refine ⟨(by exact some_bool (by cases v <;> simp_all)), ?_⟩)
    refine Rg ?_
    refine Ru 1 rfl ?_
    refine JL.op ai_ rfl ?_
    refine Ru 1 rfl ?_
    refine JL.nil ?_
    refine ⟨_, ?_, _, ?_, ⟨q + 1, (v || decide ((byteAt s p : Int) = byteAt prL q)), rfl, rfl, rfl, rfl, ⟨by omega, by rw [hv, prAny_next _ _ (by omega), Bool.or_assoc]⟩⟩⟩
    ·
     omega
    exact z5_
   have hqe : q = prL.length := (by omega); have hpc : prC (byteAt s p) = v := (by rw [hv, prC_eq, hqe, List.take_length])
   refine J.exit ?_
   refine Sr ?_
   refine Ru 2 rfl ?_
   refine JL.nil ?_
   refine Cs rfl (fun hc9 => ?_) fun hc9 => ?_
   ·
    refine Sr ?_
    refine Ru 1 rfl ?_
    refine JL.nil ?_
    exact J.retP (RetV.one rfl rfl) (by rw [hq, hst, hpc]; simp_all) rfl
   refine J.skip ?_
   refine Rg ?_
   refine Ru 1 rfl ?_
   refine JL.op ai_ rfl ?_
   refine Ru 1 rfl ?_
   refine JL.nil ?_
   refine ⟨_, ?_, _, ?_, ⟨p + 1, rfl, rfl, rfl, rfl, ⟨by omega, by rw [hq, hst, hpc]; simp_all⟩⟩⟩
   ·
    omega
   exact z5_
  refine J.exit ?_
  refine Kp [] rfl ?_
  refine Sr ?_
  refine Ru 1 rfl ?_
  refine JL.nil ?_
  exact J.retP (RetV.one rfl rfl) (by rw [hq, List.drop_of_length_le (by omega)]; rfl) rfl
end Go.Proofs.YtldbjnhfkjicjaaDoor
namespace Go.Proofs.YtldbjnhfkjicjaaDoor
open Go Go.RowKit
set_option maxRecDepth 100000
theorem ofNat_mod (n : Nat) : UInt8.ofNat (n % 256) = UInt8.ofNat n := by
  apply UInt8.toNat_inj.1
  simp
theorem nby_gt0 (n j : Nat) (hn : n ≤ 140737488355328) (h0 : 128 ≤ n) (h2 : j ≤ nby n) : 0 < n / 256 ^ j ↔ j < nby n := by
  cases j with
  | zero => have := nby_bd n; simp; omega
  | succ j => exact nby_gt n (j + 1) hn (by omega) h2
theorem length_fn {n : Nat} {h : Part} (hn : n ≤ 140737488355328) : FnR Tryd.prog 34 [.int .i64 n] h (fun v h' => ∃ a c, v = .slice a (lenB n).length c ∧ SlR u8R 1 h' a c (lenB n)) := by
  have hk := nby_bd n
  refine Fn.intro Tryd.func34 rfl Tryd.ntmps34 rfl (fun e he => ?_)
  refine J.weak [(0, _)] ⟨rfl, trivial⟩ ?_
  have hh0 := Part.le.refl h
  refine Sr ?_
  refine Ru 1 rfl ?_
  refine JL.nil ?_
  refine J.seq ?_
  refine Sr ?_
  refine Ru 2 rfl ?_
  refine JL.nil ?_
  refine Cs rfl (fun hc1 => ?_) fun hc1 => ?_
  ·
   have hlb1 : lenB n = [UInt8.ofNat n] := if_pos (by omega)
   refine Sr ?_
   refine Ru 1 rfl ?_
   refine JL.op (RunV.toByte n cv_3_5 rfl rfl) rfl ?_
   refine JL.lit1 ap_24 zr_5 rfl rfl rfl rfl rfl (fun b2 => ?_)
   refine JL.pubB (R := u8R) (sz := 1) (l := [UInt8.ofNat n]) dl_ (cells_lit (by first | kernel_rfl | rfl)) (by first | decide | omega | (simp; done)) (fun h3 hle3 hQ => ?_)
   replace hh0 := hh0.mono hle3
   refine Ru 1 rfl ?_
   refine Nk [2, 0] rfl ?_
   rw [hlb1]; exact J.retR (RetV.one rfl rfl) ⟨some ⟨b2, 0, none⟩, 1, rfl, hQ⟩
  refine J.skip ?_
  refine Sr ?_
  refine Ru 1 rfl ?_
  refine JL.nil ?_
  refine J.seq ?_
  refine J.block ?_
  refine J.loop (fun t_ S_ h_ L_ => ∃ (g : Part) (j : Nat) (la : Option Addr) (lc : Nat), t_ = 7 - j ∧ S_ = [(0, .int .i64 (n / 256 ^ j : Nat)), (3, .slice la (be j n).length lc)] ∧ g = h_ ∧ L_ = [] ∧ (h.le g ∧ j ≤ nby n ∧ SlR u8R 1 g la lc (be j n))) ⟨_, _, ?_, ⟨_, 0, none, 0, rfl, rfl, rfl, rfl, ⟨by assumption, by omega, SlR.nil_⟩⟩⟩ ?_
  ·
   repeat (first | exact trivial | refine ⟨rfl, ?_⟩ | refine ⟨(by exact some_int (by first | (simp; done) | (rw [Nat.pow_succ, ← Nat.div_div_eq_div_mul]; omega))), ?_⟩)
  rintro _ _ _ _ ⟨g, j, la, lc, rfl, rfl, rfl, rfl, hhg, hj, hL⟩
  have hgt := nby_gt0 n j hn (by omega) hj; have hlb := be_len j n; have hlb3 := be_len (j + 1) n; have hle := Nat.div_le_self n (256 ^ j)
  refine J.seq ?_
  refine Sr ?_
  refine Ru 2 rfl ?_
  refine JL.nil ?_
  refine Cs rfl (fun hc4 => ?_) fun hc4 => ?_
  ·
   refine J.skip ?_
   refine J.block ?_
   refine Sr ?_
   refine Ru 1 rfl ?_
   refine JL.nil ?_
   refine Sr ?_
   refine Ru 2 rfl ?_
   refine JL.op z24_ rfl ?_
   refine JL.op (RunV.toByte (n / 256 ^ j % 256) cv_3_5 rfl (by omega)) rfl ?_
   rw [ofNat_mod]
   refine JL.lit1 ap_24 zr_5 rfl rfl rfl rfl rfl (fun b5 => ?_)
   refine JL.row_nil 5 1 ?_
   refine JL.append1 ap_24 rfl rfl (CellsR.nil (R := u8R)) rfl dl_ dl_ rfl (rfl) z3_ rfl rfl (fun a6 c6 xs6 hC6 hN6 => ?_)
   obtain rfl := hC6.u8
   refine Ru 1 rfl ?_
   refine JL.nil ?_
   refine Sr ?_
   refine Ru 2 rfl ?_
   refine JL.append ap_24 rfl rfl CellsR.of_u8 rfl (by assumption) rfl dl_ z3_ rfl rfl (fun a7 c7 xs7 hC7 hN7 => ?_)
   obtain rfl := hC7.u8
   refine JL.pub (R := u8R) (l := be (j + 1) n) dl_ CellsR.of_u8 rfl z3_ (fun h8 hle8 hP8 => ?_)
   replace hhg := hhg.mono hle8
   replace hL := hL.mono hle8
   refine Ru 1 rfl ?_
   refine JL.nil ?_
   refine Rg ?_
   refine Ru 1 rfl ?_
   refine JL.op z29_ rfl ?_
   refine Ru 1 rfl ?_
   refine JL.nil ?_
   refine ⟨_, ?_, _, ?_, ⟨_, j + 1, _, _, rfl, rfl, rfl, rfl, ⟨by assumption, by omega, by assumption⟩⟩⟩
   ·
    omega
   repeat (first | exact trivial | refine ⟨rfl, ?_⟩ | refine ⟨(by exact some_int (by first | (simp; done) | (rw [Nat.pow_succ, ← Nat.div_div_eq_div_mul]; omega))), ?_⟩)
  have hjn : j = nby n := (by omega); subst hjn; have hlb1 : lenB n = UInt8.ofNat (128 + nby n) :: be (nby n) n := if_neg (by omega)
  refine J.exit ?_
  refine Sr ?_
  refine Ru 2 rfl ?_
  refine JL.op ai_ rfl ?_
  refine JL.op (RunV.toByte (128 + nby n) cv_3_5 rfl (by rw [hlb]; omega)) rfl ?_
  refine JL.lit1 ap_24 zr_5 rfl rfl rfl rfl rfl (fun b9 => ?_)
  refine Ru 1 rfl ?_
  refine Nk [5, 3] rfl ?_
  refine Sr ?_
  refine Ru 2 rfl ?_
  refine JL.rowB (b := b9) dl_ ?_
  refine JL.append ap_24 rfl rfl CellsR.of_u8 rfl (by assumption) rfl dl_ z3_ rfl rfl (fun a10 c10 xs10 hC10 hN10 => ?_)
  obtain rfl := hC10.u8
  refine JL.pub (R := u8R) (l := UInt8.ofNat (128 + nby n) :: be (nby n) n) dl_ CellsR.of_u8 rfl z3_ (fun h11 hle11 hP11 => ?_)
  replace hhg := hhg.mono hle11
  replace hL := hL.mono hle11
  refine Ru 1 rfl ?_
  refine Nk [2] rfl ?_
  rw [hlb1]; exact J.retR (RetV.one rfl rfl) ⟨_, _, rfl, by assumption⟩
end Go.Proofs.YtldbjnhfkjicjaaDoor
namespace Go.Proofs.YtldbjnhfkjicjaaDoor
open Go Go.RowKit
theorem z0_ {p : Prop} (u : p := by first | (rw [valB_1 (by omega), ← e0 (by omega)]; (congr 1; first | exact (decide_eq_true (by omega)).symm | exact (decide_eq_false (by omega)).symm | exact decide_eq_decide.2 (by omega) | (rw [← decide_not]; exact decide_eq_decide.2 (by omega)))) | (rw [valB_1 (by omega)]; (congr 1; first | exact (decide_eq_true (by omega)).symm | exact (decide_eq_false (by omega)).symm | exact decide_eq_decide.2 (by omega) | (rw [← decide_not]; exact decide_eq_decide.2 (by omega)))) | (rw [valB_2 (by omega), leastB]; (repeat' split) <;> first | (congr 1; first | exact (decide_eq_true (by omega)).symm | exact (decide_eq_false (by omega)).symm | exact decide_eq_decide.2 (by omega) | (rw [← decide_not]; exact decide_eq_decide.2 (by omega))) | (congr 1; first | exact decide_eq_true (by omega) | exact decide_eq_false (by omega)) | (exfalso; omega)) | (rw [valB_3 (by omega), bits_f (by first | omega | (rw [← e0 (by omega)]; omega))]; done) | (rw [valB_3 (by omega), bits_1 (by omega) (by omega)]; done) | (rw [valB_3 (by omega), bits_n (by omega) (by omega) (by omega), ← e1]; done) | (rw [valB_5 (by omega)]; (congr 1; first | exact (decide_eq_true (by omega)).symm | exact (decide_eq_false (by omega)).symm | exact decide_eq_decide.2 (by omega) | (rw [← decide_not]; exact decide_eq_decide.2 (by omega)))) | (rw [valB_6 (by omega)]; cases (oidT l).isSome <;> rfl) | rw [valB_12 (by omega)] | rw [valB_19 (by omega)] | rw [valB_22 (by omega)] | (rw [valB_23 (by omega)]; cases psOk l <;> rfl) | (rw [valB_24 (by omega)]; cases plOk l <;> rfl) | rw [valB_0 (by omega)]) : p := u
theorem z27_ {p : Prop} (u : p := by repeat (first | exact trivial | refine ⟨rfl, ?_⟩ | refine ⟨(by exact some_bool (by cases k <;> simp_all <;> omega)), ?_⟩)) : p := u
theorem z33_ {p : Prop} (u : p := by repeat (first | exact trivial | refine ⟨rfl, ?_⟩ | refine ⟨(by exact some_bool (by rw [hBB]; simp_all)), ?_⟩)) : p := u
end Go.Proofs.YtldbjnhfkjicjaaDoor
namespace Go.Proofs.YtldbjnhfkjicjaaDoor
open Go Go.RowKit
set_option maxRecDepth 100000
theorem ca_20 : callT Tryd.prog 20 = true := by kernel_rfl
theorem ca_21 : callT Tryd.prog 21 = true := by kernel_rfl
theorem ca_32 : callT Tryd.prog 32 = true := by kernel_rfl
theorem ca_33 : callT Tryd.prog 33 = true := by kernel_rfl
theorem ca_34 : callT Tryd.prog 34 = true := by kernel_rfl
theorem ca_47 : callT Tryd.prog 47 = true := by kernel_rfl
theorem ca_48 : callT Tryd.prog 48 = true := by kernel_rfl
theorem ca_49 : callT Tryd.prog 49 = true := by kernel_rfl
theorem ca_50 : callT Tryd.prog 50 = true := by kernel_rfl
theorem ca_51 : callT Tryd.prog 51 = true := by kernel_rfl
theorem ca_52 : callT Tryd.prog 52 = true := by kernel_rfl
theorem bits_f {b : List UInt8} (h : b.length = 0 ∨ 7 < byteAt b 0) : bitsB b = false := decide_eq_false (fun hh => hh.1 (by omega))
theorem bits_1 {b : List UInt8} (h : b.length = 1) (h7 : byteAt b 0 ≤ 7) : bitsB b = decide (((2 ^ byteAt b 0 : Nat) : Int) = 1) := by
  unfold bitsB
  refine decide_eq_decide.2 ?_
  rcases Nat.eq_zero_or_pos (byteAt b 0) with h0 | h0
  · exact ⟨fun _ => by rw [h0]; rfl, fun _ => ⟨by omega, .inl h0⟩⟩
  · have : 2 ≤ 2 ^ byteAt b 0 := Nat.pow_le_pow_right (n := 2) (by decide) h0
    constructor
    · rintro ⟨h1, _⟩; omega
    · intro h1; omega
theorem bits_n {b : List UInt8} (h0 : b.length ≠ 0) (h1 : b.length ≠ 1) (h7 : byteAt b 0 ≤ 7) : bitsB b = decide ((byteAt b (b.length - 1) : Int) % ((2 ^ byteAt b 0 : Nat) : Int) = 0) := by
  unfold bitsB
  refine decide_eq_decide.2 ?_
  constructor
  · rintro ⟨_, h2 | h2⟩
    · rw [h2]; simp
    · rw [← Int.natCast_emod, h2]; rfl
  · intro h2
    rw [← Int.natCast_emod] at h2
    exact ⟨by omega, .inr (by omega)⟩
theorem pow7 (n : Nat) (h : n ≤ 7) : 1 ≤ 2 ^ n ∧ 2 ^ n ≤ 128 := ⟨Nat.one_le_two_pow, Nat.pow_le_pow_right (n := 2) (by decide) h⟩
theorem rvalue_fn {t : Int} {a : Option Addr} {c : Nat} {l : List UInt8} {h : Part} (hl : SlR u8R 1 h a c l) (hb : l.length ≤ 10000000) : Pure Tryd.prog 33 [.int .i64 t, .slice a l.length c] h (.bool (valB t l)) := by
  have e0 := fun hh => byteAt_eq l 0 hh
  refine Fn.intro Tryd.func33 rfl Tryd.ntmps33 rfl (fun e he => ?_)
  refine J.weak [(0, _), (1, _)] ⟨rfl, rfl, trivial⟩ ?_
  refine Sr ?_
  refine Ru 1 rfl ?_
  refine JL.nil ?_
  refine Sr ?_
  refine Ru 3 rfl ?_
  refine JL.nil ?_
  refine J.seq ?_
  refine Sr ?_
  refine Ru 1 rfl ?_
  refine JL.nil ?_
  refine J.block ?_
  refine Sr ?_
  refine Ru 2 rfl ?_
  refine JL.nil ?_
  refine Cs rfl (fun hc1 => ?_) fun hc1 => ?_
  ·
   refine Sr ?_
   refine Ru 3 rfl ?_
   refine Bs 23 rfl (fun hc2 => ?_) fun hc2 => ?_
   ·
    refine Ru 1 rfl ?_
    refine JL.opeg rfl rfl  (RunE.index sl_24 rfl rfl (show _ = ((0 : Nat) : Int) from rfl) (by assumption) rfl (by omega)) rfl ?_
    rintro _ ⟨b3, o3, hi3, rfl, hE3⟩
    refine JL.opg rfl rfl  (RunV.ld_u8 ag_5 rfl (by assumption)) rfl ?_
    refine Ru 2 rfl ?_
    refine Bs 28 rfl (fun hc5 => ?_) fun hc5 => ?_
    ·
     refine Ru 7 rfl ?_
     refine Nk [4] rfl ?_
     exact J.retP (RetV.one rfl rfl) z0_ rfl
    refine Ru 1 rfl ?_
    refine JL.opeg rfl rfl  (RunE.index sl_24 rfl rfl (show _ = ((0 : Nat) : Int) from rfl) (by assumption) rfl (by omega)) rfl ?_
    rintro _ ⟨b6, o6, hi6, rfl, hE6⟩
    refine JL.opg rfl rfl  (RunV.ld_u8 ag_5 rfl (by assumption)) rfl ?_
    refine Ru 4 rfl ?_
    refine Nk [4] rfl ?_
    exact J.retP (RetV.one rfl rfl) z0_ rfl
   refine Ru 12 rfl ?_
   refine Nk [4] rfl ?_
   exact J.retP (RetV.one rfl rfl) z0_ rfl
  refine J.seq ?_
  refine Sr ?_
  refine Ru 2 rfl ?_
  refine Nk [35, 18, 5, 4, 1] rfl ?_
  refine Cs rfl (fun hc8 => ?_) fun hc8 => ?_
  ·
   refine J.skip ?_
   refine J.cond_t rfl ?_
   refine J.seq ?_
   refine Sr ?_
   refine Ru 2 rfl ?_
   refine JL.nil ?_
   refine Cs rfl (fun hc9 => ?_) fun hc9 => ?_
   ·
    refine Sr ?_
    refine Ru 3 rfl ?_
    refine Nk [4, 1] rfl ?_
    exact J.retP (RetV.one rfl rfl) z0_ rfl
   refine J.skip ?_
   refine Kp [4, 1] rfl ?_
   refine J.seq ?_
   refine J.drawn mixed_ (by kernel_rfl) ?_
   have e0 := byteAt_eq l 0 (by omega); have e1 := byteAt_eq l 1 (by omega); have b0 := byteAt_lt l 0; have b1 := byteAt_lt l 1
   refine Rq 1 rfl ?_
   refine JQ.ope (RunE.index sl_24 rfl rfl (show _ = ((0 : Nat) : Int) from rfl) (by assumption) rfl (by omega)) rfl ?_
   rintro _ ⟨b10, o10, hi10, rfl, hE10⟩
   refine JQ.op (RunV.ld_u8 ag_5 rfl (by assumption)) rfl ?_
   refine JQ.op z11_ rfl ?_
   refine JQ.op z16_ rfl ?_
   refine Rq 1 rfl ?_
   refine JQ.ope (RunE.index sl_24 rfl rfl (show _ = ((1 : Nat) : Int) from rfl) (by assumption) rfl (by omega)) rfl ?_
   rintro _ ⟨b12, o12, hi12, rfl, hE12⟩
   refine JQ.op (RunV.ld_u8 ag_5 rfl (by assumption)) rfl ?_
   refine JQ.op z11_ rfl ?_
   refine JQ.op z29_ rfl ?_
   refine JQ.op ai_ rfl ?_
   refine Rq 1 rfl ?_
   refine Nq [6, 4] rfl ?_
   refine Sr ?_
   refine Ru 3 rfl ?_
   refine Bs 55 rfl (fun hc14 => ?_) fun hc14 => ?_
   ·
    refine Ru 4 rfl ?_
    refine Nk [4] rfl ?_
    exact J.retP (RetV.one rfl rfl) z0_ rfl
   refine Ru 4 rfl ?_
   refine Nk [4] rfl ?_
   exact J.retP (RetV.one rfl rfl) z0_ rfl
  refine Rg ?_
  refine Ru 2 rfl ?_
  refine JL.nil ?_
  refine Cs rfl (fun hc15 => ?_) fun hc15 => ?_
  ·
   refine J.seq ?_
   refine Sr ?_
   refine Ru 2 rfl ?_
   refine Nk [39, 5, 4, 1] rfl ?_
   refine Cs rfl (fun hc16 => ?_) fun hc16 => ?_
   ·
    refine Sr ?_
    refine Ru 3 rfl ?_
    refine Nk [4, 1] rfl ?_
    exact J.retP (RetV.one rfl rfl) z0_ rfl
   refine J.skip ?_
   refine J.seq ?_
   refine J.drawn mixed_ (by kernel_rfl) ?_
   have e0 := byteAt_eq l 0 (by omega); have e1 := byteAt_eq l 1 (by omega); have b0 := byteAt_lt l 0; have b1 := byteAt_lt l 1
   refine Rq 1 rfl ?_
   refine JQ.ope (RunE.index sl_24 rfl rfl (show _ = ((0 : Nat) : Int) from rfl) (by assumption) rfl (by omega)) rfl ?_
   rintro _ ⟨b17, o17, hi17, rfl, hE17⟩
   refine JQ.op (RunV.ld_u8 ag_5 rfl (by assumption)) rfl ?_
   refine JQ.op z11_ rfl ?_
   refine JQ.op z16_ rfl ?_
   refine Rq 1 rfl ?_
   refine JQ.ope (RunE.index sl_24 rfl rfl (show _ = ((1 : Nat) : Int) from rfl) (by assumption) rfl (by omega)) rfl ?_
   rintro _ ⟨b19, o19, hi19, rfl, hE19⟩
   refine JQ.op (RunV.ld_u8 ag_5 rfl (by assumption)) rfl ?_
   refine JQ.op z11_ rfl ?_
   refine JQ.op z29_ rfl ?_
   refine JQ.op ai_ rfl ?_
   refine Rq 1 rfl ?_
   refine Nq [6, 4] rfl ?_
   refine Sr ?_
   refine Ru 3 rfl ?_
   refine Bs 55 rfl (fun hc21 => ?_) fun hc21 => ?_
   ·
    refine Ru 4 rfl ?_
    refine Nk [4] rfl ?_
    exact J.retP (RetV.one rfl rfl) z0_ rfl
   refine Ru 4 rfl ?_
   refine Nk [4] rfl ?_
   exact J.retP (RetV.one rfl rfl) z0_ rfl
  refine Sr ?_
  refine Ru 2 rfl ?_
  refine Nk [59, 18, 5, 4, 1] rfl ?_
  refine Cs rfl (fun hc22 => ?_) fun hc22 => ?_
  ·
   refine J.seq ?_
   refine Sr ?_
   refine Ru 3 rfl ?_
   refine Bs 63 rfl (fun hc23 => ?_) fun hc23 => ?_
   ·
    refine Ru 5 rfl ?_
    refine Nk [68, 5, 4, 1] rfl ?_
    refine J.cond_t rfl ?_
    refine Sr ?_
    refine Ru 1 rfl ?_
    refine JL.nil ?_
    exact J.retP (RetV.one rfl rfl) z0_ rfl
   refine Ru 1 rfl ?_
   refine JL.opeg rfl rfl  (RunE.index sl_24 rfl rfl (show _ = ((0 : Nat) : Int) from rfl) (by assumption) rfl (by omega)) rfl ?_
   rintro _ ⟨b24, o24, hi24, rfl, hE24⟩
   refine JL.opg rfl rfl  (RunV.ld_u8 ag_5 rfl (by assumption)) rfl ?_
   refine Ru 2 rfl ?_
   refine Nk [68, 5, 4, 1] rfl ?_
   refine Cs rfl (fun hc26 => ?_) fun hc26 => ?_
   ·
    refine Sr ?_
    refine Ru 1 rfl ?_
    refine JL.nil ?_
    exact J.retP (RetV.one rfl rfl) z0_ rfl
   have e0 := byteAt_eq l 0 (by omega); have e1 := byteAt_eq l (l.length - 1) (by omega); have hp7 := pow7 (byteAt l 0) (by omega)
   refine J.skip ?_
   refine Sr ?_
   refine Ru 1 rfl ?_
   refine JL.nil ?_
   refine J.seq ?_
   refine Sr ?_
   refine Ru 1 rfl ?_
   refine JL.nil ?_
   refine J.block ?_
   refine J.loop (fun t_ S_ h_ L_ => ∃ (i : Nat), t_ = 9 - i ∧ S_ = [(1, .slice a l.length c), (5, .int .i64 l.length), (7, .int .i64 (2 ^ i : Nat)), (8, .int .i64 i)] ∧ h = h_ ∧ L_ = [] ∧ (i ≤ byteAt l 0)) ⟨_, _, ?_, ⟨0, rfl, rfl, rfl, rfl, by omega⟩⟩ ?_
   ·
    repeat (first | exact trivial | refine ⟨rfl, ?_⟩ | refine ⟨(by exact some_int (by first | rfl | (rw [Nat.pow_succ]; omega))), ?_⟩)
   rintro _ _ _ _ ⟨i, rfl, rfl, rfl, rfl, hi⟩
   have hpi := pow7 i (by omega)
   refine J.seq ?_
   refine Sr ?_
   refine Ru 2 rfl ?_
   refine JL.ope (RunE.index sl_24 rfl rfl (show _ = ((0 : Nat) : Int) from rfl) (by assumption) rfl (by omega)) rfl ?_
   rintro _ ⟨b27, o27, hi27, rfl, hE27⟩
   refine JL.op (RunV.ld_u8 ag_5 rfl (by assumption)) rfl ?_
   refine JL.op z11_ rfl ?_
   refine Ru 1 rfl ?_
   refine JL.nil ?_
   refine Cs rfl (fun hc29 => ?_) fun hc29 => ?_
   ·
    refine J.skip ?_
    refine J.seq ?_
    refine J.block ?_
    refine Rg ?_
    refine Ru 1 rfl ?_
    refine JL.op z16_ rfl ?_
    refine Ru 1 rfl ?_
    refine JL.nil ?_
    refine Rg ?_
    refine Ru 1 rfl ?_
    refine JL.op ai_ rfl ?_
    refine Ru 1 rfl ?_
    refine JL.nil ?_
    refine ⟨_, ?_, _, ?_, ⟨i + 1, rfl, rfl, rfl, rfl, by omega⟩⟩
    ·
     omega
    repeat (first | exact trivial | refine ⟨rfl, ?_⟩ | refine ⟨(by exact some_int (by first | rfl | (rw [Nat.pow_succ]; omega))), ?_⟩)
   have hib : i = byteAt l 0 := (by omega); rw [hib]
   refine J.exit ?_
   refine Kp [1, 5, 7] rfl ?_
   refine J.seq ?_
   refine Sr ?_
   refine Ru 2 rfl ?_
   refine JL.nil ?_
   refine Cs rfl (fun hc30 => ?_) fun hc30 => ?_
   ·
    refine Sr ?_
    refine Ru 3 rfl ?_
    refine Nk [4, 1, 5, 7] rfl ?_
    exact J.retP (RetV.one rfl rfl) z0_ rfl
   refine J.skip ?_
   refine Sr ?_
   refine Ru 2 rfl ?_
   refine JL.op si_ rfl ?_
   refine JL.ope (RunE.index (m := l.length - 1) sl_24 rfl rfl (by omega) hl rfl (by omega)) rfl ?_
   rintro _ ⟨b31, o31, hi31, rfl, hE31⟩
   refine JL.op (RunV.ld_u8 ag_5 rfl (by assumption)) rfl ?_
   refine JL.op z11_ rfl ?_
   refine Ru 1 rfl ?_
   refine JL.op z24_ rfl ?_
   refine Ru 2 rfl ?_
   refine Nk [4] rfl ?_
   exact J.retP (RetV.one rfl rfl) z0_ rfl
  refine Sr ?_
  refine Ru 2 rfl ?_
  refine JL.nil ?_
  refine Cs rfl (fun hc33 => ?_) fun hc33 => ?_
  ·
   refine Sr ?_
   refine Ru 3 rfl ?_
   refine Nk [4] rfl ?_
   exact J.retP (RetV.one rfl rfl) z0_ rfl
  refine Sr ?_
  refine Ru 2 rfl ?_
  refine Nk [96, 18, 4, 1] rfl ?_
  refine Cs rfl (fun hc34 => ?_) fun hc34 => ?_
  ·
   refine Sr ?_
   refine Ru 1 rfl ?_
   refine JL.callP ca_47 rfl (roidtext_fn (by assumption) (by omega)) rfl ?_
   refine Ru 5 rfl ?_
   refine Nk [10, 4] rfl ?_
   refine Sr ?_
   refine Ru 3 rfl ?_
   refine JL.nil ?_
   exact J.retP (RetV.one rfl rfl) z0_ rfl
  refine Sr ?_
  refine Ru 2 rfl ?_
  refine JL.nil ?_
  refine Cs rfl (fun hc36 => ?_) fun hc36 => ?_
  ·
   refine Sr ?_
   refine Ru 1 rfl ?_
   refine JL.op (RunV.strB sb_24_9 rfl (by assumption) rfl) rfl ?_
   refine JL.callP ca_48 rfl (rutf8_fn _ _ (by omega)) rfl ?_
   refine Ru 1 rfl ?_
   refine Nk [4] rfl ?_
   exact J.retP (RetV.one rfl rfl) z0_ rfl
  refine Sr ?_
  refine Ru 2 rfl ?_
  refine Nk [110, 18, 4, 1] rfl ?_
  refine Cs rfl (fun hc38 => ?_) fun hc38 => ?_
  ·
   refine Sr ?_
   refine Ru 1 rfl ?_
   refine JL.op (RunV.strB sb_24_9 rfl (by assumption) rfl) rfl ?_
   refine JL.callP ca_49 rfl (rprint_fn _ _ (by omega)) rfl ?_
   refine Ru 1 rfl ?_
   refine Nk [4] rfl ?_
   exact J.retP (RetV.one rfl rfl) z0_ rfl
  refine Sr ?_
  refine Ru 2 rfl ?_
  refine JL.nil ?_
  refine Cs rfl (fun hc40 => ?_) fun hc40 => ?_
  ·
   refine Sr ?_
   refine Ru 1 rfl ?_
   refine JL.op (RunV.strB sb_24_9 rfl (by assumption) rfl) rfl ?_
   refine JL.callP ca_50 rfl (ria5_fn _ _ (by omega)) rfl ?_
   refine Ru 1 rfl ?_
   refine Nk [4] rfl ?_
   exact J.retP (RetV.one rfl rfl) z0_ rfl
  refine Sr ?_
  refine Ru 2 rfl ?_
  refine Nk [120, 18, 4, 1] rfl ?_
  refine Cs rfl (fun hc42 => ?_) fun hc42 => ?_
  ·
   refine Sr ?_
   refine Ru 1 rfl ?_
   refine JL.op (RunV.strB sb_24_9 rfl (by assumption) rfl) rfl ?_
   refine JL.callP ca_51 rfl (rpshort_fn _ _ (by omega)) rfl ?_
   refine Ru 5 rfl ?_
   refine Nk [12, 4] rfl ?_
   refine Sr ?_
   refine Ru 3 rfl ?_
   refine JL.nil ?_
   exact J.retP (RetV.one rfl rfl) z0_ rfl
  refine Sr ?_
  refine Ru 2 rfl ?_
  refine JL.nil ?_
  refine Cs rfl (fun hc44 => ?_) fun hc44 => ?_
  ·
   refine Sr ?_
   refine Ru 1 rfl ?_
   refine JL.op (RunV.strB sb_24_9 rfl (by assumption) rfl) rfl ?_
   refine JL.callP ca_52 rfl (rplong_fn _ _ (by omega)) rfl ?_
   refine Ru 7 rfl ?_
   refine Nk [15, 4] rfl ?_
   refine Sr ?_
   refine Ru 3 rfl ?_
   refine JL.nil ?_
   exact J.retP (RetV.one rfl rfl) z0_ rfl
  refine J.skip ?_
  refine Kp [4] rfl ?_
  refine Sr ?_
  refine Ru 1 rfl ?_
  refine JL.nil ?_
  exact J.retP (RetV.one rfl rfl) z0_ rfl
theorem below_cmp : ∀ (l r : List UInt8), belowB l r = decide (0 < Go.Lib.compareBytes r l)
  | [], [] => rfl
  | [], _ :: _ => rfl
  | _ :: _, [] => rfl
  | a :: l, b :: r => by
    have ih := below_cmp l r
    show (if a = b then belowB l r else decide (a < b)) = decide (0 < (if b < a then (-1 : Int) else if a < b then 1 else Go.Lib.compareBytes r l))
    by_cases h : a = b
    · subst h
      rw [if_pos rfl, if_neg (by simp [UInt8.lt_iff_toNat_lt]), if_neg (by simp [UInt8.lt_iff_toNat_lt]), ih]
    · rw [if_neg h]
      have hn : a.toNat ≠ b.toNat := fun e => h (UInt8.toNat_inj.1 e)
      by_cases h2 : b < a
      · rw [if_pos h2]
        rw [UInt8.lt_iff_toNat_lt] at h2
        exact decide_eq_decide.2 ⟨fun h3 => by rw [UInt8.lt_iff_toNat_lt] at h3; omega, fun h3 => by omega⟩
      · have h3 : a < b := by rw [UInt8.lt_iff_toNat_lt] at h2 ⊢; omega
        rw [if_neg h2, if_pos h3, decide_eq_true h3]; rfl
theorem put_cons {c t : Int} {bs : List UInt8} {ks : List Nd} (h : mayB c t true = true) (hb : bs.length = 0) : (Nd.mk c t true bs ks).put = (Nd.putL (decide (c = 0) && decide (t = 17)) ks none []).map (fun b => headB c t true b.length ++ b) := by
  have hn : bs = [] := List.eq_nil_of_length_eq_zero hb
  subst hn
  have hok : okN c t true [] ks = true := by unfold okN; rw [h]; simp
  simp only [Nd.put]
  rw [if_pos hok]
theorem put_prim {c t : Int} {bs : List UInt8} {ks : List Nd} (h : mayB c t false = true) (hk : ks.length = 0) : (Nd.mk c t false bs ks).put = if decide (c = 0) && !valB t bs then none else some (headB c t false bs.length ++ bs) := by
  have hn : ks = [] := List.eq_nil_of_length_eq_zero hk
  subst hn
  have hok : okN c t false bs [] = !(decide (c = 0) && !valB t bs) := by unfold okN; rw [h]; simp
  simp only [Nd.put]
  rw [hok]
  cases decide (c = 0) && !valB t bs <;> rfl
theorem put_bad {c t : Int} {k : Bool} {bs : List UInt8} {ks : List Nd} (h : ¬ (mayB c t k = true ∧ (k = true → bs.length = 0) ∧ (k = false → ks.length = 0))) : (Nd.mk c t k bs ks).put = none := by
  simp only [Nd.put]
  rw [if_neg]
  intro hok
  refine h ?_
  unfold okN at hok
  rw [Bool.and_eq_true, Bool.and_eq_true, Bool.and_eq_true] at hok
  obtain ⟨h1, h2, h3, _⟩ := hok
  refine ⟨h1, ?_, ?_⟩
  · rintro rfl
    simp at h2
    exact List.length_eq_zero_iff.2 h2
  · rintro rfl
    simp at h3
    exact List.length_eq_zero_iff.2 h3
theorem may_rng {c t : Int} {k : Bool} (h : mayB c t k = true) : (c = 0 ∨ c = 2) ∧ 0 ≤ t ∧ t ≤ 30 := by
  unfold mayB at h
  simp only [Bool.and_eq_true, Bool.or_eq_true, decide_eq_true_eq] at h
  obtain ⟨h1, h2⟩ := h
  exact ⟨by rcases h2 with h2 | h2; exact .inr h2; exact .inl h2.1, h1⟩
theorem rbytes_fn : ∀ (n : Nat) (x : Nd) (cs : List Value) (h : Part), x.rk ≤ n → NdR h cs x → x.sz ≤ 10000000 →
    FnR Tryd.prog 20 [.agg cs.toArray] h (fun v h' => ∃ a c, v = .tuple #[.slice a (x.put.getD []).length c, .bool x.put.isSome] ∧ SlR u8R 1 h' a c (x.put.getD [])) := by
  intro n
  induction n with
  | zero => intro x cs h hx; cases x; simp [Nd.rk] at hx
  | succ n ih =>
  intro x cs h hx r hsz
  cases x with
  | mk c t k bs ks =>
  obtain ⟨a, ca, b, cb, rfl, ha, hb⟩ := r.inv
  have hl := hb.big
  have hl2 := ha.big
  simp only [Nd.rk] at hx
  simp only [Nd.sz] at hsz
  have hkr : ∀ i (hi : i < ks.length), ks[i].rk ≤ n ∧ ks[i].sz ≤ Nd.szL ks := fun i hi => ⟨by have := Nd.rk_lt (List.getElem_mem hi); omega, Nd.sz_le (List.getElem_mem hi)⟩
  refine Fn.intro Tryd.func20 rfl Tryd.ntmps20 rfl (fun e he => ?_)
  refine J.weak [(0, _)] ⟨rfl, trivial⟩ ?_
  have hh0 := Part.le.refl h
  refine Sr ?_
  refine JL.box rfl rfl rfl (fun b1 => ?_)
  refine Ru 2 rfl ?_
  refine JL.nil ?_
  refine J.seq ?_
  refine J.seq ?_
  refine J.meet [(39, .bool (decide (¬ (mayB c t k = true ∧ (k = true → bs.length = 0) ∧ (k = false → ks.length = 0)))))] [(3, _), (2, _), (1, _)] ⟨rfl, rfl, rfl, trivial⟩ ?_ ?_
  ·
   refine Rg ?_
   refine Ru 1 rfl ?_
   refine JL.op (RunV.own1 ag_3 rfl mm_ rfl) rfl ?_
   refine Ru 1 rfl ?_
   refine JL.op (RunV.own1 ag_3 rfl mm_ rfl) rfl ?_
   refine Ru 1 rfl ?_
   refine JL.op (RunV.own1 ag_4 rfl mm_ rfl) rfl ?_
   refine JL.callP ca_32 rfl (rmay_fn _ _ _ _) rfl ?_
   refine Ru 2 rfl ?_
   refine Bs 19 rfl (fun hc3 => ?_) fun hc3 => ?_
   ·
    refine Ru 20 rfl ?_
    refine JL.nil ?_
    refine ⟨rfl, rfl, ?_⟩
    exact z27_
   refine Ru 1 rfl ?_
   refine JL.opg rfl rfl  (RunV.own1 ag_4 rfl mm_ rfl) rfl ?_
   refine Ru 1 rfl ?_
   refine Bs 22 rfl (fun hc4 => ?_) fun hc4 => ?_
   ·
    refine Ru 1 rfl ?_
    refine JL.opg rfl rfl  (RunV.own1 ag_24 rfl mm_ rfl) rfl ?_
    refine Ru 5 rfl ?_
    refine Bs 29 rfl (fun hc5 => ?_) fun hc5 => ?_
    ·
     refine Ru 10 rfl ?_
     refine JL.nil ?_
     refine ⟨rfl, rfl, ?_⟩
     exact z27_
    refine Ru 1 rfl ?_
    refine JL.opg rfl rfl  (RunV.own1 ag_4 rfl mm_ rfl) rfl ?_
    refine Ru 2 rfl ?_
    refine Bs 33 rfl (fun hc6 => ?_) fun hc6 => ?_
    ·
     refine Ru 1 rfl ?_
     refine JL.opg rfl rfl  (RunV.own1 ag_22 rfl mm_ rfl) rfl ?_
     refine Ru 4 rfl ?_
     refine JL.nil ?_
     refine ⟨rfl, rfl, ?_⟩
     exact z27_
    refine Ru 6 rfl ?_
    refine JL.nil ?_
    refine ⟨rfl, rfl, ?_⟩
    exact z27_
   refine Ru 8 rfl ?_
   refine JL.opg rfl rfl  (RunV.own1 ag_4 rfl mm_ rfl) rfl ?_
   refine Ru 2 rfl ?_
   refine Bs 33 rfl (fun hc7 => ?_) fun hc7 => ?_
   ·
    refine Ru 1 rfl ?_
    refine JL.opg rfl rfl  (RunV.own1 ag_22 rfl mm_ rfl) rfl ?_
    refine Ru 4 rfl ?_
    refine JL.nil ?_
    refine ⟨rfl, rfl, ?_⟩
    exact z27_
   refine Ru 6 rfl ?_
   refine JL.nil ?_
   refine ⟨rfl, rfl, ?_⟩
   exact z27_
  refine Cs rfl (fun hc8 => ?_) fun hc8 => ?_
  ·
   have hz := put_bad hc8
   refine Sr ?_
   refine Ru 2 rfl ?_
   refine JL.nil ?_
   rw [hz]; exact J.retR (RetV.two rfl rfl rfl) ⟨none, 0, rfl, SlR.nil_⟩
  obtain ⟨hm, hkb, hkk⟩ : mayB c t k = true ∧ (k = true → bs.length = 0) ∧ (k = false → ks.length = 0) := (by first | exact hc8 | exact Classical.not_not.1 hc8); have hrg := may_rng hm
  refine J.skip ?_
  refine Sr ?_
  refine Ru 1 rfl ?_
  refine JL.op (RunV.own1 ag_3 rfl mm_ rfl) rfl ?_
  refine JL.op z16_ rfl ?_
  refine Ru 1 rfl ?_
  refine JL.op (RunV.own1 ag_3 rfl mm_ rfl) rfl ?_
  refine JL.op ai_ rfl ?_
  refine Ru 1 rfl ?_
  refine Nk [4, 3, 2, 1] rfl ?_
  refine Sr ?_
  refine Ru 1 rfl ?_
  refine JL.op (RunV.own1 ag_24 rfl mm_ rfl) rfl ?_
  refine Ru 1 rfl ?_
  refine JL.nil ?_
  refine J.seq ?_
  refine Sr ?_
  refine Ru 1 rfl ?_
  refine JL.op (RunV.own1 ag_4 rfl mm_ rfl) rfl ?_
  refine JL.nil ?_
  refine Cs rfl (fun hc9 => ?_) fun hc9 => ?_
  ·
   subst hc9; have hbz := hkb rfl; have hpc := put_cons (bs := bs) (ks := ks) hm hbz
   refine Sr ?_
   refine Ru 1 rfl ?_
   refine JL.op ai_ rfl ?_
   refine Ru 1 rfl ?_
   refine Nk [4, 5, 3, 2, 1] rfl ?_
   refine Sr ?_
   refine Ru 1 rfl ?_
   refine JL.nil ?_
   refine Sr ?_
   refine JL.row_nil 5 1 ?_
   refine Ru 1 rfl ?_
   refine JL.nil ?_
   refine Sr ?_
   refine Ru 1 rfl ?_
   refine JL.nil ?_
   refine J.block ?_
   refine J.loop (fun t_ S_ h_ L_ => ∃ (g : Part) (i : Nat) (inB lb : List UInt8) (ai la : Option Addr) (ci lc : Nat), t_ = ks.length - i ∧ S_ = [(1, .pointer (some ⟨b1, 0, none⟩)), (4, .int .i64 (64 * c + t + 32)), (5, .slice ai inB.length ci), (6, .slice la lb.length lc), (7, .int .i64 i)] ∧ g = h_ ∧ L_ = [.row ai ci 5 1 inB.length (u8s inB), .blk b1 26 [.int .i64 c, .int .i64 t, .bool true, .slice a bs.length ca, .slice b ks.length cb]] ∧ (h.le g ∧ i ≤ ks.length ∧ SlR u8R 1 g la lc lb ∧ inB.length ≤ 8 * Nd.szL (ks.take i) ∧ Nd.putL (decide (c = 0) && decide (t = 17)) ks none [] = Nd.putL (decide (c = 0) && decide (t = 17)) (ks.drop i) (if i = 0 then none else some lb) inB)) ⟨_, _, ?_, ⟨_, 0, [], [], _, _, _, _, rfl, rfl, rfl, rfl, ⟨by assumption, by omega, SlR.nil_, by simp, rfl⟩⟩⟩ ?_
   ·
    exact z5_
   rintro _ _ _ _ ⟨g, i, inB, lb, ai, la, ci, lc, rfl, rfl, rfl, rfl, hhg, hi, hla, hil, hp⟩
   have r := r.mono hhg; have ha := ha.mono hhg; have hb := hb.mono hhg; have hst := Nd.szL_take_le ks i
   refine J.seq ?_
   refine Sr ?_
   refine Ru 2 rfl ?_
   refine JL.op (RunV.own1 ag_22 rfl mm_ rfl) rfl ?_
   refine Ru 2 rfl ?_
   refine JL.nil ?_
   refine Cs rfl (fun hc10 => ?_) fun hc10 => ?_
   ·
    have hi' : i < ks.length := (by omega); have hzt := Nd.szL_take ks i hi'; have hst2 := Nd.szL_take_le ks (i + 1); have hki := hkr i hi'; have hps := Nd.putL_step (decide (c = 0) && decide (t = 17)) ks i (if i = 0 then none else some lb) inB hi'
    refine J.skip ?_
    refine J.seq ?_
    refine J.block ?_
    refine Sr ?_
    refine Ru 1 rfl ?_
    refine JL.op (RunV.own1 ag_22 rfl mm_ rfl) rfl ?_
    refine Ru 1 rfl ?_
    refine JL.ope (RunE.index sl_22 rfl rfl z6_ (by assumption) rfl (by omega)) rfl ?_
    rintro _ ⟨b11, o11, hi11, rfl, hE11⟩
    refine JL.ope (RunE.loadA ag_26 rfl (by assumption)) rfl ?_
    rintro _ ⟨_, rfl, hNd12⟩
    refine JL.callR ca_20 rfl (ih (ks[i]'(by omega)) _ _ hki.1 (by assumption) (by omega)) rfl ?_
    rintro _ h13 hle13 ⟨ka, kc, rfl, hkS⟩
    replace r := r.mono hle13
    replace ha := ha.mono hle13
    replace hb := hb.mono hle13
    replace hhg := hhg.mono hle13
    replace hla := hla.mono hle13
    replace hNd12 := hNd12.mono hle13
    obtain ⟨kp, hkp⟩ : ∃ kp, kp = (ks[i]'(by omega)).put := ⟨_, rfl⟩; rw [← hkp] at hkS hps ⊢; obtain ⟨BB, hBB⟩ : ∃ BB, BB = (!kp.isSome || ((decide (c = 0) && decide (t = 17)) && (decide ((0 : Int) < i) && belowB (kp.getD []) lb))) := ⟨_, rfl⟩
    refine Ru 5 rfl ?_
    refine JL.nil ?_
    refine J.seq ?_
    refine J.seq ?_
    refine J.meet [(88, .bool BB)] [(9, _), (8, _), (67, _), (66, _), (59, _), (65, _), (64, _), (63, _), (62, _), (61, _), (60, _), (56, _), (55, _), (54, _), (53, _), (52, _), (1, _), (4, _), (5, _), (6, _), (7, _)] ⟨rfl, rfl, rfl, rfl, rfl, rfl, rfl, rfl, rfl, rfl, rfl, rfl, rfl, rfl, rfl, rfl, rfl, rfl, rfl, rfl, rfl, trivial⟩ ?_ ?_
    ·
     refine Rg ?_
     refine Ru 3 rfl ?_
     refine Bs 70 rfl (fun hc14 => ?_) fun hc14 => ?_
     ·
      refine Ru 18 rfl ?_
      refine JL.nil ?_
      refine ⟨rfl, rfl, ?_⟩
      exact z33_
     refine Ru 1 rfl ?_
     refine JL.opg rfl rfl  (RunV.own1 ag_3 rfl mm_ rfl) rfl ?_
     refine Ru 2 rfl ?_
     refine Bs 74 rfl (fun hc15 => ?_) fun hc15 => ?_
     ·
      refine Ru 1 rfl ?_
      refine JL.opg rfl rfl  (RunV.own1 ag_3 rfl mm_ rfl) rfl ?_
      refine Ru 3 rfl ?_
      refine Bs 79 rfl (fun hc16 => ?_) fun hc16 => ?_
      ·
       refine Ru 4 rfl ?_
       refine Bs 83 rfl (fun hc17 => ?_) fun hc17 => ?_
       ·
        refine Ru 2 rfl ?_
        refine JL.callPg rfl rfl  ca_21 rfl (below_fn (by assumption) (by assumption)) rfl ?_
        refine Ru 2 rfl ?_
        refine JL.nil ?_
        refine ⟨rfl, rfl, ?_⟩
        exact z33_
       refine Ru 5 rfl ?_
       refine JL.nil ?_
       refine ⟨rfl, rfl, ?_⟩
       exact z33_
      refine Ru 9 rfl ?_
      refine JL.nil ?_
      refine ⟨rfl, rfl, ?_⟩
      exact z33_
     refine Ru 14 rfl ?_
     refine JL.nil ?_
     refine ⟨rfl, rfl, ?_⟩
     exact z33_
    refine Cs rfl (fun hc19 => ?_) fun hc19 => ?_
    ·
     have hz : (Nd.mk c t true bs ks).put = none := (by rw [hpc, hp, hps]; rw [hc19] at hBB; cases kp with
       | none => rfl
       | some kb => show Option.map _ (if _ then _ else _) = _; rw [if_pos (by rw [above_if, ← below_cmp]; simpa using hBB.symm)]; rfl)
     refine Sr ?_
     refine Ru 2 rfl ?_
     refine JL.nil ?_
     rw [hz]; exact J.retR (RetV.two rfl rfl rfl) ⟨none, 0, rfl, SlR.nil_⟩
    rw [hc19] at hBB; obtain ⟨kb, hkb2⟩ : ∃ kb, kp = some kb := (by cases kp with
      | none => simp at hBB
      | some kb => exact ⟨kb, rfl⟩)
    subst hkb2; simp only [Option.getD_some] at hkS ⊢; have hcz : ((decide (c = 0) && decide (t = 17)) && (decide ((0 : Int) < i) && belowB kb lb)) = false := (by rw [Option.isSome_some, Bool.not_true, Bool.false_or] at hBB; exact hBB.symm); have hkl := Nd.put_len _ _ kb (Nat.le_refl _) hkp.symm
    refine J.skip ?_
    refine Sr ?_
    refine Ru 2 rfl ?_
    refine JL.append ap_24 rfl rfl CellsR.of_u8 rfl (by assumption) rfl dl_ z3_ rfl rfl (fun a20 c20 xs20 hC20 hN20 => ?_)
    obtain rfl := hC20.u8
    refine Ru 1 rfl ?_
    refine JL.nil ?_
    refine Rg ?_
    refine Ru 2 rfl ?_
    refine JL.nil ?_
    refine Rg ?_
    refine Ru 1 rfl ?_
    refine JL.op ai_ rfl ?_
    refine Ru 1 rfl ?_
    refine JL.nil ?_
    refine ⟨_, ?_, _, ?_, ⟨_, i + 1, inB ++ kb, kb, _, _, _, _, rfl, rfl, rfl, rfl, ⟨by assumption, by omega, by assumption, by rw [List.length_append, hzt]; omega, by rw [hp, hps]; show (if _ then _ else _) = _; rw [if_neg (by rw [above_if, ← below_cmp, hcz]; decide), if_neg (by omega)]⟩⟩⟩
    ·
     omega
    exact z5_
   refine J.pub (R := u8R) (l := inB) dl_ CellsR.of_u8 rfl (by omega) (fun h9 hle9 hP9 => ?_); replace hhg := hhg.mono hle9; replace r := r.mono hle9; replace hb := hb.mono hle9; replace hla := hla.mono hle9; clear ha; have ha := hP9; obtain ⟨TG, htg, hz⟩ : ∃ TG : Nat, 64 * c + t + 32 = TG ∧ (Nd.mk c t true bs ks).put = some ((UInt8.ofNat TG :: lenB inB.length) ++ inB) := ⟨tagN c t true, by unfold tagN; rw [if_pos rfl]; omega, by rw [hpc, hp, List.drop_of_length_le (by omega)]; rfl⟩; have hinl : inB.length ≤ 100000000 := (by omega)
   refine J.exit ?_
   refine Kp [4, 5] rfl ?_
   refine Sr ?_
   refine Ru 1 rfl ?_
   refine JL.op (RunV.toByte TG cv_3_5 rfl htg) rfl ?_
   refine JL.lit1 ap_24 zr_5 rfl rfl rfl rfl rfl (fun b21 => ?_)
   refine Ru 1 rfl ?_
   refine JL.nil ?_
   refine Sr ?_
   refine Ru 3 rfl ?_
   refine JL.callR ca_34 rfl (length_fn (by omega)) rfl ?_
   rintro _ h22 hle22 ⟨a22, c22, rfl, hS22⟩
   replace r := r.mono hle22
   replace ha := ha.mono hle22
   replace hb := hb.mono hle22
   replace hhg := hhg.mono hle22
   replace hla := hla.mono hle22
   have hlb9 : (lenB inB.length).length ≤ 8 := (by have := headB_len 0 0 false inB.length; unfold headB at this; simp only [List.length_cons] at this; omega)
   refine JL.rowL (l := [UInt8.ofNat TG]) (b := b21) dl_ (by first | rfl | kernel_rfl) (by first | decide | (simp; done)) ?_
   refine JL.append ap_24 rfl rfl CellsR.of_u8 rfl (by assumption) rfl dl_ z3_ rfl rfl (fun a23 c23 xs23 hC23 hN23 => ?_)
   obtain rfl := hC23.u8
   refine Ru 1 rfl ?_
   refine Nk [10, 5] rfl ?_
   refine Sr ?_
   refine Ru 2 rfl ?_
   refine JL.append ap_24 rfl rfl CellsR.of_u8 rfl (by assumption) rfl dl_ z3_ rfl rfl (fun a24 c24 xs24 hC24 hN24 => ?_)
   obtain rfl := hC24.u8
   refine JL.pub (R := u8R) (l := (UInt8.ofNat TG :: lenB inB.length) ++ inB) dl_ CellsR.of_u8 rfl z3_ (fun h25 hle25 hP25 => ?_)
   replace r := r.mono hle25
   replace ha := ha.mono hle25
   replace hb := hb.mono hle25
   replace hhg := hhg.mono hle25
   replace hla := hla.mono hle25
   replace hS22 := hS22.mono hle25
   refine Ru 2 rfl ?_
   refine Nk [3, 2] rfl ?_
   rw [hz]; exact J.retR (RetV.two rfl rfl rfl) ⟨_, _, rfl, by assumption⟩
  subst hc9; have hkz := hkk rfl; have hpp := put_prim (bs := bs) (ks := ks) hm hkz; have hhg := hh0
  refine J.seq ?_
  refine J.meet [(103, .bool (decide (c = 0) && !valB t bs))] [(5, _), (4, _), (3, _), (2, _)] ⟨rfl, rfl, rfl, rfl, trivial⟩ ?_ ?_
  ·
   refine Rg ?_
   refine Ru 1 rfl ?_
   refine JL.op (RunV.own1 ag_3 rfl mm_ rfl) rfl ?_
   refine Ru 2 rfl ?_
   refine Bs 96 rfl (fun hc26 => ?_) fun hc26 => ?_
   ·
    refine Ru 1 rfl ?_
    refine JL.opg rfl rfl  (RunV.own1 ag_3 rfl mm_ rfl) rfl ?_
    refine Ru 1 rfl ?_
    refine JL.opg rfl rfl  (RunV.own1 ag_24 rfl mm_ rfl) rfl ?_
    refine JL.callPg rfl rfl  ca_33 rfl (rvalue_fn (by assumption) (by omega)) rfl ?_
    refine Ru 2 rfl ?_
    refine JL.nil ?_
    refine ⟨rfl, rfl, ?_⟩
    repeat (first | exact trivial | refine ⟨rfl, ?_⟩ | refine ⟨(by exact some_bool (by simp_all)), ?_⟩)
   refine Ru 7 rfl ?_
   refine JL.nil ?_
   refine ⟨rfl, rfl, ?_⟩
   repeat (first | exact trivial | refine ⟨rfl, ?_⟩ | refine ⟨(by exact some_bool (by simp_all)), ?_⟩)
  refine Cs rfl (fun hc28 => ?_) fun hc28 => ?_
  ·
   have hz : (Nd.mk c t false bs ks).put = none := (by rw [hpp, if_pos (by simpa using hc28)])
   refine Sr ?_
   refine Ru 2 rfl ?_
   refine JL.nil ?_
   rw [hz]; exact J.retR (RetV.two rfl rfl rfl) ⟨none, 0, rfl, SlR.nil_⟩
  obtain ⟨inB, hinB⟩ : ∃ inB, inB = bs := ⟨_, rfl⟩; rw [← hinB]; rw [← hinB] at ha; obtain ⟨TG, htg, hz⟩ : ∃ TG : Nat, 64 * c + t = TG ∧ (Nd.mk c t false inB ks).put = some ((UInt8.ofNat TG :: lenB inB.length) ++ inB) := ⟨tagN c t false, by unfold tagN; rw [if_neg (by decide)]; omega, by rw [hinB, hpp, if_neg (by rw [Bool.not_eq_true]; first | exact hc28 | (simpa using hc28) | (cases hv : (decide (c = 0) && !valB t bs); rfl; exfalso; simp_all))]; rfl⟩; have hinl : inB.length ≤ 100000000 := (by rw [hinB]; omega)
  refine J.skip ?_
  refine Sr ?_
  refine Ru 1 rfl ?_
  refine JL.op (RunV.toByte TG cv_3_5 rfl htg) rfl ?_
  refine JL.lit1 ap_24 zr_5 rfl rfl rfl rfl rfl (fun b29 => ?_)
  refine Ru 1 rfl ?_
  refine Nk [10, 5, 3, 2] rfl ?_
  refine Sr ?_
  refine Ru 3 rfl ?_
  refine JL.callR ca_34 rfl (length_fn (by omega)) rfl ?_
  rintro _ h30 hle30 ⟨a30, c30, rfl, hS30⟩
  replace r := r.mono hle30
  replace ha := ha.mono hle30
  replace hb := hb.mono hle30
  have hlb9 : (lenB inB.length).length ≤ 8 := (by have := headB_len 0 0 false inB.length; unfold headB at this; simp only [List.length_cons] at this; omega)
  refine JL.rowL (l := [UInt8.ofNat TG]) (b := b29) dl_ (by first | rfl | kernel_rfl) (by first | decide | (simp; done)) ?_
  refine JL.append ap_24 rfl rfl CellsR.of_u8 rfl (by assumption) rfl dl_ z3_ rfl rfl (fun a31 c31 xs31 hC31 hN31 => ?_)
  obtain rfl := hC31.u8
  refine Ru 1 rfl ?_
  refine Nk [10, 5, 3, 2] rfl ?_
  refine Sr ?_
  refine Ru 2 rfl ?_
  refine JL.append ap_24 rfl rfl CellsR.of_u8 rfl (by assumption) rfl dl_ z3_ rfl rfl (fun a32 c32 xs32 hC32 hN32 => ?_)
  obtain rfl := hC32.u8
  refine JL.pub (R := u8R) (l := (UInt8.ofNat TG :: lenB inB.length) ++ inB) dl_ CellsR.of_u8 rfl z3_ (fun h33 hle33 hP33 => ?_)
  replace r := r.mono hle33
  replace ha := ha.mono hle33
  replace hb := hb.mono hle33
  replace hS30 := hS30.mono hle33
  refine Ru 2 rfl ?_
  refine Nk [3, 2] rfl ?_
  rw [hz]; exact J.retR (RetV.two rfl rfl rfl) ⟨_, _, rfl, by assumption⟩
theorem rbytes_fn' {x : Nd} {cs : List Value} {h : Part} (r : NdR h cs x) (hs : x.sz ≤ 10000000) : FnR Tryd.prog 20 [.agg cs.toArray] h (fun v h' => ∃ a c, v = .tuple #[.slice a (x.put.getD []).length c, .bool x.put.isSome] ∧ SlR u8R 1 h' a c (x.put.getD [])) := rbytes_fn _ x cs h (Nat.le_refl _) r hs
end Go.Proofs.YtldbjnhfkjicjaaDoor
namespace Go.Proofs.YtldbjnhfkjicjaaDoor
open Go Go.RowKit
set_option maxRecDepth 100000
theorem ap_55 : apT Tryd.prog 55 = some (24, 1, 24) := by kernel_rfl
theorem sl_55 : slT Tryd.prog 55 = some (24, 1) := by kernel_rfl
theorem zr_24 : zeroT Tryd.prog 24 = some [.slice none 0 0] := by kernel_rfl
theorem ins_so {L : List (List UInt8 × Nd)} {p : List UInt8 × Nd} {k : Nat} (hs : L.Pairwise (fun p q => olt q p = false)) (hk : k ≤ L.length) (h1 : ∀ j (hj : j < L.length), k ≤ j → olt p L[j] = true) (h2 : ∀ (h0 : 0 < k), olt p (L[k - 1]'(by omega)) = false) : (L.take k ++ p :: L.drop k).Pairwise (fun p q => olt q p = false) := by
  have hp := List.pairwise_iff_getElem.1 hs
  refine List.pairwise_append.2 ⟨hs.sublist (List.take_sublist ..), List.pairwise_cons.2 ⟨fun q hq => ?_, hs.sublist (List.drop_sublist ..)⟩, fun q hq r hr => ?_⟩
  · obtain ⟨j, hj, rfl⟩ := List.getElem_of_mem hq
    simp only [List.length_drop] at hj
    rw [List.getElem_drop]
    exact olt_ord.asy _ _ (h1 (k + j) (by omega) (by omega))
  · obtain ⟨i, hi, rfl⟩ := List.getElem_of_mem hq
    simp only [List.length_take] at hi
    rw [List.getElem_take]
    rcases List.mem_cons.1 hr with rfl | hr
    · have h0 : 0 < k := by omega
      rcases Nat.lt_or_ge i (k - 1) with h | h
      · exact olt_ord.tr _ _ _ (hp i (k - 1) (by omega) (by omega) h) (h2 h0)
      · have : i = k - 1 := by omega
        subst this; exact h2 h0
    · obtain ⟨j, hj, rfl⟩ := List.getElem_of_mem hr
      simp only [List.length_drop] at hj
      rw [List.getElem_drop]; exact hp i (k + j) _ _ (by omega)
theorem ins_perm {α : Type} {L M : List α} {p : α} {k : Nat} (h : L.Perm M) : (L.take k ++ p :: L.drop k).Perm (M ++ [p]) := by
  refine List.perm_middle.trans ?_
  rw [List.take_append_drop]
  exact (h.cons p).trans (List.perm_append_singleton p M).symm
theorem cb_at {x y : List UInt8} {i : Nat} (hx : i < x.length) (hy : i < y.length) : Go.Lib.compareBytes (x.drop i) (y.drop i) = if x[i] < y[i] then -1 else if y[i] < x[i] then 1 else Go.Lib.compareBytes (x.drop (i + 1)) (y.drop (i + 1)) := by
  rw [List.drop_eq_getElem_cons hx, List.drop_eq_getElem_cons hy]; rfl
theorem cb_end (x y : List UInt8) (h : x = [] ∨ y = []) : Go.Lib.compareBytes x y < 0 ↔ x.length < y.length := by
  cases x <;> cases y <;> simp_all [Go.Lib.compareBytes]
def bsR : Rep (List UInt8) := fun h cs l => ∃ a c, cs = [.slice a l.length c] ∧ SlR u8R 1 h a c l
instance : Mono bsR := ⟨fun hle ⟨a, c, e, r⟩ => ⟨a, c, e, r.mono hle⟩, fun ⟨a, c, e, _⟩ u hu => by subst e; simp at hu; subst hu; rfl⟩
theorem rbelow_fn {a b : Option Addr} {c d : Nat} {x y : List UInt8} {h : Part} (hx : SlR u8R 1 h a c x) (hy : SlR u8R 1 h b d y) : Pure Tryd.prog 21 [.slice a x.length c, .slice b y.length d] h (.bool (decide (Go.Lib.compareBytes x y < 0))) := by
  have hxb := hx.big
  have hyb := hy.big
  refine Pure.ofV ?_
  refine Fn.intro Tryd.func21 rfl Tryd.ntmps21 rfl (fun e he => ?_)
  refine J.weak [(0, _), (1, _)] ⟨rfl, rfl, trivial⟩ ?_
  refine Sr ?_
  refine Ru 1 rfl ?_
  refine JL.nil ?_
  refine J.seq ?_
  refine Sr ?_
  refine Ru 1 rfl ?_
  refine JL.nil ?_
  refine J.block ?_
  refine J.loop (fun t_ S_ h_ L_ => ∃ (i : Nat), t_ = x.length + 1 - i ∧ S_ = [(0, .slice a x.length c), (1, .slice b y.length d), (5, .int .i64 i)] ∧ h = h_ ∧ L_ = [] ∧ ((i ≤ x.length ∧ i ≤ y.length) ∧ Go.Lib.compareBytes (x.drop i) (y.drop i) = Go.Lib.compareBytes x y)) ⟨_, _, ?_, ⟨0, rfl, rfl, rfl, rfl, ⟨by omega, rfl⟩⟩⟩ ?_
  ·
   exact z4_
  rintro _ _ _ _ ⟨i, rfl, rfl, rfl, rfl, hi, he⟩
  refine J.seq ?_
  refine Sr ?_
  refine Ru 5 rfl ?_
  refine Bs 10 rfl (fun hc1 => ?_) fun hc1 => ?_
  ·
   refine Ru 5 rfl ?_
   refine JL.nil ?_
   refine Cs rfl (fun hc2 => ?_) fun hc2 => ?_
   ·
    have hix : i < x.length := (by omega); have hiy : i < y.length := (by omega); rw [cb_at hix hiy] at he
    refine J.skip ?_
    refine J.seq ?_
    refine J.block ?_
    refine J.seq ?_
    refine J.drawn mixed_ (by kernel_rfl) ?_
    refine Rq 2 rfl ?_
    refine JQ.ope (RunE.index sl_24 rfl rfl z6_ (by assumption) rfl (by omega)) rfl ?_
    rintro _ ⟨b3, o3, hi3, rfl, hE3⟩
    refine JQ.op (RunV.ld_u8 ag_5 rfl (by assumption)) rfl ?_
    refine Rq 2 rfl ?_
    refine JQ.ope (RunE.index sl_24 rfl rfl z6_ (by assumption) rfl (by omega)) rfl ?_
    rintro _ ⟨b5, o5, hi5, rfl, hE5⟩
    refine JQ.op (RunV.ld_u8 ag_5 rfl (by assumption)) rfl ?_
    refine Rq 1 rfl ?_
    refine JQ.nil ?_
    refine Cs rfl (fun hc7 => ?_) fun hc7 => ?_
    ·
     have hne : x[i].toNat ≠ y[i].toNat := (by omega); have hv : decide (x[i].toNat < y[i].toNat) = decide (Go.Lib.compareBytes x y < 0) := (by rw [← he]; simp only [UInt8.lt_iff_toNat_lt]; split <;> simp_all <;> omega)
     refine J.seq ?_
     refine J.drawn mixed_ (by kernel_rfl) ?_
     refine Rq 2 rfl ?_
     refine JQ.ope (RunE.index sl_24 rfl rfl z6_ (by assumption) rfl (by omega)) rfl ?_
     rintro _ ⟨b8, o8, hi8, rfl, hE8⟩
     refine JQ.op (RunV.ld_u8 ag_5 rfl (by assumption)) rfl ?_
     refine Rq 2 rfl ?_
     refine JQ.ope (RunE.index sl_24 rfl rfl z6_ (by assumption) rfl (by omega)) rfl ?_
     rintro _ ⟨b10, o10, hi10, rfl, hE10⟩
     refine JQ.op (RunV.ld_u8 ag_5 rfl (by assumption)) rfl ?_
     refine Rq 2 rfl ?_
     refine JQ.nil ?_
     exact J.retV (RetV.one rfl rfl) (by first | exact congrArg Value.bool (by rw [← hv]; first | rfl | (simp; done) | (apply decide_eq_decide.2; omega)))
    have he2 : Go.Lib.compareBytes (x.drop (i + 1)) (y.drop (i + 1)) = Go.Lib.compareBytes x y := (by rw [← he]; simp only [UInt8.lt_iff_toNat_lt]; rw [if_neg (by omega), if_neg (by omega)])
    refine J.skip ?_
    refine Rg ?_
    refine Ru 1 rfl ?_
    refine JL.op ai_ rfl ?_
    refine Ru 1 rfl ?_
    refine JL.nil ?_
    refine ⟨_, ?_, _, ?_, ⟨i + 1, rfl, rfl, rfl, rfl, ⟨by omega, he2⟩⟩⟩
    ·
     omega
    exact z4_
   refine J.exit ?_
   refine Kp [0, 1] rfl ?_
   refine Sr ?_
   refine Ru 6 rfl ?_
   refine Nk [4] rfl ?_
   have hend : x.drop i = [] ∨ y.drop i = [] := (by simp only [List.drop_eq_nil_iff]; omega); have hce := cb_end _ _ hend; rw [he] at hce; simp only [List.length_drop] at hce; exact J.retV (RetV.one rfl rfl) (congrArg Value.bool (by apply decide_eq_decide.2; rw [hce]; omega))
  refine Ru 5 rfl ?_
  refine JL.nil ?_
  refine J.cond_f rfl ?_
  refine J.exit ?_
  refine Kp [0, 1] rfl ?_
  refine Sr ?_
  refine Ru 6 rfl ?_
  refine Nk [4] rfl ?_
  have hend : x.drop i = [] ∨ y.drop i = [] := (by simp only [List.drop_eq_nil_iff]; omega); have hce := cb_end _ _ hend; rw [he] at hce; simp only [List.length_drop] at hce; exact J.retV (RetV.one rfl rfl) (congrArg Value.bool (by apply decide_eq_decide.2; rw [hce]; omega))
theorem gt_nx {L : List (List UInt8 × Nd)} {p : List UInt8 × Nd} {k : Nat} (h : ∀ j (hj : j < L.length), k ≤ j → olt p L[j] = true) {hk : k - 1 < L.length} (h1 : olt p (L[k - 1]'hk) = true) : ∀ j (hj : j < L.length), k - 1 ≤ j → olt p L[j] = true := fun j hj hjk => by
  rcases Nat.lt_or_ge j k with h2 | h2
  · have : j = k - 1 := by omega
    subst this; exact h1
  · exact h j hj h2
theorem rset_fn {a : Option Addr} {c : Nat} {ks : List Nd} {h : Part} (hk : SlR NdR 5 h a c ks) (hT : Tabs h) (hlen : ks.length ≤ 1000) (hsz : Nd.szL ks ≤ 1000000) : FnR Tryd.prog 8 [.slice a ks.length c] h (SetR ks) := by
  refine Fn.intro Tryd.func8 rfl Tryd.ntmps8 rfl (fun e he => ?_)
  refine J.weak [(0, _)] ⟨rfl, trivial⟩ ?_
  have hh0 := Part.le.refl h
  refine Sr ?_
  refine JL.alloc zr_26 rfl (fun b1 => ?_)
  refine Ru 1 rfl ?_
  refine JL.nil ?_
  refine Sr ?_
  refine JL.op (RunV.build (cs := [.int .i64 0, _, _, .slice none 0 0, .slice none 0 0]) pl_26 rfl rfl) rfl ?_
  refine JL.alloc zr_26 rfl (fun b2 => ?_)
  refine JL.storeA ag_26 rfl rfl dl_ z20_ z17_ z8_ ?_
  refine JL.nil ?_
  refine Sr ?_
  refine Ru 1 rfl ?_
  refine JL.nil ?_
  refine J.seq ?_
  refine Sr ?_
  refine Ru 1 rfl ?_
  refine JL.nil ?_
  refine J.block ?_
  refine J.loop (fun t_ S_ h_ L_ => ∃ (p : Part) (i : Nat) (aa : Option Addr) (ac : Nat) (ka : Option Addr) (kc : Nat) (l0 L : List (List UInt8 × Nd)) (bl : List (List UInt8)) (nl : List Nd), t_ = ks.length - i ∧ S_ = [(0, .slice a ks.length c), (2, .pointer (some ⟨b1, 0, none⟩)), (4, .pointer (some ⟨b2, 0, none⟩)), (5, .slice aa bl.length ac), (6, .int .i64 i)] ∧ p = h_ ∧ L_ = [.blk b2 26 [.int .i64 0, .int .i64 17, .bool true, .slice none 0 0, .slice ka nl.length kc], .blk b1 26 [.int .i64 0, .int .i64 0, .bool false, .slice none 0 0, .slice none 0 0]] ∧ (h.le p ∧ Tabs p ∧ i ≤ ks.length ∧ SlR bsR 1 p aa ac bl ∧ SlR NdR 5 p ka kc nl ∧ (bl = L.map (·.1) ∧ nl = L.map (·.2)) ∧ Prs l0 (ks.take i) ∧ L.Perm l0 ∧ L.Pairwise (fun p q => olt q p = false))) ⟨_, _, ?_, ⟨_, 0, none, 0, none, 0, [], [], [], [], rfl, rfl, rfl, rfl, ⟨hh0, hT, by omega, SlR.nil_, SlR.nil_, ⟨rfl, rfl⟩, ⟨by simp, fun p hp => by cases hp⟩, List.Perm.refl _, List.Pairwise.nil⟩⟩⟩ ?_
  ·
   exact z5_
  rintro _ _ _ _ ⟨p, i, aa, ac, ka, kc, l0, L, bl, nl, rfl, rfl, rfl, rfl, hh0, hT, hi, hB, hN, hbn, hP, hL, hO⟩
  have hk := hk.mono hh0
  refine J.seq ?_
  refine Sr ?_
  refine Ru 4 rfl ?_
  refine JL.nil ?_
  refine Cs rfl (fun hc3 => ?_) fun hc3 => ?_
  ·
   have hi' : i < ks.length := (by omega); have hz1 : (ks[i]'hi').sz ≤ 1000000 := Nat.le_trans (Nd.sz_le (List.getElem_mem hi')) hsz
   refine J.skip ?_
   refine J.seq ?_
   refine J.block ?_
   refine Sr ?_
   refine Ru 2 rfl ?_
   refine JL.ope (RunE.index sl_22 rfl rfl z6_ (by assumption) rfl (by omega)) rfl ?_
   rintro _ ⟨b4, o4, hi4, rfl, hE4⟩
   refine JL.ope (RunE.loadA ag_26 rfl (by assumption)) rfl ?_
   rintro _ ⟨w, rfl, hNw⟩
   refine JL.callR ca_20 rfl (rbytes_fn' hNw (by omega)) rfl ?_
   rintro _ h6 hle6 ⟨ba, bc, rfl, hbS⟩
   replace hk := hk.mono hle6
   replace hT := hT.mono hle6
   replace hh0 := hh0.mono hle6
   replace hB := hB.mono hle6
   replace hN := hN.mono hle6
   replace hNw := hNw.mono hle6
   refine Ru 5 rfl ?_
   refine JL.nil ?_
   refine J.seq ?_
   refine Sr ?_
   refine Ru 2 rfl ?_
   refine JL.nil ?_
   refine Cs rfl (fun hc7 => ?_) fun hc7 => ?_
   ·
    refine Sr ?_
    refine JL.op (RunV.build (cs := [.int .i64 0, .int .i64 0, .bool false, .slice none 0 0, .slice none 0 0]) pl_26 rfl rfl) rfl ?_
    refine JL.storeA ag_26 rfl rfl dl_ z20_ z17_ z8_ ?_
    refine Ru 1 rfl ?_
    refine JL.nil ?_
    exact J.retR (RetV.cellAT rfl rfl ag_26 mm_ z8_ rfl) (.inl ⟨⟨_, List.getElem_mem _, by simpa using hc7⟩, _, rfl, NdR.of SlR.nil_ SlR.nil_⟩)
   obtain ⟨kb, hkb⟩ := Option.isSome_iff_exists.1 (show ((ks[i]'hi').put).isSome = true by simpa using hc7); have hgd : ((ks[i]'hi').put).getD [] = kb := (by rw [hkb]; rfl); rw [hgd] at hbS ⊢; obtain ⟨hbl, hnl⟩ := hbn; have hbll : bl.length = L.length := (by rw [hbl, List.length_map]); have hnll : nl.length = L.length := (by rw [hnl, List.length_map]); have hLl : L.length = i := (by rw [hL.length_eq, hP.len, List.length_take]; omega)
   refine J.skip ?_
   refine Sr ?_
   refine Ru 3 rfl ?_
   refine JL.nil ?_
   refine J.seq ?_
   refine J.block ?_
   refine J.loop (fun t_ S_ h_ L_ => ∃ (k : Nat), t_ = k + 1 ∧ S_ = [(0, .slice a ks.length c), (2, .pointer (some ⟨b1, 0, none⟩)), (4, .pointer (some ⟨b2, 0, none⟩)), (5, .slice aa bl.length ac), (6, .int .i64 i), (7, .slice ba kb.length bc), (9, .int .i64 k)] ∧ h6 = h_ ∧ L_ = [.blk b2 26 [.int .i64 0, .int .i64 17, .bool true, .slice none 0 0, .slice ka nl.length kc], .blk b1 26 [.int .i64 0, .int .i64 0, .bool false, .slice none 0 0, .slice none 0 0]] ∧ (k ≤ L.length ∧ (∀ j (hj : j < L.length), k ≤ j → olt (kb, ks[i]'hi') L[j] = true))) ⟨_, _, ?_, ⟨L.length, rfl, rfl, rfl, rfl, ⟨Nat.le_refl _, fun j hj h => by omega⟩⟩⟩ ?_
   ·
    exact z4_
   rintro _ _ _ _ ⟨k, rfl, rfl, rfl, rfl, hkl, hgt⟩
   refine J.seq ?_
   refine Sr ?_
   refine Ru 3 rfl ?_
   refine Bs 34 rfl (fun hc8 => ?_) fun hc8 => ?_
   ·
    refine Ru 3 rfl ?_
    refine JL.opg rfl rfl  si_ rfl ?_
    refine JL.opeg rfl rfl  (RunE.index sl_55 rfl rfl z6_ (by assumption) rfl (by omega)) rfl ?_
    rintro _ ⟨b9, o9, hi9, rfl, hE9⟩
    refine JL.opeg rfl rfl  (RunE.load1 ag_24 rfl (by assumption)) rfl ?_
    rintro _ ⟨a9, c9, ⟨⟩, hS9⟩
    refine JL.callPg rfl rfl  ca_21 rfl (rbelow_fn (by assumption) (by assumption)) rfl ?_
    refine Ru 1 rfl ?_
    refine JL.nil ?_
    refine Cs rfl (fun hc12 => ?_) fun hc12 => ?_
    ·
     have hk1 : k - 1 < L.length := (by omega); have hbk : bl[((k : Int) - 1).toNat]'(by omega) = (L[k - 1]'hk1).1 := (by simp only [hbl, List.getElem_map, show ((k : Int) - 1).toNat = k - 1 by omega]); rw [hbk] at hc12; have hlt : olt (kb, ks[i]'hi') (L[k - 1]'hk1) = true := decide_eq_true hc12
     refine J.skip ?_
     refine J.block ?_
     refine Rg ?_
     refine Ru 1 rfl ?_
     refine JL.op si_ rfl ?_
     refine Ru 1 rfl ?_
     refine JL.nil ?_
     refine ⟨_, ?_, _, ?_, ⟨k - 1, rfl, rfl, rfl, rfl, ⟨by omega, gt_nx hgt hlt⟩⟩⟩
     ·
      omega
     exact z4_
    have hk1 : k - 1 < L.length := (by omega); have hbk : bl[((k : Int) - 1).toNat]'(by omega) = (L[k - 1]'hk1).1 := (by simp only [hbl, List.getElem_map, show ((k : Int) - 1).toNat = k - 1 by omega]); rw [hbk] at hc12; have hst : ∀ (h0 : 0 < k), olt (kb, ks[i]'hi') (L[k - 1]'(by omega)) = false := fun h0 => decide_eq_false hc12
    refine J.exit ?_
    refine Sr ?_
    refine Ru 1 rfl ?_
    refine JL.nil ?_
    refine Sr ?_
    have htk : (bl.take k).length ≤ bl.length := List.length_take_le' ..; have hdk : (bl.drop k).length ≤ bl.length := (by simp); have htn : (nl.take k).length ≤ nl.length := List.length_take_le' ..; have hdn : (nl.drop k).length ≤ nl.length := (by simp)
    refine Ru 3 rfl ?_
    refine JL.ope (RunE.cut_h sl_55 rfl rfl z6_ (by assumption) rfl (by omega)) rfl ?_
    rintro _ ⟨a13, c13, rfl, hS13⟩
    refine JL.row_nil 24 1 ?_
    refine JL.append ap_55 rfl rfl CellsR.nil rfl (by assumption) rfl dl_ z3_ rfl rfl (fun a14 c14 xs14 hC14 hN14 => ?_)
    refine Ru 1 rfl ?_
    refine JL.lit1 ap_55 zr_24 rfl rfl rfl rfl rfl (fun b15 => ?_)
    refine JL.append1 ap_55 rfl rfl (by assumption) rfl dl_ dl_ rfl ((⟨_, _, rfl, hbS⟩ : bsR _ _ kb)) z3_ rfl rfl (fun a16 c16 xs16 hC16 hN16 => ?_)
    refine Ru 1 rfl ?_
    refine JL.nil ?_
    refine Sr ?_
    refine Ru 3 rfl ?_
    refine JL.ope (RunE.cut_l sl_55 rfl rfl z6_ (by assumption) rfl (by omega)) rfl ?_
    rintro _ ⟨a17, c17, rfl, hS17⟩
    refine JL.append ap_55 rfl rfl (by assumption) rfl (by assumption) rfl dl_ z3_ rfl rfl (fun a18 c18 xs18 hC18 hN18 => ?_)
    refine JL.pub (R := bsR) (l := [] ++ bl.take k ++ [kb] ++ bl.drop k) dl_ (by assumption) rfl (by assumption) (fun hp hlep hSr => ?_); replace hh0 := hh0.mono hlep; replace hT := hT.mono hlep; replace hk := hk.mono hlep; replace hN := hN.mono hlep
    refine Ru 1 rfl ?_
    refine JL.nil ?_
    refine Sr ?_
    refine Ru 1 rfl ?_
    refine JL.nil ?_
    refine J.seq ?_
    refine J.held ([.blk b2 26 [.int .i64 0, .int .i64 17, .bool true, .slice none 0 0, .slice ka nl.length kc]]) 13 mixed_ rfl (fun h00 => ?_)
    refine Tk 0 rfl (RunV.move rfl) ?_
    refine Tk 1 rfl (by first | exact RunV.fieldAt0 fo_26_4 rfl | exact RunV.fieldAt fo_26_4 rfl) ?_
    refine Tk 2 rfl (RunV.own1 ag_22 rfl mm_ rfl) ?_
    refine Tk 3 rfl (RunV.move rfl) ?_
    refine Te 4 rfl (RunE.cut_h sl_22 rfl rfl z6_ (by assumption) rfl (by omega)) ?_
    rintro _ ⟨a19, c19, rfl, hS19⟩
    refine Tk 6 rfl (RunV.move rfl) ?_
    refine Tk 7 rfl (RunV.move rfl) ?_
    refine Te 8 rfl (RunE.index sl_22 rfl rfl z6_ (by assumption) rfl (by omega)) ?_
    rintro _ ⟨b20, o20, hi20, rfl, hE20⟩
    refine Te 9 rfl (RunE.loadA ag_26 rfl (by assumption)) ?_
    rintro _ ⟨_, rfl, hNd21⟩
    refine JH.all2 5 10 (by kernel_rfl) rfl rfl ?_ ?_
    ·
     unfold One
     refine JL.row_nil 26 5 ?_
     refine JL.append ap_22 rfl rfl CellsR.nil rfl (by assumption) rfl dl_ z3_ rfl rfl (fun a22 c22 xs22 hC22 hN22 => ?_)
     refine JL.nil ⟨(br_ h00), ?_⟩
     refine Ta 10 rfl ?_
     unfold One
     refine JL.litA ap_22 rfl z8_ rfl rfl (fun b23 => ?_)
     refine JL.nil ⟨(br_ h00), ?_⟩
     refine Ta 11 rfl ?_
     unfold One
     refine JL.append1 ap_22 rfl rfl (by assumption) rfl dl_ dl_ z8_ ((by assumption)) z3_ rfl rfl (fun a24 c24 xs24 hC24 hN24 => ?_)
     refine JL.nil ⟨(br_ h00), ?_⟩
     refine Tk 12 rfl (RunV.assign rfl) ?_
     refine JH.done (by kernel_rfl) ?_
     refine Kp [11, 69, 68, 63, 67, 66, 65, 64, 62, 61, 60, 59, 58, 5, 57, 56, 55, 54, 53, 10, 52, 51, 50, 49, 48, 47, 46, 45, 42, 41, 40, 39, 38, 37, 36, 35, 34, 33, 32, 0, 2, 4, 6, 7, 9] rfl ?_
     refine Rg ?_
     refine Ru 2 rfl ?_
     refine JL.op (RunV.own1 ag_22 rfl mm_ rfl) rfl ?_
     refine Ru 1 rfl ?_
     refine JL.ope (RunE.cut_l sl_22 rfl rfl z6_ (by assumption) rfl (by omega)) rfl ?_
     rintro _ ⟨a25, c25, rfl, hS25⟩
     refine JL.append ap_22 rfl rfl (by assumption) rfl (by assumption) rfl dl_ z3_ rfl rfl (fun a26 c26 xs26 hC26 hN26 => ?_)
     refine Ru 1 rfl ?_
     refine JL.store1 ag_22 rfl rfl rfl dl_ z28_ ?_
     refine JL.pub (R := NdR) (l := [] ++ nl.take k ++ [ks[i]'hi'] ++ nl.drop k) dl_ (by assumption) rfl (by assumption) (fun hp2 hlep2 hSr2 => ?_); replace hh0 := hh0.mono hlep2; replace hT := hT.mono hlep2; replace hSr := hSr.mono hlep2
     refine JL.nil ?_
     refine Rg ?_
     skip
     refine Ru 1 rfl ?_
     refine JL.op ai_ rfl ?_
     refine Ru 1 rfl ?_
     refine JL.nil ?_
     refine ⟨_, ?_, _, ?_, ⟨_, i + 1, _, _, _, _, l0 ++ [(kb, ks[i]'hi')], L.take k ++ (kb, ks[i]'hi') :: L.drop k, _, _, rfl, rfl, rfl, rfl, ⟨by assumption, by assumption, by omega, by assumption, by assumption, ⟨by rw [hbl]; simp, by rw [hnl]; simp⟩, by rw [set_add hi']; exact hP.snoc hkb, ins_perm hL, ins_so hO hkl hgt hst⟩⟩⟩
     ·
      omega
     exact z5_
    unfold One
    refine JL.litA ap_22 rfl z8_ rfl rfl (fun b27 => ?_)
    refine JL.nil ⟨(br_ h00), ?_⟩
    refine Ta 5 rfl ?_
    unfold One
    refine JL.row_nil 26 5 ?_
    refine JL.append ap_22 rfl rfl CellsR.nil rfl (by assumption) rfl dl_ z3_ rfl rfl (fun a28 c28 xs28 hC28 hN28 => ?_)
    refine JL.nil ⟨(br_ h00), ?_⟩
    refine Ta 11 rfl ?_
    unfold One
    refine JL.append1 ap_22 rfl rfl (by assumption) rfl dl_ dl_ z8_ ((by assumption)) z3_ rfl rfl (fun a29 c29 xs29 hC29 hN29 => ?_)
    refine JL.nil ⟨(br_ h00), ?_⟩
    refine Tk 12 rfl (RunV.assign rfl) ?_
    refine JH.done (by kernel_rfl) ?_
    refine Kp [11, 69, 63, 68, 67, 66, 65, 64, 62, 61, 60, 59, 58, 5, 57, 56, 55, 54, 53, 10, 52, 51, 50, 49, 48, 47, 46, 45, 42, 41, 40, 39, 38, 37, 36, 35, 34, 33, 32, 0, 2, 4, 6, 7, 9] rfl ?_
    refine Rg ?_
    refine Ru 2 rfl ?_
    refine JL.op (RunV.own1 ag_22 rfl mm_ rfl) rfl ?_
    refine Ru 1 rfl ?_
    refine JL.ope (RunE.cut_l sl_22 rfl rfl z6_ (by assumption) rfl (by omega)) rfl ?_
    rintro _ ⟨a30, c30, rfl, hS30⟩
    refine JL.append ap_22 rfl rfl (by assumption) rfl (by assumption) rfl dl_ z3_ rfl rfl (fun a31 c31 xs31 hC31 hN31 => ?_)
    refine Ru 1 rfl ?_
    refine JL.store1 ag_22 rfl rfl rfl dl_ z28_ ?_
    refine JL.pub (R := NdR) (l := [] ++ nl.take k ++ [ks[i]'hi'] ++ nl.drop k) dl_ (by assumption) rfl (by assumption) (fun hp2 hlep2 hSr2 => ?_); replace hh0 := hh0.mono hlep2; replace hT := hT.mono hlep2; replace hSr := hSr.mono hlep2
    refine JL.nil ?_
    refine Rg ?_
    skip
    refine Ru 1 rfl ?_
    refine JL.op ai_ rfl ?_
    refine Ru 1 rfl ?_
    refine JL.nil ?_
    refine ⟨_, ?_, _, ?_, ⟨_, i + 1, _, _, _, _, l0 ++ [(kb, ks[i]'hi')], L.take k ++ (kb, ks[i]'hi') :: L.drop k, _, _, rfl, rfl, rfl, rfl, ⟨by assumption, by assumption, by omega, by assumption, by assumption, ⟨by rw [hbl]; simp, by rw [hnl]; simp⟩, by rw [set_add hi']; exact hP.snoc hkb, ins_perm hL, ins_so hO hkl hgt hst⟩⟩⟩
    ·
     omega
    exact z5_
   have hst : ∀ (h0 : 0 < k), olt (kb, ks[i]'hi') (L[k - 1]'(by omega)) = false := fun h0 => by omega
   refine Ru 8 rfl ?_
   refine JL.nil ?_
   refine J.cond_f rfl ?_
   refine J.exit ?_
   refine Sr ?_
   refine Ru 1 rfl ?_
   refine JL.nil ?_
   refine Sr ?_
   have htk : (bl.take k).length ≤ bl.length := List.length_take_le' ..; have hdk : (bl.drop k).length ≤ bl.length := (by simp); have htn : (nl.take k).length ≤ nl.length := List.length_take_le' ..; have hdn : (nl.drop k).length ≤ nl.length := (by simp)
   refine Ru 3 rfl ?_
   refine JL.ope (RunE.cut_h sl_55 rfl rfl z6_ (by assumption) rfl (by omega)) rfl ?_
   rintro _ ⟨a32, c32, rfl, hS32⟩
   refine JL.row_nil 24 1 ?_
   refine JL.append ap_55 rfl rfl CellsR.nil rfl (by assumption) rfl dl_ z3_ rfl rfl (fun a33 c33 xs33 hC33 hN33 => ?_)
   refine Ru 1 rfl ?_
   refine JL.lit1 ap_55 zr_24 rfl rfl rfl rfl rfl (fun b34 => ?_)
   refine JL.append1 ap_55 rfl rfl (by assumption) rfl dl_ dl_ rfl ((⟨_, _, rfl, hbS⟩ : bsR _ _ kb)) z3_ rfl rfl (fun a35 c35 xs35 hC35 hN35 => ?_)
   refine Ru 1 rfl ?_
   refine JL.nil ?_
   refine Sr ?_
   refine Ru 3 rfl ?_
   refine JL.ope (RunE.cut_l sl_55 rfl rfl z6_ (by assumption) rfl (by omega)) rfl ?_
   rintro _ ⟨a36, c36, rfl, hS36⟩
   refine JL.append ap_55 rfl rfl (by assumption) rfl (by assumption) rfl dl_ z3_ rfl rfl (fun a37 c37 xs37 hC37 hN37 => ?_)
   refine JL.pub (R := bsR) (l := [] ++ bl.take k ++ [kb] ++ bl.drop k) dl_ (by assumption) rfl (by assumption) (fun hp hlep hSr => ?_); replace hh0 := hh0.mono hlep; replace hT := hT.mono hlep; replace hk := hk.mono hlep; replace hN := hN.mono hlep
   refine Ru 1 rfl ?_
   refine JL.nil ?_
   refine Sr ?_
   refine Ru 1 rfl ?_
   refine JL.nil ?_
   refine J.seq ?_
   refine J.held ([.blk b2 26 [.int .i64 0, .int .i64 17, .bool true, .slice none 0 0, .slice ka nl.length kc]]) 13 mixed_ rfl (fun h00 => ?_)
   refine Tk 0 rfl (RunV.move rfl) ?_
   refine Tk 1 rfl (by first | exact RunV.fieldAt0 fo_26_4 rfl | exact RunV.fieldAt fo_26_4 rfl) ?_
   refine Tk 2 rfl (RunV.own1 ag_22 rfl mm_ rfl) ?_
   refine Tk 3 rfl (RunV.move rfl) ?_
   refine Te 4 rfl (RunE.cut_h sl_22 rfl rfl z6_ (by assumption) rfl (by omega)) ?_
   rintro _ ⟨a38, c38, rfl, hS38⟩
   refine Tk 6 rfl (RunV.move rfl) ?_
   refine Tk 7 rfl (RunV.move rfl) ?_
   refine Te 8 rfl (RunE.index sl_22 rfl rfl z6_ (by assumption) rfl (by omega)) ?_
   rintro _ ⟨b39, o39, hi39, rfl, hE39⟩
   refine Te 9 rfl (RunE.loadA ag_26 rfl (by assumption)) ?_
   rintro _ ⟨_, rfl, hNd40⟩
   refine JH.all2 5 10 (by kernel_rfl) rfl rfl ?_ ?_
   ·
    unfold One
    refine JL.row_nil 26 5 ?_
    refine JL.append ap_22 rfl rfl CellsR.nil rfl (by assumption) rfl dl_ z3_ rfl rfl (fun a41 c41 xs41 hC41 hN41 => ?_)
    refine JL.nil ⟨(br_ h00), ?_⟩
    refine Ta 10 rfl ?_
    unfold One
    refine JL.litA ap_22 rfl z8_ rfl rfl (fun b42 => ?_)
    refine JL.nil ⟨(br_ h00), ?_⟩
    refine Ta 11 rfl ?_
    unfold One
    refine JL.append1 ap_22 rfl rfl (by assumption) rfl dl_ dl_ z8_ ((by assumption)) z3_ rfl rfl (fun a43 c43 xs43 hC43 hN43 => ?_)
    refine JL.nil ⟨(br_ h00), ?_⟩
    refine Tk 12 rfl (RunV.assign rfl) ?_
    refine JH.done (by kernel_rfl) ?_
    refine Rg ?_
    refine Ru 2 rfl ?_
    refine JL.op (RunV.own1 ag_22 rfl mm_ rfl) rfl ?_
    refine Ru 1 rfl ?_
    refine JL.ope (RunE.cut_l sl_22 rfl rfl z6_ (by assumption) rfl (by omega)) rfl ?_
    rintro _ ⟨a44, c44, rfl, hS44⟩
    refine JL.append ap_22 rfl rfl (by assumption) rfl (by assumption) rfl dl_ z3_ rfl rfl (fun a45 c45 xs45 hC45 hN45 => ?_)
    refine Ru 1 rfl ?_
    refine JL.store1 ag_22 rfl rfl rfl dl_ z28_ ?_
    refine JL.pub (R := NdR) (l := [] ++ nl.take k ++ [ks[i]'hi'] ++ nl.drop k) dl_ (by assumption) rfl (by assumption) (fun hp2 hlep2 hSr2 => ?_); replace hh0 := hh0.mono hlep2; replace hT := hT.mono hlep2; replace hSr := hSr.mono hlep2
    refine JL.nil ?_
    refine Rg ?_
    skip
    refine Ru 1 rfl ?_
    refine JL.op ai_ rfl ?_
    refine Ru 1 rfl ?_
    refine JL.nil ?_
    refine ⟨_, ?_, _, ?_, ⟨_, i + 1, _, _, _, _, l0 ++ [(kb, ks[i]'hi')], L.take k ++ (kb, ks[i]'hi') :: L.drop k, _, _, rfl, rfl, rfl, rfl, ⟨by assumption, by assumption, by omega, by assumption, by assumption, ⟨by rw [hbl]; simp, by rw [hnl]; simp⟩, by rw [set_add hi']; exact hP.snoc hkb, ins_perm hL, ins_so hO hkl hgt hst⟩⟩⟩
    ·
     omega
    exact z5_
   unfold One
   refine JL.litA ap_22 rfl z8_ rfl rfl (fun b46 => ?_)
   refine JL.nil ⟨(br_ h00), ?_⟩
   refine Ta 5 rfl ?_
   unfold One
   refine JL.row_nil 26 5 ?_
   refine JL.append ap_22 rfl rfl CellsR.nil rfl (by assumption) rfl dl_ z3_ rfl rfl (fun a47 c47 xs47 hC47 hN47 => ?_)
   refine JL.nil ⟨(br_ h00), ?_⟩
   refine Ta 11 rfl ?_
   unfold One
   refine JL.append1 ap_22 rfl rfl (by assumption) rfl dl_ dl_ z8_ ((by assumption)) z3_ rfl rfl (fun a48 c48 xs48 hC48 hN48 => ?_)
   refine JL.nil ⟨(br_ h00), ?_⟩
   refine Tk 12 rfl (RunV.assign rfl) ?_
   refine JH.done (by kernel_rfl) ?_
   refine Rg ?_
   refine Ru 2 rfl ?_
   refine JL.op (RunV.own1 ag_22 rfl mm_ rfl) rfl ?_
   refine Ru 1 rfl ?_
   refine JL.ope (RunE.cut_l sl_22 rfl rfl z6_ (by assumption) rfl (by omega)) rfl ?_
   rintro _ ⟨a49, c49, rfl, hS49⟩
   refine JL.append ap_22 rfl rfl (by assumption) rfl (by assumption) rfl dl_ z3_ rfl rfl (fun a50 c50 xs50 hC50 hN50 => ?_)
   refine Ru 1 rfl ?_
   refine JL.store1 ag_22 rfl rfl rfl dl_ z28_ ?_
   refine JL.pub (R := NdR) (l := [] ++ nl.take k ++ [ks[i]'hi'] ++ nl.drop k) dl_ (by assumption) rfl (by assumption) (fun hp2 hlep2 hSr2 => ?_); replace hh0 := hh0.mono hlep2; replace hT := hT.mono hlep2; replace hSr := hSr.mono hlep2
   refine JL.nil ?_
   refine Rg ?_
   skip
   refine Ru 1 rfl ?_
   refine JL.op ai_ rfl ?_
   refine Ru 1 rfl ?_
   refine JL.nil ?_
   refine ⟨_, ?_, _, ?_, ⟨_, i + 1, _, _, _, _, l0 ++ [(kb, ks[i]'hi')], L.take k ++ (kb, ks[i]'hi') :: L.drop k, _, _, rfl, rfl, rfl, rfl, ⟨by assumption, by assumption, by omega, by assumption, by assumption, ⟨by rw [hbl]; simp, by rw [hnl]; simp⟩, by rw [set_add hi']; exact hP.snoc hkb, ins_perm hL, ins_so hO hkl hgt hst⟩⟩⟩
   ·
    omega
   exact z5_
  have hie : i = ks.length := (by omega); rw [hie, List.take_length] at hP; obtain ⟨hbl, hnl⟩ := hbn; subst hnl
  refine J.exit ?_
  refine Kp [2, 4] rfl ?_
  refine Sr ?_
  refine JL.op (RunV.ownA ag_26 rfl mm_ z8_) rfl ?_
  refine JL.storeA ag_26 rfl rfl dl_ z20_ z17_ z8_ ?_
  refine Ru 1 rfl ?_
  refine JL.nil ?_
  exact J.retR (RetV.cellAT rfl rfl ag_26 mm_ z8_ rfl) (.inr ⟨_, l0, L, rfl, hP, hL, hO, NdR.of SlR.nil_ hN⟩)
end Go.Proofs.YtldbjnhfkjicjaaDoor
namespace Go.Proofs.YtldbjnhfkjicjaaDoor
open Go Go.RowKit
set_option maxRecDepth 100000
theorem ins0_fn {h : Part} : Pure Tryd.prog 44 [.slice none 0 0, .int .i64 0, .int .i64 0, .func (.func 18) #[] #[]] h (.tuple #[]) := by
  have hx : (0 : Nat) = 0 := rfl
  refine Pure.ofV ?_
  refine Fn.intro Tryd.func44 rfl Tryd.ntmps44 rfl (fun e he => ?_)
  refine J.weak [(0, _), (1, _), (2, _), (3, _)] ⟨rfl, rfl, rfl, rfl, trivial⟩ ?_
  refine Sr ?_
  refine Ru 1 rfl ?_
  refine JL.op ai_ rfl ?_
  refine Ru 1 rfl ?_
  refine JL.nil ?_
  refine J.block ?_
  refine J.loop (fun t_ S_ h_ L_ => ∃ (i : Nat), t_ = 0 - i ∧ S_ = [(0, .slice none 0 0), (1, .int .i64 0), (2, .int .i64 0), (3, .func (.func 18) #[] #[]), (8, .int .i64 1)] ∧ h = h_ ∧ L_ = [] ∧ (True)) ⟨_, _, ?_, ⟨0, rfl, rfl, rfl, rfl, trivial⟩⟩ ?_
  ·
   exact z5_
  rintro _ _ _ _ ⟨i, rfl, rfl, rfl, rfl, -⟩
  refine J.seq ?_
  refine Sr ?_
  refine Ru 3 rfl ?_
  refine JL.nil ?_
  refine Cs rfl (fun hc1 => ?_) fun hc1 => ?_
  ·
   exfalso; omega
  refine J.exit ?_
  exact ⟨_, [], _, (RetV.none_ rfl), .nil, _, rfl, rfl⟩
theorem stable0_fn {h : Part} : Pure Tryd.prog 30 [.slice none 0 0, .int .i64 0, .func (.func 18) #[] #[]] h (.tuple #[]) := by
  refine Pure.ofV ?_
  refine Fn.intro Tryd.func30 rfl Tryd.ntmps30 rfl (fun e he => ?_)
  refine J.weak [(0, _), (1, _), (2, _)] ⟨rfl, rfl, rfl, trivial⟩ ?_
  refine Sr ?_
  refine Ru 1 rfl ?_
  refine JL.nil ?_
  refine Sr ?_
  refine Ru 3 rfl ?_
  refine JL.nil ?_
  refine J.seq ?_
  refine J.block ?_
  refine J.loop (fun t_ S_ h_ L_ => ∃ (i : Nat), t_ = 0 - i ∧ S_ = [(0, .slice none 0 0), (1, .int .i64 0), (2, .func (.func 18) #[] #[]), (6, .int .i64 20), (7, .int .i64 0), (8, .int .i64 20)] ∧ h = h_ ∧ L_ = [] ∧ (True)) ⟨_, _, ?_, ⟨0, rfl, rfl, rfl, rfl, trivial⟩⟩ ?_
  ·
   exact z5_
  rintro _ _ _ _ ⟨i, rfl, rfl, rfl, rfl, -⟩
  refine J.seq ?_
  refine Sr ?_
  refine Ru 3 rfl ?_
  refine JL.nil ?_
  refine Cs rfl (fun hc1 => ?_) fun hc1 => ?_
  ·
   exfalso; omega
  refine J.exit ?_
  refine Sr ?_
  refine Ru 4 rfl ?_
  refine JL.callP ca_44 rfl (ins0_fn) rfl ?_
  refine Nk [0, 1, 2, 6, 7, 8] rfl ?_
  refine J.block ?_
  refine J.loop (fun t_ S_ h_ L_ => ∃ (i : Nat), t_ = 0 - i ∧ S_ = [(0, .slice none 0 0), (1, .int .i64 0), (2, .func (.func 18) #[] #[]), (6, .int .i64 20)] ∧ h = h_ ∧ L_ = [] ∧ (True)) ⟨_, _, ?_, ⟨0, rfl, rfl, rfl, rfl, trivial⟩⟩ ?_
  ·
   exact z5_
  rintro _ _ _ _ ⟨i, rfl, rfl, rfl, rfl, -⟩
  refine J.seq ?_
  refine Sr ?_
  refine Ru 3 rfl ?_
  refine JL.nil ?_
  refine Cs rfl (fun hc3 => ?_) fun hc3 => ?_
  ·
   exfalso; omega
  refine J.exit ?_
  exact ⟨_, [], _, (RetV.none_ rfl), .nil, _, rfl, rfl⟩
theorem ssf0_fn {h : Part} : Pure Tryd.prog 17 [.slice none 0 0, .func (.func 18) #[] #[]] h (.tuple #[]) := by
  refine Pure.ofV ?_
  refine Fn.intro Tryd.func17 rfl Tryd.ntmps17 rfl (fun e he => ?_)
  refine J.weak [(0, _), (1, _)] ⟨rfl, rfl, trivial⟩ ?_
  refine Rg ?_
  refine Ru 4 rfl ?_
  refine JL.callP ca_30 rfl (stable0_fn) rfl ?_
  refine JL.nil ?_
  exact ⟨_, [], _, (RetV.none_ rfl), .nil, _, rfl, rfl⟩
theorem pset0_fn {a : Option Addr} {c : Nat} {h : Part} (hk : SlR NdR 5 h a c ([] : List Nd)) : FnR Tryd.prog 7 [.slice a ([] : List Nd).length c] h (SetR []) := by
  refine Fn.intro Tryd.func7 rfl Tryd.ntmps7 rfl (fun e he => ?_)
  refine J.weak [(0, _)] ⟨rfl, trivial⟩ ?_
  have hh0 := Part.le.refl h
  refine Sr ?_
  refine JL.alloc zr_26 rfl (fun b1 => ?_)
  refine Ru 1 rfl ?_
  refine JL.nil ?_
  refine Sr ?_
  refine Ru 1 rfl ?_
  refine JL.nil ?_
  refine J.seq ?_
  refine Sr ?_
  refine Ru 1 rfl ?_
  refine JL.callR ca_15 rfl (own_fn _ _ _ _ _ (Nat.le_refl _) hk (by decide)) rfl ?_
  rintro _ h2 hle2 ⟨oa, oc, rfl, hO⟩
  replace hk := hk.mono hle2
  replace hh0 := hh0.mono hle2
  refine Ru 2 rfl ?_
  refine JL.nil ?_
  refine J.block ?_
  refine J.loop (fun t_ S_ h_ L_ => ∃ (i : Nat), t_ = 0 - i ∧ S_ = [(2, .pointer (some ⟨b1, 0, none⟩)), (4, .slice none 0 0), (13, .slice oa ([] : List Nd).length oc), (14, .int .i64 0), (15, .int .i64 0)] ∧ h2 = h_ ∧ L_ = [.blk b1 26 [.int .i64 0, .int .i64 0, .bool false, .slice none 0 0, .slice none 0 0]] ∧ (True)) ⟨_, _, ?_, ⟨0, rfl, rfl, rfl, rfl, trivial⟩⟩ ?_
  ·
   exact z5_
  rintro _ _ _ _ ⟨i, rfl, rfl, rfl, rfl, -⟩
  refine Sr ?_
  refine Ru 1 rfl ?_
  refine JL.nil ?_
  refine J.seq ?_
  refine Cs rfl (fun hc3 => ?_) fun hc3 => ?_
  ·
   exfalso; omega
  refine J.exit ?_
  refine Kp [2, 4] rfl ?_
  refine Sr ?_
  refine Ru 1 rfl ?_
  refine JL.callP ca_17 rfl (ssf0_fn) rfl ?_
  refine JL.nil ?_
  refine Sr ?_
  refine JL.op (RunV.build (cs := [.int .i64 0, _, _, .slice none 0 0, .slice none 0 0]) pl_26 rfl rfl) rfl ?_
  refine JL.alloc zr_26 rfl (fun b5 => ?_)
  refine JL.storeA ag_26 rfl rfl dl_ z20_ z17_ z8_ ?_
  refine JL.nil ?_
  refine J.seq ?_
  refine Sr ?_
  refine Ru 3 rfl ?_
  refine JL.nil ?_
  refine J.block ?_
  refine J.loop (fun t_ S_ h_ L_ => ∃ (i : Nat), t_ = 0 - i ∧ S_ = [(2, .pointer (some ⟨b1, 0, none⟩)), (9, .pointer (some ⟨b5, 0, none⟩)), (39, .slice none 0 0), (40, .int .i64 0), (41, .int .i64 0)] ∧ h2 = h_ ∧ L_ = [.blk b5 26 [.int .i64 0, .int .i64 17, .bool true, .slice none 0 0, .slice none 0 0], .blk b1 26 [.int .i64 0, .int .i64 0, .bool false, .slice none 0 0, .slice none 0 0]] ∧ (True)) ⟨_, _, ?_, ⟨0, rfl, rfl, rfl, rfl, trivial⟩⟩ ?_
  ·
   exact z5_
  rintro _ _ _ _ ⟨i, rfl, rfl, rfl, rfl, -⟩
  refine Sr ?_
  refine Ru 1 rfl ?_
  refine JL.nil ?_
  refine J.seq ?_
  refine Cs rfl (fun hc6 => ?_) fun hc6 => ?_
  ·
   exfalso; omega
  refine J.exit ?_
  refine Kp [2, 9] rfl ?_
  refine Sr ?_
  refine JL.op (RunV.ownA ag_26 rfl mm_ z8_) rfl ?_
  refine JL.storeA ag_26 rfl rfl dl_ z20_ z17_ z8_ ?_
  refine Ru 1 rfl ?_
  refine JL.nil ?_
  exact J.retR (RetV.cellAT rfl rfl ag_26 mm_ z8_ rfl) (.inr ⟨_, [], [], rfl, ⟨rfl, fun p hp => by cases hp⟩, List.Perm.refl _, List.Pairwise.nil, NdR.of SlR.nil_ SlR.nil_⟩)
def SetM (ks : List Nd) (m : Nd) (e : Int) : Prop := (setBad ks ∧ m = ndZ ∧ e = 34) ∨ ∃ l0 L, Prs l0 ks ∧ L.Perm l0 ∧ List.Pairwise (fun p q => olt q p = false) L ∧ m = .mk 0 17 true [] (L.map (·.2)) ∧ e = 0
def setV (ks : List Nd) (v : Value) (h' : Part) : Prop := ∃ cs m e, v = .tuple #[.agg (List.toArray cs), .int .i64 e] ∧ NdR h' cs m ∧ SetM ks m e
theorem setR_V {ks : List Nd} {v : Value} {h : Part} (k : SetR ks v h) : setV ks v h := by
  rcases k with ⟨h1, cs, rfl, h2⟩ | ⟨cs, l0, L, rfl, h1, h2, h3, h4⟩
  · exact ⟨cs, _, _, rfl, h2, .inl ⟨h1, rfl, rfl⟩⟩
  · exact ⟨cs, _, _, rfl, h4, .inr ⟨l0, L, h1, h2, h3, rfl, rfl⟩⟩
theorem pset_fn {a : Option Addr} {c : Nat} {ks : List Nd} {h : Part} (hk : SlR NdR 5 h a c ks) (hT : Tabs h) (hlen : ks.length ≤ 1000) (hsz : Nd.szL ks ≤ 1000000) : FnR Tryd.prog 7 [.slice a ks.length c] h (setV ks) := by
  cases ks with
  | nil => exact (pset0_fn hk).mono fun v h' _ r => setR_V r
  | cons x r => exact (pset1_fn hk hT (by simp) hlen hsz).mono fun v h' _ r => setR_V r
theorem rset_fn' {a : Option Addr} {c : Nat} {ks : List Nd} {h : Part} (hk : SlR NdR 5 h a c ks) (hT : Tabs h) (hlen : ks.length ≤ 1000) (hsz : Nd.szL ks ≤ 1000000) : FnR Tryd.prog 8 [.slice a ks.length c] h (setV ks) := (rset_fn hk hT hlen hsz).mono fun v h' _ r => setR_V r
theorem Prs.eq {l : List (List UInt8 × Nd)} {ks : List Nd} (h : Prs l ks) : l = ks.map fun x => (x.put.getD [], x) := by
  rw [← h.1, List.map_map]
  have : ∀ p ∈ l, p = ((fun x : Nd => (x.put.getD [], x)) ∘ fun p : List UInt8 × Nd => p.2) p := fun p hp => by
    have := h.2 p hp
    show p = (p.2.put.getD [], p.2)
    rw [this]; rfl
  exact (List.map_id l).symm.trans (List.map_congr_left this)
theorem setBad.perm {ks ks' : List Nd} (hp : ks.Perm ks') (h : setBad ks) : setBad ks' := by
  obtain ⟨x, hx, h⟩ := h
  exact ⟨x, hp.mem_iff.1 hx, h⟩
theorem Prs.not_bad {l : List (List UInt8 × Nd)} {ks : List Nd} (h : Prs l ks) : ¬ setBad ks := fun ⟨x, hx, hb⟩ => by
  rw [← h.1] at hx
  obtain ⟨p, hp, rfl⟩ := List.mem_map.1 hx
  rw [h.2 p hp] at hb; cases hb
theorem SetM.eq {ks ks' : List Nd} {m m' : Nd} {e e' : Int} (hp : ks.Perm ks') (hz : Nd.szL ks ≤ 1000000) (h : SetM ks m e) (h' : SetM ks' m' e') : m = m' ∧ e = e' := by
  rcases h with ⟨h1, h2, h3⟩ | ⟨l0, L, h1, h2, h3, h4, h5⟩
  · rcases h' with ⟨g1, g2, g3⟩ | ⟨l0', L', g1, g2, g3, g4, g5⟩
    · exact ⟨h2.trans g2.symm, h3.trans g3.symm⟩
    · exact absurd (h1.perm hp) g1.not_bad
  · rcases h' with ⟨g1, g2, g3⟩ | ⟨l0', L', g1, g2, g3, g4, g5⟩
    · exact absurd (g1.perm hp.symm) h1.not_bad
    · have hll : l0'.Perm l0 := by rw [h1.eq, g1.eq]; exact hp.symm.map _
      have hb : ∀ p ∈ l0, p.1.length < 4294967296 := fun p hpm => by
        have h6 := Nd.put_len _ p.2 p.1 (Nat.le_refl _) (h1.2 p hpm)
        have h7 : p.2 ∈ ks := by rw [← h1.1]; exact List.mem_map.2 ⟨p, hpm, rfl⟩
        have h8 := Nd.sz_le h7
        omega
      have := sort_one h1.2 hb h2 (g2.trans hll) h3 g3
      subst this
      exact ⟨h4.trans g4.symm, h5.trans g5.symm⟩
theorem szL_perm {a b : List Nd} (h : a.Perm b) : Nd.szL a = Nd.szL b := by
  induction h with
  | nil => rfl
  | cons x _ ih => simp only [Nd.szL, ih]
  | swap x y l => simp only [Nd.szL]; omega
  | trans _ _ i1 i2 => exact i1.trans i2
theorem SetM.sz {ks : List Nd} {m : Nd} {e : Int} (h : SetM ks m e) : m.sz ≤ 1 + Nd.szL ks := by
  rcases h with ⟨h1, rfl, h3⟩ | ⟨l0, L, h1, h2, h3, rfl, h5⟩
  · simp [ndZ, Nd.sz, Nd.szL]
  · have := szL_perm (h2.map (·.2))
    rw [h1.1] at this
    simp [Nd.sz, this]
def rotN (l : List Nd) (a : Nat) : List Nd := l.drop a ++ l.take a
theorem rotN_perm (l : List Nd) (a : Nat) : (rotN l a).Perm l := by
  have := (List.perm_append_comm (l₁ := l.drop a) (l₂ := l.take a))
  rwa [List.take_append_drop] at this
theorem rotN_len (l : List Nd) (a : Nat) : (rotN l a).length = l.length := (rotN_perm l a).length_eq
theorem rotN_at {l : List Nd} {a i : Nat} (ha : a < l.length) (hi : i < l.length) : (rotN l a)[i]'(by rw [rotN_len]; exact hi) = l[(i + a) % l.length]'(Nat.mod_lt _ (by omega)) := by
  unfold rotN
  rw [List.getElem_append]
  split
  · rename_i h
    simp only [List.length_drop] at h
    rw [List.getElem_drop]
    congr 1
    rw [Nat.mod_eq_of_lt (by omega)]; omega
  · rename_i h
    simp only [List.length_drop] at h
    rw [List.getElem_take]
    congr 1
    simp only [List.length_drop]
    rw [Nat.mod_eq_sub_mod (by omega), Nat.mod_eq_of_lt (by omega)]; omega
end Go.Proofs.YtldbjnhfkjicjaaDoor
namespace Go.Proofs.YtldbjnhfkjicjaaDoor
open Go Go.RowKit
set_option maxRecDepth 100000
theorem ca_10 : callT Tryd.prog 10 = true := by kernel_rfl
theorem ca_12 : callT Tryd.prog 12 = true := by kernel_rfl
theorem ca_5 : callT Tryd.prog 5 = true := by kernel_rfl
theorem ca_7 : callT Tryd.prog 7 = true := by kernel_rfl
theorem ca_8 : callT Tryd.prog 8 = true := by kernel_rfl
theorem amongI_nat (k n : Int) : ∃ a : Nat, amongI k n = a ∧ (1 ≤ n → (a : Int) < n) := by
  by_cases h1 : 1 ≤ n
  · have := amongI_bd k n h1
    exact ⟨(amongI k n).toNat, by omega, fun _ => by omega⟩
  · exact ⟨0, by unfold amongI; rw [if_pos (by omega)]; rfl, fun h => absurd h h1⟩
theorem dsets_fn {a : Option Addr} {c : Nat} {ks : List Nd} {t : Int} {h : Part} (hk : SlR NdR 5 h a c ks) (hz : Nd.szL ks ≤ 1099511627776) (ht0 : -9223372036854775808 ≤ t) (ht1 : t ≤ 9223372036854775807) (hT : Tabs h) : Pure Tryd.prog 3 [.slice a ks.length c, .int .i64 t] h (.bool true) := by
  have hlz := Nd.len_le_szL ks
  have hmz : ∀ i (hi : i < ks.length), ks[i].sz ≤ Nd.szL ks := fun i hi => Nd.sz_le (List.getElem_mem hi)
  refine Pure.ofV ?_
  refine Fn.intro Tryd.func3 rfl Tryd.ntmps3 rfl (fun e he => ?_)
  refine J.weak [(0, _), (1, _)] ⟨rfl, rfl, trivial⟩ ?_
  have hh0 := Part.le.refl h
  refine Sr ?_
  refine Ru 1 rfl ?_
  refine JL.nil ?_
  refine Sr ?_
  refine Ru 1 rfl ?_
  refine JL.nil ?_
  refine J.seq ?_
  refine Sr ?_
  refine Ru 1 rfl ?_
  refine JL.nil ?_
  refine J.block ?_
  refine J.loop (fun t_ S_ h_ L_ => ∃ (i : Nat) (s : Int), t_ = ks.length + 1 - i ∧ S_ = [(0, .slice a ks.length c), (1, .int .i64 t), (5, .int .i64 s), (6, .int .i64 i)] ∧ h = h_ ∧ L_ = [] ∧ (i ≤ ks.length ∧ (0 ≤ s ∧ s ≤ 281474976712657) ∧ (s ≤ 2000 → (Nd.szL (ks.take i) : Int) = s))) ⟨_, _, ?_, ⟨0, 0, rfl, rfl, rfl, rfl, ⟨by omega, by omega, fun _ => by simp [Nd.szL]⟩⟩⟩ ?_
  ·
   exact z4_
  rintro _ _ _ _ ⟨i, s, rfl, rfl, rfl, rfl, hi, hs, hse⟩
  refine J.seq ?_
  refine Sr ?_
  refine Ru 5 rfl ?_
  apply An 23 26 3 [0, 1, 5, 6] rfl rfl
  ·
   intro hb1 hc1
   refine Ru 3 rfl ?_
   exact Ae (am_t hb1 rfl) rfl
  ·
   exact fun hb1 _ => Ru 3 rfl (Ae (am_f hb1 rfl) rfl)
  refine JL.nil ?_
  refine Cs rfl (fun hc2 => ?_) fun hc2 => ?_
  ·
   have hi' : i < ks.length := (by omega); have hzi := hmz i hi'
   refine J.skip ?_
   refine J.seq ?_
   refine J.block ?_
   refine J.seq ?_
   refine Sr ?_
   refine Ru 2 rfl ?_
   refine JL.ope (RunE.index sl_22 rfl rfl z6_ (by assumption) rfl (by omega)) rfl ?_
   rintro _ ⟨b3, o3, hi3, rfl, hE3⟩
   refine JL.ope (RunE.loadA ag_26 rfl (by assumption)) rfl ?_
   rintro _ ⟨w, rfl, hNw⟩
   have hbd := Nd.szM_bd _ ks[i] 2000 (Nat.le_refl _) hNw.okB (by decide)
   refine JL.callP ca_4 rfl (deep_fn' hNw (by omega)) rfl ?_
   refine Ru 1 rfl ?_
   refine JL.nil ?_
   refine Cs rfl (fun hc6 => ?_) fun hc6 => ?_
   ·
    refine Sr ?_
    refine JL.callP ca_5 rfl (kn_fn (by assumption)) rfl ?_
    refine Ru 1 rfl ?_
    refine JL.nil ?_
    first | exact J.retV (RetV.one rfl rfl) rfl | exact J.retV (RetV.one rfl rfl) (by simp [*])
   refine J.skip ?_
   refine Rg ?_
   refine Ru 3 rfl ?_
   refine JL.ope (RunE.index sl_22 rfl rfl z6_ (by assumption) rfl (by omega)) rfl ?_
   rintro _ ⟨b8, o8, hi8, rfl, hE8⟩
   refine JL.ope (RunE.loadA ag_26 rfl (by assumption)) rfl ?_
   rintro _ ⟨w7, rfl, hNw7⟩
   refine JL.callP ca_6 rfl (size_fn' hNw7 (by decide) (by decide)) rfl ?_
   refine JL.op ai_ rfl ?_
   refine Ru 1 rfl ?_
   refine JL.nil ?_
   refine Rg ?_
   refine Ru 1 rfl ?_
   refine JL.op ai_ rfl ?_
   refine Ru 1 rfl ?_
   refine JL.nil ?_
   refine ⟨_, ?_, _, ?_, ⟨i + 1, s + (ks[i]'hi').szM 2000, rfl, rfl, rfl, rfl, ⟨by omega, by omega, fun hle => by have h1 := hse (by omega); have h2 := hbd.2.2.1 (by omega); rw [Nd.szL_take ks i hi']; omega⟩⟩⟩
   ·
    omega
   exact z4_
  refine J.exit ?_
  refine J.seq ?_
  refine Sr ?_
  refine Ru 3 rfl ?_
  apply On 45 49 4 [0, 1] rfl rfl
  rotate_left
  ·
   intro hb11 hc11
   refine Ru 4 rfl ?_
   exact Ae (om_f hb11 rfl) rfl
  rotate_right
  ·
   exact fun hb11 _ => Ru 4 rfl (Ae (om_t hb11 rfl) rfl)
  refine JL.nil ?_
  refine Cs rfl (fun hc12 => ?_) fun hc12 => ?_
  ·
   refine Sr ?_
   refine JL.callP ca_5 rfl (kn_fn (by assumption)) rfl ?_
   refine Ru 1 rfl ?_
   refine JL.nil ?_
   first | exact J.retV (RetV.one rfl rfl) rfl | exact J.retV (RetV.one rfl rfl) (by simp [*])
  have hsl : Nd.szL ks ≤ 2000 ∧ ks.length ≤ 100 := (by have e1 : i = ks.length := (by omega); have := hse (by omega); rw [e1, List.take_length] at this; omega)
  refine J.skip ?_
  refine Sr ?_
  refine Ru 1 rfl ?_
  refine JL.callR ca_7 rfl (pset_fn hk hT (by omega) (by omega)) rfl ?_
  rintro _ h14 hle14 ⟨w1, m1, e1, rfl, hN1, hM1⟩
  replace hk := hk.mono hle14
  replace hT := hT.mono hle14
  replace hh0 := hh0.mono hle14
  refine Ru 3 rfl ?_
  refine JL.alloc zr_26 rfl (fun b15 => ?_)
  refine JL.storeA ag_26 rfl rfl dl_ z20_ z17_ z8_ ?_
  refine Ru 1 rfl ?_
  refine Nk [8, 7, 0, 1] rfl ?_
  refine Sr ?_
  refine Ru 1 rfl ?_
  refine JL.callR ca_8 rfl (rset_fn' hk hT (by omega) (by omega)) rfl ?_
  rintro _ h16 hle16 ⟨w2, m2, e2, rfl, hN2, hM2⟩
  replace hk := hk.mono hle16
  replace hT := hT.mono hle16
  replace hh0 := hh0.mono hle16
  replace hN1 := hN1.mono hle16
  obtain ⟨hm, he12⟩ := hM1.eq (List.Perm.refl _) (by omega) hM2; subst hm he12
  refine Ru 3 rfl ?_
  refine JL.alloc zr_26 rfl (fun b17 => ?_)
  refine JL.storeA ag_26 rfl rfl dl_ z20_ z17_ z8_ ?_
  refine Ru 1 rfl ?_
  refine Nk [10, 9, 8, 7, 0, 1] rfl ?_
  refine J.seq ?_
  refine Sr ?_
  refine JL.op (RunV.ownA ag_26 rfl mm_ z8_) rfl ?_
  refine JL.op (RunV.ownA ag_26 rfl mm_ z8_) rfl ?_
  refine JL.callP ca_9 rfl (same_fn' (by assumption) (by assumption)) rfl ?_
  refine Ru 2 rfl ?_
  apply On 65 69 4 [8, 7, 0, 1] rfl rfl
  rotate_left
  ·
   intro hb19 hc19
   refine Ru 4 rfl ?_
   exact Ae (om_f hb19 rfl) rfl
  rotate_right
  ·
   exact fun hb19 _ => Ru 4 rfl (Ae (om_t hb19 rfl) rfl)
  refine JL.nil ?_
  refine Cs rfl (fun hc20 => ?_) fun hc20 => ?_
  ·
   exfalso; simp [(Nd.beq_iff _ _).2 rfl] at hc20
  refine J.skip ?_
  refine Sr ?_
  refine JL.row_nil 26 5 ?_; refine JL.ents [.row none 0 26 5 0 [], .blk b15 _ _] pt_ ?_
  refine Ru 1 rfl ?_
  obtain ⟨ar, har, harl'⟩ := amongI_nat t ks.length; have harl : 0 < ks.length → ar < ks.length := fun h1 => by have := harl' (by omega); omega
  refine JL.nil ?_
  refine J.seq ?_
  refine Sr ?_
  refine Ru 1 rfl ?_
  refine JL.nil ?_
  refine J.block ?_
  refine J.loop (fun t_ S_ h_ L_ => ∃ (i : Nat) (oa : Option Addr) (oc : Nat) (ys : List Value), t_ = ks.length - i ∧ S_ = [(0, .slice a ks.length c), (1, .int .i64 t), (7, .pointer (some ⟨b15, 0, none⟩)), (8, .int .i64 e1), (11, .slice oa ((rotN ks ar).take i).length oc), (12, .int .i64 i)] ∧ h16 = h_ ∧ L_ = [.row oa oc 26 5 ((rotN ks ar).take i).length ys, .blk b15 26 w1] ∧ (i ≤ ks.length ∧ CellsR NdR 5 h16 ys ((rotN ks ar).take i))) ⟨_, _, ?_, ⟨0, none, 0, [], rfl, rfl, rfl, rfl, ⟨by omega, CellsR.nil⟩⟩⟩ ?_
  ·
   exact z4_
  rintro _ _ _ _ ⟨i, oa, oc, ys, rfl, rfl, rfl, rfl, hi, hC⟩
  refine J.seq ?_
  refine Sr ?_
  refine Ru 4 rfl ?_
  refine JL.nil ?_
  refine Cs rfl (fun hc21 => ?_) fun hc21 => ?_
  ·
   have hi' : i < ks.length := (by omega); have hmd : (i + ar) % ks.length < ks.length := Nat.mod_lt _ (by omega); have hrl := rotN_len ks ar; have hrt : (rotN ks ar).take i ++ [ks[(i + ar) % ks.length]'hmd] = (rotN ks ar).take (i + 1) := (by rw [List.take_succ_eq_append_getElem (by omega), rotN_at (harl (by omega)) hi']); have htl : ((rotN ks ar).take i).length ≤ ks.length := (by rw [List.length_take]; omega)
   refine J.skip ?_
   refine J.seq ?_
   refine J.block ?_
   refine Rg ?_
   refine Ru 6 rfl ?_
   refine JL.callP ca_10 rfl (among_fn _ _ _ (by omega) (by omega) (by omega)) rfl ?_
   rw [har]
   refine JL.op ai_ rfl ?_
   refine Ru 2 rfl ?_
   refine JL.op (RunV.rem_i64 rfl rfl (by omega) (by omega)) rfl ?_
   refine JL.ope (RunE.index (m := (i + ar) % ks.length) sl_22 rfl rfl (by simp) (by assumption) rfl hmd) rfl ?_
   rintro _ ⟨b23, o23, hi23, rfl, hE23⟩
   refine JL.ope (RunE.loadA ag_26 rfl (by assumption)) rfl ?_
   rintro _ ⟨w3, rfl, hNw3⟩
   refine JL.litA ap_22 rfl z8_ rfl rfl (fun b25 => ?_)
   refine JL.append1 ap_22 rfl rfl (by assumption) rfl dl_ dl_ z8_ (hNw3) z3_ rfl rfl (fun a26 c26 xs26 hC26 hN26 => ?_)
   rw [hrt] at *
   refine Ru 1 rfl ?_
   refine JL.nil ?_
   refine Rg ?_
   refine Ru 1 rfl ?_
   refine JL.op ai_ rfl ?_
   refine Ru 1 rfl ?_
   refine JL.nil ?_
   refine ⟨_, ?_, _, ?_, ⟨i + 1, _, _, _, rfl, rfl, rfl, rfl, ⟨by omega, by assumption⟩⟩⟩
   ·
    omega
   exact z4_
  have hie : (rotN ks ar).take i = rotN ks ar := List.take_of_length_le (by rw [rotN_len]; omega); rw [hie] at hC ⊢
  refine J.exit ?_
  refine Kp [7, 8, 11] rfl ?_
  refine Sr ?_
  refine JL.pub (R := NdR) (l := rotN ks ar) dl_ hC rfl (by rw [rotN_len]; omega) (fun h20 hle20 hS20 => ?_); replace hk := hk.mono hle20; replace hT := hT.mono hle20; replace hN1 := hN1.mono hle20
  refine Ru 1 rfl ?_
  refine JL.callR ca_7 rfl (pset_fn hS20 hT (by rw [rotN_len]; omega) (by rw [szL_perm (rotN_perm ks ar)]; omega)) rfl ?_
  rintro _ h27 hle27 ⟨w3, m3, e3, rfl, hN3, hM3⟩
  replace hk := hk.mono hle27
  replace hT := hT.mono hle27
  replace hN1 := hN1.mono hle27
  obtain ⟨hm, he12⟩ := hM1.eq (rotN_perm ks ar).symm (by omega) hM3; subst hm he12; have hmz1 := hM1.sz
  refine Ru 3 rfl ?_
  refine JL.alloc zr_26 rfl (fun b28 => ?_)
  refine JL.storeA ag_26 rfl rfl dl_ z20_ z17_ z8_ ?_
  refine Ru 1 rfl ?_
  refine Nk [14, 13, 7, 8] rfl ?_
  refine J.seq ?_
  refine Sr ?_
  refine Ru 2 rfl ?_
  refine JL.nil ?_
  refine Cs rfl (fun hc29 => ?_) fun hc29 => ?_
  ·
   refine Sr ?_
   refine Ru 4 rfl ?_
   apply An 101 103 2 [14, 13, 7] rfl rfl
   ·
    intro hb30 hc30
    refine JL.callPg rfl rfl  ca_5 rfl (kn_fn (by assumption)) rfl ?_
    refine Ru 1 rfl ?_
    exact Ae (am_t hb30 rfl) rfl
   ·
    exact fun hb30 _ => Ru 2 rfl (Ae (am_f hb30 rfl) rfl)
   refine Ru 1 rfl ?_
   refine JL.nil ?_
   first | exact J.retV (RetV.one rfl rfl) rfl | exact J.retV (RetV.one rfl rfl) (by simp [*])
  refine J.skip ?_
  refine Sr ?_
  refine JL.op (RunV.ownA ag_26 rfl mm_ z8_) rfl ?_
  refine JL.callR ca_11 rfl (write_fn hN1 hT (by omega)) rfl ?_
  rintro _ h32 hle32 ⟨a22, c22, rfl, hS22⟩
  replace hk := hk.mono hle32
  replace hT := hT.mono hle32
  replace hN1 := hN1.mono hle32
  replace hN3 := hN3.mono hle32
  refine Ru 5 rfl ?_
  refine Nk [16, 15, 14, 13] rfl ?_
  refine Sr ?_
  refine JL.op (RunV.ownA ag_26 rfl mm_ z8_) rfl ?_
  refine JL.callR ca_11 rfl (write_fn hN3 hT (by omega)) rfl ?_
  rintro _ h33 hle33 ⟨a23, c23, rfl, hS23⟩
  replace hk := hk.mono hle33
  replace hT := hT.mono hle33
  replace hN1 := hN1.mono hle33
  replace hN3 := hN3.mono hle33
  replace hS22 := hS22.mono hle33
  refine Ru 5 rfl ?_
  refine Nk [18, 17, 16, 15, 14] rfl ?_
  refine Sr ?_
  refine Ru 3 rfl ?_
  apply An 116 120 4 [17, 15] rfl rfl
  ·
   intro hb34 hc34
   refine Ru 4 rfl ?_
   exact Ae (am_t hb34 rfl) rfl
  ·
   exact fun hb34 _ => Ru 4 rfl (Ae (am_f hb34 rfl) rfl)
  refine Ru 1 rfl ?_
  apply An 121 125 4 [] rfl rfl
  ·
   intro hb35 hc35
   refine Ru 2 rfl ?_
   refine JL.callPg rfl rfl  ca_12 rfl (samebytes_fn (by assumption) (by assumption)) rfl ?_
   refine Ru 1 rfl ?_
   exact Ae (am_t hb35 rfl) rfl
  ·
   exact fun hb35 _ => Ru 4 rfl (Ae (am_f hb35 rfl) rfl)
  refine Ru 1 rfl ?_
  apply An 126 128 2 [] rfl rfl
  ·
   intro hb37 hc37
   refine JL.callPg rfl rfl  ca_5 rfl (kn_fn (by assumption)) rfl ?_
   refine Ru 1 rfl ?_
   exact Ae (am_t hb37 rfl) rfl
  ·
   exact fun hb37 _ => Ru 2 rfl (Ae (am_f hb37 rfl) rfl)
  refine Ru 1 rfl ?_
  refine JL.nil ?_
  first | exact J.retV (RetV.one rfl rfl) rfl | exact J.retV (RetV.one rfl rfl) (by simp [*])
end Go.Proofs.YtldbjnhfkjicjaaDoor
