/- Walks: the reference's lengths; the law DerLengths. -/
import Derived.Test.YtmngjbefnloljaaDoorDerK
import Derived.Test.YtmngjbefnloljaaDoorDerL3
import Derived.Test.YtmngjbefnloljaaDoorSha
import Derived.Test.YtmngjbefnloljaaDoorMk
set_option linter.unusedSimpArgs false
set_option linter.unusedVariables false
set_option linter.constructorNameAsVariable false
namespace Go.Proofs.YtmngjbefnloljaaDoor
open Go Go.RowKit
set_option maxRecDepth 100000

theorem ofNat_mod (n : Nat) : UInt8.ofNat (n % 256) = UInt8.ofNat n := by
  apply UInt8.toNat_inj.1
  simp
theorem nby_gt0 (n j : Nat) (hn : n ≤ 140737488355328) (h0 : 128 ≤ n) (h2 : j ≤ nby n) : 0 < n / 256 ^ j ↔ j < nby n := by
  cases j with
  | zero => have := nby_bd n; simp; omega
  | succ j => exact nby_gt n (j + 1) hn (by omega) h2
theorem length_fn {n : Nat} {h : Part} (hn : n ≤ 140737488355328) : FnR Tryd.prog 66 [.int .i64 n] h (fun v h' => ∃ a c, v = .slice a (lenB n).length c ∧ SlR u8R 1 h' a c (lenB n)) := by
  have hk := nby_bd n
  refine Fn.intro Tryd.func66 rfl Tryd.ntmps66 rfl (fun e he => ?_)
  refine J.weak [(0, _)] ⟨rfl, trivial⟩ ?_
  have hh0 := Part.le.refl h
  refine Sr ?_
  refine Ru 1 rfl ?_
  refine JL.nil ?_
  refine J.seq ?_
  refine Sr ?_
  refine Ru 2 rfl ?_
  refine JL.nil ?_
  refine Cs rfl (fun hc1 => ?_) fun hc1 => ?_
  ·
   have hlb1 : lenB n = [UInt8.ofNat n] := if_pos (by omega)
   refine Sr ?_
   refine Ru 1 rfl ?_
   refine JL.op (RunV.toByte n cv_3_5 rfl rfl) rfl ?_
   refine JL.lit1 ap_22 zr_5 rfl rfl rfl rfl rfl (fun b2 => ?_)
   refine JL.pubB (R := u8R) (sz := 1) (l := [UInt8.ofNat n]) (by repeat (first | exact Del.here | apply Del.there)) (cells_lit (by first | kernel_rfl | rfl)) (by first | decide | omega | (simp; done)) (fun h3 hle3 hQ => ?_)
   replace hh0 := hh0.mono hle3
   refine Ru 1 rfl ?_
   refine Nk [2, 0] rfl ?_
   rw [hlb1]; exact J.retR (RetV.one rfl rfl) ⟨some ⟨b2, 0, none⟩, 1, rfl, hQ⟩
  ·
   refine J.skip ?_
   refine Sr ?_
   refine Ru 1 rfl ?_
   refine JL.nil ?_
   refine J.seq ?_
   refine J.block ?_
   refine J.loop (fun t_ S_ h_ L_ => ∃ (g : Part) (j : Nat) (la : Option Addr) (lc : Nat), t_ = 7 - j ∧ S_ = [(0, .int .i64 (n / 256 ^ j : Nat)), (3, .slice la (be j n).length lc)] ∧ g = h_ ∧ L_ = [] ∧ (h.le g ∧ j ≤ nby n ∧ SlR u8R 1 g la lc (be j n))) ⟨_, _, ?_, ⟨_, 0, none, 0, rfl, rfl, rfl, rfl, ⟨by assumption, by omega, SlR.nil_⟩⟩⟩ ?_
   ·
    repeat (first | exact trivial | refine ⟨rfl, ?_⟩ | refine ⟨(by exact some_int (by first | (simp; done) | (rw [Nat.pow_succ, ← Nat.div_div_eq_div_mul]; omega))), ?_⟩)
   rintro _ _ _ _ ⟨g, j, la, lc, rfl, rfl, rfl, rfl, hhg, hj, hL⟩
   have hgt := nby_gt0 n j hn (by omega) hj; have hlb := be_len j n; have hlb3 := be_len (j + 1) n; have hle := Nat.div_le_self n (256 ^ j)
   refine J.seq ?_
   refine Sr ?_
   refine Ru 2 rfl ?_
   refine JL.nil ?_
   refine Cs rfl (fun hc4 => ?_) fun hc4 => ?_
   ·
    refine J.skip ?_
    refine J.block ?_
    refine Sr ?_
    refine Ru 1 rfl ?_
    refine JL.nil ?_
    refine Sr ?_
    refine Ru 2 rfl ?_
    refine JL.op (by first | exact RunV.rem_i64 rfl rfl (by omega) (by omega) | exact RunV.rem rfl rfl (by omega)) rfl ?_
    refine JL.op (RunV.toByte (n / 256 ^ j % 256) cv_3_5 rfl (by omega)) rfl ?_
    rw [ofNat_mod]
    refine JL.lit1 ap_22 zr_5 rfl rfl rfl rfl rfl (fun b5 => ?_)
    refine JL.row_nil 5 1 ?_
    refine JL.append1 ap_22 rfl rfl (CellsR.nil (R := u8R)) rfl (by repeat (first | exact Del.here | apply Del.there)) (by repeat (first | exact Del.here | apply Del.there)) rfl (rfl) (by first | omega | (simp only [List.length_append, List.length_cons, List.length_nil]; omega)) rfl rfl (fun a6 c6 xs6 hC6 hN6 => ?_)
    obtain rfl := hC6.u8
    refine Ru 1 rfl ?_
    refine JL.nil ?_
    refine Sr ?_
    refine Ru 2 rfl ?_
    refine JL.append ap_22 rfl rfl CellsR.of_u8 rfl (by assumption) rfl (by repeat (first | exact Del.here | apply Del.there)) (by first | omega | (simp only [List.length_append, List.length_cons, List.length_nil]; omega)) rfl rfl (fun a7 c7 xs7 hC7 hN7 => ?_)
    obtain rfl := hC7.u8
    refine JL.pub (R := u8R) (l := be (j + 1) n) (by repeat (first | exact Del.here | apply Del.there)) CellsR.of_u8 rfl (by first | omega | (simp only [List.length_append, List.length_cons, List.length_nil]; omega)) (fun h8 hle8 hP8 => ?_)
    replace hhg := hhg.mono hle8
    replace hL := hL.mono hle8
    refine Ru 1 rfl ?_
    refine JL.nil ?_
    refine Rg ?_
    refine Ru 1 rfl ?_
    refine JL.op (by first | exact RunV.quo_i64 rfl rfl (by omega) (by omega) (by omega) | exact RunV.quo rfl rfl (by omega)) rfl ?_
    refine Ru 1 rfl ?_
    refine JL.nil ?_
    refine ⟨_, ?_, _, ?_, ⟨_, j + 1, _, _, rfl, rfl, rfl, rfl, ⟨by assumption, by omega, by assumption⟩⟩⟩
    ·
     omega
    ·
     repeat (first | exact trivial | refine ⟨rfl, ?_⟩ | refine ⟨(by exact some_int (by first | (simp; done) | (rw [Nat.pow_succ, ← Nat.div_div_eq_div_mul]; omega))), ?_⟩)
   ·
    have hjn : j = nby n := (by omega); subst hjn; have hlb1 : lenB n = UInt8.ofNat (128 + nby n) :: be (nby n) n := if_neg (by omega)
    refine J.exit ?_
    refine Sr ?_
    refine Ru 2 rfl ?_
    refine JL.op (by first | exact RunV.add_i64 rfl rfl (by omega) (by omega) | exact RunV.add rfl rfl) rfl ?_
    refine JL.op (RunV.toByte (128 + nby n) cv_3_5 rfl (by rw [hlb]; omega)) rfl ?_
    refine JL.lit1 ap_22 zr_5 rfl rfl rfl rfl rfl (fun b9 => ?_)
    refine Ru 1 rfl ?_
    refine Nk [5, 3] rfl ?_
    refine Sr ?_
    refine Ru 2 rfl ?_
    refine JL.rowB (b := b9) (by repeat (first | exact Del.here | apply Del.there)) ?_
    refine JL.append ap_22 rfl rfl CellsR.of_u8 rfl (by assumption) rfl (by repeat (first | exact Del.here | apply Del.there)) (by first | omega | (simp only [List.length_append, List.length_cons, List.length_nil]; omega)) rfl rfl (fun a10 c10 xs10 hC10 hN10 => ?_)
    obtain rfl := hC10.u8
    refine JL.pub (R := u8R) (l := UInt8.ofNat (128 + nby n) :: be (nby n) n) (by repeat (first | exact Del.here | apply Del.there)) CellsR.of_u8 rfl (by first | omega | (simp only [List.length_append, List.length_cons, List.length_nil]; omega)) (fun h11 hle11 hP11 => ?_)
    replace hhg := hhg.mono hle11
    replace hL := hL.mono hle11
    refine Ru 1 rfl ?_
    refine Nk [2] rfl ?_
    rw [hlb1]; exact J.retR (RetV.one rfl rfl) ⟨_, _, rfl, by assumption⟩



end Go.Proofs.YtmngjbefnloljaaDoor
