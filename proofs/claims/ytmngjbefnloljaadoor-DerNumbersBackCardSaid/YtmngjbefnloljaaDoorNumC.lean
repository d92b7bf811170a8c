/- Walks: the reference's numbers: digits, bits, bytes. -/
import Derived.Test.YtmngjbefnloljaaDoorNumB
set_option linter.unusedSimpArgs false
set_option linter.unusedVariables false
set_option linter.constructorNameAsVariable false
namespace Go.Proofs.YtmngjbefnloljaaDoor
open Go Go.RowKit
set_option maxRecDepth 100000
theorem ag_100 : aggT Tryd.prog 100 = some none := by kernel_rfl
theorem ap_75 : apT Tryd.prog 75 = some (100, 1, 8) := by kernel_rfl
theorem ca_70 : callT Tryd.prog 70 = true := by kernel_rfl
theorem cv_69_100 : convI Tryd.prog 69 100 = some .u64 := by kernel_rfl
theorem sl_75 : slT Tryd.prog 75 = some (100, 1) := by kernel_rfl
theorem zr_100 : zeroT Tryd.prog 100 = some [.int .u64 0] := by kernel_rfl

def cutZ (l : List UInt64) : List UInt64 := l.take (tsz (d64 l) l.length)
def m64 (x : UInt32) : UInt64 := UInt64.ofNat x.toNat
theorem m64_nat (x : UInt32) : (m64 x).toNat = x.toNat := by
  have := UInt32.toNat_lt x
  unfold m64; rw [UInt64.toNat_ofNat']; omega
theorem d64_map (l : List UInt32) (i : Nat) : d64 (l.map m64) i = d32 l i := by
  unfold d64 d32
  by_cases h : i < l.length
  · simp [h, m64_nat]
  · simp [h]
theorem tsz_congr {f g : Nat → Nat} (h : ∀ i, f i = g i) (n : Nat) : tsz f n = tsz g n := by rw [show f = g from funext h]
theorem d64_take (l : List UInt64) (k i : Nat) (h : ∀ i, k ≤ i → i < l.length → d64 l i = 0) : d64 (l.take k) i = d64 l i := by
  by_cases hi : i < k
  · unfold d64; simp [List.getElem?_take, hi]
  · by_cases hl : i < l.length
    · rw [h i (by omega) hl, d64_out _ _ (by rw [List.length_take]; omega)]
    · rw [d64_out l _ (by omega), d64_out _ _ (by rw [List.length_take]; omega)]
def digsB (l : List UInt32) : List UInt64 := cutZ (l.map m64)
theorem digsB_len (l : List UInt32) : (digsB l).length = tsz (d32 l) l.length := by
  unfold digsB cutZ
  have := tsz_le (d64 (l.map m64)) (l.map m64).length
  rw [List.length_take, Nat.min_eq_left this, tsz_congr (d64_map l), List.length_map]
theorem digsB_at (l : List UInt32) (i : Nat) : d64 (digsB l) i = d32 l i := by
  unfold digsB cutZ
  rw [d64_take _ _ _ (fun i h1 h2 => tsz_zero _ _ i h1 h2), d64_map]
theorem cut_fn {a : Option Addr} {c : Nat} {l : List UInt64} {h : Part} (hl : SlR u64R 1 h a c l) : FnR Tryd.prog 70 [.slice a l.length c] h (fun v h' => ∃ a' c', v = .slice a' (cutZ l).length c' ∧ SlR u64R 1 h' a' c' (cutZ l)) := by
  have hll := hl.big
  have hh0 := Part.le.refl h
  refine Fn.intro Tryd.func70 rfl Tryd.ntmps70 rfl (fun e he => ?_)
  refine J.weak [(0, _)] ⟨rfl, trivial⟩ ?_
  refine Sr ?_
  refine Ru 1 rfl ?_
  refine JL.nil ?_
  refine Sr ?_
  refine Ru 3 rfl ?_
  refine JL.nil ?_
  refine J.seq ?_
  refine J.block ?_
  refine J.loop (fun t_ S_ h_ L_ => ∃ (n : Nat), t_ = n + 1 ∧ S_ = [(0, .slice a l.length c), (3, .int .i64 n)] ∧ h = h_ ∧ L_ = [] ∧ (n ≤ l.length ∧ tsz (d64 l) l.length = tsz (d64 l) n)) ⟨_, _, ?_, ⟨l.length, rfl, rfl, rfl, rfl, ⟨Nat.le_refl _, rfl⟩⟩⟩ ?_
  ·
   repeat (first | exact trivial | refine ⟨rfl, ?_⟩ | refine ⟨(by exact some_int (by omega)), ?_⟩)
  rintro _ _ _ _ ⟨n, rfl, rfl, rfl, rfl, hn, he⟩
  refine J.seq ?_
  refine J.seq ?_
  refine J.meet [(15, .bool (decide (0 < n ∧ d64 l (n - 1) = 0)))] [(0, _), (3, _)] ⟨rfl, rfl, trivial⟩ ?_ ?_
  ·
   refine Rg ?_
   refine Ru 3 rfl ?_
   refine Bs 8 rfl (fun hc1 => ?_) fun hc1 => ?_
   ·
    refine Ru 2 rfl ?_
    refine JL.opg rfl rfl  (by first | exact RunV.sub_i64 rfl rfl (by omega) (by omega) | exact RunV.sub rfl rfl) rfl ?_
    refine JL.opeg rfl rfl  (RunE.index sl_75 rfl rfl (by first | with_reducible rfl | exact (Int.toNat_of_nonneg (by omega)).symm) (by assumption) rfl (by omega)) rfl ?_
    rintro _ ⟨b2, o2, hi2, rfl, hE2⟩
    refine JL.opg rfl rfl  (RunV.ld_u64 ag_100 rfl (by assumption)) rfl ?_
    rw [d64_at, show ((n : Int) - 1).toNat = n - 1 by omega]
    refine Ru 2 rfl ?_
    refine JL.nil ?_
    refine ⟨rfl, rfl, ?_⟩
    repeat (first | exact trivial | refine ⟨rfl, ?_⟩ | refine ⟨(by exact some_bool (by first | (rw [decide_eq_decide]; omega) | exact (decide_eq_false (by omega)).symm | exact decide_eq_false (by omega))), ?_⟩)
   ·
    refine Ru 7 rfl ?_
    refine JL.nil ?_
    refine ⟨rfl, rfl, ?_⟩
    repeat (first | exact trivial | refine ⟨rfl, ?_⟩ | refine ⟨(by exact some_bool (by first | (rw [decide_eq_decide]; omega) | exact (decide_eq_false (by omega)).symm | exact decide_eq_false (by omega))), ?_⟩)
  ·
   refine Cs rfl (fun hc4 => ?_) fun hc4 => ?_
   ·
    refine J.skip ?_
    refine J.block ?_
    refine Rg ?_
    refine Ru 1 rfl ?_
    refine JL.op (by first | exact RunV.sub_i64 rfl rfl (by omega) (by omega) | exact RunV.sub rfl rfl) rfl ?_
    refine Ru 1 rfl ?_
    refine JL.nil ?_
    refine ⟨_, ?_, _, ?_, ⟨n - 1, rfl, rfl, rfl, rfl, ⟨by omega, by rw [he, tsz_go _ _ (by omega)]⟩⟩⟩
    ·
     omega
    ·
     repeat (first | exact trivial | refine ⟨rfl, ?_⟩ | refine ⟨(by exact some_int (by omega)), ?_⟩)
   ·
    have hcz : l.take n = cutZ l := (by unfold cutZ; rw [he, tsz_stop _ _ (by omega)])
    refine J.exit ?_
    refine Sr ?_
    refine Ru 2 rfl ?_
    refine JL.ope (RunE.cut_h sl_75 (m := n) rfl rfl rfl (by assumption) rfl (by omega)) rfl ?_
    rintro _ ⟨a9, c9, rfl, hS9⟩
    rw [hcz] at hS9 ⊢
    refine Ru 1 rfl ?_
    refine Nk [2] rfl ?_
    exact J.retR (RetV.one rfl rfl) ⟨_, _, rfl, hS9⟩



theorem digits32_fn {a : Option Addr} {c : Nat} {l : List UInt32} {h : Part} (hl : SlR u32R 1 h a c l) (hlen : l.length ≤ 1000000) : FnR Tryd.prog 44 [.slice a l.length c] h (fun v h' => ∃ a' c', v = .slice a' (digsB l).length c' ∧ SlR u64R 1 h' a' c' (digsB l)) := by
  have hll := hl.big
  refine Fn.intro Tryd.func44 rfl Tryd.ntmps44 rfl (fun e he => ?_)
  refine J.weak [(0, _)] ⟨rfl, trivial⟩ ?_
  refine Sr ?_
  refine Ru 1 rfl ?_
  refine JL.nil ?_
  refine Sr ?_
  refine Ru 1 rfl ?_
  refine JL.nil ?_
  refine J.seq ?_
  refine Sr ?_
  refine JL.row_nil 100 1 ?_
  refine Ru 1 rfl ?_
  refine JL.nil ?_
  refine J.block ?_
  refine J.loop (fun t_ S_ h_ L_ => ∃ (g : Part) (i : Nat) (ao : Option Addr) (co : Nat) (xs : List Value), t_ = l.length - i ∧ S_ = [(0, .slice a l.length c), (3, .slice ao ((l.map m64).take i).length co), (4, .int .i64 i)] ∧ g = h_ ∧ L_ = [.row ao co 100 1 ((l.map m64).take i).length xs] ∧ (h.le g ∧ i ≤ l.length ∧ CellsR u64R 1 g xs ((l.map m64).take i))) ⟨_, _, ?_, ⟨_, 0, _, _, _, rfl, rfl, rfl, rfl, ⟨Part.le.refl _, by omega, CellsR.nil⟩⟩⟩ ?_
  ·
   repeat (first | exact trivial | refine ⟨rfl, ?_⟩)
  rintro _ _ _ _ ⟨g, i, ao, co, xs, rfl, rfl, rfl, rfl, hhg, hi, hC⟩
  have hl := hl.mono hhg
  refine J.seq ?_
  refine Sr ?_
  refine Ru 4 rfl ?_
  refine JL.nil ?_
  refine Cs rfl (fun hc1 => ?_) fun hc1 => ?_
  ·
   have hi2 : i < l.length := (by omega); have hi' : i < (l.map m64).length := (by rw [List.length_map]; omega); have htl : ((l.map m64).take i).length = i := (by rw [List.length_take, List.length_map]; omega); have hke : (l.map m64).take i ++ [m64 (l[i]'hi2)] = (l.map m64).take (i + 1) := (by rw [List.take_succ_eq_append_getElem hi', List.getElem_map])
   refine J.skip ?_
   refine J.seq ?_
   refine J.block ?_
   refine Rg ?_
   refine Ru 3 rfl ?_
   refine JL.ope (RunE.index sl_35 rfl rfl (by first | with_reducible rfl | exact (Int.toNat_of_nonneg (by omega)).symm) (by assumption) rfl (by omega)) rfl ?_
   rintro _ ⟨b2, o2, hi2, rfl, hE2⟩
   refine JL.op (RunV.ld_u32 ag_69 rfl (by assumption)) rfl ?_
   refine JL.op (by first | exact RunV.convw_u64 cv_69_100 rfl | exact RunV.conv_u64 cv_69_100 rfl (by omega) (by omega) | exact RunV.conv cv_69_100 rfl) rfl ?_
   refine JL.lit1 ap_75 zr_100 rfl rfl rfl rfl rfl (fun b4 => ?_)
   refine JL.append1 ap_75 rfl rfl (by assumption) rfl (by repeat (first | exact Del.here | apply Del.there)) (by repeat (first | exact Del.here | apply Del.there)) rfl ((by show _ = _; rw [m64_nat] : u64R _ [.int .u64 (l[i].toNat : Int)] (m64 l[i]))) (by first | omega | (simp only [List.length_append, List.length_cons, List.length_nil]; omega)) rfl rfl (fun a5 c5 xs5 hC5 hN5 => ?_)
   rw [hke] at *
   refine Ru 1 rfl ?_
   refine JL.nil ?_
   refine Rg ?_
   refine Ru 1 rfl ?_
   refine JL.op (by first | exact RunV.add_i64 rfl rfl (by omega) (by omega) | exact RunV.add rfl rfl) rfl ?_
   refine Ru 1 rfl ?_
   refine JL.nil ?_
   refine ⟨_, ?_, _, ?_, ⟨_, i + 1, _, _, _, rfl, rfl, rfl, rfl, ⟨by assumption, by omega, by assumption⟩⟩⟩
   ·
    omega
   ·
    repeat (first | exact trivial | refine ⟨rfl, ?_⟩)
  ·
   refine J.exit ?_
   refine Kp [3] rfl ?_
   refine Sr ?_
   refine Ru 1 rfl ?_
   have hke : (l.map m64).take i = l.map m64 := List.take_of_length_le (by rw [List.length_map]; omega); have hml : (l.map m64).length = l.length := List.length_map ..; rw [hke] at hC ⊢; refine JL.pub (R := u64R) (by repeat (first | exact Del.here | apply Del.there)) (by assumption) rfl (by omega) (fun h9 hle9 hS9 => ?_); replace hl := hl.mono hle9; replace hC := hC.mono hle9; replace hhg := hhg.mono hle9
   refine JL.callR ca_70 rfl (cut_fn (by assumption)) rfl ?_
   rintro _ h6 hle6 ⟨a6, c6, rfl, hS6⟩
   replace hl := hl.mono hle6
   replace hhg := hhg.mono hle6
   replace hC := hC.mono hle6
   refine Ru 1 rfl ?_
   refine JL.nil ?_
   exact J.retR (RetV.one rfl rfl) ⟨_, _, rfl, by assumption⟩



end Go.Proofs.YtmngjbefnloljaaDoor
