/- Walks: numbers as nodes; the law DerNumbers. -/
import Derived.Test.YtbmlbefpnieglaaDoorNumD
import Derived.Test.YtbmlbefpnieglaaDoorDerM
import Derived.Test.YtbmlbefpnieglaaDoorDerK
import Derived.Test.YtbmlbefpnieglaaDoorDerV4
set_option linter.unusedSimpArgs false
set_option linter.unusedVariables false
set_option linter.constructorNameAsVariable false
namespace Go.Proofs.YtbmlbefpnieglaaDoor
open Go Go.RowKit
set_option maxRecDepth 100000
theorem ca_14 : callT Tryd.prog 14 = true := by kernel_rfl
theorem ca_33 : callT Tryd.prog 33 = true := by kernel_rfl
theorem ca_34 : callT Tryd.prog 34 = true := by kernel_rfl
theorem ca_35 : callT Tryd.prog 35 = true := by kernel_rfl
theorem ca_53 : callT Tryd.prog 53 = true := by kernel_rfl
theorem ca_55 : callT Tryd.prog 55 = true := by kernel_rfl

theorem nbits_le (l : List UInt32) : nbits (d32 l) l.length ≤ 32 * l.length := by
  have h := tsz_le (d32 l) l.length
  have hb := bl_le32 l (tsz (d32 l) l.length - 1)
  unfold nbits; split <;> omega
def natN (l : List UInt32) : Nd := .mk 0 2 false (natW (d32 l) (nbits (d32 l) l.length / 8 + 1)) []
theorem natwrite_fn' {a : Option Addr} {c k : Nat} {q : Int} {l : List UInt32} {h : Part} (hl : SlR u32R 1 h a c l) (hq : q = (k : Int)) (hk : k ≤ 65536) (hb : (nbits (d32 l) l.length + 7) / 8 ≤ k) :
    FnR Tryd.prog 53 [.slice a l.length c, .int .i64 q] h (fun v h' => ∃ a' c', v = .tuple #[.slice a' (natW (d32 l) k).length c', .int .i64 0] ∧ SlR u8R 1 h' a' c' (natW (d32 l) k)) := by
  subst hq; exact natwrite_fn hl hk hb
theorem rwrite_fn' {a : Option Addr} {c k : Nat} {q : Int} {l : List UInt32} {h : Part} (hl : SlR u32R 1 h a c l) (hlen : l.length ≤ 1000000) (hq : q = (k : Int)) (hk : k ≤ 65536) (hb : nbits (d32 l) l.length ≤ 8 * k) :
    FnR Tryd.prog 55 [.slice a l.length c, .int .i64 q] h (fun v h' => ∃ a' c', v = .tuple #[.slice a' (natW (d32 l) k).length c', .int .i64 0] ∧ SlR u8R 1 h' a' c' (natW (d32 l) k)) := by
  subst hq; exact rwrite_fn hl hlen hk hb
theorem dernat_fn {a : Option Addr} {c : Nat} {l : List UInt32} {h : Part} (hl : SlR u32R 1 h a c l) (hlen : l.length ≤ 60) : FnR Tryd.prog 34 [.slice a l.length c] h (fun v h' => ∃ cs, v = .agg (List.toArray cs) ∧ NdR h' cs (natN l)) := by
  have hnb := nbits_le l
  refine Fn.intro Tryd.func34 rfl Tryd.ntmps34 rfl (fun e he => ?_)
  refine J.weak [(0, _)] ⟨rfl, trivial⟩ ?_
  have hh0 := Part.le.refl h
  refine Sr ?_
  refine JL.alloc zr_25 rfl (fun b1 => ?_)
  refine JL.nil ?_
  refine J.seq ?_
  refine Sr ?_
  refine Ru 1 rfl ?_
  refine JL.callP ca_52 rfl (natbits_fn (by assumption)) rfl ?_
  refine Ru 1 rfl ?_
  refine JL.nil ?_
  refine Cs rfl (fun hc3 => ?_) fun hc3 => ?_
  ·
   exfalso; omega
  refine J.skip ?_
  refine Sr ?_
  refine Ru 2 rfl ?_
  refine JL.callP ca_52 rfl (natbits_fn (by assumption)) rfl ?_
  refine JL.op (by first | exact RunV.quo_i64 rfl rfl (by omega) (by omega) (by omega) | exact RunV.quo rfl rfl (by omega)) rfl ?_
  refine JL.op (by first | exact RunV.add_i64 rfl rfl (by omega) (by omega) | exact RunV.add rfl rfl) rfl ?_
  refine JL.callR ca_53 rfl (natwrite_fn' (k := nbits (d32 l) l.length / 8 + 1) (by assumption) (by omega) (by omega) (by omega)) rfl ?_
  rintro _ h5 hle5 ⟨wa, wc, rfl, hW⟩
  replace hl := hl.mono hle5
  replace hh0 := hh0.mono hle5
  refine Ru 5 rfl ?_
  refine Nk [3, 2] rfl ?_
  refine Sr ?_
  refine Ru 1 rfl ?_
  refine JL.callR ca_25 rfl (prim_fn (by assumption)) rfl ?_
  rintro _ h6 hle6 ⟨w6, rfl, hNd6⟩
  replace hl := hl.mono hle6
  replace hh0 := hh0.mono hle6
  replace hW := hW.mono hle6
  refine JL.storeA ag_25 rfl rfl (by repeat (first | exact Del.here | apply Del.there)) (by first | rfl | exact NdR.all1 (by assumption)) (by first | rfl | assumption | exact NdR.len5 (by assumption)) (by first | rfl | exact NdR.len5 (by assumption)) ?_
  refine JL.nil ?_
  exact J.retR (RetV.cell rfl rfl ag_25 (by repeat (first | exact List.mem_cons_self .. | apply List.mem_cons_of_mem)) (by first | rfl | exact NdR.len5 (by assumption))) ⟨_, rfl, by assumption⟩



theorem rnat_fn {a : Option Addr} {c : Nat} {l : List UInt32} {h : Part} (hl : SlR u32R 1 h a c l) (hlen : l.length ≤ 60) : FnR Tryd.prog 35 [.slice a l.length c] h (fun v h' => ∃ cs, v = .agg (List.toArray cs) ∧ NdR h' cs (natN l)) := by
  have hnb := nbits_le l
  refine Fn.intro Tryd.func35 rfl Tryd.ntmps35 rfl (fun e he => ?_)
  refine J.weak [(0, _)] ⟨rfl, trivial⟩ ?_
  have hh0 := Part.le.refl h
  refine Sr ?_
  refine JL.alloc zr_25 rfl (fun b1 => ?_)
  refine JL.nil ?_
  refine J.seq ?_
  refine Sr ?_
  refine Ru 1 rfl ?_
  refine JL.callR ca_54 rfl (rbits_fn (by assumption) (by omega)) rfl ?_
  rintro _ h2 hle2 rfl
  replace hl := hl.mono hle2
  replace hh0 := hh0.mono hle2
  refine Ru 1 rfl ?_
  refine JL.nil ?_
  refine Cs rfl (fun hc3 => ?_) fun hc3 => ?_
  ·
   exfalso; omega
  refine J.skip ?_
  refine Sr ?_
  refine Ru 2 rfl ?_
  refine JL.callR ca_54 rfl (rbits_fn (by assumption) (by omega)) rfl ?_
  rintro _ h4 hle4 rfl
  replace hl := hl.mono hle4
  replace hh0 := hh0.mono hle4
  refine JL.op (by first | exact RunV.quo_i64 rfl rfl (by omega) (by omega) (by omega) | exact RunV.quo rfl rfl (by omega)) rfl ?_
  refine JL.op (by first | exact RunV.add_i64 rfl rfl (by omega) (by omega) | exact RunV.add rfl rfl) rfl ?_
  refine JL.callR ca_55 rfl (rwrite_fn' (k := nbits (d32 l) l.length / 8 + 1) (by assumption) (by omega) (by omega) (by omega) (by omega)) rfl ?_
  rintro _ h5 hle5 ⟨wa, wc, rfl, hW⟩
  replace hl := hl.mono hle5
  replace hh0 := hh0.mono hle5
  refine Ru 5 rfl ?_
  refine Nk [3, 2] rfl ?_
  refine Sr ?_
  refine Ru 1 rfl ?_
  refine JL.op (RunV.build (cs := [.int .i64 0, _, .bool false, _, .slice none 0 0]) pl_25 rfl rfl) rfl ?_
  refine JL.storeA ag_25 rfl rfl (by repeat (first | exact Del.here | apply Del.there)) (by first | rfl | exact NdR.all1 (by assumption)) (by first | rfl | assumption | exact NdR.len5 (by assumption)) (by first | rfl | exact NdR.len5 (by assumption)) ?_
  refine JL.nil ?_
  exact J.retR (RetV.cell rfl rfl ag_25 (by repeat (first | exact List.mem_cons_self .. | apply List.mem_cons_of_mem)) (by first | rfl | exact NdR.len5 (by assumption))) ⟨_, rfl, NdR.of hW SlR.nil_⟩




/-! ## integers -/
def fitI (n : Int) (j : Nat) : Prop := -128 ≤ n / 256 ^ (j - 1) ∧ n / 256 ^ (j - 1) < 128
instance (n : Int) (j : Nat) : Decidable (fitI n j) := by unfold fitI; infer_instance
theorem ib_top (n : Int) (j : Nat) : byteAt (ibytes n (j + 1)) 0 = (n / 256 ^ j % 256).toNat := by
  show (UInt8.ofNat _).toNat = _
  rw [UInt8.toNat_ofNat']; omega
theorem ib_next (n : Int) (j : Nat) : byteAt (ibytes n (j + 2)) 1 = (n / 256 ^ j % 256).toNat := by
  show (UInt8.ofNat _).toNat = _
  rw [UInt8.toNat_ofNat']; omega
theorem div_step (n : Int) (j : Nat) : n / 256 ^ (j + 1) = n / 256 ^ j / 256 := by
  rw [Int.pow_succ, Int.ediv_ediv_of_nonneg (Int.le_of_lt (Int.pow_pos (by decide)))]
theorem least_ib (n : Int) (j : Nat) (h : fitI n (j + 2)) : leastB (ibytes n (j + 2)) = decide (¬ fitI n (j + 1)) := by
  have e0 : byteAt (ibytes n (j + 2)) 0 = _ := ib_top n (j + 1); have e1 := ib_next n j; have ed := div_step n j
  have hl := ibytes_len n (j + 2)
  unfold leastB
  rw [if_neg (by omega), if_neg (by omega), decide_eq_decide]
  unfold fitI at h ⊢
  rw [show j + 2 - 1 = j + 1 from rfl] at h
  rw [show j + 1 - 1 = j from rfl]
  generalize n / 256 ^ j = q at *
  generalize n / 256 ^ (j + 1) = q' at *
  omega
theorem strip_ib (n : Int) (j : Nat) (hj : j = 0 ∨ ¬ fitI n j) : ∀ k, j + 1 ≤ k → (∀ i, j + 1 ≤ i → i ≤ k → fitI n i) → stripB (ibytes n k) = ibytes n (j + 1)
  | 0, h, _ => by omega
  | 1, h, _ => by
    have : j = 0 := by omega
    subst this
    exact stripB_least (by unfold leastB; rw [if_neg (by rw [ibytes_len]; decide), if_pos (ibytes_len n 1)])
  | k + 2, h, hf => by
    have hlb := least_ib n k (hf (k + 2) h (Nat.le_refl _))
    by_cases hk : k + 1 = j
    · subst hk
      exact stripB_least (by rw [hlb]; exact decide_eq_true (hj.resolve_left (by omega)))
    · rw [stripB_drop (by rw [hlb]; exact decide_eq_false (fun hn => hn (hf (k + 1) (by omega) (by omega))))]
      exact strip_ib n j hj (k + 1) (by omega) (fun i h1 h2 => hf i h1 (by omega))
theorem fit_up (n : Int) (i : Nat) (h : fitI n (i + 1)) : fitI n (i + 2) := by
  have ed := div_step n i
  unfold fitI at *
  rw [show i + 2 - 1 = i + 1 from rfl]
  rw [show i + 1 - 1 = i from rfl] at h
  generalize n / 256 ^ i = q at *
  generalize n / 256 ^ (i + 1) = q' at *
  omega
theorem fit_le (n : Int) (j : Nat) (h : fitI n (j + 1)) : ∀ i, j + 1 ≤ i → fitI n i
  | 0, h1 => by omega
  | 1, h1 => by have : j = 0 := by omega
                subst this; exact h
  | i + 2, h1 => by
    by_cases he : j + 1 = i + 2
    · rw [← he]; exact h
    · exact fit_up n i (fit_le n j h (i + 1) (by omega))
theorem intB_fit (n : Int) (j : Nat) (hj7 : j ≤ 7) (hj : j = 0 ∨ ¬ fitI n j) (h : fitI n (j + 1)) : intB n = ibytes n (j + 1) :=
  strip_ib n j hj 8 (by omega) (fun i h1 _ => fit_le n j h i h1)
theorem fit8 (n : Int) (h0 : -9223372036854775808 ≤ n) (h1 : n ≤ 9223372036854775807) : fitI n 8 := by
  unfold fitI
  rw [show (256 : Int) ^ (8 - 1) = 72057594037927936 by decide]
  omega
theorem tmod256 (q : Int) : (q.tmod 256 = q % 256 ∧ 0 ≤ q.tmod 256) ∨ (q.tmod 256 = q % 256 - 256 ∧ q.tmod 256 < 0) := by
  have h1 := Int.tmod_eq_emod (a := q) (b := 256)
  have h2 := Int.emod_nonneg q (b := 256) (by decide)
  have h3 := Int.emod_lt_of_pos q (b := 256) (by decide)
  split at h1
  · left; omega
  · right; rw [show ((256 : Int).natAbs : Int) = 256 from rfl] at h1; omega
theorem RunV.quo256 {f : Fr} {S : Sig} {h : Part} {L : List Ent} {ty T yt : TypeId} {x y : Operand} {q : Int} (hx : ev S x = some (.int .i64 (q - q % 256))) (hy : ev S y = some (.int .i64 256)) (h0 : -9223372036854775808 ≤ q) (h1 : q ≤ 9223372036854775807) : RunV f S h L (.binOp .quo T x y yt) ty (.int .i64 (q / 256)) := by
  have := RunV.quo (f := f) (h := h) (L := L) (ty := ty) (T := T) (yt := yt) hx hy (by decide)
  have e : (q - q % 256).tdiv 256 = q / 256 := by
    have : q - q % 256 = 256 * (q / 256) := by omega
    rw [this, Int.mul_tdiv_cancel_left _ (by decide)]
  rwa [e, wrap_i64 _ (by omega) (by omega)] at this
theorem rint_fn {n : Int} {h : Part} (h0 : -9223372036854775808 ≤ n) (h1 : n ≤ 9223372036854775807) : FnR Tryd.prog 33 [.int .i64 n] h (fun v h' => ∃ cs, v = .agg (List.toArray cs) ∧ NdR h' cs (.mk 0 2 false (intB n) [])) := by
  refine Fn.intro Tryd.func33 rfl Tryd.ntmps33 rfl (fun e he => ?_)
  refine J.weak [(0, _)] ⟨rfl, trivial⟩ ?_
  have hh0 := Part.le.refl h
  refine Sr ?_
  refine JL.alloc zr_25 rfl (fun b1 => ?_)
  refine JL.nil ?_
  refine Sr ?_
  refine Ru 1 rfl ?_
  refine JL.nil ?_
  refine J.block ?_
  refine J.loop (fun t_ S_ h_ L_ => ∃ (g : Part) (j : Nat) (q : Int) (la : Option Addr) (lc : Nat), t_ = 8 - j ∧ S_ = [(0, .int .i64 q), (2, .pointer (some ⟨b1, 0, none⟩)), (3, .slice la (ibytes n j).length lc)] ∧ g = h_ ∧ L_ = [.blk b1 25 [.int .i64 0, .int .i64 0, .bool false, .slice none 0 0, .slice none 0 0]] ∧ (h.le g ∧ SlR u8R 1 g la lc (ibytes n j) ∧ q = n / 256 ^ j ∧ -9223372036854775808 ≤ q ∧ q ≤ 9223372036854775807 ∧ j ≤ 7 ∧ (j = 0 ∨ ¬ fitI n j))) ⟨_, _, ?_, ⟨_, 0, n, none, 0, rfl, rfl, rfl, rfl, ⟨by assumption, SlR.nil_, by simp, by omega, by omega, by omega, .inl rfl⟩⟩⟩ ?_
  ·
   repeat (first | exact trivial | refine ⟨rfl, ?_⟩)
  rintro _ _ _ _ ⟨g, j, q, la, lc, rfl, rfl, rfl, rfl, hhg, hL, hq, hq0, hq1, hj, hfj⟩
  have htm := tmod256 q; have hil := ibytes_len n j; have hil1 := ibytes_len n (j + 1); have hbt := ib_top n j; have hb0 : ((ibytes n (j + 1))[0]'(by omega)).toNat = (q % 256).toNat := (by rw [byteAt_eq, hbt, hq]); have hib : ibytes n (j + 1) = UInt8.ofNat (q % 256).toNat :: ibytes n j := (by rw [hq]; rfl); have hds := div_step n j; have hfd : fitI n (j + 1) ↔ -128 ≤ q ∧ q < 128 := (by rw [hq]; exact Iff.rfl)
  refine J.block ?_
  refine Sr ?_
  refine Ru 1 rfl ?_
  refine JL.op (RunV.rem rfl rfl (by decide)) rfl ?_
  refine Ru 1 rfl ?_
  refine JL.nil ?_
  refine J.seq ?_
  refine Sr ?_
  refine Ru 2 rfl ?_
  refine JL.nil ?_
  refine J.meet [(4, .int .i64 (q % 256))] [(8, _), (7, _), (6, _), (0, _), (2, _), (3, _)] ⟨rfl, rfl, rfl, rfl, rfl, rfl, trivial⟩ ?_ ?_
  ·
   refine Cs rfl (fun hc2 => ?_) fun hc2 => ?_
   ·
    refine Rg ?_
    refine Ru 1 rfl ?_
    refine JL.op (by first | exact RunV.add_i64 rfl rfl (by omega) (by omega) | exact RunV.add rfl rfl) rfl ?_
    refine Ru 1 rfl ?_
    refine JL.nil ?_
    refine ⟨rfl, rfl, ?_⟩
    repeat (first | exact trivial | refine ⟨rfl, ?_⟩ | refine ⟨(by exact some_int (by omega)), ?_⟩)
   ·
    refine J.skip ?_
    refine ⟨rfl, rfl, ?_⟩
    repeat (first | exact trivial | refine ⟨rfl, ?_⟩ | refine ⟨(by exact some_int (by omega)), ?_⟩)
  ·
   refine Sr ?_
   refine Ru 1 rfl ?_
   refine JL.nil ?_
   refine Sr ?_
   refine Ru 2 rfl ?_
   refine JL.op (RunV.toByte (q % 256).toNat cv_2_5 rfl (by omega)) rfl ?_
   refine JL.lit1 ap_22 zr_5 rfl rfl rfl rfl rfl (fun b3 => ?_)
   refine JL.row_nil 5 1 ?_
   refine JL.append1 ap_22 rfl rfl (CellsR.nil (R := u8R)) rfl (by repeat (first | exact Del.here | apply Del.there)) (by repeat (first | exact Del.here | apply Del.there)) rfl (rfl) (by first | omega | (simp only [List.length_append, List.length_cons, List.length_nil]; omega)) rfl rfl (fun a4 c4 xs4 hC4 hN4 => ?_)
   obtain rfl := hC4.u8
   refine Ru 1 rfl ?_
   refine JL.nil ?_
   refine Sr ?_
   refine Ru 2 rfl ?_
   refine JL.append ap_22 rfl rfl CellsR.of_u8 rfl (by assumption) rfl (by repeat (first | exact Del.here | apply Del.there)) (by first | omega | (simp only [List.length_append, List.length_cons, List.length_nil]; omega)) rfl rfl (fun a5 c5 xs5 hC5 hN5 => ?_)
   obtain rfl := hC5.u8
   refine JL.pub (R := u8R) (l := UInt8.ofNat (q % 256).toNat :: ibytes n j) (by repeat (first | exact Del.here | apply Del.there)) CellsR.of_u8 rfl (by first | omega | (simp only [List.length_append, List.length_cons, List.length_nil]; omega)) (fun h6 hle6 hP6 => ?_)
   replace hhg := hhg.mono hle6
   replace hL := hL.mono hle6
   rw [← hib] at hP6; rw [show ([] ++ [UInt8.ofNat (q % 256).toNat] ++ ibytes n j : List UInt8) = ibytes n (j + 1) from hib.symm]
   refine JL.op (RunV.assign rfl) rfl ?_
   refine JL.nil ?_
   refine Sr ?_
   refine Ru 2 rfl ?_
   refine JL.op (by first | exact RunV.sub_i64 rfl rfl (by omega) (by omega) | exact RunV.sub rfl rfl) rfl ?_
   refine JL.op (RunV.quo256 rfl rfl (by omega) (by omega)) rfl ?_
   refine Ru 1 rfl ?_
   refine JL.nil ?_
   refine Sr ?_
   refine Ru 3 rfl ?_
   refine Bs 26 rfl (fun hc7 => ?_) fun hc7 => ?_
   ·
    refine Ru 1 rfl ?_
    refine JL.opeg rfl rfl  (RunE.index sl_22 rfl rfl (show _ = ((0 : Nat) : Int) from rfl) (by assumption) rfl (by omega)) rfl ?_
    rintro _ ⟨b8, o8, hi8, rfl, hE8⟩
    refine JL.opg rfl rfl  (RunV.ld_u8 ag_5 rfl (by assumption)) rfl ?_
    refine Ru 3 rfl ?_
    refine Bs 32 rfl (fun hc10 => ?_) fun hc10 => ?_
    ·
     refine Ru 9 rfl ?_
     refine Nk [41, 40, 39, 38, 37, 36, 35, 34, 33, 32, 31, 30, 29, 28, 27, 26, 25, 24, 0, 23, 22, 21, 20, 3, 19, 18, 17, 5, 16, 15, 14, 13, 12, 4, 8, 7, 6, 2] rfl ?_
     refine J.cond_t rfl ?_
     refine Sr ?_
     refine Ru 1 rfl ?_
     refine JL.op (RunV.build (cs := [.int .i64 0, _, .bool false, _, .slice none 0 0]) pl_25 rfl rfl) rfl ?_
     refine JL.storeA ag_25 rfl rfl (by repeat (first | exact Del.here | apply Del.there)) (by first | rfl | exact NdR.all1 (by assumption)) (by first | rfl | assumption | exact NdR.len5 (by assumption)) (by first | rfl | exact NdR.len5 (by assumption)) ?_
     refine JL.nil ?_
     first | (exfalso; omega) | (have hit : intB n = ibytes n (j + 1) := intB_fit n j hj hfj (hfd.2 (by omega)); rw [hit]; exact J.retR (RetV.cell rfl rfl ag_25 (by repeat (first | exact List.mem_cons_self .. | apply List.mem_cons_of_mem)) (by first | rfl | exact NdR.len5 (by assumption))) ⟨_, rfl, NdR.of (by assumption) SlR.nil_⟩)
    ·
     refine Ru 3 rfl ?_
     refine Bs 35 rfl (fun hc11 => ?_) fun hc11 => ?_
     ·
      refine Ru 1 rfl ?_
      refine JL.opeg rfl rfl  (RunE.index sl_22 rfl rfl (show _ = ((0 : Nat) : Int) from rfl) (by assumption) rfl (by omega)) rfl ?_
      rintro _ ⟨b12, o12, hi12, rfl, hE12⟩
      refine JL.opg rfl rfl  (RunV.ld_u8 ag_5 rfl (by assumption)) rfl ?_
      refine Ru 3 rfl ?_
      refine Nk [41, 40, 39, 38, 37, 36, 35, 34, 33, 32, 31, 30, 29, 28, 27, 26, 25, 24, 0, 23, 22, 21, 20, 3, 19, 18, 17, 5, 16, 15, 14, 13, 12, 4, 8, 7, 6, 2] rfl ?_
      refine Cs rfl (fun hc14 => ?_) fun hc14 => ?_
      ·
       refine Sr ?_
       refine Ru 1 rfl ?_
       refine JL.op (RunV.build (cs := [.int .i64 0, _, .bool false, _, .slice none 0 0]) pl_25 rfl rfl) rfl ?_
       refine JL.storeA ag_25 rfl rfl (by repeat (first | exact Del.here | apply Del.there)) (by first | rfl | exact NdR.all1 (by assumption)) (by first | rfl | assumption | exact NdR.len5 (by assumption)) (by first | rfl | exact NdR.len5 (by assumption)) ?_
       refine JL.nil ?_
       first | (exfalso; omega) | (have hit : intB n = ibytes n (j + 1) := intB_fit n j hj hfj (hfd.2 (by omega)); rw [hit]; exact J.retR (RetV.cell rfl rfl ag_25 (by repeat (first | exact List.mem_cons_self .. | apply List.mem_cons_of_mem)) (by first | rfl | exact NdR.len5 (by assumption))) ⟨_, rfl, NdR.of (by assumption) SlR.nil_⟩)
      ·
       refine J.skip ?_
       refine ⟨_, ?_, _, ?_, ⟨_, j + 1, q / 256, _, _, rfl, rfl, rfl, rfl, ⟨by assumption, by assumption, by rw [hds, hq], by omega, by omega, (by have h8 := fit8 n h0 h1; by_cases hj8 : j = 7; (exfalso; subst hj8; have := hfd.1 h8; omega); omega), .inr (fun hf => by have := hfd.1 hf; omega)⟩⟩⟩
       ·
        omega
       ·
        repeat (first | exact trivial | refine ⟨rfl, ?_⟩)
     ·
      refine Ru 6 rfl ?_
      refine Nk [41, 40, 39, 38, 37, 36, 35, 34, 33, 32, 31, 30, 29, 28, 27, 26, 25, 24, 0, 23, 22, 21, 20, 3, 19, 18, 17, 5, 16, 15, 14, 13, 12, 4, 8, 7, 6, 2] rfl ?_
      refine J.cond_f rfl ?_
      refine J.skip ?_
      refine ⟨_, ?_, _, ?_, ⟨_, j + 1, q / 256, _, _, rfl, rfl, rfl, rfl, ⟨by assumption, by assumption, by rw [hds, hq], by omega, by omega, (by have h8 := fit8 n h0 h1; by_cases hj8 : j = 7; (exfalso; subst hj8; have := hfd.1 h8; omega); omega), .inr (fun hf => by have := hfd.1 hf; omega)⟩⟩⟩
      ·
       omega
      ·
       repeat (first | exact trivial | refine ⟨rfl, ?_⟩)
   ·
    refine Ru 9 rfl ?_
    refine Bs 35 rfl (fun hc15 => ?_) fun hc15 => ?_
    ·
     refine Ru 1 rfl ?_
     refine JL.opeg rfl rfl  (RunE.index sl_22 rfl rfl (show _ = ((0 : Nat) : Int) from rfl) (by assumption) rfl (by omega)) rfl ?_
     rintro _ ⟨b16, o16, hi16, rfl, hE16⟩
     refine JL.opg rfl rfl  (RunV.ld_u8 ag_5 rfl (by assumption)) rfl ?_
     refine Ru 3 rfl ?_
     refine Nk [41, 40, 39, 38, 37, 36, 35, 34, 33, 32, 31, 30, 29, 28, 27, 26, 25, 24, 0, 23, 22, 21, 20, 3, 19, 18, 17, 5, 16, 15, 14, 13, 12, 4, 8, 7, 6, 2] rfl ?_
     refine Cs rfl (fun hc18 => ?_) fun hc18 => ?_
     ·
      refine Sr ?_
      refine Ru 1 rfl ?_
      refine JL.op (RunV.build (cs := [.int .i64 0, _, .bool false, _, .slice none 0 0]) pl_25 rfl rfl) rfl ?_
      refine JL.storeA ag_25 rfl rfl (by repeat (first | exact Del.here | apply Del.there)) (by first | rfl | exact NdR.all1 (by assumption)) (by first | rfl | assumption | exact NdR.len5 (by assumption)) (by first | rfl | exact NdR.len5 (by assumption)) ?_
      refine JL.nil ?_
      first | (exfalso; omega) | (have hit : intB n = ibytes n (j + 1) := intB_fit n j hj hfj (hfd.2 (by omega)); rw [hit]; exact J.retR (RetV.cell rfl rfl ag_25 (by repeat (first | exact List.mem_cons_self .. | apply List.mem_cons_of_mem)) (by first | rfl | exact NdR.len5 (by assumption))) ⟨_, rfl, NdR.of (by assumption) SlR.nil_⟩)
     ·
      refine J.skip ?_
      refine ⟨_, ?_, _, ?_, ⟨_, j + 1, q / 256, _, _, rfl, rfl, rfl, rfl, ⟨by assumption, by assumption, by rw [hds, hq], by omega, by omega, (by have h8 := fit8 n h0 h1; by_cases hj8 : j = 7; (exfalso; subst hj8; have := hfd.1 h8; omega); omega), .inr (fun hf => by have := hfd.1 hf; omega)⟩⟩⟩
      ·
       omega
      ·
       repeat (first | exact trivial | refine ⟨rfl, ?_⟩)
    ·
     refine Ru 6 rfl ?_
     refine Nk [41, 40, 39, 38, 37, 36, 35, 34, 33, 32, 31, 30, 29, 28, 27, 26, 25, 24, 0, 23, 22, 21, 20, 3, 19, 18, 17, 5, 16, 15, 14, 13, 12, 4, 8, 7, 6, 2] rfl ?_
     refine J.cond_f rfl ?_
     refine J.skip ?_
     refine ⟨_, ?_, _, ?_, ⟨_, j + 1, q / 256, _, _, rfl, rfl, rfl, rfl, ⟨by assumption, by assumption, by rw [hds, hq], by omega, by omega, (by have h8 := fit8 n h0 h1; by_cases hj8 : j = 7; (exfalso; subst hj8; have := hfd.1 h8; omega); omega), .inr (fun hf => by have := hfd.1 hf; omega)⟩⟩⟩
     ·
      omega
     ·
      repeat (first | exact trivial | refine ⟨rfl, ?_⟩)




theorem numbers_fn {n : Int} {a : Option Addr} {c : Nat} {l : List UInt32} {h : Part} (h0 : -9223372036854775808 ≤ n) (h1 : n ≤ 9223372036854775807) (hl : SlR u32R 1 h a c l) (hT : Tabs h) : Pure Tryd.prog 10 [.int .i64 n, .slice a l.length c] h (.bool true) := by
  have hll := hl.big
  have hb1 := (Nd.beq_iff (.mk 0 2 false (intB n) []) _).2 rfl
  have hb2 := (Nd.beq_iff (natN l) _).2 rfl
  refine Pure.ofV ?_
  refine Fn.intro Tryd.func10 rfl Tryd.ntmps10 rfl (fun e he => ?_)
  refine J.weak [(0, _), (1, _)] ⟨rfl, rfl, trivial⟩ ?_
  have hh0 := Part.le.refl h
  refine Sr ?_
  refine Ru 1 rfl ?_
  refine JL.nil ?_
  refine J.seq ?_
  refine Sr ?_
  refine Ru 3 rfl ?_
  refine JL.nil ?_
  refine Cs rfl (fun hc1 => ?_) fun hc1 => ?_
  ·
   refine Sr ?_
   refine JL.callP ca_14 rfl (kn_fn (by assumption)) rfl ?_
   refine Ru 1 rfl ?_
   refine Nk [4, 0, 1] rfl ?_
   exact J.retV (RetV.one rfl rfl) rfl
  ·
   refine J.skip ?_
   refine Sr ?_
   refine Ru 1 rfl ?_
   refine JL.callR ca_32 rfl (int_fn) rfl ?_
   rintro _ h3 hle3 ⟨w3, rfl, hNd3⟩
   replace hl := hl.mono hle3
   replace hT := hT.mono hle3
   replace hh0 := hh0.mono hle3
   refine Ru 1 rfl ?_
   refine JL.callR ca_33 rfl (rint_fn (by omega) (by omega)) rfl ?_
   rintro _ h4 hle4 ⟨w4, rfl, hNd4⟩
   replace hl := hl.mono hle4
   replace hT := hT.mono hle4
   replace hh0 := hh0.mono hle4
   replace hNd3 := hNd3.mono hle4
   refine JL.callP ca_17 rfl (same_fn' (by assumption) (by assumption)) rfl ?_
   rw [hb1]
   refine Ru 2 rfl ?_
   refine JL.callRg rfl rfl  ca_34 rfl (dernat_fn (by assumption) (by omega)) rfl ?_
   rintro _ h6 hle6 ⟨w6, rfl, hNd6⟩
   replace hl := hl.mono hle6
   replace hT := hT.mono hle6
   replace hh0 := hh0.mono hle6
   replace hNd3 := hNd3.mono hle6
   replace hNd4 := hNd4.mono hle6
   refine Ru 1 rfl ?_
   refine JL.callRg rfl rfl  ca_35 rfl (rnat_fn (by assumption) (by omega)) rfl ?_
   rintro _ h7 hle7 ⟨w7, rfl, hNd7⟩
   replace hl := hl.mono hle7
   replace hT := hT.mono hle7
   replace hh0 := hh0.mono hle7
   replace hNd3 := hNd3.mono hle7
   replace hNd4 := hNd4.mono hle7
   replace hNd6 := hNd6.mono hle7
   refine JL.callPg rfl rfl  ca_17 rfl (same_fn' (by assumption) (by assumption)) rfl ?_
   rw [hb2]
   refine Ru 2 rfl ?_
   refine JL.callPg rfl rfl  ca_14 rfl (kn_fn (by assumption)) rfl ?_
   refine Ru 2 rfl ?_
   refine Nk [4] rfl ?_
   exact J.retV (RetV.one rfl rfl) rfl
end Go.Proofs.YtbmlbefpnieglaaDoor
