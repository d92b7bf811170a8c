/- Walks: numbers as nodes; the law DerNumbers. -/
import Derived.Test.YtmngjbefnloljaaDoorNumD
import Derived.Test.YtmngjbefnloljaaDoorDerM
import Derived.Test.YtmngjbefnloljaaDoorDerK
import Derived.Test.YtmngjbefnloljaaDoorDerV4
set_option linter.unusedSimpArgs false
set_option linter.unusedVariables false
set_option linter.constructorNameAsVariable false
namespace Go.Proofs.YtmngjbefnloljaaDoor
open Go Go.RowKit
set_option maxRecDepth 100000
theorem ca_42 : callT Tryd.prog 42 = true := by kernel_rfl

theorem nbits_le (l : List UInt32) : nbits (d32 l) l.length ≤ 32 * l.length := by
  have h := tsz_le (d32 l) l.length
  have hb := bl_le32 l (tsz (d32 l) l.length - 1)
  unfold nbits; split <;> omega
def natN (l : List UInt32) : Nd := .mk 0 2 false (natW (d32 l) (nbits (d32 l) l.length / 8 + 1)) []
theorem natwrite_fn' {a : Option Addr} {c k : Nat} {q : Int} {l : List UInt32} {h : Part} (hl : SlR u32R 1 h a c l) (hq : q = (k : Int)) (hk : k ≤ 65536) (hb : (nbits (d32 l) l.length + 7) / 8 ≤ k) :
    FnR Tryd.prog 42 [.slice a l.length c, .int .i64 q] h (fun v h' => ∃ a' c', v = .tuple #[.slice a' (natW (d32 l) k).length c', .int .i64 0] ∧ SlR u8R 1 h' a' c' (natW (d32 l) k)) := by
  subst hq; exact natwrite_fn hl hk hb
theorem dernat_fn {a : Option Addr} {c : Nat} {l : List UInt32} {h : Part} (hl : SlR u32R 1 h a c l) (hlen : l.length ≤ 60) : FnR Tryd.prog 21 [.slice a l.length c] h (fun v h' => ∃ cs, v = .agg (List.toArray cs) ∧ NdR h' cs (natN l)) := by
  have hnb := nbits_le l
  refine Fn.intro Tryd.func21 rfl Tryd.ntmps21 rfl (fun e he => ?_)
  refine J.weak [(0, _)] ⟨rfl, trivial⟩ ?_
  have hh0 := Part.le.refl h
  refine Sr ?_
  refine JL.alloc zr_25 rfl (fun b1 => ?_)
  refine JL.nil ?_
  refine J.seq ?_
  refine Sr ?_
  refine Ru 1 rfl ?_
  refine JL.callP ca_41 rfl (natbits_fn (by assumption)) rfl ?_
  refine Ru 1 rfl ?_
  refine JL.nil ?_
  refine Cs rfl (fun hc3 => ?_) fun hc3 => ?_
  ·
   exfalso; omega
  refine J.skip ?_
  refine Sr ?_
  refine Ru 2 rfl ?_
  refine JL.callP ca_41 rfl (natbits_fn (by assumption)) rfl ?_
  refine JL.op (by first | exact RunV.quo_i64 rfl rfl (by omega) (by omega) (by omega) | exact RunV.quo rfl rfl (by omega)) rfl ?_
  refine JL.op (by first | exact RunV.add_i64 rfl rfl (by omega) (by omega) | exact RunV.add rfl rfl) rfl ?_
  refine JL.callR ca_42 rfl (natwrite_fn' (k := nbits (d32 l) l.length / 8 + 1) (by assumption) (by omega) (by omega) (by omega)) rfl ?_
  rintro _ h5 hle5 ⟨wa, wc, rfl, hW⟩
  replace hl := hl.mono hle5
  replace hh0 := hh0.mono hle5
  refine Ru 5 rfl ?_
  refine Nk [3, 2] rfl ?_
  refine Sr ?_
  refine Ru 1 rfl ?_
  refine JL.callR ca_40 rfl (prim_fn (by assumption)) rfl ?_
  rintro _ h6 hle6 ⟨w6, rfl, hNd6⟩
  replace hl := hl.mono hle6
  replace hh0 := hh0.mono hle6
  replace hW := hW.mono hle6
  refine JL.storeA ag_25 rfl rfl (by repeat (first | exact Del.here | apply Del.there)) (by first | rfl | exact NdR.all1 (by assumption)) (by first | rfl | assumption | exact NdR.len5 (by assumption)) (by first | rfl | exact NdR.len5 (by assumption)) ?_
  refine JL.nil ?_
  exact J.retR (RetV.cell rfl rfl ag_25 (by repeat (first | exact List.mem_cons_self .. | apply List.mem_cons_of_mem)) (by first | rfl | exact NdR.len5 (by assumption))) ⟨_, rfl, by assumption⟩




/-! ## integers -/
def fitI (n : Int) (j : Nat) : Prop := -128 ≤ n / 256 ^ (j - 1) ∧ n / 256 ^ (j - 1) < 128
instance (n : Int) (j : Nat) : Decidable (fitI n j) := by unfold fitI; infer_instance
theorem ib_top (n : Int) (j : Nat) : byteAt (ibytes n (j + 1)) 0 = (n / 256 ^ j % 256).toNat := by
  show (UInt8.ofNat _).toNat = _
  rw [UInt8.toNat_ofNat']; omega
theorem ib_next (n : Int) (j : Nat) : byteAt (ibytes n (j + 2)) 1 = (n / 256 ^ j % 256).toNat := by
  show (UInt8.ofNat _).toNat = _
  rw [UInt8.toNat_ofNat']; omega
theorem div_step (n : Int) (j : Nat) : n / 256 ^ (j + 1) = n / 256 ^ j / 256 := by
  rw [Int.pow_succ, Int.ediv_ediv_of_nonneg (Int.le_of_lt (Int.pow_pos (by decide)))]
theorem least_ib (n : Int) (j : Nat) (h : fitI n (j + 2)) : leastB (ibytes n (j + 2)) = decide (¬ fitI n (j + 1)) := by
  have e0 : byteAt (ibytes n (j + 2)) 0 = _ := ib_top n (j + 1); have e1 := ib_next n j; have ed := div_step n j
  have hl := ibytes_len n (j + 2)
  unfold leastB
  rw [if_neg (by omega), if_neg (by omega), decide_eq_decide]
  unfold fitI at h ⊢
  rw [show j + 2 - 1 = j + 1 from rfl] at h
  rw [show j + 1 - 1 = j from rfl]
  generalize n / 256 ^ j = q at *
  generalize n / 256 ^ (j + 1) = q' at *
  omega
theorem strip_ib (n : Int) (j : Nat) (hj : j = 0 ∨ ¬ fitI n j) : ∀ k, j + 1 ≤ k → (∀ i, j + 1 ≤ i → i ≤ k → fitI n i) → stripB (ibytes n k) = ibytes n (j + 1)
  | 0, h, _ => by omega
  | 1, h, _ => by
    have : j = 0 := by omega
    subst this
    exact stripB_least (by unfold leastB; rw [if_neg (by rw [ibytes_len]; decide), if_pos (ibytes_len n 1)])
  | k + 2, h, hf => by
    have hlb := least_ib n k (hf (k + 2) h (Nat.le_refl _))
    by_cases hk : k + 1 = j
    · subst hk
      exact stripB_least (by rw [hlb]; exact decide_eq_true (hj.resolve_left (by omega)))
    · rw [stripB_drop (by rw [hlb]; exact decide_eq_false (fun hn => hn (hf (k + 1) (by omega) (by omega))))]
      exact strip_ib n j hj (k + 1) (by omega) (fun i h1 h2 => hf i h1 (by omega))
theorem fit_up (n : Int) (i : Nat) (h : fitI n (i + 1)) : fitI n (i + 2) := by
  have ed := div_step n i
  unfold fitI at *
  rw [show i + 2 - 1 = i + 1 from rfl]
  rw [show i + 1 - 1 = i from rfl] at h
  generalize n / 256 ^ i = q at *
  generalize n / 256 ^ (i + 1) = q' at *
  omega
theorem fit_le (n : Int) (j : Nat) (h : fitI n (j + 1)) : ∀ i, j + 1 ≤ i → fitI n i
  | 0, h1 => by omega
  | 1, h1 => by have : j = 0 := by omega
                subst this; exact h
  | i + 2, h1 => by
    by_cases he : j + 1 = i + 2
    · rw [← he]; exact h
    · exact fit_up n i (fit_le n j h (i + 1) (by omega))
theorem intB_fit (n : Int) (j : Nat) (hj7 : j ≤ 7) (hj : j = 0 ∨ ¬ fitI n j) (h : fitI n (j + 1)) : intB n = ibytes n (j + 1) :=
  strip_ib n j hj 8 (by omega) (fun i h1 _ => fit_le n j h i h1)
theorem fit8 (n : Int) (h0 : -9223372036854775808 ≤ n) (h1 : n ≤ 9223372036854775807) : fitI n 8 := by
  unfold fitI
  rw [show (256 : Int) ^ (8 - 1) = 72057594037927936 by decide]
  omega
theorem tmod256 (q : Int) : (q.tmod 256 = q % 256 ∧ 0 ≤ q.tmod 256) ∨ (q.tmod 256 = q % 256 - 256 ∧ q.tmod 256 < 0) := by
  have h1 := Int.tmod_eq_emod (a := q) (b := 256)
  have h2 := Int.emod_nonneg q (b := 256) (by decide)
  have h3 := Int.emod_lt_of_pos q (b := 256) (by decide)
  split at h1
  · left; omega
  · right; rw [show ((256 : Int).natAbs : Int) = 256 from rfl] at h1; omega
theorem RunV.quo256 {f : Fr} {S : Sig} {h : Part} {L : List Ent} {ty T yt : TypeId} {x y : Operand} {q : Int} (hx : ev S x = some (.int .i64 (q - q % 256))) (hy : ev S y = some (.int .i64 256)) (h0 : -9223372036854775808 ≤ q) (h1 : q ≤ 9223372036854775807) : RunV f S h L (.binOp .quo T x y yt) ty (.int .i64 (q / 256)) := by
  have := RunV.quo (f := f) (h := h) (L := L) (ty := ty) (T := T) (yt := yt) hx hy (by decide)
  have e : (q - q % 256).tdiv 256 = q / 256 := by
    have : q - q % 256 = 256 * (q / 256) := by omega
    rw [this, Int.mul_tdiv_cancel_left _ (by decide)]
  rwa [e, wrap_i64 _ (by omega) (by omega)] at this
end Go.Proofs.YtmngjbefnloljaaDoor
