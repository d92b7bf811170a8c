/- Walks: numbers as nodes; the law DerNumbers. -/
import Derived.Test.YtmngjbefnloljaaDoorNumA
import Derived.Test.YtmngjbefnloljaaDoorDerM
import Derived.Test.YtmngjbefnloljaaDoorDerK
import Derived.Test.YtmngjbefnloljaaDoorDerV4
set_option linter.unusedSimpArgs false
set_option linter.unusedVariables false
set_option linter.constructorNameAsVariable false
namespace Go.Proofs.YtmngjbefnloljaaDoor
open Go Go.RowKit
set_option maxRecDepth 100000
theorem ap_35 : apT Tryd.prog 35 = some (69, 1, 4) := by kernel_rfl
theorem ca_13 : callT Tryd.prog 13 = true := by kernel_rfl
theorem ca_42 : callT Tryd.prog 42 = true := by kernel_rfl
theorem ca_43 : callT Tryd.prog 43 = true := by kernel_rfl
theorem ca_44 : callT Tryd.prog 44 = true := by kernel_rfl
theorem cv_100_69 : convI Tryd.prog 100 69 = some .u32 := by kernel_rfl
theorem zr_69 : zeroT Tryd.prog 69 = some [.int .u32 0] := by kernel_rfl

theorem nbits_le (l : List UInt32) : nbits (d32 l) l.length ≤ 32 * l.length := by
  have h := tsz_le (d32 l) l.length
  have hb := bl_le32 l (tsz (d32 l) l.length - 1)
  unfold nbits; split <;> omega
def natN (l : List UInt32) : Nd := .mk 0 2 false (natW (d32 l) (nbits (d32 l) l.length / 8 + 1)) []
theorem natwrite_fn' {a : Option Addr} {c k : Nat} {q : Int} {l : List UInt32} {h : Part} (hl : SlR u32R 1 h a c l) (hq : q = (k : Int)) (hk : k ≤ 65536) (hb : (nbits (d32 l) l.length + 7) / 8 ≤ k) :
    FnR Tryd.prog 42 [.slice a l.length c, .int .i64 q] h (fun v h' => ∃ a' c', v = .tuple #[.slice a' (natW (d32 l) k).length c', .int .i64 0] ∧ SlR u8R 1 h' a' c' (natW (d32 l) k)) := by
  subst hq; exact natwrite_fn hl hk hb
theorem dernat_fn {a : Option Addr} {c : Nat} {l : List UInt32} {h : Part} (hl : SlR u32R 1 h a c l) (hlen : l.length ≤ 60) : FnR Tryd.prog 21 [.slice a l.length c] h (fun v h' => ∃ cs, v = .agg (List.toArray cs) ∧ NdR h' cs (natN l)) := by
  have hnb := nbits_le l
  refine Fn.intro Tryd.func21 rfl Tryd.ntmps21 rfl (fun e he => ?_)
  refine J.weak [(0, _)] ⟨rfl, trivial⟩ ?_
  have hh0 := Part.le.refl h
  refine Sr ?_
  refine JL.alloc zr_25 rfl (fun b1 => ?_)
  refine JL.nil ?_
  refine J.seq ?_
  refine Sr ?_
  refine Ru 1 rfl ?_
  refine JL.callP ca_41 rfl (natbits_fn (by assumption)) rfl ?_
  refine Ru 1 rfl ?_
  refine JL.nil ?_
  refine Cs rfl (fun hc3 => ?_) fun hc3 => ?_
  ·
   exfalso; omega
  refine J.skip ?_
  refine Sr ?_
  refine Ru 2 rfl ?_
  refine JL.callP ca_41 rfl (natbits_fn (by assumption)) rfl ?_
  refine JL.op (by first | exact RunV.quo_i64 rfl rfl (by omega) (by omega) (by omega) | exact RunV.quo rfl rfl (by omega)) rfl ?_
  refine JL.op (by first | exact RunV.add_i64 rfl rfl (by omega) (by omega) | exact RunV.add rfl rfl) rfl ?_
  refine JL.callR ca_42 rfl (natwrite_fn' (k := nbits (d32 l) l.length / 8 + 1) (by assumption) (by omega) (by omega) (by omega)) rfl ?_
  rintro _ h5 hle5 ⟨wa, wc, rfl, hW⟩
  replace hl := hl.mono hle5
  replace hh0 := hh0.mono hle5
  refine Ru 5 rfl ?_
  refine Nk [3, 2] rfl ?_
  refine Sr ?_
  refine Ru 1 rfl ?_
  refine JL.callR ca_40 rfl (prim_fn (by assumption)) rfl ?_
  rintro _ h6 hle6 ⟨w6, rfl, hNd6⟩
  replace hl := hl.mono hle6
  replace hh0 := hh0.mono hle6
  replace hW := hW.mono hle6
  refine JL.storeA ag_25 rfl rfl (by repeat (first | exact Del.here | apply Del.there)) (by first | rfl | exact NdR.all1 (by assumption)) (by first | rfl | assumption | exact NdR.len5 (by assumption)) (by first | rfl | exact NdR.len5 (by assumption)) ?_
  refine JL.nil ?_
  exact J.retR (RetV.cell rfl rfl ag_25 (by repeat (first | exact List.mem_cons_self .. | apply List.mem_cons_of_mem)) (by first | rfl | exact NdR.len5 (by assumption))) ⟨_, rfl, by assumption⟩




/-! ## integers -/
def fitI (n : Int) (j : Nat) : Prop := -128 ≤ n / 256 ^ (j - 1) ∧ n / 256 ^ (j - 1) < 128
instance (n : Int) (j : Nat) : Decidable (fitI n j) := by unfold fitI; infer_instance
theorem ib_top (n : Int) (j : Nat) : byteAt (ibytes n (j + 1)) 0 = (n / 256 ^ j % 256).toNat := by
  show (UInt8.ofNat _).toNat = _
  rw [UInt8.toNat_ofNat']; omega
theorem ib_next (n : Int) (j : Nat) : byteAt (ibytes n (j + 2)) 1 = (n / 256 ^ j % 256).toNat := by
  show (UInt8.ofNat _).toNat = _
  rw [UInt8.toNat_ofNat']; omega
theorem div_step (n : Int) (j : Nat) : n / 256 ^ (j + 1) = n / 256 ^ j / 256 := by
  rw [Int.pow_succ, Int.ediv_ediv_of_nonneg (Int.le_of_lt (Int.pow_pos (by decide)))]
theorem least_ib (n : Int) (j : Nat) (h : fitI n (j + 2)) : leastB (ibytes n (j + 2)) = decide (¬ fitI n (j + 1)) := by
  have e0 : byteAt (ibytes n (j + 2)) 0 = _ := ib_top n (j + 1); have e1 := ib_next n j; have ed := div_step n j
  have hl := ibytes_len n (j + 2)
  unfold leastB
  rw [if_neg (by omega), if_neg (by omega), decide_eq_decide]
  unfold fitI at h ⊢
  rw [show j + 2 - 1 = j + 1 from rfl] at h
  rw [show j + 1 - 1 = j from rfl]
  generalize n / 256 ^ j = q at *
  generalize n / 256 ^ (j + 1) = q' at *
  omega
theorem strip_ib (n : Int) (j : Nat) (hj : j = 0 ∨ ¬ fitI n j) : ∀ k, j + 1 ≤ k → (∀ i, j + 1 ≤ i → i ≤ k → fitI n i) → stripB (ibytes n k) = ibytes n (j + 1)
  | 0, h, _ => by omega
  | 1, h, _ => by
    have : j = 0 := by omega
    subst this
    exact stripB_least (by unfold leastB; rw [if_neg (by rw [ibytes_len]; decide), if_pos (ibytes_len n 1)])
  | k + 2, h, hf => by
    have hlb := least_ib n k (hf (k + 2) h (Nat.le_refl _))
    by_cases hk : k + 1 = j
    · subst hk
      exact stripB_least (by rw [hlb]; exact decide_eq_true (hj.resolve_left (by omega)))
    · rw [stripB_drop (by rw [hlb]; exact decide_eq_false (fun hn => hn (hf (k + 1) (by omega) (by omega))))]
      exact strip_ib n j hj (k + 1) (by omega) (fun i h1 h2 => hf i h1 (by omega))
theorem fit_up (n : Int) (i : Nat) (h : fitI n (i + 1)) : fitI n (i + 2) := by
  have ed := div_step n i
  unfold fitI at *
  rw [show i + 2 - 1 = i + 1 from rfl]
  rw [show i + 1 - 1 = i from rfl] at h
  generalize n / 256 ^ i = q at *
  generalize n / 256 ^ (i + 1) = q' at *
  omega
theorem fit_le (n : Int) (j : Nat) (h : fitI n (j + 1)) : ∀ i, j + 1 ≤ i → fitI n i
  | 0, h1 => by omega
  | 1, h1 => by have : j = 0 := by omega
                subst this; exact h
  | i + 2, h1 => by
    by_cases he : j + 1 = i + 2
    · rw [← he]; exact h
    · exact fit_up n i (fit_le n j h (i + 1) (by omega))
theorem intB_fit (n : Int) (j : Nat) (hj7 : j ≤ 7) (hj : j = 0 ∨ ¬ fitI n j) (h : fitI n (j + 1)) : intB n = ibytes n (j + 1) :=
  strip_ib n j hj 8 (by omega) (fun i h1 _ => fit_le n j h i h1)
theorem fit8 (n : Int) (h0 : -9223372036854775808 ≤ n) (h1 : n ≤ 9223372036854775807) : fitI n 8 := by
  unfold fitI
  rw [show (256 : Int) ^ (8 - 1) = 72057594037927936 by decide]
  omega
theorem tmod256 (q : Int) : (q.tmod 256 = q % 256 ∧ 0 ≤ q.tmod 256) ∨ (q.tmod 256 = q % 256 - 256 ∧ q.tmod 256 < 0) := by
  have h1 := Int.tmod_eq_emod (a := q) (b := 256)
  have h2 := Int.emod_nonneg q (b := 256) (by decide)
  have h3 := Int.emod_lt_of_pos q (b := 256) (by decide)
  split at h1
  · left; omega
  · right; rw [show ((256 : Int).natAbs : Int) = 256 from rfl] at h1; omega
theorem RunV.quo256 {f : Fr} {S : Sig} {h : Part} {L : List Ent} {ty T yt : TypeId} {x y : Operand} {q : Int} (hx : ev S x = some (.int .i64 (q - q % 256))) (hy : ev S y = some (.int .i64 256)) (h0 : -9223372036854775808 ≤ q) (h1 : q ≤ 9223372036854775807) : RunV f S h L (.binOp .quo T x y yt) ty (.int .i64 (q / 256)) := by
  have := RunV.quo (f := f) (h := h) (L := L) (ty := ty) (T := T) (yt := yt) hx hy (by decide)
  have e : (q - q % 256).tdiv 256 = q / 256 := by
    have : q - q % 256 = 256 * (q / 256) := by omega
    rw [this, Int.mul_tdiv_cancel_left _ (by decide)]
  rwa [e, wrap_i64 _ (by omega) (by omega)] at this

def trimL (l : List UInt32) : List UInt32 := l.take (tsz (d32 l) l.length)
theorem take_next {l r : List UInt32} {i : Nat} (h : l.take i = r.take i) (hl : i < l.length) (hr : i < r.length) (he : l[i].toNat = r[i].toNat) : l.take (i + 1) = r.take (i + 1) := by
  rw [List.take_succ_eq_append_getElem hl, List.take_succ_eq_append_getElem hr, h, UInt32.toNat_inj.1 he]
theorem natsame_fn {a b : Option Addr} {ca cb : Nat} {l r : List UInt32} {h : Part} (hl : SlR u32R 1 h a ca l) (hr : SlR u32R 1 h b cb r) : Pure Tryd.prog 19 [.slice a l.length ca, .slice b r.length cb] h (.bool (decide (l = r))) := by
  have hll := hl.big
  refine Fn.intro Tryd.func19 rfl Tryd.ntmps19 rfl (fun e he => ?_)
  refine J.weak [(0, _), (1, _)] ⟨rfl, rfl, trivial⟩ ?_
  refine Sr ?_
  refine Ru 1 rfl ?_
  refine JL.nil ?_
  refine J.seq ?_
  refine Sr ?_
  refine Ru 5 rfl ?_
  refine JL.nil ?_
  refine Cs rfl (fun hc1 => ?_) fun hc1 => ?_
  ·
   refine Sr ?_
   refine Ru 1 rfl ?_
   refine Nk [4, 0, 1] rfl ?_
   exact J.retP (RetV.one rfl rfl) (by rw [decide_eq_false (fun e => by subst e; omega)]) rfl
  ·
   refine J.skip ?_
   refine Kp [4, 0, 1] rfl ?_
   refine J.seq ?_
   refine Sr ?_
   refine Ru 1 rfl ?_
   refine JL.nil ?_
   refine J.block ?_
   refine J.loop (fun t_ S_ h_ L_ => ∃ (i : Nat), t_ = l.length - i ∧ S_ = [(0, .slice a l.length ca), (1, .slice b r.length cb), (5, .int .i64 i)] ∧ h = h_ ∧ L_ = [] ∧ (i ≤ l.length ∧ l.take i = r.take i)) ⟨_, _, ?_, ⟨0, rfl, rfl, rfl, rfl, ⟨by omega, rfl⟩⟩⟩ ?_
   ·
    repeat (first | exact trivial | refine ⟨rfl, ?_⟩)
   rintro _ _ _ _ ⟨i, rfl, rfl, rfl, rfl, hi, he⟩
   refine J.seq ?_
   refine Sr ?_
   refine Ru 4 rfl ?_
   refine JL.nil ?_
   refine Cs rfl (fun hc2 => ?_) fun hc2 => ?_
   ·
    refine J.skip ?_
    refine J.seq ?_
    refine J.block ?_
    refine J.seq ?_
    refine J.drawn mixed_ (by kernel_rfl) ?_
    refine Rq 2 rfl ?_
    refine JQ.ope (RunE.index sl_35 (m := i) rfl rfl rfl hl rfl (by omega)) rfl ?_
    rintro _ ⟨b8, o8, hi8, rfl, hE8⟩
    refine JQ.op (RunV.ld_u32 ag_69 rfl (by assumption)) rfl ?_
    refine Rq 2 rfl ?_
    refine JQ.ope (RunE.index sl_35 (m := i) rfl rfl rfl hr rfl (by omega)) rfl ?_
    rintro _ ⟨b9, o9, hi9, rfl, hE9⟩
    refine JQ.op (RunV.ld_u32 ag_69 rfl (by assumption)) rfl ?_
    refine Rq 1 rfl ?_
    refine JQ.nil ?_
    refine Cs rfl (fun hc7 => ?_) fun hc7 => ?_
    ·
     refine Sr ?_
     refine Ru 1 rfl ?_
     refine JL.nil ?_
     exact J.retP (RetV.one rfl rfl) (by rw [decide_eq_false (fun e => by subst e; simp_all)]) rfl
    ·
     refine J.skip ?_
     refine Rg ?_
     refine Ru 1 rfl ?_
     refine JL.op (by first | exact RunV.add_i64 rfl rfl (by omega) (by omega) | exact RunV.add rfl rfl) rfl ?_
     refine Ru 1 rfl ?_
     refine JL.nil ?_
     refine ⟨_, ?_, _, ?_, ⟨i + 1, rfl, rfl, rfl, rfl, ⟨by omega, take_next he (by omega) (by omega) (by omega)⟩⟩⟩
     ·
      omega
     ·
      repeat (first | exact trivial | refine ⟨rfl, ?_⟩)
   ·
    refine J.exit ?_
    refine Kp [] rfl ?_
    refine Sr ?_
    refine Ru 1 rfl ?_
    refine JL.nil ?_
    exact J.retP (RetV.one rfl rfl) (by rw [decide_eq_true (by rw [← List.take_of_length_le (show l.length ≤ i by omega), he, List.take_of_length_le (by omega)])]) rfl




theorem tsz_trim (l : List UInt64) : tsz (d64 (cutZ l)) (cutZ l).length = (cutZ l).length := by
  refine tsz_stop _ _ (fun ⟨h1, h2⟩ => ?_)
  have hle := tsz_le (d64 l) l.length
  have hlen : (cutZ l).length = tsz (d64 l) l.length := by unfold cutZ; rw [List.length_take]; omega
  have htop := tsz_top (d64 l) l.length (by omega)
  refine htop ?_
  rw [← hlen, ← d64_take l (tsz (d64 l) l.length) _ (fun i h1 h2 => tsz_zero _ _ i h1 h2)]
  exact h2
theorem cutZ_cutZ (l : List UInt64) : cutZ (cutZ l) = cutZ l := by
  show List.take (tsz (d64 (cutZ l)) (cutZ l).length) (cutZ l) = cutZ l
  exact List.take_of_length_le (Nat.le_of_eq (tsz_trim l).symm)
def n32 (x : UInt64) : UInt32 := UInt32.ofNat x.toNat
theorem n32_m64 (x : UInt32) : n32 (m64 x) = x := by
  unfold n32; rw [m64_nat]; simp
theorem trim_map (l : List UInt32) : (cutZ (digsB l)).map n32 = trimL l := by
  unfold digsB
  rw [cutZ_cutZ]
  unfold cutZ trimL
  rw [tsz_congr (d64_map l), List.length_map, ← List.map_take, List.map_map]
  conv => rhs; rw [← List.map_id (l.take _)]
  exact List.map_congr_left (fun x _ => n32_m64 x)
theorem n32_nat (x : UInt64) (h : x.toNat < 4294967296) : (n32 x).toNat = x.toNat := by
  unfold n32; rw [UInt32.toNat_ofNat']; omega
theorem cutZ_len (l : List UInt64) : (cutZ l).length ≤ l.length := by unfold cutZ; rw [List.length_take]; omega
theorem cutZ_at (l : List UInt64) (i : Nat) : d64 (cutZ l) i = d64 l i := d64_take _ _ _ (fun i h1 h2 => tsz_zero _ _ i h1 h2)
theorem number_fn {a : Option Addr} {c : Nat} {L : List UInt64} {h : Part} (hl : SlR u64R 1 h a c L) (hd : ∀ i, d64 L i < 4294967296) (hlen : L.length ≤ 1000000) : FnR Tryd.prog 43 [.slice a L.length c] h (fun v h' => ∃ a' c', v = .slice a' ((cutZ L).map n32).length c' ∧ SlR u32R 1 h' a' c' ((cutZ L).map n32)) := by
  have hcl := cutZ_len L
  obtain ⟨K, hK⟩ : ∃ K, K = cutZ L := ⟨_, rfl⟩
  have hdK : ∀ i, d64 K i < 4294967296 := fun i => by rw [hK, cutZ_at]; exact hd i
  rw [← hK] at hcl ⊢
  have hml : (K.map n32).length = K.length := List.length_map ..
  refine Fn.intro Tryd.func43 rfl Tryd.ntmps43 rfl (fun e he => ?_)
  refine J.weak [(0, _)] ⟨rfl, trivial⟩ ?_
  refine Sr ?_
  refine Ru 1 rfl ?_
  refine JL.nil ?_
  refine Sr ?_
  refine Ru 1 rfl ?_
  refine JL.callR ca_70 rfl ((hK ▸ cut_fn (by assumption) : FnR _ _ _ _ (fun v h' => ∃ a' c', v = .slice a' K.length c' ∧ SlR u64R 1 h' a' c' K))) rfl ?_
  rintro _ h1 hle1 ⟨da, dc, rfl, hD⟩
  replace hl := hl.mono hle1
  refine Ru 1 rfl ?_
  refine JL.nil ?_
  refine Sr ?_
  refine Ru 1 rfl ?_
  refine JL.nil ?_
  refine J.seq ?_
  refine Sr ?_
  refine JL.row_nil 69 1 ?_
  refine Ru 1 rfl ?_
  refine JL.nil ?_
  refine J.block ?_
  refine J.loop (fun t_ S_ h_ L_ => ∃ (g : Part) (i : Nat) (ao : Option Addr) (co : Nat) (xs : List Value), t_ = K.length - i ∧ S_ = [(0, .slice da K.length dc), (3, .slice ao ((K.map n32).take i).length co), (4, .int .i64 i)] ∧ g = h_ ∧ L_ = [.row ao co 69 1 ((K.map n32).take i).length xs] ∧ (h1.le g ∧ i ≤ K.length ∧ CellsR u32R 1 g xs ((K.map n32).take i))) ⟨_, _, ?_, ⟨_, 0, _, _, _, rfl, rfl, rfl, rfl, ⟨Part.le.refl _, by omega, CellsR.nil⟩⟩⟩ ?_
  ·
   repeat (first | exact trivial | refine ⟨rfl, ?_⟩)
  rintro _ _ _ _ ⟨g, i, ao, co, xs, rfl, rfl, rfl, rfl, hhg, hi, hC⟩
  have hD := hD.mono hhg
  refine J.seq ?_
  refine Sr ?_
  refine Ru 4 rfl ?_
  refine JL.nil ?_
  refine Cs rfl (fun hc2 => ?_) fun hc2 => ?_
  ·
   have hi2 : i < K.length := (by omega); have hi' : i < (K.map n32).length := (by omega); have htl : ((K.map n32).take i).length = i := (by rw [List.length_take]; omega); have hke : (K.map n32).take i ++ [n32 (K[i]'hi2)] = (K.map n32).take (i + 1) := (by rw [List.take_succ_eq_append_getElem hi', List.getElem_map]); have hki : (K[i]'hi2).toNat < 4294967296 := (by have := hdK i; have e := d64_at K i hi2; omega)
   refine J.skip ?_
   refine J.seq ?_
   refine J.block ?_
   refine Rg ?_
   refine Ru 3 rfl ?_
   refine JL.ope (RunE.index sl_75 rfl rfl (by first | with_reducible rfl | exact (Int.toNat_of_nonneg (by omega)).symm) (by assumption) rfl (by omega)) rfl ?_
   rintro _ ⟨b3, o3, hi3, rfl, hE3⟩
   refine JL.op (RunV.ld_u64 ag_100 rfl (by assumption)) rfl ?_
   refine JL.op (by first | exact RunV.conv_u32 cv_100_69 rfl (by omega) (by omega) | exact RunV.conv cv_100_69 rfl) rfl ?_
   refine JL.lit1 ap_35 zr_69 rfl rfl rfl rfl rfl (fun b5 => ?_)
   refine JL.append1 ap_35 rfl rfl (by assumption) rfl (by repeat (first | exact Del.here | apply Del.there)) (by repeat (first | exact Del.here | apply Del.there)) rfl ((by show _ = _; rw [n32_nat _ hki] : u32R _ [.int .u32 (K[i].toNat : Int)] (n32 K[i]))) (by first | omega | (simp only [List.length_append, List.length_cons, List.length_nil]; omega)) rfl rfl (fun a6 c6 xs6 hC6 hN6 => ?_)
   rw [hke] at *
   refine Ru 1 rfl ?_
   refine JL.nil ?_
   refine Rg ?_
   refine Ru 1 rfl ?_
   refine JL.op (by first | exact RunV.add_i64 rfl rfl (by omega) (by omega) | exact RunV.add rfl rfl) rfl ?_
   refine Ru 1 rfl ?_
   refine JL.nil ?_
   refine ⟨_, ?_, _, ?_, ⟨_, i + 1, _, _, _, rfl, rfl, rfl, rfl, ⟨by assumption, by omega, by assumption⟩⟩⟩
   ·
    omega
   ·
    repeat (first | exact trivial | refine ⟨rfl, ?_⟩)
  ·
   refine J.exit ?_
   refine Kp [3] rfl ?_
   refine Sr ?_
   refine Ru 1 rfl ?_
   have hke : (K.map n32).take i = K.map n32 := List.take_of_length_le (by omega); rw [hke] at hC ⊢; refine JL.pub (R := u32R) (by repeat (first | exact Del.here | apply Del.there)) (by assumption) rfl (by omega) (fun h9 hle9 hS9 => ?_)
   refine Ru 1 rfl ?_
   refine JL.nil ?_
   exact J.retR (RetV.one rfl rfl) ⟨_, _, rfl, by assumption⟩



theorem rtrim_fn {a : Option Addr} {c : Nat} {l : List UInt32} {h : Part} (hl : SlR u32R 1 h a c l) (hlen : l.length ≤ 1000000) : FnR Tryd.prog 22 [.slice a l.length c] h (fun v h' => ∃ a' c', v = .slice a' (trimL l).length c' ∧ SlR u32R 1 h' a' c' (trimL l)) := by
  have htm := trim_map l
  refine Fn.intro Tryd.func22 rfl Tryd.ntmps22 rfl (fun e he => ?_)
  refine J.weak [(0, _)] ⟨rfl, trivial⟩ ?_
  refine Sr ?_
  refine Ru 1 rfl ?_
  refine JL.nil ?_
  refine Sr ?_
  refine Ru 1 rfl ?_
  refine JL.callR ca_44 rfl (digits32_fn (by assumption) (by omega)) rfl ?_
  rintro _ h1 hle1 ⟨a1, c1, rfl, hS1⟩
  replace hl := hl.mono hle1
  refine JL.callR ca_43 rfl (number_fn (by assumption) (fun i => by rw [digsB_at]; exact d32_lt _ _) (by rw [digsB_len]; have := tsz_le (d32 l) l.length; omega)) rfl ?_
  rintro _ h2 hle2 ⟨a2, c2, rfl, hS2⟩
  replace hl := hl.mono hle2
  replace hS1 := hS1.mono hle2
  refine Ru 1 rfl ?_
  refine Nk [2] rfl ?_
  rw [← htm]; exact J.retR (RetV.one rfl rfl) ⟨_, _, rfl, by assumption⟩




theorem whole_fn {c t : Int} {k : Bool} {bs : List UInt8} {ks : List Nd} {cs : List Value} {h : Part} (r : NdR h cs (.mk c t k bs ks)) (hT : Tabs h) (hsz : (Nd.mk c t k bs ks).sz ≤ 1073741824) :
    Pure Tryd.prog 35 [.agg cs.toArray] h (.bool ((decide (c = 0) && (decide (t = 2) || decide (t = 10))) && (Nd.mk c t k bs ks).put.isSome)) := by
  obtain ⟨ka, kca, kb, kcb, rfl, hka, hkb⟩ := r.inv
  refine Pure.ofV ?_
  refine Fn.intro Tryd.func35 rfl Tryd.ntmps35 rfl (fun e he => ?_)
  refine J.weak [(0, _)] ⟨rfl, trivial⟩ ?_
  refine Sr ?_
  refine JL.box rfl rfl rfl (fun b1 => ?_)
  refine Ru 1 rfl ?_
  refine JL.nil ?_
  refine Sr ?_
  refine Ru 1 rfl ?_
  refine JL.op (RunV.own1 ag_3 rfl (by repeat (first | exact List.mem_cons_self .. | apply List.mem_cons_of_mem)) rfl) rfl ?_
  refine Ru 2 rfl ?_
  apply An 6 15 9 [2, 1] rfl rfl
  ·
   intro hb2 hc2
   refine Ru 1 rfl ?_
   refine JL.opg rfl rfl  (RunV.own1 ag_3 rfl (by repeat (first | exact List.mem_cons_self .. | apply List.mem_cons_of_mem)) rfl) rfl ?_
   refine Ru 2 rfl ?_
   apply On 10 14 4 [6, 2, 1] rfl rfl
   rotate_left
   ·
    intro hb3 hc3
    refine Ru 1 rfl ?_
    refine JL.opg rfl rfl  (RunV.own1 ag_3 rfl (by repeat (first | exact List.mem_cons_self .. | apply List.mem_cons_of_mem)) rfl) rfl ?_
    refine Ru 2 rfl ?_
    exact Ae (om_f hb3 rfl) rfl
   rotate_right
   ·
    exact fun hb3 _ => Ru 4 rfl (Ae (om_t hb3 rfl) rfl)
   refine Ru 1 rfl ?_
   exact Ae (am_t hb2 rfl) rfl
  ·
   exact fun hb2 _ => Ru 9 rfl (Ae (am_f hb2 rfl) rfl)
  refine Ru 1 rfl ?_
  apply An 16 19 3 [2] rfl rfl
  ·
   intro hb4 hc4
   refine JL.opg rfl rfl  (RunV.ownA ag_25 rfl (by repeat (first | exact List.mem_cons_self .. | apply List.mem_cons_of_mem)) (by first | rfl | exact NdR.len5 (by assumption))) rfl ?_
   refine JL.callPg rfl rfl  ca_13 rfl (right_fn r hT hsz) rfl ?_
   refine Ru 1 rfl ?_
   exact Ae (am_t hb4 rfl) rfl
  ·
   exact fun hb4 _ => Ru 3 rfl (Ae (am_f hb4 rfl) rfl)
  refine Ru 1 rfl ?_
  refine JL.nil ?_
  exact J.retV (RetV.one rfl rfl) rfl
theorem bits_join256 (x y : Int) (hx : x % 256 = 0) (hx0 : -9223372036854775808 ≤ x) (hx1 : x ≤ 9223372036854775807) (hy0 : 0 ≤ y) (hy1 : y < 256) : bits .or .i64 x y = x + y := by
  have e1 : (BitVec.ofInt 64 x).toNat = (x % 18446744073709551616).toNat := by rw [BitVec.toNat_ofInt]; rfl
  have e2 : (BitVec.ofInt 64 y).toNat = y.toNat := by rw [BitVec.toNat_ofInt, show (((2 ^ 64 : Nat) : Int)) = 18446744073709551616 from rfl]; omega
  show IntKind.i64.wrap (((BitVec.ofInt 64 x) ||| (BitVec.ofInt 64 y)).toNat : Nat) = x + y
  rw [BitVec.toNat_or, e1, e2]
  obtain ⟨q, hq⟩ : ∃ q : Nat, (x % 18446744073709551616).toNat = 2 ^ 8 * q := ⟨(x % 18446744073709551616).toNat / 256, by omega⟩
  rw [hq, ← Nat.two_pow_add_eq_or_of_lt (show y.toNat < 2 ^ 8 by omega) q, IntKind.wrap_i64]
  omega
theorem ib_at (n : Int) : ∀ (j i : Nat), i < j → byteAt (ibytes n j) i = (n / 256 ^ (j - 1 - i) % 256).toNat
  | j + 1, 0, _ => by rw [ib_top]; rfl
  | j + 1, i + 1, h => by
    have := ib_at n j i (by omega)
    rw [show j + 1 - 1 - (i + 1) = j - 1 - i by omega, ← this]
    rfl
theorem ib_step (n : Int) (j i : Nat) (h : i < j) : n / 256 ^ (j - (i + 1)) = n / 256 ^ (j - i) * 256 + byteAt (ibytes n j) i := by
  have hd := div_step n (j - (i + 1))
  rw [show j - (i + 1) + 1 = j - i by omega] at hd
  rw [ib_at n j i h, hd, show j - 1 - i = j - (i + 1) by omega]
  omega
theorem RunV.join256 {f : Fr} {S : Sig} {h : Part} {L : List Ent} {ty T yt : TypeId} {x y : Operand} {p q : Int} (hx : ev S x = some (.int .i64 p)) (hy : ev S y = some (.int .i64 q)) (hp : p % 256 = 0) (h0 : -9223372036854775808 ≤ p) (h1 : p ≤ 9223372036854775807) (hq0 : 0 ≤ q) (hq : q < 256) : RunV f S h L (.binOp .or T x y yt) ty (.int .i64 (p + q)) := by
  have := RunV.or_ (f := f) (h := h) (L := L) (ty := ty) (T := T) (yt := yt) hx hy
  rwa [bits_join256 p q hp h0 h1 hq0 hq] at this
end Go.Proofs.YtmngjbefnloljaaDoor
