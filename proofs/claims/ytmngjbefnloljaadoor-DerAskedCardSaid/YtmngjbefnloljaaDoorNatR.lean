/- Walks: numbers out of bytes; integers and numbers out of nodes. -/
import Derived.Test.YtmngjbefnloljaaDoorNatV
import Derived.Test.YtmngjbefnloljaaDoorNumE
set_option linter.unusedSimpArgs false
set_option linter.unusedVariables false
set_option linter.constructorNameAsVariable false
namespace Go.Proofs.YtmngjbefnloljaaDoor
open Go Go.RowKit
set_option maxRecDepth 100000
theorem ca_35 : callT Tryd.prog 35 = true := by kernel_rfl
theorem ca_37 : callT Tryd.prog 37 = true := by kernel_rfl
theorem ca_67 : callT Tryd.prog 67 = true := by kernel_rfl
theorem cv_5_2 : convI Tryd.prog 5 2 = some .i64 := by kernel_rfl
theorem cv_5_66 : convI Tryd.prog 5 66 = some .i8 := by kernel_rfl
theorem cv_5_69 : convI Tryd.prog 5 69 = some .u32 := by kernel_rfl
theorem cv_66_2 : convI Tryd.prog 66 2 = some .i64 := by kernel_rfl
theorem mk_35 : mkT Tryd.prog 35 = some (69, .int .u32 0, 4) := by kernel_rfl

theorem nattrim_fn {a : Option Addr} {c : Nat} {l : List UInt32} {h : Part} (hl : SlR u32R 1 h a c l) (hlb : l.length ≤ 1073741824) : FnR Tryd.prog 67 [.slice a l.length c] h (fun v h' => ∃ a' c', v = .slice a' (toL (vL l)).length c' ∧ SlR u32R 1 h' a' c' (toL (vL l))) := by
  have hll := hl.big
  have ht := tsz_le (d32 l) l.length
  have htr : l.take (tsz (d32 l) l.length) = toL (vL l) := trim_toL l
  have hlen : (toL (vL l)).length = tsz (d32 l) l.length := by rw [toL_len, tsz_nd]
  refine Fn.intro Tryd.func67 rfl Tryd.ntmps67 rfl (fun e he => ?_)
  refine J.weak [(0, _)] ⟨rfl, trivial⟩ ?_
  have hh0 := Part.le.refl h
  refine Sr ?_
  refine Ru 1 rfl ?_
  refine JL.nil ?_
  refine Sr ?_
  refine Ru 1 rfl ?_
  refine JL.callP ca_68 rfl (natsize_fn (by assumption)) rfl ?_
  refine Ru 1 rfl ?_
  refine JL.nil ?_
  refine J.seq ?_
  refine Sr ?_
  refine Ru 2 rfl ?_
  refine JL.nil ?_
  refine Cs rfl (fun hc2 => ?_) fun hc2 => ?_
  ·
   have h0 : toL (vL l) = [] := List.eq_nil_of_length_eq_zero (by omega)
   refine Sr ?_
   refine Ru 1 rfl ?_
   refine Nk [2, 3, 0] rfl ?_
   rw [h0]; exact J.retR (RetV.one rfl rfl) ⟨none, 0, rfl, SlR.nil_⟩
  ·
   refine J.skip ?_
   refine Kp [3, 2, 0] rfl ?_
   refine Sr ?_
   refine Ru 2 rfl ?_
   refine JL.ope (RunE.cut_h sl_35 (m := tsz (d32 l) l.length) rfl rfl rfl hl rfl (by omega)) rfl ?_
   rintro _ ⟨a9, c9, rfl, hS9⟩
   rw [htr] at hS9 ⊢; refine JL.row_nil 69 1 ?_
   refine JL.append (R := u32R) ap_35 rfl rfl CellsR.nil rfl hS9 rfl (by repeat (first | exact Del.here | apply Del.there)) (by simp only [List.length_nil]; omega) rfl rfl (fun a8 c8 xs8 hC8 hN8 => ?_)
   simp only [List.nil_append] at hC8 ⊢; refine JL.pub (R := u32R) (by repeat (first | exact Del.here | apply Del.there)) hC8 rfl (by omega) (fun h9 hle9 hP9 => ?_)
   refine Ru 1 rfl ?_
   refine Nk [2] rfl ?_
   exact J.retR (RetV.one rfl rfl) ⟨_, _, rfl, hP9⟩
theorem nattrim_fn' {a : Option Addr} {c n : Nat} {l : List UInt32} {h : Part} (hl : SlR u32R 1 h a c l) (hn : n = l.length) (hlb : n ≤ 1073741824) : FnR Tryd.prog 67 [.slice a n c] h (fun v h' => ∃ a' c', v = .slice a' (toL (vL l)).length c' ∧ SlR u32R 1 h' a' c' (toL (vL l))) := by
  subst hn; exact nattrim_fn hl hlb




theorem shl8 (i : Nat) : (2 : Int) ^ (8 * ((i : Int) % 4)).toNat = ((256 ^ (i % 4) : Nat) : Int) := by
  have : (8 * ((i : Int) % 4)).toNat = 8 * (i % 4) := by omega
  rw [this, Int.natCast_pow, Int.pow_mul]; rfl
theorem two8 (j : Nat) : (2 : Int) ^ (8 * j) = ((256 ^ j : Nat) : Int) := by rw [Int.natCast_pow, Int.pow_mul]; rfl
theorem bits_or_comm (k : IntKind) (p q : Int) : bits .or k p q = bits .or k q p := by
  show k.wrap _ = k.wrap _
  rw [BitVec.or_comm]
theorem RunV.joinr_u32 {f : Fr} {S : Sig} {h : Part} {L : List Ent} {ty T yt : TypeId} {x y : Operand} {p q : Int} (i : Nat) (D : Int) (hx : ev S x = some (.int .u32 p)) (hy : ev S y = some (.int .u32 q)) (hD : (2 : Int) ^ i = D) (h0 : 0 ≤ q) (hp : q % D = 0) (h1 : q ≤ 4294967295) (hq0 : 0 ≤ p) (hq : p < D) (hq1 : p ≤ 4294967295) : RunV f S h L (.binOp .or T x y yt) ty (.int .u32 (p + q)) := by
  have := RunV.or_ (f := f) (h := h) (L := L) (ty := ty) (T := T) (yt := yt) hx hy
  rwa [bits_or_comm, bits_join .u32 32 (by decide) wraps_u32' i q p h0 (by rw [hD]; exact hp) (by omega) hq0 (by rw [hD]; exact hq) (by omega), Int.add_comm] at this
theorem pow4 (r : Nat) (h : r < 4) : 256 ^ r = 1 ∨ 256 ^ r = 256 ∨ 256 ^ r = 65536 ∨ 256 ^ r = 16777216 := by
  have : r = 0 ∨ r = 1 ∨ r = 2 ∨ r = 3 := by omega
  rcases this with rfl | rfl | rfl | rfl <;> simp
theorem natread_fn {a : Option Addr} {c : Nat} {l : List UInt8} {h : Part} (hl : SlR u8R 1 h a c l) (hlen : l.length ≤ 1073741824) : FnR Tryd.prog 37 [.slice a l.length c] h (fun v h' => ∃ a' c', v = .slice a' (toL (beV l)).length c' ∧ SlR u32R 1 h' a' c' (toL (beV l))) := by
  refine Fn.intro Tryd.func37 rfl Tryd.ntmps37 rfl (fun e he => ?_)
  refine J.weak [(0, _)] ⟨rfl, trivial⟩ ?_
  have hh0 := Part.le.refl h
  refine Sr ?_
  refine Ru 1 rfl ?_
  refine JL.nil ?_
  refine Sr ?_
  refine Ru 2 rfl ?_
  refine JL.op (by first | exact RunV.add_i64 rfl rfl (by omega) (by omega) | exact RunV.add rfl rfl) rfl ?_
  refine JL.op (by first | exact RunV.quo_i64 rfl rfl (by omega) (by omega) (by omega) | exact RunV.quo rfl rfl (by omega)) rfl ?_
  refine JL.make1 mk_35 rfl rfl (m := (l.length + 3) / 4) (by omega) (by omega) (by omega) rfl rfl (fun b1 => ?_); rw [ws_zero]
  refine Ru 1 rfl ?_
  refine Nk [3, 2, 0] rfl ?_
  refine J.seq ?_
  refine Sr ?_
  refine Ru 3 rfl ?_
  refine JL.nil ?_
  refine J.block ?_
  refine J.loop (fun t_ S_ h_ L_ => ∃ (i v : Nat), t_ = l.length - i ∧ S_ = [(0, .slice a l.length c), (3, .slice (some ⟨b1, 0, none⟩) ((l.length + 3) / 4) ((l.length + 3) / 4)), (12, .int .i64 l.length), (13, .int .i64 i)] ∧ h = h_ ∧ L_ = [.row (some ⟨b1, 0, none⟩) ((l.length + 3) / 4) 69 1 ((l.length + 3) / 4) (ws .u32 (digN ((l.length + 3) / 4) v))] ∧ (i ≤ l.length ∧ v = beV (l.drop (l.length - i)))) ⟨_, _, ?_, ⟨0, 0, rfl, rfl, rfl, rfl, ⟨by omega, by simp [beV]⟩⟩⟩ ?_
  ·
   repeat (first | exact trivial | refine ⟨rfl, ?_⟩)
  rintro _ _ _ _ ⟨i, v, rfl, rfl, rfl, rfl, hi, hv⟩
  refine Sr ?_
  refine Ru 1 rfl ?_
  refine JL.nil ?_
  refine J.seq ?_
  refine Cs rfl (fun hc2 => ?_) fun hc2 => ?_
  ·
   have hi' : i < l.length := (by omega); have hvl := beV_drop_lt l i (by omega); have hbl := byteAt_lt l (l.length - 1 - i); have hdb := digN_byte ((l.length + 3) / 4) _ _ i hvl hbl (by omega); have hst := beV_drop l i hi'; have hd0 := digN_at ((l.length + 3) / 4) (beV (l.drop (l.length - i))) (i / 4) (by omega); have hr4 := pow4 (i % 4) (by omega); have hbe := byteAt_eq l (l.length - 1 - i) (by omega); rw [← hv] at hvl hdb hst hd0; have hsb : byteAt l (l.length - 1 - i) * 256 ^ (i % 4) ≤ 4278190080 := (by rcases hr4 with e | e | e | e <;> rw [e] <;> omega); have hsum : v / 4294967296 ^ (i / 4) + byteAt l (l.length - 1 - i) * 256 ^ (i % 4) < 4294967296 := (by have := hdb.2; rcases hr4 with e | e | e | e <;> rw [e] at this ⊢ <;> omega); have hdd : d32 (digN ((l.length + 3) / 4) v) (i / 4) = v / 4294967296 ^ (i / 4) := (by rw [hd0]; exact Nat.mod_eq_of_lt (by omega))
   refine J.skip ?_
   refine J.seq ?_
   refine J.block ?_
   refine Sr ?_
   refine Ru 2 rfl ?_
   refine JL.nil ?_
   refine Sr ?_
   refine Ru 2 rfl ?_
   refine JL.op (by first | exact RunV.sub_i64 rfl rfl (by omega) (by omega) | exact RunV.sub rfl rfl) rfl ?_
   refine Ru 1 rfl ?_
   refine JL.op (by first | exact RunV.sub_i64 rfl rfl (by omega) (by omega) | exact RunV.sub rfl rfl) rfl ?_
   refine Ru 1 rfl ?_
   refine JL.nil ?_
   refine J.held ([]) 17 mixed_ rfl (fun h00 => ?_)
   refine JH.take 0 rfl (by kernel_rfl) (by kernel_rfl) (by kernel_rfl) (fun _ _ _ _ hh => hh) (Ok.bridge (by repeat first | exact Parts.nil | exact Del.here | apply Del.there | apply Parts.cons) (by first | exact Part.le.refl _ | assumption) h00) (RunV.move rfl) rfl ?_
   refine JH.take 1 rfl (by kernel_rfl) (by kernel_rfl) (by kernel_rfl) (fun _ _ _ _ hh => hh) (Ok.bridge (by repeat first | exact Parts.nil | exact Del.here | apply Del.there | apply Parts.cons) (by first | exact Part.le.refl _ | assumption) h00) (RunV.move rfl) rfl ?_
   refine JH.take 2 rfl (by kernel_rfl) (by kernel_rfl) (by kernel_rfl) (fun _ _ _ _ hh => hh) (Ok.bridge (by repeat first | exact Parts.nil | exact Del.here | apply Del.there | apply Parts.cons) (by first | exact Part.le.refl _ | assumption) h00) (by first | exact RunV.quo_i64 rfl rfl (by omega) (by omega) (by omega) | exact RunV.quo rfl rfl (by omega)) rfl ?_
   refine JH.take 3 rfl (by kernel_rfl) (by kernel_rfl) (by kernel_rfl) (fun _ _ _ _ hh => hh) (Ok.bridge (by repeat first | exact Parts.nil | exact Del.here | apply Del.there | apply Parts.cons) (by first | exact Part.le.refl _ | assumption) h00) (RunV.index_at sl_35 (m := i / 4) rfl rfl (by omega) (by omega)) rfl ?_
   refine JH.take 5 rfl (by kernel_rfl) (by kernel_rfl) (by kernel_rfl) (fun _ _ _ _ hh => hh) (Ok.bridge (by repeat first | exact Parts.nil | exact Del.here | apply Del.there | apply Parts.cons) (by first | exact Part.le.refl _ | assumption) h00) (RunV.move rfl) rfl ?_
   refine JH.take 6 rfl (by kernel_rfl) (by kernel_rfl) (by kernel_rfl) (fun _ _ _ _ hh => hh) (Ok.bridge (by repeat first | exact Parts.nil | exact Del.here | apply Del.there | apply Parts.cons) (by first | exact Part.le.refl _ | assumption) h00) (RunV.move rfl) rfl ?_
   refine JH.takeE 7 rfl (by kernel_rfl) (by kernel_rfl) (by kernel_rfl) (fun _ _ _ _ hh => hh) (Ok.bridge (by repeat first | exact Parts.nil | exact Del.here | apply Del.there | apply Parts.cons) (by first | exact Part.le.refl _ | assumption) h00) (RunE.index (m := l.length - 1 - i) sl_22 rfl rfl (by omega) hl rfl (by omega)) rfl ?_
   rintro _ ⟨b8, o8, hi8, rfl, hE8⟩
   refine JH.take 8 rfl (by kernel_rfl) (by kernel_rfl) (by kernel_rfl) (fun _ _ _ _ hh => hh) (Ok.bridge (by repeat first | exact Parts.nil | exact Del.here | apply Del.there | apply Parts.cons) (by first | exact Part.le.refl _ | assumption) h00) ((hbe ▸ RunV.ld_u8 ag_5 rfl hE8 : RunV _ _ _ _ _ _ (.int .u8 (byteAt l (l.length - 1 - i) : Nat)))) rfl ?_
   refine JH.take 9 rfl (by kernel_rfl) (by kernel_rfl) (by kernel_rfl) (fun _ _ _ _ hh => hh) (Ok.bridge (by repeat first | exact Parts.nil | exact Del.here | apply Del.there | apply Parts.cons) (by first | exact Part.le.refl _ | assumption) h00) (RunV.conv_u32 cv_5_69 rfl (by omega) (by omega)) rfl ?_
   refine JH.take 10 rfl (by kernel_rfl) (by kernel_rfl) (by kernel_rfl) (fun _ _ _ _ hh => hh) (Ok.bridge (by repeat first | exact Parts.nil | exact Del.here | apply Del.there | apply Parts.cons) (by first | exact Part.le.refl _ | assumption) h00) (RunV.move rfl) rfl ?_
   refine JH.take 11 rfl (by kernel_rfl) (by kernel_rfl) (by kernel_rfl) (fun _ _ _ _ hh => hh) (Ok.bridge (by repeat first | exact Parts.nil | exact Del.here | apply Del.there | apply Parts.cons) (by first | exact Part.le.refl _ | assumption) h00) (by first | exact RunV.rem_i64 rfl rfl (by omega) (by omega) | exact RunV.rem rfl rfl (by omega)) rfl ?_
   refine JH.take 12 rfl (by kernel_rfl) (by kernel_rfl) (by kernel_rfl) (fun _ _ _ _ hh => hh) (Ok.bridge (by repeat first | exact Parts.nil | exact Del.here | apply Del.there | apply Parts.cons) (by first | exact Part.le.refl _ | assumption) h00) (by first | exact RunV.mul_i64 rfl rfl (by omega) (by omega) | exact RunV.mul rfl rfl) rfl ?_
   refine JH.take 13 rfl (by kernel_rfl) (by kernel_rfl) (by kernel_rfl) (fun _ _ _ _ hh => hh) (Ok.bridge (by repeat first | exact Parts.nil | exact Del.here | apply Del.there | apply Parts.cons) (by first | exact Part.le.refl _ | assumption) h00) (RunV.shl_u32 ((256 ^ (i % 4) : Nat) : Int) rfl rfl (by omega) (by omega) (shl8 i) (by rw [← Int.natCast_mul]; omega) (by rw [← Int.natCast_mul]; omega)) rfl ?_
   refine JH.all1 4 (by kernel_rfl) rfl ?_
   unfold One
   refine JL.op (RunV.wload ag_69 rfl (by repeat (first | exact List.mem_cons_self .. | apply List.mem_cons_of_mem)) (by rw [digN_len]; omega)) rfl ?_
   refine JL.nil ⟨(Ok.bridge (by repeat first | exact Parts.nil | exact Del.here | apply Del.there | apply Parts.cons) (by first | exact Part.le.refl _ | assumption) h00), ?_⟩
   refine JH.take 14 rfl (by kernel_rfl) (by kernel_rfl) (by kernel_rfl) (fun _ _ _ _ hh => hh) (Ok.bridge (by repeat first | exact Parts.nil | exact Del.here | apply Del.there | apply Parts.cons) (by first | exact Part.le.refl _ | assumption) h00) (RunV.joinr_u32 (8 * (i % 4)) ((256 ^ (i % 4) : Nat) : Int) rfl rfl (two8 (i % 4)) (by rw [← Int.natCast_mul]; omega) (Int.mul_emod_left _ _) (by rw [← Int.natCast_mul]; omega) (by omega) (by have := hdb.2; omega) (by omega)) rfl ?_
   refine JH.take 15 rfl (by kernel_rfl) (by kernel_rfl) (by kernel_rfl) (fun _ _ _ _ hh => hh) (Ok.bridge (by repeat first | exact Parts.nil | exact Del.here | apply Del.there | apply Parts.cons) (by first | exact Part.le.refl _ | assumption) h00) (RunV.index_at sl_35 (m := i / 4) rfl rfl (by omega) (by omega)) rfl ?_
   refine JH.all1 16 (by kernel_rfl) rfl ?_
   unfold One
   refine JL.storeW (v / 4294967296 ^ (i / 4) + byteAt l (l.length - 1 - i) * 256 ^ (i % 4)) ag_69 rfl rfl (by rw [Nat.mod_eq_of_lt hsum, hdd, ← Int.natCast_mul, ← Int.natCast_add]) (by repeat (first | exact Del.here | apply Del.there)) (by rw [digN_len]; omega) ?_
   rw [← hdb.1]
   refine JL.nil ⟨(Ok.bridge (by repeat first | exact Parts.nil | exact Del.here | apply Del.there | apply Parts.cons) (by first | exact Part.le.refl _ | assumption) h00), ?_⟩
   refine JH.done (by kernel_rfl) ?_
   refine Rg ?_
   refine JL.op (by first | exact RunV.add_i64 rfl rfl (by omega) (by omega) | exact RunV.add rfl rfl) rfl ?_
   refine Ru 1 rfl ?_
   refine JL.nil ?_
   refine ⟨_, ?_, _, ?_, ⟨i + 1, v + byteAt l (l.length - 1 - i) * 256 ^ i, rfl, rfl, rfl, rfl, ⟨by omega, by rw [hst, Nat.add_comm]⟩⟩⟩
   ·
    omega
   ·
    repeat (first | exact trivial | refine ⟨rfl, ?_⟩)
  ·
   refine J.exit ?_
   refine Kp [3] rfl ?_
   refine Sr ?_
   refine Ru 1 rfl ?_
   refine JL.pub32 (by repeat (first | exact Del.here | apply Del.there)) (by rw [digN_len]) (by rw [digN_len]; omega) (fun h9 hle9 hP9 => ?_); replace hl := hl.mono hle9; replace hh0 := hh0.mono hle9; have hve : vL (digN ((l.length + 3) / 4) v) = beV l := (by rw [vL_digN, hv, show l.length - i = 0 by omega, List.drop_zero]; refine Nat.mod_eq_of_lt (Nat.lt_of_lt_of_le (beV_lt l) ?_); rw [show (4294967296 : Nat) = 256 ^ 4 from rfl, ← Nat.pow_mul]; exact Nat.pow_le_pow_right (by decide) (by omega))
   refine JL.callR ca_67 rfl (nattrim_fn' hP9 (by rw [digN_len]) (by omega)) rfl ?_
   rintro _ h5 hle5 ⟨ra, rc, rfl, hR⟩
   replace hl := hl.mono hle5
   replace hh0 := hh0.mono hle5
   refine Ru 1 rfl ?_
   refine JL.nil ?_
   rw [hve] at hR ⊢; exact J.retR (RetV.one rfl rfl) ⟨_, _, rfl, hR⟩




def Nd.whole (x : Nd) : Bool := (decide (x.cls = 0) && (decide (x.tag = 2) || decide (x.tag = 10))) && x.put.isSome
theorem whole_fn' {x : Nd} {cs : List Value} {h : Part} (r : NdR h cs x) (hT : Tabs h) (hsz : x.sz ≤ 1073741824) : Pure Tryd.prog 35 [.agg cs.toArray] h (.bool x.whole) := by
  cases x; exact whole_fn r hT hsz



theorem form_int {t : Int} (h : t = 2 ∨ t = 10) : form t = 1 := by rcases h with rfl | rfl <;> rfl
theorem whole_iff {c t : Int} {k : Bool} {bs : List UInt8} {ks : List Nd} : (Nd.mk c t k bs ks).whole = true ↔ c = 0 ∧ (t = 2 ∨ t = 10) ∧ k = false ∧ ks = [] ∧ leastB bs = true := by
  show ((decide (c = 0) && (decide (t = 2) || decide (t = 10))) && (Nd.mk c t k bs ks).put.isSome) = true ↔ _
  simp only [Bool.and_eq_true, Bool.or_eq_true, decide_eq_true_eq]
  constructor
  · rintro ⟨⟨rfl, ht⟩, hp⟩
    simp only [Nd.put] at hp
    split at hp
    · rename_i hok
      have hf := form_int ht
      have hr : 0 ≤ t ∧ t ≤ 30 := by omega
      unfold okN mayB at hok
      rw [hf, valB_2 ht] at hok
      cases k with
      | true => simp at hok
      | false =>
        have hn : ks = [] := by
          cases ks with
          | nil => rfl
          | cons y r => simp at hok
        subst hn
        simp at hok
        exact ⟨rfl, ht, rfl, rfl, hok.2⟩
    · cases hp
  · rintro ⟨rfl, ht, rfl, rfl, hb⟩
    refine ⟨⟨rfl, ht⟩, ?_⟩
    have hf := form_int ht
    have hr : 0 ≤ t ∧ t ≤ 30 := by omega
    have hok : okN 0 t false bs [] = true := by
      unfold okN mayB
      rw [hf, valB_2 ht, hb]
      simp [hr]
    simp only [Nd.put]
    rw [hok]
    rfl
theorem leastB_pos {b : List UInt8} (h : leastB b = true) : 0 < b.length := by
  unfold leastB at h
  split at h
  · cases h
  · omega
theorem Nd.bytes_sz (c t : Int) (k : Bool) (bs : List UInt8) (ks : List Nd) : bs.length ≤ (Nd.mk c t k bs ks).sz := by simp only [Nd.sz]; omega

/-! ## numbers -/
def Nd.natOk (x : Nd) : Bool := x.whole && decide (byteAt x.bytes 0 < 128)
def Nd.natL (x : Nd) : List UInt32 := if x.natOk then toL (beV x.bytes) else []
theorem natOk_f {c t : Int} {k : Bool} {bs : List UInt8} {ks : List Nd} (h : (Nd.mk c t k bs ks).whole = false ∨ ¬ byteAt bs 0 < 128) : (Nd.mk c t k bs ks).natOk = false := by
  show ((Nd.mk c t k bs ks).whole && decide (byteAt bs 0 < 128)) = false
  rcases h with h | h
  · rw [h]; rfl
  · rw [decide_eq_false h, Bool.and_false]
theorem natOk_t {c t : Int} {k : Bool} {bs : List UInt8} {ks : List Nd} (h : (Nd.mk c t k bs ks).whole = true) (h2 : byteAt bs 0 < 128) : (Nd.mk c t k bs ks).natOk = true := by
  show ((Nd.mk c t k bs ks).whole && decide (byteAt bs 0 < 128)) = true
  rw [h, decide_eq_true h2]; rfl
theorem natof_fn {x : Nd} {cs : List Value} {h : Part} (r : NdR h cs x) (hT : Tabs h) (hsz : x.sz ≤ 1073741824) :
    FnR Tryd.prog 17 [.agg cs.toArray] h (fun v h' => ∃ a c, v = .tuple #[.slice a x.natL.length c, .bool x.natOk] ∧ SlR u32R 1 h' a c x.natL) := by
  cases x with
  | mk c t k bs ks =>
  have hbs := Nd.bytes_sz c t k bs ks
  have hpos : (Nd.mk c t k bs ks).whole = true → 0 < bs.length := fun hw => leastB_pos (whole_iff.1 hw).2.2.2.2
  obtain ⟨ka, kca, kb, kcb, rfl, hka, hkb⟩ := r.inv
  refine Fn.intro Tryd.func17 rfl Tryd.ntmps17 rfl (fun e he => ?_)
  refine J.weak [(0, _)] ⟨rfl, trivial⟩ ?_
  have hh0 := Part.le.refl h
  refine Sr ?_
  refine JL.box rfl rfl rfl (fun b1 => ?_)
  refine Ru 2 rfl ?_
  refine JL.nil ?_
  refine J.seq ?_
  refine Sr ?_
  refine JL.op (RunV.ownA ag_25 rfl (by repeat (first | exact List.mem_cons_self .. | apply List.mem_cons_of_mem)) (by first | rfl | exact NdR.len5 (by assumption))) rfl ?_
  refine JL.callP ca_35 rfl (whole_fn' (by assumption) (by assumption) (by omega)) rfl ?_
  refine Ru 2 rfl ?_
  refine Bs 7 rfl (fun hc3 => ?_) fun hc3 => ?_
  ·
   refine Ru 6 rfl ?_
   refine Nk [13, 3, 2, 1] rfl ?_
   refine J.cond_t rfl ?_
   refine Sr ?_
   refine Ru 2 rfl ?_
   refine JL.nil ?_
   have hff := natOk_f (show (Nd.mk c t k bs ks).whole = false ∨ ¬ byteAt bs 0 < 128 by first | exact .inl hc3 | (right; omega)); have hfl : (Nd.mk c t k bs ks).natL = [] := if_neg (by rw [hff]; decide); rw [hff, hfl]; exact J.retR (RetV.two rfl rfl rfl) ⟨_, _, rfl, SlR.nil_⟩
  ·
   have hps := hpos (by simpa using hc3); have e0 := byteAt_eq bs 0 hps; have hwz := hc3
   refine Ru 1 rfl ?_
   refine JL.opg rfl rfl  (RunV.own1 ag_22 rfl (by repeat (first | exact List.mem_cons_self .. | apply List.mem_cons_of_mem)) rfl) rfl ?_
   refine JL.opeg rfl rfl  (RunE.index sl_22 rfl rfl (show _ = ((0 : Nat) : Int) from rfl) (by assumption) rfl (by omega)) rfl ?_
   rintro _ ⟨b4, o4, hi4, rfl, hE4⟩
   refine JL.opg rfl rfl  (RunV.ld_u8 ag_5 rfl (by assumption)) rfl ?_
   refine Ru 2 rfl ?_
   refine Nk [13, 3, 2, 1] rfl ?_
   refine Cs rfl (fun hc6 => ?_) fun hc6 => ?_
   ·
    refine Sr ?_
    refine Ru 2 rfl ?_
    refine JL.nil ?_
    have hff := natOk_f (show (Nd.mk c t k bs ks).whole = false ∨ ¬ byteAt bs 0 < 128 by first | exact .inl hc6 | (right; omega)); have hfl : (Nd.mk c t k bs ks).natL = [] := if_neg (by rw [hff]; decide); rw [hff, hfl]; exact J.retR (RetV.two rfl rfl rfl) ⟨_, _, rfl, SlR.nil_⟩
   ·
    refine J.skip ?_
    refine Sr ?_
    refine Ru 1 rfl ?_
    refine JL.op (RunV.own1 ag_22 rfl (by repeat (first | exact List.mem_cons_self .. | apply List.mem_cons_of_mem)) rfl) rfl ?_
    refine JL.callR ca_37 rfl (natread_fn (by assumption) (by omega)) rfl ?_
    rintro _ h7 hle7 ⟨a7, c7, rfl, hS7⟩
    replace r := r.mono hle7
    replace hT := hT.mono hle7
    replace hka := hka.mono hle7
    replace hh0 := hh0.mono hle7
    refine Ru 2 rfl ?_
    refine Nk [3, 2] rfl ?_
    have hff := natOk_t hwz (show byteAt bs 0 < 128 by omega); have hfl : (Nd.mk c t k bs ks).natL = toL (beV bs) := if_pos hff; rw [hff, hfl]; exact J.retR (RetV.two rfl rfl rfl) ⟨_, _, rfl, by assumption⟩




/-! ## integers -/
def s8 (b : Nat) : Int := if b < 128 then b else b - 256
theorem wrap_s8 (b : Nat) (h : b < 256) : IntKind.i8.wrap (b : Int) = s8 b := by
  unfold IntKind.wrap s8; simp [IntKind.signed, IntKind.bits]; split <;> omega
theorem RunV.toI8 {f : Fr} {S : Sig} {h : Part} {L : List Ent} {ty src dst : TypeId} {x : Operand} {k : IntKind} {b : UInt8} (hc : convI f.P src dst = some .i8) (hx : ev S x = some (.int k (b.toNat : Int))) : RunV f S h L (.convert src dst x) ty (.int .i8 (s8 b.toNat)) := by
  have := RunV.conv (f := f) (h := h) (L := L) (ty := ty) hc hx
  rwa [wrap_s8 _ (UInt8.toNat_lt b)] at this
theorem s8_bd (b : Nat) (h : b < 256) : -128 ≤ s8 b ∧ s8 b ≤ 127 := by unfold s8; split <;> omega
def sV (b : List UInt8) : Int := s8 (byteAt b 0) * 256 ^ (b.length - 1) + beV (b.drop 1)
theorem sV_bd {s : Int} {w i : Nat} (hs : -128 ≤ s ∧ s ≤ 127) (hw : w < 256 ^ i) : -128 * 256 ^ i ≤ s * 256 ^ i + w ∧ s * 256 ^ i + w ≤ 128 * 256 ^ i - 1 := by
  have hp : (0 : Int) ≤ 256 ^ i := Int.le_of_lt (Int.pow_pos (by decide))
  have h1 : -128 * (256 : Int) ^ i ≤ s * 256 ^ i := Int.mul_le_mul_of_nonneg_right hs.1 hp
  have h2 : s * (256 : Int) ^ i ≤ 127 * 256 ^ i := Int.mul_le_mul_of_nonneg_right hs.2 hp
  have h3 : (w : Int) < 256 ^ i := by exact_mod_cast hw
  omega
theorem beV_take_succ (b : List UInt8) (i : Nat) (h : i < b.length) : beV (b.take (i + 1)) = beV (b.take i) * 256 + b[i].toNat := by
  rw [List.take_succ_eq_append_getElem h, beV_append]
  simp [beV_cons, beV]
theorem pow8_le (i : Nat) (h : i ≤ 6) : (256 : Int) ^ i ≤ 281474976710656 := by
  have : i = 0 ∨ i = 1 ∨ i = 2 ∨ i = 3 ∨ i = 4 ∨ i = 5 ∨ i = 6 := by omega
  rcases this with rfl | rfl | rfl | rfl | rfl | rfl | rfl <;> decide
def Nd.intOk (x : Nd) : Bool := x.whole && decide (x.bytes.length ≤ 8)
def Nd.intV (x : Nd) : Int := if x.intOk then sV x.bytes else 0
theorem intOk_eq {c t : Int} {k : Bool} {bs : List UInt8} {ks : List Nd} : (Nd.mk c t k bs ks).intOk = ((Nd.mk c t k bs ks).whole && decide (bs.length ≤ 8)) := rfl
theorem intV_t {c t : Int} {k : Bool} {bs : List UInt8} {ks : List Nd} (h : (Nd.mk c t k bs ks).intOk = true) : (Nd.mk c t k bs ks).intV = sV bs := if_pos h
theorem intV_f {c t : Int} {k : Bool} {bs : List UInt8} {ks : List Nd} (h : (Nd.mk c t k bs ks).intOk = false) : (Nd.mk c t k bs ks).intV = 0 := if_neg (by rw [h]; decide)
theorem intof_fn {x : Nd} {cs : List Value} {h : Part} (r : NdR h cs x) (hT : Tabs h) (hsz : x.sz ≤ 1073741824) :
    Pure Tryd.prog 15 [.agg cs.toArray] h (.tuple #[.int .i64 x.intV, .bool x.intOk]) := by
  cases x with
  | mk c t k bs ks =>
  have hbs := Nd.bytes_sz c t k bs ks
  have hpos : (Nd.mk c t k bs ks).whole = true → 0 < bs.length := fun hw => leastB_pos (whole_iff.1 hw).2.2.2.2
  obtain ⟨ka, kca, kb, kcb, rfl, hka, hkb⟩ := r.inv
  refine Pure.ofV ?_
  refine Fn.intro Tryd.func15 rfl Tryd.ntmps15 rfl (fun e he => ?_)
  refine J.weak [(0, _)] ⟨rfl, trivial⟩ ?_
  refine Sr ?_
  refine JL.box rfl rfl rfl (fun b1 => ?_)
  refine Ru 2 rfl ?_
  refine JL.nil ?_
  refine J.seq ?_
  refine Sr ?_
  refine JL.op (RunV.ownA ag_25 rfl (by repeat (first | exact List.mem_cons_self .. | apply List.mem_cons_of_mem)) (by first | rfl | exact NdR.len5 (by assumption))) rfl ?_
  refine JL.callP ca_35 rfl (whole_fn' (by assumption) (by assumption) (by omega)) rfl ?_
  refine Ru 2 rfl ?_
  apply On 10 15 5 [3, 2, 1] rfl rfl
  rotate_left
  ·
   intro hb3 hc3
   refine Ru 1 rfl ?_
   refine JL.opg rfl rfl  (RunV.own1 ag_22 rfl (by repeat (first | exact List.mem_cons_self .. | apply List.mem_cons_of_mem)) rfl) rfl ?_
   refine Ru 3 rfl ?_
   exact Ae (om_f hb3 rfl) rfl
  rotate_right
  ·
   exact fun hb3 _ => Ru 5 rfl (Ae (om_t hb3 rfl) rfl)
  refine JL.nil ?_
  refine Cs rfl (fun hc4 => ?_) fun hc4 => ?_
  ·
   have hff : (Nd.mk c t k bs ks).intOk = false := (by rw [intOk_eq]; revert hc4; cases (Nd.mk c t k bs ks).whole <;> simp <;> omega)
   refine Sr ?_
   refine Ru 2 rfl ?_
   refine JL.nil ?_
   exact J.retV (RetV.two rfl rfl rfl) (by rw [hff, intV_f hff])
  ·
   obtain ⟨hww, hb8⟩ : (Nd.mk c t k bs ks).whole = true ∧ bs.length ≤ 8 := (by revert hc4; cases (Nd.mk c t k bs ks).whole <;> simp <;> omega)
   have hps := hpos hww; have hff : (Nd.mk c t k bs ks).intOk = true := (by rw [intOk_eq, hww, decide_eq_true hb8]; rfl); have e0 := byteAt_eq bs 0 hps; have hb0 := byteAt_lt bs 0; have hsb := s8_bd (byteAt bs 0) hb0; have hdl : (bs.drop 1).length = bs.length - 1 := List.length_drop
   refine J.skip ?_
   refine Sr ?_
   refine Ru 1 rfl ?_
   refine JL.op (RunV.own1 ag_22 rfl (by repeat (first | exact List.mem_cons_self .. | apply List.mem_cons_of_mem)) rfl) rfl ?_
   refine JL.ope (RunE.index sl_22 rfl rfl (show _ = ((0 : Nat) : Int) from rfl) (by assumption) rfl (by omega)) rfl ?_
   rintro _ ⟨b5, o5, hi5, rfl, hE5⟩
   refine JL.op (RunV.ld_u8 ag_5 rfl (by assumption)) rfl ?_
   refine JL.op (RunV.toI8 cv_5_66 rfl) rfl ?_
   rw [e0]
   refine JL.op (RunV.conv_i64 cv_66_2 rfl (by omega) (by omega)) rfl ?_
   refine Ru 1 rfl ?_
   refine Nk [4, 3, 2, 1] rfl ?_
   refine J.seq ?_
   refine Sr ?_
   refine Ru 1 rfl ?_
   refine JL.op (RunV.own1 ag_22 rfl (by repeat (first | exact List.mem_cons_self .. | apply List.mem_cons_of_mem)) rfl) rfl ?_
   refine JL.ope (RunE.cut_l sl_22 rfl rfl (m := 1) rfl hka rfl (by omega)) rfl ?_
   rintro _ ⟨a9, c9, rfl, hS9⟩
   refine Ru 2 rfl ?_
   refine JL.nil ?_
   refine J.block ?_
   refine J.loop (fun t_ S_ h_ L_ => ∃ (i : Nat) (w : Int), t_ = bs.length - i ∧ S_ = [(4, .int .i64 w), (24, .slice a9 (bs.drop 1).length c9), (25, .int .i64 (bs.drop 1).length), (26, .int .i64 i)] ∧ h = h_ ∧ L_ = [.blk b1 25 [.int .i64 c, .int .i64 t, .bool k, .slice ka bs.length kca, .slice kb ks.length kcb]] ∧ (i ≤ (bs.drop 1).length ∧ w = s8 (byteAt bs 0) * 256 ^ i + beV ((bs.drop 1).take i))) ⟨_, _, ?_, ⟨0, s8 (byteAt bs 0), rfl, rfl, rfl, rfl, ⟨by omega, by simp [beV]⟩⟩⟩ ?_
   ·
    repeat (first | exact trivial | refine ⟨rfl, ?_⟩)
   rintro _ _ _ _ ⟨i, w, rfl, rfl, rfl, rfl, hi, hw⟩
   refine Sr ?_
   refine Ru 1 rfl ?_
   refine JL.nil ?_
   refine J.seq ?_
   refine Cs rfl (fun hc8 => ?_) fun hc8 => ?_
   ·
    have hi' : i < (bs.drop 1).length := (by omega); have hbv := beV_lt ((bs.drop 1).take i); rw [List.length_take, Nat.min_eq_left (by omega)] at hbv; have hwb := sV_bd hsb hbv; rw [← hw] at hwb; have hp8 := pow8_le i (by omega); have hns := beV_take_succ (bs.drop 1) i hi'; have hcb := UInt8.toNat_lt ((bs.drop 1)[i]'hi')
    refine J.skip ?_
    refine J.seq ?_
    refine J.block ?_
    refine Sr ?_
    refine JL.ope (RunE.index sl_22 rfl rfl (by first | with_reducible rfl | exact (Int.toNat_of_nonneg (by omega)).symm) (by assumption) rfl (by omega)) rfl ?_
    rintro _ ⟨b9, o9, hi9, rfl, hE9⟩
    refine JL.op (RunV.ld_u8 ag_5 rfl (by assumption)) rfl ?_
    refine Ru 1 rfl ?_
    refine JL.nil ?_
    refine Rg ?_
    refine Ru 1 rfl ?_
    refine JL.op (by first | exact RunV.shl_i64 256 rfl rfl (by decide) (by decide) (by decide) (by omega) (by omega) | exact RunV.shl rfl rfl (by decide) (by decide)) rfl ?_
    refine Ru 1 rfl ?_
    refine JL.op (by first | exact RunV.convb_i64 cv_5_2 rfl | exact RunV.conv_i64 cv_5_2 rfl (by omega) (by omega) | exact RunV.conv cv_5_2 rfl) rfl ?_
    refine JL.op (RunV.join256 rfl rfl (by omega) (by omega) (by omega) (by omega) (by omega)) rfl ?_
    refine Ru 1 rfl ?_
    refine JL.nil ?_
    refine Rg ?_
    refine JL.op (by first | exact RunV.add_i64 rfl rfl (by omega) (by omega) | exact RunV.add rfl rfl) rfl ?_
    refine Ru 1 rfl ?_
    refine JL.nil ?_
    refine ⟨_, ?_, _, ?_, ⟨i + 1, w * 256 + ((bs.drop 1)[i]'hi').toNat, rfl, rfl, rfl, rfl, ⟨by omega, by rw [hns, hw, Int.pow_succ, Int.natCast_add, Int.natCast_mul, Int.add_mul, Int.mul_assoc, Int.add_assoc]; rfl⟩⟩⟩
    ·
     omega
    ·
     repeat (first | exact trivial | refine ⟨rfl, ?_⟩)
   ·
    have hie : i = (bs.drop 1).length := (by omega); have hsv : (Nd.mk c t k bs ks).intV = w := (by rw [intV_t hff, hw, hie, List.take_length, sV, hdl])
    refine J.exit ?_
    refine Kp [4] rfl ?_
    refine Sr ?_
    refine Ru 3 rfl ?_
    refine JL.nil ?_
    exact J.retV (RetV.two rfl rfl rfl) (by rw [hff, hsv])



end Go.Proofs.YtmngjbefnloljaaDoor
