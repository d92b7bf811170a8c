/- Walks: integers and numbers out of nodes. -/
import Derived.Test.YtmngjbefnloljaaDoorNatR
import Derived.Test.YtmngjbefnloljaaDoorNumG
set_option linter.unusedSimpArgs false
set_option linter.unusedVariables false
set_option linter.constructorNameAsVariable false
namespace Go.Proofs.YtmngjbefnloljaaDoor
open Go Go.RowKit
set_option maxRecDepth 100000
theorem ca_35 : callT Tryd.prog 35 = true := by kernel_rfl
theorem ca_37 : callT Tryd.prog 37 = true := by kernel_rfl
theorem cv_5_2 : convI Tryd.prog 5 2 = some .i64 := by kernel_rfl
theorem cv_5_66 : convI Tryd.prog 5 66 = some .i8 := by kernel_rfl
theorem cv_66_2 : convI Tryd.prog 66 2 = some .i64 := by kernel_rfl

def Nd.whole (x : Nd) : Bool := (decide (x.cls = 0) && (decide (x.tag = 2) || decide (x.tag = 10))) && x.put.isSome
theorem whole_fn' {x : Nd} {cs : List Value} {h : Part} (r : NdR h cs x) (hT : Tabs h) (hsz : x.sz ≤ 1073741824) : Pure Tryd.prog 35 [.agg cs.toArray] h (.bool x.whole) := by
  cases x; exact whole_fn r hT hsz



theorem form_int {t : Int} (h : t = 2 ∨ t = 10) : form t = 1 := by rcases h with rfl | rfl <;> rfl
theorem whole_iff {c t : Int} {k : Bool} {bs : List UInt8} {ks : List Nd} : (Nd.mk c t k bs ks).whole = true ↔ c = 0 ∧ (t = 2 ∨ t = 10) ∧ k = false ∧ ks = [] ∧ leastB bs = true := by
  show ((decide (c = 0) && (decide (t = 2) || decide (t = 10))) && (Nd.mk c t k bs ks).put.isSome) = true ↔ _
  simp only [Bool.and_eq_true, Bool.or_eq_true, decide_eq_true_eq]
  constructor
  · rintro ⟨⟨rfl, ht⟩, hp⟩
    simp only [Nd.put] at hp
    split at hp
    · rename_i hok
      have hf := form_int ht
      have hr : 0 ≤ t ∧ t ≤ 30 := by omega
      unfold okN mayB at hok
      rw [hf, valB_2 ht] at hok
      cases k with
      | true => simp at hok
      | false =>
        have hn : ks = [] := by
          cases ks with
          | nil => rfl
          | cons y r => simp at hok
        subst hn
        simp at hok
        exact ⟨rfl, ht, rfl, rfl, hok.2⟩
    · cases hp
  · rintro ⟨rfl, ht, rfl, rfl, hb⟩
    refine ⟨⟨rfl, ht⟩, ?_⟩
    have hf := form_int ht
    have hr : 0 ≤ t ∧ t ≤ 30 := by omega
    have hok : okN 0 t false bs [] = true := by
      unfold okN mayB
      rw [hf, valB_2 ht, hb]
      simp [hr]
    simp only [Nd.put]
    rw [hok]
    rfl
theorem leastB_pos {b : List UInt8} (h : leastB b = true) : 0 < b.length := by
  unfold leastB at h
  split at h
  · cases h
  · omega
theorem Nd.bytes_sz (c t : Int) (k : Bool) (bs : List UInt8) (ks : List Nd) : bs.length ≤ (Nd.mk c t k bs ks).sz := by simp only [Nd.sz]; omega

/-! ## numbers -/
def Nd.natOk (x : Nd) : Bool := x.whole && decide (byteAt x.bytes 0 < 128)
def Nd.natL (x : Nd) : List UInt32 := if x.natOk then toL (beV x.bytes) else []
theorem natOk_f {c t : Int} {k : Bool} {bs : List UInt8} {ks : List Nd} (h : (Nd.mk c t k bs ks).whole = false ∨ ¬ byteAt bs 0 < 128) : (Nd.mk c t k bs ks).natOk = false := by
  show ((Nd.mk c t k bs ks).whole && decide (byteAt bs 0 < 128)) = false
  rcases h with h | h
  · rw [h]; rfl
  · rw [decide_eq_false h, Bool.and_false]
theorem natOk_t {c t : Int} {k : Bool} {bs : List UInt8} {ks : List Nd} (h : (Nd.mk c t k bs ks).whole = true) (h2 : byteAt bs 0 < 128) : (Nd.mk c t k bs ks).natOk = true := by
  show ((Nd.mk c t k bs ks).whole && decide (byteAt bs 0 < 128)) = true
  rw [h, decide_eq_true h2]; rfl
theorem natof_fn {x : Nd} {cs : List Value} {h : Part} (r : NdR h cs x) (hT : Tabs h) (hsz : x.sz ≤ 1073741824) :
    FnR Tryd.prog 17 [.agg cs.toArray] h (fun v h' => ∃ a c, v = .tuple #[.slice a x.natL.length c, .bool x.natOk] ∧ SlR u32R 1 h' a c x.natL) := by
  cases x with
  | mk c t k bs ks =>
  have hbs := Nd.bytes_sz c t k bs ks
  have hpos : (Nd.mk c t k bs ks).whole = true → 0 < bs.length := fun hw => leastB_pos (whole_iff.1 hw).2.2.2.2
  obtain ⟨ka, kca, kb, kcb, rfl, hka, hkb⟩ := r.inv
  refine Fn.intro Tryd.func17 rfl Tryd.ntmps17 rfl (fun e he => ?_)
  refine J.weak [(0, _)] ⟨rfl, trivial⟩ ?_
  have hh0 := Part.le.refl h
  refine Sr ?_
  refine JL.box rfl rfl rfl (fun b1 => ?_)
  refine Ru 2 rfl ?_
  refine JL.nil ?_
  refine J.seq ?_
  refine Sr ?_
  refine JL.op (RunV.ownA ag_25 rfl (by repeat (first | exact List.mem_cons_self .. | apply List.mem_cons_of_mem)) (by first | rfl | exact NdR.len5 (by assumption))) rfl ?_
  refine JL.callP ca_35 rfl (whole_fn' (by assumption) (by assumption) (by omega)) rfl ?_
  refine Ru 2 rfl ?_
  refine Bs 7 rfl (fun hc3 => ?_) fun hc3 => ?_
  ·
   refine Ru 6 rfl ?_
   refine Nk [13, 3, 2, 1] rfl ?_
   refine J.cond_t rfl ?_
   refine Sr ?_
   refine Ru 2 rfl ?_
   refine JL.nil ?_
   have hff := natOk_f (show (Nd.mk c t k bs ks).whole = false ∨ ¬ byteAt bs 0 < 128 by first | exact .inl hc3 | (right; omega)); have hfl : (Nd.mk c t k bs ks).natL = [] := if_neg (by rw [hff]; decide); rw [hff, hfl]; exact J.retR (RetV.two rfl rfl rfl) ⟨_, _, rfl, SlR.nil_⟩
  ·
   have hps := hpos (by simpa using hc3); have e0 := byteAt_eq bs 0 hps; have hwz := hc3
   refine Ru 1 rfl ?_
   refine JL.opg rfl rfl  (RunV.own1 ag_22 rfl (by repeat (first | exact List.mem_cons_self .. | apply List.mem_cons_of_mem)) rfl) rfl ?_
   refine JL.opeg rfl rfl  (RunE.index sl_22 rfl rfl (show _ = ((0 : Nat) : Int) from rfl) (by assumption) rfl (by omega)) rfl ?_
   rintro _ ⟨b4, o4, hi4, rfl, hE4⟩
   refine JL.opg rfl rfl  (RunV.ld_u8 ag_5 rfl (by assumption)) rfl ?_
   refine Ru 2 rfl ?_
   refine Nk [13, 3, 2, 1] rfl ?_
   refine Cs rfl (fun hc6 => ?_) fun hc6 => ?_
   ·
    refine Sr ?_
    refine Ru 2 rfl ?_
    refine JL.nil ?_
    have hff := natOk_f (show (Nd.mk c t k bs ks).whole = false ∨ ¬ byteAt bs 0 < 128 by first | exact .inl hc6 | (right; omega)); have hfl : (Nd.mk c t k bs ks).natL = [] := if_neg (by rw [hff]; decide); rw [hff, hfl]; exact J.retR (RetV.two rfl rfl rfl) ⟨_, _, rfl, SlR.nil_⟩
   ·
    refine J.skip ?_
    refine Sr ?_
    refine Ru 1 rfl ?_
    refine JL.op (RunV.own1 ag_22 rfl (by repeat (first | exact List.mem_cons_self .. | apply List.mem_cons_of_mem)) rfl) rfl ?_
    refine JL.callR ca_37 rfl (natread_fn (by assumption) (by omega)) rfl ?_
    rintro _ h7 hle7 ⟨a7, c7, rfl, hS7⟩
    replace r := r.mono hle7
    replace hT := hT.mono hle7
    replace hka := hka.mono hle7
    replace hh0 := hh0.mono hle7
    refine Ru 2 rfl ?_
    refine Nk [3, 2] rfl ?_
    have hff := natOk_t hwz (show byteAt bs 0 < 128 by omega); have hfl : (Nd.mk c t k bs ks).natL = toL (beV bs) := if_pos hff; rw [hff, hfl]; exact J.retR (RetV.two rfl rfl rfl) ⟨_, _, rfl, by assumption⟩




/-! ## integers -/
def s8 (b : Nat) : Int := if b < 128 then b else b - 256
theorem wrap_s8 (b : Nat) (h : b < 256) : IntKind.i8.wrap (b : Int) = s8 b := by
  unfold IntKind.wrap s8; simp [IntKind.signed, IntKind.bits]; split <;> omega
theorem RunV.toI8 {f : Fr} {S : Sig} {h : Part} {L : List Ent} {ty src dst : TypeId} {x : Operand} {k : IntKind} {b : UInt8} (hc : convI f.P src dst = some .i8) (hx : ev S x = some (.int k (b.toNat : Int))) : RunV f S h L (.convert src dst x) ty (.int .i8 (s8 b.toNat)) := by
  have := RunV.conv (f := f) (h := h) (L := L) (ty := ty) hc hx
  rwa [wrap_s8 _ (UInt8.toNat_lt b)] at this
theorem s8_bd (b : Nat) (h : b < 256) : -128 ≤ s8 b ∧ s8 b ≤ 127 := by unfold s8; split <;> omega
def sV (b : List UInt8) : Int := s8 (byteAt b 0) * 256 ^ (b.length - 1) + beV (b.drop 1)
theorem sV_bd {s : Int} {w i : Nat} (hs : -128 ≤ s ∧ s ≤ 127) (hw : w < 256 ^ i) : -128 * 256 ^ i ≤ s * 256 ^ i + w ∧ s * 256 ^ i + w ≤ 128 * 256 ^ i - 1 := by
  have hp : (0 : Int) ≤ 256 ^ i := Int.le_of_lt (Int.pow_pos (by decide))
  have h1 : -128 * (256 : Int) ^ i ≤ s * 256 ^ i := Int.mul_le_mul_of_nonneg_right hs.1 hp
  have h2 : s * (256 : Int) ^ i ≤ 127 * 256 ^ i := Int.mul_le_mul_of_nonneg_right hs.2 hp
  have h3 : (w : Int) < 256 ^ i := by exact_mod_cast hw
  omega
theorem beV_take_succ (b : List UInt8) (i : Nat) (h : i < b.length) : beV (b.take (i + 1)) = beV (b.take i) * 256 + b[i].toNat := by
  rw [List.take_succ_eq_append_getElem h, beV_append]
  simp [beV_cons, beV]
theorem pow8_le (i : Nat) (h : i ≤ 6) : (256 : Int) ^ i ≤ 281474976710656 := by
  have : i = 0 ∨ i = 1 ∨ i = 2 ∨ i = 3 ∨ i = 4 ∨ i = 5 ∨ i = 6 := by omega
  rcases this with rfl | rfl | rfl | rfl | rfl | rfl | rfl <;> decide
def Nd.intOk (x : Nd) : Bool := x.whole && decide (x.bytes.length ≤ 8)
def Nd.intV (x : Nd) : Int := if x.intOk then sV x.bytes else 0
theorem intOk_eq {c t : Int} {k : Bool} {bs : List UInt8} {ks : List Nd} : (Nd.mk c t k bs ks).intOk = ((Nd.mk c t k bs ks).whole && decide (bs.length ≤ 8)) := rfl
theorem intV_t {c t : Int} {k : Bool} {bs : List UInt8} {ks : List Nd} (h : (Nd.mk c t k bs ks).intOk = true) : (Nd.mk c t k bs ks).intV = sV bs := if_pos h
theorem intV_f {c t : Int} {k : Bool} {bs : List UInt8} {ks : List Nd} (h : (Nd.mk c t k bs ks).intOk = false) : (Nd.mk c t k bs ks).intV = 0 := if_neg (by rw [h]; decide)
theorem intof_fn {x : Nd} {cs : List Value} {h : Part} (r : NdR h cs x) (hT : Tabs h) (hsz : x.sz ≤ 1073741824) :
    Pure Tryd.prog 15 [.agg cs.toArray] h (.tuple #[.int .i64 x.intV, .bool x.intOk]) := by
  cases x with
  | mk c t k bs ks =>
  have hbs := Nd.bytes_sz c t k bs ks
  have hpos : (Nd.mk c t k bs ks).whole = true → 0 < bs.length := fun hw => leastB_pos (whole_iff.1 hw).2.2.2.2
  obtain ⟨ka, kca, kb, kcb, rfl, hka, hkb⟩ := r.inv
  refine Pure.ofV ?_
  refine Fn.intro Tryd.func15 rfl Tryd.ntmps15 rfl (fun e he => ?_)
  refine J.weak [(0, _)] ⟨rfl, trivial⟩ ?_
  refine Sr ?_
  refine JL.box rfl rfl rfl (fun b1 => ?_)
  refine Ru 2 rfl ?_
  refine JL.nil ?_
  refine J.seq ?_
  refine Sr ?_
  refine JL.op (RunV.ownA ag_25 rfl (by repeat (first | exact List.mem_cons_self .. | apply List.mem_cons_of_mem)) (by first | rfl | exact NdR.len5 (by assumption))) rfl ?_
  refine JL.callP ca_35 rfl (whole_fn' (by assumption) (by assumption) (by omega)) rfl ?_
  refine Ru 2 rfl ?_
  apply On 10 15 5 [3, 2, 1] rfl rfl
  rotate_left
  ·
   intro hb3 hc3
   refine Ru 1 rfl ?_
   refine JL.opg rfl rfl  (RunV.own1 ag_22 rfl (by repeat (first | exact List.mem_cons_self .. | apply List.mem_cons_of_mem)) rfl) rfl ?_
   refine Ru 3 rfl ?_
   exact Ae (om_f hb3 rfl) rfl
  rotate_right
  ·
   exact fun hb3 _ => Ru 5 rfl (Ae (om_t hb3 rfl) rfl)
  refine JL.nil ?_
  refine Cs rfl (fun hc4 => ?_) fun hc4 => ?_
  ·
   have hff : (Nd.mk c t k bs ks).intOk = false := (by rw [intOk_eq]; revert hc4; cases (Nd.mk c t k bs ks).whole <;> simp <;> omega)
   refine Sr ?_
   refine Ru 2 rfl ?_
   refine JL.nil ?_
   exact J.retV (RetV.two rfl rfl rfl) (by rw [hff, intV_f hff])
  ·
   obtain ⟨hww, hb8⟩ : (Nd.mk c t k bs ks).whole = true ∧ bs.length ≤ 8 := (by revert hc4; cases (Nd.mk c t k bs ks).whole <;> simp <;> omega)
   have hps := hpos hww; have hff : (Nd.mk c t k bs ks).intOk = true := (by rw [intOk_eq, hww, decide_eq_true hb8]; rfl); have e0 := byteAt_eq bs 0 hps; have hb0 := byteAt_lt bs 0; have hsb := s8_bd (byteAt bs 0) hb0; have hdl : (bs.drop 1).length = bs.length - 1 := List.length_drop
   refine J.skip ?_
   refine Sr ?_
   refine Ru 1 rfl ?_
   refine JL.op (RunV.own1 ag_22 rfl (by repeat (first | exact List.mem_cons_self .. | apply List.mem_cons_of_mem)) rfl) rfl ?_
   refine JL.ope (RunE.index sl_22 rfl rfl (show _ = ((0 : Nat) : Int) from rfl) (by assumption) rfl (by omega)) rfl ?_
   rintro _ ⟨b5, o5, hi5, rfl, hE5⟩
   refine JL.op (RunV.ld_u8 ag_5 rfl (by assumption)) rfl ?_
   refine JL.op (RunV.toI8 cv_5_66 rfl) rfl ?_
   rw [e0]
   refine JL.op (RunV.conv_i64 cv_66_2 rfl (by omega) (by omega)) rfl ?_
   refine Ru 1 rfl ?_
   refine Nk [4, 3, 2, 1] rfl ?_
   refine J.seq ?_
   refine Sr ?_
   refine Ru 1 rfl ?_
   refine JL.op (RunV.own1 ag_22 rfl (by repeat (first | exact List.mem_cons_self .. | apply List.mem_cons_of_mem)) rfl) rfl ?_
   refine JL.ope (RunE.cut_l sl_22 rfl rfl (m := 1) rfl hka rfl (by omega)) rfl ?_
   rintro _ ⟨a9, c9, rfl, hS9⟩
   refine Ru 2 rfl ?_
   refine JL.nil ?_
   refine J.block ?_
   refine J.loop (fun t_ S_ h_ L_ => ∃ (i : Nat) (w : Int), t_ = bs.length - i ∧ S_ = [(4, .int .i64 w), (24, .slice a9 (bs.drop 1).length c9), (25, .int .i64 (bs.drop 1).length), (26, .int .i64 i)] ∧ h = h_ ∧ L_ = [.blk b1 25 [.int .i64 c, .int .i64 t, .bool k, .slice ka bs.length kca, .slice kb ks.length kcb]] ∧ (i ≤ (bs.drop 1).length ∧ w = s8 (byteAt bs 0) * 256 ^ i + beV ((bs.drop 1).take i))) ⟨_, _, ?_, ⟨0, s8 (byteAt bs 0), rfl, rfl, rfl, rfl, ⟨by omega, by simp [beV]⟩⟩⟩ ?_
   ·
    repeat (first | exact trivial | refine ⟨rfl, ?_⟩)
   rintro _ _ _ _ ⟨i, w, rfl, rfl, rfl, rfl, hi, hw⟩
   refine Sr ?_
   refine Ru 1 rfl ?_
   refine JL.nil ?_
   refine J.seq ?_
   refine Cs rfl (fun hc8 => ?_) fun hc8 => ?_
   ·
    have hi' : i < (bs.drop 1).length := (by omega); have hbv := beV_lt ((bs.drop 1).take i); rw [List.length_take, Nat.min_eq_left (by omega)] at hbv; have hwb := sV_bd hsb hbv; rw [← hw] at hwb; have hp8 := pow8_le i (by omega); have hns := beV_take_succ (bs.drop 1) i hi'; have hcb := UInt8.toNat_lt ((bs.drop 1)[i]'hi')
    refine J.skip ?_
    refine J.seq ?_
    refine J.block ?_
    refine Sr ?_
    refine JL.ope (RunE.index sl_22 rfl rfl (by first | with_reducible rfl | exact (Int.toNat_of_nonneg (by omega)).symm) (by assumption) rfl (by omega)) rfl ?_
    rintro _ ⟨b9, o9, hi9, rfl, hE9⟩
    refine JL.op (RunV.ld_u8 ag_5 rfl (by assumption)) rfl ?_
    refine Ru 1 rfl ?_
    refine JL.nil ?_
    refine Rg ?_
    refine Ru 1 rfl ?_
    refine JL.op (by first | exact RunV.shl_i64 256 rfl rfl (by decide) (by decide) (by decide) (by omega) (by omega) | exact RunV.shl rfl rfl (by decide) (by decide)) rfl ?_
    refine Ru 1 rfl ?_
    refine JL.op (by first | exact RunV.convb_i64 cv_5_2 rfl | exact RunV.conv_i64 cv_5_2 rfl (by omega) (by omega) | exact RunV.conv cv_5_2 rfl) rfl ?_
    refine JL.op (RunV.join256 rfl rfl (by omega) (by omega) (by omega) (by omega) (by omega)) rfl ?_
    refine Ru 1 rfl ?_
    refine JL.nil ?_
    refine Rg ?_
    refine JL.op (by first | exact RunV.add_i64 rfl rfl (by omega) (by omega) | exact RunV.add rfl rfl) rfl ?_
    refine Ru 1 rfl ?_
    refine JL.nil ?_
    refine ⟨_, ?_, _, ?_, ⟨i + 1, w * 256 + ((bs.drop 1)[i]'hi').toNat, rfl, rfl, rfl, rfl, ⟨by omega, by rw [hns, hw, Int.pow_succ, Int.natCast_add, Int.natCast_mul, Int.add_mul, Int.mul_assoc, Int.add_assoc]; rfl⟩⟩⟩
    ·
     omega
    ·
     repeat (first | exact trivial | refine ⟨rfl, ?_⟩)
   ·
    have hie : i = (bs.drop 1).length := (by omega); have hsv : (Nd.mk c t k bs ks).intV = w := (by rw [intV_t hff, hw, hie, List.take_length, sV, hdl])
    refine J.exit ?_
    refine Kp [4] rfl ?_
    refine Sr ?_
    refine Ru 3 rfl ?_
    refine JL.nil ?_
    exact J.retV (RetV.two rfl rfl rfl) (by rw [hff, hsv])



end Go.Proofs.YtmngjbefnloljaaDoor
