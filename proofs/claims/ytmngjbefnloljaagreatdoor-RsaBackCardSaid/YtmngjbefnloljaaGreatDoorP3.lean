/- Walks: numbers out of bytes; integers and numbers out of nodes; Walks: the program's arithmetic: comparison, product, shift, division by one digit; Walks: the program's division: a digit of a quotient, the quotient, the power; Walks: the program's division and power; Walks: the program's power; Walks: the reference's texts: characters; Walks: the reference's object identifiers; Walks: the reference's calendar; Walk: the reference's printable texts; Walks: the reference's values and bytes of nodes; Walks: the laws DerWrites and DerAsked; Walks: the reference's arithmetic: product, small numbers; its kept keys; Walks: the reference's division: by one digit; whether digits are above; digits taken away; Walks: the reference's rest of a product, and its division; Walks: the reference's power and comparison; Walks: which keys are right, and how great they are, by the program and by the reference; Walks: the reference's primes and private exponents, and its kept keys; Walks: a byte repeated, by the library; Walks: small functions of keys, by the program, the reference and the law; Walks: the digests there are: how long they are, by the program; Walks: the digests there are, by the reference; Walks: a digest's bytes and its form, by the reference; Walks: a digest's form for a key, signatures, by the reference; Plain: the fixed numbers that every law from 05 on asks for. -/
import Derived.Test.YtmngjbefnloljaaGreatDoorP2
set_option linter.unusedSimpArgs false
set_option linter.unusedVariables false
set_option linter.constructorNameAsVariable false
namespace Go.Proofs.YtmngjbefnloljaaGreatDoor
open Go Go.RowKit
set_option maxRecDepth 100000
theorem ca_109 : callT Tryz.prog 109 = true := by kernel_rfl
theorem ca_42 : callT Tryz.prog 42 = true := by kernel_rfl
theorem ca_59 : callT Tryz.prog 59 = true := by kernel_rfl
theorem cv_5_103 : convI Tryz.prog 5 103 = some .u32 := by kernel_rfl
theorem mk_30 : mkT Tryz.prog 30 = some (103, .int .u32 0, 4) := by kernel_rfl
theorem nattrim_fn {a : Option Addr} {c : Nat} {l : List UInt32} {h : Part} (hl : SlR u32R 1 h a c l) (hlb : l.length ≤ 1073741824) : FnR Tryz.prog 59 [.slice a l.length c] h (fun v h' => ∃ a' c', v = .slice a' (toL (vL l)).length c' ∧ SlR u32R 1 h' a' c' (toL (vL l))) := by
  have hll := hl.big
  have ht := tsz_le (d32 l) l.length
  have htr : l.take (tsz (d32 l) l.length) = toL (vL l) := trim_toL l
  have hlen : (toL (vL l)).length = tsz (d32 l) l.length := by rw [toL_len, tsz_nd]
  refine Fn.intro Tryz.func59 rfl Tryz.ntmps59 rfl (fun e he => ?_)
  refine J.weak [(0, _)] ⟨rfl, trivial⟩ ?_
  have hh0 := Part.le.refl h
  refine Sr ?_
  refine Ru 1 rfl ?_
  refine JL.nil ?_
  refine Sr ?_
  refine Ru 1 rfl ?_
  refine JL.callP ca_84 rfl (natsize_fn (by assumption)) rfl ?_
  refine Ru 1 rfl ?_
  refine JL.nil ?_
  refine J.seq ?_
  refine Sr ?_
  refine Ru 2 rfl ?_
  refine JL.nil ?_
  refine Cs rfl (fun hc2 => ?_) fun hc2 => ?_
  ·
   have h0 : toL (vL l) = [] := List.eq_nil_of_length_eq_zero (by omega)
   refine Sr ?_
   refine Ru 1 rfl ?_
   refine Nk [2, 3, 0] rfl ?_
   rw [h0]; exact J.retR (RetV.one rfl rfl) ⟨none, 0, rfl, SlR.nil_⟩
  ·
   refine J.skip ?_
   refine Kp [3, 2, 0] rfl ?_
   refine Sr ?_
   refine Ru 2 rfl ?_
   refine JL.ope (RunE.cut_h sl_30 (m := tsz (d32 l) l.length) rfl rfl rfl hl rfl (by omega)) rfl ?_
   rintro _ ⟨a9, c9, rfl, hS9⟩
   rw [htr] at hS9 ⊢; refine JL.row_nil 103 1 ?_
   refine JL.append (R := u32R) ap_30 rfl rfl CellsR.nil rfl hS9 rfl dl_ (by simp only [List.length_nil]; omega) rfl rfl (fun a8 c8 xs8 hC8 hN8 => ?_)
   simp only [List.nil_append] at hC8 ⊢; refine JL.pub (R := u32R) dl_ hC8 rfl (by omega) (fun h9 hle9 hP9 => ?_)
   refine Ru 1 rfl ?_
   refine Nk [2] rfl ?_
   exact J.retR (RetV.one rfl rfl) ⟨_, _, rfl, hP9⟩
theorem nattrim_fn' {a : Option Addr} {c n : Nat} {l : List UInt32} {h : Part} (hl : SlR u32R 1 h a c l) (hn : n = l.length) (hlb : n ≤ 1073741824) : FnR Tryz.prog 59 [.slice a n c] h (fun v h' => ∃ a' c', v = .slice a' (toL (vL l)).length c' ∧ SlR u32R 1 h' a' c' (toL (vL l))) := by
  subst hn; exact nattrim_fn hl hlb
theorem shl8 (i : Nat) : (2 : Int) ^ (8 * ((i : Int) % 4)).toNat = ((256 ^ (i % 4) : Nat) : Int) := by
  have : (8 * ((i : Int) % 4)).toNat = 8 * (i % 4) := by omega
  rw [this, Int.natCast_pow, Int.pow_mul]; rfl
theorem two8 (j : Nat) : (2 : Int) ^ (8 * j) = ((256 ^ j : Nat) : Int) := by rw [Int.natCast_pow, Int.pow_mul]; rfl
theorem bits_or_comm (k : IntKind) (p q : Int) : bits .or k p q = bits .or k q p := by
  show k.wrap _ = k.wrap _
  rw [BitVec.or_comm]
theorem RunV.joinr_u32 {f : Fr} {S : Sig} {h : Part} {L : List Ent} {ty T yt : TypeId} {x y : Operand} {p q : Int} (i : Nat) (D : Int) (hx : ev S x = some (.int .u32 p)) (hy : ev S y = some (.int .u32 q)) (hD : (2 : Int) ^ i = D) (h0 : 0 ≤ q) (hp : q % D = 0) (h1 : q ≤ 4294967295) (hq0 : 0 ≤ p) (hq : p < D) (hq1 : p ≤ 4294967295) : RunV f S h L (.binOp .or T x y yt) ty (.int .u32 (p + q)) := by
  have := RunV.or_ (f := f) (h := h) (L := L) (ty := ty) (T := T) (yt := yt) hx hy
  rwa [bits_or_comm, bits_join .u32 32 (by decide) wraps_u32' i q p h0 (by rw [hD]; exact hp) (by omega) hq0 (by rw [hD]; exact hq) (by omega), Int.add_comm] at this
theorem pow4 (r : Nat) (h : r < 4) : 256 ^ r = 1 ∨ 256 ^ r = 256 ∨ 256 ^ r = 65536 ∨ 256 ^ r = 16777216 := by
  have : r = 0 ∨ r = 1 ∨ r = 2 ∨ r = 3 := by omega
  rcases this with rfl | rfl | rfl | rfl <;> simp
theorem natread_fn {a : Option Addr} {c : Nat} {l : List UInt8} {h : Part} (hl : SlR u8R 1 h a c l) (hlen : l.length ≤ 1073741824) : FnR Tryz.prog 42 [.slice a l.length c] h (fun v h' => ∃ a' c', v = .slice a' (toL (beV l)).length c' ∧ SlR u32R 1 h' a' c' (toL (beV l))) := by
  refine Fn.intro Tryz.func42 rfl Tryz.ntmps42 rfl (fun e he => ?_)
  refine J.weak [(0, _)] ⟨rfl, trivial⟩ ?_
  have hh0 := Part.le.refl h
  refine Sr ?_
  refine Ru 1 rfl ?_
  refine JL.nil ?_
  refine Sr ?_
  refine Ru 2 rfl ?_
  refine JL.op ai_ rfl ?_
  refine JL.op (by first | exact RunV.quo_i64 rfl rfl (by omega) (by omega) (by omega) | exact RunV.quo rfl rfl (by omega)) rfl ?_
  refine JL.make1 mk_30 rfl rfl (m := (l.length + 3) / 4) (by omega) (by omega) (by omega) rfl rfl (fun b1 => ?_); rw [ws_zero]
  refine Ru 1 rfl ?_
  refine Nk [3, 2, 0] rfl ?_
  refine J.seq ?_
  refine Sr ?_
  refine Ru 3 rfl ?_
  refine JL.nil ?_
  refine J.block ?_
  refine J.loop (fun t_ S_ h_ L_ => ∃ (i v : Nat), t_ = l.length - i ∧ S_ = [(0, .slice a l.length c), (3, .slice (some ⟨b1, 0, none⟩) ((l.length + 3) / 4) ((l.length + 3) / 4)), (12, .int .i64 l.length), (13, .int .i64 i)] ∧ h = h_ ∧ L_ = [.row (some ⟨b1, 0, none⟩) ((l.length + 3) / 4) 103 1 ((l.length + 3) / 4) (ws .u32 (digN ((l.length + 3) / 4) v))] ∧ (i ≤ l.length ∧ v = beV (l.drop (l.length - i)))) ⟨_, _, ?_, ⟨0, 0, rfl, rfl, rfl, rfl, ⟨by omega, by simp [beV]⟩⟩⟩ ?_
  ·
   repeat (first | exact trivial | refine ⟨rfl, ?_⟩)
  rintro _ _ _ _ ⟨i, v, rfl, rfl, rfl, rfl, hi, hv⟩
  refine Sr ?_
  refine Ru 1 rfl ?_
  refine JL.nil ?_
  refine J.seq ?_
  refine Cs rfl (fun hc2 => ?_) fun hc2 => ?_
  ·
   have hi' : i < l.length := (by omega); have hvl := beV_drop_lt l i (by omega); have hbl := byteAt_lt l (l.length - 1 - i); have hdb := digN_byte ((l.length + 3) / 4) _ _ i hvl hbl (by omega); have hst := beV_drop l i hi'; have hd0 := digN_at ((l.length + 3) / 4) (beV (l.drop (l.length - i))) (i / 4) (by omega); have hr4 := pow4 (i % 4) (by omega); have hbe := byteAt_eq l (l.length - 1 - i) (by omega); rw [← hv] at hvl hdb hst hd0; have hsb : byteAt l (l.length - 1 - i) * 256 ^ (i % 4) ≤ 4278190080 := (by rcases hr4 with e | e | e | e <;> rw [e] <;> omega); have hsum : v / 4294967296 ^ (i / 4) + byteAt l (l.length - 1 - i) * 256 ^ (i % 4) < 4294967296 := (by have := hdb.2; rcases hr4 with e | e | e | e <;> rw [e] at this ⊢ <;> omega); have hdd : d32 (digN ((l.length + 3) / 4) v) (i / 4) = v / 4294967296 ^ (i / 4) := (by rw [hd0]; exact Nat.mod_eq_of_lt (by omega))
   refine J.skip ?_
   refine J.seq ?_
   refine J.block ?_
   refine Sr ?_
   refine Ru 2 rfl ?_
   refine JL.nil ?_
   refine Sr ?_
   refine Ru 2 rfl ?_
   refine JL.op si_ rfl ?_
   refine Ru 1 rfl ?_
   refine JL.op si_ rfl ?_
   refine Ru 1 rfl ?_
   refine JL.nil ?_
   refine J.held ([]) 17 mixed_ rfl (fun h00 => ?_)
   refine JH.take 0 rfl (by kernel_rfl) (by kernel_rfl) (by kernel_rfl) (fun _ _ _ _ hh => hh) (br_ h00) (RunV.move rfl) rfl ?_
   refine JH.take 1 rfl (by kernel_rfl) (by kernel_rfl) (by kernel_rfl) (fun _ _ _ _ hh => hh) (br_ h00) (RunV.move rfl) rfl ?_
   refine JH.take 2 rfl (by kernel_rfl) (by kernel_rfl) (by kernel_rfl) (fun _ _ _ _ hh => hh) (br_ h00) (by first | exact RunV.quo_i64 rfl rfl (by omega) (by omega) (by omega) | exact RunV.quo rfl rfl (by omega)) rfl ?_
   refine JH.take 3 rfl (by kernel_rfl) (by kernel_rfl) (by kernel_rfl) (fun _ _ _ _ hh => hh) (br_ h00) (RunV.index_at sl_30 (m := i / 4) rfl rfl (by omega) (by omega)) rfl ?_
   refine JH.take 5 rfl (by kernel_rfl) (by kernel_rfl) (by kernel_rfl) (fun _ _ _ _ hh => hh) (br_ h00) (RunV.move rfl) rfl ?_
   refine JH.take 6 rfl (by kernel_rfl) (by kernel_rfl) (by kernel_rfl) (fun _ _ _ _ hh => hh) (br_ h00) (RunV.move rfl) rfl ?_
   refine JH.takeE 7 rfl (by kernel_rfl) (by kernel_rfl) (by kernel_rfl) (fun _ _ _ _ hh => hh) (br_ h00) (RunE.index (m := l.length - 1 - i) sl_22 rfl rfl (by omega) hl rfl (by omega)) rfl ?_
   rintro _ ⟨b8, o8, hi8, rfl, hE8⟩
   refine JH.take 8 rfl (by kernel_rfl) (by kernel_rfl) (by kernel_rfl) (fun _ _ _ _ hh => hh) (br_ h00) ((hbe ▸ RunV.ld_u8 ag_5 rfl hE8 : RunV _ _ _ _ _ _ (.int .u8 (byteAt l (l.length - 1 - i) : Nat)))) rfl ?_
   refine JH.take 9 rfl (by kernel_rfl) (by kernel_rfl) (by kernel_rfl) (fun _ _ _ _ hh => hh) (br_ h00) (RunV.conv_u32 cv_5_103 rfl (by omega) (by omega)) rfl ?_
   refine JH.take 10 rfl (by kernel_rfl) (by kernel_rfl) (by kernel_rfl) (fun _ _ _ _ hh => hh) (br_ h00) (RunV.move rfl) rfl ?_
   refine JH.take 11 rfl (by kernel_rfl) (by kernel_rfl) (by kernel_rfl) (fun _ _ _ _ hh => hh) (br_ h00) (by first | exact RunV.rem_i64 rfl rfl (by omega) (by omega) | exact RunV.rem rfl rfl (by omega)) rfl ?_
   refine JH.take 12 rfl (by kernel_rfl) (by kernel_rfl) (by kernel_rfl) (fun _ _ _ _ hh => hh) (br_ h00) (by first | exact RunV.mul_i64 rfl rfl (by omega) (by omega) | exact RunV.mul rfl rfl) rfl ?_
   refine JH.take 13 rfl (by kernel_rfl) (by kernel_rfl) (by kernel_rfl) (fun _ _ _ _ hh => hh) (br_ h00) (RunV.shl_u32 ((256 ^ (i % 4) : Nat) : Int) rfl rfl (by omega) (by omega) (shl8 i) (by rw [← Int.natCast_mul]; omega) (by rw [← Int.natCast_mul]; omega)) rfl ?_
   refine JH.all1 4 (by kernel_rfl) rfl ?_
   unfold One
   refine JL.op (RunV.wload ag_103 rfl mm_ (by rw [digN_len]; omega)) rfl ?_
   refine JL.nil ⟨(br_ h00), ?_⟩
   refine JH.take 14 rfl (by kernel_rfl) (by kernel_rfl) (by kernel_rfl) (fun _ _ _ _ hh => hh) (br_ h00) (RunV.joinr_u32 (8 * (i % 4)) ((256 ^ (i % 4) : Nat) : Int) rfl rfl (two8 (i % 4)) (by rw [← Int.natCast_mul]; omega) (Int.mul_emod_left _ _) (by rw [← Int.natCast_mul]; omega) (by omega) (by have := hdb.2; omega) (by omega)) rfl ?_
   refine JH.take 15 rfl (by kernel_rfl) (by kernel_rfl) (by kernel_rfl) (fun _ _ _ _ hh => hh) (br_ h00) (RunV.index_at sl_30 (m := i / 4) rfl rfl (by omega) (by omega)) rfl ?_
   refine JH.all1 16 (by kernel_rfl) rfl ?_
   unfold One
   refine JL.storeW (v / 4294967296 ^ (i / 4) + byteAt l (l.length - 1 - i) * 256 ^ (i % 4)) ag_103 rfl rfl (by rw [Nat.mod_eq_of_lt hsum, hdd, ← Int.natCast_mul, ← Int.natCast_add]) dl_ (by rw [digN_len]; omega) ?_
   rw [← hdb.1]
   refine JL.nil ⟨(br_ h00), ?_⟩
   refine JH.done (by kernel_rfl) ?_
   refine Rg ?_
   refine JL.op ai_ rfl ?_
   refine Ru 1 rfl ?_
   refine JL.nil ?_
   refine ⟨_, ?_, _, ?_, ⟨i + 1, v + byteAt l (l.length - 1 - i) * 256 ^ i, rfl, rfl, rfl, rfl, ⟨by omega, by rw [hst, Nat.add_comm]⟩⟩⟩
   ·
    omega
   ·
    repeat (first | exact trivial | refine ⟨rfl, ?_⟩)
  ·
   refine J.exit ?_
   refine Kp [3] rfl ?_
   refine Sr ?_
   refine Ru 1 rfl ?_
   refine JL.pub32 dl_ (by rw [digN_len]) (by rw [digN_len]; omega) (fun h9 hle9 hP9 => ?_); replace hl := hl.mono hle9; replace hh0 := hh0.mono hle9; have hve : vL (digN ((l.length + 3) / 4) v) = beV l := (by rw [vL_digN, hv, show l.length - i = 0 by omega, List.drop_zero]; refine Nat.mod_eq_of_lt (Nat.lt_of_lt_of_le (beV_lt l) ?_); rw [show (4294967296 : Nat) = 256 ^ 4 from rfl, ← Nat.pow_mul]; exact Nat.pow_le_pow_right (by decide) (by omega))
   refine JL.callR ca_59 rfl (nattrim_fn' hP9 (by rw [digN_len]) (by omega)) rfl ?_
   rintro _ h5 hle5 ⟨ra, rc, rfl, hR⟩
   replace hl := hl.mono hle5
   replace hh0 := hh0.mono hle5
   refine Ru 1 rfl ?_
   refine JL.nil ?_
   rw [hve] at hR ⊢; exact J.retR (RetV.one rfl rfl) ⟨_, _, rfl, hR⟩
def Nd.whole (x : Nd) : Bool := (decide (x.cls = 0) && (decide (x.tag = 2) || decide (x.tag = 10))) && x.put.isSome
theorem whole_fn' {x : Nd} {cs : List Value} {h : Part} (r : NdR h cs x) (hT : Tabs h) (hsz : x.sz ≤ 1073741824) : Pure Tryz.prog 109 [.agg cs.toArray] h (.bool x.whole) := by
  cases x; exact whole_fn r hT hsz
theorem form_int {t : Int} (h : t = 2 ∨ t = 10) : form t = 1 := by rcases h with rfl | rfl <;> rfl
theorem whole_iff {c t : Int} {k : Bool} {bs : List UInt8} {ks : List Nd} : (Nd.mk c t k bs ks).whole = true ↔ c = 0 ∧ (t = 2 ∨ t = 10) ∧ k = false ∧ ks = [] ∧ leastB bs = true := by
  show ((decide (c = 0) && (decide (t = 2) || decide (t = 10))) && (Nd.mk c t k bs ks).put.isSome) = true ↔ _
  simp only [Bool.and_eq_true, Bool.or_eq_true, decide_eq_true_eq]
  constructor
  · rintro ⟨⟨rfl, ht⟩, hp⟩
    simp only [Nd.put] at hp
    split at hp
    · rename_i hok
      have hf := form_int ht
      have hr : 0 ≤ t ∧ t ≤ 30 := by omega
      unfold okN mayB at hok
      rw [hf, valB_2 ht] at hok
      cases k with
      | true => simp at hok
      | false =>
        have hn : ks = [] := by
          cases ks with
          | nil => rfl
          | cons y r => simp at hok
        subst hn
        simp at hok
        exact ⟨rfl, ht, rfl, rfl, hok.2⟩
    · cases hp
  · rintro ⟨rfl, ht, rfl, rfl, hb⟩
    refine ⟨⟨rfl, ht⟩, ?_⟩
    have hf := form_int ht
    have hr : 0 ≤ t ∧ t ≤ 30 := by omega
    have hok : okN 0 t false bs [] = true := by
      unfold okN mayB
      rw [hf, valB_2 ht, hb]
      simp [hr]
    simp only [Nd.put]
    rw [hok]
    rfl
theorem leastB_pos {b : List UInt8} (h : leastB b = true) : 0 < b.length := by
  unfold leastB at h
  split at h
  · cases h
  · omega
theorem Nd.bytes_sz (c t : Int) (k : Bool) (bs : List UInt8) (ks : List Nd) : bs.length ≤ (Nd.mk c t k bs ks).sz := by simp only [Nd.sz]; omega
def Nd.natOk (x : Nd) : Bool := x.whole && decide (byteAt x.bytes 0 < 128)
def Nd.natL (x : Nd) : List UInt32 := if x.natOk then toL (beV x.bytes) else []
theorem natOk_f {c t : Int} {k : Bool} {bs : List UInt8} {ks : List Nd} (h : (Nd.mk c t k bs ks).whole = false ∨ ¬ byteAt bs 0 < 128) : (Nd.mk c t k bs ks).natOk = false := by
  show ((Nd.mk c t k bs ks).whole && decide (byteAt bs 0 < 128)) = false
  rcases h with h | h
  · rw [h]; rfl
  · rw [decide_eq_false h, Bool.and_false]
theorem natOk_t {c t : Int} {k : Bool} {bs : List UInt8} {ks : List Nd} (h : (Nd.mk c t k bs ks).whole = true) (h2 : byteAt bs 0 < 128) : (Nd.mk c t k bs ks).natOk = true := by
  show ((Nd.mk c t k bs ks).whole && decide (byteAt bs 0 < 128)) = true
  rw [h, decide_eq_true h2]; rfl
theorem natof_fn {x : Nd} {cs : List Value} {h : Part} (r : NdR h cs x) (hT : Tabs h) (hsz : x.sz ≤ 1073741824) :
    FnR Tryz.prog 69 [.agg cs.toArray] h (fun v h' => ∃ a c, v = .tuple #[.slice a x.natL.length c, .bool x.natOk] ∧ SlR u32R 1 h' a c x.natL) := by
  cases x with
  | mk c t k bs ks =>
  have hbs := Nd.bytes_sz c t k bs ks
  have hpos : (Nd.mk c t k bs ks).whole = true → 0 < bs.length := fun hw => leastB_pos (whole_iff.1 hw).2.2.2.2
  obtain ⟨ka, kca, kb, kcb, rfl, hka, hkb⟩ := r.inv
  refine Fn.intro Tryz.func69 rfl Tryz.ntmps69 rfl (fun e he => ?_)
  refine J.weak [(0, _)] ⟨rfl, trivial⟩ ?_
  have hh0 := Part.le.refl h
  refine Sr ?_
  refine JL.box rfl rfl rfl (fun b1 => ?_)
  refine Ru 2 rfl ?_
  refine JL.nil ?_
  refine J.seq ?_
  refine Sr ?_
  refine JL.op (RunV.ownA ag_75 rfl mm_ (by first | rfl | exact NdR.len5 (by assumption))) rfl ?_
  refine JL.callP ca_109 rfl (whole_fn' (by assumption) (by assumption) (by omega)) rfl ?_
  refine Ru 2 rfl ?_
  refine Bs 7 rfl (fun hc3 => ?_) fun hc3 => ?_
  ·
   refine Ru 6 rfl ?_
   refine Nk [13, 3, 2, 1] rfl ?_
   refine J.cond_t rfl ?_
   refine Sr ?_
   refine Ru 2 rfl ?_
   refine JL.nil ?_
   have hff := natOk_f (show (Nd.mk c t k bs ks).whole = false ∨ ¬ byteAt bs 0 < 128 by first | exact .inl hc3 | (right; omega)); have hfl : (Nd.mk c t k bs ks).natL = [] := if_neg (by rw [hff]; decide); rw [hff, hfl]; exact J.retR (RetV.two rfl rfl rfl) ⟨_, _, rfl, SlR.nil_⟩
  ·
   have hps := hpos (by simpa using hc3); have e0 := byteAt_eq bs 0 hps; have hwz := hc3
   refine Ru 1 rfl ?_
   refine JL.opg rfl rfl  (RunV.own1 ag_22 rfl mm_ rfl) rfl ?_
   refine JL.opeg rfl rfl  (RunE.index sl_22 rfl rfl (show _ = ((0 : Nat) : Int) from rfl) (by assumption) rfl (by omega)) rfl ?_
   rintro _ ⟨b4, o4, hi4, rfl, hE4⟩
   refine JL.opg rfl rfl  (RunV.ld_u8 ag_5 rfl (by assumption)) rfl ?_
   refine Ru 2 rfl ?_
   refine Nk [13, 3, 2, 1] rfl ?_
   refine Cs rfl (fun hc6 => ?_) fun hc6 => ?_
   ·
    refine Sr ?_
    refine Ru 2 rfl ?_
    refine JL.nil ?_
    have hff := natOk_f (show (Nd.mk c t k bs ks).whole = false ∨ ¬ byteAt bs 0 < 128 by first | exact .inl hc6 | (right; omega)); have hfl : (Nd.mk c t k bs ks).natL = [] := if_neg (by rw [hff]; decide); rw [hff, hfl]; exact J.retR (RetV.two rfl rfl rfl) ⟨_, _, rfl, SlR.nil_⟩
   ·
    refine J.skip ?_
    refine Sr ?_
    refine Ru 1 rfl ?_
    refine JL.op (RunV.own1 ag_22 rfl mm_ rfl) rfl ?_
    refine JL.callR ca_42 rfl (natread_fn (by assumption) (by omega)) rfl ?_
    rintro _ h7 hle7 ⟨a7, c7, rfl, hS7⟩
    replace r := r.mono hle7
    replace hT := hT.mono hle7
    replace hka := hka.mono hle7
    replace hh0 := hh0.mono hle7
    refine Ru 2 rfl ?_
    refine Nk [3, 2] rfl ?_
    have hff := natOk_t hwz (show byteAt bs 0 < 128 by omega); have hfl : (Nd.mk c t k bs ks).natL = toL (beV bs) := if_pos hff; rw [hff, hfl]; exact J.retR (RetV.two rfl rfl rfl) ⟨_, _, rfl, by assumption⟩
end Go.Proofs.YtmngjbefnloljaaGreatDoor
set_option linter.unusedSimpArgs false
set_option linter.unusedVariables false
set_option linter.constructorNameAsVariable false
namespace Go.Proofs.YtmngjbefnloljaaGreatDoor
open Go Go.RowKit
set_option maxRecDepth 100000
def cmpI3 (m n : Nat) : Int := if m < n then -1 else if n < m then 1 else 0
theorem nd_lt {m n : Nat} (h : nd m < nd n) : m < n := by
  have h0 : 0 < n := by
    rcases Nat.eq_zero_or_pos n with rfl | h0
    · rw [nd_zero] at h; omega
    · exact h0
  have h1 := (nd_pos n h0).1
  exact Nat.lt_of_lt_of_le (lt_nd m) (Nat.le_trans (Nat.pow_le_pow_right (by decide) (by omega)) h1)
theorem div_low (x j : Nat) : x / 4294967296 ^ j = x / 4294967296 ^ (j + 1) * 4294967296 + x / 4294967296 ^ j % 4294967296 := by
  rw [Nat.pow_succ, ← Nat.div_div_eq_div_mul]
  omega
theorem lt_of_div {x y d : Nat} (h : x / d < y / d) : x < y := by
  rcases Nat.lt_or_ge x y with h1 | h1
  · exact h1
  · have := Nat.div_le_div_right (c := d) h1; omega
section
variable {f : Fr} {S : Sig} {h : Part} {L : List Ent} {ty src dst : TypeId} {x : Operand} {k : IntKind} {p : Int}
theorem RunV.toW (t : Nat) (hc : convI f.P src dst = some .u32) (hx : ev S x = some (.int k p)) (hp : p = (t : Int)) : RunV f S h L (.convert src dst x) ty (.int .u32 ((t % 4294967296 : Nat) : Int)) := by
  have := RunV.conv (f := f) (h := h) (L := L) (ty := ty) hc hx
  rwa [hp, IntKind.wrap_u32, show ((t : Int) % 4294967296) = ((t % 4294967296 : Nat) : Int) from rfl] at this
theorem RunV.toWI (t : Nat) (hc : convI f.P src dst = some .u32) (hx : ev S x = some (.int k p)) (hp : p % 4294967296 = (t : Int)) : RunV f S h L (.convert src dst x) ty (.int .u32 (t : Int)) := by
  have := RunV.conv (f := f) (h := h) (L := L) (ty := ty) hc hx
  rwa [IntKind.wrap_u32, hp] at this
end
theorem natcmp_fn {a b : Option Addr} {ca cb : Nat} {l r : List UInt32} {h : Part} (hl : SlR u32R 1 h a ca l) (hr : SlR u32R 1 h b cb r) : Pure Tryz.prog 47 [.slice a l.length ca, .slice b r.length cb] h (.int .i64 (cmpI3 (vL l) (vL r))) := by
  have hll := hl.big
  have hrl := hr.big
  have t1 := tsz_le (d32 l) l.length
  have t2 := tsz_le (d32 r) r.length
  have e1 := tsz_nd l
  have e2 := tsz_nd r
  refine Fn.intro Tryz.func47 rfl Tryz.ntmps47 rfl (fun e he => ?_)
  refine J.weak [(0, _), (1, _)] ⟨rfl, rfl, trivial⟩ ?_
  refine Sr ?_
  refine Ru 1 rfl ?_
  refine JL.nil ?_
  refine Sr ?_
  refine Ru 1 rfl ?_
  refine JL.callP ca_84 rfl (natsize_fn (by assumption)) rfl ?_
  refine Ru 1 rfl ?_
  refine JL.callP ca_84 rfl (natsize_fn (by assumption)) rfl ?_
  refine Ru 2 rfl ?_
  refine JL.nil ?_
  refine J.seq ?_
  refine Sr ?_
  refine Ru 3 rfl ?_
  refine Nk [14, 6, 5, 4, 0, 1] rfl ?_
  refine Cs rfl (fun hc3 => ?_) fun hc3 => ?_
  ·
   refine J.seq ?_
   refine Sr ?_
   refine Ru 3 rfl ?_
   refine Nk [17, 5, 4, 0, 1] rfl ?_
   refine Cs rfl (fun hc4 => ?_) fun hc4 => ?_
   ·
    have hlt := nd_lt (m := vL l) (n := vL r) (by omega)
    refine Sr ?_
    refine Ru 1 rfl ?_
    refine JL.nil ?_
    exact J.retP (RetV.one rfl rfl) (by unfold cmpI3; rw [if_pos hlt]) rfl
   ·
    have hlt := nd_lt (m := vL r) (n := vL l) (by omega)
    refine J.skip ?_
    refine Sr ?_
    refine Ru 1 rfl ?_
    refine JL.nil ?_
    exact J.retP (RetV.one rfl rfl) (by unfold cmpI3; rw [if_neg (by omega), if_pos hlt]) rfl
  ·
   refine J.skip ?_
   refine J.seq ?_
   refine Sr ?_
   refine Ru 1 rfl ?_
   refine JL.op si_ rfl ?_
   refine Ru 1 rfl ?_
   refine Nk [7, 4, 0, 1] rfl ?_
   refine J.block ?_
   refine J.loop (fun t_ S_ h_ L_ => ∃ (j : Nat), t_ = j + 1 ∧ S_ = [(0, .slice a l.length ca), (1, .slice b r.length cb), (7, .int .i64 ((j : Int) - 1))] ∧ h = h_ ∧ L_ = [] ∧ (j ≤ tsz (d32 l) l.length ∧ vL l / 4294967296 ^ j = vL r / 4294967296 ^ j)) ⟨_, _, ?_, ⟨tsz (d32 l) l.length, rfl, rfl, rfl, rfl, ⟨Nat.le_refl _, by rw [e1, Nat.div_eq_of_lt (lt_nd _), show nd (vL l) = nd (vL r) by omega, Nat.div_eq_of_lt (lt_nd _)]⟩⟩⟩ ?_
   ·
    repeat (first | exact trivial | refine ⟨rfl, ?_⟩ | refine ⟨(by exact some_int (by omega)), ?_⟩)
   rintro _ _ _ _ ⟨j, rfl, rfl, rfl, rfl, hj, he⟩
   refine J.seq ?_
   refine Sr ?_
   refine Ru 2 rfl ?_
   refine JL.nil ?_
   refine Cs rfl (fun hc5 => ?_) fun hc5 => ?_
   ·
    obtain ⟨i, rfl⟩ : ∃ i, j = i + 1 := ⟨j - 1, by omega⟩; have dl := div_low (vL l) i; have dr := div_low (vL r) i; rw [vL_digit] at dl dr; rw [he] at dl; have al := d32_at l i (by omega); have ar := d32_at r i (by omega)
    refine J.skip ?_
    refine J.seq ?_
    refine J.block ?_
    refine J.seq ?_
    refine J.drawn mixed_ (by kernel_rfl) ?_
    refine Rq 2 rfl ?_
    refine JQ.ope (RunE.index (m := i) sl_30 rfl rfl (by omega) hl rfl (by omega)) rfl ?_
    rintro _ ⟨b6, o6, hi6, rfl, hE6⟩
    refine JQ.op (RunV.ld_u32 ag_103 rfl (by assumption)) rfl ?_
    refine Rq 2 rfl ?_
    refine JQ.ope (RunE.index (m := i) sl_30 rfl rfl (by omega) hr rfl (by omega)) rfl ?_
    rintro _ ⟨b8, o8, hi8, rfl, hE8⟩
    refine JQ.op (RunV.ld_u32 ag_103 rfl (by assumption)) rfl ?_
    refine Rq 1 rfl ?_
    refine JQ.nil ?_
    refine Cs rfl (fun hc10 => ?_) fun hc10 => ?_
    ·
     refine J.seq ?_
     refine J.seq ?_
     refine J.drawn mixed_ (by kernel_rfl) ?_
     refine Rq 2 rfl ?_
     refine JQ.ope (RunE.index (m := i) sl_30 rfl rfl (by omega) hl rfl (by omega)) rfl ?_
     rintro _ ⟨b11, o11, hi11, rfl, hE11⟩
     refine JQ.op (RunV.ld_u32 ag_103 rfl (by assumption)) rfl ?_
     refine Rq 2 rfl ?_
     refine JQ.ope (RunE.index (m := i) sl_30 rfl rfl (by omega) hr rfl (by omega)) rfl ?_
     rintro _ ⟨b13, o13, hi13, rfl, hE13⟩
     refine JQ.op (RunV.ld_u32 ag_103 rfl (by assumption)) rfl ?_
     refine Rq 1 rfl ?_
     refine JQ.nil ?_
     refine Cs rfl (fun hc15 => ?_) fun hc15 => ?_
     ·
      have hlt := lt_of_div (x := vL l) (y := vL r) (d := 4294967296 ^ i) (by omega)
      refine Sr ?_
      refine Ru 1 rfl ?_
      refine JL.nil ?_
      exact J.retP (RetV.one rfl rfl) (by unfold cmpI3; rw [if_pos hlt]) rfl
     ·
      have hlt := lt_of_div (x := vL r) (y := vL l) (d := 4294967296 ^ i) (by omega)
      refine J.skip ?_
      refine Sr ?_
      refine Ru 1 rfl ?_
      refine JL.nil ?_
      exact J.retP (RetV.one rfl rfl) (by unfold cmpI3; rw [if_neg (by omega), if_pos hlt]) rfl
    ·
     refine J.skip ?_
     refine Rg ?_
     refine Ru 1 rfl ?_
     refine JL.op si_ rfl ?_
     refine Ru 1 rfl ?_
     refine JL.nil ?_
     refine ⟨_, ?_, _, ?_, ⟨i, rfl, rfl, rfl, rfl, ⟨by omega, by omega⟩⟩⟩
     ·
      omega
     ·
      repeat (first | exact trivial | refine ⟨rfl, ?_⟩ | refine ⟨(by exact some_int (by omega)), ?_⟩)
   ·
    have hj0 : j = 0 := (by omega); rw [hj0, Nat.pow_zero, Nat.div_one, Nat.div_one] at he
    refine J.exit ?_
    refine Kp [] rfl ?_
    refine Sr ?_
    refine Ru 1 rfl ?_
    refine JL.nil ?_
    exact J.retP (RetV.one rfl rfl) (by unfold cmpI3; rw [if_neg (by omega), if_neg (by omega)]) rfl
theorem natOf_fn {n : Nat} {h : Part} (hn : n < 18446744073709551616) : FnR Tryz.prog 87 [.int .u64 n] h (fun v h' => ∃ a c, v = .slice a (toL n).length c ∧ SlR u32R 1 h' a c (toL n)) := by
  refine Fn.intro Tryz.func87 rfl Tryz.ntmps87 rfl (fun e he => ?_)
  refine J.weak [(0, _)] ⟨rfl, trivial⟩ ?_
  have hh0 := Part.le.refl h
  refine Sr ?_
  refine Ru 1 rfl ?_
  refine JL.nil ?_
  refine Sr ?_
  refine Ru 1 rfl ?_
  refine JL.op (RunV.toW n cv_63_103 rfl rfl) rfl ?_
  refine Ru 1 rfl ?_
  refine JL.op (RunV.shr_u64 4294967296 rfl rfl (by decide) (by decide) (by decide)) rfl ?_
  refine JL.op (RunV.toW (n / 4294967296) cv_63_103 rfl rfl) rfl ?_
  refine JL.lit1 ap_30 zr_103 rfl rfl rfl rfl rfl (fun b1 => ?_)
  refine JL.pubB (R := u32R) (sz := 1) (l := digN 2 n) dl_ ((show CellsR u32R 1 _ [.int .u32 ((n % 4294967296 : Nat) : Int), .int .u32 ((n / 4294967296 % 4294967296 : Nat) : Int)] (digN 2 n) from (show ws .u32 (digN 2 n) = [.int .u32 ((n % 4294967296 : Nat) : Int), .int .u32 ((n / 4294967296 % 4294967296 : Nat) : Int)] from by simp [ws, digN]) ▸ CellsR.of_ws32)) (by first | decide | omega | (rw [digN_len]; decide) | (simp; done) | (simp [digN_len]; done)) (fun h2 hle2 hQ => ?_)
  replace hh0 := hh0.mono hle2
  refine JL.callR ca_59 rfl (nattrim_fn' hQ (by rw [digN_len]) (by omega)) rfl ?_
  rintro _ h3 hle3 ⟨ra, rc, rfl, hR⟩
  replace hh0 := hh0.mono hle3
  replace hQ := hQ.mono hle3
  refine Ru 1 rfl ?_
  refine Nk [2] rfl ?_
  have hv : vL (digN 2 n) = n := (by rw [vL_digN]; exact Nat.mod_eq_of_lt (by simp only [Nat.reducePow]; omega)); rw [hv] at hR ⊢; exact J.retR (RetV.one rfl rfl) ⟨_, _, rfl, hR⟩
theorem mul_bound {x y i k : Nat} (hx : x < 4294967296 ^ i) (hy : y < 4294967296 ^ k) : x * y < 4294967296 ^ (i + k) := by
  rw [Nat.pow_add]
  exact Nat.mul_lt_mul'' hx hy
theorem vL_take_lt (l : List UInt32) (i : Nat) : vL (l.take i) < 4294967296 ^ i := by
  refine Nat.lt_of_lt_of_le (vL_lt _) (Nat.pow_le_pow_right (by decide) ?_)
  rw [List.length_take]; omega
theorem natmul_fn {a b : Option Addr} {ca cb : Nat} {l r : List UInt32} {h : Part} (hl : SlR u32R 1 h a ca l) (hr : SlR u32R 1 h b cb r) (hlb : l.length ≤ 100000) (hrb : r.length ≤ 100000) : FnR Tryz.prog 88 [.slice a l.length ca, .slice b r.length cb] h (fun v h' => ∃ a c, v = .slice a (toL (vL l * vL r)).length c ∧ SlR u32R 1 h' a c (toL (vL l * vL r))) := by
  have t1 := tsz_le (d32 l) l.length
  have t2 := tsz_le (d32 r) r.length
  have x1 : l.take (tsz (d32 l) l.length) = toL (vL l) := trim_toL l
  have x2 : r.take (tsz (d32 r) r.length) = toL (vL r) := trim_toL r
  have v1 : vL (toL (vL l)) = vL l := vL_toL _
  have v2 : vL (toL (vL r)) = vL r := vL_toL _
  have n1 : (toL (vL l)).length ≤ 100000 := by rw [toL_len, ← tsz_nd]; omega
  have n2 : (toL (vL r)).length ≤ 100000 := by rw [toL_len, ← tsz_nd]; omega
  refine Fn.intro Tryz.func88 rfl Tryz.ntmps88 rfl (fun e he => ?_)
  refine J.weak [(0, _), (1, _)] ⟨rfl, rfl, trivial⟩ ?_
  have hh0 := Part.le.refl h
  refine Sr ?_
  refine Ru 1 rfl ?_
  refine JL.nil ?_
  refine J.seq ?_
  refine J.drawn mixed_ (by kernel_rfl) ?_
  refine Rq 2 rfl ?_
  refine JQ.callP ca_84 rfl (natsize_fn (by assumption)) rfl ?_
  refine JQ.ope (RunE.cut_h sl_30 (m := tsz (d32 l) l.length) rfl rfl rfl hl rfl (by omega)) rfl ?_
  rintro _ ⟨a8, c8, rfl, hA⟩
  rw [x1] at hA ⊢; generalize toL (vL l) = A at *
  refine Rq 2 rfl ?_
  refine JQ.callP ca_84 rfl (natsize_fn (by assumption)) rfl ?_
  refine JQ.ope (RunE.cut_h sl_30 (m := tsz (d32 r) r.length) rfl rfl rfl hr rfl (by omega)) rfl ?_
  rintro _ ⟨a9, c9, rfl, hB⟩
  rw [x2] at hB ⊢; generalize toL (vL r) = B at *; rw [← v1, ← v2]
  refine Rq 2 rfl ?_
  refine Nq [1, 0, 4] rfl ?_
  refine Sr ?_
  refine Ru 4 rfl ?_
  refine JL.op ai_ rfl ?_
  refine JL.make1 mk_30 rfl rfl (m := A.length + B.length) (by omega) (by omega) (by omega) rfl rfl (fun b1 => ?_); rw [ws_zero]
  refine Ru 1 rfl ?_
  refine Nk [5, 1, 0, 4] rfl ?_
  refine J.seq ?_
  refine Sr ?_
  refine Ru 3 rfl ?_
  refine JL.nil ?_
  refine J.block ?_
  refine J.loop (fun t_ S_ h_ L_ => ∃ (i : Nat) (out : List UInt32), t_ = A.length - i ∧ S_ = [(1, .slice a9 B.length c9), (5, .slice (some ⟨b1, 0, none⟩) (A.length + B.length) (A.length + B.length)), (25, .slice a8 A.length c8), (26, .int .i64 A.length), (27, .int .i64 i)] ∧ h = h_ ∧ L_ = [.row (some ⟨b1, 0, none⟩) (A.length + B.length) 103 1 (A.length + B.length) (ws .u32 out)] ∧ (i ≤ A.length ∧ out.length = A.length + B.length ∧ vL out = vL (A.take i) * vL B)) ⟨_, _, ?_, ⟨0, _, rfl, rfl, rfl, rfl, ⟨by omega, digN_len _ _, by rw [vL_digN]; simp [vL]⟩⟩⟩ ?_
  ·
   repeat (first | exact trivial | refine ⟨rfl, ?_⟩)
  rintro _ _ _ _ ⟨i, out, rfl, rfl, rfl, rfl, hi, hol, hv⟩
  refine Sr ?_
  refine Ru 1 rfl ?_
  refine JL.nil ?_
  refine J.seq ?_
  refine Cs rfl (fun hc6 => ?_) fun hc6 => ?_
  ·
   have hi' : i < A.length := (by omega); have hz := vL_zero_above (l := out) (m := i + B.length) (by rw [hv]; exact mul_bound (vL_take_lt A i) (vL_lt B)) (i + B.length) (Nat.le_refl _); have hai := d32_lt A i
   refine J.skip ?_
   refine J.seq ?_
   refine J.block ?_
   refine Sr ?_
   refine Ru 1 rfl ?_
   refine JL.ope (RunE.index sl_30 rfl rfl (by first | with_reducible rfl | exact (Int.toNat_of_nonneg (by omega)).symm) (by assumption) rfl (by omega)) rfl ?_
   rintro _ ⟨b7, o7, hi7, rfl, hE7⟩
   refine JL.op (RunV.ld_u32 ag_103 rfl (by assumption)) rfl ?_
   rw [d32_at]
   refine Ru 2 rfl ?_
   refine JL.nil ?_
   refine Sr ?_
   refine Ru 1 rfl ?_
   refine JL.nil ?_
   refine J.seq ?_
   refine Sr ?_
   refine Ru 3 rfl ?_
   refine JL.nil ?_
   refine J.block ?_
   refine J.loop (fun t_ S_ h_ L_ => ∃ (k c : Nat) (o2 : List UInt32), t_ = B.length - k ∧ S_ = [(1, .slice a9 B.length c9), (5, .slice (some ⟨b1, 0, none⟩) (A.length + B.length) (A.length + B.length)), (6, .int .i64 i), (7, .int .u32 (d32 A i : Nat)), (8, .int .u64 c), (25, .slice a8 A.length c8), (26, .int .i64 A.length), (27, .int .i64 i), (32, .slice a9 B.length c9), (33, .int .i64 B.length), (34, .int .i64 k)] ∧ h = h_ ∧ L_ = [.row (some ⟨b1, 0, none⟩) (A.length + B.length) 103 1 (A.length + B.length) (ws .u32 o2)] ∧ (k ≤ B.length ∧ o2.length = A.length + B.length ∧ c < 4294967296 ∧ d32 o2 (i + B.length) = 0 ∧ vL o2 + c * 4294967296 ^ (i + k) = vL out + d32 A i * vL (B.take k) * 4294967296 ^ i)) ⟨_, _, ?_, ⟨0, 0, out, rfl, rfl, rfl, rfl, ⟨by omega, hol, by omega, hz, by simp [vL]⟩⟩⟩ ?_
   ·
    repeat (first | exact trivial | refine ⟨rfl, ?_⟩ | refine ⟨(by exact some_int (by omega)), ?_⟩)
   rintro _ _ _ _ ⟨k, c, o2, rfl, rfl, rfl, rfl, hk, ho2, hc, hz2, hv2⟩
   refine Sr ?_
   refine Ru 1 rfl ?_
   refine JL.nil ?_
   refine J.seq ?_
   refine Cs rfl (fun hc9 => ?_) fun hc9 => ?_
   ·
    have hk' : k < B.length := (by omega); have hbk := d32_lt B k; have hdo := d32_lt o2 (i + k); have hcl := carry_lt hc hai hbk hdo; have hst := mul_step (b := B) hk' (by omega) hv2
    refine J.skip ?_
    refine J.seq ?_
    refine J.block ?_
    refine Sr ?_
    refine Ru 1 rfl ?_
    refine JL.ope (RunE.index sl_30 rfl rfl (by first | with_reducible rfl | exact (Int.toNat_of_nonneg (by omega)).symm) (by assumption) rfl (by omega)) rfl ?_
    rintro _ ⟨b10, o10, hi10, rfl, hE10⟩
    refine JL.op (RunV.ld_u32 ag_103 rfl (by assumption)) rfl ?_
    rw [d32_at]
    refine Ru 2 rfl ?_
    refine JL.nil ?_
    refine Sr ?_
    refine Ru 2 rfl ?_
    refine JL.op (by first | exact RunV.conv_u64 cv_103_63 rfl (by omega) (by omega) | exact RunV.convw_u64 cv_103_63 rfl | exact RunV.conv cv_103_63 rfl) rfl ?_
    refine Ru 1 rfl ?_
    refine JL.op (by first | exact RunV.conv_u64 cv_103_63 rfl (by omega) (by omega) | exact RunV.convw_u64 cv_103_63 rfl | exact RunV.conv cv_103_63 rfl) rfl ?_
    refine JL.op (RunV.mul_u64 rfl rfl (by rw [← Int.natCast_mul]; omega) (by rw [← Int.natCast_mul]; omega)) rfl ?_
    refine Ru 3 rfl ?_
    refine JL.op ai_ rfl ?_
    refine JL.op (RunV.index_at sl_30 (m := i + k) rfl rfl (by omega) (by omega)) rfl ?_
    refine JL.op (RunV.wload ag_103 rfl mm_ (by omega)) rfl ?_
    refine JL.op (RunV.conv_u64 cv_103_63 rfl (by omega) (by omega)) rfl ?_
    refine JL.op (RunV.add_u64 rfl rfl (by rw [← Int.natCast_mul]; omega) (by rw [← Int.natCast_mul]; omega)) rfl ?_
    refine JL.op (RunV.add_u64 rfl rfl (by rw [← Int.natCast_mul]; omega) (by rw [← Int.natCast_mul]; omega)) rfl ?_
    rw [show (c : Int) + ((d32 A i : Int) * (d32 B k : Int) + (d32 o2 (i + k) : Int)) = ((c + d32 A i * d32 B k + d32 o2 (i + k) : Nat) : Int) from by rw [Int.natCast_add, Int.natCast_add, Int.natCast_mul, Int.add_assoc]]
    refine Ru 1 rfl ?_
    refine JL.nil ?_
    refine Sr ?_
    refine Ru 3 rfl ?_
    refine JL.op ai_ rfl ?_
    refine Ru 1 rfl ?_
    refine JL.op (RunV.toW (c + d32 A i * d32 B k + d32 o2 (i + k)) cv_63_103 rfl rfl) rfl ?_
    refine JL.op (RunV.index_at sl_30 (m := i + k) rfl rfl (by omega) (by omega)) rfl ?_
    refine JL.storeW (c + d32 A i * d32 B k + d32 o2 (i + k)) ag_103 rfl rfl rfl dl_ (by omega) ?_
    refine JL.nil ?_
    refine Rg ?_
    refine Ru 1 rfl ?_
    refine JL.op (RunV.shr_u64 4294967296 rfl rfl (by decide) (by decide) (by decide)) rfl ?_
    refine Ru 1 rfl ?_
    refine JL.nil ?_
    refine Rg ?_
    refine JL.op ai_ rfl ?_
    refine Ru 1 rfl ?_
    refine JL.nil ?_
    refine ⟨_, ?_, _, ?_, ⟨k + 1, (c + d32 A i * d32 B k + d32 o2 (i + k)) / 4294967296, _, rfl, rfl, rfl, rfl, ⟨by omega, by rw [List.length_set]; exact ho2, by omega, by rw [d32_set _ _ _ _ (by omega), if_neg (by omega)]; exact hz2, hst⟩⟩⟩
    ·
     omega
    ·
     repeat (first | exact trivial | refine ⟨rfl, ?_⟩ | refine ⟨(by exact some_int (by omega)), ?_⟩)
   ·
    have hke : k = B.length := (by omega); subst hke; have hrow := mul_row hi' (by omega) hz2 hc hv hv2
    refine J.exit ?_
    refine Rg ?_
    refine Ru 4 rfl ?_
    refine JL.op ai_ rfl ?_
    refine Ru 1 rfl ?_
    refine JL.op (RunV.toW c cv_63_103 rfl rfl) rfl ?_
    refine JL.op (RunV.index_at sl_30 (m := i + B.length) rfl rfl (by omega) (by omega)) rfl ?_
    refine JL.storeW c ag_103 rfl rfl rfl dl_ (by omega) ?_
    refine JL.nil ?_
    refine Rg ?_
    refine JL.op ai_ rfl ?_
    refine Ru 1 rfl ?_
    refine JL.nil ?_
    refine ⟨_, ?_, _, ?_, ⟨i + 1, _, rfl, rfl, rfl, rfl, ⟨by omega, by rw [List.length_set]; exact ho2, hrow⟩⟩⟩
    ·
     omega
    ·
     repeat (first | exact trivial | refine ⟨rfl, ?_⟩)
  ·
   have hie : i = A.length := (by omega); rw [hie, List.take_length] at hv
   refine J.exit ?_
   refine Kp [5] rfl ?_
   refine Sr ?_
   refine Ru 1 rfl ?_
   refine JL.pub32 dl_ hol.symm (by omega) (fun h9 hle9 hP9 => ?_); replace hh0 := hh0.mono hle9; replace hl := hl.mono hle9; replace hr := hr.mono hle9; replace hA := hA.mono hle9; replace hB := hB.mono hle9
   refine JL.callR ca_59 rfl (nattrim_fn' hP9 hol.symm (by omega)) rfl ?_
   rintro _ h14 hle14 ⟨ra, rc, rfl, hR⟩
   replace hl := hl.mono hle14
   replace hr := hr.mono hle14
   replace hh0 := hh0.mono hle14
   replace hA := hA.mono hle14
   replace hB := hB.mono hle14
   refine Ru 1 rfl ?_
   refine JL.nil ?_
   rw [hv] at hR ⊢; exact J.retR (RetV.one rfl rfl) ⟨_, _, rfl, hR⟩
end Go.Proofs.YtmngjbefnloljaaGreatDoor
set_option linter.unusedSimpArgs false
set_option linter.unusedVariables false
set_option linter.constructorNameAsVariable false
namespace Go.Proofs.YtmngjbefnloljaaGreatDoor
open Go Go.RowKit
set_option maxRecDepth 100000
theorem cv_103_2 : convI Tryz.prog 103 2 = some .i64 := by kernel_rfl
theorem cv_2_103 : convI Tryz.prog 2 103 = some .u32 := by kernel_rfl
theorem cv_63_2 : convI Tryz.prog 63 2 = some .i64 := by kernel_rfl
theorem jx_at {l : Nat} {K : Post} {x : Nat → Post} {S : Sig} {h : Part} {L : List Ent} (k : K S h L) : jx l K x (l + 1000000) S h L := by
  unfold jx
  have hb : Nat.beq (l + 1000000) (l + 1000000) = true := Nat.beq_refl _
  rw [hb]; exact k
theorem g_dec {Q gg v1 v2 rr top u2 S T : Nat} (hS : S = v1 * 4294967296 + v2) (hT : T = top * 4294967296 + u2) (h1 : gg * v1 + rr = top) (hQ : Q * S ≤ T) (hQB : Q < 4294967296) (hc : 4294967296 ≤ gg ∨ rr * 4294967296 + u2 < gg * v2) : Q + 1 ≤ gg := by
  rcases hc with hc | hc
  · omega
  · have h2 : gg * S = gg * v1 * 4294967296 + gg * v2 := by rw [hS, Nat.mul_add, Nat.mul_assoc]
    have h3 : T < gg * S := by
      rw [h2, hT, ← h1, Nat.add_mul, Nat.add_assoc]
      exact Nat.add_lt_add_left hc _
    have h4 : Q * S < gg * S := Nat.lt_of_le_of_lt hQ h3
    have h5 : Q < gg := Nat.lt_of_mul_lt_mul_right h4
    omega
theorem g_init {Q v1 v2 top u2 S T : Nat} (hS : S = v1 * 4294967296 + v2) (hT : T = top * 4294967296 + u2) (hQ : Q * S ≤ T) (hu : u2 < 4294967296) : Q * v1 ≤ top := by
  have h2 : Q * S = Q * v1 * 4294967296 + Q * v2 := by rw [hS, Nat.mul_add, Nat.mul_assoc]
  omega
theorem g_fin1 {gg v1 v2 rr top u2 S T : Nat} (hS : S = v1 * 4294967296 + v2) (hT : T = top * 4294967296 + u2) (h1 : gg * v1 + rr = top) (hc : ¬ (4294967296 ≤ gg ∨ rr * 4294967296 + u2 < gg * v2)) : gg < 4294967296 ∧ gg * S ≤ T := by
  have h2 : gg * S = gg * v1 * 4294967296 + gg * v2 := by rw [hS, Nat.mul_add, Nat.mul_assoc]
  refine ⟨by omega, ?_⟩
  rw [h2, hT, ← h1, Nat.add_mul]; omega
theorem g_fin2 {gg v1 v2 rr top u2 S T : Nat} (hS : S = v1 * 4294967296 + v2) (hT : T = top * 4294967296 + u2) (h1 : gg * v1 + rr = top) (hv2 : v2 < 4294967296) (hr : 4294967296 ≤ rr) (ht : top < (v1 + 1) * 4294967296) : gg < 4294967296 ∧ gg * S ≤ T := by
  have h2 : gg * S = gg * v1 * 4294967296 + gg * v2 := by rw [hS, Nat.mul_add, Nat.mul_assoc]
  have hg : gg < 4294967296 := by
    rcases Nat.lt_or_ge gg 4294967296 with h | h
    · exact h
    · have := Nat.mul_le_mul_right v1 h; omega
  refine ⟨hg, ?_⟩
  have h3 : gg * v2 ≤ 4294967295 * 4294967295 := Nat.mul_le_mul (by omega) (by omega)
  rw [h2, hT, ← h1, Nat.add_mul]; omega
theorem top_bound {w V k q : Nat} (hw : w < V * 4294967296 ^ (k + 1)) : w / 4294967296 ^ (k + (q + 1)) < (V / 4294967296 ^ (q + 1) + 1) * 4294967296 := by
  have hB : 0 < 4294967296 ^ (q + 1) := Nat.pow_pos (by decide)
  have h2 : V ≤ (V / 4294967296 ^ (q + 1) + 1) * 4294967296 ^ (q + 1) := by
    have := Nat.lt_div_mul_add hB (a := V)
    rw [Nat.add_mul]; omega
  refine Nat.div_lt_of_lt_mul (Nat.lt_of_lt_of_le hw (Nat.le_trans (Nat.mul_le_mul_right _ h2) (Nat.le_of_eq ?_)))
  rw [Nat.pow_add 4294967296 k 1, Nat.pow_add 4294967296 k (q + 1)]
  grind
theorem dq_lt {w V k : Nat} (hw : w < V * 4294967296 ^ (k + 1)) : w / (V * 4294967296 ^ k) < 4294967296 := by
  refine Nat.div_lt_of_lt_mul (Nat.lt_of_lt_of_le hw (Nat.le_of_eq ?_))
  rw [Nat.pow_succ]; grind
section
variable {f : Fr} {S : Sig} {h : Part} {L : List Ent} {ty T : TypeId} {xo lo hi : Operand}
theorem RunV.window {e g ln c k m : Nat} {k1 k2 : IntKind} {i j : Int} (hT : slT f.P T = some (e, 1)) (hx : ev S xo = some (.slice (some ⟨g, 0, none⟩) ln c)) (hl : ev S lo = some (.int k1 i)) (hh : ev S hi = some (.int k2 j)) (hi' : i = (k : Int)) (hj : j = (m : Int)) (h1 : k ≤ m) (h2 : m ≤ c) (h3 : k < c) :
    RunV f S h L (.slice T xo (some lo) (some hi) none) ty (.slice (some ⟨g, k, none⟩) (m - k) (c - k)) := fun ac w s _ _ _ _ => by
  subst hi' hj
  obtain ⟨hu, inf, hi', hs⟩ := slT_spec hT
  have e1 : (k : Int) ≤ m := by omega
  have e2 : (m : Int) ≤ c := by omega
  have e3 : ¬ (c = k) := by omega
  simp [execOp, s.eval hx, s.eval hl, s.eval hh, Instr.sliceAt, Instr.slice, run_underlying hu, Instr.sliceBounds, Instr.sliceBound, asIntOf, sizeOf, typeInfo, hi', hs, e1, e2, h1, h2, e3, Addr.add_lit]
end
set_option maxHeartbeats 2000000 in
theorem natstep_fn {g k q cw cr N w : Nat} {av : Option Addr} {cv : Nat} {l : List UInt32} {h : Part} (hl : SlR u32R 1 h av cv l) (hn : l.length = q + 2) (hV : 4294967296 ^ (q + 1) ≤ vL l) (hw : w < vL l * 4294967296 ^ (k + 1)) (hk : k + (q + 2) < N) (hN : N ≤ 1000000) :
    Fn Tryz.prog 123 [.slice (some ⟨g, k, none⟩) (q + 3) cw, .slice av l.length cv] h [.row (some ⟨g, 0, none⟩) cr 103 1 N (ws .u32 (digN N w))]
      (Rets fun v _ Lo => v = .int .u32 ((w / (vL l * 4294967296 ^ k) : Nat) : Int) ∧ Lo = [.row (some ⟨g, 0, none⟩) cr 103 1 N (ws .u32 (digN N (w % (vL l * 4294967296 ^ k))))]) := by
  have hVlt : vL l < 4294967296 ^ (q + 2) := hn ▸ vL_lt l
  have hV0 : 0 < vL l := Nat.lt_of_lt_of_le (Nat.pow_pos (by decide)) hV
  have hwB : w < 4294967296 ^ (k + (q + 2) + 1) := by
    refine Nat.lt_of_lt_of_le hw ?_
    rw [show k + (q + 2) + 1 = (q + 2) + (k + 1) by omega, Nat.pow_add 4294967296 (q + 2) (k + 1)]
    exact Nat.mul_le_mul_right _ (Nat.le_of_lt hVlt)
  have hdig : ∀ j, j < N → d32 (digN N w) j = w / 4294967296 ^ j % 4294967296 := fun j hj => digN_at N w j hj
  have hlow := div_low w (k + q)
  have hlow1 := div_low w (k + (q + 1))
  have hS := div_low (vL l) q
  rw [vL_digit] at hS
  rw [← hdig (k + q) (by omega)] at hlow
  rw [show k + (q + 1) + 1 = k + (q + 2) by omega, ← hdig (k + (q + 1)) (by omega)] at hlow1
  rw [show k + q + 1 = k + (q + 1) by omega] at hlow
  have htopd : d32 (digN N w) (k + (q + 2)) = w / 4294967296 ^ (k + (q + 2)) := by
    rw [hdig _ (by omega)]
    exact Nat.mod_eq_of_lt (Nat.div_lt_of_lt_mul (by rw [Nat.pow_succ] at hwB; exact hwB))
  have hv1 : d32 l (q + 1) = vL l / 4294967296 ^ (q + 1) := by
    rw [← vL_digit]
    exact Nat.mod_eq_of_lt (Nat.div_lt_of_lt_mul (by rw [Nat.pow_succ 4294967296 (q + 1)] at hVlt; exact hVlt))
  have hv10 : 0 < d32 l (q + 1) := by rw [hv1]; exact Nat.div_pos hV (Nat.pow_pos (by decide))
  have hgl := guess_lo w (vL l) k q hV0
  have htb := top_bound (q := q) hw
  have hqB := dq_lt hw
  have b1 := d32_lt l (q + 1); have b2 := d32_lt l q; have b3 := d32_lt (digN N w) (k + (q + 2)); have b4 := d32_lt (digN N w) (k + (q + 1)); have b5 := d32_lt (digN N w) (k + q)
  have hzD : ∀ j, k + (q + 2) < j → d32 (digN N w) j = 0 := fun j hj => vL_zero_above (m := k + (q + 2) + 1) (by rw [vL_digN]; exact Nat.lt_of_le_of_lt (Nat.mod_le _ _) hwB) j (by omega)
  have hvw : vL (digN N w) = w := by rw [vL_digN]; exact Nat.mod_eq_of_lt (Nat.lt_of_lt_of_le hwB (Nat.pow_le_pow_right (by decide) (by omega)))
  have hdl : (digN N w).length = N := digN_len _ _
  have hD0 : 0 < vL l * 4294967296 ^ k := Nat.mul_pos hV0 (Nat.pow_pos (by decide))
  have ea1 := d32_at l (q + 1) (by omega)
  have ea0 := d32_at l q (by omega)
  rw [← hv1] at hS htb
  generalize hQ : w / (vL l * 4294967296 ^ k) = Q at *
  obtain ⟨top, htop⟩ : ∃ top, top = w / 4294967296 ^ (k + (q + 1)) := ⟨_, rfl⟩
  rw [← htop] at hlow hlow1 htb
  rw [htopd] at b3
  refine Fn.intro Tryz.func123 rfl Tryz.ntmps123 rfl (fun e he => ?_)
  refine J.weak [(0, _), (1, _)] ⟨rfl, rfl, trivial⟩ ?_
  refine Sr ?_
  refine Ru 1 rfl ?_
  refine JL.nil ?_
  refine J.scope 0 (fun t_ S_ h_ L_ => ∃ (gg rr : Nat), t_ = gg + 1 ∧ S_ = [(0, .slice (some ⟨g, k, none⟩) (q + 3) cw), (1, .slice av l.length cv), (5, .int .i64 l.length), (7, .int .u64 gg), (8, .int .u64 rr)] ∧ h = h_ ∧ L_ = [.row (some ⟨g, 0, none⟩) cr 103 1 N (ws .u32 (digN N w))] ∧ (gg * d32 l (q + 1) + rr = top ∧ rr < 4294967296 ∧ Q ≤ gg ∧ gg ≤ top)) rfl (fun _ _ _ _ hh => hh) ?_ (fun again => ?_)
  ·
   rintro _ _ _ _ ⟨gg, rr, rfl, rfl, rfl, rfl, hgr, hrr, hQg, hgt⟩
   have hgv : gg < 4294967296 → gg * d32 l q ≤ 18446744065119617025 := (fun hh => Nat.mul_le_mul (show gg ≤ 4294967295 by omega) (show d32 l q ≤ 4294967295 by omega)); have ea0 := d32_at l q (by omega); have ea1 := d32_at l (q + 1) (by omega)
   refine J.seq ?_
   refine J.seq ?_
   refine J.meet [(69, .bool (decide (4294967296 ≤ gg ∨ rr * 4294967296 + d32 (digN N w) (k + q) < gg * d32 l q)))] [(0, _), (1, _), (5, _), (7, _), (8, _)] ⟨rfl, rfl, rfl, rfl, rfl, trivial⟩ ?_ ?_
   ·
    refine J.drawn mixed_ (by kernel_rfl) ?_
    refine Rq 1 rfl ?_
    refine JQ.op (RunV.shr_u64 4294967296 rfl rfl (by decide) (by decide) (by decide)) rfl ?_
    refine Rq 2 rfl ?_
    refine Bq 50 rfl (fun hc1 => ?_) fun hc1 => ?_
    ·
     refine Rq 19 rfl ?_
     refine JQ.nil ?_
     refine ⟨rfl, rfl, ?_⟩
     repeat (first | exact trivial | refine ⟨rfl, ?_⟩ | refine ⟨(by exact some_bool (by first | exact decide_eq_decide.2 (by omega) | exact (decide_eq_false (by omega)).symm | exact (decide_eq_true (by omega)).symm)), ?_⟩)
    ·
     refine Rq 3 rfl ?_
     refine JQ.opg rfl rfl  si_ rfl ?_
     refine JQ.opeg rfl rfl  (RunE.index (m := q) sl_30 rfl rfl (by omega) hl rfl (by omega)) rfl ?_
     rintro _ ⟨b2, o2, hi2, rfl, hE2⟩
     refine JQ.opg rfl rfl  (RunV.ld_u32 ag_103 rfl (by assumption)) rfl ?_
     rw [ea0]
     refine JQ.opg rfl rfl  (by first | exact RunV.conv_u64 cv_103_63 rfl (by omega) (by omega) | exact RunV.convw_u64 cv_103_63 rfl | exact RunV.conv cv_103_63 rfl) rfl ?_
     refine JQ.opg rfl rfl  (RunV.mul_u64 rfl rfl (by rw [← Int.natCast_mul]; omega) (by rw [← Int.natCast_mul]; have := hgv (by omega); omega)) rfl ?_
     rw [← Int.natCast_mul]
     refine Rq 1 rfl ?_
     refine JQ.opg rfl rfl  (RunV.shl_u64 4294967296 rfl rfl (by decide) (by decide) (by decide) (by omega) (by omega)) rfl ?_
     refine Rq 2 rfl ?_
     refine JQ.opg rfl rfl  si_ rfl ?_
     refine JQ.opg rfl rfl  (RunV.index_off sl_30 (m := q) rfl rfl (by omega) (by omega)) rfl ?_
     refine JQ.opg rfl rfl  (RunV.wload ag_103 rfl mm_ (by omega)) rfl ?_
     refine JQ.opg rfl rfl  (by first | exact RunV.conv_u64 cv_103_63 rfl (by omega) (by omega) | exact RunV.convw_u64 cv_103_63 rfl | exact RunV.conv cv_103_63 rfl) rfl ?_
     refine JQ.opg rfl rfl  (RunV.join_u64 32 4294967296 rfl rfl (by decide) (by omega) (by omega) (by omega) (by omega) (by omega) (by omega)) rfl ?_
     refine Rq 2 rfl ?_
     refine JQ.nil ?_
     refine ⟨rfl, rfl, ?_⟩
     repeat (first | exact trivial | refine ⟨rfl, ?_⟩ | refine ⟨(by exact some_bool (by first | exact decide_eq_decide.2 (by omega) | exact (decide_eq_false (by omega)).symm | exact (decide_eq_true (by omega)).symm)), ?_⟩)
   ·
    refine Cs rfl (fun hc4 => ?_) fun hc4 => ?_
    ·
     have hdec := g_dec hS hlow hgr hgl hqB hc4; have hgm : (gg - 1) * d32 l (q + 1) + d32 l (q + 1) = gg * d32 l (q + 1) := (by rw [← Nat.succ_mul]; congr 1; omega)
     refine Sr ?_
     refine Ru 1 rfl ?_
     refine JL.op (by first | exact RunV.sub_u64 rfl rfl (by omega) (by omega) | exact RunV.sub rfl rfl) rfl ?_
     rw [show (gg : Int) - 1 = ((gg - 1 : Nat) : Int) by omega]
     refine Ru 1 rfl ?_
     refine JL.nil ?_
     refine Sr ?_
     refine Ru 3 rfl ?_
     refine JL.op si_ rfl ?_
     refine JL.ope (RunE.index (m := q + 1) sl_30 rfl rfl (by omega) hl rfl (by omega)) rfl ?_
     rintro _ ⟨b5, o5, hi5, rfl, hE5⟩
     refine JL.op (RunV.ld_u32 ag_103 rfl (by assumption)) rfl ?_
     rw [ea1]
     refine JL.op (by first | exact RunV.conv_u64 cv_103_63 rfl (by omega) (by omega) | exact RunV.convw_u64 cv_103_63 rfl | exact RunV.conv cv_103_63 rfl) rfl ?_
     refine JL.op (by first | exact RunV.add_u64 rfl rfl (by omega) (by omega) | exact RunV.add rfl rfl) rfl ?_
     rw [← Int.natCast_add]
     refine Ru 1 rfl ?_
     refine JL.nil ?_
     refine Sr ?_
     refine Ru 1 rfl ?_
     refine JL.op (RunV.shr_u64 4294967296 rfl rfl (by decide) (by decide) (by decide)) rfl ?_
     refine Ru 1 rfl ?_
     refine JL.nil ?_
     refine Cs rfl (fun hc7 => ?_) fun hc7 => ?_
     ·
      refine J.goto (jx_at (l := 0) (Again.mk _ ?_ _ ?_ ⟨gg - 1, rr + d32 l (q + 1), rfl, rfl, rfl, rfl, ⟨by omega, by omega, by omega, by omega⟩⟩))
      ·
       omega
      ·
       repeat (first | exact trivial | refine ⟨rfl, ?_⟩)
     ·
      obtain ⟨hGB, hGT⟩ := g_fin2 (gg := gg - 1) (rr := rr + d32 l (q + 1)) hS hlow (by omega) b2 (by omega) htb; obtain ⟨G, hG⟩ : ∃ G, G = gg - 1 := ⟨_, rfl⟩; rw [← hG] at hGB hGT ⊢; have hGQ : Q ≤ G := (by omega); have hG1 := guess_hi w (vL l) k q G hGB hGT hV; rw [hQ] at hG1
      refine J.skip ?_
      refine Sr ?_
      refine Ru 1 rfl ?_
      refine JL.nil ?_
      refine Sr ?_
      refine Ru 1 rfl ?_
      refine JL.nil ?_
      refine J.seq ?_
      refine Sr ?_
      refine Ru 2 rfl ?_
      refine JL.nil ?_
      refine J.block ?_
      refine J.loop (fun t_ S_ h_ L_ => ∃ (i c b : Nat) (U : List UInt32), t_ = q + 2 - i ∧ S_ = [(0, .slice (some ⟨g, k, none⟩) (q + 3) cw), (1, .slice av l.length cv), (5, .int .i64 l.length), (7, .int .u64 G), (9, .int .i64 b), (10, .int .u64 c), (83, .int .i64 l.length), (84, .int .i64 i)] ∧ h = h_ ∧ L_ = [.row (some ⟨g, 0, none⟩) cr 103 1 N (ws .u32 U)] ∧ (i ≤ q + 2 ∧ U.length = N ∧ c < 4294967296 ∧ b ≤ 1 ∧ (∀ j, k + i ≤ j → d32 U j = d32 (digN N w) j) ∧ vL U + G * vL (l.take i) * 4294967296 ^ k = w + (c + b) * 4294967296 ^ (k + i))) ⟨_, _, ?_, ⟨0, 0, 0, digN N w, rfl, rfl, rfl, rfl, ⟨by omega, hdl, by omega, by omega, fun _ _ => rfl, by rw [hvw]; simp [vL]⟩⟩⟩ ?_
      ·
       repeat (first | exact trivial | refine ⟨rfl, ?_⟩ | refine ⟨(by exact some_int (by omega)), ?_⟩)
      rintro _ _ _ _ ⟨i, c, b, U, rfl, rfl, rfl, rfl, hi, hUl, hc, hb, hUj, hv⟩
      refine Sr ?_
      refine Ru 1 rfl ?_
      refine JL.nil ?_
      refine J.seq ?_
      refine Cs rfl (fun hc8 => ?_) fun hc8 => ?_
      ·
       have hi' : i < q + 2 := (by omega); have bi := d32_lt l i; have bu := d32_lt U (k + i); have hCl := carry_lt hc hGB bi (show 0 < 4294967296 by decide); obtain ⟨C, hC⟩ : ∃ C, C = c + G * d32 l i := ⟨_, rfl⟩; have hC64 : C < 18446744073709551616 := (by omega); have ei := d32_at l i (by omega); obtain ⟨dd, hdd⟩ : ∃ dd : Int, dd = (d32 U (k + i) : Int) - b - ((C % 4294967296 : Nat) : Int) := ⟨_, rfl⟩; have hdr : -4294967296 ≤ dd ∧ dd ≤ 4294967295 := (by omega); obtain ⟨r, hr⟩ : ∃ r : Nat, dd % 4294967296 = (r : Int) := ⟨(dd % 4294967296).toNat, by omega⟩; obtain ⟨ee, hee, he1⟩ : ∃ e : Nat, (e : Int) = -(dd / 4294967296) ∧ e ≤ 1 := ⟨(-(dd / 4294967296)).toNat, by omega, by omega⟩; have hrB : r < 4294967296 := (by omega); have hre : d32 U (k + i) + ee * 4294967296 = b + C % 4294967296 + r := (by omega); rw [hC] at hre; have hst := sub_step (g := G) (by omega) hv hrB hre; rw [← hC] at hst hre
       refine J.skip ?_
       refine J.seq ?_
       refine J.block ?_
       refine Sr ?_
       refine Ru 2 rfl ?_
       refine JL.nil ?_
       refine Sr ?_
       refine Ru 4 rfl ?_
       refine JL.ope (RunE.index sl_30 rfl rfl (by first | with_reducible rfl | exact (Int.toNat_of_nonneg (by omega)).symm) (by assumption) rfl (by omega)) rfl ?_
       rintro _ ⟨b9, o9, hi9, rfl, hE9⟩
       refine JL.op (RunV.ld_u32 ag_103 rfl (by assumption)) rfl ?_
       rw [ei]
       refine JL.op (by first | exact RunV.conv_u64 cv_103_63 rfl (by omega) (by omega) | exact RunV.convw_u64 cv_103_63 rfl | exact RunV.conv cv_103_63 rfl) rfl ?_
       refine JL.op (RunV.mul_u64 rfl rfl (by rw [← Int.natCast_mul]; omega) (by rw [← Int.natCast_mul]; omega)) rfl ?_
       refine JL.op (RunV.add_u64 rfl rfl (by rw [← Int.natCast_mul]; omega) (by rw [← Int.natCast_mul]; omega)) rfl ?_
       rw [show (c : Int) + (G : Int) * (d32 l i : Int) = (C : Int) by rw [hC, Int.natCast_add, Int.natCast_mul]]
       refine Ru 1 rfl ?_
       refine JL.nil ?_
       refine Sr ?_
       refine Ru 2 rfl ?_
       refine JL.op (RunV.index_off sl_30 (m := i) rfl rfl (by omega) (by omega)) rfl ?_
       refine JL.op (RunV.wload ag_103 rfl mm_ (by omega)) rfl ?_
       refine JL.op (by first | exact RunV.conv_i64 cv_103_2 rfl (by omega) (by omega) | exact RunV.convw_i64 cv_103_2 rfl | exact RunV.conv cv_103_2 rfl) rfl ?_
       refine Ru 1 rfl ?_
       refine JL.op si_ rfl ?_
       refine Ru 1 rfl ?_
       refine JL.op (RunV.toW C cv_63_103 rfl rfl) rfl ?_
       refine JL.op (by first | exact RunV.conv_i64 cv_103_2 rfl (by omega) (by omega) | exact RunV.convw_i64 cv_103_2 rfl | exact RunV.conv cv_103_2 rfl) rfl ?_
       refine JL.op si_ rfl ?_
       rw [← hdd]
       refine Ru 1 rfl ?_
       refine JL.nil ?_
       refine Sr ?_
       refine Ru 1 rfl ?_
       refine JL.op (RunV.shr_u64 4294967296 rfl rfl (by decide) (by decide) (by decide)) rfl ?_
       refine Ru 1 rfl ?_
       refine JL.nil ?_
       refine Sr ?_
       refine Ru 3 rfl ?_
       refine JL.op (RunV.toWI r cv_2_103 rfl hr) rfl ?_
       refine JL.op (RunV.index_off sl_30 (m := i) rfl rfl (by omega) (by omega)) rfl ?_
       refine JL.storeW (r) ag_103 rfl rfl (by rw [Nat.mod_eq_of_lt hrB]) dl_ (by omega) ?_
       refine JL.nil ?_
       refine Rg ?_
       refine Ru 1 rfl ?_
       refine JL.op (RunV.shr_i64 4294967296 rfl rfl (by decide) (by decide) (by decide)) rfl ?_
       refine JL.op (RunV.neg rfl) rfl ?_
       rw [show IntKind.i64.wrap (-(dd / 4294967296)) = (ee : Int) from by rw [wrap_i64 _ (by omega) (by omega)]; omega]
       refine Ru 1 rfl ?_
       refine JL.nil ?_
       refine Rg ?_
       refine JL.op ai_ rfl ?_
       refine Ru 1 rfl ?_
       refine JL.nil ?_
       refine ⟨_, ?_, _, ?_, ⟨i + 1, C / 4294967296, ee, U.set (k + i) (UInt32.ofNat r), rfl, rfl, rfl, rfl, ⟨by omega, by rw [List.length_set]; exact hUl, by omega, by omega, fun j hj => by rw [d32_set _ _ _ _ (by omega), if_neg (by omega)]; exact hUj j (by omega), hst⟩⟩⟩
       ·
        omega
       ·
        repeat (first | exact trivial | refine ⟨rfl, ?_⟩ | refine ⟨(by exact some_int (by omega)), ?_⟩)
      ·
       have hie : i = q + 2 := (by omega); subst hie; rw [List.take_of_length_le (by omega), Nat.mul_assoc] at hv; have hun := hUj (k + (q + 2)) (Nat.le_refl _); have bu := d32_lt U (k + (q + 2)); have hUz : ∀ j, k + (q + 2) < j → d32 U j = 0 := (fun j hj => by rw [hUj j (by omega)]; exact hzD j hj); obtain ⟨dd, hdd⟩ : ∃ dd : Int, dd = (d32 U (k + (q + 2)) : Int) - b - c := ⟨_, rfl⟩; have hdr : -4294967296 ≤ dd ∧ dd ≤ 4294967295 := (by omega); obtain ⟨r, hr⟩ : ∃ r : Nat, dd % 4294967296 = (r : Int) := ⟨(dd % 4294967296).toNat, by omega⟩; have hrB : r < 4294967296 := (by omega)
       refine J.exit ?_
       refine Sr ?_
       refine Ru 2 rfl ?_
       refine JL.op (RunV.index_off sl_30 (m := q + 2) rfl rfl (by omega) (by omega)) rfl ?_
       refine JL.op (RunV.wload ag_103 rfl mm_ (by omega)) rfl ?_
       refine JL.op (by first | exact RunV.conv_i64 cv_103_2 rfl (by omega) (by omega) | exact RunV.convw_i64 cv_103_2 rfl | exact RunV.conv cv_103_2 rfl) rfl ?_
       refine Ru 1 rfl ?_
       refine JL.op si_ rfl ?_
       refine Ru 1 rfl ?_
       refine JL.op (by first | exact RunV.conv_i64 cv_63_2 rfl (by omega) (by omega) | exact RunV.conv cv_63_2 rfl) rfl ?_
       refine JL.op si_ rfl ?_
       rw [← hdd]
       refine Ru 1 rfl ?_
       refine JL.nil ?_
       refine Sr ?_
       refine Ru 3 rfl ?_
       refine JL.op (RunV.toWI r cv_2_103 rfl hr) rfl ?_
       refine JL.op (RunV.index_off sl_30 (m := q + 2) rfl rfl (by omega) (by omega)) rfl ?_
       refine JL.storeW (r) ag_103 rfl rfl (by rw [Nat.mod_eq_of_lt hrB]) dl_ (by omega) ?_
       refine JL.nil ?_
       refine J.seq ?_
       refine Sr ?_
       refine Ru 2 rfl ?_
       refine JL.nil ?_
       refine Cs rfl (fun hc13 => ?_) fun hc13 => ?_
       ·
        have hrr2 : r = d32 U (k + (q + 2)) - (c + b) := (by omega); have hok := step_ok1 (D := vL l * 4294967296 ^ k) (n := q + 2) hUl (by omega) hv (by omega) (by rw [hQ]; exact hGQ) hD0; rw [← hrr2, hQ] at hok; rw [hok.1]
        refine Sr ?_
        refine Ru 1 rfl ?_
        refine JL.op (RunV.toW G cv_63_103 rfl rfl) rfl ?_
        refine Ru 1 rfl ?_
        refine JL.nil ?_
        exact J.ret ⟨_, [_], _, (RetV.one rfl rfl), .cons .here .nil, _, rfl, congrArg (Value.int .u32) (by omega), rfl⟩
       ·
        have hrr2 : r = d32 U (k + (q + 2)) + 4294967296 - (c + b) := (by omega); obtain ⟨W0, hW0⟩ : ∃ W0, W0 = U.set (k + (q + 2)) (UInt32.ofNat r) := ⟨_, rfl⟩; have hW0d : d32 W0 (k + (q + 2)) = r := (by rw [hW0, d32_set _ _ _ _ (by omega), if_pos rfl, UInt32.toNat_ofNat']; exact Nat.mod_eq_of_lt hrB); have hW0z : ∀ j, k + (q + 2) < j → d32 W0 j = 0 := (fun j hj => by rw [hW0, d32_set _ _ _ _ (by omega), if_neg (by omega)]; exact hUz j hj); have hW0l : W0.length = N := (by rw [hW0, List.length_set]; exact hUl); rw [← hW0]
        refine J.skip ?_
        refine Sr ?_
        refine Ru 1 rfl ?_
        refine JL.nil ?_
        refine J.seq ?_
        refine Sr ?_
        refine Ru 2 rfl ?_
        refine JL.nil ?_
        refine J.block ?_
        refine J.loop (fun t_ S_ h_ L_ => ∃ (z y : Nat) (W : List UInt32), t_ = q + 2 - z ∧ S_ = [(0, .slice (some ⟨g, k, none⟩) (q + 3) cw), (1, .slice av l.length cv), (5, .int .i64 l.length), (7, .int .u64 G), (14, .int .u64 y), (137, .int .i64 l.length), (138, .int .i64 z)] ∧ h = h_ ∧ L_ = [.row (some ⟨g, 0, none⟩) cr 103 1 N (ws .u32 W)] ∧ (z ≤ q + 2 ∧ W.length = N ∧ y ≤ 1 ∧ (∀ j, k + z ≤ j → d32 W j = d32 W0 j) ∧ vL W + y * 4294967296 ^ (k + z) = vL W0 + vL (l.take z) * 4294967296 ^ k)) ⟨_, _, ?_, ⟨0, 0, W0, rfl, rfl, rfl, rfl, ⟨by omega, hW0l, by omega, fun _ _ => rfl, by simp [vL]⟩⟩⟩ ?_
        ·
         repeat (first | exact trivial | refine ⟨rfl, ?_⟩ | refine ⟨(by exact some_int (by omega)), ?_⟩)
        rintro _ _ _ _ ⟨z, y, W, rfl, rfl, rfl, rfl, hz, hWl, hy, hWj, hvW⟩
        refine Sr ?_
        refine Ru 1 rfl ?_
        refine JL.nil ?_
        refine J.seq ?_
        refine Cs rfl (fun hc14 => ?_) fun hc14 => ?_
        ·
         have hz' : z < q + 2 := (by omega); have bz := d32_lt l z; have bw := d32_lt W (k + z); have ez := d32_at l z (by omega); have hst := add_step (v := l) (by omega) hvW
         refine J.skip ?_
         refine J.seq ?_
         refine J.block ?_
         refine Sr ?_
         refine Ru 2 rfl ?_
         refine JL.nil ?_
         refine J.seq ?_
         refine J.drawn mixed_ (by kernel_rfl) ?_
         refine Rq 3 rfl ?_
         refine JQ.op (RunV.index_off sl_30 (m := z) rfl rfl (by omega) (by omega)) rfl ?_
         refine JQ.op (RunV.wload ag_103 rfl mm_ (by omega)) rfl ?_
         refine JQ.op (by first | exact RunV.conv_u64 cv_103_63 rfl (by omega) (by omega) | exact RunV.convw_u64 cv_103_63 rfl | exact RunV.conv cv_103_63 rfl) rfl ?_
         refine Rq 2 rfl ?_
         refine JQ.ope (RunE.index sl_30 rfl rfl (by first | with_reducible rfl | exact (Int.toNat_of_nonneg (by omega)).symm) (by assumption) rfl (by omega)) rfl ?_
         rintro _ ⟨b15, o15, hi15, rfl, hE15⟩
         refine JQ.op (RunV.ld_u32 ag_103 rfl (by assumption)) rfl ?_
         rw [ez]
         refine JQ.op (by first | exact RunV.conv_u64 cv_103_63 rfl (by omega) (by omega) | exact RunV.convw_u64 cv_103_63 rfl | exact RunV.conv cv_103_63 rfl) rfl ?_
         refine JQ.op (by first | exact RunV.add_u64 rfl rfl (by omega) (by omega) | exact RunV.add rfl rfl) rfl ?_
         refine JQ.op (by first | exact RunV.add_u64 rfl rfl (by omega) (by omega) | exact RunV.add rfl rfl) rfl ?_
         rw [show (y : Int) + ((d32 W (k + z) : Int) + (d32 l z : Int)) = ((y + d32 W (k + z) + d32 l z : Nat) : Int) by omega]
         refine Rq 1 rfl ?_
         refine JQ.nil ?_
         refine Sr ?_
         refine Ru 3 rfl ?_
         refine JL.op (RunV.toW (y + d32 W (k + z) + d32 l z) cv_63_103 rfl rfl) rfl ?_
         refine JL.op (RunV.index_off sl_30 (m := z) rfl rfl (by omega) (by omega)) rfl ?_
         refine JL.storeW (y + d32 W (k + z) + d32 l z) ag_103 rfl rfl (rfl) dl_ (by omega) ?_
         refine JL.nil ?_
         refine Rg ?_
         refine Ru 1 rfl ?_
         refine JL.op (RunV.shr_u64 4294967296 rfl rfl (by decide) (by decide) (by decide)) rfl ?_
         refine Ru 1 rfl ?_
         refine JL.nil ?_
         refine Rg ?_
         refine JL.op ai_ rfl ?_
         refine Ru 1 rfl ?_
         refine JL.nil ?_
         refine ⟨_, ?_, _, ?_, ⟨z + 1, (y + d32 W (k + z) + d32 l z) / 4294967296, _, rfl, rfl, rfl, rfl, ⟨by omega, by rw [List.length_set]; exact hWl, by omega, fun j hj => by rw [d32_set _ _ _ _ (by omega), if_neg (by omega)]; exact hWj j (by omega), hst⟩⟩⟩
         ·
          omega
         ·
          repeat (first | exact trivial | refine ⟨rfl, ?_⟩ | refine ⟨(by exact some_int (by omega)), ?_⟩)
        ·
         have hze : z = q + 2 := (by omega); subst hze; rw [List.take_of_length_le (by omega)] at hvW; have hWd := hWj (k + (q + 2)) (Nat.le_refl _); have hok := step_ok2 (D := vL l * 4294967296 ^ k) (V := vL l) (n := q + 2) hUl hWl (by omega) rfl hVlt hv hUz (by omega) (by omega) (by rw [hQ]; exact hGQ) (by rw [hQ]; exact hG1) hD0 hy (by rw [hvW, hW0, hrr2]) (by rw [hWd, hW0d, ← hrr2, Nat.mod_eq_of_lt hrB]) (fun j hj => by rw [hWj j (by omega)]; exact hW0z j hj); rw [hQ] at hok
         refine J.exit ?_
         refine Sr ?_
         refine Ru 2 rfl ?_
         refine JL.op (RunV.index_off sl_30 (m := q + 2) rfl rfl (by omega) (by omega)) rfl ?_
         refine JL.op (RunV.wload ag_103 rfl mm_ (by omega)) rfl ?_
         refine Ru 1 rfl ?_
         refine JL.op (RunV.toW y cv_63_103 rfl rfl) rfl ?_
         refine JL.op (RunV.add rfl rfl) rfl ?_
         refine JL.op (RunV.index_off sl_30 (m := q + 2) rfl rfl (by omega) (by omega)) rfl ?_
         refine JL.storeW (d32 W (k + (q + 2)) + y) ag_103 rfl rfl (by rw [IntKind.wrap_u32]; omega) dl_ (by omega) ?_
         rw [hok.1]
         refine JL.nil ?_
         refine Sr ?_
         refine Ru 1 rfl ?_
         refine JL.op (by first | exact RunV.sub_u64 rfl rfl (by omega) (by omega) | exact RunV.sub rfl rfl) rfl ?_
         refine JL.op (RunV.toW (G - 1) cv_63_103 rfl (by omega)) rfl ?_
         refine Ru 1 rfl ?_
         refine JL.nil ?_
         exact J.ret ⟨_, [_], _, (RetV.one rfl rfl), .cons .here .nil, _, rfl, congrArg (Value.int .u32) (by omega), rfl⟩
    ·
     obtain ⟨hGB, hGT⟩ := g_fin1 hS hlow hgr hc4; obtain ⟨G, hG⟩ : ∃ G, G = gg := ⟨_, rfl⟩; rw [← hG] at hGB hGT ⊢; have hGQ : Q ≤ G := (by omega); have hG1 := guess_hi w (vL l) k q G hGB hGT hV; rw [hQ] at hG1
     refine J.skip ?_
     refine Sr ?_
     refine Ru 1 rfl ?_
     refine JL.nil ?_
     refine Sr ?_
     refine Ru 1 rfl ?_
     refine JL.nil ?_
     refine J.seq ?_
     refine Sr ?_
     refine Ru 2 rfl ?_
     refine JL.nil ?_
     refine J.block ?_
     refine J.loop (fun t_ S_ h_ L_ => ∃ (i c b : Nat) (U : List UInt32), t_ = q + 2 - i ∧ S_ = [(0, .slice (some ⟨g, k, none⟩) (q + 3) cw), (1, .slice av l.length cv), (5, .int .i64 l.length), (7, .int .u64 G), (9, .int .i64 b), (10, .int .u64 c), (83, .int .i64 l.length), (84, .int .i64 i)] ∧ h = h_ ∧ L_ = [.row (some ⟨g, 0, none⟩) cr 103 1 N (ws .u32 U)] ∧ (i ≤ q + 2 ∧ U.length = N ∧ c < 4294967296 ∧ b ≤ 1 ∧ (∀ j, k + i ≤ j → d32 U j = d32 (digN N w) j) ∧ vL U + G * vL (l.take i) * 4294967296 ^ k = w + (c + b) * 4294967296 ^ (k + i))) ⟨_, _, ?_, ⟨0, 0, 0, digN N w, rfl, rfl, rfl, rfl, ⟨by omega, hdl, by omega, by omega, fun _ _ => rfl, by rw [hvw]; simp [vL]⟩⟩⟩ ?_
     ·
      repeat (first | exact trivial | refine ⟨rfl, ?_⟩ | refine ⟨(by exact some_int (by omega)), ?_⟩)
     rintro _ _ _ _ ⟨i, c, b, U, rfl, rfl, rfl, rfl, hi, hUl, hc, hb, hUj, hv⟩
     refine Sr ?_
     refine Ru 1 rfl ?_
     refine JL.nil ?_
     refine J.seq ?_
     refine Cs rfl (fun hc19 => ?_) fun hc19 => ?_
     ·
      have hi' : i < q + 2 := (by omega); have bi := d32_lt l i; have bu := d32_lt U (k + i); have hCl := carry_lt hc hGB bi (show 0 < 4294967296 by decide); obtain ⟨C, hC⟩ : ∃ C, C = c + G * d32 l i := ⟨_, rfl⟩; have hC64 : C < 18446744073709551616 := (by omega); have ei := d32_at l i (by omega); obtain ⟨dd, hdd⟩ : ∃ dd : Int, dd = (d32 U (k + i) : Int) - b - ((C % 4294967296 : Nat) : Int) := ⟨_, rfl⟩; have hdr : -4294967296 ≤ dd ∧ dd ≤ 4294967295 := (by omega); obtain ⟨r, hr⟩ : ∃ r : Nat, dd % 4294967296 = (r : Int) := ⟨(dd % 4294967296).toNat, by omega⟩; obtain ⟨ee, hee, he1⟩ : ∃ e : Nat, (e : Int) = -(dd / 4294967296) ∧ e ≤ 1 := ⟨(-(dd / 4294967296)).toNat, by omega, by omega⟩; have hrB : r < 4294967296 := (by omega); have hre : d32 U (k + i) + ee * 4294967296 = b + C % 4294967296 + r := (by omega); rw [hC] at hre; have hst := sub_step (g := G) (by omega) hv hrB hre; rw [← hC] at hst hre
      refine J.skip ?_
      refine J.seq ?_
      refine J.block ?_
      refine Sr ?_
      refine Ru 2 rfl ?_
      refine JL.nil ?_
      refine Sr ?_
      refine Ru 4 rfl ?_
      refine JL.ope (RunE.index sl_30 rfl rfl (by first | with_reducible rfl | exact (Int.toNat_of_nonneg (by omega)).symm) (by assumption) rfl (by omega)) rfl ?_
      rintro _ ⟨b20, o20, hi20, rfl, hE20⟩
      refine JL.op (RunV.ld_u32 ag_103 rfl (by assumption)) rfl ?_
      rw [ei]
      refine JL.op (by first | exact RunV.conv_u64 cv_103_63 rfl (by omega) (by omega) | exact RunV.convw_u64 cv_103_63 rfl | exact RunV.conv cv_103_63 rfl) rfl ?_
      refine JL.op (RunV.mul_u64 rfl rfl (by rw [← Int.natCast_mul]; omega) (by rw [← Int.natCast_mul]; omega)) rfl ?_
      refine JL.op (RunV.add_u64 rfl rfl (by rw [← Int.natCast_mul]; omega) (by rw [← Int.natCast_mul]; omega)) rfl ?_
      rw [show (c : Int) + (G : Int) * (d32 l i : Int) = (C : Int) by rw [hC, Int.natCast_add, Int.natCast_mul]]
      refine Ru 1 rfl ?_
      refine JL.nil ?_
      refine Sr ?_
      refine Ru 2 rfl ?_
      refine JL.op (RunV.index_off sl_30 (m := i) rfl rfl (by omega) (by omega)) rfl ?_
      refine JL.op (RunV.wload ag_103 rfl mm_ (by omega)) rfl ?_
      refine JL.op (by first | exact RunV.conv_i64 cv_103_2 rfl (by omega) (by omega) | exact RunV.convw_i64 cv_103_2 rfl | exact RunV.conv cv_103_2 rfl) rfl ?_
      refine Ru 1 rfl ?_
      refine JL.op si_ rfl ?_
      refine Ru 1 rfl ?_
      refine JL.op (RunV.toW C cv_63_103 rfl rfl) rfl ?_
      refine JL.op (by first | exact RunV.conv_i64 cv_103_2 rfl (by omega) (by omega) | exact RunV.convw_i64 cv_103_2 rfl | exact RunV.conv cv_103_2 rfl) rfl ?_
      refine JL.op si_ rfl ?_
      rw [← hdd]
      refine Ru 1 rfl ?_
      refine JL.nil ?_
      refine Sr ?_
      refine Ru 1 rfl ?_
      refine JL.op (RunV.shr_u64 4294967296 rfl rfl (by decide) (by decide) (by decide)) rfl ?_
      refine Ru 1 rfl ?_
      refine JL.nil ?_
      refine Sr ?_
      refine Ru 3 rfl ?_
      refine JL.op (RunV.toWI r cv_2_103 rfl hr) rfl ?_
      refine JL.op (RunV.index_off sl_30 (m := i) rfl rfl (by omega) (by omega)) rfl ?_
      refine JL.storeW (r) ag_103 rfl rfl (by rw [Nat.mod_eq_of_lt hrB]) dl_ (by omega) ?_
      refine JL.nil ?_
      refine Rg ?_
      refine Ru 1 rfl ?_
      refine JL.op (RunV.shr_i64 4294967296 rfl rfl (by decide) (by decide) (by decide)) rfl ?_
      refine JL.op (RunV.neg rfl) rfl ?_
      rw [show IntKind.i64.wrap (-(dd / 4294967296)) = (ee : Int) from by rw [wrap_i64 _ (by omega) (by omega)]; omega]
      refine Ru 1 rfl ?_
      refine JL.nil ?_
      refine Rg ?_
      refine JL.op ai_ rfl ?_
      refine Ru 1 rfl ?_
      refine JL.nil ?_
      refine ⟨_, ?_, _, ?_, ⟨i + 1, C / 4294967296, ee, U.set (k + i) (UInt32.ofNat r), rfl, rfl, rfl, rfl, ⟨by omega, by rw [List.length_set]; exact hUl, by omega, by omega, fun j hj => by rw [d32_set _ _ _ _ (by omega), if_neg (by omega)]; exact hUj j (by omega), hst⟩⟩⟩
      ·
       omega
      ·
       repeat (first | exact trivial | refine ⟨rfl, ?_⟩ | refine ⟨(by exact some_int (by omega)), ?_⟩)
     ·
      have hie : i = q + 2 := (by omega); subst hie; rw [List.take_of_length_le (by omega), Nat.mul_assoc] at hv; have hun := hUj (k + (q + 2)) (Nat.le_refl _); have bu := d32_lt U (k + (q + 2)); have hUz : ∀ j, k + (q + 2) < j → d32 U j = 0 := (fun j hj => by rw [hUj j (by omega)]; exact hzD j hj); obtain ⟨dd, hdd⟩ : ∃ dd : Int, dd = (d32 U (k + (q + 2)) : Int) - b - c := ⟨_, rfl⟩; have hdr : -4294967296 ≤ dd ∧ dd ≤ 4294967295 := (by omega); obtain ⟨r, hr⟩ : ∃ r : Nat, dd % 4294967296 = (r : Int) := ⟨(dd % 4294967296).toNat, by omega⟩; have hrB : r < 4294967296 := (by omega)
      refine J.exit ?_
      refine Sr ?_
      refine Ru 2 rfl ?_
      refine JL.op (RunV.index_off sl_30 (m := q + 2) rfl rfl (by omega) (by omega)) rfl ?_
      refine JL.op (RunV.wload ag_103 rfl mm_ (by omega)) rfl ?_
      refine JL.op (by first | exact RunV.conv_i64 cv_103_2 rfl (by omega) (by omega) | exact RunV.convw_i64 cv_103_2 rfl | exact RunV.conv cv_103_2 rfl) rfl ?_
      refine Ru 1 rfl ?_
      refine JL.op si_ rfl ?_
      refine Ru 1 rfl ?_
      refine JL.op (by first | exact RunV.conv_i64 cv_63_2 rfl (by omega) (by omega) | exact RunV.conv cv_63_2 rfl) rfl ?_
      refine JL.op si_ rfl ?_
      rw [← hdd]
      refine Ru 1 rfl ?_
      refine JL.nil ?_
      refine Sr ?_
      refine Ru 3 rfl ?_
      refine JL.op (RunV.toWI r cv_2_103 rfl hr) rfl ?_
      refine JL.op (RunV.index_off sl_30 (m := q + 2) rfl rfl (by omega) (by omega)) rfl ?_
      refine JL.storeW (r) ag_103 rfl rfl (by rw [Nat.mod_eq_of_lt hrB]) dl_ (by omega) ?_
      refine JL.nil ?_
      refine J.seq ?_
      refine Sr ?_
      refine Ru 2 rfl ?_
      refine JL.nil ?_
      refine Cs rfl (fun hc24 => ?_) fun hc24 => ?_
      ·
       have hrr2 : r = d32 U (k + (q + 2)) - (c + b) := (by omega); have hok := step_ok1 (D := vL l * 4294967296 ^ k) (n := q + 2) hUl (by omega) hv (by omega) (by rw [hQ]; exact hGQ) hD0; rw [← hrr2, hQ] at hok; rw [hok.1]
       refine Sr ?_
       refine Ru 1 rfl ?_
       refine JL.op (RunV.toW G cv_63_103 rfl rfl) rfl ?_
       refine Ru 1 rfl ?_
       refine JL.nil ?_
       exact J.ret ⟨_, [_], _, (RetV.one rfl rfl), .cons .here .nil, _, rfl, congrArg (Value.int .u32) (by omega), rfl⟩
      ·
       have hrr2 : r = d32 U (k + (q + 2)) + 4294967296 - (c + b) := (by omega); obtain ⟨W0, hW0⟩ : ∃ W0, W0 = U.set (k + (q + 2)) (UInt32.ofNat r) := ⟨_, rfl⟩; have hW0d : d32 W0 (k + (q + 2)) = r := (by rw [hW0, d32_set _ _ _ _ (by omega), if_pos rfl, UInt32.toNat_ofNat']; exact Nat.mod_eq_of_lt hrB); have hW0z : ∀ j, k + (q + 2) < j → d32 W0 j = 0 := (fun j hj => by rw [hW0, d32_set _ _ _ _ (by omega), if_neg (by omega)]; exact hUz j hj); have hW0l : W0.length = N := (by rw [hW0, List.length_set]; exact hUl); rw [← hW0]
       refine J.skip ?_
       refine Sr ?_
       refine Ru 1 rfl ?_
       refine JL.nil ?_
       refine J.seq ?_
       refine Sr ?_
       refine Ru 2 rfl ?_
       refine JL.nil ?_
       refine J.block ?_
       refine J.loop (fun t_ S_ h_ L_ => ∃ (z y : Nat) (W : List UInt32), t_ = q + 2 - z ∧ S_ = [(0, .slice (some ⟨g, k, none⟩) (q + 3) cw), (1, .slice av l.length cv), (5, .int .i64 l.length), (7, .int .u64 G), (14, .int .u64 y), (137, .int .i64 l.length), (138, .int .i64 z)] ∧ h = h_ ∧ L_ = [.row (some ⟨g, 0, none⟩) cr 103 1 N (ws .u32 W)] ∧ (z ≤ q + 2 ∧ W.length = N ∧ y ≤ 1 ∧ (∀ j, k + z ≤ j → d32 W j = d32 W0 j) ∧ vL W + y * 4294967296 ^ (k + z) = vL W0 + vL (l.take z) * 4294967296 ^ k)) ⟨_, _, ?_, ⟨0, 0, W0, rfl, rfl, rfl, rfl, ⟨by omega, hW0l, by omega, fun _ _ => rfl, by simp [vL]⟩⟩⟩ ?_
       ·
        repeat (first | exact trivial | refine ⟨rfl, ?_⟩ | refine ⟨(by exact some_int (by omega)), ?_⟩)
       rintro _ _ _ _ ⟨z, y, W, rfl, rfl, rfl, rfl, hz, hWl, hy, hWj, hvW⟩
       refine Sr ?_
       refine Ru 1 rfl ?_
       refine JL.nil ?_
       refine J.seq ?_
       refine Cs rfl (fun hc25 => ?_) fun hc25 => ?_
       ·
        have hz' : z < q + 2 := (by omega); have bz := d32_lt l z; have bw := d32_lt W (k + z); have ez := d32_at l z (by omega); have hst := add_step (v := l) (by omega) hvW
        refine J.skip ?_
        refine J.seq ?_
        refine J.block ?_
        refine Sr ?_
        refine Ru 2 rfl ?_
        refine JL.nil ?_
        refine J.seq ?_
        refine J.drawn mixed_ (by kernel_rfl) ?_
        refine Rq 3 rfl ?_
        refine JQ.op (RunV.index_off sl_30 (m := z) rfl rfl (by omega) (by omega)) rfl ?_
        refine JQ.op (RunV.wload ag_103 rfl mm_ (by omega)) rfl ?_
        refine JQ.op (by first | exact RunV.conv_u64 cv_103_63 rfl (by omega) (by omega) | exact RunV.convw_u64 cv_103_63 rfl | exact RunV.conv cv_103_63 rfl) rfl ?_
        refine Rq 2 rfl ?_
        refine JQ.ope (RunE.index sl_30 rfl rfl (by first | with_reducible rfl | exact (Int.toNat_of_nonneg (by omega)).symm) (by assumption) rfl (by omega)) rfl ?_
        rintro _ ⟨b26, o26, hi26, rfl, hE26⟩
        refine JQ.op (RunV.ld_u32 ag_103 rfl (by assumption)) rfl ?_
        rw [ez]
        refine JQ.op (by first | exact RunV.conv_u64 cv_103_63 rfl (by omega) (by omega) | exact RunV.convw_u64 cv_103_63 rfl | exact RunV.conv cv_103_63 rfl) rfl ?_
        refine JQ.op (by first | exact RunV.add_u64 rfl rfl (by omega) (by omega) | exact RunV.add rfl rfl) rfl ?_
        refine JQ.op (by first | exact RunV.add_u64 rfl rfl (by omega) (by omega) | exact RunV.add rfl rfl) rfl ?_
        rw [show (y : Int) + ((d32 W (k + z) : Int) + (d32 l z : Int)) = ((y + d32 W (k + z) + d32 l z : Nat) : Int) by omega]
        refine Rq 1 rfl ?_
        refine JQ.nil ?_
        refine Sr ?_
        refine Ru 3 rfl ?_
        refine JL.op (RunV.toW (y + d32 W (k + z) + d32 l z) cv_63_103 rfl rfl) rfl ?_
        refine JL.op (RunV.index_off sl_30 (m := z) rfl rfl (by omega) (by omega)) rfl ?_
        refine JL.storeW (y + d32 W (k + z) + d32 l z) ag_103 rfl rfl (rfl) dl_ (by omega) ?_
        refine JL.nil ?_
        refine Rg ?_
        refine Ru 1 rfl ?_
        refine JL.op (RunV.shr_u64 4294967296 rfl rfl (by decide) (by decide) (by decide)) rfl ?_
        refine Ru 1 rfl ?_
        refine JL.nil ?_
        refine Rg ?_
        refine JL.op ai_ rfl ?_
        refine Ru 1 rfl ?_
        refine JL.nil ?_
        refine ⟨_, ?_, _, ?_, ⟨z + 1, (y + d32 W (k + z) + d32 l z) / 4294967296, _, rfl, rfl, rfl, rfl, ⟨by omega, by rw [List.length_set]; exact hWl, by omega, fun j hj => by rw [d32_set _ _ _ _ (by omega), if_neg (by omega)]; exact hWj j (by omega), hst⟩⟩⟩
        ·
         omega
        ·
         repeat (first | exact trivial | refine ⟨rfl, ?_⟩ | refine ⟨(by exact some_int (by omega)), ?_⟩)
       ·
        have hze : z = q + 2 := (by omega); subst hze; rw [List.take_of_length_le (by omega)] at hvW; have hWd := hWj (k + (q + 2)) (Nat.le_refl _); have hok := step_ok2 (D := vL l * 4294967296 ^ k) (V := vL l) (n := q + 2) hUl hWl (by omega) rfl hVlt hv hUz (by omega) (by omega) (by rw [hQ]; exact hGQ) (by rw [hQ]; exact hG1) hD0 hy (by rw [hvW, hW0, hrr2]) (by rw [hWd, hW0d, ← hrr2, Nat.mod_eq_of_lt hrB]) (fun j hj => by rw [hWj j (by omega)]; exact hW0z j hj); rw [hQ] at hok
        refine J.exit ?_
        refine Sr ?_
        refine Ru 2 rfl ?_
        refine JL.op (RunV.index_off sl_30 (m := q + 2) rfl rfl (by omega) (by omega)) rfl ?_
        refine JL.op (RunV.wload ag_103 rfl mm_ (by omega)) rfl ?_
        refine Ru 1 rfl ?_
        refine JL.op (RunV.toW y cv_63_103 rfl rfl) rfl ?_
        refine JL.op (RunV.add rfl rfl) rfl ?_
        refine JL.op (RunV.index_off sl_30 (m := q + 2) rfl rfl (by omega) (by omega)) rfl ?_
        refine JL.storeW (d32 W (k + (q + 2)) + y) ag_103 rfl rfl (by rw [IntKind.wrap_u32]; omega) dl_ (by omega) ?_
        rw [hok.1]
        refine JL.nil ?_
        refine Sr ?_
        refine Ru 1 rfl ?_
        refine JL.op (by first | exact RunV.sub_u64 rfl rfl (by omega) (by omega) | exact RunV.sub rfl rfl) rfl ?_
        refine JL.op (RunV.toW (G - 1) cv_63_103 rfl (by omega)) rfl ?_
        refine Ru 1 rfl ?_
        refine JL.nil ?_
        exact J.ret ⟨_, [_], _, (RetV.one rfl rfl), .cons .here .nil, _, rfl, congrArg (Value.int .u32) (by omega), rfl⟩
  ·
   refine J.seq ?_
   refine Rg ?_
   refine Ru 3 rfl ?_
   refine JL.nil ?_
   refine J.seq ?_
   refine J.drawn mixed_ (by kernel_rfl) ?_
   refine Rq 2 rfl ?_
   refine JQ.op (RunV.index_off sl_30 (m := q + 2) rfl rfl (by omega) (by omega)) rfl ?_
   refine JQ.op (RunV.wload ag_103 rfl mm_ (by omega)) rfl ?_
   rw [htopd]
   refine JQ.op (by first | exact RunV.conv_u64 cv_103_63 rfl (by omega) (by omega) | exact RunV.convw_u64 cv_103_63 rfl | exact RunV.conv cv_103_63 rfl) rfl ?_
   refine JQ.op (RunV.shl_u64 4294967296 rfl rfl (by decide) (by decide) (by decide) (by omega) (by omega)) rfl ?_
   refine Rq 2 rfl ?_
   refine JQ.op si_ rfl ?_
   refine JQ.op (RunV.index_off sl_30 (m := q + 1) rfl rfl (by omega) (by omega)) rfl ?_
   refine JQ.op (RunV.wload ag_103 rfl mm_ (by omega)) rfl ?_
   refine JQ.op (by first | exact RunV.conv_u64 cv_103_63 rfl (by omega) (by omega) | exact RunV.convw_u64 cv_103_63 rfl | exact RunV.conv cv_103_63 rfl) rfl ?_
   refine JQ.op (RunV.join_u64 32 4294967296 rfl rfl (by decide) (by omega) (by omega) (by omega) (by omega) (by omega) (by omega)) rfl ?_
   rw [show ((w / 4294967296 ^ (k + (q + 2)) : Nat) : Int) * 4294967296 + (d32 (digN N w) (k + (q + 1)) : Nat) = (top : Int) by omega]
   refine Rq 1 rfl ?_
   refine JQ.nil ?_
   refine J.seq ?_
   refine Rg ?_
   refine Ru 3 rfl ?_
   refine JL.op si_ rfl ?_
   refine JL.ope (RunE.index (m := q + 1) sl_30 rfl rfl (by omega) hl rfl (by omega)) rfl ?_
   rintro _ ⟨b30, o30, hi30, rfl, hE30⟩
   refine JL.op (RunV.ld_u32 ag_103 rfl (by assumption)) rfl ?_
   rw [ea1]
   refine JL.op (by first | exact RunV.conv_u64 cv_103_63 rfl (by omega) (by omega) | exact RunV.convw_u64 cv_103_63 rfl | exact RunV.conv cv_103_63 rfl) rfl ?_
   refine JL.op (RunV.quo_u64 rfl rfl (by omega) (by omega) (by omega)) rfl ?_
   refine Ru 1 rfl ?_
   refine JL.nil ?_
   refine J.seq ?_
   refine Rg ?_
   refine Ru 3 rfl ?_
   refine JL.op si_ rfl ?_
   refine JL.ope (RunE.index (m := q + 1) sl_30 rfl rfl (by omega) hl rfl (by omega)) rfl ?_
   rintro _ ⟨b32, o32, hi32, rfl, hE32⟩
   refine JL.op (RunV.ld_u32 ag_103 rfl (by assumption)) rfl ?_
   rw [ea1]
   refine JL.op (by first | exact RunV.conv_u64 cv_103_63 rfl (by omega) (by omega) | exact RunV.convw_u64 cv_103_63 rfl | exact RunV.conv cv_103_63 rfl) rfl ?_
   refine JL.op (RunV.rem_u64 rfl rfl (by omega) (by omega)) rfl ?_
   refine Ru 1 rfl ?_
   refine JL.nil ?_
   refine J.seq ?_
   refine J.label ?_
   refine J.weak _ ?_ (again _ _ _ _ ⟨top / d32 l (q + 1), top % d32 l (q + 1), rfl, rfl, rfl, rfl, ⟨by rw [Nat.mul_comm]; exact Nat.div_add_mod _ _, Nat.lt_of_lt_of_le (Nat.mod_lt _ hv10) (by omega), (Nat.le_div_iff_mul_le hv10).2 (g_init hS hlow hgl b5), Nat.div_le_self _ _⟩⟩)
   repeat (first | exact trivial | refine ⟨rfl, ?_⟩)
end Go.Proofs.YtmngjbefnloljaaGreatDoor
set_option linter.unusedSimpArgs false
set_option linter.unusedVariables false
set_option linter.constructorNameAsVariable false
namespace Go.Proofs.YtmngjbefnloljaaGreatDoor
open Go Go.RowKit
set_option maxRecDepth 100000
theorem ca_120 : callT Tryz.prog 120 = true := by kernel_rfl
theorem ca_121 : callT Tryz.prog 121 = true := by kernel_rfl
theorem ca_122 : callT Tryz.prog 122 = true := by kernel_rfl
theorem ca_123 : callT Tryz.prog 123 = true := by kernel_rfl
theorem ca_47 : callT Tryz.prog 47 = true := by kernel_rfl
theorem ca_87 : callT Tryz.prog 87 = true := by kernel_rfl
theorem cv_3_93 : convI Tryz.prog 3 93 = some .u64 := by kernel_rfl
theorem two_le32 (s : Nat) (h : s ≤ 31) : 1 ≤ 2 ^ s ∧ 2 ^ s ≤ 2147483648 := ⟨Nat.one_le_two_pow, Nat.le_trans (Nat.pow_le_pow_right (by decide) h) (by decide)⟩
theorem two_split (s : Nat) (h : s ≤ 31) : 2 ^ s * 2 ^ (32 - s) = 4294967296 := by
  rw [← Nat.pow_add, show s + (32 - s) = 32 by omega]
theorem shift_mod {x s : Nat} (h : s ≤ 31) : x * 2 ^ s % 4294967296 % 2 ^ s = 0 := by
  rw [← two_split s h, Nat.mul_comm x, Nat.mul_mod_mul_left]
  exact Nat.mul_mod_right _ _
theorem shift_low {V s i : Nat} (h : V < 4294967296 ^ i) : V * 2 ^ s / 4294967296 ^ i < 2 ^ s := Nat.div_lt_of_lt_mul (Nat.mul_lt_mul_of_pos_right h (Nat.two_pow_pos s))
theorem natshifted_fn {a : Option Addr} {c s : Nat} {l : List UInt32} {h : Part} (hl : SlR u32R 1 h a c l) (hs : s ≤ 31) (hlb : l.length ≤ 1000000) : Fn Tryz.prog 122 [.slice a l.length c, .int .u64 s] h []
    (Rets fun v _ Lo => ∃ b, v = .slice (some ⟨b, 0, none⟩) (l.length + 1) (l.length + 1) ∧ Lo = [.row (some ⟨b, 0, none⟩) (l.length + 1) 103 1 (l.length + 1) (ws .u32 (digN (l.length + 1) (vL l * 2 ^ s)))]) := by
  have h2s := two_le32 s hs
  refine Fn.intro Tryz.func122 rfl Tryz.ntmps122 rfl (fun e he => ?_)
  refine J.weak [(0, _), (1, _)] ⟨rfl, rfl, trivial⟩ ?_
  have hh0 := Part.le.refl h
  refine Sr ?_
  refine Ru 1 rfl ?_
  refine JL.nil ?_
  refine Sr ?_
  refine Ru 2 rfl ?_
  refine JL.op ai_ rfl ?_
  refine JL.make1 mk_30 rfl rfl (m := l.length + 1) (by omega) (by omega) (by omega) rfl rfl (fun b1 => ?_); rw [ws_zero]
  refine Ru 1 rfl ?_
  refine JL.nil ?_
  refine J.seq ?_
  refine Sr ?_
  refine Ru 3 rfl ?_
  refine Nk [15, 14, 13, 5, 4, 1] rfl ?_
  refine J.block ?_
  refine J.loop (fun t_ S_ h_ L_ => ∃ (i : Nat) (out : List UInt32), t_ = l.length - i ∧ S_ = [(1, .int .u64 s), (5, .slice (some ⟨b1, 0, none⟩) (l.length + 1) (l.length + 1)), (13, .slice a l.length c), (14, .int .i64 l.length), (15, .int .i64 i)] ∧ h = h_ ∧ L_ = [.row (some ⟨b1, 0, none⟩) (l.length + 1) 103 1 (l.length + 1) (ws .u32 out)] ∧ (i ≤ l.length ∧ out.length = l.length + 1 ∧ vL out = vL (l.take i) * 2 ^ s)) ⟨_, _, ?_, ⟨0, _, rfl, rfl, rfl, rfl, ⟨by omega, digN_len _ _, by rw [vL_digN]; simp [vL]⟩⟩⟩ ?_
  ·
   repeat (first | exact trivial | refine ⟨rfl, ?_⟩)
  rintro _ _ _ _ ⟨i, out, rfl, rfl, rfl, rfl, hi, hol, hv⟩
  refine Sr ?_
  refine Ru 1 rfl ?_
  refine JL.nil ?_
  refine J.seq ?_
  refine Cs rfl (fun hc2 => ?_) fun hc2 => ?_
  ·
   have hi' : i < l.length := (by omega); have bi := d32_lt l i; have ei := d32_at l i hi'; obtain ⟨y, hy⟩ : ∃ y, y = d32 l i * 2 ^ s := ⟨_, rfl⟩; have hyb : y ≤ 4294967295 * 2147483648 := (by rw [hy]; exact Nat.mul_le_mul (by omega) h2s.2); have hlow : d32 out i < 2 ^ s := (by rw [← vL_digit, hv]; exact Nat.lt_of_le_of_lt (Nat.mod_le _ _) (shift_low (vL_take_lt l i))); have hym : y % 4294967296 % 2 ^ s = 0 := (by rw [hy]; exact shift_mod hs); have hzt : vL out < 4294967296 ^ (i + 1) := (by rw [hv, Nat.pow_succ]; exact Nat.mul_lt_mul'' (vL_take_lt l i) (by omega)); have hz1 := vL_zero_above hzt (i + 1) (Nat.le_refl _); have hsum : d32 out i + y % 4294967296 < 4294967296 := (by have e1 := two_split s hs; have h3 : y % 4294967296 = 2 ^ s * (y % 4294967296 / 2 ^ s) := (by have := Nat.div_add_mod (y % 4294967296) (2 ^ s); omega); have h4 : y % 4294967296 / 2 ^ s < 2 ^ (32 - s) := Nat.div_lt_of_lt_mul (by rw [e1]; omega); have h5 : 2 ^ s * (y % 4294967296 / 2 ^ s) + 2 ^ s ≤ 2 ^ s * 2 ^ (32 - s) := (by rw [← Nat.mul_succ]; exact Nat.mul_le_mul_left _ h4); rw [e1] at h5; omega)
   refine J.skip ?_
   refine J.seq ?_
   refine J.block ?_
   refine Sr ?_
   refine Ru 1 rfl ?_
   refine JL.ope (RunE.index sl_30 rfl rfl (by first | with_reducible rfl | exact (Int.toNat_of_nonneg (by omega)).symm) (by assumption) rfl (by omega)) rfl ?_
   rintro _ ⟨b3, o3, hi3, rfl, hE3⟩
   refine JL.op (RunV.ld_u32 ag_103 rfl (by assumption)) rfl ?_
   rw [ei]
   refine Ru 2 rfl ?_
   refine JL.nil ?_
   refine Sr ?_
   refine Ru 1 rfl ?_
   refine JL.op (by first | exact RunV.conv_u64 cv_103_63 rfl (by omega) (by omega) | exact RunV.convw_u64 cv_103_63 rfl | exact RunV.conv cv_103_63 rfl) rfl ?_
   refine Ru 1 rfl ?_
   refine JL.op (RunV.shl_u64 ((2 ^ s : Nat) : Int) rfl rfl (by omega) (by omega) (by rw [Int.toNat_natCast, Int.natCast_pow]; rfl) (by rw [← Int.natCast_mul]; omega) (by rw [← Int.natCast_mul]; omega)) rfl ?_
   rw [← Int.natCast_mul, ← hy]
   refine Ru 1 rfl ?_
   refine JL.nil ?_
   refine Sr ?_
   refine Ru 2 rfl ?_
   refine JL.op (RunV.index_at sl_30 (m := i) rfl rfl (by omega) (by omega)) rfl ?_
   refine JL.op (RunV.wload ag_103 rfl mm_ (by omega)) rfl ?_
   refine Ru 1 rfl ?_
   refine JL.op (RunV.toW y cv_63_103 rfl rfl) rfl ?_
   refine JL.op (RunV.joinr_u32 s ((2 ^ s : Nat) : Int) rfl rfl (by rw [Int.natCast_pow]; rfl) (by omega) (by rw [← Int.natCast_emod, hym]; rfl) (by omega) (by omega) (by omega) (by omega)) rfl ?_
   refine JL.op (RunV.index_at sl_30 (m := i) rfl rfl (by omega) (by omega)) rfl ?_
   refine JL.storeW (d32 out i + y % 4294967296) ag_103 rfl rfl (by rw [Nat.mod_eq_of_lt hsum]; omega) dl_ (by omega) ?_
   obtain ⟨o2, ho2⟩ : ∃ o2, o2 = out.set i (UInt32.ofNat (d32 out i + y % 4294967296)) := ⟨_, rfl⟩; have hp1 := vL_put out i (d32 out i + y % 4294967296) (by omega); rw [← ho2, Nat.div_eq_of_lt hsum] at hp1; have ho2l : o2.length = l.length + 1 := (by rw [ho2, List.length_set]; exact hol); have hz2 : d32 o2 (i + 1) = 0 := (by rw [ho2, d32_set _ _ _ _ (by omega), if_neg (by omega)]; exact hz1); have hp2 := vL_put o2 (i + 1) (y / 4294967296) (by omega); rw [hz2, Nat.div_eq_of_lt (show y / 4294967296 < 4294967296 by omega)] at hp2; rw [← ho2]
   refine JL.nil ?_
   refine Rg ?_
   refine Ru 2 rfl ?_
   refine JL.op ai_ rfl ?_
   refine Ru 1 rfl ?_
   refine JL.op (RunV.shr_u64 4294967296 rfl rfl (by decide) (by decide) (by decide)) rfl ?_
   refine JL.op (RunV.toW (y / 4294967296) cv_63_103 rfl rfl) rfl ?_
   refine JL.op (RunV.index_at sl_30 (m := i + 1) rfl rfl (by omega) (by omega)) rfl ?_
   refine JL.storeW (y / 4294967296) ag_103 rfl rfl rfl dl_ (by omega) ?_
   refine JL.nil ?_
   refine Rg ?_
   refine JL.op ai_ rfl ?_
   refine Ru 1 rfl ?_
   refine JL.nil ?_
   refine ⟨_, ?_, _, ?_, ⟨i + 1, _, rfl, rfl, rfl, rfl, ⟨by omega, by rw [List.length_set]; exact ho2l, by rw [vL_take_succ, Nat.add_mul, ← hv]; have e2 : y * 4294967296 ^ i = (y % 4294967296) * 4294967296 ^ i + y / 4294967296 * 4294967296 ^ (i + 1) := (by rw [Nat.pow_succ, Nat.mul_comm _ 4294967296, ← Nat.mul_assoc, ← Nat.add_mul]; congr 1; omega); have e3 : d32 l i * 4294967296 ^ i * 2 ^ s = y * 4294967296 ^ i := (by rw [hy]; grind); rw [Nat.add_mul] at hp1; omega⟩⟩⟩
   ·
    omega
   ·
    repeat (first | exact trivial | refine ⟨rfl, ?_⟩)
  ·
   have hie : i = l.length := (by omega); rw [hie, List.take_length] at hv; have hoe := digN_fix hol hv; rw [hoe]
   refine J.exit ?_
   refine Kp [5] rfl ?_
   refine Sr ?_
   refine Ru 2 rfl ?_
   refine JL.nil ?_
   exact J.ret ⟨_, [_], _, (RetV.one rfl rfl), .cons .here .nil, _, rfl, _, rfl, rfl⟩
theorem short_step {X j b r : Nat} (hb : 0 < b) (hr : r = X / 4294967296 ^ (j + 1) % b) : X / 4294967296 ^ j / b = X / 4294967296 ^ (j + 1) / b * 4294967296 + (r * 4294967296 + X / 4294967296 ^ j % 4294967296) / b ∧ X / 4294967296 ^ j % b = (r * 4294967296 + X / 4294967296 ^ j % 4294967296) % b := by
  have h1 := div_low X j
  generalize X / 4294967296 ^ (j + 1) = Y at *
  generalize X / 4294967296 ^ j % 4294967296 = d at *
  have h2 := Nat.div_add_mod Y b
  rw [h1]
  have e : Y * 4294967296 + d = b * (Y / b * 4294967296) + (r * 4294967296 + d) := by
    subst hr
    conv => lhs; rw [← h2]
    rw [Nat.add_mul, Nat.mul_assoc]; omega
  rw [e, Nat.mul_add_div hb, Nat.mul_add_mod]
  exact ⟨rfl, rfl⟩
theorem natshort_fn {a : Option Addr} {c b : Nat} {l : List UInt32} {h : Part} (hl : SlR u32R 1 h a c l) (hb0 : 0 < b) (hb : b < 4294967296) (hlb : l.length ≤ 1000000) : FnR Tryz.prog 120 [.slice a l.length c, .int .u32 b] h
    (fun v h' => ∃ a1 c1 a2 c2, v = .tuple #[.slice a1 (toL (vL l / b)).length c1, .slice a2 (toL (vL l % b)).length c2, .int .i64 0] ∧ SlR u32R 1 h' a1 c1 (toL (vL l / b)) ∧ SlR u32R 1 h' a2 c2 (toL (vL l % b))) := by
  refine Fn.intro Tryz.func120 rfl Tryz.ntmps120 rfl (fun e he => ?_)
  refine J.weak [(0, _), (1, _)] ⟨rfl, rfl, trivial⟩ ?_
  have hh0 := Part.le.refl h
  refine Sr ?_
  refine Ru 3 rfl ?_
  refine JL.nil ?_
  refine Sr ?_
  refine Ru 2 rfl ?_
  refine JL.make1 mk_30 rfl rfl (m := l.length) (by omega) (by omega) (by omega) rfl rfl (fun b1 => ?_); rw [ws_zero]
  refine Ru 1 rfl ?_
  refine JL.nil ?_
  refine Sr ?_
  refine Ru 1 rfl ?_
  refine JL.nil ?_
  refine J.seq ?_
  refine Sr ?_
  refine Ru 2 rfl ?_
  refine JL.op si_ rfl ?_
  refine Ru 1 rfl ?_
  refine Nk [9, 8, 7, 6, 5, 4, 0, 1] rfl ?_
  refine J.block ?_
  refine J.loop (fun t_ S_ h_ L_ => ∃ (j r : Nat) (out : List UInt32), t_ = j + 1 ∧ S_ = [(0, .slice a l.length c), (1, .int .u32 b), (7, .slice (some ⟨b1, 0, none⟩) l.length l.length), (8, .int .u64 r), (9, .int .i64 ((j : Int) - 1))] ∧ h = h_ ∧ L_ = [.row (some ⟨b1, 0, none⟩) l.length 103 1 l.length (ws .u32 out)] ∧ (j ≤ l.length ∧ out.length = l.length ∧ r = vL l / 4294967296 ^ j % b ∧ vL out = vL l / 4294967296 ^ j / b * 4294967296 ^ j)) ⟨_, _, ?_, ⟨l.length, 0, _, rfl, rfl, rfl, rfl, ⟨Nat.le_refl _, digN_len _ _, by rw [Nat.div_eq_of_lt (vL_lt l)]; simp, by rw [vL_digN, Nat.div_eq_of_lt (vL_lt l)]; simp⟩⟩⟩ ?_
  ·
   repeat (first | exact trivial | refine ⟨rfl, ?_⟩ | refine ⟨(by exact some_int (by omega)), ?_⟩)
  rintro _ _ _ _ ⟨j, r, out, rfl, rfl, rfl, rfl, hj, hol, hr, hv⟩
  refine J.seq ?_
  refine Sr ?_
  refine Ru 2 rfl ?_
  refine JL.nil ?_
  refine Cs rfl (fun hc2 => ?_) fun hc2 => ?_
  ·
   obtain ⟨i, rfl⟩ : ∃ i, j = i + 1 := ⟨j - 1, by omega⟩; have bi := d32_lt l i; have ei := d32_at l i (by omega); have hrb : r < b := (by rw [hr]; exact Nat.mod_lt _ hb0); obtain ⟨s1, s2⟩ := short_step (j := i) hb0 hr; rw [vL_digit] at s1 s2; obtain ⟨t, ht⟩ : ∃ t, t = r * 4294967296 + d32 l i := ⟨_, rfl⟩; rw [← ht] at s1 s2; have htq : t / b < 4294967296 := Nat.div_lt_of_lt_mul (by have := Nat.mul_le_mul_right 4294967296 (show r + 1 ≤ b by omega); omega); have hz : d32 out i = 0 := (by rw [← vL_digit, hv, Nat.pow_succ, Nat.mul_comm (4294967296 ^ i), ← Nat.mul_assoc, Nat.mul_div_cancel _ (Nat.pow_pos (by decide))]; exact Nat.mul_mod_left _ _); have hp := vL_put out i (t / b) (by omega); rw [hz, Nat.div_eq_of_lt htq] at hp; have ht64 : t < 18446744073709551616 := (by omega)
   refine J.skip ?_
   refine J.seq ?_
   refine J.block ?_
   refine Sr ?_
   refine Ru 1 rfl ?_
   refine JL.op (RunV.shl_u64 4294967296 rfl rfl (by decide) (by decide) (by decide) (by omega) (by omega)) rfl ?_
   refine Ru 2 rfl ?_
   refine JL.ope (RunE.index (m := i) sl_30 rfl rfl (by omega) hl rfl (by omega)) rfl ?_
   rintro _ ⟨b3, o3, hi3, rfl, hE3⟩
   refine JL.op (RunV.ld_u32 ag_103 rfl (by assumption)) rfl ?_
   rw [ei]
   refine JL.op (by first | exact RunV.conv_u64 cv_103_63 rfl (by omega) (by omega) | exact RunV.convw_u64 cv_103_63 rfl | exact RunV.conv cv_103_63 rfl) rfl ?_
   refine JL.op (RunV.join_u64 32 4294967296 rfl rfl (by decide) (by omega) (by omega) (by omega) (by omega) (by omega) (by omega)) rfl ?_
   rw [show (r : Int) * 4294967296 + (d32 l i : Int) = (t : Int) by omega]
   refine Ru 1 rfl ?_
   refine JL.nil ?_
   refine Sr ?_
   refine Ru 4 rfl ?_
   refine JL.op (by first | exact RunV.conv_u64 cv_103_63 rfl (by omega) (by omega) | exact RunV.convw_u64 cv_103_63 rfl | exact RunV.conv cv_103_63 rfl) rfl ?_
   refine JL.op (RunV.quo_u64 rfl rfl (by omega) (by omega) (by omega)) rfl ?_
   refine JL.op (RunV.toW (t / b) cv_63_103 rfl (by rw [Int.natCast_ediv])) rfl ?_
   refine JL.op (RunV.index_at sl_30 (m := i) rfl rfl (by omega) (by omega)) rfl ?_
   refine JL.storeW (t / b) ag_103 rfl rfl rfl dl_ (by omega) ?_
   refine JL.nil ?_
   refine Rg ?_
   refine Ru 2 rfl ?_
   refine JL.op (by first | exact RunV.conv_u64 cv_103_63 rfl (by omega) (by omega) | exact RunV.convw_u64 cv_103_63 rfl | exact RunV.conv cv_103_63 rfl) rfl ?_
   refine JL.op (RunV.rem_u64 rfl rfl (by omega) (by omega)) rfl ?_
   rw [← Int.natCast_emod]
   refine Ru 1 rfl ?_
   refine JL.nil ?_
   refine Rg ?_
   refine Ru 1 rfl ?_
   refine JL.op si_ rfl ?_
   refine Ru 1 rfl ?_
   refine JL.nil ?_
   refine ⟨_, ?_, _, ?_, ⟨i, t % b, _, rfl, rfl, rfl, rfl, ⟨by omega, by rw [List.length_set]; exact hol, s2.symm, by rw [s1, Nat.add_mul, Nat.mul_assoc, Nat.mul_comm 4294967296, ← Nat.pow_succ, ← hv]; omega⟩⟩⟩
   ·
    omega
   ·
    repeat (first | exact trivial | refine ⟨rfl, ?_⟩ | refine ⟨(by exact some_int (by omega)), ?_⟩)
  ·
   have hj0 : j = 0 := (by omega); subst hj0; rw [Nat.pow_zero, Nat.div_one] at hr hv; rw [Nat.mul_one] at hv
   refine J.exit ?_
   refine Kp [7, 8] rfl ?_
   refine Sr ?_
   refine Ru 1 rfl ?_
   refine JL.pub32 dl_ hol.symm (by omega) (fun h9 hle9 hP9 => ?_); replace hh0 := hh0.mono hle9; replace hl := hl.mono hle9
   refine JL.callR ca_59 rfl (nattrim_fn' hP9 hol.symm (by omega)) rfl ?_
   rintro _ h6 hle6 ⟨ra, rc, rfl, hR⟩
   replace hl := hl.mono hle6
   replace hh0 := hh0.mono hle6
   refine Ru 1 rfl ?_
   rw [hv] at hR ⊢; have hrb : r < b := (by rw [hr]; exact Nat.mod_lt _ hb0)
   refine JL.callR ca_87 rfl (natOf_fn (by omega)) rfl ?_
   rintro _ h7 hle7 ⟨sa, sc, rfl, hS⟩
   replace hl := hl.mono hle7
   replace hh0 := hh0.mono hle7
   replace hR := hR.mono hle7
   refine Ru 3 rfl ?_
   refine Nk [6, 5, 4] rfl ?_
   rw [hr] at hS ⊢; exact J.retR (RetV.three rfl rfl rfl rfl) ⟨_, _, _, _, rfl, hR, hS⟩
theorem lz_fn {n : Nat} {h : Part} (hn : n < 4294967296) : Pure Tryz.prog 121 [.int .u32 n] h (.int .i64 ((32 - bl n : Nat) : Int)) := by
  have hb := bl_le 32 n hn
  refine Fn.intro Tryz.func121 rfl Tryz.ntmps121 rfl (fun e he => ?_)
  refine J.weak [(0, _)] ⟨rfl, trivial⟩ ?_
  refine Sr ?_
  refine Ru 1 rfl ?_
  refine JL.nil ?_
  refine Sr ?_
  refine Ru 1 rfl ?_
  refine JL.callP ca_85 rfl (len32_fn hn) rfl ?_
  refine JL.op si_ rfl ?_
  refine Ru 1 rfl ?_
  refine Nk [2] rfl ?_
  exact J.retP (RetV.one rfl rfl) (congrArg (Value.int .i64) (by omega)) rfl
theorem SlR.takeN {α : Type} {R : Rep α} {sz : Nat} {h : Part} {a : Option Addr} {c : Nat} {l : List α} (k : SlR R sz h a c l) (m : Nat) : SlR R sz h a c (l.take m) :=
  ⟨by have := k.len; rw [List.length_take]; omega, k.cap, by have := k.big; rw [List.length_take]; omega, k.nil, fun i x hx => k.elt i x (by
    rw [List.getElem?_take] at hx
    split at hx
    · exact hx
    · cases hx)⟩
theorem digN_take (m k v : Nat) : (digN (m + k) v).take m = digN m v := by
  induction m generalizing v with
  | zero => simp [digN]
  | succ m ih => rw [show m + 1 + k = (m + k) + 1 by omega]; simp only [digN, List.take_succ_cons, ih]
section
variable {f : Fr} {S : Sig} {h : Part} {L : List Ent} {ty T : TypeId} {xo hi : Operand}
theorem RunV.cutv {e sz ln c m : Nat} {a : Option Addr} {k2 : IntKind} {j : Int} (hT : slT f.P T = some (e, sz)) (hx : ev S xo = some (.slice a ln c)) (hh : ev S hi = some (.int k2 j)) (hj : j = (m : Int)) (h2 : m ≤ c) (h3 : 0 < c) :
    RunV f S h L (.slice T xo none (some hi) none) ty (.slice a m c) := fun ac w s _ _ _ _ => by
  subst hj
  obtain ⟨hu, inf, hi', hs⟩ := slT_spec hT
  have e1 : (m : Int) ≤ c := by omega
  have e3 : ¬ (c = 0) := by omega
  simp [execOp, s.eval hx, s.eval hh, Instr.sliceAt, Instr.slice, run_underlying hu, Instr.sliceBounds, Instr.sliceBound, asIntOf, sizeOf, typeInfo, hi', hs, e1, h2, e3]
  cases a with
  | none => rfl
  | some x => simp only [Option.map_some, Addr.add_zero']
end
theorem natstep_fn' {g k n cw cr N w : Nat} {av : Option Addr} {cv : Nat} {l : List UInt32} {h : Part} (hl : SlR u32R 1 h av cv l) (hn : n = l.length) (h2 : 2 ≤ n) (hV : 4294967296 ^ (n - 1) ≤ vL l) (hw : w < vL l * 4294967296 ^ (k + 1)) (hk : k + n < N) (hN : N ≤ 1000000) :
    Fn Tryz.prog 123 [.slice (some ⟨g, k, none⟩) (n + 1) cw, .slice av n cv] h [.row (some ⟨g, 0, none⟩) cr 103 1 N (ws .u32 (digN N w))]
      (Rets fun v _ Lo => v = .int .u32 ((w / (vL l * 4294967296 ^ k) : Nat) : Int) ∧ Lo = [.row (some ⟨g, 0, none⟩) cr 103 1 N (ws .u32 (digN N (w % (vL l * 4294967296 ^ k))))]) := by
  obtain ⟨q, rfl⟩ : ∃ q, n = q + 2 := ⟨n - 2, by omega⟩
  have := natstep_fn (g := g) (cw := cw) (cr := cr) hl hn.symm hV hw (by omega) hN
  rw [← hn] at this
  exact this
def dr (X Y : Nat) : Nat := if Y = 0 then 0 else X % Y
theorem norm_ok {Y n s d : Nat} (hn : n = nd Y) (hY : 0 < Y) (hd : d = Y / 4294967296 ^ (n - 1)) (hs : s = 32 - bl d) : s ≤ 31 ∧ Y * 2 ^ s < 4294967296 ^ n ∧ 2147483648 * 4294967296 ^ (n - 1) ≤ Y * 2 ^ s ∧ 0 < d ∧ d < 4294967296 := by
  obtain ⟨p1, p2⟩ := nd_pos Y hY
  rw [← hn] at p1 p2
  obtain ⟨m, rfl⟩ : ∃ m, n = m + 1 := ⟨n - 1, by omega⟩
  rw [Nat.add_sub_cancel] at *
  have hB : 0 < 4294967296 ^ m := Nat.pow_pos (by decide)
  have hlt := lt_nd Y
  rw [← hn, Nat.pow_succ] at hlt
  have hd0 : 0 < d := by rw [hd]; exact Nat.div_pos p1 hB
  have hdB : d < 4294967296 := by rw [hd]; exact Nat.div_lt_of_lt_mul hlt
  obtain ⟨q1, q2⟩ := bl_pos d hd0
  have q3 := lt_bl d
  have q4 := bl_le 32 d hdB
  have hs31 : s ≤ 31 := by omega
  have e1 : 2 ^ (bl d - 1) * 2 ^ s = 2147483648 := by rw [← Nat.pow_add, show bl d - 1 + s = 31 by omega]
  have e2 : 2 ^ bl d * 2 ^ s = 4294967296 := by rw [← Nat.pow_add, show bl d + s = 32 by omega]
  have h1 : 2147483648 ≤ d * 2 ^ s := by rw [← e1]; exact Nat.mul_le_mul_right _ q1
  have h2 : (d + 1) * 2 ^ s ≤ 4294967296 := by rw [← e2]; exact Nat.mul_le_mul_right _ q3
  have h3 : d * 4294967296 ^ m ≤ Y := by rw [hd]; exact Nat.div_mul_le_self _ _
  have h4 : Y < (d + 1) * 4294967296 ^ m := by
    have := Nat.lt_div_mul_add hB (a := Y)
    rw [← hd] at this
    rw [Nat.add_mul]; omega
  refine ⟨hs31, ?_, ?_, hd0, hdB⟩
  · have h5 : Y * 2 ^ s < (d + 1) * 4294967296 ^ m * 2 ^ s := Nat.mul_lt_mul_of_pos_right h4 (Nat.two_pow_pos s)
    have h6 : (d + 1) * 4294967296 ^ m * 2 ^ s = (d + 1) * 2 ^ s * 4294967296 ^ m := by grind
    have h7 := Nat.mul_le_mul_right (4294967296 ^ m) h2
    rw [Nat.pow_succ, Nat.mul_comm (4294967296 ^ m)]
    omega
  · have h5 := Nat.mul_le_mul_right (2 ^ s) h3
    have h6 : d * 4294967296 ^ m * 2 ^ s = d * 2 ^ s * 4294967296 ^ m := by grind
    have h7 := Nat.mul_le_mul_right (4294967296 ^ m) h1
    omega
theorem u_bound {X Y s la lb : Nat} (hX : X < 4294967296 ^ la) (hs : 2 ^ s ≤ 2147483648) (h1 : 1 ≤ lb) (hle : lb ≤ la) (hV : 2147483648 * 4294967296 ^ (lb - 1) ≤ Y * 2 ^ s) : X * 2 ^ s < Y * 2 ^ s * 4294967296 ^ (la - lb + 1) := by
  have e : 4294967296 ^ la = 4294967296 ^ (lb - 1) * 4294967296 ^ (la - lb + 1) := by rw [← Nat.pow_add]; congr 1; omega
  have h3 : X * 2 ^ s ≤ X * 2147483648 := Nat.mul_le_mul_left _ hs
  have h4 : X * 2147483648 < 4294967296 ^ la * 2147483648 := Nat.mul_lt_mul_of_pos_right hX (by decide)
  have h5 := Nat.mul_le_mul_right (4294967296 ^ (la - lb + 1)) hV
  have h6 : 2147483648 * 4294967296 ^ (lb - 1) * 4294967296 ^ (la - lb + 1) = 4294967296 ^ la * 2147483648 := by rw [e]; grind
  omega
theorem nd_mono {X Y : Nat} (hY : 0 < Y) (h : Y ≤ X) : nd Y ≤ nd X := by
  rcases Nat.lt_or_ge (nd X) (nd Y) with h1 | h1
  · have := nd_lt h1; omega
  · exact h1
theorem q_step {U D k : Nat} (hD : 0 < D) : U % (D * 4294967296 ^ (k + 1)) % (D * 4294967296 ^ k) = U % (D * 4294967296 ^ k) ∧ U / (D * 4294967296 ^ k) = U / (D * 4294967296 ^ (k + 1)) * 4294967296 + U % (D * 4294967296 ^ (k + 1)) / (D * 4294967296 ^ k) := by
  have e : D * 4294967296 ^ (k + 1) = D * 4294967296 ^ k * 4294967296 := by rw [Nat.pow_succ, Nat.mul_assoc]
  have hP : 0 < D * 4294967296 ^ k := Nat.mul_pos hD (Nat.pow_pos (by decide))
  rw [e]
  generalize D * 4294967296 ^ k = P at *
  have h1 := Nat.mod_mul (a := P) (b := 4294967296) (x := U)
  refine ⟨by rw [h1, Nat.add_mul_mod_self_left, Nat.mod_mod], ?_⟩
  rw [h1, Nat.add_mul_div_left _ _ hP, Nat.div_eq_of_lt (Nat.mod_lt _ hP), ← Nat.div_div_eq_div_mul]
  have := Nat.div_add_mod (U / P) 4294967296
  omega
theorem r_digit {w s i : Nat} (hs : s ≤ 31) : ((w / 4294967296 ^ (i + 1) % 4294967296) * 4294967296 + w / 4294967296 ^ i % 4294967296) / 2 ^ s % 4294967296 = w / 2 ^ s / 4294967296 ^ i % 4294967296 := by
  rw [Nat.div_div_eq_div_mul w (2 ^ s), Nat.mul_comm (2 ^ s), ← Nat.div_div_eq_div_mul, Nat.pow_succ, ← Nat.div_div_eq_div_mul w]
  generalize w / 4294967296 ^ i = y
  have e1 := two_split s hs
  have hp : 0 < 2 ^ s := Nat.two_pow_pos s
  have e2 : y = (y / 4294967296 % 4294967296 * 4294967296 + y % 4294967296) + 2 ^ s * (4294967296 * (2 ^ (32 - s) * (y / 18446744073709551616))) := by
    have e3 : 2 ^ s * (4294967296 * (2 ^ (32 - s) * (y / 18446744073709551616))) = 18446744073709551616 * (y / 18446744073709551616) := by
      have : 2 ^ s * (4294967296 * (2 ^ (32 - s) * (y / 18446744073709551616))) = (2 ^ s * 2 ^ (32 - s)) * (4294967296 * (y / 18446744073709551616)) := by grind
      rw [this, e1]; omega
    rw [e3]; omega
  conv => rhs; rw [e2]
  rw [Nat.add_mul_div_left _ _ hp, Nat.add_mul_mod_self_left]
set_option maxHeartbeats 2000000 in
theorem natdiv_fn {a b : Option Addr} {ca cb : Nat} {l r : List UInt32} {h : Part} (hl : SlR u32R 1 h a ca l) (hr : SlR u32R 1 h b cb r) (hlb : l.length ≤ 400000) (hrb : r.length ≤ 400000) : FnR Tryz.prog 86 [.slice a l.length ca, .slice b r.length cb] h
    (fun v h' => ∃ a1 c1 a2 c2, v = .tuple #[.slice a1 (toL (vL l / vL r)).length c1, .slice a2 (toL (dr (vL l) (vL r))).length c2, .int .i64 (if vL r = 0 then 10 else 0)] ∧ SlR u32R 1 h' a1 c1 (toL (vL l / vL r)) ∧ SlR u32R 1 h' a2 c2 (toL (dr (vL l) (vL r)))) := by
  have t1 := tsz_le (d32 l) l.length
  have t2 := tsz_le (d32 r) r.length
  have x1 : l.take (tsz (d32 l) l.length) = toL (vL l) := trim_toL l
  have x2 : r.take (tsz (d32 r) r.length) = toL (vL r) := trim_toL r
  have n1 : (toL (vL l)).length ≤ 400000 := by rw [toL_len, ← tsz_nd]; omega
  have n2 : (toL (vL r)).length ≤ 400000 := by rw [toL_len, ← tsz_nd]; omega
  have m1 := toL_len (vL l)
  have m2 := toL_len (vL r)
  have v1 : vL (toL (vL l)) = vL l := vL_toL _
  have v2 : vL (toL (vL r)) = vL r := vL_toL _
  refine Fn.intro Tryz.func86 rfl Tryz.ntmps86 rfl (fun e he => ?_)
  refine J.weak [(0, _), (1, _)] ⟨rfl, rfl, trivial⟩ ?_
  have hh0 := Part.le.refl h
  refine Sr ?_
  refine Ru 3 rfl ?_
  refine JL.nil ?_
  refine J.seq ?_
  refine J.drawn mixed_ (by kernel_rfl) ?_
  refine Rq 2 rfl ?_
  refine JQ.callP ca_84 rfl (natsize_fn (by assumption)) rfl ?_
  refine JQ.ope (RunE.cut_h sl_30 (m := tsz (d32 l) l.length) rfl rfl rfl hl rfl (by omega)) rfl ?_
  rintro _ ⟨a8, c8, rfl, hA⟩
  rw [x1] at hA ⊢; generalize hXA : toL (vL l) = A at *; generalize vL l = X at *
  refine Rq 2 rfl ?_
  refine JQ.callP ca_84 rfl (natsize_fn (by assumption)) rfl ?_
  refine JQ.ope (RunE.cut_h sl_30 (m := tsz (d32 r) r.length) rfl rfl rfl hr rfl (by omega)) rfl ?_
  rintro _ ⟨a9, c9, rfl, hB⟩
  rw [x2] at hB ⊢; generalize hYB : toL (vL r) = B at *; generalize vL r = Y at *; have hXlt := vL_lt A; rw [v1] at hXlt; have hYlt := vL_lt B; rw [v2] at hYlt
  refine Rq 2 rfl ?_
  refine Nq [1, 0, 6, 5, 4] rfl ?_
  refine J.seq ?_
  refine J.block ?_
  refine Sr ?_
  refine Ru 4 rfl ?_
  refine JL.nil ?_
  refine Cs rfl (fun hc5 => ?_) fun hc5 => ?_
  ·
   have hY0 : Y = 0 := (by rcases Nat.eq_zero_or_pos Y with h0 | h0; exact h0; have := nd_pos Y h0; omega); have hq : toL (X / Y) = [] := (by rw [hY0, Nat.div_zero]; rfl); have hd : toL (dr X Y) = [] := (by rw [dr, if_pos hY0]; rfl)
   refine Sr ?_
   refine Ru 3 rfl ?_
   refine Nk [6, 5, 4, 1, 0] rfl ?_
   rw [hq, hd, if_pos hY0]; exact J.retR (RetV.three rfl rfl rfl rfl) ⟨none, 0, none, 0, rfl, SlR.nil_, SlR.nil_⟩
  ·
   have hY0 : 0 < Y := (by rcases Nat.eq_zero_or_pos Y with h0 | h0; (exfalso; rw [h0, nd_zero] at m2; omega); exact h0)
   refine Sr ?_
   refine Ru 2 rfl ?_
   refine JL.callP ca_47 rfl (natcmp_fn hA hB) rfl ?_
   rw [v1, v2]
   refine Ru 2 rfl ?_
   refine Nk [26, 1, 0, 6, 5, 4] rfl ?_
   refine Cs rfl (fun hc7 => ?_) fun hc7 => ?_
   ·
    have hXY : X < Y := (by unfold cmpI3 at hc7; split at hc7; assumption; split at hc7 <;> omega); have hq : toL (X / Y) = [] := (by rw [Nat.div_eq_of_lt hXY]; rfl); have hd : toL (dr X Y) = toL X := (by rw [dr, if_neg (by omega), Nat.mod_eq_of_lt hXY])
    refine Sr ?_
    refine Ru 1 rfl ?_
    refine JL.callR ca_59 rfl (nattrim_fn' hA rfl (by omega)) rfl ?_
    rintro _ h8 hle8 ⟨ra, rc, rfl, hR⟩
    replace hl := hl.mono hle8
    replace hr := hr.mono hle8
    replace hh0 := hh0.mono hle8
    replace hA := hA.mono hle8
    replace hB := hB.mono hle8
    rw [v1, ← hd] at hR ⊢
    refine Ru 3 rfl ?_
    refine Nk [6, 5, 4, 1, 0] rfl ?_
    rw [hq, if_neg (by omega)]; exact J.retR (RetV.three rfl rfl rfl rfl) ⟨none, 0, _, _, rfl, SlR.nil_, hR⟩
   ·
    have hXY : Y ≤ X := (by unfold cmpI3 at hc7; split at hc7; omega; omega)
    refine Sr ?_
    refine Ru 4 rfl ?_
    refine Nk [33, 1, 0, 6, 5, 4] rfl ?_
    refine Cs rfl (fun hc9 => ?_) fun hc9 => ?_
    ·
     refine Sr ?_
     refine Ru 2 rfl ?_
     refine JL.ope (RunE.index sl_30 rfl rfl (show _ = ((0 : Nat) : Int) from rfl) (by assumption) rfl (by omega)) rfl ?_
     rintro _ ⟨b10, o10, hi10, rfl, hE10⟩
     refine JL.op (RunV.ld_u32 ag_103 rfl (by assumption)) rfl ?_
     rw [d32_at]
     refine JL.callR ca_120 rfl (natshort_fn (b := d32 B 0) hA (by have := vL_digit B 0; rw [v2] at this; rw [show B.length = 1 by omega] at hYlt; simp only [Nat.pow_zero, Nat.div_one, Nat.pow_one] at this hYlt; omega) (d32_lt B 0) (by omega)) rfl ?_
     rintro _ h12 hle12 ⟨qa, qc, ra, rc, rfl, hQ, hR⟩
     replace hl := hl.mono hle12
     replace hr := hr.mono hle12
     replace hh0 := hh0.mono hle12
     replace hA := hA.mono hle12
     replace hB := hB.mono hle12
     have hb0 : d32 B 0 = Y := (by have := vL_digit B 0; rw [v2] at this; rw [show B.length = 1 by omega] at hYlt; simp only [Nat.pow_zero, Nat.div_one, Nat.pow_one] at this hYlt; omega); rw [v1, hb0] at hQ hR ⊢; have hd : X % Y = dr X Y := (by rw [dr, if_neg (by omega)]); rw [hd] at hR ⊢
     refine Ru 6 rfl ?_
     refine Nk [6, 5, 4, 1, 0] rfl ?_
     rw [if_neg (by omega)]; exact J.retR (RetV.three rfl rfl rfl rfl) ⟨_, _, _, _, rfl, hQ, hR⟩
    ·
     have hB2 : 2 ≤ B.length := (by omega)
     refine J.skip ?_
     refine Sr ?_
     refine Ru 3 rfl ?_
     refine JL.op si_ rfl ?_
     refine JL.ope (RunE.index (m := B.length - 1) sl_30 rfl rfl (by omega) hB rfl (by omega)) rfl ?_
     rintro _ ⟨b13, o13, hi13, rfl, hE13⟩
     refine JL.op (RunV.ld_u32 ag_103 rfl (by assumption)) rfl ?_
     rw [d32_at]; obtain ⟨s, hs⟩ : ∃ s, s = 32 - bl (d32 B (B.length - 1)) := ⟨_, rfl⟩; have hdtop : d32 B (B.length - 1) = Y / 4294967296 ^ (B.length - 1) := (by rw [← vL_digit, v2]; exact Nat.mod_eq_of_lt (Nat.div_lt_of_lt_mul (by rw [← Nat.pow_succ, show (B.length - 1).succ = B.length by omega]; exact hYlt))); obtain ⟨s31, hV1, hV2, hd0, hdB⟩ := norm_ok m2 hY0 hdtop hs; have h2s := two_le32 s s31
     refine JL.callP ca_121 rfl (lz_fn hdB) rfl ?_
     rw [← hs]
     refine JL.op (by first | exact RunV.conv_u64 cv_3_93 rfl (by omega) (by omega) | exact RunV.conv cv_3_93 rfl) rfl ?_
     refine Ru 1 rfl ?_
     refine Nk [7, 1, 0, 6, 5, 4] rfl ?_
     refine J.seq ?_
     refine J.held ([]) 11 mixed_ rfl (fun h00 => ?_)
     refine JH.take 0 rfl (by kernel_rfl) (by kernel_rfl) (by kernel_rfl) (fun _ _ _ _ hh => hh) (br_ h00) (RunV.move rfl) rfl ?_
     refine JH.take 1 rfl (by kernel_rfl) (by kernel_rfl) (by kernel_rfl) (fun _ _ _ _ hh => hh) (br_ h00) (RunV.move rfl) rfl ?_
     refine JH.take 3 rfl (by kernel_rfl) (by kernel_rfl) (by kernel_rfl) (fun _ _ _ _ hh => hh) (br_ h00) (RunV.move rfl) rfl ?_
     refine JH.take 4 rfl (by kernel_rfl) (by kernel_rfl) (by kernel_rfl) (fun _ _ _ _ hh => hh) (br_ h00) (RunV.move rfl) rfl ?_
     refine JH.take 6 rfl (by kernel_rfl) (by kernel_rfl) (by kernel_rfl) (fun _ _ _ _ hh => hh) (br_ h00) (RunV.move rfl) rfl ?_
     refine JH.take 7 rfl (by kernel_rfl) (by kernel_rfl) (by kernel_rfl) (fun _ _ _ _ hh => hh) (br_ h00) (RunV.len sl_30 rfl) rfl ?_
     refine JH.all1 2 (by kernel_rfl) rfl ?_
     unfold One
     refine JL.call ca_122 rfl (natshifted_fn hA s31 (by omega)) pt_ rfl ?_
     rintro _ h16 Lo16 hle16 ⟨ub, rfl, rfl⟩
     replace hl := hl.mono hle16
     replace hr := hr.mono hle16
     replace hh0 := hh0.mono hle16
     replace hA := hA.mono hle16
     replace hB := hB.mono hle16
     refine JL.nil ⟨(br_ h00), ?_⟩
     refine JH.all1 5 (by kernel_rfl) rfl ?_
     unfold One
     refine JL.call ca_122 rfl (natshifted_fn hB s31 (by omega)) pt_ rfl ?_
     rintro _ h17 Lo17 hle17 ⟨vb, rfl, rfl⟩
     replace hl := hl.mono hle17
     replace hr := hr.mono hle17
     replace hh0 := hh0.mono hle17
     replace hA := hA.mono hle17
     replace hB := hB.mono hle17
     refine JL.nil ⟨(br_ h00), ?_⟩
     refine JH.take 8 rfl (by kernel_rfl) (by kernel_rfl) (by kernel_rfl) (fun _ _ _ _ hh => hh) (br_ h00) (RunV.cutv sl_30 rfl rfl rfl (by omega) (by omega)) rfl ?_
     refine JH.take 9 rfl (by kernel_rfl) (by kernel_rfl) (by kernel_rfl) (fun _ _ _ _ hh => hh) (br_ h00) (RunV.assign rfl) rfl ?_
     refine JH.take 10 rfl (by kernel_rfl) (by kernel_rfl) (by kernel_rfl) (fun _ _ _ _ hh => hh) (br_ h00) (RunV.assign rfl) rfl ?_
     refine JH.done (by kernel_rfl) ?_
     refine Kp [9, 8, 7, 1, 0, 6, 5, 4] rfl ?_
     refine Sr ?_
     have hle12 : B.length ≤ A.length := (by have := nd_mono hY0 hXY; omega); have hXU := u_bound hXlt h2s.2 (by omega) hle12 hV2; have hV0 : 0 < Y * 2 ^ s := Nat.mul_pos hY0 (Nat.two_pow_pos s); rw [v1, v2]; refine JL.pub32 (a := some ⟨vb, 0, none⟩) (l := digN (B.length + 1) (Y * 2 ^ s)) dl_ (by rw [digN_len]) (by rw [digN_len]; omega) (fun h9 hle9 hP9 => ?_); replace hl := hl.mono hle9; replace hr := hr.mono hle9; replace hh0 := hh0.mono hle9; replace hA := hA.mono hle9; replace hB := hB.mono hle9; have hV9 := hP9.takeN B.length; rw [digN_take B.length 1] at hV9; have hvV : vL (digN B.length (Y * 2 ^ s)) = Y * 2 ^ s := (by rw [vL_digN]; exact Nat.mod_eq_of_lt hV1); obtain ⟨M, hM⟩ : ∃ M, M = A.length - B.length + 1 := ⟨_, rfl⟩; rw [← hM] at hXU
     refine Ru 4 rfl ?_
     refine JL.op si_ rfl ?_
     refine JL.op ai_ rfl ?_
     refine JL.make1 mk_30 rfl rfl (m := M) (by omega) (by omega) (by omega) rfl rfl (fun bq => ?_); rw [ws_zero]
     refine Ru 1 rfl ?_
     refine Nk [10, 9, 8, 7, 1, 6, 5, 4] rfl ?_
     refine J.seq ?_
     refine Sr ?_
     refine Ru 2 rfl ?_
     refine JL.op si_ rfl ?_
     refine Ru 1 rfl ?_
     refine JL.nil ?_
     refine J.block ?_
     refine J.loop (fun t_ S_ h_ L_ => ∃ (g : Part) (j w : Nat) (qs : List UInt32), t_ = j + 1 ∧ S_ = [(1, .slice a9 B.length c9), (7, .int .u64 s), (8, .slice (some ⟨ub, 0, none⟩) (A.length + 1) (A.length + 1)), (9, .slice (some ⟨vb, 0, none⟩) B.length (B.length + 1)), (10, .slice (some ⟨bq, 0, none⟩) M M), (11, .int .i64 ((j : Int) - 1))] ∧ g = h_ ∧ L_ = [.row (some ⟨bq, 0, none⟩) M 103 1 M (ws .u32 qs), .row (some ⟨ub, 0, none⟩) (A.length + 1) 103 1 (A.length + 1) (ws .u32 (digN (A.length + 1) w))] ∧ (h.le g ∧ SlR u32R 1 g (some ⟨vb, 0, none⟩) (B.length + 1) (digN B.length (Y * 2 ^ s)) ∧ j ≤ M ∧ qs.length = M ∧ w = X * 2 ^ s % (Y * 2 ^ s * 4294967296 ^ j) ∧ vL qs = X * 2 ^ s / (Y * 2 ^ s * 4294967296 ^ j) * 4294967296 ^ j)) ⟨_, _, ?_, ⟨_, M, X * 2 ^ s, _, rfl, rfl, rfl, rfl, ⟨hh0, hV9, Nat.le_refl _, digN_len _ _, by rw [Nat.mod_eq_of_lt hXU], by rw [vL_digN, Nat.div_eq_of_lt hXU]; simp⟩⟩⟩ ?_
     ·
      repeat (first | exact trivial | refine ⟨rfl, ?_⟩ | refine ⟨(by exact some_int (by omega)), ?_⟩)
     rintro _ _ _ _ ⟨g, j, w, qs, rfl, rfl, rfl, rfl, hhg, hV9, hj, hql, hw0, hqv⟩
     refine J.seq ?_
     refine Sr ?_
     refine Ru 2 rfl ?_
     refine JL.nil ?_
     refine Cs rfl (fun hc19 => ?_) fun hc19 => ?_
     ·
      obtain ⟨i, rfl⟩ : ∃ i, j = i + 1 := ⟨j - 1, by omega⟩; have hwl : w < Y * 2 ^ s * 4294967296 ^ (i + 1) := (by rw [hw0]; exact Nat.mod_lt _ (Nat.mul_pos hV0 (Nat.pow_pos (by decide)))); obtain ⟨s1, s2⟩ := q_step (U := X * 2 ^ s) (k := i) hV0; rw [← hw0] at s1 s2; have htq := dq_lt hwl; obtain ⟨t, ht⟩ : ∃ t, t = w / (Y * 2 ^ s * 4294967296 ^ i) := ⟨_, rfl⟩; rw [← ht] at s2 htq; have hz : d32 qs i = 0 := (by rw [← vL_digit, hqv, Nat.pow_succ, Nat.mul_comm (4294967296 ^ i), ← Nat.mul_assoc, Nat.mul_div_cancel _ (Nat.pow_pos (by decide))]; exact Nat.mul_mod_left _ _); have hp := vL_put qs i t (by omega); rw [hz, Nat.div_eq_of_lt htq] at hp
      refine J.skip ?_
      refine J.seq ?_
      refine J.block ?_
      refine Rg ?_
      refine Ru 7 rfl ?_
      refine JL.op ai_ rfl ?_
      refine JL.op ai_ rfl ?_
      refine JL.op (RunV.window sl_30 (k := i) (m := i + B.length + 1) rfl rfl rfl (by omega) (by omega) (by omega) (by omega) (by omega)) rfl ?_
      rw [show i + B.length + 1 - i = B.length + 1 by omega]
      refine Ru 1 rfl ?_
      refine JL.call ca_123 rfl (natstep_fn' (N := A.length + 1) (w := w) (k := i) hV9 (by rw [digN_len]) hB2 (by rw [hvV]; omega) (by rw [hvV]; exact hwl) (by omega) (by omega)) pt_ rfl ?_
      rintro _ h20 Lo20 hle20 ⟨rfl, rfl⟩
      replace hhg := hhg.mono hle20
      replace hV9 := hV9.mono hle20
      rw [hvV, ← ht]
      refine JL.op (RunV.index_at sl_30 (m := i) rfl rfl (by omega) (by omega)) rfl ?_
      refine JL.storeW t ag_103 rfl rfl (by rw [Nat.mod_eq_of_lt htq]) dl_ (by omega) ?_
      refine JL.nil ?_
      refine Rg ?_
      refine Ru 1 rfl ?_
      refine JL.op si_ rfl ?_
      refine Ru 1 rfl ?_
      refine JL.nil ?_
      refine ⟨_, ?_, _, ?_, ⟨_, i, _, _, rfl, rfl, rfl, rfl, ⟨hhg, hV9, by omega, by rw [List.length_set]; exact hql, s1, by rw [s2, Nat.add_mul, Nat.mul_assoc, Nat.mul_comm 4294967296, ← Nat.pow_succ, ← hqv]; omega⟩⟩⟩
      ·
       omega
      ·
       repeat (first | exact trivial | refine ⟨rfl, ?_⟩ | refine ⟨(by exact some_int (by omega)), ?_⟩)
     ·
      have hj0 : j = 0 := (by omega); subst hj0; rw [Nat.pow_zero, Nat.mul_one] at hw0 hqv; rw [Nat.mul_one, Nat.mul_div_mul_right _ _ (Nat.two_pow_pos s)] at hqv; rw [Nat.mul_mod_mul_right] at hw0; have hR0 : w / 2 ^ s = dr X Y := (by rw [hw0, dr, if_neg (by omega)]; exact Nat.mul_div_cancel _ (Nat.two_pow_pos s)); have hRl : dr X Y < 4294967296 ^ B.length := (by rw [dr, if_neg (by omega)]; exact Nat.lt_trans (Nat.mod_lt _ hY0) hYlt)
      refine J.exit ?_
      refine Kp [1, 7, 8, 10] rfl ?_
      refine Sr ?_
      refine Ru 2 rfl ?_
      refine JL.make1 mk_30 rfl rfl (m := B.length) (by omega) (by omega) (by omega) rfl rfl (fun br => ?_); rw [ws_zero]
      refine Ru 1 rfl ?_
      refine JL.nil ?_
      refine J.seq ?_
      refine Sr ?_
      refine Ru 3 rfl ?_
      refine Nk [94, 93, 12, 7, 8, 10] rfl ?_
      refine J.block ?_
      refine J.loop (fun t_ S_ h_ L_ => ∃ (i : Nat) (out : List UInt32), t_ = B.length - i ∧ S_ = [(7, .int .u64 s), (8, .slice (some ⟨ub, 0, none⟩) (A.length + 1) (A.length + 1)), (10, .slice (some ⟨bq, 0, none⟩) M M), (12, .slice (some ⟨br, 0, none⟩) B.length B.length), (93, .int .i64 B.length), (94, .int .i64 i)] ∧ g = h_ ∧ L_ = [.row (some ⟨br, 0, none⟩) B.length 103 1 B.length (ws .u32 out), .row (some ⟨bq, 0, none⟩) M 103 1 M (ws .u32 qs), .row (some ⟨ub, 0, none⟩) (A.length + 1) 103 1 (A.length + 1) (ws .u32 (digN (A.length + 1) w))] ∧ (i ≤ B.length ∧ out.length = B.length ∧ vL out = dr X Y % 4294967296 ^ i)) ⟨_, _, ?_, ⟨0, _, rfl, rfl, rfl, rfl, ⟨by omega, digN_len _ _, by rw [vL_digN]; simp [Nat.mod_one]⟩⟩⟩ ?_
      ·
       repeat (first | exact trivial | refine ⟨rfl, ?_⟩)
      rintro _ _ _ _ ⟨i, out, rfl, rfl, rfl, rfl, hi, hol, hov⟩
      refine Sr ?_
      refine Ru 1 rfl ?_
      refine JL.nil ?_
      refine J.seq ?_
      refine Cs rfl (fun hc23 => ?_) fun hc23 => ?_
      ·
       have hi' : i < B.length := (by omega); have hu1 := digN_at (A.length + 1) w (i + 1) (by omega); have hu0 := digN_at (A.length + 1) w i (by omega); have rd := r_digit (w := w) (i := i) s31; rw [hR0] at rd; obtain ⟨d1, hd1⟩ : ∃ d, d = w / 4294967296 ^ (i + 1) % 4294967296 := ⟨_, rfl⟩; obtain ⟨d0', hd0'⟩ : ∃ d, d = w / 4294967296 ^ i % 4294967296 := ⟨_, rfl⟩; rw [← hd1] at hu1 rd; rw [← hd0'] at hu0 rd; have hb1 : d1 < 4294967296 := (by omega); have hb2 : d0' < 4294967296 := (by omega); have hzo : d32 out i = 0 := vL_zero_above (m := i) (by rw [hov]; exact Nat.mod_lt _ (Nat.pow_pos (by decide))) i (Nat.le_refl _); have hp := vL_put out i (dr X Y / 4294967296 ^ i % 4294967296) (by omega); rw [hzo, Nat.div_eq_of_lt (show dr X Y / 4294967296 ^ i % 4294967296 < 4294967296 by omega)] at hp; obtain ⟨y, hy⟩ : ∃ y, y = d1 * 4294967296 + d0' := ⟨_, rfl⟩; rw [← hy] at rd
       refine J.skip ?_
       refine J.seq ?_
       refine J.block ?_
       refine Sr ?_
       refine Ru 2 rfl ?_
       refine JL.nil ?_
       refine J.held ([.row (some ⟨ub, 0, none⟩) (A.length + 1) 103 1 (A.length + 1) (ws .u32 (digN (A.length + 1) w))]) 20 mixed_ rfl (fun h00 => ?_)
       refine JH.take 0 rfl (by kernel_rfl) (by kernel_rfl) (by kernel_rfl) (fun _ _ _ _ hh => hh) (br_ h00) (RunV.move rfl) rfl ?_
       refine JH.take 1 rfl (by kernel_rfl) (by kernel_rfl) (by kernel_rfl) (fun _ _ _ _ hh => hh) (br_ h00) (RunV.move rfl) rfl ?_
       refine JH.take 2 rfl (by kernel_rfl) (by kernel_rfl) (by kernel_rfl) (fun _ _ _ _ hh => hh) (br_ h00) (RunV.move rfl) rfl ?_
       refine JH.take 3 rfl (by kernel_rfl) (by kernel_rfl) (by kernel_rfl) (fun _ _ _ _ hh => hh) (br_ h00) (RunV.move rfl) rfl ?_
       refine JH.take 4 rfl (by kernel_rfl) (by kernel_rfl) (by kernel_rfl) (fun _ _ _ _ hh => hh) (br_ h00) ai_ rfl ?_
       refine JH.take 5 rfl (by kernel_rfl) (by kernel_rfl) (by kernel_rfl) (fun _ _ _ _ hh => hh) (br_ h00) (RunV.index_at sl_30 (m := i + 1) rfl rfl (by omega) (by omega)) rfl ?_
       refine JH.take 6 rfl (by kernel_rfl) (by kernel_rfl) (by kernel_rfl) (fun _ _ _ _ hh => hh) (br_ h00) (RunV.wload ag_103 rfl mm_ (by rw [digN_len]; omega)) rfl ?_
       rw [hu1]
       refine JH.take 7 rfl (by kernel_rfl) (by kernel_rfl) (by kernel_rfl) (fun _ _ _ _ hh => hh) (br_ h00) (by first | exact RunV.conv_u64 cv_103_63 rfl (by omega) (by omega) | exact RunV.convw_u64 cv_103_63 rfl | exact RunV.conv cv_103_63 rfl) rfl ?_
       refine JH.take 8 rfl (by kernel_rfl) (by kernel_rfl) (by kernel_rfl) (fun _ _ _ _ hh => hh) (br_ h00) (RunV.shl_u64 4294967296 rfl rfl (by decide) (by decide) (by decide) (by omega) (by omega)) rfl ?_
       refine JH.take 9 rfl (by kernel_rfl) (by kernel_rfl) (by kernel_rfl) (fun _ _ _ _ hh => hh) (br_ h00) (RunV.move rfl) rfl ?_
       refine JH.take 10 rfl (by kernel_rfl) (by kernel_rfl) (by kernel_rfl) (fun _ _ _ _ hh => hh) (br_ h00) (RunV.move rfl) rfl ?_
       refine JH.take 11 rfl (by kernel_rfl) (by kernel_rfl) (by kernel_rfl) (fun _ _ _ _ hh => hh) (br_ h00) (RunV.index_at sl_30 (m := i) rfl rfl (by omega) (by omega)) rfl ?_
       refine JH.take 12 rfl (by kernel_rfl) (by kernel_rfl) (by kernel_rfl) (fun _ _ _ _ hh => hh) (br_ h00) (RunV.wload ag_103 rfl mm_ (by rw [digN_len]; omega)) rfl ?_
       rw [hu0]
       refine JH.take 13 rfl (by kernel_rfl) (by kernel_rfl) (by kernel_rfl) (fun _ _ _ _ hh => hh) (br_ h00) (by first | exact RunV.conv_u64 cv_103_63 rfl (by omega) (by omega) | exact RunV.convw_u64 cv_103_63 rfl | exact RunV.conv cv_103_63 rfl) rfl ?_
       refine JH.take 14 rfl (by kernel_rfl) (by kernel_rfl) (by kernel_rfl) (fun _ _ _ _ hh => hh) (br_ h00) (RunV.join_u64 32 4294967296 rfl rfl (by decide) (by omega) (by omega) (by omega) (by omega) (by omega) (by omega)) rfl ?_
       rw [show (d1 : Int) * 4294967296 + (d0' : Int) = (y : Int) by omega]
       refine JH.take 15 rfl (by kernel_rfl) (by kernel_rfl) (by kernel_rfl) (fun _ _ _ _ hh => hh) (br_ h00) (RunV.move rfl) rfl ?_
       refine JH.take 16 rfl (by kernel_rfl) (by kernel_rfl) (by kernel_rfl) (fun _ _ _ _ hh => hh) (br_ h00) (RunV.shr_u64 ((2 ^ s : Nat) : Int) rfl rfl (by omega) (by omega) (by rw [Int.toNat_natCast, Int.natCast_pow]; rfl)) rfl ?_
       refine JH.take 17 rfl (by kernel_rfl) (by kernel_rfl) (by kernel_rfl) (fun _ _ _ _ hh => hh) (br_ h00) (RunV.toW (y / 2 ^ s) cv_63_103 rfl (by rw [Int.natCast_ediv])) rfl ?_
       refine JH.take 18 rfl (by kernel_rfl) (by kernel_rfl) (by kernel_rfl) (fun _ _ _ _ hh => hh) (br_ h00) (RunV.index_at sl_30 (m := i) rfl rfl (by omega) (by omega)) rfl ?_
       refine JH.all1 19 (by kernel_rfl) rfl ?_
       unfold One
       refine JL.storeW (dr X Y / 4294967296 ^ i % 4294967296) ag_103 rfl rfl (by rw [rd, Nat.mod_mod]) dl_ (by omega) ?_
       refine JL.nil ⟨(br_ h00), ?_⟩
       refine JH.done (by kernel_rfl) ?_
       refine Rg ?_
       refine JL.op ai_ rfl ?_
       refine Ru 1 rfl ?_
       refine JL.nil ?_
       refine ⟨_, ?_, _, ?_, ⟨i + 1, _, rfl, rfl, rfl, rfl, ⟨by omega, by rw [List.length_set]; exact hol, by rw [Nat.mod_pow_succ, Nat.mul_comm (4294967296 ^ i), ← hov]; omega⟩⟩⟩
       ·
        omega
       ·
        repeat (first | exact trivial | refine ⟨rfl, ?_⟩)
      ·
       have hie : i = B.length := (by omega); rw [hie, Nat.mod_eq_of_lt hRl] at hov
       refine J.exit ?_
       refine Kp [10, 12] rfl ?_
       refine Sr ?_
       refine JL.pub32 (a := some ⟨bq, 0, none⟩) (l := qs) dl_ hql.symm (by omega) (fun hp hlep hPq => ?_); replace hhg := hhg.mono hlep; replace hV9 := hV9.mono hlep; refine JL.pub32 (a := some ⟨br, 0, none⟩) (l := out) dl_ hol.symm (by omega) (fun hp2 hlep2 hPr => ?_); replace hhg := hhg.mono hlep2; replace hV9 := hV9.mono hlep2; replace hPq := hPq.mono hlep2
       refine Ru 1 rfl ?_
       refine JL.callR ca_59 rfl (nattrim_fn' hPq hql.symm (by omega)) rfl ?_
       rintro _ h25 hle25 ⟨qa, qc, rfl, hQ⟩
       replace hhg := hhg.mono hle25
       replace hV9 := hV9.mono hle25
       replace hPq := hPq.mono hle25
       replace hPr := hPr.mono hle25
       refine Ru 1 rfl ?_
       refine JL.callR ca_59 rfl (nattrim_fn' hPr hol.symm (by omega)) rfl ?_
       rintro _ h26 hle26 ⟨ra, rc, rfl, hR⟩
       replace hhg := hhg.mono hle26
       replace hV9 := hV9.mono hle26
       replace hPq := hPq.mono hle26
       replace hPr := hPr.mono hle26
       replace hQ := hQ.mono hle26
       refine Ru 3 rfl ?_
       refine Nk [6, 5, 4] rfl ?_
       rw [hqv] at hQ ⊢; rw [hov] at hR ⊢; rw [if_neg (by omega)]; exact J.retR (RetV.three rfl rfl rfl rfl) ⟨_, _, _, _, rfl, hQ, hR⟩
end Go.Proofs.YtmngjbefnloljaaGreatDoor
set_option linter.unusedSimpArgs false
set_option linter.unusedVariables false
set_option linter.constructorNameAsVariable false
namespace Go.Proofs.YtmngjbefnloljaaGreatDoor
open Go Go.RowKit
set_option maxRecDepth 100000
theorem ca_86 : callT Tryz.prog 86 = true := by kernel_rfl
theorem ca_88 : callT Tryz.prog 88 = true := by kernel_rfl
theorem bl_len' (l : List UInt32) : bl (vL l) ≤ 32 * l.length := by
  have := vL_lt l
  rw [pow32] at this
  exact bl_le _ _ this
def powV (X E N : Nat) : Nat := if N = 0 then 0 else X ^ E % N
theorem bit_at (m : List UInt32) (i : Nat) : d32 m (i / 32) / 2 ^ (i % 32) % 2 = vL m / 2 ^ i % 2 := by
  rw [← vL_digit]
  have e : vL m / 2 ^ i = vL m / 4294967296 ^ (i / 32) / 2 ^ (i % 32) := by
    rw [Nat.div_div_eq_div_mul, pow32, ← Nat.pow_add]; congr 2; omega
  rw [e]
  generalize vL m / 4294967296 ^ (i / 32) = y
  have hr : i % 32 < 32 := Nat.mod_lt _ (by decide)
  generalize i % 32 = r at *
  have e1 : 2 ^ r * (2 * 2 ^ (31 - r)) = 4294967296 := by rw [← Nat.pow_succ', ← Nat.pow_add, show r + (31 - r).succ = 32 by omega]
  have hp : 0 < 2 ^ r := Nat.two_pow_pos r
  have e2 : y = y % 4294967296 + 2 ^ r * (2 * (2 ^ (31 - r) * (y / 4294967296))) := by
    have e3 : 2 ^ r * (2 * (2 ^ (31 - r) * (y / 4294967296))) = (2 ^ r * (2 * 2 ^ (31 - r))) * (y / 4294967296) := by grind
    rw [e3, e1]; omega
  conv => rhs; rw [e2]
  rw [Nat.add_mul_div_left _ _ hp, Nat.add_mul_mod_self_left]
theorem half_bit (E i : Nat) : E / 2 ^ i = 2 * (E / 2 ^ (i + 1)) + E / 2 ^ i % 2 := by
  rw [Nat.pow_succ, ← Nat.div_div_eq_div_mul]; omega
theorem pow_sq (X E N i : Nat) : (X ^ (E / 2 ^ (i + 1)) % N) * (X ^ (E / 2 ^ (i + 1)) % N) % N = X ^ (2 * (E / 2 ^ (i + 1))) % N := by
  rw [← Nat.mul_mod, ← Nat.pow_add, Nat.two_mul]
theorem pow_one (X Z N : Nat) : (X ^ Z % N) * (X % N) % N = X ^ (Z + 1) % N := by
  rw [← Nat.mul_mod, ← Nat.pow_succ]
theorem toL_le {v : Nat} {r : List UInt32} (h : v < vL r) : (toL v).length ≤ r.length := by
  rw [toL_len]; exact nd_le _ _ (Nat.lt_trans h (vL_lt r))
theorem mul_len {r : List UInt32} {x y N : Nat} (h0 : 0 < vL r) (hx : x < vL r) (hy : y < vL r) (hr : r.length ≤ N) : (toL (x * y)).length ≤ N + N := by
  rw [toL_len]
  exact Nat.le_trans (nd_le _ _ (mul_bound (Nat.lt_trans hx (vL_lt r)) (Nat.lt_trans hy (vL_lt r)))) (by omega)
theorem natpow_fn {a b d : Option Addr} {ca cb cd : Nat} {l m r : List UInt32} {h : Part} (hl : SlR u32R 1 h a ca l) (hm : SlR u32R 1 h b cb m) (hr : SlR u32R 1 h d cd r) (hlb : l.length ≤ 100000) (hmb : m.length ≤ 100000) (hrb : r.length ≤ 100000) : FnR Tryz.prog 41 [.slice a l.length ca, .slice b m.length cb, .slice d r.length cd] h
    (fun v h' => ∃ a1 c1, v = .tuple #[.slice a1 (toL (powV (vL l) (vL m) (vL r))).length c1, .int .i64 (if vL r = 0 then 10 else 0)] ∧ SlR u32R 1 h' a1 c1 (toL (powV (vL l) (vL m) (vL r)))) := by
  have hbl := bl_len' m
  have v1 : vL (toL 1) = 1 := vL_toL 1
  have l1 : (toL 1).length = 1 := by kernel_rfl
  refine Fn.intro Tryz.func41 rfl Tryz.ntmps41 rfl (fun e he => ?_)
  refine J.weak [(0, _), (1, _), (2, _)] ⟨rfl, rfl, rfl, trivial⟩ ?_
  have hh0 := Part.le.refl h
  refine Sr ?_
  refine Ru 2 rfl ?_
  refine JL.nil ?_
  refine Sr ?_
  refine Ru 2 rfl ?_
  refine JL.callR ca_86 rfl (natdiv_fn hl hr (by omega) (by omega)) rfl ?_
  rintro _ h1 hle1 ⟨qa, qc, xa, xc, rfl, hQ, hX⟩
  replace hl := hl.mono hle1
  replace hm := hm.mono hle1
  replace hr := hr.mono hle1
  replace hh0 := hh0.mono hle1
  refine Ru 7 rfl ?_
  refine Nk [10, 9, 7, 6, 1, 2] rfl ?_
  refine J.seq ?_
  refine Sr ?_
  refine Ru 2 rfl ?_
  refine JL.nil ?_
  refine Cs rfl (fun hc2 => ?_) fun hc2 => ?_
  ·
   have hN0 : vL r = 0 := (by by_cases hz : vL r = 0; exact hz; rw [if_neg hz] at hc2; exact absurd rfl hc2); have hp : toL (powV (vL l) (vL m) (vL r)) = [] := (by rw [powV, if_pos hN0]; rfl)
   refine Sr ?_
   refine Ru 3 rfl ?_
   refine Nk [7, 6, 9, 1, 2] rfl ?_
   rw [hp]; exact J.retR (RetV.two rfl rfl rfl) ⟨none, 0, rfl, SlR.nil_⟩
  ·
   have hN0 : 0 < vL r := (by by_cases hz : vL r = 0; (rw [if_pos hz] at hc2; exact absurd hc2 (by decide)); omega); have hdr : ∀ z, dr z (vL r) = z % vL r := (fun z => if_neg (by omega)); rw [hdr] at hX ⊢
   refine J.skip ?_
   refine Sr ?_
   refine JL.callR ca_87 rfl (natOf_fn (n := 1) (by decide)) rfl ?_
   rintro _ h3 hle3 ⟨oa, oc, rfl, hO1⟩
   replace hl := hl.mono hle3
   replace hm := hm.mono hle3
   replace hr := hr.mono hle3
   replace hh0 := hh0.mono hle3
   replace hX := hX.mono hle3
   refine Ru 1 rfl ?_
   refine JL.callR ca_86 rfl (natdiv_fn hO1 hr (by omega) (by omega)) rfl ?_
   rintro _ h4 hle4 ⟨qa2, qc2, ya, yc, rfl, hQ2, hY⟩
   replace hl := hl.mono hle4
   replace hm := hm.mono hle4
   replace hr := hr.mono hle4
   replace hh0 := hh0.mono hle4
   replace hX := hX.mono hle4
   replace hO1 := hO1.mono hle4
   rw [v1, hdr] at hY ⊢
   refine Ru 7 rfl ?_
   refine Nk [12, 9, 7, 6, 1, 2] rfl ?_
   refine J.seq ?_
   refine Sr ?_
   refine Ru 1 rfl ?_
   refine JL.callP ca_40 rfl (natbits_fn (by assumption)) rfl ?_
   rw [nbits_vL]
   refine JL.op si_ rfl ?_
   refine Ru 1 rfl ?_
   refine JL.nil ?_
   refine J.block ?_
   refine J.loop (fun t_ S_ h_ L_ => ∃ (g : Part) (j : Nat) (O : List UInt32) (oa2 : Option Addr) (oc2 : Nat), t_ = j + 1 ∧ S_ = [(1, .slice b m.length cb), (2, .slice d r.length cd), (9, .slice xa (toL (vL l % vL r)).length xc), (12, .slice oa2 O.length oc2), (14, .int .i64 ((j : Int) - 1))] ∧ g = h_ ∧ L_ = [] ∧ (h.le g ∧ SlR u32R 1 g b cb m ∧ SlR u32R 1 g d cd r ∧ SlR u32R 1 g xa xc (toL (vL l % vL r)) ∧ SlR u32R 1 g oa2 oc2 O ∧ j ≤ bl (vL m) ∧ O = toL (vL l ^ (vL m / 2 ^ j) % vL r))) ⟨_, _, ?_, ⟨_, bl (vL m), _, ya, yc, rfl, rfl, rfl, rfl, ⟨hh0, hm, hr, hX, hY, Nat.le_refl _, by rw [Nat.div_eq_of_lt (lt_bl (vL m)), Nat.pow_zero]⟩⟩⟩ ?_
   ·
    repeat (first | exact trivial | refine ⟨rfl, ?_⟩ | refine ⟨(by exact some_int (by omega)), ?_⟩)
   rintro _ _ _ _ ⟨g, j, O, oa2, oc2, rfl, rfl, rfl, rfl, hhg, hm, hr, hX, hO, hj, hOe⟩
   refine J.seq ?_
   refine Sr ?_
   refine Ru 2 rfl ?_
   refine JL.nil ?_
   refine Cs rfl (fun hc6 => ?_) fun hc6 => ?_
   ·
    obtain ⟨i, rfl⟩ : ∃ i, j = i + 1 := ⟨j - 1, by omega⟩; subst hOe; obtain ⟨Z, hZ⟩ : ∃ Z, Z = vL m / 2 ^ (i + 1) := ⟨_, rfl⟩; have hsq := pow_sq (vL l) (vL m) (vL r) i; have hhb := half_bit (vL m) i; have hba := bit_at m i; obtain ⟨bq, hbq⟩ : ∃ bq, bq = d32 m (i / 32) / 2 ^ (i % 32) := ⟨_, rfl⟩; have hbq2 : bq ≤ d32 m (i / 32) := (by rw [hbq]; exact Nat.div_le_self _ _); rw [← hbq] at hba; rw [← hZ] at hO hsq hhb; rw [← hZ]; have hlen1 := toL_le (r := r) (Nat.mod_lt (vL l ^ Z) hN0); have hlen2 := toL_le (r := r) (Nat.mod_lt (vL l) hN0); have hlen3 := toL_le (r := r) (Nat.mod_lt (vL l ^ (2 * Z)) hN0)
    refine J.skip ?_
    refine J.seq ?_
    refine J.block ?_
    refine Sr ?_
    refine Ru 2 rfl ?_
    refine JL.callR ca_88 rfl (natmul_fn hO hO (by omega) (by omega)) rfl ?_
    rintro _ h7 hle7 ⟨pa, pc, rfl, hP⟩
    replace hhg := hhg.mono hle7
    replace hm := hm.mono hle7
    replace hr := hr.mono hle7
    replace hX := hX.mono hle7
    replace hO := hO.mono hle7
    rw [vL_toL] at hP ⊢; have hlenP : (toL (vL l ^ Z % vL r * (vL l ^ Z % vL r))).length ≤ 200000 := (mul_len hN0 (Nat.mod_lt _ hN0) (Nat.mod_lt _ hN0) hrb)
    refine Ru 1 rfl ?_
    refine JL.callR ca_86 rfl (natdiv_fn hP hr (by omega) (by omega)) rfl ?_
    rintro _ h8 hle8 ⟨qa3, qc3, sa, sc, rfl, hQ3, hS⟩
    replace hhg := hhg.mono hle8
    replace hm := hm.mono hle8
    replace hr := hr.mono hle8
    replace hX := hX.mono hle8
    replace hO := hO.mono hle8
    replace hP := hP.mono hle8
    rw [vL_toL, hdr, hsq] at hS ⊢
    refine Ru 5 rfl ?_
    refine JL.nil ?_
    refine Sr ?_
    refine Ru 2 rfl ?_
    refine JL.op (by first | exact RunV.quo_i64 rfl rfl (by omega) (by omega) (by omega) | exact RunV.quo rfl rfl (by omega)) rfl ?_
    refine JL.ope (RunE.index (m := i / 32) sl_30 rfl rfl (by omega) hm rfl (by omega)) rfl ?_
    rintro _ ⟨b9, o9, hi9, rfl, hE9⟩
    refine JL.op (RunV.ld_u32 ag_103 rfl (by assumption)) rfl ?_
    rw [d32_at]; have bi32 := d32_lt m (i / 32)
    refine Ru 1 rfl ?_
    refine JL.op (by first | exact RunV.rem_i64 rfl rfl (by omega) (by omega) | exact RunV.rem rfl rfl (by omega)) rfl ?_
    refine JL.op (RunV.shr_u32 ((2 ^ (i % 32) : Nat) : Int) rfl rfl (by omega) (by omega) (by rw [show ((((i + 1 : Nat) : Int) - 1) % 32).toNat = i % 32 by omega, Int.natCast_pow]; rfl)) rfl ?_
    rw [show ((d32 m (i / 32) : Nat) : Int) / ((2 ^ (i % 32) : Nat) : Int) = ((d32 m (i / 32) / 2 ^ (i % 32) : Nat) : Int) from rfl, ← hbq]
    refine JL.op (RunV.mask_u32 1 2 rfl rfl (by decide) (by decide) (by decide) (by omega) (by omega)) rfl ?_
    refine Ru 1 rfl ?_
    refine JL.nil ?_
    refine Cs rfl (fun hc11 => ?_) fun hc11 => ?_
    ·
     have hbit : vL m / 2 ^ i = 2 * Z + 1 := (by omega); have hp1 := pow_one (vL l) (2 * Z) (vL r)
     refine Rg ?_
     refine Ru 2 rfl ?_
     refine JL.callR ca_88 rfl (natmul_fn hS hX (by omega) (by omega)) rfl ?_
     rintro _ h12 hle12 ⟨pa4, pc4, rfl, hP4⟩
     replace hhg := hhg.mono hle12
     replace hm := hm.mono hle12
     replace hr := hr.mono hle12
     replace hX := hX.mono hle12
     replace hO := hO.mono hle12
     replace hP := hP.mono hle12
     replace hS := hS.mono hle12
     rw [vL_toL, vL_toL] at hP4 ⊢; have hlenP4 : (toL (vL l ^ (2 * Z) % vL r * (vL l % vL r))).length ≤ 200000 := (mul_len hN0 (Nat.mod_lt _ hN0) (Nat.mod_lt _ hN0) hrb)
     refine Ru 1 rfl ?_
     refine JL.callR ca_86 rfl (natdiv_fn hP4 hr (by omega) (by omega)) rfl ?_
     rintro _ h13 hle13 ⟨qa5, qc5, ta, tc, rfl, hQ5, hT⟩
     replace hhg := hhg.mono hle13
     replace hm := hm.mono hle13
     replace hr := hr.mono hle13
     replace hX := hX.mono hle13
     replace hO := hO.mono hle13
     replace hP := hP.mono hle13
     replace hS := hS.mono hle13
     replace hP4 := hP4.mono hle13
     rw [vL_toL, hdr, hp1, ← hbit] at hT ⊢
     refine Ru 5 rfl ?_
     refine Nk [12, 65, 58, 63, 62, 61, 60, 59, 57, 56, 55, 54, 53, 52, 51, 50, 49, 48, 46, 39, 44, 43, 42, 41, 40, 36, 35, 1, 2, 9, 14] rfl ?_
     refine Rg ?_
     refine Ru 1 rfl ?_
     refine JL.op si_ rfl ?_
     refine Ru 1 rfl ?_
     refine JL.nil ?_
     refine ⟨_, ?_, _, ?_, ⟨_, i, _, ta, tc, rfl, rfl, rfl, rfl, ⟨hhg, hm, hr, hX, hT, by omega, rfl⟩⟩⟩
     ·
      omega
     ·
      repeat (first | exact trivial | refine ⟨rfl, ?_⟩ | refine ⟨(by exact some_int (by omega)), ?_⟩)
    ·
     have hbit : vL m / 2 ^ i = 2 * Z := (by omega); rw [← hbit] at hS ⊢
     refine J.skip ?_
     refine Kp [57, 56, 55, 54, 53, 52, 51, 50, 49, 48, 12, 46, 39, 44, 43, 42, 41, 40, 36, 35, 1, 2, 9, 14] rfl ?_
     refine Rg ?_
     refine Ru 1 rfl ?_
     refine JL.op si_ rfl ?_
     refine Ru 1 rfl ?_
     refine JL.nil ?_
     refine ⟨_, ?_, _, ?_, ⟨_, i, _, sa, sc, rfl, rfl, rfl, rfl, ⟨hhg, hm, hr, hX, hS, by omega, rfl⟩⟩⟩
     ·
      omega
     ·
      repeat (first | exact trivial | refine ⟨rfl, ?_⟩ | refine ⟨(by exact some_int (by omega)), ?_⟩)
   ·
    have hj0 : j = 0 := (by omega); subst hj0; subst hOe; rw [Nat.pow_zero, Nat.div_one] at hO ⊢; have hpv : powV (vL l) (vL m) (vL r) = vL l ^ vL m % vL r := if_neg (by omega)
    refine J.exit ?_
    refine Kp [12] rfl ?_
    refine Sr ?_
    refine Ru 3 rfl ?_
    refine JL.nil ?_
    rw [hpv, if_neg (by omega)]; exact J.retR (RetV.two rfl rfl rfl) ⟨_, _, rfl, hO⟩
end Go.Proofs.YtmngjbefnloljaaGreatDoor
set_option linter.unusedSimpArgs false
set_option linter.unusedVariables false
set_option linter.constructorNameAsVariable false
namespace Go.Proofs.YtmngjbefnloljaaGreatDoor
open Go Go.RowKit
end Go.Proofs.YtmngjbefnloljaaGreatDoor
set_option linter.unusedSimpArgs false
set_option linter.unusedVariables false
set_option linter.constructorNameAsVariable false
namespace Go.Proofs.YtmngjbefnloljaaGreatDoor
open Go Go.RowKit
set_option maxRecDepth 100000
end Go.Proofs.YtmngjbefnloljaaGreatDoor
set_option linter.unusedSimpArgs false
set_option linter.unusedVariables false
set_option linter.constructorNameAsVariable false
namespace Go.Proofs.YtmngjbefnloljaaGreatDoor
open Go Go.RowKit
set_option maxRecDepth 100000
def atOk (y m d hh mi s : Int) : Prop := 0 ≤ y ∧ y ≤ 9999 ∧ 1 ≤ m ∧ m ≤ 12 ∧ 1 ≤ d ∧ d ≤ monthI y m ∧ 0 ≤ hh ∧ hh ≤ 23 ∧ 0 ≤ mi ∧ mi ≤ 59 ∧ 0 ≤ s ∧ s ≤ 59
instance (y m d hh mi s : Int) : Decidable (atOk y m d hh mi s) := by unfold atOk; infer_instance
end Go.Proofs.YtmngjbefnloljaaGreatDoor
set_option linter.unusedSimpArgs false
set_option linter.unusedVariables false
set_option linter.constructorNameAsVariable false
namespace Go.Proofs.YtmngjbefnloljaaGreatDoor
open Go Go.RowKit
end Go.Proofs.YtmngjbefnloljaaGreatDoor
set_option linter.unusedSimpArgs false
set_option linter.unusedVariables false
set_option linter.constructorNameAsVariable false
namespace Go.Proofs.YtmngjbefnloljaaGreatDoor
open Go Go.RowKit
set_option maxRecDepth 100000
end Go.Proofs.YtmngjbefnloljaaGreatDoor
set_option linter.unusedSimpArgs false
set_option linter.unusedVariables false
set_option linter.constructorNameAsVariable false
namespace Go.Proofs.YtmngjbefnloljaaGreatDoor
open Go Go.RowKit
set_option maxRecDepth 100000
theorem mk_66 : mkT Tryz.prog 66 = some (63, .int .u64 0, 8) := by kernel_rfl
theorem number32_fn {a : Option Addr} {c n : Nat} {l : List UInt32} {h : Part} (hl : SlR u64R 1 h a c (l.map m64)) (hn : n = l.length) (hlen : l.length ≤ 1000000) : FnR Tryz.prog 58 [.slice a n c] h (fun v h' => ∃ a' c', v = .slice a' (toL (vL l)).length c' ∧ SlR u32R 1 h' a' c' (toL (vL l))) := by
  have hml : (l.map m64).length = l.length := List.length_map ..
  have := number_fn hl (fun i => by rw [d64_map]; exact d32_lt l i) (by omega)
  rw [hml, ← hn, cutZ_map, map_n32] at this
  exact this
end Go.Proofs.YtmngjbefnloljaaGreatDoor
set_option linter.unusedSimpArgs false
set_option linter.unusedVariables false
set_option linter.constructorNameAsVariable false
namespace Go.Proofs.YtmngjbefnloljaaGreatDoor
open Go Go.RowKit
set_option maxRecDepth 100000
theorem ca_89 : callT Tryz.prog 89 = true := by kernel_rfl
theorem digs_eq (l : List UInt32) : digsB l = (toL (vL l)).map m64 := cutZ_map l
theorem rdigs_fn {a : Option Addr} {c : Nat} {l : List UInt32} {h : Part} (hl : SlR u32R 1 h a c l) (hlen : l.length ≤ 1000000) : FnR Tryz.prog 56 [.slice a l.length c] h (fun v h' => ∃ a' c', v = .slice a' (toL (vL l)).length c' ∧ SlR u64R 1 h' a' c' ((toL (vL l)).map m64)) := by
  have := digits32_fn hl hlen
  rw [digs_eq, List.length_map] at this
  exact this
theorem rcut_fn {a : Option Addr} {c n : Nat} {l : List UInt32} {h : Part} (hl : SlR u64R 1 h a c (l.map m64)) (hn : n = l.length) : FnR Tryz.prog 97 [.slice a n c] h (fun v h' => ∃ a' c', v = .slice a' (toL (vL l)).length c' ∧ SlR u64R 1 h' a' c' ((toL (vL l)).map m64)) := by
  have := cut_fn hl
  rw [cutZ_map, List.length_map, List.length_map, ← hn] at this
  exact this
theorem d64_mat (l : List UInt32) (i : Nat) (h : i < (l.map m64).length) : (((l.map m64)[i]'h).toNat : Int) = d32 l i := by rw [d64_at, d64_map]
theorem rtimes_fn {a b : Option Addr} {ca cb : Nat} {A B : List UInt32} {h : Part} (hA : SlR u64R 1 h a ca (A.map m64)) (hB : SlR u64R 1 h b cb (B.map m64)) (hlb : A.length ≤ 200000) (hrb : B.length ≤ 200000) : FnR Tryz.prog 89 [.slice a A.length ca, .slice b B.length cb] h (fun v h' => ∃ a c, v = .slice a (toL (vL A * vL B)).length c ∧ SlR u64R 1 h' a c ((toL (vL A * vL B)).map m64)) := by
  have hAl : (A.map m64).length = A.length := List.length_map ..
  have hBl : (B.map m64).length = B.length := List.length_map ..
  refine Fn.intro Tryz.func89 rfl Tryz.ntmps89 rfl (fun e he => ?_)
  refine J.weak [(0, _), (1, _)] ⟨rfl, rfl, trivial⟩ ?_
  have hh0 := Part.le.refl h
  refine Sr ?_
  refine Ru 1 rfl ?_
  refine JL.nil ?_
  refine Sr ?_
  refine Ru 4 rfl ?_
  refine JL.op ai_ rfl ?_
  refine JL.op ai_ rfl ?_
  refine JL.make1 mk_66 rfl rfl (m := A.length + B.length + 1) (by omega) (by omega) (by omega) rfl rfl (fun b1 => ?_); rw [ws_zero]
  refine Ru 1 rfl ?_
  refine Nk [5, 4, 0, 1] rfl ?_
  refine J.seq ?_
  refine Sr ?_
  refine Ru 1 rfl ?_
  refine JL.nil ?_
  refine J.block ?_
  refine J.loop (fun t_ S_ h_ L_ => ∃ (i : Nat) (out : List UInt32), t_ = A.length - i ∧ S_ = [(0, .slice a A.length ca), (1, .slice b B.length cb), (5, .slice (some ⟨b1, 0, none⟩) (A.length + B.length + 1) (A.length + B.length + 1)), (6, .int .i64 i)] ∧ h = h_ ∧ L_ = [.row (some ⟨b1, 0, none⟩) (A.length + B.length + 1) 63 1 (A.length + B.length + 1) (ws .u64 out)] ∧ (i ≤ A.length ∧ out.length = A.length + B.length + 1 ∧ vL out = vL (A.take i) * vL B)) ⟨_, _, ?_, ⟨0, _, rfl, rfl, rfl, rfl, ⟨by omega, digN_len _ _, by rw [vL_digN]; simp [vL]⟩⟩⟩ ?_
  ·
   repeat (first | exact trivial | refine ⟨rfl, ?_⟩)
  rintro _ _ _ _ ⟨i, out, rfl, rfl, rfl, rfl, hi, hol, hv⟩
  refine J.seq ?_
  refine Sr ?_
  refine Ru 4 rfl ?_
  refine JL.nil ?_
  refine Cs rfl (fun hc2 => ?_) fun hc2 => ?_
  ·
   have hi' : i < A.length := (by omega); have hz := vL_zero_above (l := out) (m := i + B.length) (by rw [hv]; exact mul_bound (vL_take_lt A i) (vL_lt B)) (i + B.length) (Nat.le_refl _); have hai := d32_lt A i
   refine J.skip ?_
   refine J.seq ?_
   refine J.block ?_
   refine Sr ?_
   refine Ru 1 rfl ?_
   refine JL.nil ?_
   refine J.seq ?_
   refine Sr ?_
   refine Ru 1 rfl ?_
   refine JL.nil ?_
   refine J.block ?_
   refine J.loop (fun t_ S_ h_ L_ => ∃ (k c : Nat) (o2 : List UInt32), t_ = B.length - k ∧ S_ = [(0, .slice a A.length ca), (1, .slice b B.length cb), (5, .slice (some ⟨b1, 0, none⟩) (A.length + B.length + 1) (A.length + B.length + 1)), (6, .int .i64 i), (7, .int .u64 c), (8, .int .i64 k)] ∧ h = h_ ∧ L_ = [.row (some ⟨b1, 0, none⟩) (A.length + B.length + 1) 63 1 (A.length + B.length + 1) (ws .u64 o2)] ∧ (k ≤ B.length ∧ o2.length = A.length + B.length + 1 ∧ c < 4294967296 ∧ d32 o2 (i + B.length) = 0 ∧ vL o2 + c * 4294967296 ^ (i + k) = vL out + d32 A i * vL (B.take k) * 4294967296 ^ i)) ⟨_, _, ?_, ⟨0, 0, out, rfl, rfl, rfl, rfl, ⟨by omega, hol, by omega, hz, by simp [vL]⟩⟩⟩ ?_
   ·
    repeat (first | exact trivial | refine ⟨rfl, ?_⟩ | refine ⟨(by exact some_int (by omega)), ?_⟩)
   rintro _ _ _ _ ⟨k, c, o2, rfl, rfl, rfl, rfl, hk, ho2, hc, hz2, hv2⟩
   refine J.seq ?_
   refine Sr ?_
   refine Ru 4 rfl ?_
   refine JL.nil ?_
   refine Cs rfl (fun hc3 => ?_) fun hc3 => ?_
   ·
    have hk' : k < B.length := (by omega); have hbk := d32_lt B k; have hdo := d32_lt o2 (i + k); have hcl := carry_lt hc hai hbk hdo; have hst := mul_step (b := B) hk' (by omega) hv2; have ei := d64_mat A i (by omega); have ek := d64_mat B k (by omega); obtain ⟨xy, hxy⟩ : ∃ xy, xy = d32 A i * d32 B k := ⟨_, rfl⟩; rw [← hxy] at hcl hst
    refine J.skip ?_
    refine J.seq ?_
    refine J.block ?_
    refine J.seq ?_
    refine J.drawn mixed_ (by kernel_rfl) ?_
    refine Rq 4 rfl ?_
    refine JQ.op ai_ rfl ?_
    refine JQ.op (RunV.index_at sl_66 (m := i + k) rfl rfl (by omega) (by omega)) rfl ?_
    refine JQ.op (RunV.wload ag_63 rfl mm_ (by omega)) rfl ?_
    refine JQ.op (RunV.add_u64 rfl rfl (by omega) (by omega)) rfl ?_
    refine Rq 2 rfl ?_
    refine JQ.ope (RunE.index (m := i) sl_66 rfl rfl (by omega) hA hAl.symm (by omega)) rfl ?_
    rintro _ ⟨b4, o4, hi4, rfl, hE4⟩
    refine JQ.op (RunV.ld_u64 ag_63 rfl (by assumption)) rfl ?_
    rw [ei]
    refine Rq 2 rfl ?_
    refine JQ.ope (RunE.index (m := k) sl_66 rfl rfl (by omega) hB hBl.symm (by omega)) rfl ?_
    rintro _ ⟨b6, o6, hi6, rfl, hE6⟩
    refine JQ.op (RunV.ld_u64 ag_63 rfl (by assumption)) rfl ?_
    rw [ek]
    refine JQ.op (RunV.mul_u64 rfl rfl (by rw [← Int.natCast_mul, ← hxy]; omega) (by rw [← Int.natCast_mul, ← hxy]; omega)) rfl ?_
    rw [← Int.natCast_mul, ← hxy]
    refine JQ.op (RunV.add_u64 rfl rfl (by omega) (by omega)) rfl ?_
    rw [show (c : Int) + (d32 o2 (i + k) : Int) + (xy : Int) = ((c + xy + d32 o2 (i + k) : Nat) : Int) by omega]
    refine Rq 1 rfl ?_
    refine JQ.nil ?_
    refine Sr ?_
    refine Ru 3 rfl ?_
    refine JL.op ai_ rfl ?_
    refine Ru 1 rfl ?_
    refine JL.op (by first | exact RunV.rem_u64 rfl rfl (by omega) (by omega) | exact RunV.rem rfl rfl (by omega)) rfl ?_
    refine JL.op (RunV.index_at sl_66 (m := i + k) rfl rfl (by omega) (by omega)) rfl ?_
    refine JL.storeW (c + xy + d32 o2 (i + k)) ag_63 rfl rfl (by omega) dl_ (by omega) ?_
    refine JL.nil ?_
    refine Rg ?_
    refine Ru 1 rfl ?_
    refine JL.op (by first | exact RunV.quo_u64 rfl rfl (by omega) (by omega) (by omega) | exact RunV.quo rfl rfl (by omega)) rfl ?_
    refine Ru 1 rfl ?_
    refine JL.nil ?_
    refine Rg ?_
    refine Ru 1 rfl ?_
    refine JL.op ai_ rfl ?_
    refine Ru 1 rfl ?_
    refine JL.nil ?_
    refine ⟨_, ?_, _, ?_, ⟨k + 1, (c + xy + d32 o2 (i + k)) / 4294967296, _, rfl, rfl, rfl, rfl, ⟨by omega, by rw [List.length_set]; exact ho2, by omega, by rw [d32_set _ _ _ _ (by omega), if_neg (by omega)]; exact hz2, hst⟩⟩⟩
    ·
     omega
    ·
     repeat (first | exact trivial | refine ⟨rfl, ?_⟩ | refine ⟨(by exact some_int (by omega)), ?_⟩)
   ·
    have hke : k = B.length := (by omega); subst hke; have hrow := mul_row hi' (by omega) hz2 hc hv hv2
    refine J.exit ?_
    refine Rg ?_
    refine Ru 4 rfl ?_
    refine JL.op ai_ rfl ?_
    refine Ru 1 rfl ?_
    refine JL.op (RunV.index_at sl_66 (m := i + B.length) rfl rfl (by omega) (by omega)) rfl ?_
    refine JL.storeW c ag_63 rfl rfl (by omega) dl_ (by omega) ?_
    refine JL.nil ?_
    refine Rg ?_
    refine Ru 1 rfl ?_
    refine JL.op ai_ rfl ?_
    refine Ru 1 rfl ?_
    refine JL.nil ?_
    refine ⟨_, ?_, _, ?_, ⟨i + 1, _, rfl, rfl, rfl, rfl, ⟨by omega, by rw [List.length_set]; exact ho2, hrow⟩⟩⟩
    ·
     omega
    ·
     repeat (first | exact trivial | refine ⟨rfl, ?_⟩)
  ·
   have hie : i = A.length := (by omega); rw [hie, List.take_length] at hv
   refine J.exit ?_
   refine Kp [5] rfl ?_
   refine Sr ?_
   refine Ru 1 rfl ?_
   refine JL.pub64 dl_ hol.symm (by omega) (fun h9 hle9 hP9 => ?_); replace hh0 := hh0.mono hle9; replace hA := hA.mono hle9; replace hB := hB.mono hle9
   refine JL.callR ca_97 rfl (rcut_fn hP9 hol.symm) rfl ?_
   rintro _ h10 hle10 ⟨ra, rc, rfl, hR⟩
   replace hA := hA.mono hle10
   replace hB := hB.mono hle10
   replace hh0 := hh0.mono hle10
   refine Ru 1 rfl ?_
   refine JL.nil ?_
   rw [hv] at hR ⊢; exact J.retR (RetV.one rfl rfl) ⟨_, _, rfl, hR⟩
theorem rmul_fn {a b : Option Addr} {ca cb : Nat} {l r : List UInt32} {h : Part} (hl : SlR u32R 1 h a ca l) (hr : SlR u32R 1 h b cb r) (hlb : l.length ≤ 100000) (hrb : r.length ≤ 100000) : FnR Tryz.prog 51 [.slice a l.length ca, .slice b r.length cb] h (fun v h' => ∃ a c, v = .slice a (toL (vL l * vL r)).length c ∧ SlR u32R 1 h' a c (toL (vL l * vL r))) := by
  have n1 : (toL (vL l)).length ≤ 100000 := by rw [toL_len]; exact Nat.le_trans (nd_le _ _ (vL_lt l)) hlb
  have n2 : (toL (vL r)).length ≤ 100000 := by rw [toL_len]; exact Nat.le_trans (nd_le _ _ (vL_lt r)) hrb
  have n3 : (toL (vL l * vL r)).length ≤ 200000 := by
    rw [toL_len]
    exact Nat.le_trans (nd_le _ _ (mul_bound (vL_lt l) (vL_lt r))) (by omega)
  refine Fn.intro Tryz.func51 rfl Tryz.ntmps51 rfl (fun e he => ?_)
  refine J.weak [(0, _), (1, _)] ⟨rfl, rfl, trivial⟩ ?_
  have hh0 := Part.le.refl h
  refine Sr ?_
  refine Ru 1 rfl ?_
  refine JL.nil ?_
  refine Sr ?_
  refine Ru 1 rfl ?_
  refine JL.callR ca_56 rfl (rdigs_fn hl (by omega)) rfl ?_
  rintro _ h1 hle1 ⟨da, dc, rfl, hD⟩
  replace hl := hl.mono hle1
  replace hr := hr.mono hle1
  replace hh0 := hh0.mono hle1
  refine Ru 1 rfl ?_
  refine JL.callR ca_56 rfl (rdigs_fn hr (by omega)) rfl ?_
  rintro _ h2 hle2 ⟨ea, ec, rfl, hE⟩
  replace hl := hl.mono hle2
  replace hr := hr.mono hle2
  replace hh0 := hh0.mono hle2
  replace hD := hD.mono hle2
  refine JL.callR ca_89 rfl (rtimes_fn hD hE (by omega) (by omega)) rfl ?_
  rintro _ h3 hle3 ⟨ta, tc, rfl, hT⟩
  replace hl := hl.mono hle3
  replace hr := hr.mono hle3
  replace hh0 := hh0.mono hle3
  replace hD := hD.mono hle3
  replace hE := hE.mono hle3
  rw [vL_toL, vL_toL] at hT ⊢
  refine JL.callR ca_58 rfl (number32_fn hT rfl (by omega)) rfl ?_
  rintro _ h4 hle4 ⟨ra, rc, rfl, hR⟩
  replace hl := hl.mono hle4
  replace hr := hr.mono hle4
  replace hh0 := hh0.mono hle4
  replace hD := hD.mono hle4
  replace hE := hE.mono hle4
  replace hT := hT.mono hle4
  refine Ru 1 rfl ?_
  refine Nk [4] rfl ?_
  rw [vL_toL] at hR ⊢; exact J.retR (RetV.one rfl rfl) ⟨_, _, rfl, hR⟩
theorem rOf_fn {n : Nat} {h : Part} (hn : n < 18446744073709551616) : FnR Tryz.prog 53 [.int .u64 n] h (fun v h' => ∃ a c, v = .slice a (toL n).length c ∧ SlR u32R 1 h' a c (toL n)) := by
  have hv : vL (digN 2 n) = n := by rw [vL_digN]; exact Nat.mod_eq_of_lt (by simp only [Nat.reducePow]; omega)
  refine Fn.intro Tryz.func53 rfl Tryz.ntmps53 rfl (fun e he => ?_)
  refine J.weak [(0, _)] ⟨rfl, trivial⟩ ?_
  have hh0 := Part.le.refl h
  refine Sr ?_
  refine Ru 1 rfl ?_
  refine JL.nil ?_
  refine Sr ?_
  refine Ru 1 rfl ?_
  refine JL.op (by first | exact RunV.rem_u64 rfl rfl (by omega) (by omega) | exact RunV.rem rfl rfl (by omega)) rfl ?_
  refine Ru 1 rfl ?_
  refine JL.op (by first | exact RunV.quo_u64 rfl rfl (by omega) (by omega) (by omega) | exact RunV.quo rfl rfl (by omega)) rfl ?_
  refine JL.lit1 ap_66 zr_63 rfl rfl rfl rfl rfl (fun b1 => ?_)
  refine JL.pubB (R := u64R) (sz := 1) (l := (digN 2 n).map m64) dl_ ((show CellsR u64R 1 _ [.int .u64 ((n : Int) % 4294967296), .int .u64 ((n : Int) / 4294967296)] ((digN 2 n).map m64) from (show ws .u64 (digN 2 n) = [.int .u64 ((n : Int) % 4294967296), .int .u64 ((n : Int) / 4294967296)] from by simp [ws, digN]; omega) ▸ CellsR.of_ws64)) (by first | decide | omega | (rw [digN_len]; decide) | (simp; done) | (simp [digN_len]; done)) (fun h2 hle2 hQ => ?_)
  replace hh0 := hh0.mono hle2
  refine JL.callR ca_58 rfl (number32_fn hQ (by rw [digN_len]) (by rw [digN_len]; decide)) rfl ?_
  rintro _ h3 hle3 ⟨ra, rc, rfl, hR⟩
  replace hh0 := hh0.mono hle3
  replace hQ := hQ.mono hle3
  refine Ru 1 rfl ?_
  refine Nk [2] rfl ?_
  rw [hv] at hR ⊢; exact J.retR (RetV.one rfl rfl) ⟨_, _, rfl, hR⟩
end Go.Proofs.YtmngjbefnloljaaGreatDoor
set_option linter.unusedSimpArgs false
set_option linter.unusedVariables false
set_option linter.constructorNameAsVariable false
namespace Go.Proofs.YtmngjbefnloljaaGreatDoor
open Go Go.RowKit
set_option maxRecDepth 100000
end Go.Proofs.YtmngjbefnloljaaGreatDoor
set_option linter.unusedSimpArgs false
set_option linter.unusedVariables false
set_option linter.constructorNameAsVariable false
namespace Go.Proofs.YtmngjbefnloljaaGreatDoor
open Go Go.RowKit
set_option maxRecDepth 100000
end Go.Proofs.YtmngjbefnloljaaGreatDoor
set_option linter.unusedSimpArgs false
set_option linter.unusedVariables false
set_option linter.constructorNameAsVariable false
namespace Go.Proofs.YtmngjbefnloljaaGreatDoor
open Go Go.RowKit
set_option maxRecDepth 100000
end Go.Proofs.YtmngjbefnloljaaGreatDoor
set_option linter.unusedSimpArgs false
set_option linter.unusedVariables false
set_option linter.constructorNameAsVariable false
namespace Go.Proofs.YtmngjbefnloljaaGreatDoor
open Go Go.RowKit
set_option maxRecDepth 100000
theorem ag_30 : aggT Tryz.prog 30 = some none := by kernel_rfl
theorem ca_53 : callT Tryz.prog 53 = true := by kernel_rfl
theorem ca_98 : callT Tryz.prog 98 = true := by kernel_rfl
theorem fo_32_0 : fieldOff Tryz.prog 32 0 = some 0 := by kernel_rfl
theorem fo_32_1 : fieldOff Tryz.prog 32 1 = some 1 := by kernel_rfl
theorem fo_32_2 : fieldOff Tryz.prog 32 2 = some 2 := by kernel_rfl
theorem d32_par (l : List UInt32) : d32 l 0 % 2 = vL l % 2 := by
  have := vL_digit l 0
  rw [Nat.pow_zero, Nat.div_one] at this
  omega
theorem odd_nil {l : List UInt32} (h : ¬ 0 < l.length) : vL l % 2 = 0 := by
  rw [← d32_par, d32_out l 0 (by omega)]
theorem odd_fn {a : Option Addr} {c : Nat} {l : List UInt32} {h : Part} (hl : SlR u32R 1 h a c l) : Pure Tryz.prog 98 [.slice a l.length c] h (.bool (decide (vL l % 2 = 1))) := by
  have hb := hl.big
  have hp := d32_par l
  have hd := d32_lt l 0
  refine Fn.intro Tryz.func98 rfl Tryz.ntmps98 rfl (fun e he => ?_)
  refine J.weak [(0, _)] ⟨rfl, trivial⟩ ?_
  refine Sr ?_
  refine Ru 1 rfl ?_
  refine JL.nil ?_
  refine Sr ?_
  refine Ru 4 rfl ?_
  refine Bs 6 rfl (fun hc1 => ?_) fun hc1 => ?_
  ·
   refine Ru 1 rfl ?_
   refine JL.opeg rfl rfl  (RunE.index (m := 0) sl_30 rfl rfl rfl hl rfl (by omega)) rfl ?_
   rintro _ ⟨b2, o2, hi2, rfl, hE2⟩
   refine JL.opg rfl rfl  (RunV.ld_u32 ag_103 rfl (by assumption)) rfl ?_
   rw [d32_at]
   refine JL.opg rfl rfl  (RunV.mask_u32 1 2 rfl rfl (by decide) (by decide) (by decide) (by omega) (by omega)) rfl ?_
   refine Ru 3 rfl ?_
   refine Nk [2] rfl ?_
   exact J.retP (RetV.one rfl rfl) (congrArg Value.bool (by first | exact decide_eq_decide.2 (by omega) | exact (decide_eq_false (by have := odd_nil (l := l) (by omega); omega)).symm)) rfl
  ·
   refine Ru 7 rfl ?_
   refine Nk [2] rfl ?_
   exact J.retP (RetV.one rfl rfl) (congrArg Value.bool (by first | exact decide_eq_decide.2 (by omega) | exact (decide_eq_false (by have := odd_nil (l := l) (by omega); omega)).symm)) rfl
def rightB (n e d : Nat) : Bool := decide (n % 2 = 1 ∧ 512 ≤ bl n ∧ bl n ≤ 4096 ∧ e % 2 = 1 ∧ 2 < e ∧ bl e ≤ 64 ∧ d < n)
theorem cmp_facts (a b : Nat) : (0 < cmpI3 a b ↔ b < a) ∧ (cmpI3 a b < 0 ↔ a < b) ∧ (cmpI3 a b = 1 ↔ b < a) ∧ (cmpI3 a b = -1 ↔ a < b) ∧ (cmpI3 a b = 0 ↔ a = b) := by
  unfold cmpI3
  split
  · omega
  · split <;> omega
theorem ksize_fn {an ae ad : Option Addr} {cn ce cd : Nat} {n e d : List UInt32} {h : Part} (hn : SlR u32R 1 h an cn n) : Pure Tryz.prog 25 [.agg #[.slice an n.length cn, .slice ae e.length ce, .slice ad d.length cd]] h (.int .i64 ((bl (vL n) + 7) / 8 : Nat)) := by
  have hb := hn.big
  have hbl := bl_len' n
  refine Fn.intro Tryz.func25 rfl Tryz.ntmps25 rfl (fun e he => ?_)
  refine J.weak [(0, _)] ⟨rfl, trivial⟩ ?_
  refine Sr ?_
  refine JL.box rfl rfl rfl (fun b1 => ?_)
  refine Ru 1 rfl ?_
  refine JL.nil ?_
  refine Sr ?_
  refine Ru 1 rfl ?_
  refine JL.op (RunV.own1 ag_30 rfl mm_ rfl) rfl ?_
  refine JL.callP ca_40 rfl (natbits_fn (by assumption)) rfl ?_
  rw [nbits_vL]
  refine JL.op ai_ rfl ?_
  refine JL.op (by first | exact RunV.quo_i64 rfl rfl (by omega) (by omega) (by omega) | exact RunV.quo rfl rfl (by omega)) rfl ?_
  refine Ru 1 rfl ?_
  refine Nk [2] rfl ?_
  exact J.retP (RetV.one rfl rfl) (congrArg (Value.int .i64) (by omega)) rfl
theorem keyright_fn {an ae ad : Option Addr} {cn ce cd : Nat} {n x d : List UInt32} {h : Part} (hn : SlR u32R 1 h an cn n) (hx : SlR u32R 1 h ae ce x) (hd : SlR u32R 1 h ad cd d) : FnR Tryz.prog 60 [.agg #[.slice an n.length cn, .slice ae x.length ce, .slice ad d.length cd]] h (fun v _ => v = .bool (rightB (vL n) (vL x) (vL d))) := by
  have hb := hn.big
  have hbl := bl_len' n
  have v2 : vL (toL 2) = 2 := vL_toL 2
  obtain ⟨k1, -, k2, -, -⟩ := cmp_facts (vL x) 2
  obtain ⟨-, k3, -, k4, -⟩ := cmp_facts (vL d) (vL n)
  refine Fn.intro Tryz.func60 rfl Tryz.ntmps60 rfl (fun e he => ?_)
  refine J.weak [(0, _)] ⟨rfl, trivial⟩ ?_
  have hh0 := Part.le.refl h
  refine Sr ?_
  refine JL.box rfl rfl rfl (fun b1 => ?_)
  refine Ru 1 rfl ?_
  refine JL.nil ?_
  refine Sr ?_
  refine Ru 1 rfl ?_
  refine JL.op (RunV.own1 ag_30 rfl mm_ rfl) rfl ?_
  refine JL.callP ca_40 rfl (natbits_fn (by assumption)) rfl ?_
  rw [nbits_vL]
  refine Ru 1 rfl ?_
  refine JL.nil ?_
  refine J.seq ?_
  refine J.held ([.blk b1 32 [.slice an n.length cn, .slice ae x.length ce, .slice ad d.length cd]]) 38 mixed_ rfl (fun h00 => ?_)
  refine JH.take 0 rfl (by kernel_rfl) (by kernel_rfl) (by kernel_rfl) (fun _ _ _ _ hh => hh) (br_ h00) (by first | exact RunV.fieldAt0 fo_32_0 rfl | exact RunV.fieldAt fo_32_0 rfl) rfl ?_
  refine JH.take 1 rfl (by kernel_rfl) (by kernel_rfl) (by kernel_rfl) (fun _ _ _ _ hh => hh) (br_ h00) (RunV.own1 ag_30 rfl mm_ rfl) rfl ?_
  refine JH.all1 2 (by kernel_rfl) rfl ?_
  unfold One
  refine JL.callP ca_98 rfl (odd_fn (by assumption)) rfl ?_
  refine JL.nil ⟨(br_ h00), ?_⟩
  refine JH.take 3 rfl (by kernel_rfl) (by kernel_rfl) (by kernel_rfl) (fun _ _ _ _ hh => hh) (br_ h00) (RunV.move rfl) rfl ?_
  refine Bh 10 rfl (fun hc4 => ?_) fun hc4 => ?_
  ·
   refine JH.takeG 4 rfl rfl rfl (by kernel_rfl) (by kernel_rfl) (by kernel_rfl) (fun _ _ _ _ hh => hh) (br_ h00) (RunV.move rfl) rfl ?_
   refine JH.takeG 5 rfl rfl rfl (by kernel_rfl) (by kernel_rfl) (by kernel_rfl) (fun _ _ _ _ hh => hh) (br_ h00) (RunV.geq rfl rfl) rfl ?_
   refine JH.take 6 rfl (by kernel_rfl) (by kernel_rfl) (by kernel_rfl) (fun _ _ _ _ hh => hh) (br_ h00) (RunV.pick_t rfl rfl) rfl ?_
   refine JH.take 7 rfl (by kernel_rfl) (by kernel_rfl) (by kernel_rfl) (fun _ _ _ _ hh => hh) (br_ h00) (RunV.move rfl) rfl ?_
   refine Bh 14 rfl (fun hc5 => ?_) fun hc5 => ?_
   ·
    refine JH.takeG 8 rfl rfl rfl (by kernel_rfl) (by kernel_rfl) (by kernel_rfl) (fun _ _ _ _ hh => hh) (br_ h00) (RunV.move rfl) rfl ?_
    refine JH.takeG 9 rfl rfl rfl (by kernel_rfl) (by kernel_rfl) (by kernel_rfl) (fun _ _ _ _ hh => hh) (br_ h00) (RunV.leq rfl rfl) rfl ?_
    refine JH.take 10 rfl (by kernel_rfl) (by kernel_rfl) (by kernel_rfl) (fun _ _ _ _ hh => hh) (br_ h00) (RunV.pick_t rfl rfl) rfl ?_
    refine JH.take 11 rfl (by kernel_rfl) (by kernel_rfl) (by kernel_rfl) (fun _ _ _ _ hh => hh) (br_ h00) (RunV.move rfl) rfl ?_
    refine Bh 18 rfl (fun hc6 => ?_) fun hc6 => ?_
    ·
     refine JH.takeG 12 rfl rfl rfl (by kernel_rfl) (by kernel_rfl) (by kernel_rfl) (fun _ _ _ _ hh => hh) (br_ h00) (by first | exact RunV.fieldAt0 fo_32_1 rfl | exact RunV.fieldAt fo_32_1 rfl) rfl ?_
     refine JH.takeG 13 rfl rfl rfl (by kernel_rfl) (by kernel_rfl) (by kernel_rfl) (fun _ _ _ _ hh => hh) (br_ h00) (RunV.own1 ag_30 rfl mm_ rfl) rfl ?_
     refine JH.all1 14 (by kernel_rfl) rfl ?_
     unfold One
     refine JL.callPg rfl rfl  ca_98 rfl (odd_fn (by assumption)) rfl ?_
     refine JL.nil ⟨(br_ h00), ?_⟩
     refine JH.take 15 rfl (by kernel_rfl) (by kernel_rfl) (by kernel_rfl) (fun _ _ _ _ hh => hh) (br_ h00) (RunV.pick_t rfl rfl) rfl ?_
     refine JH.take 16 rfl (by kernel_rfl) (by kernel_rfl) (by kernel_rfl) (fun _ _ _ _ hh => hh) (br_ h00) (RunV.move rfl) rfl ?_
     refine Bh 23 rfl (fun hc8 => ?_) fun hc8 => ?_
     ·
      refine JH.takeG 17 rfl rfl rfl (by kernel_rfl) (by kernel_rfl) (by kernel_rfl) (fun _ _ _ _ hh => hh) (br_ h00) (by first | exact RunV.fieldAt0 fo_32_1 rfl | exact RunV.fieldAt fo_32_1 rfl) rfl ?_
      refine JH.takeG 18 rfl rfl rfl (by kernel_rfl) (by kernel_rfl) (by kernel_rfl) (fun _ _ _ _ hh => hh) (br_ h00) (RunV.own1 ag_30 rfl mm_ rfl) rfl ?_
      refine JH.all1 19 (by kernel_rfl) rfl ?_
      unfold One
      refine JL.callRg rfl rfl  ca_87 rfl (natOf_fn (n := 2) (by decide)) rfl ?_
      rintro _ h9 hle9 ⟨oa, oc, rfl, hO1⟩
      replace hn := hn.mono hle9
      replace hx := hx.mono hle9
      replace hd := hd.mono hle9
      replace hh0 := hh0.mono hle9
      refine JL.nil ⟨(br_ h00), ?_⟩
      refine JH.all1 20 (by kernel_rfl) rfl ?_
      unfold One
      refine JL.callPg rfl rfl  ca_47 rfl (natcmp_fn (by assumption) (by assumption)) rfl ?_
      rw [v2]
      refine JL.nil ⟨(br_ h00), ?_⟩
      refine JH.takeG 21 rfl rfl rfl (by kernel_rfl) (by kernel_rfl) (by kernel_rfl) (fun _ _ _ _ hh => hh) (br_ h00) (RunV.gtr rfl rfl) rfl ?_
      refine JH.take 22 rfl (by kernel_rfl) (by kernel_rfl) (by kernel_rfl) (fun _ _ _ _ hh => hh) (br_ h00) (RunV.pick_t rfl rfl) rfl ?_
      refine JH.take 23 rfl (by kernel_rfl) (by kernel_rfl) (by kernel_rfl) (fun _ _ _ _ hh => hh) (br_ h00) (RunV.move rfl) rfl ?_
      refine Bh 30 rfl (fun hc11 => ?_) fun hc11 => ?_
      ·
       refine JH.takeG 24 rfl rfl rfl (by kernel_rfl) (by kernel_rfl) (by kernel_rfl) (fun _ _ _ _ hh => hh) (br_ h00) (by first | exact RunV.fieldAt0 fo_32_1 rfl | exact RunV.fieldAt fo_32_1 rfl) rfl ?_
       refine JH.takeG 25 rfl rfl rfl (by kernel_rfl) (by kernel_rfl) (by kernel_rfl) (fun _ _ _ _ hh => hh) (br_ h00) (RunV.own1 ag_30 rfl mm_ rfl) rfl ?_
       refine JH.all1 26 (by kernel_rfl) rfl ?_
       unfold One
       refine JL.callPg rfl rfl  ca_40 rfl (natbits_fn (by assumption)) rfl ?_
       rw [nbits_vL]
       refine JL.nil ⟨(br_ h00), ?_⟩
       refine JH.takeG 27 rfl rfl rfl (by kernel_rfl) (by kernel_rfl) (by kernel_rfl) (fun _ _ _ _ hh => hh) (br_ h00) (RunV.leq rfl rfl) rfl ?_
       refine JH.take 28 rfl (by kernel_rfl) (by kernel_rfl) (by kernel_rfl) (fun _ _ _ _ hh => hh) (br_ h00) (RunV.pick_t rfl rfl) rfl ?_
       refine JH.take 29 rfl (by kernel_rfl) (by kernel_rfl) (by kernel_rfl) (fun _ _ _ _ hh => hh) (br_ h00) (RunV.move rfl) rfl ?_
       refine Bh 36 rfl (fun hc13 => ?_) fun hc13 => ?_
       ·
        refine JH.takeG 30 rfl rfl rfl (by kernel_rfl) (by kernel_rfl) (by kernel_rfl) (fun _ _ _ _ hh => hh) (br_ h00) (by first | exact RunV.fieldAt0 fo_32_2 rfl | exact RunV.fieldAt fo_32_2 rfl) rfl ?_
        refine JH.takeG 31 rfl rfl rfl (by kernel_rfl) (by kernel_rfl) (by kernel_rfl) (fun _ _ _ _ hh => hh) (br_ h00) (RunV.own1 ag_30 rfl mm_ rfl) rfl ?_
        refine JH.takeG 32 rfl rfl rfl (by kernel_rfl) (by kernel_rfl) (by kernel_rfl) (fun _ _ _ _ hh => hh) (br_ h00) (by first | exact RunV.fieldAt0 fo_32_0 rfl | exact RunV.fieldAt fo_32_0 rfl) rfl ?_
        refine JH.takeG 33 rfl rfl rfl (by kernel_rfl) (by kernel_rfl) (by kernel_rfl) (fun _ _ _ _ hh => hh) (br_ h00) (RunV.own1 ag_30 rfl mm_ rfl) rfl ?_
        refine JH.all1 34 (by kernel_rfl) rfl ?_
        unfold One
        refine JL.callPg rfl rfl  ca_47 rfl (natcmp_fn (by assumption) (by assumption)) rfl ?_
        refine JL.nil ⟨(br_ h00), ?_⟩
        refine JH.takeG 35 rfl rfl rfl (by kernel_rfl) (by kernel_rfl) (by kernel_rfl) (fun _ _ _ _ hh => hh) (br_ h00) (RunV.lss rfl rfl) rfl ?_
        refine JH.take 36 rfl (by kernel_rfl) (by kernel_rfl) (by kernel_rfl) (fun _ _ _ _ hh => hh) (br_ h00) (RunV.pick_t rfl rfl) rfl ?_
        refine JH.take 37 rfl (by kernel_rfl) (by kernel_rfl) (by kernel_rfl) (fun _ _ _ _ hh => hh) (br_ h00) (RunV.assign rfl) rfl ?_
        refine JH.done (by kernel_rfl) ?_
        refine Kp [2] rfl ?_
        exact J.retR (RetV.one rfl rfl) (congrArg Value.bool (by unfold rightB; first | exact decide_eq_decide.2 (by omega) | exact (decide_eq_false (by omega)).symm))
       ·
        refine JH.skip 30 rfl rfl rfl (by kernel_rfl) (by kernel_rfl) (by kernel_rfl) (fun _ _ _ _ hh => hh) (br_ h00) rfl ?_
        refine JH.skip 31 rfl rfl rfl (by kernel_rfl) (by kernel_rfl) (by kernel_rfl) (fun _ _ _ _ hh => hh) (br_ h00) rfl ?_
        refine JH.skip 32 rfl rfl rfl (by kernel_rfl) (by kernel_rfl) (by kernel_rfl) (fun _ _ _ _ hh => hh) (br_ h00) rfl ?_
        refine JH.skip 33 rfl rfl rfl (by kernel_rfl) (by kernel_rfl) (by kernel_rfl) (fun _ _ _ _ hh => hh) (br_ h00) rfl ?_
        refine JH.all1 34 (by kernel_rfl) rfl ?_
        unfold One
        refine JL.skip rfl rfl rfl ?_
        refine JL.nil ⟨(br_ h00), ?_⟩
        refine JH.skip 35 rfl rfl rfl (by kernel_rfl) (by kernel_rfl) (by kernel_rfl) (fun _ _ _ _ hh => hh) (br_ h00) rfl ?_
        refine JH.take 36 rfl (by kernel_rfl) (by kernel_rfl) (by kernel_rfl) (fun _ _ _ _ hh => hh) (br_ h00) (RunV.pick_f rfl rfl) rfl ?_
        refine JH.take 37 rfl (by kernel_rfl) (by kernel_rfl) (by kernel_rfl) (fun _ _ _ _ hh => hh) (br_ h00) (RunV.assign rfl) rfl ?_
        refine JH.done (by kernel_rfl) ?_
        refine Kp [2] rfl ?_
        exact J.retR (RetV.one rfl rfl) (congrArg Value.bool (by unfold rightB; first | exact decide_eq_decide.2 (by omega) | exact (decide_eq_false (by omega)).symm))
      ·
       refine JH.skip 24 rfl rfl rfl (by kernel_rfl) (by kernel_rfl) (by kernel_rfl) (fun _ _ _ _ hh => hh) (br_ h00) rfl ?_
       refine JH.skip 25 rfl rfl rfl (by kernel_rfl) (by kernel_rfl) (by kernel_rfl) (fun _ _ _ _ hh => hh) (br_ h00) rfl ?_
       refine JH.all1 26 (by kernel_rfl) rfl ?_
       unfold One
       refine JL.skip rfl rfl rfl ?_
       refine JL.nil ⟨(br_ h00), ?_⟩
       refine JH.skip 27 rfl rfl rfl (by kernel_rfl) (by kernel_rfl) (by kernel_rfl) (fun _ _ _ _ hh => hh) (br_ h00) rfl ?_
       refine JH.take 28 rfl (by kernel_rfl) (by kernel_rfl) (by kernel_rfl) (fun _ _ _ _ hh => hh) (br_ h00) (RunV.pick_f rfl rfl) rfl ?_
       refine JH.take 29 rfl (by kernel_rfl) (by kernel_rfl) (by kernel_rfl) (fun _ _ _ _ hh => hh) (br_ h00) (RunV.move rfl) rfl ?_
       refine JH.skip 30 rfl rfl rfl (by kernel_rfl) (by kernel_rfl) (by kernel_rfl) (fun _ _ _ _ hh => hh) (br_ h00) rfl ?_
       refine JH.skip 31 rfl rfl rfl (by kernel_rfl) (by kernel_rfl) (by kernel_rfl) (fun _ _ _ _ hh => hh) (br_ h00) rfl ?_
       refine JH.skip 32 rfl rfl rfl (by kernel_rfl) (by kernel_rfl) (by kernel_rfl) (fun _ _ _ _ hh => hh) (br_ h00) rfl ?_
       refine JH.skip 33 rfl rfl rfl (by kernel_rfl) (by kernel_rfl) (by kernel_rfl) (fun _ _ _ _ hh => hh) (br_ h00) rfl ?_
       refine JH.all1 34 (by kernel_rfl) rfl ?_
       unfold One
       refine JL.skip rfl rfl rfl ?_
       refine JL.nil ⟨(br_ h00), ?_⟩
       refine JH.skip 35 rfl rfl rfl (by kernel_rfl) (by kernel_rfl) (by kernel_rfl) (fun _ _ _ _ hh => hh) (br_ h00) rfl ?_
       refine JH.take 36 rfl (by kernel_rfl) (by kernel_rfl) (by kernel_rfl) (fun _ _ _ _ hh => hh) (br_ h00) (RunV.pick_f rfl rfl) rfl ?_
       refine JH.take 37 rfl (by kernel_rfl) (by kernel_rfl) (by kernel_rfl) (fun _ _ _ _ hh => hh) (br_ h00) (RunV.assign rfl) rfl ?_
       refine JH.done (by kernel_rfl) ?_
       refine Kp [2] rfl ?_
       exact J.retR (RetV.one rfl rfl) (congrArg Value.bool (by unfold rightB; first | exact decide_eq_decide.2 (by omega) | exact (decide_eq_false (by omega)).symm))
     ·
      refine JH.skip 17 rfl rfl rfl (by kernel_rfl) (by kernel_rfl) (by kernel_rfl) (fun _ _ _ _ hh => hh) (br_ h00) rfl ?_
      refine JH.skip 18 rfl rfl rfl (by kernel_rfl) (by kernel_rfl) (by kernel_rfl) (fun _ _ _ _ hh => hh) (br_ h00) rfl ?_
      refine JH.all1 19 (by kernel_rfl) rfl ?_
      unfold One
      refine JL.skip rfl rfl rfl ?_
      refine JL.nil ⟨(br_ h00), ?_⟩
      refine JH.all1 20 (by kernel_rfl) rfl ?_
      unfold One
      refine JL.skip rfl rfl rfl ?_
      refine JL.nil ⟨(br_ h00), ?_⟩
      refine JH.skip 21 rfl rfl rfl (by kernel_rfl) (by kernel_rfl) (by kernel_rfl) (fun _ _ _ _ hh => hh) (br_ h00) rfl ?_
      refine JH.take 22 rfl (by kernel_rfl) (by kernel_rfl) (by kernel_rfl) (fun _ _ _ _ hh => hh) (br_ h00) (RunV.pick_f rfl rfl) rfl ?_
      refine JH.take 23 rfl (by kernel_rfl) (by kernel_rfl) (by kernel_rfl) (fun _ _ _ _ hh => hh) (br_ h00) (RunV.move rfl) rfl ?_
      refine JH.skip 24 rfl rfl rfl (by kernel_rfl) (by kernel_rfl) (by kernel_rfl) (fun _ _ _ _ hh => hh) (br_ h00) rfl ?_
      refine JH.skip 25 rfl rfl rfl (by kernel_rfl) (by kernel_rfl) (by kernel_rfl) (fun _ _ _ _ hh => hh) (br_ h00) rfl ?_
      refine JH.all1 26 (by kernel_rfl) rfl ?_
      unfold One
      refine JL.skip rfl rfl rfl ?_
      refine JL.nil ⟨(br_ h00), ?_⟩
      refine JH.skip 27 rfl rfl rfl (by kernel_rfl) (by kernel_rfl) (by kernel_rfl) (fun _ _ _ _ hh => hh) (br_ h00) rfl ?_
      refine JH.take 28 rfl (by kernel_rfl) (by kernel_rfl) (by kernel_rfl) (fun _ _ _ _ hh => hh) (br_ h00) (RunV.pick_f rfl rfl) rfl ?_
      refine JH.take 29 rfl (by kernel_rfl) (by kernel_rfl) (by kernel_rfl) (fun _ _ _ _ hh => hh) (br_ h00) (RunV.move rfl) rfl ?_
      refine JH.skip 30 rfl rfl rfl (by kernel_rfl) (by kernel_rfl) (by kernel_rfl) (fun _ _ _ _ hh => hh) (br_ h00) rfl ?_
      refine JH.skip 31 rfl rfl rfl (by kernel_rfl) (by kernel_rfl) (by kernel_rfl) (fun _ _ _ _ hh => hh) (br_ h00) rfl ?_
      refine JH.skip 32 rfl rfl rfl (by kernel_rfl) (by kernel_rfl) (by kernel_rfl) (fun _ _ _ _ hh => hh) (br_ h00) rfl ?_
      refine JH.skip 33 rfl rfl rfl (by kernel_rfl) (by kernel_rfl) (by kernel_rfl) (fun _ _ _ _ hh => hh) (br_ h00) rfl ?_
      refine JH.all1 34 (by kernel_rfl) rfl ?_
      unfold One
      refine JL.skip rfl rfl rfl ?_
      refine JL.nil ⟨(br_ h00), ?_⟩
      refine JH.skip 35 rfl rfl rfl (by kernel_rfl) (by kernel_rfl) (by kernel_rfl) (fun _ _ _ _ hh => hh) (br_ h00) rfl ?_
      refine JH.take 36 rfl (by kernel_rfl) (by kernel_rfl) (by kernel_rfl) (fun _ _ _ _ hh => hh) (br_ h00) (RunV.pick_f rfl rfl) rfl ?_
      refine JH.take 37 rfl (by kernel_rfl) (by kernel_rfl) (by kernel_rfl) (fun _ _ _ _ hh => hh) (br_ h00) (RunV.assign rfl) rfl ?_
      refine JH.done (by kernel_rfl) ?_
      refine Kp [2] rfl ?_
      exact J.retR (RetV.one rfl rfl) (congrArg Value.bool (by unfold rightB; first | exact decide_eq_decide.2 (by omega) | exact (decide_eq_false (by omega)).symm))
    ·
     refine JH.skip 12 rfl rfl rfl (by kernel_rfl) (by kernel_rfl) (by kernel_rfl) (fun _ _ _ _ hh => hh) (br_ h00) rfl ?_
     refine JH.skip 13 rfl rfl rfl (by kernel_rfl) (by kernel_rfl) (by kernel_rfl) (fun _ _ _ _ hh => hh) (br_ h00) rfl ?_
     refine JH.all1 14 (by kernel_rfl) rfl ?_
     unfold One
     refine JL.skip rfl rfl rfl ?_
     refine JL.nil ⟨(br_ h00), ?_⟩
     refine JH.take 15 rfl (by kernel_rfl) (by kernel_rfl) (by kernel_rfl) (fun _ _ _ _ hh => hh) (br_ h00) (RunV.pick_f rfl rfl) rfl ?_
     refine JH.take 16 rfl (by kernel_rfl) (by kernel_rfl) (by kernel_rfl) (fun _ _ _ _ hh => hh) (br_ h00) (RunV.move rfl) rfl ?_
     refine JH.skip 17 rfl rfl rfl (by kernel_rfl) (by kernel_rfl) (by kernel_rfl) (fun _ _ _ _ hh => hh) (br_ h00) rfl ?_
     refine JH.skip 18 rfl rfl rfl (by kernel_rfl) (by kernel_rfl) (by kernel_rfl) (fun _ _ _ _ hh => hh) (br_ h00) rfl ?_
     refine JH.all1 19 (by kernel_rfl) rfl ?_
     unfold One
     refine JL.skip rfl rfl rfl ?_
     refine JL.nil ⟨(br_ h00), ?_⟩
     refine JH.all1 20 (by kernel_rfl) rfl ?_
     unfold One
     refine JL.skip rfl rfl rfl ?_
     refine JL.nil ⟨(br_ h00), ?_⟩
     refine JH.skip 21 rfl rfl rfl (by kernel_rfl) (by kernel_rfl) (by kernel_rfl) (fun _ _ _ _ hh => hh) (br_ h00) rfl ?_
     refine JH.take 22 rfl (by kernel_rfl) (by kernel_rfl) (by kernel_rfl) (fun _ _ _ _ hh => hh) (br_ h00) (RunV.pick_f rfl rfl) rfl ?_
     refine JH.take 23 rfl (by kernel_rfl) (by kernel_rfl) (by kernel_rfl) (fun _ _ _ _ hh => hh) (br_ h00) (RunV.move rfl) rfl ?_
     refine JH.skip 24 rfl rfl rfl (by kernel_rfl) (by kernel_rfl) (by kernel_rfl) (fun _ _ _ _ hh => hh) (br_ h00) rfl ?_
     refine JH.skip 25 rfl rfl rfl (by kernel_rfl) (by kernel_rfl) (by kernel_rfl) (fun _ _ _ _ hh => hh) (br_ h00) rfl ?_
     refine JH.all1 26 (by kernel_rfl) rfl ?_
     unfold One
     refine JL.skip rfl rfl rfl ?_
     refine JL.nil ⟨(br_ h00), ?_⟩
     refine JH.skip 27 rfl rfl rfl (by kernel_rfl) (by kernel_rfl) (by kernel_rfl) (fun _ _ _ _ hh => hh) (br_ h00) rfl ?_
     refine JH.take 28 rfl (by kernel_rfl) (by kernel_rfl) (by kernel_rfl) (fun _ _ _ _ hh => hh) (br_ h00) (RunV.pick_f rfl rfl) rfl ?_
     refine JH.take 29 rfl (by kernel_rfl) (by kernel_rfl) (by kernel_rfl) (fun _ _ _ _ hh => hh) (br_ h00) (RunV.move rfl) rfl ?_
     refine JH.skip 30 rfl rfl rfl (by kernel_rfl) (by kernel_rfl) (by kernel_rfl) (fun _ _ _ _ hh => hh) (br_ h00) rfl ?_
     refine JH.skip 31 rfl rfl rfl (by kernel_rfl) (by kernel_rfl) (by kernel_rfl) (fun _ _ _ _ hh => hh) (br_ h00) rfl ?_
     refine JH.skip 32 rfl rfl rfl (by kernel_rfl) (by kernel_rfl) (by kernel_rfl) (fun _ _ _ _ hh => hh) (br_ h00) rfl ?_
     refine JH.skip 33 rfl rfl rfl (by kernel_rfl) (by kernel_rfl) (by kernel_rfl) (fun _ _ _ _ hh => hh) (br_ h00) rfl ?_
     refine JH.all1 34 (by kernel_rfl) rfl ?_
     unfold One
     refine JL.skip rfl rfl rfl ?_
     refine JL.nil ⟨(br_ h00), ?_⟩
     refine JH.skip 35 rfl rfl rfl (by kernel_rfl) (by kernel_rfl) (by kernel_rfl) (fun _ _ _ _ hh => hh) (br_ h00) rfl ?_
     refine JH.take 36 rfl (by kernel_rfl) (by kernel_rfl) (by kernel_rfl) (fun _ _ _ _ hh => hh) (br_ h00) (RunV.pick_f rfl rfl) rfl ?_
     refine JH.take 37 rfl (by kernel_rfl) (by kernel_rfl) (by kernel_rfl) (fun _ _ _ _ hh => hh) (br_ h00) (RunV.assign rfl) rfl ?_
     refine JH.done (by kernel_rfl) ?_
     refine Kp [2] rfl ?_
     exact J.retR (RetV.one rfl rfl) (congrArg Value.bool (by unfold rightB; first | exact decide_eq_decide.2 (by omega) | exact (decide_eq_false (by omega)).symm))
   ·
    refine JH.skip 8 rfl rfl rfl (by kernel_rfl) (by kernel_rfl) (by kernel_rfl) (fun _ _ _ _ hh => hh) (br_ h00) rfl ?_
    refine JH.skip 9 rfl rfl rfl (by kernel_rfl) (by kernel_rfl) (by kernel_rfl) (fun _ _ _ _ hh => hh) (br_ h00) rfl ?_
    refine JH.take 10 rfl (by kernel_rfl) (by kernel_rfl) (by kernel_rfl) (fun _ _ _ _ hh => hh) (br_ h00) (RunV.pick_f rfl rfl) rfl ?_
    refine JH.take 11 rfl (by kernel_rfl) (by kernel_rfl) (by kernel_rfl) (fun _ _ _ _ hh => hh) (br_ h00) (RunV.move rfl) rfl ?_
    refine JH.skip 12 rfl rfl rfl (by kernel_rfl) (by kernel_rfl) (by kernel_rfl) (fun _ _ _ _ hh => hh) (br_ h00) rfl ?_
    refine JH.skip 13 rfl rfl rfl (by kernel_rfl) (by kernel_rfl) (by kernel_rfl) (fun _ _ _ _ hh => hh) (br_ h00) rfl ?_
    refine JH.all1 14 (by kernel_rfl) rfl ?_
    unfold One
    refine JL.skip rfl rfl rfl ?_
    refine JL.nil ⟨(br_ h00), ?_⟩
    refine JH.take 15 rfl (by kernel_rfl) (by kernel_rfl) (by kernel_rfl) (fun _ _ _ _ hh => hh) (br_ h00) (RunV.pick_f rfl rfl) rfl ?_
    refine JH.take 16 rfl (by kernel_rfl) (by kernel_rfl) (by kernel_rfl) (fun _ _ _ _ hh => hh) (br_ h00) (RunV.move rfl) rfl ?_
    refine JH.skip 17 rfl rfl rfl (by kernel_rfl) (by kernel_rfl) (by kernel_rfl) (fun _ _ _ _ hh => hh) (br_ h00) rfl ?_
    refine JH.skip 18 rfl rfl rfl (by kernel_rfl) (by kernel_rfl) (by kernel_rfl) (fun _ _ _ _ hh => hh) (br_ h00) rfl ?_
    refine JH.all1 19 (by kernel_rfl) rfl ?_
    unfold One
    refine JL.skip rfl rfl rfl ?_
    refine JL.nil ⟨(br_ h00), ?_⟩
    refine JH.all1 20 (by kernel_rfl) rfl ?_
    unfold One
    refine JL.skip rfl rfl rfl ?_
    refine JL.nil ⟨(br_ h00), ?_⟩
    refine JH.skip 21 rfl rfl rfl (by kernel_rfl) (by kernel_rfl) (by kernel_rfl) (fun _ _ _ _ hh => hh) (br_ h00) rfl ?_
    refine JH.take 22 rfl (by kernel_rfl) (by kernel_rfl) (by kernel_rfl) (fun _ _ _ _ hh => hh) (br_ h00) (RunV.pick_f rfl rfl) rfl ?_
    refine JH.take 23 rfl (by kernel_rfl) (by kernel_rfl) (by kernel_rfl) (fun _ _ _ _ hh => hh) (br_ h00) (RunV.move rfl) rfl ?_
    refine JH.skip 24 rfl rfl rfl (by kernel_rfl) (by kernel_rfl) (by kernel_rfl) (fun _ _ _ _ hh => hh) (br_ h00) rfl ?_
    refine JH.skip 25 rfl rfl rfl (by kernel_rfl) (by kernel_rfl) (by kernel_rfl) (fun _ _ _ _ hh => hh) (br_ h00) rfl ?_
    refine JH.all1 26 (by kernel_rfl) rfl ?_
    unfold One
    refine JL.skip rfl rfl rfl ?_
    refine JL.nil ⟨(br_ h00), ?_⟩
    refine JH.skip 27 rfl rfl rfl (by kernel_rfl) (by kernel_rfl) (by kernel_rfl) (fun _ _ _ _ hh => hh) (br_ h00) rfl ?_
    refine JH.take 28 rfl (by kernel_rfl) (by kernel_rfl) (by kernel_rfl) (fun _ _ _ _ hh => hh) (br_ h00) (RunV.pick_f rfl rfl) rfl ?_
    refine JH.take 29 rfl (by kernel_rfl) (by kernel_rfl) (by kernel_rfl) (fun _ _ _ _ hh => hh) (br_ h00) (RunV.move rfl) rfl ?_
    refine JH.skip 30 rfl rfl rfl (by kernel_rfl) (by kernel_rfl) (by kernel_rfl) (fun _ _ _ _ hh => hh) (br_ h00) rfl ?_
    refine JH.skip 31 rfl rfl rfl (by kernel_rfl) (by kernel_rfl) (by kernel_rfl) (fun _ _ _ _ hh => hh) (br_ h00) rfl ?_
    refine JH.skip 32 rfl rfl rfl (by kernel_rfl) (by kernel_rfl) (by kernel_rfl) (fun _ _ _ _ hh => hh) (br_ h00) rfl ?_
    refine JH.skip 33 rfl rfl rfl (by kernel_rfl) (by kernel_rfl) (by kernel_rfl) (fun _ _ _ _ hh => hh) (br_ h00) rfl ?_
    refine JH.all1 34 (by kernel_rfl) rfl ?_
    unfold One
    refine JL.skip rfl rfl rfl ?_
    refine JL.nil ⟨(br_ h00), ?_⟩
    refine JH.skip 35 rfl rfl rfl (by kernel_rfl) (by kernel_rfl) (by kernel_rfl) (fun _ _ _ _ hh => hh) (br_ h00) rfl ?_
    refine JH.take 36 rfl (by kernel_rfl) (by kernel_rfl) (by kernel_rfl) (fun _ _ _ _ hh => hh) (br_ h00) (RunV.pick_f rfl rfl) rfl ?_
    refine JH.take 37 rfl (by kernel_rfl) (by kernel_rfl) (by kernel_rfl) (fun _ _ _ _ hh => hh) (br_ h00) (RunV.assign rfl) rfl ?_
    refine JH.done (by kernel_rfl) ?_
    refine Kp [2] rfl ?_
    exact J.retR (RetV.one rfl rfl) (congrArg Value.bool (by unfold rightB; first | exact decide_eq_decide.2 (by omega) | exact (decide_eq_false (by omega)).symm))
  ·
   refine JH.skip 4 rfl rfl rfl (by kernel_rfl) (by kernel_rfl) (by kernel_rfl) (fun _ _ _ _ hh => hh) (br_ h00) rfl ?_
   refine JH.skip 5 rfl rfl rfl (by kernel_rfl) (by kernel_rfl) (by kernel_rfl) (fun _ _ _ _ hh => hh) (br_ h00) rfl ?_
   refine JH.take 6 rfl (by kernel_rfl) (by kernel_rfl) (by kernel_rfl) (fun _ _ _ _ hh => hh) (br_ h00) (RunV.pick_f rfl rfl) rfl ?_
   refine JH.take 7 rfl (by kernel_rfl) (by kernel_rfl) (by kernel_rfl) (fun _ _ _ _ hh => hh) (br_ h00) (RunV.move rfl) rfl ?_
   refine JH.skip 8 rfl rfl rfl (by kernel_rfl) (by kernel_rfl) (by kernel_rfl) (fun _ _ _ _ hh => hh) (br_ h00) rfl ?_
   refine JH.skip 9 rfl rfl rfl (by kernel_rfl) (by kernel_rfl) (by kernel_rfl) (fun _ _ _ _ hh => hh) (br_ h00) rfl ?_
   refine JH.take 10 rfl (by kernel_rfl) (by kernel_rfl) (by kernel_rfl) (fun _ _ _ _ hh => hh) (br_ h00) (RunV.pick_f rfl rfl) rfl ?_
   refine JH.take 11 rfl (by kernel_rfl) (by kernel_rfl) (by kernel_rfl) (fun _ _ _ _ hh => hh) (br_ h00) (RunV.move rfl) rfl ?_
   refine JH.skip 12 rfl rfl rfl (by kernel_rfl) (by kernel_rfl) (by kernel_rfl) (fun _ _ _ _ hh => hh) (br_ h00) rfl ?_
   refine JH.skip 13 rfl rfl rfl (by kernel_rfl) (by kernel_rfl) (by kernel_rfl) (fun _ _ _ _ hh => hh) (br_ h00) rfl ?_
   refine JH.all1 14 (by kernel_rfl) rfl ?_
   unfold One
   refine JL.skip rfl rfl rfl ?_
   refine JL.nil ⟨(br_ h00), ?_⟩
   refine JH.take 15 rfl (by kernel_rfl) (by kernel_rfl) (by kernel_rfl) (fun _ _ _ _ hh => hh) (br_ h00) (RunV.pick_f rfl rfl) rfl ?_
   refine JH.take 16 rfl (by kernel_rfl) (by kernel_rfl) (by kernel_rfl) (fun _ _ _ _ hh => hh) (br_ h00) (RunV.move rfl) rfl ?_
   refine JH.skip 17 rfl rfl rfl (by kernel_rfl) (by kernel_rfl) (by kernel_rfl) (fun _ _ _ _ hh => hh) (br_ h00) rfl ?_
   refine JH.skip 18 rfl rfl rfl (by kernel_rfl) (by kernel_rfl) (by kernel_rfl) (fun _ _ _ _ hh => hh) (br_ h00) rfl ?_
   refine JH.all1 19 (by kernel_rfl) rfl ?_
   unfold One
   refine JL.skip rfl rfl rfl ?_
   refine JL.nil ⟨(br_ h00), ?_⟩
   refine JH.all1 20 (by kernel_rfl) rfl ?_
   unfold One
   refine JL.skip rfl rfl rfl ?_
   refine JL.nil ⟨(br_ h00), ?_⟩
   refine JH.skip 21 rfl rfl rfl (by kernel_rfl) (by kernel_rfl) (by kernel_rfl) (fun _ _ _ _ hh => hh) (br_ h00) rfl ?_
   refine JH.take 22 rfl (by kernel_rfl) (by kernel_rfl) (by kernel_rfl) (fun _ _ _ _ hh => hh) (br_ h00) (RunV.pick_f rfl rfl) rfl ?_
   refine JH.take 23 rfl (by kernel_rfl) (by kernel_rfl) (by kernel_rfl) (fun _ _ _ _ hh => hh) (br_ h00) (RunV.move rfl) rfl ?_
   refine JH.skip 24 rfl rfl rfl (by kernel_rfl) (by kernel_rfl) (by kernel_rfl) (fun _ _ _ _ hh => hh) (br_ h00) rfl ?_
   refine JH.skip 25 rfl rfl rfl (by kernel_rfl) (by kernel_rfl) (by kernel_rfl) (fun _ _ _ _ hh => hh) (br_ h00) rfl ?_
   refine JH.all1 26 (by kernel_rfl) rfl ?_
   unfold One
   refine JL.skip rfl rfl rfl ?_
   refine JL.nil ⟨(br_ h00), ?_⟩
   refine JH.skip 27 rfl rfl rfl (by kernel_rfl) (by kernel_rfl) (by kernel_rfl) (fun _ _ _ _ hh => hh) (br_ h00) rfl ?_
   refine JH.take 28 rfl (by kernel_rfl) (by kernel_rfl) (by kernel_rfl) (fun _ _ _ _ hh => hh) (br_ h00) (RunV.pick_f rfl rfl) rfl ?_
   refine JH.take 29 rfl (by kernel_rfl) (by kernel_rfl) (by kernel_rfl) (fun _ _ _ _ hh => hh) (br_ h00) (RunV.move rfl) rfl ?_
   refine JH.skip 30 rfl rfl rfl (by kernel_rfl) (by kernel_rfl) (by kernel_rfl) (fun _ _ _ _ hh => hh) (br_ h00) rfl ?_
   refine JH.skip 31 rfl rfl rfl (by kernel_rfl) (by kernel_rfl) (by kernel_rfl) (fun _ _ _ _ hh => hh) (br_ h00) rfl ?_
   refine JH.skip 32 rfl rfl rfl (by kernel_rfl) (by kernel_rfl) (by kernel_rfl) (fun _ _ _ _ hh => hh) (br_ h00) rfl ?_
   refine JH.skip 33 rfl rfl rfl (by kernel_rfl) (by kernel_rfl) (by kernel_rfl) (fun _ _ _ _ hh => hh) (br_ h00) rfl ?_
   refine JH.all1 34 (by kernel_rfl) rfl ?_
   unfold One
   refine JL.skip rfl rfl rfl ?_
   refine JL.nil ⟨(br_ h00), ?_⟩
   refine JH.skip 35 rfl rfl rfl (by kernel_rfl) (by kernel_rfl) (by kernel_rfl) (fun _ _ _ _ hh => hh) (br_ h00) rfl ?_
   refine JH.take 36 rfl (by kernel_rfl) (by kernel_rfl) (by kernel_rfl) (fun _ _ _ _ hh => hh) (br_ h00) (RunV.pick_f rfl rfl) rfl ?_
   refine JH.take 37 rfl (by kernel_rfl) (by kernel_rfl) (by kernel_rfl) (fun _ _ _ _ hh => hh) (br_ h00) (RunV.assign rfl) rfl ?_
   refine JH.done (by kernel_rfl) ?_
   refine Kp [2] rfl ?_
   exact J.retR (RetV.one rfl rfl) (congrArg Value.bool (by unfold rightB; first | exact decide_eq_decide.2 (by omega) | exact (decide_eq_false (by omega)).symm))
end Go.Proofs.YtmngjbefnloljaaGreatDoor
set_option linter.unusedSimpArgs false
set_option linter.unusedVariables false
set_option linter.constructorNameAsVariable false
namespace Go.Proofs.YtmngjbefnloljaaGreatDoor
open Go Go.RowKit
set_option maxRecDepth 100000
theorem ag_32 : aggT Tryz.prog 32 = some (some 3) := by kernel_rfl
theorem ap_62 : apT Tryz.prog 62 = some (61, 2, 16) := by kernel_rfl
theorem ar_61 : arT Tryz.prog 61 = some (2, 1) := by kernel_rfl
theorem az_61 : arZ Tryz.prog 61 = some ([.int .i64 0, .int .i64 0], 1) := by kernel_rfl
theorem ca_50 : callT Tryz.prog 50 = true := by kernel_rfl
theorem ca_51 : callT Tryz.prog 51 = true := by kernel_rfl
theorem ca_52 : callT Tryz.prog 52 = true := by kernel_rfl
theorem ca_54 : callT Tryz.prog 54 = true := by kernel_rfl
theorem ca_93 : callT Tryz.prog 93 = true := by kernel_rfl
theorem cv_3_103 : convI Tryz.prog 3 103 = some .u32 := by kernel_rfl
theorem pl_32 : plT Tryz.prog 32 = some ([.slice none 0 0, .slice none 0 0, .slice none 0 0], [(0, 1), (1, 1), (2, 1)]) := by kernel_rfl
theorem sl_62 : slT Tryz.prog 62 = some (61, 2) := by kernel_rfl
theorem zr_32 : zeroT Tryz.prog 32 = some [.slice none 0 0, .slice none 0 0, .slice none 0 0] := by kernel_rfl
section
variable {f : Fr} {n : Post} {x : Nat → Post} {S : Sig} {h : Part} {L : List Ent} {ops : Array Oper} {l0 : List Oper}
theorem JL.rowsome {a : Option Addr} {c t sz m : Nat} {xs : List Value} (hm : Ent.row a c t sz m xs ∈ L) (h0 : 0 < m) (k : ∀ g, a = some ⟨g, 0, none⟩ → JL f ops n x l0 S h L) : JL f ops n x l0 S h L := fun ac w s => by
  obtain ⟨g, hg⟩ := s.ok.row_some hm h0
  exact k g hg ac w s
end
theorem cells_ws {h : Part} {xs : List Value} {l : List UInt32} (hC : CellsR u32R 1 h xs l) : xs = ws .u32 l := by
  apply List.ext_getElem?
  intro i
  rcases Nat.lt_or_ge i l.length with hi | hi
  · have := hC.2 i l[i] (List.getElem?_eq_getElem hi)
    unfold u32R at this
    rw [Nat.mul_one, List.take_one, List.head?_drop] at this
    rw [ws_at _ _ _ hi, d32_get l i hi]
    cases hx : xs[i]? with
    | none => rw [hx] at this; simp at this
    | some v => rw [hx] at this; simpa using this
  · have h1 := hC.1
    rw [List.getElem?_eq_none (by rw [h1]; omega), List.getElem?_eq_none (by rw [ws_len]; exact hi)]
def belowL (n k : Nat) : List UInt32 := (List.replicate (n / 32) 4294967295 ++ (if 0 < n % 32 then [UInt32.ofNat (2 ^ (n % 32) - 1)] else [])).set 0 (UInt32.ofNat (4294967296 - k))
theorem rbelow_fn {n k : Nat} {h : Part} (hn : 32 ≤ n) (hn2 : n ≤ 100000) (hk : 1 ≤ k) (hk2 : k < 4294967296) : FnR Tryz.prog 93 [.int .i64 n, .int .u32 k] h (fun v h' => ∃ a c, v = .slice a (belowL n k).length c ∧ SlR u32R 1 h' a c (belowL n k)) := by
  refine Fn.intro Tryz.func93 rfl Tryz.ntmps93 rfl (fun e he => ?_)
  refine J.weak [(0, _), (1, _)] ⟨rfl, rfl, trivial⟩ ?_
  have hh0 := Part.le.refl h
  refine Sr ?_
  refine Ru 1 rfl ?_
  refine JL.nil ?_
  refine Sr ?_
  refine Ru 1 rfl ?_
  refine JL.nil ?_
  refine J.seq ?_
  refine Sr ?_
  refine JL.row_nil 103 1 ?_
  refine Ru 1 rfl ?_
  refine JL.nil ?_
  refine J.block ?_
  refine J.loop (fun t_ S_ h_ L_ => ∃ (i : Nat) (ao : Option Addr) (co : Nat) (xs : List Value), t_ = n / 32 - i ∧ S_ = [(0, .int .i64 n), (1, .int .u32 k), (5, .slice ao (List.replicate i (4294967295 : UInt32)).length co), (6, .int .i64 i)] ∧ h = h_ ∧ L_ = [.row ao co 103 1 (List.replicate i (4294967295 : UInt32)).length xs] ∧ (i ≤ n / 32 ∧ CellsR u32R 1 h xs (List.replicate i 4294967295))) ⟨_, _, ?_, ⟨0, _, _, _, rfl, rfl, rfl, rfl, ⟨by omega, CellsR.nil⟩⟩⟩ ?_
  ·
   repeat (first | exact trivial | refine ⟨rfl, ?_⟩ | refine ⟨(by exact some_int (by omega)), ?_⟩)
  rintro _ _ _ _ ⟨i, ao, co, xs, rfl, rfl, rfl, rfl, hi, hC⟩
  refine J.seq ?_
  refine Sr ?_
  refine Ru 2 rfl ?_
  refine JL.op (by first | exact RunV.quo_i64 rfl rfl (by omega) (by omega) (by omega) | exact RunV.quo rfl rfl (by omega)) rfl ?_
  refine Ru 1 rfl ?_
  refine JL.nil ?_
  refine Cs rfl (fun hc1 => ?_) fun hc1 => ?_
  ·
   have hlr : (List.replicate i (4294967295 : UInt32)).length = i := List.length_replicate; have hke : List.replicate i (4294967295 : UInt32) ++ [4294967295] = List.replicate (i + 1) 4294967295 := List.replicate_succ'.symm
   refine J.skip ?_
   refine J.seq ?_
   refine J.block ?_
   refine Rg ?_
   refine Ru 1 rfl ?_
   refine JL.lit1 ap_30 zr_103 rfl rfl rfl rfl rfl (fun b2 => ?_)
   refine JL.append1 ap_30 rfl rfl (by assumption) rfl dl_ dl_ rfl ((by exact rfl : u32R _ [.int .u32 4294967295] (4294967295 : UInt32))) (by first | omega | (simp only [List.length_append, List.length_cons, List.length_nil]; omega)) rfl rfl (fun a3 c3 xs3 hC3 hN3 => ?_)
   rw [hke] at *
   refine Ru 1 rfl ?_
   refine JL.nil ?_
   refine Rg ?_
   refine Ru 1 rfl ?_
   refine JL.op ai_ rfl ?_
   refine Ru 1 rfl ?_
   refine JL.nil ?_
   refine ⟨_, ?_, _, ?_, ⟨i + 1, _, _, _, rfl, rfl, rfl, rfl, ⟨by omega, by assumption⟩⟩⟩
   ·
    omega
   ·
    repeat (first | exact trivial | refine ⟨rfl, ?_⟩ | refine ⟨(by exact some_int (by omega)), ?_⟩)
  ·
   have hie : i = n / 32 := (by omega); subst hie; have hlr : (List.replicate (n / 32) (4294967295 : UInt32)).length = n / 32 := List.length_replicate; have hp2 : (0 : Int) < ((2 ^ (n % 32) : Nat) : Int) := (by have := Nat.two_pow_pos (n % 32); omega); have hp3 : ((2 ^ (n % 32) : Nat) : Int) ≤ 2147483648 := (by have := Nat.pow_le_pow_right (show 0 < 2 by decide) (show n % 32 ≤ 31 by omega); omega)
   refine J.exit ?_
   refine Kp [0, 1, 5] rfl ?_
   refine J.seq ?_
   refine Sr ?_
   refine Ru 1 rfl ?_
   refine JL.op (by first | exact RunV.rem_i64 rfl rfl (by omega) (by omega) | exact RunV.rem rfl rfl (by omega)) rfl ?_
   refine Ru 1 rfl ?_
   refine JL.nil ?_
   refine Cs rfl (fun hc4 => ?_) fun hc4 => ?_
   ·
    refine Rg ?_
    refine Ru 2 rfl ?_
    refine JL.op (by first | exact RunV.rem_i64 rfl rfl (by omega) (by omega) | exact RunV.rem rfl rfl (by omega)) rfl ?_
    refine JL.op (RunV.toW (n % 32) cv_3_103 rfl (by omega)) rfl ?_
    refine JL.op (RunV.shl_u32 ((2 ^ (n % 32) : Nat) : Int) rfl rfl (by omega) (by omega) (by rw [show (((n % 32 % 4294967296 : Nat) : Int)).toNat = n % 32 by omega, Int.natCast_pow]; rfl) (by omega) (by omega)) rfl ?_
    rw [Int.one_mul]
    refine JL.op (by first | exact RunV.sub_u32 rfl rfl (by omega) (by omega) | exact RunV.sub rfl rfl) rfl ?_
    refine JL.lit1 ap_30 zr_103 rfl rfl rfl rfl rfl (fun b5 => ?_)
    refine JL.append1 ap_30 rfl rfl (by assumption) rfl dl_ dl_ rfl ((by show _ = _; have hp4 : 2 ^ (n % 32) ≤ 2147483648 := (by omega); have hp5 : 0 < 2 ^ (n % 32) := Nat.two_pow_pos _; rw [UInt32.toNat_ofNat', Nat.mod_eq_of_lt (show 2 ^ (n % 32) - 1 < 2 ^ 32 by omega), show (((2 ^ (n % 32) : Nat) : Int) - 1) = ((2 ^ (n % 32) - 1 : Nat) : Int) by omega] : u32R _ [.int .u32 (((2 ^ (n % 32) : Nat) : Int) - 1)] (UInt32.ofNat (2 ^ (n % 32) - 1)))) (by first | omega | (simp only [List.length_append, List.length_cons, List.length_nil]; omega)) rfl rfl (fun a6 c6 xs6 hC6 hN6 => ?_)
    refine Ru 1 rfl ?_
    refine Nk [5, 1] rfl ?_
    refine Sr ?_
    obtain ⟨LL, hLL⟩ : ∃ LL, List.replicate (n / 32) (4294967295 : UInt32) ++ (if 0 < n % 32 then [UInt32.ofNat (2 ^ (n % 32) - 1)] else []) = LL := ⟨_, rfl⟩; have hBL : LL.set 0 (UInt32.ofNat (4294967296 - k)) = belowL n k := (by rw [← hLL]; rfl); have hBl : LL.length = (belowL n k).length := (by rw [← hBL, List.length_set]); have hL2 : LL.length ≤ 1000000 := (by rw [← hLL, List.length_append, hlr]; split <;> simp <;> omega); have hL1 : 0 < LL.length := (by rw [← hLL, List.length_append, hlr]; omega); have hL0 : d32 LL 0 = 4294967295 := (by rw [d32_get LL 0 hL1]; subst hLL; rw [List.getElem_append_left (by rw [hlr]; omega), List.getElem_replicate]; rfl); (first | (rw [if_pos (show 0 < n % 32 by omega)] at hLL) | (rw [if_neg (show ¬ 0 < n % 32 by omega), List.append_nil] at hLL)); have hlm := congrArg List.length hLL; have hCC : CellsR u32R 1 _ _ LL := (by first | exact hLL ▸ (by assumption : CellsR u32R 1 _ _ (List.replicate (n / 32) (4294967295 : UInt32) ++ [UInt32.ofNat (2 ^ (n % 32) - 1)])) | exact hLL ▸ hC); refine JL.rowsome mm_ (by rw [hlm]; exact hL1) (fun g hg => ?_); subst hg; have hxw := cells_ws (l := LL) hCC; subst hxw
    refine Ru 2 rfl ?_
    refine JL.op (RunV.index_at sl_30 (m := 0) rfl rfl rfl (by first | exact hL1 | (rw [hlm]; exact hL1))) rfl ?_
    refine JL.op (RunV.wload ag_103 rfl mm_ hL1) rfl ?_
    rw [hL0]
    refine Ru 1 rfl ?_
    refine JL.op (by first | exact RunV.sub_u32 rfl rfl (by omega) (by omega) | exact RunV.sub rfl rfl) rfl ?_
    refine JL.op (by first | exact RunV.add_u32 rfl rfl (by omega) (by omega) | exact RunV.add rfl rfl) rfl ?_
    refine JL.op (RunV.index_at sl_30 (m := 0) rfl rfl rfl (by first | exact hL1 | (rw [hlm]; exact hL1))) rfl ?_
    refine JL.storeW (4294967296 - k) ag_103 rfl rfl (by omega) dl_ hL1 ?_
    refine Nk [5] rfl ?_
    refine Sr ?_
    refine JL.pub32 dl_ (by rw [List.length_set]; exact hlm) (by rw [List.length_set]; omega) (fun h9 hle9 hP9 => ?_)
    refine Ru 2 rfl ?_
    refine JL.nil ?_
    rw [hBL] at hP9; rw [hlm, hBl]; exact J.retR (RetV.one rfl rfl) ⟨_, _, rfl, hP9⟩
   ·
    refine J.skip ?_
    refine Kp [1, 5] rfl ?_
    refine Sr ?_
    obtain ⟨LL, hLL⟩ : ∃ LL, List.replicate (n / 32) (4294967295 : UInt32) ++ (if 0 < n % 32 then [UInt32.ofNat (2 ^ (n % 32) - 1)] else []) = LL := ⟨_, rfl⟩; have hBL : LL.set 0 (UInt32.ofNat (4294967296 - k)) = belowL n k := (by rw [← hLL]; rfl); have hBl : LL.length = (belowL n k).length := (by rw [← hBL, List.length_set]); have hL2 : LL.length ≤ 1000000 := (by rw [← hLL, List.length_append, hlr]; split <;> simp <;> omega); have hL1 : 0 < LL.length := (by rw [← hLL, List.length_append, hlr]; omega); have hL0 : d32 LL 0 = 4294967295 := (by rw [d32_get LL 0 hL1]; subst hLL; rw [List.getElem_append_left (by rw [hlr]; omega), List.getElem_replicate]; rfl); (first | (rw [if_pos (show 0 < n % 32 by omega)] at hLL) | (rw [if_neg (show ¬ 0 < n % 32 by omega), List.append_nil] at hLL)); have hlm := congrArg List.length hLL; have hCC : CellsR u32R 1 _ _ LL := (by first | exact hLL ▸ (by assumption : CellsR u32R 1 _ _ (List.replicate (n / 32) (4294967295 : UInt32) ++ [UInt32.ofNat (2 ^ (n % 32) - 1)])) | exact hLL ▸ hC); refine JL.rowsome mm_ (by rw [hlm]; exact hL1) (fun g hg => ?_); subst hg; have hxw := cells_ws (l := LL) hCC; subst hxw
    refine Ru 2 rfl ?_
    refine JL.op (RunV.index_at sl_30 (m := 0) rfl rfl rfl (by first | exact hL1 | (rw [hlm]; exact hL1))) rfl ?_
    refine JL.op (RunV.wload ag_103 rfl mm_ hL1) rfl ?_
    rw [hL0]
    refine Ru 1 rfl ?_
    refine JL.op (by first | exact RunV.sub_u32 rfl rfl (by omega) (by omega) | exact RunV.sub rfl rfl) rfl ?_
    refine JL.op (by first | exact RunV.add_u32 rfl rfl (by omega) (by omega) | exact RunV.add rfl rfl) rfl ?_
    refine JL.op (RunV.index_at sl_30 (m := 0) rfl rfl rfl (by first | exact hL1 | (rw [hlm]; exact hL1))) rfl ?_
    refine JL.storeW (4294967296 - k) ag_103 rfl rfl (by omega) dl_ hL1 ?_
    refine Nk [5] rfl ?_
    refine Sr ?_
    refine JL.pub32 dl_ (by rw [List.length_set]; exact hlm) (by rw [List.length_set]; omega) (fun h9 hle9 hP9 => ?_)
    refine Ru 2 rfl ?_
    refine JL.nil ?_
    rw [hBL] at hP9; rw [hlm, hBl]; exact J.retR (RetV.one rfl rfl) ⟨_, _, rfl, hP9⟩
def primeL : Nat → List UInt32
  | 0 => belowL 256 189
  | 1 => belowL 255 19
  | 2 => belowL 256 357
  | 3 => belowL 255 31
  | 4 => belowL 257 93
  | _ => belowL 521 1
theorem primeL_len : ∀ i, (primeL i).length ≤ 20 := fun i => by
  unfold primeL; split <;> decide
theorem rprimes_fn {k : Int} {h : Part} (h0 : -9223372036854775808 ≤ k) (h1 : k ≤ 9223372036854775807) : FnR Tryz.prog 52 [.int .i64 k] h (fun v h' => ∃ a c, v = .slice a (primeL (amongI k 6).toNat).length c ∧ SlR u32R 1 h' a c (primeL (amongI k 6).toNat)) := by
  obtain ⟨g0, g1⟩ := amongI_bd k 6 (by decide)
  obtain ⟨m, hm⟩ : ∃ m : Nat, amongI k 6 = (m : Int) := ⟨(amongI k 6).toNat, by omega⟩
  rw [hm, Int.toNat_natCast]
  refine Fn.intro Tryz.func52 rfl Tryz.ntmps52 rfl (fun e he => ?_)
  refine J.weak [(0, _)] ⟨rfl, trivial⟩ ?_
  have hh0 := Part.le.refl h
  refine Sr ?_
  refine Ru 1 rfl ?_
  refine JL.nil ?_
  refine J.seq ?_
  refine Sr ?_
  refine Ru 1 rfl ?_
  refine JL.callP ca_50 rfl (among_fn _ _ _ (by omega) (by omega) (by omega)) rfl ?_
  rw [hm]
  refine JL.nil ?_
  refine J.block ?_
  refine Sr ?_
  refine Ru 2 rfl ?_
  refine JL.nil ?_
  refine Cs rfl (fun hc2 => ?_) fun hc2 => ?_
  ·
   obtain rfl : m = 0 := (by omega)
   refine Sr ?_
   refine JL.callR ca_93 rfl (rbelow_fn (n := 256) (k := 189) (by decide) (by decide) (by decide) (by decide)) rfl ?_
   rintro _ h3 hle3 ⟨ra, rc, rfl, hR⟩
   replace hh0 := hh0.mono hle3
   refine Ru 1 rfl ?_
   refine Nk [2] rfl ?_
   exact J.retR (RetV.one rfl rfl) ⟨_, _, rfl, hR⟩
  ·
   refine Sr ?_
   refine Ru 2 rfl ?_
   refine Nk [8, 4, 2] rfl ?_
   refine Cs rfl (fun hc4 => ?_) fun hc4 => ?_
   ·
    obtain rfl : m = 1 := (by omega)
    refine Sr ?_
    refine JL.callR ca_93 rfl (rbelow_fn (n := 255) (k := 19) (by decide) (by decide) (by decide) (by decide)) rfl ?_
    rintro _ h5 hle5 ⟨ra, rc, rfl, hR⟩
    replace hh0 := hh0.mono hle5
    refine Ru 1 rfl ?_
    refine Nk [2] rfl ?_
    exact J.retR (RetV.one rfl rfl) ⟨_, _, rfl, hR⟩
   ·
    refine Sr ?_
    refine Ru 2 rfl ?_
    refine JL.nil ?_
    refine Cs rfl (fun hc6 => ?_) fun hc6 => ?_
    ·
     obtain rfl : m = 2 := (by omega)
     refine Sr ?_
     refine JL.callR ca_93 rfl (rbelow_fn (n := 256) (k := 357) (by decide) (by decide) (by decide) (by decide)) rfl ?_
     rintro _ h7 hle7 ⟨ra, rc, rfl, hR⟩
     replace hh0 := hh0.mono hle7
     refine Ru 1 rfl ?_
     refine Nk [2] rfl ?_
     exact J.retR (RetV.one rfl rfl) ⟨_, _, rfl, hR⟩
    ·
     refine Sr ?_
     refine Ru 2 rfl ?_
     refine Nk [14, 4, 2] rfl ?_
     refine Cs rfl (fun hc8 => ?_) fun hc8 => ?_
     ·
      obtain rfl : m = 3 := (by omega)
      refine Sr ?_
      refine JL.callR ca_93 rfl (rbelow_fn (n := 255) (k := 31) (by decide) (by decide) (by decide) (by decide)) rfl ?_
      rintro _ h9 hle9 ⟨ra, rc, rfl, hR⟩
      replace hh0 := hh0.mono hle9
      refine Ru 1 rfl ?_
      refine Nk [2] rfl ?_
      exact J.retR (RetV.one rfl rfl) ⟨_, _, rfl, hR⟩
     ·
      refine Sr ?_
      refine Ru 2 rfl ?_
      refine JL.nil ?_
      refine Cs rfl (fun hc10 => ?_) fun hc10 => ?_
      ·
       obtain rfl : m = 4 := (by omega)
       refine Sr ?_
       refine JL.callR ca_93 rfl (rbelow_fn (n := 257) (k := 93) (by decide) (by decide) (by decide) (by decide)) rfl ?_
       rintro _ h11 hle11 ⟨ra, rc, rfl, hR⟩
       replace hh0 := hh0.mono hle11
       refine Ru 1 rfl ?_
       refine Nk [2] rfl ?_
       exact J.retR (RetV.one rfl rfl) ⟨_, _, rfl, hR⟩
      ·
       obtain rfl : m = 5 := (by omega)
       refine J.skip ?_
       refine Kp [2] rfl ?_
       refine Sr ?_
       refine JL.callR ca_93 rfl (rbelow_fn (n := 521) (k := 1) (by decide) (by decide) (by decide) (by decide)) rfl ?_
       rintro _ h12 hle12 ⟨ra, rc, rfl, hR⟩
       replace hh0 := hh0.mono hle12
       refine Ru 1 rfl ?_
       refine JL.nil ?_
       exact J.retR (RetV.one rfl rfl) ⟨_, _, rfl, hR⟩
def expL : Nat → List UInt32
  | 0 => [0xb9c9afc1, 0xb9c94636, 0xb9c94636, 0xb9c94636, 0xb9c94636, 0xb9c94636, 0xb9c94636, 0xb9c94636, 0x65af9976, 0x65af9a50, 0x65af9a50, 0x65af9a50, 0x65af9a50, 0x65af9a50, 0x65af9a50, 0x65af9a50]
  | 1 => [0xa813656d, 0xa81357ec, 0xa81357ec, 0xa81357ec, 0xa81357ec, 0xa81357ec, 0xa81357ec, 0xa81357ec, 0x63159c8e, 0x63159cea, 0x63159cea, 0x63159cea, 0x63159cea, 0x63159cea, 0x63159cea, 0x63159cea]
  | 2 => [0x197912ed, 0x1978e687, 0x1978e687, 0x1978e687, 0x1978e687, 0x1978e687, 0x1978e687, 0x1978e687, 0xaced5201, 0xaced5312, 0xaced5312, 0xaced5312, 0xaced5312, 0xaced5312, 0xaced5312, 0xaced5312]
  | 3 => [0xc45a3f41, 0xc45a3ba5, 0xc45a3ba5, 0xc45a3ba5, 0xc45a3ba5, 0xc45a3ba5, 0xc45a3ba5, 0xc45a3ba5, 0x7db7821d, 0x7db78248, 0x7db78248, 0x7db78248, 0x7db78248, 0x7db78248, 0x7db78248, 0x7db78248]
  | 4 => [0x4623bbc1, 0x4623b9dc, 0x4623b9dc, 0x4623b9dc, 0x4623b9dc, 0x4623b9dc, 0x4623b9dc, 0x4623b9dc, 0x2940d6ad, 0x2940d6bf, 0x2940d6bf, 0x2940d6bf, 0x2940d6bf, 0x2940d6bf, 0x2940d6bf, 0x2940d6bf]
  | 5 => [0xa87558e9, 0xa875578a, 0xa875578a, 0xa875578a, 0xa875578a, 0xa875578a, 0xa875578a, 0xa875578a, 0x807f7f7e, 0x807f7f80, 0x807f7f80, 0x807f7f80, 0x807f7f80, 0x807f7f80, 0x807f7f80, 0x807f7f80, 0xa269780, 0xa27f5d8, 0xa27f5d8, 0xa27f5d8, 0xa27f5d8, 0xa27f5d8, 0xa27f5d8, 0xa27f5d8, 0x1d8]
  | 6 => [0xa4b65c7d, 0xa4b65b49, 0xa4b65b49, 0xa4b65b49, 0xa4b65b49, 0xa4b65b49, 0xa4b65b49, 0xa4b65b49, 0x807f7f7f, 0x807f7f80, 0x807f7f80, 0x807f7f80, 0x807f7f80, 0x807f7f80, 0x807f7f80, 0x807f7f80, 0xc9230380, 0xc92436db, 0xc92436db, 0xc92436db, 0xc92436db, 0xc92436db, 0xc92436db, 0xc92436db, 0xdb]
  | 7 => [0xb84e47d1, 0xb84e47b1, 0xb84e47b1, 0xb84e47b1, 0xb84e47b1, 0xb84e47b1, 0xb84e47b1, 0xb84e47b1, 0x807f7f7f, 0x807f7f80, 0x807f7f80, 0x807f7f80, 0x807f7f80, 0x807f7f80, 0x807f7f80, 0x807f7f80, 0x3137af80, 0x3137cec8, 0x3137cec8, 0x3137cec8, 0x3137cec8, 0x3137cec8, 0x3137cec8, 0x3137cec8, 0xc8]
  | 8 => [0xf86107c1, 0xf861079e, 0xf861079e, 0xf861079e, 0xf861079e, 0xf861079e, 0xf861079e, 0xf861079e, 0x807f7f7f, 0x807f7f80, 0x807f7f80, 0x807f7f80, 0x807f7f80, 0x807f7f80, 0x807f7f80, 0x807f7f80, 0x1e77bf80, 0x1e77e188, 0x1e77e188, 0x1e77e188, 0x1e77e188, 0x1e77e188, 0x1e77e188, 0x1e77e188, 0x88]
  | 9 => [0x72988d99, 0x72988d67, 0x72988d67, 0x72988d67, 0x72988d67, 0x72988d67, 0x72988d67, 0x72988d67, 0x807f7f7f, 0x807f7f80, 0x807f7f80, 0x807f7f80, 0x807f7f80, 0x807f7f80, 0x807f7f80, 0x807f7f80, 0xe6f1e780, 0xe6f2190d, 0xe6f2190d, 0xe6f2190d, 0xe6f2190d, 0xe6f2190d, 0xe6f2190d, 0xe6f2190d, 0x10d]
  | 10 => [0x956b39cd, 0x956a956a, 0x956a956a, 0x956a956a, 0x956a956a, 0x956a956a, 0x956a956a, 0x956a956a, 0x9e619d0e, 0x9e619e61, 0x9e619e61, 0x9e619e61, 0x9e619e61, 0x9e619e61, 0x9e619e61, 0x9e619e61]
  | 11 => [0x11ee43e1, 0x11ee11ee, 0x11ee11ee, 0x11ee11ee, 0x11ee11ee, 0x11ee11ee, 0x11ee11ee, 0x11ee11ee, 0x6e916d3e, 0x6e916e91, 0x6e916e91, 0x6e916e91, 0x6e916e91, 0x6e916e91, 0x6e916e91, 0x6e916e91, 0x1]
  | _ => []
theorem cells_lit32 {h : Part} {xs : List Value} {l : List UInt32} (e : ws .u32 l = xs) : CellsR u32R 1 h xs l := e ▸ CellsR.of_ws32
theorem rexponent_fn {i : Nat} {h : Part} (hi : i < 12) : FnR Tryz.prog 54 [.int .i64 i] h (fun v h' => ∃ a c, v = .slice a (expL i).length c ∧ SlR u32R 1 h' a c (expL i)) := by
  refine Fn.intro Tryz.func54 rfl Tryz.ntmps54 rfl (fun e he => ?_)
  refine J.weak [(0, _)] ⟨rfl, trivial⟩ ?_
  have hh0 := Part.le.refl h
  refine Sr ?_
  refine Ru 1 rfl ?_
  refine JL.nil ?_
  refine J.seq ?_
  refine Sr ?_
  refine Ru 1 rfl ?_
  refine JL.nil ?_
  refine J.block ?_
  refine Sr ?_
  refine Ru 2 rfl ?_
  refine JL.nil ?_
  refine Cs rfl (fun hc1 => ?_) fun hc1 => ?_
  ·
   obtain rfl : i = 0 := (by omega)
   refine Sr ?_
   refine JL.lit1 ap_30 zr_103 rfl rfl rfl rfl rfl (fun b2 => ?_)
   refine JL.pubB (R := u32R) (sz := 1) (l := (expL 0)) dl_ ((cells_lit32 (by kernel_rfl))) (by first | decide | omega | (rw [digN_len]; decide) | (simp; done) | (simp [digN_len]; done)) (fun h3 hle3 hQ => ?_)
   replace hh0 := hh0.mono hle3
   refine Ru 1 rfl ?_
   refine Nk [2] rfl ?_
   exact J.retR (RetV.one rfl rfl) ⟨_, _, rfl, hQ⟩
  ·
   refine Sr ?_
   refine Ru 2 rfl ?_
   refine Nk [7, 3, 2] rfl ?_
   refine Cs rfl (fun hc4 => ?_) fun hc4 => ?_
   ·
    obtain rfl : i = 1 := (by omega)
    refine Sr ?_
    refine JL.lit1 ap_30 zr_103 rfl rfl rfl rfl rfl (fun b5 => ?_)
    refine JL.pubB (R := u32R) (sz := 1) (l := (expL 1)) dl_ ((cells_lit32 (by kernel_rfl))) (by first | decide | omega | (rw [digN_len]; decide) | (simp; done) | (simp [digN_len]; done)) (fun h6 hle6 hQ => ?_)
    replace hh0 := hh0.mono hle6
    refine Ru 1 rfl ?_
    refine Nk [2] rfl ?_
    exact J.retR (RetV.one rfl rfl) ⟨_, _, rfl, hQ⟩
   ·
    refine Sr ?_
    refine Ru 2 rfl ?_
    refine JL.nil ?_
    refine Cs rfl (fun hc7 => ?_) fun hc7 => ?_
    ·
     obtain rfl : i = 2 := (by omega)
     refine Sr ?_
     refine JL.lit1 ap_30 zr_103 rfl rfl rfl rfl rfl (fun b8 => ?_)
     refine JL.pubB (R := u32R) (sz := 1) (l := (expL 2)) dl_ ((cells_lit32 (by kernel_rfl))) (by first | decide | omega | (rw [digN_len]; decide) | (simp; done) | (simp [digN_len]; done)) (fun h9 hle9 hQ => ?_)
     replace hh0 := hh0.mono hle9
     refine Ru 1 rfl ?_
     refine Nk [2] rfl ?_
     exact J.retR (RetV.one rfl rfl) ⟨_, _, rfl, hQ⟩
    ·
     refine Sr ?_
     refine Ru 2 rfl ?_
     refine Nk [13, 3, 2] rfl ?_
     refine Cs rfl (fun hc10 => ?_) fun hc10 => ?_
     ·
      obtain rfl : i = 3 := (by omega)
      refine Sr ?_
      refine JL.lit1 ap_30 zr_103 rfl rfl rfl rfl rfl (fun b11 => ?_)
      refine JL.pubB (R := u32R) (sz := 1) (l := (expL 3)) dl_ ((cells_lit32 (by kernel_rfl))) (by first | decide | omega | (rw [digN_len]; decide) | (simp; done) | (simp [digN_len]; done)) (fun h12 hle12 hQ => ?_)
      replace hh0 := hh0.mono hle12
      refine Ru 1 rfl ?_
      refine Nk [2] rfl ?_
      exact J.retR (RetV.one rfl rfl) ⟨_, _, rfl, hQ⟩
     ·
      refine Sr ?_
      refine Ru 2 rfl ?_
      refine JL.nil ?_
      refine Cs rfl (fun hc13 => ?_) fun hc13 => ?_
      ·
       obtain rfl : i = 4 := (by omega)
       refine Sr ?_
       refine JL.lit1 ap_30 zr_103 rfl rfl rfl rfl rfl (fun b14 => ?_)
       refine JL.pubB (R := u32R) (sz := 1) (l := (expL 4)) dl_ ((cells_lit32 (by kernel_rfl))) (by first | decide | omega | (rw [digN_len]; decide) | (simp; done) | (simp [digN_len]; done)) (fun h15 hle15 hQ => ?_)
       replace hh0 := hh0.mono hle15
       refine Ru 1 rfl ?_
       refine Nk [2] rfl ?_
       exact J.retR (RetV.one rfl rfl) ⟨_, _, rfl, hQ⟩
      ·
       refine Sr ?_
       refine Ru 2 rfl ?_
       refine Nk [19, 3, 2] rfl ?_
       refine Cs rfl (fun hc16 => ?_) fun hc16 => ?_
       ·
        obtain rfl : i = 5 := (by omega)
        refine Sr ?_
        refine JL.lit1 ap_30 zr_103 rfl rfl rfl rfl rfl (fun b17 => ?_)
        refine JL.pubB (R := u32R) (sz := 1) (l := (expL 5)) dl_ ((cells_lit32 (by kernel_rfl))) (by first | decide | omega | (rw [digN_len]; decide) | (simp; done) | (simp [digN_len]; done)) (fun h18 hle18 hQ => ?_)
        replace hh0 := hh0.mono hle18
        refine Ru 1 rfl ?_
        refine Nk [2] rfl ?_
        exact J.retR (RetV.one rfl rfl) ⟨_, _, rfl, hQ⟩
       ·
        refine Sr ?_
        refine Ru 2 rfl ?_
        refine JL.nil ?_
        refine Cs rfl (fun hc19 => ?_) fun hc19 => ?_
        ·
         obtain rfl : i = 6 := (by omega)
         refine Sr ?_
         refine JL.lit1 ap_30 zr_103 rfl rfl rfl rfl rfl (fun b20 => ?_)
         refine JL.pubB (R := u32R) (sz := 1) (l := (expL 6)) dl_ ((cells_lit32 (by kernel_rfl))) (by first | decide | omega | (rw [digN_len]; decide) | (simp; done) | (simp [digN_len]; done)) (fun h21 hle21 hQ => ?_)
         replace hh0 := hh0.mono hle21
         refine Ru 1 rfl ?_
         refine Nk [2] rfl ?_
         exact J.retR (RetV.one rfl rfl) ⟨_, _, rfl, hQ⟩
        ·
         refine Sr ?_
         refine Ru 2 rfl ?_
         refine Nk [25, 3, 2] rfl ?_
         refine Cs rfl (fun hc22 => ?_) fun hc22 => ?_
         ·
          obtain rfl : i = 7 := (by omega)
          refine Sr ?_
          refine JL.lit1 ap_30 zr_103 rfl rfl rfl rfl rfl (fun b23 => ?_)
          refine JL.pubB (R := u32R) (sz := 1) (l := (expL 7)) dl_ ((cells_lit32 (by kernel_rfl))) (by first | decide | omega | (rw [digN_len]; decide) | (simp; done) | (simp [digN_len]; done)) (fun h24 hle24 hQ => ?_)
          replace hh0 := hh0.mono hle24
          refine Ru 1 rfl ?_
          refine Nk [2] rfl ?_
          exact J.retR (RetV.one rfl rfl) ⟨_, _, rfl, hQ⟩
         ·
          refine Sr ?_
          refine Ru 2 rfl ?_
          refine JL.nil ?_
          refine Cs rfl (fun hc25 => ?_) fun hc25 => ?_
          ·
           obtain rfl : i = 8 := (by omega)
           refine Sr ?_
           refine JL.lit1 ap_30 zr_103 rfl rfl rfl rfl rfl (fun b26 => ?_)
           refine JL.pubB (R := u32R) (sz := 1) (l := (expL 8)) dl_ ((cells_lit32 (by kernel_rfl))) (by first | decide | omega | (rw [digN_len]; decide) | (simp; done) | (simp [digN_len]; done)) (fun h27 hle27 hQ => ?_)
           replace hh0 := hh0.mono hle27
           refine Ru 1 rfl ?_
           refine Nk [2] rfl ?_
           exact J.retR (RetV.one rfl rfl) ⟨_, _, rfl, hQ⟩
          ·
           refine Sr ?_
           refine Ru 2 rfl ?_
           refine Nk [31, 3, 2] rfl ?_
           refine Cs rfl (fun hc28 => ?_) fun hc28 => ?_
           ·
            obtain rfl : i = 9 := (by omega)
            refine Sr ?_
            refine JL.lit1 ap_30 zr_103 rfl rfl rfl rfl rfl (fun b29 => ?_)
            refine JL.pubB (R := u32R) (sz := 1) (l := (expL 9)) dl_ ((cells_lit32 (by kernel_rfl))) (by first | decide | omega | (rw [digN_len]; decide) | (simp; done) | (simp [digN_len]; done)) (fun h30 hle30 hQ => ?_)
            replace hh0 := hh0.mono hle30
            refine Ru 1 rfl ?_
            refine Nk [2] rfl ?_
            exact J.retR (RetV.one rfl rfl) ⟨_, _, rfl, hQ⟩
           ·
            refine Sr ?_
            refine Ru 2 rfl ?_
            refine JL.nil ?_
            refine Cs rfl (fun hc31 => ?_) fun hc31 => ?_
            ·
             obtain rfl : i = 10 := (by omega)
             refine Sr ?_
             refine JL.lit1 ap_30 zr_103 rfl rfl rfl rfl rfl (fun b32 => ?_)
             refine JL.pubB (R := u32R) (sz := 1) (l := (expL 10)) dl_ ((cells_lit32 (by kernel_rfl))) (by first | decide | omega | (rw [digN_len]; decide) | (simp; done) | (simp [digN_len]; done)) (fun h33 hle33 hQ => ?_)
             replace hh0 := hh0.mono hle33
             refine Ru 1 rfl ?_
             refine Nk [2] rfl ?_
             exact J.retR (RetV.one rfl rfl) ⟨_, _, rfl, hQ⟩
            ·
             refine Sr ?_
             refine Ru 2 rfl ?_
             refine Nk [37, 2] rfl ?_
             refine Cs rfl (fun hc34 => ?_) fun hc34 => ?_
             ·
              obtain rfl : i = 11 := (by omega)
              refine Sr ?_
              refine JL.lit1 ap_30 zr_103 rfl rfl rfl rfl rfl (fun b35 => ?_)
              refine JL.pubB (R := u32R) (sz := 1) (l := (expL 11)) dl_ ((cells_lit32 (by kernel_rfl))) (by first | decide | omega | (rw [digN_len]; decide) | (simp; done) | (simp [digN_len]; done)) (fun h36 hle36 hQ => ?_)
              replace hh0 := hh0.mono hle36
              refine Ru 1 rfl ?_
              refine JL.nil ?_
              exact J.retR (RetV.one rfl rfl) ⟨_, _, rfl, hQ⟩
             ·
              refine J.skip ?_
              refine Sr ?_
              refine Ru 1 rfl ?_
              refine JL.nil ?_
              exfalso; omega
def pairR : Rep (Int × Int) := fun _ cs p => cs = [.int .i64 p.1, .int .i64 p.2]
instance : Mono pairR := ⟨fun _ r => r, fun r u hu => by unfold pairR at r; subst r; simp only [List.mem_cons, List.not_mem_nil, or_false] at hu; rcases hu with rfl | rfl <;> rfl⟩
theorem cells_pairs {h : Part} : ∀ (l : List (Int × Int)), CellsR pairR 2 h (l.flatMap fun p => [.int .i64 p.1, .int .i64 p.2]) l
  | [] => CellsR.nil
  | p :: r => by
    have ih := cells_pairs (h := h) r
    refine ⟨by have := ih.1; simp only [List.flatMap_cons, List.length_append, List.length_cons, List.length_nil] at this ⊢; omega, fun i x hx => ?_⟩
    cases i with
    | zero => simp only [List.getElem?_cons_zero, Option.some.injEq] at hx; subst hx; rfl
    | succ i =>
      have := ih.2 i x (by simpa using hx)
      rw [show (i + 1) * 2 = i * 2 + 1 + 1 by omega, List.flatMap_cons]
      exact this
def pairsL : List (Int × Int) := [(0, 2), (0, 4), (2, 4), (4, 1), (4, 3), (0, 5), (2, 5), (1, 5), (3, 5), (4, 5), (0, 2), (0, 4)]
def keyN (i : Nat) : Nat := vL (primeL (amongI (pairsL.getD i (0, 0)).1 6).toNat) * vL (primeL (amongI (pairsL.getD i (0, 0)).2 6).toNat)
def keyE (i : Nat) : Nat := if 10 ≤ i then 257 else 65537
theorem pairs_bd (i : Nat) : -10 ≤ (pairsL.getD i (0, 0)).1 ∧ (pairsL.getD i (0, 0)).1 ≤ 10 ∧ -10 ≤ (pairsL.getD i (0, 0)).2 ∧ (pairsL.getD i (0, 0)).2 ≤ 10 := by
  rcases Nat.lt_or_ge i 12 with h | h
  · have : i = 0 ∨ i = 1 ∨ i = 2 ∨ i = 3 ∨ i = 4 ∨ i = 5 ∨ i = 6 ∨ i = 7 ∨ i = 8 ∨ i = 9 ∨ i = 10 ∨ i = 11 := by omega
    rcases this with rfl | rfl | rfl | rfl | rfl | rfl | rfl | rfl | rfl | rfl | rfl | rfl <;> decide
  · rw [List.getD_eq_getElem?_getD, List.getElem?_eq_none (by simpa [pairsL] using h)]; decide
theorem rkept_fn {k : Int} {h : Part} (h0 : -9223372036854775808 ≤ k) (h1 : k ≤ 9223372036854775807) : FnR Tryz.prog 19 [.int .i64 k] h
    (fun v h' => ∃ an cn ae ce ad cd, v = .agg #[.slice an (toL (keyN (amongI k 12).toNat)).length cn, .slice ae (toL (keyE (amongI k 12).toNat)).length ce, .slice ad (expL (amongI k 12).toNat).length cd] ∧ SlR u32R 1 h' an cn (toL (keyN (amongI k 12).toNat)) ∧ SlR u32R 1 h' ae ce (toL (keyE (amongI k 12).toNat)) ∧ SlR u32R 1 h' ad cd (expL (amongI k 12).toNat)) := by
  obtain ⟨g0, g1⟩ := amongI_bd k 12 (by decide)
  obtain ⟨i, hi⟩ : ∃ i : Nat, amongI k 12 = (i : Int) := ⟨(amongI k 12).toNat, by omega⟩
  rw [hi, Int.toNat_natCast]
  obtain ⟨p1, p2, p3, p4⟩ := pairs_bd i
  obtain ⟨y, hy⟩ : ∃ y, y = keyE i := ⟨_, rfl⟩
  have hy2 : y ≤ 65537 := by rw [hy]; unfold keyE; split <;> omega
  have hpl : pairsL.length = 12 := rfl
  have hpe : pairsL[i]'(by omega) = pairsL.getD i (0, 0) := by rw [List.getD_eq_getElem?_getD, List.getElem?_eq_getElem (by omega)]; rfl
  obtain ⟨pr, hpr⟩ : ∃ pr, pr = pairsL.getD i (0, 0) := ⟨_, rfl⟩
  have l1 := primeL_len (amongI pr.1 6).toNat
  have l2 := primeL_len (amongI pr.2 6).toNat
  rw [← hpr] at p1 p2 p3 p4 hpe
  refine Fn.intro Tryz.func19 rfl Tryz.ntmps19 rfl (fun e he => ?_)
  refine J.weak [(0, _)] ⟨rfl, trivial⟩ ?_
  have hh0 := Part.le.refl h
  refine Sr ?_
  refine JL.alloc zr_32 rfl (fun b1 => ?_)
  refine JL.nil ?_
  refine Sr ?_
  refine Ru 1 rfl ?_
  refine JL.callP ca_50 rfl (among_fn _ _ _ (by omega) (by omega) (by omega)) rfl ?_
  rw [hi]
  refine Ru 1 rfl ?_
  refine JL.nil ?_
  refine Sr ?_
  refine JL.op (RunV.buildArr az_61 rfl rfl rfl) rfl ?_
  refine JL.op (RunV.buildArr az_61 rfl rfl rfl) rfl ?_
  refine JL.op (RunV.buildArr az_61 rfl rfl rfl) rfl ?_
  refine JL.op (RunV.buildArr az_61 rfl rfl rfl) rfl ?_
  refine JL.op (RunV.buildArr az_61 rfl rfl rfl) rfl ?_
  refine JL.op (RunV.buildArr az_61 rfl rfl rfl) rfl ?_
  refine JL.op (RunV.buildArr az_61 rfl rfl rfl) rfl ?_
  refine JL.op (RunV.buildArr az_61 rfl rfl rfl) rfl ?_
  refine JL.op (RunV.buildArr az_61 rfl rfl rfl) rfl ?_
  refine JL.op (RunV.buildArr az_61 rfl rfl rfl) rfl ?_
  refine JL.op (RunV.buildArr az_61 rfl rfl rfl) rfl ?_
  refine JL.op (RunV.buildArr az_61 rfl rfl rfl) rfl ?_
  refine JL.litAll [_, _, _, _, _, _, _, _, _, _, _, _] ap_62 rfl rfl (List.forall_mem_cons.2 ⟨(by first | rfl), List.forall_mem_cons.2 ⟨(by first | rfl), List.forall_mem_cons.2 ⟨(by first | rfl), List.forall_mem_cons.2 ⟨(by first | rfl), List.forall_mem_cons.2 ⟨(by first | rfl), List.forall_mem_cons.2 ⟨(by first | rfl), List.forall_mem_cons.2 ⟨(by first | rfl), List.forall_mem_cons.2 ⟨(by first | rfl), List.forall_mem_cons.2 ⟨(by first | rfl), List.forall_mem_cons.2 ⟨(by first | rfl), List.forall_mem_cons.2 ⟨(by first | rfl), List.forall_mem_cons.2 ⟨(by first | rfl), List.forall_mem_nil _⟩⟩⟩⟩⟩⟩⟩⟩⟩⟩⟩⟩) rfl (by kernel_rfl) (by kernel_rfl) rfl (fun b3 => ?_)
  refine JL.pubB (R := pairR) (sz := 2) (l := pairsL) dl_ ((show CellsR pairR 2 _ (pairsL.flatMap fun p => [.int .i64 p.1, .int .i64 p.2]) pairsL from cells_pairs pairsL)) (by first | decide | omega | (rw [digN_len]; decide) | (simp; done) | (simp [digN_len]; done)) (fun h4 hle4 hK => ?_)
  replace hh0 := hh0.mono hle4
  refine Ru 1 rfl ?_
  refine Nk [3, 0, 2] rfl ?_
  refine Sr ?_
  refine Ru 1 rfl ?_
  refine JL.nil ?_
  refine J.seq ?_
  refine Sr ?_
  refine Ru 2 rfl ?_
  refine JL.nil ?_
  refine J.meet [(4, .int .u64 y)] [(3, _), (0, _), (2, _)] ⟨rfl, rfl, rfl, trivial⟩ ?_ ?_
  ·
   refine Cs rfl (fun hc5 => ?_) fun hc5 => ?_
   ·
    refine Rg ?_
    refine Ru 1 rfl ?_
    refine JL.nil ?_
    refine ⟨rfl, rfl, ?_⟩
    repeat (first | exact trivial | refine ⟨rfl, ?_⟩ | refine ⟨(by exact some_int (by rw [hy]; unfold keyE; split <;> omega)), ?_⟩)
   ·
    refine J.skip ?_
    refine ⟨rfl, rfl, ?_⟩
    repeat (first | exact trivial | refine ⟨rfl, ?_⟩ | refine ⟨(by exact some_int (by rw [hy]; unfold keyE; split <;> omega)), ?_⟩)
  ·
   refine J.seq ?_
   refine J.held ([]) 19 mixed_ rfl (fun h00 => ?_)
   refine JH.take 0 rfl (by kernel_rfl) (by kernel_rfl) (by kernel_rfl) (fun _ _ _ _ hh => hh) (br_ h00) (RunV.move rfl) rfl ?_
   refine JH.take 1 rfl (by kernel_rfl) (by kernel_rfl) (by kernel_rfl) (fun _ _ _ _ hh => hh) (br_ h00) (RunV.move rfl) rfl ?_
   refine JH.takeE 2 rfl (by kernel_rfl) (by kernel_rfl) (by kernel_rfl) (fun _ _ _ _ hh => hh) (br_ h00) (RunE.index (m := i) sl_62 rfl rfl rfl hK hpl.symm (by omega)) rfl ?_
   rintro _ ⟨b6, o6, hi6, rfl, hE6⟩
   refine JH.take 3 rfl (by kernel_rfl) (by kernel_rfl) (by kernel_rfl) (fun _ _ _ _ hh => hh) (br_ h00) (RunV.indexAt ar_61 rfl rfl (show _ = ((0 : Nat) : Int) from rfl) (by omega)) rfl ?_
   refine JH.takeE 4 rfl (by kernel_rfl) (by kernel_rfl) (by kernel_rfl) (fun _ _ _ _ hh => hh) (br_ h00) (RunE.loadF ag_3 rfl (by assumption) (by decide)) rfl ?_
   rintro v7 ⟨_, hv7, rfl⟩
   cases hv7
   rw [hpe]
   refine JH.take 6 rfl (by kernel_rfl) (by kernel_rfl) (by kernel_rfl) (fun _ _ _ _ hh => hh) (br_ h00) (RunV.move rfl) rfl ?_
   refine JH.take 7 rfl (by kernel_rfl) (by kernel_rfl) (by kernel_rfl) (fun _ _ _ _ hh => hh) (br_ h00) (RunV.move rfl) rfl ?_
   refine JH.takeE 8 rfl (by kernel_rfl) (by kernel_rfl) (by kernel_rfl) (fun _ _ _ _ hh => hh) (br_ h00) (RunE.index (m := i) sl_62 rfl rfl rfl hK hpl.symm (by omega)) rfl ?_
   rintro _ ⟨b8, o8, hi8, rfl, hE8⟩
   refine JH.take 9 rfl (by kernel_rfl) (by kernel_rfl) (by kernel_rfl) (fun _ _ _ _ hh => hh) (br_ h00) (RunV.indexAt ar_61 rfl rfl (show _ = ((1 : Nat) : Int) from rfl) (by omega)) rfl ?_
   refine JH.takeE 10 rfl (by kernel_rfl) (by kernel_rfl) (by kernel_rfl) (fun _ _ _ _ hh => hh) (br_ h00) (RunE.loadF ag_3 rfl (by assumption) (by decide)) rfl ?_
   rintro v9 ⟨_, hv9, rfl⟩
   cases hv9
   rw [hpe]
   refine JH.take 13 rfl (by kernel_rfl) (by kernel_rfl) (by kernel_rfl) (fun _ _ _ _ hh => hh) (br_ h00) (RunV.move rfl) rfl ?_
   refine JH.take 15 rfl (by kernel_rfl) (by kernel_rfl) (by kernel_rfl) (fun _ _ _ _ hh => hh) (br_ h00) (RunV.move rfl) rfl ?_
   refine JH.all1 5 (by kernel_rfl) rfl ?_
   unfold One
   refine JL.callR ca_52 rfl (rprimes_fn (k := pr.1) (by omega) (by omega)) rfl ?_
   rintro _ h10 hle10 ⟨pa, pc, rfl, hP1⟩
   replace hh0 := hh0.mono hle10
   replace hK := hK.mono hle10
   refine JL.nil ⟨(br_ h00), ?_⟩
   refine JH.all1 11 (by kernel_rfl) rfl ?_
   unfold One
   refine JL.callR ca_52 rfl (rprimes_fn (k := pr.2) (by omega) (by omega)) rfl ?_
   rintro _ h11 hle11 ⟨qa, qc, rfl, hP2⟩
   replace hh0 := hh0.mono hle11
   replace hK := hK.mono hle11
   replace hP1 := hP1.mono hle11
   refine JL.nil ⟨(br_ h00), ?_⟩
   refine JH.all1 12 (by kernel_rfl) rfl ?_
   unfold One
   refine JL.callR ca_51 rfl (rmul_fn hP1 hP2 (by omega) (by omega)) rfl ?_
   rintro _ h12 hle12 ⟨na, nc, rfl, hN⟩
   replace hh0 := hh0.mono hle12
   replace hK := hK.mono hle12
   replace hP1 := hP1.mono hle12
   replace hP2 := hP2.mono hle12
   refine JL.nil ⟨(br_ h00), ?_⟩
   refine JH.all1 14 (by kernel_rfl) rfl ?_
   unfold One
   refine JL.callR ca_53 rfl (rOf_fn (n := y) (by omega)) rfl ?_
   rintro _ h13 hle13 ⟨ea, ec, rfl, hE⟩
   replace hh0 := hh0.mono hle13
   replace hK := hK.mono hle13
   replace hP1 := hP1.mono hle13
   replace hP2 := hP2.mono hle13
   replace hN := hN.mono hle13
   refine JL.nil ⟨(br_ h00), ?_⟩
   refine JH.all1 16 (by kernel_rfl) rfl ?_
   unfold One
   refine JL.callR ca_54 rfl (rexponent_fn (i := i) (by omega)) rfl ?_
   rintro _ h14 hle14 ⟨da, dc, rfl, hD⟩
   replace hh0 := hh0.mono hle14
   replace hK := hK.mono hle14
   replace hP1 := hP1.mono hle14
   replace hP2 := hP2.mono hle14
   replace hN := hN.mono hle14
   replace hE := hE.mono hle14
   refine JL.nil ⟨(br_ h00), ?_⟩
   refine JH.take 17 rfl (by kernel_rfl) (by kernel_rfl) (by kernel_rfl) (fun _ _ _ _ hh => hh) (br_ h00) (RunV.build (cs := [_, _, _]) pl_32 rfl rfl) rfl ?_
   refine JH.all1 18 (by kernel_rfl) rfl ?_
   unfold One
   refine JL.storeA ag_32 rfl rfl dl_ (by first | rfl) (by first | rfl | assumption) (by first | rfl) ?_
   refine JL.nil ⟨(br_ h00), ?_⟩
   refine JH.done (by kernel_rfl) ?_
   refine Kp [2] rfl ?_
   have hkN : vL (primeL (amongI pr.1 6).toNat) * vL (primeL (amongI pr.2 6).toNat) = keyN i := (by rw [hpr]; rfl); rw [hkN] at hN ⊢; rw [hy] at hE ⊢; exact J.retR (RetV.cell rfl rfl ag_32 mm_ (by first | rfl)) ⟨_, _, _, _, _, _, rfl, hN, hE, hD⟩
end Go.Proofs.YtmngjbefnloljaaGreatDoor
set_option linter.unusedSimpArgs false
set_option linter.unusedVariables false
set_option linter.constructorNameAsVariable false
namespace Go.Proofs.YtmngjbefnloljaaGreatDoor
open Go Go.RowKit
set_option maxRecDepth 100000
theorem ca_117 : callT Tryz.prog 117 = true := by kernel_rfl
theorem ca_79 : callT Tryz.prog 79 = true := by kernel_rfl
theorem cv_93_3 : convI Tryz.prog 93 3 = some .i64 := by kernel_rfl
theorem mul64_fn {y : Nat} {h : Part} (hy : y < 2147483648) : Pure Tryz.prog 117 [.int .u64 1, .int .u64 y] h (.tuple #[.int .u64 0, .int .u64 y]) := by
  refine Fn.intro Tryz.func117 rfl Tryz.ntmps117 rfl (fun e he => ?_)
  refine J.weak [(0, _), (1, _)] ⟨rfl, rfl, trivial⟩ ?_
  refine Sr ?_
  refine Ru 2 rfl ?_
  refine JL.nil ?_
  refine Sr ?_
  refine Ru 1 rfl ?_
  refine JL.op (RunV.mask_u64 32 4294967296 rfl rfl (by decide) (by decide) (by decide) (by omega) (by omega)) rfl ?_
  rw [show (1 : Int) % 4294967296 = 1 from rfl]
  refine Ru 1 rfl ?_
  refine JL.nil ?_
  refine Sr ?_
  refine Ru 1 rfl ?_
  refine JL.op (RunV.shr_u64 4294967296 rfl rfl (by decide) (by decide) (by decide)) rfl ?_
  rw [show (1 : Int) / 4294967296 = 0 from rfl]
  refine Ru 1 rfl ?_
  refine JL.nil ?_
  refine Sr ?_
  refine Ru 1 rfl ?_
  refine JL.op (RunV.mask_u64 32 4294967296 rfl rfl (by decide) (by decide) (by decide) (by omega) (by omega)) rfl ?_
  rw [show (y : Int) % 4294967296 = y by omega]
  refine Ru 1 rfl ?_
  refine Nk [8, 7, 6, 5, 4, 0, 1] rfl ?_
  refine Sr ?_
  refine Ru 1 rfl ?_
  refine JL.op (RunV.shr_u64 4294967296 rfl rfl (by decide) (by decide) (by decide)) rfl ?_
  rw [show (y : Int) / 4294967296 = 0 by omega]
  refine Ru 1 rfl ?_
  refine JL.nil ?_
  refine Sr ?_
  refine Ru 2 rfl ?_
  refine JL.op (by first | exact RunV.mul_u64 rfl rfl (by omega) (by omega) | exact RunV.mul rfl rfl) rfl ?_
  rw [Int.one_mul]
  refine Ru 1 rfl ?_
  refine Nk [10, 9, 8, 7, 6, 5, 4, 0, 1] rfl ?_
  refine Sr ?_
  refine Ru 2 rfl ?_
  refine JL.op (by first | exact RunV.mul_u64 rfl rfl (by omega) (by omega) | exact RunV.mul rfl rfl) rfl ?_
  rw [Int.zero_mul]
  refine Ru 1 rfl ?_
  refine JL.op (RunV.shr_u64 4294967296 rfl rfl (by decide) (by decide) (by decide)) rfl ?_
  refine JL.op (by first | exact RunV.add_u64 rfl rfl (by omega) (by omega) | exact RunV.add rfl rfl) rfl ?_
  rw [show (0 : Int) + (y : Int) / 4294967296 = 0 by omega]
  refine Ru 1 rfl ?_
  refine Nk [11, 9, 7, 6, 5, 4, 0, 1] rfl ?_
  refine Sr ?_
  refine Ru 1 rfl ?_
  refine JL.op (RunV.mask_u64 32 4294967296 rfl rfl (by decide) (by decide) (by decide) (by omega) (by omega)) rfl ?_
  rw [show (0 : Int) % 4294967296 = 0 from rfl]
  refine Ru 1 rfl ?_
  refine JL.nil ?_
  refine Sr ?_
  refine Ru 1 rfl ?_
  refine JL.op (RunV.shr_u64 4294967296 rfl rfl (by decide) (by decide) (by decide)) rfl ?_
  rw [show (0 : Int) / 4294967296 = 0 from rfl]
  refine Ru 1 rfl ?_
  refine Nk [13, 12, 9, 7, 6, 5, 4, 0, 1] rfl ?_
  refine Sr ?_
  refine Ru 3 rfl ?_
  refine JL.op (by first | exact RunV.mul_u64 rfl rfl (by omega) (by omega) | exact RunV.mul rfl rfl) rfl ?_
  rw [Int.mul_zero]
  refine JL.op (by first | exact RunV.add_u64 rfl rfl (by omega) (by omega) | exact RunV.add rfl rfl) rfl ?_
  refine Ru 1 rfl ?_
  refine Nk [12, 13, 9, 7, 5, 4, 0, 1] rfl ?_
  refine Sr ?_
  refine Ru 2 rfl ?_
  refine JL.op (by first | exact RunV.mul_u64 rfl rfl (by omega) (by omega) | exact RunV.mul rfl rfl) rfl ?_
  rw [Int.mul_zero]
  refine Ru 1 rfl ?_
  refine JL.op (by first | exact RunV.add_u64 rfl rfl (by omega) (by omega) | exact RunV.add rfl rfl) rfl ?_
  refine Ru 1 rfl ?_
  refine JL.op (RunV.shr_u64 4294967296 rfl rfl (by decide) (by decide) (by decide)) rfl ?_
  refine JL.op (by first | exact RunV.add_u64 rfl rfl (by omega) (by omega) | exact RunV.add rfl rfl) rfl ?_
  refine Ru 1 rfl ?_
  refine Nk [4, 5, 0, 1] rfl ?_
  refine Sr ?_
  refine Ru 2 rfl ?_
  refine JL.op (by first | exact RunV.mul_u64 rfl rfl (by omega) (by omega) | exact RunV.mul rfl rfl) rfl ?_
  refine Ru 1 rfl ?_
  refine Nk [5, 4] rfl ?_
  exact J.retP (RetV.two rfl rfl rfl) (by first | rfl | (rw [Int.one_mul]; rfl)) rfl
theorem mul1_fn {y : Nat} {h : Part} (hy : y < 2147483648) : Pure Tryz.prog 79 [.int .u64 1, .int .u64 y] h (.tuple #[.int .u64 0, .int .u64 y]) := by
  refine Fn.intro Tryz.func79 rfl Tryz.ntmps79 rfl (fun e he => ?_)
  refine J.weak [(0, _), (1, _)] ⟨rfl, rfl, trivial⟩ ?_
  refine Sr ?_
  refine Ru 2 rfl ?_
  refine JL.nil ?_
  refine J.seq ?_
  refine J.cond_f rfl ?_
  refine J.skip ?_
  refine Sr ?_
  refine Ru 2 rfl ?_
  refine JL.callP ca_117 rfl (mul64_fn hy) rfl ?_
  refine Ru 5 rfl ?_
  refine Nk [9, 8, 5, 4] rfl ?_
  refine Sr ?_
  refine Ru 4 rfl ?_
  refine Nk [5, 4] rfl ?_
  exact J.retP (RetV.two rfl rfl rfl) rfl rfl
section
variable {f : Fr} {n : Post} {x : Nat → Post} {S : Sig} {h : Part} {L L' : List Ent} {ops : Array Oper} {rest : List Oper}
variable {ty : TypeId} {pos : String} {af : Array Edge} {d : Nat} {T T2 : TypeId} {xo yo : Operand}
theorem JL.copyS {g o dl dc c t m sl sc e : Nat} {xs : List Value} (hT : slT f.P T = some (e, 1)) (hx : ev S xo = some (.slice (some ⟨g, o, none⟩) dl dc)) (hy : ev S yo = some (.slice (some ⟨g, 0, none⟩) sl sc)) (u : Del (.row (some ⟨g, 0, none⟩) c t 1 m xs) L L')
    (hm : xs.length = m) (hsm : Nat.min sl dl ≤ m) (hfit : o + Nat.min sl dl ≤ m) (h1 : ∀ v ∈ xs.take (Nat.min sl dl), v.oneCell' = true) (hd : Nat.blt d f.m = true)
    (k : JL f ops n x rest ((d, .int .i64 (Nat.min sl dl : Nat)) :: S) h (.row (some ⟨g, 0, none⟩) c t 1 m (over xs o (xs.take (Nat.min sl dl))) :: L')) :
    JL f ops n x (⟨some d, .call { callee := .builtin .copy, args := #[xo, yo], argTypes := #[T, T2] }, ty, pos, af, none⟩ :: rest) S h L := by
  have hl : (xs.take (Nat.min sl dl)).length = Nat.min sl dl := by rw [List.length_take]; omega
  refine JL.copy_ (cs := xs.take (Nat.min sl dl)) hT hx hy u hl (by rw [hl]; exact hfit) h1 (fun w hk j v hj => ?_) hd (by rw [hl]; exact k)
  have hj2 : xs[j]? = some v := by
    rw [List.getElem?_take] at hj
    split at hj
    · exact hj
    · cases hj
  rw [Addr.add_lit, Nat.zero_add, row_cell hk u.mem (List.getElem?_eq_some_iff.1 hj2).1, hj2]
end
theorem rep_take (b : UInt8) {xs : List Value} {bp k : Nat} (hx : xs.take bp = u8s (List.replicate bp b)) (hk : k ≤ bp) : xs.take k = u8s (List.replicate k b) := by
  have : xs.take k = (xs.take bp).take k := by rw [List.take_take, Nat.min_eq_left hk]
  rw [this, hx]
  simp [u8s, hk]
theorem brepeat_fn {a : Option Addr} {c N : Nat} {b : UInt8} {h : Part} (hl : SlR u8R 1 h a c [b]) (hN0 : 0 < N) (hN : N ≤ 8192) : FnR Tryz.prog 36 [.slice a 1 c, .int .i64 N] h (fun v h' => ∃ a c, v = .slice a (List.replicate N b).length c ∧ SlR u8R 1 h' a c (List.replicate N b)) := by
  have hNz := mnz (N := N) (by omega)
  have hrl : (List.replicate N b).length = N := List.length_replicate
  refine Fn.intro Tryz.func36 rfl Tryz.ntmps36 rfl (fun e he => ?_)
  refine J.weak [(0, _), (1, _)] ⟨rfl, rfl, trivial⟩ ?_
  have hh0 := Part.le.refl h
  refine Sr ?_
  refine Ru 1 rfl ?_
  refine JL.nil ?_
  refine J.seq ?_
  refine Sr ?_
  refine Ru 2 rfl ?_
  refine JL.nil ?_
  refine Cs rfl (fun hc1 => ?_) fun hc1 => ?_
  ·
   exfalso; omega
  refine J.skip ?_
  refine J.seq ?_
  refine Sr ?_
  refine Ru 2 rfl ?_
  refine JL.nil ?_
  refine Cs rfl (fun hc2 => ?_) fun hc2 => ?_
  ·
   exfalso; omega
  refine J.skip ?_
  refine Kp [4, 0, 1] rfl ?_
  refine Sr ?_
  refine Ru 2 rfl ?_
  refine JL.op (by first | exact RunV.conv_u64 cv_3_93 rfl (by omega) (by omega) | exact RunV.conv cv_3_93 rfl) rfl ?_
  refine Ru 1 rfl ?_
  refine JL.op (by first | exact RunV.conv_u64 cv_3_93 rfl (by omega) (by omega) | exact RunV.conv cv_3_93 rfl) rfl ?_
  refine JL.callP ca_79 rfl (mul1_fn (y := N) (by omega)) rfl ?_
  refine Ru 5 rfl ?_
  refine Nk [6, 5, 4, 0] rfl ?_
  refine J.seq ?_
  refine Sr ?_
  refine Ru 3 rfl ?_
  apply On 29 32 3 [6, 4, 0] rfl rfl
  rotate_left
  ·
   intro hb4 hc4
   refine Ru 3 rfl ?_
   exact Ae (om_f hb4 rfl) rfl
  rotate_right
  ·
   exact fun hb4 _ => Ru 3 rfl (Ae (om_t hb4 rfl) rfl)
  refine JL.nil ?_
  refine Cs rfl (fun hc5 => ?_) fun hc5 => ?_
  ·
   exfalso; omega
  refine J.skip ?_
  refine Sr ?_
  refine Ru 1 rfl ?_
  refine JL.op (by first | exact RunV.conv_i64 cv_93_3 rfl (by omega) (by omega) | exact RunV.conv cv_93_3 rfl) rfl ?_
  refine Ru 1 rfl ?_
  refine Nk [7, 4, 0] rfl ?_
  refine J.seq ?_
  refine Sr ?_
  refine Ru 3 rfl ?_
  refine JL.nil ?_
  refine Cs rfl (fun hc6 => ?_) fun hc6 => ?_
  ·
   exfalso; omega
  refine J.skip ?_
  refine Sr ?_
  refine Ru 2 rfl ?_
  refine Nk [8, 7, 4, 0] rfl ?_
  refine J.seq ?_
  refine Sr ?_
  refine Ru 2 rfl ?_
  refine JL.nil ?_
  refine Cs rfl (fun hc7 => ?_) fun hc7 => ?_
  ·
   exfalso; omega
  refine J.skip ?_
  refine Sr ?_
  refine Ru 1 rfl ?_
  refine JL.noZero rfl rfl hNz rfl (fun bR cR xs0 hx0 hc0 => ?_)
  refine Ru 2 rfl ?_
  refine JL.op (RunV.full3 sl_22 rfl rfl rfl rfl rfl hc0 (by omega)) rfl ?_
  refine Ru 1 rfl ?_
  refine Nk [9, 8, 7, 4, 0] rfl ?_
  refine Sr ?_
  refine Ru 2 rfl ?_
  refine JL.copyN sl_22 rfl rfl dl_ hl (by simp) rfl (by simp; omega) (by simp; omega) rfl ?_
  refine Ru 1 rfl ?_
  refine JL.nil ?_
  refine J.seq ?_
  refine J.block ?_
  refine J.loop (fun t_ S_ h_ L_ => ∃ (bp : Nat) (xs : List Value), t_ = N - bp ∧ S_ = [(7, .int .i64 N), (8, .int .i64 N), (9, .slice (some ⟨bR, 0, none⟩) N N), (10, .int .i64 bp)] ∧ h = h_ ∧ L_ = [.row (some ⟨bR, 0, none⟩) cR 5 1 N xs] ∧ (1 ≤ bp ∧ bp ≤ N ∧ xs.length = N ∧ xs.take bp = u8s (List.replicate bp b))) ⟨_, _, ?_, ⟨1, _, rfl, rfl, rfl, rfl, ⟨by omega, by omega, by rw [over_len (by simp [u8s]; omega)]; exact hx0, by simp [over, u8s]⟩⟩⟩ ?_
  ·
   repeat (first | exact trivial | refine ⟨rfl, ?_⟩ | refine ⟨(by exact some_int (by omega)), ?_⟩)
  rintro _ _ _ _ ⟨bp, xs, rfl, rfl, rfl, rfl, hb1, hbp, hxl, hxt⟩
  refine J.seq ?_
  refine Sr ?_
  skip
  refine Ru 3 rfl ?_
  refine JL.nil ?_
  refine Cs rfl (fun hc10 => ?_) fun hc10 => ?_
  ·
   have hbN : bp < N := (by omega); obtain ⟨kk, hkk⟩ : ∃ kk, kk = Nat.min bp (N - bp) := ⟨_, rfl⟩; have hk1 : kk ≤ bp := (by rw [hkk]; exact Nat.min_le_left _ _); have hk2 : kk ≤ N - bp := (by rw [hkk]; exact Nat.min_le_right _ _); have hk0 : 0 < kk := (by rw [hkk]; exact Nat.lt_min.2 ⟨by omega, by omega⟩); have hrt := rep_take b hxt hk1; obtain ⟨q1, q2⟩ := over_flat (p := List.replicate bp b) (l := List.replicate kk b) (N := N) (by rw [List.length_replicate]; exact hxt) hxl (by rw [List.length_replicate, List.length_replicate]; omega); rw [List.length_replicate, List.replicate_append_replicate, List.length_replicate] at q1; rw [List.length_replicate] at q2
   refine J.skip ?_
   refine J.block ?_
   refine Sr ?_
   refine Ru 2 rfl ?_
   refine JL.op (RunV.min2 rfl rfl) rfl ?_
   rw [if_neg (show ¬ ((N : Int) < (bp : Int)) by omega)]
   refine Ru 1 rfl ?_
   refine JL.nil ?_
   refine J.held ([]) 10 mixed_ rfl (fun h00 => ?_)
   refine JH.take 0 rfl (by kernel_rfl) (by kernel_rfl) (by kernel_rfl) (fun _ _ _ _ hh => hh) (br_ h00) (RunV.move rfl) rfl ?_
   refine JH.take 1 rfl (by kernel_rfl) (by kernel_rfl) (by kernel_rfl) (fun _ _ _ _ hh => hh) (br_ h00) (RunV.move rfl) rfl ?_
   refine JH.take 2 rfl (by kernel_rfl) (by kernel_rfl) (by kernel_rfl) (fun _ _ _ _ hh => hh) (br_ h00) (RunV.move rfl) rfl ?_
   refine JH.take 3 rfl (by kernel_rfl) (by kernel_rfl) (by kernel_rfl) (fun _ _ _ _ hh => hh) (br_ h00) (RunV.fromv sl_22 (k := bp) rfl rfl rfl (by omega) (by omega)) rfl ?_
   refine JH.take 4 rfl (by kernel_rfl) (by kernel_rfl) (by kernel_rfl) (fun _ _ _ _ hh => hh) (br_ h00) (RunV.move rfl) rfl ?_
   refine JH.take 5 rfl (by kernel_rfl) (by kernel_rfl) (by kernel_rfl) (fun _ _ _ _ hh => hh) (br_ h00) (RunV.move rfl) rfl ?_
   refine JH.take 6 rfl (by kernel_rfl) (by kernel_rfl) (by kernel_rfl) (fun _ _ _ _ hh => hh) (br_ h00) (RunV.cutv sl_22 (m := bp) rfl rfl rfl (by omega) (by omega)) rfl ?_
   refine JH.all1 7 (by kernel_rfl) rfl ?_
   unfold One
   refine JL.copyS sl_22 rfl rfl dl_ hxl (by rw [← hkk]; omega) (by rw [← hkk]; omega) (by rw [← hkk, hrt]; intro v hv; obtain ⟨z, _, rfl⟩ := List.mem_map.1 hv; rfl) rfl ?_; rw [← hkk, hrt]
   refine JL.nil ⟨(br_ h00), ?_⟩
   refine JH.take 8 rfl (by kernel_rfl) (by kernel_rfl) (by kernel_rfl) (fun _ _ _ _ hh => hh) (br_ h00) ai_ rfl ?_
   refine JH.take 9 rfl (by kernel_rfl) (by kernel_rfl) (by kernel_rfl) (fun _ _ _ _ hh => hh) (br_ h00) (RunV.assign rfl) rfl ?_
   refine JH.done (by kernel_rfl) ?_
   refine ⟨_, ?_, _, ?_, ⟨bp + kk, _, rfl, rfl, rfl, rfl, ⟨by omega, by omega, q2, q1⟩⟩⟩
   ·
    omega
   ·
    repeat (first | exact trivial | refine ⟨rfl, ?_⟩ | refine ⟨(by exact some_int (by omega)), ?_⟩)
  ·
   have hbe : bp = N := (by omega); subst hbe; rw [List.take_of_length_le (by omega)] at hxt; subst hxt
   refine J.exit ?_
   refine Kp [9] rfl ?_
   refine Sr ?_
   refine JL.pub (R := u8R) (l := List.replicate bp b) dl_ CellsR.of_u8 hrl.symm (by omega) (fun h9 hle9 hP9 => ?_)
   refine Ru 2 rfl ?_
   refine JL.nil ?_
   rw [hrl]; exact J.retR (RetV.one rfl rfl) ⟨_, _, rfl, hP9.recap (by omega) hc0⟩
end Go.Proofs.YtmngjbefnloljaaGreatDoor
set_option linter.unusedSimpArgs false
set_option linter.unusedVariables false
set_option linter.constructorNameAsVariable false
namespace Go.Proofs.YtmngjbefnloljaaGreatDoor
open Go Go.RowKit
set_option maxRecDepth 100000
theorem ca_72 : callT Tryz.prog 72 = true := by kernel_rfl
theorem ca_73 : callT Tryz.prog 73 = true := by kernel_rfl
theorem ca_78 : callT Tryz.prog 78 = true := by kernel_rfl
theorem join_fn {a : Option Addr} {c : Nat} {ls : List (List UInt8)} {h : Part} (hl : SlR (slR u8R 1) 1 h a c ls) (h2 : 2 ≤ ls.length) (hb : ls.flatten.length ≤ 1000000000) (hl0 : ∀ l ∈ ls, 0 < l.length) : FnR Tryz.prog 35 [.slice a ls.length c] h (fun v h' => ∃ a c, v = .slice a ls.flatten.length c ∧ SlR u8R 1 h' a c ls.flatten) := by
  refine Fn.intro Tryz.func35 rfl Tryz.ntmps35 rfl (fun e he => ?_)
  refine J.weak [(0, _)] ⟨rfl, trivial⟩ ?_
  have hh0 := Part.le.refl h
  refine Sr ?_
  refine Ru 1 rfl ?_
  refine JL.nil ?_
  refine Sr ?_
  refine Ru 1 rfl ?_
  refine JL.callR ca_78 rfl (bjoin_fn hl h2 hb hl0) rfl ?_
  rintro _ h1 hle1 ⟨ja, jc, rfl, hJ⟩
  replace hl := hl.mono hle1
  replace hh0 := hh0.mono hle1
  refine Ru 1 rfl ?_
  refine JL.nil ?_
  exact J.retR (RetV.one rfl rfl) ⟨_, _, rfl, hJ⟩
theorem rpublic_fn {an ae ad : Option Addr} {cn ce cd : Nat} {n x d : List UInt32} {h : Part} (hn : SlR u32R 1 h an cn n) (hx : SlR u32R 1 h ae ce x) (hln : n.length ≤ 100000) (hlx : x.length ≤ 100000) : FnR Tryz.prog 33 [.agg #[.slice an n.length cn, .slice ae x.length ce, .slice ad d.length cd]] h
    (fun v h' => ∃ a1 c1 a2 c2, v = .agg #[.slice a1 (toL (vL n)).length c1, .slice a2 (toL (vL x)).length c2, .slice none 0 0] ∧ SlR u32R 1 h' a1 c1 (toL (vL n)) ∧ SlR u32R 1 h' a2 c2 (toL (vL x))) := by
  have e1 := trim_toL n
  have e2 := trim_toL x
  refine Fn.intro Tryz.func33 rfl Tryz.ntmps33 rfl (fun e he => ?_)
  refine J.weak [(0, _)] ⟨rfl, trivial⟩ ?_
  have hh0 := Part.le.refl h
  refine Sr ?_
  refine JL.box rfl rfl rfl (fun b1 => ?_)
  refine JL.alloc zr_32 rfl (fun b2 => ?_)
  refine JL.nil ?_
  refine J.seq ?_
  refine J.held ([.blk b1 32 [.slice an n.length cn, .slice ae x.length ce, .slice ad d.length cd]]) 8 mixed_ rfl (fun h00 => ?_)
  refine JH.take 0 rfl (by kernel_rfl) (by kernel_rfl) (by kernel_rfl) (fun _ _ _ _ hh => hh) (br_ h00) (by first | exact RunV.fieldAt0 fo_32_0 rfl | exact RunV.fieldAt fo_32_0 rfl) rfl ?_
  refine JH.take 1 rfl (by kernel_rfl) (by kernel_rfl) (by kernel_rfl) (fun _ _ _ _ hh => hh) (br_ h00) (RunV.own1 ag_30 rfl mm_ rfl) rfl ?_
  refine JH.take 3 rfl (by kernel_rfl) (by kernel_rfl) (by kernel_rfl) (fun _ _ _ _ hh => hh) (br_ h00) (by first | exact RunV.fieldAt0 fo_32_1 rfl | exact RunV.fieldAt fo_32_1 rfl) rfl ?_
  refine JH.take 4 rfl (by kernel_rfl) (by kernel_rfl) (by kernel_rfl) (fun _ _ _ _ hh => hh) (br_ h00) (RunV.own1 ag_30 rfl mm_ rfl) rfl ?_
  refine JH.all1 2 (by kernel_rfl) rfl ?_
  unfold One
  refine JL.callR ca_73 rfl (rtrim_fn hn (by omega)) rfl ?_
  rintro _ h3 hle3 ⟨ta, tc, rfl, hT⟩
  replace hn := hn.mono hle3
  replace hx := hx.mono hle3
  replace hh0 := hh0.mono hle3
  refine JL.nil ⟨(br_ h00), ?_⟩
  refine JH.all1 5 (by kernel_rfl) rfl ?_
  unfold One
  refine JL.callR ca_73 rfl (rtrim_fn hx (by omega)) rfl ?_
  rintro _ h4 hle4 ⟨ua, uc, rfl, hU⟩
  replace hn := hn.mono hle4
  replace hx := hx.mono hle4
  replace hh0 := hh0.mono hle4
  replace hT := hT.mono hle4
  refine JL.nil ⟨(br_ h00), ?_⟩
  refine JH.take 6 rfl (by kernel_rfl) (by kernel_rfl) (by kernel_rfl) (fun _ _ _ _ hh => hh) (br_ h00) (RunV.build (cs := [_, _, .slice none 0 0]) pl_32 rfl rfl) rfl ?_
  refine JH.all1 7 (by kernel_rfl) rfl ?_
  unfold One
  refine JL.storeA ag_32 rfl rfl dl_ (by first | rfl) (by first | rfl | assumption) (by first | rfl) ?_
  refine JL.nil ⟨(br_ h00), ?_⟩
  refine JH.done (by kernel_rfl) ?_
  refine Kp [2] rfl ?_
  rw [e1] at hT ⊢; rw [e2] at hU ⊢; exact J.retR (RetV.cell rfl rfl ag_32 mm_ (by first | rfl)) ⟨_, _, _, _, rfl, hT, hU⟩
theorem alike_fn {an ae ad bn be bd : Option Addr} {cn ce cd kn ke kd : Nat} {n x d n2 x2 d2 : List UInt32} {h : Part} (hn : SlR u32R 1 h an cn n) (hx : SlR u32R 1 h ae ce x) (hd : SlR u32R 1 h ad cd d) (hn2 : SlR u32R 1 h bn kn n2) (hx2 : SlR u32R 1 h be ke x2) (hd2 : SlR u32R 1 h bd kd d2) :
    Pure Tryz.prog 32 [.agg #[.slice an n.length cn, .slice ae x.length ce, .slice ad d.length cd], .agg #[.slice bn n2.length kn, .slice be x2.length ke, .slice bd d2.length kd]] h (.bool (decide (n = n2 ∧ x = x2 ∧ d = d2))) := by
  refine Fn.intro Tryz.func32 rfl Tryz.ntmps32 rfl (fun e he => ?_)
  refine J.weak [(0, _), (1, _)] ⟨rfl, rfl, trivial⟩ ?_
  refine Sr ?_
  refine JL.box rfl rfl rfl (fun b1 => ?_)
  refine JL.box rfl rfl rfl (fun b2 => ?_)
  refine Ru 1 rfl ?_
  refine JL.nil ?_
  refine Sr ?_
  refine Ru 1 rfl ?_
  refine JL.op (RunV.own1 ag_30 rfl mm_ rfl) rfl ?_
  refine Ru 1 rfl ?_
  refine JL.op (RunV.own1 ag_30 rfl mm_ rfl) rfl ?_
  refine JL.callP ca_72 rfl (natsame_fn (by assumption) (by assumption)) rfl ?_
  refine Ru 1 rfl ?_
  refine Bs 10 rfl (fun hc4 => ?_) fun hc4 => ?_
  ·
   refine Ru 1 rfl ?_
   refine JL.opg rfl rfl  (RunV.own1 ag_30 rfl mm_ rfl) rfl ?_
   refine Ru 1 rfl ?_
   refine JL.opg rfl rfl  (RunV.own1 ag_30 rfl mm_ rfl) rfl ?_
   refine JL.callPg rfl rfl  ca_72 rfl (natsame_fn (by assumption) (by assumption)) rfl ?_
   refine Ru 2 rfl ?_
   refine Bs 17 rfl (fun hc6 => ?_) fun hc6 => ?_
   ·
    refine Ru 1 rfl ?_
    refine JL.opg rfl rfl  (RunV.own1 ag_30 rfl mm_ rfl) rfl ?_
    refine Ru 1 rfl ?_
    refine JL.opg rfl rfl  (RunV.own1 ag_30 rfl mm_ rfl) rfl ?_
    refine JL.callPg rfl rfl  ca_72 rfl (natsame_fn (by assumption) (by assumption)) rfl ?_
    refine Ru 2 rfl ?_
    refine Nk [4] rfl ?_
    exact J.retP (RetV.one rfl rfl) (congrArg Value.bool (by simp_all)) rfl
   ·
    refine Ru 7 rfl ?_
    refine Nk [4] rfl ?_
    exact J.retP (RetV.one rfl rfl) (congrArg Value.bool (by simp_all)) rfl
  ·
   refine Ru 14 rfl ?_
   refine Nk [4] rfl ?_
   exact J.retP (RetV.one rfl rfl) (congrArg Value.bool (by simp_all)) rfl
theorem heavy_fn {an ae ad : Option Addr} {cn ce cd ln le ld : Nat} {h : Part} : Pure Tryz.prog 14 [.agg #[.slice an ln cn, .slice ae le ce, .slice ad ld cd]] h (.bool (decide (26 < ln ∨ 26 < le ∨ 26 < ld))) := by
  refine Fn.intro Tryz.func14 rfl Tryz.ntmps14 rfl (fun e he => ?_)
  refine J.weak [(0, _)] ⟨rfl, trivial⟩ ?_
  refine Sr ?_
  refine JL.box rfl rfl rfl (fun b1 => ?_)
  refine Ru 1 rfl ?_
  refine JL.nil ?_
  refine Sr ?_
  refine Ru 1 rfl ?_
  refine JL.op (RunV.own1 ag_30 rfl mm_ rfl) rfl ?_
  refine Ru 3 rfl ?_
  refine Bs 7 rfl (fun hc2 => ?_) fun hc2 => ?_
  ·
   refine Ru 12 rfl ?_
   refine Nk [2] rfl ?_
   exact J.retP (RetV.one rfl rfl) (congrArg Value.bool (by first | exact decide_eq_decide.2 (by omega) | exact (decide_eq_true (by omega)).symm | exact (decide_eq_false (by omega)).symm)) rfl
  ·
   refine Ru 1 rfl ?_
   refine JL.opg rfl rfl  (RunV.own1 ag_30 rfl mm_ rfl) rfl ?_
   refine Ru 4 rfl ?_
   refine Bs 13 rfl (fun hc3 => ?_) fun hc3 => ?_
   ·
    refine Ru 6 rfl ?_
    refine Nk [2] rfl ?_
    exact J.retP (RetV.one rfl rfl) (congrArg Value.bool (by first | exact decide_eq_decide.2 (by omega) | exact (decide_eq_true (by omega)).symm | exact (decide_eq_false (by omega)).symm)) rfl
   ·
    refine Ru 1 rfl ?_
    refine JL.opg rfl rfl  (RunV.own1 ag_30 rfl mm_ rfl) rfl ?_
    refine Ru 4 rfl ?_
    refine Nk [2] rfl ?_
    exact J.retP (RetV.one rfl rfl) (congrArg Value.bool (by first | exact decide_eq_decide.2 (by omega) | exact (decide_eq_true (by omega)).symm | exact (decide_eq_false (by omega)).symm)) rfl
end Go.Proofs.YtmngjbefnloljaaGreatDoor
set_option linter.unusedSimpArgs false
set_option linter.unusedVariables false
set_option linter.constructorNameAsVariable false
namespace Go.Proofs.YtmngjbefnloljaaGreatDoor
open Go Go.RowKit
set_option maxRecDepth 100000
theorem ag_168 : aggT Tryz.prog 168 = some (some 8) := by kernel_rfl
theorem ar_170 : arT Tryz.prog 170 = some (8, 1) := by kernel_rfl
theorem az_168 : arZ Tryz.prog 168 = some ([.int .u64 0, .int .u64 0, .int .u64 0, .int .u64 0, .int .u64 0, .int .u64 0, .int .u64 0, .int .u64 0], 1) := by kernel_rfl
theorem ca_112 : callT Tryz.prog 112 = true := by kernel_rfl
theorem ni_169 : niT Tryz.prog 169 = true := by kernel_rfl
theorem ni_173 : niT Tryz.prog 173 = true := by kernel_rfl
theorem pl_172 : plT Tryz.prog 172 = some ([.int .u32 0, .int .u32 0, .int .u32 0, .int .u32 0, .int .u32 0, .int .u32 0, .int .u32 0, .int .u32 0], [(0, 8)]) := by kernel_rfl
theorem pl_175 : plT Tryz.prog 175 = some ([.int .u64 0, .int .u64 0, .int .u64 0, .int .u64 0, .int .u64 0, .int .u64 0, .int .u64 0, .int .u64 0], [(0, 8)]) := by kernel_rfl
theorem zr_168 : zeroT Tryz.prog 168 = some [.int .u64 0, .int .u64 0, .int .u64 0, .int .u64 0, .int .u64 0, .int .u64 0, .int .u64 0, .int .u64 0] := by kernel_rfl
section
variable {f : Fr} {S : Sig} {h : Part} {L : List Ent} {ty T yt : TypeId} {xo yo : Operand}
theorem RunV.eql_nil_nil (hT : ifT f.P T = true) (hx : ev S xo = some .nilIface) : RunV f S h L (.binOp .eql T xo (.const .nilIface) yt) ty (.bool true) := RunV.bin (y := .const .nilIface) hx rfl fun w => by
  unfold ifT at hT
  split at hT <;> try cases hT
  rename_i ms hu
  have key : ∀ m : Nat, (Op.equalIn (m + 1) T .nilIface .nilIface).run f.P w = .ok true w := fun m => by simp [Op.equalIn, run_underlying hu]
  simp only [go_sem, binOp, Op.equal, Op.maxDepth]
  simp [eqGuard, key 9999]
theorem RunV.eql_iface_nil {t : TypeId} {v : Value} (hT : ifT f.P T = true) (hx : ev S xo = some (.iface t v)) : RunV f S h L (.binOp .eql T xo (.const .nilIface) yt) ty (.bool false) := RunV.bin (y := .const .nilIface) hx rfl fun w => by
  unfold ifT at hT
  split at hT <;> try cases hT
  rename_i ms hu
  have key : ∀ m : Nat, (Op.equalIn (m + 1) T (.iface t v) .nilIface).run f.P w = .ok false w := fun m => by simp [Op.equalIn, run_underlying hu]
  simp only [go_sem, binOp, Op.equal, Op.maxDepth]
  simp [eqGuard, key 9999]
def arE (P : Program) (T : Nat) : Option (Nat × Bool) :=
  match P.underlying T with
  | some (.array n e) => some (n, aggT P e == some none)
  | _ => none
theorem RunV.indexAgg {len m : Nat} {k : IntKind} {i : Int} {cs : List Value} {v : Value} (hT : arE f.P T = some (len, true)) (hx : ev S xo = some (.agg cs.toArray)) (hy : ev S yo = some (.int k i)) (hi : i = (m : Int)) (h1 : m < len) (hv : cs[m]? = some v) :
    RunV f S h L (.index T xo yo) ty v := fun a w s _ _ _ _ => by
  subst hi
  have h0 : (0 : Int) ≤ m := by omega
  unfold arE at hT
  split at hT <;> try cases hT
  rename_i n e hu
  simp only [Option.some.injEq, Prod.mk.injEq, beq_iff_eq] at hT
  obtain ⟨rfl, he⟩ := hT
  have ⟨e1, e2⟩ := aggT_one he w
  simp [execOp, s.eval hx, s.eval hy, Instr.index, asIntOf, run_underlying hu, h0, h1, e2, part, e1, hv]
end
def c64 (l : List UInt64) : List Value := l.map fun x => .int .u64 (x.toNat : Int)
theorem c64_at (l : List UInt64) (i : Nat) (h : i < l.length) : (c64 l)[i]? = some (.int .u64 ((l[i]'h).toNat : Int)) := by simp [c64, h]
def sqL : List UInt64 := [7640891576956012808, 13503953896175478587, 4354685564936845355, 11912009170470909681, 5840696475078001361, 11170449401992604703, 2270897969802886507, 6620516959819538809]
theorem shaoid_fn {n : Int} {h : Part} : Pure Tryz.prog 76 [.int .i64 n] h (.string ⟨(if n = 256 then [50, 46, 49, 54, 46, 56, 52, 48, 46, 49, 46, 49, 48, 49, 46, 51, 46, 52, 46, 50, 46, 49] else if n = 384 then [50, 46, 49, 54, 46, 56, 52, 48, 46, 49, 46, 49, 48, 49, 46, 51, 46, 52, 46, 50, 46, 50] else if n = 512 then [50, 46, 49, 54, 46, 56, 52, 48, 46, 49, 46, 49, 48, 49, 46, 51, 46, 52, 46, 50, 46, 51] else [] : List UInt8).toArray⟩) := by
  refine Fn.intro Tryz.func76 rfl Tryz.ntmps76 rfl (fun e he => ?_)
  refine J.weak [(0, _)] ⟨rfl, trivial⟩ ?_
  refine Sr ?_
  refine Ru 1 rfl ?_
  refine JL.nil ?_
  refine J.seq ?_
  refine Sr ?_
  refine Ru 1 rfl ?_
  refine JL.nil ?_
  refine J.block ?_
  refine Sr ?_
  refine Ru 2 rfl ?_
  refine JL.nil ?_
  refine Cs rfl (fun hc1 => ?_) fun hc1 => ?_
  ·
   refine Sr ?_
   refine Ru 1 rfl ?_
   refine Nk [2] rfl ?_
   rw [if_pos hc1]; exact J.retP (RetV.one rfl rfl) rfl rfl
  ·
   refine Sr ?_
   refine Ru 2 rfl ?_
   refine Nk [6, 3, 2] rfl ?_
   refine Cs rfl (fun hc2 => ?_) fun hc2 => ?_
   ·
    refine Sr ?_
    refine Ru 1 rfl ?_
    refine JL.nil ?_
    rw [if_neg (by omega), if_pos hc2]; exact J.retP (RetV.one rfl rfl) rfl rfl
   ·
    refine Sr ?_
    refine Ru 2 rfl ?_
    refine JL.nil ?_
    refine Cs rfl (fun hc3 => ?_) fun hc3 => ?_
    ·
     refine Sr ?_
     refine Ru 1 rfl ?_
     refine Nk [2] rfl ?_
     rw [if_neg (by omega), if_neg (by omega), if_pos hc3]; exact J.retP (RetV.one rfl rfl) rfl rfl
    ·
     refine J.skip ?_
     refine Kp [2] rfl ?_
     refine Sr ?_
     refine Ru 1 rfl ?_
     refine JL.nil ?_
     rw [if_neg (by omega), if_neg (by omega), if_neg (by omega)]; exact J.retP (RetV.one rfl rfl) rfl rfl
def someH (n : Int) : Prop := n = 256 ∨ n = 384 ∨ n = 512
instance (n : Int) : Decidable (someH n) := inferInstanceAs (Decidable (_ ∨ _ ∨ _))
theorem first_none {n : Int} {h : Part} (hn : ¬ someH n) : FnR Tryz.prog 112 [.int .i64 n] h (fun v _ => v = .nilIface) := by
  unfold someH at hn
  refine Fn.intro Tryz.func112 rfl Tryz.ntmps112 rfl (fun e he => ?_)
  refine J.weak [(0, _)] ⟨rfl, trivial⟩ ?_
  have hh0 := Part.le.refl h
  refine Sr ?_
  refine Ru 1 rfl ?_
  refine JL.nil ?_
  refine Sr ?_
  refine JL.op (RunV.buildArr az_168 rfl rfl rfl) rfl ?_
  refine JL.alloc zr_168 rfl (fun b1 => ?_)
  refine JL.storeA ag_168 rfl rfl dl_ (by first | rfl) (by first | rfl | assumption) (by first | rfl) ?_
  refine JL.nil ?_
  refine J.seq ?_
  refine Sr ?_
  refine Ru 1 rfl ?_
  refine JL.nil ?_
  refine J.block ?_
  refine Sr ?_
  refine Ru 2 rfl ?_
  refine JL.nil ?_
  refine Cs rfl (fun hc2 => ?_) fun hc2 => ?_
  ·
   exfalso; omega
  refine Sr ?_
  refine Ru 2 rfl ?_
  refine Nk [29, 8, 3, 2] rfl ?_
  refine Cs rfl (fun hc3 => ?_) fun hc3 => ?_
  ·
   exfalso; omega
  refine Sr ?_
  refine Ru 2 rfl ?_
  refine JL.nil ?_
  refine Cs rfl (fun hc4 => ?_) fun hc4 => ?_
  ·
   exfalso; omega
  refine J.skip ?_
  refine Kp [2] rfl ?_
  refine Sr ?_
  refine Ru 1 rfl ?_
  refine JL.nil ?_
  exact J.retR (RetV.one rfl rfl) rfl
theorem first_some {n : Int} {h : Part} (hn : someH n) : FnR Tryz.prog 112 [.int .i64 n] h (fun v _ => ∃ t u, v = .iface t u) := by
  unfold someH at hn
  have hsl : sqL.length = 8 := rfl
  refine Fn.intro Tryz.func112 rfl Tryz.ntmps112 rfl (fun e he => ?_)
  refine J.weak [(0, _)] ⟨rfl, trivial⟩ ?_
  have hh0 := Part.le.refl h
  refine Sr ?_
  refine Ru 1 rfl ?_
  refine JL.nil ?_
  refine Sr ?_
  refine JL.op (RunV.buildArr az_168 rfl rfl rfl) rfl ?_
  refine JL.alloc zr_168 rfl (fun b1 => ?_)
  refine JL.storeA ag_168 rfl rfl dl_ (by first | rfl) (by first | rfl | assumption) (by first | rfl) ?_
  refine JL.nil ?_
  refine J.seq ?_
  refine Sr ?_
  refine Ru 1 rfl ?_
  refine JL.nil ?_
  refine J.block ?_
  refine Sr ?_
  refine Ru 2 rfl ?_
  refine JL.nil ?_
  refine Cs rfl (fun hc2 => ?_) fun hc2 => ?_
  ·
   refine Sr ?_
   refine JL.op (RunV.build (cs := [.int .u32 0, .int .u32 0, .int .u32 0, .int .u32 0, .int .u32 0, .int .u32 0, .int .u32 0, .int .u32 0]) pl_172 rfl rfl) rfl ?_
   refine JL.box rfl rfl rfl (fun b3 => ?_)
   refine Ru 1 rfl ?_
   refine Nk [4, 3, 2] rfl ?_
   refine J.seq ?_
   refine Sr ?_
   refine JL.op (RunV.ownA ag_168 rfl mm_ (by first | rfl)) rfl ?_
   refine Ru 1 rfl ?_
   refine JL.nil ?_
   refine J.block ?_
   refine J.loop (fun t_ S_ h_ L_ => ∃ (i : Nat) (cs : List Value), t_ = 8 - i ∧ S_ = [(4, .pointer (some ⟨b3, 0, none⟩)), (13, .agg (c64 sqL).toArray), (14, .int .i64 i)] ∧ h = h_ ∧ L_ = [.blk b3 172 cs, .blk b1 168 (c64 sqL)] ∧ (i ≤ 8 ∧ cs.length = 8)) ⟨_, _, ?_, ⟨0, [.int .u32 0, .int .u32 0, .int .u32 0, .int .u32 0, .int .u32 0, .int .u32 0, .int .u32 0, .int .u32 0], rfl, rfl, rfl, rfl, ⟨by omega, rfl⟩⟩⟩ ?_
   ·
    repeat (first | exact trivial | refine ⟨rfl, ?_⟩ | refine ⟨(by exact some_int (by omega)), ?_⟩)
   rintro _ _ _ _ ⟨i, cs, rfl, rfl, rfl, rfl, hi, hcl⟩
   refine Sr ?_
   refine Ru 1 rfl ?_
   refine JL.nil ?_
   refine J.seq ?_
   refine Cs rfl (fun hc4 => ?_) fun hc4 => ?_
   ·
    have hi' : i < 8 := (by omega); have hx64 := (sqL[i]'(by omega)).toNat_lt
    refine J.skip ?_
    refine J.seq ?_
    refine J.block ?_
    refine Sr ?_
    refine Ru 1 rfl ?_
    refine JL.op (RunV.indexAgg (len := 8) (m := i) (by kernel_rfl) rfl rfl rfl hi' (c64_at sqL i (by omega))) rfl ?_
    refine Ru 2 rfl ?_
    refine JL.nil ?_
    refine Rg ?_
    refine Ru 3 rfl ?_
    refine JL.op (RunV.shr_u64 4294967296 rfl rfl (by decide) (by decide) (by decide)) rfl ?_
    refine JL.op (RunV.toW ((sqL[i]'(by omega)).toNat / 4294967296) cv_63_103 rfl (by rw [Int.natCast_ediv]; rfl)) rfl ?_
    refine Ru 2 rfl ?_
    refine JL.op (RunV.indexArr ar_170 rfl rfl (by first | with_reducible rfl | exact (Int.toNat_of_nonneg (by omega)).symm) (by omega)) rfl ?_
    refine JL.store1 ag_103 rfl rfl rfl dl_ (by first | rfl | (simp; omega)) ?_
    refine JL.nil ?_
    refine Rg ?_
    refine JL.op ai_ rfl ?_
    refine Ru 1 rfl ?_
    refine JL.nil ?_
    refine ⟨_, ?_, _, ?_, ⟨i + 1, _, rfl, rfl, rfl, rfl, ⟨by omega, by rw [List.length_set]; exact hcl⟩⟩⟩
    ·
     omega
    ·
     repeat (first | exact trivial | refine ⟨rfl, ?_⟩ | refine ⟨(by exact some_int (by omega)), ?_⟩)
   ·
    refine J.exit ?_
    refine Sr ?_
    refine Ru 1 rfl ?_
    refine JL.op (RunV.makeInterface ni_169 rfl) rfl ?_
    refine Ru 1 rfl ?_
    refine Nk [2] rfl ?_
    exact J.retR (RetV.one rfl rfl) ⟨_, _, rfl⟩
  ·
   refine Sr ?_
   refine Ru 2 rfl ?_
   refine Nk [29, 8, 3, 2] rfl ?_
   refine Cs rfl (fun hc5 => ?_) fun hc5 => ?_
   ·
    refine Sr ?_
    refine JL.op (RunV.buildArr az_168 rfl rfl rfl) rfl ?_
    refine JL.op (RunV.build (cs := [_, _, _, _, _, _, _, _]) pl_175 rfl rfl) rfl ?_
    refine JL.box rfl rfl rfl (fun b6 => ?_)
    refine JL.op (RunV.makeInterface ni_173 rfl) rfl ?_
    refine Ru 1 rfl ?_
    refine Nk [2] rfl ?_
    exact J.retR (RetV.one rfl rfl) ⟨_, _, rfl⟩
   ·
    refine Sr ?_
    refine Ru 2 rfl ?_
    refine JL.nil ?_
    refine Cs rfl (fun hc7 => ?_) fun hc7 => ?_
    ·
     refine Sr ?_
     refine JL.op (RunV.ownA ag_168 rfl mm_ (by first | rfl)) rfl ?_
     refine JL.op (RunV.build (cs := [_, _, _, _, _, _, _, _]) pl_175 rfl rfl) rfl ?_
     refine JL.box rfl rfl rfl (fun b8 => ?_)
     refine JL.op (RunV.makeInterface ni_173 rfl) rfl ?_
     refine Ru 1 rfl ?_
     refine Nk [2] rfl ?_
     exact J.retR (RetV.one rfl rfl) ⟨_, _, rfl⟩
    ·
     refine J.skip ?_
     refine Kp [2] rfl ?_
     refine Sr ?_
     refine Ru 1 rfl ?_
     refine JL.nil ?_
     exfalso; omega
def shaSize (n : Int) : Int := if someH n then n / 8 else 0
theorem shasize_fn {n : Int} {h : Part} : FnR Tryz.prog 74 [.int .i64 n] h (fun v _ => v = .int .i64 (shaSize n)) := by
  by_cases hn : someH n
  · have hs : shaSize n = n / 8 := if_pos hn
    rw [hs]
    have hn2 := hn
    unfold someH at hn2
    refine Fn.intro Tryz.func74 rfl Tryz.ntmps74 rfl (fun e he => ?_)
    refine J.weak [(0, _)] ⟨rfl, trivial⟩ ?_
    have hh0 := Part.le.refl h
    refine Sr ?_
    refine Ru 1 rfl ?_
    refine JL.nil ?_
    refine J.seq ?_
    refine Sr ?_
    refine Ru 1 rfl ?_
    refine JL.callR ca_112 rfl (first_some hn) rfl ?_
    rintro _ h1 hle1 ⟨t, u, rfl⟩
    replace hh0 := hh0.mono hle1
    refine JL.op (RunV.eql_iface_nil (by kernel_rfl) rfl) rfl ?_
    refine JL.nil ?_
    refine J.cond_f rfl ?_
    refine J.skip ?_
    refine Sr ?_
    refine Ru 1 rfl ?_
    refine JL.op (by first | exact RunV.quo_i64 rfl rfl (by omega) (by omega) (by omega) | exact RunV.quo rfl rfl (by omega)) rfl ?_
    refine Ru 1 rfl ?_
    refine Nk [2] rfl ?_
    exact J.retR (RetV.one rfl rfl) rfl
  · have hs : shaSize n = 0 := if_neg hn
    rw [hs]
    refine Fn.intro Tryz.func74 rfl Tryz.ntmps74 rfl (fun e he => ?_)
    refine J.weak [(0, _)] ⟨rfl, trivial⟩ ?_
    have hh0 := Part.le.refl h
    refine Sr ?_
    refine Ru 1 rfl ?_
    refine JL.nil ?_
    refine J.seq ?_
    refine Sr ?_
    refine Ru 1 rfl ?_
    refine JL.callR ca_112 rfl (first_none hn) rfl ?_
    rintro _ h1 hle1 rfl
    replace hh0 := hh0.mono hle1
    refine JL.op (RunV.eql_nil_nil (by kernel_rfl) rfl) rfl ?_
    refine JL.nil ?_
    refine J.cond_t rfl ?_
    refine Sr ?_
    refine Ru 1 rfl ?_
    refine JL.nil ?_
    exact J.retR (RetV.one rfl rfl) rfl
end Go.Proofs.YtmngjbefnloljaaGreatDoor
set_option linter.unusedSimpArgs false
set_option linter.unusedVariables false
set_option linter.constructorNameAsVariable false
namespace Go.Proofs.YtmngjbefnloljaaGreatDoor
open Go Go.RowKit
set_option maxRecDepth 100000
theorem ag_99 : aggT Tryz.prog 99 = some (some 8) := by kernel_rfl
theorem ap_97 : apT Tryz.prog 97 = some (93, 1, 8) := by kernel_rfl
theorem ca_118 : callT Tryz.prog 118 = true := by kernel_rfl
theorem ca_81 : callT Tryz.prog 81 = true := by kernel_rfl
theorem fo_99_2 : fieldOff Tryz.prog 99 2 = some 2 := by kernel_rfl
theorem pl_99 : plT Tryz.prog 99 = some ([.int .u64 0, .int .i64 0, .slice none 0 0, .slice none 0 0, .slice none 0 0, .slice none 0 0, .slice none 0 0, .int .i64 0], [(0, 1), (1, 1), (2, 1), (3, 1), (4, 1), (5, 1), (6, 1), (7, 1)]) := by kernel_rfl
theorem zr_93 : zeroT Tryz.prog 93 = some [.int .u64 0] := by kernel_rfl
theorem zr_99 : zeroT Tryz.prog 99 = some [.int .u64 0, .int .i64 0, .slice none 0 0, .slice none 0 0, .slice none 0 0, .slice none 0 0, .slice none 0 0, .int .i64 0] := by kernel_rfl
def sq16 : List UInt64 := [0x6a09e667f3bcc908, 0xbb67ae8584caa73b, 0x3c6ef372fe94f82b, 0xa54ff53a5f1d36f1, 0x510e527fade682d1, 0x9b05688c2b3e6c1f, 0x1f83d9abfb41bd6b, 0x5be0cd19137e2179, 0xcbbb9d5dc1059ed8, 0x629a292a367cd507, 0x9159015a3070dd17, 0x152fecd8f70e5939, 0x67332667ffc00b31, 0x8eb44a8768581511, 0xdb0c2e0d64f98fa7, 0x47b5481dbefa4fa4]
theorem cells_lit64 {h : Part} {xs : List Value} {l : List UInt64} (e : c64 l = xs) : CellsR u64R 1 h xs l := by
  subst e
  refine ⟨by simp [c64], fun i x hx => ?_⟩
  obtain ⟨hi, rfl⟩ := List.getElem?_eq_some_iff.1 hx
  unfold u64R
  rw [Nat.mul_one, List.take_one, List.head?_drop, c64_at l i hi]
  rfl
theorem squares_fn {h : Part} : FnR Tryz.prog 118 [] h (fun v h' => ∃ a c, v = .slice a sq16.length c ∧ SlR u64R 1 h' a c sq16) := by
  refine Fn.intro Tryz.func118 rfl Tryz.ntmps118 rfl (fun e he => ?_)
  have hh0 := Part.le.refl h
  refine Sr ?_
  refine Ru 1 rfl ?_
  refine JL.nil ?_
  refine Sr ?_
  refine JL.lit1 ap_66 zr_63 rfl rfl rfl rfl rfl (fun b1 => ?_)
  refine JL.pubB (R := u64R) (sz := 1) (l := sq16) dl_ ((cells_lit64 (by kernel_rfl))) (by first | decide | omega | (rw [digN_len]; decide) | (simp; done) | (simp [digN_len]; done)) (fun h2 hle2 hQ => ?_)
  replace hh0 := hh0.mono hle2
  refine Ru 1 rfl ?_
  refine JL.nil ?_
  exact J.retR (RetV.one rfl rfl) ⟨_, _, rfl, hQ⟩
def oidH (n : Int) : List UInt8 := if n = 256 then [50, 46, 49, 54, 46, 56, 52, 48, 46, 49, 46, 49, 48, 49, 46, 51, 46, 52, 46, 50, 46, 49] else if n = 384 then [50, 46, 49, 54, 46, 56, 52, 48, 46, 49, 46, 49, 48, 49, 46, 51, 46, 52, 46, 50, 46, 50] else if n = 512 then [50, 46, 49, 54, 46, 56, 52, 48, 46, 49, 46, 49, 48, 49, 46, 51, 46, 52, 46, 50, 46, 51] else []
theorem shaoid_fn' {n : Int} {h : Part} : Pure Tryz.prog 76 [.int .i64 n] h (.string ⟨(oidH n).toArray⟩) := shaoid_fn
end Go.Proofs.YtmngjbefnloljaaGreatDoor
set_option linter.unusedSimpArgs false
set_option linter.unusedVariables false
set_option linter.constructorNameAsVariable false
namespace Go.Proofs.YtmngjbefnloljaaGreatDoor
open Go Go.RowKit
set_option maxRecDepth 100000
def oidN (n : Int) : Nd := .mk 0 6 false ((oidB (oidH n)).getD []) []
def infoN (n : Int) (d : List UInt8) : Nd := .mk 0 16 true [] [.mk 0 16 true [] [oidN n, .mk 0 5 false [] []], .mk 0 4 false d []]
theorem oidH_len (n : Int) : (oidH n).length ≤ 30 := by
  unfold oidH; split
  · decide
  · split
    · decide
    · split <;> decide
def infoL (n : Int) (d : List UInt8) : List UInt8 := (infoN n d).put.getD []
def formE (n : Int) (d : List UInt8) (k : Int) : Int := if shaSize n = 0 ∨ (d.length : Int) ≠ shaSize n then 40 else if k < (infoL n d).length + 11 ∨ 512 < k then 50 else 0
def formL (n : Int) (d : List UInt8) (k : Int) : List UInt8 := if formE n d k = 0 then [0, 1] ++ List.replicate (k.toNat - (infoL n d).length - 3) 255 ++ [0] ++ infoL n d else []
end Go.Proofs.YtmngjbefnloljaaGreatDoor
set_option linter.unusedSimpArgs false
set_option linter.unusedVariables false
set_option linter.constructorNameAsVariable false
namespace Go.Proofs.YtmngjbefnloljaaGreatDoor
open Go Go.RowKit
set_option maxRecDepth 100000
def sizeB (N : Nat) : Nat := (bl N + 7) / 8
def kformE (n : Int) (d : List UInt8) (N E D : Nat) : Int := if formE n d 512 ≠ 0 then formE n d 512 else if rightB N E D = true then formE n d (sizeB N) else 50
def kformL (n : Int) (d : List UInt8) (N E D : Nat) : List UInt8 := if formE n d 512 ≠ 0 then [] else if rightB N E D = true then formL n d (sizeB N) else []
theorem formL_len (n : Int) (d : List UInt8) (k : Int) : (formL n d k).length ≤ 512 := by
  unfold formL
  split
  case isFalse => simp
  case isTrue h =>
    unfold formE at h
    split at h
    · cases h
    · split at h
      · cases h
      · rename_i hk
        simp only [List.length_append, List.length_cons, List.length_nil, List.length_replicate]
        omega
theorem kformL_len (n : Int) (d : List UInt8) (N E D : Nat) : (kformL n d N E D).length ≤ 512 := by
  unfold kformL
  split
  · simp
  · split
    · exact formL_len _ _ _
    · simp
theorem kform_right {n : Int} {d : List UInt8} {N E D : Nat} (h : kformE n d N E D = 0) : rightB N E D = true := by
  unfold kformE at h
  split at h
  · rename_i h1; exact absurd h h1
  · split at h
    · assumption
    · cases h
def numW (s k : Nat) : List UInt8 := natW (d32 (toL s)) k
def sigE (n : Int) (d : List UInt8) (N E D : Nat) : Int := if kformE n d N E D ≠ 0 then kformE n d N E D else if bl D = 0 then 50 else 0
def sigL (n : Int) (d : List UInt8) (N E D : Nat) : List UInt8 := if kformE n d N E D ≠ 0 then [] else if bl D = 0 then [] else numW (powV (beV (kformL n d N E D)) D N) (sizeB N)
theorem pow_fit (X E N : Nat) (hN : 0 < N) : bl (powV X E N) ≤ 8 * sizeB N := by
  have h1 : powV X E N < N := by unfold powV; rw [if_neg (by omega)]; exact Nat.mod_lt _ hN
  have := bl_le _ _ (Nat.lt_trans h1 (lt_bl N))
  unfold sizeB; omega
theorem toL_beV_len (l : List UInt8) : (toL (beV l)).length ≤ l.length := by
  rw [toL_len]
  refine nd_le _ _ (Nat.lt_of_lt_of_le (beV_lt l) ?_)
  rw [pow32, show (256 : Nat) = 2 ^ 8 from rfl, ← Nat.pow_mul]
  exact Nat.pow_le_pow_right (by decide) (by omega)
def proveE (n : Int) (d s : List UInt8) (N E D : Nat) : Int := if kformE n d N E D ≠ 0 then kformE n d N E D else if s.length ≠ sizeB N ∨ N ≤ beV s then 63 else if powV (beV s) E N = beV (kformL n d N E D) then 0 else 63
end Go.Proofs.YtmngjbefnloljaaGreatDoor
set_option linter.unusedSimpArgs false
set_option linter.unusedVariables false
set_option linter.constructorNameAsVariable false
namespace Go.Proofs.YtmngjbefnloljaaGreatDoor
open Go Go.RowKit
set_option maxRecDepth 100000
def mp : Nat → Nat → Nat → Nat → Nat
  | 0, _, _, N => 1 % N
  | f + 1, X, E, N => if E % 2 = 1 then X * mp f (X * X % N) (E / 2) N % N else mp f (X * X % N) (E / 2) N
theorem mp_ok : ∀ (f X E N : Nat), E < 2 ^ f → mp f X E N = X ^ E % N
  | 0, X, E, N, h => by
    have : E = 0 := by simpa using h
    subst this; simp [mp]
  | f + 1, X, E, N, h => by
    have ih := mp_ok f (X * X % N) (E / 2) N (by rw [Nat.pow_succ] at h; omega)
    rw [mp, ih, ← Nat.pow_mod (X * X) (E / 2) N]
    have e1 : (X * X) ^ (E / 2) = X ^ (2 * (E / 2)) := by rw [← Nat.pow_two, ← Nat.pow_mul]
    rw [e1]
    split
    · rename_i h2
      rw [Nat.mul_mod_mod, ← Nat.pow_succ']
      congr 2; omega
    · rename_i h2
      congr 2; omega
def d0 : List UInt8 := List.replicate 32 1
theorem kn_right : rightB (keyN 0) (keyE 0) (vL (expL 0)) = true := by decide +kernel
theorem kn_size : sizeB (keyN 0) = 64 := by decide +kernel
theorem kn_form : formE 256 d0 62 = 0 ∧ formE 256 d0 61 = 50 ∧ formE 256 d0 512 = 0 ∧ formE 256 d0 64 = 0 := by decide +kernel
theorem kn_list : (formL 256 d0 62).length = 62 ∧ (formL 256 d0 62)[1]? = some 1 ∧ (formL 256 d0 62)[10]? = some 0 ∧ (formL 256 d0 62)[11]? = some 48 := by decide +kernel
def n0 : Nat := keyN 0
def x0 : Nat := keyE 0
def p0 : Nat := vL (expL 0)
def m0 : Nat := beV (formL 256 d0 64)
def s0 : Nat := mp 512 m0 p0 n0
theorem kn_pow : mp 17 s0 x0 n0 = m0 ∧ p0 < 2 ^ 512 ∧ x0 < 2 ^ 17 ∧ 0 < n0 ∧ bl p0 ≠ 0 ∧ beV (numW s0 64) = s0 ∧ (numW s0 64).length = 64 ∧ s0 < n0 := by decide +kernel
theorem kn_kform : kformE 256 d0 n0 x0 p0 = 0 ∧ kformL 256 d0 n0 x0 p0 = formL 256 d0 64 := by
  have h1 := kn_form.2.2.1
  have h2 := kn_form.2.2.2
  have h3 : rightB n0 x0 p0 = true := kn_right
  have h4 : sizeB n0 = 64 := kn_size
  refine ⟨?_, ?_⟩
  · unfold kformE
    rw [if_neg (by rw [h1]; decide), if_pos h3, h4]; exact h2
  · unfold kformL
    rw [if_neg (by rw [h1]; decide), if_pos h3, h4]; rfl
theorem kn_sign : sigE 256 d0 n0 x0 p0 = 0 ∧ sigL 256 d0 n0 x0 p0 = numW s0 64 := by
  obtain ⟨k1, k2⟩ := kn_kform
  obtain ⟨-, q1, -, q2, q3, -⟩ := kn_pow
  have h4 : sizeB n0 = 64 := kn_size
  refine ⟨by unfold sigE; rw [if_neg (by rw [k1]; decide), if_neg q3], ?_⟩
  unfold sigL
  rw [if_neg (by rw [k1]; decide), if_neg q3, k2, h4]
  have e : powV (beV (formL 256 d0 64)) p0 n0 = s0 := by
    unfold powV s0 m0
    rw [if_neg (by omega), mp_ok 512 _ _ _ q1]
  rw [e]
theorem kn_prove : proveE 256 d0 (numW s0 64) n0 x0 p0 = 0 := by
  obtain ⟨k1, k2⟩ := kn_kform
  obtain ⟨q0, -, q1, q2, -, q4, q5, q6⟩ := kn_pow
  have h4 : sizeB n0 = 64 := kn_size
  unfold proveE
  rw [if_neg (by rw [k1]; decide), if_neg (by rw [q4, q5, h4]; omega), q4, k2]
  refine if_pos ?_
  unfold powV
  rw [if_neg (by omega), ← mp_ok 17 s0 x0 n0 q1, q0]
  rfl
theorem numW_be (s k : Nat) : numW s k = be k s := by unfold numW; rw [natW_be, vL_toL]
theorem bl_256 {s k : Nat} (h : bl s ≤ 8 * k) : s < 256 ^ k := by
  refine Nat.lt_of_lt_of_le (lt_bl s) ?_
  rw [show (256 : Nat) = 2 ^ 8 from rfl, ← Nat.pow_mul]
  exact Nat.pow_le_pow_right (by decide) h
theorem numW_iff {s k : Nat} {m : List UInt8} (hm : m.length = k) (hs : bl s ≤ 8 * k) : numW s k = m ↔ s = beV m := by
  rw [numW_be]
  constructor
  · intro h
    rw [← h, beV_be, Nat.mod_eq_of_lt (bl_256 hs)]
  · intro h
    rw [h, ← hm, be_beV]
theorem formL_len_eq {n : Int} {d : List UInt8} {k : Int} (h : formE n d k = 0) (hk : 0 ≤ k) : ((formL n d k).length : Int) = k := by
  unfold formL
  rw [if_pos h]
  unfold formE at h
  split at h
  · cases h
  · split at h
    · cases h
    · rename_i hk2
      simp only [List.length_append, List.length_cons, List.length_nil, List.length_replicate]
      omega
theorem kformL_size {n : Int} {d : List UInt8} {N E D : Nat} (h : kformE n d N E D = 0) : (kformL n d N E D).length = sizeB N := by
  have hr := kform_right h
  unfold kformE at h
  split at h
  · rename_i h1; exact absurd h h1
  · rename_i h1
    have := formL_len_eq h (by omega)
    unfold kformL
    rw [if_neg h1, if_pos hr]
    omega
end Go.Proofs.YtmngjbefnloljaaGreatDoor
