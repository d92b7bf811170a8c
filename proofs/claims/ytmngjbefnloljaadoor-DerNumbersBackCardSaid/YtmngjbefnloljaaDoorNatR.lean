/- Walks: numbers out of bytes; integers and numbers out of nodes. -/
import Derived.Test.YtmngjbefnloljaaDoorWrd
set_option linter.unusedSimpArgs false
set_option linter.unusedVariables false
set_option linter.constructorNameAsVariable false
namespace Go.Proofs.YtmngjbefnloljaaDoor
open Go Go.RowKit
set_option maxRecDepth 100000
theorem ca_67 : callT Tryd.prog 67 = true := by kernel_rfl
theorem cv_5_69 : convI Tryd.prog 5 69 = some .u32 := by kernel_rfl
theorem mk_35 : mkT Tryd.prog 35 = some (69, .int .u32 0, 4) := by kernel_rfl

theorem nattrim_fn {a : Option Addr} {c : Nat} {l : List UInt32} {h : Part} (hl : SlR u32R 1 h a c l) (hlb : l.length ≤ 1073741824) : FnR Tryd.prog 67 [.slice a l.length c] h (fun v h' => ∃ a' c', v = .slice a' (toL (vL l)).length c' ∧ SlR u32R 1 h' a' c' (toL (vL l))) := by
  have hll := hl.big
  have ht := tsz_le (d32 l) l.length
  have htr : l.take (tsz (d32 l) l.length) = toL (vL l) := trim_toL l
  have hlen : (toL (vL l)).length = tsz (d32 l) l.length := by rw [toL_len, tsz_nd]
  refine Fn.intro Tryd.func67 rfl Tryd.ntmps67 rfl (fun e he => ?_)
  refine J.weak [(0, _)] ⟨rfl, trivial⟩ ?_
  have hh0 := Part.le.refl h
  refine Sr ?_
  refine Ru 1 rfl ?_
  refine JL.nil ?_
  refine Sr ?_
  refine Ru 1 rfl ?_
  refine JL.callP ca_68 rfl (natsize_fn (by assumption)) rfl ?_
  refine Ru 1 rfl ?_
  refine JL.nil ?_
  refine J.seq ?_
  refine Sr ?_
  refine Ru 2 rfl ?_
  refine JL.nil ?_
  refine Cs rfl (fun hc2 => ?_) fun hc2 => ?_
  ·
   have h0 : toL (vL l) = [] := List.eq_nil_of_length_eq_zero (by omega)
   refine Sr ?_
   refine Ru 1 rfl ?_
   refine Nk [2, 3, 0] rfl ?_
   rw [h0]; exact J.retR (RetV.one rfl rfl) ⟨none, 0, rfl, SlR.nil_⟩
  ·
   refine J.skip ?_
   refine Kp [3, 2, 0] rfl ?_
   refine Sr ?_
   refine Ru 2 rfl ?_
   refine JL.ope (RunE.cut_h sl_35 (m := tsz (d32 l) l.length) rfl rfl rfl hl rfl (by omega)) rfl ?_
   rintro _ ⟨a9, c9, rfl, hS9⟩
   rw [htr] at hS9 ⊢; refine JL.row_nil 69 1 ?_
   refine JL.append (R := u32R) ap_35 rfl rfl CellsR.nil rfl hS9 rfl (by repeat (first | exact Del.here | apply Del.there)) (by simp only [List.length_nil]; omega) rfl rfl (fun a8 c8 xs8 hC8 hN8 => ?_)
   simp only [List.nil_append] at hC8 ⊢; refine JL.pub (R := u32R) (by repeat (first | exact Del.here | apply Del.there)) hC8 rfl (by omega) (fun h9 hle9 hP9 => ?_)
   refine Ru 1 rfl ?_
   refine Nk [2] rfl ?_
   exact J.retR (RetV.one rfl rfl) ⟨_, _, rfl, hP9⟩
theorem nattrim_fn' {a : Option Addr} {c n : Nat} {l : List UInt32} {h : Part} (hl : SlR u32R 1 h a c l) (hn : n = l.length) (hlb : n ≤ 1073741824) : FnR Tryd.prog 67 [.slice a n c] h (fun v h' => ∃ a' c', v = .slice a' (toL (vL l)).length c' ∧ SlR u32R 1 h' a' c' (toL (vL l))) := by
  subst hn; exact nattrim_fn hl hlb




theorem shl8 (i : Nat) : (2 : Int) ^ (8 * ((i : Int) % 4)).toNat = ((256 ^ (i % 4) : Nat) : Int) := by
  have : (8 * ((i : Int) % 4)).toNat = 8 * (i % 4) := by omega
  rw [this, Int.natCast_pow, Int.pow_mul]; rfl
theorem two8 (j : Nat) : (2 : Int) ^ (8 * j) = ((256 ^ j : Nat) : Int) := by rw [Int.natCast_pow, Int.pow_mul]; rfl
theorem bits_or_comm (k : IntKind) (p q : Int) : bits .or k p q = bits .or k q p := by
  show k.wrap _ = k.wrap _
  rw [BitVec.or_comm]
theorem RunV.joinr_u32 {f : Fr} {S : Sig} {h : Part} {L : List Ent} {ty T yt : TypeId} {x y : Operand} {p q : Int} (i : Nat) (D : Int) (hx : ev S x = some (.int .u32 p)) (hy : ev S y = some (.int .u32 q)) (hD : (2 : Int) ^ i = D) (h0 : 0 ≤ q) (hp : q % D = 0) (h1 : q ≤ 4294967295) (hq0 : 0 ≤ p) (hq : p < D) (hq1 : p ≤ 4294967295) : RunV f S h L (.binOp .or T x y yt) ty (.int .u32 (p + q)) := by
  have := RunV.or_ (f := f) (h := h) (L := L) (ty := ty) (T := T) (yt := yt) hx hy
  rwa [bits_or_comm, bits_join .u32 32 (by decide) wraps_u32' i q p h0 (by rw [hD]; exact hp) (by omega) hq0 (by rw [hD]; exact hq) (by omega), Int.add_comm] at this
theorem pow4 (r : Nat) (h : r < 4) : 256 ^ r = 1 ∨ 256 ^ r = 256 ∨ 256 ^ r = 65536 ∨ 256 ^ r = 16777216 := by
  have : r = 0 ∨ r = 1 ∨ r = 2 ∨ r = 3 := by omega
  rcases this with rfl | rfl | rfl | rfl <;> simp
theorem natread_fn {a : Option Addr} {c : Nat} {l : List UInt8} {h : Part} (hl : SlR u8R 1 h a c l) (hlen : l.length ≤ 1073741824) : FnR Tryd.prog 37 [.slice a l.length c] h (fun v h' => ∃ a' c', v = .slice a' (toL (beV l)).length c' ∧ SlR u32R 1 h' a' c' (toL (beV l))) := by
  refine Fn.intro Tryd.func37 rfl Tryd.ntmps37 rfl (fun e he => ?_)
  refine J.weak [(0, _)] ⟨rfl, trivial⟩ ?_
  have hh0 := Part.le.refl h
  refine Sr ?_
  refine Ru 1 rfl ?_
  refine JL.nil ?_
  refine Sr ?_
  refine Ru 2 rfl ?_
  refine JL.op (by first | exact RunV.add_i64 rfl rfl (by omega) (by omega) | exact RunV.add rfl rfl) rfl ?_
  refine JL.op (by first | exact RunV.quo_i64 rfl rfl (by omega) (by omega) (by omega) | exact RunV.quo rfl rfl (by omega)) rfl ?_
  refine JL.make1 mk_35 rfl rfl (m := (l.length + 3) / 4) (by omega) (by omega) (by omega) rfl rfl (fun b1 => ?_); rw [ws_zero]
  refine Ru 1 rfl ?_
  refine Nk [3, 2, 0] rfl ?_
  refine J.seq ?_
  refine Sr ?_
  refine Ru 3 rfl ?_
  refine JL.nil ?_
  refine J.block ?_
  refine J.loop (fun t_ S_ h_ L_ => ∃ (i v : Nat), t_ = l.length - i ∧ S_ = [(0, .slice a l.length c), (3, .slice (some ⟨b1, 0, none⟩) ((l.length + 3) / 4) ((l.length + 3) / 4)), (12, .int .i64 l.length), (13, .int .i64 i)] ∧ h = h_ ∧ L_ = [.row (some ⟨b1, 0, none⟩) ((l.length + 3) / 4) 69 1 ((l.length + 3) / 4) (ws .u32 (digN ((l.length + 3) / 4) v))] ∧ (i ≤ l.length ∧ v = beV (l.drop (l.length - i)))) ⟨_, _, ?_, ⟨0, 0, rfl, rfl, rfl, rfl, ⟨by omega, by simp [beV]⟩⟩⟩ ?_
  ·
   repeat (first | exact trivial | refine ⟨rfl, ?_⟩)
  rintro _ _ _ _ ⟨i, v, rfl, rfl, rfl, rfl, hi, hv⟩
  refine Sr ?_
  refine Ru 1 rfl ?_
  refine JL.nil ?_
  refine J.seq ?_
  refine Cs rfl (fun hc2 => ?_) fun hc2 => ?_
  ·
   have hi' : i < l.length := (by omega); have hvl := beV_drop_lt l i (by omega); have hbl := byteAt_lt l (l.length - 1 - i); have hdb := digN_byte ((l.length + 3) / 4) _ _ i hvl hbl (by omega); have hst := beV_drop l i hi'; have hd0 := digN_at ((l.length + 3) / 4) (beV (l.drop (l.length - i))) (i / 4) (by omega); have hr4 := pow4 (i % 4) (by omega); have hbe := byteAt_eq l (l.length - 1 - i) (by omega); rw [← hv] at hvl hdb hst hd0; have hsb : byteAt l (l.length - 1 - i) * 256 ^ (i % 4) ≤ 4278190080 := (by rcases hr4 with e | e | e | e <;> rw [e] <;> omega); have hsum : v / 4294967296 ^ (i / 4) + byteAt l (l.length - 1 - i) * 256 ^ (i % 4) < 4294967296 := (by have := hdb.2; rcases hr4 with e | e | e | e <;> rw [e] at this ⊢ <;> omega); have hdd : d32 (digN ((l.length + 3) / 4) v) (i / 4) = v / 4294967296 ^ (i / 4) := (by rw [hd0]; exact Nat.mod_eq_of_lt (by omega))
   refine J.skip ?_
   refine J.seq ?_
   refine J.block ?_
   refine Sr ?_
   refine Ru 2 rfl ?_
   refine JL.nil ?_
   refine Sr ?_
   refine Ru 2 rfl ?_
   refine JL.op (by first | exact RunV.sub_i64 rfl rfl (by omega) (by omega) | exact RunV.sub rfl rfl) rfl ?_
   refine Ru 1 rfl ?_
   refine JL.op (by first | exact RunV.sub_i64 rfl rfl (by omega) (by omega) | exact RunV.sub rfl rfl) rfl ?_
   refine Ru 1 rfl ?_
   refine JL.nil ?_
   refine J.held ([]) 17 mixed_ rfl (fun h00 => ?_)
   refine JH.take 0 rfl (by kernel_rfl) (by kernel_rfl) (by kernel_rfl) (fun _ _ _ _ hh => hh) (Ok.bridge (by repeat first | exact Parts.nil | exact Del.here | apply Del.there | apply Parts.cons) (by first | exact Part.le.refl _ | assumption) h00) (RunV.move rfl) rfl ?_
   refine JH.take 1 rfl (by kernel_rfl) (by kernel_rfl) (by kernel_rfl) (fun _ _ _ _ hh => hh) (Ok.bridge (by repeat first | exact Parts.nil | exact Del.here | apply Del.there | apply Parts.cons) (by first | exact Part.le.refl _ | assumption) h00) (RunV.move rfl) rfl ?_
   refine JH.take 2 rfl (by kernel_rfl) (by kernel_rfl) (by kernel_rfl) (fun _ _ _ _ hh => hh) (Ok.bridge (by repeat first | exact Parts.nil | exact Del.here | apply Del.there | apply Parts.cons) (by first | exact Part.le.refl _ | assumption) h00) (by first | exact RunV.quo_i64 rfl rfl (by omega) (by omega) (by omega) | exact RunV.quo rfl rfl (by omega)) rfl ?_
   refine JH.take 3 rfl (by kernel_rfl) (by kernel_rfl) (by kernel_rfl) (fun _ _ _ _ hh => hh) (Ok.bridge (by repeat first | exact Parts.nil | exact Del.here | apply Del.there | apply Parts.cons) (by first | exact Part.le.refl _ | assumption) h00) (RunV.index_at sl_35 (m := i / 4) rfl rfl (by omega) (by omega)) rfl ?_
   refine JH.take 5 rfl (by kernel_rfl) (by kernel_rfl) (by kernel_rfl) (fun _ _ _ _ hh => hh) (Ok.bridge (by repeat first | exact Parts.nil | exact Del.here | apply Del.there | apply Parts.cons) (by first | exact Part.le.refl _ | assumption) h00) (RunV.move rfl) rfl ?_
   refine JH.take 6 rfl (by kernel_rfl) (by kernel_rfl) (by kernel_rfl) (fun _ _ _ _ hh => hh) (Ok.bridge (by repeat first | exact Parts.nil | exact Del.here | apply Del.there | apply Parts.cons) (by first | exact Part.le.refl _ | assumption) h00) (RunV.move rfl) rfl ?_
   refine JH.takeE 7 rfl (by kernel_rfl) (by kernel_rfl) (by kernel_rfl) (fun _ _ _ _ hh => hh) (Ok.bridge (by repeat first | exact Parts.nil | exact Del.here | apply Del.there | apply Parts.cons) (by first | exact Part.le.refl _ | assumption) h00) (RunE.index (m := l.length - 1 - i) sl_22 rfl rfl (by omega) hl rfl (by omega)) rfl ?_
   rintro _ ⟨b8, o8, hi8, rfl, hE8⟩
   refine JH.take 8 rfl (by kernel_rfl) (by kernel_rfl) (by kernel_rfl) (fun _ _ _ _ hh => hh) (Ok.bridge (by repeat first | exact Parts.nil | exact Del.here | apply Del.there | apply Parts.cons) (by first | exact Part.le.refl _ | assumption) h00) ((hbe ▸ RunV.ld_u8 ag_5 rfl hE8 : RunV _ _ _ _ _ _ (.int .u8 (byteAt l (l.length - 1 - i) : Nat)))) rfl ?_
   refine JH.take 9 rfl (by kernel_rfl) (by kernel_rfl) (by kernel_rfl) (fun _ _ _ _ hh => hh) (Ok.bridge (by repeat first | exact Parts.nil | exact Del.here | apply Del.there | apply Parts.cons) (by first | exact Part.le.refl _ | assumption) h00) (RunV.conv_u32 cv_5_69 rfl (by omega) (by omega)) rfl ?_
   refine JH.take 10 rfl (by kernel_rfl) (by kernel_rfl) (by kernel_rfl) (fun _ _ _ _ hh => hh) (Ok.bridge (by repeat first | exact Parts.nil | exact Del.here | apply Del.there | apply Parts.cons) (by first | exact Part.le.refl _ | assumption) h00) (RunV.move rfl) rfl ?_
   refine JH.take 11 rfl (by kernel_rfl) (by kernel_rfl) (by kernel_rfl) (fun _ _ _ _ hh => hh) (Ok.bridge (by repeat first | exact Parts.nil | exact Del.here | apply Del.there | apply Parts.cons) (by first | exact Part.le.refl _ | assumption) h00) (by first | exact RunV.rem_i64 rfl rfl (by omega) (by omega) | exact RunV.rem rfl rfl (by omega)) rfl ?_
   refine JH.take 12 rfl (by kernel_rfl) (by kernel_rfl) (by kernel_rfl) (fun _ _ _ _ hh => hh) (Ok.bridge (by repeat first | exact Parts.nil | exact Del.here | apply Del.there | apply Parts.cons) (by first | exact Part.le.refl _ | assumption) h00) (by first | exact RunV.mul_i64 rfl rfl (by omega) (by omega) | exact RunV.mul rfl rfl) rfl ?_
   refine JH.take 13 rfl (by kernel_rfl) (by kernel_rfl) (by kernel_rfl) (fun _ _ _ _ hh => hh) (Ok.bridge (by repeat first | exact Parts.nil | exact Del.here | apply Del.there | apply Parts.cons) (by first | exact Part.le.refl _ | assumption) h00) (RunV.shl_u32 ((256 ^ (i % 4) : Nat) : Int) rfl rfl (by omega) (by omega) (shl8 i) (by rw [← Int.natCast_mul]; omega) (by rw [← Int.natCast_mul]; omega)) rfl ?_
   refine JH.all1 4 (by kernel_rfl) rfl ?_
   unfold One
   refine JL.op (RunV.wload ag_69 rfl (by repeat (first | exact List.mem_cons_self .. | apply List.mem_cons_of_mem)) (by rw [digN_len]; omega)) rfl ?_
   refine JL.nil ⟨(Ok.bridge (by repeat first | exact Parts.nil | exact Del.here | apply Del.there | apply Parts.cons) (by first | exact Part.le.refl _ | assumption) h00), ?_⟩
   refine JH.take 14 rfl (by kernel_rfl) (by kernel_rfl) (by kernel_rfl) (fun _ _ _ _ hh => hh) (Ok.bridge (by repeat first | exact Parts.nil | exact Del.here | apply Del.there | apply Parts.cons) (by first | exact Part.le.refl _ | assumption) h00) (RunV.joinr_u32 (8 * (i % 4)) ((256 ^ (i % 4) : Nat) : Int) rfl rfl (two8 (i % 4)) (by rw [← Int.natCast_mul]; omega) (Int.mul_emod_left _ _) (by rw [← Int.natCast_mul]; omega) (by omega) (by have := hdb.2; omega) (by omega)) rfl ?_
   refine JH.take 15 rfl (by kernel_rfl) (by kernel_rfl) (by kernel_rfl) (fun _ _ _ _ hh => hh) (Ok.bridge (by repeat first | exact Parts.nil | exact Del.here | apply Del.there | apply Parts.cons) (by first | exact Part.le.refl _ | assumption) h00) (RunV.index_at sl_35 (m := i / 4) rfl rfl (by omega) (by omega)) rfl ?_
   refine JH.all1 16 (by kernel_rfl) rfl ?_
   unfold One
   refine JL.storeW (v / 4294967296 ^ (i / 4) + byteAt l (l.length - 1 - i) * 256 ^ (i % 4)) ag_69 rfl rfl (by rw [Nat.mod_eq_of_lt hsum, hdd, ← Int.natCast_mul, ← Int.natCast_add]) (by repeat (first | exact Del.here | apply Del.there)) (by rw [digN_len]; omega) ?_
   rw [← hdb.1]
   refine JL.nil ⟨(Ok.bridge (by repeat first | exact Parts.nil | exact Del.here | apply Del.there | apply Parts.cons) (by first | exact Part.le.refl _ | assumption) h00), ?_⟩
   refine JH.done (by kernel_rfl) ?_
   refine Rg ?_
   refine JL.op (by first | exact RunV.add_i64 rfl rfl (by omega) (by omega) | exact RunV.add rfl rfl) rfl ?_
   refine Ru 1 rfl ?_
   refine JL.nil ?_
   refine ⟨_, ?_, _, ?_, ⟨i + 1, v + byteAt l (l.length - 1 - i) * 256 ^ i, rfl, rfl, rfl, rfl, ⟨by omega, by rw [hst, Nat.add_comm]⟩⟩⟩
   ·
    omega
   ·
    repeat (first | exact trivial | refine ⟨rfl, ?_⟩)
  ·
   refine J.exit ?_
   refine Kp [3] rfl ?_
   refine Sr ?_
   refine Ru 1 rfl ?_
   refine JL.pub32 (by repeat (first | exact Del.here | apply Del.there)) (by rw [digN_len]) (by rw [digN_len]; omega) (fun h9 hle9 hP9 => ?_); replace hl := hl.mono hle9; replace hh0 := hh0.mono hle9; have hve : vL (digN ((l.length + 3) / 4) v) = beV l := (by rw [vL_digN, hv, show l.length - i = 0 by omega, List.drop_zero]; refine Nat.mod_eq_of_lt (Nat.lt_of_lt_of_le (beV_lt l) ?_); rw [show (4294967296 : Nat) = 256 ^ 4 from rfl, ← Nat.pow_mul]; exact Nat.pow_le_pow_right (by decide) (by omega))
   refine JL.callR ca_67 rfl (nattrim_fn' hP9 (by rw [digN_len]) (by omega)) rfl ?_
   rintro _ h5 hle5 ⟨ra, rc, rfl, hR⟩
   replace hl := hl.mono hle5
   replace hh0 := hh0.mono hle5
   refine Ru 1 rfl ?_
   refine JL.nil ?_
   rw [hve] at hR ⊢; exact J.retR (RetV.one rfl rfl) ⟨_, _, rfl, hR⟩



end Go.Proofs.YtmngjbefnloljaaDoor
