/- Walks: the laws DerWrites and DerAsked. -/
import Derived.Test.YtmngjbefnloljaaDoorDerB
import Derived.Test.YtmngjbefnloljaaDoorNatR
set_option linter.unusedSimpArgs false
set_option linter.unusedVariables false
set_option linter.constructorNameAsVariable false
namespace Go.Proofs.YtmngjbefnloljaaDoor
open Go Go.RowKit
set_option maxRecDepth 100000
theorem ca_11 : callT Tryd.prog 11 = true := by kernel_rfl
theorem ca_12 : callT Tryd.prog 12 = true := by kernel_rfl
theorem ca_14 : callT Tryd.prog 14 = true := by kernel_rfl
theorem ca_15 : callT Tryd.prog 15 = true := by kernel_rfl
theorem ca_16 : callT Tryd.prog 16 = true := by kernel_rfl
theorem ca_17 : callT Tryd.prog 17 = true := by kernel_rfl
theorem ca_18 : callT Tryd.prog 18 = true := by kernel_rfl
theorem ca_19 : callT Tryd.prog 19 = true := by kernel_rfl
theorem ca_36 : callT Tryd.prog 36 = true := by kernel_rfl
theorem ca_38 : callT Tryd.prog 38 = true := by kernel_rfl
theorem ca_8 : callT Tryd.prog 8 = true := by kernel_rfl
theorem ca_9 : callT Tryd.prog 9 = true := by kernel_rfl
theorem mk_75 : mkT Tryd.prog 75 = some (100, .int .u64 0, 8) := by kernel_rfl

/-! ## numbers out of bytes, by the reference -/
theorem number32_fn {a : Option Addr} {c n : Nat} {l : List UInt32} {h : Part} (hl : SlR u64R 1 h a c (l.map m64)) (hn : n = l.length) (hlen : l.length ≤ 1000000) : FnR Tryd.prog 43 [.slice a n c] h (fun v h' => ∃ a' c', v = .slice a' (toL (vL l)).length c' ∧ SlR u32R 1 h' a' c' (toL (vL l))) := by
  have hml : (l.map m64).length = l.length := List.length_map ..
  have := number_fn hl (fun i => by rw [d64_map]; exact d32_lt l i) (by omega)
  rw [hml, ← hn, cutZ_map, map_n32] at this
  exact this
def pw (i : Nat) : Nat := if i = 0 then 1 else 256 ^ ((i - 1) % 4 + 1)
theorem pw_next (i : Nat) : pw (i + 1) = 256 ^ (i % 4) * 256 := by unfold pw; rw [if_neg (by omega), Nat.add_sub_cancel, Nat.pow_succ]
theorem pw_keep (i : Nat) (h : i % 4 ≠ 0) : pw i = 256 ^ (i % 4) := by
  unfold pw; rw [if_neg (by omega)]; congr 1; omega
theorem rread_fn {a : Option Addr} {c : Nat} {l : List UInt8} {h : Part} (hl : SlR u8R 1 h a c l) (hlen : l.length ≤ 3000000) : FnR Tryd.prog 38 [.slice a l.length c] h (fun v h' => ∃ a' c', v = .slice a' (toL (beV l)).length c' ∧ SlR u32R 1 h' a' c' (toL (beV l))) := by
  refine Fn.intro Tryd.func38 rfl Tryd.ntmps38 rfl (fun e he => ?_)
  refine J.weak [(0, _)] ⟨rfl, trivial⟩ ?_
  have hh0 := Part.le.refl h
  refine Sr ?_
  refine Ru 1 rfl ?_
  refine JL.nil ?_
  refine Sr ?_
  refine Ru 2 rfl ?_
  refine JL.op (by first | exact RunV.quo_i64 rfl rfl (by omega) (by omega) (by omega) | exact RunV.quo rfl rfl (by omega)) rfl ?_
  refine JL.op (by first | exact RunV.add_i64 rfl rfl (by omega) (by omega) | exact RunV.add rfl rfl) rfl ?_
  refine JL.make1 mk_75 rfl rfl (m := l.length / 4 + 1) (by omega) (by omega) (by omega) rfl rfl (fun b1 => ?_); rw [ws_zero]
  refine Ru 1 rfl ?_
  refine Nk [3, 2, 0] rfl ?_
  refine Sr ?_
  refine Ru 1 rfl ?_
  refine JL.nil ?_
  refine J.seq ?_
  refine Sr ?_
  refine Ru 1 rfl ?_
  refine JL.nil ?_
  refine J.block ?_
  refine J.loop (fun t_ S_ h_ L_ => ∃ (i v : Nat), t_ = l.length - i ∧ S_ = [(0, .slice a l.length c), (3, .slice (some ⟨b1, 0, none⟩) (l.length / 4 + 1) (l.length / 4 + 1)), (4, .int .u64 (pw i : Nat)), (5, .int .i64 i)] ∧ h = h_ ∧ L_ = [.row (some ⟨b1, 0, none⟩) (l.length / 4 + 1) 100 1 (l.length / 4 + 1) (ws .u64 (digN (l.length / 4 + 1) v))] ∧ (i ≤ l.length ∧ v = beV (l.drop (l.length - i)))) ⟨_, _, ?_, ⟨0, 0, rfl, rfl, rfl, rfl, ⟨by omega, by simp [beV]⟩⟩⟩ ?_
  ·
   repeat (first | exact trivial | refine ⟨rfl, ?_⟩ | refine ⟨(by exact some_int (by rw [pw_next, Int.natCast_mul]; rfl)), ?_⟩)
  rintro _ _ _ _ ⟨i, v, rfl, rfl, rfl, rfl, hi, hv⟩
  refine J.seq ?_
  refine Sr ?_
  refine Ru 4 rfl ?_
  refine JL.nil ?_
  refine Cs rfl (fun hc2 => ?_) fun hc2 => ?_
  ·
   have hi' : i < l.length := (by omega); have hvl := beV_drop_lt l i (by omega); have hbl := byteAt_lt l (l.length - 1 - i); have hdb := digN_byte (l.length / 4 + 1) _ _ i hvl hbl (by omega); have hst := beV_drop l i hi'; have hd0 := digN_at (l.length / 4 + 1) (beV (l.drop (l.length - i))) (i / 4) (by omega); have hr4 := pow4 (i % 4) (by omega); have hbe := byteAt_eq l (l.length - 1 - i) (by omega); rw [← hv] at hvl hdb hst hd0; have hsb : 256 ^ (i % 4) * byteAt l (l.length - 1 - i) ≤ 4278190080 := (by rcases hr4 with e | e | e | e <;> rw [e] <;> omega); have hsum : v / 4294967296 ^ (i / 4) + byteAt l (l.length - 1 - i) * 256 ^ (i % 4) < 4294967296 := (by have := hdb.2; rcases hr4 with e | e | e | e <;> rw [e] at this ⊢ <;> omega); have hdd : d32 (digN (l.length / 4 + 1) v) (i / 4) = v / 4294967296 ^ (i / 4) := (by rw [hd0]; exact Nat.mod_eq_of_lt (by omega)); have hp16 : 256 ^ (i % 4) ≤ 16777216 := (by rcases hr4 with e | e | e | e <;> rw [e] <;> omega)
   refine J.skip ?_
   refine J.seq ?_
   refine J.block ?_
   refine J.seq ?_
   refine Sr ?_
   refine Ru 1 rfl ?_
   refine JL.op (by first | exact RunV.rem_i64 rfl rfl (by omega) (by omega) | exact RunV.rem rfl rfl (by omega)) rfl ?_
   refine Ru 1 rfl ?_
   refine JL.nil ?_
   refine J.meet [(4, .int .u64 (256 ^ (i % 4) : Nat))] [(18, _), (17, _), (14, _), (13, _), (12, _), (11, _), (0, _), (3, _), (5, _)] ⟨rfl, rfl, rfl, rfl, rfl, rfl, rfl, rfl, rfl, trivial⟩ ?_ ?_
   ·
    refine Cs rfl (fun hc3 => ?_) fun hc3 => ?_
    ·
     refine Rg ?_
     refine Ru 1 rfl ?_
     refine JL.nil ?_
     refine ⟨rfl, rfl, ?_⟩
     repeat (first | exact trivial | refine ⟨rfl, ?_⟩ | refine ⟨(by exact some_int (by first | (rw [pw_keep i (by omega)]; done) | (rw [show i % 4 = 0 by omega]; rfl))), ?_⟩)
    ·
     refine J.skip ?_
     refine ⟨rfl, rfl, ?_⟩
     repeat (first | exact trivial | refine ⟨rfl, ?_⟩ | refine ⟨(by exact some_int (by first | (rw [pw_keep i (by omega)]; done) | (rw [show i % 4 = 0 by omega]; rfl))), ?_⟩)
   ·
    refine J.seq ?_
    refine J.held ([]) 22 mixed_ rfl (fun h00 => ?_)
    refine JH.take 0 rfl (by kernel_rfl) (by kernel_rfl) (by kernel_rfl) (fun _ _ _ _ hh => hh) (Ok.bridge (by repeat first | exact Parts.nil | exact Del.here | apply Del.there | apply Parts.cons) (by first | exact Part.le.refl _ | assumption) h00) (RunV.move rfl) rfl ?_
    refine JH.take 1 rfl (by kernel_rfl) (by kernel_rfl) (by kernel_rfl) (fun _ _ _ _ hh => hh) (Ok.bridge (by repeat first | exact Parts.nil | exact Del.here | apply Del.there | apply Parts.cons) (by first | exact Part.le.refl _ | assumption) h00) (RunV.move rfl) rfl ?_
    refine JH.take 2 rfl (by kernel_rfl) (by kernel_rfl) (by kernel_rfl) (fun _ _ _ _ hh => hh) (Ok.bridge (by repeat first | exact Parts.nil | exact Del.here | apply Del.there | apply Parts.cons) (by first | exact Part.le.refl _ | assumption) h00) (by first | exact RunV.quo_i64 rfl rfl (by omega) (by omega) (by omega) | exact RunV.quo rfl rfl (by omega)) rfl ?_
    refine JH.take 3 rfl (by kernel_rfl) (by kernel_rfl) (by kernel_rfl) (fun _ _ _ _ hh => hh) (Ok.bridge (by repeat first | exact Parts.nil | exact Del.here | apply Del.there | apply Parts.cons) (by first | exact Part.le.refl _ | assumption) h00) (RunV.move rfl) rfl ?_
    refine JH.take 4 rfl (by kernel_rfl) (by kernel_rfl) (by kernel_rfl) (fun _ _ _ _ hh => hh) (Ok.bridge (by repeat first | exact Parts.nil | exact Del.here | apply Del.there | apply Parts.cons) (by first | exact Part.le.refl _ | assumption) h00) (RunV.move rfl) rfl ?_
    refine JH.take 5 rfl (by kernel_rfl) (by kernel_rfl) (by kernel_rfl) (fun _ _ _ _ hh => hh) (Ok.bridge (by repeat first | exact Parts.nil | exact Del.here | apply Del.there | apply Parts.cons) (by first | exact Part.le.refl _ | assumption) h00) (by first | exact RunV.quo_i64 rfl rfl (by omega) (by omega) (by omega) | exact RunV.quo rfl rfl (by omega)) rfl ?_
    refine JH.take 6 rfl (by kernel_rfl) (by kernel_rfl) (by kernel_rfl) (fun _ _ _ _ hh => hh) (Ok.bridge (by repeat first | exact Parts.nil | exact Del.here | apply Del.there | apply Parts.cons) (by first | exact Part.le.refl _ | assumption) h00) (RunV.index_at sl_75 (m := i / 4) rfl rfl (by omega) (by omega)) rfl ?_
    refine JH.take 8 rfl (by kernel_rfl) (by kernel_rfl) (by kernel_rfl) (fun _ _ _ _ hh => hh) (Ok.bridge (by repeat first | exact Parts.nil | exact Del.here | apply Del.there | apply Parts.cons) (by first | exact Part.le.refl _ | assumption) h00) (RunV.move rfl) rfl ?_
    refine JH.take 9 rfl (by kernel_rfl) (by kernel_rfl) (by kernel_rfl) (fun _ _ _ _ hh => hh) (Ok.bridge (by repeat first | exact Parts.nil | exact Del.here | apply Del.there | apply Parts.cons) (by first | exact Part.le.refl _ | assumption) h00) (RunV.move rfl) rfl ?_
    refine JH.take 10 rfl (by kernel_rfl) (by kernel_rfl) (by kernel_rfl) (fun _ _ _ _ hh => hh) (Ok.bridge (by repeat first | exact Parts.nil | exact Del.here | apply Del.there | apply Parts.cons) (by first | exact Part.le.refl _ | assumption) h00) (RunV.move rfl) rfl ?_
    refine JH.take 11 rfl (by kernel_rfl) (by kernel_rfl) (by kernel_rfl) (fun _ _ _ _ hh => hh) (Ok.bridge (by repeat first | exact Parts.nil | exact Del.here | apply Del.there | apply Parts.cons) (by first | exact Part.le.refl _ | assumption) h00) (RunV.len sl_22 rfl) rfl ?_
    refine JH.take 12 rfl (by kernel_rfl) (by kernel_rfl) (by kernel_rfl) (fun _ _ _ _ hh => hh) (Ok.bridge (by repeat first | exact Parts.nil | exact Del.here | apply Del.there | apply Parts.cons) (by first | exact Part.le.refl _ | assumption) h00) (by first | exact RunV.sub_i64 rfl rfl (by omega) (by omega) | exact RunV.sub rfl rfl) rfl ?_
    refine JH.take 13 rfl (by kernel_rfl) (by kernel_rfl) (by kernel_rfl) (fun _ _ _ _ hh => hh) (Ok.bridge (by repeat first | exact Parts.nil | exact Del.here | apply Del.there | apply Parts.cons) (by first | exact Part.le.refl _ | assumption) h00) (RunV.move rfl) rfl ?_
    refine JH.take 14 rfl (by kernel_rfl) (by kernel_rfl) (by kernel_rfl) (fun _ _ _ _ hh => hh) (Ok.bridge (by repeat first | exact Parts.nil | exact Del.here | apply Del.there | apply Parts.cons) (by first | exact Part.le.refl _ | assumption) h00) (by first | exact RunV.sub_i64 rfl rfl (by omega) (by omega) | exact RunV.sub rfl rfl) rfl ?_
    refine JH.takeE 15 rfl (by kernel_rfl) (by kernel_rfl) (by kernel_rfl) (fun _ _ _ _ hh => hh) (Ok.bridge (by repeat first | exact Parts.nil | exact Del.here | apply Del.there | apply Parts.cons) (by first | exact Part.le.refl _ | assumption) h00) (RunE.index (m := l.length - 1 - i) sl_22 rfl rfl (by omega) hl rfl (by omega)) rfl ?_
    rintro _ ⟨b8, o8, hi8, rfl, hE8⟩
    refine JH.take 16 rfl (by kernel_rfl) (by kernel_rfl) (by kernel_rfl) (fun _ _ _ _ hh => hh) (Ok.bridge (by repeat first | exact Parts.nil | exact Del.here | apply Del.there | apply Parts.cons) (by first | exact Part.le.refl _ | assumption) h00) ((hbe ▸ RunV.ld_u8 ag_5 rfl hE8 : RunV _ _ _ _ _ _ (.int .u8 (byteAt l (l.length - 1 - i) : Nat)))) rfl ?_
    refine JH.take 17 rfl (by kernel_rfl) (by kernel_rfl) (by kernel_rfl) (fun _ _ _ _ hh => hh) (Ok.bridge (by repeat first | exact Parts.nil | exact Del.here | apply Del.there | apply Parts.cons) (by first | exact Part.le.refl _ | assumption) h00) (RunV.conv_u64 cv_5_100 rfl (by omega) (by omega)) rfl ?_
    refine JH.take 18 rfl (by kernel_rfl) (by kernel_rfl) (by kernel_rfl) (fun _ _ _ _ hh => hh) (Ok.bridge (by repeat first | exact Parts.nil | exact Del.here | apply Del.there | apply Parts.cons) (by first | exact Part.le.refl _ | assumption) h00) (RunV.mul_u64 rfl rfl (by rw [← Int.natCast_mul]; omega) (by rw [← Int.natCast_mul]; omega)) rfl ?_
    refine JH.all1 7 (by kernel_rfl) rfl ?_
    unfold One
    refine JL.op (RunV.wload ag_100 rfl (by repeat (first | exact List.mem_cons_self .. | apply List.mem_cons_of_mem)) (by rw [digN_len]; omega)) rfl ?_
    refine JL.nil ⟨(Ok.bridge (by repeat first | exact Parts.nil | exact Del.here | apply Del.there | apply Parts.cons) (by first | exact Part.le.refl _ | assumption) h00), ?_⟩
    refine JH.take 19 rfl (by kernel_rfl) (by kernel_rfl) (by kernel_rfl) (fun _ _ _ _ hh => hh) (Ok.bridge (by repeat first | exact Parts.nil | exact Del.here | apply Del.there | apply Parts.cons) (by first | exact Part.le.refl _ | assumption) h00) (RunV.add_u64 rfl rfl (by rw [← Int.natCast_mul]; omega) (by rw [← Int.natCast_mul]; omega)) rfl ?_
    refine JH.take 20 rfl (by kernel_rfl) (by kernel_rfl) (by kernel_rfl) (fun _ _ _ _ hh => hh) (Ok.bridge (by repeat first | exact Parts.nil | exact Del.here | apply Del.there | apply Parts.cons) (by first | exact Part.le.refl _ | assumption) h00) (RunV.index_at sl_75 (m := i / 4) rfl rfl (by omega) (by omega)) rfl ?_
    refine JH.all1 21 (by kernel_rfl) rfl ?_
    unfold One
    refine JL.storeW (v / 4294967296 ^ (i / 4) + byteAt l (l.length - 1 - i) * 256 ^ (i % 4)) ag_100 rfl rfl (by rw [Nat.mod_eq_of_lt hsum, hdd, ← Int.natCast_mul, ← Int.natCast_add, Nat.mul_comm]) (by repeat (first | exact Del.here | apply Del.there)) (by rw [digN_len]; omega) ?_
    rw [← hdb.1]
    refine JL.nil ⟨(Ok.bridge (by repeat first | exact Parts.nil | exact Del.here | apply Del.there | apply Parts.cons) (by first | exact Part.le.refl _ | assumption) h00), ?_⟩
    refine JH.done (by kernel_rfl) ?_
    refine Rg ?_
    refine Ru 1 rfl ?_
    refine JL.op (RunV.mul_u64 rfl rfl (by omega) (by omega)) rfl ?_
    refine Ru 1 rfl ?_
    refine JL.nil ?_
    refine Rg ?_
    refine Ru 1 rfl ?_
    refine JL.op (by first | exact RunV.add_i64 rfl rfl (by omega) (by omega) | exact RunV.add rfl rfl) rfl ?_
    refine Ru 1 rfl ?_
    refine JL.nil ?_
    refine ⟨_, ?_, _, ?_, ⟨i + 1, v + byteAt l (l.length - 1 - i) * 256 ^ i, rfl, rfl, rfl, rfl, ⟨by omega, by rw [hst, Nat.add_comm]⟩⟩⟩
    ·
     omega
    ·
     repeat (first | exact trivial | refine ⟨rfl, ?_⟩ | refine ⟨(by exact some_int (by rw [pw_next, Int.natCast_mul]; rfl)), ?_⟩)
  ·
   refine J.exit ?_
   refine Kp [3] rfl ?_
   refine Sr ?_
   refine Ru 1 rfl ?_
   refine JL.pub64 (by repeat (first | exact Del.here | apply Del.there)) (by rw [digN_len]) (by rw [digN_len]; omega) (fun h9 hle9 hP9 => ?_); replace hl := hl.mono hle9; replace hh0 := hh0.mono hle9; have hve : vL (digN (l.length / 4 + 1) v) = beV l := (by rw [vL_digN, hv, show l.length - i = 0 by omega, List.drop_zero]; refine Nat.mod_eq_of_lt (Nat.lt_of_lt_of_le (beV_lt l) ?_); rw [show (4294967296 : Nat) = 256 ^ 4 from rfl, ← Nat.pow_mul]; exact Nat.pow_le_pow_right (by decide) (by omega))
   refine JL.callR ca_43 rfl (number32_fn hP9 (by rw [digN_len]) (by rw [digN_len]; omega)) rfl ?_
   rintro _ h6 hle6 ⟨ra, rc, rfl, hR⟩
   replace hl := hl.mono hle6
   replace hh0 := hh0.mono hle6
   refine Ru 1 rfl ?_
   refine JL.nil ?_
   rw [hve] at hR ⊢; exact J.retR (RetV.one rfl rfl) ⟨_, _, rfl, hR⟩




/-! ## integers out of nodes, by the reference -/
theorem rwhole_fn {x : Nd} {cs : List Value} {h : Part} (r : NdR h cs x) (hsz : x.sz ≤ 10000000) : Pure Tryd.prog 36 [.agg cs.toArray] h (.bool x.whole) := by
  cases x with
  | mk c t k bs ks =>
  obtain ⟨ka, kca, kb, kcb, rfl, hka, hkb⟩ := r.inv
  refine Pure.ofV ?_
  refine Fn.intro Tryd.func36 rfl Tryd.ntmps36 rfl (fun e he => ?_)
  refine J.weak [(0, _)] ⟨rfl, trivial⟩ ?_
  refine Sr ?_
  refine JL.box rfl rfl rfl (fun b1 => ?_)
  refine Ru 1 rfl ?_
  refine JL.nil ?_
  refine Sr ?_
  refine Ru 1 rfl ?_
  refine JL.op (RunV.own1 ag_3 rfl (by repeat (first | exact List.mem_cons_self .. | apply List.mem_cons_of_mem)) rfl) rfl ?_
  refine Ru 2 rfl ?_
  apply An 6 15 9 [2, 1] rfl rfl
  ·
   intro hb2 hc2
   refine Ru 1 rfl ?_
   refine JL.opg rfl rfl  (RunV.own1 ag_3 rfl (by repeat (first | exact List.mem_cons_self .. | apply List.mem_cons_of_mem)) rfl) rfl ?_
   refine Ru 2 rfl ?_
   apply On 10 14 4 [6, 2, 1] rfl rfl
   rotate_left
   ·
    intro hb3 hc3
    refine Ru 1 rfl ?_
    refine JL.opg rfl rfl  (RunV.own1 ag_3 rfl (by repeat (first | exact List.mem_cons_self .. | apply List.mem_cons_of_mem)) rfl) rfl ?_
    refine Ru 2 rfl ?_
    exact Ae (om_f hb3 rfl) rfl
   rotate_right
   ·
    exact fun hb3 _ => Ru 4 rfl (Ae (om_t hb3 rfl) rfl)
   refine Ru 1 rfl ?_
   exact Ae (am_t hb2 rfl) rfl
  ·
   exact fun hb2 _ => Ru 9 rfl (Ae (am_f hb2 rfl) rfl)
  refine Ru 1 rfl ?_
  apply An 16 19 3 [2] rfl rfl
  ·
   intro hb4 hc4
   refine JL.opg rfl rfl  (RunV.ownA ag_25 rfl (by repeat (first | exact List.mem_cons_self .. | apply List.mem_cons_of_mem)) (by first | rfl | exact NdR.len5 (by assumption))) rfl ?_
   refine JL.callPg rfl rfl  ca_14 rfl (rright_fn (by assumption) (by omega)) rfl ?_
   refine Ru 1 rfl ?_
   exact Ae (am_t hb4 rfl) rfl
  ·
   exact fun hb4 _ => Ru 3 rfl (Ae (am_f hb4 rfl) rfl)
  refine Ru 1 rfl ?_
  refine JL.nil ?_
  exact J.retV (RetV.one rfl rfl) rfl



theorem rnatof_fn {x : Nd} {cs : List Value} {h : Part} (r : NdR h cs x) (hsz : x.sz ≤ 3000000) :
    FnR Tryd.prog 18 [.agg cs.toArray] h (fun v h' => ∃ a c, v = .tuple #[.slice a x.natL.length c, .bool x.natOk] ∧ SlR u32R 1 h' a c x.natL) := by
  cases x with
  | mk c t k bs ks =>
  have hbs := Nd.bytes_sz c t k bs ks
  have hpos : (Nd.mk c t k bs ks).whole = true → 0 < bs.length := fun hw => leastB_pos (whole_iff.1 hw).2.2.2.2
  obtain ⟨ka, kca, kb, kcb, rfl, hka, hkb⟩ := r.inv
  refine Fn.intro Tryd.func18 rfl Tryd.ntmps18 rfl (fun e he => ?_)
  refine J.weak [(0, _)] ⟨rfl, trivial⟩ ?_
  have hh0 := Part.le.refl h
  refine Sr ?_
  refine JL.box rfl rfl rfl (fun b1 => ?_)
  refine Ru 2 rfl ?_
  refine JL.nil ?_
  refine J.seq ?_
  refine Sr ?_
  refine JL.op (RunV.ownA ag_25 rfl (by repeat (first | exact List.mem_cons_self .. | apply List.mem_cons_of_mem)) (by first | rfl | exact NdR.len5 (by assumption))) rfl ?_
  refine JL.callP ca_36 rfl (rwhole_fn (by assumption) (by omega)) rfl ?_
  refine Ru 2 rfl ?_
  refine Bs 7 rfl (fun hc3 => ?_) fun hc3 => ?_
  ·
   refine Ru 6 rfl ?_
   refine Nk [13, 3, 2, 1] rfl ?_
   refine J.cond_t rfl ?_
   refine Sr ?_
   refine Ru 2 rfl ?_
   refine JL.nil ?_
   have hff := natOk_f (show (Nd.mk c t k bs ks).whole = false ∨ ¬ byteAt bs 0 < 128 by first | exact .inl hc3 | (right; omega)); have hfl : (Nd.mk c t k bs ks).natL = [] := if_neg (by rw [hff]; decide); rw [hff, hfl]; exact J.retR (RetV.two rfl rfl rfl) ⟨_, _, rfl, SlR.nil_⟩
  ·
   have hps := hpos (by simpa using hc3); have e0 := byteAt_eq bs 0 hps; have hwz := hc3
   refine Ru 1 rfl ?_
   refine JL.opg rfl rfl  (RunV.own1 ag_22 rfl (by repeat (first | exact List.mem_cons_self .. | apply List.mem_cons_of_mem)) rfl) rfl ?_
   refine JL.opeg rfl rfl  (RunE.index sl_22 rfl rfl (show _ = ((0 : Nat) : Int) from rfl) (by assumption) rfl (by omega)) rfl ?_
   rintro _ ⟨b4, o4, hi4, rfl, hE4⟩
   refine JL.opg rfl rfl  (RunV.ld_u8 ag_5 rfl (by assumption)) rfl ?_
   refine Ru 2 rfl ?_
   refine Nk [13, 3, 2, 1] rfl ?_
   refine Cs rfl (fun hc6 => ?_) fun hc6 => ?_
   ·
    refine Sr ?_
    refine Ru 2 rfl ?_
    refine JL.nil ?_
    have hff := natOk_f (show (Nd.mk c t k bs ks).whole = false ∨ ¬ byteAt bs 0 < 128 by first | exact .inl hc6 | (right; omega)); have hfl : (Nd.mk c t k bs ks).natL = [] := if_neg (by rw [hff]; decide); rw [hff, hfl]; exact J.retR (RetV.two rfl rfl rfl) ⟨_, _, rfl, SlR.nil_⟩
   ·
    refine J.skip ?_
    refine Sr ?_
    refine Ru 1 rfl ?_
    refine JL.op (RunV.own1 ag_22 rfl (by repeat (first | exact List.mem_cons_self .. | apply List.mem_cons_of_mem)) rfl) rfl ?_
    refine JL.callR ca_38 rfl (rread_fn (by assumption) (by omega)) rfl ?_
    rintro _ h7 hle7 ⟨a7, c7, rfl, hS7⟩
    replace r := r.mono hle7
    replace hka := hka.mono hle7
    replace hh0 := hh0.mono hle7
    refine Ru 2 rfl ?_
    refine Nk [3, 2] rfl ?_
    have hff := natOk_t hwz (show byteAt bs 0 < 128 by omega); have hfl : (Nd.mk c t k bs ks).natL = toL (beV bs) := if_pos hff; rw [hff, hfl]; exact J.retR (RetV.two rfl rfl rfl) ⟨_, _, rfl, by assumption⟩



theorem rintof_fn {x : Nd} {cs : List Value} {h : Part} (r : NdR h cs x) (hsz : x.sz ≤ 10000000) :
    Pure Tryd.prog 16 [.agg cs.toArray] h (.tuple #[.int .i64 x.intV, .bool x.intOk]) := by
  cases x with
  | mk c t k bs ks =>
  have hbs := Nd.bytes_sz c t k bs ks
  have hpos : (Nd.mk c t k bs ks).whole = true → 0 < bs.length := fun hw => leastB_pos (whole_iff.1 hw).2.2.2.2
  obtain ⟨ka, kca, kb, kcb, rfl, hka, hkb⟩ := r.inv
  refine Pure.ofV ?_
  refine Fn.intro Tryd.func16 rfl Tryd.ntmps16 rfl (fun e he => ?_)
  refine J.weak [(0, _)] ⟨rfl, trivial⟩ ?_
  refine Sr ?_
  refine JL.box rfl rfl rfl (fun b1 => ?_)
  refine Ru 2 rfl ?_
  refine JL.nil ?_
  refine J.seq ?_
  refine Sr ?_
  refine JL.op (RunV.ownA ag_25 rfl (by repeat (first | exact List.mem_cons_self .. | apply List.mem_cons_of_mem)) (by first | rfl | exact NdR.len5 (by assumption))) rfl ?_
  refine JL.callP ca_36 rfl (rwhole_fn (by assumption) (by omega)) rfl ?_
  refine Ru 2 rfl ?_
  apply On 9 14 5 [3, 2, 1] rfl rfl
  rotate_left
  ·
   intro hb3 hc3
   refine Ru 1 rfl ?_
   refine JL.opg rfl rfl  (RunV.own1 ag_22 rfl (by repeat (first | exact List.mem_cons_self .. | apply List.mem_cons_of_mem)) rfl) rfl ?_
   refine Ru 3 rfl ?_
   exact Ae (om_f hb3 rfl) rfl
  rotate_right
  ·
   exact fun hb3 _ => Ru 5 rfl (Ae (om_t hb3 rfl) rfl)
  refine JL.nil ?_
  refine Cs rfl (fun hc4 => ?_) fun hc4 => ?_
  ·
   have hff : (Nd.mk c t k bs ks).intOk = false := (by rw [intOk_eq]; revert hc4; cases (Nd.mk c t k bs ks).whole <;> simp <;> omega)
   refine Sr ?_
   refine Ru 2 rfl ?_
   refine JL.nil ?_
   exact J.retV (RetV.two rfl rfl rfl) (by rw [hff, intV_f hff])
  ·
   obtain ⟨hww, hb8⟩ : (Nd.mk c t k bs ks).whole = true ∧ bs.length ≤ 8 := (by revert hc4; cases (Nd.mk c t k bs ks).whole <;> simp <;> omega)
   have hps := hpos hww; have hff : (Nd.mk c t k bs ks).intOk = true := (by rw [intOk_eq, hww, decide_eq_true hb8]; rfl); have e0 := byteAt_eq bs 0 hps; have hb0 := byteAt_lt bs 0; have hsb := s8_bd (byteAt bs 0) hb0; have hdl : (bs.drop 1).length = bs.length - 1 := List.length_drop
   refine J.skip ?_
   refine Sr ?_
   refine Ru 1 rfl ?_
   refine JL.op (RunV.own1 ag_22 rfl (by repeat (first | exact List.mem_cons_self .. | apply List.mem_cons_of_mem)) rfl) rfl ?_
   refine JL.ope (RunE.index sl_22 rfl rfl (show _ = ((0 : Nat) : Int) from rfl) (by assumption) rfl (by omega)) rfl ?_
   rintro _ ⟨b5, o5, hi5, rfl, hE5⟩
   refine JL.op (RunV.ld_u8 ag_5 rfl (by assumption)) rfl ?_
   refine JL.op (by first | exact RunV.convb_i64 cv_5_2 rfl | exact RunV.conv_i64 cv_5_2 rfl (by omega) (by omega) | exact RunV.conv cv_5_2 rfl) rfl ?_
   refine Ru 1 rfl ?_
   refine Nk [4, 3, 2, 1] rfl ?_
   refine J.seq ?_
   refine Sr ?_
   refine Ru 2 rfl ?_
   refine JL.nil ?_
   refine J.meet [(4, .int .i64 (s8 (byteAt bs 0)))] [(3, _), (2, _), (1, _)] ⟨rfl, rfl, rfl, trivial⟩ ?_ ?_
   ·
    refine Cs rfl (fun hc7 => ?_) fun hc7 => ?_
    ·
     refine Rg ?_
     refine Ru 1 rfl ?_
     refine JL.op (by first | exact RunV.sub_i64 rfl rfl (by omega) (by omega) | exact RunV.sub rfl rfl) rfl ?_
     refine Ru 1 rfl ?_
     refine JL.nil ?_
     refine ⟨rfl, rfl, ?_⟩
     repeat (first | exact trivial | refine ⟨rfl, ?_⟩ | refine ⟨(by exact some_int (by unfold s8; split <;> omega)), ?_⟩)
    ·
     refine J.skip ?_
     refine ⟨rfl, rfl, ?_⟩
     repeat (first | exact trivial | refine ⟨rfl, ?_⟩ | refine ⟨(by exact some_int (by unfold s8; split <;> omega)), ?_⟩)
   ·
    refine J.seq ?_
    refine Sr ?_
    refine Ru 1 rfl ?_
    refine JL.nil ?_
    refine J.block ?_
    refine J.loop (fun t_ S_ h_ L_ => ∃ (i : Nat) (w : Int), t_ = bs.length - i ∧ S_ = [(1, .pointer (some ⟨b1, 0, none⟩)), (4, .int .i64 w), (5, .int .i64 (i + 1 : Nat))] ∧ h = h_ ∧ L_ = [.blk b1 25 [.int .i64 c, .int .i64 t, .bool k, .slice ka bs.length kca, .slice kb ks.length kcb]] ∧ (i ≤ (bs.drop 1).length ∧ w = s8 (byteAt bs 0) * 256 ^ i + beV ((bs.drop 1).take i))) ⟨_, _, ?_, ⟨0, s8 (byteAt bs 0), rfl, rfl, rfl, rfl, ⟨by omega, by simp [beV]⟩⟩⟩ ?_
    ·
     repeat (first | exact trivial | refine ⟨rfl, ?_⟩)
    rintro _ _ _ _ ⟨i, w, rfl, rfl, rfl, rfl, hi, hw⟩
    refine J.seq ?_
    refine Sr ?_
    refine Ru 2 rfl ?_
    refine JL.op (RunV.own1 ag_22 rfl (by repeat (first | exact List.mem_cons_self .. | apply List.mem_cons_of_mem)) rfl) rfl ?_
    refine Ru 2 rfl ?_
    refine JL.nil ?_
    refine Cs rfl (fun hc8 => ?_) fun hc8 => ?_
    ·
     have hi' : i < (bs.drop 1).length := (by omega); have hbv := beV_lt ((bs.drop 1).take i); rw [List.length_take, Nat.min_eq_left (by omega)] at hbv; have hwb := sV_bd hsb hbv; rw [← hw] at hwb; have hp8 := pow8_le i (by omega); have hns := beV_take_succ (bs.drop 1) i hi'; have hbi : (bs.drop 1)[i]'hi' = bs[i + 1]'(by omega) := (by rw [List.getElem_drop]; congr 1; omega); rw [hbi] at hns; have hcb := UInt8.toNat_lt (bs[i + 1]'(by omega))
     refine J.skip ?_
     refine J.seq ?_
     refine J.block ?_
     refine Rg ?_
     refine Ru 1 rfl ?_
     refine JL.op (by first | exact RunV.mul_i64 rfl rfl (by omega) (by omega) | exact RunV.mul rfl rfl) rfl ?_
     refine Ru 1 rfl ?_
     refine JL.op (RunV.own1 ag_22 rfl (by repeat (first | exact List.mem_cons_self .. | apply List.mem_cons_of_mem)) rfl) rfl ?_
     refine Ru 1 rfl ?_
     refine JL.ope (RunE.index sl_22 rfl rfl (by first | with_reducible rfl | exact (Int.toNat_of_nonneg (by omega)).symm) (by assumption) rfl (by omega)) rfl ?_
     rintro _ ⟨b9, o9, hi9, rfl, hE9⟩
     refine JL.op (RunV.ld_u8 ag_5 rfl (by assumption)) rfl ?_
     refine JL.op (by first | exact RunV.convb_i64 cv_5_2 rfl | exact RunV.conv_i64 cv_5_2 rfl (by omega) (by omega) | exact RunV.conv cv_5_2 rfl) rfl ?_
     refine JL.op (by first | exact RunV.add_i64 rfl rfl (by omega) (by omega) | exact RunV.add rfl rfl) rfl ?_
     refine Ru 1 rfl ?_
     refine JL.nil ?_
     refine Rg ?_
     refine Ru 1 rfl ?_
     refine JL.op (by first | exact RunV.add_i64 rfl rfl (by omega) (by omega) | exact RunV.add rfl rfl) rfl ?_
     refine Ru 1 rfl ?_
     refine JL.nil ?_
     refine ⟨_, ?_, _, ?_, ⟨i + 1, w * 256 + (bs[i + 1]'(by omega)).toNat, rfl, rfl, rfl, rfl, ⟨by omega, by rw [hns, hw, Int.pow_succ, Int.natCast_add, Int.natCast_mul, Int.add_mul, Int.mul_assoc, Int.add_assoc]; rfl⟩⟩⟩
     ·
      omega
     ·
      repeat (first | exact trivial | refine ⟨rfl, ?_⟩)
    ·
     have hie : i = (bs.drop 1).length := (by omega); have hsv : (Nd.mk c t k bs ks).intV = w := (by rw [intV_t hff, hw, hie, List.take_length, sV, hdl])
     refine J.exit ?_
     refine Kp [4] rfl ?_
     refine Sr ?_
     refine Ru 3 rfl ?_
     refine JL.nil ?_
     exact J.retV (RetV.two rfl rfl rfl) (by rw [hff, hsv])




theorem writes_fn {x : Nd} {cs : List Value} {h : Part} (r : NdR h cs x) (hT : Tabs h) : Pure Tryd.prog 3 [.agg cs.toArray] h (.bool true) := by
  have hgr := fun hh => greatB_ok r.okB hh
  refine Pure.ofV ?_
  refine Fn.intro Tryd.func3 rfl Tryd.ntmps3 rfl (fun e he => ?_)
  refine J.weak [(0, _)] ⟨rfl, trivial⟩ ?_
  have hh0 := Part.le.refl h
  refine Sr ?_
  refine JL.box rfl rfl rfl (fun b1 => ?_)
  refine Ru 1 rfl ?_
  refine JL.nil ?_
  refine J.seq ?_
  refine Sr ?_
  refine JL.op (RunV.ownA ag_25 rfl (by repeat (first | exact List.mem_cons_self .. | apply List.mem_cons_of_mem)) (by first | rfl | exact NdR.len5 (by assumption))) rfl ?_
  refine JL.callP ca_8 rfl (great_fn (by assumption)) rfl ?_
  refine JL.nil ?_
  refine Cs rfl (fun hc3 => ?_) fun hc3 => ?_
  ·
   refine Sr ?_
   refine JL.callP ca_9 rfl (kn_fn (by assumption)) rfl ?_
   refine Ru 1 rfl ?_
   refine Nk [2, 1] rfl ?_
   first | exact J.retV (RetV.one rfl rfl) rfl | (exfalso; simp_all; done) | (exfalso; omega)
  ·
   have hsz := (hgr hc3).1
   refine J.skip ?_
   refine Sr ?_
   refine JL.op (RunV.ownA ag_25 rfl (by repeat (first | exact List.mem_cons_self .. | apply List.mem_cons_of_mem)) (by first | rfl | exact NdR.len5 (by assumption))) rfl ?_
   refine JL.callR ca_10 rfl (write_fn (by assumption) (by assumption) (by omega)) rfl ?_
   rintro _ h5 hle5 ⟨a5, c5, rfl, hS5⟩
   replace r := r.mono hle5
   replace hT := hT.mono hle5
   replace hh0 := hh0.mono hle5
   refine Ru 5 rfl ?_
   refine Nk [4, 3, 2, 1] rfl ?_
   refine Sr ?_
   refine JL.op (RunV.ownA ag_25 rfl (by repeat (first | exact List.mem_cons_self .. | apply List.mem_cons_of_mem)) (by first | rfl | exact NdR.len5 (by assumption))) rfl ?_
   refine JL.callR ca_11 rfl (rwritex_fn (by assumption) (by omega)) rfl ?_
   rintro _ h6 hle6 ⟨a6, c6, rfl, hS6⟩
   replace r := r.mono hle6
   replace hT := hT.mono hle6
   replace hh0 := hh0.mono hle6
   replace hS5 := hS5.mono hle6
   refine Ru 5 rfl ?_
   refine Nk [6, 5, 4, 3, 2, 1] rfl ?_
   refine J.seq ?_
   refine J.drawn mixed_ (by kernel_rfl) ?_
   refine Rq 2 rfl ?_
   refine JQ.callP ca_12 rfl (samebytes_fn (by assumption) (by assumption)) rfl ?_
   refine Rq 1 rfl ?_
   refine Bq 23 rfl (fun hc8 => ?_) fun hc8 => ?_
   ·
    refine Rq 5 rfl ?_
    refine Bq 28 rfl (fun hc9 => ?_) fun hc9 => ?_
    ·
     refine JQ.opg rfl rfl  (RunV.ownA ag_25 rfl (by repeat (first | exact List.mem_cons_self .. | apply List.mem_cons_of_mem)) (by first | rfl | exact NdR.len5 (by assumption))) rfl ?_
     refine JQ.callPg rfl rfl  ca_13 rfl (right_fn (by assumption) (by assumption) (by omega)) rfl ?_
     refine JQ.opg rfl rfl  (RunV.ownA ag_25 rfl (by repeat (first | exact List.mem_cons_self .. | apply List.mem_cons_of_mem)) (by first | rfl | exact NdR.len5 (by assumption))) rfl ?_
     refine JQ.callPg rfl rfl  ca_14 rfl (rright_fn (by assumption) (by omega)) rfl ?_
     refine JQ.opg rfl rfl  (RunV.eqlB un_4 rfl rfl) rfl ?_
     refine Rq 2 rfl ?_
     refine Bq 35 rfl (fun hc12 => ?_) fun hc12 => ?_
     ·
      refine JQ.callPg rfl rfl  ca_9 rfl (kn_fn (by assumption)) rfl ?_
      refine Rq 2 rfl ?_
      refine Nq [2] rfl ?_
      first | exact J.retV (RetV.one rfl rfl) rfl | (exfalso; simp_all; done) | (exfalso; omega)
     ·
      refine Rq 3 rfl ?_
      refine Nq [2] rfl ?_
      first | exact J.retV (RetV.one rfl rfl) rfl | (exfalso; simp_all; done) | (exfalso; omega)
    ·
     refine Rq 10 rfl ?_
     refine Nq [2] rfl ?_
     first | exact J.retV (RetV.one rfl rfl) rfl | (exfalso; simp_all; done) | (exfalso; omega)
   ·
    refine Rq 15 rfl ?_
    refine Nq [2] rfl ?_
    first | exact J.retV (RetV.one rfl rfl) rfl | (exfalso; simp_all; done) | (exfalso; omega)
theorem asked_fn {x : Nd} {cs : List Value} {h : Part} (r : NdR h cs x) (hT : Tabs h) : Pure Tryd.prog 4 [.agg cs.toArray] h (.bool true) := by
  have hgr := fun hh => greatB_ok r.okB hh
  refine Pure.ofV ?_
  refine Fn.intro Tryd.func4 rfl Tryd.ntmps4 rfl (fun e he => ?_)
  refine J.weak [(0, _)] ⟨rfl, trivial⟩ ?_
  have hh0 := Part.le.refl h
  refine Sr ?_
  refine JL.box rfl rfl rfl (fun b1 => ?_)
  refine Ru 1 rfl ?_
  refine JL.nil ?_
  refine J.seq ?_
  refine Sr ?_
  refine JL.op (RunV.ownA ag_25 rfl (by repeat (first | exact List.mem_cons_self .. | apply List.mem_cons_of_mem)) (by first | rfl | exact NdR.len5 (by assumption))) rfl ?_
  refine JL.callP ca_8 rfl (great_fn (by assumption)) rfl ?_
  refine JL.nil ?_
  refine Cs rfl (fun hc3 => ?_) fun hc3 => ?_
  ·
   refine Sr ?_
   refine JL.callP ca_9 rfl (kn_fn (by assumption)) rfl ?_
   refine Ru 1 rfl ?_
   refine Nk [2, 1] rfl ?_
   first | exact J.retV (RetV.one rfl rfl) rfl | (exfalso; simp_all; done) | (exfalso; omega)
  ·
   have hsz := (hgr hc3).1
   refine J.skip ?_
   refine Sr ?_
   refine JL.op (RunV.ownA ag_25 rfl (by repeat (first | exact List.mem_cons_self .. | apply List.mem_cons_of_mem)) (by first | rfl | exact NdR.len5 (by assumption))) rfl ?_
   refine JL.callP ca_15 rfl (intof_fn (by assumption) (by assumption) (by omega)) rfl ?_
   refine Ru 5 rfl ?_
   refine Nk [4, 3, 2, 1] rfl ?_
   refine Sr ?_
   refine JL.op (RunV.ownA ag_25 rfl (by repeat (first | exact List.mem_cons_self .. | apply List.mem_cons_of_mem)) (by first | rfl | exact NdR.len5 (by assumption))) rfl ?_
   refine JL.callP ca_16 rfl (rintof_fn (by assumption) (by omega)) rfl ?_
   refine Ru 5 rfl ?_
   refine Nk [6, 5, 4, 3, 2, 1] rfl ?_
   refine Sr ?_
   refine JL.op (RunV.ownA ag_25 rfl (by repeat (first | exact List.mem_cons_self .. | apply List.mem_cons_of_mem)) (by first | rfl | exact NdR.len5 (by assumption))) rfl ?_
   refine JL.callR ca_17 rfl (natof_fn (by assumption) (by assumption) (by omega)) rfl ?_
   rintro _ h7 hle7 ⟨a7, c7, rfl, hS7⟩
   replace r := r.mono hle7
   replace hT := hT.mono hle7
   replace hh0 := hh0.mono hle7
   refine Ru 5 rfl ?_
   refine Nk [8, 7, 6, 5, 4, 3, 2, 1] rfl ?_
   refine Sr ?_
   refine JL.op (RunV.ownA ag_25 rfl (by repeat (first | exact List.mem_cons_self .. | apply List.mem_cons_of_mem)) (by first | rfl | exact NdR.len5 (by assumption))) rfl ?_
   refine JL.callR ca_18 rfl (rnatof_fn (by assumption) (by omega)) rfl ?_
   rintro _ h8 hle8 ⟨a8, c8, rfl, hS8⟩
   replace r := r.mono hle8
   replace hT := hT.mono hle8
   replace hh0 := hh0.mono hle8
   replace hS7 := hS7.mono hle8
   refine Ru 5 rfl ?_
   refine Nk [10, 9, 8, 7, 6, 5, 4, 3, 2] rfl ?_
   refine Sr ?_
   refine Ru 4 rfl ?_
   refine Bs 37 rfl (fun hc9 => ?_) fun hc9 => ?_
   ·
    refine Ru 2 rfl ?_
    refine JL.opg rfl rfl  (RunV.eqlB un_4 rfl rfl) rfl ?_
    refine Ru 2 rfl ?_
    refine Bs 42 rfl (fun hc10 => ?_) fun hc10 => ?_
    ·
     refine Ru 2 rfl ?_
     refine JL.callPg rfl rfl  ca_19 rfl (natsame_fn (by assumption) (by assumption)) rfl ?_
     refine Ru 2 rfl ?_
     refine Bs 47 rfl (fun hc12 => ?_) fun hc12 => ?_
     ·
      refine Ru 2 rfl ?_
      refine JL.opg rfl rfl  (RunV.eqlB un_4 rfl rfl) rfl ?_
      refine Ru 2 rfl ?_
      refine Bs 52 rfl (fun hc13 => ?_) fun hc13 => ?_
      ·
       refine JL.callPg rfl rfl  ca_9 rfl (kn_fn (by assumption)) rfl ?_
       refine Ru 2 rfl ?_
       refine Nk [2] rfl ?_
       first | exact J.retV (RetV.one rfl rfl) rfl | (exfalso; simp_all; done) | (exfalso; omega)
      ·
       refine Ru 3 rfl ?_
       refine Nk [2] rfl ?_
       first | exact J.retV (RetV.one rfl rfl) rfl | (exfalso; simp_all; done) | (exfalso; omega)
     ·
      refine Ru 8 rfl ?_
      refine Nk [2] rfl ?_
      first | exact J.retV (RetV.one rfl rfl) rfl | (exfalso; simp_all; done) | (exfalso; omega)
    ·
     refine Ru 13 rfl ?_
     refine Nk [2] rfl ?_
     first | exact J.retV (RetV.one rfl rfl) rfl | (exfalso; simp_all; done) | (exfalso; omega)
   ·
    refine Ru 18 rfl ?_
    refine Nk [2] rfl ?_
    first | exact J.retV (RetV.one rfl rfl) rfl | (exfalso; simp_all; done) | (exfalso; omega)
end Go.Proofs.YtmngjbefnloljaaDoor
