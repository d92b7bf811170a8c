/- Walks: numbers without the zeros above; the same numbers. -/
import Derived.Test.YtmngjbefnloljaaDoorNumE
set_option linter.unusedSimpArgs false
set_option linter.unusedVariables false
set_option linter.constructorNameAsVariable false
namespace Go.Proofs.YtmngjbefnloljaaDoor
open Go Go.RowKit
set_option maxRecDepth 100000
theorem ap_35 : apT Tryd.prog 35 = some (69, 1, 4) := by kernel_rfl
theorem ca_43 : callT Tryd.prog 43 = true := by kernel_rfl
theorem ca_44 : callT Tryd.prog 44 = true := by kernel_rfl
theorem cv_100_69 : convI Tryd.prog 100 69 = some .u32 := by kernel_rfl
theorem zr_69 : zeroT Tryd.prog 69 = some [.int .u32 0] := by kernel_rfl

def trimL (l : List UInt32) : List UInt32 := l.take (tsz (d32 l) l.length)
theorem take_next {l r : List UInt32} {i : Nat} (h : l.take i = r.take i) (hl : i < l.length) (hr : i < r.length) (he : l[i].toNat = r[i].toNat) : l.take (i + 1) = r.take (i + 1) := by
  rw [List.take_succ_eq_append_getElem hl, List.take_succ_eq_append_getElem hr, h, UInt32.toNat_inj.1 he]
theorem natsame_fn {a b : Option Addr} {ca cb : Nat} {l r : List UInt32} {h : Part} (hl : SlR u32R 1 h a ca l) (hr : SlR u32R 1 h b cb r) : Pure Tryd.prog 19 [.slice a l.length ca, .slice b r.length cb] h (.bool (decide (l = r))) := by
  have hll := hl.big
  refine Fn.intro Tryd.func19 rfl Tryd.ntmps19 rfl (fun e he => ?_)
  refine J.weak [(0, _), (1, _)] ⟨rfl, rfl, trivial⟩ ?_
  refine Sr ?_
  refine Ru 1 rfl ?_
  refine JL.nil ?_
  refine J.seq ?_
  refine Sr ?_
  refine Ru 5 rfl ?_
  refine JL.nil ?_
  refine Cs rfl (fun hc1 => ?_) fun hc1 => ?_
  ·
   refine Sr ?_
   refine Ru 1 rfl ?_
   refine Nk [4, 0, 1] rfl ?_
   exact J.retP (RetV.one rfl rfl) (by rw [decide_eq_false (fun e => by subst e; omega)]) rfl
  ·
   refine J.skip ?_
   refine Kp [4, 0, 1] rfl ?_
   refine J.seq ?_
   refine Sr ?_
   refine Ru 1 rfl ?_
   refine JL.nil ?_
   refine J.block ?_
   refine J.loop (fun t_ S_ h_ L_ => ∃ (i : Nat), t_ = l.length - i ∧ S_ = [(0, .slice a l.length ca), (1, .slice b r.length cb), (5, .int .i64 i)] ∧ h = h_ ∧ L_ = [] ∧ (i ≤ l.length ∧ l.take i = r.take i)) ⟨_, _, ?_, ⟨0, rfl, rfl, rfl, rfl, ⟨by omega, rfl⟩⟩⟩ ?_
   ·
    repeat (first | exact trivial | refine ⟨rfl, ?_⟩)
   rintro _ _ _ _ ⟨i, rfl, rfl, rfl, rfl, hi, he⟩
   refine J.seq ?_
   refine Sr ?_
   refine Ru 4 rfl ?_
   refine JL.nil ?_
   refine Cs rfl (fun hc2 => ?_) fun hc2 => ?_
   ·
    refine J.skip ?_
    refine J.seq ?_
    refine J.block ?_
    refine J.seq ?_
    refine J.drawn mixed_ (by kernel_rfl) ?_
    refine Rq 2 rfl ?_
    refine JQ.ope (RunE.index sl_35 (m := i) rfl rfl rfl hl rfl (by omega)) rfl ?_
    rintro _ ⟨b8, o8, hi8, rfl, hE8⟩
    refine JQ.op (RunV.ld_u32 ag_69 rfl (by assumption)) rfl ?_
    refine Rq 2 rfl ?_
    refine JQ.ope (RunE.index sl_35 (m := i) rfl rfl rfl hr rfl (by omega)) rfl ?_
    rintro _ ⟨b9, o9, hi9, rfl, hE9⟩
    refine JQ.op (RunV.ld_u32 ag_69 rfl (by assumption)) rfl ?_
    refine Rq 1 rfl ?_
    refine JQ.nil ?_
    refine Cs rfl (fun hc7 => ?_) fun hc7 => ?_
    ·
     refine Sr ?_
     refine Ru 1 rfl ?_
     refine JL.nil ?_
     exact J.retP (RetV.one rfl rfl) (by rw [decide_eq_false (fun e => by subst e; simp_all)]) rfl
    ·
     refine J.skip ?_
     refine Rg ?_
     refine Ru 1 rfl ?_
     refine JL.op (by first | exact RunV.add_i64 rfl rfl (by omega) (by omega) | exact RunV.add rfl rfl) rfl ?_
     refine Ru 1 rfl ?_
     refine JL.nil ?_
     refine ⟨_, ?_, _, ?_, ⟨i + 1, rfl, rfl, rfl, rfl, ⟨by omega, take_next he (by omega) (by omega) (by omega)⟩⟩⟩
     ·
      omega
     ·
      repeat (first | exact trivial | refine ⟨rfl, ?_⟩)
   ·
    refine J.exit ?_
    refine Kp [] rfl ?_
    refine Sr ?_
    refine Ru 1 rfl ?_
    refine JL.nil ?_
    exact J.retP (RetV.one rfl rfl) (by rw [decide_eq_true (by rw [← List.take_of_length_le (show l.length ≤ i by omega), he, List.take_of_length_le (by omega)])]) rfl




theorem tsz_trim (l : List UInt64) : tsz (d64 (cutZ l)) (cutZ l).length = (cutZ l).length := by
  refine tsz_stop _ _ (fun ⟨h1, h2⟩ => ?_)
  have hle := tsz_le (d64 l) l.length
  have hlen : (cutZ l).length = tsz (d64 l) l.length := by unfold cutZ; rw [List.length_take]; omega
  have htop := tsz_top (d64 l) l.length (by omega)
  refine htop ?_
  rw [← hlen, ← d64_take l (tsz (d64 l) l.length) _ (fun i h1 h2 => tsz_zero _ _ i h1 h2)]
  exact h2
theorem cutZ_cutZ (l : List UInt64) : cutZ (cutZ l) = cutZ l := by
  show List.take (tsz (d64 (cutZ l)) (cutZ l).length) (cutZ l) = cutZ l
  exact List.take_of_length_le (Nat.le_of_eq (tsz_trim l).symm)
def n32 (x : UInt64) : UInt32 := UInt32.ofNat x.toNat
theorem n32_m64 (x : UInt32) : n32 (m64 x) = x := by
  unfold n32; rw [m64_nat]; simp
theorem trim_map (l : List UInt32) : (cutZ (digsB l)).map n32 = trimL l := by
  unfold digsB
  rw [cutZ_cutZ]
  unfold cutZ trimL
  rw [tsz_congr (d64_map l), List.length_map, ← List.map_take, List.map_map]
  conv => rhs; rw [← List.map_id (l.take _)]
  exact List.map_congr_left (fun x _ => n32_m64 x)
theorem n32_nat (x : UInt64) (h : x.toNat < 4294967296) : (n32 x).toNat = x.toNat := by
  unfold n32; rw [UInt32.toNat_ofNat']; omega
theorem cutZ_len (l : List UInt64) : (cutZ l).length ≤ l.length := by unfold cutZ; rw [List.length_take]; omega
theorem cutZ_at (l : List UInt64) (i : Nat) : d64 (cutZ l) i = d64 l i := d64_take _ _ _ (fun i h1 h2 => tsz_zero _ _ i h1 h2)
theorem number_fn {a : Option Addr} {c : Nat} {L : List UInt64} {h : Part} (hl : SlR u64R 1 h a c L) (hd : ∀ i, d64 L i < 4294967296) (hlen : L.length ≤ 1000000) : FnR Tryd.prog 43 [.slice a L.length c] h (fun v h' => ∃ a' c', v = .slice a' ((cutZ L).map n32).length c' ∧ SlR u32R 1 h' a' c' ((cutZ L).map n32)) := by
  have hcl := cutZ_len L
  obtain ⟨K, hK⟩ : ∃ K, K = cutZ L := ⟨_, rfl⟩
  have hdK : ∀ i, d64 K i < 4294967296 := fun i => by rw [hK, cutZ_at]; exact hd i
  rw [← hK] at hcl ⊢
  have hml : (K.map n32).length = K.length := List.length_map ..
  refine Fn.intro Tryd.func43 rfl Tryd.ntmps43 rfl (fun e he => ?_)
  refine J.weak [(0, _)] ⟨rfl, trivial⟩ ?_
  refine Sr ?_
  refine Ru 1 rfl ?_
  refine JL.nil ?_
  refine Sr ?_
  refine Ru 1 rfl ?_
  refine JL.callR ca_70 rfl ((hK ▸ cut_fn (by assumption) : FnR _ _ _ _ (fun v h' => ∃ a' c', v = .slice a' K.length c' ∧ SlR u64R 1 h' a' c' K))) rfl ?_
  rintro _ h1 hle1 ⟨da, dc, rfl, hD⟩
  replace hl := hl.mono hle1
  refine Ru 1 rfl ?_
  refine JL.nil ?_
  refine Sr ?_
  refine Ru 1 rfl ?_
  refine JL.nil ?_
  refine J.seq ?_
  refine Sr ?_
  refine JL.row_nil 69 1 ?_
  refine Ru 1 rfl ?_
  refine JL.nil ?_
  refine J.block ?_
  refine J.loop (fun t_ S_ h_ L_ => ∃ (g : Part) (i : Nat) (ao : Option Addr) (co : Nat) (xs : List Value), t_ = K.length - i ∧ S_ = [(0, .slice da K.length dc), (3, .slice ao ((K.map n32).take i).length co), (4, .int .i64 i)] ∧ g = h_ ∧ L_ = [.row ao co 69 1 ((K.map n32).take i).length xs] ∧ (h1.le g ∧ i ≤ K.length ∧ CellsR u32R 1 g xs ((K.map n32).take i))) ⟨_, _, ?_, ⟨_, 0, _, _, _, rfl, rfl, rfl, rfl, ⟨Part.le.refl _, by omega, CellsR.nil⟩⟩⟩ ?_
  ·
   repeat (first | exact trivial | refine ⟨rfl, ?_⟩)
  rintro _ _ _ _ ⟨g, i, ao, co, xs, rfl, rfl, rfl, rfl, hhg, hi, hC⟩
  have hD := hD.mono hhg
  refine J.seq ?_
  refine Sr ?_
  refine Ru 4 rfl ?_
  refine JL.nil ?_
  refine Cs rfl (fun hc2 => ?_) fun hc2 => ?_
  ·
   have hi2 : i < K.length := (by omega); have hi' : i < (K.map n32).length := (by omega); have htl : ((K.map n32).take i).length = i := (by rw [List.length_take]; omega); have hke : (K.map n32).take i ++ [n32 (K[i]'hi2)] = (K.map n32).take (i + 1) := (by rw [List.take_succ_eq_append_getElem hi', List.getElem_map]); have hki : (K[i]'hi2).toNat < 4294967296 := (by have := hdK i; have e := d64_at K i hi2; omega)
   refine J.skip ?_
   refine J.seq ?_
   refine J.block ?_
   refine Rg ?_
   refine Ru 3 rfl ?_
   refine JL.ope (RunE.index sl_75 rfl rfl (by first | with_reducible rfl | exact (Int.toNat_of_nonneg (by omega)).symm) (by assumption) rfl (by omega)) rfl ?_
   rintro _ ⟨b3, o3, hi3, rfl, hE3⟩
   refine JL.op (RunV.ld_u64 ag_100 rfl (by assumption)) rfl ?_
   refine JL.op (by first | exact RunV.conv_u32 cv_100_69 rfl (by omega) (by omega) | exact RunV.conv cv_100_69 rfl) rfl ?_
   refine JL.lit1 ap_35 zr_69 rfl rfl rfl rfl rfl (fun b5 => ?_)
   refine JL.append1 ap_35 rfl rfl (by assumption) rfl (by repeat (first | exact Del.here | apply Del.there)) (by repeat (first | exact Del.here | apply Del.there)) rfl ((by show _ = _; rw [n32_nat _ hki] : u32R _ [.int .u32 (K[i].toNat : Int)] (n32 K[i]))) (by first | omega | (simp only [List.length_append, List.length_cons, List.length_nil]; omega)) rfl rfl (fun a6 c6 xs6 hC6 hN6 => ?_)
   rw [hke] at *
   refine Ru 1 rfl ?_
   refine JL.nil ?_
   refine Rg ?_
   refine Ru 1 rfl ?_
   refine JL.op (by first | exact RunV.add_i64 rfl rfl (by omega) (by omega) | exact RunV.add rfl rfl) rfl ?_
   refine Ru 1 rfl ?_
   refine JL.nil ?_
   refine ⟨_, ?_, _, ?_, ⟨_, i + 1, _, _, _, rfl, rfl, rfl, rfl, ⟨by assumption, by omega, by assumption⟩⟩⟩
   ·
    omega
   ·
    repeat (first | exact trivial | refine ⟨rfl, ?_⟩)
  ·
   refine J.exit ?_
   refine Kp [3] rfl ?_
   refine Sr ?_
   refine Ru 1 rfl ?_
   have hke : (K.map n32).take i = K.map n32 := List.take_of_length_le (by omega); rw [hke] at hC ⊢; refine JL.pub (R := u32R) (by repeat (first | exact Del.here | apply Del.there)) (by assumption) rfl (by omega) (fun h9 hle9 hS9 => ?_)
   refine Ru 1 rfl ?_
   refine JL.nil ?_
   exact J.retR (RetV.one rfl rfl) ⟨_, _, rfl, by assumption⟩



theorem rtrim_fn {a : Option Addr} {c : Nat} {l : List UInt32} {h : Part} (hl : SlR u32R 1 h a c l) (hlen : l.length ≤ 1000000) : FnR Tryd.prog 22 [.slice a l.length c] h (fun v h' => ∃ a' c', v = .slice a' (trimL l).length c' ∧ SlR u32R 1 h' a' c' (trimL l)) := by
  have htm := trim_map l
  refine Fn.intro Tryd.func22 rfl Tryd.ntmps22 rfl (fun e he => ?_)
  refine J.weak [(0, _)] ⟨rfl, trivial⟩ ?_
  refine Sr ?_
  refine Ru 1 rfl ?_
  refine JL.nil ?_
  refine Sr ?_
  refine Ru 1 rfl ?_
  refine JL.callR ca_44 rfl (digits32_fn (by assumption) (by omega)) rfl ?_
  rintro _ h1 hle1 ⟨a1, c1, rfl, hS1⟩
  replace hl := hl.mono hle1
  refine JL.callR ca_43 rfl (number_fn (by assumption) (fun i => by rw [digsB_at]; exact d32_lt _ _) (by rw [digsB_len]; have := tsz_le (d32 l) l.length; omega)) rfl ?_
  rintro _ h2 hle2 ⟨a2, c2, rfl, hS2⟩
  replace hl := hl.mono hle2
  replace hS1 := hS1.mono hle2
  refine Ru 1 rfl ?_
  refine Nk [2] rfl ?_
  rw [← htm]; exact J.retR (RetV.one rfl rfl) ⟨_, _, rfl, by assumption⟩



end Go.Proofs.YtmngjbefnloljaaDoor
