/- Walks: a digest's bytes and its form, by the reference; Walks: a digest's form for a key, signatures, by the reference; Plain: the fixed numbers that every law from 05 on asks for; Walks: a digest's bytes and its form, by the program; Walks: a digest's form, by the program; Numbers there and back: the law DerNumbersBack; Walks: keys' bytes, by the reference; Walks: signatures and keys' bytes, by the program; Walks: the laws of layer 5: the fixed calls; RsaForms, RsaSigns, RsaProves. -/
import Derived.Test.YtmngjbefnloljaaGreatDoorP4
set_option linter.unusedSimpArgs false
set_option linter.unusedVariables false
set_option linter.constructorNameAsVariable false
namespace Go.Proofs.YtmngjbefnloljaaGreatDoor
open Go Go.RowKit
set_option maxRecDepth 100000
theorem ca_38 : callT Tryz.prog 38 = true := by kernel_rfl
theorem ca_66 : callT Tryz.prog 66 = true := by kernel_rfl
theorem ca_82 : callT Tryz.prog 82 = true := by kernel_rfl
theorem ca_83 : callT Tryz.prog 83 = true := by kernel_rfl
theorem rseq_fn {b : Option Addr} {cb m : Nat} {h : Part} : FnR Tryz.prog 66 [.slice b m cb] h (fun v _ => v = .agg #[.int .i64 0, .int .i64 16, .bool true, .slice none 0 0, .slice b m cb]) := by
  refine Fn.intro Tryz.func66 rfl Tryz.ntmps66 rfl (fun e he => ?_)
  refine J.weak [(0, _)] ⟨rfl, trivial⟩ ?_
  have hh0 := Part.le.refl h
  refine Sr ?_
  refine JL.alloc zr_75 rfl (fun b1 => ?_)
  refine JL.nil ?_
  refine Sr ?_
  refine Ru 1 rfl ?_
  refine JL.op (RunV.build (cs := [.int .i64 0, _, _, .slice none 0 0, _]) pl_75 rfl rfl) rfl ?_
  refine JL.storeA ag_75 rfl rfl dl_ (by first | rfl | exact NdR.all1 (by assumption)) (by first | rfl | assumption | exact NdR.len5 (by assumption)) (by first | rfl | exact NdR.len5 (by assumption)) ?_
  refine JL.nil ?_
  exact J.retR (RetV.cell rfl rfl ag_75 mm_ (by first | rfl | exact NdR.len5 (by assumption))) rfl
theorem roid_fn {s : List UInt8} {h : Part} (hs : s.length ≤ 1000000) : FnR Tryz.prog 82 [.string ⟨s.toArray⟩] h (fun v h' => ∃ a c, v = .agg #[.int .i64 0, .int .i64 6, .bool false, .slice a ((oidB s).getD []).length c, .slice none 0 0] ∧ SlR u8R 1 h' a c ((oidB s).getD [])) := by
  refine Fn.intro Tryz.func82 rfl Tryz.ntmps82 rfl (fun e he => ?_)
  refine J.weak [(0, _)] ⟨rfl, trivial⟩ ?_
  have hh0 := Part.le.refl h
  refine Sr ?_
  refine JL.alloc zr_75 rfl (fun b1 => ?_)
  refine JL.nil ?_
  refine Sr ?_
  refine Ru 1 rfl ?_
  refine JL.callR ca_119 rfl (roidbytes_fn s _ (by omega)) rfl ?_
  rintro _ h2 hle2 ⟨oa, oc, rfl, hO⟩
  replace hh0 := hh0.mono hle2
  refine Ru 5 rfl ?_
  refine Nk [3, 2] rfl ?_
  refine Sr ?_
  refine Ru 1 rfl ?_
  refine JL.op (RunV.build (cs := [.int .i64 0, _, .bool false, _, .slice none 0 0]) pl_75 rfl rfl) rfl ?_
  refine JL.storeA ag_75 rfl rfl dl_ (by first | rfl | exact NdR.all1 (by assumption)) (by first | rfl | assumption | exact NdR.len5 (by assumption)) (by first | rfl | exact NdR.len5 (by assumption)) ?_
  refine JL.nil ?_
  exact J.retR (RetV.cell rfl rfl ag_75 mm_ (by first | rfl | exact NdR.len5 (by assumption))) ⟨_, _, rfl, hO⟩
def oidN (n : Int) : Nd := .mk 0 6 false ((oidB (oidH n)).getD []) []
def infoN (n : Int) (d : List UInt8) : Nd := .mk 0 16 true [] [.mk 0 16 true [] [oidN n, .mk 0 5 false [] []], .mk 0 4 false d []]
theorem oidH_len (n : Int) : (oidH n).length ≤ 30 := by
  unfold oidH; split
  · decide
  · split
    · decide
    · split <;> decide
theorem rinfo_fn {n : Int} {a : Option Addr} {c : Nat} {d : List UInt8} {h : Part} (hd : SlR u8R 1 h a c d) (hsz : (infoN n d).sz ≤ 10000000) : FnR Tryz.prog 38 [.int .i64 n, .slice a d.length c] h (fun v h' => ∃ a c, v = .slice a ((infoN n d).put.getD []).length c ∧ SlR u8R 1 h' a c ((infoN n d).put.getD [])) := by
  have hol := oidH_len n
  refine Fn.intro Tryz.func38 rfl Tryz.ntmps38 rfl (fun e he => ?_)
  refine J.weak [(0, _), (1, _)] ⟨rfl, rfl, trivial⟩ ?_
  have hh0 := Part.le.refl h
  refine Sr ?_
  refine Ru 1 rfl ?_
  refine JL.nil ?_
  refine Sr ?_
  refine Ru 1 rfl ?_
  refine JL.callR ca_83 rfl (rshaoid_fn) rfl ?_
  rintro _ h1 hle1 rfl
  replace hd := hd.mono hle1
  replace hh0 := hh0.mono hle1
  refine JL.callR ca_82 rfl (roid_fn (s := oidH n) (by omega)) rfl ?_
  rintro _ h2 hle2 ⟨oa, oc, rfl, hO⟩
  replace hd := hd.mono hle2
  replace hh0 := hh0.mono hle2
  refine JL.op (RunV.build (cs := [.int .i64 0, _, .bool false, .slice none 0 0, .slice none 0 0]) pl_75 rfl rfl) rfl ?_
  refine JL.litAll [_, _] ap_73 rfl rfl (List.forall_mem_cons.2 ⟨(by first | rfl | exact NdR.len5 (by assumption)), List.forall_mem_cons.2 ⟨(by first | rfl | exact NdR.len5 (by assumption)), List.forall_mem_nil _⟩⟩) rfl (by kernel_rfl) (by kernel_rfl) rfl (fun b3 => ?_)
  refine JL.pubB (R := NdR) (sz := 5) (l := [oidN n, .mk 0 5 false [] []]) dl_ (((CellsR.one (NdR.of hO SlR.nil_) rfl).append (CellsR.one (NdR.of SlR.nil_ SlR.nil_) rfl))) (by first | decide | omega | (rw [digN_len]; decide) | (simp; done) | (simp [digN_len]; done)) (fun h4 hle4 hK1 => ?_)
  replace hd := hd.mono hle4
  replace hh0 := hh0.mono hle4
  replace hO := hO.mono hle4
  refine JL.callR ca_66 rfl (rseq_fn) rfl ?_
  rintro _ h5 hle5 rfl
  replace hd := hd.mono hle5
  replace hh0 := hh0.mono hle5
  replace hO := hO.mono hle5
  replace hK1 := hK1.mono hle5
  refine Ru 1 rfl ?_
  refine JL.op (RunV.build (cs := [.int .i64 0, _, .bool false, _, .slice none 0 0]) pl_75 rfl rfl) rfl ?_
  refine JL.litAll [_, _] ap_73 rfl rfl (List.forall_mem_cons.2 ⟨(by first | rfl | exact NdR.len5 (by assumption)), List.forall_mem_cons.2 ⟨(by first | rfl | exact NdR.len5 (by assumption)), List.forall_mem_nil _⟩⟩) rfl (by kernel_rfl) (by kernel_rfl) rfl (fun b6 => ?_)
  refine JL.pubB (R := NdR) (sz := 5) (l := [.mk 0 16 true [] [oidN n, .mk 0 5 false [] []], .mk 0 4 false d []]) dl_ (((CellsR.one (NdR.of SlR.nil_ hK1) rfl).append (CellsR.one (NdR.of hd SlR.nil_) rfl))) (by first | decide | omega | (rw [digN_len]; decide) | (simp; done) | (simp [digN_len]; done)) (fun h7 hle7 hK2 => ?_)
  replace hd := hd.mono hle7
  replace hh0 := hh0.mono hle7
  replace hO := hO.mono hle7
  replace hK1 := hK1.mono hle7
  refine JL.callR ca_66 rfl (rseq_fn) rfl ?_
  rintro _ h8 hle8 rfl
  replace hd := hd.mono hle8
  replace hh0 := hh0.mono hle8
  replace hO := hO.mono hle8
  replace hK1 := hK1.mono hle8
  replace hK2 := hK2.mono hle8
  refine JL.callR ca_65 rfl (rbytes_fn' (x := infoN n d) (NdR.of SlR.nil_ hK2) hsz) rfl ?_
  rintro _ h9 hle9 ⟨ia, ic, rfl, hI⟩
  replace hd := hd.mono hle9
  replace hh0 := hh0.mono hle9
  replace hO := hO.mono hle9
  replace hK1 := hK1.mono hle9
  replace hK2 := hK2.mono hle9
  refine Ru 5 rfl ?_
  refine Nk [5, 4] rfl ?_
  refine Sr ?_
  refine Ru 2 rfl ?_
  refine JL.nil ?_
  exact J.retR (RetV.one rfl rfl) ⟨_, _, rfl, hI⟩
theorem Ok.blk_row {e : Env} {h : Part} {L : List Ent} {w : World} {b t : Nat} {cs : List Value} (k : Ok e h (.blk b t cs :: L) w) (hl : cs.length ≤ maxLen) : Ok e h (.row (some ⟨b, 0, none⟩) cs.length t 1 cs.length cs :: L) w := by
  have hb := k.own _ (List.mem_cons_self ..)
  simp only [Ent.holds] at hb
  refine k.turn rfl rfl rfl (Nat.le_refl _) (fun _ _ _ => rfl) ?_ (fun b hb => .inl hb)
  exact ⟨by simp, .inr ⟨b, cs.length, cs.toArray, rfl, Nat.zero_le _, hb, Nat.le_refl _, hl, by simp, by simp⟩⟩
def infoL (n : Int) (d : List UInt8) : List UInt8 := (infoN n d).put.getD []
def formE (n : Int) (d : List UInt8) (k : Int) : Int := if shaSize n = 0 ∨ (d.length : Int) ≠ shaSize n then 40 else if k < (infoL n d).length + 11 ∨ 512 < k then 50 else 0
def formL (n : Int) (d : List UInt8) (k : Int) : List UInt8 := if formE n d k = 0 then [0, 1] ++ List.replicate (k.toNat - (infoL n d).length - 3) 255 ++ [0] ++ infoL n d else []
theorem info_sz (n : Int) (d : List UInt8) (h : (d.length : Int) = shaSize n) : (infoN n d).sz ≤ 10000000 := by
  have h1 : shaSize n ≤ 64 := by unfold shaSize; split <;> (try unfold someH at *) <;> omega
  have h2 : ((oidB (oidH n)).getD []).length ≤ 1000 := by
    unfold oidH; split
    · decide +kernel
    · split
      · decide +kernel
      · split <;> decide +kernel
  simp only [infoN, oidN, Nd.sz, Nd.szL, List.length_nil]
  omega
theorem rform_fn {n k : Int} {a : Option Addr} {c : Nat} {d : List UInt8} {h : Part} (hd : SlR u8R 1 h a c d) (hdl : d.length ≤ 100000) (hk0 : -9223372036854775808 ≤ k) (hk1 : k ≤ 9223372036854775807) : FnR Tryz.prog 12 [.int .i64 n, .slice a d.length c, .int .i64 k] h (fun v h' => ∃ a c, v = .tuple #[.slice a (formL n d k).length c, .int .i64 (formE n d k)] ∧ SlR u8R 1 h' a c (formL n d k)) := by
  by_cases hz : shaSize n = 0 ∨ (d.length : Int) ≠ shaSize n
  · have he : formE n d k = 40 := if_pos hz
    have hf : formL n d k = [] := if_neg (by rw [he]; decide)
    rw [he, hf]
    refine Fn.intro Tryz.func12 rfl Tryz.ntmps12 rfl (fun e he => ?_)
    refine J.weak [(0, _), (1, _), (2, _)] ⟨rfl, rfl, rfl, trivial⟩ ?_
    have hh0 := Part.le.refl h
    refine Sr ?_
    refine Ru 2 rfl ?_
    refine JL.nil ?_
    refine J.seq ?_
    refine Sr ?_
    refine Ru 1 rfl ?_
    refine JL.callR ca_37 rfl (rshasize_fn) rfl ?_
    rintro _ h1 hle1 rfl
    replace hd := hd.mono hle1
    replace hh0 := hh0.mono hle1
    refine Ru 2 rfl ?_
    refine Bs 13 rfl (fun hc2 => ?_) fun hc2 => ?_
    ·
     refine Ru 6 rfl ?_
     refine Nk [19, 7, 6, 0, 1, 2] rfl ?_
     refine J.cond_t rfl ?_
     refine Sr ?_
     refine Ru 2 rfl ?_
     refine JL.nil ?_
     exact J.retR (RetV.two rfl rfl rfl) ⟨_, _, rfl, SlR.nil_⟩
    ·
     refine Ru 3 rfl ?_
     refine JL.callRg rfl rfl  ca_37 rfl (rshasize_fn) rfl ?_
     rintro _ h3 hle3 rfl
     replace hd := hd.mono hle3
     replace hh0 := hh0.mono hle3
     refine Ru 2 rfl ?_
     refine Nk [19, 7, 6, 0, 1, 2] rfl ?_
     refine Cs rfl (fun hc4 => ?_) fun hc4 => ?_
     rotate_left
     ·
      exfalso; omega
     refine Sr ?_
     refine Ru 2 rfl ?_
     refine JL.nil ?_
     exact J.retR (RetV.two rfl rfl rfl) ⟨_, _, rfl, SlR.nil_⟩
  · have hz1 : shaSize n ≠ 0 := fun e => hz (.inl e)
    have hz2 : (d.length : Int) = shaSize n := Classical.byContradiction fun e => hz (.inr e)
    have hsz := info_sz n d hz2
    obtain ⟨t, ht⟩ : ∃ t, t = infoL n d := ⟨_, rfl⟩
    by_cases hk : k < t.length + 11 ∨ 512 < k
    · have he : formE n d k = 50 := by unfold formE; rw [if_neg hz, ← ht, if_pos hk]
      have hf : formL n d k = [] := if_neg (by rw [he]; decide)
      rw [he, hf]
      refine Fn.intro Tryz.func12 rfl Tryz.ntmps12 rfl (fun e he => ?_)
      refine J.weak [(0, _), (1, _), (2, _)] ⟨rfl, rfl, rfl, trivial⟩ ?_
      have hh0 := Part.le.refl h
      refine Sr ?_
      refine Ru 2 rfl ?_
      refine JL.nil ?_
      refine J.seq ?_
      refine Sr ?_
      refine Ru 1 rfl ?_
      refine JL.callR ca_37 rfl (rshasize_fn) rfl ?_
      rintro _ h1 hle1 rfl
      replace hd := hd.mono hle1
      replace hh0 := hh0.mono hle1
      refine Ru 2 rfl ?_
      refine Bs 13 rfl (fun hc2 => ?_) fun hc2 => ?_
      ·
       exfalso; omega
      refine Ru 3 rfl ?_
      refine JL.callRg rfl rfl  ca_37 rfl (rshasize_fn) rfl ?_
      rintro _ h3 hle3 rfl
      replace hd := hd.mono hle3
      replace hh0 := hh0.mono hle3
      refine Ru 2 rfl ?_
      refine Nk [19, 7, 6, 0, 1, 2] rfl ?_
      refine Cs rfl (fun hc4 => ?_) fun hc4 => ?_
      ·
       exfalso; omega
      refine J.skip ?_
      refine Sr ?_
      refine Ru 2 rfl ?_
      refine JL.callR ca_38 rfl (rinfo_fn hd hsz) rfl ?_
      rintro _ h5 hle5 ⟨ia, ic, rfl, hI⟩
      replace hd := hd.mono hle5
      replace hh0 := hh0.mono hle5
      rw [show (infoN n d).put.getD [] = t from ht.symm] at hI ⊢; have htl := hI.big
      refine Ru 1 rfl ?_
      refine Nk [8, 7, 6, 2] rfl ?_
      refine J.seq ?_
      refine Sr ?_
      refine Ru 3 rfl ?_
      refine JL.op ai_ rfl ?_
      refine Ru 2 rfl ?_
      apply On 28 31 3 [8, 7, 6, 2] rfl rfl
      rotate_left
      ·
       intro hb6 hc6
       refine Ru 3 rfl ?_
       exact Ae (om_f hb6 rfl) rfl
      rotate_right
      ·
       exact fun hb6 _ => Ru 3 rfl (Ae (om_t hb6 rfl) rfl)
      refine JL.nil ?_
      refine Cs rfl (fun hc7 => ?_) fun hc7 => ?_
      rotate_left
      ·
       exfalso; omega
      refine Sr ?_
      refine Ru 2 rfl ?_
      refine JL.nil ?_
      exact J.retR (RetV.two rfl rfl rfl) ⟨_, _, rfl, SlR.nil_⟩
    · have he : formE n d k = 0 := by unfold formE; rw [if_neg hz, ← ht, if_neg hk]
      have hf : formL n d k = [0, 1] ++ List.replicate (k.toNat - t.length - 3) 255 ++ [0] ++ t := by unfold formL; rw [if_pos he, ← ht]
      rw [he, hf]
      refine Fn.intro Tryz.func12 rfl Tryz.ntmps12 rfl (fun e he => ?_)
      refine J.weak [(0, _), (1, _), (2, _)] ⟨rfl, rfl, rfl, trivial⟩ ?_
      have hh0 := Part.le.refl h
      refine Sr ?_
      refine Ru 2 rfl ?_
      refine JL.nil ?_
      refine J.seq ?_
      refine Sr ?_
      refine Ru 1 rfl ?_
      refine JL.callR ca_37 rfl (rshasize_fn) rfl ?_
      rintro _ h1 hle1 rfl
      replace hd := hd.mono hle1
      replace hh0 := hh0.mono hle1
      refine Ru 2 rfl ?_
      refine Bs 13 rfl (fun hc2 => ?_) fun hc2 => ?_
      ·
       exfalso; omega
      refine Ru 3 rfl ?_
      refine JL.callRg rfl rfl  ca_37 rfl (rshasize_fn) rfl ?_
      rintro _ h3 hle3 rfl
      replace hd := hd.mono hle3
      replace hh0 := hh0.mono hle3
      refine Ru 2 rfl ?_
      refine Nk [19, 7, 6, 0, 1, 2] rfl ?_
      refine Cs rfl (fun hc4 => ?_) fun hc4 => ?_
      ·
       exfalso; omega
      refine J.skip ?_
      refine Sr ?_
      refine Ru 2 rfl ?_
      refine JL.callR ca_38 rfl (rinfo_fn hd hsz) rfl ?_
      rintro _ h5 hle5 ⟨ia, ic, rfl, hI⟩
      replace hd := hd.mono hle5
      replace hh0 := hh0.mono hle5
      rw [show (infoN n d).put.getD [] = t from ht.symm] at hI ⊢; have htl := hI.big
      refine Ru 1 rfl ?_
      refine Nk [8, 7, 6, 2] rfl ?_
      refine J.seq ?_
      refine Sr ?_
      refine Ru 3 rfl ?_
      refine JL.op ai_ rfl ?_
      refine Ru 2 rfl ?_
      apply On 28 31 3 [8, 7, 6, 2] rfl rfl
      rotate_left
      ·
       intro hb6 hc6
       refine Ru 3 rfl ?_
       exact Ae (om_f hb6 rfl) rfl
      rotate_right
      ·
       exact fun hb6 _ => Ru 3 rfl (Ae (om_t hb6 rfl) rfl)
      refine JL.nil ?_
      refine Cs rfl (fun hc7 => ?_) fun hc7 => ?_
      ·
       exfalso; omega
      refine J.skip ?_
      refine Sr ?_
      refine JL.lit1 ap_22 zr_5 rfl rfl rfl rfl rfl (fun b8 => ?_)
      refine JL.own (fun w hk => hk.blk_row (by decide)) ?_
      refine Ru 1 rfl ?_
      refine JL.nil ?_
      refine J.seq ?_
      refine J.block ?_
      refine J.loop (fun t_ S_ h_ L_ => ∃ (g : Part) (i : Nat) (ao : Option Addr) (co : Nat), t_ = k.toNat - i ∧ S_ = [(2, .int .i64 k), (8, .slice ia t.length ic), (9, .slice ao ([0, 1] ++ List.replicate i (255 : UInt8)).length co)] ∧ g = h_ ∧ L_ = [.row ao co 5 1 ([0, 1] ++ List.replicate i (255 : UInt8)).length (u8s ([0, 1] ++ List.replicate i (255 : UInt8)))] ∧ (h.le g ∧ SlR u8R 1 g ia ic t ∧ (i : Int) + t.length + 3 ≤ k)) ⟨_, _, ?_, ⟨_, 0, _, _, rfl, rfl, rfl, rfl, ⟨hh0, hI, by omega⟩⟩⟩ ?_
      ·
       repeat (first | exact trivial | refine ⟨rfl, ?_⟩)
      rintro _ _ _ _ ⟨g, i, ao, co, rfl, rfl, rfl, rfl, hhg, hI, hi⟩
      have hll : ([0, 1] ++ List.replicate i (255 : UInt8)).length = i + 2 := (by simp)
      refine J.seq ?_
      refine Sr ?_
      refine Ru 2 rfl ?_
      refine JL.op ai_ rfl ?_
      refine Ru 2 rfl ?_
      refine JL.op ai_ rfl ?_
      refine Ru 2 rfl ?_
      refine JL.nil ?_
      refine Cs rfl (fun hc9 => ?_) fun hc9 => ?_
      ·
       have hke : [0, 1] ++ List.replicate i (255 : UInt8) ++ [255] = [0, 1] ++ List.replicate (i + 1) 255 := (by rw [List.append_assoc, ← List.replicate_succ'])
       refine J.skip ?_
       refine J.block ?_
       refine Rg ?_
       refine Ru 1 rfl ?_
       refine JL.lit1 ap_22 zr_5 rfl rfl rfl rfl rfl (fun b10 => ?_)
       refine JL.own (L' := [.blk _ _ [.int .u8 (((255 : UInt8).toNat : Nat) : Int)], _]) (fun w hk => hk) ?_
       refine JL.append1 ap_22 rfl rfl CellsR.of_u8 rfl dl_ dl_ rfl (rfl) (by first | omega | (simp only [List.length_append, List.length_cons, List.length_nil]; omega)) rfl rfl (fun a11 c11 xs11 hC11 hN11 => ?_)
       obtain rfl := hC11.u8
       rw [hke]
       refine Ru 1 rfl ?_
       refine JL.nil ?_
       refine ⟨_, ?_, _, ?_, ⟨_, i + 1, _, _, rfl, rfl, rfl, rfl, ⟨by assumption, by assumption, by omega⟩⟩⟩
       ·
        omega
       ·
        repeat (first | exact trivial | refine ⟨rfl, ?_⟩)
      ·
       have hie : i = k.toNat - t.length - 3 := (by omega); have hri : (List.replicate i (255 : UInt8)).length = i := List.length_replicate; have htk : t.length ≤ 501 := (by omega); have hff : ([0, 1] ++ List.replicate i (255 : UInt8) ++ [0] ++ t).length ≤ 100000 := (by simp only [List.length_append, List.length_cons, List.length_nil, hri]; omega)
       refine J.exit ?_
       refine Kp [8, 9] rfl ?_
       refine Sr ?_
       refine Ru 1 rfl ?_
       refine JL.lit1 ap_22 zr_5 rfl rfl rfl rfl rfl (fun b12 => ?_)
       refine JL.own (L' := [.blk _ _ [.int .u8 (((0 : UInt8).toNat : Nat) : Int)], _]) (fun w hk => hk) ?_
       refine JL.append1 ap_22 rfl rfl CellsR.of_u8 rfl dl_ dl_ rfl (rfl) (by first | omega | (simp only [List.length_append, List.length_cons, List.length_nil]; omega)) rfl rfl (fun a13 c13 xs13 hC13 hN13 => ?_)
       obtain rfl := hC13.u8
       refine Ru 1 rfl ?_
       refine JL.nil ?_
       refine Sr ?_
       refine Ru 2 rfl ?_
       refine JL.append ap_22 rfl rfl CellsR.of_u8 rfl (by assumption) rfl dl_ (by first | omega | (simp only [List.length_append, List.length_cons, List.length_nil]; omega)) rfl rfl (fun a14 c14 xs14 hC14 hN14 => ?_)
       obtain rfl := hC14.u8
       refine JL.pub (R := u8R) (l := [0, 1] ++ List.replicate i (255 : UInt8) ++ [0] ++ t) dl_ CellsR.of_u8 rfl (by omega) (fun h9 hle9 hP9 => ?_)
       refine Ru 2 rfl ?_
       refine Nk [7, 6] rfl ?_
       rw [← hie]; exact J.retR (RetV.two rfl rfl rfl) ⟨_, _, rfl, hP9⟩
end Go.Proofs.YtmngjbefnloljaaGreatDoor
set_option linter.unusedSimpArgs false
set_option linter.unusedVariables false
set_option linter.constructorNameAsVariable false
namespace Go.Proofs.YtmngjbefnloljaaGreatDoor
open Go Go.RowKit
set_option maxRecDepth 100000
theorem ca_12 : callT Tryz.prog 12 = true := by kernel_rfl
theorem ca_27 : callT Tryz.prog 27 = true := by kernel_rfl
theorem ca_44 : callT Tryz.prog 44 = true := by kernel_rfl
theorem ca_46 : callT Tryz.prog 46 = true := by kernel_rfl
theorem ca_64 : callT Tryz.prog 64 = true := by kernel_rfl
def sizeB (N : Nat) : Nat := (bl N + 7) / 8
def kformE (n : Int) (d : List UInt8) (N E D : Nat) : Int := if formE n d 512 ≠ 0 then formE n d 512 else if rightB N E D = true then formE n d (sizeB N) else 50
def kformL (n : Int) (d : List UInt8) (N E D : Nat) : List UInt8 := if formE n d 512 ≠ 0 then [] else if rightB N E D = true then formL n d (sizeB N) else []
theorem rkform_fn {an ae ad : Option Addr} {cn ce cd : Nat} {n x dd : List UInt32} {hash : Int} {a : Option Addr} {c : Nat} {d : List UInt8} {h : Part} (hn : SlR u32R 1 h an cn n) (hx : SlR u32R 1 h ae ce x) (hdd : SlR u32R 1 h ad cd dd) (hd : SlR u8R 1 h a c d) (hln : n.length ≤ 100000) (hlx : x.length ≤ 100000) (hld : dd.length ≤ 100000) (hdl : d.length ≤ 100000) :
    FnR Tryz.prog 44 [.agg #[.slice an n.length cn, .slice ae x.length ce, .slice ad dd.length cd], .int .i64 hash, .slice a d.length c] h (fun v h' => ∃ a c, v = .tuple #[.slice a (kformL hash d (vL n) (vL x) (vL dd)).length c, .int .i64 (kformE hash d (vL n) (vL x) (vL dd))] ∧ SlR u8R 1 h' a c (kformL hash d (vL n) (vL x) (vL dd))) := by
  have hbl := bl_len' n
  refine Fn.intro Tryz.func44 rfl Tryz.ntmps44 rfl (fun e he => ?_)
  refine J.weak [(0, _), (1, _), (2, _)] ⟨rfl, rfl, rfl, trivial⟩ ?_
  have hh0 := Part.le.refl h
  refine Sr ?_
  refine JL.box rfl rfl rfl (fun b1 => ?_)
  refine Ru 2 rfl ?_
  refine JL.nil ?_
  refine Sr ?_
  refine Ru 2 rfl ?_
  refine JL.callR ca_12 rfl (rform_fn (k := 512) hd hdl (by decide) (by decide)) rfl ?_
  rintro _ h2 hle2 ⟨fa, fc, rfl, hF⟩
  replace hn := hn.mono hle2
  replace hx := hx.mono hle2
  replace hdd := hdd.mono hle2
  replace hd := hd.mono hle2
  replace hh0 := hh0.mono hle2
  refine Ru 5 rfl ?_
  refine Nk [9, 7, 6, 3, 1, 2] rfl ?_
  refine J.seq ?_
  refine Sr ?_
  refine Ru 2 rfl ?_
  refine JL.nil ?_
  refine Cs rfl (fun hc3 => ?_) fun hc3 => ?_
  ·
   have e1 : kformE hash d (vL n) (vL x) (vL dd) = formE hash d 512 := if_pos hc3; have e2 : kformL hash d (vL n) (vL x) (vL dd) = [] := if_pos hc3
   refine Sr ?_
   refine Ru 3 rfl ?_
   refine Nk [7, 6, 3, 1, 2] rfl ?_
   rw [e1, e2]; exact J.retR (RetV.two rfl rfl rfl) ⟨_, _, rfl, SlR.nil_⟩
  ·
   have hc0 : ¬ formE hash d 512 ≠ 0 := (by simpa using hc3)
   refine J.skip ?_
   refine J.seq ?_
   refine Sr ?_
   refine JL.op (RunV.ownA ag_32 rfl mm_ (by first | rfl)) rfl ?_
   refine JL.callR ca_64 rfl (rkeyright_fn hn hx hdd (by omega) (by omega) (by omega)) rfl ?_
   rintro _ h4 hle4 rfl
   replace hn := hn.mono hle4
   replace hx := hx.mono hle4
   replace hdd := hdd.mono hle4
   replace hd := hd.mono hle4
   replace hh0 := hh0.mono hle4
   replace hF := hF.mono hle4
   refine Ru 1 rfl ?_
   refine Nk [21, 7, 6, 3, 1, 2] rfl ?_
   refine Cs rfl (fun hc5 => ?_) fun hc5 => ?_
   ·
    have hrt : ¬ rightB (vL n) (vL x) (vL dd) = true := (by simpa using hc5); have e1 : kformE hash d (vL n) (vL x) (vL dd) = 50 := (by unfold kformE; rw [if_neg hc0, if_neg hrt]); have e2 : kformL hash d (vL n) (vL x) (vL dd) = [] := (by unfold kformL; rw [if_neg hc0, if_neg hrt])
    refine Sr ?_
    refine Ru 2 rfl ?_
    refine JL.nil ?_
    rw [e1, e2]; exact J.retR (RetV.two rfl rfl rfl) ⟨_, _, rfl, SlR.nil_⟩
   ·
    have hrt : rightB (vL n) (vL x) (vL dd) = true := (by simpa using hc5); have e1 : kformE hash d (vL n) (vL x) (vL dd) = formE hash d (sizeB (vL n)) := (by unfold kformE; rw [if_neg hc0, if_pos hrt]); have e2 : kformL hash d (vL n) (vL x) (vL dd) = formL hash d (sizeB (vL n)) := (by unfold kformL; rw [if_neg hc0, if_pos hrt])
    refine J.skip ?_
    refine Sr ?_
    refine Ru 2 rfl ?_
    refine JL.op (RunV.ownA ag_32 rfl mm_ (by first | rfl)) rfl ?_
    refine JL.callR ca_27 rfl (rsize_fn hn (by omega)) rfl ?_
    rintro _ h6 hle6 rfl
    replace hn := hn.mono hle6
    replace hx := hx.mono hle6
    replace hdd := hdd.mono hle6
    replace hd := hd.mono hle6
    replace hh0 := hh0.mono hle6
    replace hF := hF.mono hle6
    refine JL.callR ca_12 rfl (rform_fn (k := (sizeB (vL n) : Nat)) hd hdl (by omega) (by unfold sizeB; omega)) rfl ?_
    rintro _ h7 hle7 ⟨ga, gc, rfl, hG⟩
    replace hn := hn.mono hle7
    replace hx := hx.mono hle7
    replace hdd := hdd.mono hle7
    replace hd := hd.mono hle7
    replace hh0 := hh0.mono hle7
    replace hF := hF.mono hle7
    refine Ru 4 rfl ?_
    refine Nk [7, 6] rfl ?_
    rw [e1, e2]; exact J.retR (RetV.two rfl rfl rfl) ⟨_, _, rfl, hG⟩
theorem formL_len (n : Int) (d : List UInt8) (k : Int) : (formL n d k).length ≤ 512 := by
  unfold formL
  split
  case isFalse => simp
  case isTrue h =>
    unfold formE at h
    split at h
    · cases h
    · split at h
      · cases h
      · rename_i hk
        simp only [List.length_append, List.length_cons, List.length_nil, List.length_replicate]
        omega
theorem kformL_len (n : Int) (d : List UInt8) (N E D : Nat) : (kformL n d N E D).length ≤ 512 := by
  unfold kformL
  split
  · simp
  · split
    · exact formL_len _ _ _
    · simp
theorem kform_right {n : Int} {d : List UInt8} {N E D : Nat} (h : kformE n d N E D = 0) : rightB N E D = true := by
  unfold kformE at h
  split at h
  · rename_i h1; exact absurd h h1
  · split at h
    · assumption
    · cases h
def numW (s k : Nat) : List UInt8 := natW (d32 (toL s)) k
def sigE (n : Int) (d : List UInt8) (N E D : Nat) : Int := if kformE n d N E D ≠ 0 then kformE n d N E D else if bl D = 0 then 50 else 0
def sigL (n : Int) (d : List UInt8) (N E D : Nat) : List UInt8 := if kformE n d N E D ≠ 0 then [] else if bl D = 0 then [] else numW (powV (beV (kformL n d N E D)) D N) (sizeB N)
theorem pow_fit (X E N : Nat) (hN : 0 < N) : bl (powV X E N) ≤ 8 * sizeB N := by
  have h1 : powV X E N < N := by unfold powV; rw [if_neg (by omega)]; exact Nat.mod_lt _ hN
  have := bl_le _ _ (Nat.lt_trans h1 (lt_bl N))
  unfold sizeB; omega
theorem toL_beV_len (l : List UInt8) : (toL (beV l)).length ≤ l.length := by
  rw [toL_len]
  refine nd_le _ _ (Nat.lt_of_lt_of_le (beV_lt l) ?_)
  rw [pow32, show (256 : Nat) = 2 ^ 8 from rfl, ← Nat.pow_mul]
  exact Nat.pow_le_pow_right (by decide) (by omega)
theorem rsign_fn {an ae ad : Option Addr} {cn ce cd : Nat} {n x dd : List UInt32} {hash : Int} {a : Option Addr} {c : Nat} {d : List UInt8} {h : Part} (hn : SlR u32R 1 h an cn n) (hx : SlR u32R 1 h ae ce x) (hdd : SlR u32R 1 h ad cd dd) (hd : SlR u8R 1 h a c d) (hln : n.length ≤ 10000) (hlx : x.length ≤ 10000) (hld : dd.length ≤ 10000) (hdl : d.length ≤ 100000) :
    FnR Tryz.prog 16 [.agg #[.slice an n.length cn, .slice ae x.length ce, .slice ad dd.length cd], .int .i64 hash, .slice a d.length c] h (fun v h' => ∃ a c, v = .tuple #[.slice a (sigL hash d (vL n) (vL x) (vL dd)).length c, .int .i64 (sigE hash d (vL n) (vL x) (vL dd))] ∧ SlR u8R 1 h' a c (sigL hash d (vL n) (vL x) (vL dd))) := by
  have hbl := bl_len' n
  have hkl := kformL_len hash d (vL n) (vL x) (vL dd)
  refine Fn.intro Tryz.func16 rfl Tryz.ntmps16 rfl (fun e he => ?_)
  refine J.weak [(0, _), (1, _), (2, _)] ⟨rfl, rfl, rfl, trivial⟩ ?_
  have hh0 := Part.le.refl h
  refine Sr ?_
  refine JL.box rfl rfl rfl (fun b1 => ?_)
  refine Ru 2 rfl ?_
  refine JL.nil ?_
  refine Sr ?_
  refine JL.op (RunV.ownA ag_32 rfl mm_ (by first | rfl)) rfl ?_
  refine Ru 2 rfl ?_
  refine JL.callR ca_44 rfl (rkform_fn hn hx hdd hd (by omega) (by omega) (by omega) hdl) rfl ?_
  rintro _ h2 hle2 ⟨fa, fc, rfl, hF⟩
  replace hn := hn.mono hle2
  replace hx := hx.mono hle2
  replace hdd := hdd.mono hle2
  replace hd := hd.mono hle2
  replace hh0 := hh0.mono hle2
  refine Ru 5 rfl ?_
  refine Nk [9, 8, 7, 6, 3] rfl ?_
  refine J.seq ?_
  refine Sr ?_
  refine Ru 2 rfl ?_
  refine JL.nil ?_
  refine Cs rfl (fun hc3 => ?_) fun hc3 => ?_
  ·
   have e1 : sigE hash d (vL n) (vL x) (vL dd) = kformE hash d (vL n) (vL x) (vL dd) := if_pos hc3; have e2 : sigL hash d (vL n) (vL x) (vL dd) = [] := if_pos hc3
   refine Sr ?_
   refine Ru 3 rfl ?_
   refine Nk [7, 6, 8, 3] rfl ?_
   rw [e1, e2]; exact J.retR (RetV.two rfl rfl rfl) ⟨_, _, rfl, SlR.nil_⟩
  ·
   have hc0 : ¬ kformE hash d (vL n) (vL x) (vL dd) ≠ 0 := (by simpa using hc3); have hrt := kform_right (Classical.byContradiction hc0); have hrt2 := of_decide_eq_true hrt; have hN0 : 0 < vL n := (by omega); have hsz : sizeB (vL n) ≤ 65536 := (by unfold sizeB; omega); have hpf := pow_fit (beV (kformL hash d (vL n) (vL x) (vL dd))) (vL dd) (vL n) hN0
   refine J.skip ?_
   refine J.seq ?_
   refine Sr ?_
   refine Ru 1 rfl ?_
   refine JL.op (RunV.own1 ag_30 rfl mm_ rfl) rfl ?_
   refine JL.callR ca_45 rfl (rbits_fn hdd (by omega)) rfl ?_
   rintro _ h4 hle4 rfl
   replace hn := hn.mono hle4
   replace hx := hx.mono hle4
   replace hdd := hdd.mono hle4
   replace hd := hd.mono hle4
   replace hh0 := hh0.mono hle4
   replace hF := hF.mono hle4
   rw [nbits_vL]
   refine Ru 1 rfl ?_
   refine Nk [25, 8, 7, 6, 3] rfl ?_
   refine Cs rfl (fun hc5 => ?_) fun hc5 => ?_
   ·
    have hb0 : bl (vL dd) = 0 := (by omega); have e1 : sigE hash d (vL n) (vL x) (vL dd) = 50 := (by unfold sigE; rw [if_neg hc0, if_pos hb0]); have e2 : sigL hash d (vL n) (vL x) (vL dd) = [] := (by unfold sigL; rw [if_neg hc0, if_pos hb0])
    refine Sr ?_
    refine Ru 2 rfl ?_
    refine JL.nil ?_
    rw [e1, e2]; exact J.retR (RetV.two rfl rfl rfl) ⟨_, _, rfl, SlR.nil_⟩
   ·
    have hb0 : ¬ bl (vL dd) = 0 := (by omega); have e1 : sigE hash d (vL n) (vL x) (vL dd) = 0 := (by unfold sigE; rw [if_neg hc0, if_neg hb0]); have e2 : sigL hash d (vL n) (vL x) (vL dd) = numW (powV (beV (kformL hash d (vL n) (vL x) (vL dd))) (vL dd) (vL n)) (sizeB (vL n)) := (by unfold sigL; rw [if_neg hc0, if_neg hb0])
    refine J.skip ?_
    refine J.seq ?_
    refine J.held ([.blk b1 32 [.slice an n.length cn, .slice ae x.length ce, .slice ad dd.length cd]]) 12 mixed_ rfl (fun h00 => ?_)
    refine JH.take 0 rfl (by kernel_rfl) (by kernel_rfl) (by kernel_rfl) (fun _ _ _ _ hh => hh) (br_ h00) (RunV.move rfl) rfl ?_
    refine JH.take 2 rfl (by kernel_rfl) (by kernel_rfl) (by kernel_rfl) (fun _ _ _ _ hh => hh) (br_ h00) (by first | exact RunV.fieldAt0 fo_32_2 rfl | exact RunV.fieldAt fo_32_2 rfl) rfl ?_
    refine JH.take 3 rfl (by kernel_rfl) (by kernel_rfl) (by kernel_rfl) (fun _ _ _ _ hh => hh) (br_ h00) (RunV.own1 ag_30 rfl mm_ rfl) rfl ?_
    refine JH.take 4 rfl (by kernel_rfl) (by kernel_rfl) (by kernel_rfl) (fun _ _ _ _ hh => hh) (br_ h00) (by first | exact RunV.fieldAt0 fo_32_0 rfl | exact RunV.fieldAt fo_32_0 rfl) rfl ?_
    refine JH.take 5 rfl (by kernel_rfl) (by kernel_rfl) (by kernel_rfl) (fun _ _ _ _ hh => hh) (br_ h00) (RunV.own1 ag_30 rfl mm_ rfl) rfl ?_
    refine JH.all1 1 (by kernel_rfl) rfl ?_
    unfold One
    refine JL.callR ca_22 rfl (rread_fn hF (by omega)) rfl ?_
    rintro _ h6 hle6 ⟨ma, mc, rfl, hM⟩
    replace hn := hn.mono hle6
    replace hx := hx.mono hle6
    replace hdd := hdd.mono hle6
    replace hd := hd.mono hle6
    replace hh0 := hh0.mono hle6
    replace hF := hF.mono hle6
    have hml : (toL (beV (kformL hash d (vL n) (vL x) (vL dd)))).length ≤ 100000 := (by have := toL_beV_len (kformL hash d (vL n) (vL x) (vL dd)); omega)
    refine JL.nil ⟨(br_ h00), ?_⟩
    refine JH.all1 6 (by kernel_rfl) rfl ?_
    unfold One
    refine JL.callR ca_46 rfl (rpow_fn hM hdd hn hml (by omega) (by omega)) rfl ?_
    rintro _ h7 hle7 ⟨pa, pc, rfl, hP⟩
    replace hn := hn.mono hle7
    replace hx := hx.mono hle7
    replace hdd := hdd.mono hle7
    replace hd := hd.mono hle7
    replace hh0 := hh0.mono hle7
    replace hF := hF.mono hle7
    replace hM := hM.mono hle7
    rw [vL_toL] at hP ⊢
    refine JL.nil ⟨(br_ h00), ?_⟩
    refine JH.take 7 rfl (by kernel_rfl) (by kernel_rfl) (by kernel_rfl) (fun _ _ _ _ hh => hh) (br_ h00) (RunV.move rfl) rfl ?_
    refine JH.take 8 rfl (by kernel_rfl) (by kernel_rfl) (by kernel_rfl) (fun _ _ _ _ hh => hh) (br_ h00) (RunV.extract rfl rfl) rfl ?_
    refine JH.take 9 rfl (by kernel_rfl) (by kernel_rfl) (by kernel_rfl) (fun _ _ _ _ hh => hh) (br_ h00) (RunV.extract rfl rfl) rfl ?_
    refine JH.take 10 rfl (by kernel_rfl) (by kernel_rfl) (by kernel_rfl) (fun _ _ _ _ hh => hh) (br_ h00) (RunV.assign rfl) rfl ?_
    refine JH.take 11 rfl (by kernel_rfl) (by kernel_rfl) (by kernel_rfl) (fun _ _ _ _ hh => hh) (br_ h00) (RunV.assign rfl) rfl ?_
    refine JH.done (by kernel_rfl) ?_
    refine Kp [10, 7, 6, 3] rfl ?_
    refine Sr ?_
    refine Ru 1 rfl ?_
    refine JL.op (RunV.ownA ag_32 rfl mm_ (by first | rfl)) rfl ?_
    refine JL.callR ca_27 rfl (rsize_fn hn (by omega)) rfl ?_
    rintro _ h8 hle8 rfl
    replace hn := hn.mono hle8
    replace hx := hx.mono hle8
    replace hdd := hdd.mono hle8
    replace hd := hd.mono hle8
    replace hh0 := hh0.mono hle8
    replace hF := hF.mono hle8
    replace hM := hM.mono hle8
    replace hP := hP.mono hle8
    refine JL.callR ca_23 rfl (rwrite_fn (k := sizeB (vL n)) hP (by rw [toL_len]; exact Nat.le_trans (nd_le _ n.length (Nat.lt_of_lt_of_le (show powV (beV (kformL hash d (vL n) (vL x) (vL dd))) (vL dd) (vL n) < vL n by unfold powV; rw [if_neg (by omega)]; exact Nat.mod_lt _ hN0) (Nat.le_of_lt (vL_lt n)))) (by omega)) hsz (by rw [nbits_vL, vL_toL]; exact hpf)) rfl ?_
    rintro _ h9 hle9 ⟨wa, wc, rfl, hW⟩
    replace hn := hn.mono hle9
    replace hx := hx.mono hle9
    replace hdd := hdd.mono hle9
    replace hd := hd.mono hle9
    replace hh0 := hh0.mono hle9
    replace hF := hF.mono hle9
    replace hM := hM.mono hle9
    replace hP := hP.mono hle9
    refine Ru 4 rfl ?_
    refine Nk [7, 6] rfl ?_
    rw [e1, e2]; exact J.retR (RetV.two rfl rfl rfl) ⟨_, _, rfl, hW⟩
def proveE (n : Int) (d s : List UInt8) (N E D : Nat) : Int := if kformE n d N E D ≠ 0 then kformE n d N E D else if s.length ≠ sizeB N ∨ N ≤ beV s then 63 else if powV (beV s) E N = beV (kformL n d N E D) then 0 else 63
theorem rprove_fn {an ae ad : Option Addr} {cn ce cd : Nat} {n x dd : List UInt32} {hash : Int} {a b : Option Addr} {c cb : Nat} {d s : List UInt8} {h : Part} (hn : SlR u32R 1 h an cn n) (hx : SlR u32R 1 h ae ce x) (hdd : SlR u32R 1 h ad cd dd) (hd : SlR u8R 1 h a c d) (hs : SlR u8R 1 h b cb s) (hln : n.length ≤ 10000) (hlx : x.length ≤ 10000) (hld : dd.length ≤ 10000) (hdl : d.length ≤ 100000) (hsl : s.length ≤ 100000) :
    FnR Tryz.prog 18 [.agg #[.slice an n.length cn, .slice ae x.length ce, .slice ad dd.length cd], .int .i64 hash, .slice a d.length c, .slice b s.length cb] h (fun v _ => v = .int .i64 (proveE hash d s (vL n) (vL x) (vL dd))) := by
  have hbl := bl_len' n
  have hkl := kformL_len hash d (vL n) (vL x) (vL dd)
  have hts := toL_beV_len s
  have htk := toL_beV_len (kformL hash d (vL n) (vL x) (vL dd))
  obtain ⟨-, c2, -, -, -⟩ := cmp_facts (beV s) (vL n)
  obtain ⟨-, -, -, -, c5⟩ := cmp_facts (powV (beV s) (vL x) (vL n)) (beV (kformL hash d (vL n) (vL x) (vL dd)))
  refine Fn.intro Tryz.func18 rfl Tryz.ntmps18 rfl (fun e he => ?_)
  refine J.weak [(0, _), (1, _), (2, _), (3, _)] ⟨rfl, rfl, rfl, rfl, trivial⟩ ?_
  have hh0 := Part.le.refl h
  refine Sr ?_
  refine JL.box rfl rfl rfl (fun b1 => ?_)
  refine Ru 1 rfl ?_
  refine JL.nil ?_
  refine Sr ?_
  refine JL.op (RunV.ownA ag_32 rfl mm_ (by first | rfl)) rfl ?_
  refine Ru 2 rfl ?_
  refine JL.callR ca_44 rfl (rkform_fn hn hx hdd hd (by omega) (by omega) (by omega) hdl) rfl ?_
  rintro _ h2 hle2 ⟨fa, fc, rfl, hF⟩
  replace hn := hn.mono hle2
  replace hx := hx.mono hle2
  replace hdd := hdd.mono hle2
  replace hd := hd.mono hle2
  replace hs := hs.mono hle2
  replace hh0 := hh0.mono hle2
  refine Ru 5 rfl ?_
  refine Nk [10, 9, 8, 4, 3] rfl ?_
  refine J.seq ?_
  refine Sr ?_
  refine Ru 2 rfl ?_
  refine JL.nil ?_
  refine Cs rfl (fun hc3 => ?_) fun hc3 => ?_
  ·
   have e1 : proveE hash d s (vL n) (vL x) (vL dd) = kformE hash d (vL n) (vL x) (vL dd) := if_pos hc3
   refine Sr ?_
   refine Ru 2 rfl ?_
   refine Nk [8, 9, 4, 3] rfl ?_
   rw [e1]; exact J.retR (RetV.one rfl rfl) rfl
  ·
   have hc0 : ¬ kformE hash d (vL n) (vL x) (vL dd) ≠ 0 := (by simpa using hc3); have hrt := kform_right (Classical.byContradiction hc0); have hrt2 := of_decide_eq_true hrt; have hN0 : 0 < vL n := (by omega); have hpl : (toL (powV (beV s) (vL x) (vL n))).length ≤ 10000 := (by rw [toL_len]; exact Nat.le_trans (nd_le _ n.length (Nat.lt_of_lt_of_le (show powV (beV s) (vL x) (vL n) < vL n by unfold powV; rw [if_neg (by omega)]; exact Nat.mod_lt _ hN0) (Nat.le_of_lt (vL_lt n)))) (by omega))
   refine J.skip ?_
   refine Sr ?_
   refine Ru 1 rfl ?_
   refine JL.callR ca_22 rfl (rread_fn hs (by omega)) rfl ?_
   rintro _ h4 hle4 ⟨sa, sc, rfl, hS⟩
   replace hn := hn.mono hle4
   replace hx := hx.mono hle4
   replace hdd := hdd.mono hle4
   replace hd := hd.mono hle4
   replace hs := hs.mono hle4
   replace hh0 := hh0.mono hle4
   replace hF := hF.mono hle4
   refine Ru 1 rfl ?_
   refine Nk [11, 9, 8, 4, 3] rfl ?_
   refine J.seq ?_
   refine Sr ?_
   refine Ru 2 rfl ?_
   refine JL.op (RunV.ownA ag_32 rfl mm_ (by first | rfl)) rfl ?_
   refine JL.callR ca_27 rfl (rsize_fn hn (by omega)) rfl ?_
   rintro _ h5 hle5 rfl
   replace hn := hn.mono hle5
   replace hx := hx.mono hle5
   replace hdd := hdd.mono hle5
   replace hd := hd.mono hle5
   replace hs := hs.mono hle5
   replace hh0 := hh0.mono hle5
   replace hF := hF.mono hle5
   replace hS := hS.mono hle5
   refine Ru 2 rfl ?_
   refine Bs 31 rfl (fun hc6 => ?_) fun hc6 => ?_
   ·
    refine Ru 6 rfl ?_
    refine Nk [37, 11, 9, 8, 4] rfl ?_
    refine J.cond_t rfl ?_
    refine Sr ?_
    refine Ru 1 rfl ?_
    refine JL.nil ?_
    first | (rw [show proveE hash d s (vL n) (vL x) (vL dd) = 63 by unfold proveE; rw [if_neg hc0, if_pos (by unfold sizeB; omega)]]; exact J.retR (RetV.one rfl rfl) rfl) | (rw [show proveE hash d s (vL n) (vL x) (vL dd) = 63 by unfold proveE; rw [if_neg hc0, if_neg (by unfold sizeB; omega), if_neg (by omega)]]; exact J.retR (RetV.one rfl rfl) rfl) | (rw [show proveE hash d s (vL n) (vL x) (vL dd) = 0 by unfold proveE; rw [if_neg hc0, if_neg (by unfold sizeB; omega), if_pos (by omega)]]; exact J.retR (RetV.one rfl rfl) rfl)
   ·
    refine Ru 2 rfl ?_
    refine JL.opg rfl rfl  (RunV.own1 ag_30 rfl mm_ rfl) rfl ?_
    refine JL.callRg rfl rfl  ca_49 rfl (rcmp_fn hS hn (by omega) (by omega)) rfl ?_
    rintro _ h7 hle7 rfl
    replace hn := hn.mono hle7
    replace hx := hx.mono hle7
    replace hdd := hdd.mono hle7
    replace hd := hd.mono hle7
    replace hs := hs.mono hle7
    replace hh0 := hh0.mono hle7
    replace hF := hF.mono hle7
    replace hS := hS.mono hle7
    rw [vL_toL]
    refine Ru 2 rfl ?_
    refine Nk [37, 11, 9, 8, 4] rfl ?_
    refine Cs rfl (fun hc8 => ?_) fun hc8 => ?_
    ·
     refine Sr ?_
     refine Ru 1 rfl ?_
     refine JL.nil ?_
     first | (rw [show proveE hash d s (vL n) (vL x) (vL dd) = 63 by unfold proveE; rw [if_neg hc0, if_pos (by unfold sizeB; omega)]]; exact J.retR (RetV.one rfl rfl) rfl) | (rw [show proveE hash d s (vL n) (vL x) (vL dd) = 63 by unfold proveE; rw [if_neg hc0, if_neg (by unfold sizeB; omega), if_neg (by omega)]]; exact J.retR (RetV.one rfl rfl) rfl) | (rw [show proveE hash d s (vL n) (vL x) (vL dd) = 0 by unfold proveE; rw [if_neg hc0, if_neg (by unfold sizeB; omega), if_pos (by omega)]]; exact J.retR (RetV.one rfl rfl) rfl)
    ·
     refine J.skip ?_
     refine Sr ?_
     refine Ru 2 rfl ?_
     refine JL.op (RunV.own1 ag_30 rfl mm_ rfl) rfl ?_
     refine Ru 1 rfl ?_
     refine JL.op (RunV.own1 ag_30 rfl mm_ rfl) rfl ?_
     refine JL.callR ca_46 rfl (rpow_fn hS hx hn (by omega) (by omega) (by omega)) rfl ?_
     rintro _ h9 hle9 ⟨pa, pc, rfl, hP⟩
     replace hn := hn.mono hle9
     replace hx := hx.mono hle9
     replace hdd := hdd.mono hle9
     replace hd := hd.mono hle9
     replace hs := hs.mono hle9
     replace hh0 := hh0.mono hle9
     replace hF := hF.mono hle9
     replace hS := hS.mono hle9
     rw [vL_toL] at hP ⊢; have hc1 : ¬ (s.length ≠ sizeB (vL n) ∨ vL n ≤ beV s) := (by unfold sizeB; omega)
     refine Ru 5 rfl ?_
     refine Nk [12, 9, 8] rfl ?_
     refine J.seq ?_
     refine Sr ?_
     refine Ru 2 rfl ?_
     refine JL.callR ca_22 rfl (rread_fn hF (by omega)) rfl ?_
     rintro _ h10 hle10 ⟨ma, mc, rfl, hM⟩
     replace hn := hn.mono hle10
     replace hx := hx.mono hle10
     replace hdd := hdd.mono hle10
     replace hd := hd.mono hle10
     replace hs := hs.mono hle10
     replace hh0 := hh0.mono hle10
     replace hF := hF.mono hle10
     replace hS := hS.mono hle10
     replace hP := hP.mono hle10
     refine JL.callR ca_49 rfl (rcmp_fn hP hM (by omega) (by omega)) rfl ?_
     rintro _ h11 hle11 rfl
     replace hn := hn.mono hle11
     replace hx := hx.mono hle11
     replace hdd := hdd.mono hle11
     replace hd := hd.mono hle11
     replace hs := hs.mono hle11
     replace hh0 := hh0.mono hle11
     replace hF := hF.mono hle11
     replace hS := hS.mono hle11
     replace hP := hP.mono hle11
     replace hM := hM.mono hle11
     rw [vL_toL, vL_toL]
     refine Ru 1 rfl ?_
     refine Nk [51, 8] rfl ?_
     refine Cs rfl (fun hc12 => ?_) fun hc12 => ?_
     ·
      refine Sr ?_
      refine Ru 1 rfl ?_
      refine JL.nil ?_
      first | (rw [show proveE hash d s (vL n) (vL x) (vL dd) = 63 by unfold proveE; rw [if_neg hc0, if_pos (by unfold sizeB; omega)]]; exact J.retR (RetV.one rfl rfl) rfl) | (rw [show proveE hash d s (vL n) (vL x) (vL dd) = 63 by unfold proveE; rw [if_neg hc0, if_neg (by unfold sizeB; omega), if_neg (by omega)]]; exact J.retR (RetV.one rfl rfl) rfl) | (rw [show proveE hash d s (vL n) (vL x) (vL dd) = 0 by unfold proveE; rw [if_neg hc0, if_neg (by unfold sizeB; omega), if_pos (by omega)]]; exact J.retR (RetV.one rfl rfl) rfl)
     ·
      refine J.skip ?_
      refine Sr ?_
      refine Ru 1 rfl ?_
      refine JL.nil ?_
      first | (rw [show proveE hash d s (vL n) (vL x) (vL dd) = 63 by unfold proveE; rw [if_neg hc0, if_pos (by unfold sizeB; omega)]]; exact J.retR (RetV.one rfl rfl) rfl) | (rw [show proveE hash d s (vL n) (vL x) (vL dd) = 63 by unfold proveE; rw [if_neg hc0, if_neg (by unfold sizeB; omega), if_neg (by omega)]]; exact J.retR (RetV.one rfl rfl) rfl) | (rw [show proveE hash d s (vL n) (vL x) (vL dd) = 0 by unfold proveE; rw [if_neg hc0, if_neg (by unfold sizeB; omega), if_pos (by omega)]]; exact J.retR (RetV.one rfl rfl) rfl)
end Go.Proofs.YtmngjbefnloljaaGreatDoor
set_option linter.unusedSimpArgs false
set_option linter.unusedVariables false
set_option linter.constructorNameAsVariable false
namespace Go.Proofs.YtmngjbefnloljaaGreatDoor
open Go Go.RowKit
set_option maxRecDepth 100000
def mp : Nat → Nat → Nat → Nat → Nat
  | 0, _, _, N => 1 % N
  | f + 1, X, E, N => if E % 2 = 1 then X * mp f (X * X % N) (E / 2) N % N else mp f (X * X % N) (E / 2) N
theorem mp_ok : ∀ (f X E N : Nat), E < 2 ^ f → mp f X E N = X ^ E % N
  | 0, X, E, N, h => by
    have : E = 0 := by simpa using h
    subst this; simp [mp]
  | f + 1, X, E, N, h => by
    have ih := mp_ok f (X * X % N) (E / 2) N (by rw [Nat.pow_succ] at h; omega)
    rw [mp, ih, ← Nat.pow_mod (X * X) (E / 2) N]
    have e1 : (X * X) ^ (E / 2) = X ^ (2 * (E / 2)) := by rw [← Nat.pow_two, ← Nat.pow_mul]
    rw [e1]
    split
    · rename_i h2
      rw [Nat.mul_mod_mod, ← Nat.pow_succ']
      congr 2; omega
    · rename_i h2
      congr 2; omega
def d0 : List UInt8 := List.replicate 32 1
theorem kn_right : rightB (keyN 0) (keyE 0) (vL (expL 0)) = true := by decide +kernel
theorem kn_size : sizeB (keyN 0) = 64 := by decide +kernel
theorem kn_form : formE 256 d0 62 = 0 ∧ formE 256 d0 61 = 50 ∧ formE 256 d0 512 = 0 ∧ formE 256 d0 64 = 0 := by decide +kernel
theorem kn_list : (formL 256 d0 62).length = 62 ∧ (formL 256 d0 62)[1]? = some 1 ∧ (formL 256 d0 62)[10]? = some 0 ∧ (formL 256 d0 62)[11]? = some 48 := by decide +kernel
def n0 : Nat := keyN 0
def x0 : Nat := keyE 0
def p0 : Nat := vL (expL 0)
def m0 : Nat := beV (formL 256 d0 64)
def s0 : Nat := mp 512 m0 p0 n0
theorem kn_pow : mp 17 s0 x0 n0 = m0 ∧ p0 < 2 ^ 512 ∧ x0 < 2 ^ 17 ∧ 0 < n0 ∧ bl p0 ≠ 0 ∧ beV (numW s0 64) = s0 ∧ (numW s0 64).length = 64 ∧ s0 < n0 := by decide +kernel
theorem kn_kform : kformE 256 d0 n0 x0 p0 = 0 ∧ kformL 256 d0 n0 x0 p0 = formL 256 d0 64 := by
  have h1 := kn_form.2.2.1
  have h2 := kn_form.2.2.2
  have h3 : rightB n0 x0 p0 = true := kn_right
  have h4 : sizeB n0 = 64 := kn_size
  refine ⟨?_, ?_⟩
  · unfold kformE
    rw [if_neg (by rw [h1]; decide), if_pos h3, h4]; exact h2
  · unfold kformL
    rw [if_neg (by rw [h1]; decide), if_pos h3, h4]; rfl
theorem kn_sign : sigE 256 d0 n0 x0 p0 = 0 ∧ sigL 256 d0 n0 x0 p0 = numW s0 64 := by
  obtain ⟨k1, k2⟩ := kn_kform
  obtain ⟨-, q1, -, q2, q3, -⟩ := kn_pow
  have h4 : sizeB n0 = 64 := kn_size
  refine ⟨by unfold sigE; rw [if_neg (by rw [k1]; decide), if_neg q3], ?_⟩
  unfold sigL
  rw [if_neg (by rw [k1]; decide), if_neg q3, k2, h4]
  have e : powV (beV (formL 256 d0 64)) p0 n0 = s0 := by
    unfold powV s0 m0
    rw [if_neg (by omega), mp_ok 512 _ _ _ q1]
  rw [e]
theorem kn_prove : proveE 256 d0 (numW s0 64) n0 x0 p0 = 0 := by
  obtain ⟨k1, k2⟩ := kn_kform
  obtain ⟨q0, -, q1, q2, -, q4, q5, q6⟩ := kn_pow
  have h4 : sizeB n0 = 64 := kn_size
  unfold proveE
  rw [if_neg (by rw [k1]; decide), if_neg (by rw [q4, q5, h4]; omega), q4, k2]
  refine if_pos ?_
  unfold powV
  rw [if_neg (by omega), ← mp_ok 17 s0 x0 n0 q1, q0]
  rfl
theorem numW_be (s k : Nat) : numW s k = be k s := by unfold numW; rw [natW_be, vL_toL]
theorem bl_256 {s k : Nat} (h : bl s ≤ 8 * k) : s < 256 ^ k := by
  refine Nat.lt_of_lt_of_le (lt_bl s) ?_
  rw [show (256 : Nat) = 2 ^ 8 from rfl, ← Nat.pow_mul]
  exact Nat.pow_le_pow_right (by decide) h
theorem numW_iff {s k : Nat} {m : List UInt8} (hm : m.length = k) (hs : bl s ≤ 8 * k) : numW s k = m ↔ s = beV m := by
  rw [numW_be]
  constructor
  · intro h
    rw [← h, beV_be, Nat.mod_eq_of_lt (bl_256 hs)]
  · intro h
    rw [h, ← hm, be_beV]
theorem formL_len_eq {n : Int} {d : List UInt8} {k : Int} (h : formE n d k = 0) (hk : 0 ≤ k) : ((formL n d k).length : Int) = k := by
  unfold formL
  rw [if_pos h]
  unfold formE at h
  split at h
  · cases h
  · split at h
    · cases h
    · rename_i hk2
      simp only [List.length_append, List.length_cons, List.length_nil, List.length_replicate]
      omega
theorem kformL_size {n : Int} {d : List UInt8} {N E D : Nat} (h : kformE n d N E D = 0) : (kformL n d N E D).length = sizeB N := by
  have hr := kform_right h
  unfold kformE at h
  split at h
  · rename_i h1; exact absurd h h1
  · rename_i h1
    have := formL_len_eq h (by omega)
    unfold kformL
    rw [if_neg h1, if_pos hr]
    omega
end Go.Proofs.YtmngjbefnloljaaGreatDoor
set_option linter.unusedSimpArgs false
set_option linter.unusedVariables false
set_option linter.constructorNameAsVariable false
namespace Go.Proofs.YtmngjbefnloljaaGreatDoor
open Go Go.RowKit
set_option maxRecDepth 100000
theorem ca_61 : callT Tryz.prog 61 = true := by kernel_rfl
theorem ca_62 : callT Tryz.prog 62 = true := by kernel_rfl
theorem ca_74 : callT Tryz.prog 74 = true := by kernel_rfl
theorem ca_75 : callT Tryz.prog 75 = true := by kernel_rfl
theorem ca_76 : callT Tryz.prog 76 = true := by kernel_rfl
def infoO (O d : List UInt8) : Nd := .mk 0 16 true [] [.mk 0 16 true [] [.mk 0 6 false O [], .mk 0 5 false [] []], .mk 0 4 false d []]
theorem infoN_O (n : Int) (d : List UInt8) : infoN n d = infoO ((oidB (oidH n)).getD []) d := rfl
theorem size_some {n : Int} (h : shaSize n ≠ 0) : someH n := by
  unfold shaSize at h
  by_cases hn : someH n
  · exact hn
  · rw [if_neg hn] at h; exact absurd rfl h
theorem oidH_ok {n : Int} (h : someH n) : (oidB (oidH n)).isSome = true ∧ valB 6 ((oidB (oidH n)).getD []) = true ∧ ((oidB (oidH n)).getD []).length = 9 := by
  unfold someH at h
  rcases h with rfl | rfl | rfl <;> decide +kernel
theorem infoO_put {O d : List UInt8} (h1 : valB 6 O = true) (h2 : O.length ≤ 1000) (h3 : d.length ≤ 1000) : ∃ t, (infoO O d).put = some t ∧ t.length ≤ O.length + d.length + 40 := by
  have k1 : okN 0 6 false O [] = true := by
    unfold okN; rw [show mayB 0 6 false = true from by decide, h1]; simp
  have k2 : okN 0 5 false [] [] = true := by decide
  have k3 : okN 0 4 false d [] = true := by
    unfold okN; rw [show mayB 0 4 false = true from by decide, valB_0 (by omega)]; simp
  have k4 : ∀ ks, okN 0 16 true [] ks = true := fun ks => by
    unfold okN; rw [show mayB 0 16 true = true from by decide]; simp
  have b1 := headB_len 0 6 false O.length
  have b2 := headB_len 0 5 false 0
  have b3 := headB_len 0 4 false d.length
  refine ⟨_, by simp only [infoO, Nd.put, Nd.putL, k1, k2, k3, k4, if_true, Option.map_some, Bool.false_and, decide_eq_true_eq, Bool.and_self, show (decide ((16 : Int) = 17)) = false from rfl, Bool.and_false, Bool.false_eq_true, if_false]; rfl, ?_⟩
  simp only [List.length_append, List.length_nil]
  have b4 := headB_len 0 16 true (([] ++ (headB 0 6 false O.length ++ O)) ++ (headB 0 5 false ([] : List UInt8).length ++ [])).length
  simp only [List.length_append, List.length_nil] at b4
  generalize (headB 0 6 false O.length).length = z1 at *
  generalize (headB 0 5 false 0).length = z2 at *
  generalize (headB 0 4 false d.length).length = z3 at *
  generalize (headB 0 16 true (0 + (z1 + O.length) + (z2 + 0))).length = z4 at *
  have b5 := headB_len 0 16 true (0 + (z4 + (0 + (z1 + O.length) + (z2 + 0))) + (z3 + d.length))
  omega
theorem info_wr {n : Int} {d : List UInt8} (hz1 : shaSize n ≠ 0) (hz2 : (d.length : Int) = shaSize n) : (infoN n d).wr = (infoL n d, 0) ∧ (infoL n d).length ≤ 200 := by
  have h1 := oidH_ok (size_some hz1)
  have hd : d.length ≤ 64 := by
    have : shaSize n ≤ 64 := by unfold shaSize; split <;> (try unfold someH at *) <;> omega
    omega
  obtain ⟨t, ht, htl⟩ := infoO_put (O := (oidB (oidH n)).getD []) (d := d) h1.2.1 (by rw [h1.2.2]; decide) (by omega)
  have e : infoL n d = t := by unfold infoL; rw [infoN_O, ht]; rfl
  rw [h1.2.2] at htl
  refine ⟨?_, by rw [e]; omega⟩
  unfold Nd.wr
  rw [infoN_O, ht, e]
  simp only
  rw [if_neg (by simp [infoO, Nd.rk, Nd.rkL]), if_neg (by omega)]
theorem cons_fn' {cl t : Int} {ks : List Nd} {a : Option Addr} {c c' m : Nat} {h : Part} (hk : SlR NdR 5 h a c' ks) (hm : m = ks.length) (hc : c = c') (hz : Nd.szL ks ≤ 1099511627776) :
    FnR Tryz.prog 62 [.int .i64 cl, .int .i64 t, .slice a m c] h (fun v h' => ∃ cs, v = .agg (List.toArray cs) ∧ NdR h' cs (.mk cl t true [] ks)) := by
  subst hm hc; exact cons_fn hk hz
theorem infoO_fn {n : Int} {a : Option Addr} {c : Nat} {d O : List UInt8} {h : Part} (hd : SlR u8R 1 h a c d) (hT : Tabs h) (hz1 : shaSize n ≠ 0) (hz2 : (d.length : Int) = shaSize n) (hO : (oidB (oidH n)).getD [] = O) (hOl : O.length ≤ 1000) (hdl : d.length ≤ 1000) :
    FnR Tryz.prog 34 [.int .i64 n, .slice a d.length c] h (fun v h' => ∃ a c, v = .tuple #[.slice a (infoO O d).wr.1.length c, .int .i64 (infoO O d).wr.2] ∧ SlR u8R 1 h' a c (infoO O d).wr.1) := by
  have hol := oidH_len n
  have hs1 : Nd.szL [.mk 0 6 false O [], .mk 0 5 false [] []] ≤ 1099511627776 := by simp only [Nd.sz, Nd.szL, List.length_nil]; omega
  have hs2 : Nd.szL [.mk 0 16 true [] [.mk 0 6 false O [], .mk 0 5 false [] []], .mk 0 4 false d []] ≤ 1099511627776 := by simp only [Nd.sz, Nd.szL, List.length_nil]; omega
  have hs3 : (infoO O d).sz ≤ 1073741824 := by simp only [infoO, Nd.sz, Nd.szL, List.length_nil]; omega
  refine Fn.intro Tryz.func34 rfl Tryz.ntmps34 rfl (fun e he => ?_)
  refine J.weak [(0, _), (1, _)] ⟨rfl, rfl, trivial⟩ ?_
  have hh0 := Part.le.refl h
  refine Sr ?_
  refine Ru 2 rfl ?_
  refine JL.nil ?_
  refine J.seq ?_
  refine Sr ?_
  refine Ru 1 rfl ?_
  refine JL.callR ca_74 rfl (shasize_fn) rfl ?_
  rintro _ h1 hle1 rfl
  replace hd := hd.mono hle1
  replace hT := hT.mono hle1
  replace hh0 := hh0.mono hle1
  refine Ru 2 rfl ?_
  refine Bs 12 rfl (fun hc2 => ?_) fun hc2 => ?_
  ·
   exfalso; omega
  refine Ru 3 rfl ?_
  refine JL.callRg rfl rfl  ca_74 rfl (shasize_fn) rfl ?_
  rintro _ h3 hle3 rfl
  replace hd := hd.mono hle3
  replace hT := hT.mono hle3
  replace hh0 := hh0.mono hle3
  refine Ru 2 rfl ?_
  refine Nk [18, 5, 4, 0, 1] rfl ?_
  refine Cs rfl (fun hc4 => ?_) fun hc4 => ?_
  ·
   exfalso; omega
  refine J.skip ?_
  refine Sr ?_
  refine Ru 1 rfl ?_
  refine JL.callP ca_76 rfl (shaoid_fn') rfl ?_
  refine JL.callR ca_75 rfl (obytes_fn (s := oidH n) (by omega)) rfl ?_
  rintro _ h6 hle6 ⟨oa, oc, rfl, hOS⟩
  replace hd := hd.mono hle6
  replace hT := hT.mono hle6
  replace hh0 := hh0.mono hle6
  rw [hO] at hOS ⊢; generalize (if (oidB (oidH n)).isSome then (0 : Int) else 20) = ee
  refine Ru 5 rfl ?_
  refine Nk [6, 5, 4, 1] rfl ?_
  refine Sr ?_
  refine Ru 1 rfl ?_
  refine JL.callR ca_77 rfl (prim_fn (t := 6) hOS) rfl ?_
  rintro _ h7 hle7 ⟨w1, rfl, hA⟩
  replace hd := hd.mono hle7
  replace hT := hT.mono hle7
  replace hh0 := hh0.mono hle7
  replace hOS := hOS.mono hle7
  refine JL.callR ca_77 rfl (prim_fn (t := 5) (l := []) SlR.nil_) rfl ?_
  rintro _ h8 hle8 ⟨w2, rfl, hB⟩
  replace hd := hd.mono hle8
  replace hT := hT.mono hle8
  replace hh0 := hh0.mono hle8
  replace hOS := hOS.mono hle8
  replace hA := hA.mono hle8
  refine JL.litAll [_, _] ap_73 rfl rfl (List.forall_mem_cons.2 ⟨(by first | rfl | exact NdR.len5 (by assumption)), List.forall_mem_cons.2 ⟨(by first | rfl | exact NdR.len5 (by assumption)), List.forall_mem_nil _⟩⟩) rfl (by kernel_rfl) (by kernel_rfl) rfl (fun b9 => ?_)
  refine JL.pubB (R := NdR) (sz := 5) (l := [.mk 0 6 false O [], .mk 0 5 false [] []]) dl_ ((by have := (CellsR.one hA hA.len5).append (CellsR.one hB hB.len5); simpa using this)) (by first | decide | omega | (rw [digN_len]; decide) | (simp; done) | (simp [digN_len]; done)) (fun h10 hle10 hK1 => ?_)
  replace hd := hd.mono hle10
  replace hT := hT.mono hle10
  replace hh0 := hh0.mono hle10
  replace hOS := hOS.mono hle10
  replace hA := hA.mono hle10
  replace hB := hB.mono hle10
  refine JL.callR ca_62 rfl (cons_fn' (cl := 0) (t := 16) hK1 (by simp) (by simp) hs1) rfl ?_
  rintro _ h11 hle11 ⟨w3, rfl, hC⟩
  replace hd := hd.mono hle11
  replace hT := hT.mono hle11
  replace hh0 := hh0.mono hle11
  replace hOS := hOS.mono hle11
  replace hA := hA.mono hle11
  replace hB := hB.mono hle11
  replace hK1 := hK1.mono hle11
  refine Ru 1 rfl ?_
  refine JL.callR ca_77 rfl (prim_fn (t := 4) hd) rfl ?_
  rintro _ h12 hle12 ⟨w4, rfl, hD⟩
  replace hd := hd.mono hle12
  replace hT := hT.mono hle12
  replace hh0 := hh0.mono hle12
  replace hOS := hOS.mono hle12
  replace hA := hA.mono hle12
  replace hB := hB.mono hle12
  replace hK1 := hK1.mono hle12
  replace hC := hC.mono hle12
  refine JL.litAll [_, _] ap_73 rfl rfl (List.forall_mem_cons.2 ⟨(by first | rfl | exact NdR.len5 (by assumption)), List.forall_mem_cons.2 ⟨(by first | rfl | exact NdR.len5 (by assumption)), List.forall_mem_nil _⟩⟩) rfl (by kernel_rfl) (by kernel_rfl) rfl (fun b13 => ?_)
  refine JL.pubB (R := NdR) (sz := 5) (l := [.mk 0 16 true [] [.mk 0 6 false O [], .mk 0 5 false [] []], .mk 0 4 false d []]) dl_ ((by have := (CellsR.one hC hC.len5).append (CellsR.one hD hD.len5); simpa using this)) (by first | decide | omega | (rw [digN_len]; decide) | (simp; done) | (simp [digN_len]; done)) (fun h14 hle14 hK2 => ?_)
  replace hd := hd.mono hle14
  replace hT := hT.mono hle14
  replace hh0 := hh0.mono hle14
  replace hOS := hOS.mono hle14
  replace hA := hA.mono hle14
  replace hB := hB.mono hle14
  replace hK1 := hK1.mono hle14
  replace hC := hC.mono hle14
  replace hD := hD.mono hle14
  refine JL.callR ca_62 rfl (cons_fn' (cl := 0) (t := 16) hK2 (by simp) (by simp) hs2) rfl ?_
  rintro _ h15 hle15 ⟨w5, rfl, hE⟩
  replace hd := hd.mono hle15
  replace hT := hT.mono hle15
  replace hh0 := hh0.mono hle15
  replace hOS := hOS.mono hle15
  replace hA := hA.mono hle15
  replace hB := hB.mono hle15
  replace hK1 := hK1.mono hle15
  replace hC := hC.mono hle15
  replace hD := hD.mono hle15
  replace hK2 := hK2.mono hle15
  rw [show Nd.mk 0 16 true [] [Nd.mk 0 16 true [] [Nd.mk 0 6 false O [], Nd.mk 0 5 false [] []], Nd.mk 0 4 false d []] = infoO O d from rfl] at hE; generalize infoO O d = XX at *
  refine JL.alloc zr_75 rfl (fun b16 => ?_)
  refine JL.storeA ag_75 rfl rfl dl_ (by first | rfl | exact NdR.all1 (by assumption)) (by first | rfl | assumption | exact NdR.len5 (by assumption)) (by first | rfl | exact NdR.len5 (by assumption)) ?_
  refine Nk [8, 5, 4] rfl ?_
  refine Sr ?_
  refine JL.op (RunV.ownA ag_75 rfl mm_ (by first | rfl | exact NdR.len5 (by assumption))) rfl ?_
  refine JL.callR ca_61 rfl (write_fn (x := XX) hE hT (by omega)) rfl ?_
  rintro _ h17 hle17 ⟨ia, ic, rfl, hI⟩
  replace hd := hd.mono hle17
  replace hT := hT.mono hle17
  replace hh0 := hh0.mono hle17
  replace hOS := hOS.mono hle17
  replace hA := hA.mono hle17
  replace hB := hB.mono hle17
  replace hK1 := hK1.mono hle17
  replace hC := hC.mono hle17
  replace hD := hD.mono hle17
  replace hK2 := hK2.mono hle17
  replace hE := hE.mono hle17
  refine Ru 4 rfl ?_
  refine Nk [5, 4] rfl ?_
  exact J.retR (RetV.two rfl rfl rfl) ⟨_, _, rfl, hI⟩
def infoE (n : Int) (d : List UInt8) : Int := if shaSize n = 0 ∨ (d.length : Int) ≠ shaSize n then 40 else 0
def infoR (n : Int) (d : List UInt8) : List UInt8 := if shaSize n = 0 ∨ (d.length : Int) ≠ shaSize n then [] else infoL n d
theorem info_fn {n : Int} {a : Option Addr} {c : Nat} {d : List UInt8} {h : Part} (hd : SlR u8R 1 h a c d) (hT : Tabs h) :
    FnR Tryz.prog 34 [.int .i64 n, .slice a d.length c] h (fun v h' => ∃ a c, v = .tuple #[.slice a (infoR n d).length c, .int .i64 (infoE n d)] ∧ SlR u8R 1 h' a c (infoR n d)) := by
  by_cases hz : shaSize n = 0 ∨ (d.length : Int) ≠ shaSize n
  · rw [show infoE n d = 40 from if_pos hz, show infoR n d = [] from if_pos hz]
    have hdb := hd.big
    refine Fn.intro Tryz.func34 rfl Tryz.ntmps34 rfl (fun e he => ?_)
    refine J.weak [(0, _), (1, _)] ⟨rfl, rfl, trivial⟩ ?_
    have hh0 := Part.le.refl h
    refine Sr ?_
    refine Ru 2 rfl ?_
    refine JL.nil ?_
    refine J.seq ?_
    refine Sr ?_
    refine Ru 1 rfl ?_
    refine JL.callR ca_74 rfl (shasize_fn) rfl ?_
    rintro _ h1 hle1 rfl
    replace hd := hd.mono hle1
    replace hT := hT.mono hle1
    replace hh0 := hh0.mono hle1
    refine Ru 2 rfl ?_
    refine Bs 12 rfl (fun hc2 => ?_) fun hc2 => ?_
    ·
     refine Ru 6 rfl ?_
     refine Nk [18, 5, 4, 0, 1] rfl ?_
     refine J.cond_t rfl ?_
     refine Sr ?_
     refine Ru 2 rfl ?_
     refine JL.nil ?_
     exact J.retR (RetV.two rfl rfl rfl) ⟨_, _, rfl, SlR.nil_⟩
    ·
     refine Ru 3 rfl ?_
     refine JL.callRg rfl rfl  ca_74 rfl (shasize_fn) rfl ?_
     rintro _ h3 hle3 rfl
     replace hd := hd.mono hle3
     replace hT := hT.mono hle3
     replace hh0 := hh0.mono hle3
     refine Ru 2 rfl ?_
     refine Nk [18, 5, 4, 0, 1] rfl ?_
     refine Cs rfl (fun hc4 => ?_) fun hc4 => ?_
     rotate_left
     ·
      exfalso; omega
     refine Sr ?_
     refine Ru 2 rfl ?_
     refine JL.nil ?_
     exact J.retR (RetV.two rfl rfl rfl) ⟨_, _, rfl, SlR.nil_⟩
  · have hz1 : shaSize n ≠ 0 := fun e => hz (.inl e)
    have hz2 : (d.length : Int) = shaSize n := Classical.byContradiction fun e => hz (.inr e)
    rw [show infoE n d = 0 from if_neg hz, show infoR n d = infoL n d from if_neg hz]
    have h1 := oidH_ok (size_some hz1)
    have hdl : d.length ≤ 1000 := by
      have : shaSize n ≤ 64 := by unfold shaSize; split <;> (try unfold someH at *) <;> omega
      omega
    refine (infoO_fn hd hT hz1 hz2 rfl (by rw [h1.2.2]; decide) hdl).mono fun u h' _ hh => ?_
    have := (info_wr hz1 hz2).1
    rw [infoN_O] at this
    rw [this] at hh
    exact hh
end Go.Proofs.YtmngjbefnloljaaGreatDoor
set_option linter.unusedSimpArgs false
set_option linter.unusedVariables false
set_option linter.constructorNameAsVariable false
namespace Go.Proofs.YtmngjbefnloljaaGreatDoor
open Go Go.RowKit
set_option maxRecDepth 100000
theorem ap_91 : apT Tryz.prog 91 = some (22, 1, 24) := by kernel_rfl
theorem ca_34 : callT Tryz.prog 34 = true := by kernel_rfl
theorem ca_35 : callT Tryz.prog 35 = true := by kernel_rfl
theorem ca_36 : callT Tryz.prog 36 = true := by kernel_rfl
theorem brepeat_fn' {a : Option Addr} {c c' m N : Nat} {q : Int} {b : UInt8} {h : Part} (hl : SlR u8R 1 h a c' [b]) (hm : m = 1) (hc : c = c') (hq : q = (N : Int)) (hN0 : 0 < N) (hN : N ≤ 8192) : FnR Tryz.prog 36 [.slice a m c, .int .i64 q] h (fun v h' => ∃ a c, v = .slice a (List.replicate N b).length c ∧ SlR u8R 1 h' a c (List.replicate N b)) := by
  subst hm hc hq; exact brepeat_fn hl hN0 hN
theorem join_fn' {a : Option Addr} {c c' m : Nat} {ls : List (List UInt8)} {l : List UInt8} {h : Part} (hl : SlR (slR u8R 1) 1 h a c' ls) (hm : m = ls.length) (hc : c = c') (hf : ls.flatten = l) (h2 : 2 ≤ ls.length) (hb : l.length ≤ 1000000000) (hl0 : ∀ l ∈ ls, 0 < l.length) : FnR Tryz.prog 35 [.slice a m c] h (fun v h' => ∃ a c, v = .slice a l.length c ∧ SlR u8R 1 h' a c l) := by
  subst hm hc hf; exact join_fn hl h2 hb hl0
theorem infoL_pos {n : Int} {d : List UInt8} (hz1 : shaSize n ≠ 0) (hz2 : (d.length : Int) = shaSize n) : 0 < (infoL n d).length := by
  have h1 := (info_wr hz1 hz2).1
  unfold infoL
  cases hb : (infoN n d).put with
  | none => unfold Nd.wr at h1; rw [hb] at h1; injection h1 with _ h2; cases h2
  | some b =>
    have h2 := (Nd.put_len _ _ _ (Nat.le_refl _) hb).1
    show 0 < b.length
    omega
theorem slcell {a : Option Addr} {c : Nat} {l : List UInt8} {h : Part} (k : SlR u8R 1 h a c l) : CellsR (slR u8R 1) 1 h [.slice a l.length c] [l] := CellsR.one (R := slR u8R 1) ⟨a, c, rfl, k⟩ rfl
theorem pform_fn {n k : Int} {a : Option Addr} {c : Nat} {d : List UInt8} {h : Part} (hd : SlR u8R 1 h a c d) (hT : Tabs h) (hk0 : -9223372036854775808 ≤ k) (hk1 : k ≤ 9223372036854775807) : FnR Tryz.prog 11 [.int .i64 n, .slice a d.length c, .int .i64 k] h (fun v h' => ∃ a c, v = .tuple #[.slice a (formL n d k).length c, .int .i64 (formE n d k)] ∧ SlR u8R 1 h' a c (formL n d k)) := by
  refine Fn.intro Tryz.func11 rfl Tryz.ntmps11 rfl (fun e he => ?_)
  refine J.weak [(0, _), (1, _), (2, _)] ⟨rfl, rfl, rfl, trivial⟩ ?_
  have hh0 := Part.le.refl h
  refine Sr ?_
  refine Ru 2 rfl ?_
  refine JL.nil ?_
  refine Sr ?_
  refine Ru 2 rfl ?_
  refine JL.callR ca_34 rfl (info_fn hd hT) rfl ?_
  rintro _ h1 hle1 ⟨ia, ic, rfl, hI⟩
  replace hd := hd.mono hle1
  replace hT := hT.mono hle1
  replace hh0 := hh0.mono hle1
  refine Ru 5 rfl ?_
  refine Nk [9, 8, 7, 6, 2] rfl ?_
  refine J.seq ?_
  refine Sr ?_
  refine Ru 2 rfl ?_
  refine JL.nil ?_
  refine Cs rfl (fun hc2 => ?_) fun hc2 => ?_
  ·
   have hz : shaSize n = 0 ∨ (d.length : Int) ≠ shaSize n := Classical.byContradiction (fun hn => hc2 (if_neg hn)); have he : formE n d k = 40 := if_pos hz; have hf : formL n d k = [] := if_neg (by rw [he]; decide); have he2 : infoE n d = 40 := if_pos hz
   refine Sr ?_
   refine Ru 3 rfl ?_
   refine Nk [7, 6, 8, 2] rfl ?_
   rw [he, hf, he2]; exact J.retR (RetV.two rfl rfl rfl) ⟨_, _, rfl, SlR.nil_⟩
  ·
   have hz : ¬ (shaSize n = 0 ∨ (d.length : Int) ≠ shaSize n) := (fun hn => by rw [show infoE n d = 40 from if_pos hn] at hc2; omega); have hz1 : shaSize n ≠ 0 := (fun e => hz (.inl e)); have hz2 : (d.length : Int) = shaSize n := Classical.byContradiction (fun e => hz (.inr e)); have htl := (info_wr hz1 hz2).2; rw [show infoR n d = infoL n d from if_neg hz] at hI ⊢; obtain ⟨t, ht⟩ : ∃ t, t = infoL n d := ⟨_, rfl⟩; rw [← ht] at hI htl ⊢
   refine J.skip ?_
   refine J.seq ?_
   refine Sr ?_
   refine Ru 3 rfl ?_
   refine JL.op ai_ rfl ?_
   refine Ru 2 rfl ?_
   apply On 24 27 3 [8, 7, 6, 2] rfl rfl
   rotate_left
   ·
    intro hb3 hc3
    refine Ru 3 rfl ?_
    exact Ae (om_f hb3 rfl) rfl
   rotate_right
   ·
    exact fun hb3 _ => Ru 3 rfl (Ae (om_t hb3 rfl) rfl)
   refine JL.nil ?_
   refine Cs rfl (fun hc4 => ?_) fun hc4 => ?_
   ·
    have he : formE n d k = 50 := (by unfold formE; rw [if_neg hz, ← ht, if_pos (by omega)]); have hf : formL n d k = [] := if_neg (by rw [he]; decide)
    refine Sr ?_
    refine Ru 2 rfl ?_
    refine JL.nil ?_
    rw [he, hf]; exact J.retR (RetV.two rfl rfl rfl) ⟨_, _, rfl, SlR.nil_⟩
   ·
    have he : formE n d k = 0 := (by unfold formE; rw [if_neg hz, ← ht, if_neg (by omega)]); have hf : formL n d k = [0, 1] ++ List.replicate (k.toNat - t.length - 3) 255 ++ [0] ++ t := (by unfold formL; rw [if_pos he, ← ht]); have htp : 0 < t.length := (by rw [ht]; exact infoL_pos hz1 hz2); have hne : ∀ l ∈ [[0, 1], List.replicate (k.toNat - t.length - 3) (255 : UInt8), [0], t], 0 < l.length := (by intro l hl; simp at hl; rcases hl with rfl | rfl | rfl | rfl <;> (first | (exact Nat.zero_lt_succ _) | omega | (rw [List.length_replicate]; omega)))
    refine J.skip ?_
    refine Sr ?_
    refine JL.lit1 ap_22 zr_5 rfl rfl rfl rfl rfl (fun b5 => ?_)
    refine JL.pubB (R := u8R) (sz := 1) (l := [0, 1]) dl_ (cells_lit (by first | kernel_rfl | rfl)) (by first | decide | omega | (simp; done)) (fun h6 hle6 h01 => ?_)
    replace hd := hd.mono hle6
    replace hT := hT.mono hle6
    replace hh0 := hh0.mono hle6
    replace hI := hI.mono hle6
    refine JL.lit1 ap_22 zr_5 rfl rfl rfl rfl rfl (fun b7 => ?_)
    refine JL.pubB (R := u8R) (sz := 1) (l := [255]) dl_ (cells_lit (by first | kernel_rfl | rfl)) (by first | decide | omega | (simp; done)) (fun h8 hle8 hFF => ?_)
    replace hd := hd.mono hle8
    replace hT := hT.mono hle8
    replace hh0 := hh0.mono hle8
    replace hI := hI.mono hle8
    replace h01 := h01.mono hle8
    refine Ru 3 rfl ?_
    refine JL.op si_ rfl ?_
    refine JL.op si_ rfl ?_
    refine JL.callR ca_36 rfl (brepeat_fn' (N := k.toNat - t.length - 3) hFF (by rfl) (by simp) (by omega) (by omega) (by omega)) rfl ?_
    rintro _ h9 hle9 ⟨ra, rc, rfl, hR⟩
    replace hd := hd.mono hle9
    replace hT := hT.mono hle9
    replace hh0 := hh0.mono hle9
    replace hI := hI.mono hle9
    replace h01 := h01.mono hle9
    replace hFF := hFF.mono hle9
    refine JL.lit1 ap_22 zr_5 rfl rfl rfl rfl rfl (fun b10 => ?_)
    refine JL.pubB (R := u8R) (sz := 1) (l := [0]) dl_ (cells_lit (by first | kernel_rfl | rfl)) (by first | decide | omega | (simp; done)) (fun h11 hle11 h00 => ?_)
    replace hd := hd.mono hle11
    replace hT := hT.mono hle11
    replace hh0 := hh0.mono hle11
    replace hI := hI.mono hle11
    replace h01 := h01.mono hle11
    replace hFF := hFF.mono hle11
    replace hR := hR.mono hle11
    refine Ru 1 rfl ?_
    refine JL.lit1 ap_91 zr_22 rfl rfl rfl rfl rfl (fun b12 => ?_)
    refine JL.pubB (R := (slR u8R 1)) (sz := 1) (l := [[0, 1], List.replicate (k.toNat - t.length - 3) 255, [0], t]) dl_ ((((slcell h01).append (slcell hR)).append ((slcell h00).append (slcell hI)))) (by first | decide | omega | (rw [digN_len]; decide) | (simp; done) | (simp [digN_len]; done)) (fun h13 hle13 hLs => ?_)
    replace hd := hd.mono hle13
    replace hT := hT.mono hle13
    replace hh0 := hh0.mono hle13
    replace hI := hI.mono hle13
    replace h01 := h01.mono hle13
    replace hFF := hFF.mono hle13
    replace hR := hR.mono hle13
    replace h00 := h00.mono hle13
    refine JL.callR ca_35 rfl (join_fn' (l := formL n d k) hLs (by simp) (by simp) (by rw [hf]; simp) (by simp) (by have := formL_len n d k; omega) hne) rfl ?_
    rintro _ h14 hle14 ⟨ja, jc, rfl, hJ⟩
    replace hd := hd.mono hle14
    replace hT := hT.mono hle14
    replace hh0 := hh0.mono hle14
    replace hI := hI.mono hle14
    replace h01 := h01.mono hle14
    replace hFF := hFF.mono hle14
    replace hR := hR.mono hle14
    replace h00 := h00.mono hle14
    replace hLs := hLs.mono hle14
    refine Ru 2 rfl ?_
    refine Nk [7, 6] rfl ?_
    rw [he]; exact J.retR (RetV.two rfl rfl rfl) ⟨_, _, rfl, hJ⟩
end Go.Proofs.YtmngjbefnloljaaGreatDoor
set_option linter.unusedSimpArgs false
set_option linter.unusedVariables false
set_option linter.constructorNameAsVariable false
namespace Go.Proofs.YtmngjbefnloljaaGreatDoor
open Go Go.RowKit
set_option maxRecDepth 100000
end Go.Proofs.YtmngjbefnloljaaGreatDoor
set_option linter.unusedSimpArgs false
set_option linter.unusedVariables false
set_option linter.constructorNameAsVariable false
namespace Go.Proofs.YtmngjbefnloljaaGreatDoor
open Go Go.RowKit
set_option maxRecDepth 100000
end Go.Proofs.YtmngjbefnloljaaGreatDoor
set_option linter.unusedSimpArgs false
set_option linter.unusedVariables false
set_option linter.constructorNameAsVariable false
namespace Go.Proofs.YtmngjbefnloljaaGreatDoor
open Go Go.RowKit
set_option maxRecDepth 100000
theorem ca_11 : callT Tryz.prog 11 = true := by kernel_rfl
theorem ca_25 : callT Tryz.prog 25 = true := by kernel_rfl
theorem ca_39 : callT Tryz.prog 39 = true := by kernel_rfl
theorem ca_41 : callT Tryz.prog 41 = true := by kernel_rfl
theorem ca_48 : callT Tryz.prog 48 = true := by kernel_rfl
theorem ca_60 : callT Tryz.prog 60 = true := by kernel_rfl
theorem form512 {n : Int} {d : List UInt8} (h : ¬ (shaSize n = 0 ∨ (d.length : Int) ≠ shaSize n)) : formE n d 512 = 0 := by
  have hz1 : shaSize n ≠ 0 := fun e => h (.inl e)
  have hz2 : (d.length : Int) = shaSize n := Classical.byContradiction fun e => h (.inr e)
  have := (info_wr hz1 hz2).2
  unfold formE
  rw [if_neg h, if_neg (by omega)]
theorem infoE_512 (n : Int) (d : List UInt8) : infoE n d = formE n d 512 := by
  by_cases h : shaSize n = 0 ∨ (d.length : Int) ≠ shaSize n
  · rw [show infoE n d = 40 from if_pos h]; unfold formE; rw [if_pos h]
  · rw [form512 h]; exact if_neg h
theorem kform_fn {an ae ad : Option Addr} {cn ce cd : Nat} {n x dd : List UInt32} {hash : Int} {a : Option Addr} {c : Nat} {d : List UInt8} {h : Part} (hn : SlR u32R 1 h an cn n) (hx : SlR u32R 1 h ae ce x) (hdd : SlR u32R 1 h ad cd dd) (hd : SlR u8R 1 h a c d) (hT : Tabs h) (hln : n.length ≤ 100000) :
    FnR Tryz.prog 39 [.agg #[.slice an n.length cn, .slice ae x.length ce, .slice ad dd.length cd], .int .i64 hash, .slice a d.length c] h (fun v h' => ∃ a c, v = .tuple #[.slice a (kformL hash d (vL n) (vL x) (vL dd)).length c, .int .i64 (kformE hash d (vL n) (vL x) (vL dd))] ∧ SlR u8R 1 h' a c (kformL hash d (vL n) (vL x) (vL dd))) := by
  have hbl := bl_len' n
  have hi := infoE_512 hash d
  refine Fn.intro Tryz.func39 rfl Tryz.ntmps39 rfl (fun e he => ?_)
  refine J.weak [(0, _), (1, _), (2, _)] ⟨rfl, rfl, rfl, trivial⟩ ?_
  have hh0 := Part.le.refl h
  refine Sr ?_
  refine JL.box rfl rfl rfl (fun b1 => ?_)
  refine Ru 2 rfl ?_
  refine JL.nil ?_
  refine J.seq ?_
  refine Sr ?_
  refine Ru 2 rfl ?_
  refine JL.callR ca_34 rfl (info_fn hd hT) rfl ?_
  rintro _ h2 hle2 ⟨fa, fc, rfl, hF⟩
  replace hn := hn.mono hle2
  replace hx := hx.mono hle2
  replace hdd := hdd.mono hle2
  replace hd := hd.mono hle2
  replace hT := hT.mono hle2
  replace hh0 := hh0.mono hle2
  rw [hi]
  refine Ru 5 rfl ?_
  refine Nk [9, 7, 6, 3, 1, 2] rfl ?_
  refine Sr ?_
  refine Ru 2 rfl ?_
  refine JL.nil ?_
  refine Cs rfl (fun hc3 => ?_) fun hc3 => ?_
  ·
   have e1 : kformE hash d (vL n) (vL x) (vL dd) = formE hash d 512 := if_pos hc3; have e2 : kformL hash d (vL n) (vL x) (vL dd) = [] := if_pos hc3
   refine Sr ?_
   refine Ru 3 rfl ?_
   refine Nk [7, 6, 3, 1, 2] rfl ?_
   rw [e1, e2]; exact J.retR (RetV.two rfl rfl rfl) ⟨_, _, rfl, SlR.nil_⟩
  ·
   have hc0 : ¬ formE hash d 512 ≠ 0 := (by simpa using hc3)
   refine J.skip ?_
   refine J.seq ?_
   refine Sr ?_
   refine JL.op (RunV.ownA ag_32 rfl mm_ (by first | rfl)) rfl ?_
   refine JL.callR ca_60 rfl (keyright_fn hn hx hdd) rfl ?_
   rintro _ h4 hle4 rfl
   replace hn := hn.mono hle4
   replace hx := hx.mono hle4
   replace hdd := hdd.mono hle4
   replace hd := hd.mono hle4
   replace hT := hT.mono hle4
   replace hh0 := hh0.mono hle4
   replace hF := hF.mono hle4
   refine Ru 1 rfl ?_
   refine Nk [21, 7, 6, 3, 1, 2] rfl ?_
   refine Cs rfl (fun hc5 => ?_) fun hc5 => ?_
   ·
    have hrt : ¬ rightB (vL n) (vL x) (vL dd) = true := (by simpa using hc5); have e1 : kformE hash d (vL n) (vL x) (vL dd) = 50 := (by unfold kformE; rw [if_neg hc0, if_neg hrt]); have e2 : kformL hash d (vL n) (vL x) (vL dd) = [] := (by unfold kformL; rw [if_neg hc0, if_neg hrt])
    refine Sr ?_
    refine Ru 2 rfl ?_
    refine JL.nil ?_
    rw [e1, e2]; exact J.retR (RetV.two rfl rfl rfl) ⟨_, _, rfl, SlR.nil_⟩
   ·
    have hrt : rightB (vL n) (vL x) (vL dd) = true := (by simpa using hc5); have e1 : kformE hash d (vL n) (vL x) (vL dd) = formE hash d (sizeB (vL n)) := (by unfold kformE; rw [if_neg hc0, if_pos hrt]); have e2 : kformL hash d (vL n) (vL x) (vL dd) = formL hash d (sizeB (vL n)) := (by unfold kformL; rw [if_neg hc0, if_pos hrt])
    refine J.skip ?_
    refine Sr ?_
    refine Ru 2 rfl ?_
    refine JL.op (RunV.ownA ag_32 rfl mm_ (by first | rfl)) rfl ?_
    refine JL.callP ca_25 rfl (ksize_fn hn) rfl ?_
    refine JL.callR ca_11 rfl (pform_fn (k := (sizeB (vL n) : Nat)) hd hT (by omega) (by unfold sizeB; omega)) rfl ?_
    rintro _ h7 hle7 ⟨ga, gc, rfl, hG⟩
    replace hn := hn.mono hle7
    replace hx := hx.mono hle7
    replace hdd := hdd.mono hle7
    replace hd := hd.mono hle7
    replace hT := hT.mono hle7
    replace hh0 := hh0.mono hle7
    replace hF := hF.mono hle7
    refine Ru 4 rfl ?_
    refine Nk [7, 6] rfl ?_
    rw [e1, e2]; exact J.retR (RetV.two rfl rfl rfl) ⟨_, _, rfl, hG⟩
theorem psign_fn {an ae ad : Option Addr} {cn ce cd : Nat} {n x dd : List UInt32} {hash : Int} {a : Option Addr} {c : Nat} {d : List UInt8} {h : Part} (hn : SlR u32R 1 h an cn n) (hx : SlR u32R 1 h ae ce x) (hdd : SlR u32R 1 h ad cd dd) (hd : SlR u8R 1 h a c d) (hT : Tabs h) (hln : n.length ≤ 10000) (hld : dd.length ≤ 10000) :
    FnR Tryz.prog 15 [.agg #[.slice an n.length cn, .slice ae x.length ce, .slice ad dd.length cd], .int .i64 hash, .slice a d.length c] h (fun v h' => ∃ a c, v = .tuple #[.slice a (sigL hash d (vL n) (vL x) (vL dd)).length c, .int .i64 (sigE hash d (vL n) (vL x) (vL dd))] ∧ SlR u8R 1 h' a c (sigL hash d (vL n) (vL x) (vL dd))) := by
  have hbl := bl_len' n
  have hkl := kformL_len hash d (vL n) (vL x) (vL dd)
  refine Fn.intro Tryz.func15 rfl Tryz.ntmps15 rfl (fun e he => ?_)
  refine J.weak [(0, _), (1, _), (2, _)] ⟨rfl, rfl, rfl, trivial⟩ ?_
  have hh0 := Part.le.refl h
  refine Sr ?_
  refine JL.box rfl rfl rfl (fun b1 => ?_)
  refine Ru 2 rfl ?_
  refine JL.nil ?_
  refine Sr ?_
  refine JL.op (RunV.ownA ag_32 rfl mm_ (by first | rfl)) rfl ?_
  refine Ru 2 rfl ?_
  refine JL.callR ca_39 rfl (kform_fn hn hx hdd hd hT (by omega)) rfl ?_
  rintro _ h2 hle2 ⟨fa, fc, rfl, hF⟩
  replace hn := hn.mono hle2
  replace hx := hx.mono hle2
  replace hdd := hdd.mono hle2
  replace hd := hd.mono hle2
  replace hT := hT.mono hle2
  replace hh0 := hh0.mono hle2
  refine Ru 5 rfl ?_
  refine Nk [9, 8, 7, 6, 3] rfl ?_
  refine J.seq ?_
  refine Sr ?_
  refine Ru 2 rfl ?_
  refine JL.nil ?_
  refine Cs rfl (fun hc3 => ?_) fun hc3 => ?_
  ·
   have e1 : sigE hash d (vL n) (vL x) (vL dd) = kformE hash d (vL n) (vL x) (vL dd) := if_pos hc3; have e2 : sigL hash d (vL n) (vL x) (vL dd) = [] := if_pos hc3
   refine Sr ?_
   refine Ru 3 rfl ?_
   refine Nk [7, 6, 8, 3] rfl ?_
   rw [e1, e2]; exact J.retR (RetV.two rfl rfl rfl) ⟨_, _, rfl, SlR.nil_⟩
  ·
   have hc0 : ¬ kformE hash d (vL n) (vL x) (vL dd) ≠ 0 := (by simpa using hc3); have hrt := kform_right (Classical.byContradiction hc0); have hrt2 := of_decide_eq_true hrt; have hN0 : 0 < vL n := (by omega); have hsz : sizeB (vL n) ≤ 65536 := (by unfold sizeB; omega); have hpf := pow_fit (beV (kformL hash d (vL n) (vL x) (vL dd))) (vL dd) (vL n) hN0
   refine J.skip ?_
   refine J.seq ?_
   refine Sr ?_
   refine Ru 1 rfl ?_
   refine JL.op (RunV.own1 ag_30 rfl mm_ rfl) rfl ?_
   refine JL.callP ca_40 rfl (natbits_fn hdd) rfl ?_
   rw [nbits_vL]
   refine Ru 1 rfl ?_
   refine Nk [25, 8, 7, 6, 3] rfl ?_
   refine Cs rfl (fun hc5 => ?_) fun hc5 => ?_
   ·
    have hb0 : bl (vL dd) = 0 := (by omega); have e1 : sigE hash d (vL n) (vL x) (vL dd) = 50 := (by unfold sigE; rw [if_neg hc0, if_pos hb0]); have e2 : sigL hash d (vL n) (vL x) (vL dd) = [] := (by unfold sigL; rw [if_neg hc0, if_pos hb0])
    refine Sr ?_
    refine Ru 2 rfl ?_
    refine JL.nil ?_
    rw [e1, e2]; exact J.retR (RetV.two rfl rfl rfl) ⟨_, _, rfl, SlR.nil_⟩
   ·
    have hb0 : ¬ bl (vL dd) = 0 := (by omega); have e1 : sigE hash d (vL n) (vL x) (vL dd) = 0 := (by unfold sigE; rw [if_neg hc0, if_neg hb0]); have e2 : sigL hash d (vL n) (vL x) (vL dd) = numW (powV (beV (kformL hash d (vL n) (vL x) (vL dd))) (vL dd) (vL n)) (sizeB (vL n)) := (by unfold sigL; rw [if_neg hc0, if_neg hb0])
    refine J.skip ?_
    refine J.seq ?_
    refine J.held ([.blk b1 32 [.slice an n.length cn, .slice ae x.length ce, .slice ad dd.length cd]]) 12 mixed_ rfl (fun h00 => ?_)
    refine JH.take 0 rfl (by kernel_rfl) (by kernel_rfl) (by kernel_rfl) (fun _ _ _ _ hh => hh) (br_ h00) (RunV.move rfl) rfl ?_
    refine JH.take 2 rfl (by kernel_rfl) (by kernel_rfl) (by kernel_rfl) (fun _ _ _ _ hh => hh) (br_ h00) (by first | exact RunV.fieldAt0 fo_32_2 rfl | exact RunV.fieldAt fo_32_2 rfl) rfl ?_
    refine JH.take 3 rfl (by kernel_rfl) (by kernel_rfl) (by kernel_rfl) (fun _ _ _ _ hh => hh) (br_ h00) (RunV.own1 ag_30 rfl mm_ rfl) rfl ?_
    refine JH.take 4 rfl (by kernel_rfl) (by kernel_rfl) (by kernel_rfl) (fun _ _ _ _ hh => hh) (br_ h00) (by first | exact RunV.fieldAt0 fo_32_0 rfl | exact RunV.fieldAt fo_32_0 rfl) rfl ?_
    refine JH.take 5 rfl (by kernel_rfl) (by kernel_rfl) (by kernel_rfl) (fun _ _ _ _ hh => hh) (br_ h00) (RunV.own1 ag_30 rfl mm_ rfl) rfl ?_
    refine JH.all1 1 (by kernel_rfl) rfl ?_
    unfold One
    refine JL.callR ca_42 rfl (natread_fn hF (by omega)) rfl ?_
    rintro _ h6 hle6 ⟨ma, mc, rfl, hM⟩
    replace hn := hn.mono hle6
    replace hx := hx.mono hle6
    replace hdd := hdd.mono hle6
    replace hd := hd.mono hle6
    replace hT := hT.mono hle6
    replace hh0 := hh0.mono hle6
    replace hF := hF.mono hle6
    have hml : (toL (beV (kformL hash d (vL n) (vL x) (vL dd)))).length ≤ 100000 := (by have := toL_beV_len (kformL hash d (vL n) (vL x) (vL dd)); omega)
    refine JL.nil ⟨(br_ h00), ?_⟩
    refine JH.all1 6 (by kernel_rfl) rfl ?_
    unfold One
    refine JL.callR ca_41 rfl (natpow_fn hM hdd hn hml (by omega) (by omega)) rfl ?_
    rintro _ h7 hle7 ⟨pa, pc, rfl, hP⟩
    replace hn := hn.mono hle7
    replace hx := hx.mono hle7
    replace hdd := hdd.mono hle7
    replace hd := hd.mono hle7
    replace hT := hT.mono hle7
    replace hh0 := hh0.mono hle7
    replace hF := hF.mono hle7
    replace hM := hM.mono hle7
    rw [vL_toL] at hP ⊢
    refine JL.nil ⟨(br_ h00), ?_⟩
    refine JH.take 7 rfl (by kernel_rfl) (by kernel_rfl) (by kernel_rfl) (fun _ _ _ _ hh => hh) (br_ h00) (RunV.move rfl) rfl ?_
    refine JH.take 8 rfl (by kernel_rfl) (by kernel_rfl) (by kernel_rfl) (fun _ _ _ _ hh => hh) (br_ h00) (RunV.extract rfl rfl) rfl ?_
    refine JH.take 9 rfl (by kernel_rfl) (by kernel_rfl) (by kernel_rfl) (fun _ _ _ _ hh => hh) (br_ h00) (RunV.extract rfl rfl) rfl ?_
    refine JH.take 10 rfl (by kernel_rfl) (by kernel_rfl) (by kernel_rfl) (fun _ _ _ _ hh => hh) (br_ h00) (RunV.assign rfl) rfl ?_
    refine JH.take 11 rfl (by kernel_rfl) (by kernel_rfl) (by kernel_rfl) (fun _ _ _ _ hh => hh) (br_ h00) (RunV.assign rfl) rfl ?_
    refine JH.done (by kernel_rfl) ?_
    refine Kp [10, 7, 6, 3] rfl ?_
    refine Sr ?_
    refine Ru 1 rfl ?_
    refine JL.op (RunV.ownA ag_32 rfl mm_ (by first | rfl)) rfl ?_
    refine JL.callP ca_25 rfl (ksize_fn hn) rfl ?_
    refine JL.callR ca_43 rfl (natwrite_fn (k := sizeB (vL n)) hP hsz (by rw [nbits_vL, vL_toL]; omega)) rfl ?_
    rintro _ h9 hle9 ⟨wa, wc, rfl, hW⟩
    replace hn := hn.mono hle9
    replace hx := hx.mono hle9
    replace hdd := hdd.mono hle9
    replace hd := hd.mono hle9
    replace hT := hT.mono hle9
    replace hh0 := hh0.mono hle9
    replace hF := hF.mono hle9
    replace hM := hM.mono hle9
    replace hP := hP.mono hle9
    refine Ru 4 rfl ?_
    refine Nk [7, 6] rfl ?_
    rw [e1, e2]; exact J.retR (RetV.two rfl rfl rfl) ⟨_, _, rfl, hW⟩
theorem pprove_fn {an ae ad : Option Addr} {cn ce cd : Nat} {n x dd : List UInt32} {hash : Int} {a b : Option Addr} {c cb : Nat} {d s : List UInt8} {h : Part} (hn : SlR u32R 1 h an cn n) (hx : SlR u32R 1 h ae ce x) (hdd : SlR u32R 1 h ad cd dd) (hd : SlR u8R 1 h a c d) (hs : SlR u8R 1 h b cb s) (hT : Tabs h) (hln : n.length ≤ 10000) (hlx : x.length ≤ 10000) (hsl : s.length ≤ 100000) :
    FnR Tryz.prog 17 [.agg #[.slice an n.length cn, .slice ae x.length ce, .slice ad dd.length cd], .int .i64 hash, .slice a d.length c, .slice b s.length cb] h (fun v _ => v = .int .i64 (proveE hash d s (vL n) (vL x) (vL dd))) := by
  have hbl := bl_len' n
  have hkl := kformL_len hash d (vL n) (vL x) (vL dd)
  have hts := toL_beV_len s
  obtain ⟨-, c2, -, -, -⟩ := cmp_facts (beV s) (vL n)
  refine Fn.intro Tryz.func17 rfl Tryz.ntmps17 rfl (fun e he => ?_)
  refine J.weak [(0, _), (1, _), (2, _), (3, _)] ⟨rfl, rfl, rfl, rfl, trivial⟩ ?_
  have hh0 := Part.le.refl h
  refine Sr ?_
  refine JL.box rfl rfl rfl (fun b1 => ?_)
  refine Ru 1 rfl ?_
  refine JL.nil ?_
  refine Sr ?_
  refine JL.op (RunV.ownA ag_32 rfl mm_ (by first | rfl)) rfl ?_
  refine Ru 2 rfl ?_
  refine JL.callR ca_39 rfl (kform_fn hn hx hdd hd hT (by omega)) rfl ?_
  rintro _ h2 hle2 ⟨fa, fc, rfl, hF⟩
  replace hn := hn.mono hle2
  replace hx := hx.mono hle2
  replace hdd := hdd.mono hle2
  replace hd := hd.mono hle2
  replace hs := hs.mono hle2
  replace hT := hT.mono hle2
  replace hh0 := hh0.mono hle2
  refine Ru 5 rfl ?_
  refine Nk [10, 9, 8, 4, 3] rfl ?_
  refine J.seq ?_
  refine Sr ?_
  refine Ru 2 rfl ?_
  refine JL.nil ?_
  refine Cs rfl (fun hc3 => ?_) fun hc3 => ?_
  ·
   have e1 : proveE hash d s (vL n) (vL x) (vL dd) = kformE hash d (vL n) (vL x) (vL dd) := if_pos hc3
   refine Sr ?_
   refine Ru 2 rfl ?_
   refine Nk [8, 9, 4, 3] rfl ?_
   rw [e1]; exact J.retR (RetV.one rfl rfl) rfl
  ·
   have hc0 : ¬ kformE hash d (vL n) (vL x) (vL dd) ≠ 0 := (by simpa using hc3); have hc00 := Classical.byContradiction hc0; have hrt := kform_right hc00; have hkz := kformL_size hc00; have hrt2 := of_decide_eq_true hrt; have hN0 : 0 < vL n := (by omega); have hsz : sizeB (vL n) ≤ 65536 := (by unfold sizeB; omega); have hpf := pow_fit (beV s) (vL x) (vL n) hN0; have hiff := numW_iff hkz hpf
   refine J.skip ?_
   refine Sr ?_
   refine Ru 1 rfl ?_
   refine JL.callR ca_42 rfl (natread_fn hs (by omega)) rfl ?_
   rintro _ h4 hle4 ⟨sa, sc, rfl, hS⟩
   replace hn := hn.mono hle4
   replace hx := hx.mono hle4
   replace hdd := hdd.mono hle4
   replace hd := hd.mono hle4
   replace hs := hs.mono hle4
   replace hT := hT.mono hle4
   replace hh0 := hh0.mono hle4
   replace hF := hF.mono hle4
   refine Ru 1 rfl ?_
   refine Nk [11, 9, 8, 4, 3] rfl ?_
   refine J.seq ?_
   refine Sr ?_
   refine Ru 2 rfl ?_
   refine JL.op (RunV.ownA ag_32 rfl mm_ (by first | rfl)) rfl ?_
   refine JL.callP ca_25 rfl (ksize_fn hn) rfl ?_
   refine Ru 2 rfl ?_
   refine Bs 33 rfl (fun hc6 => ?_) fun hc6 => ?_
   ·
    refine Ru 6 rfl ?_
    refine Nk [39, 11, 9, 8, 4] rfl ?_
    refine J.cond_t rfl ?_
    refine Sr ?_
    refine Ru 1 rfl ?_
    refine JL.nil ?_
    first | (rw [show proveE hash d s (vL n) (vL x) (vL dd) = 63 by unfold proveE; rw [if_neg hc0, if_pos (by unfold sizeB; omega)]]; exact J.retR (RetV.one rfl rfl) rfl) | (rw [show proveE hash d s (vL n) (vL x) (vL dd) = 63 by unfold proveE; rw [if_neg hc0, if_neg hc1, if_neg (fun hh => by have := hiff.2 hh; simp_all [numW])]]; exact J.retR (RetV.one rfl rfl) rfl) | (rw [show proveE hash d s (vL n) (vL x) (vL dd) = 0 by unfold proveE; rw [if_neg hc0, if_neg hc1, if_pos (hiff.1 (by simp_all [numW]))]]; exact J.retR (RetV.one rfl rfl) rfl)
   ·
    refine Ru 2 rfl ?_
    refine JL.opg rfl rfl  (RunV.own1 ag_30 rfl mm_ rfl) rfl ?_
    refine JL.callPg rfl rfl  ca_47 rfl (natcmp_fn hS hn) rfl ?_
    rw [vL_toL]
    refine Ru 2 rfl ?_
    refine Nk [39, 11, 9, 8, 4] rfl ?_
    refine Cs rfl (fun hc8 => ?_) fun hc8 => ?_
    ·
     refine Sr ?_
     refine Ru 1 rfl ?_
     refine JL.nil ?_
     first | (rw [show proveE hash d s (vL n) (vL x) (vL dd) = 63 by unfold proveE; rw [if_neg hc0, if_pos (by unfold sizeB; omega)]]; exact J.retR (RetV.one rfl rfl) rfl) | (rw [show proveE hash d s (vL n) (vL x) (vL dd) = 63 by unfold proveE; rw [if_neg hc0, if_neg hc1, if_neg (fun hh => by have := hiff.2 hh; simp_all [numW])]]; exact J.retR (RetV.one rfl rfl) rfl) | (rw [show proveE hash d s (vL n) (vL x) (vL dd) = 0 by unfold proveE; rw [if_neg hc0, if_neg hc1, if_pos (hiff.1 (by simp_all [numW]))]]; exact J.retR (RetV.one rfl rfl) rfl)
    ·
     refine J.skip ?_
     refine Sr ?_
     refine Ru 2 rfl ?_
     refine JL.op (RunV.own1 ag_30 rfl mm_ rfl) rfl ?_
     refine Ru 1 rfl ?_
     refine JL.op (RunV.own1 ag_30 rfl mm_ rfl) rfl ?_
     refine JL.callR ca_41 rfl (natpow_fn hS hx hn (by omega) (by omega) (by omega)) rfl ?_
     rintro _ h9 hle9 ⟨pa, pc, rfl, hP⟩
     replace hn := hn.mono hle9
     replace hx := hx.mono hle9
     replace hdd := hdd.mono hle9
     replace hd := hd.mono hle9
     replace hs := hs.mono hle9
     replace hT := hT.mono hle9
     replace hh0 := hh0.mono hle9
     replace hF := hF.mono hle9
     replace hS := hS.mono hle9
     rw [vL_toL] at hP ⊢; have hc1 : ¬ (s.length ≠ sizeB (vL n) ∨ vL n ≤ beV s) := (by unfold sizeB; omega)
     refine Ru 5 rfl ?_
     refine Nk [12, 9, 8, 4] rfl ?_
     refine Sr ?_
     refine Ru 1 rfl ?_
     refine JL.op (RunV.ownA ag_32 rfl mm_ (by first | rfl)) rfl ?_
     refine JL.callP ca_25 rfl (ksize_fn hn) rfl ?_
     refine JL.callR ca_43 rfl (natwrite_fn (k := sizeB (vL n)) hP hsz (by rw [nbits_vL, vL_toL]; omega)) rfl ?_
     rintro _ h11 hle11 ⟨wa, wc, rfl, hW⟩
     replace hn := hn.mono hle11
     replace hx := hx.mono hle11
     replace hdd := hdd.mono hle11
     replace hd := hd.mono hle11
     replace hs := hs.mono hle11
     replace hT := hT.mono hle11
     replace hh0 := hh0.mono hle11
     replace hF := hF.mono hle11
     replace hS := hS.mono hle11
     replace hP := hP.mono hle11
     refine Ru 5 rfl ?_
     refine Nk [14, 9, 8] rfl ?_
     refine J.seq ?_
     refine Sr ?_
     refine Ru 2 rfl ?_
     refine JL.callP ca_48 rfl (bequal_fn hW hF) rfl ?_
     refine Ru 1 rfl ?_
     refine Nk [59, 8] rfl ?_
     refine Cs rfl (fun hc13 => ?_) fun hc13 => ?_
     ·
      refine Sr ?_
      refine Ru 1 rfl ?_
      refine JL.nil ?_
      first | (rw [show proveE hash d s (vL n) (vL x) (vL dd) = 63 by unfold proveE; rw [if_neg hc0, if_pos (by unfold sizeB; omega)]]; exact J.retR (RetV.one rfl rfl) rfl) | (rw [show proveE hash d s (vL n) (vL x) (vL dd) = 63 by unfold proveE; rw [if_neg hc0, if_neg hc1, if_neg (fun hh => by have := hiff.2 hh; simp_all [numW])]]; exact J.retR (RetV.one rfl rfl) rfl) | (rw [show proveE hash d s (vL n) (vL x) (vL dd) = 0 by unfold proveE; rw [if_neg hc0, if_neg hc1, if_pos (hiff.1 (by simp_all [numW]))]]; exact J.retR (RetV.one rfl rfl) rfl)
     ·
      refine J.skip ?_
      refine Sr ?_
      refine Ru 1 rfl ?_
      refine JL.nil ?_
      first | (rw [show proveE hash d s (vL n) (vL x) (vL dd) = 63 by unfold proveE; rw [if_neg hc0, if_pos (by unfold sizeB; omega)]]; exact J.retR (RetV.one rfl rfl) rfl) | (rw [show proveE hash d s (vL n) (vL x) (vL dd) = 63 by unfold proveE; rw [if_neg hc0, if_neg hc1, if_neg (fun hh => by have := hiff.2 hh; simp_all [numW])]]; exact J.retR (RetV.one rfl rfl) rfl) | (rw [show proveE hash d s (vL n) (vL x) (vL dd) = 0 by unfold proveE; rw [if_neg hc0, if_neg hc1, if_pos (hiff.1 (by simp_all [numW]))]]; exact J.retR (RetV.one rfl rfl) rfl)
end Go.Proofs.YtmngjbefnloljaaGreatDoor
set_option linter.unusedSimpArgs false
set_option linter.unusedVariables false
set_option linter.constructorNameAsVariable false
namespace Go.Proofs.YtmngjbefnloljaaGreatDoor
open Go Go.RowKit
set_option maxRecDepth 100000
theorem ca_10 : callT Tryz.prog 10 = true := by kernel_rfl
theorem ca_13 : callT Tryz.prog 13 = true := by kernel_rfl
theorem ca_14 : callT Tryz.prog 14 = true := by kernel_rfl
theorem ca_15 : callT Tryz.prog 15 = true := by kernel_rfl
theorem ca_16 : callT Tryz.prog 16 = true := by kernel_rfl
theorem ca_17 : callT Tryz.prog 17 = true := by kernel_rfl
theorem ca_18 : callT Tryz.prog 18 = true := by kernel_rfl
theorem ca_19 : callT Tryz.prog 19 = true := by kernel_rfl
theorem fixed_fn {h : Part} (hT : Tabs h) : Pure Tryz.prog 10 [] h (.bool true) := by
  refine Pure.ofV ?_
  have hd0 : d0.length = 32 := List.length_replicate
  have hk : (amongI 0 12).toNat = 0 := by decide
  obtain ⟨k1, k2, k3, k4⟩ := kn_form
  obtain ⟨q1, q2, q3, q4⟩ := kn_list
  obtain ⟨s1, s2⟩ := kn_sign
  have p1 := kn_prove
  have hb0 : (toL (keyN 0)).length = 16 := by decide +kernel
  have hb1 : (toL (keyE 0)).length = 1 := by decide +kernel
  have hb2 : (expL 0).length = 16 := by decide +kernel
  obtain ⟨h2, e2⟩ := List.getElem?_eq_some_iff.1 q2
  obtain ⟨h3, e3⟩ := List.getElem?_eq_some_iff.1 q3
  obtain ⟨h4, e4⟩ := List.getElem?_eq_some_iff.1 q4
  have hsl := kn_pow.2.2.2.2.2.2.1
  refine Fn.intro Tryz.func10 rfl Tryz.ntmps10 rfl (fun e he => ?_)
  have hh0 := Part.le.refl h
  refine Sr ?_
  refine Ru 1 rfl ?_
  refine JL.nil ?_
  refine Sr ?_
  refine Ru 1 rfl ?_
  refine JL.nil ?_
  refine J.seq ?_
  refine Sr ?_
  refine JL.row_nil 5 1 ?_
  refine Ru 1 rfl ?_
  refine JL.nil ?_
  refine J.block ?_
  refine J.loop (fun t_ S_ h_ L_ => ∃ (i : Nat) (a : Option Addr) (c : Nat), t_ = 33 - i ∧ S_ = [(1, .slice a (List.replicate i (1 : UInt8)).length c), (2, .int .i64 i)] ∧ h = h_ ∧ L_ = [.row a c 5 1 (List.replicate i (1 : UInt8)).length (u8s (List.replicate i 1))] ∧ (i ≤ 32)) ⟨_, _, ?_, ⟨0, none, 0, rfl, rfl, rfl, rfl, by omega⟩⟩ ?_
  ·
   repeat (first | exact trivial | refine ⟨rfl, ?_⟩)
  rintro _ _ _ _ ⟨i, a, c, rfl, rfl, rfl, rfl, hi⟩
  refine J.seq ?_
  refine Sr ?_
  refine Ru 2 rfl ?_
  refine JL.nil ?_
  refine Cs rfl (fun hc1 => ?_) fun hc1 => ?_
  ·
   have hke : List.replicate i (1 : UInt8) ++ [1] = List.replicate (i + 1) 1 := (by rw [← List.replicate_succ']); have hrl : (List.replicate i (1 : UInt8)).length = i := List.length_replicate
   refine J.skip ?_
   refine J.seq ?_
   refine J.block ?_
   refine Rg ?_
   refine Ru 1 rfl ?_
   refine JL.lit1 ap_22 zr_5 rfl rfl rfl rfl rfl (fun b2 => ?_)
   refine JL.own (L' := [.blk _ _ [.int .u8 (((1 : UInt8).toNat : Nat) : Int)], _]) (fun w hk => hk) ?_
   refine JL.append1 ap_22 rfl rfl CellsR.of_u8 rfl dl_ dl_ rfl (rfl) (by first | omega | (simp only [List.length_append, List.length_cons, List.length_nil]; omega)) rfl rfl (fun a3 c3 xs3 hC3 hN3 => ?_)
   obtain rfl := hC3.u8
   rw [hke]
   refine Ru 1 rfl ?_
   refine JL.nil ?_
   refine Rg ?_
   refine Ru 1 rfl ?_
   refine JL.op ai_ rfl ?_
   refine Ru 1 rfl ?_
   refine JL.nil ?_
   refine ⟨_, ?_, _, ?_, ⟨i + 1, _, _, rfl, rfl, rfl, rfl, by omega⟩⟩
   ·
    omega
   ·
    repeat (first | exact trivial | refine ⟨rfl, ?_⟩)
  ·
   obtain rfl : i = 32 := (by omega); 
   refine J.exit ?_
   refine Sr ?_
   refine JL.pub (R := u8R) (l := d0) dl_ CellsR.of_u8 rfl (by omega) (fun h9 hle9 hD => ?_); replace hT := hT.mono hle9; replace hh0 := hh0.mono hle9
   refine Ru 1 rfl ?_
   refine JL.callR ca_11 rfl (pform_fn (n := 256) (k := 62) (d := d0) hD hT (by decide) (by decide)) rfl ?_
   rintro _ h4 hle4 ⟨fa, fc, rfl, hF⟩
   replace hT := hT.mono hle4
   replace hh0 := hh0.mono hle4
   replace hD := hD.mono hle4
   rw [k1]
   refine Ru 5 rfl ?_
   refine Nk [4, 3, 1] rfl ?_
   refine Sr ?_
   refine Ru 1 rfl ?_
   refine JL.callR ca_11 rfl (pform_fn (n := 256) (k := 61) (d := d0) hD hT (by decide) (by decide)) rfl ?_
   rintro _ h5 hle5 ⟨ga, gc, rfl, hG⟩
   replace hT := hT.mono hle5
   replace hh0 := hh0.mono hle5
   replace hD := hD.mono hle5
   replace hF := hF.mono hle5
   rw [k2]
   refine Ru 5 rfl ?_
   refine Nk [6, 4, 3, 1] rfl ?_
   refine Sr ?_
   refine JL.callR ca_19 rfl (rkept_fn (k := 0) (by decide) (by decide)) rfl ?_
   rintro _ h6 hle6 ⟨an, cn, ae, ce, ad, cd, rfl, hN, hE, hX⟩
   replace hT := hT.mono hle6
   replace hh0 := hh0.mono hle6
   replace hD := hD.mono hle6
   replace hF := hF.mono hle6
   rw [hk] at hN hE hX ⊢
   refine JL.alloc zr_32 rfl (fun b7 => ?_)
   refine JL.storeA ag_32 rfl rfl dl_ (by first | rfl) (by first | rfl | assumption) (by first | rfl) ?_
   refine JL.nil ?_
   refine Sr ?_
   refine JL.op (RunV.ownA ag_32 rfl mm_ (by first | rfl)) rfl ?_
   refine Ru 1 rfl ?_
   refine JL.callR ca_15 rfl (psign_fn (hash := 256) (d := d0) hN hE hX hD hT (by omega) (by omega)) rfl ?_
   rintro _ h8 hle8 ⟨sa, sc, rfl, hS⟩
   replace hT := hT.mono hle8
   replace hh0 := hh0.mono hle8
   replace hD := hD.mono hle8
   replace hF := hF.mono hle8
   replace hN := hN.mono hle8
   replace hE := hE.mono hle8
   replace hX := hX.mono hle8
   rw [vL_toL, vL_toL, show sigE 256 d0 (keyN 0) (keyE 0) (vL (expL 0)) = 0 from s1, show sigL 256 d0 (keyN 0) (keyE 0) (vL (expL 0)) = numW s0 64 from s2] at *
   refine Ru 5 rfl ?_
   refine Nk [9, 8, 7, 6, 4, 3, 1] rfl ?_
   refine Sr ?_
   refine Ru 3 rfl ?_
   refine Bs 36 rfl (fun hc9 => ?_) fun hc9 => ?_
   rotate_left
   ·
    exfalso; (exact hc9 rfl)
   refine Ru 5 rfl ?_
   refine Bs 41 rfl (fun hc10 => ?_) fun hc10 => ?_
   rotate_left
   ·
    exfalso; omega
   refine Ru 1 rfl ?_
   refine JL.opeg rfl rfl  (RunE.index sl_22 rfl rfl (show _ = ((1 : Nat) : Int) from rfl) (by assumption) rfl (by omega)) rfl ?_
   rintro _ ⟨b11, o11, hi11, rfl, hE11⟩
   refine JL.opg rfl rfl  (RunV.ld_u8 ag_5 rfl (by assumption)) rfl ?_
   refine Ru 3 rfl ?_
   refine Bs 47 rfl (fun hc13 => ?_) fun hc13 => ?_
   rotate_left
   ·
    exfalso; (exact hc13 (by rw [e2]; rfl))
   refine Ru 1 rfl ?_
   refine JL.opeg rfl rfl  (RunE.index sl_22 rfl rfl (show _ = ((10 : Nat) : Int) from rfl) (by assumption) rfl (by omega)) rfl ?_
   rintro _ ⟨b14, o14, hi14, rfl, hE14⟩
   refine JL.opg rfl rfl  (RunV.ld_u8 ag_5 rfl (by assumption)) rfl ?_
   refine Ru 3 rfl ?_
   refine Bs 53 rfl (fun hc16 => ?_) fun hc16 => ?_
   rotate_left
   ·
    exfalso; (exact hc16 (by rw [e3]; rfl))
   refine Ru 1 rfl ?_
   refine JL.opeg rfl rfl  (RunE.index sl_22 rfl rfl (show _ = ((11 : Nat) : Int) from rfl) (by assumption) rfl (by omega)) rfl ?_
   rintro _ ⟨b17, o17, hi17, rfl, hE17⟩
   refine JL.opg rfl rfl  (RunV.ld_u8 ag_5 rfl (by assumption)) rfl ?_
   refine Ru 3 rfl ?_
   refine Bs 59 rfl (fun hc19 => ?_) fun hc19 => ?_
   rotate_left
   ·
    exfalso; (exact hc19 (by rw [e4]; rfl))
   refine Ru 4 rfl ?_
   refine Bs 63 rfl (fun hc20 => ?_) fun hc20 => ?_
   rotate_left
   ·
    exfalso; (exact hc20 rfl)
   refine Ru 4 rfl ?_
   refine Bs 67 rfl (fun hc21 => ?_) fun hc21 => ?_
   rotate_left
   ·
    exfalso; (exact hc21 rfl)
   refine JL.opg rfl rfl  (RunV.ownA ag_32 rfl mm_ (by first | rfl)) rfl ?_
   refine Ru 2 rfl ?_
   refine JL.callRg rfl rfl  ca_17 rfl (pprove_fn (hash := 256) (d := d0) hN hE hX hD hS hT (by omega) (by omega) (by omega)) rfl ?_
   rintro _ h22 hle22 rfl
   replace hT := hT.mono hle22
   replace hh0 := hh0.mono hle22
   replace hD := hD.mono hle22
   replace hF := hF.mono hle22
   replace hN := hN.mono hle22
   replace hE := hE.mono hle22
   replace hX := hX.mono hle22
   replace hS := hS.mono hle22
   rw [vL_toL, vL_toL, show proveE 256 d0 (numW s0 64) (keyN 0) (keyE 0) (vL (expL 0)) = 0 from p1]
   refine Ru 3 rfl ?_
   refine Nk [0] rfl ?_
   exact J.retV (RetV.one rfl rfl) rfl
theorem rsaforms_fn {n k : Int} {a : Option Addr} {c : Nat} {d : List UInt8} {h : Part} (hd : SlR u8R 1 h a c d) (hk0 : -9223372036854775808 ≤ k) (hk1 : k ≤ 9223372036854775807) (hT : Tabs h) : Pure Tryz.prog 3 [.int .i64 n, .slice a d.length c, .int .i64 k] h (.bool true) := by
  have hdb := hd.big
  refine Pure.ofV ?_
  refine Fn.intro Tryz.func3 rfl Tryz.ntmps3 rfl (fun e he => ?_)
  refine J.weak [(0, _), (1, _), (2, _)] ⟨rfl, rfl, rfl, trivial⟩ ?_
  have hh0 := Part.le.refl h
  refine Sr ?_
  refine Ru 1 rfl ?_
  refine JL.nil ?_
  refine J.seq ?_
  refine Sr ?_
  refine Ru 3 rfl ?_
  refine JL.nil ?_
  refine Cs rfl (fun hc1 => ?_) fun hc1 => ?_
  ·
   refine Sr ?_
   refine JL.callP ca_10 rfl (fixed_fn (by assumption)) rfl ?_
   refine Ru 1 rfl ?_
   refine Nk [6, 0, 1, 2] rfl ?_
   exact J.retV (RetV.one rfl rfl) rfl
  ·
   refine J.skip ?_
   refine Sr ?_
   refine Ru 3 rfl ?_
   refine JL.callR ca_11 rfl (pform_fn hd hT hk0 hk1) rfl ?_
   rintro _ h3 hle3 ⟨fa, fc, rfl, hF⟩
   replace hd := hd.mono hle3
   replace hT := hT.mono hle3
   replace hh0 := hh0.mono hle3
   refine Ru 5 rfl ?_
   refine Nk [8, 7, 6, 0, 1, 2] rfl ?_
   refine Sr ?_
   refine Ru 3 rfl ?_
   refine JL.callR ca_12 rfl (rform_fn hd (by omega) hk0 hk1) rfl ?_
   rintro _ h4 hle4 ⟨ga, gc, rfl, hG⟩
   replace hd := hd.mono hle4
   replace hT := hT.mono hle4
   replace hh0 := hh0.mono hle4
   replace hF := hF.mono hle4
   refine Ru 5 rfl ?_
   refine Nk [10, 9, 8, 7, 6] rfl ?_
   refine Sr ?_
   refine Ru 2 rfl ?_
   refine JL.callP ca_13 rfl (samebytes_fn hF hG) rfl ?_
   refine Ru 1 rfl ?_
   refine Bs 32 rfl (fun hc6 => ?_) fun hc6 => ?_
   rotate_left
   ·
    exfalso; (exact hc6 rfl)
   refine Ru 5 rfl ?_
   refine Bs 37 rfl (fun hc7 => ?_) fun hc7 => ?_
   rotate_left
   ·
    exfalso; (exact hc7 rfl)
   refine JL.callPg rfl rfl  ca_10 rfl (fixed_fn (by assumption)) rfl ?_
   refine Ru 2 rfl ?_
   refine Nk [6] rfl ?_
   exact J.retV (RetV.one rfl rfl) rfl
theorem rsasigns_fn {an ae ad : Option Addr} {cn ce cd : Nat} {n x dd : List UInt32} {hash : Int} {a : Option Addr} {c : Nat} {d : List UInt8} {h : Part} (hn : SlR u32R 1 h an cn n) (hx : SlR u32R 1 h ae ce x) (hdd : SlR u32R 1 h ad cd dd) (hd : SlR u8R 1 h a c d) (hT : Tabs h) :
    Pure Tryz.prog 4 [.agg #[.slice an n.length cn, .slice ae x.length ce, .slice ad dd.length cd], .int .i64 hash, .slice a d.length c] h (.bool true) := by
  refine Pure.ofV ?_
  refine Fn.intro Tryz.func4 rfl Tryz.ntmps4 rfl (fun e he => ?_)
  refine J.weak [(0, _), (1, _), (2, _)] ⟨rfl, rfl, rfl, trivial⟩ ?_
  have hh0 := Part.le.refl h
  refine Sr ?_
  refine JL.box rfl rfl rfl (fun b1 => ?_)
  refine Ru 1 rfl ?_
  refine JL.nil ?_
  refine J.seq ?_
  refine Sr ?_
  refine JL.op (RunV.ownA ag_32 rfl mm_ (by first | rfl)) rfl ?_
  refine JL.callP ca_14 rfl (heavy_fn) rfl ?_
  refine Ru 1 rfl ?_
  refine Bs 13 rfl (fun hc3 => ?_) fun hc3 => ?_
  ·
   refine Ru 4 rfl ?_
   refine Nk [17, 6, 3, 1, 2] rfl ?_
   refine J.cond_t rfl ?_
   refine Sr ?_
   refine JL.callP ca_10 rfl (fixed_fn (by assumption)) rfl ?_
   refine Ru 1 rfl ?_
   refine JL.nil ?_
   exact J.retV (RetV.one rfl rfl) rfl
  ·
   refine Ru 4 rfl ?_
   refine Nk [17, 6, 3, 1, 2] rfl ?_
   refine Cs rfl (fun hc5 => ?_) fun hc5 => ?_
   ·
    refine Sr ?_
    refine JL.callP ca_10 rfl (fixed_fn (by assumption)) rfl ?_
    refine Ru 1 rfl ?_
    refine JL.nil ?_
    exact J.retV (RetV.one rfl rfl) rfl
   ·
    refine J.skip ?_
    refine Sr ?_
    refine JL.op (RunV.ownA ag_32 rfl mm_ (by first | rfl)) rfl ?_
    refine Ru 2 rfl ?_
    refine JL.callR ca_15 rfl (psign_fn hn hx hdd hd hT (by omega) (by omega)) rfl ?_
    rintro _ h7 hle7 ⟨fa, fc, rfl, hF⟩
    replace hn := hn.mono hle7
    replace hx := hx.mono hle7
    replace hdd := hdd.mono hle7
    replace hd := hd.mono hle7
    replace hT := hT.mono hle7
    replace hh0 := hh0.mono hle7
    refine Ru 5 rfl ?_
    refine Nk [8, 7, 6, 3, 1, 2] rfl ?_
    refine Sr ?_
    refine JL.op (RunV.ownA ag_32 rfl mm_ (by first | rfl)) rfl ?_
    refine Ru 2 rfl ?_
    refine JL.callR ca_16 rfl (rsign_fn hn hx hdd hd (by omega) (by omega) (by omega) (by omega)) rfl ?_
    rintro _ h8 hle8 ⟨ga, gc, rfl, hG⟩
    replace hn := hn.mono hle8
    replace hx := hx.mono hle8
    replace hdd := hdd.mono hle8
    replace hd := hd.mono hle8
    replace hT := hT.mono hle8
    replace hh0 := hh0.mono hle8
    replace hF := hF.mono hle8
    refine Ru 5 rfl ?_
    refine Nk [10, 9, 8, 7, 6] rfl ?_
    refine Sr ?_
    refine Ru 2 rfl ?_
    refine JL.callP ca_13 rfl (samebytes_fn hF hG) rfl ?_
    refine Ru 1 rfl ?_
    refine Bs 36 rfl (fun hc10 => ?_) fun hc10 => ?_
    rotate_left
    ·
     exfalso; (exact hc10 rfl)
    refine Ru 5 rfl ?_
    refine Bs 41 rfl (fun hc11 => ?_) fun hc11 => ?_
    rotate_left
    ·
     exfalso; (exact hc11 rfl)
    refine JL.callPg rfl rfl  ca_10 rfl (fixed_fn (by assumption)) rfl ?_
    refine Ru 2 rfl ?_
    refine Nk [6] rfl ?_
    exact J.retV (RetV.one rfl rfl) rfl
theorem rsaproves_fn {an ae ad : Option Addr} {cn ce cd : Nat} {n x dd : List UInt32} {hash : Int} {a b : Option Addr} {c cb : Nat} {d s : List UInt8} {h : Part} (hn : SlR u32R 1 h an cn n) (hx : SlR u32R 1 h ae ce x) (hdd : SlR u32R 1 h ad cd dd) (hd : SlR u8R 1 h a c d) (hs : SlR u8R 1 h b cb s) (hT : Tabs h) :
    Pure Tryz.prog 5 [.agg #[.slice an n.length cn, .slice ae x.length ce, .slice ad dd.length cd], .int .i64 hash, .slice a d.length c, .slice b s.length cb] h (.bool true) := by
  refine Pure.ofV ?_
  refine Fn.intro Tryz.func5 rfl Tryz.ntmps5 rfl (fun e he => ?_)
  refine J.weak [(0, _), (1, _), (2, _), (3, _)] ⟨rfl, rfl, rfl, rfl, trivial⟩ ?_
  have hh0 := Part.le.refl h
  refine Sr ?_
  refine JL.box rfl rfl rfl (fun b1 => ?_)
  refine Ru 1 rfl ?_
  refine JL.nil ?_
  refine J.seq ?_
  refine Sr ?_
  refine JL.op (RunV.ownA ag_32 rfl mm_ (by first | rfl)) rfl ?_
  refine JL.callP ca_14 rfl (heavy_fn) rfl ?_
  refine Ru 1 rfl ?_
  refine Bs 11 rfl (fun hc3 => ?_) fun hc3 => ?_
  ·
   refine Ru 9 rfl ?_
   refine Nk [20, 8, 4, 1, 2, 3] rfl ?_
   refine J.cond_t rfl ?_
   refine Sr ?_
   refine JL.callP ca_10 rfl (fixed_fn (by assumption)) rfl ?_
   refine Ru 1 rfl ?_
   refine JL.nil ?_
   exact J.retV (RetV.one rfl rfl) rfl
  ·
   refine Ru 5 rfl ?_
   refine Bs 16 rfl (fun hc5 => ?_) fun hc5 => ?_
   ·
    refine Ru 4 rfl ?_
    refine Nk [20, 8, 4, 1, 2, 3] rfl ?_
    refine J.cond_t rfl ?_
    refine Sr ?_
    refine JL.callP ca_10 rfl (fixed_fn (by assumption)) rfl ?_
    refine Ru 1 rfl ?_
    refine JL.nil ?_
    exact J.retV (RetV.one rfl rfl) rfl
   ·
    refine Ru 4 rfl ?_
    refine Nk [20, 8, 4, 1, 2, 3] rfl ?_
    refine Cs rfl (fun hc7 => ?_) fun hc7 => ?_
    ·
     refine Sr ?_
     refine JL.callP ca_10 rfl (fixed_fn (by assumption)) rfl ?_
     refine Ru 1 rfl ?_
     refine JL.nil ?_
     exact J.retV (RetV.one rfl rfl) rfl
    ·
     refine J.skip ?_
     refine J.seq ?_
     refine J.held ([.blk b1 32 [.slice an n.length cn, .slice ae x.length ce, .slice ad dd.length cd]]) 15 mixed_ rfl (fun h00 => ?_)
     refine JH.take 0 rfl (by kernel_rfl) (by kernel_rfl) (by kernel_rfl) (fun _ _ _ _ hh => hh) (br_ h00) (RunV.ownA ag_32 rfl mm_ (by first | rfl)) rfl ?_
     refine JH.take 1 rfl (by kernel_rfl) (by kernel_rfl) (by kernel_rfl) (fun _ _ _ _ hh => hh) (br_ h00) (RunV.move rfl) rfl ?_
     refine JH.take 2 rfl (by kernel_rfl) (by kernel_rfl) (by kernel_rfl) (fun _ _ _ _ hh => hh) (br_ h00) (RunV.move rfl) rfl ?_
     refine JH.take 3 rfl (by kernel_rfl) (by kernel_rfl) (by kernel_rfl) (fun _ _ _ _ hh => hh) (br_ h00) (RunV.move rfl) rfl ?_
     refine JH.take 5 rfl (by kernel_rfl) (by kernel_rfl) (by kernel_rfl) (fun _ _ _ _ hh => hh) (br_ h00) (RunV.ownA ag_32 rfl mm_ (by first | rfl)) rfl ?_
     refine JH.take 6 rfl (by kernel_rfl) (by kernel_rfl) (by kernel_rfl) (fun _ _ _ _ hh => hh) (br_ h00) (RunV.move rfl) rfl ?_
     refine JH.take 7 rfl (by kernel_rfl) (by kernel_rfl) (by kernel_rfl) (fun _ _ _ _ hh => hh) (br_ h00) (RunV.move rfl) rfl ?_
     refine JH.take 8 rfl (by kernel_rfl) (by kernel_rfl) (by kernel_rfl) (fun _ _ _ _ hh => hh) (br_ h00) (RunV.move rfl) rfl ?_
     refine JH.all1 4 (by kernel_rfl) rfl ?_
     unfold One
     refine JL.callR ca_17 rfl (pprove_fn hn hx hdd hd hs hT (by omega) (by omega) (by omega)) rfl ?_
     rintro _ h9 hle9 rfl
     replace hn := hn.mono hle9
     replace hx := hx.mono hle9
     replace hdd := hdd.mono hle9
     replace hd := hd.mono hle9
     replace hs := hs.mono hle9
     replace hT := hT.mono hle9
     replace hh0 := hh0.mono hle9
     refine JL.nil ⟨(br_ h00), ?_⟩
     refine JH.all1 9 (by kernel_rfl) rfl ?_
     unfold One
     refine JL.callR ca_18 rfl (rprove_fn hn hx hdd hd hs (by omega) (by omega) (by omega) (by omega) (by omega)) rfl ?_
     rintro _ h10 hle10 rfl
     replace hn := hn.mono hle10
     replace hx := hx.mono hle10
     replace hdd := hdd.mono hle10
     replace hd := hd.mono hle10
     replace hs := hs.mono hle10
     replace hT := hT.mono hle10
     replace hh0 := hh0.mono hle10
     refine JL.nil ⟨(br_ h00), ?_⟩
     refine JH.take 10 rfl (by kernel_rfl) (by kernel_rfl) (by kernel_rfl) (fun _ _ _ _ hh => hh) (br_ h00) (RunV.eql rfl rfl) rfl ?_
     refine JH.take 11 rfl (by kernel_rfl) (by kernel_rfl) (by kernel_rfl) (fun _ _ _ _ hh => hh) (br_ h00) (RunV.move rfl) rfl ?_
     refine Bh 33 rfl (fun hc11 => ?_) fun hc11 => ?_
     ·
      refine JH.all1 12 (by kernel_rfl) rfl ?_
      unfold One
      refine JL.callPg rfl rfl  ca_10 rfl (fixed_fn (by assumption)) rfl ?_
      refine JL.nil ⟨(br_ h00), ?_⟩
      refine JH.take 13 rfl (by kernel_rfl) (by kernel_rfl) (by kernel_rfl) (fun _ _ _ _ hh => hh) (br_ h00) (RunV.pick_t rfl rfl) rfl ?_
      refine JH.take 14 rfl (by kernel_rfl) (by kernel_rfl) (by kernel_rfl) (fun _ _ _ _ hh => hh) (br_ h00) (RunV.assign rfl) rfl ?_
      refine JH.done (by kernel_rfl) ?_
      refine Kp [8] rfl ?_
      exact J.retV (RetV.one rfl rfl) rfl
     ·
      exact absurd rfl hc11
end Go.Proofs.YtmngjbefnloljaaGreatDoor
