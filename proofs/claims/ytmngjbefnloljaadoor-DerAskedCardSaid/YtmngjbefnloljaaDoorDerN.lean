/- Walks: the program reads a node. -/
import Derived.Test.YtmngjbefnloljaaDoorDerD
set_option linter.unusedSimpArgs false
set_option linter.unusedVariables false
set_option linter.constructorNameAsVariable false
namespace Go.Proofs.YtmngjbefnloljaaDoor
open Go Go.RowKit
theorem ca_60 : callT Tryd.prog 60 = true := by kernel_rfl
theorem ca_84 : callT Tryd.prog 84 = true := by kernel_rfl
theorem ca_85 : callT Tryd.prog 85 = true := by kernel_rfl
theorem fo_25_3 : fieldOff Tryd.prog 25 3 = some 3 := by kernel_rfl
theorem fo_25_4 : fieldOff Tryd.prog 25 4 = some 4 := by kernel_rfl
theorem fo_95_0 : fieldOff Tryd.prog 95 0 = some 0 := by kernel_rfl
theorem fo_95_1 : fieldOff Tryd.prog 95 1 = some 1 := by kernel_rfl
theorem zr_3 : zeroT Tryd.prog 3 = some [.int .i64 0] := by kernel_rfl

abbrev RdE (α : Type) := Except (Int × Int) α
/-- A node's head: its class, tag, form, length, and where what follows begins. -/
def rdH (l : List UInt8) (p en : Nat) (ok : Bool) : RdE (Nat × Nat × Bool × Nat × Nat) :=
  if ¬ p < en then .error (p, 30)
  else if mayB (byteAt l p / 64 : Nat) (byteAt l p % 32 : Nat) (decide (byteAt l p / 32 % 2 = 1)) = false then .error (p, 31)
  else match rdS l (p + 1) en with
    | .error c => .error (p, c)
    | .ok (n, q) => if ¬ n ≤ en - q then .error (p, 30) else if ok = false then .error (p, 33) else .ok (byteAt l p / 64, byteAt l p % 32, decide (byteAt l p / 32 % 2 = 1), n, q)
def cutL (l : List UInt8) (i j : Nat) : List UInt8 := (l.drop i).take (j - i)
/-- The kids as far as a place: what has come, whether they rise, where the last one began. -/
def rdK (rd : Nat → Nat → RdE (Nd × Nat)) (l : List UInt8) (stop : Nat) : Nat → Nat → List Nd → Bool → Nat → RdE (List Nd × Bool × Nat)
  | 0, p, acc, r, _ => .ok (acc, r, p)
  | f + 1, p, acc, r, last => if ¬ p < stop then .ok (acc, r, p) else match rd p stop with
    | .error e => .error e
    | .ok (x, p') => rdK rd l stop f p' (acc ++ [x]) (r && (decide (acc.length = 0) || decide (Go.Lib.compareBytes (cutL l last p) (cutL l p p') ≤ 0))) p
def rdN : Nat → List UInt8 → Nat → Nat → RdE (Nd × Nat)
  | 0, l, p, en => match rdH l p en false with
    | .error e => .error e
    | .ok _ => .error (p, 33)
  | d + 1, l, p, en => match rdH l p en true with
    | .error e => .error e
    | .ok (c, t, k, n, q) =>
      if k = false then (if decide (c = 2) || valB t (cutL l q (q + n)) then .ok (.mk c t false (cutL l q (q + n)) [], q + n) else .error (p, 34))
      else match rdK (rdN d l) l (q + n) n q [] true q with
        | .error e => .error e
        | .ok (ks, r, p') => if r || (decide (c ≠ 0) || decide (t ≠ 17)) then .ok (.mk c t true [] ks, p') else .error (p, 34)
theorem rdH_le {l : List UInt8} {p en : Nat} {ok : Bool} {c t n q : Nat} {k : Bool} (h : rdH l p en ok = .ok (c, t, k, n, q)) : p + 1 < q ∧ q + n ≤ en ∧ c ≤ 3 ∧ t ≤ 31 := by
  unfold rdH at h
  split at h
  · cases h
  · split at h
    · cases h
    · split at h
      · cases h
      · rename_i n' q' hs
        have := rdS_le hs
        have := byteAt_lt l p
        split at h
        · cases h
        · split at h
          · cases h
          · injection h with h; injection h with h1 h2; injection h2 with h2 h3; injection h3 with h3 h4; injection h4 with h4 h5; omega
theorem rdK_le {rd : Nat → Nat → RdE (Nd × Nat)} {l : List UInt8} {stop : Nat} (hrd : ∀ p x p', rd p stop = .ok (x, p') → p < p' ∧ p' ≤ stop) : ∀ (f p : Nat) (acc : List Nd) (r : Bool) (last : Nat) (ks : List Nd) (r' : Bool) (p' : Nat), p ≤ stop → stop ≤ p + f → rdK rd l stop f p acc r last = .ok (ks, r', p') → p' = stop
  | 0, p, acc, r, last, ks, r', p', h1, h2, h => by simp only [rdK] at h; injection h with h; injection h with h3 h4; injection h4 with h4 h5; omega
  | f + 1, p, acc, r, last, ks, r', p', h1, h2, h => by
    simp only [rdK] at h
    split at h
    · injection h with h; injection h with h3 h4; injection h4 with h4 h5; omega
    · split at h
      · cases h
      · rename_i x q hq
        have := hrd p x q hq
        exact rdK_le hrd f q _ _ _ ks r' p' this.2 (by omega) h
theorem rdN_le : ∀ (d : Nat) (l : List UInt8) (p en : Nat) (x : Nd) (p' : Nat), rdN d l p en = .ok (x, p') → p < p' ∧ p' ≤ en
  | 0, l, p, en, x, p', h => by simp only [rdN] at h; split at h <;> cases h
  | d + 1, l, p, en, x, p', h => by
    simp only [rdN] at h
    split at h
    · cases h
    · rename_i c t k n q hh
      have h0 := rdH_le hh
      split at h
      · split at h
        · injection h with h; injection h with h1 h2; omega
        · cases h
      · split at h
        · cases h
        · rename_i ks r p1 hk
          have := rdK_le (fun p x p' => rdN_le d l p (q + n) x p') n q _ _ _ _ _ _ (by omega) (by omega) hk
          split at h
          · injection h with h; injection h with h1 h2; omega
          · cases h

/-- What reading a node comes to. -/
def NodeR (s : RdE (Nd × Nat)) (br : Nat) (b : Value) : Ending → Part → List Ent → Prop := fun e h' Lo =>
  match s with
  | .ok (x, q) => (∃ cs, e = .returned (.agg (List.toArray cs)) ∧ NdR h' cs x) ∧ Lo = [.blk br 95 [b, .int .i64 q]]
  | .error (a, c) => e = .panicked [{ v := gvn a c, recovered := false }] ∧ Lo = []
theorem NodeR.out {s : RdE (Nd × Nat)} {br : Nat} {b : Value} {h : Part} {Lo : List Ent} (k : NodeR s br b .outgrown h Lo) : False := by
  unfold NodeR at k
  split at k
  · obtain ⟨⟨_, hh, _⟩, _⟩ := k; cases hh
  · cases k.1
theorem NodeR.pan {s : RdE (Nd × Nat)} {br : Nat} {b : Value} {h : Part} {Lo : List Ent} {ch : List PanicEntry} (k : NodeR s br b (.panicked ch) h Lo) : ∃ a c, s = .error (a, c) ∧ ch = [{ v := gvn a c, recovered := false }] := by
  unfold NodeR at k
  split at k
  · obtain ⟨⟨_, hh, _⟩, _⟩ := k; cases hh
  · rename_i a c; have := k.1; injection this with e; exact ⟨a, c, rfl, e⟩
theorem NodeR.ret {s : RdE (Nd × Nat)} {br : Nat} {b v : Value} {h : Part} {Lo : List Ent} (k : NodeR s br b (.returned v) h Lo) : ∃ (x : Nd) (q : Nat) (cs : List Value), s = .ok (x, q) ∧ v = .agg cs.toArray ∧ NdR h cs x ∧ Lo = [.blk br 95 [b, .int .i64 q]] := by
  unfold NodeR at k
  split at k
  · rename_i x q; obtain ⟨⟨cs, hh, hn⟩, hL⟩ := k; injection hh with e; exact ⟨x, q, cs, rfl, e, hn, hL⟩
  · cases k.1

theorem rdN_err {d : Nat} {l : List UInt8} {p en : Nat} {e : Int × Int} (h : rdH l p en true = .error e) : rdN (d + 1) l p en = .error e := by simp only [rdN]; rw [h]
theorem rdN_err0 {l : List UInt8} {p en : Nat} {e : Int × Int} (h : rdH l p en false = .error e) : rdN 0 l p en = .error e := by simp only [rdN]; rw [h]
theorem rdN_prim {d : Nat} {l : List UInt8} {p en c t n q : Nat} (h : rdH l p en true = .ok (c, t, false, n, q)) : rdN (d + 1) l p en = if decide (c = 2) || valB t (cutL l q (q + n)) then .ok (.mk c t false (cutL l q (q + n)) [], q + n) else .error (p, 34) := by simp only [rdN]; rw [h]; rfl
theorem rdN_cons {d : Nat} {l : List UInt8} {p en c t n q : Nat} (h : rdH l p en true = .ok (c, t, true, n, q)) : rdN (d + 1) l p en = match rdK (rdN d l) l (q + n) n q [] true q with
    | .error e => .error e
    | .ok (ks, r, p') => if r || (decide (c ≠ 0) || decide (t ≠ 17)) then .ok (.mk c t true [] ks, p') else .error (p, 34) := by simp only [rdN]; rw [h]; rfl
theorem rdK_stop {rd : Nat → Nat → RdE (Nd × Nat)} {l : List UInt8} {stop f p last : Nat} {acc : List Nd} {r : Bool} (h : ¬ p < stop) : rdK rd l stop f p acc r last = .ok (acc, r, p) := by
  cases f with
  | zero => rfl
  | succ f => simp only [rdK]; rw [if_pos h]
theorem rdK_err {rd : Nat → Nat → RdE (Nd × Nat)} {l : List UInt8} {stop f p last : Nat} {acc : List Nd} {r : Bool} {e : Int × Int} (h : p < stop) (he : rd p stop = .error e) : rdK rd l stop (f + 1) p acc r last = .error e := by
  simp only [rdK]; rw [if_neg (by omega), he]
theorem rdK_ok {rd : Nat → Nat → RdE (Nd × Nat)} {l : List UInt8} {stop f p last p' : Nat} {acc : List Nd} {r : Bool} {x : Nd} (h : p < stop) (he : rd p stop = .ok (x, p')) : rdK rd l stop (f + 1) p acc r last = rdK rd l stop f p' (acc ++ [x]) (r && (decide (acc.length = 0) || decide (Go.Lib.compareBytes (cutL l last p) (cutL l p p') ≤ 0))) p := by
  rw [rdK, if_neg (by omega), he]
theorem node_rd : ∀ (d : Nat) (l : List UInt8) (p en : Nat) (br : Nat) (ab : Option Addr) (cb : Nat) (h : Part), SlR u8R 1 h ab cb l → Tabs h → l.length ≤ 16777216 → en ≤ l.length → d ≤ 32 →
    Fn Tryd.prog 60 [.pointer (some ⟨br, 0, none⟩), .int .i64 en, .int .i64 ((33 : Int) - d)] h [.blk br 95 [.slice ab l.length cb, .int .i64 p]] (NodeR (rdN d l p en) br (.slice ab l.length cb)) := by
  intro d
  induction d with
  | zero =>
    intro l p en br ab cb h hl hT hll hen hd
    refine Fn.intro Tryd.func60 rfl Tryd.ntmps60 rfl (fun e he => ?_)
    refine J.weak [(0, _), (1, _), (2, _)] ⟨rfl, rfl, rfl, trivial⟩ ?_
    have hh0 := Part.le.refl h
    refine Sr ?_
    refine JL.alloc zr_25 rfl (fun b1 => ?_)
    refine JL.nil ?_
    refine Sr ?_
    refine Ru 3 rfl ?_
    refine JL.op (RunV.own1 ag_3 rfl (by repeat (first | exact List.mem_cons_self .. | apply List.mem_cons_of_mem)) rfl) rfl ?_
    refine JL.alloc zr_3 rfl (fun b2 => ?_)
    refine JL.store1 ag_3 rfl rfl rfl (by repeat (first | exact Del.here | apply Del.there)) (by first | rfl | (simp; omega)) ?_
    refine JL.nil ?_
    refine Sr ?_
    refine JL.op (RunV.makeFunc (os1 := []) (os2 := [.tmp 7]) rfl rfl) rfl ?_
    refine Ru 1 rfl ?_
    refine Nk [8, 7, 6, 0, 1, 2] rfl ?_
    refine Sr ?_
    refine Ru 4 rfl ?_
    refine JL.op (RunV.own1 ag_3 rfl (by repeat (first | exact List.mem_cons_self .. | apply List.mem_cons_of_mem)) rfl) rfl ?_
    refine Ru 2 rfl ?_
    refine JL.fail ca_84 rfl rfl (nfail_fn) (by repeat (first | exact Del.here | apply Del.there)) rfl (fun hc3 h3 hle3 => ?_) (fun hc3 h3 hle3 => ?_)
    ·
     try simp only [decide_eq_true_eq, decide_eq_false_iff_not, Bool.not_eq_eq_eq_not, Bool.not_true, Bool.not_false, ne_eq, Decidable.not_not] at hc3
     have hE : rdH l p en false = .error (p, 30) := (by unfold rdH; rw [if_pos (by omega)]); exact ⟨[], _, .nil, by rw [rdN_err0 hE]; exact ⟨rfl, rfl⟩⟩
    try simp only [decide_eq_true_eq, decide_eq_false_iff_not, Bool.not_eq_eq_eq_not, Bool.not_true, Bool.not_false, ne_eq, Decidable.not_not] at hc3
    replace hl := hl.mono hle3
    replace hT := hT.mono hle3
    replace hh0 := hh0.mono hle3
    refine Nk [8, 7, 6, 0, 1, 2] rfl ?_
    refine J.seq ?_
    refine J.drawn mixed_ (by kernel_rfl) ?_
    refine Rq 3 rfl ?_
    refine JQ.op (RunV.own1 ag_22 rfl (by repeat (first | exact List.mem_cons_self .. | apply List.mem_cons_of_mem)) rfl) rfl ?_
    refine Rq 3 rfl ?_
    refine JQ.op (RunV.own1 ag_3 rfl (by repeat (first | exact List.mem_cons_self .. | apply List.mem_cons_of_mem)) rfl) rfl ?_
    refine JQ.ope (RunE.index sl_22 rfl rfl (by first | with_reducible rfl | exact (Int.toNat_of_nonneg (by omega)).symm) (by assumption) rfl (by omega)) rfl ?_
    rintro _ ⟨b4, o4, hi4, rfl, hE4⟩
    refine JQ.op (RunV.ld_u8 ag_5 rfl (by assumption)) rfl ?_
    refine Rq 1 rfl ?_
    refine Nq [9, 8, 7, 6, 0, 1, 2] rfl ?_
    refine Sr ?_
    have hpl : p < l.length := (by omega); have hbt := byteAt_eq l p hpl; have hlt := byteAt_lt l p
    refine Ru 3 rfl ?_
    refine JL.op (RunV.own1 ag_3 rfl (by repeat (first | exact List.mem_cons_self .. | apply List.mem_cons_of_mem)) rfl) rfl ?_
    refine JL.op (by first | exact RunV.add_i64 rfl rfl (by omega) (by omega) | exact RunV.add rfl rfl) rfl ?_
    refine Ru 2 rfl ?_
    refine JL.store1 ag_3 rfl rfl rfl (by repeat (first | exact Del.here | apply Del.there)) (by first | rfl | (simp; omega)) ?_
    refine Nk [9, 8, 7, 6, 0, 1, 2] rfl ?_
    refine Sr ?_
    refine Ru 1 rfl ?_
    refine JL.op (RunV.shr_u8 64 rfl rfl (by decide) (by decide) (by decide)) rfl ?_
    refine JL.op (by first | exact RunV.convb_i64 cv_5_3 rfl | exact RunV.conv_i64 cv_5_3 rfl (by omega) (by omega) | exact RunV.conv cv_5_3 rfl) rfl ?_
    rw [show ((l[p].toNat : Int) / 64) = ((byteAt l p / 64 : Nat) : Int) by rw [hbt]; simp]
    refine Ru 1 rfl ?_
    refine JL.op (by first | exact RunV.maskb_u8 5 32 rfl rfl (by decide) (by decide) (by decide) | exact RunV.mask_u8 5 32 rfl rfl (by decide) (by decide) (by decide) (by omega) (by omega) | exact RunV.and_ rfl rfl) rfl ?_
    refine JL.op (by first | exact RunV.convb_i64 cv_5_3 rfl | exact RunV.conv_i64 cv_5_3 rfl (by omega) (by omega) | exact RunV.conv cv_5_3 rfl) rfl ?_
    rw [show ((l[p].toNat : Int) % 32) = ((byteAt l p % 32 : Nat) : Int) by rw [hbt]; simp]
    refine Ru 1 rfl ?_
    refine JL.op (RunV.and32 rfl (by omega) (by omega)) rfl ?_
    refine Ru 1 rfl ?_
    rw [show decide ((0 : Int) < 32 * ((l[p].toNat : Int) / 32 % 2)) = decide (byteAt l p / 32 % 2 = 1) from decide_eq_decide.2 (by omega)]; obtain ⟨c, hcd⟩ : ∃ c, byteAt l p / 64 = c := ⟨_, rfl⟩; obtain ⟨t, htd⟩ : ∃ t, byteAt l p % 32 = t := ⟨_, rfl⟩; obtain ⟨k, hkd⟩ : ∃ k, decide (byteAt l p / 32 % 2 = 1) = k := ⟨_, rfl⟩; rw [hcd, htd, hkd]
    refine JL.op (RunV.build (cs := [_, _, _, .slice none 0 0, .slice none 0 0]) pl_25 rfl rfl) rfl ?_
    refine JL.alloc zr_25 rfl (fun b6 => ?_)
    refine JL.storeA ag_25 rfl rfl (by repeat (first | exact Del.here | apply Del.there)) (by first | rfl | exact NdR.all1 (by assumption)) (by first | rfl | assumption | exact NdR.len5 (by assumption)) (by first | rfl | exact NdR.len5 (by assumption)) ?_
    refine Nk [10, 8, 7, 6, 0, 1, 2] rfl ?_
    refine Sr ?_
    refine Ru 1 rfl ?_
    refine JL.op (RunV.ownA ag_25 rfl (by repeat (first | exact List.mem_cons_self .. | apply List.mem_cons_of_mem)) (by first | rfl | exact NdR.len5 (by assumption))) rfl ?_
    refine JL.callP ca_61 rfl (pmay_fn (x := .mk c t k [] []) (NdR.of SlR.nil_ SlR.nil_)) rfl ?_
    refine JL.fail ca_84 rfl rfl (nfail_fn) (by repeat (first | exact Del.here | apply Del.there)) rfl (fun hc8 h8 hle8 => ?_) (fun hc8 h8 hle8 => ?_)
    ·
     try simp only [decide_eq_true_eq, decide_eq_false_iff_not, Bool.not_eq_eq_eq_not, Bool.not_true, Bool.not_false, ne_eq, Decidable.not_not] at hc8
     have hE : rdH l p en false = .error (p, 31) := (by unfold rdH; rw [if_neg (by omega), hcd, htd, hkd, if_pos (by exact hc8)]); exact ⟨[], _, .nil, by rw [rdN_err0 hE]; exact ⟨rfl, rfl⟩⟩
    try simp only [decide_eq_true_eq, decide_eq_false_iff_not, Bool.not_eq_eq_eq_not, Bool.not_true, Bool.not_false, ne_eq, Decidable.not_not] at hc8
    replace hl := hl.mono hle8
    replace hT := hT.mono hle8
    replace hh0 := hh0.mono hle8
    have hmay : mayB c t k = true := hc8
    refine JL.nil ?_
    refine Sr ?_
    refine Ru 1 rfl ?_
    refine JL.op (RunV.own1 ag_3 rfl (by repeat (first | exact List.mem_cons_self .. | apply List.mem_cons_of_mem)) rfl) rfl ?_
    refine Ru 1 rfl ?_
    refine JL.call_ ca_85 rfl (size_rd (by assumption) (by omega)) (by repeat first | exact Parts.nil | exact Del.here | apply Del.there | apply Parts.cons) rfl (fun _ _ hh => (SizeR.out hh).elim) (fun ch9 h9 Lo9 hle9 hR9 => ?_) (fun v9 h9 Lo9 hle9 hR9 => ?_)
    ·
     have hR9 := SizeR.pan hR9
     obtain ⟨zc, hzc, rfl⟩ := hR9; have hE : rdH l p en false = .error (p, zc) := (by unfold rdH; rw [if_neg (by omega), hcd, htd, hkd, if_neg (by rw [hmay]; decide), hzc]); exact ⟨[], _, .nil, by rw [rdN_err0 hE]; exact ⟨rfl, rfl⟩⟩
    obtain ⟨zn, zq, hzs, rfl, rfl⟩ := SizeR.ret hR9
    replace hl := hl.mono hle9
    replace hT := hT.mono hle9
    replace hh0 := hh0.mono hle9
    have hzq := rdS_le hzs
    refine Ru 1 rfl ?_
    refine Nk [11, 10, 8, 6, 0, 1, 2] rfl ?_
    refine Sr ?_
    refine Ru 6 rfl ?_
    refine JL.op (RunV.own1 ag_3 rfl (by repeat (first | exact List.mem_cons_self .. | apply List.mem_cons_of_mem)) rfl) rfl ?_
    refine JL.op (by first | exact RunV.sub_i64 rfl rfl (by omega) (by omega) | exact RunV.sub rfl rfl) rfl ?_
    refine Ru 1 rfl ?_
    refine JL.fail ca_84 rfl rfl (nfail_fn) (by repeat (first | exact Del.here | apply Del.there)) rfl (fun hc10 h10 hle10 => ?_) (fun hc10 h10 hle10 => ?_)
    ·
     try simp only [decide_eq_true_eq, decide_eq_false_iff_not, Bool.not_eq_eq_eq_not, Bool.not_true, Bool.not_false, ne_eq, Decidable.not_not] at hc10
     have hE : rdH l p en false = .error (p, 30) := (by unfold rdH; rw [if_neg (by omega), hcd, htd, hkd, if_neg (by rw [hmay]; decide), hzs]; simp only; rw [if_pos (by omega)]); exact ⟨[], _, .nil, by rw [rdN_err0 hE]; exact ⟨rfl, rfl⟩⟩
    try simp only [decide_eq_true_eq, decide_eq_false_iff_not, Bool.not_eq_eq_eq_not, Bool.not_true, Bool.not_false, ne_eq, Decidable.not_not] at hc10
    replace hl := hl.mono hle10
    replace hT := hT.mono hle10
    replace hh0 := hh0.mono hle10
    refine Nk [11, 10, 8, 6, 0, 2] rfl ?_
    refine Sr ?_
    refine Ru 3 rfl ?_
    refine JL.fail ca_84 rfl rfl (nfail_fn) (by repeat (first | exact Del.here | apply Del.there)) rfl (fun hc11 h11 hle11 => ?_) (fun hc11 h11 hle11 => ?_)
    ·
     try simp only [decide_eq_true_eq, decide_eq_false_iff_not, Bool.not_eq_eq_eq_not, Bool.not_true, Bool.not_false, ne_eq, Decidable.not_not] at hc11
     have hE : rdH l p en false = .error (p, 33) := (by unfold rdH; rw [if_neg (by omega), hcd, htd, hkd, if_neg (by rw [hmay]; decide), hzs]; simp only; rw [if_neg (by omega)]; rfl); exact ⟨[], _, .nil, by rw [rdN_err0 hE]; exact ⟨rfl, rfl⟩⟩
    try simp only [decide_eq_true_eq, decide_eq_false_iff_not, Bool.not_eq_eq_eq_not, Bool.not_true, Bool.not_false, ne_eq, Decidable.not_not] at hc11
    replace hl := hl.mono hle11
    replace hT := hT.mono hle11
    replace hh0 := hh0.mono hle11
    exfalso; omega --done
  | succ d ih =>
    intro l p en br ab cb h hl hT hll hen hd
    refine Fn.intro Tryd.func60 rfl Tryd.ntmps60 rfl (fun e he => ?_)
    refine J.weak [(0, _), (1, _), (2, _)] ⟨rfl, rfl, rfl, trivial⟩ ?_
    have hh0 := Part.le.refl h
    refine Sr ?_
    refine JL.alloc zr_25 rfl (fun b1 => ?_)
    refine JL.nil ?_
    refine Sr ?_
    refine Ru 3 rfl ?_
    refine JL.op (RunV.own1 ag_3 rfl (by repeat (first | exact List.mem_cons_self .. | apply List.mem_cons_of_mem)) rfl) rfl ?_
    refine JL.alloc zr_3 rfl (fun b2 => ?_)
    refine JL.store1 ag_3 rfl rfl rfl (by repeat (first | exact Del.here | apply Del.there)) (by first | rfl | (simp; omega)) ?_
    refine JL.nil ?_
    refine Sr ?_
    refine JL.op (RunV.makeFunc (os1 := []) (os2 := [.tmp 7]) rfl rfl) rfl ?_
    refine Ru 1 rfl ?_
    refine Nk [8, 7, 6, 0, 1, 2] rfl ?_
    refine Sr ?_
    refine Ru 4 rfl ?_
    refine JL.op (RunV.own1 ag_3 rfl (by repeat (first | exact List.mem_cons_self .. | apply List.mem_cons_of_mem)) rfl) rfl ?_
    refine Ru 2 rfl ?_
    refine JL.fail ca_84 rfl rfl (nfail_fn) (by repeat (first | exact Del.here | apply Del.there)) rfl (fun hc3 h3 hle3 => ?_) (fun hc3 h3 hle3 => ?_)
    ·
     try simp only [decide_eq_true_eq, decide_eq_false_iff_not, Bool.not_eq_eq_eq_not, Bool.not_true, Bool.not_false, ne_eq, Decidable.not_not] at hc3
     have hE : rdH l p en true = .error (p, 30) := (by unfold rdH; rw [if_pos (by omega)]); exact ⟨[], _, .nil, by rw [rdN_err hE]; exact ⟨rfl, rfl⟩⟩
    try simp only [decide_eq_true_eq, decide_eq_false_iff_not, Bool.not_eq_eq_eq_not, Bool.not_true, Bool.not_false, ne_eq, Decidable.not_not] at hc3
    replace hl := hl.mono hle3
    replace hT := hT.mono hle3
    replace hh0 := hh0.mono hle3
    refine Nk [8, 7, 6, 0, 1, 2] rfl ?_
    refine J.seq ?_
    refine J.drawn mixed_ (by kernel_rfl) ?_
    refine Rq 3 rfl ?_
    refine JQ.op (RunV.own1 ag_22 rfl (by repeat (first | exact List.mem_cons_self .. | apply List.mem_cons_of_mem)) rfl) rfl ?_
    refine Rq 3 rfl ?_
    refine JQ.op (RunV.own1 ag_3 rfl (by repeat (first | exact List.mem_cons_self .. | apply List.mem_cons_of_mem)) rfl) rfl ?_
    refine JQ.ope (RunE.index sl_22 rfl rfl (by first | with_reducible rfl | exact (Int.toNat_of_nonneg (by omega)).symm) (by assumption) rfl (by omega)) rfl ?_
    rintro _ ⟨b4, o4, hi4, rfl, hE4⟩
    refine JQ.op (RunV.ld_u8 ag_5 rfl (by assumption)) rfl ?_
    refine Rq 1 rfl ?_
    refine Nq [9, 8, 7, 6, 0, 1, 2] rfl ?_
    refine Sr ?_
    have hpl : p < l.length := (by omega); have hbt := byteAt_eq l p hpl; have hlt := byteAt_lt l p
    refine Ru 3 rfl ?_
    refine JL.op (RunV.own1 ag_3 rfl (by repeat (first | exact List.mem_cons_self .. | apply List.mem_cons_of_mem)) rfl) rfl ?_
    refine JL.op (by first | exact RunV.add_i64 rfl rfl (by omega) (by omega) | exact RunV.add rfl rfl) rfl ?_
    refine Ru 2 rfl ?_
    refine JL.store1 ag_3 rfl rfl rfl (by repeat (first | exact Del.here | apply Del.there)) (by first | rfl | (simp; omega)) ?_
    refine Nk [9, 8, 7, 6, 0, 1, 2] rfl ?_
    refine Sr ?_
    refine Ru 1 rfl ?_
    refine JL.op (RunV.shr_u8 64 rfl rfl (by decide) (by decide) (by decide)) rfl ?_
    refine JL.op (by first | exact RunV.convb_i64 cv_5_3 rfl | exact RunV.conv_i64 cv_5_3 rfl (by omega) (by omega) | exact RunV.conv cv_5_3 rfl) rfl ?_
    rw [show ((l[p].toNat : Int) / 64) = ((byteAt l p / 64 : Nat) : Int) by rw [hbt]; simp]
    refine Ru 1 rfl ?_
    refine JL.op (by first | exact RunV.maskb_u8 5 32 rfl rfl (by decide) (by decide) (by decide) | exact RunV.mask_u8 5 32 rfl rfl (by decide) (by decide) (by decide) (by omega) (by omega) | exact RunV.and_ rfl rfl) rfl ?_
    refine JL.op (by first | exact RunV.convb_i64 cv_5_3 rfl | exact RunV.conv_i64 cv_5_3 rfl (by omega) (by omega) | exact RunV.conv cv_5_3 rfl) rfl ?_
    rw [show ((l[p].toNat : Int) % 32) = ((byteAt l p % 32 : Nat) : Int) by rw [hbt]; simp]
    refine Ru 1 rfl ?_
    refine JL.op (RunV.and32 rfl (by omega) (by omega)) rfl ?_
    refine Ru 1 rfl ?_
    rw [show decide ((0 : Int) < 32 * ((l[p].toNat : Int) / 32 % 2)) = decide (byteAt l p / 32 % 2 = 1) from decide_eq_decide.2 (by omega)]; obtain ⟨c, hcd⟩ : ∃ c, byteAt l p / 64 = c := ⟨_, rfl⟩; obtain ⟨t, htd⟩ : ∃ t, byteAt l p % 32 = t := ⟨_, rfl⟩; obtain ⟨k, hkd⟩ : ∃ k, decide (byteAt l p / 32 % 2 = 1) = k := ⟨_, rfl⟩; rw [hcd, htd, hkd]
    refine JL.op (RunV.build (cs := [_, _, _, .slice none 0 0, .slice none 0 0]) pl_25 rfl rfl) rfl ?_
    refine JL.alloc zr_25 rfl (fun b6 => ?_)
    refine JL.storeA ag_25 rfl rfl (by repeat (first | exact Del.here | apply Del.there)) (by first | rfl | exact NdR.all1 (by assumption)) (by first | rfl | assumption | exact NdR.len5 (by assumption)) (by first | rfl | exact NdR.len5 (by assumption)) ?_
    refine Nk [10, 8, 7, 6, 0, 1, 2] rfl ?_
    refine Sr ?_
    refine Ru 1 rfl ?_
    refine JL.op (RunV.ownA ag_25 rfl (by repeat (first | exact List.mem_cons_self .. | apply List.mem_cons_of_mem)) (by first | rfl | exact NdR.len5 (by assumption))) rfl ?_
    refine JL.callP ca_61 rfl (pmay_fn (x := .mk c t k [] []) (NdR.of SlR.nil_ SlR.nil_)) rfl ?_
    refine JL.fail ca_84 rfl rfl (nfail_fn) (by repeat (first | exact Del.here | apply Del.there)) rfl (fun hc8 h8 hle8 => ?_) (fun hc8 h8 hle8 => ?_)
    ·
     try simp only [decide_eq_true_eq, decide_eq_false_iff_not, Bool.not_eq_eq_eq_not, Bool.not_true, Bool.not_false, ne_eq, Decidable.not_not] at hc8
     have hE : rdH l p en true = .error (p, 31) := (by unfold rdH; rw [if_neg (by omega), hcd, htd, hkd, if_pos (by exact hc8)]); exact ⟨[], _, .nil, by rw [rdN_err hE]; exact ⟨rfl, rfl⟩⟩
    try simp only [decide_eq_true_eq, decide_eq_false_iff_not, Bool.not_eq_eq_eq_not, Bool.not_true, Bool.not_false, ne_eq, Decidable.not_not] at hc8
    replace hl := hl.mono hle8
    replace hT := hT.mono hle8
    replace hh0 := hh0.mono hle8
    have hmay : mayB c t k = true := hc8
    refine JL.nil ?_
    refine Sr ?_
    refine Ru 1 rfl ?_
    refine JL.op (RunV.own1 ag_3 rfl (by repeat (first | exact List.mem_cons_self .. | apply List.mem_cons_of_mem)) rfl) rfl ?_
    refine Ru 1 rfl ?_
    refine JL.call_ ca_85 rfl (size_rd (by assumption) (by omega)) (by repeat first | exact Parts.nil | exact Del.here | apply Del.there | apply Parts.cons) rfl (fun _ _ hh => (SizeR.out hh).elim) (fun ch9 h9 Lo9 hle9 hR9 => ?_) (fun v9 h9 Lo9 hle9 hR9 => ?_)
    ·
     have hR9 := SizeR.pan hR9
     obtain ⟨zc, hzc, rfl⟩ := hR9; have hE : rdH l p en true = .error (p, zc) := (by unfold rdH; rw [if_neg (by omega), hcd, htd, hkd, if_neg (by rw [hmay]; decide), hzc]); exact ⟨[], _, .nil, by rw [rdN_err hE]; exact ⟨rfl, rfl⟩⟩
    obtain ⟨zn, zq, hzs, rfl, rfl⟩ := SizeR.ret hR9
    replace hl := hl.mono hle9
    replace hT := hT.mono hle9
    replace hh0 := hh0.mono hle9
    have hzq := rdS_le hzs
    refine Ru 1 rfl ?_
    refine Nk [11, 10, 8, 6, 0, 1, 2] rfl ?_
    refine Sr ?_
    refine Ru 6 rfl ?_
    refine JL.op (RunV.own1 ag_3 rfl (by repeat (first | exact List.mem_cons_self .. | apply List.mem_cons_of_mem)) rfl) rfl ?_
    refine JL.op (by first | exact RunV.sub_i64 rfl rfl (by omega) (by omega) | exact RunV.sub rfl rfl) rfl ?_
    refine Ru 1 rfl ?_
    refine JL.fail ca_84 rfl rfl (nfail_fn) (by repeat (first | exact Del.here | apply Del.there)) rfl (fun hc10 h10 hle10 => ?_) (fun hc10 h10 hle10 => ?_)
    ·
     try simp only [decide_eq_true_eq, decide_eq_false_iff_not, Bool.not_eq_eq_eq_not, Bool.not_true, Bool.not_false, ne_eq, Decidable.not_not] at hc10
     have hE : rdH l p en true = .error (p, 30) := (by unfold rdH; rw [if_neg (by omega), hcd, htd, hkd, if_neg (by rw [hmay]; decide), hzs]; simp only; rw [if_pos (by omega)]); exact ⟨[], _, .nil, by rw [rdN_err hE]; exact ⟨rfl, rfl⟩⟩
    try simp only [decide_eq_true_eq, decide_eq_false_iff_not, Bool.not_eq_eq_eq_not, Bool.not_true, Bool.not_false, ne_eq, Decidable.not_not] at hc10
    replace hl := hl.mono hle10
    replace hT := hT.mono hle10
    replace hh0 := hh0.mono hle10
    refine Nk [11, 10, 8, 6, 0, 2] rfl ?_
    refine Sr ?_
    refine Ru 3 rfl ?_
    refine JL.fail ca_84 rfl rfl (nfail_fn) (by repeat (first | exact Del.here | apply Del.there)) rfl (fun hc11 h11 hle11 => ?_) (fun hc11 h11 hle11 => ?_)
    ·
     try simp only [decide_eq_true_eq, decide_eq_false_iff_not, Bool.not_eq_eq_eq_not, Bool.not_true, Bool.not_false, ne_eq, Decidable.not_not] at hc11
     exfalso; omega
    try simp only [decide_eq_true_eq, decide_eq_false_iff_not, Bool.not_eq_eq_eq_not, Bool.not_true, Bool.not_false, ne_eq, Decidable.not_not] at hc11
    replace hl := hl.mono hle11
    replace hT := hT.mono hle11
    replace hh0 := hh0.mono hle11
    refine JL.nil ?_
    refine J.seq ?_
    refine Sr ?_
    have hH : rdH l p en true = .ok (c, t, k, zn, zq) := (by unfold rdH; rw [if_neg (by omega), hcd, htd, hkd, if_neg (by rw [hmay]; decide), hzs]; simp only; rw [if_neg (by omega), if_neg (by decide)])
    refine Ru 1 rfl ?_
    refine JL.op (RunV.own1 ag_4 rfl (by repeat (first | exact List.mem_cons_self .. | apply List.mem_cons_of_mem)) rfl) rfl ?_
    refine Ru 1 rfl ?_
    refine Nk [80, 11, 10, 8, 6, 0, 2] rfl ?_
    refine Cs rfl (fun hc12 => ?_) fun hc12 => ?_
    ·
     have hkf : k = false := (by simpa using hc12); subst hkf
     refine J.seq ?_
     refine J.held ([.blk br 95 [.slice ab l.length cb, .int .i64 zq]]) 18 mixed_ rfl (fun h00 => ?_)
     refine JH.take 0 rfl (by kernel_rfl) (by kernel_rfl) (by kernel_rfl) (fun _ _ _ _ hh => hh) (Ok.bridge (by repeat first | exact Parts.nil | exact Del.here | apply Del.there | apply Parts.cons) (by first | exact Part.le.refl _ | assumption) h00) (RunV.move rfl) rfl ?_
     refine JH.take 1 rfl (by kernel_rfl) (by kernel_rfl) (by kernel_rfl) (fun _ _ _ _ hh => hh) (Ok.bridge (by repeat first | exact Parts.nil | exact Del.here | apply Del.there | apply Parts.cons) (by first | exact Part.le.refl _ | assumption) h00) (RunV.nilCheck rfl) rfl ?_
     refine JH.take 2 rfl (by kernel_rfl) (by kernel_rfl) (by kernel_rfl) (fun _ _ _ _ hh => hh) (Ok.bridge (by repeat first | exact Parts.nil | exact Del.here | apply Del.there | apply Parts.cons) (by first | exact Part.le.refl _ | assumption) h00) (by first | exact RunV.fieldAt0 fo_95_0 rfl | exact RunV.fieldAt fo_95_0 rfl) rfl ?_
     refine JH.take 3 rfl (by kernel_rfl) (by kernel_rfl) (by kernel_rfl) (fun _ _ _ _ hh => hh) (Ok.bridge (by repeat first | exact Parts.nil | exact Del.here | apply Del.there | apply Parts.cons) (by first | exact Part.le.refl _ | assumption) h00) (RunV.own1 ag_22 rfl (by repeat (first | exact List.mem_cons_self .. | apply List.mem_cons_of_mem)) rfl) rfl ?_
     refine JH.take 4 rfl (by kernel_rfl) (by kernel_rfl) (by kernel_rfl) (fun _ _ _ _ hh => hh) (Ok.bridge (by repeat first | exact Parts.nil | exact Del.here | apply Del.there | apply Parts.cons) (by first | exact Part.le.refl _ | assumption) h00) (RunV.move rfl) rfl ?_
     refine JH.take 5 rfl (by kernel_rfl) (by kernel_rfl) (by kernel_rfl) (fun _ _ _ _ hh => hh) (Ok.bridge (by repeat first | exact Parts.nil | exact Del.here | apply Del.there | apply Parts.cons) (by first | exact Part.le.refl _ | assumption) h00) (RunV.nilCheck rfl) rfl ?_
     refine JH.take 6 rfl (by kernel_rfl) (by kernel_rfl) (by kernel_rfl) (fun _ _ _ _ hh => hh) (Ok.bridge (by repeat first | exact Parts.nil | exact Del.here | apply Del.there | apply Parts.cons) (by first | exact Part.le.refl _ | assumption) h00) (by first | exact RunV.fieldAt0 fo_95_1 rfl | exact RunV.fieldAt fo_95_1 rfl) rfl ?_
     refine JH.take 7 rfl (by kernel_rfl) (by kernel_rfl) (by kernel_rfl) (fun _ _ _ _ hh => hh) (Ok.bridge (by repeat first | exact Parts.nil | exact Del.here | apply Del.there | apply Parts.cons) (by first | exact Part.le.refl _ | assumption) h00) (RunV.own1 ag_3 rfl (by repeat (first | exact List.mem_cons_self .. | apply List.mem_cons_of_mem)) rfl) rfl ?_
     refine JH.take 8 rfl (by kernel_rfl) (by kernel_rfl) (by kernel_rfl) (fun _ _ _ _ hh => hh) (Ok.bridge (by repeat first | exact Parts.nil | exact Del.here | apply Del.there | apply Parts.cons) (by first | exact Part.le.refl _ | assumption) h00) (RunV.move rfl) rfl ?_
     refine JH.take 9 rfl (by kernel_rfl) (by kernel_rfl) (by kernel_rfl) (fun _ _ _ _ hh => hh) (Ok.bridge (by repeat first | exact Parts.nil | exact Del.here | apply Del.there | apply Parts.cons) (by first | exact Part.le.refl _ | assumption) h00) (RunV.nilCheck rfl) rfl ?_
     refine JH.take 10 rfl (by kernel_rfl) (by kernel_rfl) (by kernel_rfl) (fun _ _ _ _ hh => hh) (Ok.bridge (by repeat first | exact Parts.nil | exact Del.here | apply Del.there | apply Parts.cons) (by first | exact Part.le.refl _ | assumption) h00) (by first | exact RunV.fieldAt0 fo_95_1 rfl | exact RunV.fieldAt fo_95_1 rfl) rfl ?_
     refine JH.take 11 rfl (by kernel_rfl) (by kernel_rfl) (by kernel_rfl) (fun _ _ _ _ hh => hh) (Ok.bridge (by repeat first | exact Parts.nil | exact Del.here | apply Del.there | apply Parts.cons) (by first | exact Part.le.refl _ | assumption) h00) (RunV.own1 ag_3 rfl (by repeat (first | exact List.mem_cons_self .. | apply List.mem_cons_of_mem)) rfl) rfl ?_
     refine JH.take 12 rfl (by kernel_rfl) (by kernel_rfl) (by kernel_rfl) (fun _ _ _ _ hh => hh) (Ok.bridge (by repeat first | exact Parts.nil | exact Del.here | apply Del.there | apply Parts.cons) (by first | exact Part.le.refl _ | assumption) h00) (RunV.move rfl) rfl ?_
     refine JH.take 13 rfl (by kernel_rfl) (by kernel_rfl) (by kernel_rfl) (fun _ _ _ _ hh => hh) (Ok.bridge (by repeat first | exact Parts.nil | exact Del.here | apply Del.there | apply Parts.cons) (by first | exact Part.le.refl _ | assumption) h00) (by first | exact RunV.add_i64 rfl rfl (by omega) (by omega) | exact RunV.add rfl rfl) rfl ?_
     refine JH.takeE 14 rfl (by kernel_rfl) (by kernel_rfl) (by kernel_rfl) (fun _ _ _ _ hh => hh) (Ok.bridge (by repeat first | exact Parts.nil | exact Del.here | apply Del.there | apply Parts.cons) (by first | exact Part.le.refl _ | assumption) h00) (RunE.cut_lh (m := zq) (m' := zq + zn) sl_22 rfl rfl rfl rfl (by omega) (by assumption) rfl (by omega) (by omega)) rfl ?_
     rintro _ ⟨as_, cs_, rfl, hSs⟩
     obtain ⟨bs, hbs⟩ : ∃ bs, cutL l zq (zq + zn) = bs := ⟨_, rfl⟩; have hbc := hbs; unfold cutL at hbs; rw [hbs] at hSs ⊢; have hbsl := hSs.big; have hbl2 : bs.length ≤ 16777216 := (by rw [← hbs]; simp; omega)
     refine JH.all1 15 (by kernel_rfl) rfl ?_
     unfold One
     refine JL.row_nil 5 1 ?_
     refine JL.append ap_22 rfl rfl (CellsR.nil (R := u8R)) rfl (by assumption) rfl (by repeat (first | exact Del.here | apply Del.there)) (by first | omega | (simp only [List.length_append, List.length_cons, List.length_nil]; omega)) rfl rfl (fun a14 c14 xs14 hC14 hN14 => ?_)
     obtain rfl := hC14.u8
     refine JL.pub (R := u8R) (l := bs) (by repeat (first | exact Del.here | apply Del.there)) CellsR.of_u8 rfl (by first | omega | (simp only [List.length_append, List.length_cons, List.length_nil]; omega)) (fun h15 hle15 hP15 => ?_)
     replace hl := hl.mono hle15
     replace hT := hT.mono hle15
     replace hh0 := hh0.mono hle15
     replace hSs := hSs.mono hle15
     refine JL.nil ⟨(Ok.bridge (by repeat first | exact Parts.nil | exact Del.here | apply Del.there | apply Parts.cons) (by first | exact Part.le.refl _ | assumption) h00), ?_⟩
     refine JH.take 16 rfl (by kernel_rfl) (by kernel_rfl) (by kernel_rfl) (fun _ _ _ _ hh => hh) (Ok.bridge (by repeat first | exact Parts.nil | exact Del.here | apply Del.there | apply Parts.cons) (by first | exact Part.le.refl _ | assumption) h00) (by first | exact RunV.fieldAt0 fo_25_3 rfl | exact RunV.fieldAt fo_25_3 rfl) rfl ?_
     refine JH.all1 17 (by kernel_rfl) rfl ?_
     unfold One
     refine JL.store1 ag_22 rfl rfl rfl (by repeat (first | exact Del.here | apply Del.there)) (by first | rfl | (simp; omega)) ?_
     refine JL.nil ⟨(Ok.bridge (by repeat first | exact Parts.nil | exact Del.here | apply Del.there | apply Parts.cons) (by first | exact Part.le.refl _ | assumption) h00), ?_⟩
     refine JH.done (by kernel_rfl) ?_
     refine Kp [11, 10, 8, 6, 0, 2] rfl ?_
     refine Sr ?_
     refine Ru 3 rfl ?_
     refine JL.op (RunV.own1 ag_3 rfl (by repeat (first | exact List.mem_cons_self .. | apply List.mem_cons_of_mem)) rfl) rfl ?_
     refine Ru 1 rfl ?_
     refine JL.op (by first | exact RunV.add_i64 rfl rfl (by omega) (by omega) | exact RunV.add rfl rfl) rfl ?_
     refine Ru 2 rfl ?_
     refine JL.store1 ag_3 rfl rfl rfl (by repeat (first | exact Del.here | apply Del.there)) (by first | rfl | (simp; omega)) ?_
     refine Nk [11, 10, 8, 6, 0, 2] rfl ?_
     refine Sr ?_
     refine Ru 2 rfl ?_
     refine JL.op (RunV.own1 ag_3 rfl (by repeat (first | exact List.mem_cons_self .. | apply List.mem_cons_of_mem)) rfl) rfl ?_
     refine Ru 2 rfl ?_
     refine Bs 110 rfl (fun hc16 => ?_) fun hc16 => ?_
     ·
      refine Ru 6 rfl ?_
      refine JL.fail ca_84 rfl rfl (nfail_fn) (by repeat (first | exact Del.here | apply Del.there)) rfl (fun hc17 => by cases hc17) (fun hc17 h17 hle17 => ?_)
      replace hl := hl.mono hle17
      replace hT := hT.mono hle17
      replace hh0 := hh0.mono hle17
      replace hSs := hSs.mono hle17
      replace hP15 := hP15.mono hle17
      refine Nk [11, 10, 8, 6, 0, 2] rfl ?_
      refine Sr ?_
      refine JL.op (RunV.ownA ag_25 rfl (by repeat (first | exact List.mem_cons_self .. | apply List.mem_cons_of_mem)) (by first | rfl | exact NdR.len5 (by assumption))) rfl ?_
      refine JL.storeA ag_25 rfl rfl (by repeat (first | exact Del.here | apply Del.there)) (by first | rfl | exact NdR.all1 (by assumption)) (by first | rfl | assumption | exact NdR.len5 (by assumption)) (by first | rfl | exact NdR.len5 (by assumption)) ?_
      refine JL.nil ?_
      have hN : rdN (d + 1) l p en = .ok (.mk c t false bs [], zq + zn) := (by rw [rdN_prim hH, hbc, if_pos (by rw [decide_eq_true (by omega)]; rfl)]); exact J.ret ⟨_, [.blk br _ _], _, (RetV.cell rfl rfl ag_25 (by repeat (first | exact List.mem_cons_self .. | apply List.mem_cons_of_mem)) (by first | rfl | exact NdR.len5 (by assumption))), .cons (by repeat (first | exact Del.here | apply Del.there)) .nil, by rw [hN]; exact ⟨⟨_, rfl, NdR.of (by assumption) SlR.nil_⟩, by simp⟩⟩
     ·
      refine Ru 1 rfl ?_
      refine JL.opg rfl rfl  (RunV.own1 ag_3 rfl (by repeat (first | exact List.mem_cons_self .. | apply List.mem_cons_of_mem)) rfl) rfl ?_
      refine Ru 1 rfl ?_
      refine JL.opg rfl rfl  (RunV.own1 ag_22 rfl (by repeat (first | exact List.mem_cons_self .. | apply List.mem_cons_of_mem)) rfl) rfl ?_
      refine JL.callPg rfl rfl  ca_62 rfl (value_fn (l := bs) (by assumption) (by assumption) (by omega)) rfl ?_
      refine Ru 1 rfl ?_
      refine JL.fail ca_84 rfl rfl (nfail_fn) (by repeat (first | exact Del.here | apply Del.there)) rfl (fun hc19 h19 hle19 => ?_) (fun hc19 h19 hle19 => ?_)
      ·
       try simp only [decide_eq_true_eq, decide_eq_false_iff_not, Bool.not_eq_eq_eq_not, Bool.not_true, Bool.not_false, ne_eq, Decidable.not_not] at hc19
       have hN : rdN (d + 1) l p en = .error (p, 34) := (by rw [rdN_prim hH, hbc, if_neg (by rw [show valB t bs = false from hc19, decide_eq_false (by omega)]; decide)]); exact ⟨[], _, .nil, by rw [hN]; exact ⟨rfl, rfl⟩⟩
      try simp only [decide_eq_true_eq, decide_eq_false_iff_not, Bool.not_eq_eq_eq_not, Bool.not_true, Bool.not_false, ne_eq, Decidable.not_not] at hc19
      replace hl := hl.mono hle19
      replace hT := hT.mono hle19
      replace hh0 := hh0.mono hle19
      replace hSs := hSs.mono hle19
      replace hP15 := hP15.mono hle19
      have hvv : valB t bs = true := hc19
      refine Nk [11, 10, 8, 6, 0, 2] rfl ?_
      refine Sr ?_
      refine JL.op (RunV.ownA ag_25 rfl (by repeat (first | exact List.mem_cons_self .. | apply List.mem_cons_of_mem)) (by first | rfl | exact NdR.len5 (by assumption))) rfl ?_
      refine JL.storeA ag_25 rfl rfl (by repeat (first | exact Del.here | apply Del.there)) (by first | rfl | exact NdR.all1 (by assumption)) (by first | rfl | assumption | exact NdR.len5 (by assumption)) (by first | rfl | exact NdR.len5 (by assumption)) ?_
      refine JL.nil ?_
      have hN : rdN (d + 1) l p en = .ok (.mk c t false bs [], zq + zn) := (by rw [rdN_prim hH, hbc, if_pos (by rw [hvv]; simp)]); exact J.ret ⟨_, [.blk br _ _], _, (RetV.cell rfl rfl ag_25 (by repeat (first | exact List.mem_cons_self .. | apply List.mem_cons_of_mem)) (by first | rfl | exact NdR.len5 (by assumption))), .cons (by repeat (first | exact Del.here | apply Del.there)) .nil, by rw [hN]; exact ⟨⟨_, rfl, NdR.of (by assumption) SlR.nil_⟩, by simp⟩⟩
    ·
     have hkt : k = true := (by simpa using hc12); subst hkt
     refine J.skip ?_
     refine Sr ?_
     refine Ru 3 rfl ?_
     refine JL.op (RunV.own1 ag_3 rfl (by repeat (first | exact List.mem_cons_self .. | apply List.mem_cons_of_mem)) rfl) rfl ?_
     refine Ru 2 rfl ?_
     refine Nk [13, 12, 11, 10, 8, 6, 0, 2] rfl ?_
     refine J.seq ?_
     refine Sr ?_
     refine Ru 3 rfl ?_
     refine JL.op (RunV.own1 ag_3 rfl (by repeat (first | exact List.mem_cons_self .. | apply List.mem_cons_of_mem)) rfl) rfl ?_
     refine Ru 1 rfl ?_
     refine JL.op (by first | exact RunV.add_i64 rfl rfl (by omega) (by omega) | exact RunV.add rfl rfl) rfl ?_
     refine Ru 1 rfl ?_
     refine JL.row_nil 25 5 ?_; refine JL.ents [.blk br _ _, .blk b6 _ _, .row _ _ _ _ _ _, .blk b2 _ _, .blk b1 _ _] (by repeat first | exact Parts.nil | exact Del.here | apply Del.there | apply Parts.cons) ?_
     refine Nk [14, 13, 12, 10, 8, 6, 0, 2] rfl ?_
     refine J.block ?_
     refine J.loop (fun t_ S_ h_ L_ => ∃ (g : Part) (f pos last : Nat) (acc : List Nd) (r : Bool) (ak : Option Addr) (ck : Nat) (xs : List Value), t_ = zq + zn - pos ∧ S_ = [(0, .pointer (some ⟨br, 0, none⟩)), (2, .int .i64 ((33 : Int) - ((d + 1 : Nat) : Int))), (6, .pointer (some ⟨b1, 0, none⟩)), (8, .func (.func 84) #[] #[.pointer (some ⟨b2, 0, none⟩)]), (10, .pointer (some ⟨b6, 0, none⟩)), (12, .int .i64 last), (13, .bool r), (14, .int .i64 ((zq + zn : Nat) : Int))] ∧ g = h_ ∧ L_ = [.blk br 95 [.slice ab l.length cb, .int .i64 pos], .blk b6 25 [.int .i64 c, .int .i64 t, .bool true, .slice none 0 0, .slice ak acc.length ck], .row ak ck 25 5 acc.length xs, .blk b2 3 [.int .i64 p], .blk b1 25 [.int .i64 0, .int .i64 0, .bool false, .slice none 0 0, .slice none 0 0]] ∧ (h.le g ∧ SlR u8R 1 g ab cb l ∧ Tabs g ∧ CellsR NdR 5 g xs acc ∧ last ≤ pos ∧ pos ≤ zq + zn ∧ zq + zn ≤ pos + f ∧ acc.length ≤ pos ∧ rdK (rdN d l) l (zq + zn) zn zq [] true zq = rdK (rdN d l) l (zq + zn) f pos acc r last)) ⟨_, _, ?_, ⟨_, zn, zq, zq, [], true, none, 0, [], rfl, rfl, rfl, rfl, ⟨by assumption, by assumption, by assumption, CellsR.nil, by omega, by omega, by omega, by simp, rfl⟩⟩⟩ ?_
     ·
      repeat (first | exact trivial | refine ⟨rfl, ?_⟩)
     rintro _ _ _ _ ⟨g, f, pos, last, acc, r, ak, ck, xs, rfl, rfl, rfl, rfl, hhg, hl, hT, hC, hlp, hps, hpf, hap, hK⟩
     refine J.seq ?_
     refine Sr ?_
     refine Ru 3 rfl ?_
     refine JL.op (RunV.own1 ag_3 rfl (by repeat (first | exact List.mem_cons_self .. | apply List.mem_cons_of_mem)) rfl) rfl ?_
     refine Ru 2 rfl ?_
     refine JL.nil ?_
     refine Cs rfl (fun hc20 => ?_) fun hc20 => ?_
     ·
      obtain ⟨f', rfl⟩ : ∃ f', f = f' + 1 := ⟨f - 1, by omega⟩
      refine J.skip ?_
      refine J.block ?_
      refine Sr ?_
      refine Ru 3 rfl ?_
      refine JL.op (RunV.own1 ag_3 rfl (by repeat (first | exact List.mem_cons_self .. | apply List.mem_cons_of_mem)) rfl) rfl ?_
      refine Ru 1 rfl ?_
      refine JL.nil ?_
      refine J.seq ?_
      refine J.held ([]) 11 mixed_ rfl (fun h00 => ?_)
      refine JH.take 0 rfl (by kernel_rfl) (by kernel_rfl) (by kernel_rfl) (fun _ _ _ _ hh => hh) (Ok.bridge (by repeat first | exact Parts.nil | exact Del.here | apply Del.there | apply Parts.cons) (by first | exact Part.le.refl _ | assumption) h00) (by first | exact RunV.fieldAt0 fo_25_4 rfl | exact RunV.fieldAt fo_25_4 rfl) rfl ?_
      refine JH.take 2 rfl (by kernel_rfl) (by kernel_rfl) (by kernel_rfl) (fun _ _ _ _ hh => hh) (Ok.bridge (by repeat first | exact Parts.nil | exact Del.here | apply Del.there | apply Parts.cons) (by first | exact Part.le.refl _ | assumption) h00) (RunV.move rfl) rfl ?_
      refine JH.take 3 rfl (by kernel_rfl) (by kernel_rfl) (by kernel_rfl) (fun _ _ _ _ hh => hh) (Ok.bridge (by repeat first | exact Parts.nil | exact Del.here | apply Del.there | apply Parts.cons) (by first | exact Part.le.refl _ | assumption) h00) (RunV.move rfl) rfl ?_
      refine JH.take 4 rfl (by kernel_rfl) (by kernel_rfl) (by kernel_rfl) (fun _ _ _ _ hh => hh) (Ok.bridge (by repeat first | exact Parts.nil | exact Del.here | apply Del.there | apply Parts.cons) (by first | exact Part.le.refl _ | assumption) h00) (RunV.move rfl) rfl ?_
      refine JH.take 5 rfl (by kernel_rfl) (by kernel_rfl) (by kernel_rfl) (fun _ _ _ _ hh => hh) (Ok.bridge (by repeat first | exact Parts.nil | exact Del.here | apply Del.there | apply Parts.cons) (by first | exact Part.le.refl _ | assumption) h00) (by first | exact RunV.add_i64 rfl rfl (by omega) (by omega) | exact RunV.add rfl rfl) rfl ?_
      rw [show ((33 : Int) - ((d + 1 : Nat) : Int) + 1) = 33 - (d : Int) by omega]
      refine JH.all2 1 6 (by kernel_rfl) rfl rfl ?_ ?_
      ·
       unfold One
       refine JL.op (RunV.own1 ag_23 rfl (by repeat (first | exact List.mem_cons_self .. | apply List.mem_cons_of_mem)) rfl) rfl ?_
       refine JL.nil ⟨(Ok.bridge (by repeat first | exact Parts.nil | exact Del.here | apply Del.there | apply Parts.cons) (by first | exact Part.le.refl _ | assumption) h00), ?_⟩
       refine JH.all1 6 (by kernel_rfl) rfl ?_
       unfold One
       refine JL.call_ ca_60 rfl (ih l pos (zq + zn) br ab cb _ (by assumption) (by assumption) hll (by omega) (by omega)) (by repeat first | exact Parts.nil | exact Del.here | apply Del.there | apply Parts.cons) rfl (fun _ _ hh => (NodeR.out hh).elim) (fun ch21 h21 Lo21 hle21 hR21 => ?_) (fun v21 h21 Lo21 hle21 hR21 => ?_)
       ·
        have hR21 := NodeR.pan hR21
        obtain ⟨xa, xc, hxe, rfl⟩ := hR21; have hN : rdN (d + 1) l p en = .error (xa, xc) := (by rw [rdN_cons hH, hK, rdK_err (by omega) hxe]); exact ⟨[], _, .nil, by rw [hN]; exact ⟨rfl, rfl⟩⟩
       obtain ⟨x, p', xcs, hxs, rfl, hNdx, rfl⟩ := NodeR.ret hR21
       replace hhg := hhg.mono hle21
       replace hC := hC.mono hle21
       replace hl := hl.mono hle21
       replace hT := hT.mono hle21
       have hxl := rdN_le d l pos (zq + zn) x p' hxs; have hal : ((acc ++ [x]).length : Int) = (acc.length : Int) + 1 := by simp
       refine JL.nil ⟨(Ok.bridge (by repeat first | exact Parts.nil | exact Del.here | apply Del.there | apply Parts.cons) (by first | exact Part.le.refl _ | assumption) h00), ?_⟩
       refine JH.all1 7 (by kernel_rfl) rfl ?_
       unfold One
       refine JL.litA ap_23 rfl (by first | rfl | exact NdR.len5 (by assumption)) rfl rfl (fun b22 => ?_)
       refine JL.nil ⟨(Ok.bridge (by repeat first | exact Parts.nil | exact Del.here | apply Del.there | apply Parts.cons) (by first | exact Part.le.refl _ | assumption) h00), ?_⟩
       refine JH.all1 8 (by kernel_rfl) rfl ?_
       unfold One
       refine JL.append1 ap_23 rfl rfl (by assumption) rfl (by repeat (first | exact Del.here | apply Del.there)) (by repeat (first | exact Del.here | apply Del.there)) (by first | rfl | exact NdR.len5 (by assumption)) (hNdx) (by first | omega | (simp only [List.length_append, List.length_cons, List.length_nil]; omega)) rfl rfl (fun a23 c23 xs23 hC23 hN23 => ?_)
       refine JL.nil ⟨(Ok.bridge (by repeat first | exact Parts.nil | exact Del.here | apply Del.there | apply Parts.cons) (by first | exact Part.le.refl _ | assumption) h00), ?_⟩
       refine JH.take 9 rfl (by kernel_rfl) (by kernel_rfl) (by kernel_rfl) (fun _ _ _ _ hh => hh) (Ok.bridge (by repeat first | exact Parts.nil | exact Del.here | apply Del.there | apply Parts.cons) (by first | exact Part.le.refl _ | assumption) h00) (by first | exact RunV.fieldAt0 fo_25_4 rfl | exact RunV.fieldAt fo_25_4 rfl) rfl ?_
       refine JH.all1 10 (by kernel_rfl) rfl ?_
       unfold One
       refine JL.store1 ag_23 rfl rfl rfl (by repeat (first | exact Del.here | apply Del.there)) (by first | rfl | (simp; omega)) ?_
       refine JL.nil ⟨(Ok.bridge (by repeat first | exact Parts.nil | exact Del.here | apply Del.there | apply Parts.cons) (by first | exact Part.le.refl _ | assumption) h00), ?_⟩
       refine JH.done (by kernel_rfl) ?_
       refine J.seq ?_
       refine J.meet [(13, .bool (r && (decide (acc.length = 0) || decide (Go.Lib.compareBytes (cutL l last pos) (cutL l pos p') ≤ 0))))] [(148, _), (147, _), (146, _), (145, _), (140, _), (144, _), (143, _), (142, _), (141, _), (139, _), (15, _), (138, _), (137, _), (136, _), (135, _), (134, _), (133, _), (132, _), (131, _), (130, _), (129, _), (0, _), (2, _), (6, _), (8, _), (10, _), (12, _), (14, _)] ⟨rfl, rfl, rfl, rfl, rfl, rfl, rfl, rfl, rfl, rfl, rfl, rfl, rfl, rfl, rfl, rfl, rfl, rfl, rfl, rfl, rfl, rfl, rfl, rfl, rfl, rfl, rfl, rfl, trivial⟩ ?_ ?_
       ·
        refine J.drawn mixed_ (by kernel_rfl) ?_
        refine Rq 2 rfl ?_
        refine Bq 150 rfl (fun hc24 => ?_) fun hc24 => ?_
        ·
         refine Rq 1 rfl ?_
         refine JQ.opg rfl rfl  (RunV.own1 ag_23 rfl (by repeat (first | exact List.mem_cons_self .. | apply List.mem_cons_of_mem)) rfl) rfl ?_
         refine Rq 3 rfl ?_
         refine Bq 155 rfl (fun hc25 => ?_) fun hc25 => ?_
         ·
          refine Rq 22 rfl ?_
          refine JQ.nil ?_
          refine ⟨rfl, rfl, ?_⟩
          repeat (first | exact trivial | refine ⟨rfl, ?_⟩ | refine ⟨(by exact some_bool (by unfold cutL; cases r <;> first | rfl | (rw [decide_eq_true (show acc.length = 0 by omega)]; rfl) | (rw [decide_eq_false (show ¬ acc.length = 0 by omega)]; rfl) | (exfalso; simp_all; done))), ?_⟩)
         ·
          refine Rq 3 rfl ?_
          refine JQ.opg rfl rfl  (RunV.own1 ag_22 rfl (by repeat (first | exact List.mem_cons_self .. | apply List.mem_cons_of_mem)) rfl) rfl ?_
          refine Rq 2 rfl ?_
          refine JQ.opeg rfl rfl  (RunE.cut_lh (m := last) (m' := pos) sl_22 rfl rfl rfl rfl rfl (by assumption) rfl (by omega) (by omega)) rfl ?_
          rintro _ ⟨as1, cs1, rfl, hSs1⟩
          refine Rq 3 rfl ?_
          refine JQ.opg rfl rfl  (RunV.own1 ag_22 rfl (by repeat (first | exact List.mem_cons_self .. | apply List.mem_cons_of_mem)) rfl) rfl ?_
          refine Rq 4 rfl ?_
          refine JQ.opg rfl rfl  (RunV.own1 ag_3 rfl (by repeat (first | exact List.mem_cons_self .. | apply List.mem_cons_of_mem)) rfl) rfl ?_
          refine JQ.opeg rfl rfl  (RunE.cut_lh (m := pos) (m' := p') sl_22 rfl rfl rfl rfl rfl (by assumption) rfl (by omega) (by omega)) rfl ?_
          rintro _ ⟨as2, cs2, rfl, hSs2⟩
          refine JQ.callPg rfl rfl  ca_48 rfl (bcompare_fn (by assumption) (by assumption)) rfl ?_
          refine Rq 4 rfl ?_
          refine JQ.nil ?_
          refine ⟨rfl, rfl, ?_⟩
          repeat (first | exact trivial | refine ⟨rfl, ?_⟩ | refine ⟨(by exact some_bool (by unfold cutL; cases r <;> first | rfl | (rw [decide_eq_true (show acc.length = 0 by omega)]; rfl) | (rw [decide_eq_false (show ¬ acc.length = 0 by omega)]; rfl) | (exfalso; simp_all; done))), ?_⟩)
        ·
         refine Rq 27 rfl ?_
         refine JQ.nil ?_
         refine ⟨rfl, rfl, ?_⟩
         repeat (first | exact trivial | refine ⟨rfl, ?_⟩ | refine ⟨(by exact some_bool (by unfold cutL; cases r <;> first | rfl | (rw [decide_eq_true (show acc.length = 0 by omega)]; rfl) | (rw [decide_eq_false (show ¬ acc.length = 0 by omega)]; rfl) | (exfalso; simp_all; done))), ?_⟩)
       ·
        refine Rg ?_
        refine Ru 2 rfl ?_
        refine JL.ents [.blk br _ _, .blk b6 _ _, .row _ _ _ _ _ _, .blk b2 _ _, .blk b1 _ _] (by repeat first | exact Parts.nil | exact Del.here | apply Del.there | apply Parts.cons) ?_
        refine JL.nil ?_
        refine ⟨_, ?_, _, ?_, ⟨_, f', p', pos, acc ++ [x], _, _, _, _, rfl, rfl, rfl, rfl, ⟨by assumption, by assumption, by assumption, by assumption, by omega, by omega, by omega, by simp; omega, by rw [hK, rdK_ok (by omega) hxs]⟩⟩⟩
        ·
         omega
        ·
         repeat (first | exact trivial | refine ⟨rfl, ?_⟩)
      ·
       unfold One
       refine JL.call_ ca_60 rfl (ih l pos (zq + zn) br ab cb _ (by assumption) (by assumption) hll (by omega) (by omega)) (by repeat first | exact Parts.nil | exact Del.here | apply Del.there | apply Parts.cons) rfl (fun _ _ hh => (NodeR.out hh).elim) (fun ch29 h29 Lo29 hle29 hR29 => ?_) (fun v29 h29 Lo29 hle29 hR29 => ?_)
       ·
        have hR29 := NodeR.pan hR29
        obtain ⟨xa, xc, hxe, rfl⟩ := hR29; have hN : rdN (d + 1) l p en = .error (xa, xc) := (by rw [rdN_cons hH, hK, rdK_err (by omega) hxe]); exact ⟨[], _, .nil, by rw [hN]; exact ⟨rfl, rfl⟩⟩
       obtain ⟨x, p', xcs, hxs, rfl, hNdx, rfl⟩ := NodeR.ret hR29
       replace hhg := hhg.mono hle29
       replace hC := hC.mono hle29
       replace hl := hl.mono hle29
       replace hT := hT.mono hle29
       have hxl := rdN_le d l pos (zq + zn) x p' hxs; have hal : ((acc ++ [x]).length : Int) = (acc.length : Int) + 1 := by simp
       refine JL.nil ⟨(Ok.bridge (by repeat first | exact Parts.nil | exact Del.here | apply Del.there | apply Parts.cons) (by first | exact Part.le.refl _ | assumption) h00), ?_⟩
       refine JH.all2 1 7 (by kernel_rfl) rfl rfl ?_ ?_
       ·
        unfold One
        refine JL.op (RunV.own1 ag_23 rfl (by repeat (first | exact List.mem_cons_self .. | apply List.mem_cons_of_mem)) rfl) rfl ?_
        refine JL.nil ⟨(Ok.bridge (by repeat first | exact Parts.nil | exact Del.here | apply Del.there | apply Parts.cons) (by first | exact Part.le.refl _ | assumption) h00), ?_⟩
        refine JH.all1 7 (by kernel_rfl) rfl ?_
        unfold One
        refine JL.litA ap_23 rfl (by first | rfl | exact NdR.len5 (by assumption)) rfl rfl (fun b30 => ?_)
        refine JL.nil ⟨(Ok.bridge (by repeat first | exact Parts.nil | exact Del.here | apply Del.there | apply Parts.cons) (by first | exact Part.le.refl _ | assumption) h00), ?_⟩
        refine JH.all1 8 (by kernel_rfl) rfl ?_
        unfold One
        refine JL.append1 ap_23 rfl rfl (by assumption) rfl (by repeat (first | exact Del.here | apply Del.there)) (by repeat (first | exact Del.here | apply Del.there)) (by first | rfl | exact NdR.len5 (by assumption)) (hNdx) (by first | omega | (simp only [List.length_append, List.length_cons, List.length_nil]; omega)) rfl rfl (fun a31 c31 xs31 hC31 hN31 => ?_)
        refine JL.nil ⟨(Ok.bridge (by repeat first | exact Parts.nil | exact Del.here | apply Del.there | apply Parts.cons) (by first | exact Part.le.refl _ | assumption) h00), ?_⟩
        refine JH.take 9 rfl (by kernel_rfl) (by kernel_rfl) (by kernel_rfl) (fun _ _ _ _ hh => hh) (Ok.bridge (by repeat first | exact Parts.nil | exact Del.here | apply Del.there | apply Parts.cons) (by first | exact Part.le.refl _ | assumption) h00) (by first | exact RunV.fieldAt0 fo_25_4 rfl | exact RunV.fieldAt fo_25_4 rfl) rfl ?_
        refine JH.all1 10 (by kernel_rfl) rfl ?_
        unfold One
        refine JL.store1 ag_23 rfl rfl rfl (by repeat (first | exact Del.here | apply Del.there)) (by first | rfl | (simp; omega)) ?_
        refine JL.nil ⟨(Ok.bridge (by repeat first | exact Parts.nil | exact Del.here | apply Del.there | apply Parts.cons) (by first | exact Part.le.refl _ | assumption) h00), ?_⟩
        refine JH.done (by kernel_rfl) ?_
        refine J.seq ?_
        refine J.meet [(13, .bool (r && (decide (acc.length = 0) || decide (Go.Lib.compareBytes (cutL l last pos) (cutL l pos p') ≤ 0))))] [(148, _), (147, _), (146, _), (140, _), (145, _), (144, _), (143, _), (142, _), (141, _), (139, _), (15, _), (138, _), (137, _), (136, _), (135, _), (134, _), (133, _), (132, _), (131, _), (130, _), (129, _), (0, _), (2, _), (6, _), (8, _), (10, _), (12, _), (14, _)] ⟨rfl, rfl, rfl, rfl, rfl, rfl, rfl, rfl, rfl, rfl, rfl, rfl, rfl, rfl, rfl, rfl, rfl, rfl, rfl, rfl, rfl, rfl, rfl, rfl, rfl, rfl, rfl, rfl, trivial⟩ ?_ ?_
        ·
         refine J.drawn mixed_ (by kernel_rfl) ?_
         refine Rq 2 rfl ?_
         refine Bq 150 rfl (fun hc32 => ?_) fun hc32 => ?_
         ·
          refine Rq 1 rfl ?_
          refine JQ.opg rfl rfl  (RunV.own1 ag_23 rfl (by repeat (first | exact List.mem_cons_self .. | apply List.mem_cons_of_mem)) rfl) rfl ?_
          refine Rq 3 rfl ?_
          refine Bq 155 rfl (fun hc33 => ?_) fun hc33 => ?_
          ·
           refine Rq 22 rfl ?_
           refine JQ.nil ?_
           refine ⟨rfl, rfl, ?_⟩
           repeat (first | exact trivial | refine ⟨rfl, ?_⟩ | refine ⟨(by exact some_bool (by unfold cutL; cases r <;> first | rfl | (rw [decide_eq_true (show acc.length = 0 by omega)]; rfl) | (rw [decide_eq_false (show ¬ acc.length = 0 by omega)]; rfl) | (exfalso; simp_all; done))), ?_⟩)
          ·
           refine Rq 3 rfl ?_
           refine JQ.opg rfl rfl  (RunV.own1 ag_22 rfl (by repeat (first | exact List.mem_cons_self .. | apply List.mem_cons_of_mem)) rfl) rfl ?_
           refine Rq 2 rfl ?_
           refine JQ.opeg rfl rfl  (RunE.cut_lh (m := last) (m' := pos) sl_22 rfl rfl rfl rfl rfl (by assumption) rfl (by omega) (by omega)) rfl ?_
           rintro _ ⟨as1, cs1, rfl, hSs1⟩
           refine Rq 3 rfl ?_
           refine JQ.opg rfl rfl  (RunV.own1 ag_22 rfl (by repeat (first | exact List.mem_cons_self .. | apply List.mem_cons_of_mem)) rfl) rfl ?_
           refine Rq 4 rfl ?_
           refine JQ.opg rfl rfl  (RunV.own1 ag_3 rfl (by repeat (first | exact List.mem_cons_self .. | apply List.mem_cons_of_mem)) rfl) rfl ?_
           refine JQ.opeg rfl rfl  (RunE.cut_lh (m := pos) (m' := p') sl_22 rfl rfl rfl rfl rfl (by assumption) rfl (by omega) (by omega)) rfl ?_
           rintro _ ⟨as2, cs2, rfl, hSs2⟩
           refine JQ.callPg rfl rfl  ca_48 rfl (bcompare_fn (by assumption) (by assumption)) rfl ?_
           refine Rq 4 rfl ?_
           refine JQ.nil ?_
           refine ⟨rfl, rfl, ?_⟩
           repeat (first | exact trivial | refine ⟨rfl, ?_⟩ | refine ⟨(by exact some_bool (by unfold cutL; cases r <;> first | rfl | (rw [decide_eq_true (show acc.length = 0 by omega)]; rfl) | (rw [decide_eq_false (show ¬ acc.length = 0 by omega)]; rfl) | (exfalso; simp_all; done))), ?_⟩)
         ·
          refine Rq 27 rfl ?_
          refine JQ.nil ?_
          refine ⟨rfl, rfl, ?_⟩
          repeat (first | exact trivial | refine ⟨rfl, ?_⟩ | refine ⟨(by exact some_bool (by unfold cutL; cases r <;> first | rfl | (rw [decide_eq_true (show acc.length = 0 by omega)]; rfl) | (rw [decide_eq_false (show ¬ acc.length = 0 by omega)]; rfl) | (exfalso; simp_all; done))), ?_⟩)
        ·
         refine Rg ?_
         refine Ru 2 rfl ?_
         refine JL.ents [.blk br _ _, .blk b6 _ _, .row _ _ _ _ _ _, .blk b2 _ _, .blk b1 _ _] (by repeat first | exact Parts.nil | exact Del.here | apply Del.there | apply Parts.cons) ?_
         refine JL.nil ?_
         refine ⟨_, ?_, _, ?_, ⟨_, f', p', pos, acc ++ [x], _, _, _, _, rfl, rfl, rfl, rfl, ⟨by assumption, by assumption, by assumption, by assumption, by omega, by omega, by omega, by simp; omega, by rw [hK, rdK_ok (by omega) hxs]⟩⟩⟩
         ·
          omega
         ·
          repeat (first | exact trivial | refine ⟨rfl, ?_⟩)
       ·
        unfold One
        refine JL.litA ap_23 rfl (by first | rfl | exact NdR.len5 (by assumption)) rfl rfl (fun b37 => ?_)
        refine JL.nil ⟨(Ok.bridge (by repeat first | exact Parts.nil | exact Del.here | apply Del.there | apply Parts.cons) (by first | exact Part.le.refl _ | assumption) h00), ?_⟩
        refine JH.all1 1 (by kernel_rfl) rfl ?_
        unfold One
        refine JL.op (RunV.own1 ag_23 rfl (by repeat (first | exact List.mem_cons_self .. | apply List.mem_cons_of_mem)) rfl) rfl ?_
        refine JL.nil ⟨(Ok.bridge (by repeat first | exact Parts.nil | exact Del.here | apply Del.there | apply Parts.cons) (by first | exact Part.le.refl _ | assumption) h00), ?_⟩
        refine JH.all1 8 (by kernel_rfl) rfl ?_
        unfold One
        refine JL.append1 ap_23 rfl rfl (by assumption) rfl (by repeat (first | exact Del.here | apply Del.there)) (by repeat (first | exact Del.here | apply Del.there)) (by first | rfl | exact NdR.len5 (by assumption)) (hNdx) (by first | omega | (simp only [List.length_append, List.length_cons, List.length_nil]; omega)) rfl rfl (fun a38 c38 xs38 hC38 hN38 => ?_)
        refine JL.nil ⟨(Ok.bridge (by repeat first | exact Parts.nil | exact Del.here | apply Del.there | apply Parts.cons) (by first | exact Part.le.refl _ | assumption) h00), ?_⟩
        refine JH.take 9 rfl (by kernel_rfl) (by kernel_rfl) (by kernel_rfl) (fun _ _ _ _ hh => hh) (Ok.bridge (by repeat first | exact Parts.nil | exact Del.here | apply Del.there | apply Parts.cons) (by first | exact Part.le.refl _ | assumption) h00) (by first | exact RunV.fieldAt0 fo_25_4 rfl | exact RunV.fieldAt fo_25_4 rfl) rfl ?_
        refine JH.all1 10 (by kernel_rfl) rfl ?_
        unfold One
        refine JL.store1 ag_23 rfl rfl rfl (by repeat (first | exact Del.here | apply Del.there)) (by first | rfl | (simp; omega)) ?_
        refine JL.nil ⟨(Ok.bridge (by repeat first | exact Parts.nil | exact Del.here | apply Del.there | apply Parts.cons) (by first | exact Part.le.refl _ | assumption) h00), ?_⟩
        refine JH.done (by kernel_rfl) ?_
        refine J.seq ?_
        refine J.meet [(13, .bool (r && (decide (acc.length = 0) || decide (Go.Lib.compareBytes (cutL l last pos) (cutL l pos p') ≤ 0))))] [(148, _), (147, _), (140, _), (146, _), (145, _), (144, _), (143, _), (142, _), (141, _), (139, _), (15, _), (138, _), (137, _), (136, _), (135, _), (134, _), (133, _), (132, _), (131, _), (130, _), (129, _), (0, _), (2, _), (6, _), (8, _), (10, _), (12, _), (14, _)] ⟨rfl, rfl, rfl, rfl, rfl, rfl, rfl, rfl, rfl, rfl, rfl, rfl, rfl, rfl, rfl, rfl, rfl, rfl, rfl, rfl, rfl, rfl, rfl, rfl, rfl, rfl, rfl, rfl, trivial⟩ ?_ ?_
        ·
         refine J.drawn mixed_ (by kernel_rfl) ?_
         refine Rq 2 rfl ?_
         refine Bq 150 rfl (fun hc39 => ?_) fun hc39 => ?_
         ·
          refine Rq 1 rfl ?_
          refine JQ.opg rfl rfl  (RunV.own1 ag_23 rfl (by repeat (first | exact List.mem_cons_self .. | apply List.mem_cons_of_mem)) rfl) rfl ?_
          refine Rq 3 rfl ?_
          refine Bq 155 rfl (fun hc40 => ?_) fun hc40 => ?_
          ·
           refine Rq 22 rfl ?_
           refine JQ.nil ?_
           refine ⟨rfl, rfl, ?_⟩
           repeat (first | exact trivial | refine ⟨rfl, ?_⟩ | refine ⟨(by exact some_bool (by unfold cutL; cases r <;> first | rfl | (rw [decide_eq_true (show acc.length = 0 by omega)]; rfl) | (rw [decide_eq_false (show ¬ acc.length = 0 by omega)]; rfl) | (exfalso; simp_all; done))), ?_⟩)
          ·
           refine Rq 3 rfl ?_
           refine JQ.opg rfl rfl  (RunV.own1 ag_22 rfl (by repeat (first | exact List.mem_cons_self .. | apply List.mem_cons_of_mem)) rfl) rfl ?_
           refine Rq 2 rfl ?_
           refine JQ.opeg rfl rfl  (RunE.cut_lh (m := last) (m' := pos) sl_22 rfl rfl rfl rfl rfl (by assumption) rfl (by omega) (by omega)) rfl ?_
           rintro _ ⟨as1, cs1, rfl, hSs1⟩
           refine Rq 3 rfl ?_
           refine JQ.opg rfl rfl  (RunV.own1 ag_22 rfl (by repeat (first | exact List.mem_cons_self .. | apply List.mem_cons_of_mem)) rfl) rfl ?_
           refine Rq 4 rfl ?_
           refine JQ.opg rfl rfl  (RunV.own1 ag_3 rfl (by repeat (first | exact List.mem_cons_self .. | apply List.mem_cons_of_mem)) rfl) rfl ?_
           refine JQ.opeg rfl rfl  (RunE.cut_lh (m := pos) (m' := p') sl_22 rfl rfl rfl rfl rfl (by assumption) rfl (by omega) (by omega)) rfl ?_
           rintro _ ⟨as2, cs2, rfl, hSs2⟩
           refine JQ.callPg rfl rfl  ca_48 rfl (bcompare_fn (by assumption) (by assumption)) rfl ?_
           refine Rq 4 rfl ?_
           refine JQ.nil ?_
           refine ⟨rfl, rfl, ?_⟩
           repeat (first | exact trivial | refine ⟨rfl, ?_⟩ | refine ⟨(by exact some_bool (by unfold cutL; cases r <;> first | rfl | (rw [decide_eq_true (show acc.length = 0 by omega)]; rfl) | (rw [decide_eq_false (show ¬ acc.length = 0 by omega)]; rfl) | (exfalso; simp_all; done))), ?_⟩)
         ·
          refine Rq 27 rfl ?_
          refine JQ.nil ?_
          refine ⟨rfl, rfl, ?_⟩
          repeat (first | exact trivial | refine ⟨rfl, ?_⟩ | refine ⟨(by exact some_bool (by unfold cutL; cases r <;> first | rfl | (rw [decide_eq_true (show acc.length = 0 by omega)]; rfl) | (rw [decide_eq_false (show ¬ acc.length = 0 by omega)]; rfl) | (exfalso; simp_all; done))), ?_⟩)
        ·
         refine Rg ?_
         refine Ru 2 rfl ?_
         refine JL.ents [.blk br _ _, .blk b6 _ _, .row _ _ _ _ _ _, .blk b2 _ _, .blk b1 _ _] (by repeat first | exact Parts.nil | exact Del.here | apply Del.there | apply Parts.cons) ?_
         refine JL.nil ?_
         refine ⟨_, ?_, _, ?_, ⟨_, f', p', pos, acc ++ [x], _, _, _, _, rfl, rfl, rfl, rfl, ⟨by assumption, by assumption, by assumption, by assumption, by omega, by omega, by omega, by simp; omega, by rw [hK, rdK_ok (by omega) hxs]⟩⟩⟩
         ·
          omega
         ·
          repeat (first | exact trivial | refine ⟨rfl, ?_⟩)
     ·
      refine J.exit ?_
      refine Kp [6, 8, 10, 13] rfl ?_
      refine Sr ?_
      refine Ru 3 rfl ?_
      refine Bs 180 rfl (fun hc44 => ?_) fun hc44 => ?_
      ·
       refine Ru 9 rfl ?_
       refine JL.fail ca_84 rfl rfl (nfail_fn) (by repeat (first | exact Del.here | apply Del.there)) rfl (fun hc45 => by cases hc45) (fun hc45 h45 hle45 => ?_)
       replace hhg := hhg.mono hle45
       replace hC := hC.mono hle45
       replace hl := hl.mono hle45
       replace hT := hT.mono hle45
       refine Nk [6, 10] rfl ?_
       refine Sr ?_
       refine JL.pub (R := NdR) (l := acc) (by repeat (first | exact Del.here | apply Del.there)) (by assumption) rfl (by omega) (fun h9 hle9 hS9 => ?_)
       refine JL.op (RunV.ownA ag_25 rfl (by repeat (first | exact List.mem_cons_self .. | apply List.mem_cons_of_mem)) (by first | rfl | exact NdR.len5 (by assumption))) rfl ?_
       refine JL.storeA ag_25 rfl rfl (by repeat (first | exact Del.here | apply Del.there)) (by first | rfl | exact NdR.all1 (by assumption)) (by first | rfl | assumption | exact NdR.len5 (by assumption)) (by first | rfl | exact NdR.len5 (by assumption)) ?_
       refine JL.nil ?_
       have hN : rdN (d + 1) l p en = .ok (.mk c t true [] acc, pos) := (by rw [rdN_cons hH, hK, rdK_stop (by omega)]; simp only; rw [if_pos (by simp_all <;> omega)]); exact J.ret ⟨_, [.blk br _ _], _, (RetV.cell rfl rfl ag_25 (by repeat (first | exact List.mem_cons_self .. | apply List.mem_cons_of_mem)) (by first | rfl | exact NdR.len5 (by assumption))), .cons (by repeat (first | exact Del.here | apply Del.there)) .nil, by rw [hN]; exact ⟨⟨_, rfl, NdR.of SlR.nil_ hS9⟩, rfl⟩⟩
      ·
       refine Ru 1 rfl ?_
       refine JL.opg rfl rfl  (RunV.own1 ag_3 rfl (by repeat (first | exact List.mem_cons_self .. | apply List.mem_cons_of_mem)) rfl) rfl ?_
       refine Ru 3 rfl ?_
       refine Bs 185 rfl (fun hc46 => ?_) fun hc46 => ?_
       ·
        refine Ru 4 rfl ?_
        refine JL.fail ca_84 rfl rfl (nfail_fn) (by repeat (first | exact Del.here | apply Del.there)) rfl (fun hc47 => by cases hc47) (fun hc47 h47 hle47 => ?_)
        replace hhg := hhg.mono hle47
        replace hC := hC.mono hle47
        replace hl := hl.mono hle47
        replace hT := hT.mono hle47
        refine Nk [6, 10] rfl ?_
        refine Sr ?_
        refine JL.pub (R := NdR) (l := acc) (by repeat (first | exact Del.here | apply Del.there)) (by assumption) rfl (by omega) (fun h9 hle9 hS9 => ?_)
        refine JL.op (RunV.ownA ag_25 rfl (by repeat (first | exact List.mem_cons_self .. | apply List.mem_cons_of_mem)) (by first | rfl | exact NdR.len5 (by assumption))) rfl ?_
        refine JL.storeA ag_25 rfl rfl (by repeat (first | exact Del.here | apply Del.there)) (by first | rfl | exact NdR.all1 (by assumption)) (by first | rfl | assumption | exact NdR.len5 (by assumption)) (by first | rfl | exact NdR.len5 (by assumption)) ?_
        refine JL.nil ?_
        have hN : rdN (d + 1) l p en = .ok (.mk c t true [] acc, pos) := (by rw [rdN_cons hH, hK, rdK_stop (by omega)]; simp only; rw [if_pos (by simp_all <;> omega)]); exact J.ret ⟨_, [.blk br _ _], _, (RetV.cell rfl rfl ag_25 (by repeat (first | exact List.mem_cons_self .. | apply List.mem_cons_of_mem)) (by first | rfl | exact NdR.len5 (by assumption))), .cons (by repeat (first | exact Del.here | apply Del.there)) .nil, by rw [hN]; exact ⟨⟨_, rfl, NdR.of SlR.nil_ hS9⟩, rfl⟩⟩
       ·
        refine Ru 1 rfl ?_
        refine JL.opg rfl rfl  (RunV.own1 ag_3 rfl (by repeat (first | exact List.mem_cons_self .. | apply List.mem_cons_of_mem)) rfl) rfl ?_
        refine Ru 2 rfl ?_
        refine JL.fail ca_84 rfl rfl (nfail_fn) (by repeat (first | exact Del.here | apply Del.there)) rfl (fun hc48 h48 hle48 => ?_) (fun hc48 h48 hle48 => ?_)
        ·
         try simp only [decide_eq_true_eq, decide_eq_false_iff_not, Bool.not_eq_eq_eq_not, Bool.not_true, Bool.not_false, ne_eq, Decidable.not_not] at hc48
         have hN : rdN (d + 1) l p en = .error (p, 34) := (by rw [rdN_cons hH, hK, rdK_stop (by omega)]; simp only; rw [if_neg (by simp_all <;> omega)]); exact ⟨[], _, .nil, by rw [hN]; exact ⟨rfl, rfl⟩⟩
        try simp only [decide_eq_true_eq, decide_eq_false_iff_not, Bool.not_eq_eq_eq_not, Bool.not_true, Bool.not_false, ne_eq, Decidable.not_not] at hc48
        replace hhg := hhg.mono hle48
        replace hC := hC.mono hle48
        replace hl := hl.mono hle48
        replace hT := hT.mono hle48
        refine Nk [6, 10] rfl ?_
        refine Sr ?_
        refine JL.pub (R := NdR) (l := acc) (by repeat (first | exact Del.here | apply Del.there)) (by assumption) rfl (by omega) (fun h9 hle9 hS9 => ?_)
        refine JL.op (RunV.ownA ag_25 rfl (by repeat (first | exact List.mem_cons_self .. | apply List.mem_cons_of_mem)) (by first | rfl | exact NdR.len5 (by assumption))) rfl ?_
        refine JL.storeA ag_25 rfl rfl (by repeat (first | exact Del.here | apply Del.there)) (by first | rfl | exact NdR.all1 (by assumption)) (by first | rfl | assumption | exact NdR.len5 (by assumption)) (by first | rfl | exact NdR.len5 (by assumption)) ?_
        refine JL.nil ?_
        have hN : rdN (d + 1) l p en = .ok (.mk c t true [] acc, pos) := (by rw [rdN_cons hH, hK, rdK_stop (by omega)]; simp only; rw [if_pos (by simp_all <;> omega)]); exact J.ret ⟨_, [.blk br _ _], _, (RetV.cell rfl rfl ag_25 (by repeat (first | exact List.mem_cons_self .. | apply List.mem_cons_of_mem)) (by first | rfl | exact NdR.len5 (by assumption))), .cons (by repeat (first | exact Del.here | apply Del.there)) .nil, by rw [hN]; exact ⟨⟨_, rfl, NdR.of SlR.nil_ hS9⟩, rfl⟩⟩

end Go.Proofs.YtmngjbefnloljaaDoor
