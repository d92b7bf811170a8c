/- Walks: the program writes nodes. -/
import Derived.Test.YtmngjbefnloljaaDoorDerP
import Derived.Test.YtmngjbefnloljaaDoorBld
set_option linter.unusedSimpArgs false
set_option linter.unusedVariables false
set_option linter.constructorNameAsVariable false
namespace Go.Proofs.YtmngjbefnloljaaDoor
open Go Go.RowKit
theorem ca_33 : callT Tryd.prog 33 = true := by kernel_rfl
theorem ca_48 : callT Tryd.prog 48 = true := by kernel_rfl
theorem ca_61 : callT Tryd.prog 61 = true := by kernel_rfl
theorem ca_62 : callT Tryd.prog 62 = true := by kernel_rfl
theorem ca_63 : callT Tryd.prog 63 = true := by kernel_rfl
theorem zr_25 : zeroT Tryd.prog 25 = some [.int .i64 0, .int .i64 0, .bool false, .slice none 0 0, .slice none 0 0] := by kernel_rfl

theorem run_bcompare {h : Part} {w : World} (s : Sub h w) {a b : Option Addr} {c d : Nat} {l r : List UInt8} (hl : SlR u8R 1 h a c l) (hr : SlR u8R 1 h b d r) :
    (callFunc 72 #[.slice a l.length c, .slice b r.length d]).run Tryd.prog w = .ok (.value (.int .i64 (Go.Lib.compareBytes l r))) w := by
  rw [run_callFunc_extern Tryd.func72 (by kernel_rfl) (by kernel_rfl) (by kernel_rfl) (e := Extern.BytealgCompare.compare) (by kernel_rfl), run_compareB s hl hr]
  rfl
theorem bcompare_fn {a b : Option Addr} {c d : Nat} {l r : List UInt8} {h : Part} (hl : SlR u8R 1 h a c l) (hr : SlR u8R 1 h b d r) : Pure Tryd.prog 48 [.slice a l.length c, .slice b r.length d] h (.int .i64 (Go.Lib.compareBytes l r)) := by
  refine Fn.intro Tryd.func48 rfl Tryd.ntmps48 rfl (fun e he => ?_)
  refine J.weak [(0, _), (1, _)] ⟨rfl, rfl, trivial⟩ ?_
  refine Sr ?_
  refine Ru 1 rfl ?_
  refine JL.nil ?_
  refine Sr ?_
  refine Ru 2 rfl ?_
  refine JL.op (RunV.callX rfl (fun w hw => run_bcompare hw hl hr)) rfl ?_
  refine Ru 1 rfl ?_
  refine Nk [4] rfl ?_
  exact J.retP (RetV.one rfl rfl) rfl rfl




/-! ## nodes' bytes -/
def okN (c t : Int) (k : Bool) (bs : List UInt8) (ks : List Nd) : Bool :=
  mayB c t k && (!(k && decide (0 < bs.length)) && (!(!k && decide (0 < ks.length)) && !(decide (c = 0) && (!k && !valB t bs))))
def aboveB : Option (List UInt8) → List UInt8 → Bool
  | none, _ => false
  | some l, b => decide (0 < Go.Lib.compareBytes l b)
mutual
def Nd.put : Nd → Option (List UInt8)
  | .mk c t k bs ks => if okN c t k bs ks then (Nd.putL (decide (c = 0) && decide (t = 17)) ks none bs).map (fun b => headB c t k b.length ++ b) else none
def Nd.putL : Bool → List Nd → Option (List UInt8) → List UInt8 → Option (List UInt8)
  | _, [], _, acc => some acc
  | set, x :: r, last, acc => match Nd.put x with
    | none => none
    | some b => if set && aboveB last b then none else Nd.putL set r (some b) (acc ++ b)
end
theorem headB_len (c t : Int) (k : Bool) (n : Nat) : 2 ≤ (headB c t k n).length ∧ (headB c t k n).length ≤ 8 := by
  have := nby_bd n
  unfold headB lenB
  split
  · simp
  · simp [be_len]; omega
theorem Nd.put_len : ∀ (n : Nat) (x : Nd) (b : List UInt8), x.rk ≤ n → x.put = some b → 2 ≤ b.length ∧ b.length ≤ 8 * x.sz := by
  intro n
  induction n with
  | zero => intro x b hx; cases x; simp [Nd.rk] at hx
  | succ n ih =>
    intro x b hx hb
    cases x with
    | mk c t k bs ks =>
      simp only [Nd.rk] at hx
      have key : ∀ (l : List Nd) (set : Bool) (last : Option (List UInt8)) (acc b : List UInt8), Nd.rkL l ≤ n → Nd.putL set l last acc = some b → b.length ≤ acc.length + 8 * Nd.szL l := by
        intro l
        induction l with
        | nil => intro set last acc b _ hb; simp only [Nd.putL, Option.some.injEq] at hb; subst hb; simp [Nd.szL]
        | cons y r ihr =>
          intro set last acc b hl hb
          simp only [Nd.rkL] at hl
          simp only [Nd.putL] at hb
          split at hb
          · cases hb
          · rename_i b1 hb1
            split at hb
            · cases hb
            · have h1 := ih y b1 (by omega) hb1
              have h2 := ihr _ _ _ _ (by omega) hb
              simp only [Nd.szL, List.length_append] at h2 ⊢
              omega
      simp only [Nd.put] at hb
      split at hb
      · cases hp : Nd.putL (decide (c = 0) && decide (t = 17)) ks none bs with
        | none => simp [hp] at hb
        | some b1 =>
          simp only [hp, Option.map_some, Option.some.injEq] at hb
          subst hb
          have h1 := key ks _ _ _ _ (by omega) hp
          have h2 := headB_len c t k b1.length
          simp only [List.length_append, Nd.sz]
          omega
      · cases hb
theorem Nd.putL_len {l : List Nd} {set : Bool} {last : Option (List UInt8)} {acc b : List UInt8} (hb : Nd.putL set l last acc = some b) : b.length ≤ acc.length + 8 * Nd.szL l := by
  induction l generalizing last acc with
  | nil => simp only [Nd.putL, Option.some.injEq] at hb; subst hb; simp [Nd.szL]
  | cons y r ihr =>
    simp only [Nd.putL] at hb
    split at hb
    · cases hb
    · rename_i b1 hb1
      split at hb
      · cases hb
      · have h1 := (Nd.put_len _ y b1 (Nat.le_refl _) hb1).2
        have h2 := ihr hb
        simp only [Nd.szL, List.length_append] at h2 ⊢
        omega
theorem Nd.szL_take (l : List Nd) (i : Nat) (h : i < l.length) : Nd.szL (l.take (i + 1)) = Nd.szL (l.take i) + l[i].sz := by
  rw [List.take_succ_eq_append_getElem h, Nd.szL_append]; simp [Nd.szL]
theorem Nd.szL_take_le (l : List Nd) (i : Nat) : Nd.szL (l.take i) ≤ Nd.szL l := by
  have := Nd.szL_append (l.take i) (l.drop i)
  rw [List.take_append_drop] at this
  omega

/-- What a writer's call comes to. -/
def PutR (x : Nd) (bw : Nat) (d0 deep : Int) : Value → Part → List Ent → Prop := fun v h' Lo =>
  ∃ (b : List UInt8) (a : Option Addr) (c : Nat) (d1 : Int) (bad : Bool), v = .slice a b.length c ∧ SlR u8R 1 h' a c b ∧ Lo = [.blk bw 62 [.int .i64 d1, .bool bad]] ∧
    (bad = true → x.put = none) ∧ (bad = false → x.put = some b ∧ d1 = max d0 (deep + x.rk - 1))

theorem Nd.putL_step (set : Bool) (ks : List Nd) (i : Nat) (last : Option (List UInt8)) (acc : List UInt8) (hi : i < ks.length) :
    Nd.putL set (ks.drop i) last acc = match Nd.put ks[i] with
      | none => none
      | some b => if set && aboveB last b then none else Nd.putL set (ks.drop (i + 1)) (some b) (acc ++ b) := by
  rw [List.drop_eq_getElem_cons hi]; rfl
theorem above_if (i : Nat) (l b : List UInt8) : aboveB (if i = 0 then none else some l) b = (decide ((0 : Int) < i) && decide (0 < Go.Lib.compareBytes l b)) := by
  by_cases h : i = 0
  · subst h; rfl
  · rw [if_neg h, decide_eq_true (show (0 : Int) < i by omega)]; rfl
theorem okN_may {c t : Int} {k : Bool} {bs : List UInt8} {ks : List Nd} (h : okN c t k bs ks = true) : (c = 0 ∨ c = 2) ∧ 0 ≤ t ∧ t ≤ 30 := by
  unfold okN mayB at h
  simp only [Bool.and_eq_true, Bool.or_eq_true, decide_eq_true_eq] at h
  obtain ⟨⟨h1, h2⟩, _⟩ := h
  exact ⟨by rcases h2 with h2 | h2; exact .inr h2; exact .inl h2.1, h1⟩
theorem put_fn : ∀ (n : Nat) (x : Nd) (cs : List Value) (h : Part) (bw : Nat) (d0 deep : Int), x.rk ≤ n → NdR h cs x → Tabs h → x.sz ≤ 1073741824 → 0 ≤ deep → deep + x.rk ≤ 1099511627776 →
    Fn Tryd.prog 33 [.pointer (some ⟨bw, 0, none⟩), .agg cs.toArray, .int .i64 deep] h [.blk bw 62 [.int .i64 d0, .bool false]] (Rets (PutR x bw d0 deep)) := by
  intro n
  induction n with
  | zero => intro x cs h bw d0 deep hx; cases x; simp [Nd.rk] at hx
  | succ n ih =>
  intro x cs h bw d0 deep hx r hT hsz hd0 hd1
  cases x with
  | mk c t k bs ks =>
  obtain ⟨a, ca, b, cb, rfl, ha, hb⟩ := r.inv
  have hl := hb.big
  have hl2 := ha.big
  simp only [Nd.rk] at hx hd1
  simp only [Nd.sz] at hsz
  have hkr : ∀ i (hi : i < ks.length), (ks[i].rk ≤ n ∧ ks[i].rk ≤ Nd.rkL ks) ∧ ks[i].sz ≤ Nd.szL ks := fun i hi => ⟨⟨by have := Nd.rk_lt (List.getElem_mem hi); omega, Nd.rk_lt (List.getElem_mem hi)⟩, Nd.sz_le (List.getElem_mem hi)⟩
  refine Fn.intro Tryd.func33 rfl Tryd.ntmps33 rfl (fun e he => ?_)
  refine J.weak [(0, _), (1, _), (2, _)] ⟨rfl, rfl, rfl, trivial⟩ ?_
  refine Sr ?_
  refine JL.box rfl rfl rfl (fun b1 => ?_)
  refine Ru 1 rfl ?_
  refine JL.nil ?_
  refine Sr ?_
  refine Ru 4 rfl ?_
  refine JL.op (RunV.own1 ag_3 rfl (by repeat (first | exact List.mem_cons_self .. | apply List.mem_cons_of_mem)) rfl) rfl ?_
  refine Ru 1 rfl ?_
  refine JL.op (RunV.max2 rfl rfl) rfl ?_
  refine Ru 2 rfl ?_
  refine JL.store1 ag_3 rfl rfl rfl (by repeat (first | exact Del.here | apply Del.there)) (by first | rfl | (simp; omega)) ?_
  refine Nk [6, 4, 0, 2] rfl ?_
  refine J.seq ?_
  refine J.seq ?_
  refine J.meet [(62, .bool (!okN c t k bs ks))] [(6, _), (4, _), (0, _), (2, _)] ⟨rfl, rfl, rfl, rfl, trivial⟩ ?_ ?_
  ·
   refine Rg ?_
   refine JL.op (RunV.ownA ag_25 rfl (by repeat (first | exact List.mem_cons_self .. | apply List.mem_cons_of_mem)) (by first | rfl | exact NdR.len5 (by assumption))) rfl ?_
   refine JL.callP ca_61 rfl (pmay_fn (by assumption)) rfl ?_
   refine Ru 2 rfl ?_
   refine Bs 24 rfl (fun hc3 => ?_) fun hc3 => ?_
   ·
    refine Ru 38 rfl ?_
    refine JL.nil ?_
    refine ⟨rfl, rfl, ?_⟩
    repeat (first | exact trivial | refine ⟨rfl, ?_⟩ | refine ⟨(by exact some_bool (by cases k <;> simp_all [okN, Nd.cls, Nd.tag, Nd.cons])), ?_⟩)
   ·
    refine Ru 1 rfl ?_
    refine JL.opg rfl rfl  (RunV.own1 ag_4 rfl (by repeat (first | exact List.mem_cons_self .. | apply List.mem_cons_of_mem)) rfl) rfl ?_
    refine Ru 1 rfl ?_
    refine Bs 27 rfl (fun hc4 => ?_) fun hc4 => ?_
    ·
     refine Ru 1 rfl ?_
     refine JL.opg rfl rfl  (RunV.own1 ag_22 rfl (by repeat (first | exact List.mem_cons_self .. | apply List.mem_cons_of_mem)) rfl) rfl ?_
     refine Ru 5 rfl ?_
     refine Bs 34 rfl (fun hc5 => ?_) fun hc5 => ?_
     ·
      refine Ru 28 rfl ?_
      refine JL.nil ?_
      refine ⟨rfl, rfl, ?_⟩
      repeat (first | exact trivial | refine ⟨rfl, ?_⟩ | refine ⟨(by exact some_bool (by cases k <;> simp_all [okN, Nd.cls, Nd.tag, Nd.cons])), ?_⟩)
     ·
      refine Ru 1 rfl ?_
      refine JL.opg rfl rfl  (RunV.own1 ag_4 rfl (by repeat (first | exact List.mem_cons_self .. | apply List.mem_cons_of_mem)) rfl) rfl ?_
      refine Ru 2 rfl ?_
      refine Bs 38 rfl (fun hc6 => ?_) fun hc6 => ?_
      ·
       refine Ru 1 rfl ?_
       refine JL.opg rfl rfl  (RunV.own1 ag_23 rfl (by repeat (first | exact List.mem_cons_self .. | apply List.mem_cons_of_mem)) rfl) rfl ?_
       refine Ru 5 rfl ?_
       refine Bs 45 rfl (fun hc7 => ?_) fun hc7 => ?_
       ·
        refine Ru 17 rfl ?_
        refine JL.nil ?_
        refine ⟨rfl, rfl, ?_⟩
        repeat (first | exact trivial | refine ⟨rfl, ?_⟩ | refine ⟨(by exact some_bool (by cases k <;> simp_all [okN, Nd.cls, Nd.tag, Nd.cons])), ?_⟩)
       ·
        refine Ru 1 rfl ?_
        refine JL.opg rfl rfl  (RunV.own1 ag_3 rfl (by repeat (first | exact List.mem_cons_self .. | apply List.mem_cons_of_mem)) rfl) rfl ?_
        refine Ru 2 rfl ?_
        refine Bs 49 rfl (fun hc8 => ?_) fun hc8 => ?_
        ·
         refine Ru 1 rfl ?_
         refine JL.opg rfl rfl  (RunV.own1 ag_4 rfl (by repeat (first | exact List.mem_cons_self .. | apply List.mem_cons_of_mem)) rfl) rfl ?_
         refine Ru 3 rfl ?_
         refine Bs 54 rfl (fun hc9 => ?_) fun hc9 => ?_
         ·
          refine Ru 1 rfl ?_
          refine JL.opg rfl rfl  (RunV.own1 ag_3 rfl (by repeat (first | exact List.mem_cons_self .. | apply List.mem_cons_of_mem)) rfl) rfl ?_
          refine Ru 1 rfl ?_
          refine JL.opg rfl rfl  (RunV.own1 ag_22 rfl (by repeat (first | exact List.mem_cons_self .. | apply List.mem_cons_of_mem)) rfl) rfl ?_
          refine JL.callPg rfl rfl  ca_62 rfl (value_fn (by assumption) (by assumption) (by omega)) rfl ?_
          refine Ru 3 rfl ?_
          refine JL.nil ?_
          refine ⟨rfl, rfl, ?_⟩
          repeat (first | exact trivial | refine ⟨rfl, ?_⟩ | refine ⟨(by exact some_bool (by cases k <;> simp_all [okN, Nd.cls, Nd.tag, Nd.cons])), ?_⟩)
         ·
          refine Ru 8 rfl ?_
          refine JL.nil ?_
          refine ⟨rfl, rfl, ?_⟩
          repeat (first | exact trivial | refine ⟨rfl, ?_⟩ | refine ⟨(by exact some_bool (by cases k <;> simp_all [okN, Nd.cls, Nd.tag, Nd.cons])), ?_⟩)
        ·
         refine Ru 13 rfl ?_
         refine JL.nil ?_
         refine ⟨rfl, rfl, ?_⟩
         repeat (first | exact trivial | refine ⟨rfl, ?_⟩ | refine ⟨(by exact some_bool (by cases k <;> simp_all [okN, Nd.cls, Nd.tag, Nd.cons])), ?_⟩)
      ·
       refine Ru 8 rfl ?_
       refine JL.opg rfl rfl  (RunV.own1 ag_3 rfl (by repeat (first | exact List.mem_cons_self .. | apply List.mem_cons_of_mem)) rfl) rfl ?_
       refine Ru 2 rfl ?_
       refine Bs 49 rfl (fun hc11 => ?_) fun hc11 => ?_
       ·
        refine Ru 1 rfl ?_
        refine JL.opg rfl rfl  (RunV.own1 ag_4 rfl (by repeat (first | exact List.mem_cons_self .. | apply List.mem_cons_of_mem)) rfl) rfl ?_
        refine Ru 3 rfl ?_
        refine Bs 54 rfl (fun hc12 => ?_) fun hc12 => ?_
        ·
         refine Ru 1 rfl ?_
         refine JL.opg rfl rfl  (RunV.own1 ag_3 rfl (by repeat (first | exact List.mem_cons_self .. | apply List.mem_cons_of_mem)) rfl) rfl ?_
         refine Ru 1 rfl ?_
         refine JL.opg rfl rfl  (RunV.own1 ag_22 rfl (by repeat (first | exact List.mem_cons_self .. | apply List.mem_cons_of_mem)) rfl) rfl ?_
         refine JL.callPg rfl rfl  ca_62 rfl (value_fn (by assumption) (by assumption) (by omega)) rfl ?_
         refine Ru 3 rfl ?_
         refine JL.nil ?_
         refine ⟨rfl, rfl, ?_⟩
         repeat (first | exact trivial | refine ⟨rfl, ?_⟩ | refine ⟨(by exact some_bool (by cases k <;> simp_all [okN, Nd.cls, Nd.tag, Nd.cons])), ?_⟩)
        ·
         refine Ru 8 rfl ?_
         refine JL.nil ?_
         refine ⟨rfl, rfl, ?_⟩
         repeat (first | exact trivial | refine ⟨rfl, ?_⟩ | refine ⟨(by exact some_bool (by cases k <;> simp_all [okN, Nd.cls, Nd.tag, Nd.cons])), ?_⟩)
       ·
        refine Ru 13 rfl ?_
        refine JL.nil ?_
        refine ⟨rfl, rfl, ?_⟩
        repeat (first | exact trivial | refine ⟨rfl, ?_⟩ | refine ⟨(by exact some_bool (by cases k <;> simp_all [okN, Nd.cls, Nd.tag, Nd.cons])), ?_⟩)
    ·
     refine Ru 8 rfl ?_
     refine JL.opg rfl rfl  (RunV.own1 ag_4 rfl (by repeat (first | exact List.mem_cons_self .. | apply List.mem_cons_of_mem)) rfl) rfl ?_
     refine Ru 2 rfl ?_
     refine Bs 38 rfl (fun hc14 => ?_) fun hc14 => ?_
     ·
      refine Ru 1 rfl ?_
      refine JL.opg rfl rfl  (RunV.own1 ag_23 rfl (by repeat (first | exact List.mem_cons_self .. | apply List.mem_cons_of_mem)) rfl) rfl ?_
      refine Ru 5 rfl ?_
      refine Bs 45 rfl (fun hc15 => ?_) fun hc15 => ?_
      ·
       refine Ru 17 rfl ?_
       refine JL.nil ?_
       refine ⟨rfl, rfl, ?_⟩
       repeat (first | exact trivial | refine ⟨rfl, ?_⟩ | refine ⟨(by exact some_bool (by cases k <;> simp_all [okN, Nd.cls, Nd.tag, Nd.cons])), ?_⟩)
      ·
       refine Ru 1 rfl ?_
       refine JL.opg rfl rfl  (RunV.own1 ag_3 rfl (by repeat (first | exact List.mem_cons_self .. | apply List.mem_cons_of_mem)) rfl) rfl ?_
       refine Ru 2 rfl ?_
       refine Bs 49 rfl (fun hc16 => ?_) fun hc16 => ?_
       ·
        refine Ru 1 rfl ?_
        refine JL.opg rfl rfl  (RunV.own1 ag_4 rfl (by repeat (first | exact List.mem_cons_self .. | apply List.mem_cons_of_mem)) rfl) rfl ?_
        refine Ru 3 rfl ?_
        refine Bs 54 rfl (fun hc17 => ?_) fun hc17 => ?_
        ·
         refine Ru 1 rfl ?_
         refine JL.opg rfl rfl  (RunV.own1 ag_3 rfl (by repeat (first | exact List.mem_cons_self .. | apply List.mem_cons_of_mem)) rfl) rfl ?_
         refine Ru 1 rfl ?_
         refine JL.opg rfl rfl  (RunV.own1 ag_22 rfl (by repeat (first | exact List.mem_cons_self .. | apply List.mem_cons_of_mem)) rfl) rfl ?_
         refine JL.callPg rfl rfl  ca_62 rfl (value_fn (by assumption) (by assumption) (by omega)) rfl ?_
         refine Ru 3 rfl ?_
         refine JL.nil ?_
         refine ⟨rfl, rfl, ?_⟩
         repeat (first | exact trivial | refine ⟨rfl, ?_⟩ | refine ⟨(by exact some_bool (by cases k <;> simp_all [okN, Nd.cls, Nd.tag, Nd.cons])), ?_⟩)
        ·
         refine Ru 8 rfl ?_
         refine JL.nil ?_
         refine ⟨rfl, rfl, ?_⟩
         repeat (first | exact trivial | refine ⟨rfl, ?_⟩ | refine ⟨(by exact some_bool (by cases k <;> simp_all [okN, Nd.cls, Nd.tag, Nd.cons])), ?_⟩)
       ·
        refine Ru 13 rfl ?_
        refine JL.nil ?_
        refine ⟨rfl, rfl, ?_⟩
        repeat (first | exact trivial | refine ⟨rfl, ?_⟩ | refine ⟨(by exact some_bool (by cases k <;> simp_all [okN, Nd.cls, Nd.tag, Nd.cons])), ?_⟩)
     ·
      refine Ru 8 rfl ?_
      refine JL.opg rfl rfl  (RunV.own1 ag_3 rfl (by repeat (first | exact List.mem_cons_self .. | apply List.mem_cons_of_mem)) rfl) rfl ?_
      refine Ru 2 rfl ?_
      refine Bs 49 rfl (fun hc19 => ?_) fun hc19 => ?_
      ·
       refine Ru 1 rfl ?_
       refine JL.opg rfl rfl  (RunV.own1 ag_4 rfl (by repeat (first | exact List.mem_cons_self .. | apply List.mem_cons_of_mem)) rfl) rfl ?_
       refine Ru 3 rfl ?_
       refine Bs 54 rfl (fun hc20 => ?_) fun hc20 => ?_
       ·
        refine Ru 1 rfl ?_
        refine JL.opg rfl rfl  (RunV.own1 ag_3 rfl (by repeat (first | exact List.mem_cons_self .. | apply List.mem_cons_of_mem)) rfl) rfl ?_
        refine Ru 1 rfl ?_
        refine JL.opg rfl rfl  (RunV.own1 ag_22 rfl (by repeat (first | exact List.mem_cons_self .. | apply List.mem_cons_of_mem)) rfl) rfl ?_
        refine JL.callPg rfl rfl  ca_62 rfl (value_fn (by assumption) (by assumption) (by omega)) rfl ?_
        refine Ru 3 rfl ?_
        refine JL.nil ?_
        refine ⟨rfl, rfl, ?_⟩
        repeat (first | exact trivial | refine ⟨rfl, ?_⟩ | refine ⟨(by exact some_bool (by cases k <;> simp_all [okN, Nd.cls, Nd.tag, Nd.cons])), ?_⟩)
       ·
        refine Ru 8 rfl ?_
        refine JL.nil ?_
        refine ⟨rfl, rfl, ?_⟩
        repeat (first | exact trivial | refine ⟨rfl, ?_⟩ | refine ⟨(by exact some_bool (by cases k <;> simp_all [okN, Nd.cls, Nd.tag, Nd.cons])), ?_⟩)
      ·
       refine Ru 13 rfl ?_
       refine JL.nil ?_
       refine ⟨rfl, rfl, ?_⟩
       repeat (first | exact trivial | refine ⟨rfl, ?_⟩ | refine ⟨(by exact some_bool (by cases k <;> simp_all [okN, Nd.cls, Nd.tag, Nd.cons])), ?_⟩)
  ·
   refine Cs rfl (fun hc22 => ?_) fun hc22 => ?_
   ·
    refine Sr ?_
    refine Ru 3 rfl ?_
    refine JL.store1 ag_4 rfl rfl rfl (by repeat (first | exact Del.here | apply Del.there)) (by first | rfl | (simp; omega)) ?_
    refine Nk [6, 4, 0, 2] rfl ?_
    refine Sr ?_
    refine Ru 1 rfl ?_
    refine JL.nil ?_
    exact J.ret ⟨_, [_], _, (RetV.one rfl rfl), .cons (by repeat (first | exact Del.here | apply Del.there)) .nil, _, rfl, [], none, 0, _, true, rfl, SlR.nil_, rfl, (fun _ => by simp only [Nd.put]; rw [hc22]; rfl), (fun hh => by cases hh)⟩
   ·
    have hok : okN c t k bs ks = true := hc22; have hmm := okN_may hok
    refine J.skip ?_
    refine Sr ?_
    refine Ru 1 rfl ?_
    refine JL.op (RunV.own1 ag_22 rfl (by repeat (first | exact List.mem_cons_self .. | apply List.mem_cons_of_mem)) rfl) rfl ?_
    refine Ru 1 rfl ?_
    refine JL.nil ?_
    refine Sr ?_
    refine Ru 1 rfl ?_
    refine JL.nil ?_
    refine J.seq ?_
    refine Sr ?_
    refine Ru 1 rfl ?_
    refine JL.op (RunV.own1 ag_23 rfl (by repeat (first | exact List.mem_cons_self .. | apply List.mem_cons_of_mem)) rfl) rfl ?_
    refine Ru 2 rfl ?_
    refine Nk [71, 70, 69, 8, 7, 6, 4, 0, 2] rfl ?_
    refine J.block ?_
    refine J.loop (fun t_ S_ h_ L_ => ∃ (g : Part) (i : Nat) (inB lb : List UInt8) (ai la : Option Addr) (ci lc : Nat) (d : Int), t_ = ks.length - i ∧ S_ = [(0, .pointer (some ⟨bw, 0, none⟩)), (2, .int .i64 deep), (4, .pointer (some ⟨b1, 0, none⟩)), (7, .slice ai inB.length ci), (8, .slice la lb.length lc), (69, .slice b ks.length cb), (70, .int .i64 ks.length), (71, .int .i64 i)] ∧ g = h_ ∧ L_ = [.blk bw 62 [.int .i64 d, .bool false], .blk b1 25 [.int .i64 c, .int .i64 t, .bool k, .slice a bs.length ca, .slice b ks.length cb]] ∧ (h.le g ∧ i ≤ ks.length ∧ SlR u8R 1 g ai ci inB ∧ SlR u8R 1 g la lc lb ∧ inB.length ≤ bs.length + 8 * Nd.szL (ks.take i) ∧ d = max (max d0 deep) (deep + Nd.rkL (ks.take i)) ∧ Nd.putL (decide (c = 0) && decide (t = 17)) ks none bs = Nd.putL (decide (c = 0) && decide (t = 17)) (ks.drop i) (if i = 0 then none else some lb) inB)) ⟨_, _, ?_, ⟨_, 0, bs, [], _, _, _, _, _, rfl, rfl, rfl, rfl, ⟨Part.le.refl _, by omega, ha, SlR.nil_, by omega, by simp [Nd.rkL]; (try omega), rfl⟩⟩⟩ ?_
    ·
     repeat (first | exact trivial | refine ⟨rfl, ?_⟩)
    rintro _ _ _ _ ⟨g, i, inB, lb, ai, la, ci, lc, d, rfl, rfl, rfl, rfl, hhg, hi, hin, hla, hil, hd, hp⟩
    have r := r.mono hhg; have hT := hT.mono hhg; have ha := ha.mono hhg; have hb := hb.mono hhg; have hst := Nd.szL_take_le ks i
    refine Sr ?_
    refine Ru 1 rfl ?_
    refine JL.nil ?_
    refine J.seq ?_
    refine Cs rfl (fun hc23 => ?_) fun hc23 => ?_
    ·
     have hi' : i < ks.length := (by omega); have hrt := Nd.rkL_take ks i hi'; have hzt := Nd.szL_take ks i hi'; have hst2 := Nd.szL_take_le ks (i + 1); have hrz := Nd.rkL_le_szL ks; have hrl := Nd.rkL_le ks i
     refine J.skip ?_
     refine J.seq ?_
     refine J.block ?_
     refine Sr ?_
     refine Ru 1 rfl ?_
     refine JL.ope (RunE.index sl_23 rfl rfl (by first | with_reducible rfl | exact (Int.toNat_of_nonneg (by omega)).symm) (by assumption) rfl (by omega)) rfl ?_
     rintro _ ⟨b24, o24, hi24, rfl, hE24⟩
     refine JL.ope (RunE.loadA ag_25 rfl (by assumption)) rfl ?_
     rintro _ ⟨_, rfl, hNd25⟩
     refine JL.alloc zr_25 rfl (fun b26 => ?_)
     refine Ru 1 rfl ?_
     refine JL.storeA ag_25 rfl rfl (by repeat (first | exact Del.here | apply Del.there)) (by first | rfl | exact NdR.all1 (by assumption)) (by first | rfl | assumption | exact NdR.len5 (by assumption)) (by first | rfl | exact NdR.len5 (by assumption)) ?_
     refine JL.nil ?_
     refine Sr ?_
     refine Ru 1 rfl ?_
     refine JL.op (RunV.ownA ag_25 rfl (by repeat (first | exact List.mem_cons_self .. | apply List.mem_cons_of_mem)) (by first | rfl | exact NdR.len5 (by assumption))) rfl ?_
     refine Ru 1 rfl ?_
     refine JL.op (by first | exact RunV.add_i64 rfl rfl (by omega) (by omega) | exact RunV.add rfl rfl) rfl ?_
     refine JL.call ca_33 rfl (ih (ks[i]'(by omega)) _ _ _ _ _ (hkr i (by omega)).1.1 (by assumption) hT (by have := (hkr i (by omega)).2; omega) (by omega) (by have := (hkr i (by omega)).1.2; omega)) (by repeat first | exact Parts.nil | exact Del.here | apply Del.there | apply Parts.cons) rfl ?_
     rintro _ h27 Lo27 hle27 ⟨kb, ka, kc, kd, kbad, rfl, hkS, rfl, hkf, hkt⟩
     replace r := r.mono hle27
     replace hT := hT.mono hle27
     replace ha := ha.mono hle27
     replace hb := hb.mono hle27
     replace hhg := hhg.mono hle27
     replace hin := hin.mono hle27
     replace hla := hla.mono hle27
     replace hNd25 := hNd25.mono hle27
     refine Ru 1 rfl ?_
     refine JL.nil ?_
     refine J.seq ?_
     refine J.seq ?_
     refine J.meet [(104, .bool (kbad || ((decide (c = 0) && decide (t = 17)) && (decide ((0 : Int) < i) && decide (0 < Go.Lib.compareBytes lb kb)))))] [(11, _), (80, _), (79, _), (78, _), (77, _), (76, _), (9, _), (10, _), (75, _), (74, _), (73, _), (72, _), (0, _), (2, _), (4, _), (7, _), (8, _), (69, _), (70, _), (71, _)] ⟨rfl, rfl, rfl, rfl, rfl, rfl, rfl, rfl, rfl, rfl, rfl, rfl, rfl, rfl, rfl, rfl, rfl, rfl, rfl, rfl, trivial⟩ ?_ ?_
     ·
      refine Rg ?_
      refine Ru 3 rfl ?_
      refine JL.op (RunV.own1 ag_4 rfl (by repeat (first | exact List.mem_cons_self .. | apply List.mem_cons_of_mem)) rfl) rfl ?_
      refine Ru 1 rfl ?_
      refine Bs 85 rfl (fun hc28 => ?_) fun hc28 => ?_
      ·
       refine Ru 19 rfl ?_
       refine JL.nil ?_
       refine ⟨rfl, rfl, ?_⟩
       repeat (first | exact trivial | refine ⟨rfl, ?_⟩ | refine ⟨(by exact some_bool (by cases kbad <;> simp_all)), ?_⟩)
      ·
       refine Ru 1 rfl ?_
       refine JL.opg rfl rfl  (RunV.own1 ag_3 rfl (by repeat (first | exact List.mem_cons_self .. | apply List.mem_cons_of_mem)) rfl) rfl ?_
       refine Ru 2 rfl ?_
       refine Bs 89 rfl (fun hc29 => ?_) fun hc29 => ?_
       ·
        refine Ru 1 rfl ?_
        refine JL.opg rfl rfl  (RunV.own1 ag_3 rfl (by repeat (first | exact List.mem_cons_self .. | apply List.mem_cons_of_mem)) rfl) rfl ?_
        refine Ru 3 rfl ?_
        refine Bs 94 rfl (fun hc30 => ?_) fun hc30 => ?_
        ·
         refine Ru 4 rfl ?_
         refine Bs 98 rfl (fun hc31 => ?_) fun hc31 => ?_
         ·
          refine Ru 2 rfl ?_
          refine JL.callPg rfl rfl  ca_48 rfl (bcompare_fn (by assumption) (by assumption)) rfl ?_
          refine Ru 3 rfl ?_
          refine JL.nil ?_
          refine ⟨rfl, rfl, ?_⟩
          repeat (first | exact trivial | refine ⟨rfl, ?_⟩ | refine ⟨(by exact some_bool (by cases kbad <;> simp_all)), ?_⟩)
         ·
          refine Ru 6 rfl ?_
          refine JL.nil ?_
          refine ⟨rfl, rfl, ?_⟩
          repeat (first | exact trivial | refine ⟨rfl, ?_⟩ | refine ⟨(by exact some_bool (by cases kbad <;> simp_all)), ?_⟩)
        ·
         refine Ru 10 rfl ?_
         refine JL.nil ?_
         refine ⟨rfl, rfl, ?_⟩
         repeat (first | exact trivial | refine ⟨rfl, ?_⟩ | refine ⟨(by exact some_bool (by cases kbad <;> simp_all)), ?_⟩)
       ·
        refine Ru 15 rfl ?_
        refine JL.nil ?_
        refine ⟨rfl, rfl, ?_⟩
        repeat (first | exact trivial | refine ⟨rfl, ?_⟩ | refine ⟨(by exact some_bool (by cases kbad <;> simp_all)), ?_⟩)
     ·
      refine Cs rfl (fun hc33 => ?_) fun hc33 => ?_
      ·
       have hz : Nd.putL (decide (c = 0) && decide (t = 17)) ks none bs = none := (by rw [hp, Nd.putL_step _ _ _ _ _ hi']; cases hkb : kbad with
         | true => rw [hkf hkb]
         | false => rw [(hkt hkb).1]; show (if _ then _ else _) = _; rw [if_pos (by rw [above_if]; rw [hkb, Bool.false_or] at hc33; exact hc33)])
       refine Sr ?_
       refine Ru 3 rfl ?_
       refine JL.store1 ag_4 rfl rfl rfl (by repeat (first | exact Del.here | apply Del.there)) (by first | rfl | (simp; omega)) ?_
       refine JL.nil ?_
       refine Sr ?_
       refine Ru 1 rfl ?_
       refine JL.nil ?_
       exact J.ret ⟨_, [_], _, (RetV.one rfl rfl), .cons (by repeat (first | exact Del.here | apply Del.there)) .nil, _, rfl, [], none, 0, _, true, rfl, SlR.nil_, rfl, (fun _ => by simp only [Nd.put]; rw [hok, hz]; rfl), (fun hh => by cases hh)⟩
      ·
       have hkb : kbad = false := (by cases kbad <;> simp_all); subst hkb; have hkp := (hkt rfl).1; have hkd := (hkt rfl).2; have hkl := Nd.put_len _ _ kb (Nat.le_refl _) hkp; rw [Bool.false_or] at hc33; have hcz := hc33; have hki := hkr i hi'
       refine J.skip ?_
       refine Sr ?_
       refine Ru 5 rfl ?_
       refine JL.ope (RunE.cut_full sl_22 rfl rfl rfl (by assumption) rfl rfl rfl) rfl ?_
       rintro _ ⟨a34, rfl, hS34⟩
       refine Ru 1 rfl ?_
       refine JL.appendFull ap_22 rfl rfl (by assumption) rfl rfl (by assumption) rfl (by omega) (by first | omega | (simp only [List.length_append, List.length_cons, List.length_nil]; omega)) rfl rfl (fun a35 c35 xs35 hC35 hN35 => ?_)
       obtain rfl := hC35.u8
       refine Ru 1 rfl ?_
       refine JL.pub (R := u8R) (l := inB ++ kb) (by repeat (first | exact Del.here | apply Del.there)) CellsR.of_u8 rfl (by first | omega | (simp only [List.length_append, List.length_cons, List.length_nil]; omega)) (fun h36 hle36 hP36 => ?_)
       replace r := r.mono hle36
       replace hT := hT.mono hle36
       replace ha := ha.mono hle36
       replace hb := hb.mono hle36
       replace hhg := hhg.mono hle36
       replace hin := hin.mono hle36
       replace hla := hla.mono hle36
       replace hNd25 := hNd25.mono hle36
       replace hkS := hkS.mono hle36
       refine JL.nil ?_
       refine Rg ?_
       refine Ru 2 rfl ?_
       refine JL.nil ?_
       refine Rg ?_
       refine JL.ents [.blk bw _ _, .blk b1 _ _] (by repeat first | exact Parts.nil | exact Del.here | apply Del.there | apply Parts.cons) ?_
       refine JL.op (by first | exact RunV.add_i64 rfl rfl (by omega) (by omega) | exact RunV.add rfl rfl) rfl ?_
       refine Ru 1 rfl ?_
       refine JL.nil ?_
       refine ⟨_, ?_, _, ?_, ⟨_, i + 1, inB ++ kb, kb, _, _, _, _, _, rfl, rfl, rfl, rfl, ⟨by assumption, by omega, by assumption, by assumption, by rw [List.length_append, hzt]; omega, by rw [hkd, hd, hrt]; omega, by rw [hp, Nd.putL_step _ _ _ _ _ hi', hkp]; show (if _ then _ else _) = _; rw [if_neg (by rw [above_if, hcz]; decide), if_neg (by omega)]⟩⟩⟩
       ·
        omega
       ·
        repeat (first | exact trivial | refine ⟨rfl, ?_⟩)
    ·
     refine J.exit ?_
     refine Kp [4, 7] rfl ?_
     refine Sr ?_
     refine JL.op (RunV.ownA ag_25 rfl (by repeat (first | exact List.mem_cons_self .. | apply List.mem_cons_of_mem)) (by first | rfl | exact NdR.len5 (by assumption))) rfl ?_
     refine Ru 2 rfl ?_
     have hhl := headB_len c t k inB.length; have hst2 := Nd.szL_take_le ks i
     refine JL.call ca_63 rfl (head_fn r hmm.1 hmm.2 (by omega)) (by repeat first | exact Parts.nil | exact Del.here | apply Del.there | apply Parts.cons) rfl ?_
     rintro _ h37 Lo37 hle37 ⟨a37, c37, rfl, rfl⟩
     replace r := r.mono hle37
     replace hT := hT.mono hle37
     replace ha := ha.mono hle37
     replace hb := hb.mono hle37
     replace hhg := hhg.mono hle37
     replace hin := hin.mono hle37
     replace hla := hla.mono hle37
     simp only [Nd.cls, Nd.tag, Nd.cons]
     refine Ru 1 rfl ?_
     refine JL.append ap_22 rfl rfl CellsR.of_u8 rfl (by assumption) rfl (by repeat (first | exact Del.here | apply Del.there)) (by first | omega | (simp only [List.length_append, List.length_cons, List.length_nil]; omega)) rfl rfl (fun a38 c38 xs38 hC38 hN38 => ?_)
     obtain rfl := hC38.u8
     refine Ru 1 rfl ?_
     refine JL.pub (R := u8R) (l := headB c t k inB.length ++ inB) (by repeat (first | exact Del.here | apply Del.there)) CellsR.of_u8 rfl (by first | omega | (simp only [List.length_append, List.length_cons, List.length_nil]; omega)) (fun h39 hle39 hP39 => ?_)
     replace r := r.mono hle39
     replace hT := hT.mono hle39
     replace ha := ha.mono hle39
     replace hb := hb.mono hle39
     replace hhg := hhg.mono hle39
     replace hin := hin.mono hle39
     replace hla := hla.mono hle39
     refine Nk [6] rfl ?_
     have hz : Nd.putL (decide (c = 0) && decide (t = 17)) ks none bs = some inB := by rw [hp, List.drop_of_length_le (by omega)]; rfl
     exact J.ret ⟨_, [_], _, (RetV.one rfl rfl), .cons (by repeat (first | exact Del.here | apply Del.there)) .nil, _, rfl, headB c t k inB.length ++ inB, _, _, _, false, rfl, by assumption, rfl, (fun hh => by cases hh), (fun _ => ⟨by simp only [Nd.put]; rw [hok, hz]; rfl, by rw [hd, List.take_of_length_le (by omega)]; simp only [Nd.rk]; omega⟩)⟩

end Go.Proofs.YtmngjbefnloljaaDoor
