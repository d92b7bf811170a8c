/- Walks: the program's rules of nodes: tags, values, heads. -/
import Derived.Test.YtmngjbefnloljaaDoorDerR
import Derived.Test.YtmngjbefnloljaaDoorOid
set_option linter.unusedSimpArgs false
set_option linter.unusedVariables false
set_option linter.constructorNameAsVariable false
namespace Go.Proofs.YtmngjbefnloljaaDoor
open Go Go.RowKit
theorem ca_39 : callT Tryd.prog 39 = true := by kernel_rfl
theorem ca_86 : callT Tryd.prog 86 = true := by kernel_rfl
theorem ca_87 : callT Tryd.prog 87 = true := by kernel_rfl
theorem ca_88 : callT Tryd.prog 88 = true := by kernel_rfl
theorem ca_89 : callT Tryd.prog 89 = true := by kernel_rfl
theorem ca_90 : callT Tryd.prog 90 = true := by kernel_rfl
theorem ca_91 : callT Tryd.prog 91 = true := by kernel_rfl
theorem ca_92 : callT Tryd.prog 92 = true := by kernel_rfl
theorem cv_3_5 : convI Tryd.prog 3 5 = some .u8 := by kernel_rfl
theorem oidtext_fn {a0 : Option Addr} {c0 : Nat} {l : List UInt8} {h : Part} (hl : SlR u8R 1 h a0 c0 l) (hb : l.length ≤ 1073741824) :
    Pure Tryd.prog 87 [.slice a0 l.length c0] h (.tuple #[.string ⟨((oidT l).getD []).toArray⟩, .int .i64 (if (oidT l).isSome then 0 else 20)]) := Pure.ofV (oidtext_fn' hl hb)




theorem form_cases (t : Int) : form t = 0 ∨ form t = 1 ∨ form t = 2 := by
  unfold form
  split
  · exact .inr (.inr rfl)
  · split
    · exact .inr (.inl rfl)
    · exact .inl rfl
theorem known_fn (t : Int) (h : Part) : Pure Tryd.prog 86 [.int .i64 t] h (.tuple #[.bool (decide (form t ≠ 0)), .bool (decide (form t = 2))]) := by
  refine Fn.intro Tryd.func86 rfl Tryd.ntmps86 rfl (fun e he => ?_)
  refine J.weak [(0, _)] ⟨rfl, trivial⟩ ?_
  refine Sr ?_
  refine Ru 2 rfl ?_
  refine JL.nil ?_
  refine J.seq ?_
  refine Sr ?_
  refine Ru 1 rfl ?_
  refine JL.nil ?_
  refine J.block ?_
  refine J.seq ?_
  refine Sr ?_
  refine Ru 2 rfl ?_
  refine JL.nil ?_
  refine Cs rfl (fun hc1 => ?_) fun hc1 => ?_
  ·
   refine J.skip ?_
   refine J.cond_t rfl ?_
   refine Sr ?_
   refine Ru 2 rfl ?_
   refine Nk [3, 2] rfl ?_
   exact J.retP (RetV.two rfl rfl rfl) (by simp [form, *]) rfl
  ·
   refine Rg ?_
   refine Ru 2 rfl ?_
   refine Nk [5, 4, 3, 2] rfl ?_
   refine Cs rfl (fun hc2 => ?_) fun hc2 => ?_
   ·
    refine Sr ?_
    refine Ru 2 rfl ?_
    refine Nk [3, 2] rfl ?_
    exact J.retP (RetV.two rfl rfl rfl) (by simp [form, *]) rfl
   ·
    refine J.seq ?_
    refine Sr ?_
    refine Ru 2 rfl ?_
    refine JL.nil ?_
    refine Cs rfl (fun hc3 => ?_) fun hc3 => ?_
    ·
     refine J.skip ?_
     refine Kp [8, 3, 2] rfl ?_
     refine J.cond_t rfl ?_
     refine Sr ?_
     refine Ru 2 rfl ?_
     refine JL.nil ?_
     exact J.retP (RetV.two rfl rfl rfl) (by simp [form, *]) rfl
    ·
     refine Sr ?_
     refine Ru 2 rfl ?_
     refine Nk [8, 4, 3, 2] rfl ?_
     refine Cs rfl (fun hc4 => ?_) fun hc4 => ?_
     ·
      refine J.skip ?_
      refine J.cond_t rfl ?_
      refine Sr ?_
      refine Ru 2 rfl ?_
      refine Nk [3, 2] rfl ?_
      exact J.retP (RetV.two rfl rfl rfl) (by simp [form, *]) rfl
     ·
      refine Sr ?_
      refine Ru 2 rfl ?_
      refine JL.nil ?_
      refine Cs rfl (fun hc5 => ?_) fun hc5 => ?_
      ·
       refine J.skip ?_
       refine Kp [8, 3, 2] rfl ?_
       refine J.cond_t rfl ?_
       refine Sr ?_
       refine Ru 2 rfl ?_
       refine JL.nil ?_
       exact J.retP (RetV.two rfl rfl rfl) (by simp [form, *]) rfl
      ·
       refine Sr ?_
       refine Ru 2 rfl ?_
       refine Nk [8, 4, 3, 2] rfl ?_
       refine Cs rfl (fun hc6 => ?_) fun hc6 => ?_
       ·
        refine J.skip ?_
        refine J.cond_t rfl ?_
        refine Sr ?_
        refine Ru 2 rfl ?_
        refine Nk [3, 2] rfl ?_
        exact J.retP (RetV.two rfl rfl rfl) (by simp [form, *]) rfl
       ·
        refine Sr ?_
        refine Ru 2 rfl ?_
        refine JL.nil ?_
        refine Cs rfl (fun hc7 => ?_) fun hc7 => ?_
        ·
         refine J.skip ?_
         refine Kp [8, 3, 2] rfl ?_
         refine J.cond_t rfl ?_
         refine Sr ?_
         refine Ru 2 rfl ?_
         refine JL.nil ?_
         exact J.retP (RetV.two rfl rfl rfl) (by simp [form, *]) rfl
        ·
         refine Sr ?_
         refine Ru 2 rfl ?_
         refine Nk [8, 4, 3, 2] rfl ?_
         refine Cs rfl (fun hc8 => ?_) fun hc8 => ?_
         ·
          refine J.skip ?_
          refine J.cond_t rfl ?_
          refine Sr ?_
          refine Ru 2 rfl ?_
          refine Nk [3, 2] rfl ?_
          exact J.retP (RetV.two rfl rfl rfl) (by simp [form, *]) rfl
         ·
          refine Sr ?_
          refine Ru 2 rfl ?_
          refine JL.nil ?_
          refine Cs rfl (fun hc9 => ?_) fun hc9 => ?_
          ·
           refine J.skip ?_
           refine Kp [8, 3, 2] rfl ?_
           refine J.cond_t rfl ?_
           refine Sr ?_
           refine Ru 2 rfl ?_
           refine JL.nil ?_
           exact J.retP (RetV.two rfl rfl rfl) (by simp [form, *]) rfl
          ·
           refine Sr ?_
           refine Ru 2 rfl ?_
           refine Nk [8, 4, 3, 2] rfl ?_
           refine Cs rfl (fun hc10 => ?_) fun hc10 => ?_
           ·
            refine J.skip ?_
            refine J.cond_t rfl ?_
            refine Sr ?_
            refine Ru 2 rfl ?_
            refine Nk [3, 2] rfl ?_
            exact J.retP (RetV.two rfl rfl rfl) (by simp [form, *]) rfl
           ·
            refine Sr ?_
            refine Ru 2 rfl ?_
            refine JL.nil ?_
            refine Cs rfl (fun hc11 => ?_) fun hc11 => ?_
            ·
             refine J.skip ?_
             refine Kp [8, 3, 2] rfl ?_
             refine J.cond_t rfl ?_
             refine Sr ?_
             refine Ru 2 rfl ?_
             refine JL.nil ?_
             exact J.retP (RetV.two rfl rfl rfl) (by simp [form, *]) rfl
            ·
             refine Sr ?_
             refine Ru 2 rfl ?_
             refine Nk [8, 4, 3, 2] rfl ?_
             refine Cs rfl (fun hc12 => ?_) fun hc12 => ?_
             ·
              refine J.skip ?_
              refine J.cond_t rfl ?_
              refine Sr ?_
              refine Ru 2 rfl ?_
              refine Nk [3, 2] rfl ?_
              exact J.retP (RetV.two rfl rfl rfl) (by simp [form, *]) rfl
             ·
              refine Sr ?_
              refine Ru 2 rfl ?_
              refine JL.nil ?_
              refine Cs rfl (fun hc13 => ?_) fun hc13 => ?_
              ·
               refine J.skip ?_
               refine Kp [8, 3, 2] rfl ?_
               refine J.cond_t rfl ?_
               refine Sr ?_
               refine Ru 2 rfl ?_
               refine JL.nil ?_
               exact J.retP (RetV.two rfl rfl rfl) (by simp [form, *]) rfl
              ·
               refine Rg ?_
               refine Ru 2 rfl ?_
               refine Nk [8, 3, 2] rfl ?_
               refine Cs rfl (fun hc14 => ?_) fun hc14 => ?_
               ·
                refine Sr ?_
                refine Ru 2 rfl ?_
                refine JL.nil ?_
                exact J.retP (RetV.two rfl rfl rfl) (by simp [form, *]) rfl
               ·
                refine J.skip ?_
                refine Sr ?_
                refine Ru 2 rfl ?_
                refine JL.nil ?_
                exact J.retP (RetV.two rfl rfl rfl) (by simp [form, *]) rfl




theorem Nd.one5 (c t : Int) (k : Bool) (a b : Option Addr) (n m ca cb : Nat) : ([Value.int .i64 c, .int .i64 t, .bool k, .slice a n ca, .slice b m cb].all (·.oneCell')) = true := rfl

theorem pmay_fn {x : Nd} {cs : List Value} {h : Part} (r : NdR h cs x) : Pure Tryd.prog 61 [.agg cs.toArray] h (.bool (mayB x.cls x.tag x.cons)) := by
  cases x with
  | mk c t k bs ks =>
  obtain ⟨a, ca, b, cb, rfl, ha, hb⟩ := r.inv
  simp only [Nd.cls, Nd.tag, Nd.cons]
  have hf := form_cases t
  refine Fn.intro Tryd.func61 rfl Tryd.ntmps61 rfl (fun e he => ?_)
  refine J.weak [(0, _)] ⟨rfl, trivial⟩ ?_
  refine Sr ?_
  refine JL.box rfl rfl rfl (fun b1 => ?_)
  refine Ru 1 rfl ?_
  refine JL.nil ?_
  refine J.seq ?_
  refine Sr ?_
  refine Ru 1 rfl ?_
  refine JL.op (RunV.own1 ag_3 rfl (by repeat (first | exact List.mem_cons_self .. | apply List.mem_cons_of_mem)) rfl) rfl ?_
  refine Ru 2 rfl ?_
  refine Bs 8 rfl (fun hc2 => ?_) fun hc2 => ?_
  ·
   refine Ru 4 rfl ?_
   refine Nk [12, 2, 1] rfl ?_
   refine J.cond_t rfl ?_
   refine Sr ?_
   refine Ru 1 rfl ?_
   refine JL.nil ?_
   exact J.retP (RetV.one rfl rfl) (by rcases hf with hf | hf | hf <;> cases k <;> simp_all [mayB] <;> omega) rfl
  ·
   refine Ru 1 rfl ?_
   refine JL.opg rfl rfl  (RunV.own1 ag_3 rfl (by repeat (first | exact List.mem_cons_self .. | apply List.mem_cons_of_mem)) rfl) rfl ?_
   refine Ru 2 rfl ?_
   refine Nk [12, 2, 1] rfl ?_
   refine Cs rfl (fun hc3 => ?_) fun hc3 => ?_
   ·
    refine Sr ?_
    refine Ru 1 rfl ?_
    refine JL.nil ?_
    exact J.retP (RetV.one rfl rfl) (by rcases hf with hf | hf | hf <;> cases k <;> simp_all [mayB] <;> omega) rfl
   ·
    refine J.skip ?_
    refine J.seq ?_
    refine Sr ?_
    refine Ru 1 rfl ?_
    refine JL.op (RunV.own1 ag_3 rfl (by repeat (first | exact List.mem_cons_self .. | apply List.mem_cons_of_mem)) rfl) rfl ?_
    refine JL.nil ?_
    refine J.block ?_
    refine Sr ?_
    refine Ru 2 rfl ?_
    refine JL.nil ?_
    refine Cs rfl (fun hc4 => ?_) fun hc4 => ?_
    ·
     refine Sr ?_
     refine Ru 1 rfl ?_
     refine Nk [2] rfl ?_
     exact J.retP (RetV.one rfl rfl) (by rcases hf with hf | hf | hf <;> cases k <;> simp_all [mayB] <;> omega) rfl
    ·
     refine Sr ?_
     refine Ru 2 rfl ?_
     refine Nk [17, 2, 1] rfl ?_
     refine Cs rfl (fun hc5 => ?_) fun hc5 => ?_
     ·
      refine Sr ?_
      refine Ru 1 rfl ?_
      refine JL.op (RunV.own1 ag_3 rfl (by repeat (first | exact List.mem_cons_self .. | apply List.mem_cons_of_mem)) rfl) rfl ?_
      refine JL.callP ca_86 rfl (known_fn _ _) rfl ?_
      refine Ru 5 rfl ?_
      refine Nk [4, 3, 2, 1] rfl ?_
      refine Sr ?_
      refine Ru 2 rfl ?_
      refine Bs 26 rfl (fun hc7 => ?_) fun hc7 => ?_
      ·
       refine Ru 2 rfl ?_
       refine JL.opg rfl rfl  (RunV.own1 ag_4 rfl (by repeat (first | exact List.mem_cons_self .. | apply List.mem_cons_of_mem)) rfl) rfl ?_
       refine JL.opg rfl rfl  (RunV.eqlB un_4 rfl rfl) rfl ?_
       refine Ru 2 rfl ?_
       refine Nk [2] rfl ?_
       exact J.retP (RetV.one rfl rfl) (by rcases hf with hf | hf | hf <;> cases k <;> simp_all [mayB] <;> omega) rfl
      ·
       refine Ru 6 rfl ?_
       refine Nk [2] rfl ?_
       exact J.retP (RetV.one rfl rfl) (by rcases hf with hf | hf | hf <;> cases k <;> simp_all [mayB] <;> omega) rfl
     ·
      refine J.skip ?_
      refine Sr ?_
      refine Ru 1 rfl ?_
      refine JL.nil ?_
      exact J.retP (RetV.one rfl rfl) (by rcases hf with hf | hf | hf <;> cases k <;> simp_all [mayB] <;> omega) rfl




def leastB (b : List UInt8) : Bool := if b.length = 0 then false else if b.length = 1 then true else decide (¬ (byteAt b 0 = 0 ∧ byteAt b 1 < 128 ∨ byteAt b 0 = 255 ∧ 127 < byteAt b 1))
theorem least_fn {a : Option Addr} {c : Nat} {l : List UInt8} {h : Part} (hl : SlR u8R 1 h a c l) : Pure Tryd.prog 39 [.slice a l.length c] h (.bool (leastB l)) := by
  have hb := hl.le63
  refine Fn.intro Tryd.func39 rfl Tryd.ntmps39 rfl (fun e he => ?_)
  refine J.weak [(0, _)] ⟨rfl, trivial⟩ ?_
  refine Sr ?_
  refine Ru 1 rfl ?_
  refine JL.nil ?_
  refine J.seq ?_
  refine J.block ?_
  refine Sr ?_
  refine Ru 4 rfl ?_
  refine JL.nil ?_
  refine Cs rfl (fun hc1 => ?_) fun hc1 => ?_
  ·
   refine Sr ?_
   refine Ru 1 rfl ?_
   refine Nk [2, 0] rfl ?_
   exact J.retP (RetV.one rfl rfl) (by rw [leastB, if_pos (by omega)]) rfl
  ·
   refine Sr ?_
   refine Ru 4 rfl ?_
   refine Nk [7, 2, 0] rfl ?_
   refine Cs rfl (fun hc2 => ?_) fun hc2 => ?_
   ·
    refine Sr ?_
    refine Ru 1 rfl ?_
    refine JL.nil ?_
    exact J.retP (RetV.one rfl rfl) (by rw [leastB, if_neg (by omega), if_pos (by omega)]) rfl
   ·
    refine J.skip ?_
    refine Sr ?_
    have e0 := byteAt_eq l 0 (by omega); have e1 := byteAt_eq l 1 (by omega)
    refine Ru 1 rfl ?_
    refine JL.ope (RunE.index sl_22 rfl rfl (show _ = ((0 : Nat) : Int) from rfl) (by assumption) rfl (by omega)) rfl ?_
    rintro _ ⟨b3, o3, hi3, rfl, hE3⟩
    refine JL.op (RunV.ld_u8 ag_5 rfl (by assumption)) rfl ?_
    refine Ru 2 rfl ?_
    refine Bs 15 rfl (fun hc5 => ?_) fun hc5 => ?_
    ·
     refine Ru 1 rfl ?_
     refine JL.opeg rfl rfl  (RunE.index sl_22 rfl rfl (show _ = ((1 : Nat) : Int) from rfl) (by assumption) rfl (by omega)) rfl ?_
     rintro _ ⟨b6, o6, hi6, rfl, hE6⟩
     refine JL.opg rfl rfl  (RunV.ld_u8 ag_5 rfl (by assumption)) rfl ?_
     refine Ru 3 rfl ?_
     refine Bs 21 rfl (fun hc8 => ?_) fun hc8 => ?_
     ·
      refine Ru 13 rfl ?_
      refine Nk [2] rfl ?_
      exact J.retP (RetV.one rfl rfl) (by rw [leastB, if_neg (by omega), if_neg (by omega), ← e0, ← e1]; (congr 1; first | exact (decide_eq_true (by omega)).symm | exact (decide_eq_false (by omega)).symm | exact decide_eq_decide.2 (by omega) | (rw [← decide_not]; exact decide_eq_decide.2 (by omega)))) rfl
     ·
      refine Ru 1 rfl ?_
      refine JL.opeg rfl rfl  (RunE.index sl_22 rfl rfl (show _ = ((0 : Nat) : Int) from rfl) (by assumption) rfl (by omega)) rfl ?_
      rintro _ ⟨b9, o9, hi9, rfl, hE9⟩
      refine JL.opg rfl rfl  (RunV.ld_u8 ag_5 rfl (by assumption)) rfl ?_
      refine Ru 2 rfl ?_
      refine Bs 26 rfl (fun hc11 => ?_) fun hc11 => ?_
      ·
       refine Ru 1 rfl ?_
       refine JL.opeg rfl rfl  (RunE.index sl_22 rfl rfl (show _ = ((1 : Nat) : Int) from rfl) (by assumption) rfl (by omega)) rfl ?_
       rintro _ ⟨b12, o12, hi12, rfl, hE12⟩
       refine JL.opg rfl rfl  (RunV.ld_u8 ag_5 rfl (by assumption)) rfl ?_
       refine Ru 5 rfl ?_
       refine Nk [2] rfl ?_
       exact J.retP (RetV.one rfl rfl) (by rw [leastB, if_neg (by omega), if_neg (by omega), ← e0, ← e1]; (congr 1; first | exact (decide_eq_true (by omega)).symm | exact (decide_eq_false (by omega)).symm | exact decide_eq_decide.2 (by omega) | (rw [← decide_not]; exact decide_eq_decide.2 (by omega)))) rfl
      ·
       refine Ru 8 rfl ?_
       refine Nk [2] rfl ?_
       exact J.retP (RetV.one rfl rfl) (by rw [leastB, if_neg (by omega), if_neg (by omega), ← e0, ← e1]; (congr 1; first | exact (decide_eq_true (by omega)).symm | exact (decide_eq_false (by omega)).symm | exact decide_eq_decide.2 (by omega) | (rw [← decide_not]; exact decide_eq_decide.2 (by omega)))) rfl
    ·
     refine Ru 7 rfl ?_
     refine JL.opeg rfl rfl  (RunE.index sl_22 rfl rfl (show _ = ((0 : Nat) : Int) from rfl) (by assumption) rfl (by omega)) rfl ?_
     rintro _ ⟨b14, o14, hi14, rfl, hE14⟩
     refine JL.opg rfl rfl  (RunV.ld_u8 ag_5 rfl (by assumption)) rfl ?_
     refine Ru 2 rfl ?_
     refine Bs 26 rfl (fun hc16 => ?_) fun hc16 => ?_
     ·
      refine Ru 1 rfl ?_
      refine JL.opeg rfl rfl  (RunE.index sl_22 rfl rfl (show _ = ((1 : Nat) : Int) from rfl) (by assumption) rfl (by omega)) rfl ?_
      rintro _ ⟨b17, o17, hi17, rfl, hE17⟩
      refine JL.opg rfl rfl  (RunV.ld_u8 ag_5 rfl (by assumption)) rfl ?_
      refine Ru 5 rfl ?_
      refine Nk [2] rfl ?_
      exact J.retP (RetV.one rfl rfl) (by rw [leastB, if_neg (by omega), if_neg (by omega), ← e0, ← e1]; (congr 1; first | exact (decide_eq_true (by omega)).symm | exact (decide_eq_false (by omega)).symm | exact decide_eq_decide.2 (by omega) | (rw [← decide_not]; exact decide_eq_decide.2 (by omega)))) rfl
     ·
      refine Ru 8 rfl ?_
      refine Nk [2] rfl ?_
      exact J.retP (RetV.one rfl rfl) (by rw [leastB, if_neg (by omega), if_neg (by omega), ← e0, ← e1]; (congr 1; first | exact (decide_eq_true (by omega)).symm | exact (decide_eq_false (by omega)).symm | exact decide_eq_decide.2 (by omega) | (rw [← decide_not]; exact decide_eq_decide.2 (by omega)))) rfl




def bitsB (b : List UInt8) : Bool := decide (¬ (b.length = 0 ∨ 7 < byteAt b 0 ∨ b.length = 1 ∧ 0 < byteAt b 0) ∧ (byteAt b 0 = 0 ∨ byteAt b (b.length - 1) % 2 ^ byteAt b 0 = 0))
def valB (t : Int) (b : List UInt8) : Bool :=
  if t = 1 then decide (b.length = 1 ∧ (byteAt b 0 = 0 ∨ byteAt b 0 = 255)) else if t = 2 ∨ t = 10 then leastB b else if t = 3 then bitsB b else if t = 5 then decide (b.length = 0)
  else if t = 6 then (oidT b).isSome else if t = 12 then runes (fun c n => !decide (c = 65533 ∧ n = 1)) b 0 else if t = 19 then runes (fun c _ => prC c) b 0 else if t = 22 then runes (fun c _ => decide (c ≤ 127)) b 0
  else if t = 23 then psOk b else if t = 24 then plOk b else true
theorem valB_1 {t : Int} {b : List UInt8} (h : t = 1) : valB t b = decide (b.length = 1 ∧ (byteAt b 0 = 0 ∨ byteAt b 0 = 255)) := by
  unfold valB; rw [if_pos (by omega)]
theorem valB_2 {t : Int} {b : List UInt8} (h : t = 2 ∨ t = 10) : valB t b = leastB b := by
  unfold valB; rw [if_neg (by omega)]; rw [if_pos (by omega)]
theorem valB_3 {t : Int} {b : List UInt8} (h : t = 3) : valB t b = bitsB b := by
  unfold valB; rw [if_neg (by omega)]; rw [if_neg (by omega)]; rw [if_pos (by omega)]
theorem valB_5 {t : Int} {b : List UInt8} (h : t = 5) : valB t b = decide (b.length = 0) := by
  unfold valB; rw [if_neg (by omega)]; rw [if_neg (by omega)]; rw [if_neg (by omega)]; rw [if_pos (by omega)]
theorem valB_6 {t : Int} {b : List UInt8} (h : t = 6) : valB t b = (oidT b).isSome := by
  unfold valB; rw [if_neg (by omega)]; rw [if_neg (by omega)]; rw [if_neg (by omega)]; rw [if_neg (by omega)]; rw [if_pos (by omega)]
theorem valB_12 {t : Int} {b : List UInt8} (h : t = 12) : valB t b = runes (fun c n => !decide (c = 65533 ∧ n = 1)) b 0 := by
  unfold valB; rw [if_neg (by omega)]; rw [if_neg (by omega)]; rw [if_neg (by omega)]; rw [if_neg (by omega)]; rw [if_neg (by omega)]; rw [if_pos (by omega)]
theorem valB_19 {t : Int} {b : List UInt8} (h : t = 19) : valB t b = runes (fun c _ => prC c) b 0 := by
  unfold valB; rw [if_neg (by omega)]; rw [if_neg (by omega)]; rw [if_neg (by omega)]; rw [if_neg (by omega)]; rw [if_neg (by omega)]; rw [if_neg (by omega)]; rw [if_pos (by omega)]
theorem valB_22 {t : Int} {b : List UInt8} (h : t = 22) : valB t b = runes (fun c _ => decide (c ≤ 127)) b 0 := by
  unfold valB; rw [if_neg (by omega)]; rw [if_neg (by omega)]; rw [if_neg (by omega)]; rw [if_neg (by omega)]; rw [if_neg (by omega)]; rw [if_neg (by omega)]; rw [if_neg (by omega)]; rw [if_pos (by omega)]
theorem valB_23 {t : Int} {b : List UInt8} (h : t = 23) : valB t b = psOk b := by
  unfold valB; rw [if_neg (by omega)]; rw [if_neg (by omega)]; rw [if_neg (by omega)]; rw [if_neg (by omega)]; rw [if_neg (by omega)]; rw [if_neg (by omega)]; rw [if_neg (by omega)]; rw [if_neg (by omega)]; rw [if_pos (by omega)]
theorem valB_24 {t : Int} {b : List UInt8} (h : t = 24) : valB t b = plOk b := by
  unfold valB; rw [if_neg (by omega)]; rw [if_neg (by omega)]; rw [if_neg (by omega)]; rw [if_neg (by omega)]; rw [if_neg (by omega)]; rw [if_neg (by omega)]; rw [if_neg (by omega)]; rw [if_neg (by omega)]; rw [if_neg (by omega)]; rw [if_pos (by omega)]
theorem valB_0 {t : Int} {b : List UInt8} (h : ¬ (t = 1 ∨ t = 2 ∨ t = 10 ∨ t = 3 ∨ t = 5 ∨ t = 6 ∨ t = 12 ∨ t = 19 ∨ t = 22 ∨ t = 23 ∨ t = 24)) : valB t b = true := by
  unfold valB; rw [if_neg (by omega)]; rw [if_neg (by omega)]; rw [if_neg (by omega)]; rw [if_neg (by omega)]; rw [if_neg (by omega)]; rw [if_neg (by omega)]; rw [if_neg (by omega)]; rw [if_neg (by omega)]; rw [if_neg (by omega)]; rw [if_neg (by omega)]
theorem pow2_7 (n : Nat) (h : n ≤ 7) : (1 : Int) ≤ 2 ^ n ∧ (2 : Int) ^ n ≤ 128 := by
  have : n = 0 ∨ n = 1 ∨ n = 2 ∨ n = 3 ∨ n = 4 ∨ n = 5 ∨ n = 6 ∨ n = 7 := by omega
  rcases this with rfl | rfl | rfl | rfl | rfl | rfl | rfl | rfl <;> decide
theorem value_fn {t : Int} {a : Option Addr} {c : Nat} {l : List UInt8} {h : Part} (hl : SlR u8R 1 h a c l) (hT : Tabs h) (hb : l.length ≤ 1073741824) : Pure Tryd.prog 62 [.int .i64 t, .slice a l.length c] h (.bool (valB t l)) := by
  have e0 := fun hh => byteAt_eq l 0 hh
  refine Fn.intro Tryd.func62 rfl Tryd.ntmps62 rfl (fun e he => ?_)
  refine J.weak [(0, _), (1, _)] ⟨rfl, rfl, trivial⟩ ?_
  refine Sr ?_
  refine Ru 1 rfl ?_
  refine JL.nil ?_
  refine J.seq ?_
  refine Sr ?_
  refine Ru 1 rfl ?_
  refine JL.nil ?_
  refine J.block ?_
  refine Sr ?_
  refine Ru 2 rfl ?_
  refine JL.nil ?_
  refine Cs rfl (fun hc1 => ?_) fun hc1 => ?_
  ·
   refine Sr ?_
   refine Ru 4 rfl ?_
   refine Bs 18 rfl (fun hc2 => ?_) fun hc2 => ?_
   ·
    refine Ru 1 rfl ?_
    refine JL.opeg rfl rfl  (RunE.index sl_22 rfl rfl (show _ = ((0 : Nat) : Int) from rfl) (by assumption) rfl (by omega)) rfl ?_
    rintro _ ⟨b3, o3, hi3, rfl, hE3⟩
    refine JL.opg rfl rfl  (RunV.ld_u8 ag_5 rfl (by assumption)) rfl ?_
    refine Ru 2 rfl ?_
    refine Bs 23 rfl (fun hc5 => ?_) fun hc5 => ?_
    ·
     refine Ru 7 rfl ?_
     refine Nk [4] rfl ?_
     exact J.retP (RetV.one rfl rfl) (by first | (rw [valB_1 (by omega), ← e0 (by omega)]; (congr 1; first | exact (decide_eq_true (by omega)).symm | exact (decide_eq_false (by omega)).symm | exact decide_eq_decide.2 (by omega) | (rw [← decide_not]; exact decide_eq_decide.2 (by omega)))) | (rw [valB_1 (by omega)]; (congr 1; first | exact (decide_eq_true (by omega)).symm | exact (decide_eq_false (by omega)).symm | exact decide_eq_decide.2 (by omega) | (rw [← decide_not]; exact decide_eq_decide.2 (by omega)))) | rw [valB_2 (by omega)] | (rw [valB_3 (by omega), bitsB, ← e0, ← e1, decide_eq_true (by omega)]; done) | (rw [valB_3 (by omega), bitsB, ← e0, ← e1]; congr 1; exact decide_eq_decide.2 ⟨fun hh => ⟨by omega, .inr (by exact_mod_cast hh)⟩, fun ⟨_, hh⟩ => by exact_mod_cast hh.resolve_left (by omega)⟩) | (rw [valB_3 (by omega), bitsB, ← e0 (by omega), decide_eq_false (by omega)]; done) | (rw [valB_3 (by omega), bitsB, decide_eq_false (by omega)]; done) | (rw [valB_5 (by omega)]; (congr 1; first | exact (decide_eq_true (by omega)).symm | exact (decide_eq_false (by omega)).symm | exact decide_eq_decide.2 (by omega) | (rw [← decide_not]; exact decide_eq_decide.2 (by omega)))) | (rw [valB_6 (by omega)]; cases (oidT l).isSome <;> rfl) | rw [valB_12 (by omega)] | rw [valB_19 (by omega)] | rw [valB_22 (by omega)] | (rw [valB_23 (by omega)]; cases psOk l <;> rfl) | (rw [valB_24 (by omega)]; cases plOk l <;> rfl) | rw [valB_0 (by omega)]) rfl
    ·
     refine Ru 1 rfl ?_
     refine JL.opeg rfl rfl  (RunE.index sl_22 rfl rfl (show _ = ((0 : Nat) : Int) from rfl) (by assumption) rfl (by omega)) rfl ?_
     rintro _ ⟨b6, o6, hi6, rfl, hE6⟩
     refine JL.opg rfl rfl  (RunV.ld_u8 ag_5 rfl (by assumption)) rfl ?_
     refine Ru 4 rfl ?_
     refine Nk [4] rfl ?_
     exact J.retP (RetV.one rfl rfl) (by first | (rw [valB_1 (by omega), ← e0 (by omega)]; (congr 1; first | exact (decide_eq_true (by omega)).symm | exact (decide_eq_false (by omega)).symm | exact decide_eq_decide.2 (by omega) | (rw [← decide_not]; exact decide_eq_decide.2 (by omega)))) | (rw [valB_1 (by omega)]; (congr 1; first | exact (decide_eq_true (by omega)).symm | exact (decide_eq_false (by omega)).symm | exact decide_eq_decide.2 (by omega) | (rw [← decide_not]; exact decide_eq_decide.2 (by omega)))) | rw [valB_2 (by omega)] | (rw [valB_3 (by omega), bitsB, ← e0, ← e1, decide_eq_true (by omega)]; done) | (rw [valB_3 (by omega), bitsB, ← e0, ← e1]; congr 1; exact decide_eq_decide.2 ⟨fun hh => ⟨by omega, .inr (by exact_mod_cast hh)⟩, fun ⟨_, hh⟩ => by exact_mod_cast hh.resolve_left (by omega)⟩) | (rw [valB_3 (by omega), bitsB, ← e0 (by omega), decide_eq_false (by omega)]; done) | (rw [valB_3 (by omega), bitsB, decide_eq_false (by omega)]; done) | (rw [valB_5 (by omega)]; (congr 1; first | exact (decide_eq_true (by omega)).symm | exact (decide_eq_false (by omega)).symm | exact decide_eq_decide.2 (by omega) | (rw [← decide_not]; exact decide_eq_decide.2 (by omega)))) | (rw [valB_6 (by omega)]; cases (oidT l).isSome <;> rfl) | rw [valB_12 (by omega)] | rw [valB_19 (by omega)] | rw [valB_22 (by omega)] | (rw [valB_23 (by omega)]; cases psOk l <;> rfl) | (rw [valB_24 (by omega)]; cases plOk l <;> rfl) | rw [valB_0 (by omega)]) rfl
   ·
    refine Ru 12 rfl ?_
    refine Nk [4] rfl ?_
    exact J.retP (RetV.one rfl rfl) (by first | (rw [valB_1 (by omega), ← e0 (by omega)]; (congr 1; first | exact (decide_eq_true (by omega)).symm | exact (decide_eq_false (by omega)).symm | exact decide_eq_decide.2 (by omega) | (rw [← decide_not]; exact decide_eq_decide.2 (by omega)))) | (rw [valB_1 (by omega)]; (congr 1; first | exact (decide_eq_true (by omega)).symm | exact (decide_eq_false (by omega)).symm | exact decide_eq_decide.2 (by omega) | (rw [← decide_not]; exact decide_eq_decide.2 (by omega)))) | rw [valB_2 (by omega)] | (rw [valB_3 (by omega), bitsB, ← e0, ← e1, decide_eq_true (by omega)]; done) | (rw [valB_3 (by omega), bitsB, ← e0, ← e1]; congr 1; exact decide_eq_decide.2 ⟨fun hh => ⟨by omega, .inr (by exact_mod_cast hh)⟩, fun ⟨_, hh⟩ => by exact_mod_cast hh.resolve_left (by omega)⟩) | (rw [valB_3 (by omega), bitsB, ← e0 (by omega), decide_eq_false (by omega)]; done) | (rw [valB_3 (by omega), bitsB, decide_eq_false (by omega)]; done) | (rw [valB_5 (by omega)]; (congr 1; first | exact (decide_eq_true (by omega)).symm | exact (decide_eq_false (by omega)).symm | exact decide_eq_decide.2 (by omega) | (rw [← decide_not]; exact decide_eq_decide.2 (by omega)))) | (rw [valB_6 (by omega)]; cases (oidT l).isSome <;> rfl) | rw [valB_12 (by omega)] | rw [valB_19 (by omega)] | rw [valB_22 (by omega)] | (rw [valB_23 (by omega)]; cases psOk l <;> rfl) | (rw [valB_24 (by omega)]; cases plOk l <;> rfl) | rw [valB_0 (by omega)]) rfl
  ·
   refine J.seq ?_
   refine Sr ?_
   refine Ru 2 rfl ?_
   refine Nk [30, 12, 4, 1] rfl ?_
   refine Cs rfl (fun hc8 => ?_) fun hc8 => ?_
   ·
    refine J.skip ?_
    refine J.cond_t rfl ?_
    refine Sr ?_
    refine Ru 1 rfl ?_
    refine JL.callP ca_39 rfl (least_fn (by assumption)) rfl ?_
    refine Ru 1 rfl ?_
    refine Nk [4] rfl ?_
    exact J.retP (RetV.one rfl rfl) (by first | (rw [valB_1 (by omega), ← e0 (by omega)]; (congr 1; first | exact (decide_eq_true (by omega)).symm | exact (decide_eq_false (by omega)).symm | exact decide_eq_decide.2 (by omega) | (rw [← decide_not]; exact decide_eq_decide.2 (by omega)))) | (rw [valB_1 (by omega)]; (congr 1; first | exact (decide_eq_true (by omega)).symm | exact (decide_eq_false (by omega)).symm | exact decide_eq_decide.2 (by omega) | (rw [← decide_not]; exact decide_eq_decide.2 (by omega)))) | rw [valB_2 (by omega)] | (rw [valB_3 (by omega), bitsB, ← e0, ← e1, decide_eq_true (by omega)]; done) | (rw [valB_3 (by omega), bitsB, ← e0, ← e1]; congr 1; exact decide_eq_decide.2 ⟨fun hh => ⟨by omega, .inr (by exact_mod_cast hh)⟩, fun ⟨_, hh⟩ => by exact_mod_cast hh.resolve_left (by omega)⟩) | (rw [valB_3 (by omega), bitsB, ← e0 (by omega), decide_eq_false (by omega)]; done) | (rw [valB_3 (by omega), bitsB, decide_eq_false (by omega)]; done) | (rw [valB_5 (by omega)]; (congr 1; first | exact (decide_eq_true (by omega)).symm | exact (decide_eq_false (by omega)).symm | exact decide_eq_decide.2 (by omega) | (rw [← decide_not]; exact decide_eq_decide.2 (by omega)))) | (rw [valB_6 (by omega)]; cases (oidT l).isSome <;> rfl) | rw [valB_12 (by omega)] | rw [valB_19 (by omega)] | rw [valB_22 (by omega)] | (rw [valB_23 (by omega)]; cases psOk l <;> rfl) | (rw [valB_24 (by omega)]; cases plOk l <;> rfl) | rw [valB_0 (by omega)]) rfl
   ·
    refine Rg ?_
    refine Ru 2 rfl ?_
    refine JL.nil ?_
    refine Cs rfl (fun hc10 => ?_) fun hc10 => ?_
    ·
     refine Sr ?_
     refine Ru 1 rfl ?_
     refine JL.callP ca_39 rfl (least_fn (by assumption)) rfl ?_
     refine Ru 1 rfl ?_
     refine Nk [4] rfl ?_
     exact J.retP (RetV.one rfl rfl) (by first | (rw [valB_1 (by omega), ← e0 (by omega)]; (congr 1; first | exact (decide_eq_true (by omega)).symm | exact (decide_eq_false (by omega)).symm | exact decide_eq_decide.2 (by omega) | (rw [← decide_not]; exact decide_eq_decide.2 (by omega)))) | (rw [valB_1 (by omega)]; (congr 1; first | exact (decide_eq_true (by omega)).symm | exact (decide_eq_false (by omega)).symm | exact decide_eq_decide.2 (by omega) | (rw [← decide_not]; exact decide_eq_decide.2 (by omega)))) | rw [valB_2 (by omega)] | (rw [valB_3 (by omega), bitsB, ← e0, ← e1, decide_eq_true (by omega)]; done) | (rw [valB_3 (by omega), bitsB, ← e0, ← e1]; congr 1; exact decide_eq_decide.2 ⟨fun hh => ⟨by omega, .inr (by exact_mod_cast hh)⟩, fun ⟨_, hh⟩ => by exact_mod_cast hh.resolve_left (by omega)⟩) | (rw [valB_3 (by omega), bitsB, ← e0 (by omega), decide_eq_false (by omega)]; done) | (rw [valB_3 (by omega), bitsB, decide_eq_false (by omega)]; done) | (rw [valB_5 (by omega)]; (congr 1; first | exact (decide_eq_true (by omega)).symm | exact (decide_eq_false (by omega)).symm | exact decide_eq_decide.2 (by omega) | (rw [← decide_not]; exact decide_eq_decide.2 (by omega)))) | (rw [valB_6 (by omega)]; cases (oidT l).isSome <;> rfl) | rw [valB_12 (by omega)] | rw [valB_19 (by omega)] | rw [valB_22 (by omega)] | (rw [valB_23 (by omega)]; cases psOk l <;> rfl) | (rw [valB_24 (by omega)]; cases plOk l <;> rfl) | rw [valB_0 (by omega)]) rfl
    ·
     refine Sr ?_
     refine Ru 2 rfl ?_
     refine Nk [35, 12, 4, 1] rfl ?_
     refine Cs rfl (fun hc12 => ?_) fun hc12 => ?_
     ·
      refine J.seq ?_
      refine Sr ?_
      refine Ru 4 rfl ?_
      refine Bs 40 rfl (fun hc13 => ?_) fun hc13 => ?_
      ·
       refine Ru 16 rfl ?_
       refine Nk [56, 4, 1] rfl ?_
       refine J.cond_t rfl ?_
       refine Sr ?_
       refine Ru 1 rfl ?_
       refine JL.nil ?_
       exact J.retP (RetV.one rfl rfl) (by first | (rw [valB_1 (by omega), ← e0 (by omega)]; (congr 1; first | exact (decide_eq_true (by omega)).symm | exact (decide_eq_false (by omega)).symm | exact decide_eq_decide.2 (by omega) | (rw [← decide_not]; exact decide_eq_decide.2 (by omega)))) | (rw [valB_1 (by omega)]; (congr 1; first | exact (decide_eq_true (by omega)).symm | exact (decide_eq_false (by omega)).symm | exact decide_eq_decide.2 (by omega) | (rw [← decide_not]; exact decide_eq_decide.2 (by omega)))) | rw [valB_2 (by omega)] | (rw [valB_3 (by omega), bitsB, ← e0, ← e1, decide_eq_true (by omega)]; done) | (rw [valB_3 (by omega), bitsB, ← e0, ← e1]; congr 1; exact decide_eq_decide.2 ⟨fun hh => ⟨by omega, .inr (by exact_mod_cast hh)⟩, fun ⟨_, hh⟩ => by exact_mod_cast hh.resolve_left (by omega)⟩) | (rw [valB_3 (by omega), bitsB, ← e0 (by omega), decide_eq_false (by omega)]; done) | (rw [valB_3 (by omega), bitsB, decide_eq_false (by omega)]; done) | (rw [valB_5 (by omega)]; (congr 1; first | exact (decide_eq_true (by omega)).symm | exact (decide_eq_false (by omega)).symm | exact decide_eq_decide.2 (by omega) | (rw [← decide_not]; exact decide_eq_decide.2 (by omega)))) | (rw [valB_6 (by omega)]; cases (oidT l).isSome <;> rfl) | rw [valB_12 (by omega)] | rw [valB_19 (by omega)] | rw [valB_22 (by omega)] | (rw [valB_23 (by omega)]; cases psOk l <;> rfl) | (rw [valB_24 (by omega)]; cases plOk l <;> rfl) | rw [valB_0 (by omega)]) rfl
      ·
       refine Ru 1 rfl ?_
       refine JL.opeg rfl rfl  (RunE.index sl_22 rfl rfl (show _ = ((0 : Nat) : Int) from rfl) (by assumption) rfl (by omega)) rfl ?_
       rintro _ ⟨b14, o14, hi14, rfl, hE14⟩
       refine JL.opg rfl rfl  (RunV.ld_u8 ag_5 rfl (by assumption)) rfl ?_
       refine Ru 3 rfl ?_
       refine Bs 46 rfl (fun hc16 => ?_) fun hc16 => ?_
       ·
        refine Ru 10 rfl ?_
        refine Nk [56, 4, 1] rfl ?_
        refine J.cond_t rfl ?_
        refine Sr ?_
        refine Ru 1 rfl ?_
        refine JL.nil ?_
        exact J.retP (RetV.one rfl rfl) (by first | (rw [valB_1 (by omega), ← e0 (by omega)]; (congr 1; first | exact (decide_eq_true (by omega)).symm | exact (decide_eq_false (by omega)).symm | exact decide_eq_decide.2 (by omega) | (rw [← decide_not]; exact decide_eq_decide.2 (by omega)))) | (rw [valB_1 (by omega)]; (congr 1; first | exact (decide_eq_true (by omega)).symm | exact (decide_eq_false (by omega)).symm | exact decide_eq_decide.2 (by omega) | (rw [← decide_not]; exact decide_eq_decide.2 (by omega)))) | rw [valB_2 (by omega)] | (rw [valB_3 (by omega), bitsB, ← e0, ← e1, decide_eq_true (by omega)]; done) | (rw [valB_3 (by omega), bitsB, ← e0, ← e1]; congr 1; exact decide_eq_decide.2 ⟨fun hh => ⟨by omega, .inr (by exact_mod_cast hh)⟩, fun ⟨_, hh⟩ => by exact_mod_cast hh.resolve_left (by omega)⟩) | (rw [valB_3 (by omega), bitsB, ← e0 (by omega), decide_eq_false (by omega)]; done) | (rw [valB_3 (by omega), bitsB, decide_eq_false (by omega)]; done) | (rw [valB_5 (by omega)]; (congr 1; first | exact (decide_eq_true (by omega)).symm | exact (decide_eq_false (by omega)).symm | exact decide_eq_decide.2 (by omega) | (rw [← decide_not]; exact decide_eq_decide.2 (by omega)))) | (rw [valB_6 (by omega)]; cases (oidT l).isSome <;> rfl) | rw [valB_12 (by omega)] | rw [valB_19 (by omega)] | rw [valB_22 (by omega)] | (rw [valB_23 (by omega)]; cases psOk l <;> rfl) | (rw [valB_24 (by omega)]; cases plOk l <;> rfl) | rw [valB_0 (by omega)]) rfl
       ·
        refine Ru 4 rfl ?_
        refine Bs 50 rfl (fun hc17 => ?_) fun hc17 => ?_
        ·
         refine Ru 1 rfl ?_
         refine JL.opeg rfl rfl  (RunE.index sl_22 rfl rfl (show _ = ((0 : Nat) : Int) from rfl) (by assumption) rfl (by omega)) rfl ?_
         rintro _ ⟨b18, o18, hi18, rfl, hE18⟩
         refine JL.opg rfl rfl  (RunV.ld_u8 ag_5 rfl (by assumption)) rfl ?_
         refine Ru 3 rfl ?_
         refine Nk [56, 4, 1] rfl ?_
         refine Cs rfl (fun hc20 => ?_) fun hc20 => ?_
         ·
          refine Sr ?_
          refine Ru 1 rfl ?_
          refine JL.nil ?_
          exact J.retP (RetV.one rfl rfl) (by first | (rw [valB_1 (by omega), ← e0 (by omega)]; (congr 1; first | exact (decide_eq_true (by omega)).symm | exact (decide_eq_false (by omega)).symm | exact decide_eq_decide.2 (by omega) | (rw [← decide_not]; exact decide_eq_decide.2 (by omega)))) | (rw [valB_1 (by omega)]; (congr 1; first | exact (decide_eq_true (by omega)).symm | exact (decide_eq_false (by omega)).symm | exact decide_eq_decide.2 (by omega) | (rw [← decide_not]; exact decide_eq_decide.2 (by omega)))) | rw [valB_2 (by omega)] | (rw [valB_3 (by omega), bitsB, ← e0, ← e1, decide_eq_true (by omega)]; done) | (rw [valB_3 (by omega), bitsB, ← e0, ← e1]; congr 1; exact decide_eq_decide.2 ⟨fun hh => ⟨by omega, .inr (by exact_mod_cast hh)⟩, fun ⟨_, hh⟩ => by exact_mod_cast hh.resolve_left (by omega)⟩) | (rw [valB_3 (by omega), bitsB, ← e0 (by omega), decide_eq_false (by omega)]; done) | (rw [valB_3 (by omega), bitsB, decide_eq_false (by omega)]; done) | (rw [valB_5 (by omega)]; (congr 1; first | exact (decide_eq_true (by omega)).symm | exact (decide_eq_false (by omega)).symm | exact decide_eq_decide.2 (by omega) | (rw [← decide_not]; exact decide_eq_decide.2 (by omega)))) | (rw [valB_6 (by omega)]; cases (oidT l).isSome <;> rfl) | rw [valB_12 (by omega)] | rw [valB_19 (by omega)] | rw [valB_22 (by omega)] | (rw [valB_23 (by omega)]; cases psOk l <;> rfl) | (rw [valB_24 (by omega)]; cases plOk l <;> rfl) | rw [valB_0 (by omega)]) rfl
         ·
          refine J.skip ?_
          refine J.seq ?_
          refine J.drawn mixed_ (by kernel_rfl) ?_
          have e0 := byteAt_eq l 0 (by omega); have e1 := byteAt_eq l (l.length - 1) (by omega); have hp := pow2_7 (l[0]'(by omega)).toNat (by omega)
          refine Rq 1 rfl ?_
          refine JQ.ope (RunE.index sl_22 rfl rfl (show _ = ((0 : Nat) : Int) from rfl) (by assumption) rfl (by omega)) rfl ?_
          rintro _ ⟨b21, o21, hi21, rfl, hE21⟩
          refine JQ.op (RunV.ld_u8 ag_5 rfl (by assumption)) rfl ?_
          refine Rq 2 rfl ?_
          refine Bq 61 rfl (fun hc23 => ?_) fun hc23 => ?_
          ·
           refine Rq 15 rfl ?_
           refine Nq [4] rfl ?_
           exact J.retP (RetV.one rfl rfl) (by first | (rw [valB_1 (by omega), ← e0 (by omega)]; (congr 1; first | exact (decide_eq_true (by omega)).symm | exact (decide_eq_false (by omega)).symm | exact decide_eq_decide.2 (by omega) | (rw [← decide_not]; exact decide_eq_decide.2 (by omega)))) | (rw [valB_1 (by omega)]; (congr 1; first | exact (decide_eq_true (by omega)).symm | exact (decide_eq_false (by omega)).symm | exact decide_eq_decide.2 (by omega) | (rw [← decide_not]; exact decide_eq_decide.2 (by omega)))) | rw [valB_2 (by omega)] | (rw [valB_3 (by omega), bitsB, ← e0, ← e1, decide_eq_true (by omega)]; done) | (rw [valB_3 (by omega), bitsB, ← e0, ← e1]; congr 1; exact decide_eq_decide.2 ⟨fun hh => ⟨by omega, .inr (by exact_mod_cast hh)⟩, fun ⟨_, hh⟩ => by exact_mod_cast hh.resolve_left (by omega)⟩) | (rw [valB_3 (by omega), bitsB, ← e0 (by omega), decide_eq_false (by omega)]; done) | (rw [valB_3 (by omega), bitsB, decide_eq_false (by omega)]; done) | (rw [valB_5 (by omega)]; (congr 1; first | exact (decide_eq_true (by omega)).symm | exact (decide_eq_false (by omega)).symm | exact decide_eq_decide.2 (by omega) | (rw [← decide_not]; exact decide_eq_decide.2 (by omega)))) | (rw [valB_6 (by omega)]; cases (oidT l).isSome <;> rfl) | rw [valB_12 (by omega)] | rw [valB_19 (by omega)] | rw [valB_22 (by omega)] | (rw [valB_23 (by omega)]; cases psOk l <;> rfl) | (rw [valB_24 (by omega)]; cases plOk l <;> rfl) | rw [valB_0 (by omega)]) rfl
          ·
           refine Rq 3 rfl ?_
           refine JQ.opg rfl rfl  (by first | exact RunV.sub_i64 rfl rfl (by omega) (by omega) | exact RunV.sub rfl rfl) rfl ?_
           refine JQ.opeg rfl rfl  (RunE.index (m := l.length - 1) sl_22 rfl rfl (by omega) (by assumption) rfl (by omega)) rfl ?_
           rintro _ ⟨b24, o24, hi24, rfl, hE24⟩
           refine JQ.opg rfl rfl  (RunV.ld_u8 ag_5 rfl (by assumption)) rfl ?_
           refine Rq 1 rfl ?_
           refine JQ.opeg rfl rfl  (RunE.index sl_22 rfl rfl (show _ = ((0 : Nat) : Int) from rfl) (by assumption) rfl (by omega)) rfl ?_
           rintro _ ⟨b26, o26, hi26, rfl, hE26⟩
           refine JQ.opg rfl rfl  (RunV.ld_u8 ag_5 rfl (by assumption)) rfl ?_
           refine JQ.opg rfl rfl  (RunV.shl_u8 ((2 : Int) ^ (l[0]'(by omega)).toNat) rfl rfl (by omega) (by omega) (by simp) (by omega) (by omega)) rfl ?_
           refine JQ.opg rfl rfl  (RunV.sub_u8 rfl rfl (by omega) (by omega)) rfl ?_
           refine JQ.opg rfl rfl  (RunV.maskb_u8 (l[0]'(by omega)).toNat ((2 : Int) ^ (l[0]'(by omega)).toNat) rfl rfl (by omega) rfl (by omega)) rfl ?_
           refine Rq 3 rfl ?_
           refine Nq [4] rfl ?_
           exact J.retP (RetV.one rfl rfl) (by first | (rw [valB_1 (by omega), ← e0 (by omega)]; (congr 1; first | exact (decide_eq_true (by omega)).symm | exact (decide_eq_false (by omega)).symm | exact decide_eq_decide.2 (by omega) | (rw [← decide_not]; exact decide_eq_decide.2 (by omega)))) | (rw [valB_1 (by omega)]; (congr 1; first | exact (decide_eq_true (by omega)).symm | exact (decide_eq_false (by omega)).symm | exact decide_eq_decide.2 (by omega) | (rw [← decide_not]; exact decide_eq_decide.2 (by omega)))) | rw [valB_2 (by omega)] | (rw [valB_3 (by omega), bitsB, ← e0, ← e1, decide_eq_true (by omega)]; done) | (rw [valB_3 (by omega), bitsB, ← e0, ← e1]; congr 1; exact decide_eq_decide.2 ⟨fun hh => ⟨by omega, .inr (by exact_mod_cast hh)⟩, fun ⟨_, hh⟩ => by exact_mod_cast hh.resolve_left (by omega)⟩) | (rw [valB_3 (by omega), bitsB, ← e0 (by omega), decide_eq_false (by omega)]; done) | (rw [valB_3 (by omega), bitsB, decide_eq_false (by omega)]; done) | (rw [valB_5 (by omega)]; (congr 1; first | exact (decide_eq_true (by omega)).symm | exact (decide_eq_false (by omega)).symm | exact decide_eq_decide.2 (by omega) | (rw [← decide_not]; exact decide_eq_decide.2 (by omega)))) | (rw [valB_6 (by omega)]; cases (oidT l).isSome <;> rfl) | rw [valB_12 (by omega)] | rw [valB_19 (by omega)] | rw [valB_22 (by omega)] | (rw [valB_23 (by omega)]; cases psOk l <;> rfl) | (rw [valB_24 (by omega)]; cases plOk l <;> rfl) | rw [valB_0 (by omega)]) rfl
        ·
         refine Ru 6 rfl ?_
         refine Nk [56, 4, 1] rfl ?_
         refine J.cond_f rfl ?_
         refine J.skip ?_
         refine J.seq ?_
         refine J.drawn mixed_ (by kernel_rfl) ?_
         have e0 := byteAt_eq l 0 (by omega); have e1 := byteAt_eq l (l.length - 1) (by omega); have hp := pow2_7 (l[0]'(by omega)).toNat (by omega)
         refine Rq 1 rfl ?_
         refine JQ.ope (RunE.index sl_22 rfl rfl (show _ = ((0 : Nat) : Int) from rfl) (by assumption) rfl (by omega)) rfl ?_
         rintro _ ⟨b28, o28, hi28, rfl, hE28⟩
         refine JQ.op (RunV.ld_u8 ag_5 rfl (by assumption)) rfl ?_
         refine Rq 2 rfl ?_
         refine Bq 61 rfl (fun hc30 => ?_) fun hc30 => ?_
         ·
          refine Rq 15 rfl ?_
          refine Nq [4] rfl ?_
          exact J.retP (RetV.one rfl rfl) (by first | (rw [valB_1 (by omega), ← e0 (by omega)]; (congr 1; first | exact (decide_eq_true (by omega)).symm | exact (decide_eq_false (by omega)).symm | exact decide_eq_decide.2 (by omega) | (rw [← decide_not]; exact decide_eq_decide.2 (by omega)))) | (rw [valB_1 (by omega)]; (congr 1; first | exact (decide_eq_true (by omega)).symm | exact (decide_eq_false (by omega)).symm | exact decide_eq_decide.2 (by omega) | (rw [← decide_not]; exact decide_eq_decide.2 (by omega)))) | rw [valB_2 (by omega)] | (rw [valB_3 (by omega), bitsB, ← e0, ← e1, decide_eq_true (by omega)]; done) | (rw [valB_3 (by omega), bitsB, ← e0, ← e1]; congr 1; exact decide_eq_decide.2 ⟨fun hh => ⟨by omega, .inr (by exact_mod_cast hh)⟩, fun ⟨_, hh⟩ => by exact_mod_cast hh.resolve_left (by omega)⟩) | (rw [valB_3 (by omega), bitsB, ← e0 (by omega), decide_eq_false (by omega)]; done) | (rw [valB_3 (by omega), bitsB, decide_eq_false (by omega)]; done) | (rw [valB_5 (by omega)]; (congr 1; first | exact (decide_eq_true (by omega)).symm | exact (decide_eq_false (by omega)).symm | exact decide_eq_decide.2 (by omega) | (rw [← decide_not]; exact decide_eq_decide.2 (by omega)))) | (rw [valB_6 (by omega)]; cases (oidT l).isSome <;> rfl) | rw [valB_12 (by omega)] | rw [valB_19 (by omega)] | rw [valB_22 (by omega)] | (rw [valB_23 (by omega)]; cases psOk l <;> rfl) | (rw [valB_24 (by omega)]; cases plOk l <;> rfl) | rw [valB_0 (by omega)]) rfl
         ·
          refine Rq 3 rfl ?_
          refine JQ.opg rfl rfl  (by first | exact RunV.sub_i64 rfl rfl (by omega) (by omega) | exact RunV.sub rfl rfl) rfl ?_
          refine JQ.opeg rfl rfl  (RunE.index (m := l.length - 1) sl_22 rfl rfl (by omega) (by assumption) rfl (by omega)) rfl ?_
          rintro _ ⟨b31, o31, hi31, rfl, hE31⟩
          refine JQ.opg rfl rfl  (RunV.ld_u8 ag_5 rfl (by assumption)) rfl ?_
          refine Rq 1 rfl ?_
          refine JQ.opeg rfl rfl  (RunE.index sl_22 rfl rfl (show _ = ((0 : Nat) : Int) from rfl) (by assumption) rfl (by omega)) rfl ?_
          rintro _ ⟨b33, o33, hi33, rfl, hE33⟩
          refine JQ.opg rfl rfl  (RunV.ld_u8 ag_5 rfl (by assumption)) rfl ?_
          refine JQ.opg rfl rfl  (RunV.shl_u8 ((2 : Int) ^ (l[0]'(by omega)).toNat) rfl rfl (by omega) (by omega) (by simp) (by omega) (by omega)) rfl ?_
          refine JQ.opg rfl rfl  (RunV.sub_u8 rfl rfl (by omega) (by omega)) rfl ?_
          refine JQ.opg rfl rfl  (RunV.maskb_u8 (l[0]'(by omega)).toNat ((2 : Int) ^ (l[0]'(by omega)).toNat) rfl rfl (by omega) rfl (by omega)) rfl ?_
          refine Rq 3 rfl ?_
          refine Nq [4] rfl ?_
          exact J.retP (RetV.one rfl rfl) (by first | (rw [valB_1 (by omega), ← e0 (by omega)]; (congr 1; first | exact (decide_eq_true (by omega)).symm | exact (decide_eq_false (by omega)).symm | exact decide_eq_decide.2 (by omega) | (rw [← decide_not]; exact decide_eq_decide.2 (by omega)))) | (rw [valB_1 (by omega)]; (congr 1; first | exact (decide_eq_true (by omega)).symm | exact (decide_eq_false (by omega)).symm | exact decide_eq_decide.2 (by omega) | (rw [← decide_not]; exact decide_eq_decide.2 (by omega)))) | rw [valB_2 (by omega)] | (rw [valB_3 (by omega), bitsB, ← e0, ← e1, decide_eq_true (by omega)]; done) | (rw [valB_3 (by omega), bitsB, ← e0, ← e1]; congr 1; exact decide_eq_decide.2 ⟨fun hh => ⟨by omega, .inr (by exact_mod_cast hh)⟩, fun ⟨_, hh⟩ => by exact_mod_cast hh.resolve_left (by omega)⟩) | (rw [valB_3 (by omega), bitsB, ← e0 (by omega), decide_eq_false (by omega)]; done) | (rw [valB_3 (by omega), bitsB, decide_eq_false (by omega)]; done) | (rw [valB_5 (by omega)]; (congr 1; first | exact (decide_eq_true (by omega)).symm | exact (decide_eq_false (by omega)).symm | exact decide_eq_decide.2 (by omega) | (rw [← decide_not]; exact decide_eq_decide.2 (by omega)))) | (rw [valB_6 (by omega)]; cases (oidT l).isSome <;> rfl) | rw [valB_12 (by omega)] | rw [valB_19 (by omega)] | rw [valB_22 (by omega)] | (rw [valB_23 (by omega)]; cases psOk l <;> rfl) | (rw [valB_24 (by omega)]; cases plOk l <;> rfl) | rw [valB_0 (by omega)]) rfl
     ·
      refine Sr ?_
      refine Ru 2 rfl ?_
      refine JL.nil ?_
      refine Cs rfl (fun hc35 => ?_) fun hc35 => ?_
      ·
       refine Sr ?_
       refine Ru 4 rfl ?_
       refine Nk [4] rfl ?_
       exact J.retP (RetV.one rfl rfl) (by first | (rw [valB_1 (by omega), ← e0 (by omega)]; (congr 1; first | exact (decide_eq_true (by omega)).symm | exact (decide_eq_false (by omega)).symm | exact decide_eq_decide.2 (by omega) | (rw [← decide_not]; exact decide_eq_decide.2 (by omega)))) | (rw [valB_1 (by omega)]; (congr 1; first | exact (decide_eq_true (by omega)).symm | exact (decide_eq_false (by omega)).symm | exact decide_eq_decide.2 (by omega) | (rw [← decide_not]; exact decide_eq_decide.2 (by omega)))) | rw [valB_2 (by omega)] | (rw [valB_3 (by omega), bitsB, ← e0, ← e1, decide_eq_true (by omega)]; done) | (rw [valB_3 (by omega), bitsB, ← e0, ← e1]; congr 1; exact decide_eq_decide.2 ⟨fun hh => ⟨by omega, .inr (by exact_mod_cast hh)⟩, fun ⟨_, hh⟩ => by exact_mod_cast hh.resolve_left (by omega)⟩) | (rw [valB_3 (by omega), bitsB, ← e0 (by omega), decide_eq_false (by omega)]; done) | (rw [valB_3 (by omega), bitsB, decide_eq_false (by omega)]; done) | (rw [valB_5 (by omega)]; (congr 1; first | exact (decide_eq_true (by omega)).symm | exact (decide_eq_false (by omega)).symm | exact decide_eq_decide.2 (by omega) | (rw [← decide_not]; exact decide_eq_decide.2 (by omega)))) | (rw [valB_6 (by omega)]; cases (oidT l).isSome <;> rfl) | rw [valB_12 (by omega)] | rw [valB_19 (by omega)] | rw [valB_22 (by omega)] | (rw [valB_23 (by omega)]; cases psOk l <;> rfl) | (rw [valB_24 (by omega)]; cases plOk l <;> rfl) | rw [valB_0 (by omega)]) rfl
      ·
       refine Sr ?_
       refine Ru 2 rfl ?_
       refine Nk [81, 12, 4, 1] rfl ?_
       refine Cs rfl (fun hc36 => ?_) fun hc36 => ?_
       ·
        refine Sr ?_
        refine Ru 1 rfl ?_
        refine JL.callP ca_87 rfl (oidtext_fn (by assumption) (by omega)) rfl ?_
        refine Ru 5 rfl ?_
        refine Nk [6, 4] rfl ?_
        refine Sr ?_
        refine Ru 3 rfl ?_
        refine JL.nil ?_
        exact J.retP (RetV.one rfl rfl) (by first | (rw [valB_1 (by omega), ← e0 (by omega)]; (congr 1; first | exact (decide_eq_true (by omega)).symm | exact (decide_eq_false (by omega)).symm | exact decide_eq_decide.2 (by omega) | (rw [← decide_not]; exact decide_eq_decide.2 (by omega)))) | (rw [valB_1 (by omega)]; (congr 1; first | exact (decide_eq_true (by omega)).symm | exact (decide_eq_false (by omega)).symm | exact decide_eq_decide.2 (by omega) | (rw [← decide_not]; exact decide_eq_decide.2 (by omega)))) | rw [valB_2 (by omega)] | (rw [valB_3 (by omega), bitsB, ← e0, ← e1, decide_eq_true (by omega)]; done) | (rw [valB_3 (by omega), bitsB, ← e0, ← e1]; congr 1; exact decide_eq_decide.2 ⟨fun hh => ⟨by omega, .inr (by exact_mod_cast hh)⟩, fun ⟨_, hh⟩ => by exact_mod_cast hh.resolve_left (by omega)⟩) | (rw [valB_3 (by omega), bitsB, ← e0 (by omega), decide_eq_false (by omega)]; done) | (rw [valB_3 (by omega), bitsB, decide_eq_false (by omega)]; done) | (rw [valB_5 (by omega)]; (congr 1; first | exact (decide_eq_true (by omega)).symm | exact (decide_eq_false (by omega)).symm | exact decide_eq_decide.2 (by omega) | (rw [← decide_not]; exact decide_eq_decide.2 (by omega)))) | (rw [valB_6 (by omega)]; cases (oidT l).isSome <;> rfl) | rw [valB_12 (by omega)] | rw [valB_19 (by omega)] | rw [valB_22 (by omega)] | (rw [valB_23 (by omega)]; cases psOk l <;> rfl) | (rw [valB_24 (by omega)]; cases plOk l <;> rfl) | rw [valB_0 (by omega)]) rfl
       ·
        refine Sr ?_
        refine Ru 2 rfl ?_
        refine JL.nil ?_
        refine Cs rfl (fun hc38 => ?_) fun hc38 => ?_
        ·
         refine Sr ?_
         refine Ru 1 rfl ?_
         refine JL.op (RunV.strB sb_22_9 rfl (by assumption) rfl) rfl ?_
         refine JL.callP ca_88 rfl (utf8_fn _ _ (by assumption) (by omega)) rfl ?_
         refine Ru 1 rfl ?_
         refine Nk [4] rfl ?_
         exact J.retP (RetV.one rfl rfl) (by first | (rw [valB_1 (by omega), ← e0 (by omega)]; (congr 1; first | exact (decide_eq_true (by omega)).symm | exact (decide_eq_false (by omega)).symm | exact decide_eq_decide.2 (by omega) | (rw [← decide_not]; exact decide_eq_decide.2 (by omega)))) | (rw [valB_1 (by omega)]; (congr 1; first | exact (decide_eq_true (by omega)).symm | exact (decide_eq_false (by omega)).symm | exact decide_eq_decide.2 (by omega) | (rw [← decide_not]; exact decide_eq_decide.2 (by omega)))) | rw [valB_2 (by omega)] | (rw [valB_3 (by omega), bitsB, ← e0, ← e1, decide_eq_true (by omega)]; done) | (rw [valB_3 (by omega), bitsB, ← e0, ← e1]; congr 1; exact decide_eq_decide.2 ⟨fun hh => ⟨by omega, .inr (by exact_mod_cast hh)⟩, fun ⟨_, hh⟩ => by exact_mod_cast hh.resolve_left (by omega)⟩) | (rw [valB_3 (by omega), bitsB, ← e0 (by omega), decide_eq_false (by omega)]; done) | (rw [valB_3 (by omega), bitsB, decide_eq_false (by omega)]; done) | (rw [valB_5 (by omega)]; (congr 1; first | exact (decide_eq_true (by omega)).symm | exact (decide_eq_false (by omega)).symm | exact decide_eq_decide.2 (by omega) | (rw [← decide_not]; exact decide_eq_decide.2 (by omega)))) | (rw [valB_6 (by omega)]; cases (oidT l).isSome <;> rfl) | rw [valB_12 (by omega)] | rw [valB_19 (by omega)] | rw [valB_22 (by omega)] | (rw [valB_23 (by omega)]; cases psOk l <;> rfl) | (rw [valB_24 (by omega)]; cases plOk l <;> rfl) | rw [valB_0 (by omega)]) rfl
        ·
         refine Sr ?_
         refine Ru 2 rfl ?_
         refine Nk [95, 12, 4, 1] rfl ?_
         refine Cs rfl (fun hc40 => ?_) fun hc40 => ?_
         ·
          refine Sr ?_
          refine Ru 1 rfl ?_
          refine JL.op (RunV.strB sb_22_9 rfl (by assumption) rfl) rfl ?_
          refine JL.callP ca_89 rfl (printable_fn _ _ (by omega)) rfl ?_
          refine Ru 1 rfl ?_
          refine Nk [4] rfl ?_
          exact J.retP (RetV.one rfl rfl) (by first | (rw [valB_1 (by omega), ← e0 (by omega)]; (congr 1; first | exact (decide_eq_true (by omega)).symm | exact (decide_eq_false (by omega)).symm | exact decide_eq_decide.2 (by omega) | (rw [← decide_not]; exact decide_eq_decide.2 (by omega)))) | (rw [valB_1 (by omega)]; (congr 1; first | exact (decide_eq_true (by omega)).symm | exact (decide_eq_false (by omega)).symm | exact decide_eq_decide.2 (by omega) | (rw [← decide_not]; exact decide_eq_decide.2 (by omega)))) | rw [valB_2 (by omega)] | (rw [valB_3 (by omega), bitsB, ← e0, ← e1, decide_eq_true (by omega)]; done) | (rw [valB_3 (by omega), bitsB, ← e0, ← e1]; congr 1; exact decide_eq_decide.2 ⟨fun hh => ⟨by omega, .inr (by exact_mod_cast hh)⟩, fun ⟨_, hh⟩ => by exact_mod_cast hh.resolve_left (by omega)⟩) | (rw [valB_3 (by omega), bitsB, ← e0 (by omega), decide_eq_false (by omega)]; done) | (rw [valB_3 (by omega), bitsB, decide_eq_false (by omega)]; done) | (rw [valB_5 (by omega)]; (congr 1; first | exact (decide_eq_true (by omega)).symm | exact (decide_eq_false (by omega)).symm | exact decide_eq_decide.2 (by omega) | (rw [← decide_not]; exact decide_eq_decide.2 (by omega)))) | (rw [valB_6 (by omega)]; cases (oidT l).isSome <;> rfl) | rw [valB_12 (by omega)] | rw [valB_19 (by omega)] | rw [valB_22 (by omega)] | (rw [valB_23 (by omega)]; cases psOk l <;> rfl) | (rw [valB_24 (by omega)]; cases plOk l <;> rfl) | rw [valB_0 (by omega)]) rfl
         ·
          refine Sr ?_
          refine Ru 2 rfl ?_
          refine JL.nil ?_
          refine Cs rfl (fun hc42 => ?_) fun hc42 => ?_
          ·
           refine Sr ?_
           refine Ru 1 rfl ?_
           refine JL.op (RunV.strB sb_22_9 rfl (by assumption) rfl) rfl ?_
           refine JL.callP ca_90 rfl (ia5_fn _ _ (by omega)) rfl ?_
           refine Ru 1 rfl ?_
           refine Nk [4] rfl ?_
           exact J.retP (RetV.one rfl rfl) (by first | (rw [valB_1 (by omega), ← e0 (by omega)]; (congr 1; first | exact (decide_eq_true (by omega)).symm | exact (decide_eq_false (by omega)).symm | exact decide_eq_decide.2 (by omega) | (rw [← decide_not]; exact decide_eq_decide.2 (by omega)))) | (rw [valB_1 (by omega)]; (congr 1; first | exact (decide_eq_true (by omega)).symm | exact (decide_eq_false (by omega)).symm | exact decide_eq_decide.2 (by omega) | (rw [← decide_not]; exact decide_eq_decide.2 (by omega)))) | rw [valB_2 (by omega)] | (rw [valB_3 (by omega), bitsB, ← e0, ← e1, decide_eq_true (by omega)]; done) | (rw [valB_3 (by omega), bitsB, ← e0, ← e1]; congr 1; exact decide_eq_decide.2 ⟨fun hh => ⟨by omega, .inr (by exact_mod_cast hh)⟩, fun ⟨_, hh⟩ => by exact_mod_cast hh.resolve_left (by omega)⟩) | (rw [valB_3 (by omega), bitsB, ← e0 (by omega), decide_eq_false (by omega)]; done) | (rw [valB_3 (by omega), bitsB, decide_eq_false (by omega)]; done) | (rw [valB_5 (by omega)]; (congr 1; first | exact (decide_eq_true (by omega)).symm | exact (decide_eq_false (by omega)).symm | exact decide_eq_decide.2 (by omega) | (rw [← decide_not]; exact decide_eq_decide.2 (by omega)))) | (rw [valB_6 (by omega)]; cases (oidT l).isSome <;> rfl) | rw [valB_12 (by omega)] | rw [valB_19 (by omega)] | rw [valB_22 (by omega)] | (rw [valB_23 (by omega)]; cases psOk l <;> rfl) | (rw [valB_24 (by omega)]; cases plOk l <;> rfl) | rw [valB_0 (by omega)]) rfl
          ·
           refine Sr ?_
           refine Ru 2 rfl ?_
           refine Nk [105, 12, 4, 1] rfl ?_
           refine Cs rfl (fun hc44 => ?_) fun hc44 => ?_
           ·
            refine Sr ?_
            refine Ru 1 rfl ?_
            refine JL.op (RunV.strB sb_22_9 rfl (by assumption) rfl) rfl ?_
            refine JL.callP ca_91 rfl (pshort_fn _ _ (by omega)) rfl ?_
            refine Ru 5 rfl ?_
            refine Nk [8, 4] rfl ?_
            refine Sr ?_
            refine Ru 3 rfl ?_
            refine JL.nil ?_
            exact J.retP (RetV.one rfl rfl) (by first | (rw [valB_1 (by omega), ← e0 (by omega)]; (congr 1; first | exact (decide_eq_true (by omega)).symm | exact (decide_eq_false (by omega)).symm | exact decide_eq_decide.2 (by omega) | (rw [← decide_not]; exact decide_eq_decide.2 (by omega)))) | (rw [valB_1 (by omega)]; (congr 1; first | exact (decide_eq_true (by omega)).symm | exact (decide_eq_false (by omega)).symm | exact decide_eq_decide.2 (by omega) | (rw [← decide_not]; exact decide_eq_decide.2 (by omega)))) | rw [valB_2 (by omega)] | (rw [valB_3 (by omega), bitsB, ← e0, ← e1, decide_eq_true (by omega)]; done) | (rw [valB_3 (by omega), bitsB, ← e0, ← e1]; congr 1; exact decide_eq_decide.2 ⟨fun hh => ⟨by omega, .inr (by exact_mod_cast hh)⟩, fun ⟨_, hh⟩ => by exact_mod_cast hh.resolve_left (by omega)⟩) | (rw [valB_3 (by omega), bitsB, ← e0 (by omega), decide_eq_false (by omega)]; done) | (rw [valB_3 (by omega), bitsB, decide_eq_false (by omega)]; done) | (rw [valB_5 (by omega)]; (congr 1; first | exact (decide_eq_true (by omega)).symm | exact (decide_eq_false (by omega)).symm | exact decide_eq_decide.2 (by omega) | (rw [← decide_not]; exact decide_eq_decide.2 (by omega)))) | (rw [valB_6 (by omega)]; cases (oidT l).isSome <;> rfl) | rw [valB_12 (by omega)] | rw [valB_19 (by omega)] | rw [valB_22 (by omega)] | (rw [valB_23 (by omega)]; cases psOk l <;> rfl) | (rw [valB_24 (by omega)]; cases plOk l <;> rfl) | rw [valB_0 (by omega)]) rfl
           ·
            refine Sr ?_
            refine Ru 2 rfl ?_
            refine JL.nil ?_
            refine Cs rfl (fun hc46 => ?_) fun hc46 => ?_
            ·
             refine Sr ?_
             refine Ru 1 rfl ?_
             refine JL.op (RunV.strB sb_22_9 rfl (by assumption) rfl) rfl ?_
             refine JL.callP ca_92 rfl (plong_fn _ _ (by omega)) rfl ?_
             refine Ru 7 rfl ?_
             refine Nk [11, 4] rfl ?_
             refine Sr ?_
             refine Ru 3 rfl ?_
             refine JL.nil ?_
             exact J.retP (RetV.one rfl rfl) (by first | (rw [valB_1 (by omega), ← e0 (by omega)]; (congr 1; first | exact (decide_eq_true (by omega)).symm | exact (decide_eq_false (by omega)).symm | exact decide_eq_decide.2 (by omega) | (rw [← decide_not]; exact decide_eq_decide.2 (by omega)))) | (rw [valB_1 (by omega)]; (congr 1; first | exact (decide_eq_true (by omega)).symm | exact (decide_eq_false (by omega)).symm | exact decide_eq_decide.2 (by omega) | (rw [← decide_not]; exact decide_eq_decide.2 (by omega)))) | rw [valB_2 (by omega)] | (rw [valB_3 (by omega), bitsB, ← e0, ← e1, decide_eq_true (by omega)]; done) | (rw [valB_3 (by omega), bitsB, ← e0, ← e1]; congr 1; exact decide_eq_decide.2 ⟨fun hh => ⟨by omega, .inr (by exact_mod_cast hh)⟩, fun ⟨_, hh⟩ => by exact_mod_cast hh.resolve_left (by omega)⟩) | (rw [valB_3 (by omega), bitsB, ← e0 (by omega), decide_eq_false (by omega)]; done) | (rw [valB_3 (by omega), bitsB, decide_eq_false (by omega)]; done) | (rw [valB_5 (by omega)]; (congr 1; first | exact (decide_eq_true (by omega)).symm | exact (decide_eq_false (by omega)).symm | exact decide_eq_decide.2 (by omega) | (rw [← decide_not]; exact decide_eq_decide.2 (by omega)))) | (rw [valB_6 (by omega)]; cases (oidT l).isSome <;> rfl) | rw [valB_12 (by omega)] | rw [valB_19 (by omega)] | rw [valB_22 (by omega)] | (rw [valB_23 (by omega)]; cases psOk l <;> rfl) | (rw [valB_24 (by omega)]; cases plOk l <;> rfl) | rw [valB_0 (by omega)]) rfl
            ·
             refine J.skip ?_
             refine Kp [4] rfl ?_
             refine Sr ?_
             refine Ru 1 rfl ?_
             refine JL.nil ?_
             exact J.retP (RetV.one rfl rfl) (by first | (rw [valB_1 (by omega), ← e0 (by omega)]; (congr 1; first | exact (decide_eq_true (by omega)).symm | exact (decide_eq_false (by omega)).symm | exact decide_eq_decide.2 (by omega) | (rw [← decide_not]; exact decide_eq_decide.2 (by omega)))) | (rw [valB_1 (by omega)]; (congr 1; first | exact (decide_eq_true (by omega)).symm | exact (decide_eq_false (by omega)).symm | exact decide_eq_decide.2 (by omega) | (rw [← decide_not]; exact decide_eq_decide.2 (by omega)))) | rw [valB_2 (by omega)] | (rw [valB_3 (by omega), bitsB, ← e0, ← e1, decide_eq_true (by omega)]; done) | (rw [valB_3 (by omega), bitsB, ← e0, ← e1]; congr 1; exact decide_eq_decide.2 ⟨fun hh => ⟨by omega, .inr (by exact_mod_cast hh)⟩, fun ⟨_, hh⟩ => by exact_mod_cast hh.resolve_left (by omega)⟩) | (rw [valB_3 (by omega), bitsB, ← e0 (by omega), decide_eq_false (by omega)]; done) | (rw [valB_3 (by omega), bitsB, decide_eq_false (by omega)]; done) | (rw [valB_5 (by omega)]; (congr 1; first | exact (decide_eq_true (by omega)).symm | exact (decide_eq_false (by omega)).symm | exact decide_eq_decide.2 (by omega) | (rw [← decide_not]; exact decide_eq_decide.2 (by omega)))) | (rw [valB_6 (by omega)]; cases (oidT l).isSome <;> rfl) | rw [valB_12 (by omega)] | rw [valB_19 (by omega)] | rw [valB_22 (by omega)] | (rw [valB_23 (by omega)]; cases psOk l <;> rfl) | (rw [valB_24 (by omega)]; cases plOk l <;> rfl) | rw [valB_0 (by omega)]) rfl




/-- The bytes of a number, the great ones first; how many it takes. -/
def be : Nat → Nat → List UInt8
  | 0, _ => []
  | k + 1, n => UInt8.ofNat (n / 256 ^ k) :: be k n
def nby (n : Nat) : Nat := if n < 256 then 1 else if n < 65536 then 2 else if n < 16777216 then 3 else if n < 4294967296 then 4 else if n < 1099511627776 then 5 else 6
def lenB (n : Nat) : List UInt8 := if n < 128 then [UInt8.ofNat n] else UInt8.ofNat (128 + nby n) :: be (nby n) n
def tagN (c t : Int) (k : Bool) : Nat := (64 * c + t).toNat + (if k then 32 else 0)
def headB (c t : Int) (k : Bool) (n : Nat) : List UInt8 := UInt8.ofNat (tagN c t k) :: lenB n
theorem nby_bd (n : Nat) : 1 ≤ nby n ∧ nby n ≤ 6 := by unfold nby; (repeat' split) <;> omega
theorem be_len (k n : Nat) : (be k n).length = k := by induction k with
  | zero => rfl
  | succ k ih => simp [be, ih]
theorem shr_cast (n j : Nat) (e : Int) (he : e = 8 * (j : Int)) : (n : Int) / 2 ^ e.toNat = ((n / 256 ^ j : Nat) : Int) := by
  subst he
  have h1 : (8 * (j : Int)).toNat = 8 * j := by omega
  have h2 : (256 : Nat) ^ j = 2 ^ (8 * j) := by rw [Nat.pow_mul]
  rw [h1, h2]
  simp
theorem nby_gt (n j : Nat) (hn : n ≤ 140737488355328) (h1 : 1 ≤ j) (h2 : j ≤ nby n) : 0 < n / 256 ^ j ↔ j < nby n := by
  have hb := nby_bd n
  have hj : j = 1 ∨ j = 2 ∨ j = 3 ∨ j = 4 ∨ j = 5 ∨ j = 6 := by omega
  have e1 : (256 : Nat) ^ 1 = 256 := rfl
  have e2 : (256 : Nat) ^ 2 = 65536 := rfl
  have e3 : (256 : Nat) ^ 3 = 16777216 := rfl
  have e4 : (256 : Nat) ^ 4 = 4294967296 := rfl
  have e5 : (256 : Nat) ^ 5 = 1099511627776 := rfl
  have e6 : (256 : Nat) ^ 6 = 281474976710656 := rfl
  unfold nby at *
  rcases hj with rfl | rfl | rfl | rfl | rfl | rfl <;> simp only [e1, e2, e3, e4, e5, e6] <;> (repeat' split) <;> omega
theorem headB_short {c t : Int} {k : Bool} {n : Nat} (h : n < 128) : headB c t k n = [UInt8.ofNat (tagN c t k)] ++ [UInt8.ofNat n] := by
  unfold headB lenB; rw [if_pos h]; rfl
theorem headB_long {c t : Int} {k : Bool} {n : Nat} (h : ¬ n < 128) : headB c t k n = ([UInt8.ofNat (tagN c t k)] ++ [UInt8.ofNat (128 + nby n)]) ++ be (nby n) n := by
  unfold headB lenB; rw [if_neg h]; rfl

theorem head_fn {x : Nd} {cs : List Value} {h : Part} {n : Nat} (r : NdR h cs x) (hc : x.cls = 0 ∨ x.cls = 2) (ht : 0 ≤ x.tag ∧ x.tag ≤ 30) (hn : n ≤ 140737488355328) :
    Fn Tryd.prog 63 [.agg cs.toArray, .int .i64 n] h [] (Rets fun v _ Lo => ∃ a c, v = .slice a (headB x.cls x.tag x.cons n).length c ∧ Lo = [.row a c 5 1 (headB x.cls x.tag x.cons n).length (u8s (headB x.cls x.tag x.cons n))]) := by
  cases x with
  | mk c t k bs ks =>
  obtain ⟨a, ca, b, cb, rfl, ha, hb⟩ := r.inv
  simp only [Nd.cls, Nd.tag, Nd.cons] at *
  have hk := nby_bd n
  refine Fn.intro Tryd.func63 rfl Tryd.ntmps63 rfl (fun e he => ?_)
  refine J.weak [(0, _), (1, _)] ⟨rfl, rfl, trivial⟩ ?_
  refine Sr ?_
  refine JL.box rfl rfl rfl (fun b1 => ?_)
  refine Ru 1 rfl ?_
  refine JL.nil ?_
  refine Sr ?_
  refine Ru 1 rfl ?_
  refine JL.op (RunV.own1 ag_3 rfl (by repeat (first | exact List.mem_cons_self .. | apply List.mem_cons_of_mem)) rfl) rfl ?_
  refine JL.op (by first | exact RunV.shl_i64 64 rfl rfl (by decide) (by decide) (by decide) (by omega) (by omega) | exact RunV.shl rfl rfl (by decide) (by decide)) rfl ?_
  refine Ru 1 rfl ?_
  refine JL.op (RunV.own1 ag_3 rfl (by repeat (first | exact List.mem_cons_self .. | apply List.mem_cons_of_mem)) rfl) rfl ?_
  refine JL.op (RunV.join_i64 6 64 rfl rfl (by decide) (by omega) (by omega) (by omega) (by omega) (by omega) (by omega)) rfl ?_
  refine JL.op (RunV.toByte (64 * c + t).toNat cv_3_5 rfl (by omega)) rfl ?_
  refine Ru 1 rfl ?_
  refine Nk [5, 4, 2, 1] rfl ?_
  refine J.seq ?_
  refine Sr ?_
  refine Ru 1 rfl ?_
  refine JL.op (RunV.own1 ag_4 rfl (by repeat (first | exact List.mem_cons_self .. | apply List.mem_cons_of_mem)) rfl) rfl ?_
  refine JL.nil ?_
  refine J.meet [(5, .int .u8 ((UInt8.ofNat (tagN c t k)).toNat : Int))] [(4, _), (1, _)] ⟨rfl, rfl, trivial⟩ ?_ ?_
  ·
   refine Cs rfl (fun hc2 => ?_) fun hc2 => ?_
   ·
    refine Rg ?_
    refine Ru 1 rfl ?_
    refine JL.op (RunV.or32 (64 * c + t).toNat rfl (by omega) (by omega)) rfl ?_
    refine Ru 1 rfl ?_
    refine JL.nil ?_
    refine ⟨rfl, rfl, ?_⟩
    repeat (first | exact trivial | refine ⟨rfl, ?_⟩ | refine ⟨(by exact some_int (by cases k <;> first | rfl | simp_all)), ?_⟩)
   ·
    refine J.skip ?_
    refine ⟨rfl, rfl, ?_⟩
    repeat (first | exact trivial | refine ⟨rfl, ?_⟩ | refine ⟨(by exact some_int (by cases k <;> first | rfl | simp_all)), ?_⟩)
  ·
   refine Sr ?_
   refine Ru 1 rfl ?_
   refine JL.lit1 ap_22 zr_5 rfl rfl rfl rfl rfl (fun b3 => ?_)
   refine Ru 1 rfl ?_
   refine JL.nil ?_
   refine J.seq ?_
   refine Sr ?_
   refine Ru 2 rfl ?_
   refine JL.nil ?_
   refine Cs rfl (fun hc4 => ?_) fun hc4 => ?_
   ·
    refine Sr ?_
    refine Ru 2 rfl ?_
    refine JL.op (RunV.toByte n cv_3_5 rfl rfl) rfl ?_
    refine JL.lit1 ap_22 zr_5 rfl rfl rfl rfl rfl (fun b5 => ?_)
    refine JL.rowB (b := b3) (by repeat (first | exact Del.here | apply Del.there)) ?_
    refine JL.append1 ap_22 rfl rfl CellsR.of_u8 rfl (by repeat (first | exact Del.here | apply Del.there)) (by repeat (first | exact Del.here | apply Del.there)) rfl (rfl) (by first | omega | (simp only [List.length_append, List.length_cons, List.length_nil]; omega)) rfl rfl (fun a6 c6 xs6 hC6 hN6 => ?_)
    obtain rfl := hC6.u8
    refine Ru 1 rfl ?_
    refine Nk [4, 6, 1] rfl ?_
    rw [← headB_short (by omega)]; exact J.ret ⟨_, [_], _, (RetV.one rfl rfl), .cons .here .nil, _, rfl, _, _, rfl, rfl⟩
   ·
    refine J.skip ?_
    refine Kp [6, 4, 1] rfl ?_
    refine Sr ?_
    refine Ru 1 rfl ?_
    refine JL.nil ?_
    refine J.seq ?_
    refine J.block ?_
    refine J.loop (fun t_ S_ h_ L_ => ∃ (j : Nat), t_ = 7 - j ∧ S_ = [(1, .int .i64 n), (6, .slice (some ⟨b3, 0, none⟩) 1 1), (7, .int .i64 j)] ∧ h = h_ ∧ L_ = [.blk b3 5 [.int .u8 ((UInt8.ofNat (tagN c t k)).toNat : Int)], .blk b1 25 [.int .i64 c, .int .i64 t, .bool k, .slice a bs.length ca, .slice b ks.length cb]] ∧ (1 ≤ j ∧ j ≤ nby n)) ⟨_, _, ?_, ⟨1, rfl, rfl, rfl, rfl, ⟨by omega, by omega⟩⟩⟩ ?_
    ·
     repeat (first | exact trivial | refine ⟨rfl, ?_⟩)
    rintro _ _ _ _ ⟨j, rfl, rfl, rfl, rfl, hj, hj2⟩
    have hgt := nby_gt n j hn hj hj2
    refine J.seq ?_
    refine Sr ?_
    refine Ru 2 rfl ?_
    refine JL.op (by first | exact RunV.mul_i64 rfl rfl (by omega) (by omega) | exact RunV.mul rfl rfl) rfl ?_
    refine JL.op (RunV.shr rfl rfl (by omega) (by show _ ≤ ((64 : Nat) : Int); omega)) rfl ?_
    rw [shr_cast n j _ rfl]
    refine Ru 1 rfl ?_
    refine JL.nil ?_
    refine Cs rfl (fun hc7 => ?_) fun hc7 => ?_
    ·
     refine J.skip ?_
     refine J.block ?_
     refine Rg ?_
     refine Ru 1 rfl ?_
     refine JL.op (by first | exact RunV.add_i64 rfl rfl (by omega) (by omega) | exact RunV.add rfl rfl) rfl ?_
     refine Ru 1 rfl ?_
     refine JL.nil ?_
     refine ⟨_, ?_, _, ?_, ⟨j + 1, rfl, rfl, rfl, rfl, ⟨by omega, by omega⟩⟩⟩
     ·
      omega
     ·
      repeat (first | exact trivial | refine ⟨rfl, ?_⟩)
    ·
     refine J.exit ?_
     refine Kp [1, 6, 7] rfl ?_
     refine Sr ?_
     refine Ru 2 rfl ?_
     refine JL.op (by first | exact RunV.add_i64 rfl rfl (by omega) (by omega) | exact RunV.add rfl rfl) rfl ?_
     refine JL.op (RunV.toByte (128 + j) cv_3_5 rfl (by omega)) rfl ?_
     refine JL.lit1 ap_22 zr_5 rfl rfl rfl rfl rfl (fun b8 => ?_)
     refine JL.rowB (b := b3) (by repeat (first | exact Del.here | apply Del.there)) ?_
     refine JL.append1 ap_22 rfl rfl CellsR.of_u8 rfl (by repeat (first | exact Del.here | apply Del.there)) (by repeat (first | exact Del.here | apply Del.there)) rfl (rfl) (by first | omega | (simp only [List.length_append, List.length_cons, List.length_nil]; omega)) rfl rfl (fun a9 c9 xs9 hC9 hN9 => ?_)
     obtain rfl := hC9.u8
     refine Ru 1 rfl ?_
     refine Nk [6, 1, 7] rfl ?_
     refine J.seq ?_
     refine J.block ?_
     refine J.loop (fun t_ S_ h_ L_ => ∃ (j : Nat) (out : List UInt8) (a9 : Option Addr) (q : Nat), t_ = 7 + j ∧ S_ = [(1, .int .i64 n), (6, .slice a9 out.length q), (7, .int .i64 j)] ∧ h = h_ ∧ L_ = [.row a9 q 5 1 out.length (u8s out), .blk b1 25 [.int .i64 c, .int .i64 t, .bool k, .slice a bs.length ca, .slice b ks.length cb]] ∧ (j ≤ nby n ∧ out.length ≤ 10 - j ∧ headB c t k n = out ++ be j n)) ⟨_, _, ?_, ⟨j, _, _, _, rfl, rfl, rfl, rfl, ⟨by omega, by simp; omega, by have hjn : j = nby n := (by omega); rw [hjn]; exact headB_long (by omega)⟩⟩⟩ ?_
     ·
      repeat (first | exact trivial | refine ⟨rfl, ?_⟩ | refine ⟨(by exact some_int (by omega)), ?_⟩)
     rintro _ _ _ _ ⟨j, out, a9, q, rfl, rfl, rfl, rfl, hj, hol, he⟩
     refine J.seq ?_
     refine Sr ?_
     refine Ru 2 rfl ?_
     refine JL.nil ?_
     refine Cs rfl (fun hc10 => ?_) fun hc10 => ?_
     ·
      obtain ⟨i, rfl⟩ : ∃ i, j = i + 1 := ⟨j - 1, by omega⟩
      refine J.skip ?_
      refine J.seq ?_
      refine J.block ?_
      refine Rg ?_
      refine Ru 3 rfl ?_
      refine JL.op (by first | exact RunV.sub_i64 rfl rfl (by omega) (by omega) | exact RunV.sub rfl rfl) rfl ?_
      refine JL.op (by first | exact RunV.mul_i64 rfl rfl (by omega) (by omega) | exact RunV.mul rfl rfl) rfl ?_
      refine JL.op (RunV.shr rfl rfl (by omega) (by show _ ≤ ((64 : Nat) : Int); omega)) rfl ?_
      rw [shr_cast n i _ (by omega)]
      refine JL.op (RunV.toByte (n / 256 ^ i) cv_3_5 rfl rfl) rfl ?_
      refine JL.lit1 ap_22 zr_5 rfl rfl rfl rfl rfl (fun b11 => ?_)
      refine JL.append1 ap_22 rfl rfl CellsR.of_u8 rfl (by repeat (first | exact Del.here | apply Del.there)) (by repeat (first | exact Del.here | apply Del.there)) rfl (rfl) (by first | omega | (simp only [List.length_append, List.length_cons, List.length_nil]; omega)) rfl rfl (fun a12 c12 xs12 hC12 hN12 => ?_)
      obtain rfl := hC12.u8
      refine Ru 1 rfl ?_
      refine JL.nil ?_
      refine Rg ?_
      refine Ru 1 rfl ?_
      refine JL.op (by first | exact RunV.sub_i64 rfl rfl (by omega) (by omega) | exact RunV.sub rfl rfl) rfl ?_
      refine Ru 1 rfl ?_
      refine JL.nil ?_
      refine ⟨_, ?_, _, ?_, ⟨i, _, _, _, rfl, rfl, rfl, rfl, ⟨by omega, by simp; omega, by rw [he, be, List.append_assoc]; rfl⟩⟩⟩
      ·
       omega
      ·
       repeat (first | exact trivial | refine ⟨rfl, ?_⟩ | refine ⟨(by exact some_int (by omega)), ?_⟩)
     ·
      refine J.exit ?_
      refine Kp [6] rfl ?_
      refine Sr ?_
      refine Ru 2 rfl ?_
      refine JL.nil ?_
      (have hj0 : j = 0 := (by omega)); subst hj0; rw [show out = headB c t k n from by rw [he]; simp [be]]; exact J.ret ⟨_, [_], _, (RetV.one rfl rfl), .cons .here .nil, _, rfl, _, _, rfl, rfl⟩

end Go.Proofs.YtmngjbefnloljaaDoor
