/- Walks: the reference's reading and writing of nodes. -/
import Derived.Test.YtmngjbefnloljaaDoorTbl
import Derived.Test.YtmngjbefnloljaaDoorNd
set_option linter.unusedSimpArgs false
set_option linter.unusedVariables false
set_option linter.constructorNameAsVariable false
namespace Go.Proofs.YtmngjbefnloljaaDoor
open Go Go.RowKit
theorem ag_22 : aggT Tryd.prog 22 = some none := by kernel_rfl
theorem ag_23 : aggT Tryd.prog 23 = some none := by kernel_rfl
theorem ag_25 : aggT Tryd.prog 25 = some (some 5) := by kernel_rfl
theorem ag_3 : aggT Tryd.prog 3 = some none := by kernel_rfl
theorem ag_4 : aggT Tryd.prog 4 = some none := by kernel_rfl
theorem ag_5 : aggT Tryd.prog 5 = some none := by kernel_rfl
theorem ca_23 : callT Tryd.prog 23 = true := by kernel_rfl
theorem ca_24 : callT Tryd.prog 24 = true := by kernel_rfl
theorem ca_27 : callT Tryd.prog 27 = true := by kernel_rfl
theorem ca_93 : callT Tryd.prog 93 = true := by kernel_rfl
theorem mixed_ : Tryd.prog.follows .mixedOrders = true := by kernel_rfl
theorem sb_22_9 : strT Tryd.prog 22 9 = true := by kernel_rfl
theorem sl_22 : slT Tryd.prog 22 = some (5, 1) := by kernel_rfl
theorem sl_23 : slT Tryd.prog 23 = some (25, 5) := by kernel_rfl
theorem un_4 : Tryd.prog.underlying 4 = some .bool := by kernel_rfl

def form (t : Int) : Int := if t = 16 ∨ t = 17 then 2 else if t = 1 ∨ t = 2 ∨ t = 3 ∨ t = 4 ∨ t = 5 ∨ t = 6 ∨ t = 10 ∨ t = 12 ∨ t = 19 ∨ t = 22 ∨ t = 23 ∨ t = 24 then 1 else 0

theorem form_fn (t : Int) (h : Part) : Pure Tryd.prog 93 [.int .i64 t] h (.int .i64 (form t)) := by
  refine Fn.intro Tryd.func93 rfl Tryd.ntmps93 rfl (fun e he => ?_)
  refine J.weak [(0, _)] ⟨rfl, trivial⟩ ?_
  refine Sr ?_
  refine Ru 1 rfl ?_
  refine JL.nil ?_
  refine J.seq ?_
  refine Sr ?_
  refine Ru 1 rfl ?_
  refine JL.nil ?_
  refine J.block ?_
  refine J.seq ?_
  refine Sr ?_
  refine Ru 2 rfl ?_
  refine JL.nil ?_
  refine Cs rfl (fun hc1 => ?_) fun hc1 => ?_
  ·
   refine J.skip ?_
   refine J.cond_t rfl ?_
   refine Sr ?_
   refine Ru 1 rfl ?_
   refine Nk [2] rfl ?_
   exact J.retP (RetV.one rfl rfl) (by simp [form, *]) rfl
  ·
   refine Rg ?_
   refine Ru 2 rfl ?_
   refine Nk [4, 3, 2] rfl ?_
   refine Cs rfl (fun hc2 => ?_) fun hc2 => ?_
   ·
    refine Sr ?_
    refine Ru 1 rfl ?_
    refine JL.nil ?_
    exact J.retP (RetV.one rfl rfl) (by simp [form, *]) rfl
   ·
    refine J.seq ?_
    refine Sr ?_
    refine Ru 2 rfl ?_
    refine JL.nil ?_
    refine Cs rfl (fun hc3 => ?_) fun hc3 => ?_
    ·
     refine J.skip ?_
     refine Kp [7, 2] rfl ?_
     refine J.cond_t rfl ?_
     refine Sr ?_
     refine Ru 1 rfl ?_
     refine JL.nil ?_
     exact J.retP (RetV.one rfl rfl) (by simp [form, *]) rfl
    ·
     refine Sr ?_
     refine Ru 2 rfl ?_
     refine Nk [7, 3, 2] rfl ?_
     refine Cs rfl (fun hc4 => ?_) fun hc4 => ?_
     ·
      refine J.skip ?_
      refine J.cond_t rfl ?_
      refine Sr ?_
      refine Ru 1 rfl ?_
      refine JL.nil ?_
      exact J.retP (RetV.one rfl rfl) (by simp [form, *]) rfl
     ·
      refine Sr ?_
      refine Ru 2 rfl ?_
      refine JL.nil ?_
      refine Cs rfl (fun hc5 => ?_) fun hc5 => ?_
      ·
       refine J.skip ?_
       refine Kp [7, 2] rfl ?_
       refine J.cond_t rfl ?_
       refine Sr ?_
       refine Ru 1 rfl ?_
       refine JL.nil ?_
       exact J.retP (RetV.one rfl rfl) (by simp [form, *]) rfl
      ·
       refine Sr ?_
       refine Ru 2 rfl ?_
       refine Nk [7, 3, 2] rfl ?_
       refine Cs rfl (fun hc6 => ?_) fun hc6 => ?_
       ·
        refine J.skip ?_
        refine J.cond_t rfl ?_
        refine Sr ?_
        refine Ru 1 rfl ?_
        refine JL.nil ?_
        exact J.retP (RetV.one rfl rfl) (by simp [form, *]) rfl
       ·
        refine Sr ?_
        refine Ru 2 rfl ?_
        refine JL.nil ?_
        refine Cs rfl (fun hc7 => ?_) fun hc7 => ?_
        ·
         refine J.skip ?_
         refine Kp [7, 2] rfl ?_
         refine J.cond_t rfl ?_
         refine Sr ?_
         refine Ru 1 rfl ?_
         refine JL.nil ?_
         exact J.retP (RetV.one rfl rfl) (by simp [form, *]) rfl
        ·
         refine Sr ?_
         refine Ru 2 rfl ?_
         refine Nk [7, 3, 2] rfl ?_
         refine Cs rfl (fun hc8 => ?_) fun hc8 => ?_
         ·
          refine J.skip ?_
          refine J.cond_t rfl ?_
          refine Sr ?_
          refine Ru 1 rfl ?_
          refine JL.nil ?_
          exact J.retP (RetV.one rfl rfl) (by simp [form, *]) rfl
         ·
          refine Sr ?_
          refine Ru 2 rfl ?_
          refine JL.nil ?_
          refine Cs rfl (fun hc9 => ?_) fun hc9 => ?_
          ·
           refine J.skip ?_
           refine Kp [7, 2] rfl ?_
           refine J.cond_t rfl ?_
           refine Sr ?_
           refine Ru 1 rfl ?_
           refine JL.nil ?_
           exact J.retP (RetV.one rfl rfl) (by simp [form, *]) rfl
          ·
           refine Sr ?_
           refine Ru 2 rfl ?_
           refine Nk [7, 3, 2] rfl ?_
           refine Cs rfl (fun hc10 => ?_) fun hc10 => ?_
           ·
            refine J.skip ?_
            refine J.cond_t rfl ?_
            refine Sr ?_
            refine Ru 1 rfl ?_
            refine JL.nil ?_
            exact J.retP (RetV.one rfl rfl) (by simp [form, *]) rfl
           ·
            refine Sr ?_
            refine Ru 2 rfl ?_
            refine JL.nil ?_
            refine Cs rfl (fun hc11 => ?_) fun hc11 => ?_
            ·
             refine J.skip ?_
             refine Kp [7, 2] rfl ?_
             refine J.cond_t rfl ?_
             refine Sr ?_
             refine Ru 1 rfl ?_
             refine JL.nil ?_
             exact J.retP (RetV.one rfl rfl) (by simp [form, *]) rfl
            ·
             refine Sr ?_
             refine Ru 2 rfl ?_
             refine Nk [7, 3, 2] rfl ?_
             refine Cs rfl (fun hc12 => ?_) fun hc12 => ?_
             ·
              refine J.skip ?_
              refine J.cond_t rfl ?_
              refine Sr ?_
              refine Ru 1 rfl ?_
              refine JL.nil ?_
              exact J.retP (RetV.one rfl rfl) (by simp [form, *]) rfl
             ·
              refine Sr ?_
              refine Ru 2 rfl ?_
              refine JL.nil ?_
              refine Cs rfl (fun hc13 => ?_) fun hc13 => ?_
              ·
               refine J.skip ?_
               refine Kp [7, 2] rfl ?_
               refine J.cond_t rfl ?_
               refine Sr ?_
               refine Ru 1 rfl ?_
               refine JL.nil ?_
               exact J.retP (RetV.one rfl rfl) (by simp [form, *]) rfl
              ·
               refine Rg ?_
               refine Ru 2 rfl ?_
               refine Nk [7, 2] rfl ?_
               refine Cs rfl (fun hc14 => ?_) fun hc14 => ?_
               ·
                refine Sr ?_
                refine Ru 1 rfl ?_
                refine JL.nil ?_
                exact J.retP (RetV.one rfl rfl) (by simp [form, *]) rfl
               ·
                refine J.skip ?_
                refine Sr ?_
                refine Ru 1 rfl ?_
                refine JL.nil ?_
                exact J.retP (RetV.one rfl rfl) (by simp [form, *]) rfl




def mayB (c t : Int) (cons : Bool) : Bool :=
  decide (0 ≤ t ∧ t ≤ 30) && (decide (c = 2) || (decide (c = 0) && ((decide (form t = 1) && !cons) || (decide (form t = 2) && cons))))

theorem rmay_fn (c t : Int) (k : Bool) (h : Part) : Pure Tryd.prog 64 [.int .i64 c, .int .i64 t, .bool k] h (.bool (mayB c t k)) := by
  refine Fn.intro Tryd.func64 rfl Tryd.ntmps64 rfl (fun e he => ?_)
  refine J.weak [(0, _), (1, _), (2, _)] ⟨rfl, rfl, rfl, trivial⟩ ?_
  refine Sr ?_
  refine Ru 1 rfl ?_
  refine JL.nil ?_
  refine J.seq ?_
  refine Sr ?_
  refine Ru 3 rfl ?_
  refine Bs 10 rfl (fun hc1 => ?_) fun hc1 => ?_
  ·
   refine Ru 3 rfl ?_
   refine Nk [13, 6, 0, 1, 2] rfl ?_
   refine J.cond_t rfl ?_
   refine Sr ?_
   refine Ru 1 rfl ?_
   refine JL.nil ?_
   exact J.retP (RetV.one rfl rfl) (by cases k <;> simp_all [mayB] <;> omega) rfl
  ·
   refine Ru 3 rfl ?_
   refine Nk [13, 6, 0, 1, 2] rfl ?_
   refine Cs rfl (fun hc2 => ?_) fun hc2 => ?_
   ·
    refine Sr ?_
    refine Ru 1 rfl ?_
    refine JL.nil ?_
    exact J.retP (RetV.one rfl rfl) (by cases k <;> simp_all [mayB] <;> omega) rfl
   ·
    refine J.skip ?_
    refine J.seq ?_
    refine Sr ?_
    refine Ru 2 rfl ?_
    refine JL.nil ?_
    refine Cs rfl (fun hc3 => ?_) fun hc3 => ?_
    ·
     refine Sr ?_
     refine Ru 1 rfl ?_
     refine Nk [6, 0, 1, 2] rfl ?_
     exact J.retP (RetV.one rfl rfl) (by cases k <;> simp_all [mayB] <;> omega) rfl
    ·
     refine J.skip ?_
     refine Kp [6, 0, 1, 2] rfl ?_
     refine Sr ?_
     refine Ru 1 rfl ?_
     refine JL.callP ca_93 rfl (form_fn _ _) rfl ?_
     refine Ru 1 rfl ?_
     refine JL.nil ?_
     refine Sr ?_
     refine Ru 3 rfl ?_
     refine Bs 20 rfl (fun hc5 => ?_) fun hc5 => ?_
     ·
      refine Ru 3 rfl ?_
      refine Bs 23 rfl (fun hc6 => ?_) fun hc6 => ?_
      ·
       refine Ru 4 rfl ?_
       refine Bs 27 rfl (fun hc7 => ?_) fun hc7 => ?_
       ·
        refine Ru 8 rfl ?_
        refine Nk [6] rfl ?_
        exact J.retP (RetV.one rfl rfl) (by cases k <;> simp_all [mayB] <;> omega) rfl
       ·
        refine Ru 3 rfl ?_
        refine Bs 30 rfl (fun hc8 => ?_) fun hc8 => ?_
        ·
         refine Ru 5 rfl ?_
         refine Nk [6] rfl ?_
         exact J.retP (RetV.one rfl rfl) (by cases k <;> simp_all [mayB] <;> omega) rfl
        ·
         refine Ru 5 rfl ?_
         refine Nk [6] rfl ?_
         exact J.retP (RetV.one rfl rfl) (by cases k <;> simp_all [mayB] <;> omega) rfl
      ·
       refine Ru 7 rfl ?_
       refine Bs 30 rfl (fun hc9 => ?_) fun hc9 => ?_
       ·
        refine Ru 5 rfl ?_
        refine Nk [6] rfl ?_
        exact J.retP (RetV.one rfl rfl) (by cases k <;> simp_all [mayB] <;> omega) rfl
       ·
        refine Ru 5 rfl ?_
        refine Nk [6] rfl ?_
        exact J.retP (RetV.one rfl rfl) (by cases k <;> simp_all [mayB] <;> omega) rfl
     ·
      refine Ru 15 rfl ?_
      refine Nk [6] rfl ?_
      exact J.retP (RetV.one rfl rfl) (by cases k <;> simp_all [mayB] <;> omega) rfl





/-- Whether bytes are below others. -/
def belowB : List UInt8 → List UInt8 → Bool
  | _, [] => false
  | [], _ :: _ => true
  | a :: l, b :: r => if a = b then belowB l r else decide (a < b)

theorem belowB_step (l r : List UInt8) (k : Nat) (hk : k < l.length) (hr : k < r.length) : belowB (l.drop k) (r.drop k) = if l[k] = r[k] then belowB (l.drop (k + 1)) (r.drop (k + 1)) else decide (l[k] < r[k]) := by
  rw [List.drop_eq_getElem_cons hk, List.drop_eq_getElem_cons hr]
  rfl

theorem belowB_end (l r : List UInt8) (k : Nat) (hk : k ≤ l.length) (hr : k ≤ r.length) (h : l.length ≤ k ∨ r.length ≤ k) : belowB (l.drop k) (r.drop k) = decide ((l.length : Int) < r.length) := by
  rcases h with h | h
  · rw [List.drop_of_length_le h]
    cases hd : r.drop k with
    | nil => have := congrArg List.length hd; simp at this; simp [belowB]; omega
    | cons x t => have := congrArg List.length hd; simp at this; simp [belowB]; omega
  · rw [List.drop_of_length_le h]
    have : belowB (l.drop k) [] = false := by cases l.drop k <;> rfl
    rw [this]; simp; omega

theorem below_fn {a b : Option Addr} {ca cb : Nat} {l r : List UInt8} {h : Part} (ha : SlR u8R 1 h a ca l) (hb : SlR u8R 1 h b cb r) :
    Pure Tryd.prog 49 [.slice a l.length ca, .slice b r.length cb] h (.bool (belowB l r)) := by
  have hl := ha.le63
  have hr := hb.le63
  refine Fn.intro Tryd.func49 rfl Tryd.ntmps49 rfl (fun e he => ?_)
  refine J.weak [(0, _), (1, _)] ⟨rfl, rfl, trivial⟩ ?_
  refine Sr ?_
  refine Ru 1 rfl ?_
  refine JL.nil ?_
  refine J.seq ?_
  refine Sr ?_
  refine Ru 1 rfl ?_
  refine JL.nil ?_
  refine J.block ?_
  refine J.loop (fun t_ S_ h_ L_ => ∃ (k : Nat), t_ = l.length - k ∧ S_ = [(0, .slice a l.length ca), (1, .slice b r.length cb), (5, .int .i64 k)] ∧ h = h_ ∧ L_ = [] ∧ (k ≤ l.length ∧ k ≤ r.length ∧ belowB l r = belowB (l.drop k) (r.drop k))) ⟨_, _, ?_, ⟨0, rfl, rfl, rfl, rfl, ⟨by omega, by omega, rfl⟩⟩⟩ ?_
  ·
   repeat (first | exact trivial | refine ⟨rfl, ?_⟩)
  rintro _ _ _ _ ⟨k, rfl, rfl, rfl, rfl, hk, hk', he⟩
  refine J.seq ?_
  refine Sr ?_
  refine Ru 5 rfl ?_
  refine Bs 10 rfl (fun hc1 => ?_) fun hc1 => ?_
  ·
   refine Ru 5 rfl ?_
   refine JL.nil ?_
   refine Cs rfl (fun hc2 => ?_) fun hc2 => ?_
   ·
    refine J.skip ?_
    refine J.seq ?_
    refine J.block ?_
    refine J.seq ?_
    refine J.drawn mixed_ (by kernel_rfl) ?_
    refine Rq 2 rfl ?_
    refine JQ.ope (RunE.index sl_22 rfl rfl (by first | with_reducible rfl | exact (Int.toNat_of_nonneg (by omega)).symm) (by assumption) rfl (by omega)) rfl ?_
    rintro _ ⟨b3, o3, hi3, rfl, hE3⟩
    refine JQ.op (RunV.ld_u8 ag_5 rfl (by assumption)) rfl ?_
    refine Rq 2 rfl ?_
    refine JQ.ope (RunE.index sl_22 rfl rfl (by first | with_reducible rfl | exact (Int.toNat_of_nonneg (by omega)).symm) (by assumption) rfl (by omega)) rfl ?_
    rintro _ ⟨b5, o5, hi5, rfl, hE5⟩
    refine JQ.op (RunV.ld_u8 ag_5 rfl (by assumption)) rfl ?_
    refine Rq 1 rfl ?_
    refine JQ.nil ?_
    refine Cs rfl (fun hc7 => ?_) fun hc7 => ?_
    ·
     refine J.seq ?_
     refine J.drawn mixed_ (by kernel_rfl) ?_
     refine Rq 2 rfl ?_
     refine JQ.ope (RunE.index sl_22 rfl rfl (by first | with_reducible rfl | exact (Int.toNat_of_nonneg (by omega)).symm) (by assumption) rfl (by omega)) rfl ?_
     rintro _ ⟨b8, o8, hi8, rfl, hE8⟩
     refine JQ.op (RunV.ld_u8 ag_5 rfl (by assumption)) rfl ?_
     refine Rq 2 rfl ?_
     refine JQ.ope (RunE.index sl_22 rfl rfl (by first | with_reducible rfl | exact (Int.toNat_of_nonneg (by omega)).symm) (by assumption) rfl (by omega)) rfl ?_
     rintro _ ⟨b10, o10, hi10, rfl, hE10⟩
     refine JQ.op (RunV.ld_u8 ag_5 rfl (by assumption)) rfl ?_
     refine Rq 2 rfl ?_
     refine JQ.nil ?_
     exact J.retP (RetV.one rfl rfl) (by rw [he, belowB_step l r k (by omega) (by omega), if_neg (fun e => hc7 (by simp [e]))]; simp [UInt8.lt_iff_toNat_lt]) rfl
    ·
     refine J.skip ?_
     refine Rg ?_
     refine Ru 1 rfl ?_
     refine JL.op (by first | exact RunV.add_i64 rfl rfl (by omega) (by omega) | exact RunV.add rfl rfl) rfl ?_
     refine Ru 1 rfl ?_
     refine JL.nil ?_
     refine ⟨_, ?_, _, ?_, ⟨k + 1, rfl, rfl, rfl, rfl, ⟨by omega, by omega, by rw [he, belowB_step l r k (by omega) (by omega), if_pos (UInt8.toNat_inj.1 (by have h7 : (l[k].toNat : Int) = r[k].toNat := hc7; omega))]⟩⟩⟩
     ·
      omega
     ·
      repeat (first | exact trivial | refine ⟨rfl, ?_⟩)
   ·
    refine J.exit ?_
    refine Kp [0, 1] rfl ?_
    refine Sr ?_
    refine Ru 6 rfl ?_
    refine Nk [4] rfl ?_
    exact J.retP (RetV.one rfl rfl) (by rw [he, belowB_end l r k hk hk' (by omega)]) rfl
  ·
   refine Ru 5 rfl ?_
   refine JL.nil ?_
   refine J.cond_f rfl ?_
   refine J.exit ?_
   refine Kp [0, 1] rfl ?_
   refine Sr ?_
   refine Ru 6 rfl ?_
   refine Nk [4] rfl ?_
   exact J.retP (RetV.one rfl rfl) (by rw [he, belowB_end l r k hk hk' (by omega)]) rfl






theorem deep_fn : ∀ (n : Nat) (x : Nd) (cs : List Value) (h : Part), x.rk ≤ n → NdR h cs x → x.sz ≤ 1125899906842624 → Pure Tryd.prog 23 [.agg cs.toArray] h (.int .i64 x.rk) := by
  intro n
  induction n with
  | zero => intro x cs h hx; cases x; simp [Nd.rk] at hx
  | succ n ih =>
  intro x cs h hx r hsz
  cases x with
  | mk c t k bs ks =>
  obtain ⟨a, ca, b, cb, rfl, ha, hb⟩ := r.inv
  have hl := hb.big
  simp only [Nd.rk] at hx
  simp only [Nd.sz] at hsz
  have hkr : ∀ i (hi : i < ks.length), ks[i].rk ≤ n ∧ ks[i].sz ≤ 1125899906842624 := fun i hi => by
    have h1 := Nd.rk_lt (List.getElem_mem hi)
    have h2 : ks[i].sz ≤ Nd.szL ks := Nd.sz_le (List.getElem_mem hi)
    omega
  have hrk : ∀ i, Nd.rkL (ks.take i) ≤ 1125899906842624 := fun i => by
    have h1 := Nd.rkL_le ks i
    have h2 := Nd.rkL_le_szL ks
    omega
  refine Fn.intro Tryd.func23 rfl Tryd.ntmps23 rfl (fun e he => ?_)
  refine J.weak [(0, _)] ⟨rfl, trivial⟩ ?_
  refine Sr ?_
  refine JL.box rfl rfl rfl (fun b1 => ?_)
  refine Ru 1 rfl ?_
  refine JL.nil ?_
  refine Sr ?_
  refine Ru 1 rfl ?_
  refine JL.nil ?_
  refine J.seq ?_
  refine Sr ?_
  refine Ru 1 rfl ?_
  refine JL.nil ?_
  refine J.block ?_
  refine J.loop (fun t_ S_ h_ L_ => ∃ (i : Nat), t_ = ks.length - i ∧ S_ = [(1, .pointer (some ⟨b1, 0, none⟩)), (3, .int .i64 (Nd.rkL (ks.take i))), (4, .int .i64 i)] ∧ h = h_ ∧ L_ = [.blk b1 25 [.int .i64 c, .int .i64 t, .bool k, .slice a bs.length ca, .slice b ks.length cb]] ∧ (i ≤ ks.length)) ⟨_, _, ?_, ⟨0, rfl, rfl, rfl, rfl, by omega⟩⟩ ?_
  ·
   repeat (first | exact trivial | refine ⟨rfl, ?_⟩ | refine ⟨(by exact some_i64 (by rw [Nd.rkL_take ks i (by omega)]; omega)), ?_⟩)
  rintro _ _ _ _ ⟨i, rfl, rfl, rfl, rfl, hi⟩
  have hri := hrk i
  refine J.seq ?_
  refine Sr ?_
  refine Ru 2 rfl ?_
  refine JL.op (RunV.own1 ag_23 rfl (by repeat (first | exact List.mem_cons_self .. | apply List.mem_cons_of_mem)) rfl) rfl ?_
  refine Ru 2 rfl ?_
  refine JL.nil ?_
  refine Cs rfl (fun hc2 => ?_) fun hc2 => ?_
  ·
   refine J.skip ?_
   refine J.seq ?_
   refine J.block ?_
   refine Sr ?_
   refine Ru 1 rfl ?_
   refine JL.op (RunV.own1 ag_23 rfl (by repeat (first | exact List.mem_cons_self .. | apply List.mem_cons_of_mem)) rfl) rfl ?_
   refine Ru 1 rfl ?_
   refine JL.ope (RunE.index sl_23 rfl rfl (by first | with_reducible rfl | exact (Int.toNat_of_nonneg (by omega)).symm) (by assumption) rfl (by omega)) rfl ?_
   rintro _ ⟨b3, o3, hi3, rfl, hE3⟩
   refine JL.ope (RunE.loadA ag_25 rfl (by assumption)) rfl ?_
   rintro _ ⟨_, rfl, hNd4⟩
   refine JL.callP ca_23 rfl (ih _ _ _ (hkr _ (by omega)).1 (by assumption) (hkr _ (by omega)).2) rfl ?_
   refine Ru 1 rfl ?_
   refine JL.nil ?_
   refine Sr ?_
   refine Ru 3 rfl ?_
   refine JL.nil ?_
   refine Cs rfl (fun hc6 => ?_) fun hc6 => ?_
   ·
    refine Rg ?_
    refine Ru 2 rfl ?_
    refine JL.nil ?_
    refine Rg ?_
    refine Ru 1 rfl ?_
    refine JL.op (by first | exact RunV.add_i64 rfl rfl (by omega) (by omega) | exact RunV.add rfl rfl) rfl ?_
    refine Ru 1 rfl ?_
    refine JL.nil ?_
    refine ⟨_, ?_, _, ?_, ⟨i + 1, rfl, rfl, rfl, rfl, by omega⟩⟩
    ·
     omega
    ·
     repeat (first | exact trivial | refine ⟨rfl, ?_⟩ | refine ⟨(by exact some_i64 (by rw [Nd.rkL_take ks i (by omega)]; omega)), ?_⟩)
   ·
    refine J.skip ?_
    refine Rg ?_
    refine Ru 1 rfl ?_
    refine JL.op (by first | exact RunV.add_i64 rfl rfl (by omega) (by omega) | exact RunV.add rfl rfl) rfl ?_
    refine Ru 1 rfl ?_
    refine JL.nil ?_
    refine ⟨_, ?_, _, ?_, ⟨i + 1, rfl, rfl, rfl, rfl, by omega⟩⟩
    ·
     omega
    ·
     repeat (first | exact trivial | refine ⟨rfl, ?_⟩ | refine ⟨(by exact some_i64 (by rw [Nd.rkL_take ks i (by omega)]; omega)), ?_⟩)
  ·
   refine J.exit ?_
   refine Kp [3] rfl ?_
   refine Sr ?_
   refine Ru 1 rfl ?_
   refine JL.op (by first | exact RunV.add_i64 rfl rfl (by omega) (by omega) | exact RunV.add rfl rfl) rfl ?_
   refine Ru 1 rfl ?_
   refine JL.nil ?_
   exact J.retP (RetV.one rfl rfl) (by simp only [Nd.rk]; rw [List.take_of_length_le (by omega)]; simp) rfl


theorem deep_fn' {x : Nd} {cs : List Value} {h : Part} (r : NdR h cs x) (hs : x.sz ≤ 1125899906842624) : Pure Tryd.prog 23 [.agg cs.toArray] h (.int .i64 x.rk) := deep_fn _ x cs h (Nat.le_refl _) r hs




theorem size_fn : ∀ (n : Nat) (x : Nd) (cs : List Value) (h : Part) (m : Int), x.rk ≤ n → NdR h cs x → 0 ≤ m → m ≤ 1125899906842624 → Pure Tryd.prog 24 [.agg cs.toArray, .int .i64 m] h (.int .i64 (x.szM m)) := by
  intro n
  induction n with
  | zero => intro x cs h m hx; cases x; simp [Nd.rk] at hx
  | succ n ih =>
  intro x cs h m hx r hm hm'
  have hbd := (Nd.szM_bd _ x m (Nat.le_refl _) r.okB hm)
  have hokB := r.okB
  cases x with
  | mk c t k bs ks =>
  obtain ⟨a, ca, b, cb, rfl, ha, hb⟩ := r.inv
  have hl := hb.big
  have hl2 := ha.big
  simp only [Nd.rk] at hx
  simp only [Nd.szM] at hbd
  have hkr : ∀ i (hi : i < ks.length), ks[i].rk ≤ n := fun i hi => by
    have h1 := Nd.rk_lt (List.getElem_mem hi)
    omega
  have hko : ∀ i (hi : i < ks.length), ks[i].okB := fun i hi => (Nd.okBL_iff ks).1 hokB.2 _ (List.getElem_mem hi)
  have hst : ∀ (i : Nat) (q : Int) (hi : i < ks.length), q ≤ m → Nd.szML (ks.drop i) q m = Nd.szML (ks.drop (i + 1)) (q + ks[i].szM (m - q)) m := fun i q hi hq => by
    rw [List.drop_eq_getElem_cons hi, Nd.szML, if_pos hq]
  refine Fn.intro Tryd.func24 rfl Tryd.ntmps24 rfl (fun e he => ?_)
  refine J.weak [(0, _), (1, _)] ⟨rfl, rfl, trivial⟩ ?_
  refine Sr ?_
  refine JL.box rfl rfl rfl (fun b1 => ?_)
  refine Ru 1 rfl ?_
  refine JL.nil ?_
  refine Sr ?_
  refine Ru 1 rfl ?_
  refine JL.op (RunV.own1 ag_22 rfl (by repeat (first | exact List.mem_cons_self .. | apply List.mem_cons_of_mem)) rfl) rfl ?_
  refine Ru 1 rfl ?_
  refine JL.op (by first | exact RunV.add_i64 rfl rfl (by omega) (by omega) | exact RunV.add rfl rfl) rfl ?_
  refine Ru 1 rfl ?_
  refine Nk [5, 4, 2, 1] rfl ?_
  refine J.seq ?_
  refine Sr ?_
  refine Ru 1 rfl ?_
  refine JL.nil ?_
  refine J.block ?_
  refine J.loop (fun t_ S_ h_ L_ => ∃ (i : Nat) (q : Int), t_ = ks.length - i ∧ S_ = [(1, .int .i64 m), (2, .pointer (some ⟨b1, 0, none⟩)), (5, .int .i64 q), (6, .int .i64 i)] ∧ h = h_ ∧ L_ = [.blk b1 25 [.int .i64 c, .int .i64 t, .bool k, .slice a bs.length ca, .slice b ks.length cb]] ∧ (i ≤ ks.length ∧ 0 ≤ q ∧ q ≤ m + 1 + 140737488355328 ∧ Nd.szML ks (1 + bs.length) m = Nd.szML (ks.drop i) q m)) ⟨_, _, ?_, ⟨0, 1 + bs.length, rfl, rfl, rfl, rfl, ⟨by omega, by omega, by omega, rfl⟩⟩⟩ ?_
  ·
   repeat (first | exact trivial | refine ⟨rfl, ?_⟩)
  rintro _ _ _ _ ⟨i, q, rfl, rfl, rfl, rfl, hi, hq0, hq1, hq⟩
  refine J.seq ?_
  refine Sr ?_
  refine Ru 2 rfl ?_
  refine JL.op (RunV.own1 ag_23 rfl (by repeat (first | exact List.mem_cons_self .. | apply List.mem_cons_of_mem)) rfl) rfl ?_
  refine Ru 3 rfl ?_
  refine Bs 16 rfl (fun hc2 => ?_) fun hc2 => ?_
  ·
   refine Ru 4 rfl ?_
   refine JL.nil ?_
   refine Cs rfl (fun hc3 => ?_) fun hc3 => ?_
   ·
    refine J.skip ?_
    refine J.seq ?_
    refine J.block ?_
    refine Rg ?_
    refine Ru 2 rfl ?_
    refine JL.op (RunV.own1 ag_23 rfl (by repeat (first | exact List.mem_cons_self .. | apply List.mem_cons_of_mem)) rfl) rfl ?_
    refine Ru 1 rfl ?_
    refine JL.ope (RunE.index sl_23 rfl rfl (by first | with_reducible rfl | exact (Int.toNat_of_nonneg (by omega)).symm) (by assumption) rfl (by omega)) rfl ?_
    rintro _ ⟨b4, o4, hi4, rfl, hE4⟩
    refine JL.ope (RunE.loadA ag_25 rfl (by assumption)) rfl ?_
    rintro _ ⟨_, rfl, hNd5⟩
    refine Ru 2 rfl ?_
    refine JL.op (by first | exact RunV.sub_i64 rfl rfl (by omega) (by omega) | exact RunV.sub rfl rfl) rfl ?_
    refine JL.callP ca_24 rfl (ih _ _ _ _ (hkr _ (by omega)) (by assumption) (by omega) (by omega)) rfl ?_
    have hbd2 := Nd.szM_bd _ (ks[i]'(by omega)) (m - q) (Nat.le_refl _) (hko _ (by omega)) (by omega)
    refine JL.op (by first | exact RunV.add_i64 rfl rfl (by omega) (by omega) | exact RunV.add rfl rfl) rfl ?_
    refine Ru 1 rfl ?_
    refine JL.nil ?_
    refine Rg ?_
    refine Ru 1 rfl ?_
    refine JL.op (by first | exact RunV.add_i64 rfl rfl (by omega) (by omega) | exact RunV.add rfl rfl) rfl ?_
    refine Ru 1 rfl ?_
    refine JL.nil ?_
    refine ⟨_, ?_, _, ?_, ⟨i + 1, q + (ks[i]'(by omega)).szM (m - q), rfl, rfl, rfl, rfl, ⟨by omega, by omega, by omega, by rw [hq, hst i q (by omega) (by omega)]⟩⟩⟩
    ·
     omega
    ·
     repeat (first | exact trivial | refine ⟨rfl, ?_⟩)
   ·
    refine J.exit ?_
    refine Kp [5] rfl ?_
    refine Sr ?_
    refine Ru 2 rfl ?_
    refine JL.nil ?_
    exact J.retP (RetV.one rfl rfl) (by simp only [Nd.szM]; rw [hq, Nd.szML_stop _ _ _ (by omega)]) rfl
  ·
   refine Ru 4 rfl ?_
   refine JL.nil ?_
   refine J.cond_f rfl ?_
   refine J.exit ?_
   refine Kp [5] rfl ?_
   refine Sr ?_
   refine Ru 2 rfl ?_
   refine JL.nil ?_
   exact J.retP (RetV.one rfl rfl) (by simp only [Nd.szM]; rw [hq, List.drop_of_length_le (by omega)]; rfl) rfl
theorem size_fn' {x : Nd} {cs : List Value} {h : Part} {m : Int} (r : NdR h cs x) (h0 : 0 ≤ m) (h1 : m ≤ 1125899906842624) : Pure Tryd.prog 24 [.agg cs.toArray, .int .i64 m] h (.int .i64 (x.szM m)) := size_fn _ x cs h m (Nat.le_refl _) r h0 h1




theorem same_fn : ∀ (n : Nat) (x y : Nd) (cs cs' : List Value) (h : Part), x.rk ≤ n → NdR h cs x → NdR h cs' y → Pure Tryd.prog 27 [.agg cs.toArray, .agg cs'.toArray] h (.bool (x.beq y)) := by
  intro n
  induction n with
  | zero => intro x y cs cs' h hx; cases x; simp [Nd.rk] at hx
  | succ n ih =>
  intro x y cs cs' h hx r r'
  cases x with
  | mk c t k bs ks =>
  cases y with
  | mk c' t' k' bs' ks' =>
  obtain ⟨a, ca, b, cb, rfl, ha, hb⟩ := r.inv
  obtain ⟨a', ca', b', cb', rfl, ha', hb'⟩ := r'.inv
  have hl := hb.big
  have hl' := hb'.big
  have hl2 := ha.big
  have hl2' := ha'.big
  simp only [Nd.rk] at hx
  have hkr : ∀ i (hi : i < ks.length), ks[i].rk ≤ n := fun i hi => by
    have h1 := Nd.rk_lt (List.getElem_mem hi)
    omega
  refine Fn.intro Tryd.func27 rfl Tryd.ntmps27 rfl (fun e he => ?_)
  refine J.weak [(0, _), (1, _)] ⟨rfl, rfl, trivial⟩ ?_
  refine Sr ?_
  refine JL.box rfl rfl rfl (fun b1 => ?_)
  refine JL.box rfl rfl rfl (fun b2 => ?_)
  refine Ru 1 rfl ?_
  refine JL.nil ?_
  refine J.seq ?_
  refine Sr ?_
  refine Ru 1 rfl ?_
  refine JL.op (RunV.own1 ag_3 rfl (by repeat (first | exact List.mem_cons_self .. | apply List.mem_cons_of_mem)) rfl) rfl ?_
  refine Ru 1 rfl ?_
  refine JL.op (RunV.own1 ag_3 rfl (by repeat (first | exact List.mem_cons_self .. | apply List.mem_cons_of_mem)) rfl) rfl ?_
  refine Ru 2 rfl ?_
  refine Bs 11 rfl (fun hc3 => ?_) fun hc3 => ?_
  ·
   refine Ru 31 rfl ?_
   refine Nk [42, 4, 3, 2] rfl ?_
   refine J.cond_t rfl ?_
   refine Sr ?_
   refine Ru 1 rfl ?_
   refine JL.nil ?_
   exact J.retP (RetV.one rfl rfl) (by rw [Nd.beq_ne (by intro e; injection e; simp_all)]) rfl
  ·
   refine Ru 1 rfl ?_
   refine JL.opg rfl rfl  (RunV.own1 ag_3 rfl (by repeat (first | exact List.mem_cons_self .. | apply List.mem_cons_of_mem)) rfl) rfl ?_
   refine Ru 1 rfl ?_
   refine JL.opg rfl rfl  (RunV.own1 ag_3 rfl (by repeat (first | exact List.mem_cons_self .. | apply List.mem_cons_of_mem)) rfl) rfl ?_
   refine Ru 3 rfl ?_
   refine Bs 18 rfl (fun hc4 => ?_) fun hc4 => ?_
   ·
    refine Ru 24 rfl ?_
    refine Nk [42, 4, 3, 2] rfl ?_
    refine J.cond_t rfl ?_
    refine Sr ?_
    refine Ru 1 rfl ?_
    refine JL.nil ?_
    exact J.retP (RetV.one rfl rfl) (by rw [Nd.beq_ne (by intro e; injection e; simp_all)]) rfl
   ·
    refine Ru 1 rfl ?_
    refine JL.opg rfl rfl  (RunV.own1 ag_4 rfl (by repeat (first | exact List.mem_cons_self .. | apply List.mem_cons_of_mem)) rfl) rfl ?_
    refine Ru 1 rfl ?_
    refine JL.opg rfl rfl  (RunV.own1 ag_4 rfl (by repeat (first | exact List.mem_cons_self .. | apply List.mem_cons_of_mem)) rfl) rfl ?_
    refine JL.opg rfl rfl  (RunV.neqB un_4 rfl rfl) rfl ?_
    refine Ru 2 rfl ?_
    refine Bs 25 rfl (fun hc5 => ?_) fun hc5 => ?_
    ·
     refine Ru 17 rfl ?_
     refine Nk [42, 4, 3, 2] rfl ?_
     refine J.cond_t rfl ?_
     refine Sr ?_
     refine Ru 1 rfl ?_
     refine JL.nil ?_
     exact J.retP (RetV.one rfl rfl) (by rw [Nd.beq_ne (by intro e; injection e; simp_all)]) rfl
    ·
     refine Ru 1 rfl ?_
     refine JL.opg rfl rfl  (RunV.own1 ag_22 rfl (by repeat (first | exact List.mem_cons_self .. | apply List.mem_cons_of_mem)) rfl) rfl ?_
     refine JL.opg rfl rfl  (RunV.strB sb_22_9 rfl (by assumption) rfl) rfl ?_
     refine Ru 1 rfl ?_
     refine JL.opg rfl rfl  (RunV.own1 ag_22 rfl (by repeat (first | exact List.mem_cons_self .. | apply List.mem_cons_of_mem)) rfl) rfl ?_
     refine JL.opg rfl rfl  (RunV.strB sb_22_9 rfl (by assumption) rfl) rfl ?_
     refine JL.opg rfl rfl  (RunV.neqS rfl rfl) rfl ?_
     refine Ru 2 rfl ?_
     refine Bs 34 rfl (fun hc6 => ?_) fun hc6 => ?_
     ·
      refine Ru 8 rfl ?_
      refine Nk [42, 4, 3, 2] rfl ?_
      refine J.cond_t rfl ?_
      refine Sr ?_
      refine Ru 1 rfl ?_
      refine JL.nil ?_
      exact J.retP (RetV.one rfl rfl) (by rw [Nd.beq_ne (by intro e; injection e; simp_all)]) rfl
     ·
      refine Ru 1 rfl ?_
      refine JL.opg rfl rfl  (RunV.own1 ag_23 rfl (by repeat (first | exact List.mem_cons_self .. | apply List.mem_cons_of_mem)) rfl) rfl ?_
      refine Ru 2 rfl ?_
      refine JL.opg rfl rfl  (RunV.own1 ag_23 rfl (by repeat (first | exact List.mem_cons_self .. | apply List.mem_cons_of_mem)) rfl) rfl ?_
      refine Ru 3 rfl ?_
      refine Nk [42, 4, 3, 2] rfl ?_
      refine Cs rfl (fun hc7 => ?_) fun hc7 => ?_
      ·
       refine Sr ?_
       refine Ru 1 rfl ?_
       refine JL.nil ?_
       exact J.retP (RetV.one rfl rfl) (by rw [Nd.beq_ne (by intro e; injection e; simp_all)]) rfl
      ·
       refine J.skip ?_
       refine J.seq ?_
       refine Sr ?_
       refine Ru 1 rfl ?_
       refine JL.nil ?_
       refine J.block ?_
       refine J.loop (fun t_ S_ h_ L_ => ∃ (i : Nat), t_ = ks.length - i ∧ S_ = [(2, .pointer (some ⟨b1, 0, none⟩)), (3, .pointer (some ⟨b2, 0, none⟩)), (5, .int .i64 i)] ∧ h = h_ ∧ L_ = [.blk b2 25 [.int .i64 c', .int .i64 t', .bool k', .slice a' bs'.length ca', .slice b' ks'.length cb'], .blk b1 25 [.int .i64 c, .int .i64 t, .bool k, .slice a bs.length ca, .slice b ks.length cb]] ∧ (i ≤ ks.length ∧ Nd.beqL ks ks' = Nd.beqL (ks.drop i) (ks'.drop i))) ⟨_, _, ?_, ⟨0, rfl, rfl, rfl, rfl, ⟨by omega, rfl⟩⟩⟩ ?_
       ·
        repeat (first | exact trivial | refine ⟨rfl, ?_⟩)
       rintro _ _ _ _ ⟨i, rfl, rfl, rfl, rfl, hi, he⟩
       refine J.seq ?_
       refine Sr ?_
       refine Ru 2 rfl ?_
       refine JL.op (RunV.own1 ag_23 rfl (by repeat (first | exact List.mem_cons_self .. | apply List.mem_cons_of_mem)) rfl) rfl ?_
       refine Ru 2 rfl ?_
       refine JL.nil ?_
       refine Cs rfl (fun hc8 => ?_) fun hc8 => ?_
       ·
        refine J.skip ?_
        refine J.seq ?_
        refine J.block ?_
        refine J.seq ?_
        refine J.drawn mixed_ (by kernel_rfl) ?_
        refine Rq 1 rfl ?_
        refine JQ.op (RunV.own1 ag_23 rfl (by repeat (first | exact List.mem_cons_self .. | apply List.mem_cons_of_mem)) rfl) rfl ?_
        refine Rq 1 rfl ?_
        refine JQ.ope (RunE.index sl_23 rfl rfl (by first | with_reducible rfl | exact (Int.toNat_of_nonneg (by omega)).symm) (by assumption) rfl (by omega)) rfl ?_
        rintro _ ⟨b9, o9, hi9, rfl, hE9⟩
        refine JQ.ope (RunE.loadA ag_25 rfl (by assumption)) rfl ?_
        rintro _ ⟨_, rfl, hNd10⟩
        refine Rq 1 rfl ?_
        refine JQ.op (RunV.own1 ag_23 rfl (by repeat (first | exact List.mem_cons_self .. | apply List.mem_cons_of_mem)) rfl) rfl ?_
        refine Rq 1 rfl ?_
        refine JQ.ope (RunE.index sl_23 rfl rfl (by first | with_reducible rfl | exact (Int.toNat_of_nonneg (by omega)).symm) (by assumption) rfl (by omega)) rfl ?_
        rintro _ ⟨b11, o11, hi11, rfl, hE11⟩
        refine JQ.ope (RunE.loadA ag_25 rfl (by assumption)) rfl ?_
        rintro _ ⟨_, rfl, hNd12⟩
        refine JQ.callP ca_27 rfl (ih _ _ _ _ _ (hkr _ (by omega)) (by assumption) (by assumption)) rfl ?_
        refine Rq 1 rfl ?_
        refine JQ.nil ?_
        refine Cs rfl (fun hc14 => ?_) fun hc14 => ?_
        ·
         refine Sr ?_
         refine Ru 1 rfl ?_
         refine JL.nil ?_
         exact J.retP (RetV.one rfl rfl) (by have h8 : Nd.beq (ks[i]'(by omega)) (ks'[i]'(by omega)) = false := hc14; simp only [Nd.beq]; rw [he, Nd.beqL_drop _ _ i (by omega) (by omega), h8]; simp) rfl
        ·
         refine J.skip ?_
         refine Rg ?_
         refine Ru 1 rfl ?_
         refine JL.op (by first | exact RunV.add_i64 rfl rfl (by omega) (by omega) | exact RunV.add rfl rfl) rfl ?_
         refine Ru 1 rfl ?_
         refine JL.nil ?_
         refine ⟨_, ?_, _, ?_, ⟨i + 1, rfl, rfl, rfl, rfl, ⟨by omega, by rw [he, Nd.beqL_drop _ _ i (by omega) (by omega), show Nd.beq (ks[i]'(by omega)) (ks'[i]'(by omega)) = true from hc14]; rfl⟩⟩⟩
         ·
          omega
         ·
          repeat (first | exact trivial | refine ⟨rfl, ?_⟩)
       ·
        refine J.exit ?_
        refine Kp [] rfl ?_
        refine Sr ?_
        refine Ru 1 rfl ?_
        refine JL.nil ?_
        exact J.retP (RetV.one rfl rfl) (by have hk : k = k' := (by simpa using hc5); subst hc3 hc4 hk hc6; simp only [Nd.beq]; rw [he, List.drop_of_length_le (by omega), List.drop_of_length_le (by omega)]; simp [Nd.beqL]) rfl
theorem same_fn' {x y : Nd} {cs cs' : List Value} {h : Part} (r : NdR h cs x) (r' : NdR h cs' y) : Pure Tryd.prog 27 [.agg cs.toArray, .agg cs'.toArray] h (.bool (x.beq y)) := same_fn _ x y cs cs' h (Nat.le_refl _) r r'




end Go.Proofs.YtmngjbefnloljaaDoor
