/- A function that defers one call of a closure of its own, right after it has made its result variables. -/
import Derived.Test.YtmngjbefnloljaaDoorHeld
import Derived.Recover
set_option linter.unusedSimpArgs false
set_option linter.unusedVariables false
set_option linter.constructorNameAsVariable false
namespace Go.Proofs.YtmngjbefnloljaaDoor
open Go Go.RowKit

/-- The post of a body, when one call is deferred. -/
def LeaveP (P : Program) (e : Env) (m : Nat) (fn : Func) (R : Ending → World → Prop) (d : Deferred) (u : FrameMode) : Post := fun S h L => ∀ a w, Sat e m S h L a w → Leaves P fn a.tmps R [d] u w
def FnEnd (w0 : World) (h : Part) (Li : List Ent) (R : Ending → Part → List Ent → Prop) : Ending → World → Prop := fun e w' => ∃ h' Lo, R e h' Lo ∧ Ok ⟨w0, (· ∈ keys Li), h, []⟩ h' Lo w'
def Env.defer (e : Env) (d : Deferred) : Env := { e with ds := d :: e.ds }
theorem Ok.ds {e : Env} {h : Part} {L : List Ent} {w : World} (k : Ok e h L w) (ds : List Deferred) : Ok { e with ds := ds } h L w := ⟨k.os, k.tape, k.output, k.size, k.old, k.sub, k.le, k.fresh, k.own, k.key, k.nodup⟩

theorem Fn.introD {P : Program} {F m D t5 id : Nat} {fn : Func} {r0 rest : Code} {caps : Array Operand} {ty ty' : TypeId} {pos pos' : String} {af af' : Array Edge} {args : List Value} {h : Part} {Li : List Ent} {R : Ending → Part → List Ent → Prop}
    (hf : P.funcs[F]? = some fn) (hb : fn.body = some (.seq r0 (.seq (.region id #[⟨some t5, .makeFunc (.func D) #[] caps, ty, pos, af, none⟩, ⟨none, .defer { callee := .value (.tmp t5), args := #[], argTypes := #[] }, ty', pos', af', none⟩] false) rest)))
    (hm : fn.ntmps = m) (hl : Nat.ble args.length m = true) (ht : Nat.blt t5 m = true)
    (k : ∀ w0, J ⟨P, ⟨w0, (· ∈ keys Li), h, []⟩, m, fun _ _ _ => False, fun _ _ _ _ => False⟩ r0
      (fun S1 h1 L1 => ∃ vs, evl S1 caps.toList = some vs ∧
        J ⟨P, ⟨w0, (· ∈ keys Li), h, [⟨.fn (.func D) vs.toArray, #[]⟩]⟩, m, LeaveP P ⟨w0, (· ∈ keys Li), h, [⟨.fn (.func D) vs.toArray, #[]⟩]⟩ m fn (FnEnd w0 h Li R) ⟨.fn (.func D) vs.toArray, #[]⟩ .returning,
          fun c => LeaveP P ⟨w0, (· ∈ keys Li), h, [⟨.fn (.func D) vs.toArray, #[]⟩]⟩ m fn (FnEnd w0 h Li R) ⟨.fn (.func D) vs.toArray, #[]⟩ (.panicking c)⟩ rest
          (LeaveP P ⟨w0, (· ∈ keys Li), h, [⟨.fn (.func D) vs.toArray, #[]⟩]⟩ m fn (FnEnd w0 h Li R) ⟨.fn (.func D) vs.toArray, #[]⟩ .returning) NoExit ((t5, .func (.func D) #[] vs.toArray) :: S1) h1 L1) NoExit (argSig 0 args) h Li) : Fn P F args h Li R := fun w hw => by
  have hl' : args.length ≤ m := by simpa using hl
  refine calls_of_wp_defers hf hb ?_
  have hs : Sat ⟨w, (· ∈ keys Li), h, []⟩ m (argSig 0 args) h Li ⟨args.toArray ++ Array.replicate (fn.ntmps - args.toArray.size) undef, []⟩ w := by
    refine ⟨by simp [hm]; omega, fun s v hv => ?_, rfl, hw⟩
    obtain ⟨_, h2⟩ := argSig_look _ _ _ _ hv
    have hlt := (List.getElem?_eq_some_iff.1 h2).1
    simp only [Nat.sub_zero] at h2 hlt
    rw [Array.getElem?_append_left (by simpa using hlt)]
    simpa using h2
  refine wp_seq (wpm (k w _ w hs) (fun ex a' w' q => ?_))
  cases ex with
  | normal =>
    obtain ⟨S1, h1, L1, s1, vs, hvs, k1⟩ := q
    show Code.wp P _ _ a' w'
    refine wp_seq ?_
    have hcap : caps.map a'.eval = vs.toArray := by
      have := evl_spec s1 hvs
      rw [← this]
      apply Array.ext'
      simp
    have hreg := wp_region_lit (P := P) (id := id) (Q := Exit.then (fun a2 w2 => rest.wp P (bodyPostD P fn (FnEnd w h Li R)) a2 w2) (bodyPostD P fn (FnEnd w h Li R))) (a := a') (w := w')
      (l := [⟨some t5, .makeFunc (.func D) #[] caps, ty, pos, af, none⟩, ⟨none, .defer { callee := .value (.tmp t5), args := #[], argTypes := #[] }, ty', pos', af', none⟩]) ?_
    · exact hreg
    · refine wpList_val (v := .func (.func D) #[] vs.toArray) (w' := w') rfl ?_ ?_
      · simp [execOp, Instr.makeFunc, hcap]
      · unfold wpList
        rw [if_pos (by simp [Region.wanted])]
        refine .inl ?_
        have s2 := s1.put ht (.func (.func D) #[] vs.toArray) s1.ok
        have ht5 : (a'.put (some t5) (.func (.func D) #[] vs.toArray)).eval (.tmp t5) = .func (.func D) #[] vs.toArray := s2.eval (x := .tmp t5) (by simp [ev, look])
        have hr : (execOp (a'.put (some t5) (.func (.func D) #[] vs.toArray)).eval ⟨none, .defer { callee := .value (.tmp t5), args := #[], argTypes := #[] }, ty', pos', af', none⟩).run P w' = .ok (.defer ⟨.fn (.func D) vs.toArray, #[]⟩) w' := by
          simp [execOp, resolve, ht5, Deferred.ofValue]
        simp only [Oper.wp, hr, Oper.upon]
        unfold wpList
        show Code.wp P rest _ _ w'
        have s3 : Sat ⟨w, (· ∈ keys Li), h, [⟨.fn (.func D) vs.toArray, #[]⟩]⟩ m ((t5, .func (.func D) #[] vs.toArray) :: S1) h1 L1 ({ a'.put (some t5) (.func (.func D) #[] vs.toArray) with defers := ⟨.fn (.func D) vs.toArray, #[]⟩ :: (a'.put (some t5) (.func (.func D) #[] vs.toArray)).defers }.put none undef) w' := by
          exact ⟨by simpa [Act.put] using s2.size, fun s v hv => by simpa [Act.put] using s2.slot s v hv, by have := s2.ds; simpa [Act.put] using this, s2.ok.ds _⟩
        refine wpm (k1 _ _ s3) (fun ex2 a2 w2 q2 => ?_)
        cases ex2 with
        | normal => obtain ⟨S, h', L', s', hh⟩ := q2; have := hh _ _ s'; have e1 := s'.ds; simp only [bodyPostD, e1]; exact this
        | ret => obtain ⟨S, h', L', s', hh⟩ := q2; have := hh _ _ s'; have e1 := s'.ds; simp only [bodyPostD, e1]; exact this
        | panic c => obtain ⟨S, h', L', s', hh⟩ := q2; have := hh _ _ s'; have e1 := s'.ds; simp only [bodyPostD, e1]; exact this
        | exit i => obtain ⟨_, _, _, _, hh⟩ := q2; exact hh.elim
        | goto l => exact False.elim q2
        | outgrown => exact False.elim q2
  | ret => obtain ⟨_, _, _, _, hh⟩ := q; exact hh.elim
  | panic c => obtain ⟨_, _, _, _, hh⟩ := q; exact hh.elim
  | exit i => obtain ⟨_, _, _, _, hh⟩ := q; exact hh.elim
  | goto l => exact False.elim q
  | outgrown => exact False.elim q

/-- Nothing panics from here on. -/
theorem J.pfalse {P : Program} {e : Env} {m : Nat} {r : Post} {p : List PanicEntry → Post} {c : Code} {n : Post} {x : Nat → Post} {S : Sig} {h : Part} {L : List Ent} (k : J ⟨P, e, m, r, fun _ _ _ _ => False⟩ c n x S h L) : J ⟨P, e, m, r, p⟩ c n x S h L := fun a w s =>
  wpm (k a w s) (fun ex a' w' q => by
    cases ex with
    | panic c => obtain ⟨_, _, _, _, hh⟩ := q; exact hh.elim
    | _ => exact q)
/-- What a deferred closure finds that asks for what was thrown, and how the caller goes on. -/
inductive Asks : FrameMode → Value → FrameMode → Prop where
  | none : Asks .returning .nilIface .returning
  | some {v : Value} : Asks (.panicking [{ v := v, recovered := false }]) v (.panicking [{ v := v, recovered := true }])
theorem callsD_rec {P : Program} {D id t3 t2 m : Nat} {fn : Func} {rest : Code} {ty ty' : TypeId} {pos pos' : String} {af af' : Array Edge} {e : Env} {h : Part} {L : List Ent} {w : World} {vs : List Value} {x : Value} {u u' : FrameMode} {post : Post}
    (hf : P.funcs[D]? = some fn) (hb : fn.body = some (.seq (.region id #[⟨some t3, .call { callee := .builtin .recover, args := #[], argTypes := #[] }, ty, pos, af, none⟩, ⟨some t2, .assign (.tmp t3), ty', pos', af', none⟩] false) rest))
    (hm : fn.ntmps = m) (hr : fn.results = #[]) (hl : Nat.ble vs.length m = true) (ht3 : Nat.blt t3 m = true) (ht2 : Nat.blt t2 m = true) (hu : Asks u x u')
    (ok : Ok e h L w) (he : e.ds = [])
    (k : J ⟨P, e, m, fun _ _ _ => False, fun _ _ _ _ => False⟩ rest post NoExit ((t2, x) :: (t3, x) :: argSig 0 vs) h L) :
    CallsD P D vs.toArray u w (fun e1 u1 w1 => (∃ v, e1 = .returned v) ∧ u1 = u' ∧ ∃ S h1 L1, post S h1 L1 ∧ Ok e h1 L1 w1) := by
  have hl' : vs.length ≤ m := by simpa using hl
  refine callsD_of_wpS hf hb (fun c₀ cs hc => wpS_seq (wpS_region ?_))
  have s0 : Sat e m (argSig 0 vs) h L ⟨vs.toArray ++ Array.replicate (fn.ntmps - vs.toArray.size) undef, []⟩ w := by
    refine ⟨by simp [hm]; omega, fun s v hv => ?_, by simp [he], ok⟩
    obtain ⟨_, h2⟩ := argSig_look _ _ _ _ hv
    have hlt := (List.getElem?_eq_some_iff.1 h2).1
    simp only [Nat.sub_zero] at h2 hlt
    rw [Array.getElem?_append_left (by simpa using hlt)]
    simpa using h2
  generalize (⟨vs.toArray ++ Array.replicate (fn.ntmps - vs.toArray.size) undef, []⟩ : Act) = a0 at s0 ⊢
  have s1 := s0.put ht3 x s0.ok
  have s2 := s1.put ht2 x s1.ok
  have hx : (a0.put (some t3) x).eval (.tmp t3) = x := s1.eval (x := .tmp t3) (by simp [ev, look])
  have fin : ∀ cs', cs' = { c₀ with mode := u' } :: cs → rest.wpS P (bodyPostS P fn c₀ cs (fun e1 u1 w1 => (∃ v, e1 = .returned v) ∧ u1 = u' ∧ ∃ S h1 L1, post S h1 L1 ∧ Ok e h1 L1 w1)) ((a0.put (some t3) x).put (some t2) x) cs' w := fun cs' hcs => by
    refine wpS_of_wp (wpm (k _ _ s2) (fun ex a' w' q => ?_))
    cases ex with
    | normal =>
      obtain ⟨S, h1, L1, s', hh⟩ := q
      have hd := s'.ds
      simp only at hd
      exact ⟨by rw [hd, he], u', hcs, .tuple #[], results_none hr _ _ _, ⟨_, rfl⟩, rfl, S, h1, L1, hh, s'.ok⟩
    | ret => obtain ⟨_, _, _, _, hh⟩ := q; exact hh.elim
    | panic c => obtain ⟨_, _, _, _, hh⟩ := q; exact hh.elim
    | exit i => obtain ⟨_, _, _, _, hh⟩ := q; exact hh.elim
    | goto l => exact False.elim q
    | outgrown => exact False.elim q
  have hex : ∀ a : Act, (execOp a.eval ⟨some t3, .call { callee := .builtin .recover, args := #[], argTypes := #[] }, ty, pos, af, none⟩).run P w = .ok .recover w := fun a => by
    simp [execOp, resolve, invoke, builtin]
  have hex2 : (execOp (a0.put (some t3) x).eval ⟨some t2, .assign (.tmp t3), ty', pos', af', none⟩).run P w = .ok (.value x) w := by simp [execOp, hx]
  show wpOpsS P _ _ [0, 1] a0 (c₀ :: cs) w
  cases hu with
  | none =>
    have hrec : recoverD (c₀ :: cs) = none := by simp [recoverD, hc]
    simp only [wpOpsS, List.getElem?_toArray, List.getElem?_cons_zero, List.getElem?_cons_succ, Region.wanted, hex, hrec, hex2, Oper.upon, if_true]
    exact fin _ (by rw [← hc])
  | some =>
    have hrec : recoverD (c₀ :: cs) = some (x, { c₀ with mode := .panicking [{ v := x, recovered := true }] } :: cs) := by simp [recoverD, hc]
    simp only [wpOpsS, List.getElem?_toArray, List.getElem?_cons_zero, List.getElem?_cons_succ, Region.wanted, hex, hrec, hex2, Oper.upon, if_true]
    exact fin _ rfl
end Go.Proofs.YtmngjbefnloljaaDoor
