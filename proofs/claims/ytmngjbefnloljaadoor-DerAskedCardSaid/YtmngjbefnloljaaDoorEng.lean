/- A logic for walking Go functions: the frame by its live slots, memory by a part that nobody writes (h) and by what the call owns (L); the world itself stays hidden. No program in sight. -/
import Derived.WalkKit
import Derived.WalkSpells
import Derived.WalkLawsBesides
import Derived.Deep.Quiet
import Derived.Deep.AppendLies
set_option linter.unusedSimpArgs false
set_option linter.unusedVariables false
set_option linter.constructorNameAsVariable false
namespace Go.Proofs.YtmngjbefnloljaaDoor
open Go Go.RowKit

/-! ## Memory -/
abbrev Part := Nat → Option (Array Value)
def Part.le (h h' : Part) : Prop := ∀ b c, h b = some c → h' b = some c
theorem Part.le.refl (h : Part) : h.le h := fun _ _ x => x
theorem Part.le.trans {a b c : Part} (h : a.le b) (k : b.le c) : a.le c := fun _ _ x => k _ _ (h _ _ x)
def Sub (h : Part) (w : World) : Prop := ∀ b c, h b = some c → ∃ t fr, w.heap[b]? = some (.cells c t fr)
theorem Sub.lt {h : Part} {w : World} (s : Sub h w) {b : Nat} {c : Array Value} (hb : h b = some c) : b < w.heap.size := by
  obtain ⟨t, fr, e⟩ := s b c hb
  rcases Nat.lt_or_ge b w.heap.size with l | l
  · exact l
  · rw [Array.getElem?_eq_none l] at e; cases e
theorem Sub.cell {h : Part} {w : World} (s : Sub h w) {b i : Nat} {c : Array Value} {v : Value} (hb : h b = some c) (hi : c[i]? = some v) : w.cell? ⟨b, i, none⟩ = some v := by
  obtain ⟨t, fr, e⟩ := s b c hb
  simp [World.cell?, e, hi]

inductive Ent where
  | blk (b : Nat) (t : TypeId) (cs : List Value)
  | row (a : Option Addr) (c : Nat) (t : TypeId) (sz n : Nat) (xs : List Value)
  | it (b : Nat) (s : List UInt8) (pos : Nat)
def Ent.key : Ent → Option Nat
  | .blk b _ _ => some b
  | .row a c _ _ n _ => (Value.slice a n c).ownBlock
  | .it b _ _ => some b
def Ent.holds (w : World) : Ent → Prop
  | .blk b t cs => w.heap[b]? = some (.cells cs.toArray t (0, 0))
  | .row a c t sz n xs => w.ownsRow 0 t sz (.slice a n c) n xs
  | .it b s pos => w.heap[b]? = some (.stringIter ⟨s.toArray⟩ pos)
def keys (L : List Ent) : List Nat := L.filterMap Ent.key

theorem Ent.lt {w : World} {x : Ent} (h : x.holds w) {b : Nat} (hb : x.key = some b) : b < w.heap.size := by
  cases x with
  | blk b' t cs =>
    simp only [Ent.key, Option.some.injEq] at hb
    subst hb
    simp only [Ent.holds] at h
    rcases Nat.lt_or_ge b' w.heap.size with l | l
    · exact l
    · rw [Array.getElem?_eq_none l] at h; cases h
  | row a c t sz n xs => exact (World.ownsRow.lt (show w.ownsRow 0 t sz (.slice a n c) n xs from h) b hb).2
  | it b' s pos =>
    simp only [Ent.key, Option.some.injEq] at hb
    subst hb
    simp only [Ent.holds] at h
    rcases Nat.lt_or_ge b' w.heap.size with l | l
    · exact l
    · rw [Array.getElem?_eq_none l] at h; cases h

/-- What a step that turns at most the blocks in 'M' leaves alone. -/
theorem Ent.keep {w w' : World} {x : Ent} (h : x.holds w) (hk : ∀ b, x.key = some b → w'.heap[b]? = w.heap[b]?) : x.holds w' := by
  cases x with
  | blk b t cs => simp only [Ent.holds] at h ⊢; rw [hk b rfl]; exact h
  | it b s pos => simp only [Ent.holds] at h ⊢; rw [hk b rfl]; exact h
  | row a c t sz n xs =>
    obtain ⟨h1, h2⟩ := (show w.ownsRow 0 t sz (.slice a n c) n xs from h)
    refine ⟨h1, ?_⟩
    rcases h2 with h2 | ⟨g, cap, cur, hv, hg, hh, r⟩
    · exact .inl h2
    · exact .inr ⟨g, cap, cur, hv, hg, by rw [hk g (by simp only [Ent.key, hv, Value.ownBlock])]; exact hh, r⟩

/-- What does not turn while a call runs: the world in which it began, what may be written of what was there, what was known, the calls that are deferred. -/
structure Env where
  w0 : World
  may : Nat → Prop
  h0 : Part
  ds : List Deferred

structure Ok (e : Env) (h : Part) (L : List Ent) (w : World) : Prop where
  os : w.os = e.w0.os
  tape : w.tape = e.w0.tape
  output : w.output = e.w0.output
  size : e.w0.heap.size ≤ w.heap.size
  old : ∀ b, b < e.w0.heap.size → ¬ e.may b → w.heap[b]? = e.w0.heap[b]?
  sub : Sub h w
  le : e.h0.le h
  fresh : ∀ b c, h b = some c → e.h0 b = some c ∨ e.w0.heap.size ≤ b ∨ e.may b
  own : ∀ x ∈ L, x.holds w
  key : ∀ b ∈ keys L, h b = none ∧ (e.w0.heap.size ≤ b ∨ e.may b)
  nodup : (keys L).Nodup

theorem mem_keys {L : List Ent} {x : Ent} {b : Nat} (hx : x ∈ L) (hb : x.key = some b) : b ∈ keys L := List.mem_filterMap.2 ⟨x, hx, hb⟩

theorem Ok.drawn {e : Env} {h : Part} {L : List Ent} {w : World} (k : Ok e h L w) (n : Nat) : Ok e h L { w with drawn := n } :=
  ⟨k.os, k.tape, k.output, k.size, k.old, k.sub, k.le, k.fresh, k.own, k.key, k.nodup⟩

theorem Ok.klt {e : Env} {h : Part} {L : List Ent} {w : World} (k : Ok e h L w) {b : Nat} (hb : b ∈ keys L) : b < w.heap.size := by
  obtain ⟨x, hx, hxb⟩ := List.mem_filterMap.1 hb
  exact Ent.lt (k.own x hx) hxb

/-- A new block, owned. -/
theorem Ok.alloc {e : Env} {h : Part} {L : List Ent} {w : World} (k : Ok e h L w) (t : TypeId) (cs : List Value) :
    Ok e h (.blk w.heap.size t cs :: L) (w.alloc (.cells cs.toArray t)) := by
  have keepOld : ∀ b, b < w.heap.size → (w.alloc (.cells cs.toArray t)).heap[b]? = w.heap[b]? := fun b hb => Below.heap_alloc _ _ _ hb
  refine ⟨k.os, k.tape, k.output, by have := k.size; simp; omega, fun b hb hm => ?_, fun b c hc => ?_, k.le, k.fresh, fun x hx => ?_, fun b hb => ?_, ?_⟩
  · rw [keepOld b (Nat.lt_of_lt_of_le hb k.size)]; exact k.old b hb hm
  · obtain ⟨t', fr, he⟩ := k.sub b c hc
    exact ⟨t', fr, by rw [keepOld b (k.sub.lt hc)]; exact he⟩
  · cases hx with
    | head => exact heap_alloc_new w _
    | tail _ hx => exact Ent.keep (k.own x hx) fun b hb => keepOld b (Ent.lt (k.own x hx) hb)
  · simp only [keys, List.filterMap_cons, Ent.key, List.mem_cons] at hb
    rcases hb with rfl | hb
    · refine ⟨?_, .inl k.size⟩
      cases hh : h w.heap.size with
      | none => rfl
      | some c => have := k.sub.lt hh; omega
    · exact k.key b hb
  · simp only [keys, List.filterMap_cons, Ent.key]
    exact List.nodup_cons.2 ⟨fun hm => by have := k.klt hm; omega, k.nodup⟩

/-- Some entries are let go. -/
theorem Ok.drop {e : Env} {h : Part} {L L' : List Ent} {w : World} (k : Ok e h L w) (s : L'.Sublist L) : Ok e h L' w :=
  ⟨k.os, k.tape, k.output, k.size, k.old, k.sub, k.le, k.fresh, fun x hx => k.own x (s.subset hx), fun b hb => k.key b ((s.filterMap _).subset hb), (s.filterMap _).nodup k.nodup⟩

theorem keys_perm {L L' : List Ent} (p : L.Perm L') : (keys L).Perm (keys L') := p.filterMap _
theorem Ok.perm {e : Env} {h : Part} {L L' : List Ent} {w : World} (k : Ok e h L w) (p : L.Perm L') : Ok e h L' w :=
  ⟨k.os, k.tape, k.output, k.size, k.old, k.sub, k.le, k.fresh, fun x hx => k.own x (p.symm.subset hx), fun b hb => k.key b ((keys_perm p.symm).subset hb), (keys_perm p).nodup k.nodup⟩

/-- The first entry is turned: its block alone may have been written, or it has moved to a new block. -/
theorem Ok.turn {e : Env} {h : Part} {x x' : Ent} {L : List Ent} {w w' : World} (k : Ok e h (x :: L) w) (hos : w'.os = w.os) (htp : w'.tape = w.tape) (hout : w'.output = w.output)
    (hsz : w.heap.size ≤ w'.heap.size) (hold : ∀ b, b < w.heap.size → x.key ≠ some b → w'.heap[b]? = w.heap[b]?) (hx' : x'.holds w')
    (hkey : ∀ b, x'.key = some b → x.key = some b ∨ w.heap.size ≤ b) : Ok e h (x' :: L) w' := by
  have kx : ∀ b, x.key = some b → b ∈ keys (x :: L) := fun b hb => mem_keys (List.mem_cons_self ..) hb
  have rest : ∀ b ∈ keys L, x.key ≠ some b := fun b hb hxb => by
    have := k.nodup
    simp only [keys, List.filterMap_cons, hxb] at this
    exact (List.nodup_cons.1 this).1 hb
  have kL : ∀ b ∈ keys L, b ∈ keys (x :: L) := fun b hb => by
    simp only [keys, List.filterMap_cons]; split
    · exact hb
    · exact List.mem_cons_of_mem _ hb
  refine ⟨hos.trans k.os, htp.trans k.tape, hout.trans k.output, Nat.le_trans k.size hsz, fun b hb hm => ?_, fun b c hc => ?_, k.le, k.fresh, fun y hy => ?_, fun b hb => ?_, ?_⟩
  · rw [hold b (Nat.lt_of_lt_of_le hb k.size) (fun hxb => by
      rcases (k.key b (kx b hxb)).2 with l | l
      · omega
      · exact hm l)]
    exact k.old b hb hm
  · obtain ⟨t', fr, he⟩ := k.sub b c hc
    exact ⟨t', fr, by rw [hold b (k.sub.lt hc) (fun hxb => by rw [(k.key b (kx b hxb)).1] at hc; cases hc)]; exact he⟩
  · cases hy with
    | head => exact hx'
    | tail _ hy =>
      have hy' := k.own y (List.mem_cons_of_mem _ hy)
      exact Ent.keep hy' fun b hb => hold b (Ent.lt hy' hb) (rest b (mem_keys hy hb))
  · simp only [keys, List.filterMap_cons] at hb
    split at hb
    · exact k.key b (kL b hb)
    · rename_i b' hb'
      rcases List.mem_cons.1 hb with rfl | hb
      · rcases hkey b hb' with hxb | hge
        · exact k.key b (kx b hxb)
        · refine ⟨?_, .inl (Nat.le_trans k.size hge)⟩
          cases hh : h b with
          | none => rfl
          | some c => have := k.sub.lt hh; omega
      · exact k.key b (kL b hb)
  · simp only [keys, List.filterMap_cons]
    have hn : (keys L).Nodup := by
      have := k.nodup
      simp only [keys, List.filterMap_cons] at this
      split at this
      · exact this
      · exact (List.nodup_cons.1 this).2
    split
    · exact hn
    · rename_i b' hb'
      refine List.nodup_cons.2 ⟨fun hm => ?_, hn⟩
      rcases hkey b' hb' with hxb | hge
      · exact rest b' hm hxb
      · have := k.klt (kL b' hm); omega

/-- The first entry's block is handed over to the part that nobody writes. -/
def Part.add (h : Part) (b : Nat) (c : Array Value) : Part := fun b' => if b' = b then some c else h b'
theorem Ok.publish_ {e : Env} {h : Part} {b : Nat} {t : TypeId} {cs : Array Value} {x : Ent} {L : List Ent} {w : World} (k : Ok e h (x :: L) w) (hx : x.key = some b) (hw : w.heap[b]? = some (.cells cs t (0, 0))) : h.le (h.add b cs) ∧ Ok e (h.add b cs) L w := by
  have hb := k.key b (mem_keys (List.mem_cons_self ..) hx)
  have hle : h.le (h.add b cs) := fun b' c hc => by
    unfold Part.add
    split
    · rename_i heq; subst heq; rw [hb.1] at hc; cases hc
    · exact hc
  have kd := k.drop (List.sublist_cons_self _ _)
  have hnd : b ∉ keys L := by
    have := k.nodup
    simp only [keys, List.filterMap_cons, hx] at this
    exact (List.nodup_cons.1 this).1
  refine ⟨hle, kd.os, kd.tape, kd.output, kd.size, kd.old, fun b' c hc => ?_, kd.le.trans hle, fun b' c hc => ?_, kd.own, fun b' hb' => ?_, kd.nodup⟩
  · unfold Part.add at hc
    split at hc
    · rename_i heq; subst heq; cases hc; exact ⟨t, _, hw⟩
    · exact kd.sub b' c hc
  · unfold Part.add at hc
    split at hc
    · rename_i heq; subst heq; exact .inr hb.2
    · exact kd.fresh b' c hc
  · refine ⟨?_, (kd.key b' hb').2⟩
    unfold Part.add
    rw [if_neg (fun heq : b' = b => hnd (heq ▸ hb'))]
    exact (kd.key b' hb').1
theorem Ok.publish {e : Env} {h : Part} {b : Nat} {t : TypeId} {cs : List Value} {L : List Ent} {w : World} (k : Ok e h (.blk b t cs :: L) w) : h.le (h.add b cs.toArray) ∧ Ok e (h.add b cs.toArray) L w :=
  k.publish_ rfl (k.own _ (List.mem_cons_self ..))
/-- What is known may be forgotten. -/
theorem Ok.shrink {e : Env} {h h' : Part} {L : List Ent} {w : World} (k : Ok e h' L w) (hle : h.le h') (h0 : e.h0.le h) : Ok e h L w :=
  ⟨k.os, k.tape, k.output, k.size, k.old, fun b c hc => k.sub b c (hle b c hc), h0, fun b c hc => k.fresh b c (hle b c hc), k.own, fun b hb => ⟨(by
    cases hh : h b with
    | none => rfl
    | some c => have := hle b c hh; rw [(k.key b hb).1] at this; cases this), (k.key b hb).2⟩, k.nodup⟩
/-- Nothing is owned by a nil slice. -/
theorem Ok.row_nil {e : Env} {h : Part} {L : List Ent} {w : World} (k : Ok e h L w) (t : TypeId) (sz : Nat) : Ok e h (.row none 0 t sz 0 [] :: L) w :=
  ⟨k.os, k.tape, k.output, k.size, k.old, k.sub, k.le, k.fresh, fun x hx => by
    cases hx with
    | head => exact World.ownsRow_nil w 0 t sz
    | tail _ hx => exact k.own x hx, k.key, k.nodup⟩

/-- 'L' with its entry x turned to x'. -/
inductive Upd (x x' : Ent) : List Ent → List Ent → Prop where
  | here {L : List Ent} : Upd x x' (x :: L) (x' :: L)
  | there {y : Ent} {L L' : List Ent} (u : Upd x x' L L') : Upd x x' (y :: L) (y :: L')
theorem Upd.perm {x x' : Ent} {L L' : List Ent} (u : Upd x x' L L') : ∃ L0, L.Perm (x :: L0) ∧ L'.Perm (x' :: L0) := by
  induction u with
  | here => exact ⟨_, .refl _, .refl _⟩
  | there u ih =>
    obtain ⟨L0, p, q⟩ := ih
    exact ⟨_ :: L0, (p.cons _).trans (.swap ..), (q.cons _).trans (.swap ..)⟩
/-- 'L' without its entry x. -/
inductive Del (x : Ent) : List Ent → List Ent → Prop where
  | here {L : List Ent} : Del x (x :: L) L
  | there {y : Ent} {L L' : List Ent} (u : Del x L L') : Del x (y :: L) (y :: L')
theorem Del.perm {x : Ent} {L L' : List Ent} (u : Del x L L') : L.Perm (x :: L') := by
  induction u with
  | here => exact .refl _
  | there u ih => exact (ih.cons _).trans (.swap ..)
theorem Del.mem {x : Ent} {L L' : List Ent} (u : Del x L L') : x ∈ L := u.perm.symm.subset (List.mem_cons_self ..)
/-- 'L' parted: what is handed on, and the rest. -/
inductive Parts : List Ent → List Ent → List Ent → Prop where
  | nil {L : List Ent} : Parts [] L L
  | cons {x : Ent} {Li L L' Lr : List Ent} (u : Del x L L') (p : Parts Li L' Lr) : Parts (x :: Li) L Lr
theorem Parts.perm {Li L Lr : List Ent} (p : Parts Li L Lr) : L.Perm (Li ++ Lr) := by
  induction p with
  | nil => exact .refl _
  | cons u _ ih => exact u.perm.trans (ih.cons _)

theorem keys_append (A B : List Ent) : keys (A ++ B) = keys A ++ keys B := List.filterMap_append

/-- Behind a call that was handed 'Li': what it gives back, beside what was kept from it. -/
theorem Ok.call {e : Env} {h h' : Part} {Li Lr Lo : List Ent} {w w' : World} {ds : List Deferred} (k : Ok e h (Li ++ Lr) w) (c : Ok ⟨w, (· ∈ keys Li), h, ds⟩ h' Lo w') : Ok e h' (Lo ++ Lr) w' := by
  have kn := k.nodup
  rw [keys_append] at kn
  have disj : ∀ b ∈ keys Lr, b ∉ keys Li := fun b hb hi => (List.nodup_append.1 kn).2.2 b hi b hb rfl
  have memL : ∀ b ∈ keys Li, b ∈ keys (Li ++ Lr) := fun b hb => by rw [keys_append]; exact List.mem_append_left _ hb
  have memR : ∀ b ∈ keys Lr, b ∈ keys (Li ++ Lr) := fun b hb => by rw [keys_append]; exact List.mem_append_right _ hb
  have hc := c.le
  have same : ∀ b, b < w.heap.size → b ∉ keys Li → w'.heap[b]? = w.heap[b]? := fun b hb hn => c.old b hb hn
  have hnone : ∀ b ∈ keys Lr, h' b = none := fun b hb => by
    cases hh : h' b with
    | none => rfl
    | some cc =>
      rcases c.fresh b cc hh with h1 | h1 | h1
      · have := (k.key b (memR b hb)).1; simp only at h1; rw [this] at h1; cases h1
      · have := k.klt (memR b hb); simp only at h1; omega
      · exact absurd h1 (disj b hb)
  refine ⟨c.os.trans k.os, c.tape.trans k.tape, c.output.trans k.output, Nat.le_trans k.size c.size, fun b hb hm => ?_, c.sub, k.le.trans hc, fun b cc hcc => ?_, fun x hx => ?_, fun b hb => ?_, ?_⟩
  · rw [same b (Nat.lt_of_lt_of_le hb k.size) (fun hi => by
      rcases (k.key b (memL b hi)).2 with l | l
      · omega
      · exact hm l)]
    exact k.old b hb hm
  · rcases c.fresh b cc hcc with h1 | h1 | h1
    · exact k.fresh b cc h1
    · exact .inr (.inl (Nat.le_trans k.size h1))
    · exact .inr (k.key b (memL b h1)).2
  · rcases List.mem_append.1 hx with hx | hx
    · exact c.own x hx
    · have hw := k.own x (List.mem_append_right _ hx)
      exact Ent.keep hw fun b hb => same b (Ent.lt hw hb) (disj b (mem_keys hx hb))
  · rw [keys_append] at hb
    rcases List.mem_append.1 hb with hb | hb
    · refine ⟨(c.key b hb).1, ?_⟩
      rcases (c.key b hb).2 with l | l
      · exact .inl (Nat.le_trans k.size l)
      · exact (k.key b (memL b l)).2
    · exact ⟨hnone b hb, (k.key b (memR b hb)).2⟩
  · rw [keys_append]
    refine List.nodup_append.2 ⟨c.nodup, (List.nodup_append.1 kn).2.1, fun b hb b' hb' heq => ?_⟩
    subst heq
    rcases (c.key b hb).2 with l | l
    · have := k.klt (memR b hb'); simp only at l; omega
    · exact disj b hb' l

/-! ## The frame -/
abbrev Sig := List (Nat × Value)
def look : Sig → Nat → Option Value
  | [], _ => none
  | (k, v) :: r, s => bif Nat.beq k s then some v else look r s
def ev (S : Sig) : Operand → Option Value
  | .tmp t => look S t
  | .const v => some v
  | .global g => some (.pointer (some ⟨g, 0, none⟩))
  | .func f => some (.func (.func f) #[] #[])
def Weak : Sig → Sig → Prop
  | [], _ => True
  | (s, v) :: r, S => look S s = some v ∧ Weak r S

structure Sat (e : Env) (m : Nat) (S : Sig) (h : Part) (L : List Ent) (a : Act) (w : World) : Prop where
  size : a.tmps.size = m
  slot : ∀ s v, look S s = some v → a.tmps[s]? = some v
  ds : a.defers = e.ds
  ok : Ok e h L w

section
variable {e : Env} {m : Nat} {S : Sig} {h : Part} {L : List Ent} {a : Act} {w : World}

theorem Sat.eval (s : Sat e m S h L a w) {x : Operand} {v : Value} (hx : ev S x = some v) : a.eval x = v := by
  cases x with
  | tmp t => simp only [ev] at hx; simp [Act.eval, s.slot t v hx]
  | const c => simp only [ev, Option.some.injEq] at hx; exact hx
  | global g => simp only [ev, Option.some.injEq] at hx; exact hx
  | func f => simp only [ev, Option.some.injEq] at hx; exact hx

theorem Sat.put (s : Sat e m S h L a w) {d : Nat} (hd : Nat.blt d m = true) (v : Value) {h' : Part} {L' : List Ent} {w' : World} (ok : Ok e h' L' w') : Sat e m ((d, v) :: S) h' L' (a.put (some d) v) w' := by
  have hlt : d < m := by simpa using hd
  refine ⟨by simp [Act.put, s.size], fun t u hu => ?_, by simp [Act.put, s.ds], ok⟩
  simp only [look] at hu
  cases hb : Nat.beq d t with
  | true =>
    have : d = t := Nat.eq_of_beq_eq_true hb
    subst this
    simp only [hb, cond_true, Option.some.injEq] at hu
    subst hu
    simp [Act.put, s.size, hlt]
  | false =>
    have : d ≠ t := Nat.ne_of_beq_eq_false hb
    simp only [hb, cond_false] at hu
    simp [Act.put, Array.getElem?_setIfInBounds, this, s.slot t u hu]

theorem Weak.look {S' S : Sig} (hw : Weak S' S) {t : Nat} {v : Value} (h : look S' t = some v) : Go.Proofs.YtmngjbefnloljaaDoor.look S t = some v := by
  induction S' with
  | nil => simp [Go.Proofs.YtmngjbefnloljaaDoor.look] at h
  | cons p r ih =>
    obtain ⟨k, u⟩ := p
    simp only [Go.Proofs.YtmngjbefnloljaaDoor.look] at h
    cases hb : Nat.beq k t with
    | true =>
      have : k = t := Nat.eq_of_beq_eq_true hb
      subst this
      simp only [hb, cond_true, Option.some.injEq] at h
      subst h
      exact hw.1
    | false =>
      simp only [hb, cond_false] at h
      exact ih hw.2 h

theorem Sat.weak (s : Sat e m S h L a w) {S' : Sig} (hw : Weak S' S) : Sat e m S' h L a w := ⟨s.size, fun t v hv => s.slot t v (hw.look hv), s.ds, s.ok⟩
theorem Sat.weak' (s : Sat e m S h L a w) {S' : Sig} (hw : ∀ t v, look S' t = some v → look S t = some v) : Sat e m S' h L a w := ⟨s.size, fun t v hv => s.slot t v (hw t v hv), s.ds, s.ok⟩
theorem Sat.with (s : Sat e m S h L a w) {h' : Part} {L' : List Ent} {w' : World} (ok : Ok e h' L' w') : Sat e m S h' L' a w' := ⟨s.size, s.slot, s.ds, ok⟩
end

theorem wpm {P : Program} {c : Code} {Q Q' : Exit → Act → World → Prop} {a : Act} {w : World} (h : c.wp P Q a w) (hq : ∀ e a w, Q e a w → Q' e a w) : c.wp P Q' a w := Code.wp_mono hq h

/-! ## Judgements -/
abbrev Post := Sig → Part → List Ent → Prop

structure Fr where
  P : Program
  e : Env
  m : Nat
  r : Post
  p : List PanicEntry → Post

def Fr.Q (f : Fr) (n : Post) (x : Nat → Post) : Exit → Act → World → Prop
  | .normal, a, w => ∃ S h L, Sat f.e f.m S h L a w ∧ n S h L
  | .exit i, a, w => ∃ S h L, Sat f.e f.m S h L a w ∧ x i S h L
  | .ret, a, w => ∃ S h L, Sat f.e f.m S h L a w ∧ f.r S h L
  | .panic c, a, w => ∃ S h L, Sat f.e f.m S h L a w ∧ f.p c S h L
  | _, _, _ => False

def J (f : Fr) (c : Code) (n : Post) (x : Nat → Post) : Post := fun S h L => ∀ a w, Sat f.e f.m S h L a w → c.wp f.P (f.Q n x) a w
/-- The operations that are left of a region. -/
def JL (f : Fr) (ops : Array Oper) (n : Post) (x : Nat → Post) (l : List Oper) : Post := fun S h L => ∀ a w, Sat f.e f.m S h L a w → wpList f.P ops (f.Q n x) l a w

section
variable {f : Fr} {n : Post} {x : Nat → Post} {S : Sig} {h : Part} {L : List Ent}

theorem J.weak {c : Code} (S' : Sig) (hw : Weak S' S) (k : J f c n x S' h L) : J f c n x S h L := fun a w s => k a w (s.weak hw)
theorem J.skip (k : n S h L) : J f .skip n x S h L := fun _ _ s => wp_skip ⟨_, _, _, s, k⟩
theorem J.label {l : Nat} (k : n S h L) : J f (.label l) n x S h L := fun _ _ s => wp_label ⟨_, _, _, s, k⟩
theorem J.seq {c d : Code} (k : J f c (J f d n x) x S h L) : J f (.seq c d) n x S h L := fun a w s => by
  refine wp_seq (wpm (k a w s) (fun ex a' w' q => ?_))
  cases ex with
  | normal => obtain ⟨S', h', L', s', k'⟩ := q; exact k' a' w' s'
  | _ => exact q
theorem J.cond {t : Operand} {c d : Code} {b : Bool} (ht : ev S t = some (.bool b)) (k1 : b = true → J f c n x S h L) (k2 : b = false → J f d n x S h L) : J f (.cond t c d) n x S h L :=
  fun a w s => wp_cond_split (s.eval ht) (fun hb => k1 hb a w s) (fun hb => k2 hb a w s)
theorem J.cond_t {t : Operand} {c d : Code} (ht : ev S t = some (.bool true)) (k1 : J f c n x S h L) : J f (.cond t c d) n x S h L := fun a w s => wp_cond_true (s.eval ht) (k1 a w s)
theorem J.cond_f {t : Operand} {c d : Code} (ht : ev S t = some (.bool false)) (k1 : J f d n x S h L) : J f (.cond t c d) n x S h L := fun a w s => wp_cond_false (s.eval ht) (k1 a w s)
theorem J.block {id : Nat} {c : Code} (k : J f c n (fun i => bif Nat.beq i id then n else x i) S h L) : J f (.block id c) n x S h L := fun a w s => by
  refine wp_block (wpm (k a w s) (fun ex a' w' q => ?_))
  cases ex with
  | exit i =>
    obtain ⟨S', h', L', s', k'⟩ := q
    simp only [Exit.inBlock]
    cases hb : Nat.beq i id with
    | true =>
      have : i = id := Nat.eq_of_beq_eq_true hb
      simp only [hb, cond_true] at k'
      rw [if_pos this]
      exact ⟨S', h', L', s', k'⟩
    | false =>
      have : i ≠ id := Nat.ne_of_beq_eq_false hb
      simp only [hb, cond_false] at k'
      rw [if_neg this]
      exact ⟨S', h', L', s', k'⟩
  | _ => exact q
theorem J.exit {i : Nat} (k : x i S h L) : J f (.exit i) n x S h L := fun _ _ s => wp_exit ⟨_, _, _, s, k⟩
theorem J.ret (k : f.r S h L) : J f .ret n x S h L := fun _ _ s => wp_ret ⟨_, _, _, s, k⟩

theorem wp_loop_idx {P : Program} {c : Code} {Q : Exit → Act → World → Prop} (I : Nat → Act → World → Prop)
    (round : ∀ t a w, I t a w → c.wp P (Exit.then (fun a' w' => ∃ t', t' < t ∧ I t' a' w') Q) a w) (t : Nat) (a : Act) (w : World) (h₀ : I t a w) : (Code.loop c).wp P Q a w := by
  intro b k cs
  have key : ∀ t a w, I t a w → ∃ e a' w', Q e a' w' ∧ Arrives P (lone (b.at a (.code c :: .inLoop c :: k)) cs w) b k cs e a' w' := by
    intro t
    induction t using Nat.strongRecOn with
    | _ t ih =>
      intro a w hI
      obtain ⟨e, a₁, w₁, hq, harr⟩ := round t a w hI b (.inLoop c :: k) cs
      cases e with
      | normal =>
        obtain ⟨t', hlt, hI₁⟩ := hq
        obtain ⟨e₂, a₂, w₂, hq₂, harr₂⟩ := ih t' hlt a₁ w₁ hI₁
        exact ⟨e₂, a₂, w₂, hq₂, .of_steps (Steps.trans harr (.one step_inLoop)) harr₂⟩
      | exit id => exact ⟨_, a₁, w₁, hq, .pass (x := .inLoop c) rfl (fun _ _ => .inl (by simp)) harr⟩
      | goto l => exact ⟨_, a₁, w₁, hq, .pass (x := .inLoop c) rfl (fun _ _ => .inl (by simp)) harr⟩
      | ret => exact ⟨_, a₁, w₁, hq, .pass (x := .inLoop c) rfl (fun _ _ => .inl (by simp)) harr⟩
      | panic ch => exact ⟨_, a₁, w₁, hq, .pass (x := .inLoop c) rfl (fun _ _ => .inl (by simp)) harr⟩
      | outgrown => exact ⟨_, a₁, w₁, hq, .pass (x := .inLoop c) rfl (fun _ _ => .inl (by simp)) harr⟩
  obtain ⟨e, a', w', hq, harr⟩ := key t a w h₀
  exact ⟨e, a', w', hq, .of_steps (.one step_loop) harr⟩

/-- A loop: 'I t': what holds at a round's head, t what is left to do. -/
theorem J.loop {c : Code} (I : Nat → Post) (init : ∃ t S', Weak S' S ∧ I t S' h L)
    (round : ∀ t S h L, I t S h L → J f c (fun S' h' L' => ∃ t', t' < t ∧ ∃ S'', Weak S'' S' ∧ I t' S'' h' L') x S h L) : J f (.loop c) n x S h L := fun a w s => by
  obtain ⟨t, S', hw, hI⟩ := init
  refine wp_loop_idx (fun t a w => ∃ S h L, Sat f.e f.m S h L a w ∧ I t S h L) ?_ t a w ⟨S', h, L, s.weak hw, hI⟩
  rintro t a w ⟨S, h, L, s, hI⟩
  refine wpm (round t S h L hI a w s) (fun ex a' w' q => ?_)
  cases ex with
  | normal => obtain ⟨S', h', L', s', t', hlt, S'', hw, hI'⟩ := q; exact ⟨t', hlt, S'', h', L', s'.weak hw, hI'⟩
  | _ => exact q

/-- Two ways meet: what both come to. -/
theorem J.cut {c : Code} {n' : Post} {x' : Nat → Post} (k : J f c n' x' S h L) (hn : ∀ S h L, n' S h L → n S h L) (hx : ∀ i S h L, x' i S h L → x i S h L) : J f c n x S h L := fun a w s =>
  wpm (k a w s) (fun ex a' w' q => by
    cases ex with
    | normal => obtain ⟨S', h', L', s', k'⟩ := q; exact ⟨S', h', L', s', hn _ _ _ k'⟩
    | exit i => obtain ⟨S', h', L', s', k'⟩ := q; exact ⟨S', h', L', s', hx _ _ _ _ k'⟩
    | _ => exact q)

/-- Ways meet behind c: what is known of the slots there. -/
theorem J.meet {c : Code} (A K : Sig) (_ : Weak K S) (k1 : J f c (fun S1 h1 L1 => h1 = h ∧ L1 = L ∧ Weak (A ++ K) S1) x S h L) (k2 : n (A ++ K) h L) : J f c n x S h L :=
  fun a w s => wpm (k1 a w s) (fun ex a' w' q => by
    cases ex with
    | normal => obtain ⟨S1, h1, L1, s1, rfl, rfl, hw⟩ := q; exact ⟨A ++ K, _, _, s1.weak hw, k2⟩
    | _ => exact q)
theorem J.region {id : Nat} {l : List Oper} (k : JL f l.toArray n x l S h L) : J f (.region id l.toArray false) n x S h L := fun a w s => wp_region_lit (k a w s)
theorem JL.nil {ops : Array Oper} (k : n S h L) : JL f ops n x [] S h L := fun _ _ s => wpList_nil ⟨_, _, _, s, k⟩
theorem JL.weak {ops : Array Oper} {l : List Oper} (S' : Sig) (hw : Weak S' S) (k : JL f ops n x l S' h L) : JL f ops n x l S h L := fun a w s => k a w (s.weak hw)
end
end Go.Proofs.YtmngjbefnloljaaDoor
