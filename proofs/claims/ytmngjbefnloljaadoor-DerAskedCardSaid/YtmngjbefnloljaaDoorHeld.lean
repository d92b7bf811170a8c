/- Regions that draw their order, and whose operations make or write memory. -/
import Derived.Test.YtmngjbefnloljaaDoorBld
import Derived.OrdersHeld
set_option linter.unusedSimpArgs false
set_option linter.unusedVariables false
set_option linter.constructorNameAsVariable false
namespace Go.Proofs.YtmngjbefnloljaaDoor
open Go Go.RowKit

def JH (f : Fr) (ops : Array Oper) (n : Post) (x : Nat → Post) (h0 : Part) (L0 : List Ent) (fuel : Nat) (listed : Array Bool) : Post := fun S h L =>
  ∀ a w, Sat f.e f.m S h L a w → wpAnyH f.P .any ops (f.Q n x) (fun w => Ok f.e h0 L0 w) fuel listed a w

theorem Ok.bridge {e : Env} {h h0 : Part} {Li L Lr : List Ent} (p : Parts Li L Lr) (hle : h0.le h) (h00 : e.h0.le h0) (w : World) (k : Ok e h L w) : Ok e h0 Li w := (p.ok w k).shrink hle h00

section
variable {f : Fr} {n : Post} {x : Nat → Post} {S : Sig} {h h0 : Part} {L L0 : List Ent} {ops : Array Oper} {fuel i j d : Nat} {listed : Array Bool}
variable {q : Op} {ty : TypeId} {pos : String} {af : Array Edge} {v : Value} {o o2 : Oper}

theorem J.held {id : Nat} {l : List Oper} (L0 : List Ent) (N : Nat) (hm : f.P.follows .mixedOrders = true) (hN : l.length = N) (k : f.e.h0.le h → JH f l.toArray n x h L0 N (Array.replicate N false) S h L) : J f (.region id l.toArray true) n x S h L := fun a w s => by
  subst hN
  refine wp_region_held (S := fun w => Ok f.e h L0 w) hm ?_
  have := k s.ok.le a { w with drawn := w.drawn + 1 } (s.with (s.ok.drawn _))
  simpa using this
theorem JH.take (i : Nat) (hi : ops[i]? = some ⟨some d, q, ty, pos, af, none⟩) (hs : Region.noSelect ops = true) (hf : Region.free .any ops listed i = true) (hr : (Region.ready .any ops listed).contains i = true)
    (hp : ∀ c S h L, f.p c S h L → f.p c [] h L) (hb : ∀ w, Ok f.e h L w → Ok f.e h0 L0 w) (r : RunV f S h0 L0 q ty v) (hd : Nat.blt d f.m = true) (k : JH f ops n x h0 L0 fuel (listed.setIfInBounds i true) ((d, v) :: S) h L) :
    JH f ops n x h0 L0 (fuel + 1) listed S h L := fun a w s => by
  refine wpAnyH_take (v := v) hi hs hf hr (fun c a w hq => ?_) ?_ (hb w s.ok) (k _ w (s.put hd v s.ok))
  · obtain ⟨S', h', L', s', k'⟩ := hq
    refine ⟨[], h', L', ⟨?_, fun s v hv => by simp [look] at hv, ?_, s'.ok⟩, hp _ _ _ _ k'⟩
    · have := s'.size; simpa [Act.put] using this
    · have := s'.ds; simpa [Act.put] using this
  · exact .inl ⟨by simp [Region.wanted], fun w' hw' => r a w' (s.with hw') _ _ _ _⟩
theorem JH.takeE {V : Value → Prop} (i : Nat) (hi : ops[i]? = some ⟨some d, q, ty, pos, af, none⟩) (hs : Region.noSelect ops = true) (hf : Region.free .any ops listed i = true) (hr : (Region.ready .any ops listed).contains i = true)
    (hp : ∀ c S h L, f.p c S h L → f.p c [] h L) (hb : ∀ w, Ok f.e h L w → Ok f.e h0 L0 w) (r : RunE f S h0 L0 q ty V) (hd : Nat.blt d f.m = true) (k : ∀ v, V v → JH f ops n x h0 L0 fuel (listed.setIfInBounds i true) ((d, v) :: S) h L) :
    JH f ops n x h0 L0 (fuel + 1) listed S h L := by
  obtain ⟨v, r, hv⟩ := r
  exact JH.take i hi hs hf hr hp hb r hd (k v hv)

theorem wp_monoQ {P : Program} {o : Oper} {a : Act} {w : World} {K K' : Act → World → Prop} {Q Q' : Exit → Act → World → Prop} (hK : ∀ a w, K a w → K' a w) (hp : ∀ c a w, Q (.panic c) a w → Q' (.panic c) a w) (ho : ∀ a w, ¬ Q .outgrown a w) (hh : o.wp P a w K Q) : o.wp P a w K' Q' := by
  unfold Oper.wp at *
  generalize (execOp a.eval o).run P w = r at *
  cases r with
  | ok n w' =>
    cases n <;> simp only [Oper.upon] at hh ⊢ <;>
      first
        | exact hK _ _ hh
        | exact Calls.mono hh (fun e w'' he => by cases e <;> first | exact hK _ _ he | exact hp _ _ _ he | exact (let ⟨a1, w1, h1⟩ := he; (ho a1 w1 h1).elim))
        | exact Rows.mono hh (fun _ _ he => hK _ _ he)
        | exact hh
  | halt x w' => cases x <;> simp only [Oper.upon] at hh ⊢ <;> first | exact hp _ _ _ hh | exact (let ⟨a1, w1, h1⟩ := hh; (ho a1 w1 h1).elim) | exact hh

/-- What is asked of one operation that may come up. -/
def One (f : Fr) (ops : Array Oper) (n : Post) (x : Nat → Post) (h0 : Part) (L0 : List Ent) (fuel : Nat) (listed : Array Bool) (i : Nat) (o : Oper) : Post := fun S h L =>
  JL f ops (fun S' h' L' => (∀ w, Ok f.e h' L' w → Ok f.e h0 L0 w) ∧ JH f ops n x h0 L0 fuel (listed.setIfInBounds i true) S' h' L') x [o] S h L
theorem One.wp (hi : ops[i]? = some o) (k : One f ops n x h0 L0 fuel listed i o S h L) (a : Act) (w : World) (s : Sat f.e f.m S h L a w) :
    wpOp f.P ops (f.Q n x) i (fun a' w' => Ok f.e h0 L0 w' ∧ wpAnyH f.P .any ops (f.Q n x) (fun w => Ok f.e h0 L0 w) fuel (listed.setIfInBounds i true) a' w') a w := by
  have hk := k a w s
  have fin : ∀ a w, (f.Q (fun S' h' L' => (∀ w, Ok f.e h' L' w → Ok f.e h0 L0 w) ∧ JH f ops n x h0 L0 fuel (listed.setIfInBounds i true) S' h' L') x) .normal a w → Ok f.e h0 L0 w ∧ wpAnyH f.P .any ops (f.Q n x) (fun w => Ok f.e h0 L0 w) fuel (listed.setIfInBounds i true) a w := fun a w hq => by
    obtain ⟨S', h', L', s', hb, k'⟩ := hq
    exact ⟨hb w s'.ok, k' a w s'⟩
  unfold wpList at hk
  unfold wpOp
  simp only [hi]
  split
  · rename_i hw
    rw [if_pos hw] at hk
    rcases hk with hk | ⟨_, a', w', hh⟩
    · exact .inl (wp_monoQ (fun a w hq => fin a w (by simpa [wpList] using hq)) (fun c a w hq => hq) (fun a w hh => hh) hk)
    · exact hh.elim
  · rename_i hw
    rw [if_neg hw] at hk
    exact fin _ _ (by simpa [wpList] using hk)
theorem JH.all1 (i : Nat) (hr : Region.ready .any ops listed = [i]) (hi : ops[i]? = some o) (k : One f ops n x h0 L0 fuel listed i o S h L) : JH f ops n x h0 L0 (fuel + 1) listed S h L := fun a w s =>
  wpAnyH_all hr (by simp) fun i' hi' => by
    simp only [List.mem_singleton] at hi'
    subst hi'
    exact k.wp hi a w s
theorem JH.all2 (i j : Nat) (hr : Region.ready .any ops listed = [i, j]) (hi : ops[i]? = some o) (hj : ops[j]? = some o2) (k1 : One f ops n x h0 L0 fuel listed i o S h L) (k2 : One f ops n x h0 L0 fuel listed j o2 S h L) : JH f ops n x h0 L0 (fuel + 1) listed S h L := fun a w s =>
  wpAnyH_all hr (by simp) fun i' hi' => by
    simp only [List.mem_cons, List.not_mem_nil, or_false] at hi'
    rcases hi' with rfl | rfl
    · exact k1.wp hi a w s
    · exact k2.wp hj a w s
theorem JH.done (hr : Region.ready .any ops listed = []) (k : n S h L) : JH f ops n x h0 L0 fuel listed S h L := fun a w s => wpAnyH_done hr ⟨S, h, L, s, k⟩ fuel
end
end Go.Proofs.YtmngjbefnloljaaDoor
