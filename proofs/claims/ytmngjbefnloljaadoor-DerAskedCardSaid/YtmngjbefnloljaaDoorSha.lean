/- 'a && b', 'a || b': the two ways meet at once. -/
import Derived.Test.YtmngjbefnloljaaDoorSht
set_option linter.unusedSimpArgs false
set_option linter.unusedVariables false
set_option linter.constructorNameAsVariable false
namespace Go.Proofs.YtmngjbefnloljaaDoor
open Go Go.RowKit

theorem am_t {b y : Bool} {u : Option Value} (hb : b = true) (h : u = some (.bool y)) : u = some (.bool (b && y)) := by subst hb; rw [Bool.true_and]; exact h
theorem am_f {b y : Bool} {u : Option Value} (hb : b = false) (h : u = some (.bool false)) : u = some (.bool (b && y)) := by subst hb; exact h
theorem om_f {b y : Bool} {u : Option Value} (hb : b = false) (h : u = some (.bool y)) : u = some (.bool (b || y)) := by subst hb; rw [Bool.false_or]; exact h
theorem om_t {b y : Bool} {u : Option Value} (hb : b = true) (h : u = some (.bool true)) : u = some (.bool (b || y)) := by subst hb; exact h
instance (priority := high) Sp.and_ (a b : Bool) (p q p' q' : Prop) [s : Sp a p q] [s' : Sp b p' q'] : Sp (a && b) (p ∧ p') (q ∨ q') := ⟨fun h => by
  rw [Bool.and_eq_true] at h; exact ⟨s.t h.1, s'.t h.2⟩, fun h => by
  rw [Bool.and_eq_false_iff] at h; exact h.imp s.f s'.f⟩
instance (priority := high) Sp.or_ (a b : Bool) (p q p' q' : Prop) [s : Sp a p q] [s' : Sp b p' q'] : Sp (a || b) (p ∨ p') (q ∧ q') := ⟨fun h => by
  rw [Bool.or_eq_true] at h; exact h.imp s.t s'.t, fun h => by
  rw [Bool.or_eq_false_iff] at h; exact ⟨s.f h.1, s'.f h.2⟩⟩
section
variable {f : Fr} {n : Post} {x : Nat → Post} {S : Sig} {h : Part} {L : List Ent} {ops : Array Oper} {b : Bool} {p q : Prop} {c d : Code} {l : List Oper}
/-! 'a && b' and 'a || b', b reckoned only where it is asked for: the two ways meet at once -/
def Am (h : Part) (L : List Ent) (d : Nat) (v : Bool) (ks : List Nat) (K : Sig) : Post := fun S1 h1 L1 => h1 = h ∧ L1 = L ∧ look S1 d = some (.bool v) ∧ keepS ks S1 = some K
theorem JL.take_drop (j : Nat) (M : Post) (hM : ∀ S' h' L', M S' h' L' → JL f ops n x (l.drop j) S' h' L') (k : JL f ops M x (l.take j) S h L) : JL f ops n x l S h L := fun a w s => by
  have key : ∀ (l1 l2 : List Oper), (∀ S' h' L', M S' h' L' → JL f ops n x l2 S' h' L') → ∀ (a : Act) (w : World), wpList f.P ops (f.Q M x) l1 a w → wpList f.P ops (f.Q n x) (l1 ++ l2) a w := by
    intro l1 l2 hM
    induction l1 with
    | nil => intro a w hh; obtain ⟨S', h', L', s', k'⟩ := hh; exact hM _ _ _ k' a w s'
    | cons o r ih =>
      intro a w hh
      unfold wpList at hh
      rw [List.cons_append]
      unfold wpList
      split
      · rename_i hw
        rw [if_pos hw] at hh
        rcases hh with hh | ⟨h1, a', w', hh⟩
        · refine .inl ?_
          unfold Oper.wp at *
          generalize (execOp a.eval o).run f.P w = rr at *
          cases rr with
          | ok nx w' =>
            cases nx <;> simp only [Oper.upon] at hh ⊢ <;> first
              | exact ih _ _ hh
              | exact Calls.mono hh (fun e w'' he => by cases e <;> first | exact ih _ _ he | exact he)
              | exact Rows.mono hh (fun _ _ he => ih _ _ he)
              | exact hh
          | halt z w' => cases z <;> simp only [Oper.upon] at hh ⊢ <;> exact hh
        · exact hh.elim
      · rename_i hw
        rw [if_neg hw] at hh
        exact ih _ _ hh
  have := key (l.take j) (l.drop j) hM a w (k a w s)
  rwa [List.take_append_drop] at this
theorem An {y : Bool} (t d j : Nat) (ks : List Nat) {K : Sig} (ht : look S t = some (.bool b)) (hk : keepS ks S = some K) [s : Sp b p q]
    (kT : b = true → p → JL f ops (Am h L d (b && y) ks K) x (l.take j) ((t, .bool true) :: S) h L) (kF : b = false → q → JL f ops (Am h L d (b && y) ks K) x (l.take j) ((t, .bool false) :: S) h L)
    (k : JL f ops n x (l.drop j) ((d, .bool (b && y)) :: K) h L) : JL f ops n x l S h L := by
  have fin : ∀ S1 h1 L1, Am h L d (b && y) ks K S1 h1 L1 → JL f ops n x (l.drop j) S1 h1 L1 := fun S1 h1 L1 ⟨e1, e2, e3, e4⟩ => by
    subst e1 e2
    exact JL.weak ((d, .bool (b && y)) :: K) ⟨e3, keepS_ok e4⟩ k
  exact JL.take_drop j _ fin (JL.bsplit t ht (fun hb => kT hb (s.t hb)) (fun hb => kF hb (s.f hb)))
theorem On {y : Bool} (t d j : Nat) (ks : List Nat) {K : Sig} (ht : look S t = some (.bool b)) (hk : keepS ks S = some K) [s : Sp b p q]
    (kT : b = true → p → JL f ops (Am h L d (b || y) ks K) x (l.take j) ((t, .bool true) :: S) h L) (kF : b = false → q → JL f ops (Am h L d (b || y) ks K) x (l.take j) ((t, .bool false) :: S) h L)
    (k : JL f ops n x (l.drop j) ((d, .bool (b || y)) :: K) h L) : JL f ops n x l S h L := by
  have fin : ∀ S1 h1 L1, Am h L d (b || y) ks K S1 h1 L1 → JL f ops n x (l.drop j) S1 h1 L1 := fun S1 h1 L1 ⟨e1, e2, e3, e4⟩ => by
    subst e1 e2
    exact JL.weak ((d, .bool (b || y)) :: K) ⟨e3, keepS_ok e4⟩ k
  exact JL.take_drop j _ fin (JL.bsplit t ht (fun hb => kT hb (s.t hb)) (fun hb => kF hb (s.f hb)))
theorem Ae {v : Bool} {d : Nat} {ks : List Nat} {K S1 : Sig} (h1 : look S1 d = some (.bool v)) (h2 : keepS ks S1 = some K) : JL f ops (Am h L d v ks K) x [] S1 h L := JL.nil ⟨rfl, rfl, h1, h2⟩
end
end Go.Proofs.YtmngjbefnloljaaDoor
