/- The rules of the operations that hand back one value and leave the world alone. -/
import Derived.Test.YtmngjbefnloljaaDoorEng
set_option linter.unusedSimpArgs false
set_option linter.unusedVariables false
set_option linter.constructorNameAsVariable false
namespace Go.Proofs.YtmngjbefnloljaaDoor
open Go Go.RowKit

/-- Whatever the frame and the world that meet the state: the operation yields v, and the world stays. -/
def RunV (f : Fr) (S : Sig) (h : Part) (L : List Ent) (q : Op) (ty : TypeId) (v : Value) : Prop :=
  ∀ a w, Sat f.e f.m S h L a w → ∀ d pos af g, (execOp a.eval ⟨d, q, ty, pos, af, g⟩).run f.P w = .ok (.value v) w

section
variable {f : Fr} {n : Post} {x : Nat → Post} {S : Sig} {h : Part} {L : List Ent} {ops : Array Oper} {rest : List Oper}
variable {ty : TypeId} {pos : String} {af : Array Edge} {q : Op} {d : Nat} {v : Value}

theorem wpList_value {o : Oper} {a : Act} {w : World} {Q : Exit → Act → World → Prop} {P : Program} (hw : Region.wanted o (yielded ops a.tmps) = true) (hr : (execOp a.eval o).run P w = .ok (.value v) w)
    (k : wpList P ops Q rest (a.put o.dst v) w) : wpList P ops Q (o :: rest) a w := by
  unfold wpList
  rw [if_pos hw]
  exact .inl (by simp only [Oper.wp, hr, Oper.upon]; exact k)

theorem JL.op (r : RunV f S h L q ty v) (hd : Nat.blt d f.m = true) (k : JL f ops n x rest ((d, v) :: S) h L) : JL f ops n x (⟨some d, q, ty, pos, af, none⟩ :: rest) S h L := fun a w s =>
  wpList_value (v := v) (by simp [Region.wanted]) (r a w s _ _ _ _) (k _ w (s.put hd v s.ok))

theorem yielded_of {a : Act} {w : World} (s : Sat f.e f.m S h L a w) {j dj : Nat} {b : Bool} (hj : (ops[j]?).bind (·.dst) = some dj) (hs : look S dj = some (.bool b)) : yielded ops a.tmps j = some b := by
  simp [yielded, hj, s.slot _ _ hs]
theorem yielded_undef {a : Act} {w : World} (s : Sat f.e f.m S h L a w) {j dj : Nat} (hj : (ops[j]?).bind (·.dst) = some dj) (hs : look S dj = some undef) : yielded ops a.tmps j = none := by
  simp [yielded, hj, s.slot _ _ hs, undef]

/-- A guarded operation whose guard says yes. -/
theorem JL.opg {j dj : Nat} {b : Bool} (hj : (ops[j]?).bind (·.dst) = some dj) (hs : look S dj = some (.bool b)) (r : RunV f S h L q ty v) (hd : Nat.blt d f.m = true) (k : JL f ops n x rest ((d, v) :: S) h L) :
    JL f ops n x (⟨some d, q, ty, pos, af, some (j, b)⟩ :: rest) S h L := fun a w s =>
  wpList_value (v := v) (by simp [Region.wanted, yielded_of s hj hs]) (r a w s _ _ _ _) (k _ w (s.put hd v s.ok))
/-- .. no. -/
theorem JL.skip {j dj : Nat} {b : Bool} (hj : (ops[j]?).bind (·.dst) = some dj) (hs : look S dj = some (.bool (!b))) (hd : Nat.blt d f.m = true) (k : JL f ops n x rest ((d, undef) :: S) h L) :
    JL f ops n x (⟨some d, q, ty, pos, af, some (j, b)⟩ :: rest) S h L := fun a w s => by
  unfold wpList
  rw [if_neg (by simp [Region.wanted, yielded_of s hj hs])]
  exact k _ w (s.put hd undef s.ok)
/-- .. nothing: it was passed over itself. -/
theorem JL.skipu {j dj : Nat} {b : Bool} (hj : (ops[j]?).bind (·.dst) = some dj) (hs : look S dj = some undef) (hd : Nat.blt d f.m = true) (k : JL f ops n x rest ((d, undef) :: S) h L) :
    JL f ops n x (⟨some d, q, ty, pos, af, some (j, b)⟩ :: rest) S h L := fun a w s => by
  unfold wpList
  rw [if_neg (by simp [Region.wanted, yielded_undef s hj hs])]
  exact k _ w (s.put hd undef s.ok)

/-- A bool that a test or a guard asks for: both ways. -/
theorem Sat.bool {a : Act} {w : World} (s : Sat f.e f.m S h L a w) {t : Nat} {b c : Bool} (ht : look S t = some (.bool b)) (hb : b = c) : Sat f.e f.m ((t, .bool c) :: S) h L a w :=
  s.weak' fun u v hv => by
    simp only [look] at hv
    cases hq : Nat.beq t u with
    | true =>
      have : t = u := Nat.eq_of_beq_eq_true hq
      subst this
      simp only [hq, cond_true, Option.some.injEq] at hv
      rw [ht, hb, hv]
    | false => simpa [hq] using hv
theorem J.bsplit {c : Code} (t : Nat) {b : Bool} (ht : look S t = some (.bool b)) (k1 : b = true → J f c n x ((t, .bool true) :: S) h L) (k2 : b = false → J f c n x ((t, .bool false) :: S) h L) : J f c n x S h L := fun a w s => by
  cases hb : b with
  | true => exact k1 hb a w (s.bool ht hb)
  | false => exact k2 hb a w (s.bool ht hb)
theorem JL.bsplit {l : List Oper} (t : Nat) {b : Bool} (ht : look S t = some (.bool b)) (k1 : b = true → JL f ops n x l ((t, .bool true) :: S) h L) (k2 : b = false → JL f ops n x l ((t, .bool false) :: S) h L) : JL f ops n x l S h L := fun a w s => by
  cases hb : b with
  | true => exact k1 hb a w (s.bool ht hb)
  | false => exact k2 hb a w (s.bool ht hb)
/-- It yields a value of which V is known, the same in every frame and world that meet the state. -/
def RunE (f : Fr) (S : Sig) (h : Part) (L : List Ent) (q : Op) (ty : TypeId) (V : Value → Prop) : Prop := ∃ v, RunV f S h L q ty v ∧ V v
theorem JL.ope {V : Value → Prop} (r : RunE f S h L q ty V) (hd : Nat.blt d f.m = true) (k : ∀ v, V v → JL f ops n x rest ((d, v) :: S) h L) : JL f ops n x (⟨some d, q, ty, pos, af, none⟩ :: rest) S h L := by
  obtain ⟨v, r, hv⟩ := r
  exact JL.op r hd (k v hv)
theorem JL.opeg {j dj : Nat} {b : Bool} {V : Value → Prop} (hj : (ops[j]?).bind (·.dst) = some dj) (hs : look S dj = some (.bool b)) (r : RunE f S h L q ty V) (hd : Nat.blt d f.m = true) (k : ∀ v, V v → JL f ops n x rest ((d, v) :: S) h L) :
    JL f ops n x (⟨some d, q, ty, pos, af, some (j, b)⟩ :: rest) S h L := by
  obtain ⟨v, r, hv⟩ := r
  exact JL.opg hj hs r hd (k v hv)

/-! ### regions that draw their order: all operations yield one value, and leave the world -/
def JQ (f : Fr) (ops : Array Oper) (n : Post) (l : List Oper) : Post := fun S h L => ∀ a w, Sat f.e f.m S h L a w →
  wpQuiet f.P ops (fun w' => Ok f.e h L w') (fun a' => ∀ w', Ok f.e h L w' → ∃ S', Sat f.e f.m S' h L a' w' ∧ n S' h L) l a

theorem JQ.nil (k : n S h L) : JQ f ops n [] S h L := fun a w s => wpQuiet_nil fun w' hw' => ⟨S, s.with hw', k⟩
theorem JQ.op (r : RunV f S h L q ty v) (hd : Nat.blt d f.m = true) (k : JQ f ops n rest ((d, v) :: S) h L) : JQ f ops n (⟨some d, q, ty, pos, af, none⟩ :: rest) S h L := fun a w s => by
  unfold wpQuiet
  rw [if_pos (by simp [Region.wanted])]
  exact ⟨v, fun w' hw' => by simp only [Oper.quietAt, r a w' (s.with hw'), Oper.quietUpon, and_self], k _ w (s.put hd v s.ok)⟩
theorem JQ.ope {V : Value → Prop} (r : RunE f S h L q ty V) (hd : Nat.blt d f.m = true) (k : ∀ v, V v → JQ f ops n rest ((d, v) :: S) h L) : JQ f ops n (⟨some d, q, ty, pos, af, none⟩ :: rest) S h L := by
  obtain ⟨v, r, hv⟩ := r
  exact JQ.op r hd (k v hv)
theorem JQ.opg {j dj : Nat} {b : Bool} (hj : (ops[j]?).bind (·.dst) = some dj) (hs : look S dj = some (.bool b)) (r : RunV f S h L q ty v) (hd : Nat.blt d f.m = true) (k : JQ f ops n rest ((d, v) :: S) h L) :
    JQ f ops n (⟨some d, q, ty, pos, af, some (j, b)⟩ :: rest) S h L := fun a w s => by
  unfold wpQuiet
  rw [if_pos (by simp [Region.wanted, yielded_of s hj hs])]
  exact ⟨v, fun w' hw' => by simp only [Oper.quietAt, r a w' (s.with hw'), Oper.quietUpon, and_self], k _ w (s.put hd v s.ok)⟩
theorem JQ.opeg {j dj : Nat} {b : Bool} {V : Value → Prop} (hj : (ops[j]?).bind (·.dst) = some dj) (hs : look S dj = some (.bool b)) (r : RunE f S h L q ty V) (hd : Nat.blt d f.m = true) (k : ∀ v, V v → JQ f ops n rest ((d, v) :: S) h L) :
    JQ f ops n (⟨some d, q, ty, pos, af, some (j, b)⟩ :: rest) S h L := by
  obtain ⟨v, r, hv⟩ := r
  exact JQ.opg hj hs r hd (k v hv)
theorem JQ.skip {j dj : Nat} {b : Bool} (hj : (ops[j]?).bind (·.dst) = some dj) (hs : look S dj = some (.bool (!b))) (hd : Nat.blt d f.m = true) (k : JQ f ops n rest ((d, undef) :: S) h L) :
    JQ f ops n (⟨some d, q, ty, pos, af, some (j, b)⟩ :: rest) S h L := fun a w s => by
  unfold wpQuiet
  rw [if_neg (by simp [Region.wanted, yielded_of s hj hs])]
  exact k _ w (s.put hd undef s.ok)
theorem JQ.skipu {j dj : Nat} {b : Bool} (hj : (ops[j]?).bind (·.dst) = some dj) (hs : look S dj = some undef) (hd : Nat.blt d f.m = true) (k : JQ f ops n rest ((d, undef) :: S) h L) :
    JQ f ops n (⟨some d, q, ty, pos, af, some (j, b)⟩ :: rest) S h L := fun a w s => by
  unfold wpQuiet
  rw [if_neg (by simp [Region.wanted, yielded_undef s hj hs])]
  exact k _ w (s.put hd undef s.ok)
theorem wpQuiet_mono {P : Program} {C : World → Prop} {Q Q' : Act → Prop} (hq : ∀ a, Q a → Q' a) : ∀ (l : List Oper) (a : Act), wpQuiet P ops C Q l a → wpQuiet P ops C Q' l a
  | [], a, hh => hq a hh
  | o :: l, a, hh => by
    unfold wpQuiet at hh ⊢
    split
    · rename_i hw
      rw [if_pos hw] at hh
      obtain ⟨v, h1, h2⟩ := hh
      exact ⟨v, h1, wpQuiet_mono hq l _ h2⟩
    · rename_i hw
      rw [if_neg hw] at hh
      exact wpQuiet_mono hq l _ hh
theorem JQ.bsplit {l : List Oper} (t : Nat) {b : Bool} (ht : look S t = some (.bool b)) (k1 : b = true → JQ f ops n l ((t, .bool true) :: S) h L) (k2 : b = false → JQ f ops n l ((t, .bool false) :: S) h L) : JQ f ops n l S h L := fun a w s => by
  cases hb : b with
  | true => exact k1 hb a w (s.bool ht hb)
  | false => exact k2 hb a w (s.bool ht hb)
theorem J.drawn {id : Nat} {l : List Oper} (hm : f.P.follows .mixedOrders = true) (hB : Region.lexB .any l.toArray = true) (k : JQ f l.toArray n l S h L) : J f (.region id l.toArray true) n x S h L := fun a w s =>
  wp_region_quiet (C := fun w' => Ok f.e h L w') hm hB (s.ok.drawn _) (by
    simp only [List.toList_toArray]
    exact wpQuiet_mono (fun a' hh w' hw' => by obtain ⟨S', s', k'⟩ := hh w' hw'; exact ⟨S', h, L, s', k'⟩) _ _ (k a w s))
end
end Go.Proofs.YtmngjbefnloljaaDoor
