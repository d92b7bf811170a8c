/- Short rules: many operations in one step, reckoned by the kernel; splits that say what they mean. -/
import Derived.Test.YtmngjbefnloljaaDoorBld
set_option linter.unusedSimpArgs false
set_option linter.unusedVariables false
set_option linter.constructorNameAsVariable false
namespace Go.Proofs.YtmngjbefnloljaaDoor
open Go Go.RowKit

/-! ## closed facts on types, as a table -/
class Tbl (P : Program) where
  sl : List (Nat × Nat × Nat)
  fo : List (Nat × Nat × Nat)
  hsl : (sl.all fun t => slT P t.1 == some t.2) = true
  hfo : (fo.all fun t => fieldOff P t.1 t.2.1 == some t.2.2) = true
def find1 : List (Nat × Nat × Nat) → Nat → Option (Nat × Nat)
  | [], _ => none
  | (a, b) :: r, k => bif Nat.beq a k then some b else find1 r k
def find2 : List (Nat × Nat × Nat) → Nat → Nat → Option Nat
  | [], _, _ => none
  | (a, b, c) :: r, k, j => bif Nat.beq a k && Nat.beq b j then some c else find2 r k j
theorem find1_mem {l : List (Nat × Nat × Nat)} {k : Nat} {v : Nat × Nat} (h : find1 l k = some v) : (k, v) ∈ l := by
  induction l with
  | nil => cases h
  | cons x r ih =>
    obtain ⟨a, b⟩ := x
    simp only [find1] at h
    cases hb : Nat.beq a k with
    | true =>
      obtain rfl := Nat.eq_of_beq_eq_true hb
      simp only [hb, cond_true, Option.some.injEq] at h
      subst h
      exact List.mem_cons_self ..
    | false => simp only [hb, cond_false] at h; exact List.mem_cons_of_mem _ (ih h)
theorem find2_mem {l : List (Nat × Nat × Nat)} {k j v : Nat} (h : find2 l k j = some v) : (k, j, v) ∈ l := by
  induction l with
  | nil => cases h
  | cons x r ih =>
    obtain ⟨a, b, c⟩ := x
    simp only [find2] at h
    cases hb : (Nat.beq a k && Nat.beq b j) with
    | true =>
      simp only [Bool.and_eq_true] at hb
      obtain rfl := Nat.eq_of_beq_eq_true hb.1
      obtain rfl := Nat.eq_of_beq_eq_true hb.2
      simp only [Nat.beq_refl, Bool.and_self, cond_true, Option.some.injEq] at h
      subst h
      exact List.mem_cons_self ..
    | false => simp only [hb, cond_false] at h; exact List.mem_cons_of_mem _ (ih h)

/-! ## what an operation yields, by the frame alone -/
def cmpI : BinOp → Int → Int → Option Value
  | .lss, p, q => some (.bool (decide (p < q)))
  | .leq, p, q => some (.bool (decide (p ≤ q)))
  | .gtr, p, q => some (.bool (decide (q < p)))
  | .geq, p, q => some (.bool (decide (q ≤ p)))
  | .eql, p, q => some (.bool (decide (p = q)))
  | .neq, p, q => some (.bool (decide (p ≠ q)))
  | _, _, _ => none
def nth : List Value → Nat → Option Value
  | [], _ => none
  | v :: _, 0 => some v
  | _ :: r, i + 1 => nth r i
theorem nth_eq : ∀ (l : List Value) (i : Nat), nth l i = l[i]?
  | [], _ => by simp [nth]
  | v :: _, 0 => by simp [nth]
  | _ :: r, i + 1 => by simp [nth, nth_eq r i]
def dst1 : List Oper → Nat → Option Nat
  | [], _ => none
  | o :: _, 0 => o.dst
  | _ :: r, i + 1 => dst1 r i
theorem dst1_eq : ∀ (l : List Oper) (i : Nat), dst1 l i = (l[i]?).bind (·.dst)
  | [], _ => by simp [dst1]
  | v :: _, 0 => by simp [dst1]
  | _ :: r, i + 1 => by simp [dst1, dst1_eq r i]
def cmpK (o : BinOp) (k k' : IntKind) (p q : Int) : Option Value := bif decide (k = k') then cmpI o p q else none
theorem cmpK_eq {o : BinOp} {k k' : IntKind} {p q : Int} {v : Value} (h : cmpK o k k' p q = some v) : k = k' ∧ cmpI o p q = some v := by
  unfold cmpK at h
  cases hk : decide (k = k') with
  | false => rw [hk] at h; cases h
  | true => rw [hk] at h; exact ⟨of_decide_eq_true hk, h⟩
def val1 (P : Program) [Tbl P] (S : Sig) : Op → Option Value
  | .move x => ev S x
  | .assign x => ev S x
  | .pick c x y => match ev S c with
    | some (.bool true) => ev S x
    | some (.bool false) => ev S y
    | _ => none
  | .extract x i => match ev S x with
    | some (.tuple vs) => nth vs.toList i
    | _ => none
  | .nilCheck x => match ev S x with
    | some (.pointer (some a)) => some (.pointer (some a))
    | _ => none
  | .unOp .not _ x => match ev S x with
    | some (.bool b) => some (.bool (!b))
    | _ => none
  | .binOp o _ x y _ => match ev S x, ev S y with
    | some (.int k p), some (.int k' q) => cmpK o k k' p q
    | _, _ => none
  | .call c => match c.callee, c.args.toList, c.argTypes.toList with
    | .builtin .len, [x], [T] => match ev S x with
      | some (.slice _ n _) => match find1 (Tbl.sl P) T with
        | some _ => some (.int .i64 (n : Int))
        | none => none
      | _ => none
    | _, _, _ => none
  | .fieldAddr T x i => match ev S x with
    | some (.pointer (some ⟨b, o, none⟩)) => match find2 (Tbl.fo P) T i with
      | some off => some (.pointer (some ⟨b, bif Nat.beq o 0 then off else o + off, none⟩))
      | none => none
    | _ => none
  | _ => none
/-- The address is reckoned out before it is stored. -/
def force : Value → Option Value
  | .pointer (some ⟨b, o, none⟩) => some (.pointer (some ⟨b, o, none⟩))
  | v => some v
def put1 (m d : Nat) (S : Sig) : Option Value → Option Sig
  | some v => bif Nat.blt d m then some ((d, v) :: S) else none
  | none => none
def gd : Option Value → Bool → Option Bool
  | some (.bool true), b => some b
  | some (.bool false), b => some (!b)
  | some (.tuple _), _ => some false
  | _, _ => none
theorem gd_t {u : Option Value} {b : Bool} (h : gd u b = some true) : u = some (.bool b) := by
  unfold gd at h
  split at h
  · cases h; rfl
  · cases b <;> cases h; rfl
  · cases h
  · cases h
theorem gd_f {u : Option Value} {b : Bool} (h : gd u b = some false) : u = some (.bool (!b)) ∨ ∃ vs, u = some (.tuple vs) := by
  unfold gd at h
  split at h
  · cases h; exact .inl rfl
  · cases b <;> cases h; exact .inl rfl
  · exact .inr ⟨_, rfl⟩
  · cases h
def stp (P : Program) [Tbl P] (m : Nat) (ops : Array Oper) (S : Sig) : Oper → Option Sig
  | ⟨some d, q, _, _, _, none⟩ => put1 m d S (val1 P S q)
  | ⟨some d, q, _, _, _, some (j, b)⟩ => match dst1 ops.toList j with
    | some dj => match gd (look S dj) b with
      | some true => put1 m d S (val1 P S q)
      | some false => put1 m d S (some undef)
      | none => none
    | none => none
  | _ => none
def stpN (P : Program) [Tbl P] (m : Nat) (ops : Array Oper) : Nat → Sig → List Oper → Option (Sig × List Oper)
  | 0, S, l => some (S, l)
  | k + 1, S, o :: l => match stp P m ops S o with
    | some S' => stpN P m ops k S' l
    | none => none
  | _ + 1, _, [] => none

section
variable {P : Program} [Tbl P] {e : Env} {m : Nat} {r : Post} {p : List PanicEntry → Post} {n : Post} {x : Nat → Post} {S S' : Sig} {h : Part} {L : List Ent} {ops : Array Oper} {rest l l' : List Oper} {ty : TypeId}
omit [Tbl P] in
theorem cmp_ok {o : BinOp} {T yt : TypeId} {xo yo : Operand} {k : IntKind} {i j : Int} {v : Value} (hx : ev S xo = some (.int k i)) (hy : ev S yo = some (.int k j)) (hv : cmpI o i j = some v) : RunV ⟨P, e, m, r, p⟩ S h L (.binOp o T xo yo yt) ty v := by
  cases o <;> simp only [cmpI, Option.some.injEq, reduceCtorEq] at hv <;> subst hv
  · exact RunV.eql hx hy
  · exact RunV.neq hx hy
  · exact RunV.lss hx hy
  · exact RunV.leq hx hy
  · exact RunV.gtr hx hy
  · exact RunV.geq hx hy
theorem val1_ok {q : Op} {v : Value} (hv : val1 P S q = some v) : RunV ⟨P, e, m, r, p⟩ S h L q ty v := by
  unfold val1 at hv
  split at hv
  · exact RunV.move hv
  · exact RunV.assign hv
  · split at hv
    · rename_i hc; exact RunV.pick_t hc hv
    · rename_i hc; exact RunV.pick_f hc hv
    · cases hv
  · split at hv
    · rename_i hc; rw [nth_eq] at hv; exact RunV.extract hc (by simpa using hv)
    · cases hv
  · split at hv
    · rename_i hc; cases hv; exact RunV.nilCheck hc
    · cases hv
  · split at hv
    · rename_i hc; cases hv; exact RunV.not_ hc
    · cases hv
  · split at hv
    · rename_i hx hy
      obtain ⟨hk, hw⟩ := cmpK_eq hv
      subst hk
      exact cmp_ok hx hy hw
    · cases hv
  · rename_i c
    obtain ⟨callee, args, argTypes⟩ := c
    split at hv
    · rename_i x T hc ha ht
      simp only at hc ha ht
      split at hv
      · rename_i a ln cp hx
        split at hv
        · rename_i v' hf
          cases hv
          have hm := List.all_eq_true.1 (Tbl.hsl (P := P)) _ (find1_mem hf)
          have hT := eq_of_beq hm
          have ea : args = #[x] := by apply Array.ext'; simpa using ha
          have et : argTypes = #[T] := by apply Array.ext'; simpa using ht
          subst hc ea et
          exact RunV.len (e := v'.1) (sz := v'.2) hT hx
        · cases hv
      · cases hv
    · cases hv
  · split at hv
    · rename_i T x i b o hx
      split at hv
      · rename_i off hf
        have hm := List.all_eq_true.1 (Tbl.hfo (P := P)) _ (find2_mem hf)
        have hT := eq_of_beq hm
        cases hv
        cases ho : Nat.beq o 0 with
        | true =>
          obtain rfl := Nat.eq_of_beq_eq_true ho
          exact RunV.fieldAt0 hT hx
        | false => exact RunV.fieldAt hT hx
      · cases hv
    · cases hv
  · cases hv
omit [Tbl P] in
theorem put1_ok {d : Nat} {u : Option Value} (hp : put1 m d S u = some S') : ∃ v, u = some v ∧ Nat.blt d m = true ∧ S' = (d, v) :: S := by
  unfold put1 at hp
  split at hp
  · cases hb : Nat.blt d m with
    | true => simp only [hb, cond_true, Option.some.injEq] at hp; exact ⟨_, rfl, rfl, hp.symm⟩
    | false => simp [hb] at hp
  · cases hp
omit [Tbl P] in
theorem yielded_tuple {f : Fr} {a : Act} {w : World} (s : Sat f.e f.m S h L a w) {j dj : Nat} {vs : Array Value} (hj : (ops[j]?).bind (·.dst) = some dj) (hs : look S dj = some (.tuple vs)) : yielded ops a.tmps j = none := by
  simp [yielded, hj, s.slot _ _ hs]
omit [Tbl P] in
theorem JL.skipx {pos : String} {af : Array Edge} {q : Op} {d : Nat} {j dj : Nat} {b : Bool} {f : Fr} (hj : (ops[j]?).bind (·.dst) = some dj) (hs : look S dj = some (.bool (!b)) ∨ ∃ vs, look S dj = some (.tuple vs)) (hd : Nat.blt d f.m = true) (k : JL f ops n x rest ((d, undef) :: S) h L) :
    JL f ops n x (⟨some d, q, ty, pos, af, some (j, b)⟩ :: rest) S h L := by
  rcases hs with hs | ⟨vs, hs⟩
  · exact JL.skip hj hs hd k
  · intro a w s
    unfold wpList
    rw [if_neg (by simp [Region.wanted, yielded_tuple s hj hs])]
    exact k _ w (s.put hd undef s.ok)
omit [Tbl P] in
theorem JQ.skipx {pos : String} {af : Array Edge} {q : Op} {d : Nat} {j dj : Nat} {b : Bool} {f : Fr} (hj : (ops[j]?).bind (·.dst) = some dj) (hs : look S dj = some (.bool (!b)) ∨ ∃ vs, look S dj = some (.tuple vs)) (hd : Nat.blt d f.m = true) (k : JQ f ops n rest ((d, undef) :: S) h L) :
    JQ f ops n (⟨some d, q, ty, pos, af, some (j, b)⟩ :: rest) S h L := by
  rcases hs with hs | ⟨vs, hs⟩
  · exact JQ.skip hj hs hd k
  · intro a w s
    unfold wpQuiet
    rw [if_neg (by simp [Region.wanted, yielded_tuple s hj hs])]
    exact k _ w (s.put hd undef s.ok)
theorem stp_ok {o : Oper} (hs : stp P m ops S o = some S') (k : JL ⟨P, e, m, r, p⟩ ops n x rest S' h L) : JL ⟨P, e, m, r, p⟩ ops n x (o :: rest) S h L := by
  unfold stp at hs
  split at hs
  · obtain ⟨v, hv, hd, rfl⟩ := put1_ok hs
    exact JL.op (val1_ok hv) hd k
  · split at hs
    · rename_i j b dj hj
      rw [dst1_eq, Array.getElem?_toList] at hj
      split at hs
      · rename_i hl; obtain ⟨v, hv, hd, rfl⟩ := put1_ok hs; exact JL.opg hj (gd_t hl) (val1_ok hv) hd k
      · rename_i hl; obtain ⟨v, hv, hd, rfl⟩ := put1_ok hs; cases hv; exact JL.skipx hj (gd_f hl) hd k
      · cases hs
    · cases hs
  · cases hs
theorem stq_ok {o : Oper} (hs : stp P m ops S o = some S') (k : JQ ⟨P, e, m, r, p⟩ ops n rest S' h L) : JQ ⟨P, e, m, r, p⟩ ops n (o :: rest) S h L := by
  unfold stp at hs
  split at hs
  · obtain ⟨v, hv, hd, rfl⟩ := put1_ok hs
    exact JQ.op (val1_ok hv) hd k
  · split at hs
    · rename_i j b dj hj
      rw [dst1_eq, Array.getElem?_toList] at hj
      split at hs
      · rename_i hl; obtain ⟨v, hv, hd, rfl⟩ := put1_ok hs; exact JQ.opg hj (gd_t hl) (val1_ok hv) hd k
      · rename_i hl; obtain ⟨v, hv, hd, rfl⟩ := put1_ok hs; cases hv; exact JQ.skipx hj (gd_f hl) hd k
      · cases hs
    · cases hs
  · cases hs
/-- k operations at once. -/
theorem Ru (k : Nat) (hs : stpN P m ops k S l = some (S', l')) (kk : JL ⟨P, e, m, r, p⟩ ops n x l' S' h L) : JL ⟨P, e, m, r, p⟩ ops n x l S h L := by
  induction k generalizing S l with
  | zero => simp only [stpN, Option.some.injEq, Prod.mk.injEq] at hs; obtain ⟨rfl, rfl⟩ := hs; exact kk
  | succ k ih =>
    cases l with
    | nil => simp [stpN] at hs
    | cons o l =>
      simp only [stpN] at hs
      split at hs
      · rename_i S1 h1; exact stp_ok h1 (ih hs)
      · cases hs
theorem Rq (k : Nat) (hs : stpN P m ops k S l = some (S', l')) (kk : JQ ⟨P, e, m, r, p⟩ ops n l' S' h L) : JQ ⟨P, e, m, r, p⟩ ops n l S h L := by
  induction k generalizing S l with
  | zero => simp only [stpN, Option.some.injEq, Prod.mk.injEq] at hs; obtain ⟨rfl, rfl⟩ := hs; exact kk
  | succ k ih =>
    cases l with
    | nil => simp [stpN] at hs
    | cons o l =>
      simp only [stpN] at hs
      split at hs
      · rename_i S1 h1; exact stq_ok h1 (ih hs)
      · cases hs
end

/-! ## glue -/
def keepS : List Nat → Sig → Option Sig
  | [], _ => some []
  | k :: r, S => match look S k, keepS r S with
    | some v, some S' => some ((k, v) :: S')
    | _, _ => none
theorem keepS_ok : ∀ {ks : List Nat} {S S' : Sig}, keepS ks S = some S' → Weak S' S
  | [], S, S', h => by simp only [keepS, Option.some.injEq] at h; subst h; exact trivial
  | k :: r, S, S', h => by
    simp only [keepS] at h
    split at h
    · rename_i v S1 hv h1
      simp only [Option.some.injEq] at h
      subst h
      exact ⟨hv, keepS_ok h1⟩
    · cases h
section
variable {f : Fr} {n : Post} {x : Nat → Post} {S S' : Sig} {h : Part} {L : List Ent} {ops : Array Oper} {c d : Code}
theorem Kp (ks : List Nat) (hk : keepS ks S = some S') (k : J f c n x S' h L) : J f c n x S h L := J.weak S' (keepS_ok hk) k
theorem Nk {x' : Nat → Post} (ks : List Nat) (hk : keepS ks S = some S') (k : J f c n x S' h L) : JL f ops (J f c n x) x' [] S h L := JL.nil (J.weak S' (keepS_ok hk) k)
theorem Nq (ks : List Nat) (hk : keepS ks S = some S') (k : J f c n x S' h L) : JQ f ops (J f c n x) [] S h L := JQ.nil (J.weak S' (keepS_ok hk) k)
theorem Sr {id : Nat} {l : List Oper} (k : JL f l.toArray (J f d n x) x l S h L) : J f (.seq (.region id l.toArray false) d) n x S h L := J.seq (J.region k)
theorem Rg {id : Nat} {l : List Oper} (k : JL f l.toArray n x l S h L) : J f (.region id l.toArray false) n x S h L := J.region k
end

/-! ## splits -/
class Sp (b : Bool) (p q : outParam Prop) : Prop where
  t : b = true → p
  f : b = false → q
instance (priority := low) Sp.any (b : Bool) : Sp b (b = true) (b = false) := ⟨id, id⟩
instance Sp.dec (p : Prop) [d : Decidable p] : Sp (decide p) p (¬ p) := ⟨of_decide_eq_true, of_decide_eq_false⟩
instance (priority := high) Sp.decn (p : Prop) [d : Decidable (¬ p)] : Sp (decide (¬ p)) (¬ p) p := ⟨of_decide_eq_true, fun h => Classical.byContradiction (of_decide_eq_false h)⟩
instance Sp.not_ (b : Bool) (p q : Prop) [s : Sp b p q] : Sp (!b) q p := ⟨fun h => s.f (by simpa using h), fun h => s.t (by simpa using h)⟩
section
variable {f : Fr} {n : Post} {x : Nat → Post} {S : Sig} {h : Part} {L : List Ent} {ops : Array Oper} {b : Bool} {p q : Prop} {c d : Code} {l : List Oper}
theorem Cs {t : Nat} (ht : look S t = some (.bool b)) [s : Sp b p q] (k1 : p → J f c n x ((t, .bool true) :: S) h L) (k2 : q → J f d n x ((t, .bool false) :: S) h L) : J f (.cond (.tmp t) c d) n x S h L :=
  J.bsplit t ht (fun hb => J.cond_t (by simp [ev, look]) (k1 (s.t hb))) (fun hb => J.cond_f (by simp [ev, look]) (k2 (s.f hb)))
theorem Bs (t : Nat) (ht : look S t = some (.bool b)) [s : Sp b p q] (k1 : p → JL f ops n x l ((t, .bool true) :: S) h L) (k2 : q → JL f ops n x l ((t, .bool false) :: S) h L) : JL f ops n x l S h L :=
  JL.bsplit t ht (fun hb => k1 (s.t hb)) (fun hb => k2 (s.f hb))
theorem Bq (t : Nat) (ht : look S t = some (.bool b)) [s : Sp b p q] (k1 : p → JQ f ops n l ((t, .bool true) :: S) h L) (k2 : q → JQ f ops n l ((t, .bool false) :: S) h L) : JQ f ops n l S h L :=
  JQ.bsplit t ht (fun hb => k1 (s.t hb)) (fun hb => k2 (s.f hb))
end
end Go.Proofs.YtmngjbefnloljaaDoor
