/- Nodes as data, and how they lie in memory. -/
import Derived.Test.YtmngjbefnloljaaDoorRng
set_option linter.unusedSimpArgs false
set_option linter.unusedVariables false
set_option linter.constructorNameAsVariable false
namespace Go.Proofs.YtmngjbefnloljaaDoor
open Go Go.RowKit

inductive Nd where
  | mk (c t : Int) (k : Bool) (bs : List UInt8) (ks : List Nd)
def Nd.cls : Nd → Int | .mk c _ _ _ _ => c
def Nd.tag : Nd → Int | .mk _ t _ _ _ => t
def Nd.cons : Nd → Bool | .mk _ _ k _ _ => k
def Nd.bytes : Nd → List UInt8 | .mk _ _ _ b _ => b
def Nd.kids : Nd → List Nd | .mk _ _ _ _ l => l

inductive NdR : Part → List Value → Nd → Prop where
  | mk {h : Part} {c t : Int} {k : Bool} {bs : List UInt8} {ks : List Nd} {a b : Option Addr} {ca cb : Nat} (hb : SlR u8R 1 h a ca bs)
      (len : ks.length ≤ cb) (cap : cb ≤ maxLen) (big : ks.length ≤ 140737488355328) (nil : b = none → cb = 0)
      (B O : Nat) (C : Array Value) (F : Nat → List Value) (at_ : ∀ i, i < ks.length → b = some ⟨B, O, none⟩ ∧ h B = some C ∧ (F i).length = 5 ∧ ∀ j, j < 5 → C[O + i * 5 + j]? = (F i)[j]?)
      (rec : ∀ i x, ks[i]? = some x → NdR h (F i) x) :
      NdR h [.int .i64 c, .int .i64 t, .bool k, .slice a bs.length ca, .slice b ks.length cb] (.mk c t k bs ks)

theorem NdR.inv {h : Part} {cs : List Value} {c t : Int} {k : Bool} {bs : List UInt8} {ks : List Nd} (r : NdR h cs (.mk c t k bs ks)) :
    ∃ a ca b cb, cs = [.int .i64 c, .int .i64 t, .bool k, .slice a bs.length ca, .slice b ks.length cb] ∧ SlR u8R 1 h a ca bs ∧ SlR NdR 5 h b cb ks := by
  cases r with
  | mk hb len cap big nil B O C F at_ rec =>
    refine ⟨_, _, _, _, rfl, hb, ⟨len, cap, big, nil, fun i x hx => ?_⟩⟩
    have hi := (List.getElem?_eq_some_iff.1 hx).1
    obtain ⟨h1, h2, h3, h4⟩ := at_ i hi
    exact ⟨B, O, h1, C, F i, h2, h3, h4, rec i x hx⟩
theorem NdR.of {h : Part} {c t : Int} {k : Bool} {bs : List UInt8} {ks : List Nd} {a b : Option Addr} {ca cb : Nat} (hb : SlR u8R 1 h a ca bs) (hk : SlR NdR 5 h b cb ks) :
    NdR h [.int .i64 c, .int .i64 t, .bool k, .slice a bs.length ca, .slice b ks.length cb] (.mk c t k bs ks) := by
  cases ks with
  | nil => exact .mk hb hk.len hk.cap hk.big hk.nil 0 0 #[] (fun _ => []) (fun i hi => by simp at hi) (fun i x hx => by simp at hx)
  | cons y r =>
    obtain ⟨B, O, hbo, C, _, hC, _⟩ := hk.elt 0 y rfl
    have key : ∀ i x, (y :: r)[i]? = some x → ∃ F : List Value, F.length = 5 ∧ (∀ j, j < 5 → C[O + i * 5 + j]? = F[j]?) ∧ NdR h F x := fun i x hx => by
      obtain ⟨B', O', hbo', C', cs, hC', h1, h2, h3⟩ := hk.elt i x hx
      rw [hbo] at hbo'
      cases hbo'
      rw [hC] at hC'
      cases hC'
      exact ⟨cs, h1, h2, h3⟩
    have F : ∀ i, ∃ F : List Value, ∀ x, (y :: r)[i]? = some x → F.length = 5 ∧ (∀ j, j < 5 → C[O + i * 5 + j]? = F[j]?) ∧ NdR h F x := fun i => by
      cases hx : (y :: r)[i]? with
      | none => exact ⟨[], fun x hh => by cases hh⟩
      | some x => obtain ⟨F, hF⟩ := key i x hx; exact ⟨F, fun x' hh => by cases hh; exact hF⟩
    refine .mk hb hk.len hk.cap hk.big hk.nil B O C (fun i => (F i).choose) (fun i hi => ?_) (fun i x hx => ?_)
    · obtain ⟨h1, h2, _⟩ := (F i).choose_spec _ (List.getElem?_eq_getElem hi)
      exact ⟨hbo, hC, h1, h2⟩
    · exact ((F i).choose_spec _ hx).2.2

/-! ### sizes -/
mutual
def Nd.rk : Nd → Nat
  | .mk _ _ _ _ ks => Nd.rkL ks + 1
def Nd.rkL : List Nd → Nat
  | [] => 0
  | x :: r => max (Nd.rk x) (Nd.rkL r)
end
theorem Nd.rk_lt {ks : List Nd} {x : Nd} (h : x ∈ ks) : x.rk ≤ Nd.rkL ks := by
  induction ks with
  | nil => cases h
  | cons y r ih =>
    simp only [Nd.rkL]
    cases h with
    | head => omega
    | tail _ h => have := ih h; omega
/- Nodes and bytes. -/
mutual
def Nd.sz : Nd → Nat
  | .mk _ _ _ bs ks => 1 + bs.length + Nd.szL ks
def Nd.szL : List Nd → Nat
  | [] => 0
  | x :: r => Nd.sz x + Nd.szL r
end
theorem Nd.szL_append (a b : List Nd) : Nd.szL (a ++ b) = Nd.szL a + Nd.szL b := by
  induction a with
  | nil => simp [Nd.szL]
  | cons x r ih => simp [Nd.szL, ih]; omega
theorem Nd.rk_le_sz : ∀ (n : Nat) (x : Nd), x.rk ≤ n → x.rk ≤ x.sz := by
  intro n
  induction n with
  | zero => intro x hx; cases x; simp [Nd.rk] at hx
  | succ n ih =>
    intro x hx
    cases x with
    | mk c t k bs ks =>
      simp only [Nd.rk, Nd.sz] at hx ⊢
      have : ∀ l : List Nd, Nd.rkL l ≤ n → Nd.rkL l ≤ Nd.szL l := by
        intro l
        induction l with
        | nil => intro _; simp [Nd.rkL]
        | cons y r ihl =>
          intro hl
          simp only [Nd.rkL, Nd.szL] at hl ⊢
          have := ih y (by omega)
          have := ihl (by omega)
          omega
      have := this ks (by omega)
      omega

theorem Nd.sz_le {ks : List Nd} {x : Nd} (h : x ∈ ks) : x.sz ≤ Nd.szL ks := by
  induction ks with
  | nil => cases h
  | cons y r ih =>
    simp only [Nd.szL]
    cases h with
    | head => omega
    | tail _ h => have := ih h; omega
theorem Nd.rkL_le_szL (l : List Nd) : Nd.rkL l ≤ Nd.szL l := by
  induction l with
  | nil => simp [Nd.rkL]
  | cons y r ih =>
    simp only [Nd.rkL, Nd.szL]
    have := Nd.rk_le_sz _ y (Nat.le_refl _)
    omega
theorem NdR.mono_ {h h' : Part} (hle : h.le h') : ∀ (n : Nat) (x : Nd) (cs : List Value), x.rk ≤ n → NdR h cs x → NdR h' cs x := by
  intro n
  induction n with
  | zero => intro x cs hx; cases x; simp [Nd.rk] at hx
  | succ n ih =>
    intro x cs hx r
    cases r with
    | @mk c t k bs ks a b ca cb hb len cap big nil B O C F at_ rec =>
      refine .mk (hb.mono hle) len cap big nil B O C F (fun i hi => ?_) (fun i y hy => ?_)
      · obtain ⟨h1, h2, h3, h4⟩ := at_ i hi
        exact ⟨h1, hle _ _ h2, h3, h4⟩
      · refine ih y _ ?_ (rec i y hy)
        have := Nd.rk_lt (List.mem_of_getElem? hy)
        simp only [Nd.rk] at hx
        omega
theorem NdR.one_ {h : Part} {cs : List Value} {x : Nd} (r : NdR h cs x) : ∀ u ∈ cs, u.oneCell' = true := by
  cases x with
  | mk c t k bs ks =>
    obtain ⟨a, ca, b, cb, rfl, _, _⟩ := r.inv
    intro u hu
    simp only [List.mem_cons, List.not_mem_nil, or_false] at hu
    rcases hu with rfl | rfl | rfl | rfl | rfl <;> rfl
instance : Mono NdR := ⟨fun hle r => NdR.mono_ hle _ _ _ (Nat.le_refl _) r, fun r => r.one_⟩
theorem NdR.mono {h h' : Part} {cs : List Value} {x : Nd} (r : NdR h cs x) (hle : h.le h') : NdR h' cs x := NdR.mono_ hle _ _ _ (Nat.le_refl _) r
theorem NdR.all1 {h : Part} {cs : List Value} {x : Nd} (r : NdR h cs x) : cs.all (·.oneCell') = true := List.all_eq_true.2 r.one_
theorem NdR.len5 {h : Part} {cs : List Value} {x : Nd} (r : NdR h cs x) : cs.length = 5 := by
  cases x with
  | mk c t k bs ks => obtain ⟨a, ca, b, cb, rfl, _, _⟩ := r.inv; rfl


/-! ### the reference's measures -/
theorem Nd.rkL_take (ks : List Nd) (k : Nat) (hk : k < ks.length) : Nd.rkL (ks.take (k + 1)) = max (Nd.rkL (ks.take k)) ks[k].rk := by
  rw [List.take_succ_eq_append_getElem hk]
  generalize ks.take k = l
  induction l with
  | nil => simp [Nd.rkL]
  | cons x r ih => simp only [List.cons_append, Nd.rkL, ih]; omega
theorem Nd.rkL_le (ks : List Nd) (k : Nat) : Nd.rkL (ks.take k) ≤ Nd.rkL ks := by
  induction ks generalizing k with
  | nil => simp [Nd.rkL]
  | cons x r ih => cases k with
    | zero => simp [Nd.rkL]
    | succ k => simp only [List.take_succ_cons, Nd.rkL]; have := ih k; omega

mutual
def Nd.szM : Nd → Int → Int
  | .mk _ _ _ bs ks, m => Nd.szML ks (1 + bs.length) m
def Nd.szML : List Nd → Int → Int → Int
  | [], k, _ => k
  | x :: r, k, m => if k ≤ m then Nd.szML r (k + Nd.szM x (m - k)) m else k
end
theorem Nd.szML_stop (l : List Nd) (k m : Int) (h : m < k) : Nd.szML l k m = k := by
  cases l with
  | nil => rfl
  | cons x r => simp only [Nd.szML]; rw [if_neg (by omega)]

/- No row of bytes is longer than memory. -/
mutual
def Nd.okB : Nd → Prop
  | .mk _ _ _ bs ks => bs.length ≤ 140737488355328 ∧ Nd.okBL ks
def Nd.okBL : List Nd → Prop
  | [] => True
  | x :: r => Nd.okB x ∧ Nd.okBL r
end
theorem Nd.okBL_iff (l : List Nd) : Nd.okBL l ↔ ∀ x ∈ l, x.okB := by
  induction l with
  | nil => simp [Nd.okBL]
  | cons y r ih => simp [Nd.okBL, ih]
theorem NdR.okB_ {h : Part} : ∀ (n : Nat) (x : Nd) (cs : List Value), x.rk ≤ n → NdR h cs x → x.okB := by
  intro n
  induction n with
  | zero => intro x cs hx; cases x; simp [Nd.rk] at hx
  | succ n ih =>
    intro x cs hx r
    cases x with
    | mk c t k bs ks =>
      obtain ⟨a, ca, b, cb, rfl, h1, h2⟩ := r.inv
      refine ⟨h1.big, (Nd.okBL_iff ks).2 fun x hx' => ?_⟩
      obtain ⟨i, hi⟩ := List.getElem?_of_mem hx'
      obtain ⟨_, _, _, _, cs', _, _, _, hr⟩ := h2.elt i x hi
      have := Nd.rk_lt hx'
      simp only [Nd.rk] at hx
      exact ih x cs' (by omega) hr
theorem NdR.okB {h : Part} {x : Nd} {cs : List Value} (r : NdR h cs x) : x.okB := NdR.okB_ _ _ _ (Nat.le_refl _) r

theorem Nd.szM_bd : ∀ (n : Nat) (x : Nd) (m : Int), x.rk ≤ n → x.okB → 0 ≤ m → 0 ≤ x.szM m ∧ x.szM m ≤ m + 1 + 140737488355328 ∧ (x.szM m ≤ m → x.szM m = x.sz) ∧ ((x.sz : Int) ≤ m → x.szM m = x.sz) := by
  intro n
  induction n with
  | zero => intro x m hx; cases x; simp [Nd.rk] at hx
  | succ n ih =>
    intro x m hx hb hm
    cases x with
    | mk c t k bs ks =>
      obtain ⟨hb1, hb2⟩ := hb
      simp only [Nd.rk] at hx
      have key : ∀ (l : List Nd) (k : Int), Nd.rkL l ≤ n → Nd.okBL l → 0 ≤ k → k ≤ m + 1 + 140737488355328 → 0 ≤ Nd.szML l k m ∧ Nd.szML l k m ≤ m + 1 + 140737488355328 ∧ (Nd.szML l k m ≤ m → Nd.szML l k m = k + Nd.szL l) ∧ (k + Nd.szL l ≤ m → Nd.szML l k m = k + Nd.szL l) := by
        intro l
        induction l with
        | nil => intro k _ _ h0 h1; simp [Nd.szML, Nd.szL]; omega
        | cons y r ihr =>
          intro k hr ho h0 h1
          simp only [Nd.rkL] at hr
          simp only [Nd.szML, Nd.szL]
          by_cases hk : k ≤ m
          · rw [if_pos hk]
            obtain ⟨i1, i2, i3, i4⟩ := ih y (m - k) (by omega) ho.1 (by omega)
            obtain ⟨j1, j2, j3, j4⟩ := ihr (k + y.szM (m - k)) (by omega) ho.2 (by omega) (by omega)
            refine ⟨j1, j2, fun hh => ?_, fun hh => ?_⟩
            · have e1 := j3 hh
              have : y.szM (m - k) ≤ m - k := by omega
              have := i3 this
              omega
            · have e1 := i4 (by omega)
              have e2 := j4 (by omega)
              omega
          · rw [if_neg hk]; refine ⟨h0, h1, fun hh => ?_, fun hh => ?_⟩ <;> omega
      have := key ks (1 + bs.length) (by omega) hb2 (by omega) (by omega)
      simp only [Nd.szM, Nd.sz]
      refine ⟨this.1, this.2.1, fun hh => ?_, fun hh => ?_⟩
      · have := this.2.2.1 hh; omega
      · have := this.2.2.2 (by omega); omega

mutual
def Nd.beq : Nd → Nd → Bool
  | .mk c t k bs ks, .mk c' t' k' bs' ks' => decide (c = c') && (decide (t = t') && (decide (k = k') && (decide (bs = bs') && Nd.beqL ks ks')))
def Nd.beqL : List Nd → List Nd → Bool
  | [], [] => true
  | x :: r, y :: s => Nd.beq x y && Nd.beqL r s
  | [], _ :: _ => false
  | _ :: _, [] => false
end
theorem Nd.beq_eq : ∀ (n : Nat) (x y : Nd), x.rk ≤ n → (x.beq y = true ↔ x = y) := by
  intro n
  induction n with
  | zero => intro x y hx; cases x; simp [Nd.rk] at hx
  | succ n ih =>
    intro x y hx
    cases x with
    | mk c t k bs ks =>
      cases y with
      | mk c' t' k' bs' ks' =>
        simp only [Nd.rk] at hx
        have key : ∀ l l' : List Nd, Nd.rkL l ≤ n → (Nd.beqL l l' = true ↔ l = l') := by
          intro l
          induction l with
          | nil => intro l' _; cases l' <;> simp [Nd.beqL]
          | cons a r ihr =>
            intro l' hl
            simp only [Nd.rkL] at hl
            cases l' with
            | nil => simp [Nd.beqL]
            | cons b s => simp [Nd.beqL, ih a b (by omega), ihr s (by omega)]
        simp [Nd.beq, key ks ks' (by omega)]
theorem Nd.beq_iff (x y : Nd) : x.beq y = true ↔ x = y := Nd.beq_eq _ x y (Nat.le_refl _)
theorem Nd.beq_ne {x y : Nd} (h : x ≠ y) : x.beq y = false := by
  cases hb : x.beq y with
  | false => rfl
  | true => exact absurd ((Nd.beq_iff x y).1 hb) h
theorem Nd.beqL_drop (l r : List Nd) (k : Nat) (h : k < l.length) (h' : k < r.length) : Nd.beqL (l.drop k) (r.drop k) = (Nd.beq l[k] r[k] && Nd.beqL (l.drop (k + 1)) (r.drop (k + 1))) := by
  rw [List.drop_eq_getElem_cons h, List.drop_eq_getElem_cons h']
  rfl
end Go.Proofs.YtmngjbefnloljaaDoor
