/- append, make; calls; a function's proof. -/
import Derived.Test.YtmngjbefnloljaaDoorOwn
set_option linter.unusedSimpArgs false
set_option linter.unusedVariables false
set_option linter.constructorNameAsVariable false
namespace Go.Proofs.YtmngjbefnloljaaDoor
open Go Go.RowKit

section
variable {f : Fr} {n : Post} {x : Nat → Post} {S : Sig} {h : Part} {L L' : List Ent} {ops : Array Oper} {rest : List Oper}
variable {ty : TypeId} {pos : String} {af : Array Edge} {d : Nat} {v : Value} {T : TypeId} {xo yo : Operand}

/-! ## states that are turned in place -/
theorem JL.own {l : List Oper} (hk : ∀ w, Ok f.e h L w → Ok f.e h L' w) (k : JL f ops n x l S h L') : JL f ops n x l S h L := fun a w s => k a w (s.with (hk w s.ok))
theorem J.own {c : Code} (hk : ∀ w, Ok f.e h L w → Ok f.e h L' w) (k : J f c n x S h L') : J f c n x S h L := fun a w s => k a w (s.with (hk w s.ok))
theorem J.row_nil {c : Code} (t : TypeId) (sz : Nat) (k : J f c n x S h (.row none 0 t sz 0 [] :: L)) : J f c n x S h L := J.own (fun _ hk => hk.row_nil t sz) k
theorem JL.row_nil {l : List Oper} (t : TypeId) (sz : Nat) (k : JL f ops n x l S h (.row none 0 t sz 0 [] :: L)) : JL f ops n x l S h L := JL.own (fun _ hk => hk.row_nil t sz) k
theorem Parts.ok {e : Env} {Li Lr : List Ent} (p : Parts Li L Lr) (w : World) (hk : Ok e h L w) : Ok e h Li w := (hk.perm p.perm).drop (List.sublist_append_left _ _)
/-- The entries in another order, or fewer. -/
theorem J.ents {c : Code} (Li : List Ent) {Lr : List Ent} (p : Parts Li L Lr) (k : J f c n x S h Li) : J f c n x S h L := J.own p.ok k
theorem JL.ents {l : List Oper} (Li : List Ent) {Lr : List Ent} (p : Parts Li L Lr) (k : JL f ops n x l S h Li) : JL f ops n x l S h L := JL.own p.ok k

/-! ## append -/
/-- 'news' are the cells of '.slice a m c'. -/
def Src (e : Env) (h : Part) (L : List Ent) (a : Option Addr) (m c sz : Nat) (news : List Value) : Prop :=
  news.length = m * sz ∧ (∀ u ∈ news, u.oneCell' = true) ∧ (a = none → m = 0 ∧ c = 0) ∧ ∀ w, Ok e h L w → ∀ ad, a = some ad → ∀ j u, news[j]? = some u → w.cell? (ad.add j) = some u
theorem Src.sl {α : Type} {R : Rep α} [Mono R] {e : Env} {sz : Nat} {a : Option Addr} {c : Nat} {l : List α} (hsz : 0 < sz) (hR : SlR R sz h a c l) : ∃ news, CellsR R sz h news l ∧ Src e h L a l.length c sz news := by
  obtain ⟨cs, h1, h2⟩ := hR.cells hsz
  refine ⟨cs, h1, h1.1, h1.oneCell hsz, fun ha => ?_, fun w hk ad hd j u hu => ?_⟩
  · have := hR.nil ha; have := hR.len; omega
  · obtain ⟨b, o, cc, ha, hb, hc⟩ := h2 j u hu
    rw [ha] at hd
    cases hd
    rw [Addr.add_lit]
    exact hk.sub.cell hb hc
theorem Src.blk {e : Env} {b t sz m c : Nat} {cs : List Value} (hm : Ent.blk b t cs ∈ L) (hl : cs.length = m * sz) (h1 : ∀ u ∈ cs, u.oneCell' = true) : Src e h L (some ⟨b, 0, none⟩) m c sz cs :=
  ⟨hl, h1, (fun ha => by cases ha), fun w hk ad hd j u hu => by
    cases hd
    have : w.heap[b]? = some (.cells cs.toArray t (0, 0)) := hk.own _ hm
    rw [Addr.add_lit, cell_of_row w b _ _ _ _ this]
    simpa using hu⟩

theorem Ok.grown {e : Env} {x x' : Ent} {w w' : World} (k : Ok e h (x :: L) w) (g : w.grownBy w' x.key) (hx' : x'.holds w') (hkey : x'.key = x.key ∨ x'.key = some w.heap.size) : Ok e h (x' :: L) w' :=
  k.turn g.os g.tape g.output g.size (fun b hb hne => g.block b hb (fun he => hne he.symm)) hx' (fun b hb => by
    rcases hkey with hk | hk
    · exact .inl (hk ▸ hb)
    · rw [hk] at hb; cases hb; exact .inr (Nat.le_refl _))

theorem ownsRow_form {w : World} {base : Nat} {e : TypeId} {size : Nat} {v : Value} {n : Nat} {xs : List Value} (h : w.ownsRow base e size v n xs) : ∃ a c, v = .slice a n c ∧ n ≤ c ∧ c ≤ maxLen ∧ (a = none → c = 0) := by
  rcases h.2 with ⟨rfl, rfl⟩ | ⟨g, cap, cur, rfl, _, _, h1, h2, _⟩
  · exact ⟨none, 0, rfl, Nat.le_refl _, Nat.zero_le _, fun _ => rfl⟩
  · exact ⟨_, cap, rfl, h1, h2, fun hh => by cases hh⟩

theorem JL.append_ {e sz bytes nn m : Nat} {a a2 : Option Addr} {c c2 : Nat} {xs news : List Value} (hT : apT f.P T = some (e, sz, bytes)) (hx : ev S xo = some (.slice a nn c)) (hy : ev S yo = some (.slice a2 m c2)) (hs : Src f.e h L a2 m c2 sz news)
    (u : Del (.row a c e sz nn xs) L L') (h63 : nn + m ≤ maxLen) (hb : (nn + m) * bytes ≤ 140737488355328) (hd : Nat.blt d f.m = true)
    (k : ∀ a' c', nn + m ≤ c' → c' ≤ maxLen → JL f ops n x rest ((d, .slice a' (nn + m) c') :: S) h (.row a' c' e sz (nn + m) (xs ++ news) :: L')) :
    JL f ops n x (⟨some d, .call { callee := .builtin .append, args := #[xo, yo], argTypes := #[T, T] }, ty, pos, af, none⟩ :: rest) S h L := fun ac w s => by
  obtain ⟨hu, i, z, hi, hz, hsz, hby, hzc, h0⟩ := apT_spec hT
  have okp := s.ok.perm u.perm
  have hown : w.ownsRow 0 e sz (.slice a nn c) nn xs := okp.own _ (List.mem_cons_self ..)
  have fin : ∀ v' w', (Builtin.append_ #[T, T] ty #[.slice a nn c, .slice a2 m c2]).run f.P w = .ok v' w' → w'.ownsRow 0 e sz v' (nn + m) (xs ++ news) → w.grownBy w' (Value.slice a nn c).ownBlock →
      (v'.ownBlock = (Value.slice a nn c).ownBlock ∨ v'.ownBlock = some w.heap.size) →
      wpList f.P ops (f.Q n x) (⟨some d, .call { callee := .builtin .append, args := #[xo, yo], argTypes := #[T, T] }, ty, pos, af, none⟩ :: rest) ac w := fun v' w' hrun ho hg hat => by
    obtain ⟨a', c', rfl, hc1, hc2, _⟩ := ownsRow_form ho
    refine wpList_val (v := .slice a' (nn + m) c') (w' := w') rfl ?_ (k a' c' hc1 hc2 _ _ (s.put hd _ (okp.grown (x' := .row a' c' e sz (nn + m) (xs ++ news)) hg ho hat)))
    simp [execOp, resolve, s.eval hx, s.eval hy, invoke, builtin, hrun]
  obtain ⟨n1, n2, n3, n4⟩ := hs
  cases a2 with
  | some ad =>
    obtain ⟨v', w', hrun, ho, hg, _, hat⟩ := run_append_own_at (P := f.P) w 0 T ty e i z sz bytes hu hi hz hsz hby hzc h0 _ nn xs hown ad m c2 news n1 (n4 w s.ok ad rfl) n2 h63 hb (Nat.zero_le _)
    exact fin v' w' hrun ho hg hat
  | none =>
    obtain ⟨rfl, rfl⟩ := n3 rfl
    have hn : news = [] := List.eq_nil_of_length_eq_zero (by simpa using n1)
    subst hn
    have hrun := run_append_owned_none (P := f.P) (w := w) 0 T ty e i sz hu hi _ nn xs hown
    exact fin _ w hrun (by simpa using hown) ⟨rfl, rfl, rfl, Nat.le_refl _, fun _ _ _ => rfl⟩ (.inl rfl)

/-- 'append(out, l...)', l read. -/
theorem JL.append {α : Type} {R : Rep α} [Mono R] {e sz bytes nn m : Nat} {a a2 : Option Addr} {c c2 : Nat} {xs : List Value} {l l2 : List α} (hT : apT f.P T = some (e, sz, bytes)) (hx : ev S xo = some (.slice a nn c)) (hy : ev S yo = some (.slice a2 m c2))
    (hc : CellsR R sz h xs l) (hnn : nn = l.length) (hR : SlR R sz h a2 c2 l2) (hm : m = l2.length)
    (u : Del (.row a c e sz nn xs) L L') (hb : (l.length + l2.length) * bytes ≤ 140737488355328) (hd : Nat.blt d f.m = true) (hbp : Nat.blt 0 bytes = true)
    (k : ∀ a' c' xs', CellsR R sz h xs' (l ++ l2) → (l ++ l2).length ≤ 140737488355328 → JL f ops n x rest ((d, .slice a' (l ++ l2).length c') :: S) h (.row a' c' e sz (l ++ l2).length xs' :: L')) :
    JL f ops n x (⟨some d, .call { callee := .builtin .append, args := #[xo, yo], argTypes := #[T, T] }, ty, pos, af, none⟩ :: rest) S h L := by
  subst hnn hm
  have h0 := (apT_spec hT).2
  obtain ⟨_, _, _, _, _, _, _, hsz⟩ := h0
  obtain ⟨news, hn, hs⟩ := Src.sl (e := f.e) (L := L) hsz hR
  have hbp' : 0 < bytes := by simpa using hbp
  have hmul : l.length + l2.length ≤ (l.length + l2.length) * bytes := Nat.le_mul_of_pos_right _ hbp'
  refine JL.append_ hT hx hy hs u (by simp only [maxLen]; omega) hb hd fun a' c' _ _ => ?_
  rw [← List.length_append]
  exact k a' c' _ (hc.append hn) (by rw [List.length_append]; omega)
/-- 'append(out, v)': the element lies in a block that was made for it; the block is let go. -/
theorem JL.append1 {α : Type} {R : Rep α} [Mono R] {e sz bytes nn : Nat} {a : Option Addr} {c b : Nat} {xs cs : List Value} {L2 : List Ent} {l : List α} {y : α} (hT : apT f.P T = some (e, sz, bytes)) (hx : ev S xo = some (.slice a nn c)) (hy : ev S yo = some (.slice (some ⟨b, 0, none⟩) 1 1))
    (hc : CellsR R sz h xs l) (hnn : nn = l.length) (u : Del (.row a c e sz nn xs) L L') (u2 : Del (.blk b e cs) L' L2) (hl : cs.length = sz) (hR : R h cs y)
    (hb : (l.length + 1) * bytes ≤ 140737488355328) (hd : Nat.blt d f.m = true) (hbp : Nat.blt 0 bytes = true)
    (k : ∀ a' c' xs', CellsR R sz h xs' (l ++ [y]) → (l ++ [y]).length ≤ 140737488355328 → JL f ops n x rest ((d, .slice a' (l ++ [y]).length c') :: S) h (.row a' c' e sz (l ++ [y]).length xs' :: L2)) :
    JL f ops n x (⟨some d, .call { callee := .builtin .append, args := #[xo, yo], argTypes := #[T, T] }, ty, pos, af, none⟩ :: rest) S h L := by
  subst hnn
  have hbp' : 0 < bytes := by simpa using hbp
  have hmul : l.length + 1 ≤ (l.length + 1) * bytes := Nat.le_mul_of_pos_right _ hbp'
  have hm : Ent.blk b e cs ∈ L := u.perm.symm.subset (List.mem_cons_of_mem _ u2.mem)
  refine JL.append_ hT hx hy (Src.blk (e := f.e) hm (by simpa using hl) (Mono.one hR)) u (by simp only [maxLen]; omega) hb hd fun a' c' _ _ => ?_
  have hlen : l.length + 1 = (l ++ [y]).length := by simp
  rw [hlen]
  exact JL.own (fun w hk => (hk.perm ((u2.perm.cons _).trans (.swap ..))).drop (List.sublist_cons_self _ _)) (k a' c' _ (hc.append (CellsR.one hR hl)) (by rw [← hlen]; omega))
end

/-! ## what is owned becomes what nobody writes -/
theorem Ok.pub_row {α : Type} {R : Rep α} [Mono R] {e : Env} {h : Part} {L : List Ent} {w : World} {a : Option Addr} {c t sz nn : Nat} {xs : List Value} {l : List α} (k : Ok e h (.row a c t sz nn xs :: L) w) (hc : CellsR R sz h xs l) (hn : nn = l.length) (hb : l.length ≤ 140737488355328) :
    ∃ h', h.le h' ∧ SlR R sz h' a c l ∧ Ok e h' L w := by
  subst hn
  have hown : w.ownsRow 0 t sz (.slice a l.length c) l.length xs := k.own _ (List.mem_cons_self ..)
  rcases hown.2 with ⟨hv, hl⟩ | ⟨g, cap, cur, hv, _, hg, h1, h2, h3, h4⟩
  · injection hv with e1 e2 e3
    subst e1 e3
    have : l = [] := List.eq_nil_of_length_eq_zero hl
    subst this
    exact ⟨h, Part.le.refl _, SlR.nil_, k.drop (List.sublist_cons_self _ _)⟩
  · injection hv with e1 e2 e3
    subst e1 e3
    obtain ⟨hle, hok⟩ := k.publish_ (b := g) rfl hg
    refine ⟨h.add g cur, hle, ⟨h1, h2, hb, (fun hh => by cases hh), fun i x hx => ⟨g, 0, rfl, cur, (xs.drop (i * sz)).take sz, by simp [Part.add], ?_, fun j hj => ?_, Mono.mono hle (hc.2 i x hx)⟩⟩, hok⟩
    · have hi := (List.getElem?_eq_some_iff.1 hx).1
      have hle2 : i * sz + sz ≤ l.length * sz := by rw [← Nat.succ_mul]; exact Nat.mul_le_mul_right _ hi
      have := hc.1
      simp only [List.length_take, List.length_drop]; omega
    · have hi := (List.getElem?_eq_some_iff.1 hx).1
      have hle2 : i * sz + sz ≤ l.length * sz := by rw [← Nat.succ_mul]; exact Nat.mul_le_mul_right _ hi
      rw [List.getElem?_take, if_pos hj, List.getElem?_drop, ← h4, List.getElem?_take, if_pos (by omega), Array.getElem?_toList, Nat.zero_add]
theorem Ok.pub_blk {α : Type} {R : Rep α} [Mono R] {e : Env} {h : Part} {L : List Ent} {w : World} {b t sz : Nat} {xs : List Value} {l : List α} (k : Ok e h (.blk b t xs :: L) w) (hc : CellsR R sz h xs l) (hb : l.length ≤ 140737488355328) :
    ∃ h', h.le h' ∧ SlR R sz h' (some ⟨b, 0, none⟩) l.length l ∧ Ok e h' L w := by
  obtain ⟨hle, hok⟩ := k.publish
  refine ⟨h.add b xs.toArray, hle, ⟨Nat.le_refl _, by simp only [maxLen]; omega, hb, (fun hh => by cases hh), fun i x hx => ⟨b, 0, rfl, xs.toArray, (xs.drop (i * sz)).take sz, by simp [Part.add], ?_, fun j hj => ?_, Mono.mono hle (hc.2 i x hx)⟩⟩, hok⟩
  · have hi := (List.getElem?_eq_some_iff.1 hx).1
    have hle2 : i * sz + sz ≤ l.length * sz := by rw [← Nat.succ_mul]; exact Nat.mul_le_mul_right _ hi
    have := hc.1
    simp only [List.length_take, List.length_drop]; omega
  · rw [List.getElem?_take, if_pos hj, List.getElem?_drop, Nat.zero_add]
    simp
section
variable {f : Fr} {n : Post} {x : Nat → Post} {S : Sig} {h : Part} {L L' : List Ent} {ops : Array Oper} {l0 : List Oper} {c0 : Code}
variable {α : Type} {R : Rep α} [Mono R] {a : Option Addr} {c t sz nn b : Nat} {xs : List Value} {l : List α}
theorem J.pub (u : Del (.row a c t sz nn xs) L L') (hc : CellsR R sz h xs l) (hn : nn = l.length) (hb : l.length ≤ 140737488355328) (k : ∀ h', h.le h' → SlR R sz h' a c l → J f c0 n x S h' L') : J f c0 n x S h L := fun ac w s => by
  obtain ⟨h', h1, h2, h3⟩ := (s.ok.perm u.perm).pub_row hc hn hb
  exact k h' h1 h2 ac w (s.with h3)
theorem JL.pub (u : Del (.row a c t sz nn xs) L L') (hc : CellsR R sz h xs l) (hn : nn = l.length) (hb : l.length ≤ 140737488355328) (k : ∀ h', h.le h' → SlR R sz h' a c l → JL f ops n x l0 S h' L') : JL f ops n x l0 S h L := fun ac w s => by
  obtain ⟨h', h1, h2, h3⟩ := (s.ok.perm u.perm).pub_row hc hn hb
  exact k h' h1 h2 ac w (s.with h3)
theorem J.pubB (u : Del (.blk b t xs) L L') (hc : CellsR R sz h xs l) (hb : l.length ≤ 140737488355328) (k : ∀ h', h.le h' → SlR R sz h' (some ⟨b, 0, none⟩) l.length l → J f c0 n x S h' L') : J f c0 n x S h L := fun ac w s => by
  obtain ⟨h', h1, h2, h3⟩ := (s.ok.perm u.perm).pub_blk hc hb
  exact k h' h1 h2 ac w (s.with h3)
theorem JL.pubB (u : Del (.blk b t xs) L L') (hc : CellsR R sz h xs l) (hb : l.length ≤ 140737488355328) (k : ∀ h', h.le h' → SlR R sz h' (some ⟨b, 0, none⟩) l.length l → JL f ops n x l0 S h' L') : JL f ops n x l0 S h L := fun ac w s => by
  obtain ⟨h', h1, h2, h3⟩ := (s.ok.perm u.perm).pub_blk hc hb
  exact k h' h1 h2 ac w (s.with h3)
/-- An entry is let go. -/
theorem J.del {y : Ent} (u : Del y L L') (k : J f c0 n x S h L') : J f c0 n x S h L := J.own (fun w hk => (hk.perm u.perm).drop (List.sublist_cons_self _ _)) k
end

/-! ## calls -/
/-- A function that may be entered. -/
def callT (P : Program) (F : Nat) : Bool :=
  match P.funcs[F]? with
  | some fn => fn.name != "runtime.NumGoroutine" && fn.body.isSome
  | none => false
theorem run_call {P : Program} {F : Nat} (hF : callT P F = true) (args : Array Value) (w : World) : (callFunc F args).run P w = .ok (.enter F args) w := by
  unfold callT at hF
  split at hF
  · rename_i fn hfn
    simp only [Bool.and_eq_true, bne_iff_ne, ne_eq] at hF
    have h2 : ¬ fn.body = none := fun hh => by rw [hh] at hF; simp at hF
    simp [callFunc, hfn]
    rw [if_neg hF.1, if_neg h2]
  · cases hF

/-- What a call comes to: whatever memory it is called in, as long as it holds the part h and the entries Li. -/
def Fn (P : Program) (F : Nat) (args : List Value) (h : Part) (Li : List Ent) (R : Ending → Part → List Ent → Prop) : Prop :=
  ∀ w, Ok ⟨w, (· ∈ keys Li), h, []⟩ h Li w → Calls P F args.toArray w fun e w' => ∃ h' Lo, R e h' Lo ∧ Ok ⟨w, (· ∈ keys Li), h, []⟩ h' Lo w'
theorem Fn.mono {P : Program} {F : Nat} {args : List Value} {h : Part} {Li : List Ent} {R R' : Ending → Part → List Ent → Prop} (k : Fn P F args h Li R) (hr : ∀ e h' Lo, h.le h' → R e h' Lo → R' e h' Lo) : Fn P F args h Li R' := fun w hw =>
  (k w hw).mono fun e w' ⟨h', Lo, r, o⟩ => ⟨h', Lo, hr _ _ _ o.le r, o⟩
/-- It returns, and R is known of what it hands back. -/
def Rets (R : Value → Part → List Ent → Prop) : Ending → Part → List Ent → Prop := fun e h' Lo => ∃ v, e = .returned v ∧ R v h' Lo

theorem Ok.enter {e : Env} {h : Part} {Li Lr : List Ent} {w : World} (k : Ok e h (Li ++ Lr) w) : Ok ⟨w, (· ∈ keys Li), h, []⟩ h Li w := by
  have kd := k.drop (List.sublist_append_left Li Lr)
  exact ⟨rfl, rfl, rfl, Nat.le_refl _, fun _ _ _ => rfl, k.sub, Part.le.refl _, fun b c hc => .inl hc, kd.own, fun b hb => ⟨(kd.key b hb).1, .inr hb⟩, kd.nodup⟩

section
variable {f : Fr} {n : Post} {x : Nat → Post} {S : Sig} {h : Part} {L Li Lr : List Ent} {ops : Array Oper} {rest : List Oper}
variable {ty : TypeId} {pos : String} {af : Array Edge} {d F : Nat} {R : Ending → Part → List Ent → Prop}

def evl (S : Sig) : List Operand → Option (List Value)
  | [] => some []
  | o :: r => match ev S o, evl S r with
    | some v, some vs => some (v :: vs)
    | _, _ => none
theorem evl_spec {a : Act} {w : World} (s : Sat f.e f.m S h L a w) : ∀ {os : List Operand} {vs : List Value}, evl S os = some vs → os.map a.eval = vs
  | [], vs, hh => by simp [evl] at hh; simp [hh]
  | o :: r, vs, hh => by
    simp only [evl] at hh
    split at hh <;> cases hh
    rename_i v vs' h1 h2
    simp [s.eval h1, evl_spec s h2]

/-- The call itself, wherever it stands. -/
theorem wpList_enter {o : Oper} {a : Act} {w : World} {args : List Value} (hF : callT f.P F = true) (hw : Region.wanted o (yielded ops a.tmps) = true) (hr : (execOp a.eval o).run f.P w = .ok (.enter F args.toArray) w)
    (c : Fn f.P F args h Li R) (p : Parts Li L Lr) (s : Sat f.e f.m S h L a w) (hdst : o.dst = some d) (hd : Nat.blt d f.m = true) (ko : ∀ h' Lo, ¬ R .outgrown h' Lo)
    (kp : ∀ ch h' Lo, h.le h' → R (.panicked ch) h' Lo → f.p ch S h' (Lo ++ Lr))
    (k : ∀ v h' Lo, h.le h' → R (.returned v) h' Lo → JL f ops n x rest ((d, v) :: S) h' (Lo ++ Lr)) : wpList f.P ops (f.Q n x) (o :: rest) a w := by
  unfold wpList
  rw [if_pos hw]
  refine .inl ?_
  simp only [Oper.wp, hr, Oper.upon]
  have okp := s.ok.perm p.perm
  refine (c w okp.enter).mono fun e w' hh => ?_
  obtain ⟨h', Lo, hR, hO⟩ := hh
  have okc := okp.call hO
  cases e with
  | returned v => simp only; rw [hdst]; exact k v h' Lo hO.le hR _ _ (s.put hd v okc)
  | panicked ch => exact ⟨S, h', Lo ++ Lr, s.with okc, kp ch h' Lo hO.le hR⟩
  | outgrown => exact absurd hR (ko h' Lo)

theorem JL.call_ {args : List Value} {os : List Operand} {ts : Array TypeId} (hF : callT f.P F = true) (ha : evl S os = some args) (c : Fn f.P F args h Li R) (p : Parts Li L Lr) (hd : Nat.blt d f.m = true) (ko : ∀ h' Lo, ¬ R .outgrown h' Lo)
    (kp : ∀ ch h' Lo, h.le h' → R (.panicked ch) h' Lo → f.p ch S h' (Lo ++ Lr))
    (k : ∀ v h' Lo, h.le h' → R (.returned v) h' Lo → JL f ops n x rest ((d, v) :: S) h' (Lo ++ Lr)) :
    JL f ops n x (⟨some d, .call { callee := .value (.func F), args := os.toArray, argTypes := ts }, ty, pos, af, none⟩ :: rest) S h L := fun a w s => by
  refine wpList_enter hF (by simp [Region.wanted]) ?_ c p s rfl hd ko kp k
  have hm : os.toArray.map a.eval = args.toArray := by simp [evl_spec s ha]
  simp [execOp, resolve, hm, Act.eval, Deferred.ofValue, invoke, run_call hF]
/-- A call that returns. -/
theorem JL.call {R : Value → Part → List Ent → Prop} {args : List Value} {os : List Operand} {ts : Array TypeId} (hF : callT f.P F = true) (ha : evl S os = some args) (c : Fn f.P F args h Li (Rets R)) (p : Parts Li L Lr) (hd : Nat.blt d f.m = true)
    (k : ∀ v h' Lo, h.le h' → R v h' Lo → JL f ops n x rest ((d, v) :: S) h' (Lo ++ Lr)) :
    JL f ops n x (⟨some d, .call { callee := .value (.func F), args := os.toArray, argTypes := ts }, ty, pos, af, none⟩ :: rest) S h L :=
  JL.call_ hF ha c p hd (fun _ _ ⟨_, hh, _⟩ => by cases hh) (fun _ _ _ _ ⟨_, hh, _⟩ => by cases hh) (fun v h' Lo hle ⟨_, hh, hR⟩ => by cases hh; exact k v h' Lo hle hR)
/-- The same behind a guard that says yes. -/
theorem JL.callg {R : Value → Part → List Ent → Prop} {args : List Value} {os : List Operand} {ts : Array TypeId} {j dj : Nat} {b : Bool} (hj : (ops[j]?).bind (·.dst) = some dj) (hs : look S dj = some (.bool b)) (hF : callT f.P F = true) (ha : evl S os = some args) (c : Fn f.P F args h Li (Rets R)) (p : Parts Li L Lr) (hd : Nat.blt d f.m = true)
    (k : ∀ v h' Lo, h.le h' → R v h' Lo → JL f ops n x rest ((d, v) :: S) h' (Lo ++ Lr)) :
    JL f ops n x (⟨some d, .call { callee := .value (.func F), args := os.toArray, argTypes := ts }, ty, pos, af, some (j, b)⟩ :: rest) S h L := fun a w s => by
  refine wpList_enter hF (by simp [Region.wanted, yielded_of s hj hs]) ?_ c p s rfl hd (fun _ _ ⟨_, hh, _⟩ => by cases hh) (fun _ _ _ _ ⟨_, hh, _⟩ => by cases hh) (fun v h' Lo hle ⟨_, hh, hR⟩ => by cases hh; exact k v h' Lo hle hR)
  have hm : os.toArray.map a.eval = args.toArray := by simp [evl_spec s ha]
  simp [execOp, resolve, hm, Act.eval, Deferred.ofValue, invoke, run_call hF]
/-- A call through a function value that the text has made. -/
theorem JL.callv {args : List Value} {os : List Operand} {ts : Array TypeId} {fo : Operand} {cap : Array Value} (hF : callT f.P F = true) (hf : ev S fo = some (.func (.func F) #[] cap)) (ha : evl S os = some args) (c : Fn f.P F (args ++ cap.toList) h Li R) (p : Parts Li L Lr) (hd : Nat.blt d f.m = true) (ko : ∀ h' Lo, ¬ R .outgrown h' Lo)
    (kp : ∀ ch h' Lo, h.le h' → R (.panicked ch) h' Lo → f.p ch S h' (Lo ++ Lr))
    (k : ∀ v h' Lo, h.le h' → R (.returned v) h' Lo → JL f ops n x rest ((d, v) :: S) h' (Lo ++ Lr)) :
    JL f ops n x (⟨some d, .call { callee := .value fo, args := os.toArray, argTypes := ts }, ty, pos, af, none⟩ :: rest) S h L := fun a w s => by
  refine wpList_enter hF (by simp [Region.wanted]) ?_ c p s rfl hd ko kp k
  have hm : os.toArray.map a.eval = args.toArray := by simp [evl_spec s ha]
  have he : (args ++ cap.toList).toArray = args.toArray ++ cap := by simp
  rw [he]
  simp [execOp, resolve, hm, s.eval hf, Deferred.ofValue, invoke, run_call hF]

theorem Ok.ext {e : Env} {w w' : World} (k : Ok e h L w) (h1 : w'.os = w.os) (h2 : w'.tape = w.tape) (h3 : w'.output = w.output) (h4 : w.heap.size ≤ w'.heap.size) (h5 : ∀ b, b < w.heap.size → w'.heap[b]? = w.heap[b]?) : Ok e h L w' :=
  ⟨h1.trans k.os, h2.trans k.tape, h3.trans k.output, Nat.le_trans k.size h4, fun b hb hm => (h5 b (Nat.lt_of_lt_of_le hb k.size)).trans (k.old b hb hm),
    fun b c hc => by obtain ⟨t, fr, he⟩ := k.sub b c hc; exact ⟨t, fr, by rw [h5 b (k.sub.lt hc)]; exact he⟩, k.le, k.fresh,
    fun y hy => Ent.keep (k.own y hy) fun b hb => h5 b (Ent.lt (k.own y hy) hb), k.key, k.nodup⟩
/-- In a region that draws its order: a call whose one value is known; what else it may have made is let go. -/
theorem JQ.call {args : List Value} {os : List Operand} {ts : Array TypeId} {v : Value} (hF : callT f.P F = true) (ha : evl S os = some args) (c : Fn f.P F args h [] (Rets fun u _ _ => u = v)) (hd : Nat.blt d f.m = true)
    (k : JQ f ops n rest ((d, v) :: S) h L) : JQ f ops n (⟨some d, .call { callee := .value (.func F), args := os.toArray, argTypes := ts }, ty, pos, af, none⟩ :: rest) S h L := fun a w s => by
  have hm : os.toArray.map a.eval = args.toArray := by simp [evl_spec s ha]
  unfold wpQuiet
  rw [if_pos (by simp [Region.wanted])]
  refine ⟨v, fun w' hw' => ?_, k _ w (s.put hd v s.ok)⟩
  simp only [Oper.quietAt]
  have hr : (execOp a.eval ⟨some d, .call { callee := .value (.func F), args := os.toArray, argTypes := ts }, ty, pos, af, none⟩).run f.P w' = .ok (.enter F args.toArray) w' := by
    simp [execOp, resolve, hm, Act.eval, Deferred.ofValue, invoke, run_call hF]
  rw [hr]
  refine ⟨rfl, (c w' (Ok.enter (Li := []) (Lr := L) (by simpa using hw'))).mono fun e w'' hh => ?_⟩
  obtain ⟨h', Lo, ⟨u, he, hu⟩, hO⟩ := hh
  exact ⟨by rw [he, hu], hw'.ext hO.os hO.tape hO.output hO.size fun b hb => hO.old b hb (by simp [keys])⟩
theorem JQ.callg {j dj : Nat} {b : Bool} {args : List Value} {os : List Operand} {ts : Array TypeId} {v : Value} (hj : (ops[j]?).bind (·.dst) = some dj) (hs : look S dj = some (.bool b)) (hF : callT f.P F = true) (ha : evl S os = some args) (c : Fn f.P F args h [] (Rets fun u _ _ => u = v)) (hd : Nat.blt d f.m = true)
    (k : JQ f ops n rest ((d, v) :: S) h L) : JQ f ops n (⟨some d, .call { callee := .value (.func F), args := os.toArray, argTypes := ts }, ty, pos, af, some (j, b)⟩ :: rest) S h L := fun a w s => by
  have hm : os.toArray.map a.eval = args.toArray := by simp [evl_spec s ha]
  unfold wpQuiet
  rw [if_pos (by simp [Region.wanted, yielded_of s hj hs])]
  refine ⟨v, fun w' hw' => ?_, k _ w (s.put hd v s.ok)⟩
  simp only [Oper.quietAt]
  have hr : (execOp a.eval ⟨some d, .call { callee := .value (.func F), args := os.toArray, argTypes := ts }, ty, pos, af, some (j, b)⟩).run f.P w' = .ok (.enter F args.toArray) w' := by
    simp [execOp, resolve, hm, Act.eval, Deferred.ofValue, invoke, run_call hF]
  rw [hr]
  refine ⟨rfl, (c w' (Ok.enter (Li := []) (Lr := L) (by simpa using hw'))).mono fun e w'' hh => ?_⟩
  obtain ⟨h', Lo, ⟨u, he, hu⟩, hO⟩ := hh
  exact ⟨by rw [he, hu], hw'.ext hO.os hO.tape hO.output hO.size fun b hb => hO.old b hb (by simp [keys])⟩
end

/-! ## panics -/
section
variable {f : Fr} {n : Post} {x : Nat → Post} {S : Sig} {h : Part} {L L' : List Ent} {ops : Array Oper} {rest : List Oper}
variable {ty : TypeId} {pos : String} {af : Array Edge} {d F : Nat} {xo : Operand}
theorem JL.panic {t : TypeId} {v : Value} (hx : ev S xo = some (.iface t v)) (k : f.p [{ v := .iface t v, recovered := false }] S h L) : JL f ops n x (⟨none, .panic xo, ty, pos, af, none⟩ :: rest) S h L := fun a w s => by
  unfold wpList
  rw [if_pos (by simp [Region.wanted])]
  refine .inl ?_
  have hr : (execOp a.eval ⟨none, .panic xo, ty, pos, af, none⟩).run f.P w = .halt (.panic (.iface t v)) w := by simp [execOp, s.eval hx, Instr.panic]
  simp only [Oper.wp, hr, Oper.upon]
  exact ⟨S, h, L, s, k⟩
/-- 'fail(ok, e)': a function that panics unless ok. -/
def FailR (ok : Bool) (v : Value) (bf t : Nat) (cs : List Value) : Ending → Part → List Ent → Prop := fun e _ Lo =>
  (ok = true ∧ e = .returned (.tuple #[]) ∧ Lo = [.blk bf t cs]) ∨ (ok = false ∧ e = .panicked [{ v := v, recovered := false }] ∧ Lo = [.blk bf t cs])
theorem JL.fail {ok : Bool} {v : Value} {bf t : Nat} {cs : List Value} {args : List Value} {os : List Operand} {ts : Array TypeId} {fo : Operand} {cap : Array Value} (hF : callT f.P F = true) (hf : ev S fo = some (.func (.func F) #[] cap)) (ha : evl S os = some args)
    (c : Fn f.P F (args ++ cap.toList) h [.blk bf t cs] (FailR ok v bf t cs)) (u : Del (.blk bf t cs) L L') (hd : Nat.blt d f.m = true)
    (k2 : ok = false → ∀ h', h.le h' → f.p [{ v := v, recovered := false }] S h' (.blk bf t cs :: L'))
    (k1 : ok = true → ∀ h', h.le h' → JL f ops n x rest ((d, .tuple #[]) :: S) h' (.blk bf t cs :: L')) :
    JL f ops n x (⟨some d, .call { callee := .value fo, args := os.toArray, argTypes := ts }, ty, pos, af, none⟩ :: rest) S h L :=
  JL.callv hF hf ha c (.cons u .nil) hd (fun h' Lo hh => by rcases hh with ⟨_, hh, _⟩ | ⟨_, hh, _⟩ <;> cases hh)
    (fun ch h' Lo hle hh => by
      rcases hh with ⟨_, hh, _⟩ | ⟨h1, hh, h3⟩
      · cases hh
      · cases hh; subst h3; exact k2 h1 h' hle)
    (fun v' h' Lo hle hh => by
      rcases hh with ⟨h1, hh, h3⟩ | ⟨_, hh, _⟩
      · cases hh; subst h3; exact k1 h1 h' hle
      · cases hh)
end

/-! ## a function's proof -/
def argSig : Nat → List Value → Sig
  | _, [] => []
  | i, v :: r => (i, v) :: argSig (i + 1) r
theorem argSig_look : ∀ (args : List Value) (i s : Nat) (v : Value), look (argSig i args) s = some v → i ≤ s ∧ args[s - i]? = some v
  | [], i, s, v, hh => by simp [argSig, look] at hh
  | u :: r, i, s, v, hh => by
    simp only [argSig, look] at hh
    cases hb : Nat.beq i s with
    | true =>
      have : i = s := Nat.eq_of_beq_eq_true hb
      subst this
      simp only [hb, cond_true, Option.some.injEq] at hh
      simp [hh]
    | false =>
      have : i ≠ s := Nat.ne_of_beq_eq_false hb
      simp only [hb, cond_false] at hh
      obtain ⟨h1, h2⟩ := argSig_look r (i + 1) s v hh
      refine ⟨by omega, ?_⟩
      rw [show s - i = (s - (i + 1)) + 1 by omega]
      simpa using h2

/-- What a function hands back, read off its result variables. -/
def RetV (P : Program) (e : Env) (m : Nat) (fn : Func) (S : Sig) (h : Part) (L : List Ent) (v : Value) : Prop := ∀ a w, Sat e m S h L a w → (results fn a.tmps).run P w = .ok v w
/-- The state at a return. -/
def RetPost (P : Program) (e : Env) (m : Nat) (fn : Func) (R : Ending → Part → List Ent → Prop) : Post := fun S h L => ∃ v Lo Lr, RetV P e m fn S h L v ∧ Parts Lo L Lr ∧ R (.returned v) h Lo
def PanPost (R : Ending → Part → List Ent → Prop) : List PanicEntry → Post := fun c _ h L => ∃ Lo Lr, Parts Lo L Lr ∧ R (.panicked c) h Lo
def NoExit : Nat → Post := fun _ _ _ _ => False

theorem Fn.intro {P : Program} {F m : Nat} {fn : Func} {c : Code} {args : List Value} {h : Part} {Li : List Ent} {R : Ending → Part → List Ent → Prop} (hf : P.funcs[F]? = some fn) (hb : fn.body = some c) (hm : fn.ntmps = m) (hl : Nat.ble args.length m = true)
    (k : ∀ e : Env, e.ds = [] → J ⟨P, e, m, RetPost P e m fn R, PanPost R⟩ c (RetPost P e m fn R) NoExit (argSig 0 args) h Li) : Fn P F args h Li R := fun w hw => by
  have hl' : args.length ≤ m := by simpa using hl
  refine calls_of_wp hf hb ?_
  have hs : Sat ⟨w, (· ∈ keys Li), h, []⟩ m (argSig 0 args) h Li ⟨args.toArray ++ Array.replicate (fn.ntmps - args.toArray.size) undef, []⟩ w := by
    refine ⟨by simp [hm]; omega, fun s v hv => ?_, rfl, hw⟩
    obtain ⟨_, h2⟩ := argSig_look _ _ _ _ hv
    have hlt := (List.getElem?_eq_some_iff.1 h2).1
    simp only [Nat.sub_zero] at h2 hlt
    rw [Array.getElem?_append_left (by simpa using hlt)]
    simpa using h2
  refine wpm (k _ rfl _ w hs) (fun ex a' w' q => ?_)
  cases ex with
  | normal =>
    obtain ⟨S, h', L', s', v, Lo, Lr, hv, hp, hR⟩ := q
    exact ⟨s'.ds, v, hv a' w' s', h', Lo, hR, hp.ok _ s'.ok⟩
  | ret =>
    obtain ⟨S, h', L', s', v, Lo, Lr, hv, hp, hR⟩ := q
    exact ⟨s'.ds, v, hv a' w' s', h', Lo, hR, hp.ok _ s'.ok⟩
  | exit i => obtain ⟨_, _, _, _, hh⟩ := q; exact hh
  | panic ch =>
    obtain ⟨S, h', L', s', Lo, Lr, hp, hR⟩ := q
    exact ⟨s'.ds, h', Lo, hR, hp.ok _ s'.ok⟩
  | goto l => exact False.elim q
  | outgrown => exact False.elim q

section
variable {P : Program} {e : Env} {m : Nat} {fn : Func} {S : Sig} {h : Part} {L : List Ent}
theorem RetV.one {t : Nat} {v : Value} (hr : fn.results = #[.tmp t]) (hv : look S t = some v) : RetV P e m fn S h L v := fun a w s => by
  rw [results_tmp hr]; simp [s.slot t v hv]
theorem RetV.two {t u : Nat} {v1 v2 : Value} (hr : fn.results = #[.tmp t, .tmp u]) (h1 : look S t = some v1) (h2 : look S u = some v2) : RetV P e m fn S h L (.tuple #[v1, v2]) := fun a w s => by
  rw [results_tmp2 hr]; simp [s.slot t v1 h1, s.slot u v2 h2]
theorem RetV.three {t u r : Nat} {v1 v2 v3 : Value} (hr : fn.results = #[.tmp t, .tmp u, .tmp r]) (h1 : look S t = some v1) (h2 : look S u = some v2) (h3 : look S r = some v3) : RetV P e m fn S h L (.tuple #[v1, v2, v3]) := fun a w s => by
  simp [results, hr, s.slot t v1 h1, s.slot u v2 h2, s.slot r v3 h3]
theorem RetV.four {t u r q : Nat} {v1 v2 v3 v4 : Value} (hr : fn.results = #[.tmp t, .tmp u, .tmp r, .tmp q]) (h1 : look S t = some v1) (h2 : look S u = some v2) (h3 : look S r = some v3) (h4 : look S q = some v4) : RetV P e m fn S h L (.tuple #[v1, v2, v3, v4]) := fun a w s => by
  simp [results, hr, s.slot t v1 h1, s.slot u v2 h2, s.slot r v3 h3, s.slot q v4 h4]
theorem RetV.none_ (hr : fn.results = #[]) : RetV P e m fn S h L (.tuple #[]) := fun a w s => results_none hr _ _ _
end

/-! ## the two commonest contracts -/
/-- It hands back v; nothing else comes of it. -/
def Pure (P : Program) (F : Nat) (args : List Value) (h : Part) (v : Value) : Prop := Fn P F args h [] (Rets fun u h' Lo => u = v ∧ h' = h ∧ Lo = [])
/-- It hands back a value of which R is known, in a part that has grown; it gives nothing that may be written. -/
def FnR (P : Program) (F : Nat) (args : List Value) (h : Part) (R : Value → Part → Prop) : Prop := Fn P F args h [] (Rets fun u h' Lo => Lo = [] ∧ R u h')
theorem Pure.of {P : Program} {F : Nat} {args : List Value} {h : Part} {v : Value} {R : Value → Part → List Ent → Prop} (c : Fn P F args h [] (Rets R)) (hr : ∀ u h' Lo, R u h' Lo → u = v) : Pure P F args h v := fun w hw =>
  (c w hw).mono fun e w' ⟨h', Lo, ⟨u, he, hu⟩, hO⟩ => ⟨h, [], ⟨u, he, hr _ _ _ hu, rfl, rfl⟩, (hO.drop (List.nil_sublist _)).shrink hO.le (Part.le.refl _)⟩
theorem FnR.mono {P : Program} {F : Nat} {args : List Value} {h : Part} {R R' : Value → Part → Prop} (c : FnR P F args h R) (hr : ∀ u h', h.le h' → R u h' → R' u h') : FnR P F args h R' :=
  Fn.mono c fun _ _ _ hle ⟨u, he, hL, hu⟩ => ⟨u, he, hL, hr _ _ hle hu⟩
theorem Pure.cast {P : Program} {F : Nat} {args : List Value} {h : Part} {v v' : Value} (c : Pure P F args h v) (hv : v = v') : Pure P F args h v' := hv ▸ c

section
variable {f : Fr} {n : Post} {x : Nat → Post} {S : Sig} {h : Part} {L : List Ent} {ops : Array Oper} {rest : List Oper}
variable {ty : TypeId} {pos : String} {af : Array Edge} {d F : Nat} {args : List Value} {os : List Operand} {ts : Array TypeId} {v : Value} {R : Value → Part → Prop}
theorem JL.callP (hF : callT f.P F = true) (ha : evl S os = some args) (c : Pure f.P F args h v) (hd : Nat.blt d f.m = true) (k : JL f ops n x rest ((d, v) :: S) h L) :
    JL f ops n x (⟨some d, .call { callee := .value (.func F), args := os.toArray, argTypes := ts }, ty, pos, af, none⟩ :: rest) S h L :=
  JL.call hF ha c .nil hd fun u h' Lo _ ⟨h1, h2, h3⟩ => by subst h1 h2 h3; exact k
theorem JL.callPg {j dj : Nat} {b : Bool} (hj : (ops[j]?).bind (·.dst) = some dj) (hs : look S dj = some (.bool b)) (hF : callT f.P F = true) (ha : evl S os = some args) (c : Pure f.P F args h v) (hd : Nat.blt d f.m = true) (k : JL f ops n x rest ((d, v) :: S) h L) :
    JL f ops n x (⟨some d, .call { callee := .value (.func F), args := os.toArray, argTypes := ts }, ty, pos, af, some (j, b)⟩ :: rest) S h L :=
  JL.callg hj hs hF ha c .nil hd fun u h' Lo _ ⟨h1, h2, h3⟩ => by subst h1 h2 h3; exact k
theorem JL.callR (hF : callT f.P F = true) (ha : evl S os = some args) (c : FnR f.P F args h R) (hd : Nat.blt d f.m = true) (k : ∀ v h', h.le h' → R v h' → JL f ops n x rest ((d, v) :: S) h' L) :
    JL f ops n x (⟨some d, .call { callee := .value (.func F), args := os.toArray, argTypes := ts }, ty, pos, af, none⟩ :: rest) S h L :=
  JL.call hF ha c .nil hd fun u h' Lo hle ⟨h1, h2⟩ => by subst h1; exact k u h' hle h2
theorem JL.callRg {j dj : Nat} {b : Bool} (hj : (ops[j]?).bind (·.dst) = some dj) (hs : look S dj = some (.bool b)) (hF : callT f.P F = true) (ha : evl S os = some args) (c : FnR f.P F args h R) (hd : Nat.blt d f.m = true) (k : ∀ v h', h.le h' → R v h' → JL f ops n x rest ((d, v) :: S) h' L) :
    JL f ops n x (⟨some d, .call { callee := .value (.func F), args := os.toArray, argTypes := ts }, ty, pos, af, some (j, b)⟩ :: rest) S h L :=
  JL.callg hj hs hF ha c .nil hd fun u h' Lo hle ⟨h1, h2⟩ => by subst h1; exact k u h' hle h2
theorem JQ.callP (hF : callT f.P F = true) (ha : evl S os = some args) (c : Pure f.P F args h v) (hd : Nat.blt d f.m = true) (k : JQ f ops n rest ((d, v) :: S) h L) :
    JQ f ops n (⟨some d, .call { callee := .value (.func F), args := os.toArray, argTypes := ts }, ty, pos, af, none⟩ :: rest) S h L :=
  JQ.call hF ha (Fn.mono c fun _ _ _ _ ⟨u, he, hu, _⟩ => ⟨u, he, hu⟩) hd k
theorem JQ.callPg {j dj : Nat} {b : Bool} (hj : (ops[j]?).bind (·.dst) = some dj) (hs : look S dj = some (.bool b)) (hF : callT f.P F = true) (ha : evl S os = some args) (c : Pure f.P F args h v) (hd : Nat.blt d f.m = true) (k : JQ f ops n rest ((d, v) :: S) h L) :
    JQ f ops n (⟨some d, .call { callee := .value (.func F), args := os.toArray, argTypes := ts }, ty, pos, af, some (j, b)⟩ :: rest) S h L :=
  JQ.callg hj hs hF ha (Fn.mono c fun _ _ _ _ ⟨u, he, hu, _⟩ => ⟨u, he, hu⟩) hd k

variable {P : Program} {e : Env} {m : Nat} {fn : Func}
/-- The ends of such functions. -/
theorem J.retP {P : Program} {fn : Func} {p : List PanicEntry → Post} {u : Value} (hv : RetV P e m fn S h L u) (he : u = v) {h0 : Part} (hh : h = h0) :
    J ⟨P, e, m, RetPost P e m fn (Rets fun u h' Lo => u = v ∧ h' = h0 ∧ Lo = []), p⟩ .ret n x S h L :=
  J.ret ⟨u, [], L, hv, .nil, u, rfl, he, hh, rfl⟩
theorem J.retR {P : Program} {fn : Func} {p : List PanicEntry → Post} {u : Value} (hv : RetV P e m fn S h L u) (hR : R u h) :
    J ⟨P, e, m, RetPost P e m fn (Rets fun u h' Lo => Lo = [] ∧ R u h'), p⟩ .ret n x S h L :=
  J.ret ⟨u, [], L, hv, .nil, u, rfl, rfl, hR⟩
end
end Go.Proofs.YtmngjbefnloljaaDoor
