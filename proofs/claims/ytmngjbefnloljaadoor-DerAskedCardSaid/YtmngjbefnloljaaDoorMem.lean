/- Data in memory: slices of whatever; the operations that read them; the operations that make and write memory of the call's own. -/
import Derived.Test.YtmngjbefnloljaaDoorOpsV
set_option linter.unusedSimpArgs false
set_option linter.unusedVariables false
set_option linter.constructorNameAsVariable false
namespace Go.Proofs.YtmngjbefnloljaaDoor
open Go Go.RowKit

/-! ## Readings -/
abbrev Rep (α : Type) := Part → List Value → α → Prop
class Mono {α : Type} (R : Rep α) : Prop where
  mono : ∀ {h h' : Part} {cs : List Value} {x : α}, h.le h' → R h cs x → R h' cs x
  one : ∀ {h : Part} {cs : List Value} {x : α}, R h cs x → ∀ u ∈ cs, u.oneCell' = true

/-- From cell o of block b on lies x. -/
def EltR {α : Type} (R : Rep α) (sz : Nat) (h : Part) (b o : Nat) (x : α) : Prop := ∃ c cs, h b = some c ∧ cs.length = sz ∧ (∀ j, j < sz → c[o + j]? = cs[j]?) ∧ R h cs x
/-- The slice '.slice a l.length c' holds l. -/
structure SlR {α : Type} (R : Rep α) (sz : Nat) (h : Part) (a : Option Addr) (c : Nat) (l : List α) : Prop where
  len : l.length ≤ c
  cap : c ≤ maxLen
  big : l.length ≤ 140737488355328
  nil : a = none → c = 0
  elt : ∀ i x, l[i]? = some x → ∃ b o, a = some ⟨b, o, none⟩ ∧ EltR R sz h b (o + i * sz) x

section
variable {α : Type} {R : Rep α} {sz : Nat} {h h' : Part} {a : Option Addr} {c : Nat} {l : List α}
theorem EltR.mono [m : Mono R] {b o : Nat} {x : α} (k : EltR R sz h b o x) (hle : h.le h') : EltR R sz h' b o x := by
  obtain ⟨cc, cs, h1, h2, h3, h4⟩ := k
  exact ⟨cc, cs, hle _ _ h1, h2, h3, m.mono hle h4⟩
theorem SlR.mono [m : Mono R] (k : SlR R sz h a c l) (hle : h.le h') : SlR R sz h' a c l :=
  ⟨k.len, k.cap, k.big, k.nil, fun i x hx => by obtain ⟨b, o, h1, h2⟩ := k.elt i x hx; exact ⟨b, o, h1, h2.mono hle⟩⟩
theorem SlR.nil_ : SlR R sz h none 0 ([] : List α) := ⟨Nat.le_refl _, Nat.zero_le _, Nat.zero_le _, fun _ => rfl, fun i x hx => by simp at hx⟩
theorem SlR.le63 (k : SlR R sz h a c l) : l.length ≤ 9223372036854775807 := Nat.le_trans k.len k.cap
theorem SlR.take_drop (k : SlR R sz h a c l) {lo hi m : Nat} (h1 : lo ≤ hi) (h2 : hi ≤ l.length) (h3 : hi ≤ m) (h4 : m ≤ c) :
    SlR R sz h (if m = lo then a else a.map (·.add (lo * sz))) (m - lo) ((l.drop lo).take (hi - lo)) := by
  refine ⟨by simp; omega, by have := k.cap; omega, by have := k.big; simp; omega, fun hn => ?_, fun i x hx => ?_⟩
  · split at hn
    · have := k.nil hn; omega
    · rw [Option.map_eq_none_iff] at hn; have := k.nil hn; omega
  · have hi' : i < hi - lo := by
      rcases Nat.lt_or_ge i (hi - lo) with hlt | hge
      · exact hlt
      · rw [List.getElem?_eq_none (by simp; omega)] at hx; cases hx
    rw [List.getElem?_take, if_pos hi', List.getElem?_drop] at hx
    obtain ⟨b, o, rfl, he⟩ := k.elt _ x hx
    rw [if_neg (by omega)]
    refine ⟨b, o + lo * sz, by simp [Addr.add_lit], ?_⟩
    rw [Nat.add_mul] at he
    rwa [Nat.add_assoc]
end

def u8R : Rep UInt8 := fun _ cs x => cs = [.int .u8 (x.toNat : Int)]
def u32R : Rep UInt32 := fun _ cs x => cs = [.int .u32 (x.toNat : Int)]
def u64R : Rep UInt64 := fun _ cs x => cs = [.int .u64 (x.toNat : Int)]
def i64R : Rep Int := fun _ cs x => cs = [.int .i64 x]
def strR : Rep (List UInt8) := fun _ cs x => cs = [.string ⟨x.toArray⟩]
/-- A slice within a datum. -/
def slR {α : Type} (R : Rep α) (sz : Nat) : Rep (List α) := fun h cs l => ∃ a c, cs = [.slice a l.length c] ∧ SlR R sz h a c l
instance : Mono u8R := ⟨fun _ h => h, fun h u hu => by cases h; simp at hu; subst hu; rfl⟩
instance : Mono u32R := ⟨fun _ h => h, fun h u hu => by cases h; simp at hu; subst hu; rfl⟩
instance : Mono u64R := ⟨fun _ h => h, fun h u hu => by cases h; simp at hu; subst hu; rfl⟩
instance : Mono i64R := ⟨fun _ h => h, fun h u hu => by cases h; simp at hu; subst hu; rfl⟩
instance : Mono strR := ⟨fun _ h => h, fun h u hu => by cases h; simp at hu; subst hu; rfl⟩
instance {α : Type} {R : Rep α} {sz : Nat} [Mono R] : Mono (slR R sz) := ⟨fun hle ⟨a, c, h1, h2⟩ => ⟨a, c, h1, h2.mono hle⟩, fun ⟨_, _, h, _⟩ u hu => by cases h; simp at hu; subst hu; rfl⟩

/-! ## closed facts on types -/
def slT (P : Program) (T : Nat) : Option (Nat × Nat) :=
  match P.underlying T with
  | some (.slice e) => match P.info? e with
    | some i => some (e, i.size)
    | none => none
  | _ => none
theorem slT_spec {P : Program} {T e sz : Nat} (h : slT P T = some (e, sz)) : P.underlying T = some (.slice e) ∧ ∃ i, P.info? e = some i ∧ i.size = sz := by
  unfold slT at h
  split at h <;> try cases h
  rename_i e' hT
  split at h <;> cases h
  rename_i i hi
  exact ⟨hT, i, hi, rfl⟩
/-- None: no such type; some none: a variable of one cell; some (some n): n cells. -/
def aggT (P : Program) (T : Nat) : Option (Option Nat) :=
  match P.underlying T with
  | some (.struct _) | some (.array _ _) => match P.info? T with
    | some i => some (some i.size)
    | none => none
  | some _ => match P.info? T with
    | some i => if i.size = 1 then some none else none
    | none => none
  | none => none
theorem aggT_one {P : Program} {T : Nat} (h : aggT P T = some none) (w : World) : (isAgg T).run P w = .ok false w ∧ (sizeOf T).run P w = .ok 1 w := by
  unfold aggT at h
  split at h
  · split at h <;> cases h
  · split at h <;> cases h
  · rename_i d hd1 hd2 hd
    split at h <;> try cases h
    rename_i i hi
    split at h <;> cases h
    rename_i hsz
    refine ⟨?_, by simp [sizeOf, typeInfo, hi, hsz]⟩
    unfold isAgg
    rw [Sem.run_bind, run_underlying hd w]
    cases d <;> simp_all
  · cases h
theorem aggT_agg {P : Program} {T n : Nat} (h : aggT P T = some (some n)) (w : World) : (isAgg T).run P w = .ok true w ∧ (sizeOf T).run P w = .ok n w := by
  unfold aggT at h
  split at h
  · rename_i fs hT
    split at h <;> cases h
    rename_i i hi
    exact ⟨by unfold isAgg; rw [Sem.run_bind, run_underlying hT w]; simp, by simp [sizeOf, typeInfo, hi]⟩
  · rename_i k e hT
    split at h <;> cases h
    rename_i i hi
    exact ⟨by unfold isAgg; rw [Sem.run_bind, run_underlying hT w]; simp, by simp [sizeOf, typeInfo, hi]⟩
  · split at h <;> try cases h
    split at h <;> cases h
  · cases h
def zeroT (P : Program) (T : Nat) : Option (List Value) :=
  match P.info? T with
  | some i => match i.zero with
    | some z => some z.cells.toList
    | none => none
  | none => none

section
variable {f : Fr} {n : Post} {x : Nat → Post} {S : Sig} {h : Part} {L L' : List Ent} {ops : Array Oper} {rest : List Oper}
variable {ty : TypeId} {pos : String} {af : Array Edge} {d : Nat} {v : Value} {T : TypeId} {xo yo : Operand} {a : Option Addr} {c ln : Nat}

/-! ## Reading -/
theorem RunV.len {e sz : Nat} (hT : slT f.P T = some (e, sz)) (hx : ev S xo = some (.slice a ln c)) : RunV f S h L (.call { callee := .builtin .len, args := #[xo], argTypes := #[T] }) ty (.int .i64 (ln : Int)) := fun ac w s _ _ _ _ => by
  have hu := (slT_spec hT).1
  simp [execOp, resolve, s.eval hx, invoke, builtin, Builtin.len_, run_underlying hu, goInt]

theorem RunE.index {α : Type} {R : Rep α} {l : List α} {e sz m : Nat} {k : IntKind} {i : Int} (hT : slT f.P T = some (e, sz)) (hx : ev S xo = some (.slice a ln c)) (hy : ev S yo = some (.int k i)) (hi : i = (m : Int)) (hR : SlR R sz h a c l) (hlen : ln = l.length) (h1 : m < l.length) :
    RunE f S h L (.indexAddr T xo yo) ty (fun v => ∃ (b o : Nat) (hi : m < l.length), v = .pointer (some ⟨b, o, none⟩) ∧ EltR R sz h b o l[m]) := by
  subst hlen hi
  obtain ⟨hu, inf, hi, hs⟩ := slT_spec hT
  obtain ⟨b, o, rfl, he⟩ := hR.elt m l[m] (List.getElem?_eq_getElem _)
  refine ⟨.pointer (some ⟨b, o + m * sz, none⟩), fun ac w s _ _ _ _ => ?_, b, _, h1, rfl, he⟩
  have h0 : (0 : Int) ≤ m := by omega
  have h2 : (m : Int) < l.length := by omega
  simp [execOp, s.eval hx, s.eval hy, Instr.indexAt, run_underlying hu, asIntOf, sizeOf, typeInfo, hi, hs, h1, Addr.add_lit]

theorem run_load_part {w : World} (s : Sub h w) {b o : Nat} {cc : Array Value} {P : Program} (hb : h b = some cc) (hv : cc[o]? = some v) (m : Mode) : (load ⟨b, o, none⟩ m).run P w = .ok v w := by
  have := s.cell hb hv
  simp [load, Sem.run, this]

theorem RunE.load1 {α : Type} {R : Rep α} {e : α} {b o : Nat} (hT : aggT f.P T = some none) (hx : ev S xo = some (.pointer (some ⟨b, o, none⟩))) (hE : EltR R 1 h b o e) :
    RunE f S h L (.load T xo) ty (fun v => R h [v] e) := by
  obtain ⟨cc, cs, hb, hl, hj, hR⟩ := hE
  match cs, hl with
  | [v], _ =>
    refine ⟨v, fun ac w s _ _ _ _ => ?_, hR⟩
    have hc : cc[o]? = some v := by have := hj 0 (by omega); simpa using this
    simp [execOp, s.eval hx, Instr.loadAt, Instr.sureAddr, loadVar, (aggT_one hT w).1, load, Sem.run, s.ok.sub.cell hb hc]

theorem RunV.ld_u8 {y : UInt8} {b o : Nat} (hT : aggT f.P T = some none) (hx : ev S xo = some (.pointer (some ⟨b, o, none⟩))) (hE : EltR u8R 1 h b o y) : RunV f S h L (.load T xo) ty (.int .u8 (y.toNat : Int)) := by
  obtain ⟨v, hr, hv⟩ := RunE.load1 (f := f) (S := S) (L := L) (ty := ty) hT hx hE
  have e : v = .int .u8 (y.toNat : Int) := by unfold u8R at hv; injection hv
  rwa [← e]
theorem RunV.ld_u32 {y : UInt32} {b o : Nat} (hT : aggT f.P T = some none) (hx : ev S xo = some (.pointer (some ⟨b, o, none⟩))) (hE : EltR u32R 1 h b o y) : RunV f S h L (.load T xo) ty (.int .u32 (y.toNat : Int)) := by
  obtain ⟨v, hr, hv⟩ := RunE.load1 (f := f) (S := S) (L := L) (ty := ty) hT hx hE
  have e : v = .int .u32 (y.toNat : Int) := by unfold u32R at hv; injection hv
  rwa [← e]
theorem RunV.ld_u64 {y : UInt64} {b o : Nat} (hT : aggT f.P T = some none) (hx : ev S xo = some (.pointer (some ⟨b, o, none⟩))) (hE : EltR u64R 1 h b o y) : RunV f S h L (.load T xo) ty (.int .u64 (y.toNat : Int)) := by
  obtain ⟨v, hr, hv⟩ := RunE.load1 (f := f) (S := S) (L := L) (ty := ty) hT hx hE
  have e : v = .int .u64 (y.toNat : Int) := by unfold u64R at hv; injection hv
  rwa [← e]
theorem RunV.ld_i64 {y : Int} {b o : Nat} (hT : aggT f.P T = some none) (hx : ev S xo = some (.pointer (some ⟨b, o, none⟩))) (hE : EltR i64R 1 h b o y) : RunV f S h L (.load T xo) ty (.int .i64 y) := by
  obtain ⟨v, hr, hv⟩ := RunE.load1 (f := f) (S := S) (L := L) (ty := ty) hT hx hE
  have e : v = .int .i64 y := by unfold i64R at hv; injection hv
  rwa [← e]
theorem RunV.ld_str {y : List UInt8} {b o : Nat} (hT : aggT f.P T = some none) (hx : ev S xo = some (.pointer (some ⟨b, o, none⟩))) (hE : EltR strR 1 h b o y) : RunV f S h L (.load T xo) ty (.string ⟨y.toArray⟩) := by
  obtain ⟨v, hr, hv⟩ := RunE.load1 (f := f) (S := S) (L := L) (ty := ty) hT hx hE
  have e : v = .string ⟨y.toArray⟩ := by unfold strR at hv; injection hv
  rwa [← e]

theorem RunE.loadA {α : Type} {R : Rep α} {e : α} {b o sz : Nat} (hT : aggT f.P T = some (some sz)) (hx : ev S xo = some (.pointer (some ⟨b, o, none⟩))) (hE : EltR R sz h b o e) :
    RunE f S h L (.load T xo) ty (fun v => ∃ cs, v = .agg (List.toArray cs) ∧ R h cs e) := by
  obtain ⟨cc, cs, hb, hl, hj, hR⟩ := hE
  refine ⟨.agg cs.toArray, fun ac w s _ _ _ _ => ?_, cs, rfl, hR⟩
  have hld : (loadCells ⟨b, o, none⟩ cs.length).run f.P w = .ok cs.toArray w := run_loadCells_list (P := f.P) w ⟨b, o, none⟩ cs (fun j u hu => by
    have hlt : j < sz := by rw [← hl]; exact (List.getElem?_eq_some_iff.1 hu).1
    rw [Addr.add_lit]
    exact s.ok.sub.cell hb ((hj j hlt).trans hu))
  rw [hl] at hld
  simp [execOp, s.eval hx, Instr.loadAt, Instr.sureAddr, loadVar, (aggT_agg hT w).1, (aggT_agg hT w).2, hld]

/-- One field of what lies there. -/
theorem RunE.loadF {α : Type} {R : Rep α} {e : α} {b o sz i : Nat} (hT : aggT f.P T = some none) (hx : ev S xo = some (.pointer (some ⟨b, o + i, none⟩))) (hE : EltR R sz h b o e) (hi : i < sz) :
    RunE f S h L (.load T xo) ty (fun v => ∃ cs : List Value, cs[i]? = some v ∧ R h cs e) := by
  obtain ⟨cc, cs, hb, hl, hj, hR⟩ := hE
  refine ⟨cs[i], fun ac w s _ _ _ _ => ?_, cs, List.getElem?_eq_getElem _, hR⟩
  have hc : cc[o + i]? = some cs[i] := (hj i hi).trans (List.getElem?_eq_getElem _)
  simp [execOp, s.eval hx, Instr.loadAt, Instr.sureAddr, loadVar, (aggT_one hT w).1, load, Sem.run, s.ok.sub.cell hb hc]

theorem blk_cell {w : World} {b i : Nat} {t : TypeId} {cs : List Value} (hk : Ok f.e h L w) (hm : Ent.blk b t cs ∈ L) : w.cell? ⟨b, i, none⟩ = cs[i]? := by
  have : w.heap[b]? = some (.cells cs.toArray t (0, 0)) := hk.own _ hm
  rw [cell_of_row w b i _ _ _ this]
  simp
theorem RunV.own1 {b o : Nat} {t : TypeId} {cs : List Value} (hT : aggT f.P T = some none) (hx : ev S xo = some (.pointer (some ⟨b, o, none⟩))) (hm : Ent.blk b t cs ∈ L) (hv : cs[o]? = some v) : RunV f S h L (.load T xo) ty v := fun ac w s _ _ _ _ => by
  have hc : w.cell? ⟨b, o, none⟩ = some v := (blk_cell s.ok hm).trans hv
  simp [execOp, s.eval hx, Instr.loadAt, Instr.sureAddr, loadVar, (aggT_one hT w).1, load, Sem.run, hc]
theorem RunV.ownA {b sz : Nat} {t : TypeId} {cs : List Value} (hT : aggT f.P T = some (some sz)) (hx : ev S xo = some (.pointer (some ⟨b, 0, none⟩))) (hm : Ent.blk b t cs ∈ L) (hl : cs.length = sz) : RunV f S h L (.load T xo) ty (.agg cs.toArray) := fun ac w s _ _ _ _ => by
  subst hl
  have hld : (loadCells ⟨b, 0, none⟩ cs.length).run f.P w = .ok cs.toArray w := run_loadCells_list (P := f.P) w ⟨b, 0, none⟩ cs (fun j u hu => by
    rw [Addr.add_lit, blk_cell s.ok hm]
    simpa using hu)
  simp [execOp, s.eval hx, Instr.loadAt, Instr.sureAddr, loadVar, (aggT_agg hT w).1, (aggT_agg hT w).2, hld]

/-! ## slices of slices -/
theorem RunE.cutI_lh {α : Type} {R : Rep α} {l : List α} {e sz : Nat} {k k' : IntKind} {i j : Int} {lo hi : Operand} (hT : slT f.P T = some (e, sz)) (hx : ev S xo = some (.slice a ln c)) (hl : ev S lo = some (.int k i)) (hh : ev S hi = some (.int k' j)) (hR : SlR R sz h a c l) (hlen : ln = l.length) (h0 : 0 ≤ i) (h1 : i ≤ j) (h2 : j ≤ l.length) :
    RunE f S h L (.slice T xo (some lo) (some hi) none) ty (fun v => ∃ a' c', v = .slice a' ((l.drop i.toNat).take (j.toNat - i.toNat)).length c' ∧ SlR R sz h a' c' ((l.drop i.toNat).take (j.toNat - i.toNat))) := by
  subst hlen
  obtain ⟨hu, inf, hi', hs⟩ := slT_spec hT
  have hc := hR.len
  refine ⟨_, fun ac w s _ _ _ _ => ?_, _, _, rfl, hR.take_drop (lo := i.toNat) (hi := j.toNat) (m := c) (by omega) (by omega) (by omega) (Nat.le_refl _)⟩
  have e1 : ((l.drop i.toNat).take (j.toNat - i.toNat)).length = j.toNat - i.toNat := by simp; omega
  rw [e1]
  have hj0 : (0 : Int) ≤ j := by omega
  have hjc : j ≤ (c : Int) := by omega
  have ej : (j.toNat : Int) = j := Int.toNat_of_nonneg hj0
  simp [execOp, s.eval hx, s.eval hl, s.eval hh, Instr.sliceAt, Instr.slice, run_underlying hu, Instr.sliceBounds, Instr.sliceBound, asIntOf, sizeOf, typeInfo, hi', hs, h0, h1, hj0, hjc, ej]
theorem RunE.cutI_h {α : Type} {R : Rep α} {l : List α} {e sz : Nat} {k' : IntKind} {j : Int} {hi : Operand} (hT : slT f.P T = some (e, sz)) (hx : ev S xo = some (.slice a ln c)) (hh : ev S hi = some (.int k' j)) (hR : SlR R sz h a c l) (hlen : ln = l.length) (h1 : 0 ≤ j) (h2 : j ≤ l.length) :
    RunE f S h L (.slice T xo none (some hi) none) ty (fun v => ∃ a' c', v = .slice a' (l.take j.toNat).length c' ∧ SlR R sz h a' c' (l.take j.toNat)) := by
  subst hlen
  obtain ⟨hu, inf, hi', hs⟩ := slT_spec hT
  have hc := hR.len
  have := hR.take_drop (lo := 0) (hi := j.toNat) (m := c) (by omega) (by omega) (by omega) (Nat.le_refl _)
  simp only [List.drop_zero, Nat.sub_zero] at this
  refine ⟨_, fun ac w s _ _ _ _ => ?_, _, _, rfl, this⟩
  have e1 : (l.take j.toNat).length = j.toNat := by simp; omega
  rw [e1]
  have hjc : j ≤ (c : Int) := by omega
  simp [execOp, s.eval hx, s.eval hh, Instr.sliceAt, Instr.slice, run_underlying hu, Instr.sliceBounds, Instr.sliceBound, asIntOf, sizeOf, typeInfo, hi', hs, h1, hjc]
theorem RunE.cutI_l {α : Type} {R : Rep α} {l : List α} {e sz : Nat} {k : IntKind} {i : Int} {lo : Operand} (hT : slT f.P T = some (e, sz)) (hx : ev S xo = some (.slice a ln c)) (hl : ev S lo = some (.int k i)) (hR : SlR R sz h a c l) (hlen : ln = l.length) (h0 : 0 ≤ i) (h1 : i ≤ l.length) :
    RunE f S h L (.slice T xo (some lo) none none) ty (fun v => ∃ a' c', v = .slice a' (l.drop i.toNat).length c' ∧ SlR R sz h a' c' (l.drop i.toNat)) := by
  subst hlen
  obtain ⟨hu, inf, hi', hs⟩ := slT_spec hT
  have hc := hR.len
  have := hR.take_drop (lo := i.toNat) (hi := l.length) (m := c) (by omega) (by omega) (by omega) (Nat.le_refl _)
  rw [List.take_of_length_le (by simp)] at this
  refine ⟨_, fun ac w s _ _ _ _ => ?_, _, _, rfl, this⟩
  have e1 : (l.drop i.toNat).length = l.length - i.toNat := by simp
  rw [e1]
  simp [execOp, s.eval hx, s.eval hl, Instr.sliceAt, Instr.slice, run_underlying hu, Instr.sliceBounds, Instr.sliceBound, asIntOf, sizeOf, typeInfo, hi', hs, h0, h1]
/-- 'x[:j:m]' -/
theorem RunE.cutI_hm {α : Type} {R : Rep α} {l : List α} {e sz : Nat} {k k' : IntKind} {j m : Int} {hi mx : Operand} (hT : slT f.P T = some (e, sz)) (hx : ev S xo = some (.slice a ln c)) (hh : ev S hi = some (.int k' j)) (hm : ev S mx = some (.int k m)) (hR : SlR R sz h a c l) (hlen : ln = l.length) (h1 : 0 ≤ j) (h2 : j ≤ l.length) (h3 : j ≤ m) (h4 : m ≤ c) :
    RunE f S h L (.slice T xo none (some hi) (some mx)) ty (fun v => ∃ a', v = .slice a' (l.take j.toNat).length m.toNat ∧ SlR R sz h a' m.toNat (l.take j.toNat)) := by
  subst hlen
  obtain ⟨hu, inf, hi', hs⟩ := slT_spec hT
  have hc := hR.len
  have := hR.take_drop (lo := 0) (hi := j.toNat) (m := m.toNat) (by omega) (by omega) (by omega) (by omega)
  simp only [List.drop_zero, Nat.sub_zero] at this
  refine ⟨_, fun ac w s _ _ _ _ => ?_, _, rfl, this⟩
  have e1 : (l.take j.toNat).length = j.toNat := by simp; omega
  rw [e1]
  have hm0 : (0 : Int) ≤ m := by omega
  have em : (m.toNat : Int) = m := Int.toNat_of_nonneg hm0
  simp [execOp, s.eval hx, s.eval hh, s.eval hm, Instr.sliceAt, Instr.slice, run_underlying hu, Instr.sliceBounds, Instr.sliceBound, asIntOf, sizeOf, typeInfo, hi', hs, h1, h3, h4, hm0, em]

theorem RunE.cut_lh {α : Type} {R : Rep α} {l : List α} {e sz m m' : Nat} {k k' : IntKind} {i j : Int} {lo hi : Operand} (hT : slT f.P T = some (e, sz)) (hx : ev S xo = some (.slice a ln c)) (hl : ev S lo = some (.int k i)) (hh : ev S hi = some (.int k' j)) (hi' : i = (m : Int)) (hj : j = (m' : Int)) (hR : SlR R sz h a c l) (hlen : ln = l.length) (h1 : m ≤ m') (h2 : m' ≤ l.length) :
    RunE f S h L (.slice T xo (some lo) (some hi) none) ty (fun v => ∃ a' c', v = .slice a' ((l.drop m).take (m' - m)).length c' ∧ SlR R sz h a' c' ((l.drop m).take (m' - m))) := by
  subst hi' hj
  simpa using RunE.cutI_lh (f := f) (L := L) (ty := ty) hT hx hl hh hR hlen (by omega) (by omega) (by omega)
theorem RunE.cut_h {α : Type} {R : Rep α} {l : List α} {e sz m : Nat} {k' : IntKind} {j : Int} {hi : Operand} (hT : slT f.P T = some (e, sz)) (hx : ev S xo = some (.slice a ln c)) (hh : ev S hi = some (.int k' j)) (hj : j = (m : Int)) (hR : SlR R sz h a c l) (hlen : ln = l.length) (h2 : m ≤ l.length) :
    RunE f S h L (.slice T xo none (some hi) none) ty (fun v => ∃ a' c', v = .slice a' (l.take m).length c' ∧ SlR R sz h a' c' (l.take m)) := by
  subst hj
  simpa using RunE.cutI_h (f := f) (L := L) (ty := ty) hT hx hh hR hlen (by omega) (by omega)
theorem RunE.cut_l {α : Type} {R : Rep α} {l : List α} {e sz m : Nat} {k : IntKind} {i : Int} {lo : Operand} (hT : slT f.P T = some (e, sz)) (hx : ev S xo = some (.slice a ln c)) (hl : ev S lo = some (.int k i)) (hi : i = (m : Int)) (hR : SlR R sz h a c l) (hlen : ln = l.length) (h1 : m ≤ l.length) :
    RunE f S h L (.slice T xo (some lo) none none) ty (fun v => ∃ a' c', v = .slice a' (l.drop m).length c' ∧ SlR R sz h a' c' (l.drop m)) := by
  subst hi
  simpa using RunE.cutI_l (f := f) (L := L) (ty := ty) hT hx hl hR hlen (by omega) (by omega)
theorem RunE.cut_hm {α : Type} {R : Rep α} {l : List α} {e sz m m' : Nat} {k k' : IntKind} {j q : Int} {hi mx : Operand} (hT : slT f.P T = some (e, sz)) (hx : ev S xo = some (.slice a ln c)) (hh : ev S hi = some (.int k' j)) (hm : ev S mx = some (.int k q)) (hj : j = (m : Int)) (hq : q = (m' : Int)) (hR : SlR R sz h a c l) (hlen : ln = l.length) (h2 : m ≤ l.length) (h3 : m ≤ m') (h4 : m' ≤ c) :
    RunE f S h L (.slice T xo none (some hi) (some mx)) ty (fun v => ∃ a', v = .slice a' (l.take m).length m' ∧ SlR R sz h a' m' (l.take m)) := by
  subst hj hq
  simpa using RunE.cutI_hm (f := f) (L := L) (ty := ty) hT hx hh hm hR hlen (by omega) (by omega) (by omega) (by omega)

/-- 'x[:len(x):len(x)]' -/
theorem RunE.cut_full {α : Type} {R : Rep α} {l : List α} {e sz : Nat} {k k' : IntKind} {j q : Int} {hi mx : Operand} (hT : slT f.P T = some (e, sz)) (hx : ev S xo = some (.slice a ln c)) (hh : ev S hi = some (.int k' j)) (hm : ev S mx = some (.int k q)) (hR : SlR R sz h a c l) (hlen : ln = l.length) (hj : j = (l.length : Int)) (hq : q = (l.length : Int)) :
    RunE f S h L (.slice T xo none (some hi) (some mx)) ty (fun v => ∃ a', v = .slice a' l.length l.length ∧ SlR R sz h a' l.length l) := by
  have := RunE.cut_hm (f := f) (L := L) (ty := ty) hT hx hh hm hj hq hR hlen (Nat.le_refl _) (Nat.le_refl _) hR.len
  simpa using this

end
end Go.Proofs.YtmngjbefnloljaaDoor
