/- The operations that make and write memory of the call's own; calls; a function's proof. -/
import Derived.Test.YtmngjbefnloljaaDoorMem
import Derived.Maps.AppendAt
set_option linter.unusedSimpArgs false
set_option linter.unusedVariables false
set_option linter.constructorNameAsVariable false
namespace Go.Proofs.YtmngjbefnloljaaDoor
open Go Go.RowKit

/-- The cells 'cs', one element behind the other, hold l. -/
def CellsR {α : Type} (R : Rep α) (sz : Nat) (h : Part) (cs : List Value) (l : List α) : Prop := cs.length = l.length * sz ∧ ∀ i x, l[i]? = some x → R h ((cs.drop (i * sz)).take sz) x
section
variable {α : Type} {R : Rep α} {sz : Nat} {h h' : Part} {a : Option Addr} {c : Nat} {l l' : List α} {cs cs' : List Value}
theorem CellsR.mono [m : Mono R] (k : CellsR R sz h cs l) (hle : h.le h') : CellsR R sz h' cs l := ⟨k.1, fun i x hx => m.mono hle (k.2 i x hx)⟩
theorem CellsR.nil : CellsR R sz h [] ([] : List α) := ⟨by simp, fun i x hx => by simp at hx⟩
theorem CellsR.append (k : CellsR R sz h cs l) (k' : CellsR R sz h cs' l') : CellsR R sz h (cs ++ cs') (l ++ l') := by
  refine ⟨by simp [k.1, k'.1, Nat.add_mul], fun i x hx => ?_⟩
  by_cases hi : i < l.length
  · rw [List.getElem?_append_left hi] at hx
    have := k.2 i x hx
    have hle : i * sz + sz ≤ cs.length := by rw [k.1, ← Nat.succ_mul]; exact Nat.mul_le_mul_right _ hi
    rw [List.drop_append_of_le_length (by omega), List.take_append_of_le_length (by simp; omega)]
    exact this
  · rw [List.getElem?_append_right (by omega)] at hx
    have := k'.2 _ x hx
    have hge : cs.length ≤ i * sz := by rw [k.1]; exact Nat.mul_le_mul_right _ (by omega)
    rw [List.drop_append, List.drop_of_length_le hge, List.nil_append]
    have e : i * sz - cs.length = (i - l.length) * sz := by rw [k.1, Nat.sub_mul]
    rw [e]
    exact this
theorem CellsR.one {x : α} (k : R h cs x) (hl : cs.length = sz) : CellsR R sz h cs [x] := ⟨by simp [hl], fun i y hy => by
  match i with
  | 0 => simp at hy; subst hy; simp [← hl]; exact k
  | i + 1 => simp at hy⟩
theorem CellsR.oneCell [m : Mono R] (hsz : 0 < sz) (k : CellsR R sz h cs l) : ∀ u ∈ cs, u.oneCell' = true := fun u hu => by
  obtain ⟨j, hj, rfl⟩ := List.getElem_of_mem hu
  have hd : j / sz < l.length := by rw [k.1] at hj; exact Nat.div_lt_of_lt_mul (by rwa [Nat.mul_comm])
  refine m.one (k.2 (j / sz) _ (List.getElem?_eq_getElem hd)) _ ?_
  have hm : j % sz < sz := Nat.mod_lt _ hsz
  have he : j / sz * sz + j % sz = j := by rw [Nat.mul_comm]; exact Nat.div_add_mod j sz
  refine List.mem_of_getElem? (i := j % sz) ?_
  rw [List.getElem?_take, if_pos hm, List.getElem?_drop, he, List.getElem?_eq_getElem hj]
/-- The cells of a slice. -/
theorem SlR.cells (hsz : 0 < sz) (k : SlR R sz h a c l) : ∃ cs, CellsR R sz h cs l ∧ ∀ j u, cs[j]? = some u → ∃ b o cc, a = some ⟨b, o, none⟩ ∧ h b = some cc ∧ cc[o + j]? = some u := by
  cases l with
  | nil => exact ⟨[], CellsR.nil, fun j u hu => by simp at hu⟩
  | cons x0 r =>
    obtain ⟨b, o, ha, cc, cs0, hb, _, _, _⟩ := k.elt 0 x0 rfl
    have hE : ∀ i x, (x0 :: r)[i]? = some x → ∃ cs, cs.length = sz ∧ (∀ j, j < sz → cc[o + i * sz + j]? = cs[j]?) ∧ R h cs x := fun i x hx => by
      obtain ⟨b', o', ha', cc', cs, hb', h1, h2, h3⟩ := k.elt i x hx
      rw [ha] at ha'
      cases ha'
      rw [hb] at hb'
      cases hb'
      exact ⟨cs, h1, h2, h3⟩
    have hlen : o + (x0 :: r).length * sz ≤ cc.size := by
      obtain ⟨cs, h1, h2, _⟩ := hE r.length _ (List.getElem?_eq_getElem (by simp))
      have h3 := h2 (sz - 1) (by omega)
      rw [List.getElem?_eq_getElem (by omega)] at h3
      have := (Array.getElem?_eq_some_iff.1 h3).1
      simp only [List.length_cons, Nat.succ_mul]
      omega
    refine ⟨(cc.toList.drop o).take ((x0 :: r).length * sz), ⟨by simp only [List.length_take, List.length_drop, Array.length_toList]; omega, fun i x hx => ?_⟩, fun j u hu => ?_⟩
    · obtain ⟨cs, h1, h2, h3⟩ := hE i x hx
      have hi : i < (x0 :: r).length := (List.getElem?_eq_some_iff.1 hx).1
      have hle : i * sz + sz ≤ (x0 :: r).length * sz := by rw [← Nat.succ_mul]; exact Nat.mul_le_mul_right _ hi
      have : (List.drop (i * sz) (List.take ((x0 :: r).length * sz) (List.drop o cc.toList))).take sz = cs := by
        apply List.ext_getElem?
        intro j
        by_cases hj : j < sz
        · rw [List.getElem?_take, if_pos hj, List.getElem?_drop, List.getElem?_take, if_pos (by omega), List.getElem?_drop, Array.getElem?_toList, ← h2 j hj, Nat.add_assoc]
        · rw [List.getElem?_take, if_neg hj, List.getElem?_eq_none (by omega)]
      rw [this]
      exact h3
    · rw [List.getElem?_take] at hu
      split at hu
      · rw [List.getElem?_drop, Array.getElem?_toList] at hu
        exact ⟨b, o, cc, ha, hb, hu⟩
      · cases hu
end

/-- The cells of bytes are what the bytes say. -/
def u8s (l : List UInt8) : List Value := l.map fun x => .int .u8 (x.toNat : Int)
theorem CellsR.u8 {h : Part} {cs : List Value} {l : List UInt8} (k : CellsR u8R 1 h cs l) : cs = u8s l := by
  apply List.ext_getElem?
  intro i
  by_cases hi : i < l.length
  · have := k.2 i _ (List.getElem?_eq_getElem hi)
    unfold u8R at this
    have h1 : ((cs.drop (i * 1)).take 1)[0]? = some (.int .u8 (l[i].toNat : Int)) := by rw [this]; rfl
    rw [List.getElem?_take, if_pos (by omega), List.getElem?_drop] at h1
    simp only [Nat.mul_one, Nat.add_zero] at h1
    rw [h1]
    simp [u8s, hi]
  · rw [List.getElem?_eq_none (by have := k.1; omega), List.getElem?_eq_none (by simp [u8s]; omega)]
theorem CellsR.of_u8 {h : Part} {l : List UInt8} : CellsR u8R 1 h (u8s l) l := ⟨by simp [u8s], fun i x hx => by
  unfold u8R
  have hi := (List.getElem?_eq_some_iff.1 hx).1
  have hx' := (List.getElem?_eq_some_iff.1 hx).2
  rw [Nat.mul_one, List.take_one, List.head?_drop]
  simp [u8s, hx]⟩
theorem u8s_append (a b : List UInt8) : u8s (a ++ b) = u8s a ++ u8s b := by simp [u8s]
theorem u8s_length (a : List UInt8) : (u8s a).length = a.length := by simp [u8s]

/-- A slice type: its element, the element's cells and bytes. -/
def apT (P : Program) (T : Nat) : Option (Nat × Nat × Nat) :=
  match P.underlying T with
  | some (.slice e) => match P.info? e with
    | some i => match i.zero with
      | some z => if z.cells.size = i.size ∧ 0 < i.size then some (e, i.size, i.bytes) else none
      | none => none
    | none => none
  | _ => none
theorem apT_spec {P : Program} {T e sz bytes : Nat} (h : apT P T = some (e, sz, bytes)) : P.underlying T = some (.slice e) ∧ ∃ i z, P.info? e = some i ∧ i.zero = some z ∧ i.size = sz ∧ i.bytes = bytes ∧ z.cells.size = sz ∧ 0 < sz := by
  unfold apT at h
  split at h <;> try cases h
  rename_i e' hT
  split at h <;> try cases h
  rename_i i hi
  split at h <;> try cases h
  rename_i z hz
  split at h <;> cases h
  rename_i hc
  exact ⟨hT, i, z, hi, hz, rfl, rfl, hc.1, hc.2⟩

section
variable {f : Fr} {n : Post} {x : Nat → Post} {S : Sig} {h : Part} {L L' : List Ent} {ops : Array Oper} {rest : List Oper}
variable {ty : TypeId} {pos : String} {af : Array Edge} {d : Nat} {v : Value} {T : TypeId} {xo yo : Operand}

theorem wpList_val {o : Oper} {a : Act} {w w' : World} {Q : Exit → Act → World → Prop} {P : Program} (hg : o.guard = none) (hr : (execOp a.eval o).run P w = .ok (.value v) w')
    (k : wpList P ops Q rest (a.put o.dst v) w') : wpList P ops Q (o :: rest) a w := by
  unfold wpList
  rw [if_pos (by simp [Region.wanted, hg])]
  exact .inl (by simp only [Oper.wp, hr, Oper.upon]; exact k)
theorem wpList_skp {o : Oper} {a : Act} {w w' : World} {Q : Exit → Act → World → Prop} {P : Program} (hg : o.guard = none) (hr : (execOp a.eval o).run P w = .ok .skip w')
    (k : wpList P ops Q rest (a.put o.dst undef) w') : wpList P ops Q (o :: rest) a w := by
  unfold wpList
  rw [if_pos (by simp [Region.wanted, hg])]
  exact .inl (by simp only [Oper.wp, hr, Oper.upon]; exact k)

theorem JL.alloc {zs : List Value} (hz : zeroT f.P T = some zs) (hd : Nat.blt d f.m = true) (k : ∀ b, JL f ops n x rest ((d, .pointer (some ⟨b, 0, none⟩)) :: S) h (.blk b T zs :: L)) :
    JL f ops n x (⟨some d, .alloc T, ty, pos, af, none⟩ :: rest) S h L := fun a w s => by
  unfold zeroT at hz
  split at hz <;> try cases hz
  rename_i i hi
  split at hz <;> cases hz
  rename_i z hzz
  refine wpList_val (v := .pointer (some ⟨w.heap.size, 0, none⟩)) (w' := w.alloc (.cells z.cells.toList.toArray T)) rfl ?_ (k w.heap.size _ _ (s.put hd _ (s.ok.alloc T z.cells.toList)))
  simp [execOp, Instr.alloc, zeroValue, typeInfo, hi, hzz, newVar, newRow, newObj, Sem.run]

theorem JL.box {cs : List Value} (hx : ev S xo = some v) (hc : v.cells = cs.toArray) (hd : Nat.blt d f.m = true) (k : ∀ b, JL f ops n x rest ((d, .pointer (some ⟨b, 0, none⟩)) :: S) h (.blk b T cs :: L)) :
    JL f ops n x (⟨some d, .box T xo, ty, pos, af, none⟩ :: rest) S h L := fun a w s => by
  refine wpList_val (v := .pointer (some ⟨w.heap.size, 0, none⟩)) (w' := w.alloc (.cells cs.toArray T)) rfl ?_ (k w.heap.size _ _ (s.put hd _ (s.ok.alloc T cs)))
  simp [execOp, s.eval hx, Instr.box, newVar, newRow, newObj, Sem.run, hc]

theorem Ok.setBlk {e : Env} {h : Part} {L L' : List Ent} {w : World} {b : Nat} {t : TypeId} {cs : List Value} (k : Ok e h L w) (u : Del (.blk b t cs) L L') (cs' : List Value) : Ok e h (.blk b t cs' :: L') (w.setRow b cs'.toArray) := by
  have hw : w.heap[b]? = some (.cells cs.toArray t (0, 0)) := k.own _ u.mem
  exact (k.perm u.perm).turn rfl rfl rfl (by simp) (fun b' _ hne => setRow_other w b b' _ (fun e => hne (by rw [e]; rfl))) (setRow_heap w b _ _ t _ hw) (fun b' hb' => .inl hb')

theorem JL.store1 {b o : Nat} {t : TypeId} {cs : List Value} (hT : aggT f.P T = some none) (hx : ev S xo = some (.pointer (some ⟨b, o, none⟩))) (hy : ev S yo = some v) (hv : v.oneCell' = true) (u : Del (.blk b t cs) L L') (ho : Nat.blt o cs.length = true)
    (k : JL f ops n x rest S h (.blk b t (cs.set o v) :: L')) : JL f ops n x (⟨none, .store T xo yo, ty, pos, af, none⟩ :: rest) S h L := fun a w s => by
  have ho' : o < cs.length := by simpa using ho
  have hw : w.heap[b]? = some (.cells cs.toArray t (0, 0)) := s.ok.own _ u.mem
  have hc : w.cell? ⟨b, o, none⟩ = some cs[o] := by rw [blk_cell s.ok u.mem]; exact List.getElem?_eq_getElem ho'
  have hf := frozen_of_row w b o _ t hw
  have e1 : w.setCell ⟨b, o, none⟩ v = w.setRow b (cs.set o v).toArray := by
    rw [setCell_eq_setRow w b o _ t _ v hw]; simp
  refine wpList_skp (w' := w.setRow b (cs.set o v).toArray) rfl ?_ (k _ _ (s.with (s.ok.setBlk u _)))
  have hcells : v.cells = #[v] := by cases v <;> first | rfl | (simp [Value.oneCell'] at hv)
  have hst : (store (Addr.add ⟨b, o, none⟩ 0) v).run f.P w = .ok () (w.setRow b (cs.set o v).toArray) := by
    rw [Addr.add_zero', run_store f.P w _ v _ hv, hc, ← e1]; simp [hf]
  simp [execOp, s.eval hx, s.eval hy, Instr.storeAt, Instr.sureAddr, storeVar, (aggT_one hT w).2, hcells, storeCells, hst]

theorem JL.storeA {b sz : Nat} {t : TypeId} {cs cs' : List Value} (hT : aggT f.P T = some (some sz)) (hx : ev S xo = some (.pointer (some ⟨b, 0, none⟩))) (hy : ev S yo = some (.agg cs'.toArray)) (u : Del (.blk b t cs) L L') (hv : cs'.all (·.oneCell') = true) (hl0 : cs.length = sz) (hl' : cs'.length = sz)
    (k : JL f ops n x rest S h (.blk b t cs' :: L')) : JL f ops n x (⟨none, .store T xo yo, ty, pos, af, none⟩ :: rest) S h L := fun a w s => by
  subst hl0
  have hl := hl'
  have hw : w.heap[b]? = some (.cells cs.toArray t (0, 0)) := s.ok.own _ u.mem
  have hi : (f.P.info? T).map (·.size) = some cs'.toArray.size := by
    have := (aggT_agg hT w).2
    unfold sizeOf typeInfo at this
    cases hq : f.P.info? T with
    | none => simp [hq] at this
    | some i => simp [hq] at this; simp [this, hl]
  refine wpList_skp (w' := w.setRow b cs'.toArray) rfl ?_ (k _ _ (s.with (s.ok.setBlk u _)))
  have := run_storeVar_row (P := f.P) w b t T _ _ hw hi (by simp [hl]) (by simpa using hv)
  simp [execOp, s.eval hx, s.eval hy, Instr.storeAt, Instr.sureAddr, this]

/-! ### slices written out -/
def fill1 : List Value → List (Nat × Value) → List Value
  | cs, [] => cs
  | cs, (i, v) :: r => fill1 (cs.set i v) r
theorem fill_one : ∀ (ps : List (Nat × Value)) (cs : List Value), (ps.all fun p => p.2.oneCell' && Nat.blt p.1 cs.length) = true → Instr.fill (fun i => some (i * 1, 1)) cs.toArray ps = some (fill1 cs ps).toArray
  | [], cs, _ => rfl
  | (i, v) :: r, cs, hh => by
    simp only [List.all_cons, Bool.and_eq_true] at hh
    obtain ⟨⟨h1, h2⟩, h3⟩ := hh
    have hcells : v.cells = #[v] := by cases v <;> first | rfl | (simp [Value.oneCell'] at h1)
    have hlt : i < cs.length := by simpa using h2
    have ih := fill_one r (cs.set i v) (by simpa using h3)
    simp [Instr.fill, hcells, fill1, show ¬ cs.length < i + 1 by omega]
    simpa using ih
def evs (S : Sig) : List (Nat × Operand) → Option (List (Nat × Value))
  | [] => some []
  | (i, o) :: r => match ev S o, evs S r with
    | some v, some vs => some ((i, v) :: vs)
    | _, _ => none
theorem evs_spec {f : Fr} {a : Act} {w : World} (s : Sat f.e f.m S h L a w) : ∀ {ps : List (Nat × Operand)} {vs : List (Nat × Value)}, evs S ps = some vs → ps.map (fun p => (p.1, a.eval p.2)) = vs
  | [], vs, hh => by simp [evs] at hh; simp [hh]
  | (i, o) :: r, vs, hh => by
    simp only [evs] at hh
    split at hh <;> cases hh
    rename_i v vs' h1 h2
    simp [s.eval h1, evs_spec s h2]
/-- '[]T{x0, x1, ..}', elements of one cell. -/
theorem JL.lit1 {e bytes len : Nat} {ps : List (Nat × Operand)} {vs : List (Nat × Value)} {zs : List Value} (hT : apT f.P T = some (e, 1, bytes)) (hz : zeroT f.P e = some zs) (hl0 : Nat.blt 0 len = true) (hl : Nat.ble len 16777216 = true) (hp : evs S ps = some vs)
    (hv : (vs.all fun p => p.2.oneCell' && Nat.blt p.1 len) = true) (hd : Nat.blt d f.m = true)
    (k : ∀ b, JL f ops n x rest ((d, .slice (some ⟨b, 0, none⟩) len len) :: S) h (.blk b e (fill1 (List.replicate len (zs.headD undef)) vs) :: L)) :
    JL f ops n x (⟨some d, .buildSlice T len ps.toArray, ty, pos, af, none⟩ :: rest) S h L := fun a w s => by
  obtain ⟨hu, i, z, hi, hzz, hs, _, hzc, _⟩ := apT_spec hT
  have hl' : len ≤ 16777216 := by simpa using hl
  unfold zeroT at hz
  rw [hi] at hz
  simp only [hzz] at hz
  cases hz
  have hz1 : ∃ z0, z.cells = #[z0] := by
    generalize z.cells = zc at hzc
    obtain ⟨l⟩ := zc
    match l, hzc with
    | [z0], _ => exact ⟨z0, rfl⟩
  obtain ⟨z0, hz0⟩ := hz1
  have hmap : Array.map (fun p : Nat × Operand => (p.1, a.eval p.2)) ps.toArray = vs.toArray := by
    have := evs_spec s hp
    simp [this]
  have hrep : (Array.range len).map (fun j => z.cells[j % z.cells.size]!) = (List.replicate len z0).toArray := by
    apply Array.ext
    · simp
    · intro j h1 h2
      simp [hz0, Nat.mod_one]
  have hfill := fill_one vs (List.replicate len z0) (by simpa using hv)
  refine wpList_val (v := .slice (some ⟨w.heap.size, 0, none⟩) len len) (w' := w.alloc (.cells (fill1 (List.replicate len z0) vs).toArray e)) rfl ?_ ?_
  · have h0' : 0 < len := by simpa using hl0
    have h0 : len ≠ 0 := by omega
    simp only [Nat.mul_one, List.toArray_replicate] at hfill hrep
    simp only [execOp, hmap, Instr.buildSlice, Sem.run_bind, run_underlying hu, Result.andThen, sizeOf, typeInfo]
    simp [hi, hs, show ¬ 16777216 < len by omega, h0, zeroValue, typeInfo, hzz, hrep, newRow, newObj, Sem.run]
    rw [hfill]
    simp [Sem.run]
  · rw [show z0 = z.cells.toList.headD undef by simp [hz0]]
    exact k w.heap.size _ _ (s.put hd _ (s.ok.alloc e _))

theorem foldl_set : ∀ (cs : List Value) (k : Nat) (acc : Array Value), k + cs.length = acc.size → (cs.zipIdx k).foldl (fun (a : Array Value) (p : Value × Nat) => a.setIfInBounds p.2 p.1) acc = (acc.toList.take k ++ cs).toArray
  | [], k, acc, hk => by
    rw [List.take_of_length_le (by simp at hk ⊢; omega)]
    simp
  | c :: r, k, acc, hk => by
    simp only [List.length_cons] at hk
    rw [List.zipIdx_cons, List.foldl_cons, foldl_set r (k + 1) _ (by simp; omega)]
    congr 1
    apply List.ext_getElem?
    intro j
    simp only [Array.toList_setIfInBounds, List.getElem?_append, List.length_take, List.length_set, Array.length_toList, List.getElem?_take, List.getElem?_set]
    by_cases hj : j < k
    · simp [hj, show j < k + 1 by omega, show min (k + 1) acc.size = k + 1 by omega, show min k acc.size = k by omega, show k ≠ j by omega]
    · by_cases hj2 : j = k
      · subst hj2
        simp [show min (j + 1) acc.size = j + 1 by omega, show min j acc.size = j by omega, show j < acc.size by omega]
      · simp [hj, show ¬ j < k + 1 by omega, show min (k + 1) acc.size = k + 1 by omega, show min k acc.size = k by omega, show j - k = (j - (k + 1)) + 1 by omega]
/-- '[]T{x}', x a struct. -/
theorem JL.litA {e sz bytes : Nat} {y : Operand} {cs : List Value} (hT : apT f.P T = some (e, sz, bytes)) (hy : ev S y = some (.agg cs.toArray)) (hl : cs.length = sz) (hsz : Nat.ble sz 16777216 = true) (hd : Nat.blt d f.m = true)
    (k : ∀ b, JL f ops n x rest ((d, .slice (some ⟨b, 0, none⟩) 1 1) :: S) h (.blk b e cs :: L)) :
    JL f ops n x (⟨some d, .buildSlice T 1 #[(0, y)], ty, pos, af, none⟩ :: rest) S h L := fun a w s => by
  obtain ⟨hu, i, z, hi, hzz, hs, _, hzc, h0⟩ := apT_spec hT
  have hl' : sz ≤ 16777216 := by simpa using hsz
  have hfill : ∀ zc : Array Value, zc.size = sz → Instr.fill (fun i => some (i * sz, sz)) zc [(0, .agg cs.toArray)] = some cs.toArray := fun zc hzc => by
    simp only [Instr.fill, Value.cells, List.size_toArray, hl, Nat.zero_mul, Nat.zero_add, hzc, gt_iff_lt, Nat.lt_irrefl, decide_false, Bool.or_false, ne_eq, not_true_eq_false, decide_false, Bool.false_eq_true, if_false]
    congr 1
    have := foldl_set cs 0 zc (by omega)
    simp only [List.take_zero, List.nil_append] at this
    rw [← Array.foldl_toList]
    simpa using this
  refine wpList_val (v := .slice (some ⟨w.heap.size, 0, none⟩) 1 1) (w' := w.alloc (.cells cs.toArray e)) rfl ?_ (k w.heap.size _ _ (s.put hd _ (s.ok.alloc e cs)))
  have hf := hfill ((Array.range (1 * sz)).map (fun j => z.cells[j % z.cells.size]!)) (by simp)
  simp only [execOp, Instr.buildSlice, Sem.run_bind, run_underlying hu, Result.andThen, sizeOf, typeInfo]
  simp [hi, hs, show ¬ 16777216 < sz by omega, show sz ≠ 0 by omega, zeroValue, typeInfo, hzz, s.eval hy, newRow, newObj, Sem.run]
  simp only [Nat.one_mul] at hf
  rw [hf]
  simp [Sem.run]
end
end Go.Proofs.YtmngjbefnloljaaDoor
