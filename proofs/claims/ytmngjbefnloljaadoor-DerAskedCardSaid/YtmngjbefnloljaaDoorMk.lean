/- make; append of what was made; rows of the call's own, cell by cell; a callee that only reads what is owned. -/
import Derived.Test.YtmngjbefnloljaaDoorSht
import Derived.Laws.MakeOwn
set_option linter.unusedSimpArgs false
set_option linter.unusedVariables false
set_option linter.constructorNameAsVariable false
namespace Go.Proofs.YtmngjbefnloljaaDoor
open Go Go.RowKit

theorem madeCells_one {z : Array Value} {z0 : Value} (hz : z = #[z0]) (n : Nat) : madeCells z n = (List.replicate n z0).toArray := by
  subst hz
  apply Array.ext
  · simp [madeCells]
  · intro i h1 h2
    simp [madeCells, Nat.mod_one]
theorem zeroCells_one {z : Array Value} {z0 : Value} (hz : z = #[z0]) (n : Nat) : Builtin.zeroCells z n = (List.replicate n z0).toArray := by
  subst hz
  apply Array.ext
  · simp [Builtin.zeroCells]
  · intro i h1 h2
    simp [Builtin.zeroCells, Nat.mod_one]
/-- A slice type whose element is of one cell: the element, its zero, its bytes. -/
def mkT (P : Program) (T : Nat) : Option (Nat × Value × Nat) :=
  match P.underlying T with
  | some (.slice e) => match P.info? e with
    | some i => match i.zero with
      | some z => match z.cells.toList with
        | [z0] => if i.size = 1 then some (e, z0, i.bytes) else none
        | _ => none
      | none => none
    | none => none
  | _ => none
theorem mkT_spec {P : Program} {T e bytes : Nat} {z0 : Value} (h : mkT P T = some (e, z0, bytes)) : P.underlying T = some (.slice e) ∧ ∃ i z, P.info? e = some i ∧ i.zero = some z ∧ z.cells = #[z0] ∧ i.size = 1 ∧ i.bytes = bytes := by
  unfold mkT at h
  split at h <;> try cases h
  rename_i e' hT
  split at h <;> try cases h
  rename_i i hi
  split at h <;> try cases h
  rename_i z hz
  split at h <;> try cases h
  rename_i z1 hzc
  split at h <;> cases h
  rename_i hs
  exact ⟨hT, i, z, hi, hz, by apply Array.ext'; simpa using hzc, hs, rfl⟩

section
variable {f : Fr} {n : Post} {x : Nat → Post} {S : Sig} {h : Part} {L L' : List Ent} {ops : Array Oper} {rest : List Oper}
variable {ty : TypeId} {pos : String} {af : Array Edge} {d : Nat} {v : Value} {T : TypeId} {xo yo : Operand}

/-- 'make([]T, m)', T of one cell. -/
theorem JL.make1 {e bytes m : Nat} {z0 : Value} {k1 k2 : IntKind} {p q : Int} (hT : mkT f.P T = some (e, z0, bytes)) (hx : ev S xo = some (.int k1 p)) (hy : ev S yo = some (.int k2 q)) (hp : p = (m : Int)) (hq : q = (m : Int)) (hb : bytes * m ≤ 140737488355328) (hb1 : Nat.blt 0 bytes = true) (hd : Nat.blt d f.m = true)
    (k : ∀ b, JL f ops n x rest ((d, .slice (some ⟨b, 0, none⟩) m m) :: S) h (.row (some ⟨b, 0, none⟩) m e 1 m (List.replicate m z0) :: L)) :
    JL f ops n x (⟨some d, .makeSlice T xo yo, ty, pos, af, none⟩ :: rest) S h L := fun a w s => by
  subst hp hq
  obtain ⟨hu, i, z, hi, hz, hzc, hs, hby⟩ := mkT_spec hT
  have hb1' : 0 < bytes := by simpa using hb1
  have hmb : m ≤ bytes * m := Nat.le_mul_of_pos_left _ hb1'
  have hbi : (i.bytes : Int) * (m : Int) ≤ 281474976710656 := by
    rw [hby]
    have : ((bytes * m : Nat) : Int) ≤ 281474976710656 := by omega
    rwa [Int.natCast_mul] at this
  have hr := run_make (P := f.P) w T e i z hu hi hz k1 k2 (m : Int) (m : Int) (by omega) (Int.le_refl _) hbi (by omega)
  simp only [Int.toNat_natCast, hs, Nat.mul_one, madeCells_one hzc] at hr
  have hok := (s.ok.alloc e (List.replicate m z0)).toRow (m := m) (sz := 1) (by simp) (by simp only [maxLen]; omega)
  refine wpList_val (v := .slice (some ⟨w.heap.size, 0, none⟩) m m) (w' := w.alloc (.cells (List.replicate m z0).toArray e)) rfl ?_ (k w.heap.size _ _ (s.put hd _ hok))
  simp [execOp, s.eval hx, s.eval hy, hr]

/-- A literal of bytes is a row that may grow. -/
theorem JL.rowL {b t : Nat} {cs : List Value} {l : List UInt8} (u : Del (.blk b t cs) L L') (hc : cs = u8s l) (hl : l.length ≤ 140737488355328) (k : JL f ops n x rest S h (.row (some ⟨b, 0, none⟩) l.length t 1 l.length (u8s l) :: L')) : JL f ops n x rest S h L := fun ac w s => by
  subst hc
  exact k ac w (s.with ((s.ok.perm u.perm).toRow (m := l.length) (sz := 1) (by simp [u8s]) (by simp only [maxLen]; omega)))
theorem replicate_u8 (m : Nat) : List.replicate m (Value.int .u8 0) = u8s (List.replicate m 0) := by simp [u8s]
/-! ## append of what was made -/
theorem run_append_made {P : Program} {w : World} {t tz e ty nn m : Nat} {k : IntKind} {i : TypeInfo} {z : Value} {z0 : Value} {a : Option Addr} {c : Nat} {xs : List Value} (ht : P.underlying t = some (.slice e)) (htz : ∃ kz, P.underlying tz = some (.int kz)) (hi : P.info? e = some i) (hz : i.zero = some z) (hzc : z.cells = #[z0]) (hs : i.size = 1) (h1 : z0.oneCell' = true)
    (hown : w.ownsRow 0 e 1 (.slice a nn c) nn xs) (h63 : nn + m ≤ maxLen) (hbytes : (nn + m) * i.bytes ≤ 140737488355328) (hb0 : 0 < i.bytes) :
    ∃ v' w', (Builtin.append_ #[t, tz] ty #[.slice a nn c, .int k (m : Int)]).run P w = .ok v' w' ∧ w'.ownsRow 0 e 1 v' (nn + m) (xs ++ List.replicate m z0) ∧ w.grownBy w' (Value.slice a nn c).ownBlock ∧ (v'.ownBlock = (Value.slice a nn c).ownBlock ∨ v'.ownBlock = some w.heap.size) := by
  obtain ⟨kz, htz⟩ := htz
  have w0 : IntKind.i64.wrap 0 = 0 := by decide
  have hmul : nn + m ≤ (nn + m) * i.bytes := Nat.le_mul_of_pos_right _ hb0
  have wl : IntKind.i64.wrap (m : Int) = m := by rw [IntKind.wrap_i64]; omega
  have n1 : ¬ ((m : Int) < 0) := by omega
  have hmb : m * i.bytes ≤ (nn + m) * i.bytes := Nat.mul_le_mul_right _ (by omega)
  have n2 : ¬ (281474976710656 < (m : Int) * (i.bytes : Int)) := by
    have : ((m * i.bytes : Nat) : Int) ≤ 140737488355328 := by omega
    rw [Int.natCast_mul] at this
    omega
  have n3 : ¬ (9223372036854775807 < ((nn : Int) + (m : Int))) := by omega
  have hxl : xs.length = nn := by simpa using hown.1
  have hlen : (xs ++ List.replicate m z0).length = (nn + m) * 1 := by simp [hxl]
  have grown : ∀ (old : Nat), old < nn + m → ∀ (row : Option Nat),
      (w.drew.alloc (.cells (xs.toArray ++ (List.replicate m z0).toArray ++ (List.replicate (grownCap w (nn + m) old e - (nn + m)) z0).toArray) e)).ownsRow 0 e 1
        (.slice (some ⟨w.heap.size, 0, none⟩) (nn + m) (grownCap w (nn + m) old e)) (nn + m) (xs ++ List.replicate m z0) ∧
      w.grownBy (w.drew.alloc (.cells (xs.toArray ++ (List.replicate m z0).toArray ++ (List.replicate (grownCap w (nn + m) old e - (nn + m)) z0).toArray) e)) row := by
    intro old ho row
    have hge := grownCap_ge w (nn + m) old e
    have hcm : grownCap w (nn + m) old e ≤ maxLen := grownCap_le_maxLen w (nn + m) old e h63
    refine ⟨⟨hlen, .inr ⟨w.heap.size, _, _, rfl, Nat.zero_le _, heap_alloc_new w.drew _, hge, hcm, ?_, ?_⟩⟩, ⟨rfl, rfl, rfl, by simp, fun k hk _ => Below.heap_alloc w.drew _ k hk⟩⟩
    · simp only [Array.size_append, List.size_toArray, List.length_replicate, hxl]
      omega
    · simp only [Array.toList_append]
      rw [← hlen]
      exact List.take_left
  rcases hown.2 with ⟨hv, hx0⟩ | ⟨g, cap, cur, hv, hbg, hg, hnc, hcm, hcs, htake⟩
  · injection hv with e1 e2 e3
    subst e1 e3
    subst hx0
    have hx : xs = [] := List.eq_nil_of_length_eq_zero hxl
    subst hx
    by_cases hm : m = 0
    · subst hm
      refine ⟨.slice none 0 0, w, ?_, World.ownsRow_nil w 0 e 1, ⟨rfl, rfl, rfl, Nat.le_refl _, fun _ _ _ => rfl⟩, Or.inl rfl⟩
      simp [Builtin.append_, run_underlying ht, run_underlying htz, sizeOf, typeInfo, hi, hs, asInt, asIntOf, wl, w0, n1, n2]
    · have hgr := grown 0 (by omega) (Value.ownBlock (.slice none 0 0))
      have hcap : Builtin.nextslicecap (0 + m) 0 * i.bytes ≤ 281474976710656 := by rw [nextslicecap_zero (by omega)]; omega
      refine ⟨_, _, ?_, hgr.1, hgr.2, Or.inr rfl⟩
      have n4 : ¬ (281474976710656 < Builtin.nextslicecap m 0 * i.bytes) := by simp only [Nat.zero_add] at hcap; omega
      have n5 : ¬ (9223372036854775807 < (m : Int)) := by omega
      simp [Builtin.append_, run_underlying ht, run_underlying htz, sizeOf, typeInfo, hi, hs, hz, zeroValue, asInt, asIntOf, wl, n1, n2, hm, n4, n5, Question.forced, run_firstCells_none, newRow, grownCap, zeroCells_one hzc]
  · injection hv with e1 e2 e3
    subst e1 e3
    by_cases hroom : nn + m ≤ c
    · have hcs' : cur.size = c := by simpa using hcs
      have hst := run_storeCells_at P g (nn * 1) e (List.replicate m z0) 0 cur w hg (by simp; omega) (fun u hu => by rw [List.eq_of_mem_replicate hu]; exact h1)
      simp only [Nat.add_zero] at hst
      refine ⟨.slice (some ⟨g, 0, none⟩) (nn + m) c, w.setRow g (cur.toList.take (nn * 1) ++ List.replicate m z0 ++ cur.toList.drop (nn * 1 + (List.replicate m z0).length)).toArray, ?_, ⟨hlen, .inr ⟨g, c, _, rfl, hbg, setRow_heap w g cur _ e _ hg, hroom, hcm, ?_, ?_⟩⟩, ⟨rfl, rfl, rfl, by simp, fun k _ hk => setRow_other w g k _ (fun e => hk (by simp [Value.ownBlock, e]))⟩, Or.inl rfl⟩
      · by_cases hm : m = 0
        · subst hm
          simp at hst
          have hr2 : ¬ c < nn := by omega
          simp [Builtin.append_, run_underlying ht, run_underlying htz, sizeOf, typeInfo, hi, hs, asInt, asIntOf, wl, w0, n1, n2, hroom, hr2, Addr.add_lit, hst]
        · simp at hst
          simp [Builtin.append_, run_underlying ht, run_underlying htz, sizeOf, typeInfo, hi, hs, hz, zeroValue, asInt, asIntOf, wl, n1, n2, hroom, hm, Addr.add_lit, zeroCells_one hzc, hst]
      · simp only [List.size_toArray, List.length_append, List.length_take, List.length_drop, Array.length_toList, List.length_replicate]
        omega
      · have ht2 : cur.toList.take (nn * 1) = xs := by simpa using htake
        rw [ht2, ← hlen]
        exact List.take_left
    · have holds : ∀ j u, xs[j]? = some u → w.cell? ((⟨g, 0, none⟩ : Addr).add j) = some u := World.ownsRow.cells (g := g) hown rfl
      have hgr := grown c (by omega) (Value.ownBlock (.slice (some ⟨g, 0, none⟩) nn c))
      have hfit := growslice_fits (old := c) (need := nn + m) (by omega) hbytes
      have hfo := run_firstCells_some (P := P) w.drew 1 nn ⟨g, 0, none⟩ nn c xs (by simpa using hxl) (by simpa using holds)
      refine ⟨_, _, ?_, hgr.1, hgr.2, Or.inr rfl⟩
      have n4 : ¬ (281474976710656 < Builtin.nextslicecap (nn + m) c * i.bytes) := by omega
      by_cases hm : m = 0
      · omega
      · simp [Builtin.append_, run_underlying ht, run_underlying htz, sizeOf, typeInfo, hi, hs, hz, zeroValue, asInt, asIntOf, wl, n1, n2, n3, hroom, hm, n4, Question.forced, hfo, newRow, grownCap, zeroCells_one hzc]
def isIntT (P : Program) (T : Nat) : Bool := match P.underlying T with
  | some (.int _) => true
  | _ => false
theorem isIntT_spec {P : Program} {T : Nat} (h : isIntT P T = true) : ∃ kz, P.underlying T = some (.int kz) := by
  unfold isIntT at h
  split at h
  · rename_i k hk; exact ⟨k, hk⟩
  · cases h
theorem JL.appendMade {Tz e bytes nn m : Nat} {z0 : Value} {a : Option Addr} {c : Nat} {xs : List Value} {k : IntKind} {p : Int} (hT : mkT f.P T = some (e, z0, bytes)) (hTz : isIntT f.P Tz = true) (hx : ev S xo = some (.slice a nn c)) (hy : ev S yo = some (.int k p)) (hp : p = (m : Int)) (h1 : z0.oneCell' = true)
    (u : Del (.row a c e 1 nn xs) L L') (hb : (nn + m) * bytes ≤ 140737488355328) (hb1 : Nat.blt 0 bytes = true) (hd : Nat.blt d f.m = true)
    (kk : ∀ a' c', JL f ops n x rest ((d, .slice a' (nn + m) c') :: S) h (.row a' c' e 1 (nn + m) (xs ++ List.replicate m z0) :: L')) :
    JL f ops n x (⟨some d, .call { callee := .builtin .append, args := #[xo, yo], argTypes := #[T, Tz] }, ty, pos, af, none⟩ :: rest) S h L := fun ac w s => by
  subst hp
  obtain ⟨hu, i, z, hi, hz, hzc, hs, hby⟩ := mkT_spec hT
  have hb1' : 0 < bytes := by simpa using hb1
  have okp := s.ok.perm u.perm
  have hown : w.ownsRow 0 e 1 (.slice a nn c) nn xs := okp.own _ (List.mem_cons_self ..)
  have hmul : nn + m ≤ (nn + m) * bytes := Nat.le_mul_of_pos_right _ hb1'
  obtain ⟨v', w', hrun, ho, hg, hat⟩ := run_append_made (P := f.P) (ty := ty) (tz := Tz) (k := k) (m := m) hu (isIntT_spec hTz) hi hz hzc hs h1 hown (by simp only [maxLen]; omega) (by rw [hby]; exact hb) (by omega)
  obtain ⟨a', c', rfl, hc1, hc2, _⟩ := ownsRow_form ho
  refine wpList_val (v := .slice a' (nn + m) c') (w' := w') rfl ?_ (kk a' c' _ _ (s.put hd _ (okp.grown (x' := .row a' c' e 1 (nn + m) (xs ++ List.replicate m z0)) hg ho hat)))
  simp [execOp, resolve, s.eval hx, s.eval hy, invoke, builtin, hrun]

theorem JL.makeB {e bytes m : Nat} {k1 k2 : IntKind} {p q : Int} (zl : List UInt8) (hz : zl = List.replicate m 0) (hT : mkT f.P T = some (e, .int .u8 0, bytes)) (hx : ev S xo = some (.int k1 p)) (hy : ev S yo = some (.int k2 q)) (hp : p = (m : Int)) (hq : q = (m : Int)) (hb : bytes * m ≤ 140737488355328) (hb1 : Nat.blt 0 bytes = true) (hd : Nat.blt d f.m = true)
    (k : ∀ b, JL f ops n x rest ((d, .slice (some ⟨b, 0, none⟩) zl.length zl.length) :: S) h (.row (some ⟨b, 0, none⟩) zl.length e 1 zl.length (u8s zl) :: L)) :
    JL f ops n x (⟨some d, .makeSlice T xo yo, ty, pos, af, none⟩ :: rest) S h L := by
  refine JL.make1 hT hx hy hp hq hb hb1 hd fun b => ?_
  have hl : m = zl.length := by rw [hz]; simp
  have := k b
  rw [hz] at this
  rw [replicate_u8]
  simpa using this
theorem JL.appendMadeB {Tz e bytes m : Nat} {a : Option Addr} {c : Nat} {l : List UInt8} {k : IntKind} {p : Int} (zl : List UInt8) (hz : zl = List.replicate m 0) (hT : mkT f.P T = some (e, .int .u8 0, bytes)) (hTz : isIntT f.P Tz = true) (hx : ev S xo = some (.slice a l.length c)) (hy : ev S yo = some (.int k p)) (hp : p = (m : Int))
    (u : Del (.row a c e 1 l.length (u8s l)) L L') (hb : (l.length + m) * bytes ≤ 140737488355328) (hb1 : Nat.blt 0 bytes = true) (hd : Nat.blt d f.m = true)
    (kk : ∀ a' c', JL f ops n x rest ((d, .slice a' (l ++ zl).length c') :: S) h (.row a' c' e 1 (l ++ zl).length (u8s (l ++ zl)) :: L')) :
    JL f ops n x (⟨some d, .call { callee := .builtin .append, args := #[xo, yo], argTypes := #[T, Tz] }, ty, pos, af, none⟩ :: rest) S h L := by
  refine JL.appendMade hT hTz hx hy hp rfl u hb hb1 hd fun a' c' => ?_
  have := kk a' c'
  rw [hz] at this
  rw [replicate_u8, ← u8s_append]
  simpa using this

/-! ## rows of the call's own, cell by cell -/
theorem Ok.row_some {e : Env} {w : World} {a : Option Addr} {c t sz m : Nat} {xs : List Value} (k : Ok e h L w) (hm : Ent.row a c t sz m xs ∈ L) (h0 : 0 < m) : ∃ g, a = some ⟨g, 0, none⟩ := by
  have hown : w.ownsRow 0 t sz (.slice a m c) m xs := k.own _ hm
  rcases hown.2 with ⟨hv, hl⟩ | ⟨g, cap, cur, hv, _⟩
  · omega
  · injection hv with e1 e2 e3
    exact ⟨g, e1⟩
theorem J.rowsome {c0 : Code} {a : Option Addr} {c t sz m : Nat} {xs : List Value} (hm : Ent.row a c t sz m xs ∈ L) (h0 : 0 < m) (k : ∀ g, a = some ⟨g, 0, none⟩ → J f c0 n x S h L) : J f c0 n x S h L := fun ac w s => by
  obtain ⟨g, hg⟩ := s.ok.row_some hm h0
  exact k g hg ac w s
theorem RunV.index_at {e g ln c m : Nat} {k : IntKind} {i : Int} (hT : slT f.P T = some (e, 1)) (hx : ev S xo = some (.slice (some ⟨g, 0, none⟩) ln c)) (hy : ev S yo = some (.int k i)) (hi : i = (m : Int)) (h1 : m < ln) :
    RunV f S h L (.indexAddr T xo yo) ty (.pointer (some ⟨g, m, none⟩)) := fun ac w s _ _ _ _ => by
  subst hi
  obtain ⟨hu, inf, hi, hs⟩ := slT_spec hT
  have h0 : (0 : Int) ≤ m := by omega
  have h2 : (m : Int) < ln := by omega
  simp [execOp, s.eval hx, s.eval hy, Instr.indexAt, run_underlying hu, asIntOf, sizeOf, typeInfo, hi, hs, h1, Addr.add_lit]
theorem row_cell {w : World} {g c t m i : Nat} {xs : List Value} (hk : Ok f.e h L w) (hm : Ent.row (some ⟨g, 0, none⟩) c t 1 m xs ∈ L) (hi : i < xs.length) : w.cell? ⟨g, i, none⟩ = xs[i]? := by
  have hown : w.ownsRow 0 t 1 (.slice (some ⟨g, 0, none⟩) m c) m xs := hk.own _ hm
  have := World.ownsRow.cells (g := g) hown rfl i xs[i] (List.getElem?_eq_getElem hi)
  rw [Addr.add_lit, Nat.zero_add] at this
  rw [this, List.getElem?_eq_getElem hi]
theorem RunV.rowload {g c t m i : Nat} {xs : List Value} (hT : aggT f.P T = some none) (hx : ev S xo = some (.pointer (some ⟨g, i, none⟩))) (hm : Ent.row (some ⟨g, 0, none⟩) c t 1 m xs ∈ L) (hv : xs[i]? = some v) : RunV f S h L (.load T xo) ty v := fun ac w s _ _ _ _ => by
  have hc : w.cell? ⟨g, i, none⟩ = some v := by rw [row_cell s.ok hm (List.getElem?_eq_some_iff.1 hv).1, hv]
  simp [execOp, s.eval hx, Instr.loadAt, Instr.sureAddr, loadVar, (aggT_one hT w).1, load, Sem.run, hc]
theorem JL.storeRow {g c t m i : Nat} {xs : List Value} (hT : aggT f.P T = some none) (hx : ev S xo = some (.pointer (some ⟨g, i, none⟩))) (hy : ev S yo = some v) (hv : v.oneCell' = true) (u : Del (.row (some ⟨g, 0, none⟩) c t 1 m xs) L L') (hi : i < xs.length)
    (k : JL f ops n x rest S h (.row (some ⟨g, 0, none⟩) c t 1 m (xs.set i v) :: L')) : JL f ops n x (⟨none, .store T xo yo, ty, pos, af, none⟩ :: rest) S h L := fun a w s => by
  have okp := s.ok.perm u.perm
  have hown : w.ownsRow 0 t 1 (.slice (some ⟨g, 0, none⟩) m c) m xs := okp.own _ (List.mem_cons_self ..)
  have hcell : w.cell? ⟨g, i, none⟩ = some xs[i] := by rw [row_cell s.ok u.mem hi, List.getElem?_eq_getElem hi]
  rcases hown.2 with ⟨hvv, _⟩ | ⟨g', cap, cur, hvv, hbg, hg, h1, h2, h3, h4⟩
  · cases hvv
  · injection hvv with e1 e2 e3
    injection e1 with e1
    injection e1 with e1
    subst e1 e3
    have hxl : xs.length = m := by simpa using hown.1
    have hf := frozen_of_row w g i _ t hg
    have e1 : w.setCell ⟨g, i, none⟩ v = w.setRow g (cur.setIfInBounds i v) := setCell_eq_setRow w g i _ t _ v hg
    have hok : Ok f.e h (.row (some ⟨g, 0, none⟩) c t 1 m (xs.set i v) :: L') (w.setRow g (cur.setIfInBounds i v)) := by
      refine okp.turn rfl rfl rfl (by simp) (fun b' _ hne => setRow_other w g b' _ (fun e => hne (by rw [e]; rfl))) ?_ (fun b' hb' => .inl hb')
      refine ⟨by simpa using hown.1, .inr ⟨g, c, _, rfl, hbg, setRow_heap w g _ _ t _ hg, h1, h2, by simpa using h3, ?_⟩⟩
      have h4' : cur.toList.take m = xs := by simpa using h4
      simp only [Nat.mul_one, Array.toList_setIfInBounds]
      rw [List.take_set, h4']
    refine wpList_skp (w' := w.setRow g (cur.setIfInBounds i v)) rfl ?_ (k _ _ (s.with hok))
    have hcells : v.cells = #[v] := by cases v <;> first | rfl | (simp [Value.oneCell'] at hv)
    have hst : (store (Addr.add ⟨g, i, none⟩ 0) v).run f.P w = .ok () (w.setRow g (cur.setIfInBounds i v)) := by
      rw [Addr.add_zero', run_store f.P w _ v _ hv, hcell, ← e1]; simp [hf]
    simp [execOp, s.eval hx, s.eval hy, Instr.storeAt, Instr.sureAddr, storeVar, (aggT_one hT w).2, hcells, storeCells, hst]

/-! ## a callee that only reads what is owned -/
theorem JL.callB {F : Nat} {args : List Value} {os : List Operand} {ts : Array TypeId} {a : Option Addr} {c t m : Nat} {xs : List Value} {l : List UInt8} (hF : callT f.P F = true) (ha : evl S os = some args) (hm : Ent.row a c t 1 m xs ∈ L) (hxs : xs = u8s l) (hml : m = l.length) (hb : l.length ≤ 140737488355328)
    (ct : ∀ h', h.le h' → SlR u8R 1 h' a c l → Pure f.P F args h' v) (hd : Nat.blt d f.m = true) (k : JL f ops n x rest ((d, v) :: S) h L) :
    JL f ops n x (⟨some d, .call { callee := .value (.func F), args := os.toArray, argTypes := ts }, ty, pos, af, none⟩ :: rest) S h L := fun ac w s => by
  subst hxs hml
  obtain ⟨L', hdel⟩ : ∃ L', Del (.row a c t 1 l.length (u8s l)) L L' := by
    clear ct k s ha hF
    induction L with
    | nil => cases hm
    | cons y r ih =>
      cases hm with
      | head => exact ⟨r, .here⟩
      | tail _ hm => obtain ⟨L', hL⟩ := ih hm; exact ⟨y :: L', .there hL⟩
  obtain ⟨h', hle, hS, hok⟩ := (s.ok.perm hdel.perm).pub_row CellsR.of_u8 rfl hb
  have hp := ct h' hle hS
  have hen : Ok ⟨w, (· ∈ keys []), h', []⟩ h' [] w := Ok.enter (Li := []) (Lr := L') (by simpa using hok)
  unfold wpList
  rw [if_pos (by simp [Region.wanted])]
  refine .inl ?_
  have hmm : os.toArray.map ac.eval = args.toArray := by simp [evl_spec s ha]
  have hr : (execOp ac.eval ⟨some d, .call { callee := .value (.func F), args := os.toArray, argTypes := ts }, ty, pos, af, none⟩).run f.P w = .ok (.enter F args.toArray) w := by
    simp [execOp, resolve, hmm, Act.eval, Deferred.ofValue, invoke, run_call hF]
  simp only [Oper.wp, hr, Oper.upon]
  refine (hp w hen).mono fun e w' ⟨h2, Lo, ⟨u, he, hu, _, _⟩, hO⟩ => ?_
  subst he hu
  exact k _ _ (s.put hd _ (s.ok.ext hO.os hO.tape hO.output hO.size (fun b hb => hO.old b hb (by simp [keys]))))
end
end Go.Proofs.YtmngjbefnloljaaDoor
