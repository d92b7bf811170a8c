/- Structs written out; append to what others may read; functions of the library that have no text. -/
import Derived.Test.YtmngjbefnloljaaDoorBits
import Derived.Laws.Tables
import Derived.Laws.Externs
import Derived.Laws.StructEq
import Derived.Lib.Bytealg
import Derived.Lib.BytesEntry
import Derived.ArgAppend
set_option linter.unusedSimpArgs false
set_option linter.unusedVariables false
set_option linter.constructorNameAsVariable false
namespace Go.Proofs.YtmngjbefnloljaaDoor
open Go Go.RowKit

/-! ## structs written out -/
def plT (P : Program) (T : Nat) : Option (List Value × List (Nat × Nat)) :=
  match P.info? T, P.underlying T with
  | some it, some (.struct fields) =>
    match it.zero, fields.toList.mapM (fun f => (P.info? f.type).map fun i => (f.offset, i.size)) with
    | some z, some places => some (z.cells.toList, places)
    | _, _ => none
  | _, _ => none
def fillL (pl : List (Nat × Nat)) : List Value → List (Nat × Value) → Option (List Value)
  | cs, [] => some cs
  | cs, (i, v) :: r => match pl[i]? with
    | none => none
    | some (o, n) => if v.cells.toList.length = n ∧ o + n ≤ cs.length then fillL pl (cs.take o ++ v.cells.toList ++ cs.drop (o + n)) r else none
theorem foldl_setAt (off : Nat) : ∀ (cs B A C : List Value) (k : Nat), A.length = off + k → B.length = cs.length → (cs.zipIdx k).foldl (fun (a : Array Value) (p : Value × Nat) => a.setIfInBounds (off + p.2) p.1) (A ++ B ++ C).toArray = (A ++ cs ++ C).toArray
  | [], B, A, C, k, _, hB => by
    have : B = [] := List.eq_nil_of_length_eq_zero (by simpa using hB)
    subst this
    rfl
  | c :: r, B, A, C, k, hA, hB => by
    match B, hB with
    | b :: B', hB =>
      rw [List.zipIdx_cons, List.foldl_cons]
      have e : (A ++ b :: B' ++ C).toArray.setIfInBounds (off + k) c = ((A ++ [c]) ++ B' ++ C).toArray := by
        rw [← hA]
        simp [List.set_append]
      simp only
      rw [e, foldl_setAt off r B' (A ++ [c]) C (k + 1) (by simp; omega) (by simpa using hB)]
      simp
theorem fill_list (pl : List (Nat × Nat)) : ∀ (ps : List (Nat × Value)) (cs cs' : List Value), fillL pl cs ps = some cs' → Instr.fill (pl.toArray[·]?) cs.toArray ps = some cs'.toArray
  | [], cs, cs', h => by simp only [fillL, Option.some.injEq] at h; subst h; rfl
  | (i, v) :: r, cs, cs', h => by
    simp only [fillL] at h
    split at h
    · cases h
    · rename_i o n hp
      split at h
      · rename_i hh
        obtain ⟨h1, h2⟩ := hh
        have ih := fill_list pl r _ _ h
        have hv : v.cells.size = n := by simpa using h1
        have key := foldl_setAt o v.cells.toList ((cs.drop o).take n) (cs.take o) (cs.drop (o + n)) 0 (by simp; omega) (by rw [h1]; simp; omega)
        have hcs : cs.take o ++ (cs.drop o).take n ++ cs.drop (o + n) = cs := by
          rw [List.append_assoc, ← List.drop_drop, List.take_append_drop, List.take_append_drop]
        rw [hcs] at key
        simp only [Instr.fill, List.getElem?_toArray, hp, hv, ne_eq, not_true_eq_false, decide_false, Bool.false_or, gt_iff_lt, List.size_toArray, show ¬ cs.length < o + n by omega, decide_false, Bool.false_eq_true, if_false]
        rw [← ih, ← key, ← Array.toList_zipIdx, Array.foldl_toList]
        simp
      · cases h

section
variable {f : Fr} {n : Post} {x : Nat → Post} {S : Sig} {h : Part} {L L' : List Ent} {ops : Array Oper} {rest : List Oper}
variable {ty : TypeId} {pos : String} {af : Array Edge} {d : Nat} {v : Value} {T : TypeId} {xo yo : Operand}
theorem RunV.build {zs cs : List Value} {pl : List (Nat × Nat)} {ps : List (Nat × Operand)} {vs : List (Nat × Value)} (hT : plT f.P T = some (zs, pl)) (hp : evs S ps = some vs) (hf : fillL pl zs vs = some cs) :
    RunV f S h L (.build T ps.toArray) ty (.agg cs.toArray) := fun a w s _ _ _ _ => by
  have hb : f.P.built T vs = some cs.toArray := by
    unfold plT at hT
    unfold Program.built
    split at hT <;> try cases hT
    rename_i it fields hi hu
    split at hT <;> cases hT
    rename_i z places hz hpl
    simp only [hi, hu, hz, hpl]
    have := fill_list _ _ _ _ hf
    simpa using this
  have hm : Array.map (fun p : Nat × Operand => (p.1, a.eval p.2)) ps.toArray = vs.toArray := by simp [evs_spec s hp]
  have := run_build (P := f.P) w T vs.toArray cs.toArray (by simpa using hb)
  simp [execOp, hm, this]

/-! ## append to what others may read: it is full, so there comes a new row -/
theorem JL.appendFull {α : Type} {R : Rep α} [Mono R] {e sz bytes nn m : Nat} {a a2 : Option Addr} {c c2 : Nat} {l l2 : List α} (hT : apT f.P T = some (e, sz, bytes)) (hx : ev S xo = some (.slice a nn c)) (hy : ev S yo = some (.slice a2 m c2))
    (hR1 : SlR R sz h a c l) (hnn : nn = l.length) (hc : c = nn) (hR : SlR R sz h a2 c2 l2) (hm : m = l2.length) (hm0 : 0 < m)
    (hb : (l.length + l2.length) * bytes ≤ 140737488355328) (hd : Nat.blt d f.m = true) (hbp : Nat.blt 0 bytes = true)
    (k : ∀ a' c' xs', CellsR R sz h xs' (l ++ l2) → (l ++ l2).length ≤ 140737488355328 → JL f ops n x rest ((d, .slice a' (l ++ l2).length c') :: S) h (.row a' c' e sz (l ++ l2).length xs' :: L)) :
    JL f ops n x (⟨some d, .call { callee := .builtin .append, args := #[xo, yo], argTypes := #[T, T] }, ty, pos, af, none⟩ :: rest) S h L := by
  subst hnn hm hc
  cases a with
  | none =>
    have h0 := hR1.nil rfl
    have hl : l = [] := List.eq_nil_of_length_eq_zero h0
    subst hl
    exact JL.row_nil e sz (JL.append (l := []) hT hx hy CellsR.nil rfl hR rfl .here hb hd hbp k)
  | some ad =>
    obtain ⟨hu, i, z, hi, hz, hsz, hby, hzc, h0⟩ := apT_spec hT
    obtain ⟨olds, ho, hso⟩ := Src.sl (e := f.e) (L := L) h0 hR1
    obtain ⟨news, hn, hs⟩ := Src.sl (e := f.e) (L := L) h0 hR
    have hbp' : 0 < bytes := by simpa using hbp
    have hmul : l.length + l2.length ≤ (l.length + l2.length) * bytes := Nat.le_mul_of_pos_right _ hbp'
    cases a2 with
    | none => have := hR.nil rfl; have := hR.len; omega
    | some ad2 =>
      intro ac w s
      obtain ⟨v', w', hr, h1, h2⟩ := run_append_arg_grows (P := f.P) (w := w) T ty e i z sz bytes hu hi hz hsz hby hzc h0 ad l.length l.length olds hso.1 (hso.2.2.2 w s.ok ad rfl) ad2 l2.length c2 news hs.1 (hs.2.2.2 w s.ok ad2 rfl) (by omega) (by simp only [maxLen]; omega) hb
      obtain ⟨a', c', rfl, hc1, hc2, _⟩ := ownsRow_form h1
      have hown : w'.ownsRow 0 e sz (.slice a' (l.length + l2.length) c') (l.length + l2.length) (olds ++ news) := by
        refine ⟨h1.1, ?_⟩
        rcases h1.2 with hh | ⟨g, cap, cur, hv, _, rest⟩
        · exact .inl hh
        · exact .inr ⟨g, cap, cur, hv, Nat.zero_le _, rest⟩
      have hok : Ok f.e h (.row a' c' e sz (l.length + l2.length) (olds ++ news) :: L) w' := by
        refine (s.ok.row_nil e sz).turn h2.os h2.tape h2.output h2.size (fun b hb' _ => h2.block b hb' (fun hh => by cases hh)) hown (fun b hb' => .inr ?_)
        exact (World.ownsRow.lt h1 b hb').1
      refine wpList_val (v := .slice a' (l.length + l2.length) c') (w' := w') rfl ?_ ?_
      · simp [execOp, resolve, s.eval hx, s.eval hy, invoke, builtin, hr]
      · have hll : l.length + l2.length = (l ++ l2).length := by simp
        rw [hll] at hok ⊢
        exact k a' c' _ (ho.append hn) (by rw [← hll]; omega) _ _ (s.put hd _ hok)

/-! ## functions without a text -/
theorem RunV.callX {F : Nat} {os : List Operand} {ts : Array TypeId} {args : List Value} (ha : evl S os = some args) (hr : ∀ w, Sub h w → (callFunc F args.toArray).run f.P w = .ok (.value v) w) :
    RunV f S h L (.call { callee := .value (.func F), args := os.toArray, argTypes := ts }) ty v := fun a w s _ _ _ _ => by
  have hm : os.toArray.map a.eval = args.toArray := by simp [evl_spec s ha]
  simp [execOp, resolve, hm, Act.eval, Deferred.ofValue, invoke, hr w s.ok.sub]
end

def niT (P : Program) (T : Nat) : Bool := match P.underlying T with
  | some (.interface _) => false
  | some _ => true
  | none => false
theorem RunV.makeInterface {f : Fr} {S : Sig} {h : Part} {L : List Ent} {ty T : TypeId} {xo : Operand} {v : Value} (hT : niT f.P T = true) (hx : ev S xo = some v) : RunV f S h L (.makeInterface T xo) ty (.iface T v) := fun a w s _ _ _ _ => by
  unfold niT at hT
  split at hT <;> try cases hT
  rename_i d hd hu
  cases d <;> first | (exact (hd _ rfl).elim) | simp [execOp, s.eval hx, Instr.makeInterface, run_underlying hu]

def ifT (P : Program) (T : Nat) : Bool := match P.underlying T with
  | some (.interface _) => true
  | _ => false
section
variable {f : Fr} {S : Sig} {h : Part} {L : List Ent} {ty T yt : TypeId} {xo : Operand}
theorem RunV.neq_nil_nil (hT : ifT f.P T = true) (hx : ev S xo = some .nilIface) : RunV f S h L (.binOp .neq T xo (.const .nilIface) yt) ty (.bool false) := RunV.bin (y := .const .nilIface) hx rfl fun w => by
  unfold ifT at hT
  split at hT <;> try cases hT
  rename_i ms hu
  have key : ∀ m : Nat, (Op.equalIn (m + 1) T .nilIface .nilIface).run f.P w = .ok true w := fun m => by simp [Op.equalIn, run_underlying hu]
  simp only [go_sem, binOp, Op.equal, Op.maxDepth]
  simp [eqGuard, key 9999]
theorem RunV.neq_iface_nil {t : TypeId} {v : Value} (hT : ifT f.P T = true) (hx : ev S xo = some (.iface t v)) : RunV f S h L (.binOp .neq T xo (.const .nilIface) yt) ty (.bool true) := RunV.bin (y := .const .nilIface) hx rfl fun w => by
  unfold ifT at hT
  split at hT <;> try cases hT
  rename_i ms hu
  have key : ∀ m : Nat, (Op.equalIn (m + 1) T (.iface t v) .nilIface).run f.P w = .ok false w := fun m => by simp [Op.equalIn, run_underlying hu]
  simp only [go_sem, binOp, Op.equal, Op.maxDepth]
  simp [eqGuard, key 9999]
end

/-! ## structs of two numbers held against each other -/
def isI (P : Program) (t : Nat) : Bool := match P.underlying t with | some (.int _) => true | _ => false
def eq2T (P : Program) (T : Nat) : Bool := match P.underlying T with
  | some (.struct fs) => match fs.toList with
    | [f, g] => f.name != "_" && (g.name != "_" && (Nat.beq f.offset 0 && (Nat.beq g.offset 1 && (isI P f.type && (isI P g.type && (!P.stoodInHeld T && !P.eqGuardType P.depth T))))))
    | _ => false
  | _ => false
theorem run_partI {P : Program} {t : Nat} (h : isI P t = true) (cs : Array Value) (o : Nat) (v : Value) (hv : cs[o]? = some v) (w : World) : (part t cs o).run P w = .ok v w := by
  unfold isI at h
  split at h
  · rename_i k hk
    simp [part, isAgg, run_underlying hk, hv]
  · cases h
theorem run_eqI {P : Program} {t : Nat} (h : isI P t = true) (d : Nat) (k : IntKind) (a b : Int) (w : World) : (Op.equalIn (d + 1) t (.int k a) (.int k b)).run P w = .ok (a == b) w := by
  unfold isI at h
  split at h
  · rename_i k' hk; exact run_equalIn_int w d t k k' a b hk
  · cases h
theorem run_eql2 {P : Program} {T : TypeId} {k k' : IntKind} {p q p' q' : Int} (hT : eq2T P T = true) (w : World) : (Op.equalIn 10000 T (.agg #[.int k p, .int k' q]) (.agg #[.int k p', .int k' q'])).run P w = .ok (decide (p = p' ∧ q = q')) w ∧ P.eqGuardType P.depth T = false := by
  unfold eq2T at hT
  split at hT <;> try cases hT
  rename_i fs hu
  split at hT <;> try cases hT
  rename_i fa ga hfs
  simp only [Bool.and_eq_true, Bool.not_eq_eq_eq_not, Bool.not_true, bne_iff_ne, ne_eq] at hT
  obtain ⟨n1, n2, o1, o2, i1, i2, hs, hg⟩ := hT
  have o1 := Nat.eq_of_beq_eq_true o1
  have o2 := Nat.eq_of_beq_eq_true o2
  have hfo : P.fieldsOf T = fs := by unfold Program.fieldsOf; rw [hu]
  refine ⟨?_, hg⟩
  have e1 := run_eqI i1 9998 k p p' w
  have e2 := run_eqI i2 9998 k' q q' w
  rw [run_equalIn_struct w 9999 T _ _ (by rw [hfo]; exact hu) hs, hfo, hfs]
  simp only [Op.eqFields, n1, n2, ne_eq, not_false_eq_true, if_true, o1, o2, Sem.run_bind]
  rw [run_partI i1 _ 0 (.int k p) rfl]
  simp only [Result.andThen]
  rw [run_partI i1 _ 0 (.int k p') rfl]
  simp only [Result.andThen]
  rw [e1]
  simp only [Result.andThen]
  by_cases hp : p = p'
  · subst hp
    simp only [beq_self_eq_true, Bool.not_true, Bool.false_eq_true, if_false, Sem.run_bind]
    rw [run_partI i2 _ 1 (.int k' q) rfl]
    simp only [Result.andThen]
    rw [run_partI i2 _ 1 (.int k' q') rfl]
    simp only [Result.andThen]
    rw [e2]
    simp only [Result.andThen]
    by_cases hq : q = q'
    · subst hq; simp
    · simp [hq]
  · simp [hp]
theorem RunV.eql2 {f : Fr} {S : Sig} {h : Part} {L : List Ent} {ty T yt : TypeId} {xo yo : Operand} {k k' : IntKind} {p q p' q' : Int} (hT : eq2T f.P T = true) (hx : ev S xo = some (.agg #[.int k p, .int k' q])) (hy : ev S yo = some (.agg #[.int k p', .int k' q'])) :
    RunV f S h L (.binOp .eql T xo yo yt) ty (.bool (decide (p = p' ∧ q = q'))) := RunV.bin hx hy fun w => by
  obtain ⟨hkey, hg⟩ := run_eql2 (k := k) (k' := k') (p := p) (q := q) (p' := p') (q' := q') hT w
  have hgd := run_eqGuard_agg (P := f.P) w .eql T xo yo #[.int k p, .int k' q] #[.int k p', .int k' q'] hg
  simp only [Sem.run_bind, hgd, Result.andThen, run_eql_struct, hkey]
theorem RunV.neq2 {f : Fr} {S : Sig} {h : Part} {L : List Ent} {ty T yt : TypeId} {xo yo : Operand} {k k' : IntKind} {p q p' q' : Int} (hT : eq2T f.P T = true) (hx : ev S xo = some (.agg #[.int k p, .int k' q])) (hy : ev S yo = some (.agg #[.int k p', .int k' q'])) :
    RunV f S h L (.binOp .neq T xo yo yt) ty (.bool (!decide (p = p' ∧ q = q'))) := RunV.bin hx hy fun w => by
  obtain ⟨hkey, hg⟩ := run_eql2 (k := k) (k' := k') (p := p) (q := q) (p' := p') (q' := q') hT w
  have hgd := run_eqGuard_agg (P := f.P) w .neq T xo yo #[.int k p, .int k' q] #[.int k p', .int k' q'] hg
  simp only [Sem.run_bind, hgd, Result.andThen, run_neq_struct, hkey]

/-! ## results that lie in variables -/
theorem loadVarA {P : Program} {e : Env} {h : Part} {L : List Ent} {w : World} {b T sz t : Nat} {cs : List Value} (hk : Ok e h L w) (hT : aggT P T = some (some sz)) (hm : Ent.blk b t cs ∈ L) (hl : cs.length = sz) : (loadVar T ⟨b, 0, none⟩).run P w = .ok (.agg cs.toArray) w := by
  subst hl
  have hb : w.heap[b]? = some (.cells cs.toArray t (0, 0)) := hk.own _ hm
  have hld : (loadCells ⟨b, 0, none⟩ cs.length).run P w = .ok cs.toArray w := run_loadCells_list (P := P) w ⟨b, 0, none⟩ cs (fun j u hu => by
    rw [Addr.add_lit, cell_of_row w b _ _ _ _ hb]
    simpa using hu)
  simp [loadVar, (aggT_agg hT w).1, (aggT_agg hT w).2, hld]
section
variable {P : Program} {e : Env} {m : Nat} {fn : Func} {S : Sig} {h : Part} {L : List Ent}
theorem RetV.cell {t T b bt sz : Nat} {cs : List Value} (hr : fn.results = #[.cell t T]) (hv : look S t = some (.pointer (some ⟨b, 0, none⟩))) (hT : aggT P T = some (some sz)) (hm : Ent.blk b bt cs ∈ L) (hl : cs.length = sz) : RetV P e m fn S h L (.agg cs.toArray) := fun a w s => by
  simp [results, hr, s.slot t _ hv, asAddr, loadVarA s.ok hT hm hl]
theorem RetV.cell2 {t T b bt sz t' T' b' bt' sz' : Nat} {cs cs' : List Value} (hr : fn.results = #[.cell t T, .cell t' T']) (hv : look S t = some (.pointer (some ⟨b, 0, none⟩))) (hT : aggT P T = some (some sz)) (hm : Ent.blk b bt cs ∈ L) (hl : cs.length = sz)
    (hv' : look S t' = some (.pointer (some ⟨b', 0, none⟩))) (hT' : aggT P T' = some (some sz')) (hm' : Ent.blk b' bt' cs' ∈ L) (hl' : cs'.length = sz') : RetV P e m fn S h L (.tuple #[.agg cs.toArray, .agg cs'.toArray]) := fun a w s => by
  simp [results, hr, s.slot t _ hv, s.slot t' _ hv', asAddr, loadVarA s.ok hT hm hl, loadVarA s.ok hT' hm' hl']
end

theorem run_bytesOf {P : Program} {h : Part} {w : World} (s : Sub h w) {a : Option Addr} {c : Nat} {l : List UInt8} (hR : SlR u8R 1 h a c l) : (Extern.Bytes.bytesOf (.slice a l.length c)).run P w = .ok ⟨l.toArray⟩ w := by
  cases a with
  | none =>
    have := hR.nil rfl
    have := hR.len
    have hl : l = [] := List.eq_nil_of_length_eq_zero (by omega)
    subst hl
    rfl
  | some ad =>
    obtain ⟨cs, h1, h2⟩ := hR.cells (by decide)
    have hcs := h1.u8
    subst hcs
    have hx : ∀ j (x : Int), (l.map fun b : UInt8 => (b.toNat : Int))[j]? = some x → w.cell? (ad.add j) = some (.int .u8 x) := fun j x hj => by
      have hj' : (u8s l)[j]? = some (.int .u8 x) := by
        simp only [u8s, List.getElem?_map] at hj ⊢
        cases hl : l[j]? with
        | none => simp [hl] at hj
        | some b => simp [hl] at hj ⊢; exact hj
      obtain ⟨b, o, cc, ha, hb, hc⟩ := h2 j _ hj'
      cases ha
      rw [Addr.add_lit]
      exact s.cell hb hc
    have := Go.Lib.run_loadBytesX (P := P) (w := w) (l.map fun b : UInt8 => (b.toNat : Int)) ad .empty hx
    simp only [List.length_map] at this
    show (Extern.Bytes.loadBytes ad l.length .empty).run P w = _
    rw [this]
    congr 1
    apply ByteArray.ext
    show (#[] : Array UInt8) ++ _ = _
    simp only [Go.Lib.bytesOf, List.map_map, Array.empty_append]
    congr 1
    exact (List.map_congr_left (fun z _ => by simp)).trans (List.map_id _)
theorem run_compareB {P : Program} {h : Part} {w : World} (s : Sub h w) {a b : Option Addr} {c d : Nat} {l r : List UInt8} (hl : SlR u8R 1 h a c l) (hr : SlR u8R 1 h b d r) :
    (Extern.BytealgCompare.compare #[.slice a l.length c, .slice b r.length d]).run P w = .ok (.int .i64 (Go.Lib.compareBytes l r)) w := by
  change Sem.run P (do pure (goInt (Extern.BytealgCompare.cmp (← Extern.Bytes.bytesOf (.slice a l.length c)) (← Extern.Bytes.bytesOf (.slice b r.length d))))) w = _
  simp only [Sem.run_bind, run_bytesOf s hl, run_bytesOf s hr, Sem.run_pure, Result.andThen]
  rw [Go.Lib.cmp_eq]
  rfl
end Go.Proofs.YtmngjbefnloljaaDoor
