/- Strings; max, min; function values. -/
import Derived.Test.YtmngjbefnloljaaDoorCall
set_option linter.unusedSimpArgs false
set_option linter.unusedVariables false
set_option linter.constructorNameAsVariable false
namespace Go.Proofs.YtmngjbefnloljaaDoor
open Go Go.RowKit

def strT (P : Program) (src dst : Nat) : Bool :=
  match P.underlying src, P.underlying dst with
  | some (.slice e), some .string => match P.underlying e with
    | some (.int .u8) => true
    | _ => false
  | _, _ => false

section
variable {f : Fr} {n : Post} {x : Nat → Post} {S : Sig} {h : Part} {L L' : List Ent} {ops : Array Oper} {rest : List Oper}
variable {ty : TypeId} {pos : String} {af : Array Edge} {d : Nat} {v : Value} {T yt : TypeId} {xo yo : Operand} {a : Option Addr} {c ln : Nat} {p q : List UInt8} {k k' : IntKind} {i j : Int}

theorem bsize (p : List UInt8) : (⟨p.toArray⟩ : ByteArray).size = p.length := by
  show p.toArray.size = _
  simp
/-- A byte, or 0. -/
def byteAt (s : List UInt8) (i : Nat) : Nat := (s.getD i 0).toNat
theorem byteAt_lt (s : List UInt8) (i : Nat) : byteAt s i < 256 := (s.getD i 0).toNat_lt
theorem byteAt_eq (s : List UInt8) (i : Nat) (h : i < s.length) : (s[i].toNat) = byteAt s i := by simp [byteAt, h]
theorem RunV.lenS (hT : f.P.underlying T = some .string) (hx : ev S xo = some (.string ⟨p.toArray⟩)) : RunV f S h L (.call { callee := .builtin .len, args := #[xo], argTypes := #[T] }) ty (.int .i64 (p.length : Int)) := fun ac w s _ _ _ _ => by
  simp [execOp, resolve, s.eval hx, invoke, builtin, Builtin.len_, run_underlying hT, goInt, bsize]
theorem RunV.strIndex {m : Nat} (hT : f.P.underlying T = some .string) (hx : ev S xo = some (.string ⟨p.toArray⟩)) (hy : ev S yo = some (.int k i)) (hi : i = (m : Int)) (h1 : m < p.length) :
    RunV f S h L (.index T xo yo) ty (.int .u8 (byteAt p m : Int)) := fun ac w s _ _ _ _ => by
  subst hi
  have hs : (⟨p.toArray⟩ : ByteArray)[m]? = some p[m] := by
    have hlt : m < (⟨p.toArray⟩ : ByteArray).size := by rw [bsize]; omega
    rw [getElem?_pos (⟨p.toArray⟩ : ByteArray) m hlt]
    rfl
  have hb : byteAt p m = p[m].toNat := (byteAt_eq p m h1).symm
  have h0 : (0 : Int) ≤ m := by omega
  simp [execOp, s.eval hx, s.eval hy, Instr.index, run_underlying hT, asIntOf, h0, hs, hb]

theorem extract_list (p : List UInt8) (lo hi : Nat) : (⟨p.toArray⟩ : ByteArray).extract lo hi = ⟨((p.drop lo).take (hi - lo)).toArray⟩ := by
  apply ByteArray.ext
  simp

theorem RunV.strCutI_lh {lo hi : Operand} (hT : f.P.underlying T = some .string) (hx : ev S xo = some (.string ⟨p.toArray⟩)) (hl : ev S lo = some (.int k i)) (hh : ev S hi = some (.int k' j)) (h0 : 0 ≤ i) (h1 : i ≤ j) (h2 : j ≤ p.length) :
    RunV f S h L (.slice T xo (some lo) (some hi) none) ty (.string ⟨((p.drop i.toNat).take (j.toNat - i.toNat)).toArray⟩) := fun ac w s _ _ _ _ => by
  have hj : 0 ≤ j := by omega
  have ej : (j.toNat : Int) = j := Int.toNat_of_nonneg hj
  simp [execOp, s.eval hx, s.eval hl, s.eval hh, Instr.sliceAt, Instr.slice, run_underlying hT, Instr.sliceBounds, Instr.sliceBound, asIntOf, h0, h1, hj, bsize, h2, ej, extract_list]
theorem RunV.strCutI_h {hi : Operand} (hT : f.P.underlying T = some .string) (hx : ev S xo = some (.string ⟨p.toArray⟩)) (hh : ev S hi = some (.int k' j)) (h1 : 0 ≤ j) (h2 : j ≤ p.length) :
    RunV f S h L (.slice T xo none (some hi) none) ty (.string ⟨(p.take j.toNat).toArray⟩) := fun ac w s _ _ _ _ => by
  simp [execOp, s.eval hx, s.eval hh, Instr.sliceAt, Instr.slice, run_underlying hT, Instr.sliceBounds, Instr.sliceBound, asIntOf, h1, bsize, h2, extract_list]
theorem RunV.strCutI_l {lo : Operand} (hT : f.P.underlying T = some .string) (hx : ev S xo = some (.string ⟨p.toArray⟩)) (hl : ev S lo = some (.int k i)) (h0 : 0 ≤ i) (h1 : i ≤ p.length) :
    RunV f S h L (.slice T xo (some lo) none none) ty (.string ⟨(p.drop i.toNat).toArray⟩) := fun ac w s _ _ _ _ => by
  have e : (p.drop i.toNat).take (p.length - i.toNat) = p.drop i.toNat := List.take_of_length_le (by simp)
  simp [execOp, s.eval hx, s.eval hl, Instr.sliceAt, Instr.slice, run_underlying hT, Instr.sliceBounds, Instr.sliceBound, asIntOf, h0, h1, bsize, extract_list, e]

theorem RunV.strCut_lh {m m' : Nat} {lo hi : Operand} (hT : f.P.underlying T = some .string) (hx : ev S xo = some (.string ⟨p.toArray⟩)) (hl : ev S lo = some (.int k i)) (hh : ev S hi = some (.int k' j)) (hi' : i = (m : Int)) (hj : j = (m' : Int)) (h1 : m ≤ m') (h2 : m' ≤ p.length) :
    RunV f S h L (.slice T xo (some lo) (some hi) none) ty (.string ⟨((p.drop m).take (m' - m)).toArray⟩) := by
  subst hi' hj
  simpa only [Int.toNat_natCast] using RunV.strCutI_lh (f := f) (h := h) (L := L) (ty := ty) hT hx hl hh (by omega) (by omega) (by omega)
theorem RunV.strCut_h {m : Nat} {hi : Operand} (hT : f.P.underlying T = some .string) (hx : ev S xo = some (.string ⟨p.toArray⟩)) (hh : ev S hi = some (.int k' j)) (hj : j = (m : Int)) (h2 : m ≤ p.length) :
    RunV f S h L (.slice T xo none (some hi) none) ty (.string ⟨(p.take m).toArray⟩) := by
  subst hj
  simpa only [Int.toNat_natCast] using RunV.strCutI_h (f := f) (h := h) (L := L) (ty := ty) hT hx hh (by omega) (by omega)
theorem RunV.strCut_l {m : Nat} {lo : Operand} (hT : f.P.underlying T = some .string) (hx : ev S xo = some (.string ⟨p.toArray⟩)) (hl : ev S lo = some (.int k i)) (hi : i = (m : Int)) (h1 : m ≤ p.length) :
    RunV f S h L (.slice T xo (some lo) none none) ty (.string ⟨(p.drop m).toArray⟩) := by
  subst hi
  simpa only [Int.toNat_natCast] using RunV.strCutI_l (f := f) (h := h) (L := L) (ty := ty) hT hx hl (by omega) (by omega)

theorem RunV.eqlS (hx : ev S xo = some (.string ⟨p.toArray⟩)) (hy : ev S yo = some (.string ⟨q.toArray⟩)) : RunV f S h L (.binOp .eql T xo yo yt) ty (.bool (decide (p = q))) := RunV.bin hx hy fun w => by
  simp [go_sem, binOp, Op.stringOp]; by_cases hpq : p = q <;> simp [hpq]
theorem RunV.neqS (hx : ev S xo = some (.string ⟨p.toArray⟩)) (hy : ev S yo = some (.string ⟨q.toArray⟩)) : RunV f S h L (.binOp .neq T xo yo yt) ty (.bool (decide (p ≠ q))) := RunV.bin hx hy fun w => by
  simp [go_sem, binOp, Op.stringOp]; by_cases hpq : p = q <;> simp [hpq]
theorem RunV.addS (hx : ev S xo = some (.string ⟨p.toArray⟩)) (hy : ev S yo = some (.string ⟨q.toArray⟩)) (hb : p.length + q.length ≤ 9223372036854775807) : RunV f S h L (.binOp .add T xo yo yt) ty (.string ⟨(p ++ q).toArray⟩) := RunV.bin hx hy fun w => by
  have h1 : ¬ (9223372036854775807 < (p.length : Int) + (q.length : Int)) := by omega
  have h2 : (⟨p.toArray⟩ : ByteArray) ++ ⟨q.toArray⟩ = ⟨(p ++ q).toArray⟩ := by apply ByteArray.ext; simp
  simp [go_sem, binOp, Op.stringOp, bsize, h1, h2]

/-- 'string(b)', b bytes that are read. -/
theorem RunV.strB {src dst : TypeId} {l : List UInt8} (hT : strT f.P src dst = true) (hx : ev S xo = some (.slice a ln c)) (hR : SlR u8R 1 h a c l) (hlen : ln = l.length) : RunV f S h L (.convert src dst xo) ty (.string ⟨l.toArray⟩) := fun ac w s _ _ _ _ => by
  subst hlen
  unfold strT at hT
  split at hT <;> try cases hT
  rename_i e hs hd
  split at hT <;> try cases hT
  rename_i he
  have key : (convert src dst (.slice a l.length c)).run f.P w = .ok (.string ⟨l.toArray⟩) w := by
    cases l with
    | nil =>
      cases a with
      | none => rw [run_convert_bytes_nil w src e hs he _ _ dst hd]; rfl
      | some ad =>
        rw [run_convert_bytes_string w src dst e _ _ c hs he hd]
        exact (run_bytesToString w ad 0 c [] (by simp [loadCells, loadCellsFrom])).trans rfl
    | cons y r =>
      obtain ⟨b, o, rfl, _⟩ := hR.elt 0 y rfl
      have hcell : ∀ i, i < (y :: r).length → w.cell? ⟨b, o + i, none⟩ = some (.int .u8 (((y :: r).map fun z : UInt8 => (z.toNat : Int)).getD i 0)) := fun i hi => by
        obtain ⟨b', o', hbo, cc, cs, hb, hl, hj, hu⟩ := hR.elt i _ (List.getElem?_eq_getElem hi)
        cases hbo
        have h0 := hj 0 (by omega)
        unfold u8R at hu
        rw [hu] at h0
        simp only [Nat.mul_one, Nat.add_zero] at h0
        rw [s.ok.sub.cell hb h0]
        simp only [List.getD, List.getElem?_map, List.getElem?_eq_getElem hi, Option.map_some, Option.getD_some, List.getElem?_cons_zero]
      rw [run_convert_bytes_arg w src e hs he b o _ c ((y :: r).map fun z : UInt8 => (z.toNat : Int)) (by simp) hcell dst hd]
      have : strOfNums ((y :: r).map fun z : UInt8 => (z.toNat : Int)) = ⟨(y :: r).toArray⟩ := by
        unfold strOfNums
        rw [List.map_map]
        congr 2
        exact (List.map_congr_left (fun z _ => by simp)).trans (List.map_id _)
      rw [this]
  simp [execOp, s.eval hx, key]

theorem RunV.max2 {ts : Array TypeId} (hx : ev S xo = some (.int k i)) (hy : ev S yo = some (.int k' j)) : RunV f S h L (.call { callee := .builtin .max, args := #[xo, yo], argTypes := ts }) ty (.int k (if i < j then j else i)) := fun ac w s _ _ _ _ => by
  simp [execOp, resolve, s.eval hx, s.eval hy, invoke, builtin, run_max_int2]
theorem RunV.min2 {ts : Array TypeId} (hx : ev S xo = some (.int k i)) (hy : ev S yo = some (.int k' j)) : RunV f S h L (.call { callee := .builtin .min, args := #[xo, yo], argTypes := ts }) ty (.int k (if j < i then j else i)) := fun ac w s _ _ _ _ => by
  simp [execOp, resolve, s.eval hx, s.eval hy, invoke, builtin, run_min_int2]
theorem RunV.makeFunc {fn : Go.Fn} {os1 os2 : List Operand} {v1 v2 : List Value} (h1 : evl S os1 = some v1) (h2 : evl S os2 = some v2) : RunV f S h L (.makeFunc fn os1.toArray os2.toArray) ty (.func fn v1.toArray v2.toArray) := fun ac w s _ _ _ _ => by
  simp [execOp, Instr.makeFunc, evl_spec s h1, evl_spec s h2]
/-- A slice held against nil. -/
theorem RunV.eql_nil {e sz : Nat} (hT : slT f.P T = some (e, sz)) (hx : ev S xo = some (.slice a ln c)) (hy : ev S yo = some (.slice none 0 0)) : RunV f S h L (.binOp .eql T xo yo yt) ty (.bool a.isNone) := RunV.bin hx hy fun w => by
  have hu := (slT_spec hT).1
  have key : ∀ m : Nat, (Op.equalIn (m + 1) T (.slice a ln c) (.slice none 0 0)).run f.P w = .ok a.isNone w := fun m => by
    cases a <;> simp [Op.equalIn, run_underlying hu]
  simp only [go_sem, binOp, Op.equal, Op.maxDepth]
  simp [key 9999]
end
end Go.Proofs.YtmngjbefnloljaaDoor
