/- Rows of digits of 2 to the 32, each in a cell of 32 or of 64 bits; windows in them. -/
import Derived.Test.YtmngjbefnloljaaDoorNatM
set_option linter.unusedSimpArgs false
set_option linter.unusedVariables false
set_option linter.constructorNameAsVariable false
namespace Go.Proofs.YtmngjbefnloljaaDoor
open Go Go.RowKit
def ws (k : IntKind) (l : List UInt32) : List Value := l.map fun x => .int k (x.toNat : Int)
theorem ws_len (k : IntKind) (l : List UInt32) : (ws k l).length = l.length := by simp [ws]
theorem ws_set (k : IntKind) (l : List UInt32) (i : Nat) (x : UInt32) : (ws k l).set i (.int k (x.toNat : Int)) = ws k (l.set i x) := by simp [ws, List.map_set]
theorem d32_get (l : List UInt32) (i : Nat) (h : i < l.length) : d32 l i = l[i].toNat := by unfold d32; simp [h]
theorem ws_at (k : IntKind) (l : List UInt32) (i : Nat) (h : i < l.length) : (ws k l)[i]? = some (.int k (d32 l i : Nat)) := by
  rw [d32_get l i h]; simp [ws, h]
theorem digN_zero : ∀ m, digN m 0 = List.replicate m 0
  | 0 => rfl
  | m + 1 => by rw [digN, Nat.zero_div, digN_zero m]; rfl
theorem ws_zero (k : IntKind) (m : Nat) : List.replicate m (Value.int k 0) = ws k (digN m 0) := by rw [digN_zero]; simp [ws]
theorem CellsR.of_ws32 {h : Part} {l : List UInt32} : CellsR u32R 1 h (ws .u32 l) l := ⟨by simp [ws], fun i x hx => by
  unfold u32R
  rw [Nat.mul_one, List.take_one, List.head?_drop]
  simp [ws, hx]⟩
theorem CellsR.of_ws64 {h : Part} {l : List UInt32} : CellsR u64R 1 h (ws .u64 l) (l.map m64) := ⟨by simp [ws], fun i x hx => by
  unfold u64R
  rw [List.getElem?_map, Option.map_eq_some_iff] at hx
  obtain ⟨y, hy, rfl⟩ := hx
  rw [Nat.mul_one, List.take_one, List.head?_drop, m64_nat]
  simp [ws, hy]⟩
theorem cutZ_map (l : List UInt32) : cutZ (l.map m64) = (toL (vL l)).map m64 := by
  rw [← trim_toL]
  unfold cutZ trimL
  rw [tsz_congr (d64_map l), List.length_map, List.map_take]
theorem map_n32 (l : List UInt32) : (l.map m64).map n32 = l := by
  rw [List.map_map]
  conv => rhs; rw [← List.map_id l]
  exact List.map_congr_left (fun x _ => n32_m64 x)

section
variable {f : Fr} {n : Post} {x : Nat → Post} {S : Sig} {h : Part} {L L' : List Ent} {ops : Array Oper} {rest : List Oper}
variable {ty : TypeId} {pos : String} {af : Array Edge} {d : Nat} {v : Value} {T : TypeId} {xo yo : Operand}
theorem RunV.wload {g c t m i : Nat} {k : IntKind} {l : List UInt32} (hT : aggT f.P T = some none) (hx : ev S xo = some (.pointer (some ⟨g, i, none⟩))) (hm : Ent.row (some ⟨g, 0, none⟩) c t 1 m (ws k l) ∈ L) (hi : i < l.length) : RunV f S h L (.load T xo) ty (.int k (d32 l i : Nat)) :=
  RunV.rowload hT hx hm (ws_at k l i hi)
theorem JL.storeW (t0 : Nat) {g c t m i : Nat} {k : IntKind} {p : Int} {l : List UInt32} (hT : aggT f.P T = some none) (hx : ev S xo = some (.pointer (some ⟨g, i, none⟩))) (hy : ev S yo = some (.int k p)) (hp : p = ((t0 % 4294967296 : Nat) : Int)) (u : Del (.row (some ⟨g, 0, none⟩) c t 1 m (ws k l)) L L') (hi : i < l.length)
    (kk : JL f ops n x rest S h (.row (some ⟨g, 0, none⟩) c t 1 m (ws k (l.set i (UInt32.ofNat t0))) :: L')) : JL f ops n x (⟨none, .store T xo yo, ty, pos, af, none⟩ :: rest) S h L := by
  refine JL.storeRow hT hx hy rfl u (by rw [ws_len]; exact hi) ?_
  have e : p = ((UInt32.ofNat t0).toNat : Int) := by rw [hp, UInt32.toNat_ofNat']
  rw [e, ws_set]
  exact kk
/-- An index within a window of a row. -/
theorem RunV.index_off {e g o ln c m : Nat} {k : IntKind} {i : Int} (hT : slT f.P T = some (e, 1)) (hx : ev S xo = some (.slice (some ⟨g, o, none⟩) ln c)) (hy : ev S yo = some (.int k i)) (hi : i = (m : Int)) (h1 : m < ln) :
    RunV f S h L (.indexAddr T xo yo) ty (.pointer (some ⟨g, o + m, none⟩)) := fun ac w s _ _ _ _ => by
  subst hi
  obtain ⟨hu, inf, hi, hs⟩ := slT_spec hT
  have h0 : (0 : Int) ≤ m := by omega
  have h2 : (m : Int) < ln := by omega
  simp [execOp, s.eval hx, s.eval hy, Instr.indexAt, run_underlying hu, asIntOf, sizeOf, typeInfo, hi, hs, h1, Addr.add_lit]
theorem JL.pub32 {a : Option Addr} {c t m : Nat} {l : List UInt32} {l0 : List Oper} (u : Del (.row a c t 1 m (ws .u32 l)) L L') (hn : m = l.length) (hb : l.length ≤ 140737488355328) (k : ∀ h', h.le h' → SlR u32R 1 h' a c l → JL f ops n x l0 S h' L') : JL f ops n x l0 S h L :=
  JL.pub u CellsR.of_ws32 hn hb k
theorem JL.pub64 {a : Option Addr} {c t m : Nat} {l : List UInt32} {l0 : List Oper} (u : Del (.row a c t 1 m (ws .u64 l)) L L') (hn : m = l.length) (hb : l.length ≤ 140737488355328) (k : ∀ h', h.le h' → SlR u64R 1 h' a c (l.map m64) → JL f ops n x l0 S h' L') : JL f ops n x l0 S h L :=
  JL.pub u CellsR.of_ws64 (by rw [hn, List.length_map]) (by rw [List.length_map]; exact hb) k
end
end Go.Proofs.YtmngjbefnloljaaDoor
