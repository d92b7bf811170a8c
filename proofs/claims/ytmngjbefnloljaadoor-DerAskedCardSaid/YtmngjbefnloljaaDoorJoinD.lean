/- The arguments of this seat's laws: nodes, bytes, numbers; the library's tables. -/
import Derived.Test.YtmngjbefnloljaaDoorJoin
import Derived.Test.YtmngjbefnloljaaDoorDerP
import Derived.Lib.LaidU8
set_option linter.unusedSimpArgs false
set_option linter.unusedVariables false
set_option linter.constructorNameAsVariable false
namespace Go.Proofs.YtmngjbefnloljaaDoor
open Go Go.RowKit Go.ChangeShapes Go.WideShapes Go.Lib
set_option maxRecDepth 100000

theorem cells_u8 : Tryd.prog.cellsOf 5 = 1 := by kernel_rfl
theorem cells_int : Tryd.prog.cellsOf 3 = 1 := by kernel_rfl
theorem cells_bool : Tryd.prog.cellsOf 4 = 1 := by kernel_rfl
theorem cells_bytes : Tryd.prog.cellsOf 22 = 1 := by kernel_rfl
theorem cells_nodes : Tryd.prog.cellsOf 23 = 1 := by kernel_rfl
theorem cells_node : Tryd.prog.cellsOf 25 = 5 := by kernel_rfl
theorem bytes_u8 : 0 < Tryd.prog.bytesOf 5 := by rw [show Tryd.prog.bytesOf 5 = 1 by kernel_rfl]; decide
theorem bytes_node : 0 < Tryd.prog.bytesOf 25 := by rw [show Tryd.prog.bytesOf 25 = 72 by kernel_rfl]; decide

theorem sum_sz (l : List Nd) : (l.map Nd.sz).sum = Nd.szL l := by
  induction l with
  | nil => rfl
  | cons x r ih => simp [Nd.szL, ih]
theorem sum_one {α : Type} (l : List α) : (l.map fun _ => 1).sum = l.length := by
  induction l with
  | nil => rfl
  | cons x r ih => simp [ih]; omega
theorem opens_bytes (n : Nat) : Opens Tryd.prog (n + 1) 22 (slR u8R 1) 1 (fun l => (l.map fun _ => 1).sum + 1) := opens_slice Tryd.underlying22 cells_u8 (by decide) bytes_u8 (opens_u8 Tryd.underlying5)
theorem opens_nd : ∀ n, Opens Tryd.prog n 25 NdR 5 Nd.sz := by
  intro n
  induction n using Nat.strongRecOn with
  | _ n ih =>
    intro H enc W cs x h hw
    obtain ⟨xs, m, rfl, rfl, hl, hxl, hall⟩ := DataW.trod_struct Tryd.underlying25 h
    rw [cells_node] at hl
    match cs, hl with
    | [v0, v1, v2, v3, v4], _ =>
    match xs, hxl with
    | [x0, x1, x2, x3, x4], _ =>
    have h0 : DataW.trod enc Tryd.prog W 0 (fun _ => true) true m 3 ((List.drop 0 [v0, v1, v2, v3, v4]).take (Tryd.prog.cellsOf 3)) = some x0 := hall 0 _ rfl
    rw [cells_int] at h0
    change DataW.trod enc Tryd.prog W 0 (fun _ => true) true m 3 [v0] = some x0 at h0
    have h1 : DataW.trod enc Tryd.prog W 0 (fun _ => true) true m 3 ((List.drop 1 [v0, v1, v2, v3, v4]).take (Tryd.prog.cellsOf 3)) = some x1 := hall 1 _ rfl
    rw [cells_int] at h1
    change DataW.trod enc Tryd.prog W 0 (fun _ => true) true m 3 [v1] = some x1 at h1
    have h2 : DataW.trod enc Tryd.prog W 0 (fun _ => true) true m 4 ((List.drop 2 [v0, v1, v2, v3, v4]).take (Tryd.prog.cellsOf 4)) = some x2 := hall 2 _ rfl
    rw [cells_bool] at h2
    change DataW.trod enc Tryd.prog W 0 (fun _ => true) true m 4 [v2] = some x2 at h2
    have h3 : DataW.trod enc Tryd.prog W 0 (fun _ => true) true m 22 ((List.drop 3 [v0, v1, v2, v3, v4]).take (Tryd.prog.cellsOf 22)) = some x3 := hall 3 _ rfl
    rw [cells_bytes] at h3
    change DataW.trod enc Tryd.prog W 0 (fun _ => true) true m 22 [v3] = some x3 at h3
    have h4 : DataW.trod enc Tryd.prog W 0 (fun _ => true) true m 23 ((List.drop 4 [v0, v1, v2, v3, v4]).take (Tryd.prog.cellsOf 23)) = some x4 := hall 4 _ rfl
    rw [cells_nodes] at h4
    change DataW.trod enc Tryd.prog W 0 (fun _ => true) true m 23 [v4] = some x4 at h4
    simp only [DataW.weights, Tryd.underlying25, List.map_cons, List.map_nil, DataW.weightsEach, List.all_append, Bool.and_eq_true, List.append_nil] at hw
    obtain ⟨w0, w1, w2, w3, w4⟩ := hw
    cases m with
    | zero => simp [DataW.trod] at h0
    | succ m =>
      obtain ⟨c, e0, rfl, _⟩ := DataW.trod_int Tryd.underlying3 h0
      obtain ⟨t, e1, rfl, _⟩ := DataW.trod_int Tryd.underlying3 h1
      obtain ⟨k, e2, rfl⟩ := DataW.trod_bool Tryd.underlying4 h2
      cases e0
      cases e1
      cases e2
      obtain ⟨bs, _, ⟨a, ca, e3, hb⟩, hm3⟩ := opens_bytes m enc W _ _ h3 w3
      obtain ⟨ks, _, ⟨b, cb, e4, hk⟩, hm4⟩ := opens_slice Tryd.underlying23 cells_node (by decide) bytes_node (ih m (by omega)) enc W _ _ h4 w4
      cases e3
      cases e4
      refine ⟨.mk c t k bs ks, rfl, NdR.of hb hk, ?_⟩
      simp only [sum_one] at hm3
      simp only [sum_sz] at hm4
      simp only [Nd.sz, Rows.uptoBulk, List.map_cons, List.map_nil, Rows.uptoBulkAll]
      omega
theorem opens_nodes (n : Nat) : Opens Tryd.prog (n + 1) 23 (slR NdR 5) 1 (fun l => (l.map Nd.sz).sum + 1) := opens_slice Tryd.underlying23 cells_node (by decide) bytes_node (opens_nd n)

/-! ## arguments -/
section
variable {H : Type} {enc : TypeId × Value → H} {W : World} {base : Nat} {v : Value} {d : DataW H} {ps : List MemPlace}
theorem arg_node (hval : Value.okWide Tryd.prog W .any base 25 v) (hd : DataW.Trod enc Tryd.prog W 0 (fun _ => true) true 25 v d ps) (hw : (d.weights Tryd.prog 25).all (· ≤ reachBytes) = true) :
    ∃ cs x, v = .agg (List.toArray cs) ∧ NdR (partOf W) cs x ∧ x.sz ≤ Rows.uptoBulk d := by
  simp only [Value.okWide, Tryd.underlying25] at hval
  obtain ⟨cs, rfl, _, _⟩ := hval
  obtain ⟨n, hn⟩ := hd
  obtain ⟨x, _, hx, hs⟩ := opens_nd n enc W _ _ hn hw
  exact ⟨cs.toList, x, by simp, hx, hs⟩
theorem arg_sl {α : Type} {R : Rep α} {sz : Nat} {μ : List α → Nat} {t e : TypeId} (hu : Tryd.prog.underlying t = some (.slice e)) (ho : ∀ n, Opens Tryd.prog (n + 1) t (slR R sz) 1 μ) (hval : Value.okWide Tryd.prog W .any base t v) (hd : DataW.Trod enc Tryd.prog W 0 (fun _ => true) true t v d ps)
    (hw : (d.weights Tryd.prog t).all (· ≤ reachBytes) = true) : ∃ a c l, v = .slice a (List.length l) c ∧ SlR R sz (partOf W) a c l ∧ μ l ≤ Rows.uptoBulk d := by
  obtain ⟨n, hn⟩ := hd
  cases n with
  | zero => simp [DataW.trod] at hn
  | succ n =>
    obtain ⟨l, _, ⟨a, c, hcs, hR⟩, hs⟩ := ho n enc W _ _ hn hw
    refine ⟨a, c, l, ?_, hR, hs⟩
    simp only [Value.okWide, hu] at hval
    cases v <;> simp [Value.cells] at hcs <;> first | (simp [hcs]; done) | (simp [Cell.okWide, Cell.ok, hu] at hval)
theorem arg_i {k : IntKind} {t : TypeId} (hu : Tryd.prog.underlying t = some (.int k)) (hval : Value.okWide Tryd.prog W .any base t v) (hd : DataW.Trod enc Tryd.prog W 0 (fun _ => true) true t v d ps) : ∃ n, v = .int k n ∧ (Lit.int k n).wf = true := by
  obtain ⟨n, h1, _, _, h2⟩ := open_int hu hval hd
  exact ⟨n, h1, h2⟩
theorem arg_b {t : TypeId} (hu : Tryd.prog.underlying t = some .bool) (hval : Value.okWide Tryd.prog W .any base t v) (hd : DataW.Trod enc Tryd.prog W 0 (fun _ => true) true t v d ps) : ∃ b, v = .bool b := by
  obtain ⟨b, h1, _⟩ := open_bool hu hval hd
  exact ⟨b, h1⟩
end

/-! ## the tables -/
theorem tabs_laid {W : World} {l : List (String × DataW Unit)} (h : laidMet Tryd.prog l W) (m3 : ("unicode/utf8.first", Go.Pinned.utf8First) ∈ l) (m4 : ("unicode/utf8.acceptRanges", acceptData) ∈ l) : Tabs (partOf W) := by
  obtain ⟨g, t, cs, fuel, p, hg, hty, hvar, hd⟩ := laidMet.reads h m3
  obtain rfl := Option.some.inj ((show Tryd.prog.globalNamed "unicode/utf8.first" = some 1 by kernel_rfl).symm.trans hg)
  obtain rfl := Option.some.inj ((show (Tryd.prog.globals[1]?).map (·.type) = some 180 by kernel_rfl).symm.trans hty)
  rw [show Go.Pinned.utf8First = firstData by kernel_rfl] at hd
  have hcs := cells_of_tab Tryd.underlying180 Tryd.underlying5 cells_u8 (by kernel_rfl) hd
  have h1 : ∀ c, c < 256 → W.cell? ⟨1, c, none⟩ = some (.int .u8 (firstT c)) := fun c hc => by
    rw [World.var?_cell hg hvar c, ← Array.getElem?_toList, hcs]
    simp [firstTab, hc]
  obtain ⟨g, t, cs, fuel, p, hg, hty, hvar, hd⟩ := laidMet.reads h m4
  obtain rfl := Option.some.inj ((show Tryd.prog.globalNamed "unicode/utf8.acceptRanges" = some 2 by kernel_rfl).symm.trans hg)
  obtain rfl := Option.some.inj ((show (Tryd.prog.globals[2]?).map (·.type) = some 183 by kernel_rfl).symm.trans hty)
  have h2 : ∀ i, i < 16 → W.cell? ⟨2, 2 * i, none⟩ = some (.int .u8 (accLo i)) ∧ W.cell? ⟨2, 2 * i + 1, none⟩ = some (.int .u8 (accHi i)) := fun i hi => by
    obtain ⟨fuel', d, q, hdi, he⟩ := array_elem Tryd.underlying183 hd i hi
    simp only [List.getElem?_map, List.getElem?_range hi, Option.map_some, Option.some.injEq] at hdi
    subst hdi
    have hc2 : Tryd.prog.cellsOf 182 = 2 := by kernel_rfl
    rw [hc2] at he
    have hcs := ints_of_struct Tryd.underlying182 (fun j f hj => by
      match j, hj with
      | 0, hj => simp at hj; subst hj; exact ⟨Tryd.underlying5, rfl, cells_u8⟩
      | 1, hj => simp at hj; subst hj; exact ⟨Tryd.underlying5, rfl, cells_u8⟩
      | j + 2, hj => simp at hj) (by rw [hc2]; rfl) he
    have e0 := congrArg (·[0]?) hcs
    have e1 := congrArg (·[1]?) hcs
    simp only [List.getElem?_take, List.getElem?_drop] at e0 e1
    constructor
    · rw [World.var?_cell hg hvar (2 * i), ← Array.getElem?_toList]
      simpa [Nat.mul_comm] using e0
    · rw [World.var?_cell hg hvar (2 * i + 1), ← Array.getElem?_toList]
      simpa [Nat.mul_comm] using e1
  obtain ⟨C1, k1, _⟩ := partOf_cell (h1 0 (by decide))
  obtain ⟨C2, k2, _⟩ := partOf_cell (h2 0 (by decide)).1
  have same : ∀ {b i v C}, partOf W b = some C → W.cell? ⟨b, i, none⟩ = some v → C[i]? = some v := fun hC hv => by
    obtain ⟨C', hC', hi⟩ := partOf_cell hv
    rw [hC] at hC'
    cases hC'
    exact hi
  exact ⟨C1, C2, k1, k2, fun c hc => same k1 (h1 c hc), fun i hi => ⟨same k2 (h2 i hi).1, same k2 (h2 i hi).2⟩⟩

/-! ## a law's end -/
def plainTs : List TypeId := [5, 3, 4, 22, 23, 25]
theorem plainTs_ok : plainB Tryd.prog plainTs = true := by kernel_rfl
theorem finish {H : Type} {enc : TypeId × Value → H} {ts : List TypeId} {F : Nat} {f : Func} {s : ChangeSpec} {apart fresh handsOn again : Bool} {W : World} {args : Array Value} {ds gs : List (DataW H)} {before : List MemPlace} (hp : plainB Tryd.prog ts = true) (hts : ∀ t ∈ f.params.toList, t ∈ ts) (hres : f.resultTypes = #[4]) (hv : s.vars = [])
    (hfn : s.fn H (ds ++ gs) = { results := [.lit (.bool true)], args := ds }) (hW : DataW.Whole enc Tryd.prog f.params.toList s.vars apart W args.toList ds gs before) (hF : Pure Tryd.prog F args.toList (partOf W) (.bool true)) :
    Calls Tryd.prog F args W fun e W' => ∃ v, e = .returned v ∧ s.post enc Tryd.prog f apart fresh handsOn again W args v W' := by
  have := hF W (ok_start W)
  rw [Array.toArray_toList] at this
  refine this.mono fun e w' ⟨h', Lo, ⟨u, he, hu, _, _⟩, hO⟩ => ?_
  subst hu
  exact ⟨.bool true, he, post_keep hp hts hres Tryd.underlying4 hv hfn hW hO.os hO.output hO.size (fun b hb => hO.old b hb (by simp [keys]))⟩

def layCells (cs : List Value) : Obj → Obj
  | .cells _ t frozen => .cells cs.toArray t frozen
  | o => o
/-- A world in which the tables are laid. -/
noncomputable def laidWorld (os : Os) : World :=
  { World.holding Tryd.prog os ⟨#[], #[], []⟩ with heap := ((World.holding Tryd.prog os ⟨#[], #[], []⟩).heap.modify 1 (layCells (firstTab.map fun z => Value.int .u8 z))).modify 2 (layCells ((List.range 16).flatMap fun i => [Value.int .u8 (accLo i), Value.int .u8 (accHi i)])) }
end Go.Proofs.YtmngjbefnloljaaDoor
