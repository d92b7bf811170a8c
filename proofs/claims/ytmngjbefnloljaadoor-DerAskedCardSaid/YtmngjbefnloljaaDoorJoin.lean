/- From a law's row to a call of my own logic, and back: the arguments as data, the memory at the call's begin as the part that nobody writes, the post behind the call. -/
import Derived.Test.YtmngjbefnloljaaDoorCards
import Derived.Test.YtmngjbefnloljaaDoorTie
import Derived.Test.YtmngjbefnloljaaDoorBld
import Derived.WalkKit
import Derived.ProofKit
import Derived.OpenShut
import Derived.Deep.DeepHandedRow
import Derived.Lib.LaidTab
import Derived.SevenTiedAt
set_option linter.unusedSimpArgs false
set_option linter.unusedVariables false
set_option linter.constructorNameAsVariable false
namespace Go.Proofs.YtmngjbefnloljaaDoor
open Go Go.RowKit Go.ChangeShapes Go.WideShapes

/-! ## the memory at the begin -/
def partOf (w : World) : Part := fun b => match w.heap[b]? with
  | some (.cells c _ _) => some c
  | _ => none
theorem partOf_sub (w : World) : Sub (partOf w) w := fun b c hc => by
  unfold partOf at hc
  split at hc
  · rename_i c' t fr hh; cases hc; exact ⟨t, fr, hh⟩
  · cases hc
theorem partOf_cell {w : World} {b i : Nat} {v : Value} (h : w.cell? ⟨b, i, none⟩ = some v) : ∃ c, partOf w b = some c ∧ c[i]? = some v := by
  unfold World.cell? at h
  split at h
  · rename_i c t fr hh
    exact ⟨c, by unfold partOf; rw [hh], by simpa using h⟩
  · cases h
theorem ok_start (w : World) : Ok ⟨w, (· ∈ keys []), partOf w, []⟩ (partOf w) [] w :=
  ⟨rfl, rfl, rfl, Nat.le_refl _, fun _ _ _ => rfl, partOf_sub w, Part.le.refl _, fun _ _ hc => .inl hc, (fun x hx => by cases hx), (fun b hb => by cases hb), List.nodup_nil⟩

/-! ## types of plain data -/
def plainOne (P : Program) (ts : List TypeId) (t : TypeId) : Bool := match P.underlying t with
  | some .bool => true
  | some (.int _) => true
  | some .string => true
  | some (.slice e) => ts.contains e && decide (0 < P.cellsOf e)
  | some (.struct fs) => fs.toList.all fun f => ts.contains f.type
  | some (.array _ e) => ts.contains e
  | _ => false
def plainB (P : Program) (ts : List TypeId) : Bool := ts.all (plainOne P ts)

theorem mapM_of_get {α β : Type} {f : α → Option β} : ∀ {l : List α} {r : List β}, l.length = r.length → (∀ (i : Nat) (x : α), l[i]? = some x → f x = r[i]?) → l.mapM f = some r
  | [], [], _, _ => rfl
  | x :: l, y :: r, hl, h => by
    have h0 := h 0 x rfl
    have h1 := mapM_of_get (l := l) (r := r) (by simpa using hl) (fun i z hz => by simpa using h (i + 1) z (by simpa using hz))
    rw [List.mapM_cons, h0]
    simp [h1]
theorem cells_keep {w w' : World} (hh : ∀ b, b < w.heap.size → w'.heap[b]? = w.heap[b]?) {base n : Nat} {a : Addr} {cs : List Value} (h : w.cells? base a n = some cs) : w'.cells? base a n = some cs := by
  unfold World.cells? at h ⊢
  split at h
  · rename_i hb
    rw [if_pos hb]
    refine mapM_carry h fun i v _ _ hv => ?_
    have hlt : (a.add i).block < w.heap.size := World.block_lt_of_cell? w _ hv
    have : w'.cell? (a.add i) = w.cell? (a.add i) := by unfold World.cell?; rw [hh _ hlt]
    rw [this]; exact hv
  · cases h

section
variable {H : Type} {enc : TypeId × Value → H} {P : Program} {w w' : World} {base : Nat} {held : Bool} {sp : Nat → Bool} {ts : List TypeId}
theorem trod_keep (hp : plainB P ts = true) (hh : ∀ b, b < w.heap.size → w'.heap[b]? = w.heap[b]?) (hsp : ∀ b, b < w.heap.size → sp b = true) : ∀ (n : Nat) (t : TypeId) (cs : List Value) (x : DataW H × List MemPlace), t ∈ ts →
    DataW.trod enc P w base (fun _ => true) held n t cs = some x → DataW.trod enc P w' base sp held n t cs = some x := by
  intro n
  induction n with
  | zero => intro t cs x _ h; simp [DataW.trod] at h
  | succ n ih =>
    intro t cs x ht h
    have h1 := List.all_eq_true.1 hp t ht
    unfold plainOne at h1
    split at h1
    · rename_i hu
      obtain ⟨b, rfl, rfl⟩ := DataW.trod_bool hu h
      simp [DataW.trod, hu]
    · rename_i k hu
      obtain ⟨b, rfl, rfl, hw⟩ := DataW.trod_int hu h
      simp [DataW.trod, hu, hw]
    · rename_i hu
      obtain ⟨s, rfl, rfl, hw⟩ := DataW.trod_string hu h
      simp [DataW.trod, hu, hw]
    · rename_i e hu
      simp only [Bool.and_eq_true, decide_eq_true_eq, List.contains_iff_mem] at h1
      obtain ⟨he, hpos⟩ := h1
      rcases DataW.trod_slice hu h with ⟨rfl, rfl⟩ | ⟨a, len, cap, elems, rest, m, hm, rfl, rfl, h2, h3, h4, h5, h6, h7, _⟩
      · simp [DataW.trod, hu]
      · obtain rfl : n = m := by omega
        obtain ⟨h7, h8⟩ := h7 rfl
        have one : ∀ i y, (w.cells? base (a.add (i * P.cellsOf e)) (P.cellsOf e)).bind (DataW.trod enc P w base (fun _ => true) held n e) = some y → (w'.cells? base (a.add (i * P.cellsOf e)) (P.cellsOf e)).bind (DataW.trod enc P w' base sp held n e) = some y := fun i y hy => by
          rw [Option.bind_eq_some_iff] at hy ⊢
          obtain ⟨c, hc, hy⟩ := hy
          exact ⟨c, cells_keep hh hc, ih e c y he hy⟩
        have h : (if base ≤ a.block ∧ len ≤ cap ∧ cap ≤ maxLen then
            ((List.range len).mapM fun i => (w.cells? base (a.add (i * P.cellsOf e)) (P.cellsOf e)).bind (DataW.trod enc P w base (fun _ => true) held n e)).bind fun elems =>
              (if true = true then (List.range (cap - len)).mapM fun j => (w.cells? base (a.add ((len + j) * P.cellsOf e)) (P.cellsOf e)).bind (DataW.trod enc P w base (fun _ => true) held n e) else some []).map fun rest =>
                ((.slice (elems.map (·.1)) (rest.map (·.1)) : DataW H), MemPlace.row a ((elems.length + rest.length) * P.cellsOf e) ++ (elems ++ rest).flatMap (·.2)) else none) = some (.slice (elems.map (·.1)) (rest.map (·.1)), MemPlace.row a ((elems.length + rest.length) * P.cellsOf e) ++ (elems ++ rest).flatMap (·.2)) := by
          have := h
          simp only [DataW.trod, hu] at this
          simpa using this
        show DataW.trod enc P w' base sp held (n + 1) t [.slice (some a) len cap] = _
        simp only [DataW.trod, hu]
        rw [if_pos ⟨h2, h3, h4⟩] at h ⊢
        rw [Option.bind_eq_some_iff] at h ⊢
        obtain ⟨el, g1, g2⟩ := h
        refine ⟨el, mapM_carry g1 fun i y _ _ hy => one i y hy, ?_⟩
        rw [Option.map_eq_some_iff] at g2 ⊢
        obtain ⟨re, g3, g4⟩ := g2
        refine ⟨re, ?_, g4⟩
        rw [if_pos rfl] at g3
        by_cases hs : sp a.block = true
        · rw [if_pos hs]
          exact mapM_carry g3 fun i y _ _ hy => one _ y hy
        · rw [if_neg hs]
          have hlen := mapM_some_length g3
          simp only [List.length_range] at hlen
          cases re with
          | nil => rfl
          | cons y r =>
            exfalso
            simp only [List.length_cons] at hlen
            have h9 := mapM_some_get g3 0 0 (by rw [List.getElem?_range (by omega)])
            simp only [List.getElem?_cons_zero] at h9
            rw [Option.bind_eq_some_iff] at h9
            obtain ⟨c, hc, _⟩ := h9
            have hlt := World.cells?_block hc hpos
            have e1 : (a.add ((len + 0) * P.cellsOf e)).block = a.block := by unfold Addr.add; split <;> rfl
            rw [e1] at hlt
            exact hs (hsp _ hlt)
    · rename_i fs hu
      obtain ⟨xs, m, hm, rfl, hl, hxl, hall⟩ := DataW.trod_struct hu h
      obtain rfl : n = m := by omega
      have hx : (fs.toList.mapM fun f => DataW.trod enc P w' base sp held n f.type ((cs.drop f.offset).take (P.cellsOf f.type))) = some xs := by
        refine mapM_of_get (by simp [hxl]) fun i f hf => ?_
        have hf' : fs[i]? = some f := by simpa using hf
        have hlt : i < xs.length := by rw [hxl]; exact (Array.getElem?_eq_some_iff.1 hf').1
        have h8 := hall i f hf'
        rw [List.getElem?_eq_getElem hlt] at h8 ⊢
        exact ih f.type _ _ (by have := List.all_eq_true.1 h1 f (List.mem_of_getElem? hf); simpa using this) h8
      exact trod_struct_mk hu hl hx
    · rename_i k e hu
      simp only [List.contains_iff_mem] at h1
      simp only [DataW.trod, hu] at h ⊢
      have key : ∀ xs, ((List.range k).mapM fun i => DataW.trod enc P w base (fun _ => true) held n e ((cs.drop (i * P.cellsOf e)).take (P.cellsOf e))) = some xs → ((List.range k).mapM fun i => DataW.trod enc P w' base sp held n e ((cs.drop (i * P.cellsOf e)).take (P.cellsOf e))) = some xs := fun xs hx =>
        mapM_carry hx fun i y _ _ hy => ih e _ y h1 hy
      split at h
      · rename_i hc
        rw [if_pos hc]
        rw [Option.map_eq_some_iff] at h ⊢
        obtain ⟨xs, hx, rfl⟩ := h
        exact ⟨xs, key xs hx, rfl⟩
      · cases h
    · cases h1
theorem trodAll_keep (hp : plainB P ts = true) (hh : ∀ b, b < w.heap.size → w'.heap[b]? = w.heap[b]?) (hsp : ∀ b, b < w.heap.size → sp b = true) : ∀ {us : List TypeId} {vs : List Value} {ds : List (DataW H)} {ps : List MemPlace}, (∀ t ∈ us, t ∈ ts) →
    DataW.TrodAll enc P w base (fun _ => true) held us vs ds ps → DataW.TrodAll enc P w' base sp held us vs ds ps
  | [], [], [], _, _, h => h
  | _ :: _, _ :: _, _ :: _, _, hm, ⟨a, b, ⟨n, h1⟩, h2, e⟩ => ⟨a, b, ⟨n, trod_keep hp hh hsp n _ _ _ (hm _ (List.mem_cons_self ..)) h1⟩, trodAll_keep hp hh hsp (fun t ht => hm t (List.mem_cons_of_mem _ ht)) h2, e⟩

/-- The post of a law: true; every argument as it was. -/
theorem post_keep {f : Func} {s : ChangeSpec} {apart fresh handsOn again : Bool} {W W' : World} {args : Array Value} {ds gs : List (DataW H)} {before : List MemPlace} {tb : TypeId} (hp : plainB P ts = true) (hts : ∀ t ∈ f.params.toList, t ∈ ts) (hres : f.resultTypes = #[tb]) (htb : P.underlying tb = some .bool) (hv : s.vars = [])
    (hfn : s.fn H (ds ++ gs) = { results := [.lit (.bool true)], args := ds })
    (hW : DataW.Whole enc P f.params.toList s.vars apart W args.toList ds gs before) (hos : W'.os = W.os) (hout : W'.output = W.output) (hsz : W.heap.size ≤ W'.heap.size) (hh : ∀ b, b < W.heap.size → W'.heap[b]? = W.heap[b]?) :
    s.post enc P f apart fresh handsOn again W args (.bool true) W' := by
  have hlt := hW.lt
  have hW' := hW
  obtain ⟨pa, pv, hA, hV, rfl, hz, hn⟩ := hW
  rw [hv] at hV
  obtain ⟨rfl, rfl⟩ := trodVars_none hV
  have hres' : ∀ (b : Nat) (sp : Nat → Bool) (hd : Bool), DataW.TrodAll enc P W' b sp hd f.resultTypes.toList ((Value.bool true).resultList f.resultTypes.size) [.lit (.bool true)] [] := fun b sp hd => by
    rw [hres]
    exact trodAll_mk1 (shut_bool htb true)
  have hA' : ∀ sp : Nat → Bool, (∀ b, b < W.heap.size → sp b = true) → DataW.TrodAll enc P W' 0 sp true f.params.toList args.toList ds pa := fun sp hsp => trodAll_keep hp hh hsp hts hA
  have hk : W.keptBut W' (fun _ => False) := by
    refine ⟨hos, hout, fun i hi => ?_⟩
    rw [hh i hi]
    cases W.heap[i]? with
    | none => simp
    | some o => cases o <;> simp
  refine ⟨ds, [], pa ++ [], [], pa, [], hW', by rw [hfn]; exact hres' _ _ _, by rw [hfn]; exact hA' _ (fun b hb => by simpa using hb), by rw [hfn, hv]; exact (rfl : [] = []), World.keptBut_mono (fun p hp => hp.elim) hk, fun _ => ⟨fun j t r h1 h2 => ?_, _, [], ([] ++ pa) ++ [], ⟨[] ++ pa, [], trodAll_append (hA' (fun _ => true) (fun _ _ => rfl)) (hres' _ _ _), by rw [hv]; exact (rfl : [] = []), rfl, ?_, ?_⟩, ?_⟩⟩
  · rw [hres] at h1 h2
    match j, h1, h2 with
    | 0, h1, h2 =>
      simp only [List.getElem?_toArray, List.getElem?_cons_zero, Option.some.injEq] at h1
      subst h1
      have : r = .bool true := by simpa [Value.resultList] using h2.symm
      subst this
      exact okWide_bool_mk htb true
    | j + 1, h1, h2 => simp at h1
  · intro b off hp
    have hp' : MemPlace.cell b off ∈ pa ++ [] := by simpa using hp
    have hb : b < W.heap.size := hlt _ hp'
    have : W'.frozen? ⟨b, off, none⟩ = W.frozen? ⟨b, off, none⟩ := by unfold World.frozen?; rw [hh b hb]
    rw [this]
    exact hz b off hp'
  · intro ha
    have := hn ha
    simpa using this
  · intro p hp _
    simpa using hp
end

/-! ## the arguments -/
def Opens {α : Type} (P : Program) (n : Nat) (t : TypeId) (R : Rep α) (sz : Nat) (μ : α → Nat) : Prop :=
  ∀ {H : Type} (enc : TypeId × Value → H) (W : World) (cs : List Value) (x : DataW H × List MemPlace), DataW.trod enc P W 0 (fun _ => true) true n t cs = some x → (x.1.weights P t).all (· ≤ reachBytes) = true →
    ∃ y, cs.length = sz ∧ R (partOf W) cs y ∧ μ y ≤ Rows.uptoBulk x.1

theorem opens_u8 {P : Program} {n : Nat} {t : TypeId} (ht : P.underlying t = some (.int .u8)) : Opens P n t u8R 1 (fun _ => 1) := fun enc W cs x h _ => by
  obtain ⟨k, rfl, rfl, hw⟩ := DataW.trod_int ht h
  have hb := bounds_u8 hw
  refine ⟨UInt8.ofNat k.toNat, rfl, ?_, by simp [Rows.uptoBulk]⟩
  unfold u8R
  congr 2
  simp; omega
theorem opens_u32 {P : Program} {n : Nat} {t : TypeId} (ht : P.underlying t = some (.int .u32)) : Opens P n t u32R 1 (fun _ => 1) := fun enc W cs x h _ => by
  obtain ⟨k, rfl, rfl, hw⟩ := DataW.trod_int ht h
  have hb := bounds_u32 hw
  refine ⟨UInt32.ofNat k.toNat, rfl, ?_, by simp [Rows.uptoBulk]⟩
  unfold u32R
  congr 2
  simp; omega
def iR (k : IntKind) : Rep Int := fun _ cs x => cs = [.int k x] ∧ (Lit.int k x).wf = true
def boolR : Rep Bool := fun _ cs x => cs = [.bool x]
def strR' : Rep (List UInt8) := fun _ cs x => cs = [.string ⟨x.toArray⟩] ∧ x.length ≤ reachBytes
theorem opens_int {P : Program} {n : Nat} {t : TypeId} {k : IntKind} (ht : P.underlying t = some (.int k)) : Opens P n t (iR k) 1 (fun _ => 1) := fun enc W cs x h _ => by
  obtain ⟨m, rfl, rfl, hw⟩ := DataW.trod_int ht h
  exact ⟨m, rfl, ⟨rfl, hw⟩, by simp [Rows.uptoBulk]⟩
theorem opens_bool {P : Program} {n : Nat} {t : TypeId} (ht : P.underlying t = some .bool) : Opens P n t boolR 1 (fun _ => 1) := fun enc W cs x h _ => by
  obtain ⟨b, rfl, rfl⟩ := DataW.trod_bool ht h
  exact ⟨b, rfl, rfl, by simp [Rows.uptoBulk]⟩
theorem opens_str {P : Program} {n : Nat} {t : TypeId} (ht : P.underlying t = some .string) : Opens P n t strR' 1 (fun l => l.length + 1) := fun enc W cs x h hw => by
  obtain ⟨s, rfl, rfl, hs⟩ := DataW.trod_string ht h
  refine ⟨s.data.toList, rfl, ⟨by simp, ?_⟩, by simp [Rows.uptoBulk]⟩
  simpa [DataW.weights] using hw

theorem list_of {α : Type} {p : Nat → α → Prop} : ∀ (n : Nat), (∀ i, i < n → ∃ x, p i x) → ∃ l : List α, l.length = n ∧ ∀ i x, l[i]? = some x → p i x
  | 0, _ => ⟨[], rfl, fun i x h => by simp at h⟩
  | n + 1, h => by
    obtain ⟨l, hl, hp⟩ := list_of n (fun i hi => h i (by omega))
    obtain ⟨x, hx⟩ := h n (by omega)
    refine ⟨l ++ [x], by simp [hl], fun i y hy => ?_⟩
    by_cases hi : i < l.length
    · rw [List.getElem?_append_left hi] at hy; exact hp i y hy
    · rw [List.getElem?_append_right (by omega)] at hy
      have : i - l.length = 0 := by
        rcases Nat.eq_zero_or_pos (i - l.length) with h0 | h0
        · exact h0
        · rw [List.getElem?_eq_none (by simp; omega)] at hy; cases hy
      rw [this] at hy
      simp at hy
      subst hy
      have : i = n := by omega
      subst this
      exact hx
theorem bulk_sum {H α : Type} {μ : α → Nat} : ∀ (l : List α) (ds : List (DataW H)), l.length = ds.length → (∀ (i : Nat) (x : α) (d : DataW H), l[i]? = some x → ds[i]? = some d → μ x ≤ Rows.uptoBulk d) → (l.map μ).sum ≤ Rows.uptoBulkAll ds
  | [], [], _, _ => by simp
  | x :: l, d :: ds, hl, h => by
    have h0 := h 0 x d rfl rfl
    have h1 := bulk_sum l ds (by simpa using hl) (fun i x d hx hd => h (i + 1) x d (by simpa using hx) (by simpa using hd))
    simp only [List.map_cons, List.sum_cons, Rows.uptoBulkAll]
    omega
theorem weights_all {H : Type} {P : Program} {e : TypeId} : ∀ (ds : List (DataW H)) (i : Nat) (d : DataW H), (DataW.weightsAll P e ds).all (· ≤ reachBytes) = true → ds[i]? = some d → (d.weights P e).all (· ≤ reachBytes) = true
  | d0 :: r, 0, d, h, hd => by
    simp only [DataW.weightsAll, List.all_append, Bool.and_eq_true] at h
    simp only [List.getElem?_cons_zero, Option.some.injEq] at hd
    subst hd
    exact h.1
  | d0 :: r, i + 1, d, h, hd => by
    simp only [DataW.weightsAll, List.all_append, Bool.and_eq_true] at h
    exact weights_all r i d h.2 (by simpa using hd)
theorem opens_slice {α : Type} {P : Program} {n : Nat} {t e : TypeId} {R : Rep α} {sz : Nat} {μ : α → Nat} (ht : P.underlying t = some (.slice e)) (hc : P.cellsOf e = sz) (hsz : 0 < sz) (hb : 0 < P.bytesOf e) (k : Opens P n e R sz μ) : Opens P (n + 1) t (slR R sz) 1 (fun l => (l.map μ).sum + 1) := fun enc W cs x h hw => by
  rcases DataW.trod_slice ht h with ⟨rfl, rfl⟩ | ⟨a, len, cap, elems, rest, m, hm, rfl, rfl, h2, h3, h4, h5, h6, h7, _⟩
  · exact ⟨[], rfl, ⟨none, 0, rfl, SlR.nil_⟩, by simp [Rows.uptoBulk]⟩
  · obtain rfl : n = m := by omega
    have hwt : (elems.length + rest.length) * P.bytesOf e ≤ reachBytes ∧ (DataW.weightsAll P e (elems.map (·.1))).all (· ≤ reachBytes) = true := by
      simp only [DataW.weights, ht, List.all_cons, List.all_append, Bool.and_eq_true, decide_eq_true_eq, List.length_map] at hw
      exact ⟨hw.1, hw.2.1⟩
    have hmul : elems.length + rest.length ≤ (elems.length + rest.length) * P.bytesOf e := Nat.le_mul_of_pos_right _ hb
    have hrb : reachBytes ≤ 140737488355328 := by decide
    have key : ∀ i, i < len → ∃ y : α, (∃ b o, some a = some ⟨b, o, none⟩ ∧ EltR R sz (partOf W) b (o + i * sz) y) ∧ ∃ z, (elems.map (·.1))[i]? = some z ∧ μ y ≤ Rows.uptoBulk z := fun i hi => by
      have h8 := h6 i hi
      have hel : elems[i]? = some (elems[i]'(by omega)) := List.getElem?_eq_getElem (by omega)
      rw [hel, Option.bind_eq_some_iff] at h8
      obtain ⟨c, hc1, hc2⟩ := h8
      have hwe := weights_all (elems.map (·.1)) i (elems[i]'(by omega)).1 hwt.2 (by simp [hel])
      obtain ⟨y, hy1, hy2, hy3⟩ := k enc W c _ hc2 hwe
      obtain ⟨_, hl, hcell⟩ := World.cells?_some hc1
      rw [hc] at hl hcell hc1
      have h0 : W.cell? ((a.add (i * sz)).add 0) = some (c[0]'(by omega)) := by rw [hcell 0 hsz]; exact List.getElem?_eq_getElem (by omega)
      have hspot : a.spot = none := by
        have h8 := h6 0 (by omega)
        have hel0 : elems[0]? = some (elems[0]'(by omega)) := List.getElem?_eq_getElem (by omega)
        rw [hel0, Option.bind_eq_some_iff] at h8
        obtain ⟨c', hc', _⟩ := h8
        obtain ⟨_, hl', hcell'⟩ := World.cells?_some hc'
        rw [hc] at hl' hcell'
        have h9 := hcell' 0 hsz
        rw [List.getElem?_eq_getElem (by omega)] at h9
        simp only [Nat.zero_mul, Addr.add, if_true] at h9
        unfold World.cell? at h9
        split at h9
        · split at h9
          · cases h9
          · rename_i hs; simpa using hs
        · cases h9
      obtain ⟨b, o, spot⟩ := a
      simp only at hspot
      subst hspot
      refine ⟨y, ⟨b, o, rfl, ?_⟩, _, by simp [hel], hy3⟩
      have hadd : ∀ j, (Addr.add ⟨b, o, none⟩ (i * sz)).add j = ⟨b, o + i * sz + j, none⟩ := fun j => by rw [Addr.add_lit, Addr.add_lit]
      rw [hadd] at h0
      obtain ⟨C, hC, _⟩ := partOf_cell h0
      refine ⟨C, c, hC, hl, fun j hj => ?_, hy2⟩
      have hj1 : W.cell? ⟨b, o + i * sz + j, none⟩ = c[j]? := by rw [← hadd]; exact hcell j hj
      have hj2 : W.cell? ⟨b, o + i * sz + j, none⟩ = some (c[j]'(by omega)) := by rw [hj1]; exact List.getElem?_eq_getElem (by omega)
      obtain ⟨C', hC', hC2⟩ := partOf_cell hj2
      rw [hC] at hC'
      cases hC'
      rw [hC2]
      exact (List.getElem?_eq_getElem (by omega)).symm
    obtain ⟨l, hl, hp⟩ := list_of len key
    subst hl
    refine ⟨l, rfl, ⟨some a, cap, rfl, ⟨h3, h4, by omega, (fun hh => by cases hh), fun i y hy => (hp i y hy).1⟩⟩, ?_⟩
    have := bulk_sum (μ := μ) l (elems.map (·.1)) (by simp [h5]) (fun i y d hy hd => by
      obtain ⟨z, hz, hle⟩ := (hp i y hy).2
      rw [hz] at hd
      cases hd
      exact hle)
    simp only [Rows.uptoBulk]
    omega
end Go.Proofs.YtmngjbefnloljaaDoor
