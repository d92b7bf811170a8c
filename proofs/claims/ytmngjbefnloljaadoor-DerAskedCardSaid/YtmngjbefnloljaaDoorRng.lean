/- Ranges over strings; arrays of the call's own. -/
import Derived.Test.YtmngjbefnloljaaDoorStr
import Derived.Lib.SpaceU
import Derived.Lib.DecodeN
import Derived.Laws.RangeString
set_option linter.unusedSimpArgs false
set_option linter.unusedVariables false
set_option linter.constructorNameAsVariable false
namespace Go.Proofs.YtmngjbefnloljaaDoor
open Go Go.RowKit

theorem some_bool {a b : Bool} (h : a = b) : some (Value.bool a) = some (Value.bool b) := by rw [h]
theorem some_int {k : IntKind} {a b : Int} (h : a = b) : some (Value.int k a) = some (Value.int k b) := by rw [h]
theorem some_i64 {a b : Int} (h : a = b) : some (Value.int .i64 a) = some (Value.int .i64 b) := by rw [h]
theorem get!_list (l : List UInt8) (k : Nat) : (⟨l.toArray⟩ : ByteArray).get! k = l.getD k default := by
  show l.toArray[k]! = _
  simp [getElem!_def, List.getD]
  cases l[k]? <;> rfl
theorem decode_drop (l : List UInt8) (i : Nat) : Utf8.decode ⟨l.toArray⟩ i = Go.Lib.decodeL (l.drop i) := by
  unfold Go.Lib.decodeL
  rw [Go.Lib.decode_at, Go.Lib.decode_at]
  have e : ∀ k, (l.drop i).getD k default = l.getD (i + k) default := fun k => by simp [List.getD]
  simp only [get!_list, e, bsize, List.length_drop, Nat.zero_add, Nat.add_zero, Nat.sub_zero]

/-- The character at the head of bytes; its width. -/
abbrev chr (l : List UInt8) : Nat := (Go.Lib.decodeL l).1
abbrev wid (l : List UInt8) : Nat := (Go.Lib.decodeL l).2
theorem decodeN_wid (n a b c d : Nat) : 1 ≤ (Go.Lib.decodeN n a b c d).2 ∧ ((Go.Lib.decodeN n a b c d).2 ≤ n ∨ (Go.Lib.decodeN n a b c d).2 = 1) := by
  unfold Go.Lib.decodeN
  repeat' split
  all_goals simp
  all_goals omega
theorem wid_pos (l : List UInt8) : 1 ≤ wid l := by
  show 1 ≤ (Go.Lib.decodeL l).2
  unfold Go.Lib.decodeL; rw [Go.Lib.decode_at]; exact (decodeN_wid _ _ _ _ _).1
theorem wid_le (l : List UInt8) (h : l ≠ []) : wid l ≤ l.length := by
  show (Go.Lib.decodeL l).2 ≤ l.length
  have hl := List.length_pos_iff.2 h
  unfold Go.Lib.decodeL; rw [Go.Lib.decode_at]
  rcases (decodeN_wid _ _ _ _ _).2 with hh | hh
  · refine Nat.le_trans hh ?_
    rw [bsize]; omega
  · rw [hh]; exact hl
theorem decodeN_chr (n a b c d : Nat) (ha : a < 256) : (Go.Lib.decodeN n a b c d).1 ≤ 1114111 := by
  unfold Go.Lib.decodeN
  repeat' split
  all_goals simp
  all_goals omega
theorem chr_le (l : List UInt8) : chr l ≤ 1114111 := by
  show (Go.Lib.decodeL l).1 ≤ _
  unfold Go.Lib.decodeL; rw [Go.Lib.decode_at]
  exact decodeN_chr _ _ _ _ _ (by have := ((⟨l.toArray⟩ : ByteArray).get! 0).toNat_lt; omega)

theorem Ok.alloc_it {e : Env} {h : Part} {L : List Ent} {w : World} (k : Ok e h L w) (s : List UInt8) (pos : Nat) :
    Ok e h (.it w.heap.size s pos :: L) (w.alloc (.stringIter ⟨s.toArray⟩ pos)) := by
  have keepOld : ∀ b, b < w.heap.size → (w.alloc (.stringIter ⟨s.toArray⟩ pos)).heap[b]? = w.heap[b]? := fun b hb => Below.heap_alloc _ _ _ hb
  refine ⟨k.os, k.tape, k.output, by have := k.size; simp; omega, fun b hb hm => ?_, fun b c hc => ?_, k.le, k.fresh, fun x hx => ?_, fun b hb => ?_, ?_⟩
  · rw [keepOld b (Nat.lt_of_lt_of_le hb k.size)]; exact k.old b hb hm
  · obtain ⟨t', fr, he⟩ := k.sub b c hc
    exact ⟨t', fr, by rw [keepOld b (k.sub.lt hc)]; exact he⟩
  · cases hx with
    | head => exact heap_alloc_new w _
    | tail _ hx => exact Ent.keep (k.own x hx) fun b hb => keepOld b (Ent.lt (k.own x hx) hb)
  · simp only [keys, List.filterMap_cons, Ent.key, List.mem_cons] at hb
    rcases hb with rfl | hb
    · refine ⟨?_, .inl k.size⟩
      cases hh : h w.heap.size with
      | none => rfl
      | some c => have := k.sub.lt hh; omega
    · exact k.key b hb
  · simp only [keys, List.filterMap_cons, Ent.key]
    exact List.nodup_cons.2 ⟨fun hm => by have := k.klt hm; omega, k.nodup⟩

/-- A type that is an array: its length, its element's cells. -/
def arT (P : Program) (T : Nat) : Option (Nat × Nat) :=
  match P.underlying T with
  | some (.array n e) => match P.info? e with
    | some i => some (n, i.size)
    | none => none
  | _ => none
theorem arT_spec {P : Program} {T n sz : Nat} (h : arT P T = some (n, sz)) : ∃ e, P.underlying T = some (.array n e) ∧ ∃ i, P.info? e = some i ∧ i.size = sz := by
  unfold arT at h
  split at h <;> try cases h
  rename_i n' e' hT
  split at h <;> cases h
  rename_i i hi
  exact ⟨e', hT, i, hi, rfl⟩

section
variable {f : Fr} {n : Post} {x : Nat → Post} {S : Sig} {h : Part} {L L' : List Ent} {ops : Array Oper} {rest : List Oper}
variable {ty : TypeId} {pos : String} {af : Array Edge} {d : Nat} {v : Value} {T : TypeId} {xo yo : Operand} {s : List UInt8}

theorem JL.range (hT : f.P.underlying T = some .string) (hx : ev S xo = some (.string ⟨s.toArray⟩)) (hd : Nat.blt d f.m = true) (k : ∀ b, JL f ops n x rest ((d, .pointer (some ⟨b, 0, none⟩)) :: S) h (.it b s 0 :: L)) :
    JL f ops n x (⟨some d, .range T xo, ty, pos, af, none⟩ :: rest) S h L := fun a w st => by
  refine wpList_val (v := .pointer (some ⟨w.heap.size, 0, none⟩)) (w' := w.alloc (.stringIter ⟨s.toArray⟩ 0)) rfl ?_ (k w.heap.size _ _ (st.put hd _ (st.ok.alloc_it s 0)))
  have := run_range_string (P := f.P) w T ⟨s.toArray⟩ hT
  simp [execOp, st.eval hx, this, World.iter]

theorem JL.next {b at_ : Nat} (hx : ev S xo = some (.pointer (some ⟨b, 0, none⟩))) (u : Del (.it b s at_) L L') (hd : Nat.blt d f.m = true)
    (k1 : at_ < s.length → JL f ops n x rest ((d, .tuple #[.bool true, .int .i64 at_, .int .i32 (chr (s.drop at_))]) :: S) h (.it b s (at_ + wid (s.drop at_)) :: L'))
    (k2 : s.length ≤ at_ → JL f ops n x rest ((d, .tuple #[.bool false]) :: S) h (.it b s at_ :: L')) :
    JL f ops n x (⟨some d, .next xo true, ty, pos, af, none⟩ :: rest) S h L := fun a w st => by
  have hw : w.heap[b]? = some (.stringIter ⟨s.toArray⟩ at_) := st.ok.own _ u.mem
  have okp := st.ok.perm u.perm
  have hlt : b < w.heap.size := Ent.lt (st.ok.own _ u.mem) rfl
  by_cases hp : at_ < s.length
  · have e1 : Utf8.decode ⟨s.toArray⟩ at_ = (chr (s.drop at_), wid (s.drop at_)) := decode_drop s at_
    let w' : World := { w with heap := w.heap.setIfInBounds b (.stringIter ⟨s.toArray⟩ (at_ + wid (s.drop at_))) }
    have hok : Ok f.e h (.it b s (at_ + wid (s.drop at_)) :: L') w' := by
      refine okp.turn rfl rfl rfl (by simp [w']) (fun b' _ hne => ?_) ?_ (fun b' hb' => .inl hb')
      · have hne' : b ≠ b' := fun hh => hne (by rw [← hh]; rfl)
        simp [w', Array.getElem?_setIfInBounds, hne']
      · simp only [Ent.holds, w']
        rw [Array.getElem?_setIfInBounds]; simp [hlt]
    refine wpList_val (v := .tuple #[.bool true, .int .i64 at_, .int .i32 (chr (s.drop at_))]) (w' := w') rfl ?_ (k1 hp _ _ (st.put hd _ hok))
    simp [execOp, st.eval hx, Instr.next, getObj, Sem.run, hw, bsize, hp, e1, setObj, goInt, w']
  · refine wpList_val (v := .tuple #[.bool false]) (w' := w) rfl ?_ (k2 (by omega) _ _ (st.put hd _ (okp.perm (.refl _))))
    simp [execOp, st.eval hx, Instr.next, getObj, Sem.run, hw, bsize, hp]

theorem RunV.indexArr {len b m : Nat} {k : IntKind} {i : Int} (hT : arT f.P T = some (len, 1)) (hx : ev S xo = some (.pointer (some ⟨b, 0, none⟩))) (hy : ev S yo = some (.int k i)) (hi : i = (m : Int)) (h1 : m < len) :
    RunV f S h L (.indexAddr T xo yo) ty (.pointer (some ⟨b, m, none⟩)) := fun a w s _ _ _ _ => by
  subst hi
  have h0 : (0 : Int) ≤ m := by omega
  obtain ⟨e, hu, inf, hi, hs⟩ := arT_spec hT
  simp [execOp, s.eval hx, s.eval hy, Instr.indexAt, run_underlying hu, asIntOf, sizeOf, typeInfo, hi, hs, h0, h1, Addr.add_lit, Instr.sureAddr]
theorem RunV.cutArr_l {len b : Nat} {k : IntKind} {i : Int} (hT : arT f.P T = some (len, 1)) (hx : ev S xo = some (.pointer (some ⟨b, 0, none⟩))) (hy : ev S yo = some (.int k i)) (h0 : 0 ≤ i) (h1 : i ≤ len) :
    RunV f S h L (.slice T xo (some yo) none none) ty (.slice (some (if len = i.toNat then ⟨b, 0, none⟩ else ⟨b, i.toNat, none⟩)) (len - i.toNat) (len - i.toNat)) := fun a w s _ _ _ _ => by
  obtain ⟨e, hu, inf, hi, hs⟩ := arT_spec hT
  simp [execOp, s.eval hx, s.eval hy, Instr.sliceAt, run_underlying hu, Instr.sliceBounds, Instr.sliceBound, asIntOf, sizeOf, typeInfo, hi, hs, h0, h1, Addr.add_lit, Instr.sureAddr]
end
/-- What such a slice holds. -/
theorem SlR.cutArr {α : Type} {R : Rep α} {h : Part} {b : Nat} {l : List α} (k : SlR R 1 h (some ⟨b, 0, none⟩) l.length l) {i : Nat} (hi : i ≤ l.length) :
    SlR R 1 h (some (if l.length = i then ⟨b, 0, none⟩ else ⟨b, i, none⟩)) (l.length - i) (l.drop i) := by
  have := k.take_drop (lo := i) (hi := l.length) (m := l.length) hi (Nat.le_refl _) (Nat.le_refl _) (Nat.le_refl _)
  rw [List.take_of_length_le (by simp)] at this
  by_cases hh : l.length = i
  · simpa [hh] using this
  · simpa [hh, Addr.add_lit] using this
theorem RunE.cutArr {α : Type} {R : Rep α} {f : Fr} {S : Sig} {h : Part} {L : List Ent} {ty T : TypeId} {xo yo : Operand} {len b m : Nat} {l : List α} {k : IntKind} {i : Int} (hT : arT f.P T = some (len, 1)) (hx : ev S xo = some (.pointer (some ⟨b, 0, none⟩))) (hy : ev S yo = some (.int k i)) (hi : i = (m : Int)) (hR : SlR R 1 h (some ⟨b, 0, none⟩) l.length l) (hl : l.length = len) (h1 : m ≤ len) :
    RunE f S h L (.slice T xo (some yo) none none) ty (fun v => ∃ a c, v = .slice a (l.drop m).length c ∧ SlR R 1 h a c (l.drop m)) := by
  subst hl hi
  refine ⟨_, RunV.cutArr_l hT hx hy (by omega) (by omega), _, _, ?_, hR.cutArr (i := m) (by omega)⟩
  simp
theorem u8s_set (l : List UInt8) (i : Nat) (b : UInt8) : (u8s l).set i (.int .u8 (b.toNat : Int)) = u8s (l.set i b) := by simp [u8s, List.map_set]

theorem Part.le.mono {a b c : Part} (h : a.le b) (k : b.le c) : a.le c := h.trans k
theorem J.retV {e : Env} {m : Nat} {S : Sig} {h : Part} {L : List Ent} {n : Post} {x : Nat → Post} {P : Program} {fn : Func} {p : List PanicEntry → Post} {u v : Value} (hv : RetV P e m fn S h L u) (he : u = v) :
    J ⟨P, e, m, RetPost P e m fn (Rets fun u _ _ => u = v), p⟩ .ret n x S h L :=
  J.ret ⟨u, [], L, hv, .nil, u, rfl, he⟩
theorem Pure.ofV {P : Program} {F : Nat} {args : List Value} {h : Part} {v : Value} (c : Fn P F args h [] (Rets fun u _ _ => u = v)) : Pure P F args h v := Pure.of c fun _ _ _ hh => hh
/-! ## what the library's contracts say -/
theorem Pure.lib {P : Program} {F : Nat} {args : List Value} {h : Part} {v : Value} (k : ∀ w, Sub h w → Calls P F args.toArray w fun e w' => e = .returned v ∧ Below w.heap.size w w') : Pure P F args h v := fun w hw => by
  refine (k w hw.sub).mono fun e w' ⟨he, hb⟩ => ⟨h, [], ⟨v, he, rfl, rfl, rfl⟩, ⟨hb.os, hb.tape, hb.output, hb.size, fun b hlt _ => hb.block b hlt, fun b c hc => ?_, Part.le.refl _, fun b c hc => .inl hc, (fun x hx => by cases hx), (fun b hb => by cases hb), List.nodup_nil⟩⟩
  obtain ⟨t, fr, e⟩ := hw.sub b c hc
  exact ⟨t, fr, by rw [hb.block b (hw.sub.lt hc)]; exact e⟩
end Go.Proofs.YtmngjbefnloljaaDoor
