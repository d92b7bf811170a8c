/- Walks: sorting pairs of bytes and node by the library: exchanges and turns; Walks: sorting pairs of bytes and node by the library: insertion; Walks: sorting pairs of bytes and node by the library: merging; Walks: sorting pairs of bytes and node by the library: the whole; Walks: sets by the program; Mixed results; Walks: sets by the program, all of it; Plain: numbers of an object identifier, out of bytes and texts; A function that defers one call of a closure of its own, right after it has made its result variables; Walks: the program reads bytes as a node; Walks: what the laws of nodes use beside; Plain laws: chains of nodes, as deep as may be and deeper; lengths; 'a && b', 'a || b': the two ways meet at once; Walks: the reference's texts: characters; Walks: the reference's object identifiers; Walks: the reference's calendar. -/
import Derived.Recover
import Derived.Test.YtldbjnhfkjicjaaDoorP1
set_option linter.unusedSimpArgs false
set_option linter.unusedVariables false
set_option linter.constructorNameAsVariable false
namespace Go.Proofs.YtldbjnhfkjicjaaDoor
open Go Go.RowKit
set_option maxRecDepth 100000
theorem ag_51 : aggT Tryd.prog 51 = some (some 6) := by kernel_rfl
theorem ca_68 : callT Tryd.prog 68 = true := by kernel_rfl
theorem sl_44 : slT Tryd.prog 44 = some (51, 6) := by kernel_rfl
def oneR : Rep (List UInt8 × Nd) := fun h cs p => ∃ a c ncs, cs = .slice a p.1.length c :: ncs ∧ SlR u8R 1 h a c p.1 ∧ NdR h ncs p.2
instance : Mono oneR := ⟨fun hle ⟨a, c, ncs, h1, h2, h3⟩ => ⟨a, c, ncs, h1, h2.mono hle, h3.mono hle⟩, fun ⟨a, c, ncs, h1, h2, h3⟩ u hu => by
  subst h1
  rcases List.mem_cons.1 hu with rfl | hu
  · rfl
  · exact h3.one_ u hu⟩
abbrev oz : List UInt8 × Nd := ([], ndZ)
theorem oneR.len {h : Part} {cs : List Value} {p : List UInt8 × Nd} (r : oneR h cs p) : cs.length = 6 := by
  obtain ⟨a, c, ncs, rfl, h2, h3⟩ := r
  simp [h3.len5]
theorem ex_0 (a b q : Nat) : exI a b 0 q = q := by unfold exI; (repeat' split) <;> omega
theorem CellsR.swap {h : Part} {xs : List Value} {l : List (List UInt8 × Nd)} {i j : Nat} (hC : CellsR oneR 6 h xs l) (hi : i < l.length) (hj : j < l.length) :
    CellsR oneR 6 h (over (over xs (i * 6) ((xs.drop (j * 6)).take 6)) (j * 6) ((xs.drop (i * 6)).take 6)) (swp oz l i j) := by
  have r1 := (hC.at hi).1
  have r2 := (hC.at hj).1
  unfold swp
  rw [gg_at oz hi, gg_at oz hj]
  exact (hC.set hi r2.len r2).set (by simpa using hj) r1.len r1
theorem swapr_fn {g n c a b k : Nat} {xs : List Value} {l : List (List UInt8 × Nd)} {h : Part} (hC : CellsR oneR 6 h xs l) (hn : n = l.length) (hl : l.length ≤ 1000000) (h1 : a + k ≤ b) (h2 : b + k ≤ l.length) :
    Fn Tryd.prog 68 [.slice (some ⟨g, 0, none⟩) n c, .int .i64 a, .int .i64 b, .int .i64 k, .func (.func 18) #[] #[]] h [.row (some ⟨g, 0, none⟩) c 51 6 n xs]
      (Rets fun v h' Lo => ∃ xs' l', v = .tuple #[] ∧ Lo = [.row (some ⟨g, 0, none⟩) c 51 6 n xs'] ∧ CellsR oneR 6 h' xs' l' ∧ Sw oz a (b + k) l l' ∧ ∀ q, gg oz l' q = gg oz l (exI a b k q)) := by
  refine Fn.intro Tryd.func68 rfl Tryd.ntmps68 rfl (fun e he => ?_)
  refine J.weak [(0, _), (1, _), (2, _), (3, _), (4, _)] ⟨rfl, rfl, rfl, rfl, rfl, trivial⟩ ?_
  have hh0 := Part.le.refl h
  refine Sr ?_
  refine Ru 1 rfl ?_
  refine JL.nil ?_
  refine J.block ?_
  refine J.loop (fun t_ S_ h_ L_ => ∃ (i : Nat) (ys : List Value) (r : List (List UInt8 × Nd)), t_ = k - i ∧ S_ = [(0, .slice (some ⟨g, 0, none⟩) n c), (1, .int .i64 a), (2, .int .i64 b), (3, .int .i64 k), (10, .int .i64 i)] ∧ h = h_ ∧ L_ = [.row (some ⟨g, 0, none⟩) c 51 6 n ys] ∧ (i ≤ k ∧ CellsR oneR 6 h ys r ∧ Sw oz a (b + k) l r ∧ (∀ q, gg oz r q = gg oz l (exI a b i q)))) ⟨_, _, ?_, ⟨0, xs, l, rfl, rfl, rfl, rfl, ⟨by omega, hC, .refl _, fun q => by rw [ex_0]⟩⟩⟩ ?_
  ·
   exact z5_
  rintro _ _ _ _ ⟨i, ys, r, rfl, rfl, rfl, rfl, hi, hCr, hS, hE⟩
  refine J.seq ?_
  refine Sr ?_
  refine Ru 3 rfl ?_
  refine JL.nil ?_
  refine Cs rfl (fun hc1 => ?_) fun hc1 => ?_
  ·
   have hrl := hS.len; have hi1 : a + i < r.length := (by omega); have hi2 : b + i < r.length := (by omega); have c1 := hCr.at hi1; have c2 := hCr.at hi2
   refine J.skip ?_
   refine J.seq ?_
   refine J.block ?_
   refine J.held ([]) 24 mixed_ rfl (fun h00 => ?_)
   refine Tk 0 rfl (RunV.move rfl) ?_
   refine Tk 1 rfl (RunV.move rfl) ?_
   refine Tk 2 rfl (RunV.move rfl) ?_
   refine Tk 3 rfl ai_ ?_
   refine Tk 4 rfl (RunV.move rfl) ?_
   refine Tk 5 rfl (RunV.move rfl) ?_
   refine Tk 6 rfl (RunV.move rfl) ?_
   refine Tk 7 rfl ai_ ?_
   refine Tk 8 rfl (RunV.move rfl) ?_
   refine Tk 9 rfl (RunV.move rfl) ?_
   refine Tk 10 rfl (RunV.move rfl) ?_
   refine Tk 11 rfl ai_ ?_
   refine Tk 12 rfl (RunV.indexA (m := b + i) sl_44 rfl rfl (by omega) (by omega)) ?_
   refine Tk 14 rfl (RunV.move rfl) ?_
   refine Tk 15 rfl (RunV.move rfl) ?_
   refine Tk 16 rfl (RunV.move rfl) ?_
   refine Tk 17 rfl ai_ ?_
   refine Tk 18 rfl (RunV.indexA (m := a + i) sl_44 rfl rfl (by omega) (by omega)) ?_
   refine JH.all2 13 19 (by kernel_rfl) rfl rfl ?_ ?_
   ·
    unfold One
    refine JL.op (RunV.rowA ag_51 rfl mm_ c2.2) rfl ?_
    refine JL.nil ⟨(br_ h00), ?_⟩
    refine Ta 19 rfl ?_
    unfold One
    refine JL.op (RunV.rowA ag_51 rfl mm_ c1.2) rfl ?_
    refine JL.nil ⟨(br_ h00), ?_⟩
    refine Tk 20 rfl (RunV.indexA (m := a + i) sl_44 rfl rfl (by omega) (by omega)) ?_
    refine Ta 21 rfl ?_
    unfold One
    refine JL.storeRowA ag_51 rfl rfl (Mono.one c2.1) c2.1.len dl_ c1.2 ?_
    refine JL.nil ⟨(br_ h00), ?_⟩
    refine Tk 22 rfl (RunV.indexA (m := b + i) sl_44 rfl rfl (by omega) (by omega)) ?_
    refine Ta 23 rfl ?_
    unfold One
    refine JL.storeRowA ag_51 rfl rfl (Mono.one c1.1) c1.1.len dl_ (by rw [over_len (by rw [c2.1.len]; exact c1.2)]; exact c2.2) ?_
    refine JL.nil ⟨(br_ h00), ?_⟩
    refine JH.done (by kernel_rfl) ?_
    refine Rg ?_
    refine Ru 1 rfl ?_
    refine JL.op ai_ rfl ?_
    refine Ru 1 rfl ?_
    refine JL.nil ?_
    refine ⟨_, ?_, _, ?_, ⟨i + 1, _, swp oz r (a + i) (b + i), rfl, rfl, rfl, rfl, ⟨by omega, hCr.swap hi1 hi2, .step hS (by omega) (by omega) (by omega) (by omega) hi1 hi2, ex_step oz h1 h2 (by omega) hrl hE⟩⟩⟩
    ·
     omega
    exact z5_
   unfold One
   refine JL.op (RunV.rowA ag_51 rfl mm_ c1.2) rfl ?_
   refine JL.nil ⟨(br_ h00), ?_⟩
   refine Ta 13 rfl ?_
   unfold One
   refine JL.op (RunV.rowA ag_51 rfl mm_ c2.2) rfl ?_
   refine JL.nil ⟨(br_ h00), ?_⟩
   refine Tk 20 rfl (RunV.indexA (m := a + i) sl_44 rfl rfl (by omega) (by omega)) ?_
   refine Ta 21 rfl ?_
   unfold One
   refine JL.storeRowA ag_51 rfl rfl (Mono.one c2.1) c2.1.len dl_ c1.2 ?_
   refine JL.nil ⟨(br_ h00), ?_⟩
   refine Tk 22 rfl (RunV.indexA (m := b + i) sl_44 rfl rfl (by omega) (by omega)) ?_
   refine Ta 23 rfl ?_
   unfold One
   refine JL.storeRowA ag_51 rfl rfl (Mono.one c1.1) c1.1.len dl_ (by rw [over_len (by rw [c2.1.len]; exact c1.2)]; exact c2.2) ?_
   refine JL.nil ⟨(br_ h00), ?_⟩
   refine JH.done (by kernel_rfl) ?_
   refine Rg ?_
   refine Ru 1 rfl ?_
   refine JL.op ai_ rfl ?_
   refine Ru 1 rfl ?_
   refine JL.nil ?_
   refine ⟨_, ?_, _, ?_, ⟨i + 1, _, swp oz r (a + i) (b + i), rfl, rfl, rfl, rfl, ⟨by omega, hCr.swap hi1 hi2, .step hS (by omega) (by omega) (by omega) (by omega) hi1 hi2, ex_step oz h1 h2 (by omega) hrl hE⟩⟩⟩
   ·
    omega
   exact z5_
  refine J.exit ?_
  have hik : i = k := (by omega); subst hik; exact ⟨_, [_], _, (RetV.none_ rfl), .cons .here .nil, _, rfl, _, _, rfl, rfl, hCr, hS, hE⟩
theorem rot_fn {g n c a m b : Nat} {xs : List Value} {l : List (List UInt8 × Nd)} {h : Part} (hC : CellsR oneR 6 h xs l) (hn : n = l.length) (hl : l.length ≤ 1000000) (h1 : a < m) (h2 : m < b) (h3 : b ≤ l.length) :
    Fn Tryd.prog 58 [.slice (some ⟨g, 0, none⟩) n c, .int .i64 a, .int .i64 m, .int .i64 b, .func (.func 18) #[] #[]] h [.row (some ⟨g, 0, none⟩) c 51 6 n xs]
      (Rets fun v h' Lo => ∃ xs' l', v = .tuple #[] ∧ Lo = [.row (some ⟨g, 0, none⟩) c 51 6 n xs'] ∧ CellsR oneR 6 h' xs' l' ∧ Sw oz a b l l' ∧ ∀ q, gg oz l' q = gg oz l (rotI a m b q)) := by
  refine Fn.intro Tryd.func58 rfl Tryd.ntmps58 rfl (fun e he => ?_)
  refine J.weak [(0, _), (1, _), (2, _), (3, _), (4, _)] ⟨rfl, rfl, rfl, rfl, rfl, trivial⟩ ?_
  have hh0 := Part.le.refl h
  refine Sr ?_
  refine Ru 2 rfl ?_
  refine JL.op si_ rfl ?_
  refine Ru 1 rfl ?_
  refine JL.nil ?_
  refine Sr ?_
  refine Ru 2 rfl ?_
  refine JL.op si_ rfl ?_
  refine Ru 1 rfl ?_
  refine Nk [11, 10, 0, 2, 4] rfl ?_
  refine J.seq ?_
  refine J.block ?_
  refine J.loop (fun t_ S_ h_ L_ => ∃ (p : Part) (i j : Nat) (ys : List Value) (r : List (List UInt8 × Nd)), t_ = i + j ∧ S_ = [(0, .slice (some ⟨g, 0, none⟩) n c), (2, .int .i64 m), (4, .func (.func 18) #[] #[]), (10, .int .i64 i), (11, .int .i64 j)] ∧ p = h_ ∧ L_ = [.row (some ⟨g, 0, none⟩) c 51 6 n ys] ∧ (h.le p ∧ (0 < i ∧ 0 < j ∧ i ≤ m - a ∧ j ≤ b - m) ∧ CellsR oneR 6 p ys r ∧ Sw oz a b l r ∧ (∀ q, gg oz r (rotI (m - i) m (m + j) q) = gg oz l (rotI a m b q)))) ⟨_, _, ?_, ⟨_, m - a, b - m, xs, l, rfl, rfl, rfl, rfl, ⟨hh0, by omega, hC, .refl _, fun q => by rw [show m - (m - a) = a by omega, show m + (b - m) = b by omega]⟩⟩⟩ ?_
  ·
   exact z4_
  rintro _ _ _ _ ⟨p, i, j, ys, r, rfl, rfl, rfl, rfl, hh0, hij, hCr, hS, hE⟩
  have hrl := hS.len
  refine J.seq ?_
  refine Sr ?_
  refine Ru 3 rfl ?_
  refine JL.nil ?_
  refine Cs rfl (fun hc1 => ?_) fun hc1 => ?_
  ·
   refine J.skip ?_
   refine J.block ?_
   refine Sr ?_
   refine Ru 3 rfl ?_
   refine JL.nil ?_
   refine Cs rfl (fun hc2 => ?_) fun hc2 => ?_
   ·
    obtain ⟨i', hi'⟩ : ∃ i', i' = i - j := ⟨_, rfl⟩; obtain ⟨j', hj'⟩ : ∃ j', j' = j := ⟨_, rfl⟩; have hst := fun q => @rot_more m m (m + j) i j q (by omega) (by omega)
    refine Sr ?_
    refine Ru 3 rfl ?_
    refine JL.op si_ rfl ?_
    rw [show (m : Int) - i = ((m - i : Nat) : Int) by omega]
    refine Ru 3 rfl ?_
    refine JL.call ca_68 rfl (swapr_fn (a := m - i) (b := m) (k := j) hCr (hn.trans hrl.symm) (by omega) (by omega) (by omega)) pt_ rfl ?_
    rintro _ h3 Lo3 hle3 ⟨zs, r', rfl, rfl, hC', hS', hE'⟩
    replace hh0 := hh0.mono hle3
    replace hCr := hCr.mono hle3
    refine JL.nil ?_
    refine Rg ?_
    refine Ru 2 rfl ?_
    refine JL.op si_ rfl ?_
    refine Ru 1 rfl ?_
    refine JL.nil ?_
    refine ⟨_, ?_, _, ?_, ⟨_, i', j', _, r', rfl, rfl, rfl, rfl, ⟨by assumption, by omega, hC', hS.trans _ (hS'.mono _ (by omega) (by omega)), fun q => by subst hi' hj'; rw [hE', hst, hE]⟩⟩⟩
    ·
     omega
    exact z4_
   obtain ⟨i', hi'⟩ : ∃ i', i' = i := ⟨_, rfl⟩; obtain ⟨j', hj'⟩ : ∃ j', j' = j - i := ⟨_, rfl⟩; have hst := fun q => @rot_less m i j q (by omega) (by omega)
   refine Sr ?_
   refine Ru 3 rfl ?_
   refine JL.op si_ rfl ?_
   rw [show (m : Int) - i = ((m - i : Nat) : Int) by omega]
   refine Ru 2 rfl ?_
   refine JL.op ai_ rfl ?_
   refine Ru 1 rfl ?_
   refine JL.op si_ rfl ?_
   rw [show (m : Int) + j - i = ((m + j - i : Nat) : Int) by omega]
   refine Ru 2 rfl ?_
   refine JL.call ca_68 rfl (swapr_fn (a := m - i) (b := m + j - i) (k := i) hCr (hn.trans hrl.symm) (by omega) (by omega) (by omega)) pt_ rfl ?_
   rintro _ h4 Lo4 hle4 ⟨zs, r', rfl, rfl, hC', hS', hE'⟩
   replace hh0 := hh0.mono hle4
   replace hCr := hCr.mono hle4
   refine JL.nil ?_
   refine Rg ?_
   refine Ru 2 rfl ?_
   refine JL.op si_ rfl ?_
   refine Ru 1 rfl ?_
   refine JL.nil ?_
   refine ⟨_, ?_, _, ?_, ⟨_, i', j', _, r', rfl, rfl, rfl, rfl, ⟨by assumption, by omega, hC', hS.trans _ (hS'.mono _ (by omega) (by omega)), fun q => by subst hi' hj'; rw [hE', hst, hE]⟩⟩⟩
   ·
    omega
   exact z4_
  have hij2 : i = j := (by omega); subst hij2; have hst := fun q => @rot_end m i q (by omega)
  refine J.exit ?_
  refine Kp [0, 2, 4, 10] rfl ?_
  refine Rg ?_
  refine Ru 3 rfl ?_
  refine JL.op si_ rfl ?_
  rw [show (m : Int) - i = ((m - i : Nat) : Int) by omega]
  refine Ru 3 rfl ?_
  refine JL.call ca_68 rfl (swapr_fn (a := m - i) (b := m) (k := i) hCr (hn.trans hrl.symm) (by omega) (by omega) (by omega)) pt_ rfl ?_
  rintro _ h5 Lo5 hle5 ⟨zs, r', rfl, rfl, hC', hS', hE'⟩
  replace hh0 := hh0.mono hle5
  replace hCr := hCr.mono hle5
  refine JL.nil ?_
  exact ⟨_, [_], _, (RetV.none_ rfl), .cons .here .nil, _, rfl, _, r', rfl, rfl, hC', hS.trans _ (hS'.mono _ (by omega) (by omega)), fun q => by rw [hE', hst, hE]⟩
end Go.Proofs.YtldbjnhfkjicjaaDoor
namespace Go.Proofs.YtldbjnhfkjicjaaDoor
open Go Go.RowKit
set_option maxRecDepth 100000
theorem ca_18 : callT Tryd.prog 18 = true := by kernel_rfl
theorem cb_as : ∀ (x y : List UInt8), Go.Lib.compareBytes x y < 0 → ¬ Go.Lib.compareBytes y x < 0
  | [], [], h => by simp [Go.Lib.compareBytes] at h
  | [], _ :: _, _ => by simp [Go.Lib.compareBytes]
  | _ :: _, [], h => by simp [Go.Lib.compareBytes] at h
  | a :: l, b :: r, h => by
    have ih := cb_as l r
    simp only [Go.Lib.compareBytes, UInt8.lt_iff_toNat_lt] at h ⊢
    (repeat' split at h) <;> (repeat' split) <;> first | omega | (exact ih h) | (simp; done)
theorem cb_tr : ∀ (x y w : List UInt8), ¬ Go.Lib.compareBytes y x < 0 → ¬ Go.Lib.compareBytes w y < 0 → ¬ Go.Lib.compareBytes w x < 0
  | [], _, [], _, _ => by simp [Go.Lib.compareBytes]
  | [], _, _ :: _, _, _ => by simp [Go.Lib.compareBytes]
  | _ :: _, [], _, h, _ => by simp [Go.Lib.compareBytes] at h
  | _ :: _, _ :: _, [], _, h => by simp [Go.Lib.compareBytes] at h
  | a :: l, b :: r, d :: t, h1, h2 => by
    have ih := cb_tr l r t
    simp only [Go.Lib.compareBytes, UInt8.lt_iff_toNat_lt] at h1 h2 ⊢
    split at h1
    · simp at h1
    · split at h2
      · simp at h2
      · rw [if_neg (by omega)]
        split at h1
        · rw [if_pos (by omega)]; simp
        · split at h2
          · rw [if_pos (by omega)]; simp
          · rw [if_neg (by omega)]; exact ih h1 h2
theorem cb_eq : ∀ (x y : List UInt8), ¬ Go.Lib.compareBytes x y < 0 → ¬ Go.Lib.compareBytes y x < 0 → x = y
  | [], [], _, _ => rfl
  | [], _ :: _, h, _ => by simp [Go.Lib.compareBytes] at h
  | _ :: _, [], _, h => by simp [Go.Lib.compareBytes] at h
  | a :: l, b :: r, h1, h2 => by
    have ih := cb_eq l r
    simp only [Go.Lib.compareBytes, UInt8.lt_iff_toNat_lt] at h1 h2
    have e : a.toNat = b.toNat := by
      split at h1
      · simp at h1
      · split at h2
        · simp at h2
        · omega
    rw [if_neg (by omega), if_neg (by omega)] at h1 h2
    rw [UInt8.toNat_inj.1 e, ih h1 h2]
abbrev olt (p q : List UInt8 × Nd) : Bool := decide (Go.Lib.compareBytes p.1 q.1 < 0)
theorem olt_ord : Ord olt := ⟨fun x y w h1 h2 => decide_eq_false (cb_tr x.1 y.1 w.1 (of_decide_eq_false h1) (of_decide_eq_false h2)), fun x y h => decide_eq_false (cb_as x.1 y.1 (of_decide_eq_true h))⟩
section
variable {f : Fr} {n : Post} {x : Nat → Post} {S : Sig} {h : Part} {L : List Ent} {ops : Array Oper} {rest : List Oper} {ty : TypeId} {pos : String} {af : Array Edge} {d F : Nat} {v : Value}
theorem JL.callvP {args : List Value} {os : List Operand} {ts : Array TypeId} {fo : Operand} (hF : callT f.P F = true) (hf : ev S fo = some (.func (.func F) #[] #[])) (ha : evl S os = some args) (c : Pure f.P F args h v) (hd : Nat.blt d f.m = true) (k : JL f ops n x rest ((d, v) :: S) h L) :
    JL f ops n x (⟨some d, .call { callee := .value fo, args := os.toArray, argTypes := ts }, ty, pos, af, none⟩ :: rest) S h L := fun a w s => by
  refine wpList_enter hF (by simp [Region.wanted]) ?_ c .nil s rfl hd (fun _ _ ⟨_, hh, _⟩ => by cases hh) (fun _ _ _ _ ⟨_, hh, _⟩ => by cases hh) (fun u h' Lo _ ⟨_, hh, h1, h2, h3⟩ => by cases hh; subst h1 h2 h3; exact k)
  have hm : os.toArray.map a.eval = args.toArray := by simp [evl_spec s ha]
  simp [execOp, resolve, hm, s.eval hf, Deferred.ofValue, invoke, run_call hF]
theorem JL.callvPg {j dj : Nat} {b : Bool} {args : List Value} {os : List Operand} {ts : Array TypeId} {fo : Operand} (hj : (ops[j]?).bind (·.dst) = some dj) (hs : look S dj = some (.bool b)) (hF : callT f.P F = true) (hf : ev S fo = some (.func (.func F) #[] #[])) (ha : evl S os = some args) (c : Pure f.P F args h v) (hd : Nat.blt d f.m = true) (k : JL f ops n x rest ((d, v) :: S) h L) :
    JL f ops n x (⟨some d, .call { callee := .value fo, args := os.toArray, argTypes := ts }, ty, pos, af, some (j, b)⟩ :: rest) S h L := fun a w s => by
  refine wpList_enter hF (by simp [Region.wanted, yielded_of s hj hs]) ?_ c .nil s rfl hd (fun _ _ ⟨_, hh, _⟩ => by cases hh) (fun _ _ _ _ ⟨_, hh, _⟩ => by cases hh) (fun u h' Lo _ ⟨_, hh, h1, h2, h3⟩ => by cases hh; subst h1 h2 h3; exact k)
  have hm : os.toArray.map a.eval = args.toArray := by simp [evl_spec s ha]
  simp [execOp, resolve, hm, s.eval hf, Deferred.ofValue, invoke, run_call hF]
end
theorem setcmp_fn {cs cs2 : List Value} {p q : List UInt8 × Nd} {h : Part} (r1 : oneR h cs p) (r2 : oneR h cs2 q) : Pure Tryd.prog 18 [.agg cs.toArray, .agg cs2.toArray] h (.int .i64 (Go.Lib.compareBytes p.1 q.1)) := by
  obtain ⟨a, c, ns, rfl, ha, -⟩ := r1
  obtain ⟨b, d, ms, rfl, hb, -⟩ := r2
  obtain ⟨x, n⟩ := p
  obtain ⟨y, m⟩ := q
  refine Pure.ofV ?_
  refine Fn.intro Tryd.func18 rfl Tryd.ntmps18 rfl (fun e he => ?_)
  refine J.weak [(0, _), (1, _)] ⟨rfl, rfl, trivial⟩ ?_
  refine Sr ?_
  refine JL.box rfl rfl rfl (fun b1 => ?_)
  refine JL.box rfl rfl rfl (fun b2 => ?_)
  refine Ru 1 rfl ?_
  refine JL.nil ?_
  refine Sr ?_
  refine Ru 1 rfl ?_
  refine JL.op (RunV.own1 ag_24 rfl mm_ rfl) rfl ?_
  refine Ru 1 rfl ?_
  refine JL.op (RunV.own1 ag_24 rfl mm_ rfl) rfl ?_
  refine JL.callP ca_19 rfl (bcompare_fn (by assumption) (by assumption)) rfl ?_
  refine Ru 1 rfl ?_
  refine Nk [4] rfl ?_
  exact J.retV (RetV.one rfl rfl) rfl
theorem dn_step {r r2 : List (List UInt8 × Nd)} {a i j : Nat} (ha : a < j) (hj : j ≤ i) (hi : i < r2.length) (h : ∀ k, gg oz r2 k = gg oz r (if k = j then i else if j < k ∧ k ≤ i then k - 1 else k)) : ∀ k, gg oz (swp oz r2 j (j - 1)) k = gg oz r (if k = j - 1 then i else if j - 1 < k ∧ k ≤ i then k - 1 else k) := fun k => by
  rw [gg_swp oz (by omega) (by omega)]
  by_cases h1 : k = j - 1
  · rw [if_pos h1, if_pos h1, h, if_pos rfl]
  · rw [if_neg h1, if_neg h1]
    by_cases h2 : k = j
    · rw [if_pos h2, h, if_neg (by omega), if_neg (by omega), if_pos (by omega), h2]
    · rw [if_neg h2, h, if_neg h2]
      by_cases h3 : j < k ∧ k ≤ i
      · rw [if_pos h3, if_pos (by omega)]
      · rw [if_neg h3, if_neg (by omega)]
theorem insort_fn {g n c a b : Nat} {xs : List Value} {l : List (List UInt8 × Nd)} {h : Part} (hC : CellsR oneR 6 h xs l) (hn : n = l.length) (hl : l.length ≤ 1000000) (h1 : a ≤ b) (h2 : b ≤ l.length) :
    Fn Tryd.prog 44 [.slice (some ⟨g, 0, none⟩) n c, .int .i64 a, .int .i64 b, .func (.func 18) #[] #[]] h [.row (some ⟨g, 0, none⟩) c 51 6 n xs]
      (Rets fun v h' Lo => ∃ xs' l', v = .tuple #[] ∧ Lo = [.row (some ⟨g, 0, none⟩) c 51 6 n xs'] ∧ CellsR oneR 6 h' xs' l' ∧ Sw oz a b l l' ∧ So oz olt l' a b) := by
  refine Fn.intro Tryd.func44 rfl Tryd.ntmps44 rfl (fun e he => ?_)
  refine J.weak [(0, _), (1, _), (2, _), (3, _)] ⟨rfl, rfl, rfl, rfl, trivial⟩ ?_
  have hh0 := Part.le.refl h
  refine Sr ?_
  refine Ru 1 rfl ?_
  refine JL.op ai_ rfl ?_
  refine Ru 1 rfl ?_
  refine JL.nil ?_
  refine J.block ?_
  refine J.loop (fun t_ S_ h_ L_ => ∃ (p : Part) (i : Nat) (ys : List Value) (r : List (List UInt8 × Nd)), t_ = b + 1 - i ∧ S_ = [(0, .slice (some ⟨g, 0, none⟩) n c), (1, .int .i64 a), (2, .int .i64 b), (3, .func (.func 18) #[] #[]), (8, .int .i64 i)] ∧ p = h_ ∧ L_ = [.row (some ⟨g, 0, none⟩) c 51 6 n ys] ∧ (h.le p ∧ (a + 1 ≤ i ∧ i ≤ b + 1) ∧ CellsR oneR 6 p ys r ∧ Sw oz a b l r ∧ So oz olt r a i)) ⟨_, _, ?_, ⟨_, a + 1, xs, l, rfl, rfl, rfl, rfl, ⟨hh0, by omega, hC, .refl _, So.one oz (by omega)⟩⟩⟩ ?_
  ·
   exact z5_
  rintro _ _ _ _ ⟨p, i, ys, r, rfl, rfl, rfl, rfl, hh0, hia, hCr, hS, hO⟩
  have hrl := hS.len
  refine J.seq ?_
  refine Sr ?_
  refine Ru 3 rfl ?_
  refine JL.nil ?_
  refine Cs rfl (fun hc1 => ?_) fun hc1 => ?_
  ·
   refine J.skip ?_
   refine J.seq ?_
   refine J.block ?_
   refine Sr ?_
   refine Ru 2 rfl ?_
   refine JL.nil ?_
   refine J.block ?_
   refine J.loop (fun t_ S_ h_ L_ => ∃ (p2 : Part) (j : Nat) (zs : List Value) (q : List (List UInt8 × Nd)), t_ = j + 1 ∧ S_ = [(0, .slice (some ⟨g, 0, none⟩) n c), (1, .int .i64 a), (2, .int .i64 b), (3, .func (.func 18) #[] #[]), (8, .int .i64 i), (9, .int .i64 j)] ∧ p2 = h_ ∧ L_ = [.row (some ⟨g, 0, none⟩) c 51 6 n zs] ∧ (h.le p2 ∧ (a ≤ j ∧ j ≤ i) ∧ CellsR oneR 6 p2 zs q ∧ Sw oz a b l q ∧ (∀ k, gg oz q k = gg oz r (if k = j then i else if j < k ∧ k ≤ i then k - 1 else k)) ∧ (j = i ∨ olt (gg oz r i) (gg oz r j) = true))) ⟨_, _, ?_, ⟨_, i, ys, r, rfl, rfl, rfl, rfl, ⟨by assumption, by omega, by assumption, hS, fun k => by (repeat' split) <;> first | rfl | (subst_vars; rfl) | omega, .inl rfl⟩⟩⟩ ?_
   ·
    exact z4_
   rintro _ _ _ _ ⟨p2, j, zs, q, rfl, rfl, rfl, rfl, hh0, hja, hCq, hSq, hE, hlast⟩
   have hql := hSq.len; have hj1 : j < q.length := (by omega); have d1 := hCq.at hj1
   refine J.seq ?_
   refine J.seq ?_
   refine J.held ([]) 17 mixed_ rfl (fun h00 => ?_)
   refine Tk 0 rfl (RunV.move rfl) ?_
   refine Tk 1 rfl (RunV.move rfl) ?_
   refine Tk 2 rfl (RunV.gtr rfl rfl) ?_
   refine Tk 3 rfl (RunV.move rfl) ?_
   refine Bh 21 rfl (fun hc2 => ?_) fun hc2 => ?_
   ·
    have hj2 : j - 1 < q.length := (by omega); have d2 := hCq.at hj2; have e1 : q[j] = gg oz r i := (by rw [← gg_at oz hj1, hE, if_pos rfl]); have e2 : q[j - 1] = gg oz r (j - 1) := (by rw [← gg_at oz hj2, hE, if_neg (by omega), if_neg (by omega)])
    refine Tg 4 rfl rfl rfl (RunV.move rfl) ?_
    refine Tg 5 rfl rfl rfl (RunV.move rfl) ?_
    refine Tg 6 rfl rfl rfl (RunV.move rfl) ?_
    refine Tg 7 rfl rfl rfl (RunV.indexA (m := j) sl_44 rfl rfl (by omega) (by omega)) ?_
    refine Tg 9 rfl rfl rfl (RunV.move rfl) ?_
    refine Tg 10 rfl rfl rfl (RunV.move rfl) ?_
    refine Tg 11 rfl rfl rfl si_ ?_
    refine Tg 12 rfl rfl rfl (RunV.indexA (m := j - 1) sl_44 rfl rfl (by omega) (by omega)) ?_
    refine JH.all2 8 13 (by kernel_rfl) rfl rfl ?_ ?_
    ·
     unfold One
     refine JL.opg rfl rfl  (RunV.rowA ag_51 rfl mm_ d1.2) rfl ?_
     refine JL.nil ⟨(br_ h00), ?_⟩
     refine Ta 13 rfl ?_
     unfold One
     refine JL.opg rfl rfl  (RunV.rowA ag_51 rfl mm_ d2.2) rfl ?_
     refine JL.nil ⟨(br_ h00), ?_⟩
     refine Ta 14 rfl ?_
     unfold One
     refine JL.callvPg rfl rfl ca_18 rfl rfl (setcmp_fn d1.1 d2.1) rfl ?_
     refine JL.nil ⟨(br_ h00), ?_⟩
     refine Tg 15 rfl rfl rfl (RunV.lss rfl rfl) ?_
     refine Tk 16 rfl (RunV.pick_t rfl rfl) ?_
     refine JH.done (by kernel_rfl) ?_
     refine Cs rfl (fun hc4 => ?_) fun hc4 => ?_
     ·
      have hlt : olt (gg oz r i) (gg oz r (j - 1)) = true := (by rw [← e1, ← e2]; exact decide_eq_true hc4)
      refine J.skip ?_
      refine J.seq ?_
      refine J.block ?_
      refine J.held ([]) 18 mixed_ rfl (fun h00 => ?_)
      refine Tk 0 rfl (RunV.move rfl) ?_
      refine Tk 1 rfl (RunV.move rfl) ?_
      refine Tk 2 rfl (RunV.move rfl) ?_
      refine Tk 3 rfl (RunV.move rfl) ?_
      refine Tk 4 rfl si_ ?_
      refine Tk 5 rfl (RunV.move rfl) ?_
      refine Tk 6 rfl (RunV.move rfl) ?_
      refine Tk 7 rfl si_ ?_
      refine Tk 8 rfl (RunV.indexA (m := j - 1) sl_44 rfl rfl (by omega) (by omega)) ?_
      refine Tk 10 rfl (RunV.move rfl) ?_
      refine Tk 11 rfl (RunV.move rfl) ?_
      refine Tk 12 rfl (RunV.indexA (m := j) sl_44 rfl rfl (by omega) (by omega)) ?_
      refine JH.all2 9 13 (by kernel_rfl) rfl rfl ?_ ?_
      ·
       unfold One
       refine JL.op (RunV.rowA ag_51 rfl mm_ d2.2) rfl ?_
       refine JL.nil ⟨(br_ h00), ?_⟩
       refine Ta 13 rfl ?_
       unfold One
       refine JL.op (RunV.rowA ag_51 rfl mm_ d1.2) rfl ?_
       refine JL.nil ⟨(br_ h00), ?_⟩
       refine Tk 14 rfl (RunV.indexA (m := j) sl_44 rfl rfl (by omega) (by omega)) ?_
       refine Ta 15 rfl ?_
       unfold One
       refine JL.storeRowA ag_51 rfl rfl (Mono.one d2.1) d2.1.len dl_ d1.2 ?_
       refine JL.nil ⟨(br_ h00), ?_⟩
       refine Tk 16 rfl (RunV.indexA (m := j - 1) sl_44 rfl rfl (by omega) (by omega)) ?_
       refine Ta 17 rfl ?_
       unfold One
       refine JL.storeRowA ag_51 rfl rfl (Mono.one d1.1) d1.1.len dl_ (by rw [over_len (by rw [d2.1.len]; exact d1.2)]; exact d2.2) ?_
       refine JL.nil ⟨(br_ h00), ?_⟩
       refine JH.done (by kernel_rfl) ?_
       refine Rg ?_
       refine Ru 1 rfl ?_
       refine JL.op si_ rfl ?_
       refine Ru 1 rfl ?_
       refine JL.nil ?_
       refine ⟨_, ?_, _, ?_, ⟨_, j - 1, _, swp oz q j (j - 1), rfl, rfl, rfl, rfl, ⟨by assumption, by omega, hCq.swap hj1 hj2, .step hSq (by omega) (by omega) (by omega) (by omega) hj1 hj2, dn_step (a := a) (i := i) (j := j) (r := r) (by omega) (by omega) (by omega) hE, .inr hlt⟩⟩⟩
       ·
        omega
       exact z4_
      unfold One
      refine JL.op (RunV.rowA ag_51 rfl mm_ d1.2) rfl ?_
      refine JL.nil ⟨(br_ h00), ?_⟩
      refine Ta 9 rfl ?_
      unfold One
      refine JL.op (RunV.rowA ag_51 rfl mm_ d2.2) rfl ?_
      refine JL.nil ⟨(br_ h00), ?_⟩
      refine Tk 14 rfl (RunV.indexA (m := j) sl_44 rfl rfl (by omega) (by omega)) ?_
      refine Ta 15 rfl ?_
      unfold One
      refine JL.storeRowA ag_51 rfl rfl (Mono.one d2.1) d2.1.len dl_ d1.2 ?_
      refine JL.nil ⟨(br_ h00), ?_⟩
      refine Tk 16 rfl (RunV.indexA (m := j - 1) sl_44 rfl rfl (by omega) (by omega)) ?_
      refine Ta 17 rfl ?_
      unfold One
      refine JL.storeRowA ag_51 rfl rfl (Mono.one d1.1) d1.1.len dl_ (by rw [over_len (by rw [d2.1.len]; exact d1.2)]; exact d2.2) ?_
      refine JL.nil ⟨(br_ h00), ?_⟩
      refine JH.done (by kernel_rfl) ?_
      refine Rg ?_
      refine Ru 1 rfl ?_
      refine JL.op si_ rfl ?_
      refine Ru 1 rfl ?_
      refine JL.nil ?_
      refine ⟨_, ?_, _, ?_, ⟨_, j - 1, _, swp oz q j (j - 1), rfl, rfl, rfl, rfl, ⟨by assumption, by omega, hCq.swap hj1 hj2, .step hSq (by omega) (by omega) (by omega) (by omega) hj1 hj2, dn_step (a := a) (i := i) (j := j) (r := r) (by omega) (by omega) (by omega) hE, .inr hlt⟩⟩⟩
      ·
       omega
      exact z4_
     have hstop : j = a ∨ olt (gg oz r i) (gg oz r (j - 1)) = false := (by first | exact .inl (by omega) | exact .inr (by rw [← e1, ← e2]; exact decide_eq_false hc4))
     refine J.exit ?_
     refine Rg ?_
     refine Ru 1 rfl ?_
     refine JL.op ai_ rfl ?_
     refine Ru 1 rfl ?_
     refine JL.nil ?_
     refine ⟨_, ?_, _, ?_, ⟨_, i + 1, zs, q, rfl, rfl, rfl, rfl, ⟨by assumption, by omega, hCq, hSq, ins_down oz hO (by omega) (by omega) hstop hlast olt_ord hE⟩⟩⟩
     ·
      omega
     exact z5_
    unfold One
    refine JL.opg rfl rfl  (RunV.rowA ag_51 rfl mm_ d2.2) rfl ?_
    refine JL.nil ⟨(br_ h00), ?_⟩
    refine Ta 8 rfl ?_
    unfold One
    refine JL.opg rfl rfl  (RunV.rowA ag_51 rfl mm_ d1.2) rfl ?_
    refine JL.nil ⟨(br_ h00), ?_⟩
    refine Ta 14 rfl ?_
    unfold One
    refine JL.callvPg rfl rfl ca_18 rfl rfl (setcmp_fn d1.1 d2.1) rfl ?_
    refine JL.nil ⟨(br_ h00), ?_⟩
    refine Tg 15 rfl rfl rfl (RunV.lss rfl rfl) ?_
    refine Tk 16 rfl (RunV.pick_t rfl rfl) ?_
    refine JH.done (by kernel_rfl) ?_
    refine Cs rfl (fun hc10 => ?_) fun hc10 => ?_
    ·
     have hlt : olt (gg oz r i) (gg oz r (j - 1)) = true := (by rw [← e1, ← e2]; exact decide_eq_true hc10)
     refine J.skip ?_
     refine J.seq ?_
     refine J.block ?_
     refine J.held ([]) 18 mixed_ rfl (fun h00 => ?_)
     refine Tk 0 rfl (RunV.move rfl) ?_
     refine Tk 1 rfl (RunV.move rfl) ?_
     refine Tk 2 rfl (RunV.move rfl) ?_
     refine Tk 3 rfl (RunV.move rfl) ?_
     refine Tk 4 rfl si_ ?_
     refine Tk 5 rfl (RunV.move rfl) ?_
     refine Tk 6 rfl (RunV.move rfl) ?_
     refine Tk 7 rfl si_ ?_
     refine Tk 8 rfl (RunV.indexA (m := j - 1) sl_44 rfl rfl (by omega) (by omega)) ?_
     refine Tk 10 rfl (RunV.move rfl) ?_
     refine Tk 11 rfl (RunV.move rfl) ?_
     refine Tk 12 rfl (RunV.indexA (m := j) sl_44 rfl rfl (by omega) (by omega)) ?_
     refine JH.all2 9 13 (by kernel_rfl) rfl rfl ?_ ?_
     ·
      unfold One
      refine JL.op (RunV.rowA ag_51 rfl mm_ d2.2) rfl ?_
      refine JL.nil ⟨(br_ h00), ?_⟩
      refine Ta 13 rfl ?_
      unfold One
      refine JL.op (RunV.rowA ag_51 rfl mm_ d1.2) rfl ?_
      refine JL.nil ⟨(br_ h00), ?_⟩
      refine Tk 14 rfl (RunV.indexA (m := j) sl_44 rfl rfl (by omega) (by omega)) ?_
      refine Ta 15 rfl ?_
      unfold One
      refine JL.storeRowA ag_51 rfl rfl (Mono.one d2.1) d2.1.len dl_ d1.2 ?_
      refine JL.nil ⟨(br_ h00), ?_⟩
      refine Tk 16 rfl (RunV.indexA (m := j - 1) sl_44 rfl rfl (by omega) (by omega)) ?_
      refine Ta 17 rfl ?_
      unfold One
      refine JL.storeRowA ag_51 rfl rfl (Mono.one d1.1) d1.1.len dl_ (by rw [over_len (by rw [d2.1.len]; exact d1.2)]; exact d2.2) ?_
      refine JL.nil ⟨(br_ h00), ?_⟩
      refine JH.done (by kernel_rfl) ?_
      refine Rg ?_
      refine Ru 1 rfl ?_
      refine JL.op si_ rfl ?_
      refine Ru 1 rfl ?_
      refine JL.nil ?_
      refine ⟨_, ?_, _, ?_, ⟨_, j - 1, _, swp oz q j (j - 1), rfl, rfl, rfl, rfl, ⟨by assumption, by omega, hCq.swap hj1 hj2, .step hSq (by omega) (by omega) (by omega) (by omega) hj1 hj2, dn_step (a := a) (i := i) (j := j) (r := r) (by omega) (by omega) (by omega) hE, .inr hlt⟩⟩⟩
      ·
       omega
      exact z4_
     unfold One
     refine JL.op (RunV.rowA ag_51 rfl mm_ d1.2) rfl ?_
     refine JL.nil ⟨(br_ h00), ?_⟩
     refine Ta 9 rfl ?_
     unfold One
     refine JL.op (RunV.rowA ag_51 rfl mm_ d2.2) rfl ?_
     refine JL.nil ⟨(br_ h00), ?_⟩
     refine Tk 14 rfl (RunV.indexA (m := j) sl_44 rfl rfl (by omega) (by omega)) ?_
     refine Ta 15 rfl ?_
     unfold One
     refine JL.storeRowA ag_51 rfl rfl (Mono.one d2.1) d2.1.len dl_ d1.2 ?_
     refine JL.nil ⟨(br_ h00), ?_⟩
     refine Tk 16 rfl (RunV.indexA (m := j - 1) sl_44 rfl rfl (by omega) (by omega)) ?_
     refine Ta 17 rfl ?_
     unfold One
     refine JL.storeRowA ag_51 rfl rfl (Mono.one d1.1) d1.1.len dl_ (by rw [over_len (by rw [d2.1.len]; exact d1.2)]; exact d2.2) ?_
     refine JL.nil ⟨(br_ h00), ?_⟩
     refine JH.done (by kernel_rfl) ?_
     refine Rg ?_
     refine Ru 1 rfl ?_
     refine JL.op si_ rfl ?_
     refine Ru 1 rfl ?_
     refine JL.nil ?_
     refine ⟨_, ?_, _, ?_, ⟨_, j - 1, _, swp oz q j (j - 1), rfl, rfl, rfl, rfl, ⟨by assumption, by omega, hCq.swap hj1 hj2, .step hSq (by omega) (by omega) (by omega) (by omega) hj1 hj2, dn_step (a := a) (i := i) (j := j) (r := r) (by omega) (by omega) (by omega) hE, .inr hlt⟩⟩⟩
     ·
      omega
     exact z4_
    have hstop : j = a ∨ olt (gg oz r i) (gg oz r (j - 1)) = false := (by first | exact .inl (by omega) | exact .inr (by rw [← e1, ← e2]; exact decide_eq_false hc10))
    refine J.exit ?_
    refine Rg ?_
    refine Ru 1 rfl ?_
    refine JL.op ai_ rfl ?_
    refine Ru 1 rfl ?_
    refine JL.nil ?_
    refine ⟨_, ?_, _, ?_, ⟨_, i + 1, zs, q, rfl, rfl, rfl, rfl, ⟨by assumption, by omega, hCq, hSq, ins_down oz hO (by omega) (by omega) hstop hlast olt_ord hE⟩⟩⟩
    ·
     omega
    exact z5_
   have hstop : j = a ∨ olt (gg oz r i) (gg oz r (j - 1)) = false := .inl (by omega)
   refine Ts 4 rfl rfl rfl ?_
   refine Ts 5 rfl rfl rfl ?_
   refine Ts 6 rfl rfl rfl ?_
   refine Ts 7 rfl rfl rfl ?_
   refine Ts 9 rfl rfl rfl ?_
   refine Ts 10 rfl rfl rfl ?_
   refine Ts 11 rfl rfl rfl ?_
   refine Ts 12 rfl rfl rfl ?_
   refine JH.all2 8 13 (by kernel_rfl) rfl rfl ?_ ?_
   ·
    unfold One
    refine JL.skip rfl rfl rfl ?_
    refine JL.nil ⟨(br_ h00), ?_⟩
    refine Ta 13 rfl ?_
    unfold One
    refine JL.skip rfl rfl rfl ?_
    refine JL.nil ⟨(br_ h00), ?_⟩
    refine Ta 14 rfl ?_
    unfold One
    refine JL.skip rfl rfl rfl ?_
    refine JL.nil ⟨(br_ h00), ?_⟩
    refine Ts 15 rfl rfl rfl ?_
    refine Tk 16 rfl (RunV.pick_f rfl rfl) ?_
    refine JH.done (by kernel_rfl) ?_
    refine J.cond_f rfl ?_
    refine J.exit ?_
    refine Rg ?_
    refine Ru 1 rfl ?_
    refine JL.op ai_ rfl ?_
    refine Ru 1 rfl ?_
    refine JL.nil ?_
    refine ⟨_, ?_, _, ?_, ⟨_, i + 1, zs, q, rfl, rfl, rfl, rfl, ⟨by assumption, by omega, hCq, hSq, ins_down oz hO (by omega) (by omega) hstop hlast olt_ord hE⟩⟩⟩
    ·
     omega
    exact z5_
   unfold One
   refine JL.skip rfl rfl rfl ?_
   refine JL.nil ⟨(br_ h00), ?_⟩
   refine Ta 8 rfl ?_
   unfold One
   refine JL.skip rfl rfl rfl ?_
   refine JL.nil ⟨(br_ h00), ?_⟩
   refine Ta 14 rfl ?_
   unfold One
   refine JL.skip rfl rfl rfl ?_
   refine JL.nil ⟨(br_ h00), ?_⟩
   refine Ts 15 rfl rfl rfl ?_
   refine Tk 16 rfl (RunV.pick_f rfl rfl) ?_
   refine JH.done (by kernel_rfl) ?_
   refine J.cond_f rfl ?_
   refine J.exit ?_
   refine Rg ?_
   refine Ru 1 rfl ?_
   refine JL.op ai_ rfl ?_
   refine Ru 1 rfl ?_
   refine JL.nil ?_
   refine ⟨_, ?_, _, ?_, ⟨_, i + 1, zs, q, rfl, rfl, rfl, rfl, ⟨by assumption, by omega, hCq, hSq, ins_down oz hO (by omega) (by omega) hstop hlast olt_ord hE⟩⟩⟩
   ·
    omega
   exact z5_
  refine J.exit ?_
  exact ⟨_, [_], _, (RetV.none_ rfl), .cons .here .nil, _, rfl, _, _, rfl, rfl, hCr, hS, hO.sub oz (Nat.le_refl _) (by omega)⟩
end Go.Proofs.YtldbjnhfkjicjaaDoor
namespace Go.Proofs.YtldbjnhfkjicjaaDoor
open Go Go.RowKit
theorem z9_ {p : Prop} (u : p := by repeat (first | exact trivial | refine ⟨rfl, ?_⟩ | refine ⟨(by exact some_bool (by first | exact decide_eq_decide.2 (by omega) | exact (decide_eq_true (by omega)).symm | exact (decide_eq_false (by omega)).symm)), ?_⟩)) : p := u
end Go.Proofs.YtldbjnhfkjicjaaDoor
namespace Go.Proofs.YtldbjnhfkjicjaaDoor
open Go Go.RowKit
set_option maxRecDepth 100000
theorem ca_45 : callT Tryd.prog 45 = true := by kernel_rfl
theorem ca_58 : callT Tryd.prog 58 = true := by kernel_rfl
theorem cv_3_74 : convI Tryd.prog 3 74 = some .u64 := by kernel_rfl
theorem cv_74_3 : convI Tryd.prog 74 3 = some .i64 := by kernel_rfl
theorem up_step {r r2 : List (List UInt8 × Nd)} {a k : Nat} (ha : a ≤ k) (hi : k + 1 < r2.length) (h : ∀ t, gg oz r2 t = gg oz r (if a ≤ t ∧ t < k then t + 1 else if t = k then a else t)) : ∀ t, gg oz (swp oz r2 k (k + 1)) t = gg oz r (if a ≤ t ∧ t < k + 1 then t + 1 else if t = k + 1 then a else t) := fun t => by
  rw [gg_swp oz (by omega) (by omega)]
  by_cases h1 : t = k + 1
  · rw [if_pos h1, if_neg (by omega), if_pos h1, h, if_neg (by omega), if_pos rfl]
  · rw [if_neg h1]
    by_cases h2 : t = k
    · rw [if_pos h2, if_pos (by omega), h, if_neg (by omega), if_neg (by omega), h2]
    · rw [if_neg h2, h, if_neg h2, if_neg h1]
      by_cases h3 : a ≤ t ∧ t < k
      · rw [if_pos h3, if_pos (by omega)]
      · rw [if_neg h3, if_neg (by omega)]
theorem so_pick {l : List (List UInt8 × Nd)} {a s mid : Nat} (h : ¬ (a < s ∧ s < mid)) (ha : a ≤ s) (hb : s ≤ mid) (p1 : So oz olt l a s) (p2 : So oz olt l s mid) : So oz olt l a mid := by
  rcases (show s = a ∨ s = mid by omega) with rfl | rfl
  · exact p2
  · exact p1
set_option maxHeartbeats 4000000 in
theorem smerge_fn : ∀ (N : Nat) (g n c a m b : Nat) (xs : List Value) (l : List (List UInt8 × Nd)) (h : Part), b - a ≤ N → CellsR oneR 6 h xs l → n = l.length → l.length ≤ 1000000 → a < m → m < b → b ≤ l.length → So oz olt l a m → So oz olt l m b →
    Fn Tryd.prog 45 [.slice (some ⟨g, 0, none⟩) n c, .int .i64 a, .int .i64 m, .int .i64 b, .func (.func 18) #[] #[]] h [.row (some ⟨g, 0, none⟩) c 51 6 n xs]
      (Rets fun v h' Lo => ∃ xs' l', v = .tuple #[] ∧ Lo = [.row (some ⟨g, 0, none⟩) c 51 6 n xs'] ∧ CellsR oneR 6 h' xs' l' ∧ Sw oz a b l l' ∧ So oz olt l' a b) := by
  intro N
  induction N with
  | zero => intro g n c a m b xs l h hN; omega
  | succ N ih =>
  intro g n c a m b xs l h hN hC hn hl h1 h2 h3 hO1 hO2
  have dA := hC.at (show a < l.length by omega)
  have dM := hC.at (show m < l.length by omega)
  have gA := gg_at oz (show a < l.length by omega)
  have gM := gg_at oz (show m < l.length by omega)
  refine Fn.intro Tryd.func45 rfl Tryd.ntmps45 rfl (fun e he => ?_)
  refine J.weak [(0, _), (1, _), (2, _), (3, _), (4, _)] ⟨rfl, rfl, rfl, rfl, rfl, trivial⟩ ?_
  have hh0 := Part.le.refl h
  refine J.seq ?_
  refine Sr ?_
  refine Ru 2 rfl ?_
  refine JL.op si_ rfl ?_
  refine Ru 1 rfl ?_
  refine JL.nil ?_
  refine Cs rfl (fun hc1 => ?_) fun hc1 => ?_
  ·
   refine Sr ?_
   refine Ru 2 rfl ?_
   refine Nk [10, 0, 1, 2, 3, 4] rfl ?_
   refine Sr ?_
   refine Ru 2 rfl ?_
   refine JL.nil ?_
   refine J.seq ?_
   refine J.block ?_
   refine J.loop (fun t_ S_ h_ L_ => ∃ (i j : Nat), t_ = j - i ∧ S_ = [(0, .slice (some ⟨g, 0, none⟩) n c), (1, .int .i64 a), (2, .int .i64 m), (3, .int .i64 b), (4, .func (.func 18) #[] #[]), (10, .int .i64 i), (11, .int .i64 j)] ∧ h = h_ ∧ L_ = [.row (some ⟨g, 0, none⟩) c 51 6 n xs] ∧ ((m ≤ i ∧ i ≤ j ∧ j ≤ b) ∧ (i = m ∨ olt (gg oz l (i - 1)) (gg oz l a) = true) ∧ (j = b ∨ olt (gg oz l j) (gg oz l a) = false))) ⟨_, _, ?_, ⟨m, b, rfl, rfl, rfl, rfl, ⟨by omega, .inl rfl, .inl rfl⟩⟩⟩ ?_
   ·
    exact z4_
   rintro _ _ _ _ ⟨i, j, rfl, rfl, rfl, rfl, hij, hlo, hhi⟩
   refine J.seq ?_
   refine Sr ?_
   refine Ru 3 rfl ?_
   refine JL.nil ?_
   refine Cs rfl (fun hc2 => ?_) fun hc2 => ?_
   ·
    obtain ⟨u, hu⟩ : ∃ u : Nat, u = (i + j) / 2 := ⟨_, rfl⟩; have hul : u < l.length := (by omega); have dU := hC.at hul; have gU := gg_at oz hul
    refine J.skip ?_
    refine J.block ?_
    refine Sr ?_
    refine Ru 2 rfl ?_
    refine JL.op ((by first | exact RunV.add_i64 rfl rfl (by omega) (by omega))) rfl ?_
    refine JL.op (by first | exact RunV.conv_u64 cv_3_74 rfl (by omega) (by omega) | exact RunV.conv cv_3_74 rfl) rfl ?_
    refine JL.op (RunV.shr_u64 2 rfl rfl (by decide) (by decide) (by decide)) rfl ?_
    refine JL.op (by first | exact RunV.conv_i64 cv_74_3 rfl (by omega) (by omega) | exact RunV.conv cv_74_3 rfl) rfl ?_
    rw [show ((i : Int) + j) / 2 = (u : Int) by omega]
    refine Ru 1 rfl ?_
    refine JL.nil ?_
    refine J.seq ?_
    refine J.held ([]) 11 mixed_ rfl (fun h00 => ?_)
    refine Tk 0 rfl (RunV.move rfl) ?_
    refine Tk 1 rfl (RunV.move rfl) ?_
    refine Tk 2 rfl (RunV.move rfl) ?_
    refine Tk 3 rfl (RunV.indexA (m := u) sl_44 rfl rfl (by omega) (by omega)) ?_
    refine Tk 5 rfl (RunV.move rfl) ?_
    refine Tk 6 rfl (RunV.move rfl) ?_
    refine Tk 7 rfl (RunV.indexA (m := a) sl_44 rfl rfl (by omega) (by omega)) ?_
    refine JH.all2 4 8 (by kernel_rfl) rfl rfl ?_ ?_
    ·
     unfold One
     refine JL.op (RunV.rowA ag_51 rfl mm_ dU.2) rfl ?_
     refine JL.nil ⟨(br_ h00), ?_⟩
     refine Ta 8 rfl ?_
     unfold One
     refine JL.op (RunV.rowA ag_51 rfl mm_ dA.2) rfl ?_
     refine JL.nil ⟨(br_ h00), ?_⟩
     refine Ta 9 rfl ?_
     unfold One
     refine JL.callvP ca_18 rfl rfl (setcmp_fn dU.1 dA.1) rfl ?_
     refine JL.nil ⟨(br_ h00), ?_⟩
     refine Tk 10 rfl (RunV.lss rfl rfl) ?_
     refine JH.done (by kernel_rfl) ?_
     refine Cs rfl (fun hc4 => ?_) fun hc4 => ?_
     ·
      have hq : olt (gg oz l u) (gg oz l a) = true := (by rw [gU, gA]; exact decide_eq_true hc4); obtain ⟨i', hi'⟩ : ∃ i', i' = u + 1 := ⟨_, rfl⟩; obtain ⟨j', hj'⟩ : ∃ j', j' = j := ⟨_, rfl⟩; have ka : i' = m ∨ olt (gg oz l (i' - 1)) (gg oz l a) = true := (by rw [hi', Nat.add_sub_cancel]; exact .inr hq); have kb : j' = b ∨ olt (gg oz l j') (gg oz l a) = false := (by rw [hj']; exact hhi)
      refine Rg ?_
      refine Ru 1 rfl ?_
      refine JL.op ai_ rfl ?_
      refine Ru 1 rfl ?_
      refine JL.nil ?_
      refine ⟨_, ?_, _, ?_, ⟨i', j', rfl, rfl, rfl, rfl, ⟨by omega, ka, kb⟩⟩⟩
      ·
       omega
      exact z4_
     have hq : olt (gg oz l u) (gg oz l a) = false := (by rw [gU, gA]; exact decide_eq_false hc4); obtain ⟨i', hi'⟩ : ∃ i', i' = i := ⟨_, rfl⟩; obtain ⟨j', hj'⟩ : ∃ j', j' = u := ⟨_, rfl⟩; have ka : i' = m ∨ olt (gg oz l (i' - 1)) (gg oz l a) = true := (by rw [hi']; exact hlo); have kb : j' = b ∨ olt (gg oz l j') (gg oz l a) = false := (by rw [hj']; exact .inr hq)
     refine Rg ?_
     refine Ru 2 rfl ?_
     refine JL.nil ?_
     refine ⟨_, ?_, _, ?_, ⟨i', j', rfl, rfl, rfl, rfl, ⟨by omega, ka, kb⟩⟩⟩
     ·
      omega
     exact z4_
    unfold One
    refine JL.op (RunV.rowA ag_51 rfl mm_ dA.2) rfl ?_
    refine JL.nil ⟨(br_ h00), ?_⟩
    refine Ta 4 rfl ?_
    unfold One
    refine JL.op (RunV.rowA ag_51 rfl mm_ dU.2) rfl ?_
    refine JL.nil ⟨(br_ h00), ?_⟩
    refine Ta 9 rfl ?_
    unfold One
    refine JL.callvP ca_18 rfl rfl (setcmp_fn dU.1 dA.1) rfl ?_
    refine JL.nil ⟨(br_ h00), ?_⟩
    refine Tk 10 rfl (RunV.lss rfl rfl) ?_
    refine JH.done (by kernel_rfl) ?_
    refine Cs rfl (fun hc6 => ?_) fun hc6 => ?_
    ·
     have hq : olt (gg oz l u) (gg oz l a) = true := (by rw [gU, gA]; exact decide_eq_true hc6); obtain ⟨i', hi'⟩ : ∃ i', i' = u + 1 := ⟨_, rfl⟩; obtain ⟨j', hj'⟩ : ∃ j', j' = j := ⟨_, rfl⟩; have ka : i' = m ∨ olt (gg oz l (i' - 1)) (gg oz l a) = true := (by rw [hi', Nat.add_sub_cancel]; exact .inr hq); have kb : j' = b ∨ olt (gg oz l j') (gg oz l a) = false := (by rw [hj']; exact hhi)
     refine Rg ?_
     refine Ru 1 rfl ?_
     refine JL.op ai_ rfl ?_
     refine Ru 1 rfl ?_
     refine JL.nil ?_
     refine ⟨_, ?_, _, ?_, ⟨i', j', rfl, rfl, rfl, rfl, ⟨by omega, ka, kb⟩⟩⟩
     ·
      omega
     exact z4_
    have hq : olt (gg oz l u) (gg oz l a) = false := (by rw [gU, gA]; exact decide_eq_false hc6); obtain ⟨i', hi'⟩ : ∃ i', i' = i := ⟨_, rfl⟩; obtain ⟨j', hj'⟩ : ∃ j', j' = u := ⟨_, rfl⟩; have ka : i' = m ∨ olt (gg oz l (i' - 1)) (gg oz l a) = true := (by rw [hi']; exact hlo); have kb : j' = b ∨ olt (gg oz l j') (gg oz l a) = false := (by rw [hj']; exact .inr hq)
    refine Rg ?_
    refine Ru 2 rfl ?_
    refine JL.nil ?_
    refine ⟨_, ?_, _, ?_, ⟨i', j', rfl, rfl, rfl, rfl, ⟨by omega, ka, kb⟩⟩⟩
    ·
     omega
    exact z4_
   have hij2 : i = j := (by omega); subst hij2
   refine J.exit ?_
   refine Kp [0, 1, 2, 3, 4, 10] rfl ?_
   refine J.seq ?_
   refine Sr ?_
   refine Ru 2 rfl ?_
   refine JL.nil ?_
   refine J.block ?_
   refine J.loop (fun t_ S_ h_ L_ => ∃ (p : Part) (k : Nat) (ys : List Value) (q : List (List UInt8 × Nd)), t_ = i - k ∧ S_ = [(0, .slice (some ⟨g, 0, none⟩) n c), (1, .int .i64 a), (2, .int .i64 m), (3, .int .i64 b), (4, .func (.func 18) #[] #[]), (10, .int .i64 i), (13, .int .i64 k)] ∧ p = h_ ∧ L_ = [.row (some ⟨g, 0, none⟩) c 51 6 n ys] ∧ (h.le p ∧ (a ≤ k ∧ k + 1 ≤ i) ∧ CellsR oneR 6 p ys q ∧ Sw oz a b l q ∧ (∀ t, gg oz q t = gg oz l (if a ≤ t ∧ t < k then t + 1 else if t = k then a else t)))) ⟨_, _, ?_, ⟨_, a, xs, l, rfl, rfl, rfl, rfl, ⟨hh0, by omega, hC, .refl _, fun t => by (repeat' split) <;> first | (exfalso; omega) | (subst_vars; rfl)⟩⟩⟩ ?_
   ·
    exact z5_
   rintro _ _ _ _ ⟨p, k, ys, q, rfl, rfl, rfl, rfl, hh0, hka, hCq, hSq, hE⟩
   refine J.seq ?_
   refine Sr ?_
   refine Ru 2 rfl ?_
   refine JL.op si_ rfl ?_
   refine Ru 1 rfl ?_
   refine JL.nil ?_
   refine Cs rfl (fun hc7 => ?_) fun hc7 => ?_
   ·
    have hql := hSq.len; have i1 : k < q.length := (by omega); have i2 : k + 1 < q.length := (by omega); have e1 := hCq.at i1; have e2 := hCq.at i2
    refine J.skip ?_
    refine J.seq ?_
    refine J.block ?_
    refine J.held ([]) 18 mixed_ rfl (fun h00 => ?_)
    refine Tk 0 rfl (RunV.move rfl) ?_
    refine Tk 1 rfl (RunV.move rfl) ?_
    refine Tk 2 rfl (RunV.move rfl) ?_
    refine Tk 3 rfl (RunV.move rfl) ?_
    refine Tk 4 rfl ai_ ?_
    refine Tk 5 rfl (RunV.move rfl) ?_
    refine Tk 6 rfl (RunV.move rfl) ?_
    refine Tk 7 rfl ai_ ?_
    refine Tk 8 rfl (RunV.indexA (m := k + 1) sl_44 rfl rfl (by omega) (by omega)) ?_
    refine Tk 10 rfl (RunV.move rfl) ?_
    refine Tk 11 rfl (RunV.move rfl) ?_
    refine Tk 12 rfl (RunV.indexA (m := k) sl_44 rfl rfl (by omega) (by omega)) ?_
    refine JH.all2 9 13 (by kernel_rfl) rfl rfl ?_ ?_
    ·
     unfold One
     refine JL.op (RunV.rowA ag_51 rfl mm_ e2.2) rfl ?_
     refine JL.nil ⟨(br_ h00), ?_⟩
     refine Ta 13 rfl ?_
     unfold One
     refine JL.op (RunV.rowA ag_51 rfl mm_ e1.2) rfl ?_
     refine JL.nil ⟨(br_ h00), ?_⟩
     refine Tk 14 rfl (RunV.indexA (m := k) sl_44 rfl rfl (by omega) (by omega)) ?_
     refine Ta 15 rfl ?_
     unfold One
     refine JL.storeRowA ag_51 rfl rfl (Mono.one e2.1) e2.1.len dl_ e1.2 ?_
     refine JL.nil ⟨(br_ h00), ?_⟩
     refine Tk 16 rfl (RunV.indexA (m := k + 1) sl_44 rfl rfl (by omega) (by omega)) ?_
     refine Ta 17 rfl ?_
     unfold One
     refine JL.storeRowA ag_51 rfl rfl (Mono.one e1.1) e1.1.len dl_ (by rw [over_len (by rw [e2.1.len]; exact e1.2)]; exact e2.2) ?_
     refine JL.nil ⟨(br_ h00), ?_⟩
     refine JH.done (by kernel_rfl) ?_
     refine Rg ?_
     refine Ru 1 rfl ?_
     refine JL.op ai_ rfl ?_
     refine Ru 1 rfl ?_
     refine JL.nil ?_
     refine ⟨_, ?_, _, ?_, ⟨_, k + 1, _, swp oz q k (k + 1), rfl, rfl, rfl, rfl, ⟨by assumption, by omega, hCq.swap i1 i2, .step hSq (by omega) (by omega) (by omega) (by omega) i1 i2, up_step (a := a) (r := l) (by omega) i2 hE⟩⟩⟩
     ·
      omega
     exact z5_
    unfold One
    refine JL.op (RunV.rowA ag_51 rfl mm_ e1.2) rfl ?_
    refine JL.nil ⟨(br_ h00), ?_⟩
    refine Ta 9 rfl ?_
    unfold One
    refine JL.op (RunV.rowA ag_51 rfl mm_ e2.2) rfl ?_
    refine JL.nil ⟨(br_ h00), ?_⟩
    refine Tk 14 rfl (RunV.indexA (m := k) sl_44 rfl rfl (by omega) (by omega)) ?_
    refine Ta 15 rfl ?_
    unfold One
    refine JL.storeRowA ag_51 rfl rfl (Mono.one e2.1) e2.1.len dl_ e1.2 ?_
    refine JL.nil ⟨(br_ h00), ?_⟩
    refine Tk 16 rfl (RunV.indexA (m := k + 1) sl_44 rfl rfl (by omega) (by omega)) ?_
    refine Ta 17 rfl ?_
    unfold One
    refine JL.storeRowA ag_51 rfl rfl (Mono.one e1.1) e1.1.len dl_ (by rw [over_len (by rw [e2.1.len]; exact e1.2)]; exact e2.2) ?_
    refine JL.nil ⟨(br_ h00), ?_⟩
    refine JH.done (by kernel_rfl) ?_
    refine Rg ?_
    refine Ru 1 rfl ?_
    refine JL.op ai_ rfl ?_
    refine Ru 1 rfl ?_
    refine JL.nil ?_
    refine ⟨_, ?_, _, ?_, ⟨_, k + 1, _, swp oz q k (k + 1), rfl, rfl, rfl, rfl, ⟨by assumption, by omega, hCq.swap i1 i2, .step hSq (by omega) (by omega) (by omega) (by omega) i1 i2, up_step (a := a) (r := l) (by omega) i2 hE⟩⟩⟩
    ·
     omega
    exact z5_
   refine J.exit ?_
   refine Kp [0, 1, 2, 3, 4] rfl ?_
   exact J.ret ⟨_, [_], _, (RetV.none_ rfl), .cons .here .nil, _, rfl, _, q, rfl, rfl, hCq, hSq, ins_up oz (i := i) (by rw [show a + 1 = m by omega]; exact hO2) (by omega) (by omega) (hlo.imp (fun hh => by omega) id) hhi olt_ord (fun t => by rw [hE]; congr 1; (repeat' split) <;> omega)⟩
  refine J.skip ?_
  refine Kp [0, 1, 2, 3, 4] rfl ?_
  refine J.seq ?_
  refine Sr ?_
  refine Ru 2 rfl ?_
  refine JL.op si_ rfl ?_
  refine Ru 1 rfl ?_
  refine JL.nil ?_
  refine Cs rfl (fun hc12 => ?_) fun hc12 => ?_
  ·
   refine Sr ?_
   refine Ru 2 rfl ?_
   refine Nk [14, 0, 1, 2, 3, 4] rfl ?_
   refine Sr ?_
   refine Ru 2 rfl ?_
   refine JL.nil ?_
   refine J.seq ?_
   refine J.block ?_
   refine J.loop (fun t_ S_ h_ L_ => ∃ (i j : Nat), t_ = j - i ∧ S_ = [(0, .slice (some ⟨g, 0, none⟩) n c), (1, .int .i64 a), (2, .int .i64 m), (3, .int .i64 b), (4, .func (.func 18) #[] #[]), (14, .int .i64 i), (15, .int .i64 j)] ∧ h = h_ ∧ L_ = [.row (some ⟨g, 0, none⟩) c 51 6 n xs] ∧ ((a ≤ i ∧ i ≤ j ∧ j ≤ m) ∧ (i = a ∨ olt (gg oz l m) (gg oz l (i - 1)) = false) ∧ (j = m ∨ olt (gg oz l m) (gg oz l j) = true))) ⟨_, _, ?_, ⟨a, m, rfl, rfl, rfl, rfl, ⟨by omega, .inl rfl, .inl rfl⟩⟩⟩ ?_
   ·
    exact z4_
   rintro _ _ _ _ ⟨i, j, rfl, rfl, rfl, rfl, hij, hlo, hhi⟩
   refine J.seq ?_
   refine Sr ?_
   refine Ru 3 rfl ?_
   refine JL.nil ?_
   refine Cs rfl (fun hc13 => ?_) fun hc13 => ?_
   ·
    obtain ⟨u, hu⟩ : ∃ u : Nat, u = (i + j) / 2 := ⟨_, rfl⟩; have hul : u < l.length := (by omega); have dU := hC.at hul; have gU := gg_at oz hul
    refine J.skip ?_
    refine J.block ?_
    refine Sr ?_
    refine Ru 2 rfl ?_
    refine JL.op ai_ rfl ?_
    refine JL.op (by first | exact RunV.conv_u64 cv_3_74 rfl (by omega) (by omega) | exact RunV.conv cv_3_74 rfl) rfl ?_
    refine JL.op (RunV.shr_u64 2 rfl rfl (by decide) (by decide) (by decide)) rfl ?_
    refine JL.op (by first | exact RunV.conv_i64 cv_74_3 rfl (by omega) (by omega) | exact RunV.conv cv_74_3 rfl) rfl ?_
    rw [show ((i : Int) + j) / 2 = (u : Int) by omega]
    refine Ru 1 rfl ?_
    refine JL.nil ?_
    refine J.seq ?_
    refine J.held ([]) 12 mixed_ rfl (fun h00 => ?_)
    refine Tk 0 rfl (RunV.move rfl) ?_
    refine Tk 1 rfl (RunV.move rfl) ?_
    refine Tk 2 rfl (RunV.move rfl) ?_
    refine Tk 3 rfl (RunV.indexA (m := m) sl_44 rfl rfl (by omega) (by omega)) ?_
    refine Tk 5 rfl (RunV.move rfl) ?_
    refine Tk 6 rfl (RunV.move rfl) ?_
    refine Tk 7 rfl (RunV.indexA (m := u) sl_44 rfl rfl (by omega) (by omega)) ?_
    refine JH.all2 4 8 (by kernel_rfl) rfl rfl ?_ ?_
    ·
     unfold One
     refine JL.op (RunV.rowA ag_51 rfl mm_ dM.2) rfl ?_
     refine JL.nil ⟨(br_ h00), ?_⟩
     refine Ta 8 rfl ?_
     unfold One
     refine JL.op (RunV.rowA ag_51 rfl mm_ dU.2) rfl ?_
     refine JL.nil ⟨(br_ h00), ?_⟩
     refine Ta 9 rfl ?_
     unfold One
     refine JL.callvP ca_18 rfl rfl (setcmp_fn dM.1 dU.1) rfl ?_
     refine JL.nil ⟨(br_ h00), ?_⟩
     refine Tk 10 rfl (RunV.lss rfl rfl) ?_
     refine Tk 11 rfl (RunV.not_ rfl) ?_
     refine JH.done (by kernel_rfl) ?_
     refine Cs rfl (fun hc15 => ?_) fun hc15 => ?_
     ·
      have hq : olt (gg oz l m) (gg oz l u) = false := (by rw [gU, gM]; exact decide_eq_false hc15); obtain ⟨i', hi'⟩ : ∃ i', i' = u + 1 := ⟨_, rfl⟩; obtain ⟨j', hj'⟩ : ∃ j', j' = j := ⟨_, rfl⟩; have ka : i' = a ∨ olt (gg oz l m) (gg oz l (i' - 1)) = false := (by rw [hi', Nat.add_sub_cancel]; exact .inr hq); have kb : j' = m ∨ olt (gg oz l m) (gg oz l j') = true := (by rw [hj']; exact hhi)
      refine Rg ?_
      refine Ru 1 rfl ?_
      refine JL.op ai_ rfl ?_
      refine Ru 1 rfl ?_
      refine JL.nil ?_
      refine ⟨_, ?_, _, ?_, ⟨i', j', rfl, rfl, rfl, rfl, ⟨by omega, ka, kb⟩⟩⟩
      ·
       omega
      exact z4_
     have hq : olt (gg oz l m) (gg oz l u) = true := (by rw [gU, gM]; exact decide_eq_true (by simpa using hc15)); obtain ⟨i', hi'⟩ : ∃ i', i' = i := ⟨_, rfl⟩; obtain ⟨j', hj'⟩ : ∃ j', j' = u := ⟨_, rfl⟩; have ka : i' = a ∨ olt (gg oz l m) (gg oz l (i' - 1)) = false := (by rw [hi']; exact hlo); have kb : j' = m ∨ olt (gg oz l m) (gg oz l j') = true := (by rw [hj']; exact .inr hq)
     refine Rg ?_
     refine Ru 2 rfl ?_
     refine JL.nil ?_
     refine ⟨_, ?_, _, ?_, ⟨i', j', rfl, rfl, rfl, rfl, ⟨by omega, ka, kb⟩⟩⟩
     ·
      omega
     exact z4_
    unfold One
    refine JL.op (RunV.rowA ag_51 rfl mm_ dU.2) rfl ?_
    refine JL.nil ⟨(br_ h00), ?_⟩
    refine Ta 4 rfl ?_
    unfold One
    refine JL.op (RunV.rowA ag_51 rfl mm_ dM.2) rfl ?_
    refine JL.nil ⟨(br_ h00), ?_⟩
    refine Ta 9 rfl ?_
    unfold One
    refine JL.callvP ca_18 rfl rfl (setcmp_fn dM.1 dU.1) rfl ?_
    refine JL.nil ⟨(br_ h00), ?_⟩
    refine Tk 10 rfl (RunV.lss rfl rfl) ?_
    refine Tk 11 rfl (RunV.not_ rfl) ?_
    refine JH.done (by kernel_rfl) ?_
    refine Cs rfl (fun hc17 => ?_) fun hc17 => ?_
    ·
     have hq : olt (gg oz l m) (gg oz l u) = false := (by rw [gU, gM]; exact decide_eq_false hc17); obtain ⟨i', hi'⟩ : ∃ i', i' = u + 1 := ⟨_, rfl⟩; obtain ⟨j', hj'⟩ : ∃ j', j' = j := ⟨_, rfl⟩; have ka : i' = a ∨ olt (gg oz l m) (gg oz l (i' - 1)) = false := (by rw [hi', Nat.add_sub_cancel]; exact .inr hq); have kb : j' = m ∨ olt (gg oz l m) (gg oz l j') = true := (by rw [hj']; exact hhi)
     refine Rg ?_
     refine Ru 1 rfl ?_
     refine JL.op ai_ rfl ?_
     refine Ru 1 rfl ?_
     refine JL.nil ?_
     refine ⟨_, ?_, _, ?_, ⟨i', j', rfl, rfl, rfl, rfl, ⟨by omega, ka, kb⟩⟩⟩
     ·
      omega
     exact z4_
    have hq : olt (gg oz l m) (gg oz l u) = true := (by rw [gU, gM]; exact decide_eq_true (by simpa using hc17)); obtain ⟨i', hi'⟩ : ∃ i', i' = i := ⟨_, rfl⟩; obtain ⟨j', hj'⟩ : ∃ j', j' = u := ⟨_, rfl⟩; have ka : i' = a ∨ olt (gg oz l m) (gg oz l (i' - 1)) = false := (by rw [hi']; exact hlo); have kb : j' = m ∨ olt (gg oz l m) (gg oz l j') = true := (by rw [hj']; exact .inr hq)
    refine Rg ?_
    refine Ru 2 rfl ?_
    refine JL.nil ?_
    refine ⟨_, ?_, _, ?_, ⟨i', j', rfl, rfl, rfl, rfl, ⟨by omega, ka, kb⟩⟩⟩
    ·
     omega
    exact z4_
   have hij2 : i = j := (by omega); subst hij2
   refine J.exit ?_
   refine Kp [0, 1, 2, 3, 4, 14] rfl ?_
   refine J.seq ?_
   refine Sr ?_
   refine Ru 2 rfl ?_
   refine JL.nil ?_
   refine J.block ?_
   refine J.loop (fun t_ S_ h_ L_ => ∃ (p : Part) (k : Nat) (ys : List Value) (q : List (List UInt8 × Nd)), t_ = k + 1 - i ∧ S_ = [(0, .slice (some ⟨g, 0, none⟩) n c), (1, .int .i64 a), (2, .int .i64 m), (3, .int .i64 b), (4, .func (.func 18) #[] #[]), (14, .int .i64 i), (17, .int .i64 k)] ∧ p = h_ ∧ L_ = [.row (some ⟨g, 0, none⟩) c 51 6 n ys] ∧ (h.le p ∧ (i ≤ k ∧ k ≤ m) ∧ CellsR oneR 6 p ys q ∧ Sw oz a b l q ∧ (∀ t, gg oz q t = gg oz l (if t = k then m else if k < t ∧ t ≤ m then t - 1 else t)))) ⟨_, _, ?_, ⟨_, m, xs, l, rfl, rfl, rfl, rfl, ⟨hh0, by omega, hC, .refl _, fun t => by (repeat' split) <;> first | (exfalso; omega) | (subst_vars; rfl)⟩⟩⟩ ?_
   ·
    exact z4_
   rintro _ _ _ _ ⟨p, k, ys, q, rfl, rfl, rfl, rfl, hh0, hka, hCq, hSq, hE⟩
   refine J.seq ?_
   refine Sr ?_
   refine Ru 3 rfl ?_
   refine JL.nil ?_
   refine Cs rfl (fun hc18 => ?_) fun hc18 => ?_
   ·
    have hql := hSq.len; have i1 : k < q.length := (by omega); have i2 : k - 1 < q.length := (by omega); have e1 := hCq.at i1; have e2 := hCq.at i2
    refine J.skip ?_
    refine J.seq ?_
    refine J.block ?_
    refine J.held ([]) 18 mixed_ rfl (fun h00 => ?_)
    refine Tk 0 rfl (RunV.move rfl) ?_
    refine Tk 1 rfl (RunV.move rfl) ?_
    refine Tk 2 rfl (RunV.move rfl) ?_
    refine Tk 3 rfl (RunV.move rfl) ?_
    refine Tk 4 rfl si_ ?_
    refine Tk 5 rfl (RunV.move rfl) ?_
    refine Tk 6 rfl (RunV.move rfl) ?_
    refine Tk 7 rfl si_ ?_
    refine Tk 8 rfl (RunV.indexA (m := k - 1) sl_44 rfl rfl (by omega) (by omega)) ?_
    refine Tk 10 rfl (RunV.move rfl) ?_
    refine Tk 11 rfl (RunV.move rfl) ?_
    refine Tk 12 rfl (RunV.indexA (m := k) sl_44 rfl rfl (by omega) (by omega)) ?_
    refine JH.all2 9 13 (by kernel_rfl) rfl rfl ?_ ?_
    ·
     unfold One
     refine JL.op (RunV.rowA ag_51 rfl mm_ e2.2) rfl ?_
     refine JL.nil ⟨(br_ h00), ?_⟩
     refine Ta 13 rfl ?_
     unfold One
     refine JL.op (RunV.rowA ag_51 rfl mm_ e1.2) rfl ?_
     refine JL.nil ⟨(br_ h00), ?_⟩
     refine Tk 14 rfl (RunV.indexA (m := k) sl_44 rfl rfl (by omega) (by omega)) ?_
     refine Ta 15 rfl ?_
     unfold One
     refine JL.storeRowA ag_51 rfl rfl (Mono.one e2.1) e2.1.len dl_ e1.2 ?_
     refine JL.nil ⟨(br_ h00), ?_⟩
     refine Tk 16 rfl (RunV.indexA (m := k - 1) sl_44 rfl rfl (by omega) (by omega)) ?_
     refine Ta 17 rfl ?_
     unfold One
     refine JL.storeRowA ag_51 rfl rfl (Mono.one e1.1) e1.1.len dl_ (by rw [over_len (by rw [e2.1.len]; exact e1.2)]; exact e2.2) ?_
     refine JL.nil ⟨(br_ h00), ?_⟩
     refine JH.done (by kernel_rfl) ?_
     refine Rg ?_
     refine Ru 1 rfl ?_
     refine JL.op si_ rfl ?_
     refine Ru 1 rfl ?_
     refine JL.nil ?_
     refine ⟨_, ?_, _, ?_, ⟨_, k - 1, _, swp oz q k (k - 1), rfl, rfl, rfl, rfl, ⟨by assumption, by omega, hCq.swap i1 i2, .step hSq (by omega) (by omega) (by omega) (by omega) i1 i2, dn_step (a := i) (i := m) (j := k) (r := l) (by omega) (by omega) (by omega) hE⟩⟩⟩
     ·
      omega
     exact z4_
    unfold One
    refine JL.op (RunV.rowA ag_51 rfl mm_ e1.2) rfl ?_
    refine JL.nil ⟨(br_ h00), ?_⟩
    refine Ta 9 rfl ?_
    unfold One
    refine JL.op (RunV.rowA ag_51 rfl mm_ e2.2) rfl ?_
    refine JL.nil ⟨(br_ h00), ?_⟩
    refine Tk 14 rfl (RunV.indexA (m := k) sl_44 rfl rfl (by omega) (by omega)) ?_
    refine Ta 15 rfl ?_
    unfold One
    refine JL.storeRowA ag_51 rfl rfl (Mono.one e2.1) e2.1.len dl_ e1.2 ?_
    refine JL.nil ⟨(br_ h00), ?_⟩
    refine Tk 16 rfl (RunV.indexA (m := k - 1) sl_44 rfl rfl (by omega) (by omega)) ?_
    refine Ta 17 rfl ?_
    unfold One
    refine JL.storeRowA ag_51 rfl rfl (Mono.one e1.1) e1.1.len dl_ (by rw [over_len (by rw [e2.1.len]; exact e1.2)]; exact e2.2) ?_
    refine JL.nil ⟨(br_ h00), ?_⟩
    refine JH.done (by kernel_rfl) ?_
    refine Rg ?_
    refine Ru 1 rfl ?_
    refine JL.op si_ rfl ?_
    refine Ru 1 rfl ?_
    refine JL.nil ?_
    refine ⟨_, ?_, _, ?_, ⟨_, k - 1, _, swp oz q k (k - 1), rfl, rfl, rfl, rfl, ⟨by assumption, by omega, hCq.swap i1 i2, .step hSq (by omega) (by omega) (by omega) (by omega) i1 i2, dn_step (a := i) (i := m) (j := k) (r := l) (by omega) (by omega) (by omega) hE⟩⟩⟩
    ·
     omega
    exact z4_
   refine J.exit ?_
   refine Kp [0, 1, 2, 3, 4] rfl ?_
   have hki : k = i := (by omega); subst hki; exact J.ret ⟨_, [_], _, (RetV.none_ rfl), .cons .here .nil, _, rfl, _, q, rfl, rfl, hCq, hSq, by rw [show b = m + 1 by omega]; exact ins_down oz hO1 (by omega) (by omega) hlo hhi olt_ord hE⟩
  refine J.skip ?_
  refine Kp [0, 1, 2, 3, 4] rfl ?_
  refine Sr ?_
  obtain ⟨mid, hmid⟩ : ∃ mid : Nat, mid = (a + b) / 2 := ⟨_, rfl⟩; obtain ⟨lo, hi, hlh⟩ : ∃ lo hi : Nat, (mid < m ∧ lo = mid + m - b ∧ hi = mid) ∨ (¬ mid < m ∧ lo = a ∧ hi = m) := (by by_cases hm : mid < m; exact ⟨_, _, .inl ⟨hm, rfl, rfl⟩⟩; exact ⟨_, _, .inr ⟨hm, rfl, rfl⟩⟩)
  refine Ru 2 rfl ?_
  refine JL.op ai_ rfl ?_
  refine JL.op (by first | exact RunV.conv_u64 cv_3_74 rfl (by omega) (by omega) | exact RunV.conv cv_3_74 rfl) rfl ?_
  refine JL.op (RunV.shr_u64 2 rfl rfl (by decide) (by decide) (by decide)) rfl ?_
  refine JL.op (by first | exact RunV.conv_i64 cv_74_3 rfl (by omega) (by omega) | exact RunV.conv cv_74_3 rfl) rfl ?_
  rw [show ((a : Int) + b) / 2 = (mid : Int) by omega]
  refine Ru 1 rfl ?_
  refine Nk [18, 0, 1, 2, 3, 4] rfl ?_
  refine Sr ?_
  refine Ru 2 rfl ?_
  refine JL.op ai_ rfl ?_
  refine Ru 1 rfl ?_
  refine JL.nil ?_
  refine Sr ?_
  refine Ru 2 rfl ?_
  refine JL.nil ?_
  refine J.seq ?_
  refine Sr ?_
  refine Ru 3 rfl ?_
  refine Nk [140, 21, 20, 19, 18, 0, 1, 2, 3, 4] rfl ?_
  refine J.meet [(20, .int .i64 lo), (21, .int .i64 hi)] [(19, _), (18, _), (0, _), (1, _), (2, _), (3, _), (4, _)] ⟨rfl, rfl, rfl, rfl, rfl, rfl, rfl, trivial⟩ ?_ ?_
  ·
   refine Cs rfl (fun hc23 => ?_) fun hc23 => ?_
   ·
    refine Sr ?_
    refine Ru 2 rfl ?_
    refine JL.op si_ rfl ?_
    refine Ru 1 rfl ?_
    refine Nk [20, 21, 19, 18, 0, 1, 2, 3, 4] rfl ?_
    refine Rg ?_
    refine Ru 2 rfl ?_
    refine JL.nil ?_
    refine ⟨rfl, rfl, ?_⟩
    exact z4_
   refine Sr ?_
   refine Ru 2 rfl ?_
   refine JL.nil ?_
   refine Rg ?_
   refine Ru 2 rfl ?_
   refine JL.nil ?_
   refine ⟨rfl, rfl, ?_⟩
   exact z4_
  refine Sr ?_
  refine Ru 1 rfl ?_
  refine JL.op si_ rfl ?_
  refine Ru 1 rfl ?_
  refine JL.nil ?_
  refine J.seq ?_
  refine J.block ?_
  refine J.loop (fun t_ S_ h_ L_ => ∃ (s r : Nat), t_ = r - s ∧ S_ = [(0, .slice (some ⟨g, 0, none⟩) n c), (1, .int .i64 a), (2, .int .i64 m), (3, .int .i64 b), (4, .func (.func 18) #[] #[]), (18, .int .i64 mid), (19, .int .i64 ((mid : Int) + m)), (20, .int .i64 s), (21, .int .i64 r), (22, .int .i64 ((mid : Int) + m - 1))] ∧ h = h_ ∧ L_ = [.row (some ⟨g, 0, none⟩) c 51 6 n xs] ∧ ((lo ≤ s ∧ s ≤ r ∧ r ≤ hi) ∧ (s = lo ∨ olt (gg oz l (mid + m - s)) (gg oz l (s - 1)) = false) ∧ (r = hi ∨ olt (gg oz l (mid + m - r - 1)) (gg oz l r) = true))) ⟨_, _, ?_, ⟨lo, hi, rfl, rfl, rfl, rfl, ⟨by omega, .inl rfl, .inl rfl⟩⟩⟩ ?_
  ·
   exact z4_
  rintro _ _ _ _ ⟨s, r, rfl, rfl, rfl, rfl, hsr, hlo, hhi⟩
  refine J.seq ?_
  refine Sr ?_
  refine Ru 3 rfl ?_
  refine JL.nil ?_
  refine Cs rfl (fun hc24 => ?_) fun hc24 => ?_
  ·
   obtain ⟨u, hu⟩ : ∃ u : Nat, u = (s + r) / 2 := ⟨_, rfl⟩; have hul : u < l.length := (by omega); have hvl : mid + m - u - 1 < l.length := (by omega); have dU := hC.at hul; have gU := gg_at oz hul; have dV := hC.at hvl; have gV := gg_at oz hvl
   refine J.skip ?_
   refine J.block ?_
   refine Sr ?_
   refine Ru 2 rfl ?_
   refine JL.op ai_ rfl ?_
   refine JL.op (by first | exact RunV.conv_u64 cv_3_74 rfl (by omega) (by omega) | exact RunV.conv cv_3_74 rfl) rfl ?_
   refine JL.op (RunV.shr_u64 2 rfl rfl (by decide) (by decide) (by decide)) rfl ?_
   refine JL.op (by first | exact RunV.conv_i64 cv_74_3 rfl (by omega) (by omega) | exact RunV.conv cv_74_3 rfl) rfl ?_
   rw [show ((s : Int) + r) / 2 = (u : Int) by omega]
   refine Ru 1 rfl ?_
   refine JL.nil ?_
   refine J.seq ?_
   refine J.held ([]) 14 mixed_ rfl (fun h00 => ?_)
   refine Tk 0 rfl (RunV.move rfl) ?_
   refine Tk 1 rfl (RunV.move rfl) ?_
   refine Tk 2 rfl (RunV.move rfl) ?_
   refine Tk 3 rfl (RunV.move rfl) ?_
   refine Tk 4 rfl si_ ?_
   refine Tk 5 rfl (RunV.indexA (m := mid + m - u - 1) sl_44 rfl rfl (by omega) (by omega)) ?_
   refine Tk 7 rfl (RunV.move rfl) ?_
   refine Tk 8 rfl (RunV.move rfl) ?_
   refine Tk 9 rfl (RunV.indexA (m := u) sl_44 rfl rfl (by omega) (by omega)) ?_
   refine JH.all2 6 10 (by kernel_rfl) rfl rfl ?_ ?_
   ·
    unfold One
    refine JL.op (RunV.rowA ag_51 rfl mm_ dV.2) rfl ?_
    refine JL.nil ⟨(br_ h00), ?_⟩
    refine Ta 10 rfl ?_
    unfold One
    refine JL.op (RunV.rowA ag_51 rfl mm_ dU.2) rfl ?_
    refine JL.nil ⟨(br_ h00), ?_⟩
    refine Ta 11 rfl ?_
    unfold One
    refine JL.callvP ca_18 rfl rfl (setcmp_fn dV.1 dU.1) rfl ?_
    refine JL.nil ⟨(br_ h00), ?_⟩
    refine Tk 12 rfl (RunV.lss rfl rfl) ?_
    refine Tk 13 rfl (RunV.not_ rfl) ?_
    refine JH.done (by kernel_rfl) ?_
    refine Cs rfl (fun hc26 => ?_) fun hc26 => ?_
    ·
     have hq : olt (gg oz l (mid + m - u - 1)) (gg oz l u) = false := (by rw [gU, gV]; exact decide_eq_false hc26); obtain ⟨s', hs'⟩ : ∃ s', s' = u + 1 := ⟨_, rfl⟩; obtain ⟨r', hr'⟩ : ∃ r', r' = r := ⟨_, rfl⟩; have ka : s' = lo ∨ olt (gg oz l (mid + m - s')) (gg oz l (s' - 1)) = false := (by rw [hs', Nat.add_sub_cancel, show mid + m - (u + 1) = mid + m - u - 1 by omega]; exact .inr hq); have kb : r' = hi ∨ olt (gg oz l (mid + m - r' - 1)) (gg oz l r') = true := (by rw [hr']; exact hhi)
     refine Rg ?_
     refine Ru 1 rfl ?_
     refine JL.op ai_ rfl ?_
     refine Ru 1 rfl ?_
     refine JL.nil ?_
     refine ⟨_, ?_, _, ?_, ⟨s', r', rfl, rfl, rfl, rfl, ⟨by omega, ka, kb⟩⟩⟩
     ·
      omega
     exact z4_
    have hq : olt (gg oz l (mid + m - u - 1)) (gg oz l u) = true := (by rw [gU, gV]; exact decide_eq_true (by simpa using hc26)); obtain ⟨s', hs'⟩ : ∃ s', s' = s := ⟨_, rfl⟩; obtain ⟨r', hr'⟩ : ∃ r', r' = u := ⟨_, rfl⟩; have ka : s' = lo ∨ olt (gg oz l (mid + m - s')) (gg oz l (s' - 1)) = false := (by rw [hs']; exact hlo); have kb : r' = hi ∨ olt (gg oz l (mid + m - r' - 1)) (gg oz l r') = true := (by rw [hr']; exact .inr hq)
    refine Rg ?_
    refine Ru 2 rfl ?_
    refine JL.nil ?_
    refine ⟨_, ?_, _, ?_, ⟨s', r', rfl, rfl, rfl, rfl, ⟨by omega, ka, kb⟩⟩⟩
    ·
     omega
    exact z4_
   unfold One
   refine JL.op (RunV.rowA ag_51 rfl mm_ dU.2) rfl ?_
   refine JL.nil ⟨(br_ h00), ?_⟩
   refine Ta 6 rfl ?_
   unfold One
   refine JL.op (RunV.rowA ag_51 rfl mm_ dV.2) rfl ?_
   refine JL.nil ⟨(br_ h00), ?_⟩
   refine Ta 11 rfl ?_
   unfold One
   refine JL.callvP ca_18 rfl rfl (setcmp_fn dV.1 dU.1) rfl ?_
   refine JL.nil ⟨(br_ h00), ?_⟩
   refine Tk 12 rfl (RunV.lss rfl rfl) ?_
   refine Tk 13 rfl (RunV.not_ rfl) ?_
   refine JH.done (by kernel_rfl) ?_
   refine Cs rfl (fun hc28 => ?_) fun hc28 => ?_
   ·
    have hq : olt (gg oz l (mid + m - u - 1)) (gg oz l u) = false := (by rw [gU, gV]; exact decide_eq_false hc28); obtain ⟨s', hs'⟩ : ∃ s', s' = u + 1 := ⟨_, rfl⟩; obtain ⟨r', hr'⟩ : ∃ r', r' = r := ⟨_, rfl⟩; have ka : s' = lo ∨ olt (gg oz l (mid + m - s')) (gg oz l (s' - 1)) = false := (by rw [hs', Nat.add_sub_cancel, show mid + m - (u + 1) = mid + m - u - 1 by omega]; exact .inr hq); have kb : r' = hi ∨ olt (gg oz l (mid + m - r' - 1)) (gg oz l r') = true := (by rw [hr']; exact hhi)
    refine Rg ?_
    refine Ru 1 rfl ?_
    refine JL.op ai_ rfl ?_
    refine Ru 1 rfl ?_
    refine JL.nil ?_
    refine ⟨_, ?_, _, ?_, ⟨s', r', rfl, rfl, rfl, rfl, ⟨by omega, ka, kb⟩⟩⟩
    ·
     omega
    exact z4_
   have hq : olt (gg oz l (mid + m - u - 1)) (gg oz l u) = true := (by rw [gU, gV]; exact decide_eq_true (by simpa using hc28)); obtain ⟨s', hs'⟩ : ∃ s', s' = s := ⟨_, rfl⟩; obtain ⟨r', hr'⟩ : ∃ r', r' = u := ⟨_, rfl⟩; have ka : s' = lo ∨ olt (gg oz l (mid + m - s')) (gg oz l (s' - 1)) = false := (by rw [hs']; exact hlo); have kb : r' = hi ∨ olt (gg oz l (mid + m - r' - 1)) (gg oz l r') = true := (by rw [hr']; exact .inr hq)
   refine Rg ?_
   refine Ru 2 rfl ?_
   refine JL.nil ?_
   refine ⟨_, ?_, _, ?_, ⟨s', r', rfl, rfl, rfl, rfl, ⟨by omega, ka, kb⟩⟩⟩
   ·
    omega
   exact z4_
  have hsr2 : s = r := (by omega); subst hsr2; obtain ⟨e, he'⟩ : ∃ e : Nat, e = mid + m - s := ⟨_, rfl⟩; rw [← he'] at hlo hhi; have k1 : s = a ∨ e = b ∨ olt (gg oz l e) (gg oz l (s - 1)) = false := (by rcases hlo with hh | hh; rcases hlh with hz | hz; exact .inr (.inl (by omega)); exact .inl (by omega); exact .inr (.inr hh)); have k2 : s = m ∨ e = m ∨ olt (gg oz l (e - 1)) (gg oz l s) = true := (by rcases hhi with hh | hh; rcases hlh with hz | hz; exact .inr (.inl (by omega)); exact .inl (by omega); exact .inr (.inr hh)); have hparts := fun l2 => @sym_parts _ oz olt olt_ord l l2 a m b mid s e hO1 hO2 (by omega) (by omega) (by omega) (by omega) (by omega) k1 k2
  refine J.exit ?_
  refine Kp [0, 1, 2, 3, 4, 18, 19, 20] rfl ?_
  refine Sr ?_
  refine Ru 2 rfl ?_
  refine JL.op si_ rfl ?_
  rw [show (mid : Int) + m - s = (e : Int) by omega]
  refine Ru 1 rfl ?_
  refine JL.nil ?_
  refine J.seq ?_
  refine J.seq ?_
  refine J.meet [(185, .bool (decide (s < m ∧ m < e)))] [(24, _), (0, _), (1, _), (2, _), (3, _), (4, _), (18, _), (20, _)] ⟨rfl, rfl, rfl, rfl, rfl, rfl, rfl, rfl, trivial⟩ ?_ ?_
  ·
   refine Rg ?_
   refine Ru 4 rfl ?_
   refine Bs 181 rfl (fun hc29 => ?_) fun hc29 => ?_
   ·
    refine Ru 4 rfl ?_
    refine JL.nil ?_
    refine ⟨rfl, rfl, ?_⟩
    exact z9_
   refine Ru 4 rfl ?_
   refine JL.nil ?_
   refine ⟨rfl, rfl, ?_⟩
   exact z9_
  refine Cs rfl (fun hc30 => ?_) fun hc30 => ?_
  ·
   refine Rg ?_
   refine Ru 5 rfl ?_
   refine JL.call ca_58 rfl (rot_fn (a := s) (m := m) (b := e) hC hn hl (by omega) (by omega) (by omega)) pt_ rfl ?_
   rintro _ h31 Lo31 hle31 ⟨ys, q, rfl, rfl, hCq, hSq', hEq⟩
   replace hh0 := hh0.mono hle31
   obtain ⟨p1, p2, p3, p4, p5⟩ := hparts q hEq; have hSq := hSq'.mono oz (show a ≤ s by omega) (show e ≤ b by omega); have hql := hSq.len; have hRq := Sw.refl (z := oz) (a := a) (b := mid) q; have hRy := Sw.refl (z := oz) (a := mid) (b := b) q
   refine Nk [24, 0, 1, 3, 4, 18, 20] rfl ?_
   refine J.seq ?_
   refine J.seq ?_
   refine J.meet [(199, .bool (decide (a < s ∧ s < mid)))] [(24, _), (0, _), (1, _), (3, _), (4, _), (18, _), (20, _)] ⟨rfl, rfl, rfl, rfl, rfl, rfl, rfl, trivial⟩ ?_ ?_
   ·
    refine Rg ?_
    refine Ru 4 rfl ?_
    refine Bs 195 rfl (fun hc32 => ?_) fun hc32 => ?_
    ·
     refine Ru 4 rfl ?_
     refine JL.nil ?_
     refine ⟨rfl, rfl, ?_⟩
     exact z9_
    refine Ru 4 rfl ?_
    refine JL.nil ?_
    refine ⟨rfl, rfl, ?_⟩
    exact z9_
   refine Cs rfl (fun hc33 => ?_) fun hc33 => ?_
   ·
    refine Rg ?_
    refine Ru 5 rfl ?_
    refine JL.call ca_45 rfl (ih g n c a s mid _ _ _ (by omega) hCq (hn.trans hql.symm) (by omega) (by omega) (by omega) (by omega) p1 p2) pt_ rfl ?_
    rintro _ h34 Lo34 hle34 ⟨zs, w, rfl, rfl, hCw, hSw, hOw⟩
    replace hh0 := hh0.mono hle34
    replace hCq := hCq.mono hle34
    have hwl := hSw.len; have hRw := Sw.refl (z := oz) (a := mid) (b := b) w; have p3' := p3.same oz (fun k hk _ => hSw.out oz (.inr hk)); have p4' := p4.same oz (fun k hk _ => hSw.out oz (.inr (by omega)))
    refine Nk [24, 0, 3, 4, 18] rfl ?_
    refine J.seq ?_
    refine J.meet [(213, .bool (decide (mid < e ∧ e < b)))] [(24, _), (0, _), (3, _), (4, _), (18, _)] ⟨rfl, rfl, rfl, rfl, rfl, trivial⟩ ?_ ?_
    ·
     refine Rg ?_
     refine Ru 4 rfl ?_
     refine Bs 209 rfl (fun hc35 => ?_) fun hc35 => ?_
     ·
      refine Ru 4 rfl ?_
      refine JL.nil ?_
      refine ⟨rfl, rfl, ?_⟩
      exact z9_
     refine Ru 4 rfl ?_
     refine JL.nil ?_
     refine ⟨rfl, rfl, ?_⟩
     exact z9_
    refine Cs rfl (fun hc36 => ?_) fun hc36 => ?_
    ·
     refine Rg ?_
     refine Ru 5 rfl ?_
     refine JL.call ca_45 rfl (ih g n c mid e b _ _ _ (by omega) hCw (hn.trans (hwl.trans hql).symm) (by omega) (by omega) (by omega) (by omega) p3' p4') pt_ rfl ?_
     rintro _ h37 Lo37 hle37 ⟨vs, w2, rfl, rfl, hCx, hSx, hOx⟩
     replace hh0 := hh0.mono hle37
     replace hCq := hCq.mono hle37
     replace hCw := hCw.mono hle37
     refine JL.nil ?_
     exact ⟨_, [_], _, (RetV.none_ rfl), .cons .here .nil, _, rfl, _, _, rfl, rfl, hCx, (hSq.trans oz (hSw.mono oz (Nat.le_refl _) (by omega))).trans oz (hSx.mono oz (by omega) (Nat.le_refl _)), sym_join oz p5 hSw hOw hSx hOx⟩
    have hCx := hCw; have hSx := hRw; have hOx := so_pick hc36 (by omega) (by omega) p3' p4'
    refine J.skip ?_
    exact ⟨_, [_], _, (RetV.none_ rfl), .cons .here .nil, _, rfl, _, _, rfl, rfl, hCx, (hSq.trans oz (hSw.mono oz (Nat.le_refl _) (by omega))).trans oz (hSx.mono oz (by omega) (Nat.le_refl _)), sym_join oz p5 hSw hOw hSx hOx⟩
   have hCw := hCq; have hSw := hRq; have hRw := hRy; have hOw := so_pick hc33 (by omega) (by omega) p1 p2; have hwl := hSw.len; have p3' := p3; have p4' := p4
   refine J.skip ?_
   refine J.seq ?_
   refine J.meet [(213, .bool (decide (mid < e ∧ e < b)))] [(24, _), (0, _), (3, _), (4, _), (18, _)] ⟨rfl, rfl, rfl, rfl, rfl, trivial⟩ ?_ ?_
   ·
    refine Rg ?_
    refine Ru 4 rfl ?_
    refine Bs 209 rfl (fun hc38 => ?_) fun hc38 => ?_
    ·
     refine Ru 4 rfl ?_
     refine JL.nil ?_
     refine ⟨rfl, rfl, ?_⟩
     exact z9_
    refine Ru 4 rfl ?_
    refine JL.nil ?_
    refine ⟨rfl, rfl, ?_⟩
    exact z9_
   refine Cs rfl (fun hc39 => ?_) fun hc39 => ?_
   ·
    refine Rg ?_
    refine Ru 5 rfl ?_
    refine JL.call ca_45 rfl (ih g n c mid e b _ _ _ (by omega) hCw (hn.trans (hwl.trans hql).symm) (by omega) (by omega) (by omega) (by omega) p3' p4') pt_ rfl ?_
    rintro _ h40 Lo40 hle40 ⟨vs, w2, rfl, rfl, hCx, hSx, hOx⟩
    replace hh0 := hh0.mono hle40
    replace hCq := hCq.mono hle40
    refine JL.nil ?_
    exact ⟨_, [_], _, (RetV.none_ rfl), .cons .here .nil, _, rfl, _, _, rfl, rfl, hCx, (hSq.trans oz (hSw.mono oz (Nat.le_refl _) (by omega))).trans oz (hSx.mono oz (by omega) (Nat.le_refl _)), sym_join oz p5 hSw hOw hSx hOx⟩
   have hCx := hCw; have hSx := hRw; have hOx := so_pick hc39 (by omega) (by omega) p3' p4'
   refine J.skip ?_
   exact ⟨_, [_], _, (RetV.none_ rfl), .cons .here .nil, _, rfl, _, _, rfl, rfl, hCx, (hSq.trans oz (hSw.mono oz (Nat.le_refl _) (by omega))).trans oz (hSx.mono oz (by omega) (Nat.le_refl _)), sym_join oz p5 hSw hOw hSx hOx⟩
  have hCq := hC; have hSq : Sw oz a b l l := .refl _; obtain ⟨p1, p2, p3, p4, p5⟩ := hparts l (fun t => by rw [show rotI s m e t = t by unfold rotI; (repeat' split) <;> omega]); have hql := hSq.len; have hRq := Sw.refl (z := oz) (a := a) (b := mid) l; have hRy := Sw.refl (z := oz) (a := mid) (b := b) l
  refine J.skip ?_
  refine J.seq ?_
  refine J.seq ?_
  refine J.meet [(199, .bool (decide (a < s ∧ s < mid)))] [(24, _), (0, _), (1, _), (3, _), (4, _), (18, _), (20, _)] ⟨rfl, rfl, rfl, rfl, rfl, rfl, rfl, trivial⟩ ?_ ?_
  ·
   refine Rg ?_
   refine Ru 4 rfl ?_
   refine Bs 195 rfl (fun hc41 => ?_) fun hc41 => ?_
   ·
    refine Ru 4 rfl ?_
    refine JL.nil ?_
    refine ⟨rfl, rfl, ?_⟩
    exact z9_
   refine Ru 4 rfl ?_
   refine JL.nil ?_
   refine ⟨rfl, rfl, ?_⟩
   exact z9_
  refine Cs rfl (fun hc42 => ?_) fun hc42 => ?_
  ·
   refine Rg ?_
   refine Ru 5 rfl ?_
   refine JL.call ca_45 rfl (ih g n c a s mid _ _ _ (by omega) hCq (hn.trans hql.symm) (by omega) (by omega) (by omega) (by omega) p1 p2) pt_ rfl ?_
   rintro _ h43 Lo43 hle43 ⟨zs, w, rfl, rfl, hCw, hSw, hOw⟩
   replace hh0 := hh0.mono hle43
   have hwl := hSw.len; have hRw := Sw.refl (z := oz) (a := mid) (b := b) w; have p3' := p3.same oz (fun k hk _ => hSw.out oz (.inr hk)); have p4' := p4.same oz (fun k hk _ => hSw.out oz (.inr (by omega)))
   refine Nk [24, 0, 3, 4, 18] rfl ?_
   refine J.seq ?_
   refine J.meet [(213, .bool (decide (mid < e ∧ e < b)))] [(24, _), (0, _), (3, _), (4, _), (18, _)] ⟨rfl, rfl, rfl, rfl, rfl, trivial⟩ ?_ ?_
   ·
    refine Rg ?_
    refine Ru 4 rfl ?_
    refine Bs 209 rfl (fun hc44 => ?_) fun hc44 => ?_
    ·
     refine Ru 4 rfl ?_
     refine JL.nil ?_
     refine ⟨rfl, rfl, ?_⟩
     exact z9_
    refine Ru 4 rfl ?_
    refine JL.nil ?_
    refine ⟨rfl, rfl, ?_⟩
    exact z9_
   refine Cs rfl (fun hc45 => ?_) fun hc45 => ?_
   ·
    refine Rg ?_
    refine Ru 5 rfl ?_
    refine JL.call ca_45 rfl (ih g n c mid e b _ _ _ (by omega) hCw (hn.trans (hwl.trans hql).symm) (by omega) (by omega) (by omega) (by omega) p3' p4') pt_ rfl ?_
    rintro _ h46 Lo46 hle46 ⟨vs, w2, rfl, rfl, hCx, hSx, hOx⟩
    replace hh0 := hh0.mono hle46
    replace hCw := hCw.mono hle46
    refine JL.nil ?_
    exact ⟨_, [_], _, (RetV.none_ rfl), .cons .here .nil, _, rfl, _, _, rfl, rfl, hCx, (hSq.trans oz (hSw.mono oz (Nat.le_refl _) (by omega))).trans oz (hSx.mono oz (by omega) (Nat.le_refl _)), sym_join oz p5 hSw hOw hSx hOx⟩
   have hCx := hCw; have hSx := hRw; have hOx := so_pick hc45 (by omega) (by omega) p3' p4'
   refine J.skip ?_
   exact ⟨_, [_], _, (RetV.none_ rfl), .cons .here .nil, _, rfl, _, _, rfl, rfl, hCx, (hSq.trans oz (hSw.mono oz (Nat.le_refl _) (by omega))).trans oz (hSx.mono oz (by omega) (Nat.le_refl _)), sym_join oz p5 hSw hOw hSx hOx⟩
  have hCw := hCq; have hSw := hRq; have hRw := hRy; have hOw := so_pick hc42 (by omega) (by omega) p1 p2; have hwl := hSw.len; have p3' := p3; have p4' := p4
  refine J.skip ?_
  refine J.seq ?_
  refine J.meet [(213, .bool (decide (mid < e ∧ e < b)))] [(24, _), (0, _), (3, _), (4, _), (18, _)] ⟨rfl, rfl, rfl, rfl, rfl, trivial⟩ ?_ ?_
  ·
   refine Rg ?_
   refine Ru 4 rfl ?_
   refine Bs 209 rfl (fun hc47 => ?_) fun hc47 => ?_
   ·
    refine Ru 4 rfl ?_
    refine JL.nil ?_
    refine ⟨rfl, rfl, ?_⟩
    exact z9_
   refine Ru 4 rfl ?_
   refine JL.nil ?_
   refine ⟨rfl, rfl, ?_⟩
   exact z9_
  refine Cs rfl (fun hc48 => ?_) fun hc48 => ?_
  ·
   refine Rg ?_
   refine Ru 5 rfl ?_
   refine JL.call ca_45 rfl (ih g n c mid e b _ _ _ (by omega) hCw (hn.trans (hwl.trans hql).symm) (by omega) (by omega) (by omega) (by omega) p3' p4') pt_ rfl ?_
   rintro _ h49 Lo49 hle49 ⟨vs, w2, rfl, rfl, hCx, hSx, hOx⟩
   replace hh0 := hh0.mono hle49
   refine JL.nil ?_
   exact ⟨_, [_], _, (RetV.none_ rfl), .cons .here .nil, _, rfl, _, _, rfl, rfl, hCx, (hSq.trans oz (hSw.mono oz (Nat.le_refl _) (by omega))).trans oz (hSx.mono oz (by omega) (Nat.le_refl _)), sym_join oz p5 hSw hOw hSx hOx⟩
  have hCx := hCw; have hSx := hRw; have hOx := so_pick hc48 (by omega) (by omega) p3' p4'
  refine J.skip ?_
  exact ⟨_, [_], _, (RetV.none_ rfl), .cons .here .nil, _, rfl, _, _, rfl, rfl, hCx, (hSq.trans oz (hSw.mono oz (Nat.le_refl _) (by omega))).trans oz (hSx.mono oz (by omega) (Nat.le_refl _)), sym_join oz p5 hSw hOw hSx hOx⟩
end Go.Proofs.YtldbjnhfkjicjaaDoor
namespace Go.Proofs.YtldbjnhfkjicjaaDoor
open Go Go.RowKit
set_option maxRecDepth 100000
theorem ca_44 : callT Tryd.prog 44 = true := by kernel_rfl
def BsO (l : List (List UInt8 × Nd)) (k n : Nat) : Prop := ∀ p, k ∣ p → So oz olt l p (min (p + k) n)
theorem dvd_eq {d p a : Nat} (h1 : d ∣ p) (h2 : d ∣ a) (h3 : a ≤ p) (h4 : p < a + d) : p = a := by
  have := Nat.eq_zero_of_dvd_of_lt (Nat.dvd_sub h1 h2) (by omega)
  omega
theorem bs_end {l : List (List UInt8 × Nd)} {k n : Nat} (h : BsO l k n) (hk : n ≤ k) : So oz olt l 0 n := by
  have := h 0 (Nat.dvd_zero k)
  rwa [Nat.zero_add, Nat.min_eq_right hk] at this
theorem bs_ins {l l' : List (List UInt8 × Nd)} {k n a : Nat} (h : ∀ p, k ∣ p → p < a → So oz olt l p (p + k)) (ha : k ∣ a) (hk : n < a + k) (hS : Sw oz a n l l') (hO : So oz olt l' a n) : BsO l' k n := fun p hp => by
  rcases Nat.lt_or_ge p a with h1 | h1
  · have h2 : p + k ≤ a := by
      have := Nat.le_of_dvd (by omega) (Nat.dvd_sub ha hp)
      omega
    exact ((h p hp h1).same oz (fun q hq hq2 => hS.out oz (.inl (by omega)))).sub oz (Nat.le_refl _) (Nat.min_le_left ..)
  · rcases Nat.lt_or_ge p (a + k) with h2 | h2
    · have := dvd_eq hp ha h1 h2
      subst this
      exact hO.sub oz (Nat.le_refl _) (Nat.min_le_right ..)
    · exact fun i j x y w => by have := Nat.min_le_right (p + k) n; omega
theorem bs_nx {q w : List (List UInt8 × Nd)} {a d e : Nat} (hO : ∀ p, d ∣ p → p < a → So oz olt q p (p + d)) (had : d ∣ a) (he : e = a + d) (hS : Sw oz a e q w) (hOw : So oz olt w a e) (p : Nat) (hp : d ∣ p) (hpa : p < e) : So oz olt w p (p + d) := by
  subst he
  rcases Nat.lt_or_ge p a with h1 | h1
  · have h2 : p + d ≤ a := by have := Nat.le_of_dvd (by omega) (Nat.dvd_sub had hp); omega
    exact (hO p hp h1).same oz (fun q hq hq2 => hS.out oz (.inl (by omega)))
  · have := dvd_eq hp had h1 hpa
    subst this; exact hOw
theorem stable_fn {g n c : Nat} {xs : List Value} {l : List (List UInt8 × Nd)} {h : Part} (hC : CellsR oneR 6 h xs l) (hn : n = l.length) (hl : l.length ≤ 100000) :
    Fn Tryd.prog 30 [.slice (some ⟨g, 0, none⟩) n c, .int .i64 n, .func (.func 18) #[] #[]] h [.row (some ⟨g, 0, none⟩) c 51 6 n xs]
      (Rets fun v h' Lo => ∃ xs' l', v = .tuple #[] ∧ Lo = [.row (some ⟨g, 0, none⟩) c 51 6 n xs'] ∧ CellsR oneR 6 h' xs' l' ∧ Sw oz 0 n l l' ∧ So oz olt l' 0 n) := by
  refine Fn.intro Tryd.func30 rfl Tryd.ntmps30 rfl (fun e he => ?_)
  refine J.weak [(0, _), (1, _), (2, _)] ⟨rfl, rfl, rfl, trivial⟩ ?_
  have hh0 := Part.le.refl h
  refine Sr ?_
  refine Ru 1 rfl ?_
  refine JL.nil ?_
  refine Sr ?_
  refine Ru 3 rfl ?_
  refine JL.nil ?_
  refine J.seq ?_
  refine J.block ?_
  refine J.loop (fun t_ S_ h_ L_ => ∃ (p : Part) (a : Nat) (ys : List Value) (q : List (List UInt8 × Nd)), t_ = n + 20 - a ∧ S_ = [(0, .slice (some ⟨g, 0, none⟩) n c), (1, .int .i64 n), (2, .func (.func 18) #[] #[]), (6, .int .i64 20), (7, .int .i64 a), (8, .int .i64 ((a : Int) + 20))] ∧ p = h_ ∧ L_ = [.row (some ⟨g, 0, none⟩) c 51 6 n ys] ∧ (h.le p ∧ a ≤ n ∧ 20 ∣ a ∧ CellsR oneR 6 p ys q ∧ Sw oz 0 n l q ∧ (∀ p, 20 ∣ p → p < a → So oz olt q p (p + 20)))) ⟨_, _, ?_, ⟨_, 0, xs, l, rfl, rfl, rfl, rfl, ⟨hh0, by omega, Nat.dvd_zero 20, hC, .refl _, fun p _ hp => by omega⟩⟩⟩ ?_
  ·
   exact z4_
  rintro _ _ _ _ ⟨p, a, ys, q, rfl, rfl, rfl, rfl, hh0, han, had, hCq, hSq, hO⟩
  have hql := hSq.len
  refine J.seq ?_
  refine Sr ?_
  refine Ru 3 rfl ?_
  refine JL.nil ?_
  refine Cs rfl (fun hc1 => ?_) fun hc1 => ?_
  ·
   refine J.skip ?_
   refine J.block ?_
   refine Sr ?_
   refine Ru 3 rfl ?_
   rw [show (a : Int) + 20 = ((a + 20 : Nat) : Int) by omega]
   refine Ru 1 rfl ?_
   refine JL.call ca_44 rfl (insort_fn (a := a) (b := a + 20) hCq (hn.trans hql.symm) (by omega) (by omega) (by omega)) pt_ rfl ?_
   rintro _ h2 Lo2 hle2 ⟨zs, w, rfl, rfl, hCw, hSw, hOw⟩
   replace hh0 := hh0.mono hle2
   replace hCq := hCq.mono hle2
   refine JL.nil ?_
   refine Sr ?_
   refine Ru 2 rfl ?_
   refine JL.nil ?_
   refine Rg ?_
   refine Ru 2 rfl ?_
   refine JL.op ai_ rfl ?_
   refine Ru 1 rfl ?_
   refine JL.nil ?_
   refine ⟨_, ?_, _, ?_, ⟨_, a + 20, _, w, rfl, rfl, rfl, rfl, ⟨by assumption, by omega, by omega, hCw, hSq.trans oz (hSw.mono oz (by omega) (by omega)), bs_nx hO had rfl hSw hOw⟩⟩⟩
   ·
    omega
   exact z4_
  refine J.exit ?_
  refine Sr ?_
  refine Ru 4 rfl ?_
  refine JL.call ca_44 rfl (insort_fn (a := a) (b := n) hCq (hn.trans hql.symm) (by omega) (by omega) (by omega)) pt_ rfl ?_
  rintro _ h3 Lo3 hle3 ⟨zs, w, rfl, rfl, hCw, hSw, hOw⟩
  replace hh0 := hh0.mono hle3
  replace hCq := hCq.mono hle3
  have hB := bs_ins hO had (by omega) hSw hOw
  refine Nk [0, 1, 2, 6, 7, 8] rfl ?_
  refine J.block ?_
  refine J.loop (fun t_ S_ h_ L_ => ∃ (p : Part) (k : Nat) (ys : List Value) (q : List (List UInt8 × Nd)), t_ = n - k ∧ S_ = [(0, .slice (some ⟨g, 0, none⟩) n c), (1, .int .i64 n), (2, .func (.func 18) #[] #[]), (6, .int .i64 k)] ∧ p = h_ ∧ L_ = [.row (some ⟨g, 0, none⟩) c 51 6 n ys] ∧ (h.le p ∧ (1 ≤ k ∧ k ≤ 2 * n + 20) ∧ CellsR oneR 6 p ys q ∧ Sw oz 0 n l q ∧ BsO q k n)) ⟨_, _, ?_, ⟨_, 20, _, w, rfl, rfl, rfl, rfl, ⟨by assumption, by omega, hCw, hSq.trans oz (hSw.mono oz (by omega) (by omega)), hB⟩⟩⟩ ?_
  ·
   exact z4_
  rintro _ _ _ _ ⟨p, k, ys, q, rfl, rfl, rfl, rfl, hh0, hk, hCq, hSq, hB⟩
  refine J.seq ?_
  refine Sr ?_
  refine Ru 3 rfl ?_
  refine JL.nil ?_
  refine Cs rfl (fun hc4 => ?_) fun hc4 => ?_
  ·
   refine J.skip ?_
   refine J.block ?_
   refine Sr ?_
   refine Ru 1 rfl ?_
   refine JL.op z16_ rfl ?_
   refine Ru 2 rfl ?_
   refine JL.nil ?_
   refine J.seq ?_
   refine J.block ?_
   refine J.loop (fun t_ S_ h_ L_ => ∃ (p2 : Part) (a : Nat) (zs : List Value) (r : List (List UInt8 × Nd)), t_ = n + 2 * k - a ∧ S_ = [(0, .slice (some ⟨g, 0, none⟩) n c), (1, .int .i64 n), (2, .func (.func 18) #[] #[]), (6, .int .i64 k), (7, .int .i64 a), (8, .int .i64 ((a : Int) + 2 * k))] ∧ p2 = h_ ∧ L_ = [.row (some ⟨g, 0, none⟩) c 51 6 n zs] ∧ (h.le p2 ∧ a ≤ n ∧ 2 * k ∣ a ∧ CellsR oneR 6 p2 zs r ∧ Sw oz 0 a q r ∧ (∀ p, 2 * k ∣ p → p < a → So oz olt r p (p + 2 * k)))) ⟨_, _, ?_, ⟨_, 0, _, q, rfl, rfl, rfl, rfl, ⟨by assumption, by omega, Nat.dvd_zero _, hCq, .refl _, fun p _ hp => by omega⟩⟩⟩ ?_
   ·
    exact z4_
   rintro _ _ _ _ ⟨p2, a, zs, r, rfl, rfl, rfl, rfl, hh0, han, had, hCr, hSr, hO⟩
   have hrl := hSr.len.trans hSq.len; have hka : k ∣ a := Nat.dvd_trans (Nat.dvd_mul_left k 2) had; have b1 := hB a hka; have b2 := hB (a + k) (Nat.dvd_add hka (Nat.dvd_refl k))
   refine J.seq ?_
   refine Sr ?_
   refine Ru 3 rfl ?_
   refine JL.nil ?_
   refine Cs rfl (fun hc5 => ?_) fun hc5 => ?_
   ·
    have o1 : So oz olt r a (a + k) := (by rw [Nat.min_eq_left (by omega)] at b1; exact b1.same oz (fun q hq _ => hSr.out oz (.inr hq))); have o2 : So oz olt r (a + k) (a + 2 * k) := (by rw [Nat.min_eq_left (by omega), show a + k + k = a + 2 * k by omega] at b2; exact b2.same oz (fun q hq _ => hSr.out oz (.inr (by omega))))
    refine J.skip ?_
    refine J.block ?_
    refine Sr ?_
    refine Ru 4 rfl ?_
    refine JL.op ai_ rfl ?_
    rw [show (a : Int) + k = ((a + k : Nat) : Int) by omega]
    refine Ru 1 rfl ?_
    rw [show (a : Int) + 2 * k = ((a + 2 * k : Nat) : Int) by omega]
    refine Ru 1 rfl ?_
    refine JL.call ca_45 rfl (smerge_fn (a + 2 * k - a) g n c a (a + k) (a + 2 * k) _ _ _ (Nat.le_refl _) hCr (hn.trans hrl.symm) (by omega) (by omega) (by omega) (by omega) o1 o2) pt_ rfl ?_
    rintro _ h6 Lo6 hle6 ⟨vs, w2, rfl, rfl, hCv, hSv, hOv⟩
    replace hh0 := hh0.mono hle6
    replace hCr := hCr.mono hle6
    refine JL.nil ?_
    refine Sr ?_
    refine Ru 2 rfl ?_
    refine JL.nil ?_
    refine Rg ?_
    refine Ru 2 rfl ?_
    refine JL.op z16_ rfl ?_
    refine JL.op ai_ rfl ?_
    refine Ru 1 rfl ?_
    refine JL.nil ?_
    refine ⟨_, ?_, _, ?_, ⟨_, a + 2 * k, _, w2, rfl, rfl, rfl, rfl, ⟨by assumption, by omega, Nat.dvd_add had (Nat.dvd_refl _), hCv, (hSr.mono oz (Nat.le_refl _) (by omega)).trans oz (hSv.mono oz (by omega) (Nat.le_refl _)), bs_nx hO had rfl hSv hOv⟩⟩⟩
    ·
     omega
    exact z4_
   refine J.exit ?_
   refine J.seq ?_
   refine Sr ?_
   refine Ru 2 rfl ?_
   refine JL.op ai_ rfl ?_
   rw [show (a : Int) + k = ((a + k : Nat) : Int) by omega]
   refine Ru 1 rfl ?_
   refine JL.nil ?_
   refine Sr ?_
   refine Ru 3 rfl ?_
   refine JL.nil ?_
   refine Cs rfl (fun hc7 => ?_) fun hc7 => ?_
   ·
    have o1 : So oz olt r a (a + k) := (by rw [Nat.min_eq_left (by omega)] at b1; exact b1.same oz (fun q hq _ => hSr.out oz (.inr hq))); have o2 : So oz olt r (a + k) n := (by rw [Nat.min_eq_right (by omega)] at b2; exact b2.same oz (fun q hq _ => hSr.out oz (.inr (by omega))))
    refine Rg ?_
    refine Ru 5 rfl ?_
    refine JL.call ca_45 rfl (smerge_fn (n - a) g n c a (a + k) n _ _ _ (Nat.le_refl _) hCr (hn.trans hrl.symm) (by omega) (by omega) (by omega) (by omega) o1 o2) pt_ rfl ?_
    rintro _ h8 Lo8 hle8 ⟨vs, w2, rfl, rfl, hCv, hSv, hOv⟩
    replace hh0 := hh0.mono hle8
    replace hCr := hCr.mono hle8
    have hCz := hCv; have hSz := (hSq.trans oz (hSr.mono oz (Nat.le_refl _) han)).trans oz (hSv.mono oz (by omega) (Nat.le_refl _)); have hBz := bs_ins hO had (by omega) hSv hOv
    refine JL.nil ?_
    refine Rg ?_
    refine Ru 1 rfl ?_
    refine JL.op z16_ rfl ?_
    refine Ru 1 rfl ?_
    refine JL.nil ?_
    refine ⟨_, ?_, _, ?_, ⟨_, 2 * k, _, _, rfl, rfl, rfl, rfl, ⟨by assumption, by omega, hCz, hSz, hBz⟩⟩⟩
    ·
     omega
    exact z4_
   have o1 : So oz olt r a n := (by rw [Nat.min_eq_right (by omega)] at b1; exact b1.same oz (fun q hq _ => hSr.out oz (.inr hq))); have hCz := hCr; have hSz := hSq.trans oz (hSr.mono oz (Nat.le_refl _) han); have hBz := bs_ins hO had (by omega) (Sw.refl r) o1
   refine J.skip ?_
   refine Rg ?_
   refine Ru 1 rfl ?_
   refine JL.op z16_ rfl ?_
   refine Ru 1 rfl ?_
   refine JL.nil ?_
   refine ⟨_, ?_, _, ?_, ⟨_, 2 * k, _, _, rfl, rfl, rfl, rfl, ⟨by assumption, by omega, hCz, hSz, hBz⟩⟩⟩
   ·
    omega
   exact z4_
  refine J.exit ?_
  exact ⟨_, [_], _, (RetV.none_ rfl), .cons .here .nil, _, rfl, _, _, rfl, rfl, hCq, hSq, bs_end hB (by omega)⟩
end Go.Proofs.YtldbjnhfkjicjaaDoor
namespace Go.Proofs.YtldbjnhfkjicjaaDoor
open Go Go.RowKit
set_option maxRecDepth 100000
theorem ca_30 : callT Tryd.prog 30 = true := by kernel_rfl
theorem ssf_fn {g n c : Nat} {xs : List Value} {l : List (List UInt8 × Nd)} {h : Part} (hC : CellsR oneR 6 h xs l) (hn : n = l.length) (hl : l.length ≤ 100000) :
    Fn Tryd.prog 17 [.slice (some ⟨g, 0, none⟩) n c, .func (.func 18) #[] #[]] h [.row (some ⟨g, 0, none⟩) c 51 6 n xs]
      (Rets fun v h' Lo => ∃ xs' l', v = .tuple #[] ∧ Lo = [.row (some ⟨g, 0, none⟩) c 51 6 n xs'] ∧ CellsR oneR 6 h' xs' l' ∧ Sw oz 0 n l l' ∧ So oz olt l' 0 n) := by
  refine Fn.intro Tryd.func17 rfl Tryd.ntmps17 rfl (fun e he => ?_)
  refine J.weak [(0, _), (1, _)] ⟨rfl, rfl, trivial⟩ ?_
  have hh0 := Part.le.refl h
  refine Rg ?_
  refine Ru 4 rfl ?_
  refine JL.call ca_30 rfl (stable_fn hC hn hl) pt_ rfl ?_
  rintro _ h1 Lo1 hle1 ⟨zs, w, rfl, rfl, hCw, hSw, hOw⟩
  replace hh0 := hh0.mono hle1
  refine JL.nil ?_
  exact ⟨_, [_], _, (RetV.none_ rfl), .cons .here .nil, _, rfl, _, w, rfl, rfl, hCw, hSw, hOw⟩
def Prs (l : List (List UInt8 × Nd)) (ks : List Nd) : Prop := l.map (·.2) = ks ∧ ∀ p ∈ l, p.2.put = some p.1
theorem Prs.len {l : List (List UInt8 × Nd)} {ks : List Nd} (h : Prs l ks) : l.length = ks.length := by rw [← h.1, List.length_map]
theorem Prs.snoc {l : List (List UInt8 × Nd)} {ks : List Nd} {x : Nd} {b : List UInt8} (h : Prs l ks) (hx : x.put = some b) : Prs (l ++ [(b, x)]) (ks ++ [x]) :=
  ⟨by rw [List.map_append, h.1]; rfl, fun p hp => by
    rcases List.mem_append.1 hp with hp | hp
    · exact h.2 p hp
    · rw [List.mem_singleton] at hp; subst hp; exact hx⟩
theorem so_pair {l : List (List UInt8 × Nd)} {n : Nat} (hn : n = l.length) (h : So oz olt l 0 n) : List.Pairwise (fun p q => olt q p = false) l := by
  rw [List.pairwise_iff_getElem]
  intro i j hi hj hij
  have := h i j (Nat.zero_le _) hij (by omega)
  rwa [gg_at oz hi, gg_at oz hj] at this
theorem one_of_put {x y : Nd} {b : List UInt8} (hx : x.put = some b) (hy : y.put = some b) (hb : b.length < 4294967296) : x = y := by
  have a := rdN_put (max x.rk y.rk) x b b 0 b.length hx (Nat.le_max_left ..) hb (by simp) (by omega)
  have c := rdN_put (max x.rk y.rk) y b b 0 b.length hy (Nat.le_max_right ..) hb (by simp) (by omega)
  rw [a] at c
  injection c with c; injection c
theorem sort_one {l l1 l2 : List (List UInt8 × Nd)} (hp : ∀ p ∈ l, p.2.put = some p.1) (hb : ∀ p ∈ l, p.1.length < 4294967296) (h1 : l1.Perm l) (h2 : l2.Perm l) (s1 : List.Pairwise (fun p q => olt q p = false) l1) (s2 : List.Pairwise (fun p q => olt q p = false) l2) : l1 = l2 := by
  refine List.Perm.eq_of_pairwise (fun p q hp1 hq2 a b => ?_) s1 s2 (h1.trans h2.symm)
  have hpl := h1.mem_iff.1 hp1
  have hql := h2.mem_iff.1 hq2
  have e := cb_eq p.1 q.1 (of_decide_eq_false b) (of_decide_eq_false a)
  have hq := hp q hql
  rw [← e] at hq
  have := one_of_put (hp p hpl) hq (hb p hpl)
  cases p; cases q
  simp only at e this
  rw [e, this]
end Go.Proofs.YtldbjnhfkjicjaaDoor
namespace Go.Proofs.YtldbjnhfkjicjaaDoor
open Go Go.RowKit
theorem RetV.cellAT {P : Program} {e : Env} {m : Nat} {fn : Func} {S : Sig} {h : Part} {L : List Ent} {t T b bt sz t' : Nat} {cs : List Value} {v' : Value} (hr : fn.results = #[.cell t T, .tmp t']) (hv : look S t = some (.pointer (some ⟨b, 0, none⟩))) (hT : aggT P T = some (some sz)) (hm : Ent.blk b bt cs ∈ L) (hl : cs.length = sz)
    (hv' : look S t' = some v') : RetV P e m fn S h L (.tuple #[.agg cs.toArray, v']) := fun a w s => by
  simp [results, hr, s.slot t _ hv, s.slot t' _ hv', asAddr, loadVarA s.ok hT hm hl]
end Go.Proofs.YtldbjnhfkjicjaaDoor
namespace Go.Proofs.YtldbjnhfkjicjaaDoor
open Go Go.RowKit
set_option maxRecDepth 100000
theorem ap_44 : apT Tryd.prog 44 = some (51, 6, 96) := by kernel_rfl
theorem ca_17 : callT Tryd.prog 17 = true := by kernel_rfl
theorem pl_51 : plT Tryd.prog 51 = some ([.slice none 0 0, .int .i64 0, .int .i64 0, .bool false, .slice none 0 0, .slice none 0 0], [(0, 1), (1, 5)]) := by kernel_rfl
theorem zr_51 : zeroT Tryd.prog 51 = some [.slice none 0 0, .int .i64 0, .int .i64 0, .bool false, .slice none 0 0, .slice none 0 0] := by kernel_rfl
theorem list5 {w : List Value} (h : w.length = 5) : ∃ a b c d e, w = [a, b, c, d, e] := by
  match w, h with
  | [a, b, c, d, e], _ => exact ⟨a, b, c, d, e, rfl⟩
theorem oneR.all1 {h : Part} {cs : List Value} {p : List UInt8 × Nd} (r : oneR h cs p) : cs.all (·.oneCell') = true := List.all_eq_true.2 (Mono.one r)
theorem oneR.nd {h : Part} {cs : List Value} {p : List UInt8 × Nd} (r : oneR h cs p) : NdR h ((cs.drop 1).take 5) p.2 := by
  obtain ⟨a, c, ns, rfl, -, hn⟩ := r
  rw [List.drop_succ_cons, List.drop_zero, List.take_of_length_le (by rw [hn.len5]; decide)]
  exact hn
theorem set_add {ks : List Nd} {i : Nat} (hi : i < ks.length) : ks.take (i + 1) = ks.take i ++ [ks[i]] := List.take_succ_eq_append_getElem hi
def setBad (ks : List Nd) : Prop := ∃ x ∈ ks, x.put = none
def SetR (ks : List Nd) : Value → Part → Prop := fun v h' => (setBad ks ∧ ∃ cs, v = .tuple #[.agg (List.toArray cs), .int .i64 34] ∧ NdR h' cs ndZ) ∨
  (∃ cs l0 L, v = .tuple #[.agg (List.toArray cs), .int .i64 0] ∧ Prs l0 ks ∧ L.Perm l0 ∧ List.Pairwise (fun p q => olt q p = false) L ∧ NdR h' cs (.mk 0 17 true [] (L.map (·.2))))
theorem pset1_fn {a : Option Addr} {c : Nat} {ks : List Nd} {h : Part} (hk : SlR NdR 5 h a c ks) (hT : Tabs h) (h0 : 0 < ks.length) (hlen : ks.length ≤ 1000) (hsz : Nd.szL ks ≤ 1000000) : FnR Tryd.prog 7 [.slice a ks.length c] h (SetR ks) := by
  refine Fn.intro Tryd.func7 rfl Tryd.ntmps7 rfl (fun e he => ?_)
  refine J.weak [(0, _)] ⟨rfl, trivial⟩ ?_
  have hh0 := Part.le.refl h
  refine Sr ?_
  refine JL.alloc zr_26 rfl (fun b1 => ?_)
  refine Ru 1 rfl ?_
  refine JL.nil ?_
  refine Sr ?_
  refine Ru 1 rfl ?_
  refine JL.nil ?_
  refine J.seq ?_
  refine Sr ?_
  refine Ru 1 rfl ?_
  refine JL.callR ca_15 rfl (own_fn _ _ _ _ _ (Nat.le_refl _) hk (by omega)) rfl ?_
  rintro _ h2 hle2 ⟨oa, oc, rfl, hO⟩
  replace hk := hk.mono hle2
  replace hT := hT.mono hle2
  replace hh0 := hh0.mono hle2
  refine Ru 1 rfl ?_
  refine JL.row_nil 51 6 ?_
  refine Ru 1 rfl ?_
  refine JL.nil ?_
  refine J.block ?_
  refine J.loop (fun t_ S_ h_ L_ => ∃ (p : Part) (i : Nat) (la : Option Addr) (lc : Nat) (ys : List Value) (l : List (List UInt8 × Nd)), t_ = ks.length - i ∧ S_ = [(2, .pointer (some ⟨b1, 0, none⟩)), (4, .slice la l.length lc), (13, .slice oa ks.length oc), (14, .int .i64 ks.length), (15, .int .i64 i)] ∧ p = h_ ∧ L_ = [.row la lc 51 6 l.length ys, .blk b1 26 [.int .i64 0, .int .i64 0, .bool false, .slice none 0 0, .slice none 0 0]] ∧ (h.le p ∧ Tabs p ∧ SlR NdR 5 p oa oc ks ∧ i ≤ ks.length ∧ CellsR oneR 6 p ys l ∧ Prs l (ks.take i))) ⟨_, _, ?_, ⟨_, 0, none, 0, [], [], rfl, rfl, rfl, rfl, ⟨hh0, hT, hO, by omega, CellsR.nil, ⟨by simp, fun p hp => by cases hp⟩⟩⟩⟩ ?_
  ·
   exact z5_
  rintro _ _ _ _ ⟨p, i, la, lc, ys, l, rfl, rfl, rfl, rfl, hh0, hT, hO, hi, hC, hP⟩
  refine Sr ?_
  refine Ru 1 rfl ?_
  refine JL.nil ?_
  refine J.seq ?_
  refine Cs rfl (fun hc3 => ?_) fun hc3 => ?_
  ·
   have hi' : i < ks.length := (by omega); have hz1 : (ks[i]'hi').sz ≤ 1000000 := Nat.le_trans (Nd.sz_le (List.getElem_mem hi')) hsz; have hr1 := Nd.rk_le_sz _ (ks[i]'hi') (Nat.le_refl _); have hpl : l.length = i := (by rw [hP.len, List.length_take]; omega)
   refine J.skip ?_
   refine J.seq ?_
   refine J.block ?_
   refine Sr ?_
   refine JL.ope (RunE.index sl_22 rfl rfl z6_ (by assumption) rfl (by omega)) rfl ?_
   rintro _ ⟨b4, o4, hi4, rfl, hE4⟩
   refine JL.ope (RunE.loadA ag_26 rfl (by assumption)) rfl ?_
   rintro _ ⟨w, rfl, hNw⟩
   obtain ⟨u0, u1, u2, u3, u4, rfl⟩ := list5 hNw.len5
   refine JL.alloc zr_26 rfl (fun b6 => ?_)
   refine JL.storeA ag_26 rfl rfl dl_ z20_ z17_ z8_ ?_
   refine JL.nil ?_
   refine Sr ?_
   refine JL.op (RunV.build (cs := [.int .i64 0, .bool false]) pl_48 rfl rfl) rfl ?_
   refine JL.box rfl rfl rfl (fun b7 => ?_)
   refine Ru 1 rfl ?_
   refine JL.nil ?_
   refine Sr ?_
   refine Ru 1 rfl ?_
   refine JL.op (RunV.ownA ag_26 rfl mm_ z8_) rfl ?_
   refine JL.call ca_16 rfl (put_fn _ (ks[i]'(by omega)) _ _ _ _ _ (Nat.le_refl _) hNw hT (by omega) (by omega) (by omega)) pt_ rfl ?_
   rintro _ h8 Lo8 hle8 ⟨kb, ka, kc, kd, kbad, rfl, hkS, rfl, hkf, hkt⟩
   replace hh0 := hh0.mono hle8
   replace hT := hT.mono hle8
   replace hO := hO.mono hle8
   replace hC := hC.mono hle8
   replace hNw := hNw.mono hle8
   refine Ru 1 rfl ?_
   refine JL.nil ?_
   refine J.seq ?_
   refine Sr ?_
   refine Ru 3 rfl ?_
   refine JL.op (RunV.own1 ag_4 rfl mm_ rfl) rfl ?_
   refine JL.nil ?_
   refine Cs rfl (fun hc9 => ?_) fun hc9 => ?_
   ·
    refine Sr ?_
    refine JL.op (RunV.build (cs := [.int .i64 0, .int .i64 0, .bool false, .slice none 0 0, .slice none 0 0]) pl_26 rfl rfl) rfl ?_
    refine JL.storeA ag_26 rfl rfl dl_ z20_ z17_ z8_ ?_
    refine Ru 1 rfl ?_
    refine JL.nil ?_
    exact J.retR (RetV.cellAT rfl rfl ag_26 mm_ z8_ rfl) (.inl ⟨⟨_, List.getElem_mem _, hkf hc9⟩, _, rfl, NdR.of SlR.nil_ SlR.nil_⟩)
   have hkp := (hkt (by simpa using hc9)).1
   refine J.skip ?_
   refine Rg ?_
   refine Ru 2 rfl ?_
   refine JL.op (RunV.ownA ag_26 rfl mm_ z8_) rfl ?_
   refine JL.op (RunV.build (cs := [_, _, _, _, _, _]) pl_51 rfl rfl) rfl ?_
   refine JL.litA ap_44 rfl (by first | rfl) rfl rfl (fun b10 => ?_)
   refine JL.append1 ap_44 rfl rfl (by assumption) rfl dl_ dl_ rfl ((⟨_, _, _, rfl, hkS, hNw⟩ : oneR _ _ (kb, ks[i]'(by omega)))) z3_ rfl rfl (fun a11 c11 xs11 hC11 hN11 => ?_)
   refine Ru 1 rfl ?_
   refine JL.nil ?_
   refine Rg ?_
   refine JL.op ai_ rfl ?_
   refine Ru 1 rfl ?_
   refine JL.ents [.row _ _ _ _ _ _, .blk b1 _ _] pt_ ?_
   refine JL.nil ?_
   refine ⟨_, ?_, _, ?_, ⟨_, i + 1, _, _, _, l ++ [(kb, ks[i]'(by omega))], rfl, rfl, rfl, rfl, ⟨by assumption, by assumption, by assumption, by omega, by assumption, by rw [set_add (by omega)]; exact hP.snoc hkp⟩⟩⟩
   ·
    omega
   exact z5_
  have hie : i = ks.length := (by omega); have hpl : l.length = i := (by rw [hP.len, List.length_take]; omega); rw [hie, List.take_length] at hP
  refine J.exit ?_
  refine Kp [2, 4] rfl ?_
  refine Sr ?_
  refine JL.rowsm (List.mem_cons_self ..) (by omega) (fun g hg => ?_); subst hg
  refine Ru 1 rfl ?_
  refine JL.call ca_17 rfl (ssf_fn hC rfl (by omega)) pt_ rfl ?_
  rintro _ h12 Lo12 hle12 ⟨zs, w, rfl, rfl, hCw, hSw, hOw⟩
  replace hh0 := hh0.mono hle12
  replace hT := hT.mono hle12
  replace hO := hO.mono hle12
  replace hC := hC.mono hle12
  have hwl : w.length = l.length := hSw.len; refine JL.pub (R := oneR) (l := w) dl_ hCw hwl.symm (by omega) (fun hp hlep hSr => ?_); replace hh0 := hh0.mono hlep; replace hT := hT.mono hlep; rw [← hwl]
  refine JL.nil ?_
  refine Sr ?_
  refine JL.op (RunV.build (cs := [.int .i64 0, _, _, .slice none 0 0, .slice none 0 0]) pl_26 rfl rfl) rfl ?_
  refine JL.alloc zr_26 rfl (fun b13 => ?_)
  refine JL.storeA ag_26 rfl rfl dl_ z20_ z17_ z8_ ?_
  refine JL.nil ?_
  refine J.seq ?_
  refine Sr ?_
  refine JL.row_nil 26 5 ?_; refine JL.ents [.blk b13 _ _, .row none 0 26 5 0 [], .blk b1 _ _] pt_ ?_
  refine Ru 3 rfl ?_
  refine JL.nil ?_
  refine J.block ?_
  refine J.loop (fun t_ S_ h_ L_ => ∃ (p : Part) (j : Nat) (ka : Option Addr) (kc : Nat) (ys : List Value), t_ = w.length - j ∧ S_ = [(2, .pointer (some ⟨b1, 0, none⟩)), (9, .pointer (some ⟨b13, 0, none⟩)), (39, .slice (some ⟨g, 0, none⟩) w.length lc), (40, .int .i64 w.length), (41, .int .i64 j)] ∧ p = h_ ∧ L_ = [.blk b13 26 [.int .i64 0, .int .i64 17, .bool true, .slice none 0 0, .slice ka ((w.take j).map (·.2)).length kc], .row ka kc 26 5 ((w.take j).map (·.2)).length ys, .blk b1 26 [.int .i64 0, .int .i64 0, .bool false, .slice none 0 0, .slice none 0 0]] ∧ (h.le p ∧ SlR oneR 6 p (some ⟨g, 0, none⟩) lc w ∧ j ≤ w.length ∧ CellsR NdR 5 p ys ((w.take j).map (·.2)))) ⟨_, _, ?_, ⟨_, 0, none, 0, [], rfl, rfl, rfl, rfl, ⟨hh0, hSr, by omega, CellsR.nil⟩⟩⟩ ?_
  ·
   exact z5_
  rintro _ _ _ _ ⟨p, j, ka, kc, ys, rfl, rfl, rfl, rfl, hh0, hSr, hj, hCk⟩
  refine Sr ?_
  refine Ru 1 rfl ?_
  refine JL.nil ?_
  refine J.seq ?_
  refine Cs rfl (fun hc14 => ?_) fun hc14 => ?_
  ·
   have hjl : j < w.length := (by omega); have hml : (List.map (fun x => x.2) (List.take j w)).length = j := (by rw [List.length_map, List.length_take]; omega); have hst : List.map (fun x => x.2) (List.take j w) ++ [(w[j]'hjl).2] = List.map (fun x => x.2) (List.take (j + 1) w) := (by rw [List.take_succ_eq_append_getElem hjl, List.map_append, List.map_cons, List.map_nil])
   refine J.skip ?_
   refine J.seq ?_
   refine J.block ?_
   refine Sr ?_
   refine JL.ope (RunE.index sl_44 rfl rfl z6_ (by assumption) rfl (by omega)) rfl ?_
   rintro _ ⟨b15, o15, hi15, rfl, hE15⟩
   refine JL.ope (RunE.loadA ag_51 rfl (by assumption)) rfl ?_
   rintro _ ⟨w6, rfl, hOne⟩
   have hNn := hOne.nd
   refine JL.alloc zr_51 rfl (fun b17 => ?_)
   refine JL.storeA ag_51 rfl rfl dl_ hOne.all1 rfl hOne.len ?_
   refine JL.nil ?_
   refine Rg ?_
   refine Ru 1 rfl ?_
   refine JL.op (RunV.own1 ag_22 rfl mm_ rfl) rfl ?_
   refine Ru 1 rfl ?_
   refine JL.op ((RunV.ownSub (o := 1) (sz := 5) (cs := w6) ag_26 rfl mm_ (by rw [hOne.len]; decide))) rfl ?_
   refine JL.litA ap_22 rfl z8_ rfl rfl (fun b19 => ?_)
   refine JL.append1 ap_22 rfl rfl (by assumption) rfl dl_ dl_ z8_ (hOne.nd) z3_ rfl rfl (fun a20 c20 xs20 hC20 hN20 => ?_)
   refine Ru 1 rfl ?_
   refine JL.store1 ag_22 rfl rfl rfl dl_ z28_ ?_
   refine JL.nil ?_
   refine Rg ?_
   refine JL.op ai_ rfl ?_
   refine Ru 1 rfl ?_
   simp only [hst] at *; refine JL.ents [.blk b13 _ _, .row _ _ _ _ _ _, .blk b1 _ _] pt_ ?_
   refine JL.nil ?_
   refine ⟨_, ?_, _, ?_, ⟨_, j + 1, _, _, _, rfl, rfl, rfl, rfl, ⟨by assumption, by assumption, by omega, by assumption⟩⟩⟩
   ·
    omega
   exact z5_
  have hjw : j = w.length := (by omega); subst hjw; rw [List.take_length] at hCk ⊢
  refine J.exit ?_
  refine Kp [2, 9] rfl ?_
  refine Sr ?_
  have hml : (List.map (fun x => x.2) w).length = w.length := List.length_map ..; refine JL.pub (R := NdR) (l := w.map (fun x => x.2)) dl_ hCk rfl (by omega) (fun hp2 hlep2 hS2 => ?_)
  refine JL.op (RunV.ownA ag_26 rfl mm_ z8_) rfl ?_
  refine JL.storeA ag_26 rfl rfl dl_ z20_ z17_ z8_ ?_
  refine Ru 1 rfl ?_
  refine JL.nil ?_
  exact J.retR (RetV.cellAT rfl rfl ag_26 mm_ z8_ rfl) (.inr ⟨_, l, w, rfl, hP, hSw.perm oz, so_pair hwl.symm hOw, NdR.of SlR.nil_ hS2⟩)
end Go.Proofs.YtldbjnhfkjicjaaDoor
namespace Go.Proofs.YtldbjnhfkjicjaaDoor
open Go Go.RowKit
def decGo : List UInt8 → Nat → Bool → Option (List Nat)
  | [], _, fresh => if fresh then some [] else none
  | c :: r, n, fresh => if (fresh && decide (c.toNat = 128)) || decide (72057594037927935 < n) then none
    else if 127 < c.toNat then decGo r (n * 128 + c.toNat % 128) false else (decGo r 0 true).map (fun l => (n * 128 + c.toNat % 128) :: l)
def refGo : List UInt8 → Nat → Nat → Option (List Nat)
  | [], _, _ => some []
  | c :: r, n, long => if 9 < long + 1 ∨ 9223372036854775808 ≤ n * 128 + c.toNat % 128 then none
    else if 128 ≤ c.toNat then refGo r (n * 128 + c.toNat % 128) (long + 1) else (refGo r 0 0).map (fun l => (n * 128 + c.toNat % 128) :: l)
def hiF : Nat → Nat → List UInt8
  | 0, _ => []
  | f + 1, n => if n = 0 then [] else hiF f (n / 128) ++ [UInt8.ofNat (n % 128 + 128)]
def hiB (n : Nat) : List UInt8 := hiF 10 n
def b128 (n : Nat) : List UInt8 := hiB (n / 128) ++ [UInt8.ofNat (n % 128)]
def enc : List Nat → List UInt8
  | [] => []
  | n :: r => b128 n ++ enc r
theorem hiF_up : ∀ (f n : Nat), n < 128 ^ f → hiF (f + 1) n = hiF f n
  | 0, n, h => by have : n = 0 := (by simpa using h); subst this; rfl
  | f + 1, n, h => by
    rw [hiF]
    conv => rhs; rw [hiF]
    rw [hiF_up f (n / 128) (by rw [Nat.pow_succ] at h; omega)]
theorem hiB_step (n : Nat) (h : n < 128 ^ 10) (h0 : n ≠ 0) : hiB n = hiB (n / 128) ++ [UInt8.ofNat (n % 128 + 128)] := by
  have e : hiB (n / 128) = hiF 9 (n / 128) := hiF_up 9 _ (by simp only [Nat.reducePow] at h ⊢; omega)
  rw [e]
  show hiF 10 n = _
  rw [hiF, if_neg h0]
theorem byte_hi {c : UInt8} {n : Nat} (h : 127 < c.toNat) : (n * 128 + c.toNat % 128) % 128 + 128 = c.toNat ∧ (n * 128 + c.toNat % 128) / 128 = n := by
  have := UInt8.toNat_lt c; omega
theorem dec_enc : ∀ (b : List UInt8) (n : Nat) (fresh : Bool) (l : List Nat), (fresh = true → n = 0) → (fresh = false → 0 < n) → decGo b n fresh = some l → hiB n ++ b = enc l ∧ ∀ x ∈ l, x < 9223372036854775808
  | [], n, fresh, l, h0, h1, h => by
    cases fresh with
    | false => simp [decGo] at h
    | true => simp [decGo] at h; subst h; rw [h0 rfl]; exact ⟨rfl, by simp⟩
  | c :: r, n, fresh, l, h0, h1, h => by
    have hc := UInt8.toNat_lt c
    rw [decGo] at h
    split at h
    · cases h
    · rename_i hg
      simp only [Bool.or_eq_true, Bool.and_eq_true, decide_eq_true_eq, not_or, not_and] at hg
      split at h
      · rename_i hh
        have hn : n * 128 + c.toNat % 128 ≠ 0 := by
          cases fresh with
          | false => have := h1 rfl; omega
          | true => have := hg.1 rfl; omega
        obtain ⟨e1, e2⟩ := dec_enc r _ false l (fun x => by cases x) (fun _ => by omega) h
        refine ⟨?_, e2⟩
        have hb := byte_hi (n := n) hh
        rw [hiB_step _ (by simp only [Nat.reducePow]; omega) hn, hb.1, hb.2] at e1
        rw [← e1]
        simp
      · rename_i hh
        rw [Option.map_eq_some_iff] at h
        obtain ⟨l', hl', rfl⟩ := h
        obtain ⟨e1, e2⟩ := dec_enc r 0 true l' (fun _ => rfl) (fun x => by cases x) hl'
        have e3 : (n * 128 + c.toNat % 128) / 128 = n := by omega
        have e4 : (n * 128 + c.toNat % 128) % 128 = c.toNat := by omega
        refine ⟨?_, fun x hx => ?_⟩
        · rw [enc, ← e1, b128, e3, e4]
          simp [show hiB 0 = [] from rfl]
        · rcases List.mem_cons.1 hx with rfl | hx
          · omega
          · exact e2 x hx
theorem dec_hi : ∀ (f y : Nat) (t : List UInt8), y < 128 ^ f → y < 9223372036854775808 → decGo (hiF f y ++ t) 0 true = decGo t y (decide (y = 0))
  | 0, y, t, h, _ => by have : y = 0 := (by simpa using h); subst this; rfl
  | f + 1, y, t, h, h2 => by
    rw [hiF]
    split
    · rename_i h0; subst h0; rfl
    · rename_i h0
      rw [List.append_assoc, dec_hi f (y / 128) _ (by rw [Nat.pow_succ] at h; omega) (by omega)]
      simp only [List.cons_append, List.nil_append, decGo]
      have e : (UInt8.ofNat (y % 128 + 128)).toNat = y % 128 + 128 := by rw [UInt8.toNat_ofNat']; omega
      rw [e, if_neg, if_pos (by omega)]
      · rw [show y / 128 * 128 + (y % 128 + 128) % 128 = y by omega, decide_eq_false h0]
      · simp only [Bool.or_eq_true, Bool.and_eq_true, decide_eq_true_eq, not_or, not_and]
        omega
theorem dec_b128 (x : Nat) (r : List UInt8) (h : x < 9223372036854775808) : decGo (b128 x ++ r) 0 true = (decGo r 0 true).map (x :: ·) := by
  unfold b128 hiB
  rw [List.append_assoc, dec_hi 10 (x / 128) _ (by simp only [Nat.reducePow]; omega) (by omega)]
  simp only [List.cons_append, List.nil_append, decGo]
  have e : (UInt8.ofNat (x % 128)).toNat = x % 128 := by rw [UInt8.toNat_ofNat']; omega
  rw [e, if_neg, if_neg (by omega)]
  · rw [show x / 128 * 128 + x % 128 % 128 = x by omega]
  · simp only [Bool.or_eq_true, Bool.and_eq_true, decide_eq_true_eq, not_or, not_and]
    omega
theorem enc_dec : ∀ (l : List Nat), (∀ x ∈ l, x < 9223372036854775808) → decGo (enc l) 0 true = some l
  | [], _ => rfl
  | n :: r, h => by
    rw [enc, dec_b128 _ _ (h n (List.mem_cons_self ..)), enc_dec r (fun x hx => h x (List.mem_cons_of_mem _ hx))]
    rfl
theorem dec_ref : ∀ (b : List UInt8) (n long : Nat) (fresh : Bool) (l : List Nat), (fresh = true → n = 0 ∧ long = 0) → (fresh = false → 128 ^ (long - 1) ≤ n ∧ 1 ≤ long) → decGo b n fresh = some l → refGo b n long = some l
  | [], n, long, fresh, l, h0, h1, h => by
    cases fresh with
    | false => simp [decGo] at h
    | true => simpa [decGo, refGo] using h
  | c :: r, n, long, fresh, l, h0, h1, h => by
    have hc := UInt8.toNat_lt c
    rw [decGo] at h
    rw [refGo]
    split at h
    · cases h
    · rename_i hg
      simp only [Bool.or_eq_true, Bool.and_eq_true, decide_eq_true_eq, not_or, not_and] at hg
      have hlong : long ≤ 8 := by
        cases fresh with
        | true => have := h0 rfl; omega
        | false =>
          obtain ⟨q1, q2⟩ := h1 rfl
          rcases Nat.lt_or_ge 8 long with h9 | h9
          · have : (128 : Nat) ^ 8 ≤ 128 ^ (long - 1) := Nat.pow_le_pow_right (by decide) (by omega)
            simp only [Nat.reducePow] at this; omega
          · exact h9
      rw [if_neg (by omega)]
      split at h
      · rename_i hh
        rw [if_pos (by omega)]
        refine dec_ref r _ (long + 1) false l (fun x => by cases x) (fun _ => ⟨?_, by omega⟩) h
        rw [Nat.add_sub_cancel]
        cases fresh with
        | true => have := h0 rfl; have := hg.1 rfl; rw [(h0 rfl).2]; simp only [Nat.pow_zero]; omega
        | false =>
          obtain ⟨q1, q2⟩ := h1 rfl
          obtain ⟨j, rfl⟩ : ∃ j, long = j + 1 := ⟨long - 1, by omega⟩
          rw [Nat.add_sub_cancel] at q1
          rw [Nat.pow_succ]
          omega
      · rename_i hh
        rw [if_neg (by omega)]
        rw [Option.map_eq_some_iff] at h
        obtain ⟨l', hl', rfl⟩ := h
        rw [dec_ref r 0 0 true l' (fun _ => ⟨rfl, rfl⟩) (fun x => by cases x) hl']
        rfl
theorem ref_lt : ∀ (b : List UInt8) (n long : Nat) (l : List Nat), refGo b n long = some l → (∀ x ∈ l, x < 9223372036854775808) ∧ l.length ≤ b.length
  | [], n, long, l, h => by simp [refGo] at h; subst h; simp
  | c :: r, n, long, l, h => by
    rw [refGo] at h
    split at h
    · cases h
    · split at h
      · have := ref_lt r _ _ l h
        exact ⟨this.1, by simp; omega⟩
      · rw [Option.map_eq_some_iff] at h
        obtain ⟨l', hl', rfl⟩ := h
        have := ref_lt r _ _ l' hl'
        refine ⟨fun x hx => ?_, by simp; omega⟩
        rcases List.mem_cons.1 hx with rfl | hx
        · omega
        · exact this.1 x hx
def refO (b : List UInt8) : Option (List Nat) := match refGo b 0 0 with
  | none => none
  | some l => if l ≠ [] ∧ enc l = b then some l else none
def decO (b : List UInt8) : Option (List Nat) := match decGo b 0 true with
  | none => none
  | some l => if l = [] then none else some l
theorem refO_decO (b : List UInt8) : refO b = decO b := by
  unfold refO decO
  cases hd : decGo b 0 true with
  | some l =>
    have h1 := dec_ref b 0 0 true l (fun _ => ⟨rfl, rfl⟩) (fun x => by cases x) hd
    have h2 := (dec_enc b 0 true l (fun _ => rfl) (fun x => by cases x) hd).1
    rw [h1]
    simp only [← h2]
    by_cases hl : l = []
    · simp [hl]
    · simp [hl, show hiB 0 = [] from rfl]
  | none =>
    cases hr : refGo b 0 0 with
    | none => rfl
    | some l =>
      simp only
      rw [if_neg]
      rintro ⟨_, he⟩
      have := enc_dec l (ref_lt b 0 0 l hr).1
      rw [he, hd] at this
      cases this
def tail46 : List Nat → List UInt8
  | [] => []
  | n :: r => [46] ++ dgs n 1 ++ tail46 r
def txtO : List Nat → List UInt8
  | [] => []
  | n :: r => dgs (min (n / 40) 2) 1 ++ [46] ++ dgs (n - 40 * min (n / 40) 2) 1 ++ tail46 r
theorem oidGo_rest : ∀ (b out : List UInt8) (n : Nat) (fresh : Bool), oidGo b out n fresh false = (decGo b n fresh).map (out ++ tail46 ·)
  | [], out, n, fresh => by cases fresh <;> simp [oidGo, decGo, tail46]
  | c :: r, out, n, fresh => by
    rw [oidGo, decGo]
    split
    · rfl
    · split
      · exact oidGo_rest r out _ _
      · simp only [Bool.false_eq_true, if_false]
        rw [oidGo_rest, Option.map_map]
        congr 1
        funext l
        simp [tail46]
theorem oidGo_first : ∀ (b out : List UInt8) (n : Nat) (fresh : Bool), oidGo b out n fresh true = match decGo b n fresh with | none => none | some l => if l = [] then none else some (out ++ txtO l)
  | [], out, n, fresh => by cases fresh <;> simp [oidGo, decGo]
  | c :: r, out, n, fresh => by
    rw [oidGo, decGo]
    split
    · rfl
    · split
      · exact oidGo_first r out _ _
      · rw [if_pos rfl, oidGo_rest]
        cases decGo r 0 true with
        | none => rfl
        | some l => simp [txtO]
theorem oidT_dec (b : List UInt8) : oidT b = (decO b).map txtO := by
  unfold oidT decO
  rw [oidGo_first]
  cases decGo b 0 true with
  | none => rfl
  | some l => by_cases h : l = [] <;> simp [h]
def dig (c : UInt8) : Bool := decide (48 ≤ c.toNat ∧ c.toNat ≤ 57)
def numV (s : List UInt8) : Nat := s.foldl (fun v c => v * 10 + (c.toNat - 48)) 0
def numBad (s : List UInt8) : Bool := decide (s.length = 0 ∨ 19 < s.length ∨ 1 < s.length ∧ (s.getD 0 0).toNat = 48)
def numB (s : List UInt8) : Option Nat := if numBad s || !s.all dig then none else if numV s < 9223372036854775808 then some (numV s) else none
def numsGo : List UInt8 → List UInt8 → Option (List Nat)
  | [], cur => (numB cur).map ([·])
  | c :: r, cur => if c = 46 then (match numB cur with
      | none => none
      | some n => (numsGo r []).map (n :: ·)) else numsGo r (cur ++ [c])
def oidOk (l : List Nat) : Bool := decide (2 ≤ l.length) && (decide (l.getD 0 0 = 2 ∧ l.getD 1 0 < 9223372036854775728) || decide (l.getD 0 0 < 2 ∧ l.getD 1 0 < 40))
def oidB (s : List UInt8) : Option (List UInt8) := match numsGo s [] with
  | none => none
  | some l => if oidOk l then some (enc ((40 * l.getD 0 0 + l.getD 1 0) :: l.drop 2)) else none
theorem numV_snoc (s : List UInt8) (c : UInt8) : numV (s ++ [c]) = numV s * 10 + (c.toNat - 48) := by simp [numV]
theorem dgo_num : ∀ (f n len k : Nat), 1 ≤ len → n < 10 ^ f → n < 10 ^ k → numV (dgo f n len 1) = n ∧ (dgo f n len 1).all dig = true ∧ (dgo f n len 1).length ≤ k ∧ (n = 0 → dgo f n len 1 = []) ∧ (0 < n → 0 < (dgo f n len 1).length ∧ ((dgo f n len 1).getD 0 0).toNat ≠ 48)
  | 0, n, len, k, h1, h, hk => by
    have : n = 0 := by simpa using h
    subst this
    simp [dgo, numV]
  | f + 1, n, len, k, h1, h, hk => by
    rw [dgo]
    by_cases h0 : 0 < n
    · rw [if_pos (.inl h0)]
      obtain ⟨j, rfl⟩ : ∃ j, k = j + 1 := ⟨k - 1, by
        cases k with
        | zero => simp at hk; omega
        | succ k => rfl⟩
      rw [Nat.pow_succ] at h hk
      obtain ⟨i1, i2, i3, i4, i5⟩ := dgo_num f (n / 10) (len + 1) j (by omega) (by omega) (by omega)
      have e : (UInt8.ofNat (48 + n % 10)).toNat = 48 + n % 10 := by rw [UInt8.toNat_ofNat']; omega
      refine ⟨by rw [numV_snoc, i1, e]; omega, by simp [i2, dig, e]; omega, by simp; omega, fun h => by omega, fun _ => ⟨by simp, ?_⟩⟩
      by_cases hn : 0 < n / 10
      · have := i5 hn
        rw [List.getD_eq_getElem?_getD, List.getElem?_append_left this.1, ← List.getD_eq_getElem?_getD]
        exact this.2
      · rw [i4 (by omega)]
        show (UInt8.ofNat (48 + n % 10)).toNat ≠ 48
        omega
    · have : n = 0 := by omega
      subst this
      rw [if_neg (by omega)]
      simp [numV]
theorem dgs_num (n : Nat) (h : n < 9223372036854775808) : numB (dgs n 1) = some n ∧ (dgs n 1).all dig = true := by
  unfold dgs
  rw [dgo, if_pos (.inr (by decide))]
  obtain ⟨i1, i2, i3, i4, i5⟩ := dgo_num 19 (n / 10) 1 18 (Nat.le_refl _) (by simp only [Nat.reducePow]; omega) (by simp only [Nat.reducePow]; omega)
  have e : (UInt8.ofNat (48 + n % 10)).toNat = 48 + n % 10 := by rw [UInt8.toNat_ofNat']; omega
  rw [show 0 + 1 = 1 from rfl]
  have hall : (dgo 19 (n / 10) 1 1 ++ [UInt8.ofNat (48 + n % 10)]).all dig = true := by simp [i2, dig, e]; omega
  have hnv : numV (dgo 19 (n / 10) 1 1 ++ [UInt8.ofNat (48 + n % 10)]) = n := by rw [numV_snoc, i1, e]; omega
  refine ⟨?_, hall⟩
  unfold numB
  have hb : numBad (dgo 19 (n / 10) 1 1 ++ [UInt8.ofNat (48 + n % 10)]) = false := by
    refine decide_eq_false ?_
    simp only [List.length_append, List.length_cons, List.length_nil]
    rintro (h1 | h1 | ⟨h1, h2⟩)
    · omega
    · omega
    · have hp : 0 < n / 10 := by
        rcases Nat.eq_zero_or_pos (n / 10) with h0 | h0
        · rw [i4 h0] at h1; simp at h1
        · exact h0
      have := i5 hp
      rw [List.getD_eq_getElem?_getD, List.getElem?_append_left this.1, ← List.getD_eq_getElem?_getD] at h2
      exact this.2 h2
  rw [hb, hall, if_neg (by decide), hnv, if_pos h]
theorem numsGo_digits : ∀ (s cur r : List UInt8), s.all dig = true → numsGo (s ++ r) cur = numsGo r (cur ++ s)
  | [], cur, r, _ => by simp
  | c :: s, cur, r, h => by
    simp only [List.all_cons, Bool.and_eq_true] at h
    have hc : c ≠ 46 := by
      rintro rfl
      have := h.1
      simp [dig] at this
    simp only [List.cons_append, numsGo]
    rw [if_neg hc, numsGo_digits s _ r h.2]
    simp
theorem nums_step (n : Nat) (r : List UInt8) (h : n < 9223372036854775808) : numsGo (dgs n 1 ++ [46] ++ r) [] = (numsGo r []).map (n :: ·) := by
  have := dgs_num n h
  rw [List.append_assoc, numsGo_digits _ _ _ this.2, List.nil_append]
  simp only [List.cons_append, List.nil_append, numsGo, if_pos]
  rw [this.1]
theorem nums_tail : ∀ (n : Nat) (l : List Nat), n < 9223372036854775808 → (∀ x ∈ l, x < 9223372036854775808) → numsGo (dgs n 1 ++ tail46 l) [] = some (n :: l)
  | n, [], h, _ => by
    have := dgs_num n h
    rw [tail46, numsGo_digits _ _ _ this.2, List.nil_append, numsGo, this.1]
    rfl
  | n, m :: r, h, hl => by
    rw [tail46]
    have := nums_step n (dgs m 1 ++ tail46 r) h
    rw [List.append_assoc] at this
    rw [List.append_assoc, this, nums_tail m r (hl m (List.mem_cons_self ..)) (fun x hx => hl x (List.mem_cons_of_mem _ hx))]
    rfl
theorem oidB_txt (l : List Nat) (h : ∀ x ∈ l, x < 9223372036854775808) : oidB (txtO l) = if l = [] then none else some (enc l) := by
  cases l with
  | nil => rfl
  | cons n r =>
    have hn := h n (List.mem_cons_self ..)
    have hr := fun x hx => h x (List.mem_cons_of_mem n hx)
    have e := nums_step (min (n / 40) 2) (dgs (n - 40 * min (n / 40) 2) 1 ++ tail46 r) (by omega)
    rw [nums_tail _ r (by omega) hr] at e
    have et : txtO (n :: r) = dgs (min (n / 40) 2) 1 ++ [46] ++ (dgs (n - 40 * min (n / 40) 2) 1 ++ tail46 r) := by rw [txtO]; simp only [List.append_assoc]
    unfold oidB
    rw [et, e]
    simp only [Option.map_some]
    have hok : oidOk (min (n / 40) 2 :: (n - 40 * min (n / 40) 2) :: r) = true := by
      unfold oidOk
      simp only [Bool.and_eq_true, Bool.or_eq_true, decide_eq_true_eq]
      refine ⟨by simp, ?_⟩
      show (min (n / 40) 2 = 2 ∧ n - 40 * min (n / 40) 2 < 9223372036854775728) ∨ (min (n / 40) 2 < 2 ∧ n - 40 * min (n / 40) 2 < 40)
      omega
    rw [if_pos hok, if_neg (by simp)]
    congr 2
    show _ :: r = n :: r
    congr 1
    show 40 * (min (n / 40) 2) + (n - 40 * min (n / 40) 2) = n
    omega
theorem refO_oidT (b : List UInt8) : oidT b = (refO b).map txtO := by rw [oidT_dec, refO_decO]
end Go.Proofs.YtldbjnhfkjicjaaDoor
namespace Go.Proofs.YtldbjnhfkjicjaaDoor
open Go Go.RowKit
def LeaveP (P : Program) (e : Env) (m : Nat) (fn : Func) (R : Ending → World → Prop) (d : Deferred) (u : FrameMode) : Post := fun S h L => ∀ a w, Sat e m S h L a w → Leaves P fn a.tmps R [d] u w
def FnEnd (w0 : World) (h : Part) (Li : List Ent) (R : Ending → Part → List Ent → Prop) : Ending → World → Prop := fun e w' => ∃ h' Lo, R e h' Lo ∧ Ok ⟨w0, (· ∈ keys Li), h, []⟩ h' Lo w'
theorem Ok.ds {e : Env} {h : Part} {L : List Ent} {w : World} (k : Ok e h L w) (ds : List Deferred) : Ok { e with ds := ds } h L w := ⟨k.os, k.tape, k.output, k.size, k.old, k.sub, k.le, k.fresh, k.own, k.key, k.nodup⟩
theorem Fn.introD {P : Program} {F m D t5 id : Nat} {fn : Func} {r0 rest : Code} {caps : Array Operand} {ty ty' : TypeId} {pos pos' : String} {af af' : Array Edge} {args : List Value} {h : Part} {Li : List Ent} {R : Ending → Part → List Ent → Prop}
    (hf : P.funcs[F]? = some fn) (hb : fn.body = some (.seq r0 (.seq (.region id #[⟨some t5, .makeFunc (.func D) #[] caps, ty, pos, af, none⟩, ⟨none, .defer { callee := .value (.tmp t5), args := #[], argTypes := #[] }, ty', pos', af', none⟩] false) rest)))
    (hm : fn.ntmps = m) (hl : Nat.ble args.length m = true) (ht : Nat.blt t5 m = true)
    (k : ∀ w0, J ⟨P, ⟨w0, (· ∈ keys Li), h, []⟩, m, fun _ _ _ => False, fun _ _ _ _ => False⟩ r0
      (fun S1 h1 L1 => ∃ vs, evl S1 caps.toList = some vs ∧
        J ⟨P, ⟨w0, (· ∈ keys Li), h, [⟨.fn (.func D) vs.toArray, #[]⟩]⟩, m, LeaveP P ⟨w0, (· ∈ keys Li), h, [⟨.fn (.func D) vs.toArray, #[]⟩]⟩ m fn (FnEnd w0 h Li R) ⟨.fn (.func D) vs.toArray, #[]⟩ .returning,
          fun c => LeaveP P ⟨w0, (· ∈ keys Li), h, [⟨.fn (.func D) vs.toArray, #[]⟩]⟩ m fn (FnEnd w0 h Li R) ⟨.fn (.func D) vs.toArray, #[]⟩ (.panicking c)⟩ rest
          (LeaveP P ⟨w0, (· ∈ keys Li), h, [⟨.fn (.func D) vs.toArray, #[]⟩]⟩ m fn (FnEnd w0 h Li R) ⟨.fn (.func D) vs.toArray, #[]⟩ .returning) NoExit ((t5, .func (.func D) #[] vs.toArray) :: S1) h1 L1) NoExit (argSig 0 args) h Li) : Fn P F args h Li R := fun w hw => by
  have hl' : args.length ≤ m := by simpa using hl
  refine calls_of_wp_defers hf hb ?_
  have hs : Sat ⟨w, (· ∈ keys Li), h, []⟩ m (argSig 0 args) h Li ⟨args.toArray ++ Array.replicate (fn.ntmps - args.toArray.size) undef, []⟩ w := by
    refine ⟨by simp [hm]; omega, fun s v hv => ?_, rfl, hw⟩
    obtain ⟨_, h2⟩ := argSig_look _ _ _ _ hv
    have hlt := (List.getElem?_eq_some_iff.1 h2).1
    simp only [Nat.sub_zero] at h2 hlt
    rw [Array.getElem?_append_left (by simpa using hlt)]
    simpa using h2
  refine wp_seq (wpm (k w _ w hs) (fun ex a' w' q => ?_))
  cases ex with
  | normal =>
    obtain ⟨S1, h1, L1, s1, vs, hvs, k1⟩ := q
    show Code.wp P _ _ a' w'
    refine wp_seq ?_
    have hcap : caps.map a'.eval = vs.toArray := by
      have := evl_spec s1 hvs
      rw [← this]
      apply Array.ext'
      simp
    have hreg := wp_region_lit (P := P) (id := id) (Q := Exit.then (fun a2 w2 => rest.wp P (bodyPostD P fn (FnEnd w h Li R)) a2 w2) (bodyPostD P fn (FnEnd w h Li R))) (a := a') (w := w')
      (l := [⟨some t5, .makeFunc (.func D) #[] caps, ty, pos, af, none⟩, ⟨none, .defer { callee := .value (.tmp t5), args := #[], argTypes := #[] }, ty', pos', af', none⟩]) ?_
    · exact hreg
    · refine wpList_val (v := .func (.func D) #[] vs.toArray) (w' := w') rfl ?_ ?_
      · simp [execOp, Instr.makeFunc, hcap]
      · unfold wpList
        rw [if_pos (by simp [Region.wanted])]
        refine .inl ?_
        have s2 := s1.put ht (.func (.func D) #[] vs.toArray) s1.ok
        have ht5 : (a'.put (some t5) (.func (.func D) #[] vs.toArray)).eval (.tmp t5) = .func (.func D) #[] vs.toArray := s2.eval (x := .tmp t5) (by simp [ev, look])
        have hr : (execOp (a'.put (some t5) (.func (.func D) #[] vs.toArray)).eval ⟨none, .defer { callee := .value (.tmp t5), args := #[], argTypes := #[] }, ty', pos', af', none⟩).run P w' = .ok (.defer ⟨.fn (.func D) vs.toArray, #[]⟩) w' := by
          simp [execOp, resolve, ht5, Deferred.ofValue]
        simp only [Oper.wp, hr, Oper.upon]
        unfold wpList
        show Code.wp P rest _ _ w'
        have s3 : Sat ⟨w, (· ∈ keys Li), h, [⟨.fn (.func D) vs.toArray, #[]⟩]⟩ m ((t5, .func (.func D) #[] vs.toArray) :: S1) h1 L1 ({ a'.put (some t5) (.func (.func D) #[] vs.toArray) with defers := ⟨.fn (.func D) vs.toArray, #[]⟩ :: (a'.put (some t5) (.func (.func D) #[] vs.toArray)).defers }.put none undef) w' := by
          exact ⟨by simpa [Act.put] using s2.size, fun s v hv => by simpa [Act.put] using s2.slot s v hv, by have := s2.ds; simpa [Act.put] using this, s2.ok.ds _⟩
        refine wpm (k1 _ _ s3) (fun ex2 a2 w2 q2 => ?_)
        cases ex2 with
        | normal => obtain ⟨S, h', L', s', hh⟩ := q2; have := hh _ _ s'; have e1 := s'.ds; simp only [bodyPostD, e1]; exact this
        | ret => obtain ⟨S, h', L', s', hh⟩ := q2; have := hh _ _ s'; have e1 := s'.ds; simp only [bodyPostD, e1]; exact this
        | panic c => obtain ⟨S, h', L', s', hh⟩ := q2; have := hh _ _ s'; have e1 := s'.ds; simp only [bodyPostD, e1]; exact this
        | exit i => obtain ⟨_, _, _, _, hh⟩ := q2; exact hh.1.elim
        | goto l => obtain ⟨_, _, _, _, hh⟩ := q2; exact hh.elim
        | outgrown => exact False.elim q2
  | ret => obtain ⟨_, _, _, _, hh⟩ := q; exact hh.elim
  | panic c => obtain ⟨_, _, _, _, hh⟩ := q; exact hh.elim
  | exit i => obtain ⟨_, _, _, _, hh⟩ := q; exact hh.1.elim
  | goto l => obtain ⟨_, _, _, _, hh⟩ := q; exact hh.elim
  | outgrown => exact False.elim q
theorem J.pfalse {P : Program} {e : Env} {m : Nat} {r : Post} {p : List PanicEntry → Post} {c : Code} {n : Post} {x : Nat → Post} {S : Sig} {h : Part} {L : List Ent} (k : J ⟨P, e, m, r, fun _ _ _ _ => False⟩ c n x S h L) : J ⟨P, e, m, r, p⟩ c n x S h L := fun a w s =>
  wpm (k a w s) (fun ex a' w' q => by
    cases ex with
    | panic c => obtain ⟨_, _, _, _, hh⟩ := q; exact hh.elim
    | _ => exact q)
inductive Asks : FrameMode → Value → FrameMode → Prop where
  | none : Asks .returning .nilIface .returning
  | some {v : Value} : Asks (.panicking [{ v := v, recovered := false }]) v (.panicking [{ v := v, recovered := true }])
theorem callsD_rec {P : Program} {D id t3 t2 m : Nat} {fn : Func} {rest : Code} {ty ty' : TypeId} {pos pos' : String} {af af' : Array Edge} {e : Env} {h : Part} {L : List Ent} {w : World} {vs : List Value} {x : Value} {u u' : FrameMode} {post : Post}
    (hf : P.funcs[D]? = some fn) (hb : fn.body = some (.seq (.region id #[⟨some t3, .call { callee := .builtin .recover, args := #[], argTypes := #[] }, ty, pos, af, none⟩, ⟨some t2, .assign (.tmp t3), ty', pos', af', none⟩] false) rest))
    (hm : fn.ntmps = m) (hr : fn.results = #[]) (hl : Nat.ble vs.length m = true) (ht3 : Nat.blt t3 m = true) (ht2 : Nat.blt t2 m = true) (hu : Asks u x u')
    (ok : Ok e h L w) (he : e.ds = [])
    (k : J ⟨P, e, m, fun _ _ _ => False, fun _ _ _ _ => False⟩ rest post NoExit ((t2, x) :: (t3, x) :: argSig 0 vs) h L) :
    CallsD P D vs.toArray u w (fun e1 u1 w1 => (∃ v, e1 = .returned v) ∧ u1 = u' ∧ ∃ S h1 L1, post S h1 L1 ∧ Ok e h1 L1 w1) := by
  have hl' : vs.length ≤ m := by simpa using hl
  refine callsD_of_wpS hf hb (fun c₀ cs hc => wpS_seq (wpS_region ?_))
  have s0 : Sat e m (argSig 0 vs) h L ⟨vs.toArray ++ Array.replicate (fn.ntmps - vs.toArray.size) undef, []⟩ w := by
    refine ⟨by simp [hm]; omega, fun s v hv => ?_, by simp [he], ok⟩
    obtain ⟨_, h2⟩ := argSig_look _ _ _ _ hv
    have hlt := (List.getElem?_eq_some_iff.1 h2).1
    simp only [Nat.sub_zero] at h2 hlt
    rw [Array.getElem?_append_left (by simpa using hlt)]
    simpa using h2
  generalize (⟨vs.toArray ++ Array.replicate (fn.ntmps - vs.toArray.size) undef, []⟩ : Act) = a0 at s0 ⊢
  have s1 := s0.put ht3 x s0.ok
  have s2 := s1.put ht2 x s1.ok
  have hx : (a0.put (some t3) x).eval (.tmp t3) = x := s1.eval (x := .tmp t3) (by simp [ev, look])
  have fin : ∀ cs', cs' = { c₀ with mode := u' } :: cs → rest.wpS P (bodyPostS P fn c₀ cs (fun e1 u1 w1 => (∃ v, e1 = .returned v) ∧ u1 = u' ∧ ∃ S h1 L1, post S h1 L1 ∧ Ok e h1 L1 w1)) ((a0.put (some t3) x).put (some t2) x) cs' w := fun cs' hcs => by
    refine wpS_of_wp (wpm (k _ _ s2) (fun ex a' w' q => ?_))
    cases ex with
    | normal =>
      obtain ⟨S, h1, L1, s', hh⟩ := q
      have hd := s'.ds
      simp only at hd
      exact ⟨by rw [hd, he], u', hcs, .tuple #[], results_none hr _ _ _, ⟨_, rfl⟩, rfl, S, h1, L1, hh, s'.ok⟩
    | ret => obtain ⟨_, _, _, _, hh⟩ := q; exact hh.elim
    | panic c => obtain ⟨_, _, _, _, hh⟩ := q; exact hh.elim
    | exit i => obtain ⟨_, _, _, _, hh⟩ := q; exact hh.1.elim
    | goto l => obtain ⟨_, _, _, _, hh⟩ := q; exact hh.elim
    | outgrown => exact False.elim q
  have hex : ∀ a : Act, (execOp a.eval ⟨some t3, .call { callee := .builtin .recover, args := #[], argTypes := #[] }, ty, pos, af, none⟩).run P w = .ok .recover w := fun a => by
    simp [execOp, resolve, invoke, builtin]
  have hex2 : (execOp (a0.put (some t3) x).eval ⟨some t2, .assign (.tmp t3), ty', pos', af', none⟩).run P w = .ok (.value x) w := by simp [execOp, hx]
  show wpOpsS P _ _ [0, 1] a0 (c₀ :: cs) w
  cases hu with
  | none =>
    have hrec : recoverD (c₀ :: cs) = none := by simp [recoverD, hc]
    simp only [wpOpsS, List.getElem?_toArray, List.getElem?_cons_zero, List.getElem?_cons_succ, Region.wanted, hex, hrec, hex2, Oper.upon, if_true]
    exact fin _ (by rw [← hc])
  | some =>
    have hrec : recoverD (c₀ :: cs) = some (x, { c₀ with mode := .panicking [{ v := x, recovered := true }] } :: cs) := by simp [recoverD, hc]
    simp only [wpOpsS, List.getElem?_toArray, List.getElem?_cons_zero, List.getElem?_cons_succ, Region.wanted, hex, hrec, hex2, Oper.upon, if_true]
    exact fin _ rfl
end Go.Proofs.YtldbjnhfkjicjaaDoor
namespace Go.Proofs.YtldbjnhfkjicjaaDoor
open Go Go.RowKit
theorem ag_40 : aggT Tryd.prog 40 = some (some 2) := by kernel_rfl
theorem ag_71 : aggT Tryd.prog 71 = some (some 2) := by kernel_rfl
theorem ca_23 : callT Tryd.prog 23 = true := by kernel_rfl
theorem pl_61 : plT Tryd.prog 61 = some ([.slice none 0 0, .int .i64 0], [(0, 1), (1, 1)]) := by kernel_rfl
theorem zr_40 : zeroT Tryd.prog 40 = some [.int .i64 0, .int .i64 0] := by kernel_rfl
theorem zr_71 : zeroT Tryd.prog 71 = some [.int .i64 0, .int .i64 0] := by kernel_rfl
theorem RunV.typeAssert {f : Fr} {S : Sig} {h : Part} {L : List Ent} {ty X T : TypeId} {xo : Operand} {v : Value} (hT : niT f.P T = true) (hx : ev S xo = some (.iface T v)) : RunV f S h L (.typeAssert xo X T true) ty (.tuple #[v, .bool true]) := fun a w s _ _ _ _ => by
  unfold niT at hT
  split at hT <;> try cases hT
  rename_i d hd hu
  cases d <;> first | (exact (hd _ rfl).elim) | simp [execOp, s.eval hx, Instr.typeAssert, run_underlying hu]
theorem caught_fn {a c : Int} {h : Part} : Pure Tryd.prog 23 [gvn a c] h (.agg #[.int .i64 a, .int .i64 c]) := by
  unfold gvn
  refine Pure.ofV ?_
  refine Fn.intro Tryd.func23 rfl Tryd.ntmps23 rfl (fun e he => ?_)
  refine J.weak [(0, _)] ⟨rfl, trivial⟩ ?_
  refine Sr ?_
  refine JL.alloc zr_40 rfl (fun b1 => ?_)
  refine JL.nil ?_
  refine Sr ?_
  refine Ru 1 rfl ?_
  refine JL.op (RunV.typeAssert ni_71 rfl) rfl ?_
  refine Ru 3 rfl ?_
  refine JL.alloc zr_71 rfl (fun b2 => ?_)
  refine JL.storeA ag_71 rfl rfl dl_ (by first | rfl) (by first | rfl | assumption) (by first | rfl) ?_
  refine Ru 1 rfl ?_
  refine Nk [4, 3, 2, 0] rfl ?_
  refine J.seq ?_
  refine Sr ?_
  refine Ru 2 rfl ?_
  refine JL.nil ?_
  refine Cs rfl (fun hc3 => ?_) fun hc3 => ?_
  ·
   refine Rg ?_
   refine Ru 1 rfl ?_
   refine JL.panic rfl ?_
   exact absurd hc3 (by decide)
  refine J.skip ?_
  refine Kp [3, 2] rfl ?_
  refine Sr ?_
  refine Ru 1 rfl ?_
  refine JL.op (RunV.ownA ag_40 rfl mm_ (by first | rfl)) rfl ?_
  refine JL.storeA ag_40 rfl rfl dl_ (by first | rfl) (by first | rfl | assumption) (by first | rfl) ?_
  refine JL.nil ?_
  exact J.retV (RetV.cell rfl rfl ag_40 mm_ (by first | rfl)) rfl
theorem ifE_ : ifT Tryd.prog 20 = true := by kernel_rfl
def tailC : Code → Code
  | .seq _ c => c
  | c => c
theorem read1_none {e : Env} {h : Part} {L : List Ent} {bN bF : Nat} : J ⟨Tryd.prog, e, 9, fun _ _ _ => False, fun _ _ _ _ => False⟩ (tailC (Tryd.f22.body.getD .skip)) (fun _ h1 L1 => h1 = h ∧ L1 = L) NoExit [(2, .nilIface), (0, .pointer (some ⟨bN, 0, none⟩)), (1, .pointer (some ⟨bF, 0, none⟩))] h L := by
  skip
  refine Sr ?_
  refine Ru 1 rfl ?_
  refine JL.op (RunV.neq_nil_nil ifE_ rfl) rfl ?_
  refine JL.nil ?_
  refine J.cond_f rfl ?_
  refine J.skip ?_
  exact ⟨rfl, rfl⟩
theorem read1_some {e : Env} {h : Part} {L : List Ent} {bN bF : Nat} {a c : Int} {csN csF : List Value} (hN : csN.length = 5) (hF : csF.length = 2) : J ⟨Tryd.prog, e, 9, fun _ _ _ => False, fun _ _ _ _ => False⟩ (tailC (Tryd.f22.body.getD .skip))
    (fun _ h1 L1 => h1 = h ∧ L1 = .blk bF 40 [.int .i64 a, .int .i64 c] :: .blk bN 26 [.int .i64 0, .int .i64 0, .bool false, .slice none 0 0, .slice none 0 0] :: L) NoExit [(2, gvn a c), (0, .pointer (some ⟨bN, 0, none⟩)), (1, .pointer (some ⟨bF, 0, none⟩))] h (.blk bF 40 csF :: .blk bN 26 csN :: L) := by
  skip
  refine Sr ?_
  refine Ru 1 rfl ?_
  refine JL.op (RunV.neq_iface_nil ifE_ rfl) rfl ?_
  refine JL.nil ?_
  refine J.cond_t rfl ?_
  refine Rg ?_
  refine JL.op (RunV.build (cs := [.int .i64 0, .int .i64 0, .bool false, .slice none 0 0, .slice none 0 0]) pl_26 rfl rfl) rfl ?_
  refine Ru 1 rfl ?_
  refine JL.callP ca_23 rfl (caught_fn) rfl ?_
  refine JL.storeA ag_26 rfl rfl dl_ z20_ z17_ z8_ ?_
  refine JL.storeA ag_40 rfl rfl dl_ (by first | rfl) (by first | rfl | assumption) (by first | rfl) ?_
  refine JL.nil ?_
  exact ⟨rfl, rfl⟩
abbrev rdD (bN bF : Nat) : Deferred := ⟨.fn (.func 22) #[.pointer (some ⟨bN, 0, none⟩), .pointer (some ⟨bF, 0, none⟩)], #[]⟩
section
variable {w0 : World} {h0 h : Part} {S : Sig} {L L1 L2 : List Ent} {bN bF : Nat} {csN csF : List Value} {R : Ending → Part → List Ent → Prop}
theorem rd_invoke (w : World) : (invoke (rdD bN bF).target (rdD bN bF).args).run Tryd.prog w = .ok (.enter 22 #[.pointer (some ⟨bN, 0, none⟩), .pointer (some ⟨bF, 0, none⟩)]) w := by
  have := run_call (P := Tryd.prog) (F := 22) (by kernel_rfl) #[.pointer (some ⟨bN, 0, none⟩), .pointer (some ⟨bF, 0, none⟩)] w
  simp [invoke, rdD, this]
theorem rd_leave (h2 : look S 2 = some (.pointer (some ⟨bN, 0, none⟩))) (h3 : look S 3 = some (.pointer (some ⟨bF, 0, none⟩))) (uN : Del (.blk bN 26 csN) L L1) (uF : Del (.blk bF 40 csF) L1 L2) (hN : csN.length = 5) (hF : csF.length = 2)
    (hR : R (.returned (.tuple #[.agg csN.toArray, .agg csF.toArray])) h []) :
    LeaveP Tryd.prog ⟨w0, (· ∈ keys []), h0, [rdD bN bF]⟩ 33 Tryd.f13 (FnEnd w0 h0 [] R) (rdD bN bF) .returning S h L := fun a w s => by
  have okp := s.ok.perm (uN.perm.trans (uF.perm.cons _))
  refine leaves_cons (by simp) (rd_invoke w) ((callsD_rec (e := ⟨w0, (· ∈ keys []), h0, []⟩) (vs := [.pointer (some ⟨bN, 0, none⟩), .pointer (some ⟨bF, 0, none⟩)]) Tryd.func22 rfl Tryd.ntmps22 rfl rfl rfl rfl .none (okp.ds []) rfl (J.weak [(2, _), (0, _), (1, _)] ⟨rfl, rfl, rfl, trivial⟩ read1_none)).mono ?_)
  rintro e u w' ⟨⟨v, rfl⟩, rfl, S', h1, L1, ⟨rfl, rfl⟩, ok⟩
  have s' : Sat ⟨w0, (· ∈ keys []), h0, [rdD bN bF]⟩ 33 S h1 _ a w' := s.with (ok.ds _)
  exact ⟨_, RetV.cell2 rfl h2 ag_26 (List.mem_cons_self ..) hN h3 ag_40 (List.mem_cons_of_mem _ (List.mem_cons_self ..)) hF a w' s', h1, [], hR, ok.drop (List.nil_sublist _)⟩
theorem rd_pan {a c : Int} (h2 : look S 2 = some (.pointer (some ⟨bN, 0, none⟩))) (h3 : look S 3 = some (.pointer (some ⟨bF, 0, none⟩))) (uF : Del (.blk bF 40 csF) L L1) (uN : Del (.blk bN 26 csN) L1 L2) (hN : csN.length = 5) (hF : csF.length = 2)
    (hR : R (.returned (.tuple #[.agg #[.int .i64 0, .int .i64 0, .bool false, .slice none 0 0, .slice none 0 0], .agg #[.int .i64 a, .int .i64 c]])) h []) :
    LeaveP Tryd.prog ⟨w0, (· ∈ keys []), h0, [rdD bN bF]⟩ 33 Tryd.f13 (FnEnd w0 h0 [] R) (rdD bN bF) (.panicking [{ v := gvn a c, recovered := false }]) S h L := fun ac w s => by
  have okp := s.ok.perm (uF.perm.trans (uN.perm.cons _))
  refine leaves_cons (by simp) (rd_invoke w) ((callsD_rec (e := ⟨w0, (· ∈ keys []), h0, []⟩) (vs := [.pointer (some ⟨bN, 0, none⟩), .pointer (some ⟨bF, 0, none⟩)]) Tryd.func22 rfl Tryd.ntmps22 rfl rfl rfl rfl .some (okp.ds []) rfl (J.weak [(2, _), (0, _), (1, _)] ⟨rfl, rfl, rfl, trivial⟩ (read1_some hN hF))).mono ?_)
  rintro e u w' ⟨⟨v, rfl⟩, rfl, S', h1, L1, ⟨rfl, rfl⟩, ok⟩
  have s' : Sat ⟨w0, (· ∈ keys []), h0, [rdD bN bF]⟩ 33 S h1 _ ac w' := s.with (ok.ds _)
  exact ⟨_, RetV.cell2 rfl h2 ag_26 (List.mem_cons_of_mem _ (List.mem_cons_self ..)) rfl h3 ag_40 (List.mem_cons_self ..) rfl ac w' s', h1, [], hR, ok.drop (List.nil_sublist _)⟩
end
theorem read_fn {a : Option Addr} {c : Nat} {l : List UInt8} {h : Part} (hl : SlR u8R 1 h a c l) (hT : Tabs h) :
    FnR Tryd.prog 13 [.slice a l.length c] h (fun v h' => ∃ cs, v = .tuple #[.agg (List.toArray cs), .agg #[.int .i64 (rdTop l).2.1, .int .i64 (rdTop l).2.2]] ∧ NdR h' cs (rdTop l).1) := by
  have hb := hl.big
  refine Fn.introD Tryd.func13 rfl Tryd.ntmps13 rfl rfl (fun w0 => ?_)
  refine J.region ?_
  refine JL.alloc zr_26 rfl (fun bN => ?_)
  refine JL.alloc zr_40 rfl (fun bF => ?_)
  refine JL.nil ⟨_, rfl, ?_⟩
  skip
  refine J.seq ?_
  refine Sr ?_
  refine Ru 3 rfl ?_
  refine JL.nil ?_
  refine Cs rfl (fun hc1 => ?_) fun hc1 => ?_
  ·
   refine Sr ?_
   refine JL.op (RunV.build (cs := [.int .i64 0, .int .i64 0, .bool false, .slice none 0 0, .slice none 0 0]) pl_26 rfl rfl) rfl ?_
   refine JL.op (RunV.build (cs := [.int .i64 0, _]) pl_40 rfl rfl) rfl ?_
   refine JL.storeA ag_26 rfl rfl dl_ z20_ z17_ z8_ ?_
   refine JL.storeA ag_40 rfl rfl dl_ (by first | rfl) (by first | rfl | assumption) (by first | rfl) ?_
   refine Nk [3, 2, 0] rfl ?_
   exact J.ret (rd_leave rfl rfl (by repeat first | exact Del.here | apply Del.there) (by repeat first | exact Del.here | apply Del.there) rfl rfl ⟨_, rfl, rfl, _, by unfold rdTop; rw [if_pos (by omega)], by unfold rdTop; rw [if_pos (by omega)]; exact NdR.of SlR.nil_ SlR.nil_⟩)
  refine J.skip ?_
  refine Kp [3, 2, 0] rfl ?_
  refine Sr ?_
  refine Ru 1 rfl ?_
  refine JL.op (RunV.build (cs := [_, .int .i64 0]) pl_61 rfl rfl) rfl ?_
  refine JL.box rfl rfl rfl (fun b2 => ?_)
  refine Ru 1 rfl ?_
  refine JL.nil ?_
  refine Sr ?_
  refine Ru 3 rfl ?_
  refine JL.call_ ca_24 rfl (node_rd 32 l 0 l.length _ a c _ hl hT (by omega) (by omega) (by omega)) pt_ rfl (fun _ _ hh => (NodeR.out hh).elim) (fun ch3 h3 Lo3 hle3 hR3 => ?_) (fun v3 h3 Lo3 hle3 hR3 => ?_)
  ·
   have hR3 := NodeR.pan hR3
   obtain ⟨xa, xc, hxe, rfl⟩ := hR3; have hLo : Lo3 = [] := (by unfold NodeR at hR3; rw [hxe] at hR3; exact hR3.2); subst hLo; exact rd_pan rfl rfl (by repeat first | exact Del.here | apply Del.there) (by repeat first | exact Del.here | apply Del.there) rfl rfl ⟨_, rfl, rfl, _, by unfold rdTop; rw [if_neg (by omega), hxe], by unfold rdTop; rw [if_neg (by omega), hxe]; exact NdR.of SlR.nil_ SlR.nil_⟩
  obtain ⟨x, q, xcs, hxs, rfl, hNdx, rfl⟩ := NodeR.ret hR3
  replace hl := hl.mono hle3
  replace hT := hT.mono hle3
  refine JL.storeA ag_26 rfl rfl dl_ z20_ z17_ z8_ ?_
  refine Nk [4, 3, 2, 0] rfl ?_
  refine J.seq ?_
  refine Sr ?_
  refine Ru 3 rfl ?_
  refine JL.op (RunV.own1 ag_3 rfl mm_ rfl) rfl ?_
  refine Ru 3 rfl ?_
  refine Nk [24, 4, 3, 2] rfl ?_
  refine Cs rfl (fun hc4 => ?_) fun hc4 => ?_
  ·
   refine J.pfalse ?_
   refine J.seq ?_
   refine J.held ([.blk b2 61 [.slice a l.length c, .int .i64 q]]) 8 mixed_ rfl (fun h00 => ?_)
   refine Tk 0 rfl (RunV.build (cs := [.int .i64 0, .int .i64 0, .bool false, .slice none 0 0, .slice none 0 0]) pl_26 rfl rfl) ?_
   refine Tk 1 rfl (RunV.move rfl) ?_
   refine Tk 2 rfl (RunV.nilCheck rfl) ?_
   refine Tk 3 rfl (by first | exact RunV.fieldAt0 fo_61_1 rfl | exact RunV.fieldAt fo_61_1 rfl) ?_
   refine Tk 4 rfl (RunV.own1 ag_3 rfl mm_ rfl) ?_
   refine Tk 5 rfl (RunV.build (cs := [_, _]) pl_40 rfl rfl) ?_
   refine Ta 6 rfl ?_
   unfold One
   refine JL.storeA ag_26 rfl rfl dl_ z20_ z17_ z8_ ?_
   refine JL.nil ⟨(br_ h00), ?_⟩
   refine Ta 7 rfl ?_
   unfold One
   refine JL.storeA ag_40 rfl rfl dl_ (by first | rfl) (by first | rfl | assumption) (by first | rfl) ?_
   refine JL.nil ⟨(br_ h00), ?_⟩
   refine JH.done (by kernel_rfl) ?_
   refine Kp [3, 2] rfl ?_
   exact J.ret (rd_leave rfl rfl (by repeat first | exact Del.here | apply Del.there) (by repeat first | exact Del.here | apply Del.there) rfl rfl ⟨_, rfl, rfl, _, by unfold rdTop; rw [if_neg (by omega), hxs]; simp only; rw [if_pos (by omega)], by unfold rdTop; rw [if_neg (by omega), hxs]; simp only; rw [if_pos (by omega)]; exact NdR.of SlR.nil_ SlR.nil_⟩)
  refine J.skip ?_
  refine Sr ?_
  refine JL.op (RunV.ownA ag_26 rfl mm_ z8_) rfl ?_
  refine JL.op (RunV.build (cs := [.int .i64 0, .int .i64 0]) pl_40 rfl rfl) rfl ?_
  refine JL.storeA ag_26 rfl rfl dl_ z20_ z17_ z8_ ?_
  refine JL.storeA ag_40 rfl rfl dl_ (by first | rfl) (by first | rfl | assumption) (by first | rfl) ?_
  refine Nk [3, 2] rfl ?_
  exact J.ret (rd_leave rfl rfl (by repeat first | exact Del.here | apply Del.there) (by repeat first | exact Del.here | apply Del.there) hNdx.len5 rfl ⟨_, rfl, rfl, _, by unfold rdTop; rw [if_neg (by omega), hxs]; simp only; rw [if_neg (by omega)], by unfold rdTop; rw [if_neg (by omega), hxs]; simp only; rw [if_neg (by omega)]; exact hNdx⟩)
end Go.Proofs.YtldbjnhfkjicjaaDoor
namespace Go.Proofs.YtldbjnhfkjicjaaDoor
open Go Go.RowKit
set_option maxRecDepth 100000
theorem ca_11 : callT Tryd.prog 11 = true := by kernel_rfl
theorem ca_13 : callT Tryd.prog 13 = true := by kernel_rfl
theorem ca_14 : callT Tryd.prog 14 = true := by kernel_rfl
theorem e2_40 : eq2T Tryd.prog 40 = true := by kernel_rfl
theorem samebytes_fn {a b : Option Addr} {ca cb : Nat} {l r : List UInt8} {h : Part} (hl : SlR u8R 1 h a ca l) (hr : SlR u8R 1 h b cb r) : Pure Tryd.prog 12 [.slice a l.length ca, .slice b r.length cb] h (.bool (decide (l = r))) := by
  refine Fn.intro Tryd.func12 rfl Tryd.ntmps12 rfl (fun e he => ?_)
  refine J.weak [(0, _), (1, _)] ⟨rfl, rfl, trivial⟩ ?_
  refine Sr ?_
  refine Ru 1 rfl ?_
  refine JL.nil ?_
  refine Sr ?_
  refine Ru 1 rfl ?_
  refine JL.op (RunV.strB (l := l) sb_24_9 rfl hl rfl) rfl ?_
  refine Ru 1 rfl ?_
  refine JL.op (RunV.strB (l := r) sb_24_9 rfl hr rfl) rfl ?_
  refine JL.op (RunV.eqlS rfl rfl) rfl ?_
  refine Ru 1 rfl ?_
  refine Nk [4] rfl ?_
  exact J.retP (RetV.one rfl rfl) rfl rfl
def amongI (k n : Int) : Int := if n < 1 then 0 else k % n
theorem amongI_bd (k n : Int) (h : 1 ≤ n) : 0 ≤ amongI k n ∧ amongI k n < n := by
  unfold amongI; rw [if_neg (by omega)]
  exact ⟨Int.emod_nonneg _ (by omega), Int.emod_lt_of_pos _ (by omega)⟩
theorem among_fn (k n : Int) (h : Part) (h0 : -9223372036854775808 ≤ k) (h1 : k ≤ 9223372036854775807) (h2 : n ≤ 9223372036854775807) : Pure Tryd.prog 10 [.int .i64 k, .int .i64 n] h (.int .i64 (amongI k n)) := by
  have key : 1 ≤ n → (Int.tmod k n < 0 → Int.tmod k n + n = k % n) ∧ (¬ Int.tmod k n < 0 → Int.tmod k n = k % n) ∧ -n < Int.tmod k n ∧ Int.tmod k n < n := fun hn => by
    have e1 : Int.tmod k n = k % n ∨ Int.tmod k n + n = k % n ∧ Int.tmod k n < 0 ∧ k % n ≠ 0 := by
      have hp := Int.emod_nonneg k (show n ≠ 0 by omega)
      have hlt := Int.emod_lt_of_pos k (show 0 < n by omega)
      by_cases hk : 0 ≤ k
      · left; exact Int.tmod_eq_emod_of_nonneg hk
      · rw [Int.tmod_eq_emod]
        split
        · left; omega
        · rename_i hnd
          right
          have hne : k % n ≠ 0 := fun hh => hnd (.inr (Int.dvd_of_emod_eq_zero hh))
          have hnn : (n.natAbs : Int) = n := by omega
          omega
    have hp := Int.emod_nonneg k (show n ≠ 0 by omega)
    have hlt := Int.emod_lt_of_pos k (show 0 < n by omega)
    omega
  refine Fn.intro Tryd.func10 rfl Tryd.ntmps10 rfl (fun e he => ?_)
  refine J.weak [(0, _), (1, _)] ⟨rfl, rfl, trivial⟩ ?_
  refine Sr ?_
  refine Ru 1 rfl ?_
  refine JL.nil ?_
  refine J.seq ?_
  refine Sr ?_
  refine Ru 2 rfl ?_
  refine JL.nil ?_
  refine Cs rfl (fun hc1 => ?_) fun hc1 => ?_
  ·
   refine Sr ?_
   refine Ru 1 rfl ?_
   refine JL.nil ?_
   exact J.retP (RetV.one rfl rfl) (by unfold amongI; rw [if_pos (by omega)]) rfl
  refine J.skip ?_
  refine Sr ?_
  obtain ⟨k1, k2, k3, k4⟩ := key (by omega)
  refine Ru 2 rfl ?_
  refine JL.op (RunV.rem rfl rfl (by omega)) rfl ?_
  refine Ru 1 rfl ?_
  refine Nk [0, 4, 1] rfl ?_
  refine J.seq ?_
  refine Sr ?_
  refine Ru 2 rfl ?_
  refine JL.nil ?_
  refine Cs rfl (fun hc2 => ?_) fun hc2 => ?_
  ·
   refine Rg ?_
   refine Ru 2 rfl ?_
   refine JL.op ai_ rfl ?_
   refine Ru 1 rfl ?_
   refine Nk [0, 4] rfl ?_
   refine Sr ?_
   refine Ru 2 rfl ?_
   refine JL.nil ?_
   exact J.retP (RetV.one rfl rfl) (by unfold amongI; rw [if_neg (by omega), k1 (by omega)]) rfl
  refine J.skip ?_
  refine Sr ?_
  refine Ru 2 rfl ?_
  refine Nk [4] rfl ?_
  exact J.retP (RetV.one rfl rfl) (by unfold amongI; rw [if_neg (by omega), k2 (by omega)]) rfl
theorem cells_lit {h : Part} {cs : List Value} {l : List UInt8} (hc : cs = u8s l) : CellsR u8R 1 h cs l := hc ▸ CellsR.of_u8
theorem read_at {a : Option Addr} {c : Nat} {l : List UInt8} {h : Part} {x : Nd} {at_ code : Int} (hr : rdTop l = (x, at_, code)) (hl : SlR u8R 1 h a c l) (hT : Tabs h) :
    FnR Tryd.prog 13 [.slice a l.length c] h (fun v h' => ∃ cs, v = .tuple #[.agg (List.toArray cs), .agg #[.int .i64 at_, .int .i64 code]] ∧ NdR h' cs x) := by
  have := read_fn hl hT
  rw [hr] at this
  exact this
theorem write_at {x : Nd} {cs : List Value} {h : Part} {b : List UInt8} {e : Int} (hr : x.wr = (b, e)) (r : NdR h cs x) (hT : Tabs h) (hsz : x.sz ≤ 1073741824) :
    FnR Tryd.prog 11 [.agg cs.toArray] h (fun v h' => ∃ a c, v = .tuple #[.slice a b.length c, .int .i64 e] ∧ SlR u8R 1 h' a c b) := by
  have := write_fn r hT hsz
  rw [hr] at this
  exact this
theorem kn1 : rdTop [48, 3, 2, 1, 5] = (.mk 0 16 true [] [.mk 0 2 false [5] []], 0, 0) := by kernel_rfl
theorem kn2 : Nd.wr (.mk 0 2 false (intB 128) []) = ([2, 2, 0, 128], 0) := by kernel_rfl
theorem kn3 : rdTop [48, 2, 4, 1] = (ndZ, 2, 30) := by kernel_rfl
theorem kn4 : rdTop [5, 0, 0] = (ndZ, 2, 35) := by kernel_rfl
theorem read_lit {a : Option Addr} {c n m : Nat} {l : List UInt8} {h : Part} {x : Nd} {at_ code : Int} (hr : rdTop l = (x, at_, code)) (hl : SlR u8R 1 h a c l) (hT : Tabs h) (hn : l.length = n) (hm : c = m) :
    FnR Tryd.prog 13 [.slice a n m] h (fun v h' => ∃ cs, v = .tuple #[.agg (List.toArray cs), .agg #[.int .i64 at_, .int .i64 code]] ∧ NdR h' cs x) := by
  subst hn hm
  exact read_at hr hl hT
theorem kn_fn {h : Part} (hT : Tabs h) : Pure Tryd.prog 5 [] h (.bool true) := by
  refine Pure.ofV ?_
  refine Fn.intro Tryd.func5 rfl Tryd.ntmps5 rfl (fun e he => ?_)
  refine Sr ?_
  refine Ru 1 rfl ?_
  refine JL.nil ?_
  refine Sr ?_
  refine JL.lit1 ap_24 zr_5 rfl rfl rfl rfl rfl (fun b1 => ?_)
  refine JL.pubB (R := u8R) (sz := 1) (l := [48, 3, 2, 1, 5]) dl_ (cells_lit (by first | kernel_rfl | rfl)) (by first | decide | omega | (simp; done)) (fun h2 hle2 hQ1 => ?_)
  replace hT := hT.mono hle2
  refine JL.callR ca_13 rfl (read_lit kn1 hQ1 hT (by kernel_rfl) (by kernel_rfl)) rfl ?_
  rintro _ h3 hle3 ⟨w1, rfl, hNd1⟩
  replace hT := hT.mono hle3
  replace hQ1 := hQ1.mono hle3
  obtain ⟨ka, kca, kb, kcb, rfl, hka, hkb⟩ := hNd1.inv
  refine Ru 3 rfl ?_
  refine JL.alloc zr_26 rfl (fun b4 => ?_)
  refine JL.alloc zr_40 rfl (fun b5 => ?_)
  refine JL.storeA ag_26 rfl rfl dl_ z20_ z17_ z8_ ?_
  refine JL.storeA ag_40 rfl rfl dl_ (by first | rfl) (by first | rfl | assumption) (by first | rfl) ?_
  refine Nk [2, 1, 0] rfl ?_
  refine Sr ?_
  refine JL.callR ca_14 rfl (int_fn) rfl ?_
  rintro _ h6 hle6 ⟨w6, rfl, hNd6⟩
  replace hT := hT.mono hle6
  replace hQ1 := hQ1.mono hle6
  refine JL.callR ca_11 rfl (write_at kn2 (by assumption) (by assumption) (by decide)) rfl ?_
  rintro _ h7 hle7 ⟨wa, wc, rfl, hW1⟩
  replace hT := hT.mono hle7
  replace hQ1 := hQ1.mono hle7
  replace hNd6 := hNd6.mono hle7
  refine Ru 5 rfl ?_
  refine Nk [4, 3, 2, 1, 0] rfl ?_
  refine Sr ?_
  refine JL.lit1 ap_24 zr_5 rfl rfl rfl rfl rfl (fun b8 => ?_)
  refine JL.pubB (R := u8R) (sz := 1) (l := [48, 2, 4, 1]) dl_ (cells_lit (by first | kernel_rfl | rfl)) (by first | decide | omega | (simp; done)) (fun h9 hle9 hQ3 => ?_)
  replace hT := hT.mono hle9
  replace hQ1 := hQ1.mono hle9
  replace hNd6 := hNd6.mono hle9
  replace hW1 := hW1.mono hle9
  refine JL.callR ca_13 rfl (read_lit kn3 hQ3 hT (by kernel_rfl) (by kernel_rfl)) rfl ?_
  rintro _ h10 hle10 ⟨w3, rfl, hNd3⟩
  replace hT := hT.mono hle10
  replace hQ1 := hQ1.mono hle10
  replace hNd6 := hNd6.mono hle10
  replace hW1 := hW1.mono hle10
  replace hQ3 := hQ3.mono hle10
  refine Ru 3 rfl ?_
  refine JL.alloc zr_26 rfl (fun b11 => ?_)
  refine JL.alloc zr_40 rfl (fun b12 => ?_)
  refine JL.storeA ag_26 rfl rfl dl_ z20_ z17_ z8_ ?_
  refine JL.storeA ag_40 rfl rfl dl_ (by first | rfl) (by first | rfl | assumption) (by first | rfl) ?_
  refine Nk [6, 4, 3, 2, 1, 0] rfl ?_
  refine Sr ?_
  refine JL.lit1 ap_24 zr_5 rfl rfl rfl rfl rfl (fun b13 => ?_)
  refine JL.pubB (R := u8R) (sz := 1) (l := [5, 0, 0]) dl_ (cells_lit (by first | kernel_rfl | rfl)) (by first | decide | omega | (simp; done)) (fun h14 hle14 hQ4 => ?_)
  replace hT := hT.mono hle14
  replace hQ1 := hQ1.mono hle14
  replace hNd6 := hNd6.mono hle14
  replace hW1 := hW1.mono hle14
  replace hQ3 := hQ3.mono hle14
  replace hNd3 := hNd3.mono hle14
  refine JL.callR ca_13 rfl (read_lit kn4 hQ4 hT (by kernel_rfl) (by kernel_rfl)) rfl ?_
  rintro _ h15 hle15 ⟨w4, rfl, hNd4⟩
  replace hT := hT.mono hle15
  replace hQ1 := hQ1.mono hle15
  replace hNd6 := hNd6.mono hle15
  replace hW1 := hW1.mono hle15
  replace hQ3 := hQ3.mono hle15
  replace hNd3 := hNd3.mono hle15
  replace hQ4 := hQ4.mono hle15
  refine Ru 3 rfl ?_
  refine JL.alloc zr_26 rfl (fun b16 => ?_)
  refine JL.alloc zr_40 rfl (fun b17 => ?_)
  refine JL.storeA ag_26 rfl rfl dl_ z20_ z17_ z8_ ?_
  refine JL.storeA ag_40 rfl rfl dl_ (by first | rfl) (by first | rfl | assumption) (by first | rfl) ?_
  refine Nk [8, 6, 4, 3, 2, 1, 0] rfl ?_
  refine Sr ?_
  refine JL.op (RunV.ownA ag_40 rfl mm_ (by first | rfl)) rfl ?_
  refine JL.op (RunV.build (cs := [.int .i64 0, .int .i64 0]) pl_40 rfl rfl) rfl ?_
  refine JL.op (RunV.eql2 e2_40 rfl rfl) rfl ?_
  refine Ru 1 rfl ?_
  refine Bs 32 rfl (fun hc18 => ?_) fun hc18 => ?_
  ·
   refine Ru 1 rfl ?_
   refine JL.opg rfl rfl  (RunV.own1 ag_22 rfl mm_ rfl) rfl ?_
   refine Ru 4 rfl ?_
   refine Bs 38 rfl (fun hc19 => ?_) fun hc19 => ?_
   ·
    refine Ru 4 rfl ?_
    refine Bs 42 rfl (fun hc20 => ?_) fun hc20 => ?_
    ·
     refine Ru 1 rfl ?_
     refine JL.opg rfl rfl  (RunV.strB sb_24_9 rfl (by assumption) rfl) rfl ?_
     refine JL.opg rfl rfl  (RunV.eqlS rfl rfl) rfl ?_
     refine Ru 2 rfl ?_
     refine Bs 47 rfl (fun hc21 => ?_) fun hc21 => ?_
     ·
      refine JL.opg rfl rfl  (RunV.ownA ag_40 rfl mm_ (by first | rfl)) rfl ?_
      refine JL.opg rfl rfl  (RunV.build (cs := [_, _]) pl_40 rfl rfl) rfl ?_
      refine JL.opg rfl rfl  (RunV.eql2 e2_40 rfl rfl) rfl ?_
      refine Ru 2 rfl ?_
      refine Bs 52 rfl (fun hc22 => ?_) fun hc22 => ?_
      ·
       refine JL.opg rfl rfl  (RunV.ownA ag_40 rfl mm_ (by first | rfl)) rfl ?_
       refine JL.opg rfl rfl  (RunV.build (cs := [_, _]) pl_40 rfl rfl) rfl ?_
       refine JL.opg rfl rfl  (RunV.eql2 e2_40 rfl rfl) rfl ?_
       refine Ru 2 rfl ?_
       refine Nk [0] rfl ?_
       first | exact J.retV (RetV.one rfl rfl) rfl | (exfalso; simp_all; done) | (exfalso; omega)
      refine Ru 5 rfl ?_
      refine Nk [0] rfl ?_
      first | exact J.retV (RetV.one rfl rfl) rfl | (exfalso; simp_all; done) | (exfalso; omega)
     refine Ru 10 rfl ?_
     refine Nk [0] rfl ?_
     first | exact J.retV (RetV.one rfl rfl) rfl | (exfalso; simp_all; done) | (exfalso; omega)
    refine Ru 15 rfl ?_
    refine Nk [0] rfl ?_
    first | exact J.retV (RetV.one rfl rfl) rfl | (exfalso; simp_all; done) | (exfalso; omega)
   refine Ru 19 rfl ?_
   refine Nk [0] rfl ?_
   first | exact J.retV (RetV.one rfl rfl) rfl | (exfalso; simp_all; done) | (exfalso; omega)
  refine Ru 25 rfl ?_
  refine Nk [0] rfl ?_
  first | exact J.retV (RetV.one rfl rfl) rfl | (exfalso; simp_all; done) | (exfalso; omega)
end Go.Proofs.YtldbjnhfkjicjaaDoor
namespace Go.Proofs.YtldbjnhfkjicjaaDoor
open Go Go.RowKit
end Go.Proofs.YtldbjnhfkjicjaaDoor
namespace Go.Proofs.YtldbjnhfkjicjaaDoor
open Go Go.RowKit
theorem am_t {b y : Bool} {u : Option Value} (hb : b = true) (h : u = some (.bool y)) : u = some (.bool (b && y)) := by subst hb; rw [Bool.true_and]; exact h
theorem am_f {b y : Bool} {u : Option Value} (hb : b = false) (h : u = some (.bool false)) : u = some (.bool (b && y)) := by subst hb; exact h
theorem om_f {b y : Bool} {u : Option Value} (hb : b = false) (h : u = some (.bool y)) : u = some (.bool (b || y)) := by subst hb; rw [Bool.false_or]; exact h
theorem om_t {b y : Bool} {u : Option Value} (hb : b = true) (h : u = some (.bool true)) : u = some (.bool (b || y)) := by subst hb; exact h
instance (priority := high) Sp.and_ (a b : Bool) (p q p' q' : Prop) [s : Sp a p q] [s' : Sp b p' q'] : Sp (a && b) (p ∧ p') (q ∨ q') := ⟨fun h => by
  rw [Bool.and_eq_true] at h; exact ⟨s.t h.1, s'.t h.2⟩, fun h => by
  rw [Bool.and_eq_false_iff] at h; exact h.imp s.f s'.f⟩
instance (priority := high) Sp.or_ (a b : Bool) (p q p' q' : Prop) [s : Sp a p q] [s' : Sp b p' q'] : Sp (a || b) (p ∨ p') (q ∧ q') := ⟨fun h => by
  rw [Bool.or_eq_true] at h; exact h.imp s.t s'.t, fun h => by
  rw [Bool.or_eq_false_iff] at h; exact ⟨s.f h.1, s'.f h.2⟩⟩
section
variable {f : Fr} {n : Post} {x : Nat → Post} {S : Sig} {h : Part} {L : List Ent} {ops : Array Oper} {b : Bool} {p q : Prop} {c d : Code} {l : List Oper}
def Am (h : Part) (L : List Ent) (d : Nat) (v : Bool) (ks : List Nat) (K : Sig) : Post := fun S1 h1 L1 => h1 = h ∧ L1 = L ∧ look S1 d = some (.bool v) ∧ keepS ks S1 = some K
theorem JL.take_drop (j : Nat) (M : Post) (hM : ∀ S' h' L', M S' h' L' → JL f ops n x (l.drop j) S' h' L') (k : JL f ops M x (l.take j) S h L) : JL f ops n x l S h L := fun a w s => by
  have key : ∀ (l1 l2 : List Oper), (∀ S' h' L', M S' h' L' → JL f ops n x l2 S' h' L') → ∀ (a : Act) (w : World), wpList f.P ops (f.Q M x) l1 a w → wpList f.P ops (f.Q n x) (l1 ++ l2) a w := by
    intro l1 l2 hM
    induction l1 with
    | nil => intro a w hh; obtain ⟨S', h', L', s', k'⟩ := hh; exact hM _ _ _ k' a w s'
    | cons o r ih =>
      intro a w hh
      unfold wpList at hh
      rw [List.cons_append]
      unfold wpList
      split
      · rename_i hw
        rw [if_pos hw] at hh
        rcases hh with hh | ⟨h1, a', w', hh⟩
        · refine .inl ?_
          unfold Oper.wp at *
          generalize (execOp a.eval o).run f.P w = rr at *
          cases rr with
          | ok nx w' =>
            cases nx <;> simp only [Oper.upon] at hh ⊢ <;> first
              | exact ih _ _ hh
              | exact Calls.mono hh (fun e w'' he => by cases e <;> first | exact ih _ _ he | exact he)
              | exact Rows.mono hh (fun _ _ he => ih _ _ he)
              | exact hh
          | halt z w' => cases z <;> simp only [Oper.upon] at hh ⊢ <;> exact hh
        · exact hh.elim
      · rename_i hw
        rw [if_neg hw] at hh
        exact ih _ _ hh
  have := key (l.take j) (l.drop j) hM a w (k a w s)
  rwa [List.take_append_drop] at this
theorem An {y : Bool} (t d j : Nat) (ks : List Nat) {K : Sig} (ht : look S t = some (.bool b)) (hk : keepS ks S = some K) [s : Sp b p q]
    (kT : b = true → p → JL f ops (Am h L d (b && y) ks K) x (l.take j) ((t, .bool true) :: S) h L) (kF : b = false → q → JL f ops (Am h L d (b && y) ks K) x (l.take j) ((t, .bool false) :: S) h L)
    (k : JL f ops n x (l.drop j) ((d, .bool (b && y)) :: K) h L) : JL f ops n x l S h L := by
  have fin : ∀ S1 h1 L1, Am h L d (b && y) ks K S1 h1 L1 → JL f ops n x (l.drop j) S1 h1 L1 := fun S1 h1 L1 ⟨e1, e2, e3, e4⟩ => by
    subst e1 e2
    exact JL.weak ((d, .bool (b && y)) :: K) ⟨e3, keepS_ok e4⟩ k
  exact JL.take_drop j _ fin (JL.bsplit t ht (fun hb => kT hb (s.t hb)) (fun hb => kF hb (s.f hb)))
theorem On {y : Bool} (t d j : Nat) (ks : List Nat) {K : Sig} (ht : look S t = some (.bool b)) (hk : keepS ks S = some K) [s : Sp b p q]
    (kT : b = true → p → JL f ops (Am h L d (b || y) ks K) x (l.take j) ((t, .bool true) :: S) h L) (kF : b = false → q → JL f ops (Am h L d (b || y) ks K) x (l.take j) ((t, .bool false) :: S) h L)
    (k : JL f ops n x (l.drop j) ((d, .bool (b || y)) :: K) h L) : JL f ops n x l S h L := by
  have fin : ∀ S1 h1 L1, Am h L d (b || y) ks K S1 h1 L1 → JL f ops n x (l.drop j) S1 h1 L1 := fun S1 h1 L1 ⟨e1, e2, e3, e4⟩ => by
    subst e1 e2
    exact JL.weak ((d, .bool (b || y)) :: K) ⟨e3, keepS_ok e4⟩ k
  exact JL.take_drop j _ fin (JL.bsplit t ht (fun hb => kT hb (s.t hb)) (fun hb => kF hb (s.f hb)))
theorem Ae {v : Bool} {d : Nat} {ks : List Nat} {K S1 : Sig} (h1 : look S1 d = some (.bool v)) (h2 : keepS ks S1 = some K) : JL f ops (Am h L d v ks K) x [] S1 h L := JL.nil ⟨rfl, rfl, h1, h2⟩
end
end Go.Proofs.YtldbjnhfkjicjaaDoor
namespace Go.Proofs.YtldbjnhfkjicjaaDoor
open Go Go.RowKit
theorem z25_ {p : Prop} (u : p := by repeat (first | exact trivial | refine ⟨rfl, ?_⟩ | refine ⟨(by exact some_int (by first | omega | (unfold nC; (repeat' split) <;> omega) | (unfold vC; (repeat' split) <;> omega) | (unfold lC; (repeat' split) <;> omega))), ?_⟩)) : p := u
end Go.Proofs.YtldbjnhfkjicjaaDoor
namespace Go.Proofs.YtldbjnhfkjicjaaDoor
open Go Go.RowKit
theorem ca_61 : callT Tryd.prog 61 = true := by kernel_rfl
theorem ca_62 : callT Tryd.prog 62 = true := by kernel_rfl
theorem between_fn (n lo hi : Int) (h : Part) : Pure Tryd.prog 62 [.int .i64 n, .int .i64 lo, .int .i64 hi] h (.bool (decide (lo ≤ n ∧ n ≤ hi))) := by
  refine Fn.intro Tryd.func62 rfl Tryd.ntmps62 rfl (fun e he => ?_)
  refine J.weak [(0, _), (1, _), (2, _)] ⟨rfl, rfl, rfl, trivial⟩ ?_
  refine Sr ?_
  refine Ru 1 rfl ?_
  refine JL.nil ?_
  refine Sr ?_
  refine Ru 4 rfl ?_
  apply An 10 14 4 [6] rfl rfl
  ·
   intro hb1 hc1
   refine Ru 4 rfl ?_
   exact Ae (am_t hb1 rfl) rfl
  ·
   exact fun hb1 _ => Ru 4 rfl (Ae (am_f hb1 rfl) rfl)
  refine Ru 1 rfl ?_
  refine JL.nil ?_
  exact J.retP (RetV.one rfl rfl) (by rw [Bool.decide_and]) rfl
def nC (b : Nat) : Int := if 192 ≤ b ∧ b ≤ 223 then 2 else if 224 ≤ b ∧ b ≤ 239 then 3 else if 240 ≤ b ∧ b ≤ 247 then 4 else 0
def lC (b : Nat) : Int := if 192 ≤ b ∧ b ≤ 223 then 128 else if 224 ≤ b ∧ b ≤ 239 then 2048 else if 240 ≤ b ∧ b ≤ 247 then 65536 else 0
def vC (b : Nat) : Int := if 192 ≤ b ∧ b ≤ 223 then b - 192 else if 224 ≤ b ∧ b ≤ 239 then b - 224 else if 240 ≤ b ∧ b ≤ 247 then b - 240 else b
def cont (s : List UInt8) (v : Int) : Nat → Int
  | 0 => v
  | j + 1 => cont s v j * 64 + byteAt s (j + 1) - 128
def contOk (s : List UInt8) : Nat → Bool
  | 0 => true
  | j + 1 => contOk s j && decide (128 ≤ byteAt s (j + 1) ∧ byteAt s (j + 1) ≤ 191)
theorem cont_bd (s : List UInt8) (v : Int) (h0 : 0 ≤ v) (h1 : v ≤ 255) : ∀ j, j ≤ 3 → contOk s j = true → 0 ≤ cont s v j ∧ cont s v j + 1 ≤ 300 * 64 ^ j
  | 0, _, _ => by simp [cont]; omega
  | j + 1, hj, hk => by
    simp only [contOk, Bool.and_eq_true, decide_eq_true_eq] at hk
    have := cont_bd s v h0 h1 j (by omega) hk.1
    have e : (64 : Int) ^ (j + 1) = 64 ^ j * 64 := by rw [Int.pow_succ]
    have hp : (1 : Int) ≤ 64 ^ j := Int.pow_pos (by decide)
    have hb := byteAt_lt s (j + 1)
    simp only [cont]
    omega
theorem contOk_le (s : List UInt8) {k : Nat} : ∀ {m}, k ≤ m → contOk s k = false → contOk s m = false
  | 0, h, e => by have : k = 0 := (by omega); subst this; exact e
  | m + 1, h, e => by
    by_cases hk : k = m + 1
    · subst hk; exact e
    · simp only [contOk, contOk_le s (k := k) (m := m) (by omega) e, Bool.false_and]
theorem contOk_no (s : List UInt8) (j : Nat) (h : ¬ (128 ≤ byteAt s (j + 1) ∧ byteAt s (j + 1) ≤ 191)) : contOk s (j + 1) = false := by
  simp only [contOk, decide_eq_false h, Bool.and_false]
def charM (s : List UInt8) : Int × Int :=
  if byteAt s 0 < 128 then (byteAt s 0, 1) else if nC (byteAt s 0) = 0 ∨ (s.length : Int) < nC (byteAt s 0) then (0, 0)
  else if contOk s (nC (byteAt s 0) - 1).toNat = false then (0, 0)
  else if cont s (vC (byteAt s 0)) (nC (byteAt s 0) - 1).toNat < lC (byteAt s 0) ∨ 1114111 < cont s (vC (byteAt s 0)) (nC (byteAt s 0) - 1).toNat ∨ (55296 ≤ cont s (vC (byteAt s 0)) (nC (byteAt s 0) - 1).toNat ∧ cont s (vC (byteAt s 0)) (nC (byteAt s 0) - 1).toNat ≤ 57343) then (0, 0)
  else (cont s (vC (byteAt s 0)) (nC (byteAt s 0) - 1).toNat, nC (byteAt s 0))
theorem dec_s (s : List UInt8) : Go.Lib.decodeL s = Go.Lib.decodeN s.length (byteAt s 0) (byteAt s 1) (byteAt s 2) (byteAt s 3) := by
  unfold Go.Lib.decodeL
  rw [Go.Lib.decode_at]
  simp only [get!_list, bsize, Nat.sub_zero, Nat.zero_add]
  rfl
def charR (s : List UInt8) : Int × Int := if chr s = 65533 ∧ wid s = 1 then (0, 0) else (chr s, wid s)
theorem pk_good {D : Nat × Nat} {a b : Nat} (h : D = (a, b)) (hb : b ≠ 1) : (if D.1 = 65533 ∧ D.2 = 1 then ((0, 0) : Int × Int) else (D.1, D.2)) = ((a : Int), (b : Int)) := by
  subst h; rw [if_neg (fun k => hb k.2)]
theorem pk_bad {D : Nat × Nat} (h : D = (65533, 1)) : (if D.1 = 65533 ∧ D.2 = 1 then ((0, 0) : Int × Int) else (D.1, D.2)) = (0, 0) := by
  subst h; rfl
theorem charM_eq (s : List UInt8) (h : s ≠ []) : charM s = charR s := by
  have hl := List.length_pos_iff.2 h
  have h0 := byteAt_lt s 0; have h1 := byteAt_lt s 1; have h2 := byteAt_lt s 2; have h3 := byteAt_lt s 3
  unfold charR
  simp only [chr, wid, dec_s]
  generalize hb0 : byteAt s 0 = b0 at *
  generalize hb1 : byteAt s 1 = b1 at *
  generalize hb2 : byteAt s 2 = b2 at *
  generalize hb3 : byteAt s 3 = b3 at *
  unfold charM
  rw [hb0]
  by_cases c0 : b0 < 128
  · rw [if_pos c0]
    simp only [Go.Lib.decodeN, if_pos c0]
    rw [if_neg (by omega)]
    rfl
  · rw [if_neg c0]
    by_cases c2 : 192 ≤ b0 ∧ b0 ≤ 223
    · have hn : nC b0 = 2 := if_pos c2
      have hv : vC b0 = b0 - 192 := if_pos c2
      have hll : lC b0 = 128 := if_pos c2
      rw [hn, hv, hll]
      simp only [show ((2 : Int) - 1).toNat = 1 from rfl, contOk, cont, Bool.true_and, Nat.zero_add, hb1, decide_eq_false_iff_not]
      by_cases k1 : 1 < s.length ∧ b1 / 64 = 2
      · have e : b0 / 32 = 6 ∧ 1 < s.length ∧ b1 / 64 = 2 := ⟨by omega, k1⟩
        by_cases g : b0 % 32 * 64 + b1 % 64 ≥ 128
        · rw [pk_good (a := b0 % 32 * 64 + b1 % 64) (b := 2) (by unfold Go.Lib.decodeN; rw [if_neg c0, if_pos e, if_pos g]) (by decide), if_neg (by omega), if_neg (by omega), if_neg (by omega)]
          simp only [Prod.mk.injEq]
          omega
        · rw [pk_bad (by unfold Go.Lib.decodeN; rw [if_neg c0, if_pos e, if_neg g]), if_neg (by omega), if_neg (by omega), if_pos (by omega)]
      · rw [pk_bad (by unfold Go.Lib.decodeN; rw [if_neg c0, if_neg (by omega), if_neg (by omega), if_neg (by omega)])]
        split
        · rfl
        · rw [if_pos (by omega)]
    · by_cases c3 : 224 ≤ b0 ∧ b0 ≤ 239
      · have hn : nC b0 = 3 := by unfold nC; rw [if_neg c2, if_pos c3]
        have hv : vC b0 = b0 - 224 := by unfold vC; rw [if_neg c2, if_pos c3]
        have hll : lC b0 = 2048 := by unfold lC; rw [if_neg c2, if_pos c3]
        rw [hn, hv, hll]
        simp only [show ((3 : Int) - 1).toNat = 2 from rfl, contOk, cont, Bool.true_and, Nat.zero_add, hb1, hb2, Bool.and_eq_false_iff, decide_eq_false_iff_not, Nat.reduceAdd]
        by_cases k1 : (1 < s.length ∧ b1 / 64 = 2) ∧ (2 < s.length ∧ b2 / 64 = 2)
        · have e : b0 / 16 = 14 ∧ (1 < s.length ∧ b1 / 64 = 2) ∧ (2 < s.length ∧ b2 / 64 = 2) := ⟨by omega, k1⟩
          by_cases g : b0 % 16 * 4096 + b1 % 64 * 64 + b2 % 64 ≥ 2048 ∧ (b0 % 16 * 4096 + b1 % 64 * 64 + b2 % 64 < 55296 ∨ (57344 ≤ b0 % 16 * 4096 + b1 % 64 * 64 + b2 % 64 ∧ b0 % 16 * 4096 + b1 % 64 * 64 + b2 % 64 ≤ 1114111))
          · rw [pk_good (a := b0 % 16 * 4096 + b1 % 64 * 64 + b2 % 64) (b := 3) (by unfold Go.Lib.decodeN; rw [if_neg c0, if_neg (by omega), if_pos e, if_pos g]) (by decide), if_neg (by omega), if_neg (by omega), if_neg (by omega)]
            simp only [Prod.mk.injEq]
            omega
          · rw [pk_bad (by unfold Go.Lib.decodeN; rw [if_neg c0, if_neg (by omega), if_pos e, if_neg g]), if_neg (by omega), if_neg (by omega), if_pos (by omega)]
        · rw [pk_bad (by unfold Go.Lib.decodeN; rw [if_neg c0, if_neg (by omega), if_neg (by omega), if_neg (by omega)])]
          split
          · rfl
          · rw [if_pos (by omega)]
      · by_cases c4 : 240 ≤ b0 ∧ b0 ≤ 247
        · have hn : nC b0 = 4 := by unfold nC; rw [if_neg c2, if_neg c3, if_pos c4]
          have hv : vC b0 = b0 - 240 := by unfold vC; rw [if_neg c2, if_neg c3, if_pos c4]
          have hll : lC b0 = 65536 := by unfold lC; rw [if_neg c2, if_neg c3, if_pos c4]
          rw [hn, hv, hll]
          simp only [show ((4 : Int) - 1).toNat = 3 from rfl, contOk, cont, Bool.true_and, Nat.zero_add, hb1, hb2, hb3, Bool.and_eq_false_iff, decide_eq_false_iff_not, Nat.reduceAdd]
          by_cases k1 : (1 < s.length ∧ b1 / 64 = 2) ∧ (2 < s.length ∧ b2 / 64 = 2) ∧ (3 < s.length ∧ b3 / 64 = 2)
          · have e : b0 / 8 = 30 ∧ (1 < s.length ∧ b1 / 64 = 2) ∧ (2 < s.length ∧ b2 / 64 = 2) ∧ (3 < s.length ∧ b3 / 64 = 2) := ⟨by omega, k1⟩
            by_cases g : b0 % 8 * 262144 + b1 % 64 * 4096 + b2 % 64 * 64 + b3 % 64 ≥ 65536 ∧ (b0 % 8 * 262144 + b1 % 64 * 4096 + b2 % 64 * 64 + b3 % 64 < 55296 ∨ (57344 ≤ b0 % 8 * 262144 + b1 % 64 * 4096 + b2 % 64 * 64 + b3 % 64 ∧ b0 % 8 * 262144 + b1 % 64 * 4096 + b2 % 64 * 64 + b3 % 64 ≤ 1114111))
            · rw [pk_good (a := b0 % 8 * 262144 + b1 % 64 * 4096 + b2 % 64 * 64 + b3 % 64) (b := 4) (by unfold Go.Lib.decodeN; rw [if_neg c0, if_neg (by omega), if_neg (by omega), if_pos e, if_pos g]) (by decide), if_neg (by omega), if_neg (by omega), if_neg (by omega)]
              simp only [Prod.mk.injEq]
              omega
            · rw [pk_bad (by unfold Go.Lib.decodeN; rw [if_neg c0, if_neg (by omega), if_neg (by omega), if_pos e, if_neg g]), if_neg (by omega), if_neg (by omega), if_pos (by omega)]
          · rw [pk_bad (by unfold Go.Lib.decodeN; rw [if_neg c0, if_neg (by omega), if_neg (by omega), if_neg (by omega)])]
            split
            · rfl
            · rw [if_pos (by omega)]
        · have hn : nC b0 = 0 := by unfold nC; rw [if_neg c2, if_neg c3, if_neg c4]
          rw [hn, if_pos (.inl rfl), pk_bad]
          unfold Go.Lib.decodeN
          rw [if_neg c0, if_neg (by omega), if_neg (by omega), if_neg (by omega)]
theorem nC_bd (b : Nat) (h : b < 256) (h1 : 128 ≤ b) : (nC b = 0 ∨ 2 ≤ nC b) ∧ nC b ≤ 4 ∧ 0 ≤ vC b ∧ vC b ≤ 255 ∧ 0 ≤ lC b ∧ lC b ≤ 65536 := by
  unfold nC vC lC
  (repeat' split) <;> omega
theorem char_fn (s : List UInt8) (h : Part) (hs : s ≠ []) (hl : s.length ≤ 140737488355328) : Pure Tryd.prog 61 [.string ⟨s.toArray⟩] h (.tuple #[.int .i64 (charR s).1, .int .i64 (charR s).2]) := by
  have hs1 := List.length_pos_iff.2 hs
  have hb := byteAt_lt s 0
  have hb0 : byteAt s 0 = (s.getD 0 0).toNat := rfl
  rw [← charM_eq s hs]
  refine Fn.intro Tryd.func61 rfl Tryd.ntmps61 rfl (fun e he => ?_)
  refine J.weak [(0, _)] ⟨rfl, trivial⟩ ?_
  refine Sr ?_
  refine Ru 2 rfl ?_
  refine JL.nil ?_
  refine Sr ?_
  refine Ru 1 rfl ?_
  refine JL.op (RunV.strIndex un_9 rfl rfl (show _ = ((0 : Nat) : Int) from rfl) (by omega)) rfl ?_
  refine JL.op z11_ rfl ?_
  refine Ru 1 rfl ?_
  refine JL.nil ?_
  refine J.seq ?_
  refine Sr ?_
  refine Ru 2 rfl ?_
  refine JL.nil ?_
  refine Cs rfl (fun hc1 => ?_) fun hc1 => ?_
  ·
   have hcm : charM s = ((byteAt s 0 : Int), 1) := (by unfold charM; rw [if_pos (by omega)])
   refine Sr ?_
   refine Ru 3 rfl ?_
   refine Nk [3, 2, 4, 0] rfl ?_
   exact J.retP (RetV.two rfl rfl rfl) (by rw [hcm]; rfl) rfl
  have hnb := nC_bd (byteAt s 0) hb (by omega)
  refine J.skip ?_
  refine Kp [4, 3, 2, 0] rfl ?_
  refine Sr ?_
  refine Ru 1 rfl ?_
  refine JL.nil ?_
  refine Sr ?_
  refine Ru 1 rfl ?_
  refine JL.nil ?_
  refine J.seq ?_
  refine J.block ?_
  refine Sr ?_
  refine Ru 1 rfl ?_
  refine JL.callP ca_62 rfl (between_fn _ _ _ _) rfl ?_
  refine Ru 1 rfl ?_
  refine JL.nil ?_
  refine J.meet [(5, .int .i64 (nC (byteAt s 0))), (6, .int .i64 (lC (byteAt s 0))), (4, .int .i64 (vC (byteAt s 0)))] [(3, _), (2, _), (0, _)] ⟨rfl, rfl, rfl, trivial⟩ ?_ ?_
  ·
   refine Cs rfl (fun hc3 => ?_) fun hc3 => ?_
   ·
    refine Rg ?_
    refine Ru 1 rfl ?_
    refine JL.op si_ rfl ?_
    refine Ru 3 rfl ?_
    refine JL.nil ?_
    refine ⟨rfl, rfl, ?_⟩
    exact z25_
   refine Sr ?_
   refine Ru 1 rfl ?_
   refine JL.callP ca_62 rfl (between_fn _ _ _ _) rfl ?_
   refine Ru 1 rfl ?_
   refine Nk [20, 6, 5, 4, 3, 2, 0] rfl ?_
   refine Cs rfl (fun hc5 => ?_) fun hc5 => ?_
   ·
    refine Rg ?_
    refine Ru 1 rfl ?_
    refine JL.op si_ rfl ?_
    refine Ru 3 rfl ?_
    refine JL.nil ?_
    refine ⟨rfl, rfl, ?_⟩
    exact z25_
   refine Sr ?_
   refine Ru 1 rfl ?_
   refine JL.callP ca_62 rfl (between_fn _ _ _ _) rfl ?_
   refine Ru 1 rfl ?_
   refine JL.nil ?_
   refine Cs rfl (fun hc7 => ?_) fun hc7 => ?_
   ·
    refine Rg ?_
    refine Ru 1 rfl ?_
    refine JL.op si_ rfl ?_
    refine Ru 3 rfl ?_
    refine JL.nil ?_
    refine ⟨rfl, rfl, ?_⟩
    exact z25_
   refine J.skip ?_
   refine ⟨rfl, rfl, ?_⟩
   exact z25_
  refine J.seq ?_
  refine Sr ?_
  refine Ru 3 rfl ?_
  apply On 32 37 5 [5, 6, 4, 3, 2, 0] rfl rfl
  rotate_left
  ·
   intro hb8 hc8
   refine Ru 1 rfl ?_
   refine JL.opg rfl rfl  (RunV.lenS un_9 rfl) rfl ?_
   refine Ru 3 rfl ?_
   exact Ae (om_f hb8 rfl) rfl
  rotate_right
  ·
   exact fun hb8 _ => Ru 5 rfl (Ae (om_t hb8 rfl) rfl)
  refine JL.nil ?_
  refine Cs rfl (fun hc9 => ?_) fun hc9 => ?_
  ·
   have hcm : charM s = (0, 0) := (by unfold charM; rw [if_neg (by omega), if_pos (by omega)])
   refine Sr ?_
   refine Ru 2 rfl ?_
   refine JL.nil ?_
   exact J.retP (RetV.two rfl rfl rfl) (by rw [hcm]) rfl
  refine J.skip ?_
  refine J.seq ?_
  refine Sr ?_
  refine Ru 1 rfl ?_
  refine JL.nil ?_
  refine J.block ?_
  refine J.loop (fun t_ S_ h_ L_ => ∃ (j : Nat), t_ = 5 - j ∧ S_ = [(0, .string ⟨s.toArray⟩), (4, .int .i64 (cont s (vC (byteAt s 0)) j)), (5, .int .i64 (nC (byteAt s 0))), (6, .int .i64 (lC (byteAt s 0))), (7, .int .i64 ((j : Int) + 1))] ∧ h = h_ ∧ L_ = [] ∧ ((j : Int) + 1 ≤ nC (byteAt s 0) ∧ contOk s j = true)) ⟨_, _, ?_, ⟨0, rfl, rfl, rfl, rfl, ⟨by omega, rfl⟩⟩⟩ ?_
  ·
   exact z5_
  rintro _ _ _ _ ⟨j, rfl, rfl, rfl, rfl, hj, hok⟩
  have hcb := cont_bd s (vC (byteAt s 0)) (by omega) (by omega) j (by omega) hok; have hbj := byteAt_lt s (j + 1); have hbj0 : byteAt s (j + 1) = (s.getD (j + 1) 0).toNat := rfl; have hp : (64 : Int) ^ j ≤ 262144 := (by have : j = 0 ∨ j = 1 ∨ j = 2 ∨ j = 3 := (by omega); rcases this with rfl | rfl | rfl | rfl <;> decide)
  refine J.seq ?_
  refine Sr ?_
  refine Ru 3 rfl ?_
  refine JL.nil ?_
  refine Cs rfl (fun hc10 => ?_) fun hc10 => ?_
  ·
   refine J.skip ?_
   refine J.seq ?_
   refine J.block ?_
   refine Sr ?_
   refine Ru 2 rfl ?_
   refine JL.op (RunV.strIndex (m := j + 1) un_9 rfl rfl (by omega) (by omega)) rfl ?_
   refine JL.op z11_ rfl ?_
   refine Ru 1 rfl ?_
   refine JL.nil ?_
   refine J.seq ?_
   refine Sr ?_
   refine Ru 1 rfl ?_
   refine JL.callP ca_62 rfl (between_fn _ _ _ _) rfl ?_
   refine Ru 1 rfl ?_
   refine JL.nil ?_
   refine Cs rfl (fun hc12 => ?_) fun hc12 => ?_
   ·
    have hcm : charM s = (0, 0) := (by unfold charM; rw [if_neg (by omega), if_neg (by omega), if_pos (contOk_le s (k := j + 1) (by omega) (contOk_no s j (by omega)))])
    refine Sr ?_
    refine Ru 2 rfl ?_
    refine JL.nil ?_
    exact J.retP (RetV.two rfl rfl rfl) (by rw [hcm]) rfl
   refine J.skip ?_
   refine Rg ?_
   refine Ru 1 rfl ?_
   refine JL.op z16_ rfl ?_
   refine Ru 1 rfl ?_
   refine JL.op ai_ rfl ?_
   refine JL.op si_ rfl ?_
   refine Ru 1 rfl ?_
   refine JL.nil ?_
   refine Rg ?_
   refine Ru 1 rfl ?_
   refine JL.op ai_ rfl ?_
   refine Ru 1 rfl ?_
   refine JL.nil ?_
   refine ⟨_, ?_, _, ?_, ⟨j + 1, rfl, rfl, rfl, rfl, ⟨by omega, by simp only [contOk, hok, Bool.true_and]; exact decide_eq_true (by omega)⟩⟩⟩
   ·
    omega
   exact z5_
  have hjn : (nC (byteAt s 0) - 1).toNat = j := (by omega)
  refine J.exit ?_
  refine Kp [4, 5, 6] rfl ?_
  refine J.seq ?_
  refine Sr ?_
  refine Ru 4 rfl ?_
  apply On 58 61 3 [4, 5] rfl rfl
  rotate_left
  ·
   intro hb13 hc13
   refine Ru 3 rfl ?_
   exact Ae (om_f hb13 rfl) rfl
  rotate_right
  ·
   exact fun hb13 _ => Ru 3 rfl (Ae (om_t hb13 rfl) rfl)
  refine Ru 1 rfl ?_
  apply On 62 65 3 [4, 5] rfl rfl
  rotate_left
  ·
   intro hb14 hc14
   refine Ru 1 rfl ?_
   refine JL.callPg rfl rfl  ca_62 rfl (between_fn _ _ _ _) rfl ?_
   refine Ru 1 rfl ?_
   exact Ae (om_f hb14 rfl) rfl
  rotate_right
  ·
   exact fun hb14 _ => Ru 3 rfl (Ae (om_t hb14 rfl) rfl)
  refine JL.nil ?_
  refine Cs rfl (fun hc16 => ?_) fun hc16 => ?_
  ·
   have hcm : charM s = (0, 0) := (by unfold charM; rw [if_neg (by omega), if_neg (by omega), hjn, if_neg (by rw [hok]; decide), if_pos (by omega)])
   refine Sr ?_
   refine Ru 2 rfl ?_
   refine JL.nil ?_
   exact J.retP (RetV.two rfl rfl rfl) (by rw [hcm]) rfl
  have hcm : charM s = (cont s (vC (byteAt s 0)) j, nC (byteAt s 0)) := (by unfold charM; rw [if_neg (by omega), if_neg (by omega), hjn, if_neg (by rw [hok]; decide), if_neg (by omega)])
  refine J.skip ?_
  refine Sr ?_
  refine Ru 4 rfl ?_
  refine Nk [3, 2] rfl ?_
  exact J.retP (RetV.two rfl rfl rfl) (by rw [hcm]) rfl
theorem rutf8_fn (s : List UInt8) (h : Part) (hl : s.length ≤ 140737488355328) : Pure Tryd.prog 48 [.string ⟨s.toArray⟩] h (.bool (runes (fun c n => !decide (c = 65533 ∧ n = 1)) s 0)) := by
  refine Fn.intro Tryd.func48 rfl Tryd.ntmps48 rfl (fun e he => ?_)
  refine J.weak [(0, _)] ⟨rfl, trivial⟩ ?_
  refine Sr ?_
  refine Ru 1 rfl ?_
  refine JL.nil ?_
  refine J.seq ?_
  refine Sr ?_
  refine Ru 1 rfl ?_
  refine JL.nil ?_
  refine J.block ?_
  refine J.loop (fun t_ S_ h_ L_ => ∃ (p : Nat), t_ = s.length - p ∧ S_ = [(0, .string ⟨s.toArray⟩), (3, .int .i64 p)] ∧ h = h_ ∧ L_ = [] ∧ (p ≤ s.length ∧ runes (fun c n => !decide (c = 65533 ∧ n = 1)) s 0 = runes (fun c n => !decide (c = 65533 ∧ n = 1)) (s.drop p) 0)) ⟨_, _, ?_, ⟨0, rfl, rfl, rfl, rfl, ⟨by omega, rfl⟩⟩⟩ ?_
  ·
   exact z4_
  rintro _ _ _ _ ⟨p, rfl, rfl, rfl, rfl, hp, hq⟩
  refine J.seq ?_
  refine Sr ?_
  refine Ru 2 rfl ?_
  refine JL.op (RunV.lenS un_9 rfl) rfl ?_
  refine Ru 1 rfl ?_
  refine JL.nil ?_
  refine Cs rfl (fun hc1 => ?_) fun hc1 => ?_
  ·
   have hne : s.drop p ≠ [] := (by intro hh; have := congrArg List.length hh; simp at this; omega); have hw := wid_pos (s.drop p); have hwl := wid_le (s.drop p) hne; have hst := runes_step (fun c n => !decide (c = 65533 ∧ n = 1)) s p (by omega); rw [List.length_drop] at hwl; obtain ⟨cc, cn, hcr⟩ : ∃ a b, charR (s.drop p) = (a, b) := ⟨_, _, rfl⟩; have hcr2 := hcr; unfold charR at hcr2
   refine J.skip ?_
   refine J.block ?_
   refine Sr ?_
   refine Ru 2 rfl ?_
   refine JL.op (RunV.strCut_l un_9 rfl rfl z6_ (by omega)) rfl ?_
   refine JL.callP ca_61 rfl (char_fn _ _ (by assumption) (by try (simp only [List.length_drop]); omega)) rfl ?_
   rw [hcr]
   refine Ru 5 rfl ?_
   refine JL.nil ?_
   refine J.seq ?_
   refine Sr ?_
   refine Ru 2 rfl ?_
   refine JL.nil ?_
   refine Cs rfl (fun hc3 => ?_) fun hc3 => ?_
   ·
    have hz : chr (s.drop p) = 65533 ∧ wid (s.drop p) = 1 := (by by_cases hz : chr (s.drop p) = 65533 ∧ wid (s.drop p) = 1; exact hz; rw [if_neg hz] at hcr2; injection hcr2 with q1 q2; omega)
    refine Sr ?_
    refine Ru 1 rfl ?_
    refine JL.nil ?_
    exact J.retP (RetV.one rfl rfl) (by rw [hq, hst, decide_eq_true hz]; rfl) rfl
   have hz : ¬ (chr (s.drop p) = 65533 ∧ wid (s.drop p) = 1) := (fun hz => by rw [if_pos hz] at hcr2; injection hcr2 with q1 q2; omega); rw [if_neg hz] at hcr2; injection hcr2 with q1 q2
   refine J.skip ?_
   refine Rg ?_
   refine Ru 2 rfl ?_
   refine JL.op ai_ rfl ?_
   refine Ru 1 rfl ?_
   refine JL.nil ?_
   refine ⟨_, ?_, _, ?_, ⟨p + wid (s.drop p), rfl, rfl, rfl, rfl, ⟨by omega, by rw [hq, hst, decide_eq_false hz]; rfl⟩⟩⟩
   ·
    omega
   exact z4_
  refine J.exit ?_
  refine Kp [] rfl ?_
  refine Sr ?_
  refine Ru 1 rfl ?_
  refine JL.nil ?_
  exact J.retP (RetV.one rfl rfl) (by rw [hq, runes_end _ _ _ (by omega)]) rfl
theorem runes_all {P : Nat → Bool} (hP : ∀ c, P c = true → c < 128) : ∀ (n : Nat) (s : List UInt8), s.length ≤ n → runes (fun c _ => P c) s 0 = s.all fun b => P b.toNat := by
  intro n
  induction n with
  | zero => intro s hs; have : s = [] := List.eq_nil_of_length_eq_zero (by omega); subst this; rfl
  | succ n ih =>
    intro s hs
    cases s with
    | nil => rfl
    | cons b r =>
      have h0 : byteAt (b :: r) 0 = b.toNat := rfl
      by_cases hb : b.toNat < 128
      · have hd : Go.Lib.decodeL (b :: r) = (b.toNat, 1) := by rw [dec_s, h0]; unfold Go.Lib.decodeN; rw [if_pos hb]
        have hc : chr (b :: r) = b.toNat := by show (Go.Lib.decodeL (b :: r)).1 = _; rw [hd]
        have hw : wid (b :: r) = 1 := by show (Go.Lib.decodeL (b :: r)).2 = _; rw [hd]
        simp only [runes, hc, hw, Nat.sub_self, List.all_cons]
        rw [ih r (by simp at hs; omega)]
      · have hf : P b.toNat = false := by
          cases hp : P b.toNat with
          | false => rfl
          | true => exact absurd (hP _ hp) hb
        have hc : 128 ≤ chr (b :: r) := by
          show 128 ≤ (Go.Lib.decodeL (b :: r)).1
          rw [dec_s, h0]
          unfold Go.Lib.decodeN
          rw [if_neg hb]
          (repeat' split) <;> simp <;> omega
        have hf2 : P (chr (b :: r)) = false := by
          cases hp : P (chr (b :: r)) with
          | false => rfl
          | true => have := hP _ hp; omega
        simp only [runes, hf2, Bool.false_and, List.all_cons, hf]
theorem all_step (P : Nat → Bool) (s : List UInt8) (p : Nat) (h : p < s.length) : ((s.drop p).all fun b => P b.toNat) = (P (byteAt s p) && (s.drop (p + 1)).all fun b => P b.toNat) := by
  rw [List.drop_eq_getElem_cons h, List.all_cons, byteAt_eq s p h]
theorem ria5_fn (s : List UInt8) (h : Part) (hl : s.length ≤ 140737488355328) : Pure Tryd.prog 50 [.string ⟨s.toArray⟩] h (.bool (runes (fun c _ => decide (c ≤ 127)) s 0)) := by
  rw [runes_all (P := fun c => decide (c ≤ 127)) (fun c hc => by have := of_decide_eq_true hc; omega) _ s (Nat.le_refl _)]
  refine Fn.intro Tryd.func50 rfl Tryd.ntmps50 rfl (fun e he => ?_)
  refine J.weak [(0, _)] ⟨rfl, trivial⟩ ?_
  refine Sr ?_
  refine Ru 1 rfl ?_
  refine JL.nil ?_
  refine J.seq ?_
  refine Sr ?_
  refine Ru 1 rfl ?_
  refine JL.nil ?_
  refine J.block ?_
  refine J.loop (fun t_ S_ h_ L_ => ∃ (p : Nat), t_ = s.length - p ∧ S_ = [(0, .string ⟨s.toArray⟩), (3, .int .i64 p)] ∧ h = h_ ∧ L_ = [] ∧ (p ≤ s.length ∧ (s.all fun b => decide (b.toNat ≤ 127)) = (s.drop p).all fun b => decide (b.toNat ≤ 127))) ⟨_, _, ?_, ⟨0, rfl, rfl, rfl, rfl, ⟨by omega, rfl⟩⟩⟩ ?_
  ·
   exact z5_
  rintro _ _ _ _ ⟨p, rfl, rfl, rfl, rfl, hp, hq⟩
  refine J.seq ?_
  refine Sr ?_
  refine Ru 2 rfl ?_
  refine JL.op (RunV.lenS un_9 rfl) rfl ?_
  refine Ru 1 rfl ?_
  refine JL.nil ?_
  refine Cs rfl (fun hc1 => ?_) fun hc1 => ?_
  ·
   have hst := all_step (fun c => decide (c ≤ 127)) s p (by omega)
   refine J.skip ?_
   refine J.seq ?_
   refine J.block ?_
   refine Sr ?_
   refine Ru 2 rfl ?_
   refine JL.op (RunV.strIndex un_9 rfl rfl z6_ (by omega)) rfl ?_
   refine Ru 1 rfl ?_
   refine JL.nil ?_
   refine Cs rfl (fun hc2 => ?_) fun hc2 => ?_
   ·
    refine Sr ?_
    refine Ru 1 rfl ?_
    refine JL.nil ?_
    exact J.retP (RetV.one rfl rfl) (by rw [hq, hst, decide_eq_false (by omega)]; rfl) rfl
   refine J.skip ?_
   refine Rg ?_
   refine Ru 1 rfl ?_
   refine JL.op ai_ rfl ?_
   refine Ru 1 rfl ?_
   refine JL.nil ?_
   refine ⟨_, ?_, _, ?_, ⟨p + 1, rfl, rfl, rfl, rfl, ⟨by omega, by rw [hq, hst, decide_eq_true (by omega), Bool.true_and]⟩⟩⟩
   ·
    omega
   exact z5_
  refine J.exit ?_
  refine Kp [] rfl ?_
  refine Sr ?_
  refine Ru 1 rfl ?_
  refine JL.nil ?_
  exact J.retP (RetV.one rfl rfl) (by rw [hq, List.drop_of_length_le (by omega)]; rfl) rfl
end Go.Proofs.YtldbjnhfkjicjaaDoor
namespace Go.Proofs.YtldbjnhfkjicjaaDoor
open Go Go.RowKit
theorem z7_ {p : Prop} (u : p := by repeat (first | exact trivial | refine ⟨rfl, ?_⟩ | refine ⟨(by exact some_bool (by first | exact decide_eq_decide.2 (by omega) | exact (decide_eq_false (by omega)).symm | exact (decide_eq_true (by omega)).symm)), ?_⟩)) : p := u
theorem z14_ {p : Prop} (u : p := by repeat (first | exact trivial | refine ⟨rfl, ?_⟩ | refine ⟨(by exact some_bool (by rw [oidOk_eq]; first | (have q0 := e0 (by omega); have q1 := e1 (by omega); first | exact decide_eq_decide.2 (by omega) | exact (decide_eq_false (by omega)).symm | exact (decide_eq_true (by omega)).symm) | exact (decide_eq_false (by omega)).symm)), ?_⟩)) : p := u
theorem z23_ {p : Prop} (u : p := by repeat (first | exact trivial | refine ⟨rfl, ?_⟩ | refine ⟨(by exact some_bool (by first | exact decide_eq_decide.2 (by omega) | exact (decide_eq_false (by omega)).symm | exact (decide_eq_true (by omega)).symm | (rw [eq_comm]; exact decide_eq_true (by omega)) | (rw [eq_comm]; exact decide_eq_false (by omega)))), ?_⟩)) : p := u
theorem z34_ {p : Prop} (u : p := by repeat (first | exact trivial | refine ⟨rfl, ?_⟩ | refine ⟨(by exact some_int (by first | rfl | (rw [numV_take s i (by omega)]; omega))), ?_⟩)) : p := u
end Go.Proofs.YtldbjnhfkjicjaaDoor
namespace Go.Proofs.YtldbjnhfkjicjaaDoor
open Go Go.RowKit
set_option maxRecDepth 100000
theorem ag_87 : aggT Tryd.prog 87 = some none := by kernel_rfl
theorem ap_102 : apT Tryd.prog 102 = some (87, 1, 8) := by kernel_rfl
theorem ca_59 : callT Tryd.prog 59 = true := by kernel_rfl
theorem ca_60 : callT Tryd.prog 60 = true := by kernel_rfl
theorem ca_69 : callT Tryd.prog 69 = true := by kernel_rfl
theorem ca_70 : callT Tryd.prog 70 = true := by kernel_rfl
theorem ca_73 : callT Tryd.prog 73 = true := by kernel_rfl
theorem sl_102 : slT Tryd.prog 102 = some (87, 1) := by kernel_rfl
theorem zr_87 : zeroT Tryd.prog 87 = some [.int .u64 0] := by kernel_rfl
theorem dgo_stop {f m len least : Nat} (h : ¬ (0 < m ∨ len < least)) : dgo f m len least = [] := dgo_end h
theorem rdigits_fn {n least : Nat} {h : Part} (hn : n < 18446744073709551616) (hl : least ≤ 20) : Pure Tryd.prog 59 [.int .u64 n, .int .i64 least] h (.string ⟨(dgs n least).toArray⟩) := by
  refine Pure.ofV ?_
  refine Fn.intro Tryd.func59 rfl Tryd.ntmps59 rfl (fun e he => ?_)
  refine J.weak [(0, _), (1, _)] ⟨rfl, rfl, trivial⟩ ?_
  have hh0 := Part.le.refl h
  refine Sr ?_
  refine Ru 1 rfl ?_
  refine JL.nil ?_
  refine Sr ?_
  refine Ru 1 rfl ?_
  refine JL.nil ?_
  refine J.seq ?_
  refine J.block ?_
  refine J.loop (fun t_ S_ h_ L_ => ∃ (g : Part) (f m : Nat) (s : List UInt8), t_ = f + m ∧ S_ = [(0, .int .u64 m), (1, .int .i64 least), (5, .string ⟨s.toArray⟩)] ∧ g = h_ ∧ L_ = [] ∧ (h.le g ∧ s.length + f = 20 ∧ m < 18446744073709551616 ∧ m < 10 ^ f ∧ dgs n least = dgo f m s.length least ++ s)) ⟨_, _, ?_, ⟨_, 20, n, [], rfl, rfl, rfl, rfl, ⟨by assumption, rfl, hn, by simp only [Nat.reducePow]; omega, by simp [dgs]⟩⟩⟩ ?_
  ·
   exact z5_
  rintro _ _ _ _ ⟨g, f, m, s, rfl, rfl, rfl, rfl, hhg, hf, hm1, hm, he⟩
  refine J.seq ?_
  refine J.seq ?_
  refine J.meet [(13, .bool (decide (0 < m ∨ s.length < least)))] [(0, _), (1, _), (5, _)] ⟨rfl, rfl, rfl, trivial⟩ ?_ ?_
  ·
   refine Rg ?_
   refine Ru 3 rfl ?_
   refine Bs 8 rfl (fun hc1 => ?_) fun hc1 => ?_
   ·
    refine Ru 5 rfl ?_
    refine JL.nil ?_
    refine ⟨rfl, rfl, ?_⟩
    exact z7_
   refine Ru 1 rfl ?_
   refine JL.opg rfl rfl  (RunV.lenS un_9 rfl) rfl ?_
   refine Ru 3 rfl ?_
   refine JL.nil ?_
   refine ⟨rfl, rfl, ?_⟩
   exact z7_
  refine Cs rfl (fun hc2 => ?_) fun hc2 => ?_
  ·
   obtain ⟨f', rfl⟩ : ∃ f', f = f' + 1 := ⟨f - 1, by have : f ≠ 0 := (by rintro rfl; simp at hm; omega); omega⟩; rw [Nat.pow_succ] at hm
   refine J.skip ?_
   refine J.block ?_
   refine Sr ?_
   refine Ru 1 rfl ?_
   refine JL.op (by first | exact RunV.rem_u64 rfl rfl (by omega) (by omega) | exact RunV.rem rfl rfl (by omega)) rfl ?_
   refine JL.op (by first | exact RunV.add_u64 rfl rfl (by omega) (by omega) | exact RunV.add rfl rfl) rfl ?_
   refine JL.op (RunV.toByte (48 + m % 10) cv_87_5 rfl (by omega)) rfl ?_
   refine JL.lit1 ap_24 zr_5 rfl rfl rfl rfl rfl (fun b3 => ?_)
   refine JL.pubB (R := u8R) (sz := 1) (l := [UInt8.ofNat (48 + m % 10)]) dl_ (cells_lit (by first | kernel_rfl | rfl)) (by first | decide | omega | (simp; done)) (fun h4 hle4 hQ => ?_)
   replace hhg := hhg.mono hle4
   refine JL.op (RunV.strB (l := [UInt8.ofNat (48 + m % 10)]) sb_24_9 rfl hQ rfl) rfl ?_
   refine Ru 1 rfl ?_
   refine JL.op (RunV.addS rfl rfl (by simp; omega)) rfl ?_
   refine Ru 1 rfl ?_
   refine JL.nil ?_
   refine Rg ?_
   refine Ru 1 rfl ?_
   refine JL.op z30_ rfl ?_
   refine Ru 1 rfl ?_
   refine JL.nil ?_
   refine ⟨_, ?_, _, ?_, ⟨_, f', m / 10, [UInt8.ofNat (48 + m % 10)] ++ s, rfl, rfl, rfl, rfl, ⟨by assumption, by simp; omega, by omega, by omega, by rw [he, dgo, if_pos (by omega)]; simp⟩⟩⟩
   ·
    omega
   exact z5_
  have hds : dgs n least = s := (by rw [he, dgo_stop (by omega)]; rfl)
  refine J.exit ?_
  refine Sr ?_
  refine Ru 2 rfl ?_
  refine Nk [4] rfl ?_
  exact J.retV (RetV.one rfl rfl) (by rw [hds])
theorem rdigits_fn' {n least : Nat} {N Q : Int} {h : Part} (hN : N = (n : Int)) (hQ : Q = (least : Int)) (hn : n < 18446744073709551616) (hl : least ≤ 20) : Pure Tryd.prog 59 [.int .u64 N, .int .i64 Q] h (.string ⟨(dgs n least).toArray⟩) := by
  subst hN hQ; exact rdigits_fn hn hl
def numR (s : List UInt8) : Nat := if numBad s || !s.all dig then 0 else numV s
theorem numR_bad {s : List UInt8} (h : s.length = 0 ∨ 19 < s.length ∨ 1 < s.length ∧ byteAt s 0 = 48) : numR s = 0 ∧ numB s = none := by
  have hb : numBad s = true := decide_eq_true h
  simp [numR, numB, hb]
theorem numR_no {s : List UInt8} {i : Nat} (h : i < s.length) (hd : ¬ (48 ≤ byteAt s i ∧ byteAt s i ≤ 57)) : numR s = 0 ∧ numB s = none := by
  have hb : s.all dig = false := by
    rw [List.all_eq_false]
    refine ⟨s[i], List.getElem_mem _, ?_⟩
    have e := byteAt_eq s i h
    unfold dig
    rw [decide_eq_false (by omega)]
    decide
  unfold numR numB; rw [hb]; simp
theorem numR_ok {s : List UInt8} (h : ¬ (s.length = 0 ∨ 19 < s.length ∨ 1 < s.length ∧ byteAt s 0 = 48)) (hd : s.all dig = true) : numR s = numV s ∧ (numB s).isSome = decide (numV s < 9223372036854775808) := by
  have hb : numBad s = false := decide_eq_false h
  unfold numR numB; rw [hb, hd]
  simp only [Bool.not_true, Bool.or_self, Bool.false_eq_true, if_false]
  refine ⟨trivial, ?_⟩
  split
  · rename_i hh; rw [decide_eq_true hh]; rfl
  · rename_i hh; rw [decide_eq_false hh]; rfl
theorem numV_take (s : List UInt8) (i : Nat) (h : i < s.length) : numV (s.take (i + 1)) = numV (s.take i) * 10 + (byteAt s i - 48) := by
  rw [List.take_succ_eq_append_getElem h, numV_snoc, byteAt_eq s i h]
theorem all_take (s : List UInt8) (i : Nat) (h : i < s.length) : (s.take (i + 1)).all dig = ((s.take i).all dig && decide (48 ≤ byteAt s i ∧ byteAt s i ≤ 57)) := by
  rw [List.take_succ_eq_append_getElem h, List.all_append]
  simp [dig, byteAt_eq s i h]
theorem rnumber_fn (s : List UInt8) (h : Part) (hl : s.length ≤ 140737488355328) : Pure Tryd.prog 73 [.string ⟨s.toArray⟩] h (.tuple #[.int .u64 (numR s : Nat), .bool (numB s).isSome]) := by
  have hb0 : byteAt s 0 = (s.getD 0 0).toNat := rfl
  refine Fn.intro Tryd.func73 rfl Tryd.ntmps73 rfl (fun e he => ?_)
  refine J.weak [(0, _)] ⟨rfl, trivial⟩ ?_
  refine Sr ?_
  refine Ru 2 rfl ?_
  refine JL.nil ?_
  refine J.seq ?_
  refine J.seq ?_
  refine J.meet [(23, .bool (decide (s.length = 0 ∨ 19 < s.length ∨ 1 < s.length ∧ byteAt s 0 = 48)))] [(3, _), (2, _), (0, _)] ⟨rfl, rfl, rfl, trivial⟩ ?_ ?_
  ·
   refine Rg ?_
   refine Ru 1 rfl ?_
   refine JL.op (RunV.lenS un_9 rfl) rfl ?_
   refine Ru 2 rfl ?_
   refine Bs 9 rfl (fun hc1 => ?_) fun hc1 => ?_
   ·
    refine Ru 14 rfl ?_
    refine JL.nil ?_
    refine ⟨rfl, rfl, ?_⟩
    exact z23_
   refine Ru 1 rfl ?_
   refine JL.opg rfl rfl  (RunV.lenS un_9 rfl) rfl ?_
   refine Ru 3 rfl ?_
   refine Bs 14 rfl (fun hc2 => ?_) fun hc2 => ?_
   ·
    refine Ru 9 rfl ?_
    refine JL.nil ?_
    refine ⟨rfl, rfl, ?_⟩
    exact z23_
   refine Ru 1 rfl ?_
   refine JL.opg rfl rfl  (RunV.lenS un_9 rfl) rfl ?_
   refine Ru 2 rfl ?_
   refine Bs 18 rfl (fun hc3 => ?_) fun hc3 => ?_
   ·
    refine Ru 1 rfl ?_
    refine JL.opg rfl rfl  (RunV.strIndex un_9 rfl rfl (show _ = ((0 : Nat) : Int) from rfl) (by omega)) rfl ?_
    refine Ru 3 rfl ?_
    refine JL.nil ?_
    refine ⟨rfl, rfl, ?_⟩
    exact z23_
   refine Ru 5 rfl ?_
   refine JL.nil ?_
   refine ⟨rfl, rfl, ?_⟩
   exact z23_
  refine Cs rfl (fun hc4 => ?_) fun hc4 => ?_
  ·
   have hnr := numR_bad hc4
   refine Sr ?_
   refine Ru 2 rfl ?_
   refine JL.nil ?_
   exact J.retP (RetV.two rfl rfl rfl) (by rw [hnr.1, hnr.2]; rfl) rfl
  have hok := hc4
  refine J.skip ?_
  refine Sr ?_
  refine Ru 1 rfl ?_
  refine JL.nil ?_
  refine J.seq ?_
  refine Sr ?_
  refine Ru 1 rfl ?_
  refine JL.nil ?_
  refine J.block ?_
  refine J.loop (fun t_ S_ h_ L_ => ∃ (i : Nat), t_ = s.length - i ∧ S_ = [(0, .string ⟨s.toArray⟩), (4, .int .u64 (numV (s.take i) : Nat)), (5, .int .i64 i)] ∧ h = h_ ∧ L_ = [] ∧ (i ≤ s.length ∧ (s.take i).all dig = true ∧ numV (s.take i) < 10 ^ i)) ⟨_, _, ?_, ⟨0, rfl, rfl, rfl, rfl, ⟨by omega, by simp, by simp [numV]⟩⟩⟩ ?_
  ·
   exact z34_
  rintro _ _ _ _ ⟨i, rfl, rfl, rfl, rfl, hi, hd, hv⟩
  refine J.seq ?_
  refine Sr ?_
  refine Ru 2 rfl ?_
  refine JL.op (RunV.lenS un_9 rfl) rfl ?_
  refine Ru 1 rfl ?_
  refine JL.nil ?_
  refine Cs rfl (fun hc5 => ?_) fun hc5 => ?_
  ·
   have hi' : i < s.length := (by omega); have hst := numV_take s i hi'; have hat := all_take s i hi'; have hp : 10 ^ i ≤ 1000000000000000000 := Nat.le_trans (Nat.pow_le_pow_right (by decide) (show i ≤ 18 by omega)) (by decide); have hbl := byteAt_lt s i; have hbi : byteAt s i = (s.getD i 0).toNat := rfl
   refine J.skip ?_
   refine J.seq ?_
   refine J.block ?_
   refine J.seq ?_
   refine Sr ?_
   refine Ru 2 rfl ?_
   refine JL.op (RunV.strIndex (m := i) un_9 rfl rfl (by omega) (by omega)) rfl ?_
   refine JL.op z11_ rfl ?_
   refine JL.callP ca_62 rfl (between_fn _ _ _ _) rfl ?_
   refine Ru 1 rfl ?_
   refine JL.nil ?_
   refine Cs rfl (fun hc7 => ?_) fun hc7 => ?_
   ·
    have hnr := numR_no hi' (show ¬ (48 ≤ byteAt s i ∧ byteAt s i ≤ 57) by omega)
    refine Sr ?_
    refine Ru 2 rfl ?_
    refine JL.nil ?_
    exact J.retP (RetV.two rfl rfl rfl) (by rw [hnr.1, hnr.2]; rfl) rfl
   refine J.skip ?_
   refine Rg ?_
   refine Ru 1 rfl ?_
   refine JL.op (by first | exact RunV.mul_u64 rfl rfl (by omega) (by omega) | exact RunV.mul rfl rfl) rfl ?_
   refine Ru 2 rfl ?_
   refine JL.op (RunV.strIndex (m := i) un_9 rfl rfl (by omega) (by omega)) rfl ?_
   refine JL.op (by first | exact RunV.sub_u8 rfl rfl (by omega) (by omega) | exact RunV.sub rfl rfl) rfl ?_
   refine JL.op (by first | exact RunV.convb_u64 cv_5_87 rfl | exact RunV.conv_u64 cv_5_87 rfl (by omega) (by omega) | exact RunV.conv cv_5_87 rfl) rfl ?_
   refine JL.op (by first | exact RunV.add_u64 rfl rfl (by omega) (by omega) | exact RunV.add rfl rfl) rfl ?_
   refine Ru 1 rfl ?_
   refine JL.nil ?_
   refine Rg ?_
   refine Ru 1 rfl ?_
   refine JL.op ai_ rfl ?_
   refine Ru 1 rfl ?_
   refine JL.nil ?_
   refine ⟨_, ?_, _, ?_, ⟨i + 1, rfl, rfl, rfl, rfl, ⟨by omega, by rw [hat, hd, decide_eq_true (by omega)]; rfl, by rw [hst, Nat.pow_succ]; omega⟩⟩⟩
   ·
    omega
   exact z34_
  have hie : s.take i = s := List.take_of_length_le (by omega); rw [hie] at hd hv ⊢; have hnr := numR_ok hok hd
  refine J.exit ?_
  refine Kp [4] rfl ?_
  refine Sr ?_
  refine Ru 5 rfl ?_
  refine JL.nil ?_
  exact J.retP (RetV.two rfl rfl rfl) (by rw [hnr.1, hnr.2]; exact congrArg (fun b => Value.tuple #[.int .u64 (numV s : Nat), .bool b]) (decide_eq_decide.2 (by omega))) rfl
theorem rb128_fn {n : Nat} {h : Part} (hn : n < 18446744073709551616) : Fn Tryd.prog 70 [.int .u64 n] h [] (Rets fun v _ Lo => ∃ a c, v = .slice a (b128 n).length c ∧ Lo = [.row a c 5 1 (b128 n).length (u8s (b128 n))]) := by
  refine Fn.intro Tryd.func70 rfl Tryd.ntmps70 rfl (fun e he => ?_)
  refine J.weak [(0, _)] ⟨rfl, trivial⟩ ?_
  have hh0 := Part.le.refl h
  refine Sr ?_
  refine Ru 1 rfl ?_
  refine JL.nil ?_
  refine Sr ?_
  refine Ru 1 rfl ?_
  refine JL.op (by first | exact RunV.rem_u64 rfl rfl (by omega) (by omega) | exact RunV.rem rfl rfl (by omega)) rfl ?_
  refine JL.op (RunV.toByte (n % 128) cv_87_5 rfl (by omega)) rfl ?_
  refine JL.lit1 ap_24 zr_5 rfl rfl rfl rfl rfl (fun b1 => ?_)
  refine JL.rowB (b := b1) dl_ ?_
  refine Ru 1 rfl ?_
  refine JL.nil ?_
  refine J.seq ?_
  refine Sr ?_
  refine Ru 1 rfl ?_
  refine JL.op z30_ rfl ?_
  refine Ru 1 rfl ?_
  refine Nk [0, 3, 2] rfl ?_
  refine J.block ?_
  refine J.loop (fun t_ S_ h_ L_ => ∃ (g : Part) (f m : Nat) (out : List UInt8) (la : Option Addr) (lc : Nat), t_ = m + 1 ∧ S_ = [(0, .int .u64 m), (3, .slice la out.length lc)] ∧ g = h_ ∧ L_ = [.row la lc 5 1 out.length (u8s out)] ∧ (h.le g ∧ m < 18446744073709551616 ∧ out.length + f = 11 ∧ m < 128 ^ f ∧ b128 n = hiB m ++ out)) ⟨_, _, ?_, ⟨_, 10, n / 128, [UInt8.ofNat (n % 128)], _, _, rfl, rfl, rfl, rfl, ⟨by assumption, by omega, rfl, by simp only [Nat.reducePow]; omega, rfl⟩⟩⟩ ?_
  ·
   exact z5_
  rintro _ _ _ _ ⟨g, f, m, out, la, lc, rfl, rfl, rfl, rfl, hhg, hm, hol, hmf, he⟩
  refine J.seq ?_
  refine Sr ?_
  refine Ru 2 rfl ?_
  refine JL.nil ?_
  refine Cs rfl (fun hc2 => ?_) fun hc2 => ?_
  ·
   have hst := hiB_step m (by simp only [Nat.reducePow]; omega) (by omega); obtain ⟨f', rfl⟩ : ∃ f', f = f' + 1 := ⟨f - 1, by have : f ≠ 0 := (by rintro rfl; simp at hmf; omega); omega⟩; rw [Nat.pow_succ] at hmf
   refine J.skip ?_
   refine J.seq ?_
   refine J.block ?_
   refine Sr ?_
   refine Ru 1 rfl ?_
   refine JL.nil ?_
   refine Sr ?_
   refine Ru 2 rfl ?_
   refine JL.op (by first | exact RunV.rem_u64 rfl rfl (by omega) (by omega) | exact RunV.rem rfl rfl (by omega)) rfl ?_
   refine JL.op (RunV.toByte (m % 128) cv_87_5 rfl (by omega)) rfl ?_
   refine JL.op (RunV.add_u8 rfl rfl (by rw [ofNat_toNat8 (by omega)]; omega) (by rw [ofNat_toNat8 (by omega)]; omega)) rfl ?_
   rw [show ((UInt8.ofNat (m % 128)).toNat : Int) + 128 = ((UInt8.ofNat (m % 128 + 128)).toNat : Int) from by rw [ofNat_toNat8 (by omega), ofNat_toNat8 (by omega)]; omega]
   refine JL.lit1 ap_24 zr_5 rfl rfl rfl rfl rfl (fun b3 => ?_)
   refine JL.row_nil 5 1 ?_
   refine JL.append1 ap_24 rfl rfl (CellsR.nil (R := u8R)) rfl dl_ dl_ rfl (rfl) z3_ rfl rfl (fun a4 c4 xs4 hC4 hN4 => ?_)
   obtain rfl := hC4.u8
   refine Ru 1 rfl ?_
   refine JL.nil ?_
   refine Rg ?_
   refine Ru 2 rfl ?_
   refine JL.pub (R := u8R) (l := out) dl_ CellsR.of_u8 rfl (by omega) (fun h9 hle9 hP9 => ?_); replace hhg := hhg.mono hle9
   refine JL.append ap_24 rfl rfl CellsR.of_u8 rfl (by assumption) rfl dl_ z3_ rfl rfl (fun a5 c5 xs5 hC5 hN5 => ?_)
   obtain rfl := hC5.u8
   refine Ru 1 rfl ?_
   refine JL.nil ?_
   refine Rg ?_
   refine Ru 1 rfl ?_
   refine JL.op z30_ rfl ?_
   refine Ru 1 rfl ?_
   refine JL.nil ?_
   refine ⟨_, ?_, _, ?_, ⟨_, f', m / 128, _, _, _, rfl, rfl, rfl, rfl, ⟨by assumption, by omega, by simp; omega, by omega, by rw [he, hst]; simp⟩⟩⟩
   ·
    omega
   exact z5_
  have hm0 : m = 0 := (by omega); have hbe : b128 n = out := (by rw [he, hm0]; rfl)
  refine J.exit ?_
  refine Sr ?_
  refine Ru 2 rfl ?_
  refine Nk [2] rfl ?_
  rw [hbe]; exact J.ret ⟨_, [_], _, (RetV.one rfl rfl), .cons .here .nil, _, rfl, _, _, rfl, rfl⟩
theorem rb128_fn' {n : Nat} {N : Int} {h : Part} (hN : N = (n : Int)) (hn : n < 18446744073709551616) : Fn Tryd.prog 70 [.int .u64 N] h [] (Rets fun v _ Lo => ∃ a c, v = .slice a (b128 n).length c ∧ Lo = [.row a c 5 1 (b128 n).length (u8s (b128 n))]) := by
  subst hN; exact rb128_fn hn
theorem numB_some {s : List UInt8} (h : (numB s).isSome = true) : numB s = some (numR s) ∧ numR s < 9223372036854775808 := by
  unfold numB numR at *
  split at h
  · cases h
  · rename_i hb
    split at h
    · rename_i hh
      rw [if_neg hb]
      simp only [if_neg hb, if_pos hh]
      exact ⟨trivial, hh⟩
    · cases h
theorem numB_none {s : List UInt8} (h : (numB s).isSome = false) : numB s = none := by
  cases hn : numB s with
  | none => rfl
  | some x => rw [hn] at h; cases h
theorem numsGo_char (s cur : List UInt8) (i : Nat) (h : i < s.length) (hc : byteAt s i ≠ 46) : numsGo (s.drop i) cur = numsGo (s.drop (i + 1)) (cur ++ [s[i]]) := by
  rw [List.drop_eq_getElem_cons h, numsGo, if_neg]
  intro e
  have := byteAt_eq s i h
  rw [e] at this
  exact hc this.symm
theorem numsGo_dot (s cur : List UInt8) (i : Nat) (h : i < s.length) (hc : byteAt s i = 46) : numsGo (s.drop i) cur = match numB cur with | none => none | some n => (numsGo (s.drop (i + 1)) []).map (n :: ·) := by
  have := byteAt_eq s i h
  rw [List.drop_eq_getElem_cons h, numsGo, if_pos (UInt8.toNat_inj.1 ((this.trans hc).trans rfl))]
  all_goals (cases numB cur <;> rfl)
theorem cur_next (s : List UInt8) (fr i : Nat) (h : i < s.length) (hf : fr ≤ i) : (s.drop fr).take (i + 1 - fr) = (s.drop fr).take (i - fr) ++ [s[i]] := by
  have hl : i - fr < (s.drop fr).length := by rw [List.length_drop]; omega
  have e : (s.drop fr)[i - fr]'hl = s[i] := by simp only [List.getElem_drop, show fr + (i - fr) = i by omega]
  rw [show i + 1 - fr = (i - fr) + 1 by omega, List.take_succ_eq_append_getElem hl, e]
def numsL (s : List UInt8) : List Nat × Bool := match numsGo s [] with
  | none => ([], false)
  | some l => (l, oidOk l)
theorem oidOk_eq (l : List Nat) : oidOk l = decide (2 ≤ l.length ∧ (l.getD 0 0 = 2 ∧ l.getD 1 0 < 9223372036854775728 ∨ l.getD 0 0 < 2 ∧ l.getD 1 0 < 40)) := by
  unfold oidOk; rw [← Bool.decide_or, ← Bool.decide_and]
def u64L (l : List Nat) : List UInt64 := l.map UInt64.ofNat
theorem u64L_at (l : List Nat) (i : Nat) (hl : ∀ x ∈ l, x < 9223372036854775808) (h : i < (u64L l).length) : ((u64L l)[i]'h).toNat = l.getD i 0 := by
  have hi : i < l.length := by simpa [u64L] using h
  have := hl l[i] (List.getElem_mem hi)
  simp only [u64L, List.getElem_map, UInt64.toNat_ofNat', List.getD_eq_getElem?_getD, List.getElem?_eq_getElem hi, Option.getD_some]
  omega
theorem rnumbers_fn (s : List UInt8) (h : Part) (hl : s.length ≤ 1000000000) : FnR Tryd.prog 69 [.string ⟨s.toArray⟩] h (fun v h' => ∃ a c, v = .tuple #[.slice a (u64L (numsL s).1).length c, .bool (numsL s).2] ∧ SlR u64R 1 h' a c (u64L (numsL s).1) ∧ (∀ x ∈ (numsL s).1, x < 9223372036854775808) ∧ (numsL s).1.length ≤ 1000000001) := by
  refine Fn.intro Tryd.func69 rfl Tryd.ntmps69 rfl (fun e he => ?_)
  refine J.weak [(0, _)] ⟨rfl, trivial⟩ ?_
  have hh0 := Part.le.refl h
  refine Sr ?_
  refine Ru 2 rfl ?_
  refine JL.nil ?_
  refine Sr ?_
  refine JL.row_nil 87 1 ?_
  refine Ru 1 rfl ?_
  refine JL.nil ?_
  refine Sr ?_
  refine Ru 1 rfl ?_
  refine JL.nil ?_
  refine J.seq ?_
  refine Sr ?_
  refine Ru 1 rfl ?_
  refine JL.nil ?_
  refine J.block ?_
  refine J.loop (fun t_ S_ h_ L_ => ∃ (g : Part) (i fr : Nat) (acc : List Nat) (ao : Option Addr) (co : Nat) (xs : List Value), t_ = s.length + 1 - i ∧ S_ = [(0, .string ⟨s.toArray⟩), (4, .slice ao (u64L acc).length co), (5, .int .i64 fr), (6, .int .i64 i)] ∧ g = h_ ∧ L_ = [.row ao co 87 1 (u64L acc).length xs] ∧ (h.le g ∧ i ≤ s.length + 1 ∧ fr ≤ i ∧ acc.length ≤ i ∧ CellsR u64R 1 g xs (u64L acc) ∧ (∀ x ∈ acc, x < 9223372036854775808) ∧ (i ≤ s.length → numsGo s [] = (numsGo (s.drop i) ((s.drop fr).take (i - fr))).map (acc ++ ·)) ∧ (s.length < i → numsGo s [] = some acc))) ⟨_, _, ?_, ⟨_, 0, 0, [], _, _, _, rfl, rfl, rfl, rfl, ⟨by assumption, by omega, by omega, by simp, CellsR.nil, by simp, fun _ => by simp, fun hh => by omega⟩⟩⟩ ?_
  ·
   exact z5_
  rintro _ _ _ _ ⟨g, i, fr, acc, ao, co, xs, rfl, rfl, rfl, rfl, hhg, hi, hfr, hal, hC, hx, hq1, hq2⟩
  have hul : (u64L acc).length = acc.length := List.length_map ..
  refine J.seq ?_
  refine Sr ?_
  refine Ru 2 rfl ?_
  refine JL.op (RunV.lenS un_9 rfl) rfl ?_
  refine Ru 1 rfl ?_
  refine JL.nil ?_
  refine Cs rfl (fun hc1 => ?_) fun hc1 => ?_
  ·
   refine J.skip ?_
   refine J.seq ?_
   refine J.block ?_
   refine J.seq ?_
   refine J.seq ?_
   refine J.meet [(25, .bool (decide (i < s.length ∧ byteAt s i ≠ 46)))] [(13, _), (12, _), (11, _), (10, _), (0, _), (4, _), (5, _), (6, _)] ⟨rfl, rfl, rfl, rfl, rfl, rfl, rfl, rfl, trivial⟩ ?_ ?_
   ·
    refine Rg ?_
    refine Ru 2 rfl ?_
    refine JL.op (RunV.lenS un_9 rfl) rfl ?_
    refine Ru 2 rfl ?_
    refine Bs 20 rfl (fun hc2 => ?_) fun hc2 => ?_
    ·
     refine Ru 2 rfl ?_
     refine JL.opg rfl rfl  (RunV.strIndex (m := i) un_9 rfl rfl (by omega) (by omega)) rfl ?_
     refine Ru 2 rfl ?_
     refine JL.nil ?_
     refine ⟨rfl, rfl, ?_⟩
     exact z7_
    refine Ru 5 rfl ?_
    refine JL.nil ?_
    refine ⟨rfl, rfl, ?_⟩
    exact z7_
   refine Cs rfl (fun hc3 => ?_) fun hc3 => ?_
   ·
    refine J.exit ?_
    refine Rg ?_
    refine Ru 1 rfl ?_
    refine JL.op ai_ rfl ?_
    refine Ru 1 rfl ?_
    refine JL.nil ?_
    refine ⟨_, ?_, _, ?_, ⟨_, i + 1, fr, acc, _, _, _, rfl, rfl, rfl, rfl, ⟨by assumption, by omega, by omega, by omega, by assumption, hx, fun _ => by rw [hq1 (by omega), numsGo_char s _ i (by omega) (by omega), cur_next s fr i (by omega) hfr], fun hh => by omega⟩⟩⟩
    ·
     omega
    exact z5_
   obtain ⟨cur, hcur⟩ : ∃ cur, cur = (s.drop fr).take (i - fr) := ⟨_, rfl⟩; have hq := hq1 (by omega); rw [← hcur] at hq
   refine J.skip ?_
   refine Sr ?_
   refine Ru 3 rfl ?_
   refine JL.op (RunV.strCut_lh un_9 rfl rfl rfl z6_ z6_ (by omega) (by omega)) rfl ?_
   refine JL.callP ca_73 rfl (rnumber_fn _ _ (by try (simp only [List.length_take, List.length_drop]); omega)) rfl ?_
   refine Ru 5 rfl ?_
   refine JL.nil ?_
   refine J.seq ?_
   refine Sr ?_
   refine Ru 2 rfl ?_
   refine JL.nil ?_
   refine Cs rfl (fun hc5 => ?_) fun hc5 => ?_
   ·
    have hnone : numsGo s [] = none := (by have hnb := numB_none (s := cur) (by rw [hcur]; exact hc5); rw [hq]; rcases Nat.lt_or_ge i s.length with hlt | hge; rw [numsGo_dot s _ i hlt (by omega), hnb]; rfl; rw [List.drop_of_length_le hge, numsGo, hnb]; rfl); have hnl : numsL s = ([], false) := (by unfold numsL; rw [hnone])
    refine Sr ?_
    refine Ru 2 rfl ?_
    refine JL.nil ?_
    rw [hnl]; exact J.retR (RetV.two rfl rfl rfl) ⟨none, 0, rfl, SlR.nil_, by simp, by simp⟩
   have hsome := numB_some (s := cur) (by rw [hcur]; exact hc5); rw [hcur] at hsome; have hke : u64L acc ++ [UInt64.ofNat (numR ((s.drop fr).take (i - fr)))] = u64L (acc ++ [numR ((s.drop fr).take (i - fr))]) := (by simp [u64L])
   refine J.skip ?_
   refine Sr ?_
   refine Ru 2 rfl ?_
   refine JL.lit1 ap_102 zr_87 rfl rfl rfl rfl rfl (fun b6 => ?_)
   refine JL.append1 ap_102 rfl rfl (by assumption) rfl dl_ dl_ rfl ((by show _ = _; rw [UInt64.toNat_ofNat', Nat.mod_eq_of_lt (by omega)] : u64R _ [.int .u64 (numR ((s.drop fr).take (i - fr)) : Nat)] (UInt64.ofNat (numR ((s.drop fr).take (i - fr)))))) z3_ rfl rfl (fun a7 c7 xs7 hC7 hN7 => ?_)
   rw [hke] at *
   refine Ru 1 rfl ?_
   refine JL.nil ?_
   refine Rg ?_
   refine Ru 1 rfl ?_
   refine JL.op ai_ rfl ?_
   refine Ru 1 rfl ?_
   refine JL.nil ?_
   refine Rg ?_
   refine Ru 1 rfl ?_
   refine JL.op ai_ rfl ?_
   refine Ru 1 rfl ?_
   refine JL.nil ?_
   refine ⟨_, ?_, _, ?_, ⟨_, i + 1, i + 1, acc ++ [numR ((s.drop fr).take (i - fr))], _, _, _, rfl, rfl, rfl, rfl, ⟨by assumption, by omega, by omega, by simp; omega, by assumption, by (intro y hy; rcases List.mem_append.1 hy with hy | hy; exact hx y hy; simp at hy; subst hy; exact hsome.2), fun hh => by rw [hq, numsGo_dot s _ i (by omega) (by omega), hcur, hsome.1]; simp only [Nat.sub_self, List.take_zero, Option.map_map]; congr 1; funext z; simp, fun hh => by rw [hq, List.drop_of_length_le (by omega), numsGo, hcur, hsome.1]; rfl⟩⟩⟩
   ·
    omega
   exact z5_
  have hnl : numsL s = (acc, oidOk acc) := (by unfold numsL; rw [hq2 (by omega)]); refine J.pub (R := u64R) dl_ hC rfl (by omega) (fun h9 hle9 hP9 => ?_); have e0 := u64L_at acc 0 hx; have e1 := u64L_at acc 1 hx
  refine J.exit ?_
  refine Kp [4] rfl ?_
  refine J.seq ?_
  refine J.meet [(9, .bool (oidOk acc))] [(4, _)] ⟨rfl, trivial⟩ ?_ ?_
  ·
   refine Rg ?_
   refine Ru 4 rfl ?_
   refine Bs 45 rfl (fun hc8 => ?_) fun hc8 => ?_
   ·
    refine Ru 1 rfl ?_
    refine JL.opeg rfl rfl  (RunE.index sl_102 rfl rfl (show _ = ((0 : Nat) : Int) from rfl) (by assumption) rfl (by omega)) rfl ?_
    rintro _ ⟨b9, o9, hi9, rfl, hE9⟩
    refine JL.opg rfl rfl  (RunV.ld_u64 ag_87 rfl (by assumption)) rfl ?_
    refine Ru 3 rfl ?_
    refine Bs 51 rfl (fun hc11 => ?_) fun hc11 => ?_
    ·
     refine Ru 1 rfl ?_
     refine JL.opeg rfl rfl  (RunE.index sl_102 rfl rfl (show _ = ((0 : Nat) : Int) from rfl) (by assumption) rfl (by omega)) rfl ?_
     rintro _ ⟨b12, o12, hi12, rfl, hE12⟩
     refine JL.opg rfl rfl  (RunV.ld_u64 ag_87 rfl (by assumption)) rfl ?_
     refine Ru 2 rfl ?_
     refine Bs 56 rfl (fun hc14 => ?_) fun hc14 => ?_
     ·
      refine Ru 1 rfl ?_
      refine JL.opeg rfl rfl  (RunE.index sl_102 rfl rfl (show _ = ((1 : Nat) : Int) from rfl) (by assumption) rfl (by omega)) rfl ?_
      rintro _ ⟨b15, o15, hi15, rfl, hE15⟩
      refine JL.opg rfl rfl  (RunV.ld_u64 ag_87 rfl (by assumption)) rfl ?_
      refine Ru 3 rfl ?_
      refine Bs 62 rfl (fun hc17 => ?_) fun hc17 => ?_
      ·
       refine Ru 13 rfl ?_
       refine JL.nil ?_
       refine ⟨rfl, rfl, ?_⟩
       exact z14_
      refine Ru 1 rfl ?_
      refine JL.opeg rfl rfl  (RunE.index sl_102 rfl rfl (show _ = ((0 : Nat) : Int) from rfl) (by assumption) rfl (by omega)) rfl ?_
      rintro _ ⟨b18, o18, hi18, rfl, hE18⟩
      refine JL.opg rfl rfl  (RunV.ld_u64 ag_87 rfl (by assumption)) rfl ?_
      refine Ru 2 rfl ?_
      refine Bs 67 rfl (fun hc20 => ?_) fun hc20 => ?_
      ·
       refine Ru 1 rfl ?_
       refine JL.opeg rfl rfl  (RunE.index sl_102 rfl rfl (show _ = ((1 : Nat) : Int) from rfl) (by assumption) rfl (by omega)) rfl ?_
       rintro _ ⟨b21, o21, hi21, rfl, hE21⟩
       refine JL.opg rfl rfl  (RunV.ld_u64 ag_87 rfl (by assumption)) rfl ?_
       refine Ru 5 rfl ?_
       refine JL.nil ?_
       refine ⟨rfl, rfl, ?_⟩
       exact z14_
      refine Ru 8 rfl ?_
      refine JL.nil ?_
      refine ⟨rfl, rfl, ?_⟩
      exact z14_
     refine Ru 7 rfl ?_
     refine JL.opeg rfl rfl  (RunE.index sl_102 rfl rfl (show _ = ((0 : Nat) : Int) from rfl) (by assumption) rfl (by omega)) rfl ?_
     rintro _ ⟨b23, o23, hi23, rfl, hE23⟩
     refine JL.opg rfl rfl  (RunV.ld_u64 ag_87 rfl (by assumption)) rfl ?_
     refine Ru 2 rfl ?_
     refine Bs 67 rfl (fun hc25 => ?_) fun hc25 => ?_
     ·
      refine Ru 1 rfl ?_
      refine JL.opeg rfl rfl  (RunE.index sl_102 rfl rfl (show _ = ((1 : Nat) : Int) from rfl) (by assumption) rfl (by omega)) rfl ?_
      rintro _ ⟨b26, o26, hi26, rfl, hE26⟩
      refine JL.opg rfl rfl  (RunV.ld_u64 ag_87 rfl (by assumption)) rfl ?_
      refine Ru 5 rfl ?_
      refine JL.nil ?_
      refine ⟨rfl, rfl, ?_⟩
      exact z14_
     refine Ru 8 rfl ?_
     refine JL.nil ?_
     refine ⟨rfl, rfl, ?_⟩
     exact z14_
    refine Ru 24 rfl ?_
    refine JL.nil ?_
    refine ⟨rfl, rfl, ?_⟩
    exact z14_
   refine Ru 30 rfl ?_
   refine JL.nil ?_
   refine ⟨rfl, rfl, ?_⟩
   exact z14_
  refine Sr ?_
  refine Ru 4 rfl ?_
  refine JL.nil ?_
  rw [hnl]; exact J.retR (RetV.two rfl rfl rfl) ⟨_, _, rfl, by assumption, hx, by simp only; omega⟩
theorem enc_len : ∀ (l : List Nat), (enc l).length ≤ 11 * l.length
  | [] => by simp [enc]
  | n :: r => by
    have h1 := enc_len r
    have h2 : ∀ f m, (hiF f m).length ≤ f := by
      intro f
      induction f with
      | zero => intro m; simp [hiF]
      | succ f ih => intro m; rw [hiF]; split; simp; (have := ih (m / 128); simp; omega)
    have h3 := h2 10 (n / 128)
    simp only [enc, b128, hiB, List.length_append, List.length_cons, List.length_nil]
    omega
theorem enc_append (a b : List Nat) : enc (a ++ b) = enc a ++ enc b := by
  induction a with
  | nil => rfl
  | cons n r ih => simp only [List.cons_append, enc, ih, List.append_assoc]
theorem take2_succ (l : List Nat) (i : Nat) (h2 : 2 ≤ i) (hi : i < l.length) : (l.drop 2).take (i + 1 - 2) = (l.drop 2).take (i - 2) ++ [l.getD i 0] := by
  rw [show i + 1 - 2 = (i - 2) + 1 by omega, List.take_succ_eq_append_getElem (by rw [List.length_drop]; omega), List.getElem_drop]
  congr 2
  simp [show 2 + (i - 2) = i by omega, hi]
theorem roidbytes_fn (s : List UInt8) (h : Part) (hl : s.length ≤ 1000000000) : FnR Tryd.prog 60 [.string ⟨s.toArray⟩] h (fun v h' => ∃ a c, v = .tuple #[.slice a ((oidB s).getD []).length c, .int .i64 (if (oidB s).isSome then 0 else 20)] ∧ SlR u8R 1 h' a c ((oidB s).getD [])) := by
  obtain ⟨L, ok, hL⟩ : ∃ L ok, numsL s = (L, ok) := ⟨_, _, rfl⟩
  have hB : oidB s = if ok then some (enc ((40 * L.getD 0 0 + L.getD 1 0) :: L.drop 2)) else none := by
    unfold oidB; unfold numsL at hL
    cases hn : numsGo s [] with
    | none => rw [hn] at hL; simp only [Prod.mk.injEq] at hL; rw [← hL.2]; rfl
    | some l => rw [hn] at hL; simp only [Prod.mk.injEq] at hL; obtain ⟨rfl, rfl⟩ := hL; rfl
  have hok : ok = true → 2 ≤ L.length ∧ (L.getD 0 0 = 2 ∧ L.getD 1 0 < 9223372036854775728 ∨ L.getD 0 0 < 2 ∧ L.getD 1 0 < 40) := fun hk => by
    unfold numsL at hL
    cases hn : numsGo s [] with
    | none => rw [hn] at hL; simp only [Prod.mk.injEq] at hL; rw [← hL.2] at hk; cases hk
    | some l => rw [hn] at hL; simp only [Prod.mk.injEq] at hL; obtain ⟨rfl, rfl⟩ := hL; rw [oidOk_eq] at hk; exact of_decide_eq_true hk
  have hul : (u64L L).length = L.length := List.length_map ..
  refine Fn.intro Tryd.func60 rfl Tryd.ntmps60 rfl (fun e he => ?_)
  refine J.weak [(0, _)] ⟨rfl, trivial⟩ ?_
  have hh0 := Part.le.refl h
  refine Sr ?_
  refine Ru 2 rfl ?_
  refine JL.nil ?_
  refine Sr ?_
  refine Ru 1 rfl ?_
  refine JL.callR ca_69 rfl (rnumbers_fn s _ (by omega)) rfl ?_
  rintro _ h1 hle1 ⟨a2, c2, rfl, hS2, hx2, hn2⟩
  replace hh0 := hh0.mono hle1
  rw [hL] at hx2 hn2 hS2 ⊢; simp only at hx2 hn2 hS2 ⊢; have e1 := u64L_at L 1 hx2; have e0 := u64L_at L 0 hx2
  refine Ru 5 rfl ?_
  refine Nk [5, 4, 3, 2] rfl ?_
  refine J.seq ?_
  refine Sr ?_
  refine Ru 2 rfl ?_
  refine JL.nil ?_
  refine Cs rfl (fun hc2 => ?_) fun hc2 => ?_
  ·
   have hb : oidB s = none := (by rw [hB]; simp_all)
   refine Sr ?_
   refine Ru 2 rfl ?_
   refine Nk [3, 2, 4] rfl ?_
   rw [hb]; exact J.retR (RetV.two rfl rfl rfl) ⟨none, 0, rfl, SlR.nil_⟩
  have hkt : ok = true := (by simp_all); have hoo := hok hkt; have hb : oidB s = some (enc ((40 * L.getD 0 0 + L.getD 1 0) :: L.drop 2)) := (by rw [hB, hkt]; rfl); have q0 := e0 (by omega); have q1 := e1 (by omega)
  refine J.skip ?_
  refine J.seq ?_
  refine J.held ([]) 10 mixed_ rfl (fun h00 => ?_)
  refine Tk 0 rfl (RunV.move rfl) ?_
  refine Te 1 rfl (RunE.index sl_102 rfl rfl (show _ = ((0 : Nat) : Int) from rfl) (by assumption) rfl (by omega)) ?_
  rintro _ ⟨b3, o3, hi3, rfl, hE3⟩
  refine Tk 2 rfl (RunV.ld_u64 ag_87 rfl (by assumption)) ?_
  refine Tk 3 rfl (by first | exact RunV.mul_u64 rfl rfl (by omega) (by omega) | exact RunV.mul rfl rfl) ?_
  refine Tk 4 rfl (RunV.move rfl) ?_
  refine Te 5 rfl (RunE.index sl_102 rfl rfl (show _ = ((1 : Nat) : Int) from rfl) (by assumption) rfl (by omega)) ?_
  rintro _ ⟨b5, o5, hi5, rfl, hE5⟩
  refine Tk 6 rfl (RunV.ld_u64 ag_87 rfl (by assumption)) ?_
  refine Tk 7 rfl (by first | exact RunV.add_u64 rfl rfl (by omega) (by omega) | exact RunV.add rfl rfl) ?_
  refine Ta 8 rfl ?_
  unfold One
  refine JL.call ca_70 rfl (rb128_fn' (n := 40 * L.getD 0 0 + L.getD 1 0) (by omega) (by omega)) pt_ rfl ?_
  rintro _ h7 Lo7 hle7 ⟨a7, c7, rfl, rfl⟩
  replace hh0 := hh0.mono hle7
  replace hS2 := hS2.mono hle7
  refine JL.nil ⟨(br_ h00), ?_⟩
  refine Tk 9 rfl (RunV.assign rfl) ?_
  refine JH.done (by kernel_rfl) ?_
  refine Kp [6, 4, 3, 2] rfl ?_
  refine J.seq ?_
  refine Sr ?_
  refine Ru 1 rfl ?_
  refine JL.nil ?_
  refine J.block ?_
  refine J.loop (fun t_ S_ h_ L_ => ∃ (g : Part) (i : Nat) (out : List UInt8) (la : Option Addr) (lc : Nat), t_ = L.length - i ∧ S_ = [(4, .slice a2 (u64L L).length c2), (6, .slice la out.length lc), (7, .int .i64 i)] ∧ g = h_ ∧ L_ = [.row la lc 5 1 out.length (u8s out)] ∧ (h.le g ∧ SlR u64R 1 g a2 c2 (u64L L) ∧ 2 ≤ i ∧ i ≤ L.length ∧ out = enc ((40 * L.getD 0 0 + L.getD 1 0) :: (L.drop 2).take (i - 2)))) ⟨_, _, ?_, ⟨_, 2, _, _, _, rfl, rfl, rfl, rfl, ⟨by assumption, by assumption, by omega, by omega, by simp [enc]⟩⟩⟩ ?_
  ·
   exact z5_
  rintro _ _ _ _ ⟨g, i, out, la, lc, rfl, rfl, rfl, rfl, hhg, hS2, hi2, hi, ho⟩
  refine J.seq ?_
  refine Sr ?_
  refine Ru 4 rfl ?_
  refine JL.nil ?_
  refine Cs rfl (fun hc8 => ?_) fun hc8 => ?_
  ·
   have hi' : i < L.length := (by omega); have qi := u64L_at L i hx2 (by omega); have hxi := hx2 (L.getD i 0) (by simp [hi']); have htk := take2_succ L i hi2 hi'; have hel := enc_len ((40 * L.getD 0 0 + L.getD 1 0) :: (L.drop 2).take (i - 2)); rw [← ho] at hel; have hbl : (b128 (L.getD i 0)).length ≤ 11 := (by have := enc_len [L.getD i 0]; simpa [enc] using this)
   refine J.skip ?_
   refine J.seq ?_
   refine J.block ?_
   refine Rg ?_
   refine Ru 3 rfl ?_
   refine JL.ope (RunE.index sl_102 rfl rfl z6_ (by assumption) rfl (by omega)) rfl ?_
   rintro _ ⟨b9, o9, hi9, rfl, hE9⟩
   refine JL.op (RunV.ld_u64 ag_87 rfl (by assumption)) rfl ?_
   refine JL.call ca_70 rfl (rb128_fn' (n := L.getD i 0) (by omega) (by omega)) pt_ rfl ?_
   rintro _ h11 Lo11 hle11 ⟨a11, c11, rfl, rfl⟩
   replace hhg := hhg.mono hle11
   replace hS2 := hS2.mono hle11
   refine JL.pub (R := u8R) (l := b128 (L.getD i 0)) dl_ CellsR.of_u8 rfl (by omega) (fun h9 hle9 hP9 => ?_); replace hhg := hhg.mono hle9; replace hS2 := hS2.mono hle9; simp only [List.length_cons, List.length_take, List.length_drop] at hel
   refine JL.append ap_24 rfl rfl CellsR.of_u8 rfl (by assumption) rfl dl_ z3_ rfl rfl (fun a12 c12 xs12 hC12 hN12 => ?_)
   obtain rfl := hC12.u8
   refine Ru 1 rfl ?_
   refine JL.nil ?_
   refine Rg ?_
   refine Ru 1 rfl ?_
   refine JL.op ai_ rfl ?_
   refine Ru 1 rfl ?_
   refine JL.nil ?_
   refine ⟨_, ?_, _, ?_, ⟨_, i + 1, _, _, _, rfl, rfl, rfl, rfl, ⟨by assumption, by assumption, by omega, by omega, by rw [htk, ho, ← List.cons_append, enc_append]; simp [enc]⟩⟩⟩
   ·
    omega
   exact z5_
  have hob : out = enc ((40 * L.getD 0 0 + L.getD 1 0) :: L.drop 2) := (by rw [ho, List.take_of_length_le (by rw [List.length_drop]; omega)]); have hel := enc_len ((40 * L.getD 0 0 + L.getD 1 0) :: L.drop 2); rw [← hob] at hel; simp only [List.length_cons, List.length_drop] at hel
  refine J.exit ?_
  refine Kp [6] rfl ?_
  refine Sr ?_
  refine Ru 1 rfl ?_
  refine JL.pub (R := u8R) (l := out) dl_ CellsR.of_u8 rfl (by omega) (fun h9 hle9 hP9 => ?_)
  refine Ru 2 rfl ?_
  refine JL.nil ?_
  rw [hb, Option.getD_some, ← hob]; exact J.retR (RetV.two rfl rfl rfl) ⟨_, _, rfl, by assumption⟩
theorem tail46_snoc (l : List Nat) (n : Nat) : tail46 (l ++ [n]) = tail46 l ++ ([46] ++ dgs n 1) := by
  induction l with
  | nil => simp [tail46]
  | cons m r ih => simp [tail46, ih]
theorem txtO_snoc (l : List Nat) (n : Nat) (h : l ≠ []) : txtO (l ++ [n]) = txtO l ++ [46] ++ dgs n 1 := by
  cases l with
  | nil => exact absurd rfl h
  | cons m r => simp [txtO, tail46_snoc]
theorem txtO_nil (l : List Nat) : txtO l = [] ↔ l = [] := by
  cases l with
  | nil => simp [txtO]
  | cons m r => simp [txtO]
theorem refGo_step (b : List UInt8) (i n long : Nat) (h : i < b.length) : refGo (b.drop i) n long = if 9 < long + 1 ∨ 9223372036854775808 ≤ n * 128 + byteAt b i % 128 then none else if 128 ≤ byteAt b i then refGo (b.drop (i + 1)) (n * 128 + byteAt b i % 128) (long + 1) else (refGo (b.drop (i + 1)) 0 0).map (fun l => (n * 128 + byteAt b i % 128) :: l) := by
  rw [List.drop_eq_getElem_cons h, refGo, byteAt_eq b i h]
theorem roidtext_fn {a0 : Option Addr} {c0 : Nat} {l : List UInt8} {h : Part} (hl : SlR u8R 1 h a0 c0 l) (hb : l.length ≤ 10000000) :
    Pure Tryd.prog 47 [.slice a0 l.length c0] h (.tuple #[.string ⟨((oidT l).getD []).toArray⟩, .int .i64 (if (oidT l).isSome then 0 else 20)]) := by
  rw [refO_oidT]
  refine Pure.ofV ?_
  refine Fn.intro Tryd.func47 rfl Tryd.ntmps47 rfl (fun e he => ?_)
  refine J.weak [(0, _)] ⟨rfl, trivial⟩ ?_
  refine Sr ?_
  refine Ru 2 rfl ?_
  refine JL.nil ?_
  refine Sr ?_
  refine Ru 1 rfl ?_
  refine JL.nil ?_
  refine Sr ?_
  refine Ru 1 rfl ?_
  refine JL.nil ?_
  refine Sr ?_
  refine Ru 1 rfl ?_
  refine JL.nil ?_
  refine J.seq ?_
  refine Sr ?_
  refine Ru 1 rfl ?_
  refine JL.nil ?_
  refine J.block ?_
  refine J.loop (fun t_ S_ h_ L_ => ∃ (i n long : Nat) (acc : List Nat) (s : List UInt8), t_ = l.length - i ∧ S_ = [(0, .slice a0 l.length c0), (4, .string ⟨s.toArray⟩), (5, .int .u64 n), (6, .int .i64 long), (7, .int .i64 i)] ∧ h = h_ ∧ L_ = [] ∧ (i ≤ l.length ∧ n < 128 ^ long ∧ long ≤ 9 ∧ s = txtO acc ∧ s.length ≤ 42 * i ∧ refGo l 0 0 = (refGo (l.drop i) n long).map (acc ++ ·) ∧ (∀ x ∈ acc, x < 9223372036854775808))) ⟨_, _, ?_, ⟨0, 0, 0, [], [], rfl, rfl, rfl, rfl, ⟨by omega, by simp, by omega, rfl, by simp, by simp, by simp⟩⟩⟩ ?_
  ·
   exact z5_
  rintro _ _ _ _ ⟨i, n, long, acc, s, rfl, rfl, rfl, rfl, hi, hn, hlg, hs, hsl, hq, hx⟩
  have h128 : long ≤ 8 → (128 : Nat) ^ long ≤ 72057594037927936 := (fun hh => Nat.le_trans (Nat.pow_le_pow_right (by decide) hh) (by decide))
  refine J.seq ?_
  refine Sr ?_
  refine Ru 4 rfl ?_
  refine JL.nil ?_
  refine Cs rfl (fun hc1 => ?_) fun hc1 => ?_
  ·
   have hi' : i < l.length := (by omega); have hst := refGo_step l i n long hi'; have hbt := byteAt_lt l i; have hbe := byteAt_eq l i hi'
   refine J.skip ?_
   refine J.seq ?_
   refine J.block ?_
   refine Sr ?_
   refine Ru 1 rfl ?_
   refine JL.op (RunV.mul rfl rfl) rfl ?_
   refine Ru 2 rfl ?_
   refine JL.ope (RunE.index sl_24 rfl rfl z6_ (by assumption) rfl (by omega)) rfl ?_
   rintro _ ⟨b2, o2, hi2, rfl, hE2⟩
   refine JL.op (RunV.ld_u8 ag_5 rfl (by assumption)) rfl ?_
   refine JL.op (RunV.rem_u8 rfl rfl (by omega) (by omega)) rfl ?_
   refine JL.op (by first | exact RunV.convb_u64 cv_5_87 rfl | exact RunV.conv_u64 cv_5_87 rfl (by omega) (by omega) | exact RunV.conv cv_5_87 rfl) rfl ?_
   refine JL.op (RunV.add rfl rfl) rfl ?_
   rw [show IntKind.u64.wrap (IntKind.u64.wrap ((n : Int) * 128) + (l[i].toNat : Int) % 128) = (((n * 128 + byteAt l i % 128) % 18446744073709551616 : Nat) : Int) from by rw [IntKind.wrap_u64, IntKind.wrap_u64, hbe]; omega]
   refine Ru 1 rfl ?_
   refine JL.nil ?_
   refine Sr ?_
   refine Ru 1 rfl ?_
   refine JL.op ai_ rfl ?_
   refine Ru 1 rfl ?_
   refine JL.nil ?_
   refine J.seq ?_
   refine J.seq ?_
   refine J.meet [(33, .bool (decide (9 < long + 1 ∨ 9223372036854775808 ≤ (n * 128 + byteAt l i % 128) % 18446744073709551616)))] [(6, _), (27, _), (26, _), (5, _), (25, _), (24, _), (23, _), (22, _), (21, _), (20, _), (19, _), (18, _), (17, _), (14, _), (13, _), (12, _), (11, _), (0, _), (4, _), (7, _)] ⟨rfl, rfl, rfl, rfl, rfl, rfl, rfl, rfl, rfl, rfl, rfl, rfl, rfl, rfl, rfl, rfl, rfl, rfl, rfl, rfl, trivial⟩ ?_ ?_
   ·
    refine Rg ?_
    refine Ru 3 rfl ?_
    refine Bs 30 rfl (fun hc4 => ?_) fun hc4 => ?_
    ·
     refine Ru 3 rfl ?_
     refine JL.nil ?_
     refine ⟨rfl, rfl, ?_⟩
     exact z7_
    refine Ru 3 rfl ?_
    refine JL.nil ?_
    refine ⟨rfl, rfl, ?_⟩
    exact z7_
   refine Cs rfl (fun hc5 => ?_) fun hc5 => ?_
   ·
    have hcz : 9 < long + 1 ∨ 9223372036854775808 ≤ n * 128 + byteAt l i % 128 := (by rcases Nat.lt_or_ge 8 long with hl8 | hl8; left; omega; have := h128 hl8; omega); have hro : refO l = none := (by unfold refO; rw [hq, hst, if_pos hcz]; rfl)
    refine Sr ?_
    refine Ru 2 rfl ?_
    refine JL.nil ?_
    exact J.retV (RetV.two rfl rfl rfl) (by rw [hro]; rfl)
   have hl8 : long ≤ 8 := (by omega); have h12 := h128 hl8; have hcz : ¬ (9 < long + 1 ∨ 9223372036854775808 ≤ n * 128 + byteAt l i % 128) := (by omega); rw [if_neg hcz] at hst; obtain ⟨N, hN⟩ : ∃ N, N = n * 128 + byteAt l i % 128 := ⟨_, rfl⟩; have hNm : (n * 128 + byteAt l i % 128) % 18446744073709551616 = N := (by omega); rw [hNm]; have hN63 : N < 9223372036854775808 := (by omega); rw [← hN] at hst
   refine J.skip ?_
   refine J.seq ?_
   refine Sr ?_
   refine Ru 2 rfl ?_
   refine JL.ope (RunE.index sl_24 rfl rfl z6_ (by assumption) rfl (by omega)) rfl ?_
   rintro _ ⟨b6, o6, hi6, rfl, hE6⟩
   refine JL.op (RunV.ld_u8 ag_5 rfl (by assumption)) rfl ?_
   refine Ru 1 rfl ?_
   refine JL.nil ?_
   refine Cs rfl (fun hc8 => ?_) fun hc8 => ?_
   ·
    refine J.exit ?_
    refine Rg ?_
    refine Ru 1 rfl ?_
    refine JL.op ai_ rfl ?_
    refine Ru 1 rfl ?_
    refine JL.nil ?_
    refine ⟨_, ?_, _, ?_, ⟨i + 1, N, long + 1, acc, s, rfl, rfl, rfl, rfl, ⟨by omega, by rw [Nat.pow_succ]; omega, by omega, hs, by omega, by rw [hq, hst, if_pos (by omega)], hx⟩⟩⟩
    ·
     omega
    exact z5_
   rw [if_neg (by omega)] at hst
   refine J.skip ?_
   refine J.seq ?_
   refine Sr ?_
   refine Ru 1 rfl ?_
   refine JL.op (RunV.eqlS rfl rfl) rfl ?_
   refine JL.nil ?_
   refine Cs rfl (fun hc9 => ?_) fun hc9 => ?_
   ·
    have ha0 : acc = [] := (txtO_nil acc).1 (by rw [← hs]; exact hc9); obtain ⟨m2, hm2⟩ : ∃ m2 : Nat, m2 = N - 40 * min (N / 40) 2 := ⟨_, rfl⟩; have hdl := dgs_len (min (N / 40) 2) 1; have hdl2 := dgs_len m2 1
    refine Sr ?_
    refine Ru 1 rfl ?_
    refine JL.nil ?_
    refine J.seq ?_
    refine Sr ?_
    refine Ru 2 rfl ?_
    refine JL.nil ?_
    refine J.meet [(8, .int .u64 (min (N / 40) 2 : Nat))] [(41, _), (40, _), (39, _), (38, _), (37, _), (36, _), (35, _), (34, _), (33, _), (6, _), (27, _), (26, _), (5, _), (25, _), (24, _), (23, _), (22, _), (21, _), (20, _), (19, _), (18, _), (17, _), (14, _), (13, _), (12, _), (11, _), (0, _), (4, _), (7, _)] ⟨rfl, rfl, rfl, rfl, rfl, rfl, rfl, rfl, rfl, rfl, rfl, rfl, rfl, rfl, rfl, rfl, rfl, rfl, rfl, rfl, rfl, rfl, rfl, rfl, rfl, rfl, rfl, rfl, rfl, trivial⟩ ?_ ?_
    ·
     refine Cs rfl (fun hc10 => ?_) fun hc10 => ?_
     ·
      refine Rg ?_
      refine Ru 1 rfl ?_
      refine JL.op z30_ rfl ?_
      refine Ru 1 rfl ?_
      refine JL.nil ?_
      refine ⟨rfl, rfl, ?_⟩
      exact z4_
     refine J.skip ?_
     refine ⟨rfl, rfl, ?_⟩
     exact z4_
    refine Sr ?_
    refine Ru 1 rfl ?_
    refine JL.callP ca_59 rfl (rdigits_fn' (n := min (N / 40) 2) (least := 1) (by omega) rfl (by omega) (by omega)) rfl ?_
    refine Ru 1 rfl ?_
    refine JL.nil ?_
    refine Rg ?_
    refine Ru 2 rfl ?_
    refine JL.op (by first | exact RunV.mul_u64 rfl rfl (by omega) (by omega) | exact RunV.mul rfl rfl) rfl ?_
    refine JL.op (by first | exact RunV.sub_u64 rfl rfl (by omega) (by omega) | exact RunV.sub rfl rfl) rfl ?_
    refine Ru 1 rfl ?_
    refine JL.nil ?_
    refine Sr ?_
    refine Ru 1 rfl ?_
    refine JL.op (RunV.addS rfl rfl z3_) rfl ?_
    refine Ru 1 rfl ?_
    refine JL.callP ca_59 rfl (rdigits_fn' (n := m2) (least := 1) (by omega) rfl (by omega) (by omega)) rfl ?_
    refine JL.op (RunV.addS rfl rfl z3_) rfl ?_
    refine Ru 1 rfl ?_
    refine JL.nil ?_
    refine Sr ?_
    refine Ru 1 rfl ?_
    refine JL.nil ?_
    refine Rg ?_
    refine Ru 1 rfl ?_
    refine Nk [6, 5, 4, 55, 54, 53, 52, 51, 50, 49, 48, 47, 46, 45, 8, 41, 40, 39, 38, 37, 36, 35, 34, 33, 27, 26, 25, 24, 23, 22, 21, 20, 19, 18, 17, 14, 13, 12, 11, 0, 7] rfl ?_
    refine Rg ?_
    refine Ru 1 rfl ?_
    refine JL.op ai_ rfl ?_
    refine Ru 1 rfl ?_
    refine JL.nil ?_
    refine ⟨_, ?_, _, ?_, ⟨i + 1, 0, 0, acc ++ [N], dgs (min (N / 40) 2) 1 ++ [46] ++ dgs m2 1, rfl, rfl, rfl, rfl, ⟨by omega, by simp, by omega, by rw [ha0, hm2]; simp [txtO, tail46], by simp only [List.length_append, List.length_cons, List.length_nil]; omega, by rw [hq, hst, Option.map_map]; congr 1; funext z; simp, by (intro y hy; rcases List.mem_append.1 hy with hy | hy; exact hx y hy; simp at hy; subst hy; exact hN63)⟩⟩⟩
    ·
     omega
    exact z5_
   have ha0 : acc ≠ [] := (fun e => hc9 (by rw [hs]; exact (txtO_nil acc).2 e)); obtain ⟨m2, hm2⟩ : ∃ m2 : Nat, m2 = N := ⟨_, rfl⟩; have hdl2 := dgs_len m2 1
   refine J.skip ?_
   refine Sr ?_
   refine Ru 1 rfl ?_
   refine JL.op (RunV.addS rfl rfl z3_) rfl ?_
   refine Ru 1 rfl ?_
   refine JL.callP ca_59 rfl (rdigits_fn' (n := m2) (least := 1) (by omega) rfl (by omega) (by omega)) rfl ?_
   refine JL.op (RunV.addS rfl rfl z3_) rfl ?_
   refine Ru 1 rfl ?_
   refine JL.nil ?_
   refine Sr ?_
   refine Ru 1 rfl ?_
   refine Nk [5, 4, 55, 54, 53, 52, 51, 40, 39, 38, 37, 36, 35, 34, 33, 6, 27, 26, 25, 24, 23, 22, 21, 20, 19, 18, 17, 14, 13, 12, 11, 0, 7] rfl ?_
   refine Rg ?_
   refine Ru 1 rfl ?_
   refine JL.nil ?_
   refine Rg ?_
   refine Ru 1 rfl ?_
   refine JL.op ai_ rfl ?_
   refine Ru 1 rfl ?_
   refine JL.nil ?_
   refine ⟨_, ?_, _, ?_, ⟨i + 1, 0, 0, acc ++ [N], s ++ [46] ++ dgs m2 1, rfl, rfl, rfl, rfl, ⟨by omega, by simp, by omega, by rw [txtO_snoc _ _ ha0, hs, hm2], by simp only [List.length_append, List.length_cons, List.length_nil]; omega, by rw [hq, hst, Option.map_map]; congr 1; funext z; simp, by (intro y hy; rcases List.mem_append.1 hy with hy | hy; exact hx y hy; simp at hy; subst hy; exact hN63)⟩⟩⟩
   ·
    omega
   exact z5_
  have hrg : refGo l 0 0 = some acc := (by rw [hq, List.drop_of_length_le (by omega), refGo]; simp); have hro : refO l = if acc ≠ [] ∧ enc acc = l then some acc else none := (by unfold refO; rw [hrg]); have hob := oidB_txt acc hx; rw [← hs] at hob; have hA : acc = [] → oidB s = none := (fun ha => by rw [hob, if_pos ha]); have hB : acc ≠ [] → oidB s = some (enc acc) := (fun ha => by rw [hob, if_neg ha])
  refine J.exit ?_
  refine Kp [0, 4] rfl ?_
  refine Sr ?_
  refine Ru 1 rfl ?_
  refine JL.callR ca_60 rfl (roidbytes_fn _ _ (by omega)) rfl ?_
  rintro _ h14 hle14 ⟨a14, c14, rfl, hS14⟩
  replace hl := hl.mono hle14
  refine Ru 5 rfl ?_
  refine Nk [10, 9, 0, 4] rfl ?_
  refine J.seq ?_
  refine Sr ?_
  refine Ru 3 rfl ?_
  refine Bs 63 rfl (fun hc15 => ?_) fun hc15 => ?_
  ·
   refine Ru 6 rfl ?_
   refine Nk [69, 4] rfl ?_
   refine J.cond_t rfl ?_
   refine Sr ?_
   refine Ru 2 rfl ?_
   refine JL.nil ?_
   exact J.retV (RetV.two rfl rfl rfl) (by
     rcases Classical.em (acc = []) with ha | ha
     · have hz := hA ha; rw [hro, if_neg (fun k => k.1 ha)]; first | rfl | (exfalso; simp_all; done)
     · have hz := hB ha
       by_cases hq9 : enc acc = l
       · rw [hro, if_pos ⟨ha, hq9⟩]; first | (rw [hs]; rfl) | (exfalso; simp_all; done)
       · rw [hro, if_neg (fun k => hq9 k.2)]; first | rfl | (exfalso; simp_all; done))
  refine Ru 1 rfl ?_
  refine JL.opg rfl rfl  (RunV.strB sb_24_9 rfl (by assumption) rfl) rfl ?_
  refine Ru 1 rfl ?_
  refine JL.opg rfl rfl  (RunV.strB sb_24_9 rfl (by assumption) rfl) rfl ?_
  refine JL.opg rfl rfl  (RunV.neqS rfl rfl) rfl ?_
  refine Ru 1 rfl ?_
  refine Nk [69, 4] rfl ?_
  refine Cs rfl (fun hc16 => ?_) fun hc16 => ?_
  ·
   refine Sr ?_
   refine Ru 2 rfl ?_
   refine JL.nil ?_
   exact J.retV (RetV.two rfl rfl rfl) (by
     rcases Classical.em (acc = []) with ha | ha
     · have hz := hA ha; rw [hro, if_neg (fun k => k.1 ha)]; first | rfl | (exfalso; simp_all; done)
     · have hz := hB ha
       by_cases hq9 : enc acc = l
       · rw [hro, if_pos ⟨ha, hq9⟩]; first | (rw [hs]; rfl) | (exfalso; simp_all; done)
       · rw [hro, if_neg (fun k => hq9 k.2)]; first | rfl | (exfalso; simp_all; done))
  refine J.skip ?_
  refine Sr ?_
  refine Ru 3 rfl ?_
  refine JL.nil ?_
  exact J.retV (RetV.two rfl rfl rfl) (by
    rcases Classical.em (acc = []) with ha | ha
    · have hz := hA ha; rw [hro, if_neg (fun k => k.1 ha)]; first | rfl | (exfalso; simp_all; done)
    · have hz := hB ha
      by_cases hq9 : enc acc = l
      · rw [hro, if_pos ⟨ha, hq9⟩]; first | (rw [hs]; rfl) | (exfalso; simp_all; done)
      · rw [hro, if_neg (fun k => hq9 k.2)]; first | rfl | (exfalso; simp_all; done))
end Go.Proofs.YtldbjnhfkjicjaaDoor
namespace Go.Proofs.YtldbjnhfkjicjaaDoor
open Go Go.RowKit
theorem z15_ {p : Prop} (u : p := by repeat (first | exact trivial | refine ⟨rfl, ?_⟩ | refine ⟨(by exact some_bool (by first | exact decide_eq_decide.2 (by unfold atOk; omega) | exact (decide_eq_false (by unfold atOk; omega)).symm | exact (decide_eq_true (by unfold atOk; omega)).symm | (rw [← decide_not]; exact decide_eq_decide.2 (by unfold atOk; omega)))), ?_⟩)) : p := u
theorem z19_ {p : Prop} (u : p := by unfold daysI monthI; rw [hlp]; congr 1; simp only [if_true, Bool.false_eq_true, if_false]; (repeat' split) <;> omega) : p := u
theorem z26_ {p : Prop} (u : p := by simp only [List.length_take, List.length_drop]; omega) : p := u
end Go.Proofs.YtldbjnhfkjicjaaDoor
namespace Go.Proofs.YtldbjnhfkjicjaaDoor
open Go Go.RowKit
set_option maxRecDepth 100000
theorem ca_63 : callT Tryd.prog 63 = true := by kernel_rfl
theorem ca_64 : callT Tryd.prog 64 = true := by kernel_rfl
theorem ca_71 : callT Tryd.prog 71 = true := by kernel_rfl
theorem ca_74 : callT Tryd.prog 74 = true := by kernel_rfl
def daysI (y m : Int) : Int := if m = 0 then (if leapB y then 366 else 365) else monthI y m
theorem leapB_iff (y : Int) : leapB y = decide (y % 4 = 0 ∧ y % 100 ≠ 0 ∨ y % 400 = 0) := by
  unfold leapB
  rw [← Bool.decide_or, ← Bool.decide_and]
  exact decide_eq_decide.2 (by omega)
theorem days_fn (y m : Int) (h : Part) (h0 : 0 ≤ y) : Pure Tryd.prog 74 [.int .i64 y, .int .i64 m] h (.int .i64 (daysI y m)) := by
  have hlp := leapB_iff y
  refine Fn.intro Tryd.func74 rfl Tryd.ntmps74 rfl (fun e he => ?_)
  refine J.weak [(0, _), (1, _)] ⟨rfl, rfl, trivial⟩ ?_
  refine Sr ?_
  refine Ru 1 rfl ?_
  refine JL.nil ?_
  refine Sr ?_
  refine Ru 1 rfl ?_
  refine JL.nil ?_
  refine J.seq ?_
  refine J.seq ?_
  refine J.meet [(18, .bool (decide (y % 4 = 0 ∧ y % 100 ≠ 0 ∨ y % 400 = 0)))] [(5, _), (4, _), (1, _)] ⟨rfl, rfl, rfl, trivial⟩ ?_ ?_
  ·
   refine Rg ?_
   refine Ru 1 rfl ?_
   refine JL.op z24_ rfl ?_
   refine Ru 2 rfl ?_
   refine Bs 9 rfl (fun hc1 => ?_) fun hc1 => ?_
   ·
    refine Ru 1 rfl ?_
    refine JL.opg rfl rfl  z24_ rfl ?_
    refine Ru 3 rfl ?_
    refine Bs 14 rfl (fun hc2 => ?_) fun hc2 => ?_
    ·
     refine Ru 4 rfl ?_
     refine JL.nil ?_
     refine ⟨rfl, rfl, ?_⟩
     exact z7_
    refine Ru 1 rfl ?_
    refine JL.opg rfl rfl  z24_ rfl ?_
    refine Ru 2 rfl ?_
    refine JL.nil ?_
    refine ⟨rfl, rfl, ?_⟩
    exact z7_
   refine Ru 6 rfl ?_
   refine JL.opg rfl rfl  z24_ rfl ?_
   refine Ru 2 rfl ?_
   refine JL.nil ?_
   refine ⟨rfl, rfl, ?_⟩
   exact z7_
  refine Cs rfl (fun hc3 => ?_) fun hc3 => ?_
  ·
   rw [decide_eq_true hc3] at hlp
   refine Rg ?_
   refine Ru 1 rfl ?_
   refine JL.nil ?_
   refine J.seq ?_
   refine Sr ?_
   refine Ru 1 rfl ?_
   refine JL.nil ?_
   refine J.block ?_
   refine Sr ?_
   refine Ru 2 rfl ?_
   refine Nk [20, 19, 5, 4] rfl ?_
   refine Cs rfl (fun hc4 => ?_) fun hc4 => ?_
   ·
    refine Sr ?_
    refine Ru 1 rfl ?_
    refine JL.op ai_ rfl ?_
    refine Ru 1 rfl ?_
    refine Nk [4] rfl ?_
    exact J.retP (RetV.one rfl rfl) z19_ rfl
   refine Sr ?_
   refine Ru 2 rfl ?_
   refine JL.nil ?_
   refine Cs rfl (fun hc5 => ?_) fun hc5 => ?_
   ·
    refine Sr ?_
    refine Ru 1 rfl ?_
    refine JL.op ai_ rfl ?_
    refine Ru 1 rfl ?_
    refine Nk [4] rfl ?_
    exact J.retP (RetV.one rfl rfl) z19_ rfl
   refine J.seq ?_
   refine Sr ?_
   refine Ru 2 rfl ?_
   refine Nk [28, 19, 4] rfl ?_
   refine Cs rfl (fun hc6 => ?_) fun hc6 => ?_
   ·
    refine J.skip ?_
    refine J.cond_t rfl ?_
    refine Sr ?_
    refine Ru 1 rfl ?_
    refine JL.nil ?_
    exact J.retP (RetV.one rfl rfl) z19_ rfl
   refine Sr ?_
   refine Ru 2 rfl ?_
   refine JL.nil ?_
   refine Cs rfl (fun hc7 => ?_) fun hc7 => ?_
   ·
    refine J.skip ?_
    refine Kp [28, 4] rfl ?_
    refine J.cond_t rfl ?_
    refine Sr ?_
    refine Ru 1 rfl ?_
    refine JL.nil ?_
    exact J.retP (RetV.one rfl rfl) z19_ rfl
   refine Sr ?_
   refine Ru 2 rfl ?_
   refine Nk [28, 19, 4] rfl ?_
   refine Cs rfl (fun hc8 => ?_) fun hc8 => ?_
   ·
    refine J.skip ?_
    refine J.cond_t rfl ?_
    refine Sr ?_
    refine Ru 1 rfl ?_
    refine JL.nil ?_
    exact J.retP (RetV.one rfl rfl) z19_ rfl
   refine Rg ?_
   refine Ru 2 rfl ?_
   refine JL.nil ?_
   refine Cs rfl (fun hc9 => ?_) fun hc9 => ?_
   ·
    refine Sr ?_
    refine Ru 1 rfl ?_
    refine Nk [4] rfl ?_
    exact J.retP (RetV.one rfl rfl) z19_ rfl
   refine J.skip ?_
   refine Kp [4] rfl ?_
   refine Sr ?_
   refine Ru 1 rfl ?_
   refine JL.nil ?_
   exact J.retP (RetV.one rfl rfl) z19_ rfl
  rw [decide_eq_false hc3] at hlp
  refine J.skip ?_
  refine J.seq ?_
  refine Sr ?_
  refine Ru 1 rfl ?_
  refine JL.nil ?_
  refine J.block ?_
  refine Sr ?_
  refine Ru 2 rfl ?_
  refine JL.nil ?_
  refine Cs rfl (fun hc10 => ?_) fun hc10 => ?_
  ·
   refine Sr ?_
   refine Ru 1 rfl ?_
   refine JL.op ai_ rfl ?_
   refine Ru 1 rfl ?_
   refine Nk [4] rfl ?_
   exact J.retP (RetV.one rfl rfl) z19_ rfl
  refine Sr ?_
  refine Ru 2 rfl ?_
  refine Nk [24, 19, 5, 4] rfl ?_
  refine Cs rfl (fun hc11 => ?_) fun hc11 => ?_
  ·
   refine Sr ?_
   refine Ru 1 rfl ?_
   refine JL.op ai_ rfl ?_
   refine Ru 1 rfl ?_
   refine Nk [4] rfl ?_
   exact J.retP (RetV.one rfl rfl) z19_ rfl
  refine J.seq ?_
  refine Sr ?_
  refine Ru 2 rfl ?_
  refine JL.nil ?_
  refine Cs rfl (fun hc12 => ?_) fun hc12 => ?_
  ·
   refine J.skip ?_
   refine Kp [28, 4] rfl ?_
   refine J.cond_t rfl ?_
   refine Sr ?_
   refine Ru 1 rfl ?_
   refine JL.nil ?_
   exact J.retP (RetV.one rfl rfl) z19_ rfl
  refine Sr ?_
  refine Ru 2 rfl ?_
  refine Nk [28, 19, 4] rfl ?_
  refine Cs rfl (fun hc13 => ?_) fun hc13 => ?_
  ·
   refine J.skip ?_
   refine J.cond_t rfl ?_
   refine Sr ?_
   refine Ru 1 rfl ?_
   refine JL.nil ?_
   exact J.retP (RetV.one rfl rfl) z19_ rfl
  refine Sr ?_
  refine Ru 2 rfl ?_
  refine JL.nil ?_
  refine Cs rfl (fun hc14 => ?_) fun hc14 => ?_
  ·
   refine J.skip ?_
   refine Kp [28, 4] rfl ?_
   refine J.cond_t rfl ?_
   refine Sr ?_
   refine Ru 1 rfl ?_
   refine JL.nil ?_
   exact J.retP (RetV.one rfl rfl) z19_ rfl
  refine Rg ?_
  refine Ru 2 rfl ?_
  refine Nk [28, 4] rfl ?_
  refine Cs rfl (fun hc15 => ?_) fun hc15 => ?_
  ·
   refine Sr ?_
   refine Ru 1 rfl ?_
   refine JL.nil ?_
   exact J.retP (RetV.one rfl rfl) z19_ rfl
  refine J.skip ?_
  refine Sr ?_
  refine Ru 1 rfl ?_
  refine JL.nil ?_
  exact J.retP (RetV.one rfl rfl) z19_ rfl
theorem daysI_bd (y m : Int) : 28 ≤ daysI y m ∧ daysI y m ≤ 366 := by
  have := monthI_bd y m
  unfold daysI; (repeat' split) <;> omega
def partI (s : List UInt8) : Int := if s.all dig then numV s else -1
theorem part_fn (s : List UInt8) (h : Part) (hl : s.length ≤ 18) : Pure Tryd.prog 63 [.string ⟨s.toArray⟩] h (.int .i64 (partI s)) := by
  refine Fn.intro Tryd.func63 rfl Tryd.ntmps63 rfl (fun e he => ?_)
  refine J.weak [(0, _)] ⟨rfl, trivial⟩ ?_
  refine Sr ?_
  refine Ru 1 rfl ?_
  refine JL.nil ?_
  refine Sr ?_
  refine Ru 1 rfl ?_
  refine JL.nil ?_
  refine J.seq ?_
  refine Sr ?_
  refine Ru 1 rfl ?_
  refine JL.nil ?_
  refine J.block ?_
  refine J.loop (fun t_ S_ h_ L_ => ∃ (i : Nat), t_ = s.length - i ∧ S_ = [(0, .string ⟨s.toArray⟩), (3, .int .i64 (numV (s.take i) : Nat)), (4, .int .i64 i)] ∧ h = h_ ∧ L_ = [] ∧ (i ≤ s.length ∧ (s.take i).all dig = true ∧ numV (s.take i) < 10 ^ i)) ⟨_, _, ?_, ⟨0, rfl, rfl, rfl, rfl, ⟨by omega, by simp, by simp [numV]⟩⟩⟩ ?_
  ·
   exact z34_
  rintro _ _ _ _ ⟨i, rfl, rfl, rfl, rfl, hi, hd, hv⟩
  refine J.seq ?_
  refine Sr ?_
  refine Ru 2 rfl ?_
  refine JL.op (RunV.lenS un_9 rfl) rfl ?_
  refine Ru 1 rfl ?_
  refine JL.nil ?_
  refine Cs rfl (fun hc1 => ?_) fun hc1 => ?_
  ·
   have hi' : i < s.length := (by omega); have hst := numV_take s i hi'; have hat := all_take s i hi'; have hp : 10 ^ i ≤ 100000000000000000 := Nat.le_trans (Nat.pow_le_pow_right (by decide) (show i ≤ 17 by omega)) (by decide); have hbl := byteAt_lt s i; have hbi : byteAt s i = (s.getD i 0).toNat := rfl
   refine J.skip ?_
   refine J.seq ?_
   refine J.block ?_
   refine J.seq ?_
   refine Sr ?_
   refine Ru 2 rfl ?_
   refine JL.op (RunV.strIndex (m := i) un_9 rfl rfl (by omega) (by omega)) rfl ?_
   refine JL.op z11_ rfl ?_
   refine JL.callP ca_62 rfl (between_fn _ _ _ _) rfl ?_
   refine Ru 1 rfl ?_
   refine JL.nil ?_
   refine Cs rfl (fun hc3 => ?_) fun hc3 => ?_
   ·
    have hnr : partI s = -1 := (by have hb : s.all dig = false := (by rw [List.all_eq_false]; exact ⟨s[i], List.getElem_mem _, by have e := byteAt_eq s i hi'; unfold dig; rw [decide_eq_false (by omega)]; decide⟩); unfold partI; rw [hb]; rfl)
    refine Sr ?_
    refine Ru 1 rfl ?_
    refine JL.nil ?_
    exact J.retP (RetV.one rfl rfl) (by rw [hnr]) rfl
   refine J.skip ?_
   refine Rg ?_
   refine Ru 1 rfl ?_
   refine JL.op z16_ rfl ?_
   refine Ru 2 rfl ?_
   refine JL.op (RunV.strIndex (m := i) un_9 rfl rfl (by omega) (by omega)) rfl ?_
   refine JL.op (by first | exact RunV.sub_u8 rfl rfl (by omega) (by omega) | exact RunV.sub rfl rfl) rfl ?_
   refine JL.op z11_ rfl ?_
   refine JL.op ai_ rfl ?_
   refine Ru 1 rfl ?_
   refine JL.nil ?_
   refine Rg ?_
   refine Ru 1 rfl ?_
   refine JL.op ai_ rfl ?_
   refine Ru 1 rfl ?_
   refine JL.nil ?_
   refine ⟨_, ?_, _, ?_, ⟨i + 1, rfl, rfl, rfl, rfl, ⟨by omega, by rw [hat, hd, decide_eq_true (by omega)]; rfl, by rw [hst, Nat.pow_succ]; omega⟩⟩⟩
   ·
    omega
   exact z34_
  have hie : s.take i = s := List.take_of_length_le (by omega); rw [hie] at hd hv ⊢; have hnr : partI s = numV s := if_pos hd
  refine J.exit ?_
  refine Kp [3] rfl ?_
  refine Sr ?_
  refine Ru 2 rfl ?_
  refine JL.nil ?_
  exact J.retP (RetV.one rfl rfl) (by rw [hnr]) rfl
theorem byteAt_cut (s : List UInt8) (i n j : Nat) (h : j < n) : byteAt ((s.drop i).take n) j = byteAt s (i + j) := by
  unfold byteAt
  simp only [List.getD_eq_getElem?_getD]
  rw [List.getElem?_take, if_pos h, List.getElem?_drop]
theorem part2 (l : List UInt8) (h : l.length = 2) : partI l = if 48 ≤ byteAt l 0 ∧ byteAt l 0 ≤ 57 ∧ 48 ≤ byteAt l 1 ∧ byteAt l 1 ≤ 57 then (byteAt l 0 - 48 : Int) * 10 + (byteAt l 1 - 48) else -1 := by
  match l, h with
  | [a, b], _ =>
    have ha : byteAt [a, b] 0 = a.toNat := rfl
    have hb : byteAt [a, b] 1 = b.toNat := rfl
    rw [ha, hb]
    unfold partI numV dig
    simp only [List.all_cons, List.all_nil, Bool.and_true, List.foldl_cons, List.foldl_nil, Bool.and_eq_true, decide_eq_true_eq]
    split
    · rw [if_pos (by omega)]; omega
    · rw [if_neg (by omega)]
theorem part4 (l : List UInt8) (h : l.length = 4) : partI l = if (48 ≤ byteAt l 0 ∧ byteAt l 0 ≤ 57 ∧ 48 ≤ byteAt l 1 ∧ byteAt l 1 ≤ 57) ∧ 48 ≤ byteAt l 2 ∧ byteAt l 2 ≤ 57 ∧ 48 ≤ byteAt l 3 ∧ byteAt l 3 ≤ 57 then ((byteAt l 0 - 48 : Int) * 10 + (byteAt l 1 - 48)) * 100 + ((byteAt l 2 - 48 : Int) * 10 + (byteAt l 3 - 48)) else -1 := by
  match l, h with
  | [a, b, c, d], _ =>
    have ha : byteAt [a, b, c, d] 0 = a.toNat := rfl
    have hb : byteAt [a, b, c, d] 1 = b.toNat := rfl
    have hc : byteAt [a, b, c, d] 2 = c.toNat := rfl
    have hd : byteAt [a, b, c, d] 3 = d.toNat := rfl
    rw [ha, hb, hc, hd]
    unfold partI numV dig
    simp only [List.all_cons, List.all_nil, Bool.and_true, List.foldl_cons, List.foldl_nil, Bool.and_eq_true, decide_eq_true_eq]
    split
    · rw [if_pos (by omega)]; omega
    · rw [if_neg (by omega)]
theorem part_two (s : List UInt8) (i : Nat) (h : i + 1 < s.length) : partI ((s.drop i).take 2) = if 0 ≤ twoI s i then twoI s i else -1 := by
  rw [part2 _ (by simp; omega), byteAt_cut s i 2 0 (by decide), byteAt_cut s i 2 1 (by decide)]
  unfold twoI
  rw [Nat.add_zero]
  (repeat' split) <;> omega
theorem part_four (s : List UInt8) (h : 4 ≤ s.length) : (partI (s.take 4) = twoI s 0 * 100 + twoI s 2 ∧ 0 ≤ twoI s 0 * 100 + twoI s 2 ∧ twoI s 0 * 100 + twoI s 2 ≤ 9999) ∨ partI (s.take 4) = -1 ∧ twoI s 0 * 100 + twoI s 2 < 0 := by
  have e := part4 (s.take 4) (by simp; omega)
  have hb := fun j hj => byteAt_cut s 0 4 j hj
  rw [List.drop_zero] at hb
  rw [hb 0 (by decide), hb 1 (by decide), hb 2 (by decide), hb 3 (by decide)] at e
  simp only [Nat.zero_add] at e
  have h2 := twoI_bd s 0; have h3 := twoI_bd s 2
  unfold twoI at *
  rw [e]
  simp only [Nat.zero_add, Nat.reduceAdd] at *
  (repeat' split) <;> omega
def atOk (y m d hh mi s : Int) : Prop := 0 ≤ y ∧ y ≤ 9999 ∧ 1 ≤ m ∧ m ≤ 12 ∧ 1 ≤ d ∧ d ≤ monthI y m ∧ 0 ≤ hh ∧ hh ≤ 23 ∧ 0 ≤ mi ∧ mi ≤ 59 ∧ 0 ≤ s ∧ s ≤ 59
instance (y m d hh mi s : Int) : Decidable (atOk y m d hh mi s) := by unfold atOk; infer_instance
def atT (y m d hh mi s : Int) : Int := -62167219200 + (beforeI y + (d - 1) + mdays y (m.toNat - 1)) * 86400 + (hh * 3600 + mi * 60 + s)
theorem bef_400 (y : Int) (h : 0 ≤ y) : beforeI (y + 400) = beforeI y + 146097 := by unfold beforeI; (repeat' split) <;> omega
theorem bef_1 (y : Int) (h : 0 ≤ y) : beforeI (y + 1) = beforeI y + daysI y 0 := by
  have := leapB_iff y
  unfold beforeI daysI
  rw [if_pos rfl, this]
  simp only [decide_eq_true_eq]
  (repeat' split) <;> omega
theorem at_fn (y m d hh mi s : Int) (h : Part) : Pure Tryd.prog 71 [.int .i64 y, .int .i64 m, .int .i64 d, .int .i64 hh, .int .i64 mi, .int .i64 s] h (.tuple #[.int .i64 (if atOk y m d hh mi s then atT y m d hh mi s else 0), .bool (decide (atOk y m d hh mi s))]) := by
  have hmb := monthI_bd y m
  have hdm : 1 ≤ m → daysI y m = monthI y m := fun hm => if_neg (by omega)
  refine Fn.intro Tryd.func71 rfl Tryd.ntmps71 rfl (fun e he => ?_)
  refine J.weak [(0, _), (1, _), (2, _), (3, _), (4, _), (5, _)] ⟨rfl, rfl, rfl, rfl, rfl, rfl, trivial⟩ ?_
  refine Sr ?_
  refine Ru 2 rfl ?_
  refine JL.nil ?_
  refine J.seq ?_
  refine J.seq ?_
  refine J.meet [(50, .bool (decide (¬ atOk y m d hh mi s)))] [(13, _), (12, _), (0, _), (1, _), (2, _), (3, _), (4, _), (5, _)] ⟨rfl, rfl, rfl, rfl, rfl, rfl, rfl, rfl, trivial⟩ ?_ ?_
  ·
   refine Rg ?_
   refine Ru 1 rfl ?_
   refine JL.callP ca_62 rfl (between_fn _ _ _ _) rfl ?_
   refine Ru 2 rfl ?_
   refine Bs 20 rfl (fun hc2 => ?_) fun hc2 => ?_
   ·
    refine Ru 30 rfl ?_
    refine JL.nil ?_
    refine ⟨rfl, rfl, ?_⟩
    exact z15_
   refine Ru 1 rfl ?_
   refine JL.callPg rfl rfl  ca_62 rfl (between_fn _ _ _ _) rfl ?_
   refine Ru 3 rfl ?_
   refine Bs 25 rfl (fun hc4 => ?_) fun hc4 => ?_
   ·
    refine Ru 25 rfl ?_
    refine JL.nil ?_
    refine ⟨rfl, rfl, ?_⟩
    exact z15_
   refine Ru 4 rfl ?_
   refine Bs 29 rfl (fun hc5 => ?_) fun hc5 => ?_
   ·
    refine Ru 21 rfl ?_
    refine JL.nil ?_
    refine ⟨rfl, rfl, ?_⟩
    exact z15_
   refine Ru 3 rfl ?_
   refine JL.callPg rfl rfl  ca_74 rfl (days_fn _ _ _ (by omega)) rfl ?_
   refine Ru 3 rfl ?_
   refine Bs 36 rfl (fun hc7 => ?_) fun hc7 => ?_
   ·
    refine Ru 14 rfl ?_
    refine JL.nil ?_
    refine ⟨rfl, rfl, ?_⟩
    exact z15_
   refine Ru 1 rfl ?_
   refine JL.callPg rfl rfl  ca_62 rfl (between_fn _ _ _ _) rfl ?_
   refine Ru 3 rfl ?_
   refine Bs 41 rfl (fun hc9 => ?_) fun hc9 => ?_
   ·
    refine Ru 9 rfl ?_
    refine JL.nil ?_
    refine ⟨rfl, rfl, ?_⟩
    exact z15_
   refine Ru 1 rfl ?_
   refine JL.callPg rfl rfl  ca_62 rfl (between_fn _ _ _ _) rfl ?_
   refine Ru 3 rfl ?_
   refine Bs 46 rfl (fun hc11 => ?_) fun hc11 => ?_
   ·
    refine Ru 4 rfl ?_
    refine JL.nil ?_
    refine ⟨rfl, rfl, ?_⟩
    exact z15_
   refine Ru 1 rfl ?_
   refine JL.callPg rfl rfl  ca_62 rfl (between_fn _ _ _ _) rfl ?_
   refine Ru 2 rfl ?_
   refine JL.nil ?_
   refine ⟨rfl, rfl, ?_⟩
   exact z15_
  refine Cs rfl (fun hc13 => ?_) fun hc13 => ?_
  ·
   have hff := hc13
   refine Sr ?_
   refine Ru 2 rfl ?_
   refine JL.nil ?_
   exact J.retP (RetV.two rfl rfl rfl) (by rw [if_neg hff, decide_eq_false hff]) rfl
  have hok : atOk y m d hh mi s := (by first | exact hc13 | exact Classical.not_not.1 hc13); obtain ⟨y0, y1, m0, m1, d0, d1, h0, h1, mi0, mi1, s0, s1⟩ := hok
  refine J.skip ?_
  refine Sr ?_
  refine Ru 1 rfl ?_
  refine JL.op si_ rfl ?_
  refine Ru 1 rfl ?_
  refine Nk [14, 13, 12, 0, 1, 3, 4, 5] rfl ?_
  refine J.seq ?_
  refine Sr ?_
  refine Ru 1 rfl ?_
  refine JL.nil ?_
  refine J.block ?_
  refine J.loop (fun t_ S_ h_ L_ => ∃ (k : Nat), t_ = 13 - k ∧ S_ = [(0, .int .i64 y), (1, .int .i64 m), (3, .int .i64 hh), (4, .int .i64 mi), (5, .int .i64 s), (14, .int .i64 (d - 1 + mdays y k)), (15, .int .i64 (k + 1 : Nat))] ∧ h = h_ ∧ L_ = [] ∧ (k < m)) ⟨_, _, ?_, ⟨0, rfl, rfl, rfl, rfl, by omega⟩⟩ ?_
  ·
   repeat (first | exact trivial | refine ⟨rfl, ?_⟩ | refine ⟨(by exact some_int (by first | (simp only [mdays]; omega) | (simp only [mdays]; simp; done) | (simp [mdays] <;> omega))), ?_⟩)
  rintro _ _ _ _ ⟨k, rfl, rfl, rfl, rfl, hk⟩
  have hmd := mdays_bd y k; have hmb2 := monthI_bd y ((k : Int) + 1); have hdk : daysI y ((k + 1 : Nat) : Int) = monthI y ((k : Int) + 1) := (by rw [show ((k + 1 : Nat) : Int) = (k : Int) + 1 by omega]; exact if_neg (by omega))
  refine J.seq ?_
  refine Sr ?_
  refine Ru 3 rfl ?_
  refine JL.nil ?_
  refine Cs rfl (fun hc14 => ?_) fun hc14 => ?_
  ·
   refine J.skip ?_
   refine J.seq ?_
   refine J.block ?_
   refine Rg ?_
   refine Ru 3 rfl ?_
   refine JL.callP ca_74 rfl (days_fn _ _ _ (by omega)) rfl ?_
   refine JL.op ai_ rfl ?_
   refine Ru 1 rfl ?_
   refine JL.nil ?_
   refine Rg ?_
   refine Ru 1 rfl ?_
   refine JL.op ai_ rfl ?_
   refine Ru 1 rfl ?_
   refine JL.nil ?_
   refine ⟨_, ?_, _, ?_, ⟨k + 1, rfl, rfl, rfl, rfl, by omega⟩⟩
   ·
    omega
   repeat (first | exact trivial | refine ⟨rfl, ?_⟩ | refine ⟨(by exact some_int (by first | (simp only [mdays]; omega) | (simp only [mdays]; simp; done) | (simp [mdays] <;> omega))), ?_⟩)
  have hkm : k = m.toNat - 1 := (by omega); rw [hkm] at *; have hmd2 := mdays_bd y (m.toNat - 1)
  refine J.exit ?_
  refine Kp [0, 3, 4, 5, 14] rfl ?_
  refine J.seq ?_
  refine J.block ?_
  refine J.loop (fun t_ S_ h_ L_ => ∃ (q : Nat), t_ = 26 - q ∧ S_ = [(0, .int .i64 (y - 400 * q)), (3, .int .i64 hh), (4, .int .i64 mi), (5, .int .i64 s), (14, .int .i64 (d - 1 + mdays y (m.toNat - 1) + 146097 * q))] ∧ h = h_ ∧ L_ = [] ∧ (400 * q ≤ y ∧ beforeI y = beforeI (y - 400 * q) + 146097 * q)) ⟨_, _, ?_, ⟨0, rfl, rfl, rfl, rfl, ⟨by omega, by simp⟩⟩⟩ ?_
  ·
   exact z4_
  rintro _ _ _ _ ⟨q, rfl, rfl, rfl, rfl, hq, hbq⟩
  refine J.seq ?_
  refine Sr ?_
  refine Ru 2 rfl ?_
  refine JL.nil ?_
  refine Cs rfl (fun hc16 => ?_) fun hc16 => ?_
  ·
   refine J.skip ?_
   refine J.block ?_
   refine Sr ?_
   refine Ru 1 rfl ?_
   refine JL.op si_ rfl ?_
   refine Ru 1 rfl ?_
   refine JL.nil ?_
   refine Rg ?_
   refine Ru 1 rfl ?_
   refine JL.op ai_ rfl ?_
   refine Ru 1 rfl ?_
   refine JL.nil ?_
   refine ⟨_, ?_, _, ?_, ⟨q + 1, rfl, rfl, rfl, rfl, ⟨by omega, by rw [hbq]; have := bef_400 (y - 400 * (q + 1 : Nat)) (by omega); rw [show y - 400 * (q + 1 : Nat) + 400 = y - 400 * q by omega] at this; omega⟩⟩⟩
   ·
    omega
   exact z4_
  refine J.exit ?_
  refine J.seq ?_
  refine Sr ?_
  refine Ru 1 rfl ?_
  refine JL.nil ?_
  refine J.block ?_
  refine J.loop (fun t_ S_ h_ L_ => ∃ (z : Nat), t_ = 400 - z ∧ S_ = [(0, .int .i64 (y - 400 * q)), (3, .int .i64 hh), (4, .int .i64 mi), (5, .int .i64 s), (14, .int .i64 (d - 1 + mdays y (m.toNat - 1) + 146097 * q + beforeI z)), (16, .int .i64 z)] ∧ h = h_ ∧ L_ = [] ∧ (z ≤ y - 400 * q)) ⟨_, _, ?_, ⟨0, rfl, rfl, rfl, rfl, by omega⟩⟩ ?_
  ·
   repeat (first | exact trivial | refine ⟨rfl, ?_⟩ | refine ⟨(by exact some_int (by first | omega | (have := bef_1 z (by omega); rw [show ((z : Int) + 1) = (z + 1 : Nat) by omega] at this; omega) | (simp [beforeI]; done))), ?_⟩)
  rintro _ _ _ _ ⟨z, rfl, rfl, rfl, rfl, hz⟩
  have hbb := beforeI_bd z (by omega) (by omega); have hdb := daysI_bd z 0
  refine J.seq ?_
  refine Sr ?_
  refine Ru 3 rfl ?_
  refine JL.nil ?_
  refine Cs rfl (fun hc17 => ?_) fun hc17 => ?_
  ·
   refine J.skip ?_
   refine J.seq ?_
   refine J.block ?_
   refine Rg ?_
   refine Ru 2 rfl ?_
   refine JL.callP ca_74 rfl (days_fn _ _ _ (by omega)) rfl ?_
   refine JL.op ai_ rfl ?_
   refine Ru 1 rfl ?_
   refine JL.nil ?_
   refine Rg ?_
   refine Ru 1 rfl ?_
   refine JL.op ai_ rfl ?_
   refine Ru 1 rfl ?_
   refine JL.nil ?_
   refine ⟨_, ?_, _, ?_, ⟨z + 1, rfl, rfl, rfl, rfl, by omega⟩⟩
   ·
    omega
   repeat (first | exact trivial | refine ⟨rfl, ?_⟩ | refine ⟨(by exact some_int (by first | omega | (have := bef_1 z (by omega); rw [show ((z : Int) + 1) = (z + 1 : Nat) by omega] at this; omega) | (simp [beforeI]; done))), ?_⟩)
  have hzy : (z : Int) = y - 400 * q := (by omega); have hbz : beforeI y = beforeI z + 146097 * q := (by rw [hzy]; exact hbq)
  refine J.exit ?_
  refine Kp [3, 4, 5, 14] rfl ?_
  refine Sr ?_
  refine Ru 1 rfl ?_
  refine JL.op z16_ rfl ?_
  refine JL.op ai_ rfl ?_
  refine Ru 1 rfl ?_
  refine JL.op z16_ rfl ?_
  refine Ru 1 rfl ?_
  refine JL.op z16_ rfl ?_
  refine JL.op ai_ rfl ?_
  refine Ru 1 rfl ?_
  refine JL.op ai_ rfl ?_
  refine JL.op ai_ rfl ?_
  refine Ru 2 rfl ?_
  refine Nk [13, 12] rfl ?_
  exact J.retP (RetV.two rfl rfl rfl) (by rw [if_pos ⟨y0, y1, m0, m1, d0, d1, h0, h1, mi0, mi1, s0, s1⟩, decide_eq_true ⟨y0, y1, m0, m1, d0, d1, h0, h1, mi0, mi1, s0, s1⟩]; unfold atT; congr 3; congr 1; congr 1; omega) rfl
theorem momOk_at (y : Int) (s : List UInt8) (h : s.length = 10) (hy : y ≤ 9999) : momOk y s = decide (atOk y (partI ((s.drop 0).take 2)) (partI ((s.drop 2).take 2)) (partI ((s.drop 4).take 2)) (partI ((s.drop 6).take 2)) (partI ((s.drop 8).take 2))) ∧
    (momOk y s = true → momT y s = atT y (partI ((s.drop 0).take 2)) (partI ((s.drop 2).take 2)) (partI ((s.drop 4).take 2)) (partI ((s.drop 6).take 2)) (partI ((s.drop 8).take 2))) := by
  rw [part_two s 0 (by omega), part_two s 2 (by omega), part_two s 4 (by omega), part_two s 6 (by omega), part_two s 8 (by omega)]
  have w0 := twoI_bd s 0; have w2 := twoI_bd s 2; have w4 := twoI_bd s 4; have w6 := twoI_bd s 6; have w8 := twoI_bd s 8
  by_cases c0 : 0 ≤ twoI s 0
  · by_cases c2 : 0 ≤ twoI s 2
    · by_cases c4 : 0 ≤ twoI s 4
      · by_cases c6 : 0 ≤ twoI s 6
        · by_cases c8 : 0 ≤ twoI s 8
          · rw [if_pos c0, if_pos c2, if_pos c4, if_pos c6, if_pos c8]
            refine ⟨?_, fun _ => rfl⟩
            unfold momOk atOk
            exact decide_eq_decide.2 (by omega)
          · have hf : momOk y s = false := decide_eq_false (by omega)
            rw [hf, if_neg c8]
            exact ⟨(decide_eq_false (by unfold atOk; omega)).symm, fun h => by cases h⟩
        · have hf : momOk y s = false := decide_eq_false (by omega)
          rw [hf, if_neg c6]
          exact ⟨(decide_eq_false (by unfold atOk; omega)).symm, fun h => by cases h⟩
      · have hf : momOk y s = false := decide_eq_false (by omega)
        rw [hf, if_neg c4]
        exact ⟨(decide_eq_false (by unfold atOk; omega)).symm, fun h => by cases h⟩
    · have hf : momOk y s = false := decide_eq_false (by omega)
      rw [hf, if_neg c2]
      exact ⟨(decide_eq_false (by unfold atOk; omega)).symm, fun h => by cases h⟩
  · have hf : momOk y s = false := decide_eq_false (by omega)
    rw [hf, if_neg c0]
    exact ⟨(decide_eq_false (by unfold atOk; omega)).symm, fun h => by cases h⟩
theorem of_fn (y : Int) (s : List UInt8) (h : Part) (hl : s.length = 10) (hy : y ≤ 9999) : Pure Tryd.prog 64 [.int .i64 y, .string ⟨s.toArray⟩] h (.tuple #[.int .i64 (momV y s), .bool (momOk y s)]) := by
  obtain ⟨hm1, hm2⟩ := momOk_at y s hl hy
  refine Fn.intro Tryd.func64 rfl Tryd.ntmps64 rfl (fun e he => ?_)
  refine J.weak [(0, _), (1, _)] ⟨rfl, rfl, trivial⟩ ?_
  refine Sr ?_
  refine Ru 2 rfl ?_
  refine JL.nil ?_
  refine J.seq ?_
  refine J.drawn mixed_ (by kernel_rfl) ?_
  refine Rq 2 rfl ?_
  refine JQ.op (RunV.strCut_lh un_9 rfl rfl rfl (show _ = ((0 : Nat) : Int) from rfl) (show _ = ((2 : Nat) : Int) from rfl) (by omega) (by omega)) rfl ?_
  refine JQ.callP ca_63 rfl (part_fn _ _ z26_) rfl ?_
  refine Rq 1 rfl ?_
  refine JQ.op (RunV.strCut_lh un_9 rfl rfl rfl (show _ = ((2 : Nat) : Int) from rfl) (show _ = ((4 : Nat) : Int) from rfl) (by omega) (by omega)) rfl ?_
  refine JQ.callP ca_63 rfl (part_fn _ _ z26_) rfl ?_
  refine Rq 1 rfl ?_
  refine JQ.op (RunV.strCut_lh un_9 rfl rfl rfl (show _ = ((4 : Nat) : Int) from rfl) (show _ = ((6 : Nat) : Int) from rfl) (by omega) (by omega)) rfl ?_
  refine JQ.callP ca_63 rfl (part_fn _ _ z26_) rfl ?_
  refine Rq 1 rfl ?_
  refine JQ.op (RunV.strCut_lh un_9 rfl rfl rfl (show _ = ((6 : Nat) : Int) from rfl) (show _ = ((8 : Nat) : Int) from rfl) (by omega) (by omega)) rfl ?_
  refine JQ.callP ca_63 rfl (part_fn _ _ z26_) rfl ?_
  refine Rq 1 rfl ?_
  refine JQ.op (RunV.strCut_lh un_9 rfl rfl rfl (show _ = ((8 : Nat) : Int) from rfl) (show _ = ((10 : Nat) : Int) from rfl) (by omega) (by omega)) rfl ?_
  refine JQ.callP ca_63 rfl (part_fn _ _ z26_) rfl ?_
  refine JQ.callP ca_71 rfl (at_fn _ _ _ _ _ _ _) rfl ?_
  refine Rq 4 rfl ?_
  refine Nq [5, 4] rfl ?_
  exact J.retP (RetV.two rfl rfl rfl) (by rw [momV, hm1]; rw [hm1] at hm2; split; (rename_i hz; rw [if_pos (by simpa using hz), hm2 (by simpa using hz)]); (rename_i hz; rw [if_neg (by simpa using hz)])) rfl
theorem rpshort_fn (s : List UInt8) (h : Part) (h2 : s.length ≤ 140737488355328) : Pure Tryd.prog 51 [.string ⟨s.toArray⟩] h (.tuple #[.int .i64 (psT s), .int .i64 (if psOk s then 0 else 21)]) := by
  have w0 := twoI_bd s 0
  have hp2 : 2 ≤ s.length → (0 ≤ twoI s 0 ∧ partI (s.take 2) = twoI s 0) ∨ (twoI s 0 < 0 ∧ partI (s.take 2) = -1) := fun hh => by
    have := part_two s 0 (by omega)
    rw [List.drop_zero] at this
    split at this <;> omega
  refine Fn.intro Tryd.func51 rfl Tryd.ntmps51 rfl (fun e he => ?_)
  refine J.weak [(0, _)] ⟨rfl, trivial⟩ ?_
  refine Sr ?_
  refine Ru 2 rfl ?_
  refine JL.nil ?_
  refine J.seq ?_
  refine J.seq ?_
  refine J.meet [(20, .bool (decide (¬ (s.length = 13 ∧ byteAt s 12 = 90 ∧ 0 ≤ twoI s 0))))] [(3, _), (2, _), (0, _)] ⟨rfl, rfl, rfl, trivial⟩ ?_ ?_
  ·
   refine Rg ?_
   refine Ru 1 rfl ?_
   refine JL.op (RunV.lenS un_9 rfl) rfl ?_
   refine Ru 2 rfl ?_
   refine Bs 10 rfl (fun hc1 => ?_) fun hc1 => ?_
   ·
    refine Ru 10 rfl ?_
    refine JL.nil ?_
    refine ⟨rfl, rfl, ?_⟩
    exact z7_
   refine Ru 1 rfl ?_
   refine JL.opg rfl rfl  (RunV.strIndex (m := 12) un_9 rfl rfl rfl (by omega)) rfl ?_
   refine Ru 3 rfl ?_
   refine Bs 15 rfl (fun hc2 => ?_) fun hc2 => ?_
   ·
    refine Ru 5 rfl ?_
    refine JL.nil ?_
    refine ⟨rfl, rfl, ?_⟩
    exact z7_
   refine Ru 1 rfl ?_
   refine JL.opg rfl rfl  (RunV.strCut_h un_9 rfl rfl (show _ = ((2 : Nat) : Int) from rfl) (by omega)) rfl ?_
   refine JL.callPg rfl rfl  ca_63 rfl (part_fn _ _ z26_) rfl ?_
   refine Ru 2 rfl ?_
   refine JL.nil ?_
   refine ⟨rfl, rfl, ?_⟩
   exact z7_
  refine Cs rfl (fun hc4 => ?_) fun hc4 => ?_
  ·
   have hm : psOk s = false := (by unfold psOk; by_cases hz : s.length = 13 ∧ byteAt s 12 = 90; (have hy : psY s = twoI s 0 := if_neg (by omega)); rw [hy, show momOk (twoI s 0) ((s.drop 2).take 10) = false from decide_eq_false (by omega), Bool.and_false]; rw [decide_eq_false hz, Bool.false_and])
   refine Sr ?_
   refine Ru 2 rfl ?_
   refine JL.nil ?_
   exact J.retP (RetV.two rfl rfl rfl) (by rw [psT, hm]; rfl) rfl
  obtain ⟨hl13, hz90, htw⟩ : s.length = 13 ∧ byteAt s 12 = 90 ∧ 0 ≤ twoI s 0 := (by omega); have hp3 : partI (s.take 2) = twoI s 0 := (by omega)
  refine J.skip ?_
  refine Sr ?_
  refine Ru 1 rfl ?_
  refine JL.op (RunV.strCut_h un_9 rfl rfl (show _ = ((2 : Nat) : Int) from rfl) (by omega)) rfl ?_
  refine JL.callP ca_63 rfl (part_fn _ _ z26_) rfl ?_
  rw [hp3]
  refine JL.op ai_ rfl ?_
  refine Ru 1 rfl ?_
  refine Nk [4, 3, 2, 0] rfl ?_
  refine J.seq ?_
  refine Sr ?_
  refine Ru 2 rfl ?_
  refine JL.nil ?_
  refine Cs rfl (fun hc6 => ?_) fun hc6 => ?_
  ·
   have hy : psY s = twoI s 0 + 1900 + 100 := (by unfold psY; rw [if_pos (by omega), if_pos (by omega)])
   refine Rg ?_
   refine Ru 1 rfl ?_
   refine JL.op ai_ rfl ?_
   refine Ru 1 rfl ?_
   refine Nk [4, 3, 2, 0] rfl ?_
   refine Sr ?_
   rw [show 1900 + twoI s 0 = twoI s 0 + 1900 by omega]; rw [← hy]; have hps : psOk s = momOk (psY s) ((s.drop 2).take 10) := (by unfold psOk; rw [decide_eq_true ⟨hl13, hz90⟩, Bool.true_and])
   refine Ru 2 rfl ?_
   refine JL.op (RunV.strCut_lh un_9 rfl rfl rfl (show _ = ((2 : Nat) : Int) from rfl) (show _ = ((12 : Nat) : Int) from rfl) (by omega) (by omega)) rfl ?_
   refine JL.callP ca_64 rfl (of_fn _ _ _ z26_ (by omega)) rfl ?_
   refine Ru 5 rfl ?_
   refine Nk [6, 5, 3, 2] rfl ?_
   refine J.seq ?_
   refine Sr ?_
   refine Ru 2 rfl ?_
   refine JL.nil ?_
   refine Cs rfl (fun hc8 => ?_) fun hc8 => ?_
   ·
    refine Sr ?_
    refine Ru 2 rfl ?_
    refine Nk [3, 2, 5] rfl ?_
    exact J.retP (RetV.two rfl rfl rfl) (by rw [psT, hps, hc8]; rfl) rfl
   refine J.skip ?_
   refine Sr ?_
   refine Ru 3 rfl ?_
   refine Nk [3, 2] rfl ?_
   exact J.retP (RetV.two rfl rfl rfl) (by simp [psT, hps, momV, hc8]) rfl
  have hy : psY s = twoI s 0 + 1900 := (by unfold psY; rw [if_pos (by omega), if_neg (by omega)])
  refine J.skip ?_
  refine Sr ?_
  rw [show 1900 + twoI s 0 = twoI s 0 + 1900 by omega]; rw [← hy]; have hps : psOk s = momOk (psY s) ((s.drop 2).take 10) := (by unfold psOk; rw [decide_eq_true ⟨hl13, hz90⟩, Bool.true_and])
  refine Ru 2 rfl ?_
  refine JL.op (RunV.strCut_lh un_9 rfl rfl rfl (show _ = ((2 : Nat) : Int) from rfl) (show _ = ((12 : Nat) : Int) from rfl) (by omega) (by omega)) rfl ?_
  refine JL.callP ca_64 rfl (of_fn _ _ _ z26_ (by omega)) rfl ?_
  refine Ru 5 rfl ?_
  refine Nk [6, 5, 3, 2] rfl ?_
  refine J.seq ?_
  refine Sr ?_
  refine Ru 2 rfl ?_
  refine JL.nil ?_
  refine Cs rfl (fun hc10 => ?_) fun hc10 => ?_
  ·
   refine Sr ?_
   refine Ru 2 rfl ?_
   refine Nk [3, 2, 5] rfl ?_
   exact J.retP (RetV.two rfl rfl rfl) (by simp [psT, hps, momV, hc10]) rfl
  refine J.skip ?_
  refine Sr ?_
  refine Ru 3 rfl ?_
  refine Nk [3, 2] rfl ?_
  exact J.retP (RetV.two rfl rfl rfl) (by simp [psT, hps, momV, hc10]) rfl
theorem mic_take (s g : List UInt8) (hg : g.length = 6) (hb : ∀ k, k < 6 → byteAt g k = if 15 + k + 1 < s.length then byteAt s (15 + k) else 48) : ∀ k, k ≤ 6 → (g.take k).all dig = micOk s k ∧ (micOk s k = true → (numV (g.take k) : Int) = micI s k)
  | 0, _ => by simp [micOk, micI, numV]
  | k + 1, hk => by
    obtain ⟨i1, i2⟩ := mic_take s g hg hb k (by omega)
    have hbk := hb k (by omega)
    rw [all_take g k (by omega), numV_take g k (by omega), i1]
    simp only [micOk, micI]
    by_cases hh : 15 + k + 1 < s.length
    · rw [if_pos hh, if_pos hh]
      rw [if_pos hh] at hbk
      rw [hbk]
      refine ⟨rfl, fun hz => ?_⟩
      rw [Bool.and_eq_true] at hz
      have := i2 hz.1
      have := of_decide_eq_true hz.2
      omega
    · rw [if_neg hh, if_neg hh]
      rw [if_neg hh] at hbk
      rw [hbk, decide_eq_true (by omega), Bool.and_true]
      exact ⟨rfl, fun hz => by have := i2 hz; omega⟩
theorem part_mic (s g : List UInt8) (hg : g.length = 6) (hb : ∀ k, k < 6 → byteAt g k = if 15 + k + 1 < s.length then byteAt s (15 + k) else 48) : (micOk s 6 = true ∧ partI g = micI s 6 ∧ 0 ≤ partI g) ∨ (micOk s 6 = false ∧ partI g = -1) := by
  obtain ⟨i1, i2⟩ := mic_take s g hg hb 6 (Nat.le_refl _)
  rw [List.take_of_length_le (by omega)] at i1 i2
  unfold partI
  rw [i1]
  cases hm : micOk s 6 with
  | true => left; rw [if_pos rfl]; exact ⟨rfl, i2 hm, by omega⟩
  | false => right; exact ⟨rfl, by simp⟩
theorem byteAt_pad (l : List UInt8) (n k : Nat) (h : k < l.length + n) : byteAt (l ++ List.replicate n 48) k = if k < l.length then byteAt l k else 48 := by
  unfold byteAt
  rw [List.getD_eq_getElem?_getD, List.getElem?_append]
  split
  · rw [List.getD_eq_getElem?_getD]
  · rw [List.getElem?_replicate, if_pos (by omega)]; rfl
theorem pl_year {s : List UInt8} {y : Int} {q : List UInt8} (h : 4 ≤ s.length) (hy : y = partI (s.take 4)) : momOk y q = momOk (twoI s 0 * 100 + twoI s 2) q ∧ momV y q = momV (twoI s 0 * 100 + twoI s 2) q ∧ y ≤ 9999 := by
  rcases part_four s h with ⟨e1, e2, e3⟩ | ⟨e1, e2⟩
  · rw [hy, e1]; exact ⟨rfl, rfl, e3⟩
  · have f1 : momOk y q = false := decide_eq_false (by omega)
    have f2 : momOk (twoI s 0 * 100 + twoI s 2) q = false := decide_eq_false (by omega)
    unfold momV
    rw [f1, f2]
    exact ⟨rfl, rfl, by omega⟩
theorem rplong_fn (s : List UInt8) (h : Part) (h2 : s.length ≤ 140737488355328) : Pure Tryd.prog 52 [.string ⟨s.toArray⟩] h (.tuple #[.int .i64 (if plOk s then momT (twoI s 0 * 100 + twoI s 2) ((s.drop 4).take 10) else 0), .int .i64 (if plOk s then plM s else 0), .int .i64 (if plOk s then 0 else 21)]) := by
  have e1 : ((s.length : Int) - 1).toNat = s.length - 1 := by omega
  have hbl := byteAt_lt s (s.length - 1)
  refine Fn.intro Tryd.func52 rfl Tryd.ntmps52 rfl (fun e he => ?_)
  refine J.weak [(0, _)] ⟨rfl, trivial⟩ ?_
  refine Sr ?_
  refine Ru 3 rfl ?_
  refine JL.nil ?_
  refine J.seq ?_
  refine J.seq ?_
  refine J.meet [(30, .bool (decide (¬ (15 ≤ s.length ∧ s.length ≤ 22 ∧ byteAt s (s.length - 1) = 90 ∧ s.length ≠ 16))))] [(4, _), (3, _), (2, _), (0, _)] ⟨rfl, rfl, rfl, rfl, trivial⟩ ?_ ?_
  ·
   refine Rg ?_
   refine Ru 1 rfl ?_
   refine JL.op (RunV.lenS un_9 rfl) rfl ?_
   refine Ru 2 rfl ?_
   refine Bs 13 rfl (fun hc1 => ?_) fun hc1 => ?_
   ·
    refine Ru 17 rfl ?_
    refine JL.nil ?_
    refine ⟨rfl, rfl, ?_⟩
    exact z7_
   refine Ru 1 rfl ?_
   refine JL.opg rfl rfl  (RunV.lenS un_9 rfl) rfl ?_
   refine Ru 3 rfl ?_
   refine Bs 18 rfl (fun hc2 => ?_) fun hc2 => ?_
   ·
    refine Ru 12 rfl ?_
    refine JL.nil ?_
    refine ⟨rfl, rfl, ?_⟩
    exact z7_
   refine Ru 2 rfl ?_
   refine JL.opg rfl rfl  (RunV.lenS un_9 rfl) rfl ?_
   refine JL.opg rfl rfl  si_ rfl ?_
   refine JL.opg rfl rfl  (RunV.strIndex (m := s.length - 1) un_9 rfl rfl (by omega) (by omega)) rfl ?_
   refine Ru 3 rfl ?_
   refine Bs 26 rfl (fun hc3 => ?_) fun hc3 => ?_
   ·
    refine Ru 4 rfl ?_
    refine JL.nil ?_
    refine ⟨rfl, rfl, ?_⟩
    exact z7_
   refine Ru 1 rfl ?_
   refine JL.opg rfl rfl  (RunV.lenS un_9 rfl) rfl ?_
   refine Ru 2 rfl ?_
   refine JL.nil ?_
   refine ⟨rfl, rfl, ?_⟩
   exact z7_
  refine Cs rfl (fun hc4 => ?_) fun hc4 => ?_
  ·
   have hm : plOk s = false := (by by_cases hz : 15 ≤ s.length ∧ s.length ≤ 22 ∧ byteAt s (s.length - 1) = 90; exact pl_f2 (by omega) (by omega); exact pl_f1 hz)
   refine Sr ?_
   refine Ru 3 rfl ?_
   refine Nk [4, 3, 2, 0] rfl ?_
   exact J.retP (RetV.three rfl rfl rfl rfl) (by rw [hm]; rfl) rfl
  obtain ⟨l15, l22, lz, l16⟩ : 15 ≤ s.length ∧ s.length ≤ 22 ∧ byteAt s (s.length - 1) = 90 ∧ s.length ≠ 16 := (by omega); obtain ⟨F, hF⟩ : ∃ F, F = (s.drop 14).take (s.length - 1 - 14) := ⟨_, rfl⟩; have hFl : F.length = s.length - 15 := (by rw [hF]; simp; omega); have hFb : ∀ k, k < s.length - 15 → byteAt F k = byteAt s (14 + k) := (fun k hk => by rw [hF]; exact byteAt_cut s 14 _ k (by omega)); obtain ⟨hy1, hy2, hy3⟩ := pl_year (s := s) (y := partI (s.take 4)) (q := (s.drop 4).take 10) (by omega) rfl
  refine J.skip ?_
  refine Sr ?_
  refine Ru 2 rfl ?_
  refine JL.op (RunV.lenS un_9 rfl) rfl ?_
  refine JL.op si_ rfl ?_
  refine JL.op (RunV.strCut_lh (m := 14) (m' := s.length - 1) un_9 rfl rfl rfl rfl (by omega) (by omega) (by omega)) rfl ?_
  rw [← hF]
  refine Ru 1 rfl ?_
  refine Nk [5, 4, 3, 2, 0] rfl ?_
  refine Sr ?_
  refine Ru 1 rfl ?_
  refine JL.nil ?_
  refine J.seq ?_
  refine Sr ?_
  refine Ru 1 rfl ?_
  refine JL.op (RunV.neqS rfl rfl) rfl ?_
  refine JL.nil ?_
  refine Cs rfl (fun hc5 => ?_) fun hc5 => ?_
  ·
   have hne : s.length ≠ 15 := (fun h15 => hc5 (List.eq_nil_of_length_eq_zero (by omega))); have hd1 : (F.drop 1).length = s.length - 16 := (by rw [List.length_drop]; omega)
   refine Sr ?_
   refine Ru 1 rfl ?_
   refine JL.op (RunV.strCut_l un_9 rfl rfl (show _ = ((1 : Nat) : Int) from rfl) (by omega)) rfl ?_
   refine Ru 1 rfl ?_
   refine Nk [7, 6, 5, 4, 3, 2, 0] rfl ?_
   refine J.seq ?_
   refine J.block ?_
   refine J.loop (fun t_ S_ h_ L_ => ∃ (j : Nat) (G : List UInt8), t_ = 6 - j ∧ S_ = [(0, .string ⟨s.toArray⟩), (5, .string ⟨F.toArray⟩), (7, .string ⟨G.toArray⟩)] ∧ h = h_ ∧ L_ = [] ∧ ((F.drop 1).length + j ≤ 6 ∧ G = F.drop 1 ++ List.replicate j 48)) ⟨_, _, ?_, ⟨0, F.drop 1, rfl, rfl, rfl, rfl, ⟨by omega, by simp⟩⟩⟩ ?_
   ·
    exact z5_
   rintro _ _ _ _ ⟨j, G, rfl, rfl, rfl, rfl, hj, hG⟩
   have hgl : G.length = (F.drop 1).length + j := (by rw [hG, List.length_append, List.length_replicate])
   refine J.seq ?_
   refine Sr ?_
   refine Ru 1 rfl ?_
   refine JL.op (RunV.lenS un_9 rfl) rfl ?_
   refine Ru 1 rfl ?_
   refine JL.nil ?_
   refine Cs rfl (fun hc6 => ?_) fun hc6 => ?_
   ·
    refine J.skip ?_
    refine J.block ?_
    refine Rg ?_
    refine Ru 1 rfl ?_
    refine JL.op (RunV.addS rfl rfl z3_) rfl ?_
    refine Ru 1 rfl ?_
    refine JL.nil ?_
    refine ⟨_, ?_, _, ?_, ⟨j + 1, G ++ [48], rfl, rfl, rfl, rfl, ⟨by omega, by rw [hG, List.append_assoc, ← List.replicate_succ']⟩⟩⟩
    ·
     omega
    exact z5_
   have hgb : ∀ k, k < 6 → byteAt G k = if 15 + k + 1 < s.length then byteAt s (15 + k) else 48 := (fun k hk => by rw [hG, byteAt_pad _ _ _ (by omega)]; by_cases hz : k < (F.drop 1).length; rw [if_pos hz, if_pos (by omega), show 15 + k = 14 + (1 + k) by omega, ← hFb (1 + k) (by omega)]; unfold byteAt; simp [Nat.add_comm]; rw [if_neg hz, if_neg (by omega)]); have hpm := part_mic s _ (by omega) hgb; have hf0 : byteAt F 0 = byteAt s 14 := hFb 0 (by omega); have hf1 := hFb (s.length - 16) (by omega); rw [show 14 + (s.length - 16) = s.length - 2 by omega] at hf1
   refine J.exit ?_
   refine Sr ?_
   refine Ru 1 rfl ?_
   refine JL.callP ca_63 rfl (part_fn _ _ (by omega)) rfl ?_
   refine Ru 1 rfl ?_
   refine Nk [6, 0, 5] rfl ?_
   refine J.seq ?_
   refine J.meet [(61, .bool (decide (¬ (byteAt s 14 = 46 ∧ byteAt s (s.length - 2) ≠ 48) ∨ partI G < 0)))] [(6, _), (0, _)] ⟨rfl, rfl, trivial⟩ ?_ ?_
   ·
    refine Rg ?_
    refine Ru 1 rfl ?_
    refine JL.op (RunV.strIndex (m := 0) un_9 rfl rfl rfl (by omega)) rfl ?_
    refine Ru 2 rfl ?_
    refine Bs 50 rfl (fun hc8 => ?_) fun hc8 => ?_
    ·
     refine Ru 11 rfl ?_
     refine JL.nil ?_
     refine ⟨rfl, rfl, ?_⟩
     exact z7_
    refine Ru 4 rfl ?_
    refine Bs 54 rfl (fun hc9 => ?_) fun hc9 => ?_
    ·
     refine Ru 7 rfl ?_
     refine JL.nil ?_
     refine ⟨rfl, rfl, ?_⟩
     exact z7_
    refine Ru 2 rfl ?_
    refine JL.opg rfl rfl  (RunV.lenS un_9 rfl) rfl ?_
    refine JL.opg rfl rfl  si_ rfl ?_
    refine JL.opg rfl rfl  (RunV.strIndex (m := s.length - 16) un_9 rfl rfl (by omega) (by omega)) rfl ?_
    refine Ru 2 rfl ?_
    refine JL.nil ?_
    refine ⟨rfl, rfl, ?_⟩
    exact z7_
   refine Cs rfl (fun hc10 => ?_) fun hc10 => ?_
   ·
    have hm : plOk s = false := (by rcases hpm with ⟨p1, p2, p3⟩ | ⟨p1, p2⟩; exact pl_f2 hne (by omega); exact pl_f3 6 hne (by omega) p1)
    refine Sr ?_
    refine Ru 3 rfl ?_
    refine JL.nil ?_
    exact J.retP (RetV.three rfl rfl rfl rfl) (by rw [hm]; rfl) rfl
   obtain ⟨p1, p2, p3⟩ : micOk s 6 = true ∧ partI G = micI s 6 ∧ 0 ≤ partI G := (by rcases hpm with hq | ⟨q1, q2⟩; exact hq; exfalso; omega); have hpl := pl_t1 (s := s) ⟨l15, l22, lz⟩ hne (by omega) p1; have hpM : plM s = micI s 6 := if_neg hne; rw [p2, ← hpM]
   refine J.skip ?_
   refine J.seq ?_
   refine J.drawn mixed_ (by kernel_rfl) ?_
   refine Rq 1 rfl ?_
   refine JQ.op (RunV.strCut_h un_9 rfl rfl (show _ = ((4 : Nat) : Int) from rfl) (by omega)) rfl ?_
   refine JQ.callP ca_63 rfl (part_fn _ _ z26_) rfl ?_
   refine Rq 1 rfl ?_
   refine JQ.op (RunV.strCut_lh un_9 rfl rfl rfl (show _ = ((4 : Nat) : Int) from rfl) (show _ = ((14 : Nat) : Int) from rfl) (by omega) (by omega)) rfl ?_
   refine JQ.callP ca_64 rfl (of_fn _ _ _ z26_ hy3) rfl ?_
   rw [hy1, hy2]
   refine Rq 5 rfl ?_
   refine Nq [9, 8, 6] rfl ?_
   refine J.seq ?_
   refine Sr ?_
   refine Ru 2 rfl ?_
   refine JL.nil ?_
   refine Cs rfl (fun hc13 => ?_) fun hc13 => ?_
   ·
    refine Sr ?_
    refine Ru 3 rfl ?_
    refine JL.nil ?_
    exact J.retP (RetV.three rfl rfl rfl rfl) (by simp [hpl, hpM, momV, hc13]) rfl
   refine J.skip ?_
   refine Sr ?_
   refine Ru 5 rfl ?_
   refine Nk [4, 3, 2] rfl ?_
   exact J.retP (RetV.three rfl rfl rfl rfl) (by simp [hpl, hpM, momV, hc13]) rfl
  have h15 : s.length = 15 := (by have hF0 : F.length = 0 := (by rw [show F = [] from hc5]; rfl); omega); have hpl := pl_t0 (s := s) ⟨l15, l22, lz⟩ h15; have hpM : plM s = 0 := if_pos h15
  refine J.skip ?_
  refine J.seq ?_
  refine J.drawn mixed_ (by kernel_rfl) ?_
  refine Rq 1 rfl ?_
  refine JQ.op (RunV.strCut_h un_9 rfl rfl (show _ = ((4 : Nat) : Int) from rfl) (by omega)) rfl ?_
  refine JQ.callP ca_63 rfl (part_fn _ _ z26_) rfl ?_
  refine Rq 1 rfl ?_
  refine JQ.op (RunV.strCut_lh un_9 rfl rfl rfl (show _ = ((4 : Nat) : Int) from rfl) (show _ = ((14 : Nat) : Int) from rfl) (by omega) (by omega)) rfl ?_
  refine JQ.callP ca_64 rfl (of_fn _ _ _ z26_ hy3) rfl ?_
  rw [hy1, hy2]
  refine Rq 5 rfl ?_
  refine Nq [9, 8, 6, 4, 3, 2] rfl ?_
  refine J.seq ?_
  refine Sr ?_
  refine Ru 2 rfl ?_
  refine JL.nil ?_
  refine Cs rfl (fun hc16 => ?_) fun hc16 => ?_
  ·
   refine Sr ?_
   refine Ru 3 rfl ?_
   refine Nk [4, 3, 2, 8, 6] rfl ?_
   exact J.retP (RetV.three rfl rfl rfl rfl) (by simp [hpl, hpM, momV, hc16]) rfl
  refine J.skip ?_
  refine Sr ?_
  refine Ru 5 rfl ?_
  refine Nk [4, 3, 2] rfl ?_
  exact J.retP (RetV.three rfl rfl rfl rfl) (by simp [hpl, hpM, momV, hc16]) rfl
end Go.Proofs.YtldbjnhfkjicjaaDoor
