/- Walks: the program's object identifiers: the parts of a text, one after the other; Walks: the program's object identifiers: text.OidBytes; 'a && b', 'a || b': the two ways meet at once; Walks: numbers of many digits: sizes, bits; Walks: the reference's lengths; the law DerLengths; Walks: numbers as nodes; the law DerNumbers; Plain: the value of digits of 2 to the 32, and of bytes; Walks: numbers out of bytes; integers and numbers out of nodes; Walks: the program's arithmetic: comparison, product, shift, division by one digit; Walks: the program's division: a digit of a quotient, the quotient, the power; Walks: the program's division and power; Walks: the program's power; Walks: the reference's texts: characters; Walks: the reference's object identifiers; Walks: the reference's calendar; Walk: the reference's printable texts; Walks: the reference's values and bytes of nodes; Walks: the laws DerWrites and DerAsked; Walks: the reference's arithmetic: product, small numbers; its kept keys; Walks: the reference's division: by one digit; whether digits are above; digits taken away; Walks: the reference's rest of a product, and its division; Walks: the reference's power and comparison. -/
import Derived.Test.YtmngjbefnloljaaGreatDoorP1
set_option linter.unusedSimpArgs false
set_option linter.unusedVariables false
set_option linter.constructorNameAsVariable false
namespace Go.Proofs.YtmngjbefnloljaaGreatDoor
open Go Go.RowKit
set_option maxRecDepth 100000
theorem ag_9 : aggT Tryz.prog 9 = some none := by kernel_rfl
theorem ca_146 : callT Tryz.prog 146 = true := by kernel_rfl
theorem ca_167 : callT Tryz.prog 167 = true := by kernel_rfl
theorem splitseq_fn {s sep : List UInt8} {k : Int} {h : Part} : Fn Tryz.prog 146 [.string ⟨s.toArray⟩, .string ⟨sep.toArray⟩, .int .i64 k] h [] (Rets fun v h' Lo => h' = h ∧ ∃ b1 b2 b3, v = .func (.func 165) #[] #[.pointer (some ⟨b2, 0, none⟩), .pointer (some ⟨b1, 0, none⟩), .pointer (some ⟨b3, 0, none⟩)] ∧
    Lo = [.blk b3 3 [.int .i64 k], .blk b2 9 [.string ⟨sep.toArray⟩], .blk b1 9 [.string ⟨s.toArray⟩]]) := by
  refine Fn.intro Tryz.func146 rfl Tryz.ntmps146 rfl (fun e he => ?_)
  refine J.weak [(0, _), (1, _), (2, _)] ⟨rfl, rfl, rfl, trivial⟩ ?_
  refine Sr ?_
  refine JL.box rfl rfl rfl (fun b1 => ?_)
  refine JL.box rfl rfl rfl (fun b2 => ?_)
  refine JL.box rfl rfl rfl (fun b3 => ?_)
  refine Ru 1 rfl ?_
  refine JL.nil ?_
  refine Sr ?_
  refine JL.op (RunV.makeFunc (os1 := []) rfl rfl) rfl ?_
  refine Ru 1 rfl ?_
  refine Nk [6] rfl ?_
  exact J.ret ⟨_, [_, _, _], _, (RetV.one rfl rfl), .cons .here (.cons .here (.cons .here .nil)), _, rfl, rfl, _, _, _, rfl, rfl⟩
theorem SplitSeq_fn {s sep : List UInt8} {h : Part} : Fn Tryz.prog 113 [.string ⟨s.toArray⟩, .string ⟨sep.toArray⟩] h [] (Rets fun v h' Lo => h' = h ∧ ∃ b1 b2 b3, v = .func (.func 165) #[] #[.pointer (some ⟨b2, 0, none⟩), .pointer (some ⟨b1, 0, none⟩), .pointer (some ⟨b3, 0, none⟩)] ∧
    Lo = [.blk b3 3 [.int .i64 0], .blk b2 9 [.string ⟨sep.toArray⟩], .blk b1 9 [.string ⟨s.toArray⟩]]) := by
  refine Fn.intro Tryz.func113 rfl Tryz.ntmps113 rfl (fun e he => ?_)
  refine J.weak [(0, _), (1, _)] ⟨rfl, rfl, trivial⟩ ?_
  refine Sr ?_
  refine Ru 1 rfl ?_
  refine JL.nil ?_
  refine Sr ?_
  refine Ru 2 rfl ?_
  refine JL.call ca_146 rfl (splitseq_fn) pt_ rfl ?_
  rintro _ h1 Lo1 hle1 ⟨rfl, b1, b2, b3, rfl, rfl⟩
  refine Ru 1 rfl ?_
  refine Nk [4] rfl ?_
  exact J.ret ⟨_, [_, _, _], _, (RetV.one rfl rfl), .cons .here (.cons .here (.cons .here .nil)), _, rfl, rfl, _, _, _, rfl, rfl⟩
def OI (b2 b3 b4 : Nat) (us : List UInt64) (L : List Ent) : Prop := ∃ a c xs, (∀ h, CellsR u64R 1 h xs us) ∧ L = [.blk b4 66 [.slice a us.length c], .row a c 63 1 us.length xs, .blk b2 22 [.slice none 0 0], .blk b3 24 [.int .i64 0]]
def OBad (b2 b3 : Nat) (L : List Ent) : Prop := L = [.blk b2 22 [.slice none 0 0], .blk b3 24 [.int .i64 20]]
def PR (b2 b3 b4 : Nat) (us : List UInt64) (s : List UInt8) (h : Part) (b : Bool) (h' : Part) (L : List Ent) : Prop :=
  (b = true ∧ h' = h ∧ ∃ v : UInt64, numB s = some v.toNat ∧ OI b2 b3 b4 (us ++ [v]) L) ∨ (b = false ∧ h' = h ∧ numB s = none ∧ OBad b2 b3 L)
theorem Parts.app : ∀ (A B : List Ent), Parts A (A ++ B) B
  | [], _ => .nil
  | _ :: A, B => .cons .here (Parts.app A B)
theorem after_true {r : Loop} (h1 : r.state = .ready) (h2 : r.pending = none) : Loop.after r true = r := by
  cases r; simp only at h1 h2; subst h1 h2; rfl
def ER (b2 b3 b4 : Nat) (s : List UInt8) (h : Part) (b : Bool) (h' : Part) (L : List Ent) : Prop :=
  (b = true ∧ h' = h ∧ ∃ us : List UInt64, numsGo s [] = some (us.map (·.toNat)) ∧ us.length ≤ s.length + 1 ∧ OI b2 b3 b4 us L) ∨ (b = false ∧ h' = h ∧ numsGo s [] = none ∧ OBad b2 b3 L)
theorem iter_fn {l b2 b3 b4 b5 b6 b7 p0 : Nat} {r : Loop} {s : List UInt8} {h : Part} (hp : r.params = #[p0]) (hst : r.state = .ready) (hpe : r.pending = none) (hs : s.length ≤ 1000000)
    (hrd : ∀ (us : List UInt64) (t : List UInt8) (a : Option Addr) (c : Nat) (xs : List Value), us.length ≤ 1000001 → t.length ≤ 1000000 → (∀ h, CellsR u64R 1 h xs us) →
      Rd Tryz.prog l r (.string ⟨t.toArray⟩) h [.blk b4 66 [.slice a us.length c], .row a c 63 1 us.length xs, .blk b2 22 [.slice none 0 0], .blk b3 24 [.int .i64 0]] (PR b2 b3 b4 us t h)) :
    Fn Tryz.prog 165 [.func (.yield l) #[] #[], .pointer (some ⟨b6, 0, none⟩), .pointer (some ⟨b5, 0, none⟩), .pointer (some ⟨b7, 0, none⟩)] h
      (.obj l (.loop r) :: [.blk b7 3 [.int .i64 0], .blk b6 9 [.string ⟨[46].toArray⟩], .blk b5 9 [.string ⟨s.toArray⟩], .blk b4 66 [.slice none 0 0], .row none 0 63 1 0 [], .blk b2 22 [.slice none 0 0], .blk b3 24 [.int .i64 0]])
      (Rets fun _ h' Lo => ∃ b Lo', Lo = .obj l (.loop (Loop.after r b)) :: Lo' ∧ ER b2 b3 b4 s h b h' Lo') := by
  have hm := Go.Lib.indexByte_ge
  refine Fn.intro Tryz.func165 rfl Tryz.ntmps165 rfl (fun e he => ?_)
  refine J.weak [(0, _), (1, _), (2, _), (3, _)] ⟨rfl, rfl, rfl, rfl, trivial⟩ ?_
  refine J.seq ?_
  refine Sr ?_
  refine JL.op (RunV.own1 ag_9 rfl mm_ rfl) rfl ?_
  refine JL.op (RunV.lenS un_9 rfl) rfl ?_
  refine Ru 1 rfl ?_
  refine JL.nil ?_
  refine Cs rfl (fun hc1 => ?_) fun hc1 => ?_
  ·
   exfalso; simp at hc1
  refine J.skip ?_
  refine J.seq ?_
  refine J.block ?_
  refine J.loop (fun t_ S_ h_ L_ => ∃ (us : List UInt64) (rest : List UInt8) (a : Option Addr) (c : Nat) (xs : List Value), t_ = rest.length + 1 ∧ S_ = [(0, .func (.yield l) #[] #[]), (1, .pointer (some ⟨b6, 0, none⟩)), (2, .pointer (some ⟨b5, 0, none⟩)), (3, .pointer (some ⟨b7, 0, none⟩))] ∧ h = h_ ∧ L_ = .obj l (.loop r) :: [.blk b7 3 [.int .i64 0], .blk b6 9 [.string ⟨[46].toArray⟩], .blk b5 9 [.string ⟨rest.toArray⟩], .blk b4 66 [.slice a us.length c], .row a c 63 1 us.length xs, .blk b2 22 [.slice none 0 0], .blk b3 24 [.int .i64 0]] ∧ ((∀ h, CellsR u64R 1 h xs us) ∧ numsGo s [] = (numsGo rest []).map (us.map (·.toNat) ++ ·) ∧ us.length + rest.length ≤ s.length)) ⟨_, _, ?_, ⟨[], s, none, 0, [], rfl, rfl, rfl, rfl, ⟨fun _ => CellsR.nil, by simp, by simp⟩⟩⟩ ?_
  ·
   repeat (first | exact trivial | refine ⟨rfl, ?_⟩)
  rintro _ _ _ _ ⟨us, rest, a, c, xs, rfl, rfl, rfl, rfl, hxs, hng, hul⟩
  have hds := dot_spec rest; have hmr := hm rest 46
  refine J.block ?_
  refine Sr ?_
  refine JL.op (RunV.own1 ag_9 rfl mm_ rfl) rfl ?_
  refine JL.op (RunV.own1 ag_9 rfl mm_ rfl) rfl ?_
  refine JL.callP ca_167 rfl (sindex_fn) rfl ?_
  refine Ru 1 rfl ?_
  refine JL.nil ?_
  refine J.seq ?_
  refine Sr ?_
  refine Ru 2 rfl ?_
  refine JL.nil ?_
  refine Cs rfl (fun hc3 => ?_) fun hc3 => ?_
  ·
   have hnd : ∀ c ∈ rest, c ≠ 46 := (by rcases hds with hh | ⟨k, _, hk, _⟩; exact hh.2; omega); have hlast := numsGo_last rest [] hnd; rw [List.nil_append] at hlast
   refine J.exit ?_
   refine Kp [0, 2] rfl ?_
   refine J.regionI ?_
   refine JI.op (RunV.move rfl) rfl ?_
   refine JI.op (RunV.own1 ag_9 rfl mm_ rfl) rfl ?_
   refine JI.yield rfl rfl (by assumption) pt_ (hrd us rest _ _ _ (by omega) (by omega) hxs) rfl ?_
   rintro _ h4 Lo4 hle4 hRF
   refine JI.of rfl ?_
   refine JL.nil ?_
   (rcases hRF with ⟨rfl, rfl, v, hv, hOI⟩ | ⟨rfl, rfl, hn, hBad⟩; exact ⟨_, _, _, (RetV.none_ rfl), .cons .here (Parts.app _ _), _, rfl, true, _, rfl, .inl ⟨rfl, rfl, us ++ [v], by rw [hng, hlast, hv]; simp, by simp; omega, hOI⟩⟩; exact ⟨_, _, _, (RetV.none_ rfl), .cons .here (Parts.app _ _), _, rfl, false, _, rfl, .inr ⟨rfl, rfl, by rw [hng, hlast, hn]; rfl, hBad⟩⟩)
  ·
   obtain ⟨k, hk1, hk2, hk3, hk4⟩ : ∃ k, k < rest.length ∧ Go.Lib.indexByte rest 46 = (k : Int) ∧ rest = rest.take k ++ 46 :: rest.drop (k + 1) ∧ ∀ c ∈ rest.take k, c ≠ 46 := (by rcases hds with ⟨hh, _⟩ | hh; omega; exact hh); rw [hk2] at hc3; rw [hk2]; have hcut := numsGo_cut (rest.take k) [] (rest.drop (k + 1)) hk4; rw [← hk3, List.nil_append] at hcut
   refine J.skip ?_
   refine Sr ?_
   refine JL.op (RunV.own1 ag_9 rfl mm_ rfl) rfl ?_
   refine Ru 1 rfl ?_
   refine JL.op (RunV.own1 ag_3 rfl mm_ rfl) rfl ?_
   refine JL.op ai_ rfl ?_
   refine JL.op (RunV.strCut_h (m := k) un_9 rfl rfl (by omega) (by omega)) rfl ?_
   refine Ru 1 rfl ?_
   refine JL.nil ?_
   refine J.seq ?_
   refine J.seq ?_
   refine J.regionI ?_
   refine JI.op (RunV.move rfl) rfl ?_
   refine JI.op (RunV.move rfl) rfl ?_
   refine JI.yield rfl rfl (by assumption) pt_ (hrd us (rest.take k) _ _ _ (by omega) (by simp; omega) hxs) rfl ?_
   rintro _ h5 Lo5 hle5 hR
   refine JI.of rfl ?_
   refine Ru 1 rfl ?_
   refine JL.nil ?_
   refine Cs rfl (fun hc6 => ?_) fun hc6 => ?_
   ·
    obtain ⟨rfl, rfl, hn, hBad⟩ := hR.resolve_left (fun hh => by rw [hh.1] at hc6; cases hc6)
    exact J.ret ⟨_, _, _, (RetV.none_ rfl), .cons .here (Parts.app _ _), _, rfl, false, _, rfl, .inr ⟨rfl, rfl, by rw [hng, hcut, hn]; rfl, hBad⟩⟩
   ·
    obtain ⟨rfl, rfl, v, hv, xa, xc, xxs, hxs2, rfl⟩ := hR.resolve_right (fun hh => by rw [hh.1] at hc6; cases hc6); rw [after_true hst hpe]
    refine J.skip ?_
    refine Rg ?_
    refine JL.op (RunV.own1 ag_9 rfl mm_ rfl) rfl ?_
    refine Ru 1 rfl ?_
    refine JL.op (RunV.own1 ag_9 rfl mm_ rfl) rfl ?_
    refine JL.op (RunV.lenS un_9 rfl) rfl ?_
    refine JL.op (RunV.add_i64 (p := (k : Int)) (q := 1) rfl rfl (by omega) (by omega)) rfl ?_
    refine JL.op (RunV.strCut_l (m := k + 1) un_9 rfl rfl (by omega) (by omega)) rfl ?_
    refine JL.store1 ag_9 rfl rfl rfl dl_ (by first | rfl | (simp; omega)) ?_
    refine JL.ents (.obj l (.loop r) :: [.blk b7 3 [.int .i64 0], .blk b6 9 [.string ⟨[46].toArray⟩], .blk b5 9 [.string ⟨(rest.drop (k + 1)).toArray⟩], .blk b4 66 [.slice xa (us ++ [v]).length xc], .row xa xc 63 1 (us ++ [v]).length xxs, .blk b2 22 [.slice none 0 0], .blk b3 24 [.int .i64 0]]) pt_ ?_
    refine JL.nil ?_
    refine ⟨_, ?_, _, ?_, ⟨us ++ [v], rest.drop (k + 1), _, _, _, rfl, rfl, rfl, rfl, ⟨hxs2, by rw [hng, hcut, hv]; simp [Function.comp_def], by simp; omega⟩⟩⟩
    ·
     simp; omega
    ·
     repeat (first | exact trivial | refine ⟨rfl, ?_⟩)
end Go.Proofs.YtmngjbefnloljaaGreatDoor
set_option linter.unusedSimpArgs false
set_option linter.unusedVariables false
set_option linter.constructorNameAsVariable false
namespace Go.Proofs.YtmngjbefnloljaaGreatDoor
open Go Go.RowKit
set_option maxRecDepth 100000
theorem ag_24 : aggT Tryz.prog 24 = some none := by kernel_rfl
theorem ag_63 : aggT Tryz.prog 63 = some none := by kernel_rfl
theorem ag_66 : aggT Tryz.prog 66 = some none := by kernel_rfl
theorem ap_66 : apT Tryz.prog 66 = some (63, 1, 8) := by kernel_rfl
theorem ca_113 : callT Tryz.prog 113 = true := by kernel_rfl
theorem ca_114 : callT Tryz.prog 114 = true := by kernel_rfl
theorem ca_115 : callT Tryz.prog 115 = true := by kernel_rfl
theorem sl_66 : slT Tryz.prog 66 = some (63, 1) := by kernel_rfl
theorem zr_22 : zeroT Tryz.prog 22 = some [.slice none 0 0] := by kernel_rfl
theorem zr_24 : zeroT Tryz.prog 24 = some [.int .i64 0] := by kernel_rfl
theorem zr_63 : zeroT Tryz.prog 63 = some [.int .u64 0] := by kernel_rfl
theorem zr_66 : zeroT Tryz.prog 66 = some [.slice none 0 0] := by kernel_rfl
theorem Slots.weak {m : Nat} {S S' : Sig} {t : Array Value} (k : Slots m S t) (hw : Weak S' S) : Slots m S' t := ⟨k.1, fun s v hv => k.2 s v (hw.look hv)⟩
theorem hiF_len : ∀ (f n : Nat), (hiF f n).length ≤ f
  | 0, _ => by simp [hiF]
  | f + 1, n => by
    rw [hiF]
    split
    · simp
    · have := hiF_len f (n / 128); simp; omega
theorem b128_len (n : Nat) : (b128 n).length ≤ 11 := by
  have := hiF_len 10 (n / 128)
  unfold b128 hiB
  simp; omega
theorem enc_append (a b : List Nat) : enc (a ++ b) = enc a ++ enc b := by
  induction a with
  | nil => rfl
  | cons x r ih => simp only [List.cons_append, enc, ih, List.append_assoc]
theorem numB_lt {s : List UInt8} {v : Nat} (h : numB s = some v) : v < 9223372036854775808 := by
  unfold numB at h
  split at h
  · cases h
  · split at h
    · cases h; assumption
    · cases h
theorem numsGo_lt : ∀ (s cur : List UInt8) (l : List Nat), numsGo s cur = some l → ∀ x ∈ l, x < 9223372036854775808
  | [], cur, l, h, x, hx => by
    rw [numsGo, Option.map_eq_some_iff] at h
    obtain ⟨v, hv, rfl⟩ := h
    simp at hx; subst hx
    exact numB_lt hv
  | c :: r, cur, l, h, x, hx => by
    rw [numsGo] at h
    split at h
    · split at h
      · cases h
      · rename_i n hn
        rw [Option.map_eq_some_iff] at h
        obtain ⟨l', hl', rfl⟩ := h
        rcases List.mem_cons.1 hx with rfl | hx
        · exact numB_lt hn
        · exact numsGo_lt r [] l' hl' x hx
    · exact numsGo_lt r _ l h x hx
def OR_ (s : List UInt8) : Value → Part → Prop := fun v h' => ∃ a c, v = .tuple #[.slice a ((oidB s).getD []).length c, .int .i64 (if (oidB s).isSome then 0 else 20)] ∧ SlR u8R 1 h' a c ((oidB s).getD [])
theorem round_rd {l D fn q2 q3 q4 : Nat} {tmps : Array Value} {h : Part} (ht : Slots 79 [(2, .pointer (some ⟨q2, 0, none⟩)), (3, .pointer (some ⟨q3, 0, none⟩)), (4, .pointer (some ⟨q4, 0, none⟩))] tmps) {A B : Code} {r0 r1 r2 rest : Code} {g : Operand}
    (hcode : Tryz.f75.body = some (.seq r0 (.seq r1 (.seq (.seq r2 (.block 0 (.rangeFunc g #[13] A B))) rest))))
    (us : List UInt64) (t : List UInt8) (a : Option Addr) (c : Nat) (xs : List Value) (hus : us.length ≤ 1000001) (htl : t.length ≤ 1000000) (hxs : ∀ h, CellsR u64R 1 h xs us) :
    Rd Tryz.prog l (Loop.new fn tmps #[13] A B D) (.string ⟨t.toArray⟩) h [.blk q4 66 [.slice a us.length c], .row a c 63 1 us.length xs, .blk q2 22 [.slice none 0 0], .blk q3 24 [.int .i64 0]] (PR q2 q3 q4 us t h) := by
  have hc2 := hcode
  unfold Tryz.f75 at hc2
  simp only [Option.some.injEq, Code.seq.injEq, Code.block.injEq, Code.rangeFunc.injEq] at hc2
  obtain ⟨-, -, ⟨-, -, -, -, hA, hB⟩, -⟩ := hc2
  have hx1 := hxs h
  have hnl := numP_lt t
  refine Rd.intro (m := 79) hA.symm hB.symm rfl rfl rfl rfl ht (fun e he => ⟨fun S1 _ _ => S1 = [(5, .string ⟨t.toArray⟩), (13, .string ⟨t.toArray⟩), (2, .pointer (some ⟨q2, 0, none⟩)), (3, .pointer (some ⟨q3, 0, none⟩)), (4, .pointer (some ⟨q4, 0, none⟩))], ?_, ?_⟩)
  · refine JR.region rfl ?_
    refine JL.op (RunV.assign rfl) rfl ?_
    exact JL.nil ⟨rfl, rfl, rfl⟩
  · rintro _ rfl
    refine JR.block ?_
    refine JR.sr rfl ?_
    refine Ru 1 rfl ?_
    refine JL.callP ca_114 rfl (onumber_fn (by omega)) rfl ?_
    refine Ru 5 rfl ?_
    refine JR.nk [7, 6, 2, 3, 4] rfl ?_
    refine JR.seq ?_
    refine JR.sr rfl ?_
    refine Ru 2 rfl ?_
    refine JL.nil ?_
    refine JR.cs rfl (fun hc2 => ?_) fun hc2 => ?_
    ·
     have hnb : numB t = none := numP_none (v := (numP t).1) (Prod.ext rfl (by simpa using hc2))
     refine JR.sr rfl ?_
     refine JL.store1 ag_22 rfl rfl rfl dl_ (by first | rfl | (simp; omega)) ?_
     refine JL.store1 ag_24 rfl rfl rfl dl_ (by first | rfl | (simp; omega)) ?_
     refine JL.nil ?_
     exact JR.ret ⟨[.blk q2 22 [.slice none 0 0], .blk q3 24 [.int .i64 20]], _, pt_, .inr ⟨rfl, rfl, hnb, rfl⟩⟩
    ·
     have hnb : numB t = some (numP t).1 := numP_some (Prod.ext rfl (by simpa using hc2)); have hvv : (UInt64.ofNat (numP t).1).toNat = (numP t).1 := (by rw [UInt64.toNat_ofNat']; omega)
     refine JR.skip ?_
     refine JR.kp [6, 4] rfl ?_
     refine JR.region rfl ?_
     refine JL.op (RunV.own1 ag_66 rfl mm_ rfl) rfl ?_
     refine Ru 1 rfl ?_
     refine JL.lit1 ap_66 zr_63 rfl rfl rfl rfl rfl (fun b3 => ?_)
     refine JL.append1 ap_66 rfl rfl (by assumption) rfl dl_ dl_ rfl ((show u64R _ [.int .u64 ((numP t).1 : Nat)] (UInt64.ofNat (numP t).1) by unfold u64R; rw [hvv])) (by first | omega | (simp only [List.length_append, List.length_cons, List.length_nil]; omega)) rfl rfl (fun a4 c4 xs4 hC4 hN4 => ?_)
     refine JL.store1 ag_66 rfl rfl rfl dl_ (by first | rfl | (simp; omega)) ?_
     refine JL.nil ?_
     exact ⟨[.blk q4 66 [_], .row _ _ 63 1 _ _, .blk q2 22 [.slice none 0 0], .blk q3 24 [.int .i64 0]], _, pt_, .inl ⟨rfl, rfl, UInt64.ofNat (numP t).1, by rw [hnb, hvv], _, _, _, fun _ => hC4, rfl⟩⟩
theorem obytes_fn {s : List UInt8} {h : Part} (hs : s.length ≤ 1000000) : FnR Tryz.prog 75 [.string ⟨s.toArray⟩] h (OR_ s) := by
  refine Fn.introM (m := 79) Tryz.func75 rfl Tryz.ntmps75 rfl (fun w0 => ?_)
  refine JG.seq ?_
  refine J.region ?_
  refine JL.alloc zr_22 rfl (fun q2 => ?_)
  refine JL.alloc zr_24 rfl (fun q3 => ?_)
  refine JL.nil ?_
  refine JG.seq ?_
  refine J.region ?_
  refine JL.alloc zr_66 rfl (fun q4 => ?_)
  refine JL.row_nil 63 1 ?_
  refine JL.nil ?_
  refine JG.split ?_
  refine JG.seq ?_
  refine J.region ?_
  refine Ru 1 rfl ?_
  refine JL.call ca_113 rfl (SplitSeq_fn (s := s) (sep := [46])) pt_ rfl ?_
  rintro _ h1 Lo1 hle1 ⟨rfl, q5, q6, q7, rfl, rfl⟩
  refine JL.nil ?_
  refine JG.block ?_
  refine JG.range (lb := [.pointer (some ⟨q6, 0, none⟩), .pointer (some ⟨q5, 0, none⟩), .pointer (some ⟨q7, 0, none⟩)]) rfl (by kernel_rfl) rfl (fun D l fn tmps ht => ⟨[.blk q7 3 [.int .i64 0], .blk q6 9 [.string ⟨[46].toArray⟩], .blk q5 9 [.string ⟨s.toArray⟩], .blk q4 66 [.slice none 0 0], .row none 0 63 1 0 [], .blk q2 22 [.slice none 0 0], .blk q3 24 [.int .i64 0]], [], ER q2 q3 q4 s h1, pt_, ?_, ?_, ?_⟩)
  · exact iter_fn rfl rfl rfl hs (fun us t a c xs h2 h3 h4 => round_rd (ht.weak ⟨rfl, rfl, rfl, trivial⟩) rfl us t a c xs h2 h3 h4)
  · rintro h2 Lo hle2 hE
    obtain ⟨-, rfl, us, hng, hul, ua, uc, uxs, huxs, rfl⟩ := hE.resolve_right (fun hh => by cases hh.1)
    refine JN.blk (JG.ofJ ?_)
    have hob : oidB s = if oidOk (us.map (·.toNat)) then some (enc ((40 * (us.map (·.toNat)).getD 0 0 + (us.map (·.toNat)).getD 1 0) :: (us.map (·.toNat)).drop 2)) else none := by unfold oidB; rw [hng]
    by_cases hu2 : us.length < 2
    · have hz : oidB s = none := by rw [hob, if_neg]; unfold oidOk; rw [decide_eq_false (by simp; omega), Bool.false_and]; decide
      refine J.seq ?_
      refine Sr ?_
      refine JL.op (RunV.own1 ag_66 rfl mm_ rfl) rfl ?_
      refine Ru 3 rfl ?_
      refine Bs 28 rfl (fun hc1 => ?_) fun hc1 => ?_
      rotate_left
      ·
       exfalso; omega
      refine Ru 29 rfl ?_
      refine Nk [57, 2, 3, 4] rfl ?_
      refine J.cond_t rfl ?_
      refine Sr ?_
      refine JL.store1 ag_22 rfl rfl rfl dl_ (by first | rfl | (simp; omega)) ?_
      refine JL.store1 ag_24 rfl rfl rfl dl_ (by first | rfl | (simp; omega)) ?_
      refine JL.nil ?_
      exact J.ret ⟨_, _, [], _, by repeat (first | exact Del.here | apply Del.there), (RetV.cellv2 rfl rfl ag_22 mm_ rfl ag_24 mm_), .nil, _, rfl, rfl, none, 0, by rw [hz]; rfl, by rw [hz]; exact SlR.nil_⟩
    · obtain ⟨x, y, t, rfl⟩ : ∃ x y t, us = x :: y :: t := by
        match us, hu2 with
        | x :: y :: t, _ => exact ⟨x, y, t, rfl⟩
        | [], hh => exact absurd (by simp) hh
        | [_], hh => exact absurd (by simp) hh
      have hxl := x.toNat_lt
      have hyl := y.toNat_lt
      have htl : t.length ≤ 1000000 := by simp at hul; omega
      have hx0 : (x :: y :: t)[0] = x := rfl
      have hy1 : (x :: y :: t)[1] = y := rfl
      have hnl : ((x :: y :: t).length : Int) = t.length + 2 := by simp; omega
      have hok : oidOk ((x :: y :: t).map (·.toNat)) = decide ((x.toNat = 2 ∧ y.toNat < 9223372036854775728) ∨ (x.toNat < 2 ∧ y.toNat < 40)) := by
        unfold oidOk
        rw [decide_eq_true (by simp), Bool.true_and, ← Bool.decide_or]
        rfl
      rw [hok] at hob
      refine J.pub (R := u64R) (l := x :: y :: t) dl_ (huxs _) rfl (by simp; omega) (fun h9 hle9 hU => ?_)
      refine J.ents [.obj D (.deferred (some [])), .blk q4 66 [.slice ua (x :: y :: t).length uc], .blk q2 22 [.slice none 0 0], .blk q3 24 [.int .i64 0]] pt_ ?_
      refine J.seq ?_
      refine J.seq ?_
      refine J.meet [(57, .bool (decide (¬ ((x.toNat = 2 ∧ y.toNat < 9223372036854775728) ∨ (x.toNat < 2 ∧ y.toNat < 40)))))] [(2, _), (3, _), (4, _)] ⟨rfl, rfl, rfl, trivial⟩ ?_ ?_
      ·
       refine Rg ?_
       refine JL.op (RunV.own1 ag_66 rfl mm_ rfl) rfl ?_
       refine Ru 3 rfl ?_
       refine Bs 28 rfl (fun hc1 => ?_) fun hc1 => ?_
       ·
        exfalso; (rw [hnl] at hc1; omega)
       refine JL.opg rfl rfl  (RunV.own1 ag_66 rfl mm_ rfl) rfl ?_
       refine JL.opeg rfl rfl  (RunE.index sl_66 rfl rfl (show _ = ((0 : Nat) : Int) from rfl) (by assumption) rfl (by omega)) rfl ?_
       rintro _ ⟨b2, o2, hi2, rfl, hE2⟩
       refine JL.opg rfl rfl  (RunV.ld_u64 (y := x) ag_63 rfl (by assumption)) rfl ?_
       refine Ru 3 rfl ?_
       refine Bs 34 rfl (fun hc3 => ?_) fun hc3 => ?_
       ·
        refine Ru 23 rfl ?_
        refine JL.nil ?_
        refine ⟨rfl, rfl, ?_⟩
        repeat (first | exact trivial | refine ⟨rfl, ?_⟩ | refine ⟨(by exact some_bool (by first | exact decide_eq_decide.2 (by omega) | exact (decide_eq_true (by omega)).symm | exact (decide_eq_false (by omega)).symm)), ?_⟩)
       ·
        refine JL.opg rfl rfl  (RunV.own1 ag_66 rfl mm_ rfl) rfl ?_
        refine JL.opeg rfl rfl  (RunE.index sl_66 rfl rfl (show _ = ((0 : Nat) : Int) from rfl) (by assumption) rfl (by omega)) rfl ?_
        rintro _ ⟨b4, o4, hi4, rfl, hE4⟩
        refine JL.opg rfl rfl  (RunV.ld_u64 (y := x) ag_63 rfl (by assumption)) rfl ?_
        refine Ru 2 rfl ?_
        refine Bs 39 rfl (fun hc5 => ?_) fun hc5 => ?_
        ·
         refine JL.opg rfl rfl  (RunV.own1 ag_66 rfl mm_ rfl) rfl ?_
         refine JL.opeg rfl rfl  (RunE.index sl_66 rfl rfl (show _ = ((1 : Nat) : Int) from rfl) (by assumption) rfl (by omega)) rfl ?_
         rintro _ ⟨b6, o6, hi6, rfl, hE6⟩
         refine JL.opg rfl rfl  (RunV.ld_u64 (y := y) ag_63 rfl (by assumption)) rfl ?_
         refine Ru 4 rfl ?_
         refine Bs 46 rfl (fun hc7 => ?_) fun hc7 => ?_
         ·
          refine Ru 11 rfl ?_
          refine JL.nil ?_
          refine ⟨rfl, rfl, ?_⟩
          repeat (first | exact trivial | refine ⟨rfl, ?_⟩ | refine ⟨(by exact some_bool (by first | exact decide_eq_decide.2 (by omega) | exact (decide_eq_true (by omega)).symm | exact (decide_eq_false (by omega)).symm)), ?_⟩)
         ·
          refine JL.opg rfl rfl  (RunV.own1 ag_66 rfl mm_ rfl) rfl ?_
          refine JL.opeg rfl rfl  (RunE.index sl_66 rfl rfl (show _ = ((0 : Nat) : Int) from rfl) (by assumption) rfl (by omega)) rfl ?_
          rintro _ ⟨b8, o8, hi8, rfl, hE8⟩
          refine JL.opg rfl rfl  (RunV.ld_u64 (y := x) ag_63 rfl (by assumption)) rfl ?_
          refine Ru 2 rfl ?_
          refine Bs 51 rfl (fun hc9 => ?_) fun hc9 => ?_
          ·
           refine JL.opg rfl rfl  (RunV.own1 ag_66 rfl mm_ rfl) rfl ?_
           refine JL.opeg rfl rfl  (RunE.index sl_66 rfl rfl (show _ = ((1 : Nat) : Int) from rfl) (by assumption) rfl (by omega)) rfl ?_
           rintro _ ⟨b10, o10, hi10, rfl, hE10⟩
           refine JL.opg rfl rfl  (RunV.ld_u64 (y := y) ag_63 rfl (by assumption)) rfl ?_
           refine Ru 3 rfl ?_
           refine JL.nil ?_
           refine ⟨rfl, rfl, ?_⟩
           repeat (first | exact trivial | refine ⟨rfl, ?_⟩ | refine ⟨(by exact some_bool (by first | exact decide_eq_decide.2 (by omega) | exact (decide_eq_true (by omega)).symm | exact (decide_eq_false (by omega)).symm)), ?_⟩)
          ·
           refine Ru 6 rfl ?_
           refine JL.nil ?_
           refine ⟨rfl, rfl, ?_⟩
           repeat (first | exact trivial | refine ⟨rfl, ?_⟩ | refine ⟨(by exact some_bool (by first | exact decide_eq_decide.2 (by omega) | exact (decide_eq_true (by omega)).symm | exact (decide_eq_false (by omega)).symm)), ?_⟩)
        ·
         refine Ru 7 rfl ?_
         refine JL.opg rfl rfl  (RunV.own1 ag_66 rfl mm_ rfl) rfl ?_
         refine JL.opeg rfl rfl  (RunE.index sl_66 rfl rfl (show _ = ((0 : Nat) : Int) from rfl) (by assumption) rfl (by omega)) rfl ?_
         rintro _ ⟨b11, o11, hi11, rfl, hE11⟩
         refine JL.opg rfl rfl  (RunV.ld_u64 (y := x) ag_63 rfl (by assumption)) rfl ?_
         refine Ru 2 rfl ?_
         refine Bs 51 rfl (fun hc12 => ?_) fun hc12 => ?_
         ·
          refine JL.opg rfl rfl  (RunV.own1 ag_66 rfl mm_ rfl) rfl ?_
          refine JL.opeg rfl rfl  (RunE.index sl_66 rfl rfl (show _ = ((1 : Nat) : Int) from rfl) (by assumption) rfl (by omega)) rfl ?_
          rintro _ ⟨b13, o13, hi13, rfl, hE13⟩
          refine JL.opg rfl rfl  (RunV.ld_u64 (y := y) ag_63 rfl (by assumption)) rfl ?_
          refine Ru 3 rfl ?_
          refine JL.nil ?_
          refine ⟨rfl, rfl, ?_⟩
          repeat (first | exact trivial | refine ⟨rfl, ?_⟩ | refine ⟨(by exact some_bool (by first | exact decide_eq_decide.2 (by omega) | exact (decide_eq_true (by omega)).symm | exact (decide_eq_false (by omega)).symm)), ?_⟩)
         ·
          refine Ru 6 rfl ?_
          refine JL.nil ?_
          refine ⟨rfl, rfl, ?_⟩
          repeat (first | exact trivial | refine ⟨rfl, ?_⟩ | refine ⟨(by exact some_bool (by first | exact decide_eq_decide.2 (by omega) | exact (decide_eq_true (by omega)).symm | exact (decide_eq_false (by omega)).symm)), ?_⟩)
      ·
       refine Cs rfl (fun hc14 => ?_) fun hc14 => ?_
       ·
        have hz : oidB s = none := (by rw [hob, decide_eq_false hc14]; rfl)
        refine Sr ?_
        refine JL.store1 ag_22 rfl rfl rfl dl_ (by first | rfl | (simp; omega)) ?_
        refine JL.store1 ag_24 rfl rfl rfl dl_ (by first | rfl | (simp; omega)) ?_
        refine JL.nil ?_
        exact J.ret ⟨_, _, [], _, by repeat (first | exact Del.here | apply Del.there), (RetV.cellv2 rfl rfl ag_22 mm_ rfl ag_24 mm_), .nil, _, rfl, rfl, none, 0, by rw [hz]; rfl, by rw [hz]; exact SlR.nil_⟩
       ·
        obtain ⟨nv, hnv⟩ : ∃ nv, nv = 40 * x.toNat + y.toNat := ⟨_, rfl⟩; have hz : oidB s = some (enc (nv :: t.map (·.toNat))) := (by rw [hob, decide_eq_true (by omega), hnv]; rfl)
        refine J.skip ?_
        refine J.seq ?_
        refine J.held ([.blk q4 66 [.slice ua (x :: y :: t).length uc]]) 10 mixed_ rfl (fun h00 => ?_)
        refine JH.take 0 rfl (by kernel_rfl) (by kernel_rfl) (by kernel_rfl) (fun _ _ _ _ hh => hh) (br_ h00) (RunV.own1 ag_66 rfl mm_ rfl) rfl ?_
        refine JH.takeE 1 rfl (by kernel_rfl) (by kernel_rfl) (by kernel_rfl) (fun _ _ _ _ hh => hh) (br_ h00) (RunE.index sl_66 rfl rfl (show _ = ((0 : Nat) : Int) from rfl) (by assumption) rfl (by omega)) rfl ?_
        rintro _ ⟨b15, o15, hi15, rfl, hE15⟩
        refine JH.take 2 rfl (by kernel_rfl) (by kernel_rfl) (by kernel_rfl) (fun _ _ _ _ hh => hh) (br_ h00) (RunV.ld_u64 (y := x) ag_63 rfl (by assumption)) rfl ?_
        refine JH.take 3 rfl (by kernel_rfl) (by kernel_rfl) (by kernel_rfl) (fun _ _ _ _ hh => hh) (br_ h00) (RunV.mul_u64 rfl rfl (by omega) (by omega)) rfl ?_
        refine JH.take 4 rfl (by kernel_rfl) (by kernel_rfl) (by kernel_rfl) (fun _ _ _ _ hh => hh) (br_ h00) (RunV.own1 ag_66 rfl mm_ rfl) rfl ?_
        refine JH.takeE 5 rfl (by kernel_rfl) (by kernel_rfl) (by kernel_rfl) (fun _ _ _ _ hh => hh) (br_ h00) (RunE.index sl_66 rfl rfl (show _ = ((1 : Nat) : Int) from rfl) (by assumption) rfl (by omega)) rfl ?_
        rintro _ ⟨b16, o16, hi16, rfl, hE16⟩
        refine JH.take 6 rfl (by kernel_rfl) (by kernel_rfl) (by kernel_rfl) (fun _ _ _ _ hh => hh) (br_ h00) (RunV.ld_u64 (y := y) ag_63 rfl (by assumption)) rfl ?_
        refine JH.take 7 rfl (by kernel_rfl) (by kernel_rfl) (by kernel_rfl) (fun _ _ _ _ hh => hh) (br_ h00) (RunV.add_u64 rfl rfl (by omega) (by omega)) rfl ?_
        refine JH.all1 8 (by kernel_rfl) rfl ?_
        unfold One
        refine JL.row_nil 5 1 ?_; rw [show (40 : Int) * (x.toNat : Int) + (y.toNat : Int) = (nv : Int) by omega]
        refine JL.call ca_115 rfl (oput_fn (a := none) (c := 0) (l := []) (n := nv) (by omega) (by simp)) pt_ rfl ?_
        rintro _ h17 Lo17 hle17 ⟨pa17, pc17, rfl, rfl⟩
        replace hU := hU.mono hle17
        refine JL.nil ⟨(br_ h00), ?_⟩
        refine JH.take 9 rfl (by kernel_rfl) (by kernel_rfl) (by kernel_rfl) (fun _ _ _ _ hh => hh) (br_ h00) (RunV.assign rfl) rfl ?_
        refine JH.done (by kernel_rfl) ?_
        refine Kp [8, 2, 3, 4] rfl ?_
        refine J.seq ?_
        refine Sr ?_
        refine JL.op (RunV.own1 ag_66 rfl mm_ rfl) rfl ?_
        refine JL.ope (RunE.cut_l sl_66 rfl rfl (show _ = ((2 : Nat) : Int) from rfl) hU rfl (by omega)) rfl ?_
        rintro _ ⟨ta, tc, rfl, hT⟩
        replace hT : SlR u64R 1 _ ta tc t := hT
        refine Ru 1 rfl ?_
        rw [show ((x :: y :: t).drop 2).length = t.length from rfl]
        refine Ru 1 rfl ?_
        refine JL.nil ?_
        refine J.block ?_
        refine J.loop (fun t_ S_ h_ L_ => ∃ (g : Part) (i : Nat) (out : List UInt8) (ao : Option Addr) (co : Nat), t_ = t.length - i + 1 ∧ S_ = [(2, .pointer (some ⟨q2, 0, none⟩)), (3, .pointer (some ⟨q3, 0, none⟩)), (8, .slice ao out.length co), (68, .slice ta t.length tc), (69, .int .i64 t.length), (70, .int .i64 i)] ∧ g = h_ ∧ L_ = [.row ao co 5 1 out.length (u8s out), .obj D (.deferred (some [])), .blk q4 66 [.slice ua (x :: y :: t).length uc], .blk q2 22 [.slice none 0 0], .blk q3 24 [.int .i64 0]] ∧ (h9.le g ∧ SlR u64R 1 g ta tc t ∧ i ≤ t.length ∧ out = enc (nv :: (t.take i).map (·.toNat)) ∧ out.length ≤ 11 * (i + 1))) ⟨_, _, ?_, ⟨_, 0, b128 nv, _, _, rfl, rfl, rfl, rfl, ⟨by assumption, hT, by omega, by simp [enc], by have := b128_len nv; simp; omega⟩⟩⟩ ?_
        ·
         repeat (first | exact trivial | refine ⟨rfl, ?_⟩)
        rintro _ _ _ _ ⟨g, i, out, ao, co, rfl, rfl, rfl, rfl, hhg, hT, hi, ho, hol⟩
        have hlast : SlR u64R 1 _ ta tc t := hT
        refine Sr ?_
        refine Ru 1 rfl ?_
        refine JL.nil ?_
        refine J.seq ?_
        refine Cs rfl (fun hc19 => ?_) fun hc19 => ?_
        ·
         have hti : t[i].toNat < 9223372036854775808 := numsGo_lt _ _ _ hng _ (List.mem_map.2 ⟨t[i], by simp, rfl⟩); have hbl := b128_len t[i].toNat; have hso : out ++ b128 t[i].toNat = enc (nv :: (t.take (i + 1)).map (·.toNat)) := (by rw [List.take_succ_eq_append_getElem (by omega), List.map_append, ← List.cons_append, enc_append, ← ho]; simp [enc])
         refine J.skip ?_
         refine J.seq ?_
         refine J.block ?_
         refine Sr ?_
         refine JL.ope (RunE.index sl_66 rfl rfl (by first | with_reducible rfl | exact (Int.toNat_of_nonneg (by omega)).symm) (by assumption) rfl (by omega)) rfl ?_
         rintro _ ⟨b20, o20, hi20, rfl, hE20⟩
         refine JL.op (RunV.ld_u64 ag_63 rfl (by assumption)) rfl ?_
         refine Ru 1 rfl ?_
         refine JL.nil ?_
         refine Rg ?_
         refine Ru 2 rfl ?_
         refine JL.call ca_115 rfl (oput_fn (n := t[i].toNat) hti (by omega)) pt_ rfl ?_
         rintro _ h22 Lo22 hle22 ⟨pa22, pc22, rfl, rfl⟩
         replace hT := hT.mono hle22
         replace hhg := hhg.mono hle22
         refine Ru 1 rfl ?_
         refine JL.nil ?_
         refine Rg ?_
         refine JL.op ai_ rfl ?_
         refine Ru 1 rfl ?_
         refine JL.nil ?_
         refine ⟨_, ?_, _, ?_, ⟨_, i + 1, _, _, _, rfl, rfl, rfl, rfl, ⟨by assumption, by assumption, by omega, hso, by simp; omega⟩⟩⟩
         ·
          omega
         ·
          repeat (first | exact trivial | refine ⟨rfl, ?_⟩)
        ·
         have hof : (oidB s).getD [] = out := (by rw [hz, ho, List.take_of_length_le (by omega)]; rfl); have hos : (if (oidB s).isSome = true then (0 : Int) else 20) = 0 := (by rw [hz]; rfl)
         refine J.exit ?_
         refine Kp [2, 3, 8] rfl ?_
         refine Sr ?_
         refine JL.pub (R := u8R) (l := out) dl_ CellsR.of_u8 rfl (by omega) (fun hp hlep hSp => ?_)
         refine Ru 1 rfl ?_
         refine JL.store1 ag_22 rfl rfl rfl dl_ (by first | rfl | (simp; omega)) ?_
         refine JL.store1 ag_24 rfl rfl rfl dl_ (by first | rfl | (simp; omega)) ?_
         refine JL.nil ?_
         exact J.ret ⟨_, _, [], _, by repeat (first | exact Del.here | apply Del.there), (RetV.cellv2 rfl rfl ag_22 mm_ rfl ag_24 mm_), .nil, _, rfl, rfl, _, _, by rw [hof, hos], by rw [hof]; exact hSp⟩
  · rintro h2 Lo hle2 hE
    obtain ⟨-, rfl, hng, rfl⟩ := hE.resolve_left (fun hh => by cases hh.1)
    have hz : oidB s = none := by unfold oidB; rw [hng]
    refine JE.blk (JE.of ⟨_, _, [], _, .here, RetV.cellv2 rfl rfl ag_22 mm_ rfl ag_24 mm_, .nil, _, rfl, rfl, none, 0, by rw [hz]; rfl, by rw [hz]; exact SlR.nil_⟩)
end Go.Proofs.YtmngjbefnloljaaGreatDoor
set_option linter.unusedSimpArgs false
set_option linter.unusedVariables false
set_option linter.constructorNameAsVariable false
namespace Go.Proofs.YtmngjbefnloljaaGreatDoor
open Go Go.RowKit
theorem om_f {b y : Bool} {u : Option Value} (hb : b = false) (h : u = some (.bool y)) : u = some (.bool (b || y)) := by subst hb; rw [Bool.false_or]; exact h
theorem om_t {b y : Bool} {u : Option Value} (hb : b = true) (h : u = some (.bool true)) : u = some (.bool (b || y)) := by subst hb; exact h
instance (priority := high) Sp.and_ (a b : Bool) (p q p' q' : Prop) [s : Sp a p q] [s' : Sp b p' q'] : Sp (a && b) (p ∧ p') (q ∨ q') := ⟨fun h => by
  rw [Bool.and_eq_true] at h; exact ⟨s.t h.1, s'.t h.2⟩, fun h => by
  rw [Bool.and_eq_false_iff] at h; exact h.imp s.f s'.f⟩
instance (priority := high) Sp.or_ (a b : Bool) (p q p' q' : Prop) [s : Sp a p q] [s' : Sp b p' q'] : Sp (a || b) (p ∨ p') (q ∧ q') := ⟨fun h => by
  rw [Bool.or_eq_true] at h; exact h.imp s.t s'.t, fun h => by
  rw [Bool.or_eq_false_iff] at h; exact ⟨s.f h.1, s'.f h.2⟩⟩
section
variable {f : Fr} {n : Post} {x : Nat → Post} {S : Sig} {h : Part} {L : List Ent} {ops : Array Oper} {b : Bool} {p q : Prop} {c d : Code} {l : List Oper}
def Am (h : Part) (L : List Ent) (d : Nat) (v : Bool) (ks : List Nat) (K : Sig) : Post := fun S1 h1 L1 => h1 = h ∧ L1 = L ∧ look S1 d = some (.bool v) ∧ keepS ks S1 = some K
theorem JL.take_drop (j : Nat) (M : Post) (hM : ∀ S' h' L', M S' h' L' → JL f ops n x (l.drop j) S' h' L') (k : JL f ops M x (l.take j) S h L) : JL f ops n x l S h L := fun a w s => by
  have key : ∀ (l1 l2 : List Oper), (∀ S' h' L', M S' h' L' → JL f ops n x l2 S' h' L') → ∀ (a : Act) (w : World), wpList f.P ops (f.Q M x) l1 a w → wpList f.P ops (f.Q n x) (l1 ++ l2) a w := by
    intro l1 l2 hM
    induction l1 with
    | nil => intro a w hh; obtain ⟨S', h', L', s', k'⟩ := hh; exact hM _ _ _ k' a w s'
    | cons o r ih =>
      intro a w hh
      unfold wpList at hh
      rw [List.cons_append]
      unfold wpList
      split
      · rename_i hw
        rw [if_pos hw] at hh
        rcases hh with hh | ⟨h1, a', w', hh⟩
        · refine .inl ?_
          unfold Oper.wp at *
          generalize (execOp a.eval o).run f.P w = rr at *
          cases rr with
          | ok nx w' =>
            cases nx <;> simp only [Oper.upon] at hh ⊢ <;> first
              | exact ih _ _ hh
              | exact Calls.mono hh (fun e w'' he => by cases e <;> first | exact ih _ _ he | exact he)
              | exact Rows.mono hh (fun _ _ he => ih _ _ he)
              | exact hh
          | halt z w' => cases z <;> simp only [Oper.upon] at hh ⊢ <;> exact hh
        · exact hh.elim
      · rename_i hw
        rw [if_neg hw] at hh
        exact ih _ _ hh
  have := key (l.take j) (l.drop j) hM a w (k a w s)
  rwa [List.take_append_drop] at this
theorem On {y : Bool} (t d j : Nat) (ks : List Nat) {K : Sig} (ht : look S t = some (.bool b)) (hk : keepS ks S = some K) [s : Sp b p q]
    (kT : b = true → p → JL f ops (Am h L d (b || y) ks K) x (l.take j) ((t, .bool true) :: S) h L) (kF : b = false → q → JL f ops (Am h L d (b || y) ks K) x (l.take j) ((t, .bool false) :: S) h L)
    (k : JL f ops n x (l.drop j) ((d, .bool (b || y)) :: K) h L) : JL f ops n x l S h L := by
  have fin : ∀ S1 h1 L1, Am h L d (b || y) ks K S1 h1 L1 → JL f ops n x (l.drop j) S1 h1 L1 := fun S1 h1 L1 ⟨e1, e2, e3, e4⟩ => by
    subst e1 e2
    exact JL.weak ((d, .bool (b || y)) :: K) ⟨e3, keepS_ok e4⟩ k
  exact JL.take_drop j _ fin (JL.bsplit t ht (fun hb => kT hb (s.t hb)) (fun hb => kF hb (s.f hb)))
theorem Ae {v : Bool} {d : Nat} {ks : List Nat} {K S1 : Sig} (h1 : look S1 d = some (.bool v)) (h2 : keepS ks S1 = some K) : JL f ops (Am h L d v ks K) x [] S1 h L := JL.nil ⟨rfl, rfl, h1, h2⟩
end
end Go.Proofs.YtmngjbefnloljaaGreatDoor
set_option linter.unusedSimpArgs false
set_option linter.unusedVariables false
set_option linter.constructorNameAsVariable false
namespace Go.Proofs.YtmngjbefnloljaaGreatDoor
open Go Go.RowKit
set_option maxRecDepth 100000
theorem ag_103 : aggT Tryz.prog 103 = some none := by kernel_rfl
theorem ca_40 : callT Tryz.prog 40 = true := by kernel_rfl
theorem ca_45 : callT Tryz.prog 45 = true := by kernel_rfl
theorem ca_56 : callT Tryz.prog 56 = true := by kernel_rfl
theorem ca_57 : callT Tryz.prog 57 = true := by kernel_rfl
theorem ca_84 : callT Tryz.prog 84 = true := by kernel_rfl
theorem ca_85 : callT Tryz.prog 85 = true := by kernel_rfl
theorem ca_97 : callT Tryz.prog 97 = true := by kernel_rfl
theorem cv_103_5 : convI Tryz.prog 103 5 = some .u8 := by kernel_rfl
theorem cv_103_63 : convI Tryz.prog 103 63 = some .u64 := by kernel_rfl
theorem mk_22 : mkT Tryz.prog 22 = some (5, .int .u8 0, 1) := by kernel_rfl
theorem sl_30 : slT Tryz.prog 30 = some (103, 1) := by kernel_rfl
def d32 (l : List UInt32) (i : Nat) : Nat := (l.getD i 0).toNat
def d64 (l : List UInt64) (i : Nat) : Nat := (l.getD i 0).toNat
theorem d32_at (l : List UInt32) (i : Nat) (h : i < l.length) : ((l[i]'h).toNat : Int) = d32 l i := by simp [d32, h]
theorem d64_at (l : List UInt64) (i : Nat) (h : i < l.length) : ((l[i]'h).toNat : Int) = d64 l i := by simp [d64, h]
theorem d32_lt (l : List UInt32) (i : Nat) : d32 l i < 4294967296 := UInt32.toNat_lt _
theorem d32_out (l : List UInt32) (i : Nat) (h : l.length ≤ i) : d32 l i = 0 := by
  unfold d32; rw [List.getD_eq_getElem?_getD, List.getElem?_eq_none h]; rfl
theorem d64_out (l : List UInt64) (i : Nat) (h : l.length ≤ i) : d64 l i = 0 := by
  unfold d64; rw [List.getD_eq_getElem?_getD, List.getElem?_eq_none h]; rfl
def tsz (f : Nat → Nat) : Nat → Nat
  | 0 => 0
  | n + 1 => if f n = 0 then tsz f n else n + 1
theorem tsz_le (f : Nat → Nat) : ∀ n, tsz f n ≤ n
  | 0 => Nat.le_refl _
  | n + 1 => by unfold tsz; split; (have := tsz_le f n; omega); exact Nat.le_refl _
theorem tsz_top (f : Nat → Nat) : ∀ n, tsz f n ≠ 0 → f (tsz f n - 1) ≠ 0
  | 0, h => absurd rfl h
  | n + 1, h => by
    unfold tsz at h ⊢
    by_cases hf : f n = 0
    · rw [if_pos hf] at h ⊢; exact tsz_top f n h
    · rw [if_neg hf]; exact hf
theorem tsz_zero (f : Nat → Nat) : ∀ n i, tsz f n ≤ i → i < n → f i = 0
  | 0, i, _, h => by omega
  | n + 1, i, h, h2 => by
    unfold tsz at h
    by_cases hf : f n = 0
    · rw [if_pos hf] at h
      by_cases hi : i = n
      · subst hi; exact hf
      · exact tsz_zero f n i h (by omega)
    · rw [if_neg hf] at h; omega
theorem tsz_stop (f : Nat → Nat) (n : Nat) (h : ¬ (0 < n ∧ f (n - 1) = 0)) : tsz f n = n := by
  cases n with
  | zero => rfl
  | succ n => unfold tsz; exact if_neg (fun hf => h ⟨by omega, hf⟩)
theorem tsz_go (f : Nat → Nat) (n : Nat) (h : 0 < n ∧ f (n - 1) = 0) : tsz f n = tsz f (n - 1) := by
  obtain ⟨m, rfl⟩ : ∃ m, n = m + 1 := ⟨n - 1, by omega⟩
  conv => lhs; unfold tsz
  exact if_pos h.2
def bl (n : Nat) : Nat := if n = 0 then 0 else n.log2 + 1
theorem bl_half (n : Nat) (h : 0 < n) : bl n = bl (n / 2) + 1 := by
  unfold bl
  rw [if_neg (by omega), Nat.log2_def]
  split
  · rw [if_neg (by omega)]
  · rw [if_pos (by omega)]
theorem bl_shift (k n : Nat) : 2 ^ k ≤ n → bl n = k + bl (n / 2 ^ k) := by
  induction k generalizing n with
  | zero => intro _; simp
  | succ k ih =>
    intro h
    rw [Nat.pow_succ] at h
    have hp : 0 < 2 ^ k := Nat.two_pow_pos k
    rw [bl_half n (by omega), ih (n / 2) (by omega), Nat.div_div_eq_div_mul, Nat.pow_succ, Nat.mul_comm 2]
    omega
theorem bl_le (k n : Nat) (h : n < 2 ^ k) : bl n ≤ k := by
  unfold bl
  split
  · omega
  · have := (Nat.log2_lt (by assumption)).2 h; omega
theorem bl_le32 (l : List UInt32) (i : Nat) : bl (d32 l i) ≤ 32 := bl_le 32 _ (d32_lt l i)
def tab8 : List UInt8 := [0, 1] ++ List.replicate 2 2 ++ List.replicate 4 3 ++ List.replicate 8 4 ++ List.replicate 16 5 ++ List.replicate 32 6 ++ List.replicate 64 7 ++ List.replicate 128 8
theorem tab8_len : tab8.length = 256 := by decide +kernel
theorem tab8_at (n : Nat) (h : n < 256) : byteAt tab8 n = bl n := by
  have : ∀ i : Fin 256, byteAt tab8 i.val = bl i.val := by decide +kernel
  exact this ⟨n, h⟩
theorem natsize_fn {a : Option Addr} {c : Nat} {l : List UInt32} {h : Part} (hl : SlR u32R 1 h a c l) : Pure Tryz.prog 84 [.slice a l.length c] h (.int .i64 (tsz (d32 l) l.length : Nat)) := by
  have hll := hl.big
  refine Fn.intro Tryz.func84 rfl Tryz.ntmps84 rfl (fun e he => ?_)
  refine J.weak [(0, _)] ⟨rfl, trivial⟩ ?_
  refine Sr ?_
  refine Ru 1 rfl ?_
  refine JL.nil ?_
  refine Sr ?_
  refine Ru 3 rfl ?_
  refine JL.nil ?_
  refine J.seq ?_
  refine J.block ?_
  refine J.loop (fun t_ S_ h_ L_ => ∃ (n : Nat), t_ = n + 1 ∧ S_ = [(0, .slice a l.length c), (3, .int .i64 n)] ∧ h = h_ ∧ L_ = [] ∧ (n ≤ l.length ∧ tsz (d32 l) l.length = tsz (d32 l) n)) ⟨_, _, ?_, ⟨l.length, rfl, rfl, rfl, rfl, ⟨Nat.le_refl _, rfl⟩⟩⟩ ?_
  ·
   repeat (first | exact trivial | refine ⟨rfl, ?_⟩ | refine ⟨(by exact some_int (by omega)), ?_⟩)
  rintro _ _ _ _ ⟨n, rfl, rfl, rfl, rfl, hn, he⟩
  refine J.seq ?_
  refine J.seq ?_
  refine J.meet [(15, .bool (decide (0 < n ∧ d32 l (n - 1) = 0)))] [(0, _), (3, _)] ⟨rfl, rfl, trivial⟩ ?_ ?_
  ·
   refine Rg ?_
   refine Ru 3 rfl ?_
   refine Bs 8 rfl (fun hc1 => ?_) fun hc1 => ?_
   ·
    refine Ru 2 rfl ?_
    refine JL.opg rfl rfl  si_ rfl ?_
    refine JL.opeg rfl rfl  (RunE.index sl_30 rfl rfl (by first | with_reducible rfl | exact (Int.toNat_of_nonneg (by omega)).symm) (by assumption) rfl (by omega)) rfl ?_
    rintro _ ⟨b2, o2, hi2, rfl, hE2⟩
    refine JL.opg rfl rfl  (RunV.ld_u32 ag_103 rfl (by assumption)) rfl ?_
    rw [d32_at, show ((n : Int) - 1).toNat = n - 1 by omega]
    refine Ru 2 rfl ?_
    refine JL.nil ?_
    refine ⟨rfl, rfl, ?_⟩
    repeat (first | exact trivial | refine ⟨rfl, ?_⟩ | refine ⟨(by exact some_bool (by first | (rw [decide_eq_decide]; omega) | exact (decide_eq_false (by omega)).symm | exact decide_eq_false (by omega))), ?_⟩)
   ·
    refine Ru 7 rfl ?_
    refine JL.nil ?_
    refine ⟨rfl, rfl, ?_⟩
    repeat (first | exact trivial | refine ⟨rfl, ?_⟩ | refine ⟨(by exact some_bool (by first | (rw [decide_eq_decide]; omega) | exact (decide_eq_false (by omega)).symm | exact decide_eq_false (by omega))), ?_⟩)
  ·
   refine Cs rfl (fun hc4 => ?_) fun hc4 => ?_
   ·
    refine J.skip ?_
    refine J.block ?_
    refine Rg ?_
    refine Ru 1 rfl ?_
    refine JL.op si_ rfl ?_
    refine Ru 1 rfl ?_
    refine JL.nil ?_
    refine ⟨_, ?_, _, ?_, ⟨n - 1, rfl, rfl, rfl, rfl, ⟨by omega, by rw [he, tsz_go _ _ (by omega)]⟩⟩⟩
    ·
     omega
    ·
     repeat (first | exact trivial | refine ⟨rfl, ?_⟩ | refine ⟨(by exact some_int (by omega)), ?_⟩)
   ·
    refine J.exit ?_
    refine Sr ?_
    refine Ru 2 rfl ?_
    refine Nk [2] rfl ?_
    exact J.retP (RetV.one rfl rfl) (by rw [he, tsz_stop _ _ (by omega)]) rfl
def hiQ (D n : Nat) : Nat := if D ≤ n then n / D else n
def hiA (D k n : Nat) : Nat := if D ≤ n then k else 0
theorem hi_bl (k n : Nat) : bl n = hiA (2 ^ k) k n + bl (hiQ (2 ^ k) n) := by
  unfold hiA hiQ
  split
  · exact bl_shift k n (by assumption)
  · simp
theorem hi_pos {D n : Nat} (k : Nat) (h : D ≤ n) : hiQ D n = n / D ∧ hiA D k n = k := ⟨if_pos h, if_pos h⟩
theorem hi_neg {D n : Nat} (k : Nat) (h : ¬ D ≤ n) : hiQ D n = n ∧ hiA D k n = 0 := ⟨if_neg h, if_neg h⟩
theorem hiA_le (D k n : Nat) : hiA D k n ≤ k := by unfold hiA; split <;> omega
theorem len32_fn {n : Nat} {h : Part} (hn : n < 4294967296) : Pure Tryz.prog 85 [.int .u32 n] h (.int .i64 (bl n : Nat)) := by
  have htl := tab8_len
  have h1 : hiQ 65536 n < 65536 := by unfold hiQ; split <;> omega
  have h2 : hiQ 256 (hiQ 65536 n) < 256 := (show ∀ m, m < 65536 → hiQ 256 m < 256 from fun m hm => by unfold hiQ; split <;> omega) _ h1
  have e1 : bl n = hiA 65536 16 n + bl (hiQ 65536 n) := hi_bl 16 n
  have e2 : bl (hiQ 65536 n) = hiA 256 8 (hiQ 65536 n) + bl (hiQ 256 (hiQ 65536 n)) := hi_bl 8 _
  have l1 := hiA_le 65536 16 n
  have l2 := hiA_le 256 8 (hiQ 65536 n)
  have l3 := tab8_at _ h2
  have l4 := bl_le 8 _ h2
  refine Fn.intro Tryz.func85 rfl Tryz.ntmps85 rfl (fun e he => ?_)
  refine J.weak [(0, _)] ⟨rfl, trivial⟩ ?_
  refine Sr ?_
  refine Ru 1 rfl ?_
  refine JL.nil ?_
  refine J.seq ?_
  refine Sr ?_
  refine Ru 2 rfl ?_
  refine JL.nil ?_
  refine J.meet [(0, .int .u32 (hiQ 65536 n : Nat)), (2, .int .i64 (hiA 65536 16 n : Nat))] [] trivial ?_ ?_
  ·
   refine Cs rfl (fun hc1 => ?_) fun hc1 => ?_
   ·
    have q := hi_pos (D := 65536) (n := n) 16 (by omega)
    refine Sr ?_
    refine Ru 1 rfl ?_
    refine JL.op (RunV.shr_u32 65536 rfl rfl (by decide) (by decide) (by decide)) rfl ?_
    refine Ru 1 rfl ?_
    refine Nk [0, 2] rfl ?_
    refine Rg ?_
    refine Ru 1 rfl ?_
    refine JL.nil ?_
    refine ⟨rfl, rfl, ?_⟩
    repeat (first | exact trivial | refine ⟨rfl, ?_⟩ | refine ⟨(by exact some_int (by omega)), ?_⟩)
   ·
    have q := hi_neg (D := 65536) (n := n) 16 (by omega)
    refine J.skip ?_
    refine ⟨rfl, rfl, ?_⟩
    repeat (first | exact trivial | refine ⟨rfl, ?_⟩ | refine ⟨(by exact some_int (by omega)), ?_⟩)
  ·
   refine J.seq ?_
   refine Sr ?_
   refine Ru 2 rfl ?_
   refine JL.nil ?_
   refine J.meet [(0, .int .u32 (hiQ 256 (hiQ 65536 n) : Nat)), (2, .int .i64 (hiA 65536 16 n + hiA 256 8 (hiQ 65536 n) : Nat))] [] trivial ?_ ?_
   ·
    refine Cs rfl (fun hc2 => ?_) fun hc2 => ?_
    ·
     have q := hi_pos (D := 256) (n := hiQ 65536 n) 8 (by omega)
     refine Sr ?_
     refine Ru 1 rfl ?_
     refine JL.op (RunV.shr_u32 256 rfl rfl (by decide) (by decide) (by decide)) rfl ?_
     refine Ru 1 rfl ?_
     refine Nk [0, 2] rfl ?_
     refine Rg ?_
     refine Ru 1 rfl ?_
     refine JL.op ai_ rfl ?_
     refine Ru 1 rfl ?_
     refine JL.nil ?_
     refine ⟨rfl, rfl, ?_⟩
     repeat (first | exact trivial | refine ⟨rfl, ?_⟩ | refine ⟨(by exact some_int (by omega)), ?_⟩)
    ·
     have q := hi_neg (D := 256) (n := hiQ 65536 n) 8 (by omega)
     refine J.skip ?_
     refine ⟨rfl, rfl, ?_⟩
     repeat (first | exact trivial | refine ⟨rfl, ?_⟩ | refine ⟨(by exact some_int (by omega)), ?_⟩)
   ·
    refine Sr ?_
    refine Ru 2 rfl ?_
    refine JL.op (by first | exact RunV.conv_u8 cv_103_5 rfl (by omega) (by omega) | exact RunV.conv cv_103_5 rfl) rfl ?_
    refine JL.op (RunV.strIndex (p := tab8) (m := hiQ 256 (hiQ 65536 n)) un_9 (by kernel_rfl) rfl rfl (by omega)) rfl ?_
    rw [l3]
    refine JL.op (by first | exact RunV.convb_i64 cv_5_3 rfl | exact RunV.conv_i64 cv_5_3 rfl (by omega) (by omega) | exact RunV.conv cv_5_3 rfl) rfl ?_
    refine JL.op ai_ rfl ?_
    refine Ru 1 rfl ?_
    refine Nk [2] rfl ?_
    exact J.retP (RetV.one rfl rfl) (by rw [e1, e2, Int.natCast_add, Int.natCast_add, Int.natCast_add, Int.add_assoc]) rfl
def nbits (f : Nat → Nat) (n : Nat) : Nat := if tsz f n = 0 then 0 else 32 * (tsz f n - 1) + bl (f (tsz f n - 1))
theorem natbits_fn {a : Option Addr} {c : Nat} {l : List UInt32} {h : Part} (hl : SlR u32R 1 h a c l) : Pure Tryz.prog 40 [.slice a l.length c] h (.int .i64 (nbits (d32 l) l.length : Nat)) := by
  have hll := hl.big
  have ht := tsz_le (d32 l) l.length
  have hb := bl_le32 l (tsz (d32 l) l.length - 1)
  refine Fn.intro Tryz.func40 rfl Tryz.ntmps40 rfl (fun e he => ?_)
  refine J.weak [(0, _)] ⟨rfl, trivial⟩ ?_
  refine Sr ?_
  refine Ru 1 rfl ?_
  refine JL.nil ?_
  refine Sr ?_
  refine Ru 1 rfl ?_
  refine JL.callP ca_84 rfl (natsize_fn (by assumption)) rfl ?_
  refine Ru 1 rfl ?_
  refine JL.nil ?_
  refine J.seq ?_
  refine Sr ?_
  refine Ru 2 rfl ?_
  refine JL.nil ?_
  refine Cs rfl (fun hc2 => ?_) fun hc2 => ?_
  ·
   have hz : nbits (d32 l) l.length = 0 := if_pos (by omega)
   refine Sr ?_
   refine Ru 1 rfl ?_
   refine Nk [2, 3, 0] rfl ?_
   exact J.retP (RetV.one rfl rfl) (by rw [hz]; rfl) rfl
  ·
   have hz : nbits (d32 l) l.length = 32 * (tsz (d32 l) l.length - 1) + bl (d32 l (tsz (d32 l) l.length - 1)) := if_neg (by omega)
   refine J.skip ?_
   refine Kp [3, 2, 0] rfl ?_
   refine Sr ?_
   refine Ru 1 rfl ?_
   refine JL.op si_ rfl ?_
   refine JL.op (by first | exact RunV.mul_i64 rfl rfl (by omega) (by omega) | exact RunV.mul rfl rfl) rfl ?_
   refine Ru 2 rfl ?_
   refine JL.op si_ rfl ?_
   refine JL.ope (RunE.index sl_30 rfl rfl (by first | with_reducible rfl | exact (Int.toNat_of_nonneg (by omega)).symm) (by assumption) rfl (by omega)) rfl ?_
   rintro _ ⟨b3, o3, hi3, rfl, hE3⟩
   refine JL.op (RunV.ld_u32 ag_103 rfl (by assumption)) rfl ?_
   rw [d32_at, show ((tsz (d32 l) l.length : Int) - 1).toNat = tsz (d32 l) l.length - 1 by omega]
   refine JL.callP ca_85 rfl (len32_fn (d32_lt _ _)) rfl ?_
   refine JL.op ai_ rfl ?_
   refine Ru 1 rfl ?_
   refine Nk [2] rfl ?_
   exact J.retP (RetV.one rfl rfl) (by rw [hz]; exact congrArg (Value.int .i64) (by omega)) rfl
def wB (f : Nat → Nat) (i : Nat) : UInt8 := UInt8.ofNat (f (i / 4) / 256 ^ (i % 4))
def natW (f : Nat → Nat) : Nat → List UInt8
  | 0 => []
  | k + 1 => wB f k :: natW f k
theorem natW_len (f : Nat → Nat) : ∀ k, (natW f k).length = k
  | 0 => rfl
  | k + 1 => by simp [natW, natW_len f k]
theorem shr_d (i : Nat) : (2 : Int) ^ (8 * ((i : Int) % 4)).toNat = 256 ^ (i % 4) := by
  have : (8 * ((i : Int) % 4)).toNat = 8 * (i % 4) := by omega
  rw [this, Int.pow_mul]; rfl
theorem set_rep (m : Nat) (t : List UInt8) (x : UInt8) : (List.replicate (m + 1) 0 ++ t).set m x = List.replicate m 0 ++ x :: t := by
  rw [List.replicate_succ', List.append_assoc, List.set_append_right _ _ (by simp)]
  simp
theorem rep_one (m : Nat) (t : List UInt8) : (List.replicate (m + 1) 0 ++ t : List UInt8) = List.replicate m 0 ++ 0 :: t := by
  rw [List.replicate_succ', List.append_assoc]; rfl
theorem natwrite_fn {a : Option Addr} {c k : Nat} {l : List UInt32} {h : Part} (hl : SlR u32R 1 h a c l) (hk : k ≤ 65536) (hb : (nbits (d32 l) l.length + 7) / 8 ≤ k) :
    FnR Tryz.prog 43 [.slice a l.length c, .int .i64 k] h (fun v h' => ∃ a' c', v = .tuple #[.slice a' (natW (d32 l) k).length c', .int .i64 0] ∧ SlR u8R 1 h' a' c' (natW (d32 l) k)) := by
  have hll := hl.big
  refine Fn.intro Tryz.func43 rfl Tryz.ntmps43 rfl (fun e he => ?_)
  refine J.weak [(0, _), (1, _)] ⟨rfl, rfl, trivial⟩ ?_
  have hh0 := Part.le.refl h
  refine Sr ?_
  refine Ru 2 rfl ?_
  refine JL.nil ?_
  refine J.seq ?_
  refine Sr ?_
  refine Ru 3 rfl ?_
  apply On 10 13 3 [5, 4, 0, 1] rfl rfl
  rotate_left
  ·
   intro hb1 hc1
   refine Ru 3 rfl ?_
   exact Ae (om_f hb1 rfl) rfl
  rotate_right
  ·
   exact fun hb1 _ => Ru 3 rfl (Ae (om_t hb1 rfl) rfl)
  refine JL.nil ?_
  refine Cs rfl (fun hc2 => ?_) fun hc2 => ?_
  ·
   exfalso; omega
  refine J.skip ?_
  refine J.seq ?_
  refine Sr ?_
  refine Ru 1 rfl ?_
  refine JL.callP ca_40 rfl (natbits_fn (by assumption)) rfl ?_
  refine JL.op ai_ rfl ?_
  refine JL.op (by first | exact RunV.quo_i64 rfl rfl (by omega) (by omega) (by omega) | exact RunV.quo rfl rfl (by omega)) rfl ?_
  refine Ru 2 rfl ?_
  refine Nk [19, 5, 4, 0, 1] rfl ?_
  refine Cs rfl (fun hc4 => ?_) fun hc4 => ?_
  ·
   exfalso; omega
  refine J.skip ?_
  refine Sr ?_
  refine Ru 1 rfl ?_
  refine JL.make1 mk_22 rfl rfl (m := k) rfl rfl (by omega) rfl rfl (fun b1 => ?_); rw [replicate_u8]
  refine Ru 1 rfl ?_
  refine JL.nil ?_
  refine J.seq ?_
  refine Sr ?_
  refine Ru 2 rfl ?_
  refine JL.nil ?_
  refine J.block ?_
  refine J.loop (fun t_ S_ h_ L_ => ∃ (i : Nat) (out : List UInt8), t_ = k - i ∧ S_ = [(0, .slice a l.length c), (1, .int .i64 k), (6, .slice (some ⟨b1, 0, none⟩) k k), (22, .int .i64 k), (23, .int .i64 i)] ∧ h = h_ ∧ L_ = [.row (some ⟨b1, 0, none⟩) k 5 1 k (u8s out)] ∧ (i ≤ k ∧ out = List.replicate (k - i) 0 ++ natW (d32 l) i)) ⟨_, _, ?_, ⟨0, _, rfl, rfl, rfl, rfl, ⟨by omega, by simp [natW]⟩⟩⟩ ?_
  ·
   repeat (first | exact trivial | refine ⟨rfl, ?_⟩)
  rintro _ _ _ _ ⟨i, out, rfl, rfl, rfl, rfl, hi, ho⟩
  refine Sr ?_
  refine Ru 1 rfl ?_
  refine JL.nil ?_
  refine J.seq ?_
  refine Cs rfl (fun hc6 => ?_) fun hc6 => ?_
  ·
   have hol : out.length = k := (by rw [ho, List.length_append, List.length_replicate, natW_len]; omega); have hdl := d32_lt l (i / 4)
   refine J.skip ?_
   refine J.seq ?_
   refine J.block ?_
   refine Sr ?_
   refine Ru 2 rfl ?_
   refine JL.nil ?_
   refine Sr ?_
   refine Ru 1 rfl ?_
   refine JL.op (by first | exact RunV.quo_i64 rfl rfl (by omega) (by omega) (by omega) | exact RunV.quo rfl rfl (by omega)) rfl ?_
   refine Ru 3 rfl ?_
   refine JL.nil ?_
   refine Cs rfl (fun hc7 => ?_) fun hc7 => ?_
   ·
    obtain ⟨m, hm⟩ : ∃ m, k - i = m + 1 := ⟨k - i - 1, by omega⟩; have hset : out.set (k - 1 - i) (wB (d32 l) i) = List.replicate (k - (i + 1)) 0 ++ natW (d32 l) (i + 1) := (by rw [ho, hm, show k - 1 - i = m by omega, set_rep, show k - (i + 1) = m by omega]; rfl)
    refine Rg ?_
    refine Ru 2 rfl ?_
    refine JL.op si_ rfl ?_
    refine Ru 1 rfl ?_
    refine JL.op si_ rfl ?_
    refine Ru 2 rfl ?_
    refine JL.op (by first | exact RunV.quo_i64 rfl rfl (by omega) (by omega) (by omega) | exact RunV.quo rfl rfl (by omega)) rfl ?_
    refine JL.ope (RunE.index sl_30 rfl rfl (by first | with_reducible rfl | exact (Int.toNat_of_nonneg (by omega)).symm) (by assumption) rfl (by omega)) rfl ?_
    rintro _ ⟨b8, o8, hi8, rfl, hE8⟩
    refine JL.op (RunV.ld_u32 ag_103 rfl (by assumption)) rfl ?_
    rw [d32_at, show ((i : Int) / 4).toNat = i / 4 by omega]
    refine Ru 1 rfl ?_
    refine JL.op (by first | exact RunV.rem_i64 rfl rfl (by omega) (by omega) | exact RunV.rem rfl rfl (by omega)) rfl ?_
    refine JL.op (by first | exact RunV.mul_i64 rfl rfl (by omega) (by omega) | exact RunV.mul rfl rfl) rfl ?_
    refine JL.op (RunV.shr_u32 (256 ^ (i % 4)) rfl rfl (by omega) (by omega) (shr_d i)) rfl ?_
    refine JL.op (RunV.toByte (d32 l (i / 4) / 256 ^ (i % 4)) cv_103_5 rfl (by rw [Int.natCast_ediv, Int.natCast_pow]; rfl)) rfl ?_
    refine JL.op (RunV.index_at sl_22 (m := k - 1 - i) rfl rfl (by omega) (by omega)) rfl ?_
    refine JL.storeRow ag_5 rfl rfl rfl dl_ (show k - 1 - i < (u8s out).length by rw [u8s_length]; omega) ?_; rw [u8s_set]
    refine JL.nil ?_
    refine Rg ?_
    refine JL.op ai_ rfl ?_
    refine Ru 1 rfl ?_
    refine JL.nil ?_
    refine ⟨_, ?_, _, ?_, ⟨i + 1, _, rfl, rfl, rfl, rfl, ⟨by omega, hset⟩⟩⟩
    ·
     omega
    ·
     repeat (first | exact trivial | refine ⟨rfl, ?_⟩)
   ·
    obtain ⟨m, hm⟩ : ∃ m, k - i = m + 1 := ⟨k - i - 1, by omega⟩; have hset : out = List.replicate (k - (i + 1)) 0 ++ natW (d32 l) (i + 1) := (by rw [ho, hm, rep_one, show k - (i + 1) = m by omega, natW, wB, d32_out l (i / 4) (by omega), Nat.zero_div]; rfl)
    refine J.skip ?_
    refine Rg ?_
    refine JL.op ai_ rfl ?_
    refine Ru 1 rfl ?_
    refine JL.nil ?_
    refine ⟨_, ?_, _, ?_, ⟨i + 1, _, rfl, rfl, rfl, rfl, ⟨by omega, hset⟩⟩⟩
    ·
     omega
    ·
     repeat (first | exact trivial | refine ⟨rfl, ?_⟩)
  ·
   refine J.exit ?_
   refine Kp [6] rfl ?_
   refine Sr ?_
   have hik : i = k := (by omega); have ho2 : out = natW (d32 l) k := (by rw [ho, hik, Nat.sub_self]; rfl); have hkl := natW_len (d32 l) k; subst ho2; refine JL.pub (R := u8R) (l := natW (d32 l) k) dl_ CellsR.of_u8 (by omega) (by omega) (fun h9 hle9 hS9 => ?_)
   refine Ru 3 rfl ?_
   refine JL.nil ?_
   exact J.retR (RetV.two rfl rfl rfl) ⟨_, _, by rw [hkl], hS9⟩
def cutZ (l : List UInt64) : List UInt64 := l.take (tsz (d64 l) l.length)
def m64 (x : UInt32) : UInt64 := UInt64.ofNat x.toNat
theorem m64_nat (x : UInt32) : (m64 x).toNat = x.toNat := by
  have := UInt32.toNat_lt x
  unfold m64; rw [UInt64.toNat_ofNat']; omega
theorem d64_map (l : List UInt32) (i : Nat) : d64 (l.map m64) i = d32 l i := by
  unfold d64 d32
  by_cases h : i < l.length
  · simp [h, m64_nat]
  · simp [h]
theorem tsz_congr {f g : Nat → Nat} (h : ∀ i, f i = g i) (n : Nat) : tsz f n = tsz g n := by rw [show f = g from funext h]
theorem d64_take (l : List UInt64) (k i : Nat) (h : ∀ i, k ≤ i → i < l.length → d64 l i = 0) : d64 (l.take k) i = d64 l i := by
  by_cases hi : i < k
  · unfold d64; simp [List.getElem?_take, hi]
  · by_cases hl : i < l.length
    · rw [h i (by omega) hl, d64_out _ _ (by rw [List.length_take]; omega)]
    · rw [d64_out l _ (by omega), d64_out _ _ (by rw [List.length_take]; omega)]
def digsB (l : List UInt32) : List UInt64 := cutZ (l.map m64)
theorem digsB_len (l : List UInt32) : (digsB l).length = tsz (d32 l) l.length := by
  unfold digsB cutZ
  have := tsz_le (d64 (l.map m64)) (l.map m64).length
  rw [List.length_take, Nat.min_eq_left this, tsz_congr (d64_map l), List.length_map]
theorem digsB_at (l : List UInt32) (i : Nat) : d64 (digsB l) i = d32 l i := by
  unfold digsB cutZ
  rw [d64_take _ _ _ (fun i h1 h2 => tsz_zero _ _ i h1 h2), d64_map]
theorem cut_fn {a : Option Addr} {c : Nat} {l : List UInt64} {h : Part} (hl : SlR u64R 1 h a c l) : FnR Tryz.prog 97 [.slice a l.length c] h (fun v h' => ∃ a' c', v = .slice a' (cutZ l).length c' ∧ SlR u64R 1 h' a' c' (cutZ l)) := by
  have hll := hl.big
  have hh0 := Part.le.refl h
  refine Fn.intro Tryz.func97 rfl Tryz.ntmps97 rfl (fun e he => ?_)
  refine J.weak [(0, _)] ⟨rfl, trivial⟩ ?_
  refine Sr ?_
  refine Ru 1 rfl ?_
  refine JL.nil ?_
  refine Sr ?_
  refine Ru 3 rfl ?_
  refine JL.nil ?_
  refine J.seq ?_
  refine J.block ?_
  refine J.loop (fun t_ S_ h_ L_ => ∃ (n : Nat), t_ = n + 1 ∧ S_ = [(0, .slice a l.length c), (3, .int .i64 n)] ∧ h = h_ ∧ L_ = [] ∧ (n ≤ l.length ∧ tsz (d64 l) l.length = tsz (d64 l) n)) ⟨_, _, ?_, ⟨l.length, rfl, rfl, rfl, rfl, ⟨Nat.le_refl _, rfl⟩⟩⟩ ?_
  ·
   repeat (first | exact trivial | refine ⟨rfl, ?_⟩ | refine ⟨(by exact some_int (by omega)), ?_⟩)
  rintro _ _ _ _ ⟨n, rfl, rfl, rfl, rfl, hn, he⟩
  refine J.seq ?_
  refine J.seq ?_
  refine J.meet [(15, .bool (decide (0 < n ∧ d64 l (n - 1) = 0)))] [(0, _), (3, _)] ⟨rfl, rfl, trivial⟩ ?_ ?_
  ·
   refine Rg ?_
   refine Ru 3 rfl ?_
   refine Bs 8 rfl (fun hc1 => ?_) fun hc1 => ?_
   ·
    refine Ru 2 rfl ?_
    refine JL.opg rfl rfl  si_ rfl ?_
    refine JL.opeg rfl rfl  (RunE.index sl_66 rfl rfl (by first | with_reducible rfl | exact (Int.toNat_of_nonneg (by omega)).symm) (by assumption) rfl (by omega)) rfl ?_
    rintro _ ⟨b2, o2, hi2, rfl, hE2⟩
    refine JL.opg rfl rfl  (RunV.ld_u64 ag_63 rfl (by assumption)) rfl ?_
    rw [d64_at, show ((n : Int) - 1).toNat = n - 1 by omega]
    refine Ru 2 rfl ?_
    refine JL.nil ?_
    refine ⟨rfl, rfl, ?_⟩
    repeat (first | exact trivial | refine ⟨rfl, ?_⟩ | refine ⟨(by exact some_bool (by first | (rw [decide_eq_decide]; omega) | exact (decide_eq_false (by omega)).symm | exact decide_eq_false (by omega))), ?_⟩)
   ·
    refine Ru 7 rfl ?_
    refine JL.nil ?_
    refine ⟨rfl, rfl, ?_⟩
    repeat (first | exact trivial | refine ⟨rfl, ?_⟩ | refine ⟨(by exact some_bool (by first | (rw [decide_eq_decide]; omega) | exact (decide_eq_false (by omega)).symm | exact decide_eq_false (by omega))), ?_⟩)
  ·
   refine Cs rfl (fun hc4 => ?_) fun hc4 => ?_
   ·
    refine J.skip ?_
    refine J.block ?_
    refine Rg ?_
    refine Ru 1 rfl ?_
    refine JL.op si_ rfl ?_
    refine Ru 1 rfl ?_
    refine JL.nil ?_
    refine ⟨_, ?_, _, ?_, ⟨n - 1, rfl, rfl, rfl, rfl, ⟨by omega, by rw [he, tsz_go _ _ (by omega)]⟩⟩⟩
    ·
     omega
    ·
     repeat (first | exact trivial | refine ⟨rfl, ?_⟩ | refine ⟨(by exact some_int (by omega)), ?_⟩)
   ·
    have hcz : l.take n = cutZ l := (by unfold cutZ; rw [he, tsz_stop _ _ (by omega)])
    refine J.exit ?_
    refine Sr ?_
    refine Ru 2 rfl ?_
    refine JL.ope (RunE.cut_h sl_66 (m := n) rfl rfl rfl (by assumption) rfl (by omega)) rfl ?_
    rintro _ ⟨a9, c9, rfl, hS9⟩
    rw [hcz] at hS9 ⊢
    refine Ru 1 rfl ?_
    refine Nk [2] rfl ?_
    exact J.retR (RetV.one rfl rfl) ⟨_, _, rfl, hS9⟩
theorem digits32_fn {a : Option Addr} {c : Nat} {l : List UInt32} {h : Part} (hl : SlR u32R 1 h a c l) (hlen : l.length ≤ 1000000) : FnR Tryz.prog 56 [.slice a l.length c] h (fun v h' => ∃ a' c', v = .slice a' (digsB l).length c' ∧ SlR u64R 1 h' a' c' (digsB l)) := by
  have hll := hl.big
  refine Fn.intro Tryz.func56 rfl Tryz.ntmps56 rfl (fun e he => ?_)
  refine J.weak [(0, _)] ⟨rfl, trivial⟩ ?_
  refine Sr ?_
  refine Ru 1 rfl ?_
  refine JL.nil ?_
  refine Sr ?_
  refine Ru 1 rfl ?_
  refine JL.nil ?_
  refine J.seq ?_
  refine Sr ?_
  refine JL.row_nil 63 1 ?_
  refine Ru 1 rfl ?_
  refine JL.nil ?_
  refine J.block ?_
  refine J.loop (fun t_ S_ h_ L_ => ∃ (g : Part) (i : Nat) (ao : Option Addr) (co : Nat) (xs : List Value), t_ = l.length - i ∧ S_ = [(0, .slice a l.length c), (3, .slice ao ((l.map m64).take i).length co), (4, .int .i64 i)] ∧ g = h_ ∧ L_ = [.row ao co 63 1 ((l.map m64).take i).length xs] ∧ (h.le g ∧ i ≤ l.length ∧ CellsR u64R 1 g xs ((l.map m64).take i))) ⟨_, _, ?_, ⟨_, 0, _, _, _, rfl, rfl, rfl, rfl, ⟨Part.le.refl _, by omega, CellsR.nil⟩⟩⟩ ?_
  ·
   repeat (first | exact trivial | refine ⟨rfl, ?_⟩)
  rintro _ _ _ _ ⟨g, i, ao, co, xs, rfl, rfl, rfl, rfl, hhg, hi, hC⟩
  have hl := hl.mono hhg
  refine J.seq ?_
  refine Sr ?_
  refine Ru 4 rfl ?_
  refine JL.nil ?_
  refine Cs rfl (fun hc1 => ?_) fun hc1 => ?_
  ·
   have hi2 : i < l.length := (by omega); have hi' : i < (l.map m64).length := (by rw [List.length_map]; omega); have htl : ((l.map m64).take i).length = i := (by rw [List.length_take, List.length_map]; omega); have hke : (l.map m64).take i ++ [m64 (l[i]'hi2)] = (l.map m64).take (i + 1) := (by rw [List.take_succ_eq_append_getElem hi', List.getElem_map])
   refine J.skip ?_
   refine J.seq ?_
   refine J.block ?_
   refine Rg ?_
   refine Ru 3 rfl ?_
   refine JL.ope (RunE.index sl_30 rfl rfl (by first | with_reducible rfl | exact (Int.toNat_of_nonneg (by omega)).symm) (by assumption) rfl (by omega)) rfl ?_
   rintro _ ⟨b2, o2, hi2, rfl, hE2⟩
   refine JL.op (RunV.ld_u32 ag_103 rfl (by assumption)) rfl ?_
   refine JL.op (by first | exact RunV.conv_u64 cv_103_63 rfl (by omega) (by omega) | exact RunV.convw_u64 cv_103_63 rfl | exact RunV.conv cv_103_63 rfl) rfl ?_
   refine JL.lit1 ap_66 zr_63 rfl rfl rfl rfl rfl (fun b4 => ?_)
   refine JL.append1 ap_66 rfl rfl (by assumption) rfl dl_ dl_ rfl ((by show _ = _; rw [m64_nat] : u64R _ [.int .u64 (l[i].toNat : Int)] (m64 l[i]))) (by first | omega | (simp only [List.length_append, List.length_cons, List.length_nil]; omega)) rfl rfl (fun a5 c5 xs5 hC5 hN5 => ?_)
   rw [hke] at *
   refine Ru 1 rfl ?_
   refine JL.nil ?_
   refine Rg ?_
   refine Ru 1 rfl ?_
   refine JL.op ai_ rfl ?_
   refine Ru 1 rfl ?_
   refine JL.nil ?_
   refine ⟨_, ?_, _, ?_, ⟨_, i + 1, _, _, _, rfl, rfl, rfl, rfl, ⟨by assumption, by omega, by assumption⟩⟩⟩
   ·
    omega
   ·
    repeat (first | exact trivial | refine ⟨rfl, ?_⟩)
  ·
   refine J.exit ?_
   refine Kp [3] rfl ?_
   refine Sr ?_
   refine Ru 1 rfl ?_
   have hke : (l.map m64).take i = l.map m64 := List.take_of_length_le (by rw [List.length_map]; omega); have hml : (l.map m64).length = l.length := List.length_map ..; rw [hke] at hC ⊢; refine JL.pub (R := u64R) dl_ (by assumption) rfl (by omega) (fun h9 hle9 hS9 => ?_); replace hl := hl.mono hle9; replace hC := hC.mono hle9; replace hhg := hhg.mono hle9
   refine JL.callR ca_97 rfl (cut_fn (by assumption)) rfl ?_
   rintro _ h6 hle6 ⟨a6, c6, rfl, hS6⟩
   replace hl := hl.mono hle6
   replace hhg := hhg.mono hle6
   replace hC := hC.mono hle6
   refine Ru 1 rfl ?_
   refine JL.nil ?_
   exact J.retR (RetV.one rfl rfl) ⟨_, _, rfl, by assumption⟩
theorem digit_fn {a : Option Addr} {c i : Nat} {l : List UInt64} {h : Part} (hl : SlR u64R 1 h a c l) : Pure Tryz.prog 57 [.slice a l.length c, .int .i64 i] h (.int .u64 (d64 l i : Nat)) := by
  have hll := hl.big
  refine Fn.intro Tryz.func57 rfl Tryz.ntmps57 rfl (fun e he => ?_)
  refine J.weak [(0, _), (1, _)] ⟨rfl, rfl, trivial⟩ ?_
  refine Sr ?_
  refine Ru 1 rfl ?_
  refine JL.nil ?_
  refine J.seq ?_
  refine Sr ?_
  refine Ru 4 rfl ?_
  refine JL.nil ?_
  refine Cs rfl (fun hc1 => ?_) fun hc1 => ?_
  ·
   refine Sr ?_
   refine Ru 2 rfl ?_
   refine JL.ope (RunE.index sl_66 rfl rfl (by first | with_reducible rfl | exact (Int.toNat_of_nonneg (by omega)).symm) (by assumption) rfl (by omega)) rfl ?_
   rintro _ ⟨b2, o2, hi2, rfl, hE2⟩
   refine JL.op (RunV.ld_u64 ag_63 rfl (by assumption)) rfl ?_
   rw [d64_at]
   refine Ru 1 rfl ?_
   refine Nk [4] rfl ?_
   exact J.retP (RetV.one rfl rfl) rfl rfl
  ·
   refine J.skip ?_
   refine Kp [4] rfl ?_
   refine Sr ?_
   refine Ru 1 rfl ?_
   refine JL.nil ?_
   exact J.retP (RetV.one rfl rfl) (by rw [d64_out l i (by omega)]; rfl) rfl
theorem digit_fn' {a : Option Addr} {c i : Nat} {q : Int} {l : List UInt64} {h : Part} (hl : SlR u64R 1 h a c l) (hq : q = (i : Int)) : Pure Tryz.prog 57 [.slice a l.length c, .int .i64 q] h (.int .u64 (d64 l i : Nat)) := by
  subst hq; exact digit_fn hl
theorem rbits_fn {a : Option Addr} {c : Nat} {l : List UInt32} {h : Part} (hl : SlR u32R 1 h a c l) (hlen : l.length ≤ 1000000) : FnR Tryz.prog 45 [.slice a l.length c] h (fun v _ => v = .int .i64 (nbits (d32 l) l.length : Nat)) := by
  have hll := hl.big
  have ht := tsz_le (d32 l) l.length
  have hdl := digsB_len l
  refine Fn.intro Tryz.func45 rfl Tryz.ntmps45 rfl (fun e he => ?_)
  refine J.weak [(0, _)] ⟨rfl, trivial⟩ ?_
  have hh0 := Part.le.refl h
  refine Sr ?_
  refine Ru 1 rfl ?_
  refine JL.nil ?_
  refine Sr ?_
  refine Ru 1 rfl ?_
  refine JL.callR ca_56 rfl (digits32_fn (by assumption) (by omega)) rfl ?_
  rintro _ h1 hle1 ⟨a1, c1, rfl, hS1⟩
  replace hl := hl.mono hle1
  replace hh0 := hh0.mono hle1
  refine Ru 1 rfl ?_
  refine JL.nil ?_
  refine J.seq ?_
  refine Sr ?_
  refine Ru 3 rfl ?_
  refine Nk [10, 3, 2] rfl ?_
  refine Cs rfl (fun hc2 => ?_) fun hc2 => ?_
  ·
   have hz : nbits (d32 l) l.length = 0 := if_pos (by omega)
   refine Sr ?_
   refine Ru 1 rfl ?_
   refine JL.nil ?_
   exact J.retR (RetV.one rfl rfl) (by rw [hz]; rfl)
  ·
   have hz : nbits (d32 l) l.length = 32 * (tsz (d32 l) l.length - 1) + bl (d32 l (tsz (d32 l) l.length - 1)) := if_neg (by omega); have hb := bl_le32 l (tsz (d32 l) l.length - 1)
   refine J.skip ?_
   refine Sr ?_
   refine Ru 2 rfl ?_
   refine JL.op si_ rfl ?_
   refine JL.op (by first | exact RunV.mul_i64 rfl rfl (by omega) (by omega) | exact RunV.mul rfl rfl) rfl ?_
   refine Ru 1 rfl ?_
   refine Nk [4, 3, 2] rfl ?_
   refine J.seq ?_
   refine Sr ?_
   refine Ru 3 rfl ?_
   refine JL.op si_ rfl ?_
   refine JL.ope (RunE.index sl_66 rfl rfl (by first | with_reducible rfl | exact (Int.toNat_of_nonneg (by omega)).symm) (by assumption) rfl (by omega)) rfl ?_
   rintro _ ⟨b3, o3, hi3, rfl, hE3⟩
   refine JL.op (RunV.ld_u64 ag_63 rfl (by assumption)) rfl ?_
   rw [d64_at, show (((digsB l).length : Int) - 1).toNat = tsz (d32 l) l.length - 1 by omega, digsB_at]
   refine Ru 1 rfl ?_
   refine Nk [5, 4, 2] rfl ?_
   refine J.block ?_
   refine J.loop (fun t_ S_ h_ L_ => ∃ (m : Nat), t_ = m + 1 ∧ S_ = [(4, .int .i64 ((32 * (tsz (d32 l) l.length - 1) + bl (d32 l (tsz (d32 l) l.length - 1)) : Nat) - (bl m : Nat) : Int)), (5, .int .u64 m)] ∧ h1 = h_ ∧ L_ = [] ∧ (m < 4294967296)) ⟨_, _, ?_, ⟨d32 l (tsz (d32 l) l.length - 1), rfl, rfl, rfl, rfl, d32_lt _ _⟩⟩ ?_
   ·
    repeat (first | exact trivial | refine ⟨rfl, ?_⟩ | refine ⟨(by exact some_int (by omega)), ?_⟩)
   rintro _ _ _ _ ⟨m, rfl, rfl, rfl, rfl, hm⟩
   have hbm := bl_le 32 m hm
   refine J.seq ?_
   refine Sr ?_
   refine Ru 2 rfl ?_
   refine JL.nil ?_
   refine Cs rfl (fun hc5 => ?_) fun hc5 => ?_
   ·
    have hbh := bl_half m (by omega)
    refine J.skip ?_
    refine J.seq ?_
    refine J.block ?_
    refine Rg ?_
    refine Ru 1 rfl ?_
    refine JL.op ai_ rfl ?_
    refine Ru 1 rfl ?_
    refine JL.nil ?_
    refine Rg ?_
    refine Ru 1 rfl ?_
    refine JL.op (by first | exact RunV.quo_u64 rfl rfl (by omega) (by omega) (by omega) | exact RunV.quo rfl rfl (by omega)) rfl ?_
    refine Ru 1 rfl ?_
    refine JL.nil ?_
    refine ⟨_, ?_, _, ?_, ⟨m / 2, rfl, rfl, rfl, rfl, by omega⟩⟩
    ·
     omega
    ·
     repeat (first | exact trivial | refine ⟨rfl, ?_⟩ | refine ⟨(by exact some_int (by omega)), ?_⟩)
   ·
    have hm0 : m = 0 := (by omega); subst hm0
    refine J.exit ?_
    refine Sr ?_
    refine Ru 2 rfl ?_
    refine Nk [2] rfl ?_
    exact J.retR (RetV.one rfl rfl) (by rw [hz]; exact congrArg (Value.int .i64) (by show _ - ((0 : Nat) : Int) = _; omega))
theorem ofNat_mod8 (n : Nat) : UInt8.ofNat (n % 256) = UInt8.ofNat n := by
  apply UInt8.toNat_inj.1
  simp
theorem rwrite_fn {a : Option Addr} {c k : Nat} {l : List UInt32} {h : Part} (hl : SlR u32R 1 h a c l) (hlen : l.length ≤ 1000000) (hk : k ≤ 65536) (hb : nbits (d32 l) l.length ≤ 8 * k) :
    FnR Tryz.prog 23 [.slice a l.length c, .int .i64 k] h (fun v h' => ∃ a' c', v = .tuple #[.slice a' (natW (d32 l) k).length c', .int .i64 0] ∧ SlR u8R 1 h' a' c' (natW (d32 l) k)) := by
  have hll := hl.big
  refine Fn.intro Tryz.func23 rfl Tryz.ntmps23 rfl (fun e he => ?_)
  refine J.weak [(0, _), (1, _)] ⟨rfl, rfl, trivial⟩ ?_
  have hh0 := Part.le.refl h
  refine Sr ?_
  refine Ru 2 rfl ?_
  refine JL.nil ?_
  refine J.seq ?_
  refine Sr ?_
  refine Ru 3 rfl ?_
  apply On 13 16 3 [5, 4, 0, 1] rfl rfl
  rotate_left
  ·
   intro hb1 hc1
   refine Ru 3 rfl ?_
   exact Ae (om_f hb1 rfl) rfl
  rotate_right
  ·
   exact fun hb1 _ => Ru 3 rfl (Ae (om_t hb1 rfl) rfl)
  refine JL.nil ?_
  refine Cs rfl (fun hc2 => ?_) fun hc2 => ?_
  ·
   exfalso; omega
  refine J.skip ?_
  refine Sr ?_
  refine Ru 1 rfl ?_
  refine JL.callR ca_56 rfl (digits32_fn (by assumption) (by omega)) rfl ?_
  rintro _ h3 hle3 ⟨da, dc, rfl, hD⟩
  replace hl := hl.mono hle3
  replace hh0 := hh0.mono hle3
  refine Ru 1 rfl ?_
  refine JL.nil ?_
  refine J.seq ?_
  refine Sr ?_
  refine Ru 1 rfl ?_
  refine JL.callR ca_45 rfl (rbits_fn (by assumption) (by omega)) rfl ?_
  rintro _ h4 hle4 rfl
  replace hl := hl.mono hle4
  replace hh0 := hh0.mono hle4
  replace hD := hD.mono hle4
  refine Ru 1 rfl ?_
  refine JL.op (by first | exact RunV.mul_i64 rfl rfl (by omega) (by omega) | exact RunV.mul rfl rfl) rfl ?_
  refine Ru 1 rfl ?_
  refine Nk [23, 6, 5, 4, 1] rfl ?_
  refine Cs rfl (fun hc5 => ?_) fun hc5 => ?_
  ·
   exfalso; omega
  refine J.skip ?_
  refine Sr ?_
  refine Ru 1 rfl ?_
  refine JL.make1 mk_22 rfl rfl (m := k) rfl rfl (by omega) rfl rfl (fun b1 => ?_); rw [replicate_u8]
  refine Ru 1 rfl ?_
  refine JL.nil ?_
  refine J.seq ?_
  refine Sr ?_
  refine Ru 1 rfl ?_
  refine JL.nil ?_
  refine J.block ?_
  refine J.loop (fun t_ S_ h_ L_ => ∃ (i : Nat) (out : List UInt8), t_ = k - i ∧ S_ = [(1, .int .i64 k), (6, .slice da (digsB l).length dc), (7, .slice (some ⟨b1, 0, none⟩) k k), (8, .int .i64 i)] ∧ h4 = h_ ∧ L_ = [.row (some ⟨b1, 0, none⟩) k 5 1 k (u8s out)] ∧ (i ≤ k ∧ out = List.replicate (k - i) 0 ++ natW (d32 l) i)) ⟨_, _, ?_, ⟨0, _, rfl, rfl, rfl, rfl, ⟨by omega, by simp [natW]⟩⟩⟩ ?_
  ·
   repeat (first | exact trivial | refine ⟨rfl, ?_⟩)
  rintro _ _ _ _ ⟨i, out, rfl, rfl, rfl, rfl, hi, ho⟩
  refine J.seq ?_
  refine Sr ?_
  refine Ru 3 rfl ?_
  refine JL.nil ?_
  refine Cs rfl (fun hc7 => ?_) fun hc7 => ?_
  ·
   have hol : out.length = k := (by rw [ho, List.length_append, List.length_replicate, natW_len]; omega); have hdl := d32_lt l (i / 4); obtain ⟨m, hm⟩ : ∃ m, k - i = m + 1 := ⟨k - i - 1, by omega⟩; have hset : out.set (k - 1 - i) (wB (d32 l) i) = List.replicate (k - (i + 1)) 0 ++ natW (d32 l) (i + 1) := (by rw [ho, hm, show k - 1 - i = m by omega, set_rep, show k - (i + 1) = m by omega]; rfl)
   refine J.skip ?_
   refine J.seq ?_
   refine J.block ?_
   refine Sr ?_
   refine Ru 2 rfl ?_
   refine JL.op (by first | exact RunV.quo_i64 rfl rfl (by omega) (by omega) (by omega) | exact RunV.quo rfl rfl (by omega)) rfl ?_
   refine JL.callP ca_57 rfl (digit_fn' (i := i / 4) hD (by omega)) rfl ?_
   rw [digsB_at]
   refine Ru 1 rfl ?_
   refine JL.nil ?_
   refine J.seq ?_
   refine Sr ?_
   refine Ru 1 rfl ?_
   refine JL.nil ?_
   refine J.block ?_
   refine J.loop (fun t_ S_ h_ L_ => ∃ (j y : Nat), t_ = i % 4 - j ∧ S_ = [(1, .int .i64 k), (6, .slice da (digsB l).length dc), (7, .slice (some ⟨b1, 0, none⟩) k k), (8, .int .i64 i), (9, .int .u64 (y : Nat)), (10, .int .i64 j)] ∧ h4 = h_ ∧ L_ = [.row (some ⟨b1, 0, none⟩) k 5 1 k (u8s out)] ∧ (j ≤ i % 4 ∧ y = d32 l (i / 4) / 256 ^ j ∧ y < 4294967296)) ⟨_, _, ?_, ⟨0, d32 l (i / 4), rfl, rfl, rfl, rfl, ⟨by omega, by simp, hdl⟩⟩⟩ ?_
   ·
    repeat (first | exact trivial | refine ⟨rfl, ?_⟩)
   rintro _ _ _ _ ⟨j, y, rfl, rfl, rfl, rfl, hj, hy, hy2⟩
   refine J.seq ?_
   refine Sr ?_
   refine Ru 2 rfl ?_
   refine JL.op (by first | exact RunV.rem_i64 rfl rfl (by omega) (by omega) | exact RunV.rem rfl rfl (by omega)) rfl ?_
   refine Ru 1 rfl ?_
   refine JL.nil ?_
   refine Cs rfl (fun hc9 => ?_) fun hc9 => ?_
   ·
    refine J.skip ?_
    refine J.seq ?_
    refine J.block ?_
    refine Rg ?_
    refine Ru 1 rfl ?_
    refine JL.op (by first | exact RunV.quo_u64 rfl rfl (by omega) (by omega) (by omega) | exact RunV.quo rfl rfl (by omega)) rfl ?_
    refine Ru 1 rfl ?_
    refine JL.nil ?_
    refine Rg ?_
    refine Ru 1 rfl ?_
    refine JL.op ai_ rfl ?_
    refine Ru 1 rfl ?_
    refine JL.nil ?_
    refine ⟨_, ?_, _, ?_, ⟨j + 1, y / 256, rfl, rfl, rfl, rfl, ⟨by omega, by rw [hy, Nat.pow_succ, ← Nat.div_div_eq_div_mul], by omega⟩⟩⟩
    ·
     omega
    ·
     repeat (first | exact trivial | refine ⟨rfl, ?_⟩)
   ·
    have hj4 : j = i % 4 := (by omega); subst hj4
    refine J.exit ?_
    refine Rg ?_
    refine Ru 2 rfl ?_
    refine JL.op si_ rfl ?_
    refine Ru 1 rfl ?_
    refine JL.op si_ rfl ?_
    refine Ru 1 rfl ?_
    refine JL.op (by first | exact RunV.rem_u64 rfl rfl (by omega) (by omega) | exact RunV.rem rfl rfl (by omega)) rfl ?_
    refine JL.op (RunV.toByte (y % 256) cv_63_5 rfl (by omega)) rfl ?_
    rw [ofNat_mod8, hy]
    refine JL.op (RunV.index_at sl_22 (m := k - 1 - i) rfl rfl (by omega) (by omega)) rfl ?_
    refine JL.storeRow ag_5 rfl rfl rfl dl_ (show k - 1 - i < (u8s out).length by rw [u8s_length]; omega) ?_; rw [u8s_set]
    refine JL.nil ?_
    refine Rg ?_
    refine Ru 1 rfl ?_
    refine JL.op ai_ rfl ?_
    refine Ru 1 rfl ?_
    refine JL.nil ?_
    refine ⟨_, ?_, _, ?_, ⟨i + 1, _, rfl, rfl, rfl, rfl, ⟨by omega, hset⟩⟩⟩
    ·
     omega
    ·
     repeat (first | exact trivial | refine ⟨rfl, ?_⟩)
  ·
   refine J.exit ?_
   refine Kp [7] rfl ?_
   refine Sr ?_
   have hik : i = k := (by omega); have ho2 : out = natW (d32 l) k := (by rw [ho, hik, Nat.sub_self]; rfl); have hkl := natW_len (d32 l) k; subst ho2; refine JL.pub (R := u8R) (l := natW (d32 l) k) dl_ CellsR.of_u8 (by omega) (by omega) (fun h9 hle9 hS9 => ?_)
   refine Ru 3 rfl ?_
   refine JL.nil ?_
   exact J.retR (RetV.two rfl rfl rfl) ⟨_, _, by rw [hkl], hS9⟩
end Go.Proofs.YtmngjbefnloljaaGreatDoor
set_option linter.unusedSimpArgs false
set_option linter.unusedVariables false
set_option linter.constructorNameAsVariable false
namespace Go.Proofs.YtmngjbefnloljaaGreatDoor
open Go Go.RowKit
set_option maxRecDepth 100000
end Go.Proofs.YtmngjbefnloljaaGreatDoor
set_option linter.unusedSimpArgs false
set_option linter.unusedVariables false
set_option linter.constructorNameAsVariable false
namespace Go.Proofs.YtmngjbefnloljaaGreatDoor
open Go Go.RowKit
set_option maxRecDepth 100000
theorem ap_30 : apT Tryz.prog 30 = some (103, 1, 4) := by kernel_rfl
theorem ca_23 : callT Tryz.prog 23 = true := by kernel_rfl
theorem ca_43 : callT Tryz.prog 43 = true := by kernel_rfl
theorem ca_58 : callT Tryz.prog 58 = true := by kernel_rfl
theorem ca_77 : callT Tryz.prog 77 = true := by kernel_rfl
theorem cv_63_103 : convI Tryz.prog 63 103 = some .u32 := by kernel_rfl
theorem zr_103 : zeroT Tryz.prog 103 = some [.int .u32 0] := by kernel_rfl
def fitI (n : Int) (j : Nat) : Prop := -128 ≤ n / 256 ^ (j - 1) ∧ n / 256 ^ (j - 1) < 128
instance (n : Int) (j : Nat) : Decidable (fitI n j) := by unfold fitI; infer_instance
def trimL (l : List UInt32) : List UInt32 := l.take (tsz (d32 l) l.length)
def n32 (x : UInt64) : UInt32 := UInt32.ofNat x.toNat
theorem n32_m64 (x : UInt32) : n32 (m64 x) = x := by
  unfold n32; rw [m64_nat]; simp
theorem n32_nat (x : UInt64) (h : x.toNat < 4294967296) : (n32 x).toNat = x.toNat := by
  unfold n32; rw [UInt32.toNat_ofNat']; omega
theorem cutZ_len (l : List UInt64) : (cutZ l).length ≤ l.length := by unfold cutZ; rw [List.length_take]; omega
theorem cutZ_at (l : List UInt64) (i : Nat) : d64 (cutZ l) i = d64 l i := d64_take _ _ _ (fun i h1 h2 => tsz_zero _ _ i h1 h2)
theorem number_fn {a : Option Addr} {c : Nat} {L : List UInt64} {h : Part} (hl : SlR u64R 1 h a c L) (hd : ∀ i, d64 L i < 4294967296) (hlen : L.length ≤ 1000000) : FnR Tryz.prog 58 [.slice a L.length c] h (fun v h' => ∃ a' c', v = .slice a' ((cutZ L).map n32).length c' ∧ SlR u32R 1 h' a' c' ((cutZ L).map n32)) := by
  have hcl := cutZ_len L
  obtain ⟨K, hK⟩ : ∃ K, K = cutZ L := ⟨_, rfl⟩
  have hdK : ∀ i, d64 K i < 4294967296 := fun i => by rw [hK, cutZ_at]; exact hd i
  rw [← hK] at hcl ⊢
  have hml : (K.map n32).length = K.length := List.length_map ..
  refine Fn.intro Tryz.func58 rfl Tryz.ntmps58 rfl (fun e he => ?_)
  refine J.weak [(0, _)] ⟨rfl, trivial⟩ ?_
  refine Sr ?_
  refine Ru 1 rfl ?_
  refine JL.nil ?_
  refine Sr ?_
  refine Ru 1 rfl ?_
  refine JL.callR ca_97 rfl ((hK ▸ cut_fn (by assumption) : FnR _ _ _ _ (fun v h' => ∃ a' c', v = .slice a' K.length c' ∧ SlR u64R 1 h' a' c' K))) rfl ?_
  rintro _ h1 hle1 ⟨da, dc, rfl, hD⟩
  replace hl := hl.mono hle1
  refine Ru 1 rfl ?_
  refine JL.nil ?_
  refine Sr ?_
  refine Ru 1 rfl ?_
  refine JL.nil ?_
  refine J.seq ?_
  refine Sr ?_
  refine JL.row_nil 103 1 ?_
  refine Ru 1 rfl ?_
  refine JL.nil ?_
  refine J.block ?_
  refine J.loop (fun t_ S_ h_ L_ => ∃ (g : Part) (i : Nat) (ao : Option Addr) (co : Nat) (xs : List Value), t_ = K.length - i ∧ S_ = [(0, .slice da K.length dc), (3, .slice ao ((K.map n32).take i).length co), (4, .int .i64 i)] ∧ g = h_ ∧ L_ = [.row ao co 103 1 ((K.map n32).take i).length xs] ∧ (h1.le g ∧ i ≤ K.length ∧ CellsR u32R 1 g xs ((K.map n32).take i))) ⟨_, _, ?_, ⟨_, 0, _, _, _, rfl, rfl, rfl, rfl, ⟨Part.le.refl _, by omega, CellsR.nil⟩⟩⟩ ?_
  ·
   repeat (first | exact trivial | refine ⟨rfl, ?_⟩)
  rintro _ _ _ _ ⟨g, i, ao, co, xs, rfl, rfl, rfl, rfl, hhg, hi, hC⟩
  have hD := hD.mono hhg
  refine J.seq ?_
  refine Sr ?_
  refine Ru 4 rfl ?_
  refine JL.nil ?_
  refine Cs rfl (fun hc2 => ?_) fun hc2 => ?_
  ·
   have hi2 : i < K.length := (by omega); have hi' : i < (K.map n32).length := (by omega); have htl : ((K.map n32).take i).length = i := (by rw [List.length_take]; omega); have hke : (K.map n32).take i ++ [n32 (K[i]'hi2)] = (K.map n32).take (i + 1) := (by rw [List.take_succ_eq_append_getElem hi', List.getElem_map]); have hki : (K[i]'hi2).toNat < 4294967296 := (by have := hdK i; have e := d64_at K i hi2; omega)
   refine J.skip ?_
   refine J.seq ?_
   refine J.block ?_
   refine Rg ?_
   refine Ru 3 rfl ?_
   refine JL.ope (RunE.index sl_66 rfl rfl (by first | with_reducible rfl | exact (Int.toNat_of_nonneg (by omega)).symm) (by assumption) rfl (by omega)) rfl ?_
   rintro _ ⟨b3, o3, hi3, rfl, hE3⟩
   refine JL.op (RunV.ld_u64 ag_63 rfl (by assumption)) rfl ?_
   refine JL.op (by first | exact RunV.conv_u32 cv_63_103 rfl (by omega) (by omega) | exact RunV.conv cv_63_103 rfl) rfl ?_
   refine JL.lit1 ap_30 zr_103 rfl rfl rfl rfl rfl (fun b5 => ?_)
   refine JL.append1 ap_30 rfl rfl (by assumption) rfl dl_ dl_ rfl ((by show _ = _; rw [n32_nat _ hki] : u32R _ [.int .u32 (K[i].toNat : Int)] (n32 K[i]))) (by first | omega | (simp only [List.length_append, List.length_cons, List.length_nil]; omega)) rfl rfl (fun a6 c6 xs6 hC6 hN6 => ?_)
   rw [hke] at *
   refine Ru 1 rfl ?_
   refine JL.nil ?_
   refine Rg ?_
   refine Ru 1 rfl ?_
   refine JL.op ai_ rfl ?_
   refine Ru 1 rfl ?_
   refine JL.nil ?_
   refine ⟨_, ?_, _, ?_, ⟨_, i + 1, _, _, _, rfl, rfl, rfl, rfl, ⟨by assumption, by omega, by assumption⟩⟩⟩
   ·
    omega
   ·
    repeat (first | exact trivial | refine ⟨rfl, ?_⟩)
  ·
   refine J.exit ?_
   refine Kp [3] rfl ?_
   refine Sr ?_
   refine Ru 1 rfl ?_
   have hke : (K.map n32).take i = K.map n32 := List.take_of_length_le (by omega); rw [hke] at hC ⊢; refine JL.pub (R := u32R) dl_ (by assumption) rfl (by omega) (fun h9 hle9 hS9 => ?_)
   refine Ru 1 rfl ?_
   refine JL.nil ?_
   exact J.retR (RetV.one rfl rfl) ⟨_, _, rfl, by assumption⟩
end Go.Proofs.YtmngjbefnloljaaGreatDoor
set_option linter.unusedSimpArgs false
set_option linter.unusedVariables false
set_option linter.constructorNameAsVariable false
namespace Go.Proofs.YtmngjbefnloljaaGreatDoor
open Go Go.RowKit
set_option maxRecDepth 100000
def vL : List UInt32 → Nat
  | [] => 0
  | x :: r => x.toNat + 4294967296 * vL r
theorem vL_append (l r : List UInt32) : vL (l ++ r) = vL l + 4294967296 ^ l.length * vL r := by
  induction l with
  | nil => simp [vL]
  | cons x t ih =>
    simp only [List.cons_append, vL, ih, List.length_cons, Nat.pow_succ]
    rw [Nat.mul_add, ← Nat.mul_assoc, Nat.mul_comm (4294967296 ^ t.length), Nat.add_assoc]
theorem vL_lt (l : List UInt32) : vL l < 4294967296 ^ l.length := by
  induction l with
  | nil => simp [vL]
  | cons x t ih =>
    have hx := UInt32.toNat_lt x
    simp only [vL, List.length_cons, Nat.pow_succ]
    omega
theorem vL_set (l : List UInt32) (i : Nat) (x : UInt32) (h : i < l.length) : vL (l.set i x) + d32 l i * 4294967296 ^ i = vL l + x.toNat * 4294967296 ^ i := by
  induction l generalizing i with
  | nil => simp at h
  | cons y t ih =>
    cases i with
    | zero => simp [vL, d32]; omega
    | succ i =>
      have := ih i (by simpa using h)
      simp only [List.set_cons_succ, vL, Nat.pow_succ]
      have e : d32 (y :: t) (i + 1) = d32 t i := rfl
      rw [e, ← Nat.mul_assoc, ← Nat.mul_assoc]
      omega
theorem vL_digit (l : List UInt32) (i : Nat) : vL l / 4294967296 ^ i % 4294967296 = d32 l i := by
  induction l generalizing i with
  | nil => simp [vL, d32]
  | cons y t ih =>
    have hy := UInt32.toNat_lt y
    cases i with
    | zero => simp only [vL, Nat.pow_zero, Nat.div_one]; show _ = y.toNat; omega
    | succ i =>
      have e : d32 (y :: t) (i + 1) = d32 t i := rfl
      rw [e, ← ih i, Nat.pow_succ, Nat.mul_comm (4294967296 ^ i), ← Nat.div_div_eq_div_mul]
      congr 2
      simp only [vL]
      omega
theorem vL_take_drop (l : List UInt32) (k : Nat) (h : k ≤ l.length) : vL l = vL (l.take k) + 4294967296 ^ k * vL (l.drop k) := by
  have := vL_append (l.take k) (l.drop k)
  rw [List.take_append_drop, List.length_take, Nat.min_eq_left h] at this
  exact this
theorem vL_zero (l : List UInt32) (h : ∀ i, i < l.length → d32 l i = 0) : vL l = 0 := by
  induction l with
  | nil => rfl
  | cons x t ih =>
    have h0 : x.toNat = 0 := h 0 (by simp)
    have := ih (fun i hi => h (i + 1) (by simpa using hi))
    simp only [vL]; omega
theorem d32_drop (l : List UInt32) (k i : Nat) : d32 (l.drop k) i = d32 l (k + i) := by
  unfold d32; simp
def digN : Nat → Nat → List UInt32
  | 0, _ => []
  | m + 1, v => UInt32.ofNat v :: digN m (v / 4294967296)
theorem digN_len (m v : Nat) : (digN m v).length = m := by induction m generalizing v with
  | zero => rfl
  | succ m ih => simp [digN, ih]
theorem vL_digN (m v : Nat) : vL (digN m v) = v % 4294967296 ^ m := by
  induction m generalizing v with
  | zero => simp [vL, digN, Nat.mod_one]
  | succ m ih =>
    simp only [digN, vL, ih, UInt32.toNat_ofNat']
    rw [show (4294967296 : Nat) ^ (m + 1) = 4294967296 * 4294967296 ^ m by rw [Nat.pow_succ, Nat.mul_comm], Nat.mod_mul]
theorem digN_vL (l : List UInt32) : digN l.length (vL l) = l := by
  induction l with
  | nil => rfl
  | cons x t ih =>
    have hx := UInt32.toNat_lt x
    simp only [List.length_cons, digN, vL]
    rw [show (x.toNat + 4294967296 * vL t) / 4294967296 = vL t by omega, ih]
    congr 1
    apply UInt32.toNat_inj.1
    rw [UInt32.toNat_ofNat']
    omega
theorem vL_inj {l r : List UInt32} (h : l.length = r.length) (e : vL l = vL r) : l = r := by
  rw [← digN_vL l, ← digN_vL r, h, e]
theorem digN_at (m v i : Nat) (h : i < m) : d32 (digN m v) i = v / 4294967296 ^ i % 4294967296 := by
  rw [← vL_digit, vL_digN]
  obtain ⟨k, rfl⟩ : ∃ k, m = i + (k + 1) := ⟨m - i - 1, by omega⟩
  rw [Nat.pow_add, Nat.mod_mul_right_div_self, Nat.pow_succ, Nat.mod_mul_left_mod]
theorem lt_bl (n : Nat) : n < 2 ^ bl n := by
  unfold bl
  split
  · rename_i h; subst h; decide
  · exact Nat.lt_log2_self
theorem bl_ge (n k : Nat) (h : 2 ^ k ≤ n) : k + 1 ≤ bl n := by
  rcases Nat.lt_or_ge k (bl n) with h1 | h1
  · exact h1
  · have h2 := lt_bl n
    have := Nat.pow_le_pow_right (show 0 < 2 by decide) h1
    omega
theorem bl_pos (n : Nat) (h : 0 < n) : 2 ^ (bl n - 1) ≤ n ∧ 1 ≤ bl n := by
  unfold bl
  rw [if_neg (by omega)]
  exact ⟨Nat.log2_self_le (by omega), by omega⟩
def nd (n : Nat) : Nat := (bl n + 31) / 32
def toL (n : Nat) : List UInt32 := digN (nd n) n
theorem pow32 (k : Nat) : (4294967296 : Nat) ^ k = 2 ^ (32 * k) := by rw [Nat.pow_mul]
theorem lt_nd (n : Nat) : n < 4294967296 ^ nd n := by
  rw [pow32]
  exact Nat.lt_of_lt_of_le (lt_bl n) (Nat.pow_le_pow_right (by decide) (by unfold nd; omega))
theorem vL_toL (n : Nat) : vL (toL n) = n := by
  unfold toL
  rw [vL_digN, Nat.mod_eq_of_lt (lt_nd n)]
theorem nd_eq (n t : Nat) (h : n < 4294967296 ^ (t + 1)) (h0 : 4294967296 ^ t ≤ n) : nd n = t + 1 := by
  rw [pow32] at h h0
  have h1 := bl_le _ _ h
  have h2 := bl_ge _ _ h0
  unfold nd; omega
theorem nd_le (n t : Nat) (h : n < 4294967296 ^ t) : nd n ≤ t := by
  rw [pow32] at h
  have h1 := bl_le _ _ h
  unfold nd; omega
theorem toL_len (n : Nat) : (toL n).length = nd n := digN_len _ _
theorem nd_zero : nd 0 = 0 := rfl
theorem nd_pos (n : Nat) (h : 0 < n) : 4294967296 ^ (nd n - 1) ≤ n ∧ 1 ≤ nd n := by
  have h1 := bl_pos n h
  rw [pow32]
  exact ⟨Nat.le_trans (Nat.pow_le_pow_right (by decide) (by unfold nd; omega)) h1.1, by unfold nd; omega⟩
theorem vL_tsz (l : List UInt32) : vL l = vL (trimL l) := by
  have ht := tsz_le (d32 l) l.length
  have hz : vL (l.drop (tsz (d32 l) l.length)) = 0 := vL_zero _ (fun i hi => by
    rw [d32_drop]
    rw [List.length_drop] at hi
    exact tsz_zero (d32 l) l.length _ (by omega) (by omega))
  rw [vL_take_drop l _ ht, hz]
  rfl
theorem d32_take (l : List UInt32) (k i : Nat) (h : i < k) : d32 (l.take k) i = d32 l i := by
  unfold d32; simp [h]
theorem tsz_nd (l : List UInt32) : tsz (d32 l) l.length = nd (vL l) := by
  have ht := tsz_le (d32 l) l.length
  have htop := tsz_top (d32 l) l.length
  have hlt := vL_lt (trimL l)
  have hlen : (trimL l).length = tsz (d32 l) l.length := by unfold trimL; rw [List.length_take]; omega
  rw [vL_tsz l]
  cases hk : tsz (d32 l) l.length with
  | zero =>
    have : trimL l = [] := List.eq_nil_of_length_eq_zero (by omega)
    rw [this]; rfl
  | succ t =>
    rw [hk] at htop hlen
    have h0 := htop (by omega)
    rw [show t + 1 - 1 = t from rfl] at h0
    have h1 : vL (trimL l) / 4294967296 ^ t % 4294967296 ≠ 0 := by
      rw [vL_digit]; unfold trimL; rw [hk, d32_take _ _ _ (by omega)]; exact h0
    rw [hlen] at hlt
    refine (nd_eq _ _ hlt ?_).symm
    rcases Nat.lt_or_ge (vL (trimL l)) (4294967296 ^ t) with h2 | h2
    · rw [Nat.div_eq_of_lt h2] at h1; simp at h1
    · exact h2
theorem trim_toL (l : List UInt32) : trimL l = toL (vL l) := by
  have ht := tsz_le (d32 l) l.length
  have hlen : (trimL l).length = nd (vL l) := by unfold trimL; rw [List.length_take, ← tsz_nd]; omega
  unfold toL
  rw [← hlen, vL_tsz l, digN_vL]
theorem nbits_vL (l : List UInt32) : nbits (d32 l) l.length = bl (vL l) := by
  unfold nbits
  rw [tsz_nd]
  split
  · rename_i h
    rcases Nat.eq_zero_or_pos (vL l) with h0 | h0
    · rw [h0]; rfl
    · have := nd_pos _ h0; omega
  · rename_i h
    have h0 : 0 < vL l := by
      rcases Nat.eq_zero_or_pos (vL l) with h0 | h0
      · rw [h0] at h; exact absurd rfl h
      · exact h0
    have h1 := nd_pos _ h0
    rw [pow32] at h1
    rw [bl_shift _ _ h1.1]
    congr 2
    rw [← pow32, ← vL_digit]
    refine Nat.mod_eq_of_lt ?_
    have h2 := lt_nd (vL l)
    obtain ⟨t, e⟩ : ∃ t, nd (vL l) = t + 1 := ⟨nd (vL l) - 1, by omega⟩
    rw [e] at h2 ⊢
    rw [Nat.pow_succ] at h2
    exact Nat.div_lt_of_lt_mul h2
def beV (b : List UInt8) : Nat := b.foldl (fun v c => v * 256 + c.toNat) 0
theorem beV_from (b : List UInt8) (v : Nat) : b.foldl (fun v c => v * 256 + c.toNat) v = v * 256 ^ b.length + beV b := by
  induction b generalizing v with
  | nil => simp [beV]
  | cons x t ih =>
    unfold beV
    simp only [List.foldl_cons, List.length_cons, Nat.zero_mul, Nat.zero_add]
    rw [ih, ih x.toNat, Nat.pow_succ, Nat.add_mul, Nat.mul_assoc, Nat.mul_comm 256, Nat.add_assoc]
theorem beV_cons (x : UInt8) (t : List UInt8) : beV (x :: t) = x.toNat * 256 ^ t.length + beV t := by
  show t.foldl _ _ = _
  rw [beV_from]; simp
theorem beV_lt (b : List UInt8) : beV b < 256 ^ b.length := by
  induction b with
  | nil => simp [beV]
  | cons x t ih =>
    have hx := UInt8.toNat_lt x
    rw [beV_cons, List.length_cons, Nat.pow_succ]
    have : x.toNat * 256 ^ t.length ≤ 255 * 256 ^ t.length := Nat.mul_le_mul_right _ (by omega)
    omega
theorem beV_be (k n : Nat) : beV (be k n) = n % 256 ^ k := by
  induction k with
  | zero => simp [be, beV, Nat.mod_one]
  | succ k ih =>
    simp only [be]
    rw [beV_cons, ih, be_len, UInt8.toNat_ofNat', show (256 : Nat) ^ (k + 1) = 256 ^ k * 256 from Nat.pow_succ .., Nat.mod_mul, Nat.mul_comm, Nat.add_comm]
theorem be_mod (k n : Nat) : be k (n % 256 ^ k) = be k n := by
  have key : ∀ j, j ≤ k → be j (n % 256 ^ k) = be j n := by
    intro j
    induction j with
    | zero => intro _; rfl
    | succ j ih =>
      intro hj
      simp only [be]
      rw [ih (by omega)]
      congr 1
      apply UInt8.toNat_inj.1
      rw [UInt8.toNat_ofNat', UInt8.toNat_ofNat']
      obtain ⟨i, rfl⟩ : ∃ i, k = j + (i + 1) := ⟨k - j - 1, by omega⟩
      rw [Nat.pow_add, Nat.mod_mul_right_div_self, Nat.pow_succ]
      exact Nat.mod_mul_left_mod _ _ _
  exact key k (Nat.le_refl _)
theorem be_beV (b : List UInt8) : be b.length (beV b) = b := by
  induction b with
  | nil => rfl
  | cons x t ih =>
    have hx := UInt8.toNat_lt x
    have ht := beV_lt t
    simp only [List.length_cons, be]
    rw [beV_cons]
    congr 1
    · apply UInt8.toNat_inj.1
      rw [UInt8.toNat_ofNat', Nat.mul_comm, Nat.mul_add_div (Nat.pow_pos (by decide)), Nat.div_eq_of_lt ht]
      omega
    · rw [← be_mod, Nat.mul_comm, Nat.mul_add_mod, Nat.mod_eq_of_lt ht, ih]
theorem wB_vL (l : List UInt32) (i : Nat) : wB (d32 l) i = UInt8.ofNat (vL l / 256 ^ i) := by
  apply UInt8.toNat_inj.1
  unfold wB
  rw [UInt8.toNat_ofNat', UInt8.toNat_ofNat', ← vL_digit]
  obtain ⟨q, r, hr, rfl⟩ : ∃ q r, r < 4 ∧ i = 4 * q + r := ⟨i / 4, i % 4, by omega, by omega⟩
  rw [show (4 * q + r) / 4 = q by omega, show (4 * q + r) % 4 = r by omega, Nat.pow_add, Nat.pow_mul, ← Nat.div_div_eq_div_mul]
  rw [show (256 : Nat) ^ 4 = 4294967296 from rfl]
  generalize vL l / 4294967296 ^ q = v
  have : r = 0 ∨ r = 1 ∨ r = 2 ∨ r = 3 := by omega
  rcases this with rfl | rfl | rfl | rfl <;> simp only [Nat.reducePow] <;> omega
theorem natW_be (l : List UInt32) (k : Nat) : natW (d32 l) k = be k (vL l) := by
  induction k with
  | zero => rfl
  | succ k ih => simp only [natW, be, ih, wB_vL]
theorem beV_drop (b : List UInt8) (i : Nat) (h : i < b.length) : beV (b.drop (b.length - (i + 1))) = byteAt b (b.length - 1 - i) * 256 ^ i + beV (b.drop (b.length - i)) := by
  have e : b.drop (b.length - (i + 1)) = b[b.length - 1 - i] :: b.drop (b.length - i) := by
    rw [show b.length - (i + 1) = b.length - 1 - i by omega, List.drop_eq_getElem_cons (by omega)]
    congr 2; omega
  rw [e, beV_cons, List.length_drop, show b.length - (b.length - i) = i by omega]
  unfold byteAt
  rw [List.getD_eq_getElem?_getD, List.getElem?_eq_getElem (by omega)]
  rfl
theorem beV_drop_lt (b : List UInt8) (i : Nat) (h : i ≤ b.length) : beV (b.drop (b.length - i)) < 256 ^ i := by
  have := beV_lt (b.drop (b.length - i))
  rwa [List.length_drop, show b.length - (b.length - i) = i by omega] at this
theorem digN_byte (m v c i : Nat) (hv : v < 256 ^ i) (hc : c < 256) (hm : i / 4 < m) : digN m (v + c * 256 ^ i) = (digN m v).set (i / 4) (UInt32.ofNat (v / 4294967296 ^ (i / 4) + c * 256 ^ (i % 4))) ∧ v / 4294967296 ^ (i / 4) < 256 ^ (i % 4) := by
  obtain ⟨q, r, hr, rfl⟩ : ∃ q r, r < 4 ∧ i = 4 * q + r := ⟨i / 4, i % 4, by omega, by omega⟩
  have e1 : (4 * q + r) / 4 = q := by omega
  have e2 : (4 * q + r) % 4 = r := by omega
  have e3 : (256 : Nat) ^ (4 * q + r) = 4294967296 ^ q * 256 ^ r := by rw [Nat.pow_add, Nat.pow_mul]
  rw [e1] at hm
  rw [e1, e2]
  rw [e3] at hv ⊢
  have hB : 0 < 4294967296 ^ q := Nat.pow_pos (by decide)
  have hlow : v / 4294967296 ^ q < 256 ^ r := Nat.div_lt_of_lt_mul hv
  refine ⟨?_, hlow⟩
  have hr4 : (256 : Nat) ^ r * 256 ≤ 4294967296 := by
    have : r = 0 ∨ r = 1 ∨ r = 2 ∨ r = 3 := by omega
    rcases this with rfl | rfl | rfl | rfl <;> decide
  have hcr : c * 256 ^ r ≤ 255 * 256 ^ r := Nat.mul_le_mul_right _ (by omega)
  have hsum : v / 4294967296 ^ q + c * 256 ^ r < 4294967296 := by omega
  refine vL_inj (by simp [digN_len]) ?_
  have hs := vL_set (digN m v) q (UInt32.ofNat (v / 4294967296 ^ q + c * 256 ^ r)) (by rw [digN_len]; exact hm)
  rw [digN_at m v q hm, vL_digN, UInt32.toNat_ofNat', Nat.mod_eq_of_lt (show v / 4294967296 ^ q < 4294967296 by omega)] at hs
  have hsz : (2 : Nat) ^ 32 = 4294967296 := rfl
  rw [hsz, Nat.mod_eq_of_lt hsum] at hs
  have hpm : 4294967296 ^ q * 4294967296 ≤ 4294967296 ^ m := by
    rw [← Nat.pow_succ]; exact Nat.pow_le_pow_right (by decide) hm
  have hbig : v + c * (4294967296 ^ q * 256 ^ r) < 4294967296 ^ m := by
    have h1 : c * (4294967296 ^ q * 256 ^ r) ≤ 4294967296 ^ q * (255 * 256 ^ r) := by
      rw [Nat.mul_left_comm]; exact Nat.mul_le_mul_left _ hcr
    have h2 : 4294967296 ^ q * (256 ^ r * 256) ≤ 4294967296 ^ q * 4294967296 := Nat.mul_le_mul_left _ hr4
    have h3 : 4294967296 ^ q * (256 ^ r * 256) = 4294967296 ^ q * (255 * 256 ^ r) + 4294967296 ^ q * 256 ^ r := by
      rw [← Nat.mul_add]; congr 1; omega
    omega
  have hvm : v < 4294967296 ^ m := by omega
  rw [vL_digN, Nat.mod_eq_of_lt hbig]
  rw [Nat.mod_eq_of_lt hvm, Nat.add_mul] at hs
  have : c * 256 ^ r * 4294967296 ^ q = c * (4294967296 ^ q * 256 ^ r) := by rw [Nat.mul_assoc, Nat.mul_comm (256 ^ r)]
  omega
theorem vL_put (l : List UInt32) (p t : Nat) (h : p < l.length) : vL (l.set p (UInt32.ofNat t)) + t / 4294967296 * 4294967296 ^ (p + 1) + d32 l p * 4294967296 ^ p = vL l + t * 4294967296 ^ p := by
  have hs := vL_set l p (UInt32.ofNat t) h
  rw [UInt32.toNat_ofNat', show (2 : Nat) ^ 32 = 4294967296 from rfl] at hs
  have e : t * 4294967296 ^ p = (t % 4294967296) * 4294967296 ^ p + t / 4294967296 * 4294967296 ^ (p + 1) := by
    rw [Nat.pow_succ, Nat.mul_comm _ 4294967296, ← Nat.mul_assoc, ← Nat.add_mul]
    congr 1
    omega
  omega
theorem vL_take_succ (l : List UInt32) (k : Nat) : vL (l.take (k + 1)) = vL (l.take k) + d32 l k * 4294967296 ^ k := by
  rcases Nat.lt_or_ge k l.length with h | h
  case inr => rw [List.take_of_length_le (by omega), List.take_of_length_le h, d32_out l k h]; simp
  rw [List.take_succ_eq_append_getElem h, vL_append, List.length_take, Nat.min_eq_left (by omega)]
  have : d32 l k = l[k].toNat := by unfold d32; rw [List.getD_eq_getElem?_getD, List.getElem?_eq_getElem h]; rfl
  rw [this]
  simp [vL, Nat.mul_comm]
theorem mul_step {out b : List UInt32} {V x c i k : Nat} (hk : k < b.length) (hp : i + k < out.length) (h : vL out + c * 4294967296 ^ (i + k) = V + x * vL (b.take k) * 4294967296 ^ i) :
    vL (out.set (i + k) (UInt32.ofNat (c + x * d32 b k + d32 out (i + k)))) + (c + x * d32 b k + d32 out (i + k)) / 4294967296 * 4294967296 ^ (i + (k + 1)) = V + x * vL (b.take (k + 1)) * 4294967296 ^ i := by
  have hv := vL_put out (i + k) (c + x * d32 b k + d32 out (i + k)) hp
  rw [vL_take_succ b k]
  rw [Nat.add_mul, Nat.add_mul] at hv
  rw [Nat.mul_add, Nat.add_mul, show x * (d32 b k * 4294967296 ^ k) * 4294967296 ^ i = x * d32 b k * 4294967296 ^ (i + k) by rw [Nat.pow_add]; grind]
  rw [← Nat.add_assoc i k 1]
  omega
theorem carry_lt {c x y z : Nat} (hc : c < 4294967296) (hx : x < 4294967296) (hy : y < 4294967296) (hz : z < 4294967296) : c + x * y + z < 18446744073709551616 := by
  have : x * y ≤ 4294967295 * 4294967295 := Nat.mul_le_mul (by omega) (by omega)
  omega
theorem d32_set (l : List UInt32) (p j : Nat) (x : UInt32) (h : p < l.length) : d32 (l.set p x) j = if p = j then x.toNat else d32 l j := by
  unfold d32
  rw [List.getD_eq_getElem?_getD, List.getElem?_set]
  split
  · rename_i e; subst e; simp [h]
  · simp
theorem mul_row {out a b : List UInt32} {V c i : Nat} (hi : i < a.length) (hp : i + b.length < out.length) (hz : d32 out (i + b.length) = 0) (hc : c < 4294967296) (hV : V = vL (a.take i) * vL b)
    (h : vL out + c * 4294967296 ^ (i + b.length) = V + d32 a i * vL (b.take b.length) * 4294967296 ^ i) : vL (out.set (i + b.length) (UInt32.ofNat c)) = vL (a.take (i + 1)) * vL b := by
  have hs := vL_put out (i + b.length) c hp
  rw [hz, Nat.div_eq_of_lt hc] at hs
  rw [List.take_length] at h
  rw [vL_take_succ a i, Nat.add_mul, ← hV, show d32 a i * 4294967296 ^ i * vL b = d32 a i * vL b * 4294967296 ^ i by grind]
  omega
theorem guess_lo (w V k m : Nat) (hV : 0 < V) : w / (V * 4294967296 ^ k) * (V / 4294967296 ^ m) ≤ w / 4294967296 ^ (k + m) := by
  have hB : 0 < 4294967296 ^ (k + m) := Nat.pow_pos (by decide)
  rw [Nat.le_div_iff_mul_le hB]
  have h1 := Nat.div_mul_le_self w (V * 4294967296 ^ k)
  have h2 := Nat.div_mul_le_self V (4294967296 ^ m)
  have h3 : w / (V * 4294967296 ^ k) * (V / 4294967296 ^ m) * 4294967296 ^ (k + m) = w / (V * 4294967296 ^ k) * (V / 4294967296 ^ m * 4294967296 ^ m * 4294967296 ^ k) := by rw [Nat.pow_add]; grind
  rw [h3]
  exact Nat.le_trans (Nat.mul_le_mul_left _ (Nat.mul_le_mul_right _ h2)) h1
theorem guess_hi (w V k m g : Nat) (hg : g < 4294967296) (hS : g * (V / 4294967296 ^ m) ≤ w / 4294967296 ^ (k + m)) (hV : 4294967296 ^ (m + 1) ≤ V) : g ≤ w / (V * 4294967296 ^ k) + 1 := by
  have hB : 0 < 4294967296 ^ (k + m) := Nat.pow_pos (by decide)
  have hBm : 0 < 4294967296 ^ m := Nat.pow_pos (by decide)
  have hBk : 0 < 4294967296 ^ k := Nat.pow_pos (by decide)
  have hV0 : 0 < V := Nat.lt_of_lt_of_le (Nat.pow_pos (by decide)) hV
  have h1 := (Nat.le_div_iff_mul_le hB).1 hS
  have h2 : V < (V / 4294967296 ^ m + 1) * 4294967296 ^ m := by
    have := Nat.lt_div_mul_add hBm (a := V)
    rw [Nat.add_mul]; omega
  cases g with
  | zero => exact Nat.zero_le _
  | succ g =>
    refine Nat.succ_le_succ ((Nat.le_div_iff_mul_le (Nat.mul_pos hV0 hBk)).2 ?_)
    -- g V B^k ≤ (g+1) V B^k - V B^k ≤ (g+1)(S+1) B^m B^k - V B^k ≤ w + (g+1) B^(m+k) - V B^k ≤ w
    have h3 : (g + 1) * V ≤ (g + 1) * ((V / 4294967296 ^ m + 1) * 4294967296 ^ m) := Nat.mul_le_mul_left _ (Nat.le_of_lt h2)
    have h4 : (g + 1) * 4294967296 ^ m ≤ V := by
      refine Nat.le_trans ?_ hV
      rw [Nat.pow_succ, Nat.mul_comm]
      exact Nat.mul_le_mul_left _ (by omega)
    have h5 : (g + 1) * ((V / 4294967296 ^ m + 1) * 4294967296 ^ m) = (g + 1) * (V / 4294967296 ^ m) * 4294967296 ^ m + (g + 1) * 4294967296 ^ m := by grind
    have h6 : g * V ≤ (g + 1) * (V / 4294967296 ^ m) * 4294967296 ^ m := by
      have : (g + 1) * V = g * V + V := Nat.succ_mul ..
      omega
    have h7 : g * (V * 4294967296 ^ k) ≤ (g + 1) * (V / 4294967296 ^ m) * 4294967296 ^ (k + m) := by
      rw [← Nat.mul_assoc, Nat.pow_add, Nat.mul_comm (4294967296 ^ k), ← Nat.mul_assoc]
      exact Nat.mul_le_mul_right _ h6
    exact Nat.le_trans h7 h1
theorem sub_step {out v : List UInt32} {W g c k i b e r : Nat} (hp : k + i < out.length) (h : vL out + g * vL (v.take i) * 4294967296 ^ k = W + (c + b) * 4294967296 ^ (k + i))
    (hr : r < 4294967296) (he : d32 out (k + i) + e * 4294967296 = b + (c + g * d32 v i) % 4294967296 + r) :
    vL (out.set (k + i) (UInt32.ofNat r)) + g * vL (v.take (i + 1)) * 4294967296 ^ k = W + ((c + g * d32 v i) / 4294967296 + e) * 4294967296 ^ (k + (i + 1)) := by
  have hs := vL_put out (k + i) r hp
  rw [Nat.div_eq_of_lt hr] at hs
  rw [vL_take_succ v i, ← Nat.add_assoc k i 1, Nat.pow_succ, Nat.mul_add, Nat.add_mul, show g * (d32 v i * 4294967296 ^ i) * 4294967296 ^ k = g * d32 v i * 4294967296 ^ (k + i) by rw [Nat.pow_add]; grind]
  generalize 4294967296 ^ (k + i) = P at *
  have hdm : c + g * d32 v i = (c + g * d32 v i) % 4294967296 + 4294967296 * ((c + g * d32 v i) / 4294967296) := (Nat.mod_add_div _ _).symm
  generalize (c + g * d32 v i) % 4294967296 = lo at *
  generalize (c + g * d32 v i) / 4294967296 = hi2 at *
  generalize d32 out (k + i) = u at *
  have h9 : (u + e * 4294967296) * P = (b + lo + r) * P := by rw [he]
  have h10 : (c + g * d32 v i) * P = (lo + 4294967296 * hi2) * P := by rw [← hdm]
  grind
theorem add_step {out v : List UInt32} {W c k i : Nat} (hp : k + i < out.length) (h : vL out + c * 4294967296 ^ (k + i) = W + vL (v.take i) * 4294967296 ^ k) :
    vL (out.set (k + i) (UInt32.ofNat (c + d32 out (k + i) + d32 v i))) + (c + d32 out (k + i) + d32 v i) / 4294967296 * 4294967296 ^ (k + (i + 1)) = W + vL (v.take (i + 1)) * 4294967296 ^ k := by
  have hs := vL_put out (k + i) (c + d32 out (k + i) + d32 v i) hp
  rw [vL_take_succ v i, ← Nat.add_assoc k i 1, Nat.add_mul, show d32 v i * 4294967296 ^ i * 4294967296 ^ k = d32 v i * 4294967296 ^ (k + i) by rw [Nat.pow_add]; grind]
  generalize 4294967296 ^ (k + i + 1) = P at *
  grind
theorem vL_lt_zero {l : List UInt32} {m : Nat} (h : ∀ j, m ≤ j → d32 l j = 0) : vL l < 4294967296 ^ m := by
  rcases Nat.lt_or_ge l.length m with hl | hl
  · exact Nat.lt_of_lt_of_le (vL_lt l) (Nat.pow_le_pow_right (by decide) (by omega))
  · rw [vL_take_drop l m hl, vL_zero (l.drop m) (fun i _ => by rw [d32_drop]; exact h _ (by omega))]
    have := vL_lt (l.take m)
    rw [List.length_take, Nat.min_eq_left hl] at this
    omega
theorem vL_zero_above {l : List UInt32} {m : Nat} (h : vL l < 4294967296 ^ m) (j : Nat) (hj : m ≤ j) : d32 l j = 0 := by
  rw [← vL_digit, Nat.div_eq_of_lt (Nat.lt_of_lt_of_le h (Nat.pow_le_pow_right (by decide) hj))]
theorem digN_fix {l : List UInt32} {N x : Nat} (h : l.length = N) (e : vL l = x) : l = digN N x := by
  subst h e; exact (digN_vL l).symm
theorem step_ok1 {U : List UInt32} {w D k n g c b N : Nat} (hN : U.length = N) (hk : k + n < N) (h : vL U + g * D = w + (c + b) * 4294967296 ^ (k + n)) (hle : c + b ≤ d32 U (k + n)) (hq : w / D ≤ g) (hD : 0 < D) :
    U.set (k + n) (UInt32.ofNat (d32 U (k + n) - (c + b))) = digN N (w % D) ∧ g = w / D := by
  have hs := vL_put U (k + n) (d32 U (k + n) - (c + b)) (by omega)
  have hd := d32_lt U (k + n)
  rw [Nat.div_eq_of_lt (by omega), Nat.sub_mul] at hs
  have hm : (c + b) * 4294967296 ^ (k + n) ≤ d32 U (k + n) * 4294967296 ^ (k + n) := Nat.mul_le_mul_right _ hle
  have e : vL (U.set (k + n) (UInt32.ofNat (d32 U (k + n) - (c + b)))) + g * D = w := by omega
  have hg : g = w / D := by
    refine Nat.le_antisymm ((Nat.le_div_iff_mul_le hD).2 (by omega)) hq
  refine ⟨digN_fix (by simp [hN]) ?_, hg⟩
  have := Nat.div_add_mod w D
  rw [← hg, Nat.mul_comm] at this
  omega
theorem step_ok2 {U W : List UInt32} {w D V k n g c b c2 N : Nat} (hN : U.length = N) (hNW : W.length = N) (hk : k + n < N) (hVD : D = V * 4294967296 ^ k) (hV : V < 4294967296 ^ n) (h : vL U + g * D = w + (c + b) * 4294967296 ^ (k + n)) (hz : ∀ j, k + n < j → d32 U j = 0) (hgt : d32 U (k + n) < c + b) (hcb : c + b ≤ d32 U (k + n) + 4294967296)
    (hq : w / D ≤ g) (hq2 : g ≤ w / D + 1) (hD : 0 < D) (hc2 : c2 ≤ 1) (hW : vL W + c2 * 4294967296 ^ (k + n) = vL (U.set (k + n) (UInt32.ofNat (d32 U (k + n) + 4294967296 - (c + b)))) + V * 4294967296 ^ k)
    (hWd : d32 W (k + n) = (d32 U (k + n) + 4294967296 - (c + b)) % 4294967296) (hWz : ∀ j, k + n < j → d32 W j = 0) :
    W.set (k + n) (UInt32.ofNat (d32 W (k + n) + c2)) = digN N (w % D) ∧ g = w / D + 1 := by
  have hP : (4294967296 : Nat) ^ (k + n + 1) = 4294967296 ^ (k + n) * 4294967296 := Nat.pow_succ ..
  have hDlt : D < 4294967296 ^ (k + n) := by
    rw [hVD, Nat.pow_add, Nat.mul_comm]; exact Nat.mul_lt_mul_of_pos_left hV (Nat.pow_pos (by decide))
  have hs := vL_put U (k + n) (d32 U (k + n) + 4294967296 - (c + b)) (by omega)
  have hs2 := vL_put W (k + n) (d32 W (k + n) + c2) (by omega)
  have hU := vL_lt_zero (l := U) (m := k + n + 1) (fun j hj => hz j (by omega))
  have hdm := Nat.div_add_mod w D
  have hml := Nat.mod_lt w hD
  have hWlt := vL_lt_zero (l := W) (m := k + n + 1) (fun j hj => hWz j (by omega))
  have hge : g = w / D + 1 := by
    rcases Nat.lt_or_ge (w / D) g with h1 | h1
    · omega
    · -- then g D ≤ w, and nothing is borrowed
      exfalso
      have hgD : g * D ≤ w := Nat.le_trans (Nat.mul_le_mul_right _ h1) (Nat.div_mul_le_self _ _)
      have h2 : (d32 U (k + n) + 1) * 4294967296 ^ (k + n) ≤ (c + b) * 4294967296 ^ (k + n) := Nat.mul_le_mul_right _ hgt
      have h3 := vL_take_drop U (k + n) (by omega)
      have h4 : vL (U.drop (k + n)) = d32 U (k + n) := by
        have := vL_take_succ (U.drop (k + n)) 0
        have h5 : vL ((U.drop (k + n)).drop 1) = 0 := vL_zero _ (fun i _ => by rw [d32_drop, d32_drop]; exact hz _ (by omega))
        have h6 := vL_take_drop (U.drop (k + n)) 1 (by rw [List.length_drop]; omega)
        rw [h5] at h6
        rw [this] at h6
        rw [d32_drop] at h6
        simpa [vL] using h6
      have h5 := vL_lt (U.take (k + n))
      rw [List.length_take, Nat.min_eq_left (by omega)] at h5
      rw [h4, Nat.mul_comm] at h3
      rw [Nat.add_mul] at h2
      omega
  refine ⟨digN_fix (by simp [hNW]) ?_, hge⟩
  rw [← hVD] at hW
  generalize 4294967296 ^ (k + n) = P at *
  rw [hP] at hs hs2 hU hWlt
  have hgD : g * D = D * (w / D) + D := by rw [hge, Nat.add_mul, Nat.mul_comm, Nat.one_mul]
  generalize he : d32 U (k + n) + 4294967296 - (c + b) = e at *
  have hdl := d32_lt U (k + n)
  have he2 : e * P + (c + b) * P = d32 U (k + n) * P + 4294967296 * P := by rw [← Nat.add_mul, ← Nat.add_mul]; congr 1; omega
  have hel : e < 4294967296 := by omega
  rw [Nat.div_eq_of_lt hel] at hs
  rw [Nat.mod_eq_of_lt hel] at hWd
  rw [hWd] at hs2 ⊢
  rw [Nat.add_mul] at hs2
  -- vL W' + K P B = B P + w % D
  have hK : (e + c2) / 4294967296 ≤ 1 := by omega
  have hWz2 := vL_lt_zero (l := W.set (k + n) (UInt32.ofNat (e + c2))) (m := k + n + 1) (fun j hj => by rw [d32_set _ _ _ _ (by omega), if_neg (by omega)]; exact hWz j (by omega))
  rw [hP] at hWz2
  have hK01 : (e + c2) / 4294967296 = 0 ∨ (e + c2) / 4294967296 = 1 := by omega
  rcases hK01 with hk0 | hk1
  · rw [hk0] at hs2; omega
  · rw [hk1] at hs2; omega
def ws (k : IntKind) (l : List UInt32) : List Value := l.map fun x => .int k (x.toNat : Int)
theorem ws_len (k : IntKind) (l : List UInt32) : (ws k l).length = l.length := by simp [ws]
theorem ws_set (k : IntKind) (l : List UInt32) (i : Nat) (x : UInt32) : (ws k l).set i (.int k (x.toNat : Int)) = ws k (l.set i x) := by simp [ws, List.map_set]
theorem d32_get (l : List UInt32) (i : Nat) (h : i < l.length) : d32 l i = l[i].toNat := by unfold d32; simp [h]
theorem ws_at (k : IntKind) (l : List UInt32) (i : Nat) (h : i < l.length) : (ws k l)[i]? = some (.int k (d32 l i : Nat)) := by
  rw [d32_get l i h]; simp [ws, h]
theorem digN_zero : ∀ m, digN m 0 = List.replicate m 0
  | 0 => rfl
  | m + 1 => by rw [digN, Nat.zero_div, digN_zero m]; rfl
theorem ws_zero (k : IntKind) (m : Nat) : List.replicate m (Value.int k 0) = ws k (digN m 0) := by rw [digN_zero]; simp [ws]
theorem CellsR.of_ws32 {h : Part} {l : List UInt32} : CellsR u32R 1 h (ws .u32 l) l := ⟨by simp [ws], fun i x hx => by
  unfold u32R
  rw [Nat.mul_one, List.take_one, List.head?_drop]
  simp [ws, hx]⟩
theorem CellsR.of_ws64 {h : Part} {l : List UInt32} : CellsR u64R 1 h (ws .u64 l) (l.map m64) := ⟨by simp [ws], fun i x hx => by
  unfold u64R
  rw [List.getElem?_map, Option.map_eq_some_iff] at hx
  obtain ⟨y, hy, rfl⟩ := hx
  rw [Nat.mul_one, List.take_one, List.head?_drop, m64_nat]
  simp [ws, hy]⟩
theorem cutZ_map (l : List UInt32) : cutZ (l.map m64) = (toL (vL l)).map m64 := by
  rw [← trim_toL]
  unfold cutZ trimL
  rw [tsz_congr (d64_map l), List.length_map, List.map_take]
theorem map_n32 (l : List UInt32) : (l.map m64).map n32 = l := by
  rw [List.map_map]
  conv => rhs; rw [← List.map_id l]
  exact List.map_congr_left (fun x _ => n32_m64 x)
section
variable {f : Fr} {n : Post} {x : Nat → Post} {S : Sig} {h : Part} {L L' : List Ent} {ops : Array Oper} {rest : List Oper}
variable {ty : TypeId} {pos : String} {af : Array Edge} {d : Nat} {v : Value} {T : TypeId} {xo yo : Operand}
theorem RunV.wload {g c t m i : Nat} {k : IntKind} {l : List UInt32} (hT : aggT f.P T = some none) (hx : ev S xo = some (.pointer (some ⟨g, i, none⟩))) (hm : Ent.row (some ⟨g, 0, none⟩) c t 1 m (ws k l) ∈ L) (hi : i < l.length) : RunV f S h L (.load T xo) ty (.int k (d32 l i : Nat)) :=
  RunV.rowload hT hx hm (ws_at k l i hi)
theorem JL.storeW (t0 : Nat) {g c t m i : Nat} {k : IntKind} {p : Int} {l : List UInt32} (hT : aggT f.P T = some none) (hx : ev S xo = some (.pointer (some ⟨g, i, none⟩))) (hy : ev S yo = some (.int k p)) (hp : p = ((t0 % 4294967296 : Nat) : Int)) (u : Del (.row (some ⟨g, 0, none⟩) c t 1 m (ws k l)) L L') (hi : i < l.length)
    (kk : JL f ops n x rest S h (.row (some ⟨g, 0, none⟩) c t 1 m (ws k (l.set i (UInt32.ofNat t0))) :: L')) : JL f ops n x (⟨none, .store T xo yo, ty, pos, af, none⟩ :: rest) S h L := by
  refine JL.storeRow hT hx hy rfl u (by rw [ws_len]; exact hi) ?_
  have e : p = ((UInt32.ofNat t0).toNat : Int) := by rw [hp, UInt32.toNat_ofNat']
  rw [e, ws_set]
  exact kk
theorem RunV.index_off {e g o ln c m : Nat} {k : IntKind} {i : Int} (hT : slT f.P T = some (e, 1)) (hx : ev S xo = some (.slice (some ⟨g, o, none⟩) ln c)) (hy : ev S yo = some (.int k i)) (hi : i = (m : Int)) (h1 : m < ln) :
    RunV f S h L (.indexAddr T xo yo) ty (.pointer (some ⟨g, o + m, none⟩)) := fun ac w s _ _ _ _ => by
  subst hi
  obtain ⟨hu, inf, hi, hs⟩ := slT_spec hT
  have h0 : (0 : Int) ≤ m := by omega
  have h2 : (m : Int) < ln := by omega
  simp [execOp, s.eval hx, s.eval hy, Instr.indexAt, run_underlying hu, asIntOf, sizeOf, typeInfo, hi, hs, h1, Addr.add_lit]
theorem JL.pub32 {a : Option Addr} {c t m : Nat} {l : List UInt32} {l0 : List Oper} (u : Del (.row a c t 1 m (ws .u32 l)) L L') (hn : m = l.length) (hb : l.length ≤ 140737488355328) (k : ∀ h', h.le h' → SlR u32R 1 h' a c l → JL f ops n x l0 S h' L') : JL f ops n x l0 S h L :=
  JL.pub u CellsR.of_ws32 hn hb k
theorem JL.pub64 {a : Option Addr} {c t m : Nat} {l : List UInt32} {l0 : List Oper} (u : Del (.row a c t 1 m (ws .u64 l)) L L') (hn : m = l.length) (hb : l.length ≤ 140737488355328) (k : ∀ h', h.le h' → SlR u64R 1 h' a c (l.map m64) → JL f ops n x l0 S h' L') : JL f ops n x l0 S h L :=
  JL.pub u CellsR.of_ws64 (by rw [hn, List.length_map]) (by rw [List.length_map]; exact hb) k
end
end Go.Proofs.YtmngjbefnloljaaGreatDoor
set_option linter.unusedSimpArgs false
set_option linter.unusedVariables false
set_option linter.constructorNameAsVariable false
namespace Go.Proofs.YtmngjbefnloljaaGreatDoor
open Go Go.RowKit
set_option maxRecDepth 100000
theorem ca_42 : callT Tryz.prog 42 = true := by kernel_rfl
theorem ca_59 : callT Tryz.prog 59 = true := by kernel_rfl
theorem cv_5_103 : convI Tryz.prog 5 103 = some .u32 := by kernel_rfl
theorem mk_30 : mkT Tryz.prog 30 = some (103, .int .u32 0, 4) := by kernel_rfl
theorem nattrim_fn {a : Option Addr} {c : Nat} {l : List UInt32} {h : Part} (hl : SlR u32R 1 h a c l) (hlb : l.length ≤ 1073741824) : FnR Tryz.prog 59 [.slice a l.length c] h (fun v h' => ∃ a' c', v = .slice a' (toL (vL l)).length c' ∧ SlR u32R 1 h' a' c' (toL (vL l))) := by
  have hll := hl.big
  have ht := tsz_le (d32 l) l.length
  have htr : l.take (tsz (d32 l) l.length) = toL (vL l) := trim_toL l
  have hlen : (toL (vL l)).length = tsz (d32 l) l.length := by rw [toL_len, tsz_nd]
  refine Fn.intro Tryz.func59 rfl Tryz.ntmps59 rfl (fun e he => ?_)
  refine J.weak [(0, _)] ⟨rfl, trivial⟩ ?_
  have hh0 := Part.le.refl h
  refine Sr ?_
  refine Ru 1 rfl ?_
  refine JL.nil ?_
  refine Sr ?_
  refine Ru 1 rfl ?_
  refine JL.callP ca_84 rfl (natsize_fn (by assumption)) rfl ?_
  refine Ru 1 rfl ?_
  refine JL.nil ?_
  refine J.seq ?_
  refine Sr ?_
  refine Ru 2 rfl ?_
  refine JL.nil ?_
  refine Cs rfl (fun hc2 => ?_) fun hc2 => ?_
  ·
   have h0 : toL (vL l) = [] := List.eq_nil_of_length_eq_zero (by omega)
   refine Sr ?_
   refine Ru 1 rfl ?_
   refine Nk [2, 3, 0] rfl ?_
   rw [h0]; exact J.retR (RetV.one rfl rfl) ⟨none, 0, rfl, SlR.nil_⟩
  ·
   refine J.skip ?_
   refine Kp [3, 2, 0] rfl ?_
   refine Sr ?_
   refine Ru 2 rfl ?_
   refine JL.ope (RunE.cut_h sl_30 (m := tsz (d32 l) l.length) rfl rfl rfl hl rfl (by omega)) rfl ?_
   rintro _ ⟨a9, c9, rfl, hS9⟩
   rw [htr] at hS9 ⊢; refine JL.row_nil 103 1 ?_
   refine JL.append (R := u32R) ap_30 rfl rfl CellsR.nil rfl hS9 rfl dl_ (by simp only [List.length_nil]; omega) rfl rfl (fun a8 c8 xs8 hC8 hN8 => ?_)
   simp only [List.nil_append] at hC8 ⊢; refine JL.pub (R := u32R) dl_ hC8 rfl (by omega) (fun h9 hle9 hP9 => ?_)
   refine Ru 1 rfl ?_
   refine Nk [2] rfl ?_
   exact J.retR (RetV.one rfl rfl) ⟨_, _, rfl, hP9⟩
theorem nattrim_fn' {a : Option Addr} {c n : Nat} {l : List UInt32} {h : Part} (hl : SlR u32R 1 h a c l) (hn : n = l.length) (hlb : n ≤ 1073741824) : FnR Tryz.prog 59 [.slice a n c] h (fun v h' => ∃ a' c', v = .slice a' (toL (vL l)).length c' ∧ SlR u32R 1 h' a' c' (toL (vL l))) := by
  subst hn; exact nattrim_fn hl hlb
theorem shl8 (i : Nat) : (2 : Int) ^ (8 * ((i : Int) % 4)).toNat = ((256 ^ (i % 4) : Nat) : Int) := by
  have : (8 * ((i : Int) % 4)).toNat = 8 * (i % 4) := by omega
  rw [this, Int.natCast_pow, Int.pow_mul]; rfl
theorem two8 (j : Nat) : (2 : Int) ^ (8 * j) = ((256 ^ j : Nat) : Int) := by rw [Int.natCast_pow, Int.pow_mul]; rfl
theorem bits_or_comm (k : IntKind) (p q : Int) : bits .or k p q = bits .or k q p := by
  show k.wrap _ = k.wrap _
  rw [BitVec.or_comm]
theorem RunV.joinr_u32 {f : Fr} {S : Sig} {h : Part} {L : List Ent} {ty T yt : TypeId} {x y : Operand} {p q : Int} (i : Nat) (D : Int) (hx : ev S x = some (.int .u32 p)) (hy : ev S y = some (.int .u32 q)) (hD : (2 : Int) ^ i = D) (h0 : 0 ≤ q) (hp : q % D = 0) (h1 : q ≤ 4294967295) (hq0 : 0 ≤ p) (hq : p < D) (hq1 : p ≤ 4294967295) : RunV f S h L (.binOp .or T x y yt) ty (.int .u32 (p + q)) := by
  have := RunV.or_ (f := f) (h := h) (L := L) (ty := ty) (T := T) (yt := yt) hx hy
  rwa [bits_or_comm, bits_join .u32 32 (by decide) wraps_u32' i q p h0 (by rw [hD]; exact hp) (by omega) hq0 (by rw [hD]; exact hq) (by omega), Int.add_comm] at this
theorem pow4 (r : Nat) (h : r < 4) : 256 ^ r = 1 ∨ 256 ^ r = 256 ∨ 256 ^ r = 65536 ∨ 256 ^ r = 16777216 := by
  have : r = 0 ∨ r = 1 ∨ r = 2 ∨ r = 3 := by omega
  rcases this with rfl | rfl | rfl | rfl <;> simp
theorem natread_fn {a : Option Addr} {c : Nat} {l : List UInt8} {h : Part} (hl : SlR u8R 1 h a c l) (hlen : l.length ≤ 1073741824) : FnR Tryz.prog 42 [.slice a l.length c] h (fun v h' => ∃ a' c', v = .slice a' (toL (beV l)).length c' ∧ SlR u32R 1 h' a' c' (toL (beV l))) := by
  refine Fn.intro Tryz.func42 rfl Tryz.ntmps42 rfl (fun e he => ?_)
  refine J.weak [(0, _)] ⟨rfl, trivial⟩ ?_
  have hh0 := Part.le.refl h
  refine Sr ?_
  refine Ru 1 rfl ?_
  refine JL.nil ?_
  refine Sr ?_
  refine Ru 2 rfl ?_
  refine JL.op ai_ rfl ?_
  refine JL.op (by first | exact RunV.quo_i64 rfl rfl (by omega) (by omega) (by omega) | exact RunV.quo rfl rfl (by omega)) rfl ?_
  refine JL.make1 mk_30 rfl rfl (m := (l.length + 3) / 4) (by omega) (by omega) (by omega) rfl rfl (fun b1 => ?_); rw [ws_zero]
  refine Ru 1 rfl ?_
  refine Nk [3, 2, 0] rfl ?_
  refine J.seq ?_
  refine Sr ?_
  refine Ru 3 rfl ?_
  refine JL.nil ?_
  refine J.block ?_
  refine J.loop (fun t_ S_ h_ L_ => ∃ (i v : Nat), t_ = l.length - i ∧ S_ = [(0, .slice a l.length c), (3, .slice (some ⟨b1, 0, none⟩) ((l.length + 3) / 4) ((l.length + 3) / 4)), (12, .int .i64 l.length), (13, .int .i64 i)] ∧ h = h_ ∧ L_ = [.row (some ⟨b1, 0, none⟩) ((l.length + 3) / 4) 103 1 ((l.length + 3) / 4) (ws .u32 (digN ((l.length + 3) / 4) v))] ∧ (i ≤ l.length ∧ v = beV (l.drop (l.length - i)))) ⟨_, _, ?_, ⟨0, 0, rfl, rfl, rfl, rfl, ⟨by omega, by simp [beV]⟩⟩⟩ ?_
  ·
   repeat (first | exact trivial | refine ⟨rfl, ?_⟩)
  rintro _ _ _ _ ⟨i, v, rfl, rfl, rfl, rfl, hi, hv⟩
  refine Sr ?_
  refine Ru 1 rfl ?_
  refine JL.nil ?_
  refine J.seq ?_
  refine Cs rfl (fun hc2 => ?_) fun hc2 => ?_
  ·
   have hi' : i < l.length := (by omega); have hvl := beV_drop_lt l i (by omega); have hbl := byteAt_lt l (l.length - 1 - i); have hdb := digN_byte ((l.length + 3) / 4) _ _ i hvl hbl (by omega); have hst := beV_drop l i hi'; have hd0 := digN_at ((l.length + 3) / 4) (beV (l.drop (l.length - i))) (i / 4) (by omega); have hr4 := pow4 (i % 4) (by omega); have hbe := byteAt_eq l (l.length - 1 - i) (by omega); rw [← hv] at hvl hdb hst hd0; have hsb : byteAt l (l.length - 1 - i) * 256 ^ (i % 4) ≤ 4278190080 := (by rcases hr4 with e | e | e | e <;> rw [e] <;> omega); have hsum : v / 4294967296 ^ (i / 4) + byteAt l (l.length - 1 - i) * 256 ^ (i % 4) < 4294967296 := (by have := hdb.2; rcases hr4 with e | e | e | e <;> rw [e] at this ⊢ <;> omega); have hdd : d32 (digN ((l.length + 3) / 4) v) (i / 4) = v / 4294967296 ^ (i / 4) := (by rw [hd0]; exact Nat.mod_eq_of_lt (by omega))
   refine J.skip ?_
   refine J.seq ?_
   refine J.block ?_
   refine Sr ?_
   refine Ru 2 rfl ?_
   refine JL.nil ?_
   refine Sr ?_
   refine Ru 2 rfl ?_
   refine JL.op si_ rfl ?_
   refine Ru 1 rfl ?_
   refine JL.op si_ rfl ?_
   refine Ru 1 rfl ?_
   refine JL.nil ?_
   refine J.held ([]) 17 mixed_ rfl (fun h00 => ?_)
   refine JH.take 0 rfl (by kernel_rfl) (by kernel_rfl) (by kernel_rfl) (fun _ _ _ _ hh => hh) (br_ h00) (RunV.move rfl) rfl ?_
   refine JH.take 1 rfl (by kernel_rfl) (by kernel_rfl) (by kernel_rfl) (fun _ _ _ _ hh => hh) (br_ h00) (RunV.move rfl) rfl ?_
   refine JH.take 2 rfl (by kernel_rfl) (by kernel_rfl) (by kernel_rfl) (fun _ _ _ _ hh => hh) (br_ h00) (by first | exact RunV.quo_i64 rfl rfl (by omega) (by omega) (by omega) | exact RunV.quo rfl rfl (by omega)) rfl ?_
   refine JH.take 3 rfl (by kernel_rfl) (by kernel_rfl) (by kernel_rfl) (fun _ _ _ _ hh => hh) (br_ h00) (RunV.index_at sl_30 (m := i / 4) rfl rfl (by omega) (by omega)) rfl ?_
   refine JH.take 5 rfl (by kernel_rfl) (by kernel_rfl) (by kernel_rfl) (fun _ _ _ _ hh => hh) (br_ h00) (RunV.move rfl) rfl ?_
   refine JH.take 6 rfl (by kernel_rfl) (by kernel_rfl) (by kernel_rfl) (fun _ _ _ _ hh => hh) (br_ h00) (RunV.move rfl) rfl ?_
   refine JH.takeE 7 rfl (by kernel_rfl) (by kernel_rfl) (by kernel_rfl) (fun _ _ _ _ hh => hh) (br_ h00) (RunE.index (m := l.length - 1 - i) sl_22 rfl rfl (by omega) hl rfl (by omega)) rfl ?_
   rintro _ ⟨b8, o8, hi8, rfl, hE8⟩
   refine JH.take 8 rfl (by kernel_rfl) (by kernel_rfl) (by kernel_rfl) (fun _ _ _ _ hh => hh) (br_ h00) ((hbe ▸ RunV.ld_u8 ag_5 rfl hE8 : RunV _ _ _ _ _ _ (.int .u8 (byteAt l (l.length - 1 - i) : Nat)))) rfl ?_
   refine JH.take 9 rfl (by kernel_rfl) (by kernel_rfl) (by kernel_rfl) (fun _ _ _ _ hh => hh) (br_ h00) (RunV.conv_u32 cv_5_103 rfl (by omega) (by omega)) rfl ?_
   refine JH.take 10 rfl (by kernel_rfl) (by kernel_rfl) (by kernel_rfl) (fun _ _ _ _ hh => hh) (br_ h00) (RunV.move rfl) rfl ?_
   refine JH.take 11 rfl (by kernel_rfl) (by kernel_rfl) (by kernel_rfl) (fun _ _ _ _ hh => hh) (br_ h00) (by first | exact RunV.rem_i64 rfl rfl (by omega) (by omega) | exact RunV.rem rfl rfl (by omega)) rfl ?_
   refine JH.take 12 rfl (by kernel_rfl) (by kernel_rfl) (by kernel_rfl) (fun _ _ _ _ hh => hh) (br_ h00) (by first | exact RunV.mul_i64 rfl rfl (by omega) (by omega) | exact RunV.mul rfl rfl) rfl ?_
   refine JH.take 13 rfl (by kernel_rfl) (by kernel_rfl) (by kernel_rfl) (fun _ _ _ _ hh => hh) (br_ h00) (RunV.shl_u32 ((256 ^ (i % 4) : Nat) : Int) rfl rfl (by omega) (by omega) (shl8 i) (by rw [← Int.natCast_mul]; omega) (by rw [← Int.natCast_mul]; omega)) rfl ?_
   refine JH.all1 4 (by kernel_rfl) rfl ?_
   unfold One
   refine JL.op (RunV.wload ag_103 rfl mm_ (by rw [digN_len]; omega)) rfl ?_
   refine JL.nil ⟨(br_ h00), ?_⟩
   refine JH.take 14 rfl (by kernel_rfl) (by kernel_rfl) (by kernel_rfl) (fun _ _ _ _ hh => hh) (br_ h00) (RunV.joinr_u32 (8 * (i % 4)) ((256 ^ (i % 4) : Nat) : Int) rfl rfl (two8 (i % 4)) (by rw [← Int.natCast_mul]; omega) (Int.mul_emod_left _ _) (by rw [← Int.natCast_mul]; omega) (by omega) (by have := hdb.2; omega) (by omega)) rfl ?_
   refine JH.take 15 rfl (by kernel_rfl) (by kernel_rfl) (by kernel_rfl) (fun _ _ _ _ hh => hh) (br_ h00) (RunV.index_at sl_30 (m := i / 4) rfl rfl (by omega) (by omega)) rfl ?_
   refine JH.all1 16 (by kernel_rfl) rfl ?_
   unfold One
   refine JL.storeW (v / 4294967296 ^ (i / 4) + byteAt l (l.length - 1 - i) * 256 ^ (i % 4)) ag_103 rfl rfl (by rw [Nat.mod_eq_of_lt hsum, hdd, ← Int.natCast_mul, ← Int.natCast_add]) dl_ (by rw [digN_len]; omega) ?_
   rw [← hdb.1]
   refine JL.nil ⟨(br_ h00), ?_⟩
   refine JH.done (by kernel_rfl) ?_
   refine Rg ?_
   refine JL.op ai_ rfl ?_
   refine Ru 1 rfl ?_
   refine JL.nil ?_
   refine ⟨_, ?_, _, ?_, ⟨i + 1, v + byteAt l (l.length - 1 - i) * 256 ^ i, rfl, rfl, rfl, rfl, ⟨by omega, by rw [hst, Nat.add_comm]⟩⟩⟩
   ·
    omega
   ·
    repeat (first | exact trivial | refine ⟨rfl, ?_⟩)
  ·
   refine J.exit ?_
   refine Kp [3] rfl ?_
   refine Sr ?_
   refine Ru 1 rfl ?_
   refine JL.pub32 dl_ (by rw [digN_len]) (by rw [digN_len]; omega) (fun h9 hle9 hP9 => ?_); replace hl := hl.mono hle9; replace hh0 := hh0.mono hle9; have hve : vL (digN ((l.length + 3) / 4) v) = beV l := (by rw [vL_digN, hv, show l.length - i = 0 by omega, List.drop_zero]; refine Nat.mod_eq_of_lt (Nat.lt_of_lt_of_le (beV_lt l) ?_); rw [show (4294967296 : Nat) = 256 ^ 4 from rfl, ← Nat.pow_mul]; exact Nat.pow_le_pow_right (by decide) (by omega))
   refine JL.callR ca_59 rfl (nattrim_fn' hP9 (by rw [digN_len]) (by omega)) rfl ?_
   rintro _ h5 hle5 ⟨ra, rc, rfl, hR⟩
   replace hl := hl.mono hle5
   replace hh0 := hh0.mono hle5
   refine Ru 1 rfl ?_
   refine JL.nil ?_
   rw [hve] at hR ⊢; exact J.retR (RetV.one rfl rfl) ⟨_, _, rfl, hR⟩
end Go.Proofs.YtmngjbefnloljaaGreatDoor
set_option linter.unusedSimpArgs false
set_option linter.unusedVariables false
set_option linter.constructorNameAsVariable false
namespace Go.Proofs.YtmngjbefnloljaaGreatDoor
open Go Go.RowKit
set_option maxRecDepth 100000
def cmpI3 (m n : Nat) : Int := if m < n then -1 else if n < m then 1 else 0
theorem nd_lt {m n : Nat} (h : nd m < nd n) : m < n := by
  have h0 : 0 < n := by
    rcases Nat.eq_zero_or_pos n with rfl | h0
    · rw [nd_zero] at h; omega
    · exact h0
  have h1 := (nd_pos n h0).1
  exact Nat.lt_of_lt_of_le (lt_nd m) (Nat.le_trans (Nat.pow_le_pow_right (by decide) (by omega)) h1)
theorem div_low (x j : Nat) : x / 4294967296 ^ j = x / 4294967296 ^ (j + 1) * 4294967296 + x / 4294967296 ^ j % 4294967296 := by
  rw [Nat.pow_succ, ← Nat.div_div_eq_div_mul]
  omega
theorem lt_of_div {x y d : Nat} (h : x / d < y / d) : x < y := by
  rcases Nat.lt_or_ge x y with h1 | h1
  · exact h1
  · have := Nat.div_le_div_right (c := d) h1; omega
section
variable {f : Fr} {S : Sig} {h : Part} {L : List Ent} {ty src dst : TypeId} {x : Operand} {k : IntKind} {p : Int}
theorem RunV.toW (t : Nat) (hc : convI f.P src dst = some .u32) (hx : ev S x = some (.int k p)) (hp : p = (t : Int)) : RunV f S h L (.convert src dst x) ty (.int .u32 ((t % 4294967296 : Nat) : Int)) := by
  have := RunV.conv (f := f) (h := h) (L := L) (ty := ty) hc hx
  rwa [hp, IntKind.wrap_u32, show ((t : Int) % 4294967296) = ((t % 4294967296 : Nat) : Int) from rfl] at this
theorem RunV.toWI (t : Nat) (hc : convI f.P src dst = some .u32) (hx : ev S x = some (.int k p)) (hp : p % 4294967296 = (t : Int)) : RunV f S h L (.convert src dst x) ty (.int .u32 (t : Int)) := by
  have := RunV.conv (f := f) (h := h) (L := L) (ty := ty) hc hx
  rwa [IntKind.wrap_u32, hp] at this
end
theorem natcmp_fn {a b : Option Addr} {ca cb : Nat} {l r : List UInt32} {h : Part} (hl : SlR u32R 1 h a ca l) (hr : SlR u32R 1 h b cb r) : Pure Tryz.prog 47 [.slice a l.length ca, .slice b r.length cb] h (.int .i64 (cmpI3 (vL l) (vL r))) := by
  have hll := hl.big
  have hrl := hr.big
  have t1 := tsz_le (d32 l) l.length
  have t2 := tsz_le (d32 r) r.length
  have e1 := tsz_nd l
  have e2 := tsz_nd r
  refine Fn.intro Tryz.func47 rfl Tryz.ntmps47 rfl (fun e he => ?_)
  refine J.weak [(0, _), (1, _)] ⟨rfl, rfl, trivial⟩ ?_
  refine Sr ?_
  refine Ru 1 rfl ?_
  refine JL.nil ?_
  refine Sr ?_
  refine Ru 1 rfl ?_
  refine JL.callP ca_84 rfl (natsize_fn (by assumption)) rfl ?_
  refine Ru 1 rfl ?_
  refine JL.callP ca_84 rfl (natsize_fn (by assumption)) rfl ?_
  refine Ru 2 rfl ?_
  refine JL.nil ?_
  refine J.seq ?_
  refine Sr ?_
  refine Ru 3 rfl ?_
  refine Nk [14, 6, 5, 4, 0, 1] rfl ?_
  refine Cs rfl (fun hc3 => ?_) fun hc3 => ?_
  ·
   refine J.seq ?_
   refine Sr ?_
   refine Ru 3 rfl ?_
   refine Nk [17, 5, 4, 0, 1] rfl ?_
   refine Cs rfl (fun hc4 => ?_) fun hc4 => ?_
   ·
    have hlt := nd_lt (m := vL l) (n := vL r) (by omega)
    refine Sr ?_
    refine Ru 1 rfl ?_
    refine JL.nil ?_
    exact J.retP (RetV.one rfl rfl) (by unfold cmpI3; rw [if_pos hlt]) rfl
   ·
    have hlt := nd_lt (m := vL r) (n := vL l) (by omega)
    refine J.skip ?_
    refine Sr ?_
    refine Ru 1 rfl ?_
    refine JL.nil ?_
    exact J.retP (RetV.one rfl rfl) (by unfold cmpI3; rw [if_neg (by omega), if_pos hlt]) rfl
  ·
   refine J.skip ?_
   refine J.seq ?_
   refine Sr ?_
   refine Ru 1 rfl ?_
   refine JL.op si_ rfl ?_
   refine Ru 1 rfl ?_
   refine Nk [7, 4, 0, 1] rfl ?_
   refine J.block ?_
   refine J.loop (fun t_ S_ h_ L_ => ∃ (j : Nat), t_ = j + 1 ∧ S_ = [(0, .slice a l.length ca), (1, .slice b r.length cb), (7, .int .i64 ((j : Int) - 1))] ∧ h = h_ ∧ L_ = [] ∧ (j ≤ tsz (d32 l) l.length ∧ vL l / 4294967296 ^ j = vL r / 4294967296 ^ j)) ⟨_, _, ?_, ⟨tsz (d32 l) l.length, rfl, rfl, rfl, rfl, ⟨Nat.le_refl _, by rw [e1, Nat.div_eq_of_lt (lt_nd _), show nd (vL l) = nd (vL r) by omega, Nat.div_eq_of_lt (lt_nd _)]⟩⟩⟩ ?_
   ·
    repeat (first | exact trivial | refine ⟨rfl, ?_⟩ | refine ⟨(by exact some_int (by omega)), ?_⟩)
   rintro _ _ _ _ ⟨j, rfl, rfl, rfl, rfl, hj, he⟩
   refine J.seq ?_
   refine Sr ?_
   refine Ru 2 rfl ?_
   refine JL.nil ?_
   refine Cs rfl (fun hc5 => ?_) fun hc5 => ?_
   ·
    obtain ⟨i, rfl⟩ : ∃ i, j = i + 1 := ⟨j - 1, by omega⟩; have dl := div_low (vL l) i; have dr := div_low (vL r) i; rw [vL_digit] at dl dr; rw [he] at dl; have al := d32_at l i (by omega); have ar := d32_at r i (by omega)
    refine J.skip ?_
    refine J.seq ?_
    refine J.block ?_
    refine J.seq ?_
    refine J.drawn mixed_ (by kernel_rfl) ?_
    refine Rq 2 rfl ?_
    refine JQ.ope (RunE.index (m := i) sl_30 rfl rfl (by omega) hl rfl (by omega)) rfl ?_
    rintro _ ⟨b6, o6, hi6, rfl, hE6⟩
    refine JQ.op (RunV.ld_u32 ag_103 rfl (by assumption)) rfl ?_
    refine Rq 2 rfl ?_
    refine JQ.ope (RunE.index (m := i) sl_30 rfl rfl (by omega) hr rfl (by omega)) rfl ?_
    rintro _ ⟨b8, o8, hi8, rfl, hE8⟩
    refine JQ.op (RunV.ld_u32 ag_103 rfl (by assumption)) rfl ?_
    refine Rq 1 rfl ?_
    refine JQ.nil ?_
    refine Cs rfl (fun hc10 => ?_) fun hc10 => ?_
    ·
     refine J.seq ?_
     refine J.seq ?_
     refine J.drawn mixed_ (by kernel_rfl) ?_
     refine Rq 2 rfl ?_
     refine JQ.ope (RunE.index (m := i) sl_30 rfl rfl (by omega) hl rfl (by omega)) rfl ?_
     rintro _ ⟨b11, o11, hi11, rfl, hE11⟩
     refine JQ.op (RunV.ld_u32 ag_103 rfl (by assumption)) rfl ?_
     refine Rq 2 rfl ?_
     refine JQ.ope (RunE.index (m := i) sl_30 rfl rfl (by omega) hr rfl (by omega)) rfl ?_
     rintro _ ⟨b13, o13, hi13, rfl, hE13⟩
     refine JQ.op (RunV.ld_u32 ag_103 rfl (by assumption)) rfl ?_
     refine Rq 1 rfl ?_
     refine JQ.nil ?_
     refine Cs rfl (fun hc15 => ?_) fun hc15 => ?_
     ·
      have hlt := lt_of_div (x := vL l) (y := vL r) (d := 4294967296 ^ i) (by omega)
      refine Sr ?_
      refine Ru 1 rfl ?_
      refine JL.nil ?_
      exact J.retP (RetV.one rfl rfl) (by unfold cmpI3; rw [if_pos hlt]) rfl
     ·
      have hlt := lt_of_div (x := vL r) (y := vL l) (d := 4294967296 ^ i) (by omega)
      refine J.skip ?_
      refine Sr ?_
      refine Ru 1 rfl ?_
      refine JL.nil ?_
      exact J.retP (RetV.one rfl rfl) (by unfold cmpI3; rw [if_neg (by omega), if_pos hlt]) rfl
    ·
     refine J.skip ?_
     refine Rg ?_
     refine Ru 1 rfl ?_
     refine JL.op si_ rfl ?_
     refine Ru 1 rfl ?_
     refine JL.nil ?_
     refine ⟨_, ?_, _, ?_, ⟨i, rfl, rfl, rfl, rfl, ⟨by omega, by omega⟩⟩⟩
     ·
      omega
     ·
      repeat (first | exact trivial | refine ⟨rfl, ?_⟩ | refine ⟨(by exact some_int (by omega)), ?_⟩)
   ·
    have hj0 : j = 0 := (by omega); rw [hj0, Nat.pow_zero, Nat.div_one, Nat.div_one] at he
    refine J.exit ?_
    refine Kp [] rfl ?_
    refine Sr ?_
    refine Ru 1 rfl ?_
    refine JL.nil ?_
    exact J.retP (RetV.one rfl rfl) (by unfold cmpI3; rw [if_neg (by omega), if_neg (by omega)]) rfl
theorem natOf_fn {n : Nat} {h : Part} (hn : n < 18446744073709551616) : FnR Tryz.prog 87 [.int .u64 n] h (fun v h' => ∃ a c, v = .slice a (toL n).length c ∧ SlR u32R 1 h' a c (toL n)) := by
  refine Fn.intro Tryz.func87 rfl Tryz.ntmps87 rfl (fun e he => ?_)
  refine J.weak [(0, _)] ⟨rfl, trivial⟩ ?_
  have hh0 := Part.le.refl h
  refine Sr ?_
  refine Ru 1 rfl ?_
  refine JL.nil ?_
  refine Sr ?_
  refine Ru 1 rfl ?_
  refine JL.op (RunV.toW n cv_63_103 rfl rfl) rfl ?_
  refine Ru 1 rfl ?_
  refine JL.op (RunV.shr_u64 4294967296 rfl rfl (by decide) (by decide) (by decide)) rfl ?_
  refine JL.op (RunV.toW (n / 4294967296) cv_63_103 rfl rfl) rfl ?_
  refine JL.lit1 ap_30 zr_103 rfl rfl rfl rfl rfl (fun b1 => ?_)
  refine JL.pubB (R := u32R) (sz := 1) (l := digN 2 n) dl_ ((show CellsR u32R 1 _ [.int .u32 ((n % 4294967296 : Nat) : Int), .int .u32 ((n / 4294967296 % 4294967296 : Nat) : Int)] (digN 2 n) from (show ws .u32 (digN 2 n) = [.int .u32 ((n % 4294967296 : Nat) : Int), .int .u32 ((n / 4294967296 % 4294967296 : Nat) : Int)] from by simp [ws, digN]) ▸ CellsR.of_ws32)) (by first | decide | omega | (rw [digN_len]; decide) | (simp; done) | (simp [digN_len]; done)) (fun h2 hle2 hQ => ?_)
  replace hh0 := hh0.mono hle2
  refine JL.callR ca_59 rfl (nattrim_fn' hQ (by rw [digN_len]) (by omega)) rfl ?_
  rintro _ h3 hle3 ⟨ra, rc, rfl, hR⟩
  replace hh0 := hh0.mono hle3
  replace hQ := hQ.mono hle3
  refine Ru 1 rfl ?_
  refine Nk [2] rfl ?_
  have hv : vL (digN 2 n) = n := (by rw [vL_digN]; exact Nat.mod_eq_of_lt (by simp only [Nat.reducePow]; omega)); rw [hv] at hR ⊢; exact J.retR (RetV.one rfl rfl) ⟨_, _, rfl, hR⟩
theorem mul_bound {x y i k : Nat} (hx : x < 4294967296 ^ i) (hy : y < 4294967296 ^ k) : x * y < 4294967296 ^ (i + k) := by
  rw [Nat.pow_add]
  exact Nat.mul_lt_mul'' hx hy
theorem vL_take_lt (l : List UInt32) (i : Nat) : vL (l.take i) < 4294967296 ^ i := by
  refine Nat.lt_of_lt_of_le (vL_lt _) (Nat.pow_le_pow_right (by decide) ?_)
  rw [List.length_take]; omega
theorem natmul_fn {a b : Option Addr} {ca cb : Nat} {l r : List UInt32} {h : Part} (hl : SlR u32R 1 h a ca l) (hr : SlR u32R 1 h b cb r) (hlb : l.length ≤ 100000) (hrb : r.length ≤ 100000) : FnR Tryz.prog 88 [.slice a l.length ca, .slice b r.length cb] h (fun v h' => ∃ a c, v = .slice a (toL (vL l * vL r)).length c ∧ SlR u32R 1 h' a c (toL (vL l * vL r))) := by
  have t1 := tsz_le (d32 l) l.length
  have t2 := tsz_le (d32 r) r.length
  have x1 : l.take (tsz (d32 l) l.length) = toL (vL l) := trim_toL l
  have x2 : r.take (tsz (d32 r) r.length) = toL (vL r) := trim_toL r
  have v1 : vL (toL (vL l)) = vL l := vL_toL _
  have v2 : vL (toL (vL r)) = vL r := vL_toL _
  have n1 : (toL (vL l)).length ≤ 100000 := by rw [toL_len, ← tsz_nd]; omega
  have n2 : (toL (vL r)).length ≤ 100000 := by rw [toL_len, ← tsz_nd]; omega
  refine Fn.intro Tryz.func88 rfl Tryz.ntmps88 rfl (fun e he => ?_)
  refine J.weak [(0, _), (1, _)] ⟨rfl, rfl, trivial⟩ ?_
  have hh0 := Part.le.refl h
  refine Sr ?_
  refine Ru 1 rfl ?_
  refine JL.nil ?_
  refine J.seq ?_
  refine J.drawn mixed_ (by kernel_rfl) ?_
  refine Rq 2 rfl ?_
  refine JQ.callP ca_84 rfl (natsize_fn (by assumption)) rfl ?_
  refine JQ.ope (RunE.cut_h sl_30 (m := tsz (d32 l) l.length) rfl rfl rfl hl rfl (by omega)) rfl ?_
  rintro _ ⟨a8, c8, rfl, hA⟩
  rw [x1] at hA ⊢; generalize toL (vL l) = A at *
  refine Rq 2 rfl ?_
  refine JQ.callP ca_84 rfl (natsize_fn (by assumption)) rfl ?_
  refine JQ.ope (RunE.cut_h sl_30 (m := tsz (d32 r) r.length) rfl rfl rfl hr rfl (by omega)) rfl ?_
  rintro _ ⟨a9, c9, rfl, hB⟩
  rw [x2] at hB ⊢; generalize toL (vL r) = B at *; rw [← v1, ← v2]
  refine Rq 2 rfl ?_
  refine Nq [1, 0, 4] rfl ?_
  refine Sr ?_
  refine Ru 4 rfl ?_
  refine JL.op ai_ rfl ?_
  refine JL.make1 mk_30 rfl rfl (m := A.length + B.length) (by omega) (by omega) (by omega) rfl rfl (fun b1 => ?_); rw [ws_zero]
  refine Ru 1 rfl ?_
  refine Nk [5, 1, 0, 4] rfl ?_
  refine J.seq ?_
  refine Sr ?_
  refine Ru 3 rfl ?_
  refine JL.nil ?_
  refine J.block ?_
  refine J.loop (fun t_ S_ h_ L_ => ∃ (i : Nat) (out : List UInt32), t_ = A.length - i ∧ S_ = [(1, .slice a9 B.length c9), (5, .slice (some ⟨b1, 0, none⟩) (A.length + B.length) (A.length + B.length)), (25, .slice a8 A.length c8), (26, .int .i64 A.length), (27, .int .i64 i)] ∧ h = h_ ∧ L_ = [.row (some ⟨b1, 0, none⟩) (A.length + B.length) 103 1 (A.length + B.length) (ws .u32 out)] ∧ (i ≤ A.length ∧ out.length = A.length + B.length ∧ vL out = vL (A.take i) * vL B)) ⟨_, _, ?_, ⟨0, _, rfl, rfl, rfl, rfl, ⟨by omega, digN_len _ _, by rw [vL_digN]; simp [vL]⟩⟩⟩ ?_
  ·
   repeat (first | exact trivial | refine ⟨rfl, ?_⟩)
  rintro _ _ _ _ ⟨i, out, rfl, rfl, rfl, rfl, hi, hol, hv⟩
  refine Sr ?_
  refine Ru 1 rfl ?_
  refine JL.nil ?_
  refine J.seq ?_
  refine Cs rfl (fun hc6 => ?_) fun hc6 => ?_
  ·
   have hi' : i < A.length := (by omega); have hz := vL_zero_above (l := out) (m := i + B.length) (by rw [hv]; exact mul_bound (vL_take_lt A i) (vL_lt B)) (i + B.length) (Nat.le_refl _); have hai := d32_lt A i
   refine J.skip ?_
   refine J.seq ?_
   refine J.block ?_
   refine Sr ?_
   refine Ru 1 rfl ?_
   refine JL.ope (RunE.index sl_30 rfl rfl (by first | with_reducible rfl | exact (Int.toNat_of_nonneg (by omega)).symm) (by assumption) rfl (by omega)) rfl ?_
   rintro _ ⟨b7, o7, hi7, rfl, hE7⟩
   refine JL.op (RunV.ld_u32 ag_103 rfl (by assumption)) rfl ?_
   rw [d32_at]
   refine Ru 2 rfl ?_
   refine JL.nil ?_
   refine Sr ?_
   refine Ru 1 rfl ?_
   refine JL.nil ?_
   refine J.seq ?_
   refine Sr ?_
   refine Ru 3 rfl ?_
   refine JL.nil ?_
   refine J.block ?_
   refine J.loop (fun t_ S_ h_ L_ => ∃ (k c : Nat) (o2 : List UInt32), t_ = B.length - k ∧ S_ = [(1, .slice a9 B.length c9), (5, .slice (some ⟨b1, 0, none⟩) (A.length + B.length) (A.length + B.length)), (6, .int .i64 i), (7, .int .u32 (d32 A i : Nat)), (8, .int .u64 c), (25, .slice a8 A.length c8), (26, .int .i64 A.length), (27, .int .i64 i), (32, .slice a9 B.length c9), (33, .int .i64 B.length), (34, .int .i64 k)] ∧ h = h_ ∧ L_ = [.row (some ⟨b1, 0, none⟩) (A.length + B.length) 103 1 (A.length + B.length) (ws .u32 o2)] ∧ (k ≤ B.length ∧ o2.length = A.length + B.length ∧ c < 4294967296 ∧ d32 o2 (i + B.length) = 0 ∧ vL o2 + c * 4294967296 ^ (i + k) = vL out + d32 A i * vL (B.take k) * 4294967296 ^ i)) ⟨_, _, ?_, ⟨0, 0, out, rfl, rfl, rfl, rfl, ⟨by omega, hol, by omega, hz, by simp [vL]⟩⟩⟩ ?_
   ·
    repeat (first | exact trivial | refine ⟨rfl, ?_⟩ | refine ⟨(by exact some_int (by omega)), ?_⟩)
   rintro _ _ _ _ ⟨k, c, o2, rfl, rfl, rfl, rfl, hk, ho2, hc, hz2, hv2⟩
   refine Sr ?_
   refine Ru 1 rfl ?_
   refine JL.nil ?_
   refine J.seq ?_
   refine Cs rfl (fun hc9 => ?_) fun hc9 => ?_
   ·
    have hk' : k < B.length := (by omega); have hbk := d32_lt B k; have hdo := d32_lt o2 (i + k); have hcl := carry_lt hc hai hbk hdo; have hst := mul_step (b := B) hk' (by omega) hv2
    refine J.skip ?_
    refine J.seq ?_
    refine J.block ?_
    refine Sr ?_
    refine Ru 1 rfl ?_
    refine JL.ope (RunE.index sl_30 rfl rfl (by first | with_reducible rfl | exact (Int.toNat_of_nonneg (by omega)).symm) (by assumption) rfl (by omega)) rfl ?_
    rintro _ ⟨b10, o10, hi10, rfl, hE10⟩
    refine JL.op (RunV.ld_u32 ag_103 rfl (by assumption)) rfl ?_
    rw [d32_at]
    refine Ru 2 rfl ?_
    refine JL.nil ?_
    refine Sr ?_
    refine Ru 2 rfl ?_
    refine JL.op (by first | exact RunV.conv_u64 cv_103_63 rfl (by omega) (by omega) | exact RunV.convw_u64 cv_103_63 rfl | exact RunV.conv cv_103_63 rfl) rfl ?_
    refine Ru 1 rfl ?_
    refine JL.op (by first | exact RunV.conv_u64 cv_103_63 rfl (by omega) (by omega) | exact RunV.convw_u64 cv_103_63 rfl | exact RunV.conv cv_103_63 rfl) rfl ?_
    refine JL.op (RunV.mul_u64 rfl rfl (by rw [← Int.natCast_mul]; omega) (by rw [← Int.natCast_mul]; omega)) rfl ?_
    refine Ru 3 rfl ?_
    refine JL.op ai_ rfl ?_
    refine JL.op (RunV.index_at sl_30 (m := i + k) rfl rfl (by omega) (by omega)) rfl ?_
    refine JL.op (RunV.wload ag_103 rfl mm_ (by omega)) rfl ?_
    refine JL.op (RunV.conv_u64 cv_103_63 rfl (by omega) (by omega)) rfl ?_
    refine JL.op (RunV.add_u64 rfl rfl (by rw [← Int.natCast_mul]; omega) (by rw [← Int.natCast_mul]; omega)) rfl ?_
    refine JL.op (RunV.add_u64 rfl rfl (by rw [← Int.natCast_mul]; omega) (by rw [← Int.natCast_mul]; omega)) rfl ?_
    rw [show (c : Int) + ((d32 A i : Int) * (d32 B k : Int) + (d32 o2 (i + k) : Int)) = ((c + d32 A i * d32 B k + d32 o2 (i + k) : Nat) : Int) from by rw [Int.natCast_add, Int.natCast_add, Int.natCast_mul, Int.add_assoc]]
    refine Ru 1 rfl ?_
    refine JL.nil ?_
    refine Sr ?_
    refine Ru 3 rfl ?_
    refine JL.op ai_ rfl ?_
    refine Ru 1 rfl ?_
    refine JL.op (RunV.toW (c + d32 A i * d32 B k + d32 o2 (i + k)) cv_63_103 rfl rfl) rfl ?_
    refine JL.op (RunV.index_at sl_30 (m := i + k) rfl rfl (by omega) (by omega)) rfl ?_
    refine JL.storeW (c + d32 A i * d32 B k + d32 o2 (i + k)) ag_103 rfl rfl rfl dl_ (by omega) ?_
    refine JL.nil ?_
    refine Rg ?_
    refine Ru 1 rfl ?_
    refine JL.op (RunV.shr_u64 4294967296 rfl rfl (by decide) (by decide) (by decide)) rfl ?_
    refine Ru 1 rfl ?_
    refine JL.nil ?_
    refine Rg ?_
    refine JL.op ai_ rfl ?_
    refine Ru 1 rfl ?_
    refine JL.nil ?_
    refine ⟨_, ?_, _, ?_, ⟨k + 1, (c + d32 A i * d32 B k + d32 o2 (i + k)) / 4294967296, _, rfl, rfl, rfl, rfl, ⟨by omega, by rw [List.length_set]; exact ho2, by omega, by rw [d32_set _ _ _ _ (by omega), if_neg (by omega)]; exact hz2, hst⟩⟩⟩
    ·
     omega
    ·
     repeat (first | exact trivial | refine ⟨rfl, ?_⟩ | refine ⟨(by exact some_int (by omega)), ?_⟩)
   ·
    have hke : k = B.length := (by omega); subst hke; have hrow := mul_row hi' (by omega) hz2 hc hv hv2
    refine J.exit ?_
    refine Rg ?_
    refine Ru 4 rfl ?_
    refine JL.op ai_ rfl ?_
    refine Ru 1 rfl ?_
    refine JL.op (RunV.toW c cv_63_103 rfl rfl) rfl ?_
    refine JL.op (RunV.index_at sl_30 (m := i + B.length) rfl rfl (by omega) (by omega)) rfl ?_
    refine JL.storeW c ag_103 rfl rfl rfl dl_ (by omega) ?_
    refine JL.nil ?_
    refine Rg ?_
    refine JL.op ai_ rfl ?_
    refine Ru 1 rfl ?_
    refine JL.nil ?_
    refine ⟨_, ?_, _, ?_, ⟨i + 1, _, rfl, rfl, rfl, rfl, ⟨by omega, by rw [List.length_set]; exact ho2, hrow⟩⟩⟩
    ·
     omega
    ·
     repeat (first | exact trivial | refine ⟨rfl, ?_⟩)
  ·
   have hie : i = A.length := (by omega); rw [hie, List.take_length] at hv
   refine J.exit ?_
   refine Kp [5] rfl ?_
   refine Sr ?_
   refine Ru 1 rfl ?_
   refine JL.pub32 dl_ hol.symm (by omega) (fun h9 hle9 hP9 => ?_); replace hh0 := hh0.mono hle9; replace hl := hl.mono hle9; replace hr := hr.mono hle9; replace hA := hA.mono hle9; replace hB := hB.mono hle9
   refine JL.callR ca_59 rfl (nattrim_fn' hP9 hol.symm (by omega)) rfl ?_
   rintro _ h14 hle14 ⟨ra, rc, rfl, hR⟩
   replace hl := hl.mono hle14
   replace hr := hr.mono hle14
   replace hh0 := hh0.mono hle14
   replace hA := hA.mono hle14
   replace hB := hB.mono hle14
   refine Ru 1 rfl ?_
   refine JL.nil ?_
   rw [hv] at hR ⊢; exact J.retR (RetV.one rfl rfl) ⟨_, _, rfl, hR⟩
end Go.Proofs.YtmngjbefnloljaaGreatDoor
set_option linter.unusedSimpArgs false
set_option linter.unusedVariables false
set_option linter.constructorNameAsVariable false
namespace Go.Proofs.YtmngjbefnloljaaGreatDoor
open Go Go.RowKit
set_option maxRecDepth 100000
theorem cv_103_2 : convI Tryz.prog 103 2 = some .i64 := by kernel_rfl
theorem cv_2_103 : convI Tryz.prog 2 103 = some .u32 := by kernel_rfl
theorem cv_63_2 : convI Tryz.prog 63 2 = some .i64 := by kernel_rfl
theorem jx_at {l : Nat} {K : Post} {x : Nat → Post} {S : Sig} {h : Part} {L : List Ent} (k : K S h L) : jx l K x (l + 1000000) S h L := by
  unfold jx
  have hb : Nat.beq (l + 1000000) (l + 1000000) = true := Nat.beq_refl _
  rw [hb]; exact k
theorem g_dec {Q gg v1 v2 rr top u2 S T : Nat} (hS : S = v1 * 4294967296 + v2) (hT : T = top * 4294967296 + u2) (h1 : gg * v1 + rr = top) (hQ : Q * S ≤ T) (hQB : Q < 4294967296) (hc : 4294967296 ≤ gg ∨ rr * 4294967296 + u2 < gg * v2) : Q + 1 ≤ gg := by
  rcases hc with hc | hc
  · omega
  · have h2 : gg * S = gg * v1 * 4294967296 + gg * v2 := by rw [hS, Nat.mul_add, Nat.mul_assoc]
    have h3 : T < gg * S := by
      rw [h2, hT, ← h1, Nat.add_mul, Nat.add_assoc]
      exact Nat.add_lt_add_left hc _
    have h4 : Q * S < gg * S := Nat.lt_of_le_of_lt hQ h3
    have h5 : Q < gg := Nat.lt_of_mul_lt_mul_right h4
    omega
theorem g_init {Q v1 v2 top u2 S T : Nat} (hS : S = v1 * 4294967296 + v2) (hT : T = top * 4294967296 + u2) (hQ : Q * S ≤ T) (hu : u2 < 4294967296) : Q * v1 ≤ top := by
  have h2 : Q * S = Q * v1 * 4294967296 + Q * v2 := by rw [hS, Nat.mul_add, Nat.mul_assoc]
  omega
theorem g_fin1 {gg v1 v2 rr top u2 S T : Nat} (hS : S = v1 * 4294967296 + v2) (hT : T = top * 4294967296 + u2) (h1 : gg * v1 + rr = top) (hc : ¬ (4294967296 ≤ gg ∨ rr * 4294967296 + u2 < gg * v2)) : gg < 4294967296 ∧ gg * S ≤ T := by
  have h2 : gg * S = gg * v1 * 4294967296 + gg * v2 := by rw [hS, Nat.mul_add, Nat.mul_assoc]
  refine ⟨by omega, ?_⟩
  rw [h2, hT, ← h1, Nat.add_mul]; omega
theorem g_fin2 {gg v1 v2 rr top u2 S T : Nat} (hS : S = v1 * 4294967296 + v2) (hT : T = top * 4294967296 + u2) (h1 : gg * v1 + rr = top) (hv2 : v2 < 4294967296) (hr : 4294967296 ≤ rr) (ht : top < (v1 + 1) * 4294967296) : gg < 4294967296 ∧ gg * S ≤ T := by
  have h2 : gg * S = gg * v1 * 4294967296 + gg * v2 := by rw [hS, Nat.mul_add, Nat.mul_assoc]
  have hg : gg < 4294967296 := by
    rcases Nat.lt_or_ge gg 4294967296 with h | h
    · exact h
    · have := Nat.mul_le_mul_right v1 h; omega
  refine ⟨hg, ?_⟩
  have h3 : gg * v2 ≤ 4294967295 * 4294967295 := Nat.mul_le_mul (by omega) (by omega)
  rw [h2, hT, ← h1, Nat.add_mul]; omega
theorem top_bound {w V k q : Nat} (hw : w < V * 4294967296 ^ (k + 1)) : w / 4294967296 ^ (k + (q + 1)) < (V / 4294967296 ^ (q + 1) + 1) * 4294967296 := by
  have hB : 0 < 4294967296 ^ (q + 1) := Nat.pow_pos (by decide)
  have h2 : V ≤ (V / 4294967296 ^ (q + 1) + 1) * 4294967296 ^ (q + 1) := by
    have := Nat.lt_div_mul_add hB (a := V)
    rw [Nat.add_mul]; omega
  refine Nat.div_lt_of_lt_mul (Nat.lt_of_lt_of_le hw (Nat.le_trans (Nat.mul_le_mul_right _ h2) (Nat.le_of_eq ?_)))
  rw [Nat.pow_add 4294967296 k 1, Nat.pow_add 4294967296 k (q + 1)]
  grind
theorem dq_lt {w V k : Nat} (hw : w < V * 4294967296 ^ (k + 1)) : w / (V * 4294967296 ^ k) < 4294967296 := by
  refine Nat.div_lt_of_lt_mul (Nat.lt_of_lt_of_le hw (Nat.le_of_eq ?_))
  rw [Nat.pow_succ]; grind
section
variable {f : Fr} {S : Sig} {h : Part} {L : List Ent} {ty T : TypeId} {xo lo hi : Operand}
theorem RunV.window {e g ln c k m : Nat} {k1 k2 : IntKind} {i j : Int} (hT : slT f.P T = some (e, 1)) (hx : ev S xo = some (.slice (some ⟨g, 0, none⟩) ln c)) (hl : ev S lo = some (.int k1 i)) (hh : ev S hi = some (.int k2 j)) (hi' : i = (k : Int)) (hj : j = (m : Int)) (h1 : k ≤ m) (h2 : m ≤ c) (h3 : k < c) :
    RunV f S h L (.slice T xo (some lo) (some hi) none) ty (.slice (some ⟨g, k, none⟩) (m - k) (c - k)) := fun ac w s _ _ _ _ => by
  subst hi' hj
  obtain ⟨hu, inf, hi', hs⟩ := slT_spec hT
  have e1 : (k : Int) ≤ m := by omega
  have e2 : (m : Int) ≤ c := by omega
  have e3 : ¬ (c = k) := by omega
  simp [execOp, s.eval hx, s.eval hl, s.eval hh, Instr.sliceAt, Instr.slice, run_underlying hu, Instr.sliceBounds, Instr.sliceBound, asIntOf, sizeOf, typeInfo, hi', hs, e1, e2, h1, h2, e3, Addr.add_lit]
end
set_option maxHeartbeats 2000000 in
theorem natstep_fn {g k q cw cr N w : Nat} {av : Option Addr} {cv : Nat} {l : List UInt32} {h : Part} (hl : SlR u32R 1 h av cv l) (hn : l.length = q + 2) (hV : 4294967296 ^ (q + 1) ≤ vL l) (hw : w < vL l * 4294967296 ^ (k + 1)) (hk : k + (q + 2) < N) (hN : N ≤ 1000000) :
    Fn Tryz.prog 123 [.slice (some ⟨g, k, none⟩) (q + 3) cw, .slice av l.length cv] h [.row (some ⟨g, 0, none⟩) cr 103 1 N (ws .u32 (digN N w))]
      (Rets fun v _ Lo => v = .int .u32 ((w / (vL l * 4294967296 ^ k) : Nat) : Int) ∧ Lo = [.row (some ⟨g, 0, none⟩) cr 103 1 N (ws .u32 (digN N (w % (vL l * 4294967296 ^ k))))]) := by
  have hVlt : vL l < 4294967296 ^ (q + 2) := hn ▸ vL_lt l
  have hV0 : 0 < vL l := Nat.lt_of_lt_of_le (Nat.pow_pos (by decide)) hV
  have hwB : w < 4294967296 ^ (k + (q + 2) + 1) := by
    refine Nat.lt_of_lt_of_le hw ?_
    rw [show k + (q + 2) + 1 = (q + 2) + (k + 1) by omega, Nat.pow_add 4294967296 (q + 2) (k + 1)]
    exact Nat.mul_le_mul_right _ (Nat.le_of_lt hVlt)
  have hdig : ∀ j, j < N → d32 (digN N w) j = w / 4294967296 ^ j % 4294967296 := fun j hj => digN_at N w j hj
  have hlow := div_low w (k + q)
  have hlow1 := div_low w (k + (q + 1))
  have hS := div_low (vL l) q
  rw [vL_digit] at hS
  rw [← hdig (k + q) (by omega)] at hlow
  rw [show k + (q + 1) + 1 = k + (q + 2) by omega, ← hdig (k + (q + 1)) (by omega)] at hlow1
  rw [show k + q + 1 = k + (q + 1) by omega] at hlow
  have htopd : d32 (digN N w) (k + (q + 2)) = w / 4294967296 ^ (k + (q + 2)) := by
    rw [hdig _ (by omega)]
    exact Nat.mod_eq_of_lt (Nat.div_lt_of_lt_mul (by rw [Nat.pow_succ] at hwB; exact hwB))
  have hv1 : d32 l (q + 1) = vL l / 4294967296 ^ (q + 1) := by
    rw [← vL_digit]
    exact Nat.mod_eq_of_lt (Nat.div_lt_of_lt_mul (by rw [Nat.pow_succ 4294967296 (q + 1)] at hVlt; exact hVlt))
  have hv10 : 0 < d32 l (q + 1) := by rw [hv1]; exact Nat.div_pos hV (Nat.pow_pos (by decide))
  have hgl := guess_lo w (vL l) k q hV0
  have htb := top_bound (q := q) hw
  have hqB := dq_lt hw
  have b1 := d32_lt l (q + 1); have b2 := d32_lt l q; have b3 := d32_lt (digN N w) (k + (q + 2)); have b4 := d32_lt (digN N w) (k + (q + 1)); have b5 := d32_lt (digN N w) (k + q)
  have hzD : ∀ j, k + (q + 2) < j → d32 (digN N w) j = 0 := fun j hj => vL_zero_above (m := k + (q + 2) + 1) (by rw [vL_digN]; exact Nat.lt_of_le_of_lt (Nat.mod_le _ _) hwB) j (by omega)
  have hvw : vL (digN N w) = w := by rw [vL_digN]; exact Nat.mod_eq_of_lt (Nat.lt_of_lt_of_le hwB (Nat.pow_le_pow_right (by decide) (by omega)))
  have hdl : (digN N w).length = N := digN_len _ _
  have hD0 : 0 < vL l * 4294967296 ^ k := Nat.mul_pos hV0 (Nat.pow_pos (by decide))
  have ea1 := d32_at l (q + 1) (by omega)
  have ea0 := d32_at l q (by omega)
  rw [← hv1] at hS htb
  generalize hQ : w / (vL l * 4294967296 ^ k) = Q at *
  obtain ⟨top, htop⟩ : ∃ top, top = w / 4294967296 ^ (k + (q + 1)) := ⟨_, rfl⟩
  rw [← htop] at hlow hlow1 htb
  rw [htopd] at b3
  refine Fn.intro Tryz.func123 rfl Tryz.ntmps123 rfl (fun e he => ?_)
  refine J.weak [(0, _), (1, _)] ⟨rfl, rfl, trivial⟩ ?_
  refine Sr ?_
  refine Ru 1 rfl ?_
  refine JL.nil ?_
  refine J.scope 0 (fun t_ S_ h_ L_ => ∃ (gg rr : Nat), t_ = gg + 1 ∧ S_ = [(0, .slice (some ⟨g, k, none⟩) (q + 3) cw), (1, .slice av l.length cv), (5, .int .i64 l.length), (7, .int .u64 gg), (8, .int .u64 rr)] ∧ h = h_ ∧ L_ = [.row (some ⟨g, 0, none⟩) cr 103 1 N (ws .u32 (digN N w))] ∧ (gg * d32 l (q + 1) + rr = top ∧ rr < 4294967296 ∧ Q ≤ gg ∧ gg ≤ top)) rfl (fun _ _ _ _ hh => hh) ?_ (fun again => ?_)
  ·
   rintro _ _ _ _ ⟨gg, rr, rfl, rfl, rfl, rfl, hgr, hrr, hQg, hgt⟩
   have hgv : gg < 4294967296 → gg * d32 l q ≤ 18446744065119617025 := (fun hh => Nat.mul_le_mul (show gg ≤ 4294967295 by omega) (show d32 l q ≤ 4294967295 by omega)); have ea0 := d32_at l q (by omega); have ea1 := d32_at l (q + 1) (by omega)
   refine J.seq ?_
   refine J.seq ?_
   refine J.meet [(69, .bool (decide (4294967296 ≤ gg ∨ rr * 4294967296 + d32 (digN N w) (k + q) < gg * d32 l q)))] [(0, _), (1, _), (5, _), (7, _), (8, _)] ⟨rfl, rfl, rfl, rfl, rfl, trivial⟩ ?_ ?_
   ·
    refine J.drawn mixed_ (by kernel_rfl) ?_
    refine Rq 1 rfl ?_
    refine JQ.op (RunV.shr_u64 4294967296 rfl rfl (by decide) (by decide) (by decide)) rfl ?_
    refine Rq 2 rfl ?_
    refine Bq 50 rfl (fun hc1 => ?_) fun hc1 => ?_
    ·
     refine Rq 19 rfl ?_
     refine JQ.nil ?_
     refine ⟨rfl, rfl, ?_⟩
     repeat (first | exact trivial | refine ⟨rfl, ?_⟩ | refine ⟨(by exact some_bool (by first | exact decide_eq_decide.2 (by omega) | exact (decide_eq_false (by omega)).symm | exact (decide_eq_true (by omega)).symm)), ?_⟩)
    ·
     refine Rq 3 rfl ?_
     refine JQ.opg rfl rfl  si_ rfl ?_
     refine JQ.opeg rfl rfl  (RunE.index (m := q) sl_30 rfl rfl (by omega) hl rfl (by omega)) rfl ?_
     rintro _ ⟨b2, o2, hi2, rfl, hE2⟩
     refine JQ.opg rfl rfl  (RunV.ld_u32 ag_103 rfl (by assumption)) rfl ?_
     rw [ea0]
     refine JQ.opg rfl rfl  (by first | exact RunV.conv_u64 cv_103_63 rfl (by omega) (by omega) | exact RunV.convw_u64 cv_103_63 rfl | exact RunV.conv cv_103_63 rfl) rfl ?_
     refine JQ.opg rfl rfl  (RunV.mul_u64 rfl rfl (by rw [← Int.natCast_mul]; omega) (by rw [← Int.natCast_mul]; have := hgv (by omega); omega)) rfl ?_
     rw [← Int.natCast_mul]
     refine Rq 1 rfl ?_
     refine JQ.opg rfl rfl  (RunV.shl_u64 4294967296 rfl rfl (by decide) (by decide) (by decide) (by omega) (by omega)) rfl ?_
     refine Rq 2 rfl ?_
     refine JQ.opg rfl rfl  si_ rfl ?_
     refine JQ.opg rfl rfl  (RunV.index_off sl_30 (m := q) rfl rfl (by omega) (by omega)) rfl ?_
     refine JQ.opg rfl rfl  (RunV.wload ag_103 rfl mm_ (by omega)) rfl ?_
     refine JQ.opg rfl rfl  (by first | exact RunV.conv_u64 cv_103_63 rfl (by omega) (by omega) | exact RunV.convw_u64 cv_103_63 rfl | exact RunV.conv cv_103_63 rfl) rfl ?_
     refine JQ.opg rfl rfl  (RunV.join_u64 32 4294967296 rfl rfl (by decide) (by omega) (by omega) (by omega) (by omega) (by omega) (by omega)) rfl ?_
     refine Rq 2 rfl ?_
     refine JQ.nil ?_
     refine ⟨rfl, rfl, ?_⟩
     repeat (first | exact trivial | refine ⟨rfl, ?_⟩ | refine ⟨(by exact some_bool (by first | exact decide_eq_decide.2 (by omega) | exact (decide_eq_false (by omega)).symm | exact (decide_eq_true (by omega)).symm)), ?_⟩)
   ·
    refine Cs rfl (fun hc4 => ?_) fun hc4 => ?_
    ·
     have hdec := g_dec hS hlow hgr hgl hqB hc4; have hgm : (gg - 1) * d32 l (q + 1) + d32 l (q + 1) = gg * d32 l (q + 1) := (by rw [← Nat.succ_mul]; congr 1; omega)
     refine Sr ?_
     refine Ru 1 rfl ?_
     refine JL.op (by first | exact RunV.sub_u64 rfl rfl (by omega) (by omega) | exact RunV.sub rfl rfl) rfl ?_
     rw [show (gg : Int) - 1 = ((gg - 1 : Nat) : Int) by omega]
     refine Ru 1 rfl ?_
     refine JL.nil ?_
     refine Sr ?_
     refine Ru 3 rfl ?_
     refine JL.op si_ rfl ?_
     refine JL.ope (RunE.index (m := q + 1) sl_30 rfl rfl (by omega) hl rfl (by omega)) rfl ?_
     rintro _ ⟨b5, o5, hi5, rfl, hE5⟩
     refine JL.op (RunV.ld_u32 ag_103 rfl (by assumption)) rfl ?_
     rw [ea1]
     refine JL.op (by first | exact RunV.conv_u64 cv_103_63 rfl (by omega) (by omega) | exact RunV.convw_u64 cv_103_63 rfl | exact RunV.conv cv_103_63 rfl) rfl ?_
     refine JL.op (by first | exact RunV.add_u64 rfl rfl (by omega) (by omega) | exact RunV.add rfl rfl) rfl ?_
     rw [← Int.natCast_add]
     refine Ru 1 rfl ?_
     refine JL.nil ?_
     refine Sr ?_
     refine Ru 1 rfl ?_
     refine JL.op (RunV.shr_u64 4294967296 rfl rfl (by decide) (by decide) (by decide)) rfl ?_
     refine Ru 1 rfl ?_
     refine JL.nil ?_
     refine Cs rfl (fun hc7 => ?_) fun hc7 => ?_
     ·
      refine J.goto (jx_at (l := 0) (Again.mk _ ?_ _ ?_ ⟨gg - 1, rr + d32 l (q + 1), rfl, rfl, rfl, rfl, ⟨by omega, by omega, by omega, by omega⟩⟩))
      ·
       omega
      ·
       repeat (first | exact trivial | refine ⟨rfl, ?_⟩)
     ·
      obtain ⟨hGB, hGT⟩ := g_fin2 (gg := gg - 1) (rr := rr + d32 l (q + 1)) hS hlow (by omega) b2 (by omega) htb; obtain ⟨G, hG⟩ : ∃ G, G = gg - 1 := ⟨_, rfl⟩; rw [← hG] at hGB hGT ⊢; have hGQ : Q ≤ G := (by omega); have hG1 := guess_hi w (vL l) k q G hGB hGT hV; rw [hQ] at hG1
      refine J.skip ?_
      refine Sr ?_
      refine Ru 1 rfl ?_
      refine JL.nil ?_
      refine Sr ?_
      refine Ru 1 rfl ?_
      refine JL.nil ?_
      refine J.seq ?_
      refine Sr ?_
      refine Ru 2 rfl ?_
      refine JL.nil ?_
      refine J.block ?_
      refine J.loop (fun t_ S_ h_ L_ => ∃ (i c b : Nat) (U : List UInt32), t_ = q + 2 - i ∧ S_ = [(0, .slice (some ⟨g, k, none⟩) (q + 3) cw), (1, .slice av l.length cv), (5, .int .i64 l.length), (7, .int .u64 G), (9, .int .i64 b), (10, .int .u64 c), (83, .int .i64 l.length), (84, .int .i64 i)] ∧ h = h_ ∧ L_ = [.row (some ⟨g, 0, none⟩) cr 103 1 N (ws .u32 U)] ∧ (i ≤ q + 2 ∧ U.length = N ∧ c < 4294967296 ∧ b ≤ 1 ∧ (∀ j, k + i ≤ j → d32 U j = d32 (digN N w) j) ∧ vL U + G * vL (l.take i) * 4294967296 ^ k = w + (c + b) * 4294967296 ^ (k + i))) ⟨_, _, ?_, ⟨0, 0, 0, digN N w, rfl, rfl, rfl, rfl, ⟨by omega, hdl, by omega, by omega, fun _ _ => rfl, by rw [hvw]; simp [vL]⟩⟩⟩ ?_
      ·
       repeat (first | exact trivial | refine ⟨rfl, ?_⟩ | refine ⟨(by exact some_int (by omega)), ?_⟩)
      rintro _ _ _ _ ⟨i, c, b, U, rfl, rfl, rfl, rfl, hi, hUl, hc, hb, hUj, hv⟩
      refine Sr ?_
      refine Ru 1 rfl ?_
      refine JL.nil ?_
      refine J.seq ?_
      refine Cs rfl (fun hc8 => ?_) fun hc8 => ?_
      ·
       have hi' : i < q + 2 := (by omega); have bi := d32_lt l i; have bu := d32_lt U (k + i); have hCl := carry_lt hc hGB bi (show 0 < 4294967296 by decide); obtain ⟨C, hC⟩ : ∃ C, C = c + G * d32 l i := ⟨_, rfl⟩; have hC64 : C < 18446744073709551616 := (by omega); have ei := d32_at l i (by omega); obtain ⟨dd, hdd⟩ : ∃ dd : Int, dd = (d32 U (k + i) : Int) - b - ((C % 4294967296 : Nat) : Int) := ⟨_, rfl⟩; have hdr : -4294967296 ≤ dd ∧ dd ≤ 4294967295 := (by omega); obtain ⟨r, hr⟩ : ∃ r : Nat, dd % 4294967296 = (r : Int) := ⟨(dd % 4294967296).toNat, by omega⟩; obtain ⟨ee, hee, he1⟩ : ∃ e : Nat, (e : Int) = -(dd / 4294967296) ∧ e ≤ 1 := ⟨(-(dd / 4294967296)).toNat, by omega, by omega⟩; have hrB : r < 4294967296 := (by omega); have hre : d32 U (k + i) + ee * 4294967296 = b + C % 4294967296 + r := (by omega); rw [hC] at hre; have hst := sub_step (g := G) (by omega) hv hrB hre; rw [← hC] at hst hre
       refine J.skip ?_
       refine J.seq ?_
       refine J.block ?_
       refine Sr ?_
       refine Ru 2 rfl ?_
       refine JL.nil ?_
       refine Sr ?_
       refine Ru 4 rfl ?_
       refine JL.ope (RunE.index sl_30 rfl rfl (by first | with_reducible rfl | exact (Int.toNat_of_nonneg (by omega)).symm) (by assumption) rfl (by omega)) rfl ?_
       rintro _ ⟨b9, o9, hi9, rfl, hE9⟩
       refine JL.op (RunV.ld_u32 ag_103 rfl (by assumption)) rfl ?_
       rw [ei]
       refine JL.op (by first | exact RunV.conv_u64 cv_103_63 rfl (by omega) (by omega) | exact RunV.convw_u64 cv_103_63 rfl | exact RunV.conv cv_103_63 rfl) rfl ?_
       refine JL.op (RunV.mul_u64 rfl rfl (by rw [← Int.natCast_mul]; omega) (by rw [← Int.natCast_mul]; omega)) rfl ?_
       refine JL.op (RunV.add_u64 rfl rfl (by rw [← Int.natCast_mul]; omega) (by rw [← Int.natCast_mul]; omega)) rfl ?_
       rw [show (c : Int) + (G : Int) * (d32 l i : Int) = (C : Int) by rw [hC, Int.natCast_add, Int.natCast_mul]]
       refine Ru 1 rfl ?_
       refine JL.nil ?_
       refine Sr ?_
       refine Ru 2 rfl ?_
       refine JL.op (RunV.index_off sl_30 (m := i) rfl rfl (by omega) (by omega)) rfl ?_
       refine JL.op (RunV.wload ag_103 rfl mm_ (by omega)) rfl ?_
       refine JL.op (by first | exact RunV.conv_i64 cv_103_2 rfl (by omega) (by omega) | exact RunV.convw_i64 cv_103_2 rfl | exact RunV.conv cv_103_2 rfl) rfl ?_
       refine Ru 1 rfl ?_
       refine JL.op si_ rfl ?_
       refine Ru 1 rfl ?_
       refine JL.op (RunV.toW C cv_63_103 rfl rfl) rfl ?_
       refine JL.op (by first | exact RunV.conv_i64 cv_103_2 rfl (by omega) (by omega) | exact RunV.convw_i64 cv_103_2 rfl | exact RunV.conv cv_103_2 rfl) rfl ?_
       refine JL.op si_ rfl ?_
       rw [← hdd]
       refine Ru 1 rfl ?_
       refine JL.nil ?_
       refine Sr ?_
       refine Ru 1 rfl ?_
       refine JL.op (RunV.shr_u64 4294967296 rfl rfl (by decide) (by decide) (by decide)) rfl ?_
       refine Ru 1 rfl ?_
       refine JL.nil ?_
       refine Sr ?_
       refine Ru 3 rfl ?_
       refine JL.op (RunV.toWI r cv_2_103 rfl hr) rfl ?_
       refine JL.op (RunV.index_off sl_30 (m := i) rfl rfl (by omega) (by omega)) rfl ?_
       refine JL.storeW (r) ag_103 rfl rfl (by rw [Nat.mod_eq_of_lt hrB]) dl_ (by omega) ?_
       refine JL.nil ?_
       refine Rg ?_
       refine Ru 1 rfl ?_
       refine JL.op (RunV.shr_i64 4294967296 rfl rfl (by decide) (by decide) (by decide)) rfl ?_
       refine JL.op (RunV.neg rfl) rfl ?_
       rw [show IntKind.i64.wrap (-(dd / 4294967296)) = (ee : Int) from by rw [wrap_i64 _ (by omega) (by omega)]; omega]
       refine Ru 1 rfl ?_
       refine JL.nil ?_
       refine Rg ?_
       refine JL.op ai_ rfl ?_
       refine Ru 1 rfl ?_
       refine JL.nil ?_
       refine ⟨_, ?_, _, ?_, ⟨i + 1, C / 4294967296, ee, U.set (k + i) (UInt32.ofNat r), rfl, rfl, rfl, rfl, ⟨by omega, by rw [List.length_set]; exact hUl, by omega, by omega, fun j hj => by rw [d32_set _ _ _ _ (by omega), if_neg (by omega)]; exact hUj j (by omega), hst⟩⟩⟩
       ·
        omega
       ·
        repeat (first | exact trivial | refine ⟨rfl, ?_⟩ | refine ⟨(by exact some_int (by omega)), ?_⟩)
      ·
       have hie : i = q + 2 := (by omega); subst hie; rw [List.take_of_length_le (by omega), Nat.mul_assoc] at hv; have hun := hUj (k + (q + 2)) (Nat.le_refl _); have bu := d32_lt U (k + (q + 2)); have hUz : ∀ j, k + (q + 2) < j → d32 U j = 0 := (fun j hj => by rw [hUj j (by omega)]; exact hzD j hj); obtain ⟨dd, hdd⟩ : ∃ dd : Int, dd = (d32 U (k + (q + 2)) : Int) - b - c := ⟨_, rfl⟩; have hdr : -4294967296 ≤ dd ∧ dd ≤ 4294967295 := (by omega); obtain ⟨r, hr⟩ : ∃ r : Nat, dd % 4294967296 = (r : Int) := ⟨(dd % 4294967296).toNat, by omega⟩; have hrB : r < 4294967296 := (by omega)
       refine J.exit ?_
       refine Sr ?_
       refine Ru 2 rfl ?_
       refine JL.op (RunV.index_off sl_30 (m := q + 2) rfl rfl (by omega) (by omega)) rfl ?_
       refine JL.op (RunV.wload ag_103 rfl mm_ (by omega)) rfl ?_
       refine JL.op (by first | exact RunV.conv_i64 cv_103_2 rfl (by omega) (by omega) | exact RunV.convw_i64 cv_103_2 rfl | exact RunV.conv cv_103_2 rfl) rfl ?_
       refine Ru 1 rfl ?_
       refine JL.op si_ rfl ?_
       refine Ru 1 rfl ?_
       refine JL.op (by first | exact RunV.conv_i64 cv_63_2 rfl (by omega) (by omega) | exact RunV.conv cv_63_2 rfl) rfl ?_
       refine JL.op si_ rfl ?_
       rw [← hdd]
       refine Ru 1 rfl ?_
       refine JL.nil ?_
       refine Sr ?_
       refine Ru 3 rfl ?_
       refine JL.op (RunV.toWI r cv_2_103 rfl hr) rfl ?_
       refine JL.op (RunV.index_off sl_30 (m := q + 2) rfl rfl (by omega) (by omega)) rfl ?_
       refine JL.storeW (r) ag_103 rfl rfl (by rw [Nat.mod_eq_of_lt hrB]) dl_ (by omega) ?_
       refine JL.nil ?_
       refine J.seq ?_
       refine Sr ?_
       refine Ru 2 rfl ?_
       refine JL.nil ?_
       refine Cs rfl (fun hc13 => ?_) fun hc13 => ?_
       ·
        have hrr2 : r = d32 U (k + (q + 2)) - (c + b) := (by omega); have hok := step_ok1 (D := vL l * 4294967296 ^ k) (n := q + 2) hUl (by omega) hv (by omega) (by rw [hQ]; exact hGQ) hD0; rw [← hrr2, hQ] at hok; rw [hok.1]
        refine Sr ?_
        refine Ru 1 rfl ?_
        refine JL.op (RunV.toW G cv_63_103 rfl rfl) rfl ?_
        refine Ru 1 rfl ?_
        refine JL.nil ?_
        exact J.ret ⟨_, [_], _, (RetV.one rfl rfl), .cons .here .nil, _, rfl, congrArg (Value.int .u32) (by omega), rfl⟩
       ·
        have hrr2 : r = d32 U (k + (q + 2)) + 4294967296 - (c + b) := (by omega); obtain ⟨W0, hW0⟩ : ∃ W0, W0 = U.set (k + (q + 2)) (UInt32.ofNat r) := ⟨_, rfl⟩; have hW0d : d32 W0 (k + (q + 2)) = r := (by rw [hW0, d32_set _ _ _ _ (by omega), if_pos rfl, UInt32.toNat_ofNat']; exact Nat.mod_eq_of_lt hrB); have hW0z : ∀ j, k + (q + 2) < j → d32 W0 j = 0 := (fun j hj => by rw [hW0, d32_set _ _ _ _ (by omega), if_neg (by omega)]; exact hUz j hj); have hW0l : W0.length = N := (by rw [hW0, List.length_set]; exact hUl); rw [← hW0]
        refine J.skip ?_
        refine Sr ?_
        refine Ru 1 rfl ?_
        refine JL.nil ?_
        refine J.seq ?_
        refine Sr ?_
        refine Ru 2 rfl ?_
        refine JL.nil ?_
        refine J.block ?_
        refine J.loop (fun t_ S_ h_ L_ => ∃ (z y : Nat) (W : List UInt32), t_ = q + 2 - z ∧ S_ = [(0, .slice (some ⟨g, k, none⟩) (q + 3) cw), (1, .slice av l.length cv), (5, .int .i64 l.length), (7, .int .u64 G), (14, .int .u64 y), (137, .int .i64 l.length), (138, .int .i64 z)] ∧ h = h_ ∧ L_ = [.row (some ⟨g, 0, none⟩) cr 103 1 N (ws .u32 W)] ∧ (z ≤ q + 2 ∧ W.length = N ∧ y ≤ 1 ∧ (∀ j, k + z ≤ j → d32 W j = d32 W0 j) ∧ vL W + y * 4294967296 ^ (k + z) = vL W0 + vL (l.take z) * 4294967296 ^ k)) ⟨_, _, ?_, ⟨0, 0, W0, rfl, rfl, rfl, rfl, ⟨by omega, hW0l, by omega, fun _ _ => rfl, by simp [vL]⟩⟩⟩ ?_
        ·
         repeat (first | exact trivial | refine ⟨rfl, ?_⟩ | refine ⟨(by exact some_int (by omega)), ?_⟩)
        rintro _ _ _ _ ⟨z, y, W, rfl, rfl, rfl, rfl, hz, hWl, hy, hWj, hvW⟩
        refine Sr ?_
        refine Ru 1 rfl ?_
        refine JL.nil ?_
        refine J.seq ?_
        refine Cs rfl (fun hc14 => ?_) fun hc14 => ?_
        ·
         have hz' : z < q + 2 := (by omega); have bz := d32_lt l z; have bw := d32_lt W (k + z); have ez := d32_at l z (by omega); have hst := add_step (v := l) (by omega) hvW
         refine J.skip ?_
         refine J.seq ?_
         refine J.block ?_
         refine Sr ?_
         refine Ru 2 rfl ?_
         refine JL.nil ?_
         refine J.seq ?_
         refine J.drawn mixed_ (by kernel_rfl) ?_
         refine Rq 3 rfl ?_
         refine JQ.op (RunV.index_off sl_30 (m := z) rfl rfl (by omega) (by omega)) rfl ?_
         refine JQ.op (RunV.wload ag_103 rfl mm_ (by omega)) rfl ?_
         refine JQ.op (by first | exact RunV.conv_u64 cv_103_63 rfl (by omega) (by omega) | exact RunV.convw_u64 cv_103_63 rfl | exact RunV.conv cv_103_63 rfl) rfl ?_
         refine Rq 2 rfl ?_
         refine JQ.ope (RunE.index sl_30 rfl rfl (by first | with_reducible rfl | exact (Int.toNat_of_nonneg (by omega)).symm) (by assumption) rfl (by omega)) rfl ?_
         rintro _ ⟨b15, o15, hi15, rfl, hE15⟩
         refine JQ.op (RunV.ld_u32 ag_103 rfl (by assumption)) rfl ?_
         rw [ez]
         refine JQ.op (by first | exact RunV.conv_u64 cv_103_63 rfl (by omega) (by omega) | exact RunV.convw_u64 cv_103_63 rfl | exact RunV.conv cv_103_63 rfl) rfl ?_
         refine JQ.op (by first | exact RunV.add_u64 rfl rfl (by omega) (by omega) | exact RunV.add rfl rfl) rfl ?_
         refine JQ.op (by first | exact RunV.add_u64 rfl rfl (by omega) (by omega) | exact RunV.add rfl rfl) rfl ?_
         rw [show (y : Int) + ((d32 W (k + z) : Int) + (d32 l z : Int)) = ((y + d32 W (k + z) + d32 l z : Nat) : Int) by omega]
         refine Rq 1 rfl ?_
         refine JQ.nil ?_
         refine Sr ?_
         refine Ru 3 rfl ?_
         refine JL.op (RunV.toW (y + d32 W (k + z) + d32 l z) cv_63_103 rfl rfl) rfl ?_
         refine JL.op (RunV.index_off sl_30 (m := z) rfl rfl (by omega) (by omega)) rfl ?_
         refine JL.storeW (y + d32 W (k + z) + d32 l z) ag_103 rfl rfl (rfl) dl_ (by omega) ?_
         refine JL.nil ?_
         refine Rg ?_
         refine Ru 1 rfl ?_
         refine JL.op (RunV.shr_u64 4294967296 rfl rfl (by decide) (by decide) (by decide)) rfl ?_
         refine Ru 1 rfl ?_
         refine JL.nil ?_
         refine Rg ?_
         refine JL.op ai_ rfl ?_
         refine Ru 1 rfl ?_
         refine JL.nil ?_
         refine ⟨_, ?_, _, ?_, ⟨z + 1, (y + d32 W (k + z) + d32 l z) / 4294967296, _, rfl, rfl, rfl, rfl, ⟨by omega, by rw [List.length_set]; exact hWl, by omega, fun j hj => by rw [d32_set _ _ _ _ (by omega), if_neg (by omega)]; exact hWj j (by omega), hst⟩⟩⟩
         ·
          omega
         ·
          repeat (first | exact trivial | refine ⟨rfl, ?_⟩ | refine ⟨(by exact some_int (by omega)), ?_⟩)
        ·
         have hze : z = q + 2 := (by omega); subst hze; rw [List.take_of_length_le (by omega)] at hvW; have hWd := hWj (k + (q + 2)) (Nat.le_refl _); have hok := step_ok2 (D := vL l * 4294967296 ^ k) (V := vL l) (n := q + 2) hUl hWl (by omega) rfl hVlt hv hUz (by omega) (by omega) (by rw [hQ]; exact hGQ) (by rw [hQ]; exact hG1) hD0 hy (by rw [hvW, hW0, hrr2]) (by rw [hWd, hW0d, ← hrr2, Nat.mod_eq_of_lt hrB]) (fun j hj => by rw [hWj j (by omega)]; exact hW0z j hj); rw [hQ] at hok
         refine J.exit ?_
         refine Sr ?_
         refine Ru 2 rfl ?_
         refine JL.op (RunV.index_off sl_30 (m := q + 2) rfl rfl (by omega) (by omega)) rfl ?_
         refine JL.op (RunV.wload ag_103 rfl mm_ (by omega)) rfl ?_
         refine Ru 1 rfl ?_
         refine JL.op (RunV.toW y cv_63_103 rfl rfl) rfl ?_
         refine JL.op (RunV.add rfl rfl) rfl ?_
         refine JL.op (RunV.index_off sl_30 (m := q + 2) rfl rfl (by omega) (by omega)) rfl ?_
         refine JL.storeW (d32 W (k + (q + 2)) + y) ag_103 rfl rfl (by rw [IntKind.wrap_u32]; omega) dl_ (by omega) ?_
         rw [hok.1]
         refine JL.nil ?_
         refine Sr ?_
         refine Ru 1 rfl ?_
         refine JL.op (by first | exact RunV.sub_u64 rfl rfl (by omega) (by omega) | exact RunV.sub rfl rfl) rfl ?_
         refine JL.op (RunV.toW (G - 1) cv_63_103 rfl (by omega)) rfl ?_
         refine Ru 1 rfl ?_
         refine JL.nil ?_
         exact J.ret ⟨_, [_], _, (RetV.one rfl rfl), .cons .here .nil, _, rfl, congrArg (Value.int .u32) (by omega), rfl⟩
    ·
     obtain ⟨hGB, hGT⟩ := g_fin1 hS hlow hgr hc4; obtain ⟨G, hG⟩ : ∃ G, G = gg := ⟨_, rfl⟩; rw [← hG] at hGB hGT ⊢; have hGQ : Q ≤ G := (by omega); have hG1 := guess_hi w (vL l) k q G hGB hGT hV; rw [hQ] at hG1
     refine J.skip ?_
     refine Sr ?_
     refine Ru 1 rfl ?_
     refine JL.nil ?_
     refine Sr ?_
     refine Ru 1 rfl ?_
     refine JL.nil ?_
     refine J.seq ?_
     refine Sr ?_
     refine Ru 2 rfl ?_
     refine JL.nil ?_
     refine J.block ?_
     refine J.loop (fun t_ S_ h_ L_ => ∃ (i c b : Nat) (U : List UInt32), t_ = q + 2 - i ∧ S_ = [(0, .slice (some ⟨g, k, none⟩) (q + 3) cw), (1, .slice av l.length cv), (5, .int .i64 l.length), (7, .int .u64 G), (9, .int .i64 b), (10, .int .u64 c), (83, .int .i64 l.length), (84, .int .i64 i)] ∧ h = h_ ∧ L_ = [.row (some ⟨g, 0, none⟩) cr 103 1 N (ws .u32 U)] ∧ (i ≤ q + 2 ∧ U.length = N ∧ c < 4294967296 ∧ b ≤ 1 ∧ (∀ j, k + i ≤ j → d32 U j = d32 (digN N w) j) ∧ vL U + G * vL (l.take i) * 4294967296 ^ k = w + (c + b) * 4294967296 ^ (k + i))) ⟨_, _, ?_, ⟨0, 0, 0, digN N w, rfl, rfl, rfl, rfl, ⟨by omega, hdl, by omega, by omega, fun _ _ => rfl, by rw [hvw]; simp [vL]⟩⟩⟩ ?_
     ·
      repeat (first | exact trivial | refine ⟨rfl, ?_⟩ | refine ⟨(by exact some_int (by omega)), ?_⟩)
     rintro _ _ _ _ ⟨i, c, b, U, rfl, rfl, rfl, rfl, hi, hUl, hc, hb, hUj, hv⟩
     refine Sr ?_
     refine Ru 1 rfl ?_
     refine JL.nil ?_
     refine J.seq ?_
     refine Cs rfl (fun hc19 => ?_) fun hc19 => ?_
     ·
      have hi' : i < q + 2 := (by omega); have bi := d32_lt l i; have bu := d32_lt U (k + i); have hCl := carry_lt hc hGB bi (show 0 < 4294967296 by decide); obtain ⟨C, hC⟩ : ∃ C, C = c + G * d32 l i := ⟨_, rfl⟩; have hC64 : C < 18446744073709551616 := (by omega); have ei := d32_at l i (by omega); obtain ⟨dd, hdd⟩ : ∃ dd : Int, dd = (d32 U (k + i) : Int) - b - ((C % 4294967296 : Nat) : Int) := ⟨_, rfl⟩; have hdr : -4294967296 ≤ dd ∧ dd ≤ 4294967295 := (by omega); obtain ⟨r, hr⟩ : ∃ r : Nat, dd % 4294967296 = (r : Int) := ⟨(dd % 4294967296).toNat, by omega⟩; obtain ⟨ee, hee, he1⟩ : ∃ e : Nat, (e : Int) = -(dd / 4294967296) ∧ e ≤ 1 := ⟨(-(dd / 4294967296)).toNat, by omega, by omega⟩; have hrB : r < 4294967296 := (by omega); have hre : d32 U (k + i) + ee * 4294967296 = b + C % 4294967296 + r := (by omega); rw [hC] at hre; have hst := sub_step (g := G) (by omega) hv hrB hre; rw [← hC] at hst hre
      refine J.skip ?_
      refine J.seq ?_
      refine J.block ?_
      refine Sr ?_
      refine Ru 2 rfl ?_
      refine JL.nil ?_
      refine Sr ?_
      refine Ru 4 rfl ?_
      refine JL.ope (RunE.index sl_30 rfl rfl (by first | with_reducible rfl | exact (Int.toNat_of_nonneg (by omega)).symm) (by assumption) rfl (by omega)) rfl ?_
      rintro _ ⟨b20, o20, hi20, rfl, hE20⟩
      refine JL.op (RunV.ld_u32 ag_103 rfl (by assumption)) rfl ?_
      rw [ei]
      refine JL.op (by first | exact RunV.conv_u64 cv_103_63 rfl (by omega) (by omega) | exact RunV.convw_u64 cv_103_63 rfl | exact RunV.conv cv_103_63 rfl) rfl ?_
      refine JL.op (RunV.mul_u64 rfl rfl (by rw [← Int.natCast_mul]; omega) (by rw [← Int.natCast_mul]; omega)) rfl ?_
      refine JL.op (RunV.add_u64 rfl rfl (by rw [← Int.natCast_mul]; omega) (by rw [← Int.natCast_mul]; omega)) rfl ?_
      rw [show (c : Int) + (G : Int) * (d32 l i : Int) = (C : Int) by rw [hC, Int.natCast_add, Int.natCast_mul]]
      refine Ru 1 rfl ?_
      refine JL.nil ?_
      refine Sr ?_
      refine Ru 2 rfl ?_
      refine JL.op (RunV.index_off sl_30 (m := i) rfl rfl (by omega) (by omega)) rfl ?_
      refine JL.op (RunV.wload ag_103 rfl mm_ (by omega)) rfl ?_
      refine JL.op (by first | exact RunV.conv_i64 cv_103_2 rfl (by omega) (by omega) | exact RunV.convw_i64 cv_103_2 rfl | exact RunV.conv cv_103_2 rfl) rfl ?_
      refine Ru 1 rfl ?_
      refine JL.op si_ rfl ?_
      refine Ru 1 rfl ?_
      refine JL.op (RunV.toW C cv_63_103 rfl rfl) rfl ?_
      refine JL.op (by first | exact RunV.conv_i64 cv_103_2 rfl (by omega) (by omega) | exact RunV.convw_i64 cv_103_2 rfl | exact RunV.conv cv_103_2 rfl) rfl ?_
      refine JL.op si_ rfl ?_
      rw [← hdd]
      refine Ru 1 rfl ?_
      refine JL.nil ?_
      refine Sr ?_
      refine Ru 1 rfl ?_
      refine JL.op (RunV.shr_u64 4294967296 rfl rfl (by decide) (by decide) (by decide)) rfl ?_
      refine Ru 1 rfl ?_
      refine JL.nil ?_
      refine Sr ?_
      refine Ru 3 rfl ?_
      refine JL.op (RunV.toWI r cv_2_103 rfl hr) rfl ?_
      refine JL.op (RunV.index_off sl_30 (m := i) rfl rfl (by omega) (by omega)) rfl ?_
      refine JL.storeW (r) ag_103 rfl rfl (by rw [Nat.mod_eq_of_lt hrB]) dl_ (by omega) ?_
      refine JL.nil ?_
      refine Rg ?_
      refine Ru 1 rfl ?_
      refine JL.op (RunV.shr_i64 4294967296 rfl rfl (by decide) (by decide) (by decide)) rfl ?_
      refine JL.op (RunV.neg rfl) rfl ?_
      rw [show IntKind.i64.wrap (-(dd / 4294967296)) = (ee : Int) from by rw [wrap_i64 _ (by omega) (by omega)]; omega]
      refine Ru 1 rfl ?_
      refine JL.nil ?_
      refine Rg ?_
      refine JL.op ai_ rfl ?_
      refine Ru 1 rfl ?_
      refine JL.nil ?_
      refine ⟨_, ?_, _, ?_, ⟨i + 1, C / 4294967296, ee, U.set (k + i) (UInt32.ofNat r), rfl, rfl, rfl, rfl, ⟨by omega, by rw [List.length_set]; exact hUl, by omega, by omega, fun j hj => by rw [d32_set _ _ _ _ (by omega), if_neg (by omega)]; exact hUj j (by omega), hst⟩⟩⟩
      ·
       omega
      ·
       repeat (first | exact trivial | refine ⟨rfl, ?_⟩ | refine ⟨(by exact some_int (by omega)), ?_⟩)
     ·
      have hie : i = q + 2 := (by omega); subst hie; rw [List.take_of_length_le (by omega), Nat.mul_assoc] at hv; have hun := hUj (k + (q + 2)) (Nat.le_refl _); have bu := d32_lt U (k + (q + 2)); have hUz : ∀ j, k + (q + 2) < j → d32 U j = 0 := (fun j hj => by rw [hUj j (by omega)]; exact hzD j hj); obtain ⟨dd, hdd⟩ : ∃ dd : Int, dd = (d32 U (k + (q + 2)) : Int) - b - c := ⟨_, rfl⟩; have hdr : -4294967296 ≤ dd ∧ dd ≤ 4294967295 := (by omega); obtain ⟨r, hr⟩ : ∃ r : Nat, dd % 4294967296 = (r : Int) := ⟨(dd % 4294967296).toNat, by omega⟩; have hrB : r < 4294967296 := (by omega)
      refine J.exit ?_
      refine Sr ?_
      refine Ru 2 rfl ?_
      refine JL.op (RunV.index_off sl_30 (m := q + 2) rfl rfl (by omega) (by omega)) rfl ?_
      refine JL.op (RunV.wload ag_103 rfl mm_ (by omega)) rfl ?_
      refine JL.op (by first | exact RunV.conv_i64 cv_103_2 rfl (by omega) (by omega) | exact RunV.convw_i64 cv_103_2 rfl | exact RunV.conv cv_103_2 rfl) rfl ?_
      refine Ru 1 rfl ?_
      refine JL.op si_ rfl ?_
      refine Ru 1 rfl ?_
      refine JL.op (by first | exact RunV.conv_i64 cv_63_2 rfl (by omega) (by omega) | exact RunV.conv cv_63_2 rfl) rfl ?_
      refine JL.op si_ rfl ?_
      rw [← hdd]
      refine Ru 1 rfl ?_
      refine JL.nil ?_
      refine Sr ?_
      refine Ru 3 rfl ?_
      refine JL.op (RunV.toWI r cv_2_103 rfl hr) rfl ?_
      refine JL.op (RunV.index_off sl_30 (m := q + 2) rfl rfl (by omega) (by omega)) rfl ?_
      refine JL.storeW (r) ag_103 rfl rfl (by rw [Nat.mod_eq_of_lt hrB]) dl_ (by omega) ?_
      refine JL.nil ?_
      refine J.seq ?_
      refine Sr ?_
      refine Ru 2 rfl ?_
      refine JL.nil ?_
      refine Cs rfl (fun hc24 => ?_) fun hc24 => ?_
      ·
       have hrr2 : r = d32 U (k + (q + 2)) - (c + b) := (by omega); have hok := step_ok1 (D := vL l * 4294967296 ^ k) (n := q + 2) hUl (by omega) hv (by omega) (by rw [hQ]; exact hGQ) hD0; rw [← hrr2, hQ] at hok; rw [hok.1]
       refine Sr ?_
       refine Ru 1 rfl ?_
       refine JL.op (RunV.toW G cv_63_103 rfl rfl) rfl ?_
       refine Ru 1 rfl ?_
       refine JL.nil ?_
       exact J.ret ⟨_, [_], _, (RetV.one rfl rfl), .cons .here .nil, _, rfl, congrArg (Value.int .u32) (by omega), rfl⟩
      ·
       have hrr2 : r = d32 U (k + (q + 2)) + 4294967296 - (c + b) := (by omega); obtain ⟨W0, hW0⟩ : ∃ W0, W0 = U.set (k + (q + 2)) (UInt32.ofNat r) := ⟨_, rfl⟩; have hW0d : d32 W0 (k + (q + 2)) = r := (by rw [hW0, d32_set _ _ _ _ (by omega), if_pos rfl, UInt32.toNat_ofNat']; exact Nat.mod_eq_of_lt hrB); have hW0z : ∀ j, k + (q + 2) < j → d32 W0 j = 0 := (fun j hj => by rw [hW0, d32_set _ _ _ _ (by omega), if_neg (by omega)]; exact hUz j hj); have hW0l : W0.length = N := (by rw [hW0, List.length_set]; exact hUl); rw [← hW0]
       refine J.skip ?_
       refine Sr ?_
       refine Ru 1 rfl ?_
       refine JL.nil ?_
       refine J.seq ?_
       refine Sr ?_
       refine Ru 2 rfl ?_
       refine JL.nil ?_
       refine J.block ?_
       refine J.loop (fun t_ S_ h_ L_ => ∃ (z y : Nat) (W : List UInt32), t_ = q + 2 - z ∧ S_ = [(0, .slice (some ⟨g, k, none⟩) (q + 3) cw), (1, .slice av l.length cv), (5, .int .i64 l.length), (7, .int .u64 G), (14, .int .u64 y), (137, .int .i64 l.length), (138, .int .i64 z)] ∧ h = h_ ∧ L_ = [.row (some ⟨g, 0, none⟩) cr 103 1 N (ws .u32 W)] ∧ (z ≤ q + 2 ∧ W.length = N ∧ y ≤ 1 ∧ (∀ j, k + z ≤ j → d32 W j = d32 W0 j) ∧ vL W + y * 4294967296 ^ (k + z) = vL W0 + vL (l.take z) * 4294967296 ^ k)) ⟨_, _, ?_, ⟨0, 0, W0, rfl, rfl, rfl, rfl, ⟨by omega, hW0l, by omega, fun _ _ => rfl, by simp [vL]⟩⟩⟩ ?_
       ·
        repeat (first | exact trivial | refine ⟨rfl, ?_⟩ | refine ⟨(by exact some_int (by omega)), ?_⟩)
       rintro _ _ _ _ ⟨z, y, W, rfl, rfl, rfl, rfl, hz, hWl, hy, hWj, hvW⟩
       refine Sr ?_
       refine Ru 1 rfl ?_
       refine JL.nil ?_
       refine J.seq ?_
       refine Cs rfl (fun hc25 => ?_) fun hc25 => ?_
       ·
        have hz' : z < q + 2 := (by omega); have bz := d32_lt l z; have bw := d32_lt W (k + z); have ez := d32_at l z (by omega); have hst := add_step (v := l) (by omega) hvW
        refine J.skip ?_
        refine J.seq ?_
        refine J.block ?_
        refine Sr ?_
        refine Ru 2 rfl ?_
        refine JL.nil ?_
        refine J.seq ?_
        refine J.drawn mixed_ (by kernel_rfl) ?_
        refine Rq 3 rfl ?_
        refine JQ.op (RunV.index_off sl_30 (m := z) rfl rfl (by omega) (by omega)) rfl ?_
        refine JQ.op (RunV.wload ag_103 rfl mm_ (by omega)) rfl ?_
        refine JQ.op (by first | exact RunV.conv_u64 cv_103_63 rfl (by omega) (by omega) | exact RunV.convw_u64 cv_103_63 rfl | exact RunV.conv cv_103_63 rfl) rfl ?_
        refine Rq 2 rfl ?_
        refine JQ.ope (RunE.index sl_30 rfl rfl (by first | with_reducible rfl | exact (Int.toNat_of_nonneg (by omega)).symm) (by assumption) rfl (by omega)) rfl ?_
        rintro _ ⟨b26, o26, hi26, rfl, hE26⟩
        refine JQ.op (RunV.ld_u32 ag_103 rfl (by assumption)) rfl ?_
        rw [ez]
        refine JQ.op (by first | exact RunV.conv_u64 cv_103_63 rfl (by omega) (by omega) | exact RunV.convw_u64 cv_103_63 rfl | exact RunV.conv cv_103_63 rfl) rfl ?_
        refine JQ.op (by first | exact RunV.add_u64 rfl rfl (by omega) (by omega) | exact RunV.add rfl rfl) rfl ?_
        refine JQ.op (by first | exact RunV.add_u64 rfl rfl (by omega) (by omega) | exact RunV.add rfl rfl) rfl ?_
        rw [show (y : Int) + ((d32 W (k + z) : Int) + (d32 l z : Int)) = ((y + d32 W (k + z) + d32 l z : Nat) : Int) by omega]
        refine Rq 1 rfl ?_
        refine JQ.nil ?_
        refine Sr ?_
        refine Ru 3 rfl ?_
        refine JL.op (RunV.toW (y + d32 W (k + z) + d32 l z) cv_63_103 rfl rfl) rfl ?_
        refine JL.op (RunV.index_off sl_30 (m := z) rfl rfl (by omega) (by omega)) rfl ?_
        refine JL.storeW (y + d32 W (k + z) + d32 l z) ag_103 rfl rfl (rfl) dl_ (by omega) ?_
        refine JL.nil ?_
        refine Rg ?_
        refine Ru 1 rfl ?_
        refine JL.op (RunV.shr_u64 4294967296 rfl rfl (by decide) (by decide) (by decide)) rfl ?_
        refine Ru 1 rfl ?_
        refine JL.nil ?_
        refine Rg ?_
        refine JL.op ai_ rfl ?_
        refine Ru 1 rfl ?_
        refine JL.nil ?_
        refine ⟨_, ?_, _, ?_, ⟨z + 1, (y + d32 W (k + z) + d32 l z) / 4294967296, _, rfl, rfl, rfl, rfl, ⟨by omega, by rw [List.length_set]; exact hWl, by omega, fun j hj => by rw [d32_set _ _ _ _ (by omega), if_neg (by omega)]; exact hWj j (by omega), hst⟩⟩⟩
        ·
         omega
        ·
         repeat (first | exact trivial | refine ⟨rfl, ?_⟩ | refine ⟨(by exact some_int (by omega)), ?_⟩)
       ·
        have hze : z = q + 2 := (by omega); subst hze; rw [List.take_of_length_le (by omega)] at hvW; have hWd := hWj (k + (q + 2)) (Nat.le_refl _); have hok := step_ok2 (D := vL l * 4294967296 ^ k) (V := vL l) (n := q + 2) hUl hWl (by omega) rfl hVlt hv hUz (by omega) (by omega) (by rw [hQ]; exact hGQ) (by rw [hQ]; exact hG1) hD0 hy (by rw [hvW, hW0, hrr2]) (by rw [hWd, hW0d, ← hrr2, Nat.mod_eq_of_lt hrB]) (fun j hj => by rw [hWj j (by omega)]; exact hW0z j hj); rw [hQ] at hok
        refine J.exit ?_
        refine Sr ?_
        refine Ru 2 rfl ?_
        refine JL.op (RunV.index_off sl_30 (m := q + 2) rfl rfl (by omega) (by omega)) rfl ?_
        refine JL.op (RunV.wload ag_103 rfl mm_ (by omega)) rfl ?_
        refine Ru 1 rfl ?_
        refine JL.op (RunV.toW y cv_63_103 rfl rfl) rfl ?_
        refine JL.op (RunV.add rfl rfl) rfl ?_
        refine JL.op (RunV.index_off sl_30 (m := q + 2) rfl rfl (by omega) (by omega)) rfl ?_
        refine JL.storeW (d32 W (k + (q + 2)) + y) ag_103 rfl rfl (by rw [IntKind.wrap_u32]; omega) dl_ (by omega) ?_
        rw [hok.1]
        refine JL.nil ?_
        refine Sr ?_
        refine Ru 1 rfl ?_
        refine JL.op (by first | exact RunV.sub_u64 rfl rfl (by omega) (by omega) | exact RunV.sub rfl rfl) rfl ?_
        refine JL.op (RunV.toW (G - 1) cv_63_103 rfl (by omega)) rfl ?_
        refine Ru 1 rfl ?_
        refine JL.nil ?_
        exact J.ret ⟨_, [_], _, (RetV.one rfl rfl), .cons .here .nil, _, rfl, congrArg (Value.int .u32) (by omega), rfl⟩
  ·
   refine J.seq ?_
   refine Rg ?_
   refine Ru 3 rfl ?_
   refine JL.nil ?_
   refine J.seq ?_
   refine J.drawn mixed_ (by kernel_rfl) ?_
   refine Rq 2 rfl ?_
   refine JQ.op (RunV.index_off sl_30 (m := q + 2) rfl rfl (by omega) (by omega)) rfl ?_
   refine JQ.op (RunV.wload ag_103 rfl mm_ (by omega)) rfl ?_
   rw [htopd]
   refine JQ.op (by first | exact RunV.conv_u64 cv_103_63 rfl (by omega) (by omega) | exact RunV.convw_u64 cv_103_63 rfl | exact RunV.conv cv_103_63 rfl) rfl ?_
   refine JQ.op (RunV.shl_u64 4294967296 rfl rfl (by decide) (by decide) (by decide) (by omega) (by omega)) rfl ?_
   refine Rq 2 rfl ?_
   refine JQ.op si_ rfl ?_
   refine JQ.op (RunV.index_off sl_30 (m := q + 1) rfl rfl (by omega) (by omega)) rfl ?_
   refine JQ.op (RunV.wload ag_103 rfl mm_ (by omega)) rfl ?_
   refine JQ.op (by first | exact RunV.conv_u64 cv_103_63 rfl (by omega) (by omega) | exact RunV.convw_u64 cv_103_63 rfl | exact RunV.conv cv_103_63 rfl) rfl ?_
   refine JQ.op (RunV.join_u64 32 4294967296 rfl rfl (by decide) (by omega) (by omega) (by omega) (by omega) (by omega) (by omega)) rfl ?_
   rw [show ((w / 4294967296 ^ (k + (q + 2)) : Nat) : Int) * 4294967296 + (d32 (digN N w) (k + (q + 1)) : Nat) = (top : Int) by omega]
   refine Rq 1 rfl ?_
   refine JQ.nil ?_
   refine J.seq ?_
   refine Rg ?_
   refine Ru 3 rfl ?_
   refine JL.op si_ rfl ?_
   refine JL.ope (RunE.index (m := q + 1) sl_30 rfl rfl (by omega) hl rfl (by omega)) rfl ?_
   rintro _ ⟨b30, o30, hi30, rfl, hE30⟩
   refine JL.op (RunV.ld_u32 ag_103 rfl (by assumption)) rfl ?_
   rw [ea1]
   refine JL.op (by first | exact RunV.conv_u64 cv_103_63 rfl (by omega) (by omega) | exact RunV.convw_u64 cv_103_63 rfl | exact RunV.conv cv_103_63 rfl) rfl ?_
   refine JL.op (RunV.quo_u64 rfl rfl (by omega) (by omega) (by omega)) rfl ?_
   refine Ru 1 rfl ?_
   refine JL.nil ?_
   refine J.seq ?_
   refine Rg ?_
   refine Ru 3 rfl ?_
   refine JL.op si_ rfl ?_
   refine JL.ope (RunE.index (m := q + 1) sl_30 rfl rfl (by omega) hl rfl (by omega)) rfl ?_
   rintro _ ⟨b32, o32, hi32, rfl, hE32⟩
   refine JL.op (RunV.ld_u32 ag_103 rfl (by assumption)) rfl ?_
   rw [ea1]
   refine JL.op (by first | exact RunV.conv_u64 cv_103_63 rfl (by omega) (by omega) | exact RunV.convw_u64 cv_103_63 rfl | exact RunV.conv cv_103_63 rfl) rfl ?_
   refine JL.op (RunV.rem_u64 rfl rfl (by omega) (by omega)) rfl ?_
   refine Ru 1 rfl ?_
   refine JL.nil ?_
   refine J.seq ?_
   refine J.label ?_
   refine J.weak _ ?_ (again _ _ _ _ ⟨top / d32 l (q + 1), top % d32 l (q + 1), rfl, rfl, rfl, rfl, ⟨by rw [Nat.mul_comm]; exact Nat.div_add_mod _ _, Nat.lt_of_lt_of_le (Nat.mod_lt _ hv10) (by omega), (Nat.le_div_iff_mul_le hv10).2 (g_init hS hlow hgl b5), Nat.div_le_self _ _⟩⟩)
   repeat (first | exact trivial | refine ⟨rfl, ?_⟩)
end Go.Proofs.YtmngjbefnloljaaGreatDoor
set_option linter.unusedSimpArgs false
set_option linter.unusedVariables false
set_option linter.constructorNameAsVariable false
namespace Go.Proofs.YtmngjbefnloljaaGreatDoor
open Go Go.RowKit
set_option maxRecDepth 100000
theorem ca_120 : callT Tryz.prog 120 = true := by kernel_rfl
theorem ca_121 : callT Tryz.prog 121 = true := by kernel_rfl
theorem ca_122 : callT Tryz.prog 122 = true := by kernel_rfl
theorem ca_123 : callT Tryz.prog 123 = true := by kernel_rfl
theorem ca_47 : callT Tryz.prog 47 = true := by kernel_rfl
theorem ca_87 : callT Tryz.prog 87 = true := by kernel_rfl
theorem cv_3_93 : convI Tryz.prog 3 93 = some .u64 := by kernel_rfl
theorem two_le32 (s : Nat) (h : s ≤ 31) : 1 ≤ 2 ^ s ∧ 2 ^ s ≤ 2147483648 := ⟨Nat.one_le_two_pow, Nat.le_trans (Nat.pow_le_pow_right (by decide) h) (by decide)⟩
theorem two_split (s : Nat) (h : s ≤ 31) : 2 ^ s * 2 ^ (32 - s) = 4294967296 := by
  rw [← Nat.pow_add, show s + (32 - s) = 32 by omega]
theorem shift_mod {x s : Nat} (h : s ≤ 31) : x * 2 ^ s % 4294967296 % 2 ^ s = 0 := by
  rw [← two_split s h, Nat.mul_comm x, Nat.mul_mod_mul_left]
  exact Nat.mul_mod_right _ _
theorem shift_low {V s i : Nat} (h : V < 4294967296 ^ i) : V * 2 ^ s / 4294967296 ^ i < 2 ^ s := Nat.div_lt_of_lt_mul (Nat.mul_lt_mul_of_pos_right h (Nat.two_pow_pos s))
theorem natshifted_fn {a : Option Addr} {c s : Nat} {l : List UInt32} {h : Part} (hl : SlR u32R 1 h a c l) (hs : s ≤ 31) (hlb : l.length ≤ 1000000) : Fn Tryz.prog 122 [.slice a l.length c, .int .u64 s] h []
    (Rets fun v _ Lo => ∃ b, v = .slice (some ⟨b, 0, none⟩) (l.length + 1) (l.length + 1) ∧ Lo = [.row (some ⟨b, 0, none⟩) (l.length + 1) 103 1 (l.length + 1) (ws .u32 (digN (l.length + 1) (vL l * 2 ^ s)))]) := by
  have h2s := two_le32 s hs
  refine Fn.intro Tryz.func122 rfl Tryz.ntmps122 rfl (fun e he => ?_)
  refine J.weak [(0, _), (1, _)] ⟨rfl, rfl, trivial⟩ ?_
  have hh0 := Part.le.refl h
  refine Sr ?_
  refine Ru 1 rfl ?_
  refine JL.nil ?_
  refine Sr ?_
  refine Ru 2 rfl ?_
  refine JL.op ai_ rfl ?_
  refine JL.make1 mk_30 rfl rfl (m := l.length + 1) (by omega) (by omega) (by omega) rfl rfl (fun b1 => ?_); rw [ws_zero]
  refine Ru 1 rfl ?_
  refine JL.nil ?_
  refine J.seq ?_
  refine Sr ?_
  refine Ru 3 rfl ?_
  refine Nk [15, 14, 13, 5, 4, 1] rfl ?_
  refine J.block ?_
  refine J.loop (fun t_ S_ h_ L_ => ∃ (i : Nat) (out : List UInt32), t_ = l.length - i ∧ S_ = [(1, .int .u64 s), (5, .slice (some ⟨b1, 0, none⟩) (l.length + 1) (l.length + 1)), (13, .slice a l.length c), (14, .int .i64 l.length), (15, .int .i64 i)] ∧ h = h_ ∧ L_ = [.row (some ⟨b1, 0, none⟩) (l.length + 1) 103 1 (l.length + 1) (ws .u32 out)] ∧ (i ≤ l.length ∧ out.length = l.length + 1 ∧ vL out = vL (l.take i) * 2 ^ s)) ⟨_, _, ?_, ⟨0, _, rfl, rfl, rfl, rfl, ⟨by omega, digN_len _ _, by rw [vL_digN]; simp [vL]⟩⟩⟩ ?_
  ·
   repeat (first | exact trivial | refine ⟨rfl, ?_⟩)
  rintro _ _ _ _ ⟨i, out, rfl, rfl, rfl, rfl, hi, hol, hv⟩
  refine Sr ?_
  refine Ru 1 rfl ?_
  refine JL.nil ?_
  refine J.seq ?_
  refine Cs rfl (fun hc2 => ?_) fun hc2 => ?_
  ·
   have hi' : i < l.length := (by omega); have bi := d32_lt l i; have ei := d32_at l i hi'; obtain ⟨y, hy⟩ : ∃ y, y = d32 l i * 2 ^ s := ⟨_, rfl⟩; have hyb : y ≤ 4294967295 * 2147483648 := (by rw [hy]; exact Nat.mul_le_mul (by omega) h2s.2); have hlow : d32 out i < 2 ^ s := (by rw [← vL_digit, hv]; exact Nat.lt_of_le_of_lt (Nat.mod_le _ _) (shift_low (vL_take_lt l i))); have hym : y % 4294967296 % 2 ^ s = 0 := (by rw [hy]; exact shift_mod hs); have hzt : vL out < 4294967296 ^ (i + 1) := (by rw [hv, Nat.pow_succ]; exact Nat.mul_lt_mul'' (vL_take_lt l i) (by omega)); have hz1 := vL_zero_above hzt (i + 1) (Nat.le_refl _); have hsum : d32 out i + y % 4294967296 < 4294967296 := (by have e1 := two_split s hs; have h3 : y % 4294967296 = 2 ^ s * (y % 4294967296 / 2 ^ s) := (by have := Nat.div_add_mod (y % 4294967296) (2 ^ s); omega); have h4 : y % 4294967296 / 2 ^ s < 2 ^ (32 - s) := Nat.div_lt_of_lt_mul (by rw [e1]; omega); have h5 : 2 ^ s * (y % 4294967296 / 2 ^ s) + 2 ^ s ≤ 2 ^ s * 2 ^ (32 - s) := (by rw [← Nat.mul_succ]; exact Nat.mul_le_mul_left _ h4); rw [e1] at h5; omega)
   refine J.skip ?_
   refine J.seq ?_
   refine J.block ?_
   refine Sr ?_
   refine Ru 1 rfl ?_
   refine JL.ope (RunE.index sl_30 rfl rfl (by first | with_reducible rfl | exact (Int.toNat_of_nonneg (by omega)).symm) (by assumption) rfl (by omega)) rfl ?_
   rintro _ ⟨b3, o3, hi3, rfl, hE3⟩
   refine JL.op (RunV.ld_u32 ag_103 rfl (by assumption)) rfl ?_
   rw [ei]
   refine Ru 2 rfl ?_
   refine JL.nil ?_
   refine Sr ?_
   refine Ru 1 rfl ?_
   refine JL.op (by first | exact RunV.conv_u64 cv_103_63 rfl (by omega) (by omega) | exact RunV.convw_u64 cv_103_63 rfl | exact RunV.conv cv_103_63 rfl) rfl ?_
   refine Ru 1 rfl ?_
   refine JL.op (RunV.shl_u64 ((2 ^ s : Nat) : Int) rfl rfl (by omega) (by omega) (by rw [Int.toNat_natCast, Int.natCast_pow]; rfl) (by rw [← Int.natCast_mul]; omega) (by rw [← Int.natCast_mul]; omega)) rfl ?_
   rw [← Int.natCast_mul, ← hy]
   refine Ru 1 rfl ?_
   refine JL.nil ?_
   refine Sr ?_
   refine Ru 2 rfl ?_
   refine JL.op (RunV.index_at sl_30 (m := i) rfl rfl (by omega) (by omega)) rfl ?_
   refine JL.op (RunV.wload ag_103 rfl mm_ (by omega)) rfl ?_
   refine Ru 1 rfl ?_
   refine JL.op (RunV.toW y cv_63_103 rfl rfl) rfl ?_
   refine JL.op (RunV.joinr_u32 s ((2 ^ s : Nat) : Int) rfl rfl (by rw [Int.natCast_pow]; rfl) (by omega) (by rw [← Int.natCast_emod, hym]; rfl) (by omega) (by omega) (by omega) (by omega)) rfl ?_
   refine JL.op (RunV.index_at sl_30 (m := i) rfl rfl (by omega) (by omega)) rfl ?_
   refine JL.storeW (d32 out i + y % 4294967296) ag_103 rfl rfl (by rw [Nat.mod_eq_of_lt hsum]; omega) dl_ (by omega) ?_
   obtain ⟨o2, ho2⟩ : ∃ o2, o2 = out.set i (UInt32.ofNat (d32 out i + y % 4294967296)) := ⟨_, rfl⟩; have hp1 := vL_put out i (d32 out i + y % 4294967296) (by omega); rw [← ho2, Nat.div_eq_of_lt hsum] at hp1; have ho2l : o2.length = l.length + 1 := (by rw [ho2, List.length_set]; exact hol); have hz2 : d32 o2 (i + 1) = 0 := (by rw [ho2, d32_set _ _ _ _ (by omega), if_neg (by omega)]; exact hz1); have hp2 := vL_put o2 (i + 1) (y / 4294967296) (by omega); rw [hz2, Nat.div_eq_of_lt (show y / 4294967296 < 4294967296 by omega)] at hp2; rw [← ho2]
   refine JL.nil ?_
   refine Rg ?_
   refine Ru 2 rfl ?_
   refine JL.op ai_ rfl ?_
   refine Ru 1 rfl ?_
   refine JL.op (RunV.shr_u64 4294967296 rfl rfl (by decide) (by decide) (by decide)) rfl ?_
   refine JL.op (RunV.toW (y / 4294967296) cv_63_103 rfl rfl) rfl ?_
   refine JL.op (RunV.index_at sl_30 (m := i + 1) rfl rfl (by omega) (by omega)) rfl ?_
   refine JL.storeW (y / 4294967296) ag_103 rfl rfl rfl dl_ (by omega) ?_
   refine JL.nil ?_
   refine Rg ?_
   refine JL.op ai_ rfl ?_
   refine Ru 1 rfl ?_
   refine JL.nil ?_
   refine ⟨_, ?_, _, ?_, ⟨i + 1, _, rfl, rfl, rfl, rfl, ⟨by omega, by rw [List.length_set]; exact ho2l, by rw [vL_take_succ, Nat.add_mul, ← hv]; have e2 : y * 4294967296 ^ i = (y % 4294967296) * 4294967296 ^ i + y / 4294967296 * 4294967296 ^ (i + 1) := (by rw [Nat.pow_succ, Nat.mul_comm _ 4294967296, ← Nat.mul_assoc, ← Nat.add_mul]; congr 1; omega); have e3 : d32 l i * 4294967296 ^ i * 2 ^ s = y * 4294967296 ^ i := (by rw [hy]; grind); rw [Nat.add_mul] at hp1; omega⟩⟩⟩
   ·
    omega
   ·
    repeat (first | exact trivial | refine ⟨rfl, ?_⟩)
  ·
   have hie : i = l.length := (by omega); rw [hie, List.take_length] at hv; have hoe := digN_fix hol hv; rw [hoe]
   refine J.exit ?_
   refine Kp [5] rfl ?_
   refine Sr ?_
   refine Ru 2 rfl ?_
   refine JL.nil ?_
   exact J.ret ⟨_, [_], _, (RetV.one rfl rfl), .cons .here .nil, _, rfl, _, rfl, rfl⟩
theorem short_step {X j b r : Nat} (hb : 0 < b) (hr : r = X / 4294967296 ^ (j + 1) % b) : X / 4294967296 ^ j / b = X / 4294967296 ^ (j + 1) / b * 4294967296 + (r * 4294967296 + X / 4294967296 ^ j % 4294967296) / b ∧ X / 4294967296 ^ j % b = (r * 4294967296 + X / 4294967296 ^ j % 4294967296) % b := by
  have h1 := div_low X j
  generalize X / 4294967296 ^ (j + 1) = Y at *
  generalize X / 4294967296 ^ j % 4294967296 = d at *
  have h2 := Nat.div_add_mod Y b
  rw [h1]
  have e : Y * 4294967296 + d = b * (Y / b * 4294967296) + (r * 4294967296 + d) := by
    subst hr
    conv => lhs; rw [← h2]
    rw [Nat.add_mul, Nat.mul_assoc]; omega
  rw [e, Nat.mul_add_div hb, Nat.mul_add_mod]
  exact ⟨rfl, rfl⟩
theorem natshort_fn {a : Option Addr} {c b : Nat} {l : List UInt32} {h : Part} (hl : SlR u32R 1 h a c l) (hb0 : 0 < b) (hb : b < 4294967296) (hlb : l.length ≤ 1000000) : FnR Tryz.prog 120 [.slice a l.length c, .int .u32 b] h
    (fun v h' => ∃ a1 c1 a2 c2, v = .tuple #[.slice a1 (toL (vL l / b)).length c1, .slice a2 (toL (vL l % b)).length c2, .int .i64 0] ∧ SlR u32R 1 h' a1 c1 (toL (vL l / b)) ∧ SlR u32R 1 h' a2 c2 (toL (vL l % b))) := by
  refine Fn.intro Tryz.func120 rfl Tryz.ntmps120 rfl (fun e he => ?_)
  refine J.weak [(0, _), (1, _)] ⟨rfl, rfl, trivial⟩ ?_
  have hh0 := Part.le.refl h
  refine Sr ?_
  refine Ru 3 rfl ?_
  refine JL.nil ?_
  refine Sr ?_
  refine Ru 2 rfl ?_
  refine JL.make1 mk_30 rfl rfl (m := l.length) (by omega) (by omega) (by omega) rfl rfl (fun b1 => ?_); rw [ws_zero]
  refine Ru 1 rfl ?_
  refine JL.nil ?_
  refine Sr ?_
  refine Ru 1 rfl ?_
  refine JL.nil ?_
  refine J.seq ?_
  refine Sr ?_
  refine Ru 2 rfl ?_
  refine JL.op si_ rfl ?_
  refine Ru 1 rfl ?_
  refine Nk [9, 8, 7, 6, 5, 4, 0, 1] rfl ?_
  refine J.block ?_
  refine J.loop (fun t_ S_ h_ L_ => ∃ (j r : Nat) (out : List UInt32), t_ = j + 1 ∧ S_ = [(0, .slice a l.length c), (1, .int .u32 b), (7, .slice (some ⟨b1, 0, none⟩) l.length l.length), (8, .int .u64 r), (9, .int .i64 ((j : Int) - 1))] ∧ h = h_ ∧ L_ = [.row (some ⟨b1, 0, none⟩) l.length 103 1 l.length (ws .u32 out)] ∧ (j ≤ l.length ∧ out.length = l.length ∧ r = vL l / 4294967296 ^ j % b ∧ vL out = vL l / 4294967296 ^ j / b * 4294967296 ^ j)) ⟨_, _, ?_, ⟨l.length, 0, _, rfl, rfl, rfl, rfl, ⟨Nat.le_refl _, digN_len _ _, by rw [Nat.div_eq_of_lt (vL_lt l)]; simp, by rw [vL_digN, Nat.div_eq_of_lt (vL_lt l)]; simp⟩⟩⟩ ?_
  ·
   repeat (first | exact trivial | refine ⟨rfl, ?_⟩ | refine ⟨(by exact some_int (by omega)), ?_⟩)
  rintro _ _ _ _ ⟨j, r, out, rfl, rfl, rfl, rfl, hj, hol, hr, hv⟩
  refine J.seq ?_
  refine Sr ?_
  refine Ru 2 rfl ?_
  refine JL.nil ?_
  refine Cs rfl (fun hc2 => ?_) fun hc2 => ?_
  ·
   obtain ⟨i, rfl⟩ : ∃ i, j = i + 1 := ⟨j - 1, by omega⟩; have bi := d32_lt l i; have ei := d32_at l i (by omega); have hrb : r < b := (by rw [hr]; exact Nat.mod_lt _ hb0); obtain ⟨s1, s2⟩ := short_step (j := i) hb0 hr; rw [vL_digit] at s1 s2; obtain ⟨t, ht⟩ : ∃ t, t = r * 4294967296 + d32 l i := ⟨_, rfl⟩; rw [← ht] at s1 s2; have htq : t / b < 4294967296 := Nat.div_lt_of_lt_mul (by have := Nat.mul_le_mul_right 4294967296 (show r + 1 ≤ b by omega); omega); have hz : d32 out i = 0 := (by rw [← vL_digit, hv, Nat.pow_succ, Nat.mul_comm (4294967296 ^ i), ← Nat.mul_assoc, Nat.mul_div_cancel _ (Nat.pow_pos (by decide))]; exact Nat.mul_mod_left _ _); have hp := vL_put out i (t / b) (by omega); rw [hz, Nat.div_eq_of_lt htq] at hp; have ht64 : t < 18446744073709551616 := (by omega)
   refine J.skip ?_
   refine J.seq ?_
   refine J.block ?_
   refine Sr ?_
   refine Ru 1 rfl ?_
   refine JL.op (RunV.shl_u64 4294967296 rfl rfl (by decide) (by decide) (by decide) (by omega) (by omega)) rfl ?_
   refine Ru 2 rfl ?_
   refine JL.ope (RunE.index (m := i) sl_30 rfl rfl (by omega) hl rfl (by omega)) rfl ?_
   rintro _ ⟨b3, o3, hi3, rfl, hE3⟩
   refine JL.op (RunV.ld_u32 ag_103 rfl (by assumption)) rfl ?_
   rw [ei]
   refine JL.op (by first | exact RunV.conv_u64 cv_103_63 rfl (by omega) (by omega) | exact RunV.convw_u64 cv_103_63 rfl | exact RunV.conv cv_103_63 rfl) rfl ?_
   refine JL.op (RunV.join_u64 32 4294967296 rfl rfl (by decide) (by omega) (by omega) (by omega) (by omega) (by omega) (by omega)) rfl ?_
   rw [show (r : Int) * 4294967296 + (d32 l i : Int) = (t : Int) by omega]
   refine Ru 1 rfl ?_
   refine JL.nil ?_
   refine Sr ?_
   refine Ru 4 rfl ?_
   refine JL.op (by first | exact RunV.conv_u64 cv_103_63 rfl (by omega) (by omega) | exact RunV.convw_u64 cv_103_63 rfl | exact RunV.conv cv_103_63 rfl) rfl ?_
   refine JL.op (RunV.quo_u64 rfl rfl (by omega) (by omega) (by omega)) rfl ?_
   refine JL.op (RunV.toW (t / b) cv_63_103 rfl (by rw [Int.natCast_ediv])) rfl ?_
   refine JL.op (RunV.index_at sl_30 (m := i) rfl rfl (by omega) (by omega)) rfl ?_
   refine JL.storeW (t / b) ag_103 rfl rfl rfl dl_ (by omega) ?_
   refine JL.nil ?_
   refine Rg ?_
   refine Ru 2 rfl ?_
   refine JL.op (by first | exact RunV.conv_u64 cv_103_63 rfl (by omega) (by omega) | exact RunV.convw_u64 cv_103_63 rfl | exact RunV.conv cv_103_63 rfl) rfl ?_
   refine JL.op (RunV.rem_u64 rfl rfl (by omega) (by omega)) rfl ?_
   rw [← Int.natCast_emod]
   refine Ru 1 rfl ?_
   refine JL.nil ?_
   refine Rg ?_
   refine Ru 1 rfl ?_
   refine JL.op si_ rfl ?_
   refine Ru 1 rfl ?_
   refine JL.nil ?_
   refine ⟨_, ?_, _, ?_, ⟨i, t % b, _, rfl, rfl, rfl, rfl, ⟨by omega, by rw [List.length_set]; exact hol, s2.symm, by rw [s1, Nat.add_mul, Nat.mul_assoc, Nat.mul_comm 4294967296, ← Nat.pow_succ, ← hv]; omega⟩⟩⟩
   ·
    omega
   ·
    repeat (first | exact trivial | refine ⟨rfl, ?_⟩ | refine ⟨(by exact some_int (by omega)), ?_⟩)
  ·
   have hj0 : j = 0 := (by omega); subst hj0; rw [Nat.pow_zero, Nat.div_one] at hr hv; rw [Nat.mul_one] at hv
   refine J.exit ?_
   refine Kp [7, 8] rfl ?_
   refine Sr ?_
   refine Ru 1 rfl ?_
   refine JL.pub32 dl_ hol.symm (by omega) (fun h9 hle9 hP9 => ?_); replace hh0 := hh0.mono hle9; replace hl := hl.mono hle9
   refine JL.callR ca_59 rfl (nattrim_fn' hP9 hol.symm (by omega)) rfl ?_
   rintro _ h6 hle6 ⟨ra, rc, rfl, hR⟩
   replace hl := hl.mono hle6
   replace hh0 := hh0.mono hle6
   refine Ru 1 rfl ?_
   rw [hv] at hR ⊢; have hrb : r < b := (by rw [hr]; exact Nat.mod_lt _ hb0)
   refine JL.callR ca_87 rfl (natOf_fn (by omega)) rfl ?_
   rintro _ h7 hle7 ⟨sa, sc, rfl, hS⟩
   replace hl := hl.mono hle7
   replace hh0 := hh0.mono hle7
   replace hR := hR.mono hle7
   refine Ru 3 rfl ?_
   refine Nk [6, 5, 4] rfl ?_
   rw [hr] at hS ⊢; exact J.retR (RetV.three rfl rfl rfl rfl) ⟨_, _, _, _, rfl, hR, hS⟩
theorem lz_fn {n : Nat} {h : Part} (hn : n < 4294967296) : Pure Tryz.prog 121 [.int .u32 n] h (.int .i64 ((32 - bl n : Nat) : Int)) := by
  have hb := bl_le 32 n hn
  refine Fn.intro Tryz.func121 rfl Tryz.ntmps121 rfl (fun e he => ?_)
  refine J.weak [(0, _)] ⟨rfl, trivial⟩ ?_
  refine Sr ?_
  refine Ru 1 rfl ?_
  refine JL.nil ?_
  refine Sr ?_
  refine Ru 1 rfl ?_
  refine JL.callP ca_85 rfl (len32_fn hn) rfl ?_
  refine JL.op si_ rfl ?_
  refine Ru 1 rfl ?_
  refine Nk [2] rfl ?_
  exact J.retP (RetV.one rfl rfl) (congrArg (Value.int .i64) (by omega)) rfl
theorem SlR.takeN {α : Type} {R : Rep α} {sz : Nat} {h : Part} {a : Option Addr} {c : Nat} {l : List α} (k : SlR R sz h a c l) (m : Nat) : SlR R sz h a c (l.take m) :=
  ⟨by have := k.len; rw [List.length_take]; omega, k.cap, by have := k.big; rw [List.length_take]; omega, k.nil, fun i x hx => k.elt i x (by
    rw [List.getElem?_take] at hx
    split at hx
    · exact hx
    · cases hx)⟩
theorem digN_take (m k v : Nat) : (digN (m + k) v).take m = digN m v := by
  induction m generalizing v with
  | zero => simp [digN]
  | succ m ih => rw [show m + 1 + k = (m + k) + 1 by omega]; simp only [digN, List.take_succ_cons, ih]
section
variable {f : Fr} {S : Sig} {h : Part} {L : List Ent} {ty T : TypeId} {xo hi : Operand}
theorem RunV.cutv {e sz ln c m : Nat} {a : Option Addr} {k2 : IntKind} {j : Int} (hT : slT f.P T = some (e, sz)) (hx : ev S xo = some (.slice a ln c)) (hh : ev S hi = some (.int k2 j)) (hj : j = (m : Int)) (h2 : m ≤ c) (h3 : 0 < c) :
    RunV f S h L (.slice T xo none (some hi) none) ty (.slice a m c) := fun ac w s _ _ _ _ => by
  subst hj
  obtain ⟨hu, inf, hi', hs⟩ := slT_spec hT
  have e1 : (m : Int) ≤ c := by omega
  have e3 : ¬ (c = 0) := by omega
  simp [execOp, s.eval hx, s.eval hh, Instr.sliceAt, Instr.slice, run_underlying hu, Instr.sliceBounds, Instr.sliceBound, asIntOf, sizeOf, typeInfo, hi', hs, e1, h2, e3]
  cases a with
  | none => rfl
  | some x => simp only [Option.map_some, Addr.add_zero']
end
theorem natstep_fn' {g k n cw cr N w : Nat} {av : Option Addr} {cv : Nat} {l : List UInt32} {h : Part} (hl : SlR u32R 1 h av cv l) (hn : n = l.length) (h2 : 2 ≤ n) (hV : 4294967296 ^ (n - 1) ≤ vL l) (hw : w < vL l * 4294967296 ^ (k + 1)) (hk : k + n < N) (hN : N ≤ 1000000) :
    Fn Tryz.prog 123 [.slice (some ⟨g, k, none⟩) (n + 1) cw, .slice av n cv] h [.row (some ⟨g, 0, none⟩) cr 103 1 N (ws .u32 (digN N w))]
      (Rets fun v _ Lo => v = .int .u32 ((w / (vL l * 4294967296 ^ k) : Nat) : Int) ∧ Lo = [.row (some ⟨g, 0, none⟩) cr 103 1 N (ws .u32 (digN N (w % (vL l * 4294967296 ^ k))))]) := by
  obtain ⟨q, rfl⟩ : ∃ q, n = q + 2 := ⟨n - 2, by omega⟩
  have := natstep_fn (g := g) (cw := cw) (cr := cr) hl hn.symm hV hw (by omega) hN
  rw [← hn] at this
  exact this
def dr (X Y : Nat) : Nat := if Y = 0 then 0 else X % Y
theorem norm_ok {Y n s d : Nat} (hn : n = nd Y) (hY : 0 < Y) (hd : d = Y / 4294967296 ^ (n - 1)) (hs : s = 32 - bl d) : s ≤ 31 ∧ Y * 2 ^ s < 4294967296 ^ n ∧ 2147483648 * 4294967296 ^ (n - 1) ≤ Y * 2 ^ s ∧ 0 < d ∧ d < 4294967296 := by
  obtain ⟨p1, p2⟩ := nd_pos Y hY
  rw [← hn] at p1 p2
  obtain ⟨m, rfl⟩ : ∃ m, n = m + 1 := ⟨n - 1, by omega⟩
  rw [Nat.add_sub_cancel] at *
  have hB : 0 < 4294967296 ^ m := Nat.pow_pos (by decide)
  have hlt := lt_nd Y
  rw [← hn, Nat.pow_succ] at hlt
  have hd0 : 0 < d := by rw [hd]; exact Nat.div_pos p1 hB
  have hdB : d < 4294967296 := by rw [hd]; exact Nat.div_lt_of_lt_mul hlt
  obtain ⟨q1, q2⟩ := bl_pos d hd0
  have q3 := lt_bl d
  have q4 := bl_le 32 d hdB
  have hs31 : s ≤ 31 := by omega
  have e1 : 2 ^ (bl d - 1) * 2 ^ s = 2147483648 := by rw [← Nat.pow_add, show bl d - 1 + s = 31 by omega]
  have e2 : 2 ^ bl d * 2 ^ s = 4294967296 := by rw [← Nat.pow_add, show bl d + s = 32 by omega]
  have h1 : 2147483648 ≤ d * 2 ^ s := by rw [← e1]; exact Nat.mul_le_mul_right _ q1
  have h2 : (d + 1) * 2 ^ s ≤ 4294967296 := by rw [← e2]; exact Nat.mul_le_mul_right _ q3
  have h3 : d * 4294967296 ^ m ≤ Y := by rw [hd]; exact Nat.div_mul_le_self _ _
  have h4 : Y < (d + 1) * 4294967296 ^ m := by
    have := Nat.lt_div_mul_add hB (a := Y)
    rw [← hd] at this
    rw [Nat.add_mul]; omega
  refine ⟨hs31, ?_, ?_, hd0, hdB⟩
  · have h5 : Y * 2 ^ s < (d + 1) * 4294967296 ^ m * 2 ^ s := Nat.mul_lt_mul_of_pos_right h4 (Nat.two_pow_pos s)
    have h6 : (d + 1) * 4294967296 ^ m * 2 ^ s = (d + 1) * 2 ^ s * 4294967296 ^ m := by grind
    have h7 := Nat.mul_le_mul_right (4294967296 ^ m) h2
    rw [Nat.pow_succ, Nat.mul_comm (4294967296 ^ m)]
    omega
  · have h5 := Nat.mul_le_mul_right (2 ^ s) h3
    have h6 : d * 4294967296 ^ m * 2 ^ s = d * 2 ^ s * 4294967296 ^ m := by grind
    have h7 := Nat.mul_le_mul_right (4294967296 ^ m) h1
    omega
theorem u_bound {X Y s la lb : Nat} (hX : X < 4294967296 ^ la) (hs : 2 ^ s ≤ 2147483648) (h1 : 1 ≤ lb) (hle : lb ≤ la) (hV : 2147483648 * 4294967296 ^ (lb - 1) ≤ Y * 2 ^ s) : X * 2 ^ s < Y * 2 ^ s * 4294967296 ^ (la - lb + 1) := by
  have e : 4294967296 ^ la = 4294967296 ^ (lb - 1) * 4294967296 ^ (la - lb + 1) := by rw [← Nat.pow_add]; congr 1; omega
  have h3 : X * 2 ^ s ≤ X * 2147483648 := Nat.mul_le_mul_left _ hs
  have h4 : X * 2147483648 < 4294967296 ^ la * 2147483648 := Nat.mul_lt_mul_of_pos_right hX (by decide)
  have h5 := Nat.mul_le_mul_right (4294967296 ^ (la - lb + 1)) hV
  have h6 : 2147483648 * 4294967296 ^ (lb - 1) * 4294967296 ^ (la - lb + 1) = 4294967296 ^ la * 2147483648 := by rw [e]; grind
  omega
theorem nd_mono {X Y : Nat} (hY : 0 < Y) (h : Y ≤ X) : nd Y ≤ nd X := by
  rcases Nat.lt_or_ge (nd X) (nd Y) with h1 | h1
  · have := nd_lt h1; omega
  · exact h1
theorem q_step {U D k : Nat} (hD : 0 < D) : U % (D * 4294967296 ^ (k + 1)) % (D * 4294967296 ^ k) = U % (D * 4294967296 ^ k) ∧ U / (D * 4294967296 ^ k) = U / (D * 4294967296 ^ (k + 1)) * 4294967296 + U % (D * 4294967296 ^ (k + 1)) / (D * 4294967296 ^ k) := by
  have e : D * 4294967296 ^ (k + 1) = D * 4294967296 ^ k * 4294967296 := by rw [Nat.pow_succ, Nat.mul_assoc]
  have hP : 0 < D * 4294967296 ^ k := Nat.mul_pos hD (Nat.pow_pos (by decide))
  rw [e]
  generalize D * 4294967296 ^ k = P at *
  have h1 := Nat.mod_mul (a := P) (b := 4294967296) (x := U)
  refine ⟨by rw [h1, Nat.add_mul_mod_self_left, Nat.mod_mod], ?_⟩
  rw [h1, Nat.add_mul_div_left _ _ hP, Nat.div_eq_of_lt (Nat.mod_lt _ hP), ← Nat.div_div_eq_div_mul]
  have := Nat.div_add_mod (U / P) 4294967296
  omega
theorem r_digit {w s i : Nat} (hs : s ≤ 31) : ((w / 4294967296 ^ (i + 1) % 4294967296) * 4294967296 + w / 4294967296 ^ i % 4294967296) / 2 ^ s % 4294967296 = w / 2 ^ s / 4294967296 ^ i % 4294967296 := by
  rw [Nat.div_div_eq_div_mul w (2 ^ s), Nat.mul_comm (2 ^ s), ← Nat.div_div_eq_div_mul, Nat.pow_succ, ← Nat.div_div_eq_div_mul w]
  generalize w / 4294967296 ^ i = y
  have e1 := two_split s hs
  have hp : 0 < 2 ^ s := Nat.two_pow_pos s
  have e2 : y = (y / 4294967296 % 4294967296 * 4294967296 + y % 4294967296) + 2 ^ s * (4294967296 * (2 ^ (32 - s) * (y / 18446744073709551616))) := by
    have e3 : 2 ^ s * (4294967296 * (2 ^ (32 - s) * (y / 18446744073709551616))) = 18446744073709551616 * (y / 18446744073709551616) := by
      have : 2 ^ s * (4294967296 * (2 ^ (32 - s) * (y / 18446744073709551616))) = (2 ^ s * 2 ^ (32 - s)) * (4294967296 * (y / 18446744073709551616)) := by grind
      rw [this, e1]; omega
    rw [e3]; omega
  conv => rhs; rw [e2]
  rw [Nat.add_mul_div_left _ _ hp, Nat.add_mul_mod_self_left]
set_option maxHeartbeats 2000000 in
theorem natdiv_fn {a b : Option Addr} {ca cb : Nat} {l r : List UInt32} {h : Part} (hl : SlR u32R 1 h a ca l) (hr : SlR u32R 1 h b cb r) (hlb : l.length ≤ 400000) (hrb : r.length ≤ 400000) : FnR Tryz.prog 86 [.slice a l.length ca, .slice b r.length cb] h
    (fun v h' => ∃ a1 c1 a2 c2, v = .tuple #[.slice a1 (toL (vL l / vL r)).length c1, .slice a2 (toL (dr (vL l) (vL r))).length c2, .int .i64 (if vL r = 0 then 10 else 0)] ∧ SlR u32R 1 h' a1 c1 (toL (vL l / vL r)) ∧ SlR u32R 1 h' a2 c2 (toL (dr (vL l) (vL r)))) := by
  have t1 := tsz_le (d32 l) l.length
  have t2 := tsz_le (d32 r) r.length
  have x1 : l.take (tsz (d32 l) l.length) = toL (vL l) := trim_toL l
  have x2 : r.take (tsz (d32 r) r.length) = toL (vL r) := trim_toL r
  have n1 : (toL (vL l)).length ≤ 400000 := by rw [toL_len, ← tsz_nd]; omega
  have n2 : (toL (vL r)).length ≤ 400000 := by rw [toL_len, ← tsz_nd]; omega
  have m1 := toL_len (vL l)
  have m2 := toL_len (vL r)
  have v1 : vL (toL (vL l)) = vL l := vL_toL _
  have v2 : vL (toL (vL r)) = vL r := vL_toL _
  refine Fn.intro Tryz.func86 rfl Tryz.ntmps86 rfl (fun e he => ?_)
  refine J.weak [(0, _), (1, _)] ⟨rfl, rfl, trivial⟩ ?_
  have hh0 := Part.le.refl h
  refine Sr ?_
  refine Ru 3 rfl ?_
  refine JL.nil ?_
  refine J.seq ?_
  refine J.drawn mixed_ (by kernel_rfl) ?_
  refine Rq 2 rfl ?_
  refine JQ.callP ca_84 rfl (natsize_fn (by assumption)) rfl ?_
  refine JQ.ope (RunE.cut_h sl_30 (m := tsz (d32 l) l.length) rfl rfl rfl hl rfl (by omega)) rfl ?_
  rintro _ ⟨a8, c8, rfl, hA⟩
  rw [x1] at hA ⊢; generalize hXA : toL (vL l) = A at *; generalize vL l = X at *
  refine Rq 2 rfl ?_
  refine JQ.callP ca_84 rfl (natsize_fn (by assumption)) rfl ?_
  refine JQ.ope (RunE.cut_h sl_30 (m := tsz (d32 r) r.length) rfl rfl rfl hr rfl (by omega)) rfl ?_
  rintro _ ⟨a9, c9, rfl, hB⟩
  rw [x2] at hB ⊢; generalize hYB : toL (vL r) = B at *; generalize vL r = Y at *; have hXlt := vL_lt A; rw [v1] at hXlt; have hYlt := vL_lt B; rw [v2] at hYlt
  refine Rq 2 rfl ?_
  refine Nq [1, 0, 6, 5, 4] rfl ?_
  refine J.seq ?_
  refine J.block ?_
  refine Sr ?_
  refine Ru 4 rfl ?_
  refine JL.nil ?_
  refine Cs rfl (fun hc5 => ?_) fun hc5 => ?_
  ·
   have hY0 : Y = 0 := (by rcases Nat.eq_zero_or_pos Y with h0 | h0; exact h0; have := nd_pos Y h0; omega); have hq : toL (X / Y) = [] := (by rw [hY0, Nat.div_zero]; rfl); have hd : toL (dr X Y) = [] := (by rw [dr, if_pos hY0]; rfl)
   refine Sr ?_
   refine Ru 3 rfl ?_
   refine Nk [6, 5, 4, 1, 0] rfl ?_
   rw [hq, hd, if_pos hY0]; exact J.retR (RetV.three rfl rfl rfl rfl) ⟨none, 0, none, 0, rfl, SlR.nil_, SlR.nil_⟩
  ·
   have hY0 : 0 < Y := (by rcases Nat.eq_zero_or_pos Y with h0 | h0; (exfalso; rw [h0, nd_zero] at m2; omega); exact h0)
   refine Sr ?_
   refine Ru 2 rfl ?_
   refine JL.callP ca_47 rfl (natcmp_fn hA hB) rfl ?_
   rw [v1, v2]
   refine Ru 2 rfl ?_
   refine Nk [26, 1, 0, 6, 5, 4] rfl ?_
   refine Cs rfl (fun hc7 => ?_) fun hc7 => ?_
   ·
    have hXY : X < Y := (by unfold cmpI3 at hc7; split at hc7; assumption; split at hc7 <;> omega); have hq : toL (X / Y) = [] := (by rw [Nat.div_eq_of_lt hXY]; rfl); have hd : toL (dr X Y) = toL X := (by rw [dr, if_neg (by omega), Nat.mod_eq_of_lt hXY])
    refine Sr ?_
    refine Ru 1 rfl ?_
    refine JL.callR ca_59 rfl (nattrim_fn' hA rfl (by omega)) rfl ?_
    rintro _ h8 hle8 ⟨ra, rc, rfl, hR⟩
    replace hl := hl.mono hle8
    replace hr := hr.mono hle8
    replace hh0 := hh0.mono hle8
    replace hA := hA.mono hle8
    replace hB := hB.mono hle8
    rw [v1, ← hd] at hR ⊢
    refine Ru 3 rfl ?_
    refine Nk [6, 5, 4, 1, 0] rfl ?_
    rw [hq, if_neg (by omega)]; exact J.retR (RetV.three rfl rfl rfl rfl) ⟨none, 0, _, _, rfl, SlR.nil_, hR⟩
   ·
    have hXY : Y ≤ X := (by unfold cmpI3 at hc7; split at hc7; omega; omega)
    refine Sr ?_
    refine Ru 4 rfl ?_
    refine Nk [33, 1, 0, 6, 5, 4] rfl ?_
    refine Cs rfl (fun hc9 => ?_) fun hc9 => ?_
    ·
     refine Sr ?_
     refine Ru 2 rfl ?_
     refine JL.ope (RunE.index sl_30 rfl rfl (show _ = ((0 : Nat) : Int) from rfl) (by assumption) rfl (by omega)) rfl ?_
     rintro _ ⟨b10, o10, hi10, rfl, hE10⟩
     refine JL.op (RunV.ld_u32 ag_103 rfl (by assumption)) rfl ?_
     rw [d32_at]
     refine JL.callR ca_120 rfl (natshort_fn (b := d32 B 0) hA (by have := vL_digit B 0; rw [v2] at this; rw [show B.length = 1 by omega] at hYlt; simp only [Nat.pow_zero, Nat.div_one, Nat.pow_one] at this hYlt; omega) (d32_lt B 0) (by omega)) rfl ?_
     rintro _ h12 hle12 ⟨qa, qc, ra, rc, rfl, hQ, hR⟩
     replace hl := hl.mono hle12
     replace hr := hr.mono hle12
     replace hh0 := hh0.mono hle12
     replace hA := hA.mono hle12
     replace hB := hB.mono hle12
     have hb0 : d32 B 0 = Y := (by have := vL_digit B 0; rw [v2] at this; rw [show B.length = 1 by omega] at hYlt; simp only [Nat.pow_zero, Nat.div_one, Nat.pow_one] at this hYlt; omega); rw [v1, hb0] at hQ hR ⊢; have hd : X % Y = dr X Y := (by rw [dr, if_neg (by omega)]); rw [hd] at hR ⊢
     refine Ru 6 rfl ?_
     refine Nk [6, 5, 4, 1, 0] rfl ?_
     rw [if_neg (by omega)]; exact J.retR (RetV.three rfl rfl rfl rfl) ⟨_, _, _, _, rfl, hQ, hR⟩
    ·
     have hB2 : 2 ≤ B.length := (by omega)
     refine J.skip ?_
     refine Sr ?_
     refine Ru 3 rfl ?_
     refine JL.op si_ rfl ?_
     refine JL.ope (RunE.index (m := B.length - 1) sl_30 rfl rfl (by omega) hB rfl (by omega)) rfl ?_
     rintro _ ⟨b13, o13, hi13, rfl, hE13⟩
     refine JL.op (RunV.ld_u32 ag_103 rfl (by assumption)) rfl ?_
     rw [d32_at]; obtain ⟨s, hs⟩ : ∃ s, s = 32 - bl (d32 B (B.length - 1)) := ⟨_, rfl⟩; have hdtop : d32 B (B.length - 1) = Y / 4294967296 ^ (B.length - 1) := (by rw [← vL_digit, v2]; exact Nat.mod_eq_of_lt (Nat.div_lt_of_lt_mul (by rw [← Nat.pow_succ, show (B.length - 1).succ = B.length by omega]; exact hYlt))); obtain ⟨s31, hV1, hV2, hd0, hdB⟩ := norm_ok m2 hY0 hdtop hs; have h2s := two_le32 s s31
     refine JL.callP ca_121 rfl (lz_fn hdB) rfl ?_
     rw [← hs]
     refine JL.op (by first | exact RunV.conv_u64 cv_3_93 rfl (by omega) (by omega) | exact RunV.conv cv_3_93 rfl) rfl ?_
     refine Ru 1 rfl ?_
     refine Nk [7, 1, 0, 6, 5, 4] rfl ?_
     refine J.seq ?_
     refine J.held ([]) 11 mixed_ rfl (fun h00 => ?_)
     refine JH.take 0 rfl (by kernel_rfl) (by kernel_rfl) (by kernel_rfl) (fun _ _ _ _ hh => hh) (br_ h00) (RunV.move rfl) rfl ?_
     refine JH.take 1 rfl (by kernel_rfl) (by kernel_rfl) (by kernel_rfl) (fun _ _ _ _ hh => hh) (br_ h00) (RunV.move rfl) rfl ?_
     refine JH.take 3 rfl (by kernel_rfl) (by kernel_rfl) (by kernel_rfl) (fun _ _ _ _ hh => hh) (br_ h00) (RunV.move rfl) rfl ?_
     refine JH.take 4 rfl (by kernel_rfl) (by kernel_rfl) (by kernel_rfl) (fun _ _ _ _ hh => hh) (br_ h00) (RunV.move rfl) rfl ?_
     refine JH.take 6 rfl (by kernel_rfl) (by kernel_rfl) (by kernel_rfl) (fun _ _ _ _ hh => hh) (br_ h00) (RunV.move rfl) rfl ?_
     refine JH.take 7 rfl (by kernel_rfl) (by kernel_rfl) (by kernel_rfl) (fun _ _ _ _ hh => hh) (br_ h00) (RunV.len sl_30 rfl) rfl ?_
     refine JH.all1 2 (by kernel_rfl) rfl ?_
     unfold One
     refine JL.call ca_122 rfl (natshifted_fn hA s31 (by omega)) pt_ rfl ?_
     rintro _ h16 Lo16 hle16 ⟨ub, rfl, rfl⟩
     replace hl := hl.mono hle16
     replace hr := hr.mono hle16
     replace hh0 := hh0.mono hle16
     replace hA := hA.mono hle16
     replace hB := hB.mono hle16
     refine JL.nil ⟨(br_ h00), ?_⟩
     refine JH.all1 5 (by kernel_rfl) rfl ?_
     unfold One
     refine JL.call ca_122 rfl (natshifted_fn hB s31 (by omega)) pt_ rfl ?_
     rintro _ h17 Lo17 hle17 ⟨vb, rfl, rfl⟩
     replace hl := hl.mono hle17
     replace hr := hr.mono hle17
     replace hh0 := hh0.mono hle17
     replace hA := hA.mono hle17
     replace hB := hB.mono hle17
     refine JL.nil ⟨(br_ h00), ?_⟩
     refine JH.take 8 rfl (by kernel_rfl) (by kernel_rfl) (by kernel_rfl) (fun _ _ _ _ hh => hh) (br_ h00) (RunV.cutv sl_30 rfl rfl rfl (by omega) (by omega)) rfl ?_
     refine JH.take 9 rfl (by kernel_rfl) (by kernel_rfl) (by kernel_rfl) (fun _ _ _ _ hh => hh) (br_ h00) (RunV.assign rfl) rfl ?_
     refine JH.take 10 rfl (by kernel_rfl) (by kernel_rfl) (by kernel_rfl) (fun _ _ _ _ hh => hh) (br_ h00) (RunV.assign rfl) rfl ?_
     refine JH.done (by kernel_rfl) ?_
     refine Kp [9, 8, 7, 1, 0, 6, 5, 4] rfl ?_
     refine Sr ?_
     have hle12 : B.length ≤ A.length := (by have := nd_mono hY0 hXY; omega); have hXU := u_bound hXlt h2s.2 (by omega) hle12 hV2; have hV0 : 0 < Y * 2 ^ s := Nat.mul_pos hY0 (Nat.two_pow_pos s); rw [v1, v2]; refine JL.pub32 (a := some ⟨vb, 0, none⟩) (l := digN (B.length + 1) (Y * 2 ^ s)) dl_ (by rw [digN_len]) (by rw [digN_len]; omega) (fun h9 hle9 hP9 => ?_); replace hl := hl.mono hle9; replace hr := hr.mono hle9; replace hh0 := hh0.mono hle9; replace hA := hA.mono hle9; replace hB := hB.mono hle9; have hV9 := hP9.takeN B.length; rw [digN_take B.length 1] at hV9; have hvV : vL (digN B.length (Y * 2 ^ s)) = Y * 2 ^ s := (by rw [vL_digN]; exact Nat.mod_eq_of_lt hV1); obtain ⟨M, hM⟩ : ∃ M, M = A.length - B.length + 1 := ⟨_, rfl⟩; rw [← hM] at hXU
     refine Ru 4 rfl ?_
     refine JL.op si_ rfl ?_
     refine JL.op ai_ rfl ?_
     refine JL.make1 mk_30 rfl rfl (m := M) (by omega) (by omega) (by omega) rfl rfl (fun bq => ?_); rw [ws_zero]
     refine Ru 1 rfl ?_
     refine Nk [10, 9, 8, 7, 1, 6, 5, 4] rfl ?_
     refine J.seq ?_
     refine Sr ?_
     refine Ru 2 rfl ?_
     refine JL.op si_ rfl ?_
     refine Ru 1 rfl ?_
     refine JL.nil ?_
     refine J.block ?_
     refine J.loop (fun t_ S_ h_ L_ => ∃ (g : Part) (j w : Nat) (qs : List UInt32), t_ = j + 1 ∧ S_ = [(1, .slice a9 B.length c9), (7, .int .u64 s), (8, .slice (some ⟨ub, 0, none⟩) (A.length + 1) (A.length + 1)), (9, .slice (some ⟨vb, 0, none⟩) B.length (B.length + 1)), (10, .slice (some ⟨bq, 0, none⟩) M M), (11, .int .i64 ((j : Int) - 1))] ∧ g = h_ ∧ L_ = [.row (some ⟨bq, 0, none⟩) M 103 1 M (ws .u32 qs), .row (some ⟨ub, 0, none⟩) (A.length + 1) 103 1 (A.length + 1) (ws .u32 (digN (A.length + 1) w))] ∧ (h.le g ∧ SlR u32R 1 g (some ⟨vb, 0, none⟩) (B.length + 1) (digN B.length (Y * 2 ^ s)) ∧ j ≤ M ∧ qs.length = M ∧ w = X * 2 ^ s % (Y * 2 ^ s * 4294967296 ^ j) ∧ vL qs = X * 2 ^ s / (Y * 2 ^ s * 4294967296 ^ j) * 4294967296 ^ j)) ⟨_, _, ?_, ⟨_, M, X * 2 ^ s, _, rfl, rfl, rfl, rfl, ⟨hh0, hV9, Nat.le_refl _, digN_len _ _, by rw [Nat.mod_eq_of_lt hXU], by rw [vL_digN, Nat.div_eq_of_lt hXU]; simp⟩⟩⟩ ?_
     ·
      repeat (first | exact trivial | refine ⟨rfl, ?_⟩ | refine ⟨(by exact some_int (by omega)), ?_⟩)
     rintro _ _ _ _ ⟨g, j, w, qs, rfl, rfl, rfl, rfl, hhg, hV9, hj, hql, hw0, hqv⟩
     refine J.seq ?_
     refine Sr ?_
     refine Ru 2 rfl ?_
     refine JL.nil ?_
     refine Cs rfl (fun hc19 => ?_) fun hc19 => ?_
     ·
      obtain ⟨i, rfl⟩ : ∃ i, j = i + 1 := ⟨j - 1, by omega⟩; have hwl : w < Y * 2 ^ s * 4294967296 ^ (i + 1) := (by rw [hw0]; exact Nat.mod_lt _ (Nat.mul_pos hV0 (Nat.pow_pos (by decide)))); obtain ⟨s1, s2⟩ := q_step (U := X * 2 ^ s) (k := i) hV0; rw [← hw0] at s1 s2; have htq := dq_lt hwl; obtain ⟨t, ht⟩ : ∃ t, t = w / (Y * 2 ^ s * 4294967296 ^ i) := ⟨_, rfl⟩; rw [← ht] at s2 htq; have hz : d32 qs i = 0 := (by rw [← vL_digit, hqv, Nat.pow_succ, Nat.mul_comm (4294967296 ^ i), ← Nat.mul_assoc, Nat.mul_div_cancel _ (Nat.pow_pos (by decide))]; exact Nat.mul_mod_left _ _); have hp := vL_put qs i t (by omega); rw [hz, Nat.div_eq_of_lt htq] at hp
      refine J.skip ?_
      refine J.seq ?_
      refine J.block ?_
      refine Rg ?_
      refine Ru 7 rfl ?_
      refine JL.op ai_ rfl ?_
      refine JL.op ai_ rfl ?_
      refine JL.op (RunV.window sl_30 (k := i) (m := i + B.length + 1) rfl rfl rfl (by omega) (by omega) (by omega) (by omega) (by omega)) rfl ?_
      rw [show i + B.length + 1 - i = B.length + 1 by omega]
      refine Ru 1 rfl ?_
      refine JL.call ca_123 rfl (natstep_fn' (N := A.length + 1) (w := w) (k := i) hV9 (by rw [digN_len]) hB2 (by rw [hvV]; omega) (by rw [hvV]; exact hwl) (by omega) (by omega)) pt_ rfl ?_
      rintro _ h20 Lo20 hle20 ⟨rfl, rfl⟩
      replace hhg := hhg.mono hle20
      replace hV9 := hV9.mono hle20
      rw [hvV, ← ht]
      refine JL.op (RunV.index_at sl_30 (m := i) rfl rfl (by omega) (by omega)) rfl ?_
      refine JL.storeW t ag_103 rfl rfl (by rw [Nat.mod_eq_of_lt htq]) dl_ (by omega) ?_
      refine JL.nil ?_
      refine Rg ?_
      refine Ru 1 rfl ?_
      refine JL.op si_ rfl ?_
      refine Ru 1 rfl ?_
      refine JL.nil ?_
      refine ⟨_, ?_, _, ?_, ⟨_, i, _, _, rfl, rfl, rfl, rfl, ⟨hhg, hV9, by omega, by rw [List.length_set]; exact hql, s1, by rw [s2, Nat.add_mul, Nat.mul_assoc, Nat.mul_comm 4294967296, ← Nat.pow_succ, ← hqv]; omega⟩⟩⟩
      ·
       omega
      ·
       repeat (first | exact trivial | refine ⟨rfl, ?_⟩ | refine ⟨(by exact some_int (by omega)), ?_⟩)
     ·
      have hj0 : j = 0 := (by omega); subst hj0; rw [Nat.pow_zero, Nat.mul_one] at hw0 hqv; rw [Nat.mul_one, Nat.mul_div_mul_right _ _ (Nat.two_pow_pos s)] at hqv; rw [Nat.mul_mod_mul_right] at hw0; have hR0 : w / 2 ^ s = dr X Y := (by rw [hw0, dr, if_neg (by omega)]; exact Nat.mul_div_cancel _ (Nat.two_pow_pos s)); have hRl : dr X Y < 4294967296 ^ B.length := (by rw [dr, if_neg (by omega)]; exact Nat.lt_trans (Nat.mod_lt _ hY0) hYlt)
      refine J.exit ?_
      refine Kp [1, 7, 8, 10] rfl ?_
      refine Sr ?_
      refine Ru 2 rfl ?_
      refine JL.make1 mk_30 rfl rfl (m := B.length) (by omega) (by omega) (by omega) rfl rfl (fun br => ?_); rw [ws_zero]
      refine Ru 1 rfl ?_
      refine JL.nil ?_
      refine J.seq ?_
      refine Sr ?_
      refine Ru 3 rfl ?_
      refine Nk [94, 93, 12, 7, 8, 10] rfl ?_
      refine J.block ?_
      refine J.loop (fun t_ S_ h_ L_ => ∃ (i : Nat) (out : List UInt32), t_ = B.length - i ∧ S_ = [(7, .int .u64 s), (8, .slice (some ⟨ub, 0, none⟩) (A.length + 1) (A.length + 1)), (10, .slice (some ⟨bq, 0, none⟩) M M), (12, .slice (some ⟨br, 0, none⟩) B.length B.length), (93, .int .i64 B.length), (94, .int .i64 i)] ∧ g = h_ ∧ L_ = [.row (some ⟨br, 0, none⟩) B.length 103 1 B.length (ws .u32 out), .row (some ⟨bq, 0, none⟩) M 103 1 M (ws .u32 qs), .row (some ⟨ub, 0, none⟩) (A.length + 1) 103 1 (A.length + 1) (ws .u32 (digN (A.length + 1) w))] ∧ (i ≤ B.length ∧ out.length = B.length ∧ vL out = dr X Y % 4294967296 ^ i)) ⟨_, _, ?_, ⟨0, _, rfl, rfl, rfl, rfl, ⟨by omega, digN_len _ _, by rw [vL_digN]; simp [Nat.mod_one]⟩⟩⟩ ?_
      ·
       repeat (first | exact trivial | refine ⟨rfl, ?_⟩)
      rintro _ _ _ _ ⟨i, out, rfl, rfl, rfl, rfl, hi, hol, hov⟩
      refine Sr ?_
      refine Ru 1 rfl ?_
      refine JL.nil ?_
      refine J.seq ?_
      refine Cs rfl (fun hc23 => ?_) fun hc23 => ?_
      ·
       have hi' : i < B.length := (by omega); have hu1 := digN_at (A.length + 1) w (i + 1) (by omega); have hu0 := digN_at (A.length + 1) w i (by omega); have rd := r_digit (w := w) (i := i) s31; rw [hR0] at rd; obtain ⟨d1, hd1⟩ : ∃ d, d = w / 4294967296 ^ (i + 1) % 4294967296 := ⟨_, rfl⟩; obtain ⟨d0', hd0'⟩ : ∃ d, d = w / 4294967296 ^ i % 4294967296 := ⟨_, rfl⟩; rw [← hd1] at hu1 rd; rw [← hd0'] at hu0 rd; have hb1 : d1 < 4294967296 := (by omega); have hb2 : d0' < 4294967296 := (by omega); have hzo : d32 out i = 0 := vL_zero_above (m := i) (by rw [hov]; exact Nat.mod_lt _ (Nat.pow_pos (by decide))) i (Nat.le_refl _); have hp := vL_put out i (dr X Y / 4294967296 ^ i % 4294967296) (by omega); rw [hzo, Nat.div_eq_of_lt (show dr X Y / 4294967296 ^ i % 4294967296 < 4294967296 by omega)] at hp; obtain ⟨y, hy⟩ : ∃ y, y = d1 * 4294967296 + d0' := ⟨_, rfl⟩; rw [← hy] at rd
       refine J.skip ?_
       refine J.seq ?_
       refine J.block ?_
       refine Sr ?_
       refine Ru 2 rfl ?_
       refine JL.nil ?_
       refine J.held ([.row (some ⟨ub, 0, none⟩) (A.length + 1) 103 1 (A.length + 1) (ws .u32 (digN (A.length + 1) w))]) 20 mixed_ rfl (fun h00 => ?_)
       refine JH.take 0 rfl (by kernel_rfl) (by kernel_rfl) (by kernel_rfl) (fun _ _ _ _ hh => hh) (br_ h00) (RunV.move rfl) rfl ?_
       refine JH.take 1 rfl (by kernel_rfl) (by kernel_rfl) (by kernel_rfl) (fun _ _ _ _ hh => hh) (br_ h00) (RunV.move rfl) rfl ?_
       refine JH.take 2 rfl (by kernel_rfl) (by kernel_rfl) (by kernel_rfl) (fun _ _ _ _ hh => hh) (br_ h00) (RunV.move rfl) rfl ?_
       refine JH.take 3 rfl (by kernel_rfl) (by kernel_rfl) (by kernel_rfl) (fun _ _ _ _ hh => hh) (br_ h00) (RunV.move rfl) rfl ?_
       refine JH.take 4 rfl (by kernel_rfl) (by kernel_rfl) (by kernel_rfl) (fun _ _ _ _ hh => hh) (br_ h00) ai_ rfl ?_
       refine JH.take 5 rfl (by kernel_rfl) (by kernel_rfl) (by kernel_rfl) (fun _ _ _ _ hh => hh) (br_ h00) (RunV.index_at sl_30 (m := i + 1) rfl rfl (by omega) (by omega)) rfl ?_
       refine JH.take 6 rfl (by kernel_rfl) (by kernel_rfl) (by kernel_rfl) (fun _ _ _ _ hh => hh) (br_ h00) (RunV.wload ag_103 rfl mm_ (by rw [digN_len]; omega)) rfl ?_
       rw [hu1]
       refine JH.take 7 rfl (by kernel_rfl) (by kernel_rfl) (by kernel_rfl) (fun _ _ _ _ hh => hh) (br_ h00) (by first | exact RunV.conv_u64 cv_103_63 rfl (by omega) (by omega) | exact RunV.convw_u64 cv_103_63 rfl | exact RunV.conv cv_103_63 rfl) rfl ?_
       refine JH.take 8 rfl (by kernel_rfl) (by kernel_rfl) (by kernel_rfl) (fun _ _ _ _ hh => hh) (br_ h00) (RunV.shl_u64 4294967296 rfl rfl (by decide) (by decide) (by decide) (by omega) (by omega)) rfl ?_
       refine JH.take 9 rfl (by kernel_rfl) (by kernel_rfl) (by kernel_rfl) (fun _ _ _ _ hh => hh) (br_ h00) (RunV.move rfl) rfl ?_
       refine JH.take 10 rfl (by kernel_rfl) (by kernel_rfl) (by kernel_rfl) (fun _ _ _ _ hh => hh) (br_ h00) (RunV.move rfl) rfl ?_
       refine JH.take 11 rfl (by kernel_rfl) (by kernel_rfl) (by kernel_rfl) (fun _ _ _ _ hh => hh) (br_ h00) (RunV.index_at sl_30 (m := i) rfl rfl (by omega) (by omega)) rfl ?_
       refine JH.take 12 rfl (by kernel_rfl) (by kernel_rfl) (by kernel_rfl) (fun _ _ _ _ hh => hh) (br_ h00) (RunV.wload ag_103 rfl mm_ (by rw [digN_len]; omega)) rfl ?_
       rw [hu0]
       refine JH.take 13 rfl (by kernel_rfl) (by kernel_rfl) (by kernel_rfl) (fun _ _ _ _ hh => hh) (br_ h00) (by first | exact RunV.conv_u64 cv_103_63 rfl (by omega) (by omega) | exact RunV.convw_u64 cv_103_63 rfl | exact RunV.conv cv_103_63 rfl) rfl ?_
       refine JH.take 14 rfl (by kernel_rfl) (by kernel_rfl) (by kernel_rfl) (fun _ _ _ _ hh => hh) (br_ h00) (RunV.join_u64 32 4294967296 rfl rfl (by decide) (by omega) (by omega) (by omega) (by omega) (by omega) (by omega)) rfl ?_
       rw [show (d1 : Int) * 4294967296 + (d0' : Int) = (y : Int) by omega]
       refine JH.take 15 rfl (by kernel_rfl) (by kernel_rfl) (by kernel_rfl) (fun _ _ _ _ hh => hh) (br_ h00) (RunV.move rfl) rfl ?_
       refine JH.take 16 rfl (by kernel_rfl) (by kernel_rfl) (by kernel_rfl) (fun _ _ _ _ hh => hh) (br_ h00) (RunV.shr_u64 ((2 ^ s : Nat) : Int) rfl rfl (by omega) (by omega) (by rw [Int.toNat_natCast, Int.natCast_pow]; rfl)) rfl ?_
       refine JH.take 17 rfl (by kernel_rfl) (by kernel_rfl) (by kernel_rfl) (fun _ _ _ _ hh => hh) (br_ h00) (RunV.toW (y / 2 ^ s) cv_63_103 rfl (by rw [Int.natCast_ediv])) rfl ?_
       refine JH.take 18 rfl (by kernel_rfl) (by kernel_rfl) (by kernel_rfl) (fun _ _ _ _ hh => hh) (br_ h00) (RunV.index_at sl_30 (m := i) rfl rfl (by omega) (by omega)) rfl ?_
       refine JH.all1 19 (by kernel_rfl) rfl ?_
       unfold One
       refine JL.storeW (dr X Y / 4294967296 ^ i % 4294967296) ag_103 rfl rfl (by rw [rd, Nat.mod_mod]) dl_ (by omega) ?_
       refine JL.nil ⟨(br_ h00), ?_⟩
       refine JH.done (by kernel_rfl) ?_
       refine Rg ?_
       refine JL.op ai_ rfl ?_
       refine Ru 1 rfl ?_
       refine JL.nil ?_
       refine ⟨_, ?_, _, ?_, ⟨i + 1, _, rfl, rfl, rfl, rfl, ⟨by omega, by rw [List.length_set]; exact hol, by rw [Nat.mod_pow_succ, Nat.mul_comm (4294967296 ^ i), ← hov]; omega⟩⟩⟩
       ·
        omega
       ·
        repeat (first | exact trivial | refine ⟨rfl, ?_⟩)
      ·
       have hie : i = B.length := (by omega); rw [hie, Nat.mod_eq_of_lt hRl] at hov
       refine J.exit ?_
       refine Kp [10, 12] rfl ?_
       refine Sr ?_
       refine JL.pub32 (a := some ⟨bq, 0, none⟩) (l := qs) dl_ hql.symm (by omega) (fun hp hlep hPq => ?_); replace hhg := hhg.mono hlep; replace hV9 := hV9.mono hlep; refine JL.pub32 (a := some ⟨br, 0, none⟩) (l := out) dl_ hol.symm (by omega) (fun hp2 hlep2 hPr => ?_); replace hhg := hhg.mono hlep2; replace hV9 := hV9.mono hlep2; replace hPq := hPq.mono hlep2
       refine Ru 1 rfl ?_
       refine JL.callR ca_59 rfl (nattrim_fn' hPq hql.symm (by omega)) rfl ?_
       rintro _ h25 hle25 ⟨qa, qc, rfl, hQ⟩
       replace hhg := hhg.mono hle25
       replace hV9 := hV9.mono hle25
       replace hPq := hPq.mono hle25
       replace hPr := hPr.mono hle25
       refine Ru 1 rfl ?_
       refine JL.callR ca_59 rfl (nattrim_fn' hPr hol.symm (by omega)) rfl ?_
       rintro _ h26 hle26 ⟨ra, rc, rfl, hR⟩
       replace hhg := hhg.mono hle26
       replace hV9 := hV9.mono hle26
       replace hPq := hPq.mono hle26
       replace hPr := hPr.mono hle26
       replace hQ := hQ.mono hle26
       refine Ru 3 rfl ?_
       refine Nk [6, 5, 4] rfl ?_
       rw [hqv] at hQ ⊢; rw [hov] at hR ⊢; rw [if_neg (by omega)]; exact J.retR (RetV.three rfl rfl rfl rfl) ⟨_, _, _, _, rfl, hQ, hR⟩
end Go.Proofs.YtmngjbefnloljaaGreatDoor
set_option linter.unusedSimpArgs false
set_option linter.unusedVariables false
set_option linter.constructorNameAsVariable false
namespace Go.Proofs.YtmngjbefnloljaaGreatDoor
open Go Go.RowKit
set_option maxRecDepth 100000
theorem ca_86 : callT Tryz.prog 86 = true := by kernel_rfl
theorem ca_88 : callT Tryz.prog 88 = true := by kernel_rfl
theorem bl_len' (l : List UInt32) : bl (vL l) ≤ 32 * l.length := by
  have := vL_lt l
  rw [pow32] at this
  exact bl_le _ _ this
def powV (X E N : Nat) : Nat := if N = 0 then 0 else X ^ E % N
theorem bit_at (m : List UInt32) (i : Nat) : d32 m (i / 32) / 2 ^ (i % 32) % 2 = vL m / 2 ^ i % 2 := by
  rw [← vL_digit]
  have e : vL m / 2 ^ i = vL m / 4294967296 ^ (i / 32) / 2 ^ (i % 32) := by
    rw [Nat.div_div_eq_div_mul, pow32, ← Nat.pow_add]; congr 2; omega
  rw [e]
  generalize vL m / 4294967296 ^ (i / 32) = y
  have hr : i % 32 < 32 := Nat.mod_lt _ (by decide)
  generalize i % 32 = r at *
  have e1 : 2 ^ r * (2 * 2 ^ (31 - r)) = 4294967296 := by rw [← Nat.pow_succ', ← Nat.pow_add, show r + (31 - r).succ = 32 by omega]
  have hp : 0 < 2 ^ r := Nat.two_pow_pos r
  have e2 : y = y % 4294967296 + 2 ^ r * (2 * (2 ^ (31 - r) * (y / 4294967296))) := by
    have e3 : 2 ^ r * (2 * (2 ^ (31 - r) * (y / 4294967296))) = (2 ^ r * (2 * 2 ^ (31 - r))) * (y / 4294967296) := by grind
    rw [e3, e1]; omega
  conv => rhs; rw [e2]
  rw [Nat.add_mul_div_left _ _ hp, Nat.add_mul_mod_self_left]
theorem half_bit (E i : Nat) : E / 2 ^ i = 2 * (E / 2 ^ (i + 1)) + E / 2 ^ i % 2 := by
  rw [Nat.pow_succ, ← Nat.div_div_eq_div_mul]; omega
theorem pow_sq (X E N i : Nat) : (X ^ (E / 2 ^ (i + 1)) % N) * (X ^ (E / 2 ^ (i + 1)) % N) % N = X ^ (2 * (E / 2 ^ (i + 1))) % N := by
  rw [← Nat.mul_mod, ← Nat.pow_add, Nat.two_mul]
theorem pow_one (X Z N : Nat) : (X ^ Z % N) * (X % N) % N = X ^ (Z + 1) % N := by
  rw [← Nat.mul_mod, ← Nat.pow_succ]
theorem toL_le {v : Nat} {r : List UInt32} (h : v < vL r) : (toL v).length ≤ r.length := by
  rw [toL_len]; exact nd_le _ _ (Nat.lt_trans h (vL_lt r))
theorem mul_len {r : List UInt32} {x y N : Nat} (h0 : 0 < vL r) (hx : x < vL r) (hy : y < vL r) (hr : r.length ≤ N) : (toL (x * y)).length ≤ N + N := by
  rw [toL_len]
  exact Nat.le_trans (nd_le _ _ (mul_bound (Nat.lt_trans hx (vL_lt r)) (Nat.lt_trans hy (vL_lt r)))) (by omega)
theorem natpow_fn {a b d : Option Addr} {ca cb cd : Nat} {l m r : List UInt32} {h : Part} (hl : SlR u32R 1 h a ca l) (hm : SlR u32R 1 h b cb m) (hr : SlR u32R 1 h d cd r) (hlb : l.length ≤ 100000) (hmb : m.length ≤ 100000) (hrb : r.length ≤ 100000) : FnR Tryz.prog 41 [.slice a l.length ca, .slice b m.length cb, .slice d r.length cd] h
    (fun v h' => ∃ a1 c1, v = .tuple #[.slice a1 (toL (powV (vL l) (vL m) (vL r))).length c1, .int .i64 (if vL r = 0 then 10 else 0)] ∧ SlR u32R 1 h' a1 c1 (toL (powV (vL l) (vL m) (vL r)))) := by
  have hbl := bl_len' m
  have v1 : vL (toL 1) = 1 := vL_toL 1
  have l1 : (toL 1).length = 1 := by kernel_rfl
  refine Fn.intro Tryz.func41 rfl Tryz.ntmps41 rfl (fun e he => ?_)
  refine J.weak [(0, _), (1, _), (2, _)] ⟨rfl, rfl, rfl, trivial⟩ ?_
  have hh0 := Part.le.refl h
  refine Sr ?_
  refine Ru 2 rfl ?_
  refine JL.nil ?_
  refine Sr ?_
  refine Ru 2 rfl ?_
  refine JL.callR ca_86 rfl (natdiv_fn hl hr (by omega) (by omega)) rfl ?_
  rintro _ h1 hle1 ⟨qa, qc, xa, xc, rfl, hQ, hX⟩
  replace hl := hl.mono hle1
  replace hm := hm.mono hle1
  replace hr := hr.mono hle1
  replace hh0 := hh0.mono hle1
  refine Ru 7 rfl ?_
  refine Nk [10, 9, 7, 6, 1, 2] rfl ?_
  refine J.seq ?_
  refine Sr ?_
  refine Ru 2 rfl ?_
  refine JL.nil ?_
  refine Cs rfl (fun hc2 => ?_) fun hc2 => ?_
  ·
   have hN0 : vL r = 0 := (by by_cases hz : vL r = 0; exact hz; rw [if_neg hz] at hc2; exact absurd rfl hc2); have hp : toL (powV (vL l) (vL m) (vL r)) = [] := (by rw [powV, if_pos hN0]; rfl)
   refine Sr ?_
   refine Ru 3 rfl ?_
   refine Nk [7, 6, 9, 1, 2] rfl ?_
   rw [hp]; exact J.retR (RetV.two rfl rfl rfl) ⟨none, 0, rfl, SlR.nil_⟩
  ·
   have hN0 : 0 < vL r := (by by_cases hz : vL r = 0; (rw [if_pos hz] at hc2; exact absurd hc2 (by decide)); omega); have hdr : ∀ z, dr z (vL r) = z % vL r := (fun z => if_neg (by omega)); rw [hdr] at hX ⊢
   refine J.skip ?_
   refine Sr ?_
   refine JL.callR ca_87 rfl (natOf_fn (n := 1) (by decide)) rfl ?_
   rintro _ h3 hle3 ⟨oa, oc, rfl, hO1⟩
   replace hl := hl.mono hle3
   replace hm := hm.mono hle3
   replace hr := hr.mono hle3
   replace hh0 := hh0.mono hle3
   replace hX := hX.mono hle3
   refine Ru 1 rfl ?_
   refine JL.callR ca_86 rfl (natdiv_fn hO1 hr (by omega) (by omega)) rfl ?_
   rintro _ h4 hle4 ⟨qa2, qc2, ya, yc, rfl, hQ2, hY⟩
   replace hl := hl.mono hle4
   replace hm := hm.mono hle4
   replace hr := hr.mono hle4
   replace hh0 := hh0.mono hle4
   replace hX := hX.mono hle4
   replace hO1 := hO1.mono hle4
   rw [v1, hdr] at hY ⊢
   refine Ru 7 rfl ?_
   refine Nk [12, 9, 7, 6, 1, 2] rfl ?_
   refine J.seq ?_
   refine Sr ?_
   refine Ru 1 rfl ?_
   refine JL.callP ca_40 rfl (natbits_fn (by assumption)) rfl ?_
   rw [nbits_vL]
   refine JL.op si_ rfl ?_
   refine Ru 1 rfl ?_
   refine JL.nil ?_
   refine J.block ?_
   refine J.loop (fun t_ S_ h_ L_ => ∃ (g : Part) (j : Nat) (O : List UInt32) (oa2 : Option Addr) (oc2 : Nat), t_ = j + 1 ∧ S_ = [(1, .slice b m.length cb), (2, .slice d r.length cd), (9, .slice xa (toL (vL l % vL r)).length xc), (12, .slice oa2 O.length oc2), (14, .int .i64 ((j : Int) - 1))] ∧ g = h_ ∧ L_ = [] ∧ (h.le g ∧ SlR u32R 1 g b cb m ∧ SlR u32R 1 g d cd r ∧ SlR u32R 1 g xa xc (toL (vL l % vL r)) ∧ SlR u32R 1 g oa2 oc2 O ∧ j ≤ bl (vL m) ∧ O = toL (vL l ^ (vL m / 2 ^ j) % vL r))) ⟨_, _, ?_, ⟨_, bl (vL m), _, ya, yc, rfl, rfl, rfl, rfl, ⟨hh0, hm, hr, hX, hY, Nat.le_refl _, by rw [Nat.div_eq_of_lt (lt_bl (vL m)), Nat.pow_zero]⟩⟩⟩ ?_
   ·
    repeat (first | exact trivial | refine ⟨rfl, ?_⟩ | refine ⟨(by exact some_int (by omega)), ?_⟩)
   rintro _ _ _ _ ⟨g, j, O, oa2, oc2, rfl, rfl, rfl, rfl, hhg, hm, hr, hX, hO, hj, hOe⟩
   refine J.seq ?_
   refine Sr ?_
   refine Ru 2 rfl ?_
   refine JL.nil ?_
   refine Cs rfl (fun hc6 => ?_) fun hc6 => ?_
   ·
    obtain ⟨i, rfl⟩ : ∃ i, j = i + 1 := ⟨j - 1, by omega⟩; subst hOe; obtain ⟨Z, hZ⟩ : ∃ Z, Z = vL m / 2 ^ (i + 1) := ⟨_, rfl⟩; have hsq := pow_sq (vL l) (vL m) (vL r) i; have hhb := half_bit (vL m) i; have hba := bit_at m i; obtain ⟨bq, hbq⟩ : ∃ bq, bq = d32 m (i / 32) / 2 ^ (i % 32) := ⟨_, rfl⟩; have hbq2 : bq ≤ d32 m (i / 32) := (by rw [hbq]; exact Nat.div_le_self _ _); rw [← hbq] at hba; rw [← hZ] at hO hsq hhb; rw [← hZ]; have hlen1 := toL_le (r := r) (Nat.mod_lt (vL l ^ Z) hN0); have hlen2 := toL_le (r := r) (Nat.mod_lt (vL l) hN0); have hlen3 := toL_le (r := r) (Nat.mod_lt (vL l ^ (2 * Z)) hN0)
    refine J.skip ?_
    refine J.seq ?_
    refine J.block ?_
    refine Sr ?_
    refine Ru 2 rfl ?_
    refine JL.callR ca_88 rfl (natmul_fn hO hO (by omega) (by omega)) rfl ?_
    rintro _ h7 hle7 ⟨pa, pc, rfl, hP⟩
    replace hhg := hhg.mono hle7
    replace hm := hm.mono hle7
    replace hr := hr.mono hle7
    replace hX := hX.mono hle7
    replace hO := hO.mono hle7
    rw [vL_toL] at hP ⊢; have hlenP : (toL (vL l ^ Z % vL r * (vL l ^ Z % vL r))).length ≤ 200000 := (mul_len hN0 (Nat.mod_lt _ hN0) (Nat.mod_lt _ hN0) hrb)
    refine Ru 1 rfl ?_
    refine JL.callR ca_86 rfl (natdiv_fn hP hr (by omega) (by omega)) rfl ?_
    rintro _ h8 hle8 ⟨qa3, qc3, sa, sc, rfl, hQ3, hS⟩
    replace hhg := hhg.mono hle8
    replace hm := hm.mono hle8
    replace hr := hr.mono hle8
    replace hX := hX.mono hle8
    replace hO := hO.mono hle8
    replace hP := hP.mono hle8
    rw [vL_toL, hdr, hsq] at hS ⊢
    refine Ru 5 rfl ?_
    refine JL.nil ?_
    refine Sr ?_
    refine Ru 2 rfl ?_
    refine JL.op (by first | exact RunV.quo_i64 rfl rfl (by omega) (by omega) (by omega) | exact RunV.quo rfl rfl (by omega)) rfl ?_
    refine JL.ope (RunE.index (m := i / 32) sl_30 rfl rfl (by omega) hm rfl (by omega)) rfl ?_
    rintro _ ⟨b9, o9, hi9, rfl, hE9⟩
    refine JL.op (RunV.ld_u32 ag_103 rfl (by assumption)) rfl ?_
    rw [d32_at]; have bi32 := d32_lt m (i / 32)
    refine Ru 1 rfl ?_
    refine JL.op (by first | exact RunV.rem_i64 rfl rfl (by omega) (by omega) | exact RunV.rem rfl rfl (by omega)) rfl ?_
    refine JL.op (RunV.shr_u32 ((2 ^ (i % 32) : Nat) : Int) rfl rfl (by omega) (by omega) (by rw [show ((((i + 1 : Nat) : Int) - 1) % 32).toNat = i % 32 by omega, Int.natCast_pow]; rfl)) rfl ?_
    rw [show ((d32 m (i / 32) : Nat) : Int) / ((2 ^ (i % 32) : Nat) : Int) = ((d32 m (i / 32) / 2 ^ (i % 32) : Nat) : Int) from rfl, ← hbq]
    refine JL.op (RunV.mask_u32 1 2 rfl rfl (by decide) (by decide) (by decide) (by omega) (by omega)) rfl ?_
    refine Ru 1 rfl ?_
    refine JL.nil ?_
    refine Cs rfl (fun hc11 => ?_) fun hc11 => ?_
    ·
     have hbit : vL m / 2 ^ i = 2 * Z + 1 := (by omega); have hp1 := pow_one (vL l) (2 * Z) (vL r)
     refine Rg ?_
     refine Ru 2 rfl ?_
     refine JL.callR ca_88 rfl (natmul_fn hS hX (by omega) (by omega)) rfl ?_
     rintro _ h12 hle12 ⟨pa4, pc4, rfl, hP4⟩
     replace hhg := hhg.mono hle12
     replace hm := hm.mono hle12
     replace hr := hr.mono hle12
     replace hX := hX.mono hle12
     replace hO := hO.mono hle12
     replace hP := hP.mono hle12
     replace hS := hS.mono hle12
     rw [vL_toL, vL_toL] at hP4 ⊢; have hlenP4 : (toL (vL l ^ (2 * Z) % vL r * (vL l % vL r))).length ≤ 200000 := (mul_len hN0 (Nat.mod_lt _ hN0) (Nat.mod_lt _ hN0) hrb)
     refine Ru 1 rfl ?_
     refine JL.callR ca_86 rfl (natdiv_fn hP4 hr (by omega) (by omega)) rfl ?_
     rintro _ h13 hle13 ⟨qa5, qc5, ta, tc, rfl, hQ5, hT⟩
     replace hhg := hhg.mono hle13
     replace hm := hm.mono hle13
     replace hr := hr.mono hle13
     replace hX := hX.mono hle13
     replace hO := hO.mono hle13
     replace hP := hP.mono hle13
     replace hS := hS.mono hle13
     replace hP4 := hP4.mono hle13
     rw [vL_toL, hdr, hp1, ← hbit] at hT ⊢
     refine Ru 5 rfl ?_
     refine Nk [12, 65, 58, 63, 62, 61, 60, 59, 57, 56, 55, 54, 53, 52, 51, 50, 49, 48, 46, 39, 44, 43, 42, 41, 40, 36, 35, 1, 2, 9, 14] rfl ?_
     refine Rg ?_
     refine Ru 1 rfl ?_
     refine JL.op si_ rfl ?_
     refine Ru 1 rfl ?_
     refine JL.nil ?_
     refine ⟨_, ?_, _, ?_, ⟨_, i, _, ta, tc, rfl, rfl, rfl, rfl, ⟨hhg, hm, hr, hX, hT, by omega, rfl⟩⟩⟩
     ·
      omega
     ·
      repeat (first | exact trivial | refine ⟨rfl, ?_⟩ | refine ⟨(by exact some_int (by omega)), ?_⟩)
    ·
     have hbit : vL m / 2 ^ i = 2 * Z := (by omega); rw [← hbit] at hS ⊢
     refine J.skip ?_
     refine Kp [57, 56, 55, 54, 53, 52, 51, 50, 49, 48, 12, 46, 39, 44, 43, 42, 41, 40, 36, 35, 1, 2, 9, 14] rfl ?_
     refine Rg ?_
     refine Ru 1 rfl ?_
     refine JL.op si_ rfl ?_
     refine Ru 1 rfl ?_
     refine JL.nil ?_
     refine ⟨_, ?_, _, ?_, ⟨_, i, _, sa, sc, rfl, rfl, rfl, rfl, ⟨hhg, hm, hr, hX, hS, by omega, rfl⟩⟩⟩
     ·
      omega
     ·
      repeat (first | exact trivial | refine ⟨rfl, ?_⟩ | refine ⟨(by exact some_int (by omega)), ?_⟩)
   ·
    have hj0 : j = 0 := (by omega); subst hj0; subst hOe; rw [Nat.pow_zero, Nat.div_one] at hO ⊢; have hpv : powV (vL l) (vL m) (vL r) = vL l ^ vL m % vL r := if_neg (by omega)
    refine J.exit ?_
    refine Kp [12] rfl ?_
    refine Sr ?_
    refine Ru 3 rfl ?_
    refine JL.nil ?_
    rw [hpv, if_neg (by omega)]; exact J.retR (RetV.two rfl rfl rfl) ⟨_, _, rfl, hO⟩
end Go.Proofs.YtmngjbefnloljaaGreatDoor
set_option linter.unusedSimpArgs false
set_option linter.unusedVariables false
set_option linter.constructorNameAsVariable false
namespace Go.Proofs.YtmngjbefnloljaaGreatDoor
open Go Go.RowKit
end Go.Proofs.YtmngjbefnloljaaGreatDoor
set_option linter.unusedSimpArgs false
set_option linter.unusedVariables false
set_option linter.constructorNameAsVariable false
namespace Go.Proofs.YtmngjbefnloljaaGreatDoor
open Go Go.RowKit
set_option maxRecDepth 100000
end Go.Proofs.YtmngjbefnloljaaGreatDoor
set_option linter.unusedSimpArgs false
set_option linter.unusedVariables false
set_option linter.constructorNameAsVariable false
namespace Go.Proofs.YtmngjbefnloljaaGreatDoor
open Go Go.RowKit
set_option maxRecDepth 100000
def atOk (y m d hh mi s : Int) : Prop := 0 ≤ y ∧ y ≤ 9999 ∧ 1 ≤ m ∧ m ≤ 12 ∧ 1 ≤ d ∧ d ≤ monthI y m ∧ 0 ≤ hh ∧ hh ≤ 23 ∧ 0 ≤ mi ∧ mi ≤ 59 ∧ 0 ≤ s ∧ s ≤ 59
instance (y m d hh mi s : Int) : Decidable (atOk y m d hh mi s) := by unfold atOk; infer_instance
end Go.Proofs.YtmngjbefnloljaaGreatDoor
set_option linter.unusedSimpArgs false
set_option linter.unusedVariables false
set_option linter.constructorNameAsVariable false
namespace Go.Proofs.YtmngjbefnloljaaGreatDoor
open Go Go.RowKit
end Go.Proofs.YtmngjbefnloljaaGreatDoor
set_option linter.unusedSimpArgs false
set_option linter.unusedVariables false
set_option linter.constructorNameAsVariable false
namespace Go.Proofs.YtmngjbefnloljaaGreatDoor
open Go Go.RowKit
set_option maxRecDepth 100000
end Go.Proofs.YtmngjbefnloljaaGreatDoor
set_option linter.unusedSimpArgs false
set_option linter.unusedVariables false
set_option linter.constructorNameAsVariable false
namespace Go.Proofs.YtmngjbefnloljaaGreatDoor
open Go Go.RowKit
set_option maxRecDepth 100000
theorem ca_22 : callT Tryz.prog 22 = true := by kernel_rfl
theorem mk_66 : mkT Tryz.prog 66 = some (63, .int .u64 0, 8) := by kernel_rfl
theorem number32_fn {a : Option Addr} {c n : Nat} {l : List UInt32} {h : Part} (hl : SlR u64R 1 h a c (l.map m64)) (hn : n = l.length) (hlen : l.length ≤ 1000000) : FnR Tryz.prog 58 [.slice a n c] h (fun v h' => ∃ a' c', v = .slice a' (toL (vL l)).length c' ∧ SlR u32R 1 h' a' c' (toL (vL l))) := by
  have hml : (l.map m64).length = l.length := List.length_map ..
  have := number_fn hl (fun i => by rw [d64_map]; exact d32_lt l i) (by omega)
  rw [hml, ← hn, cutZ_map, map_n32] at this
  exact this
def pw (i : Nat) : Nat := if i = 0 then 1 else 256 ^ ((i - 1) % 4 + 1)
theorem pw_next (i : Nat) : pw (i + 1) = 256 ^ (i % 4) * 256 := by unfold pw; rw [if_neg (by omega), Nat.add_sub_cancel, Nat.pow_succ]
theorem pw_keep (i : Nat) (h : i % 4 ≠ 0) : pw i = 256 ^ (i % 4) := by
  unfold pw; rw [if_neg (by omega)]; congr 1; omega
theorem rread_fn {a : Option Addr} {c : Nat} {l : List UInt8} {h : Part} (hl : SlR u8R 1 h a c l) (hlen : l.length ≤ 3000000) : FnR Tryz.prog 22 [.slice a l.length c] h (fun v h' => ∃ a' c', v = .slice a' (toL (beV l)).length c' ∧ SlR u32R 1 h' a' c' (toL (beV l))) := by
  refine Fn.intro Tryz.func22 rfl Tryz.ntmps22 rfl (fun e he => ?_)
  refine J.weak [(0, _)] ⟨rfl, trivial⟩ ?_
  have hh0 := Part.le.refl h
  refine Sr ?_
  refine Ru 1 rfl ?_
  refine JL.nil ?_
  refine Sr ?_
  refine Ru 2 rfl ?_
  refine JL.op (by first | exact RunV.quo_i64 rfl rfl (by omega) (by omega) (by omega) | exact RunV.quo rfl rfl (by omega)) rfl ?_
  refine JL.op ai_ rfl ?_
  refine JL.make1 mk_66 rfl rfl (m := l.length / 4 + 1) (by omega) (by omega) (by omega) rfl rfl (fun b1 => ?_); rw [ws_zero]
  refine Ru 1 rfl ?_
  refine Nk [3, 2, 0] rfl ?_
  refine Sr ?_
  refine Ru 1 rfl ?_
  refine JL.nil ?_
  refine J.seq ?_
  refine Sr ?_
  refine Ru 1 rfl ?_
  refine JL.nil ?_
  refine J.block ?_
  refine J.loop (fun t_ S_ h_ L_ => ∃ (i v : Nat), t_ = l.length - i ∧ S_ = [(0, .slice a l.length c), (3, .slice (some ⟨b1, 0, none⟩) (l.length / 4 + 1) (l.length / 4 + 1)), (4, .int .u64 (pw i : Nat)), (5, .int .i64 i)] ∧ h = h_ ∧ L_ = [.row (some ⟨b1, 0, none⟩) (l.length / 4 + 1) 63 1 (l.length / 4 + 1) (ws .u64 (digN (l.length / 4 + 1) v))] ∧ (i ≤ l.length ∧ v = beV (l.drop (l.length - i)))) ⟨_, _, ?_, ⟨0, 0, rfl, rfl, rfl, rfl, ⟨by omega, by simp [beV]⟩⟩⟩ ?_
  ·
   repeat (first | exact trivial | refine ⟨rfl, ?_⟩ | refine ⟨(by exact some_int (by rw [pw_next, Int.natCast_mul]; rfl)), ?_⟩)
  rintro _ _ _ _ ⟨i, v, rfl, rfl, rfl, rfl, hi, hv⟩
  refine J.seq ?_
  refine Sr ?_
  refine Ru 4 rfl ?_
  refine JL.nil ?_
  refine Cs rfl (fun hc2 => ?_) fun hc2 => ?_
  ·
   have hi' : i < l.length := (by omega); have hvl := beV_drop_lt l i (by omega); have hbl := byteAt_lt l (l.length - 1 - i); have hdb := digN_byte (l.length / 4 + 1) _ _ i hvl hbl (by omega); have hst := beV_drop l i hi'; have hd0 := digN_at (l.length / 4 + 1) (beV (l.drop (l.length - i))) (i / 4) (by omega); have hr4 := pow4 (i % 4) (by omega); have hbe := byteAt_eq l (l.length - 1 - i) (by omega); rw [← hv] at hvl hdb hst hd0; have hsb : 256 ^ (i % 4) * byteAt l (l.length - 1 - i) ≤ 4278190080 := (by rcases hr4 with e | e | e | e <;> rw [e] <;> omega); have hsum : v / 4294967296 ^ (i / 4) + byteAt l (l.length - 1 - i) * 256 ^ (i % 4) < 4294967296 := (by have := hdb.2; rcases hr4 with e | e | e | e <;> rw [e] at this ⊢ <;> omega); have hdd : d32 (digN (l.length / 4 + 1) v) (i / 4) = v / 4294967296 ^ (i / 4) := (by rw [hd0]; exact Nat.mod_eq_of_lt (by omega)); have hp16 : 256 ^ (i % 4) ≤ 16777216 := (by rcases hr4 with e | e | e | e <;> rw [e] <;> omega)
   refine J.skip ?_
   refine J.seq ?_
   refine J.block ?_
   refine J.seq ?_
   refine Sr ?_
   refine Ru 1 rfl ?_
   refine JL.op (by first | exact RunV.rem_i64 rfl rfl (by omega) (by omega) | exact RunV.rem rfl rfl (by omega)) rfl ?_
   refine Ru 1 rfl ?_
   refine JL.nil ?_
   refine J.meet [(4, .int .u64 (256 ^ (i % 4) : Nat))] [(18, _), (17, _), (14, _), (13, _), (12, _), (11, _), (0, _), (3, _), (5, _)] ⟨rfl, rfl, rfl, rfl, rfl, rfl, rfl, rfl, rfl, trivial⟩ ?_ ?_
   ·
    refine Cs rfl (fun hc3 => ?_) fun hc3 => ?_
    ·
     refine Rg ?_
     refine Ru 1 rfl ?_
     refine JL.nil ?_
     refine ⟨rfl, rfl, ?_⟩
     repeat (first | exact trivial | refine ⟨rfl, ?_⟩ | refine ⟨(by exact some_int (by first | (rw [pw_keep i (by omega)]; done) | (rw [show i % 4 = 0 by omega]; rfl))), ?_⟩)
    ·
     refine J.skip ?_
     refine ⟨rfl, rfl, ?_⟩
     repeat (first | exact trivial | refine ⟨rfl, ?_⟩ | refine ⟨(by exact some_int (by first | (rw [pw_keep i (by omega)]; done) | (rw [show i % 4 = 0 by omega]; rfl))), ?_⟩)
   ·
    refine J.seq ?_
    refine J.held ([]) 22 mixed_ rfl (fun h00 => ?_)
    refine JH.take 0 rfl (by kernel_rfl) (by kernel_rfl) (by kernel_rfl) (fun _ _ _ _ hh => hh) (br_ h00) (RunV.move rfl) rfl ?_
    refine JH.take 1 rfl (by kernel_rfl) (by kernel_rfl) (by kernel_rfl) (fun _ _ _ _ hh => hh) (br_ h00) (RunV.move rfl) rfl ?_
    refine JH.take 2 rfl (by kernel_rfl) (by kernel_rfl) (by kernel_rfl) (fun _ _ _ _ hh => hh) (br_ h00) (by first | exact RunV.quo_i64 rfl rfl (by omega) (by omega) (by omega) | exact RunV.quo rfl rfl (by omega)) rfl ?_
    refine JH.take 3 rfl (by kernel_rfl) (by kernel_rfl) (by kernel_rfl) (fun _ _ _ _ hh => hh) (br_ h00) (RunV.move rfl) rfl ?_
    refine JH.take 4 rfl (by kernel_rfl) (by kernel_rfl) (by kernel_rfl) (fun _ _ _ _ hh => hh) (br_ h00) (RunV.move rfl) rfl ?_
    refine JH.take 5 rfl (by kernel_rfl) (by kernel_rfl) (by kernel_rfl) (fun _ _ _ _ hh => hh) (br_ h00) (by first | exact RunV.quo_i64 rfl rfl (by omega) (by omega) (by omega) | exact RunV.quo rfl rfl (by omega)) rfl ?_
    refine JH.take 6 rfl (by kernel_rfl) (by kernel_rfl) (by kernel_rfl) (fun _ _ _ _ hh => hh) (br_ h00) (RunV.index_at sl_66 (m := i / 4) rfl rfl (by omega) (by omega)) rfl ?_
    refine JH.take 8 rfl (by kernel_rfl) (by kernel_rfl) (by kernel_rfl) (fun _ _ _ _ hh => hh) (br_ h00) (RunV.move rfl) rfl ?_
    refine JH.take 9 rfl (by kernel_rfl) (by kernel_rfl) (by kernel_rfl) (fun _ _ _ _ hh => hh) (br_ h00) (RunV.move rfl) rfl ?_
    refine JH.take 10 rfl (by kernel_rfl) (by kernel_rfl) (by kernel_rfl) (fun _ _ _ _ hh => hh) (br_ h00) (RunV.move rfl) rfl ?_
    refine JH.take 11 rfl (by kernel_rfl) (by kernel_rfl) (by kernel_rfl) (fun _ _ _ _ hh => hh) (br_ h00) (RunV.len sl_22 rfl) rfl ?_
    refine JH.take 12 rfl (by kernel_rfl) (by kernel_rfl) (by kernel_rfl) (fun _ _ _ _ hh => hh) (br_ h00) si_ rfl ?_
    refine JH.take 13 rfl (by kernel_rfl) (by kernel_rfl) (by kernel_rfl) (fun _ _ _ _ hh => hh) (br_ h00) (RunV.move rfl) rfl ?_
    refine JH.take 14 rfl (by kernel_rfl) (by kernel_rfl) (by kernel_rfl) (fun _ _ _ _ hh => hh) (br_ h00) si_ rfl ?_
    refine JH.takeE 15 rfl (by kernel_rfl) (by kernel_rfl) (by kernel_rfl) (fun _ _ _ _ hh => hh) (br_ h00) (RunE.index (m := l.length - 1 - i) sl_22 rfl rfl (by omega) hl rfl (by omega)) rfl ?_
    rintro _ ⟨b8, o8, hi8, rfl, hE8⟩
    refine JH.take 16 rfl (by kernel_rfl) (by kernel_rfl) (by kernel_rfl) (fun _ _ _ _ hh => hh) (br_ h00) ((hbe ▸ RunV.ld_u8 ag_5 rfl hE8 : RunV _ _ _ _ _ _ (.int .u8 (byteAt l (l.length - 1 - i) : Nat)))) rfl ?_
    refine JH.take 17 rfl (by kernel_rfl) (by kernel_rfl) (by kernel_rfl) (fun _ _ _ _ hh => hh) (br_ h00) (RunV.conv_u64 cv_5_63 rfl (by omega) (by omega)) rfl ?_
    refine JH.take 18 rfl (by kernel_rfl) (by kernel_rfl) (by kernel_rfl) (fun _ _ _ _ hh => hh) (br_ h00) (RunV.mul_u64 rfl rfl (by rw [← Int.natCast_mul]; omega) (by rw [← Int.natCast_mul]; omega)) rfl ?_
    refine JH.all1 7 (by kernel_rfl) rfl ?_
    unfold One
    refine JL.op (RunV.wload ag_63 rfl mm_ (by rw [digN_len]; omega)) rfl ?_
    refine JL.nil ⟨(br_ h00), ?_⟩
    refine JH.take 19 rfl (by kernel_rfl) (by kernel_rfl) (by kernel_rfl) (fun _ _ _ _ hh => hh) (br_ h00) (RunV.add_u64 rfl rfl (by rw [← Int.natCast_mul]; omega) (by rw [← Int.natCast_mul]; omega)) rfl ?_
    refine JH.take 20 rfl (by kernel_rfl) (by kernel_rfl) (by kernel_rfl) (fun _ _ _ _ hh => hh) (br_ h00) (RunV.index_at sl_66 (m := i / 4) rfl rfl (by omega) (by omega)) rfl ?_
    refine JH.all1 21 (by kernel_rfl) rfl ?_
    unfold One
    refine JL.storeW (v / 4294967296 ^ (i / 4) + byteAt l (l.length - 1 - i) * 256 ^ (i % 4)) ag_63 rfl rfl (by rw [Nat.mod_eq_of_lt hsum, hdd, ← Int.natCast_mul, ← Int.natCast_add, Nat.mul_comm]) dl_ (by rw [digN_len]; omega) ?_
    rw [← hdb.1]
    refine JL.nil ⟨(br_ h00), ?_⟩
    refine JH.done (by kernel_rfl) ?_
    refine Rg ?_
    refine Ru 1 rfl ?_
    refine JL.op (RunV.mul_u64 rfl rfl (by omega) (by omega)) rfl ?_
    refine Ru 1 rfl ?_
    refine JL.nil ?_
    refine Rg ?_
    refine Ru 1 rfl ?_
    refine JL.op ai_ rfl ?_
    refine Ru 1 rfl ?_
    refine JL.nil ?_
    refine ⟨_, ?_, _, ?_, ⟨i + 1, v + byteAt l (l.length - 1 - i) * 256 ^ i, rfl, rfl, rfl, rfl, ⟨by omega, by rw [hst, Nat.add_comm]⟩⟩⟩
    ·
     omega
    ·
     repeat (first | exact trivial | refine ⟨rfl, ?_⟩ | refine ⟨(by exact some_int (by rw [pw_next, Int.natCast_mul]; rfl)), ?_⟩)
  ·
   refine J.exit ?_
   refine Kp [3] rfl ?_
   refine Sr ?_
   refine Ru 1 rfl ?_
   refine JL.pub64 dl_ (by rw [digN_len]) (by rw [digN_len]; omega) (fun h9 hle9 hP9 => ?_); replace hl := hl.mono hle9; replace hh0 := hh0.mono hle9; have hve : vL (digN (l.length / 4 + 1) v) = beV l := (by rw [vL_digN, hv, show l.length - i = 0 by omega, List.drop_zero]; refine Nat.mod_eq_of_lt (Nat.lt_of_lt_of_le (beV_lt l) ?_); rw [show (4294967296 : Nat) = 256 ^ 4 from rfl, ← Nat.pow_mul]; exact Nat.pow_le_pow_right (by decide) (by omega))
   refine JL.callR ca_58 rfl (number32_fn hP9 (by rw [digN_len]) (by rw [digN_len]; omega)) rfl ?_
   rintro _ h6 hle6 ⟨ra, rc, rfl, hR⟩
   replace hl := hl.mono hle6
   replace hh0 := hh0.mono hle6
   refine Ru 1 rfl ?_
   refine JL.nil ?_
   rw [hve] at hR ⊢; exact J.retR (RetV.one rfl rfl) ⟨_, _, rfl, hR⟩
end Go.Proofs.YtmngjbefnloljaaGreatDoor
set_option linter.unusedSimpArgs false
set_option linter.unusedVariables false
set_option linter.constructorNameAsVariable false
namespace Go.Proofs.YtmngjbefnloljaaGreatDoor
open Go Go.RowKit
set_option maxRecDepth 100000
theorem ca_89 : callT Tryz.prog 89 = true := by kernel_rfl
theorem digs_eq (l : List UInt32) : digsB l = (toL (vL l)).map m64 := cutZ_map l
theorem rdigs_fn {a : Option Addr} {c : Nat} {l : List UInt32} {h : Part} (hl : SlR u32R 1 h a c l) (hlen : l.length ≤ 1000000) : FnR Tryz.prog 56 [.slice a l.length c] h (fun v h' => ∃ a' c', v = .slice a' (toL (vL l)).length c' ∧ SlR u64R 1 h' a' c' ((toL (vL l)).map m64)) := by
  have := digits32_fn hl hlen
  rw [digs_eq, List.length_map] at this
  exact this
theorem rcut_fn {a : Option Addr} {c n : Nat} {l : List UInt32} {h : Part} (hl : SlR u64R 1 h a c (l.map m64)) (hn : n = l.length) : FnR Tryz.prog 97 [.slice a n c] h (fun v h' => ∃ a' c', v = .slice a' (toL (vL l)).length c' ∧ SlR u64R 1 h' a' c' ((toL (vL l)).map m64)) := by
  have := cut_fn hl
  rw [cutZ_map, List.length_map, List.length_map, ← hn] at this
  exact this
theorem d64_mat (l : List UInt32) (i : Nat) (h : i < (l.map m64).length) : (((l.map m64)[i]'h).toNat : Int) = d32 l i := by rw [d64_at, d64_map]
theorem rtimes_fn {a b : Option Addr} {ca cb : Nat} {A B : List UInt32} {h : Part} (hA : SlR u64R 1 h a ca (A.map m64)) (hB : SlR u64R 1 h b cb (B.map m64)) (hlb : A.length ≤ 200000) (hrb : B.length ≤ 200000) : FnR Tryz.prog 89 [.slice a A.length ca, .slice b B.length cb] h (fun v h' => ∃ a c, v = .slice a (toL (vL A * vL B)).length c ∧ SlR u64R 1 h' a c ((toL (vL A * vL B)).map m64)) := by
  have hAl : (A.map m64).length = A.length := List.length_map ..
  have hBl : (B.map m64).length = B.length := List.length_map ..
  refine Fn.intro Tryz.func89 rfl Tryz.ntmps89 rfl (fun e he => ?_)
  refine J.weak [(0, _), (1, _)] ⟨rfl, rfl, trivial⟩ ?_
  have hh0 := Part.le.refl h
  refine Sr ?_
  refine Ru 1 rfl ?_
  refine JL.nil ?_
  refine Sr ?_
  refine Ru 4 rfl ?_
  refine JL.op ai_ rfl ?_
  refine JL.op ai_ rfl ?_
  refine JL.make1 mk_66 rfl rfl (m := A.length + B.length + 1) (by omega) (by omega) (by omega) rfl rfl (fun b1 => ?_); rw [ws_zero]
  refine Ru 1 rfl ?_
  refine Nk [5, 4, 0, 1] rfl ?_
  refine J.seq ?_
  refine Sr ?_
  refine Ru 1 rfl ?_
  refine JL.nil ?_
  refine J.block ?_
  refine J.loop (fun t_ S_ h_ L_ => ∃ (i : Nat) (out : List UInt32), t_ = A.length - i ∧ S_ = [(0, .slice a A.length ca), (1, .slice b B.length cb), (5, .slice (some ⟨b1, 0, none⟩) (A.length + B.length + 1) (A.length + B.length + 1)), (6, .int .i64 i)] ∧ h = h_ ∧ L_ = [.row (some ⟨b1, 0, none⟩) (A.length + B.length + 1) 63 1 (A.length + B.length + 1) (ws .u64 out)] ∧ (i ≤ A.length ∧ out.length = A.length + B.length + 1 ∧ vL out = vL (A.take i) * vL B)) ⟨_, _, ?_, ⟨0, _, rfl, rfl, rfl, rfl, ⟨by omega, digN_len _ _, by rw [vL_digN]; simp [vL]⟩⟩⟩ ?_
  ·
   repeat (first | exact trivial | refine ⟨rfl, ?_⟩)
  rintro _ _ _ _ ⟨i, out, rfl, rfl, rfl, rfl, hi, hol, hv⟩
  refine J.seq ?_
  refine Sr ?_
  refine Ru 4 rfl ?_
  refine JL.nil ?_
  refine Cs rfl (fun hc2 => ?_) fun hc2 => ?_
  ·
   have hi' : i < A.length := (by omega); have hz := vL_zero_above (l := out) (m := i + B.length) (by rw [hv]; exact mul_bound (vL_take_lt A i) (vL_lt B)) (i + B.length) (Nat.le_refl _); have hai := d32_lt A i
   refine J.skip ?_
   refine J.seq ?_
   refine J.block ?_
   refine Sr ?_
   refine Ru 1 rfl ?_
   refine JL.nil ?_
   refine J.seq ?_
   refine Sr ?_
   refine Ru 1 rfl ?_
   refine JL.nil ?_
   refine J.block ?_
   refine J.loop (fun t_ S_ h_ L_ => ∃ (k c : Nat) (o2 : List UInt32), t_ = B.length - k ∧ S_ = [(0, .slice a A.length ca), (1, .slice b B.length cb), (5, .slice (some ⟨b1, 0, none⟩) (A.length + B.length + 1) (A.length + B.length + 1)), (6, .int .i64 i), (7, .int .u64 c), (8, .int .i64 k)] ∧ h = h_ ∧ L_ = [.row (some ⟨b1, 0, none⟩) (A.length + B.length + 1) 63 1 (A.length + B.length + 1) (ws .u64 o2)] ∧ (k ≤ B.length ∧ o2.length = A.length + B.length + 1 ∧ c < 4294967296 ∧ d32 o2 (i + B.length) = 0 ∧ vL o2 + c * 4294967296 ^ (i + k) = vL out + d32 A i * vL (B.take k) * 4294967296 ^ i)) ⟨_, _, ?_, ⟨0, 0, out, rfl, rfl, rfl, rfl, ⟨by omega, hol, by omega, hz, by simp [vL]⟩⟩⟩ ?_
   ·
    repeat (first | exact trivial | refine ⟨rfl, ?_⟩ | refine ⟨(by exact some_int (by omega)), ?_⟩)
   rintro _ _ _ _ ⟨k, c, o2, rfl, rfl, rfl, rfl, hk, ho2, hc, hz2, hv2⟩
   refine J.seq ?_
   refine Sr ?_
   refine Ru 4 rfl ?_
   refine JL.nil ?_
   refine Cs rfl (fun hc3 => ?_) fun hc3 => ?_
   ·
    have hk' : k < B.length := (by omega); have hbk := d32_lt B k; have hdo := d32_lt o2 (i + k); have hcl := carry_lt hc hai hbk hdo; have hst := mul_step (b := B) hk' (by omega) hv2; have ei := d64_mat A i (by omega); have ek := d64_mat B k (by omega); obtain ⟨xy, hxy⟩ : ∃ xy, xy = d32 A i * d32 B k := ⟨_, rfl⟩; rw [← hxy] at hcl hst
    refine J.skip ?_
    refine J.seq ?_
    refine J.block ?_
    refine J.seq ?_
    refine J.drawn mixed_ (by kernel_rfl) ?_
    refine Rq 4 rfl ?_
    refine JQ.op ai_ rfl ?_
    refine JQ.op (RunV.index_at sl_66 (m := i + k) rfl rfl (by omega) (by omega)) rfl ?_
    refine JQ.op (RunV.wload ag_63 rfl mm_ (by omega)) rfl ?_
    refine JQ.op (RunV.add_u64 rfl rfl (by omega) (by omega)) rfl ?_
    refine Rq 2 rfl ?_
    refine JQ.ope (RunE.index (m := i) sl_66 rfl rfl (by omega) hA hAl.symm (by omega)) rfl ?_
    rintro _ ⟨b4, o4, hi4, rfl, hE4⟩
    refine JQ.op (RunV.ld_u64 ag_63 rfl (by assumption)) rfl ?_
    rw [ei]
    refine Rq 2 rfl ?_
    refine JQ.ope (RunE.index (m := k) sl_66 rfl rfl (by omega) hB hBl.symm (by omega)) rfl ?_
    rintro _ ⟨b6, o6, hi6, rfl, hE6⟩
    refine JQ.op (RunV.ld_u64 ag_63 rfl (by assumption)) rfl ?_
    rw [ek]
    refine JQ.op (RunV.mul_u64 rfl rfl (by rw [← Int.natCast_mul, ← hxy]; omega) (by rw [← Int.natCast_mul, ← hxy]; omega)) rfl ?_
    rw [← Int.natCast_mul, ← hxy]
    refine JQ.op (RunV.add_u64 rfl rfl (by omega) (by omega)) rfl ?_
    rw [show (c : Int) + (d32 o2 (i + k) : Int) + (xy : Int) = ((c + xy + d32 o2 (i + k) : Nat) : Int) by omega]
    refine Rq 1 rfl ?_
    refine JQ.nil ?_
    refine Sr ?_
    refine Ru 3 rfl ?_
    refine JL.op ai_ rfl ?_
    refine Ru 1 rfl ?_
    refine JL.op (by first | exact RunV.rem_u64 rfl rfl (by omega) (by omega) | exact RunV.rem rfl rfl (by omega)) rfl ?_
    refine JL.op (RunV.index_at sl_66 (m := i + k) rfl rfl (by omega) (by omega)) rfl ?_
    refine JL.storeW (c + xy + d32 o2 (i + k)) ag_63 rfl rfl (by omega) dl_ (by omega) ?_
    refine JL.nil ?_
    refine Rg ?_
    refine Ru 1 rfl ?_
    refine JL.op (by first | exact RunV.quo_u64 rfl rfl (by omega) (by omega) (by omega) | exact RunV.quo rfl rfl (by omega)) rfl ?_
    refine Ru 1 rfl ?_
    refine JL.nil ?_
    refine Rg ?_
    refine Ru 1 rfl ?_
    refine JL.op ai_ rfl ?_
    refine Ru 1 rfl ?_
    refine JL.nil ?_
    refine ⟨_, ?_, _, ?_, ⟨k + 1, (c + xy + d32 o2 (i + k)) / 4294967296, _, rfl, rfl, rfl, rfl, ⟨by omega, by rw [List.length_set]; exact ho2, by omega, by rw [d32_set _ _ _ _ (by omega), if_neg (by omega)]; exact hz2, hst⟩⟩⟩
    ·
     omega
    ·
     repeat (first | exact trivial | refine ⟨rfl, ?_⟩ | refine ⟨(by exact some_int (by omega)), ?_⟩)
   ·
    have hke : k = B.length := (by omega); subst hke; have hrow := mul_row hi' (by omega) hz2 hc hv hv2
    refine J.exit ?_
    refine Rg ?_
    refine Ru 4 rfl ?_
    refine JL.op ai_ rfl ?_
    refine Ru 1 rfl ?_
    refine JL.op (RunV.index_at sl_66 (m := i + B.length) rfl rfl (by omega) (by omega)) rfl ?_
    refine JL.storeW c ag_63 rfl rfl (by omega) dl_ (by omega) ?_
    refine JL.nil ?_
    refine Rg ?_
    refine Ru 1 rfl ?_
    refine JL.op ai_ rfl ?_
    refine Ru 1 rfl ?_
    refine JL.nil ?_
    refine ⟨_, ?_, _, ?_, ⟨i + 1, _, rfl, rfl, rfl, rfl, ⟨by omega, by rw [List.length_set]; exact ho2, hrow⟩⟩⟩
    ·
     omega
    ·
     repeat (first | exact trivial | refine ⟨rfl, ?_⟩)
  ·
   have hie : i = A.length := (by omega); rw [hie, List.take_length] at hv
   refine J.exit ?_
   refine Kp [5] rfl ?_
   refine Sr ?_
   refine Ru 1 rfl ?_
   refine JL.pub64 dl_ hol.symm (by omega) (fun h9 hle9 hP9 => ?_); replace hh0 := hh0.mono hle9; replace hA := hA.mono hle9; replace hB := hB.mono hle9
   refine JL.callR ca_97 rfl (rcut_fn hP9 hol.symm) rfl ?_
   rintro _ h10 hle10 ⟨ra, rc, rfl, hR⟩
   replace hA := hA.mono hle10
   replace hB := hB.mono hle10
   replace hh0 := hh0.mono hle10
   refine Ru 1 rfl ?_
   refine JL.nil ?_
   rw [hv] at hR ⊢; exact J.retR (RetV.one rfl rfl) ⟨_, _, rfl, hR⟩
theorem rmul_fn {a b : Option Addr} {ca cb : Nat} {l r : List UInt32} {h : Part} (hl : SlR u32R 1 h a ca l) (hr : SlR u32R 1 h b cb r) (hlb : l.length ≤ 100000) (hrb : r.length ≤ 100000) : FnR Tryz.prog 51 [.slice a l.length ca, .slice b r.length cb] h (fun v h' => ∃ a c, v = .slice a (toL (vL l * vL r)).length c ∧ SlR u32R 1 h' a c (toL (vL l * vL r))) := by
  have n1 : (toL (vL l)).length ≤ 100000 := by rw [toL_len]; exact Nat.le_trans (nd_le _ _ (vL_lt l)) hlb
  have n2 : (toL (vL r)).length ≤ 100000 := by rw [toL_len]; exact Nat.le_trans (nd_le _ _ (vL_lt r)) hrb
  have n3 : (toL (vL l * vL r)).length ≤ 200000 := by
    rw [toL_len]
    exact Nat.le_trans (nd_le _ _ (mul_bound (vL_lt l) (vL_lt r))) (by omega)
  refine Fn.intro Tryz.func51 rfl Tryz.ntmps51 rfl (fun e he => ?_)
  refine J.weak [(0, _), (1, _)] ⟨rfl, rfl, trivial⟩ ?_
  have hh0 := Part.le.refl h
  refine Sr ?_
  refine Ru 1 rfl ?_
  refine JL.nil ?_
  refine Sr ?_
  refine Ru 1 rfl ?_
  refine JL.callR ca_56 rfl (rdigs_fn hl (by omega)) rfl ?_
  rintro _ h1 hle1 ⟨da, dc, rfl, hD⟩
  replace hl := hl.mono hle1
  replace hr := hr.mono hle1
  replace hh0 := hh0.mono hle1
  refine Ru 1 rfl ?_
  refine JL.callR ca_56 rfl (rdigs_fn hr (by omega)) rfl ?_
  rintro _ h2 hle2 ⟨ea, ec, rfl, hE⟩
  replace hl := hl.mono hle2
  replace hr := hr.mono hle2
  replace hh0 := hh0.mono hle2
  replace hD := hD.mono hle2
  refine JL.callR ca_89 rfl (rtimes_fn hD hE (by omega) (by omega)) rfl ?_
  rintro _ h3 hle3 ⟨ta, tc, rfl, hT⟩
  replace hl := hl.mono hle3
  replace hr := hr.mono hle3
  replace hh0 := hh0.mono hle3
  replace hD := hD.mono hle3
  replace hE := hE.mono hle3
  rw [vL_toL, vL_toL] at hT ⊢
  refine JL.callR ca_58 rfl (number32_fn hT rfl (by omega)) rfl ?_
  rintro _ h4 hle4 ⟨ra, rc, rfl, hR⟩
  replace hl := hl.mono hle4
  replace hr := hr.mono hle4
  replace hh0 := hh0.mono hle4
  replace hD := hD.mono hle4
  replace hE := hE.mono hle4
  replace hT := hT.mono hle4
  refine Ru 1 rfl ?_
  refine Nk [4] rfl ?_
  rw [vL_toL] at hR ⊢; exact J.retR (RetV.one rfl rfl) ⟨_, _, rfl, hR⟩
theorem rOf_fn {n : Nat} {h : Part} (hn : n < 18446744073709551616) : FnR Tryz.prog 53 [.int .u64 n] h (fun v h' => ∃ a c, v = .slice a (toL n).length c ∧ SlR u32R 1 h' a c (toL n)) := by
  have hv : vL (digN 2 n) = n := by rw [vL_digN]; exact Nat.mod_eq_of_lt (by simp only [Nat.reducePow]; omega)
  refine Fn.intro Tryz.func53 rfl Tryz.ntmps53 rfl (fun e he => ?_)
  refine J.weak [(0, _)] ⟨rfl, trivial⟩ ?_
  have hh0 := Part.le.refl h
  refine Sr ?_
  refine Ru 1 rfl ?_
  refine JL.nil ?_
  refine Sr ?_
  refine Ru 1 rfl ?_
  refine JL.op (by first | exact RunV.rem_u64 rfl rfl (by omega) (by omega) | exact RunV.rem rfl rfl (by omega)) rfl ?_
  refine Ru 1 rfl ?_
  refine JL.op (by first | exact RunV.quo_u64 rfl rfl (by omega) (by omega) (by omega) | exact RunV.quo rfl rfl (by omega)) rfl ?_
  refine JL.lit1 ap_66 zr_63 rfl rfl rfl rfl rfl (fun b1 => ?_)
  refine JL.pubB (R := u64R) (sz := 1) (l := (digN 2 n).map m64) dl_ ((show CellsR u64R 1 _ [.int .u64 ((n : Int) % 4294967296), .int .u64 ((n : Int) / 4294967296)] ((digN 2 n).map m64) from (show ws .u64 (digN 2 n) = [.int .u64 ((n : Int) % 4294967296), .int .u64 ((n : Int) / 4294967296)] from by simp [ws, digN]; omega) ▸ CellsR.of_ws64)) (by first | decide | omega | (rw [digN_len]; decide) | (simp; done) | (simp [digN_len]; done)) (fun h2 hle2 hQ => ?_)
  replace hh0 := hh0.mono hle2
  refine JL.callR ca_58 rfl (number32_fn hQ (by rw [digN_len]) (by rw [digN_len]; decide)) rfl ?_
  rintro _ h3 hle3 ⟨ra, rc, rfl, hR⟩
  replace hh0 := hh0.mono hle3
  replace hQ := hQ.mono hle3
  refine Ru 1 rfl ?_
  refine Nk [2] rfl ?_
  rw [hv] at hR ⊢; exact J.retR (RetV.one rfl rfl) ⟨_, _, rfl, hR⟩
end Go.Proofs.YtmngjbefnloljaaGreatDoor
set_option linter.unusedSimpArgs false
set_option linter.unusedVariables false
set_option linter.constructorNameAsVariable false
namespace Go.Proofs.YtmngjbefnloljaaGreatDoor
open Go Go.RowKit
set_option maxRecDepth 100000
theorem dig_fn {a : Option Addr} {c i n : Nat} {l : List UInt32} {h : Part} (hl : SlR u64R 1 h a c (l.map m64)) (hn : n = l.length) : Pure Tryz.prog 57 [.slice a n c, .int .i64 i] h (.int .u64 (d32 l i : Nat)) := by
  have := digit_fn (i := i) hl
  rw [List.length_map, d64_map] at this
  rw [hn]; exact this
end Go.Proofs.YtmngjbefnloljaaGreatDoor
set_option linter.unusedSimpArgs false
set_option linter.unusedVariables false
set_option linter.constructorNameAsVariable false
namespace Go.Proofs.YtmngjbefnloljaaGreatDoor
open Go Go.RowKit
set_option maxRecDepth 100000
end Go.Proofs.YtmngjbefnloljaaGreatDoor
set_option linter.unusedSimpArgs false
set_option linter.unusedVariables false
set_option linter.constructorNameAsVariable false
namespace Go.Proofs.YtmngjbefnloljaaGreatDoor
open Go Go.RowKit
set_option maxRecDepth 100000
end Go.Proofs.YtmngjbefnloljaaGreatDoor
