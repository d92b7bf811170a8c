/- Walks: the reference's primes and private exponents, and its kept keys; Walks: a byte repeated, by the library; Walks: small functions of keys, by the program, the reference and the law; Walks: the digests there are: how long they are, by the program; Walks: the digests there are, by the reference; Walks: a digest's bytes and its form, by the reference; Walks: a digest's form for a key, signatures, by the reference; Plain: the fixed numbers that every law from 05 on asks for; Walks: a digest's bytes and its form, by the program; Walks: a digest's form, by the program; Numbers there and back: the law DerNumbersBack; Walks: keys' bytes, by the reference; Walks: signatures and keys' bytes, by the program; Walks: the laws of layer 5: the fixed calls; RsaForms, RsaSigns, RsaProves; Walks: keys out of bytes, by the program; Walks: words and their turns, by the reference, at 256 bits; of no value is more said than that it is a word; Walks: texts padded and taken block by block, by the reference, at 256 bits; of no value is more said than how long it is; Walks: one block, by the reference, at 256 bits; Walks: digests, by the reference, at 256 bits: how long they are; Walks: the law RsaBack; Primes: Fermat's theorem, certificates, and powers that come back. No program in sight; Primes: the certificates of the six of the reference. (Printed by a program.); Plain: a signature proves one digest at most, of one hash. -/
import Derived.Test.YtmngjbefnloljaaGreatDoorP3
set_option linter.unusedSimpArgs false
set_option linter.unusedVariables false
set_option linter.constructorNameAsVariable false
namespace Go.Proofs.YtmngjbefnloljaaGreatDoor
open Go Go.RowKit
theorem z43_ {p : Prop} (u : p := by first | rfl | assumption) : p := u
end Go.Proofs.YtmngjbefnloljaaGreatDoor
namespace Go.Proofs.YtmngjbefnloljaaGreatDoor
open Go Go.RowKit
set_option maxRecDepth 100000
theorem ag_32 : aggT Tryz.prog 32 = some (some 3) := by kernel_rfl
theorem ap_62 : apT Tryz.prog 62 = some (61, 2, 16) := by kernel_rfl
theorem ar_61 : arT Tryz.prog 61 = some (2, 1) := by kernel_rfl
theorem az_61 : arZ Tryz.prog 61 = some ([.int .i64 0, .int .i64 0], 1) := by kernel_rfl
theorem ca_50 : callT Tryz.prog 50 = true := by kernel_rfl
theorem ca_51 : callT Tryz.prog 51 = true := by kernel_rfl
theorem ca_52 : callT Tryz.prog 52 = true := by kernel_rfl
theorem ca_54 : callT Tryz.prog 54 = true := by kernel_rfl
theorem ca_93 : callT Tryz.prog 93 = true := by kernel_rfl
theorem cv_3_103 : convI Tryz.prog 3 103 = some .u32 := by kernel_rfl
theorem pl_32 : plT Tryz.prog 32 = some ([.slice none 0 0, .slice none 0 0, .slice none 0 0], [(0, 1), (1, 1), (2, 1)]) := by kernel_rfl
theorem sl_62 : slT Tryz.prog 62 = some (61, 2) := by kernel_rfl
theorem zr_32 : zeroT Tryz.prog 32 = some [.slice none 0 0, .slice none 0 0, .slice none 0 0] := by kernel_rfl
section
variable {f : Fr} {n : Post} {x : Nat → Post} {S : Sig} {h : Part} {L : List Ent} {ops : Array Oper} {l0 : List Oper}
theorem JL.rowsome {a : Option Addr} {c t sz m : Nat} {xs : List Value} (hm : Ent.row a c t sz m xs ∈ L) (h0 : 0 < m) (k : ∀ g, a = some ⟨g, 0, none⟩ → JL f ops n x l0 S h L) : JL f ops n x l0 S h L := fun ac w s => by
  obtain ⟨g, hg⟩ := s.ok.row_some hm h0
  exact k g hg ac w s
end
theorem cells_ws {h : Part} {xs : List Value} {l : List UInt32} (hC : CellsR u32R 1 h xs l) : xs = ws .u32 l := by
  apply List.ext_getElem?
  intro i
  rcases Nat.lt_or_ge i l.length with hi | hi
  · have := hC.2 i l[i] (List.getElem?_eq_getElem hi)
    unfold u32R at this
    rw [Nat.mul_one, List.take_one, List.head?_drop] at this
    rw [ws_at _ _ _ hi, d32_get l i hi]
    cases hx : xs[i]? with
    | none => rw [hx] at this; simp at this
    | some v => rw [hx] at this; simpa using this
  · have h1 := hC.1
    rw [List.getElem?_eq_none (by rw [h1]; omega), List.getElem?_eq_none (by rw [ws_len]; exact hi)]
def belowL (n k : Nat) : List UInt32 := (List.replicate (n / 32) 4294967295 ++ (if 0 < n % 32 then [UInt32.ofNat (2 ^ (n % 32) - 1)] else [])).set 0 (UInt32.ofNat (4294967296 - k))
theorem rbelow_fn {n k : Nat} {h : Part} (hn : 32 ≤ n) (hn2 : n ≤ 100000) (hk : 1 ≤ k) (hk2 : k < 4294967296) : FnR Tryz.prog 93 [.int .i64 n, .int .u32 k] h (fun v h' => ∃ a c, v = .slice a (belowL n k).length c ∧ SlR u32R 1 h' a c (belowL n k)) := by
  refine Fn.intro Tryz.func93 rfl Tryz.ntmps93 rfl (fun e he => ?_)
  refine J.weak [(0, _), (1, _)] ⟨rfl, rfl, trivial⟩ ?_
  have hh0 := Part.le.refl h
  refine Sr ?_
  refine Ru 1 rfl ?_
  refine JL.nil ?_
  refine Sr ?_
  refine Ru 1 rfl ?_
  refine JL.nil ?_
  refine J.seq ?_
  refine Sr ?_
  refine JL.row_nil 103 1 ?_
  refine Ru 1 rfl ?_
  refine JL.nil ?_
  refine J.block ?_
  refine J.loop (fun t_ S_ h_ L_ => ∃ (i : Nat) (ao : Option Addr) (co : Nat) (xs : List Value), t_ = n / 32 - i ∧ S_ = [(0, .int .i64 n), (1, .int .u32 k), (5, .slice ao (List.replicate i (4294967295 : UInt32)).length co), (6, .int .i64 i)] ∧ h = h_ ∧ L_ = [.row ao co 103 1 (List.replicate i (4294967295 : UInt32)).length xs] ∧ (i ≤ n / 32 ∧ CellsR u32R 1 h xs (List.replicate i 4294967295))) ⟨_, _, ?_, ⟨0, _, _, _, rfl, rfl, rfl, rfl, ⟨by omega, CellsR.nil⟩⟩⟩ ?_
  ·
   exact z2_
  rintro _ _ _ _ ⟨i, ao, co, xs, rfl, rfl, rfl, rfl, hi, hC⟩
  refine J.seq ?_
  refine Sr ?_
  refine Ru 2 rfl ?_
  refine JL.op z12_ rfl ?_
  refine Ru 1 rfl ?_
  refine JL.nil ?_
  refine Cs rfl (fun hc1 => ?_) fun hc1 => ?_
  ·
   have hlr : (List.replicate i (4294967295 : UInt32)).length = i := List.length_replicate; have hke : List.replicate i (4294967295 : UInt32) ++ [4294967295] = List.replicate (i + 1) 4294967295 := List.replicate_succ'.symm
   refine J.skip ?_
   refine J.seq ?_
   refine J.block ?_
   refine Rg ?_
   refine Ru 1 rfl ?_
   refine JL.lit1 ap_30 zr_103 rfl rfl rfl rfl rfl (fun b2 => ?_)
   refine JL.append1 ap_30 rfl rfl (by assumption) rfl dl_ dl_ rfl ((by exact rfl : u32R _ [.int .u32 4294967295] (4294967295 : UInt32))) z3_ rfl rfl (fun a3 c3 xs3 hC3 hN3 => ?_)
   rw [hke] at *
   refine Ru 1 rfl ?_
   refine JL.nil ?_
   refine Rg ?_
   refine Ru 1 rfl ?_
   refine JL.op ai_ rfl ?_
   refine Ru 1 rfl ?_
   refine JL.nil ?_
   refine ⟨_, ?_, _, ?_, ⟨i + 1, _, _, _, rfl, rfl, rfl, rfl, ⟨by omega, by assumption⟩⟩⟩
   ·
    omega
   exact z2_
  have hie : i = n / 32 := (by omega); subst hie; have hlr : (List.replicate (n / 32) (4294967295 : UInt32)).length = n / 32 := List.length_replicate; have hp2 : (0 : Int) < ((2 ^ (n % 32) : Nat) : Int) := (by have := Nat.two_pow_pos (n % 32); omega); have hp3 : ((2 ^ (n % 32) : Nat) : Int) ≤ 2147483648 := (by have := Nat.pow_le_pow_right (show 0 < 2 by decide) (show n % 32 ≤ 31 by omega); omega)
  refine J.exit ?_
  refine Kp [0, 1, 5] rfl ?_
  refine J.seq ?_
  refine Sr ?_
  refine Ru 1 rfl ?_
  refine JL.op z22_ rfl ?_
  refine Ru 1 rfl ?_
  refine JL.nil ?_
  refine Cs rfl (fun hc4 => ?_) fun hc4 => ?_
  ·
   refine Rg ?_
   refine Ru 2 rfl ?_
   refine JL.op z22_ rfl ?_
   refine JL.op (RunV.toW (n % 32) cv_3_103 rfl (by omega)) rfl ?_
   refine JL.op (RunV.shl_u32 ((2 ^ (n % 32) : Nat) : Int) rfl rfl (by omega) (by omega) (by rw [show (((n % 32 % 4294967296 : Nat) : Int)).toNat = n % 32 by omega, Int.natCast_pow]; rfl) (by omega) (by omega)) rfl ?_
   rw [Int.one_mul]
   refine JL.op (by first | exact RunV.sub_u32 rfl rfl (by omega) (by omega) | exact RunV.sub rfl rfl) rfl ?_
   refine JL.lit1 ap_30 zr_103 rfl rfl rfl rfl rfl (fun b5 => ?_)
   refine JL.append1 ap_30 rfl rfl (by assumption) rfl dl_ dl_ rfl ((by show _ = _; have hp4 : 2 ^ (n % 32) ≤ 2147483648 := (by omega); have hp5 : 0 < 2 ^ (n % 32) := Nat.two_pow_pos _; rw [UInt32.toNat_ofNat', Nat.mod_eq_of_lt (show 2 ^ (n % 32) - 1 < 2 ^ 32 by omega), show (((2 ^ (n % 32) : Nat) : Int) - 1) = ((2 ^ (n % 32) - 1 : Nat) : Int) by omega] : u32R _ [.int .u32 (((2 ^ (n % 32) : Nat) : Int) - 1)] (UInt32.ofNat (2 ^ (n % 32) - 1)))) z3_ rfl rfl (fun a6 c6 xs6 hC6 hN6 => ?_)
   refine Ru 1 rfl ?_
   refine Nk [5, 1] rfl ?_
   refine Sr ?_
   obtain ⟨LL, hLL⟩ : ∃ LL, List.replicate (n / 32) (4294967295 : UInt32) ++ (if 0 < n % 32 then [UInt32.ofNat (2 ^ (n % 32) - 1)] else []) = LL := ⟨_, rfl⟩; have hBL : LL.set 0 (UInt32.ofNat (4294967296 - k)) = belowL n k := (by rw [← hLL]; rfl); have hBl : LL.length = (belowL n k).length := (by rw [← hBL, List.length_set]); have hL2 : LL.length ≤ 1000000 := (by rw [← hLL, List.length_append, hlr]; split <;> simp <;> omega); have hL1 : 0 < LL.length := (by rw [← hLL, List.length_append, hlr]; omega); have hL0 : d32 LL 0 = 4294967295 := (by rw [d32_get LL 0 hL1]; subst hLL; rw [List.getElem_append_left (by rw [hlr]; omega), List.getElem_replicate]; rfl); (first | (rw [if_pos (show 0 < n % 32 by omega)] at hLL) | (rw [if_neg (show ¬ 0 < n % 32 by omega), List.append_nil] at hLL)); have hlm := congrArg List.length hLL; have hCC : CellsR u32R 1 _ _ LL := (by first | exact hLL ▸ (by assumption : CellsR u32R 1 _ _ (List.replicate (n / 32) (4294967295 : UInt32) ++ [UInt32.ofNat (2 ^ (n % 32) - 1)])) | exact hLL ▸ hC); refine JL.rowsome mm_ (by rw [hlm]; exact hL1) (fun g hg => ?_); subst hg; have hxw := cells_ws (l := LL) hCC; subst hxw
   refine Ru 2 rfl ?_
   refine JL.op (RunV.index_at sl_30 (m := 0) rfl rfl rfl (by first | exact hL1 | (rw [hlm]; exact hL1))) rfl ?_
   refine JL.op (RunV.wload ag_103 rfl mm_ hL1) rfl ?_
   rw [hL0]
   refine Ru 1 rfl ?_
   refine JL.op (by first | exact RunV.sub_u32 rfl rfl (by omega) (by omega) | exact RunV.sub rfl rfl) rfl ?_
   refine JL.op (by first | exact RunV.add_u32 rfl rfl (by omega) (by omega) | exact RunV.add rfl rfl) rfl ?_
   refine JL.op (RunV.index_at sl_30 (m := 0) rfl rfl rfl (by first | exact hL1 | (rw [hlm]; exact hL1))) rfl ?_
   refine JL.storeW (4294967296 - k) ag_103 rfl rfl (by omega) dl_ hL1 ?_
   refine Nk [5] rfl ?_
   refine Sr ?_
   refine JL.pub32 dl_ (by rw [List.length_set]; exact hlm) (by rw [List.length_set]; omega) (fun h9 hle9 hP9 => ?_)
   refine Ru 2 rfl ?_
   refine JL.nil ?_
   rw [hBL] at hP9; rw [hlm, hBl]; exact J.retR (RetV.one rfl rfl) ⟨_, _, rfl, hP9⟩
  refine J.skip ?_
  refine Kp [1, 5] rfl ?_
  refine Sr ?_
  obtain ⟨LL, hLL⟩ : ∃ LL, List.replicate (n / 32) (4294967295 : UInt32) ++ (if 0 < n % 32 then [UInt32.ofNat (2 ^ (n % 32) - 1)] else []) = LL := ⟨_, rfl⟩; have hBL : LL.set 0 (UInt32.ofNat (4294967296 - k)) = belowL n k := (by rw [← hLL]; rfl); have hBl : LL.length = (belowL n k).length := (by rw [← hBL, List.length_set]); have hL2 : LL.length ≤ 1000000 := (by rw [← hLL, List.length_append, hlr]; split <;> simp <;> omega); have hL1 : 0 < LL.length := (by rw [← hLL, List.length_append, hlr]; omega); have hL0 : d32 LL 0 = 4294967295 := (by rw [d32_get LL 0 hL1]; subst hLL; rw [List.getElem_append_left (by rw [hlr]; omega), List.getElem_replicate]; rfl); (first | (rw [if_pos (show 0 < n % 32 by omega)] at hLL) | (rw [if_neg (show ¬ 0 < n % 32 by omega), List.append_nil] at hLL)); have hlm := congrArg List.length hLL; have hCC : CellsR u32R 1 _ _ LL := (by first | exact hLL ▸ (by assumption : CellsR u32R 1 _ _ (List.replicate (n / 32) (4294967295 : UInt32) ++ [UInt32.ofNat (2 ^ (n % 32) - 1)])) | exact hLL ▸ hC); refine JL.rowsome mm_ (by rw [hlm]; exact hL1) (fun g hg => ?_); subst hg; have hxw := cells_ws (l := LL) hCC; subst hxw
  refine Ru 2 rfl ?_
  refine JL.op (RunV.index_at sl_30 (m := 0) rfl rfl rfl (by first | exact hL1 | (rw [hlm]; exact hL1))) rfl ?_
  refine JL.op (RunV.wload ag_103 rfl mm_ hL1) rfl ?_
  rw [hL0]
  refine Ru 1 rfl ?_
  refine JL.op (by first | exact RunV.sub_u32 rfl rfl (by omega) (by omega) | exact RunV.sub rfl rfl) rfl ?_
  refine JL.op (by first | exact RunV.add_u32 rfl rfl (by omega) (by omega) | exact RunV.add rfl rfl) rfl ?_
  refine JL.op (RunV.index_at sl_30 (m := 0) rfl rfl rfl (by first | exact hL1 | (rw [hlm]; exact hL1))) rfl ?_
  refine JL.storeW (4294967296 - k) ag_103 rfl rfl (by omega) dl_ hL1 ?_
  refine Nk [5] rfl ?_
  refine Sr ?_
  refine JL.pub32 dl_ (by rw [List.length_set]; exact hlm) (by rw [List.length_set]; omega) (fun h9 hle9 hP9 => ?_)
  refine Ru 2 rfl ?_
  refine JL.nil ?_
  rw [hBL] at hP9; rw [hlm, hBl]; exact J.retR (RetV.one rfl rfl) ⟨_, _, rfl, hP9⟩
def primeL : Nat → List UInt32
  | 0 => belowL 256 189
  | 1 => belowL 255 19
  | 2 => belowL 256 357
  | 3 => belowL 255 31
  | 4 => belowL 257 93
  | _ => belowL 521 1
theorem primeL_len : ∀ i, (primeL i).length ≤ 20 := fun i => by
  unfold primeL; split <;> decide
theorem rprimes_fn {k : Int} {h : Part} (h0 : -9223372036854775808 ≤ k) (h1 : k ≤ 9223372036854775807) : FnR Tryz.prog 52 [.int .i64 k] h (fun v h' => ∃ a c, v = .slice a (primeL (amongI k 6).toNat).length c ∧ SlR u32R 1 h' a c (primeL (amongI k 6).toNat)) := by
  obtain ⟨g0, g1⟩ := amongI_bd k 6 (by decide)
  obtain ⟨m, hm⟩ : ∃ m : Nat, amongI k 6 = (m : Int) := ⟨(amongI k 6).toNat, by omega⟩
  rw [hm, Int.toNat_natCast]
  refine Fn.intro Tryz.func52 rfl Tryz.ntmps52 rfl (fun e he => ?_)
  refine J.weak [(0, _)] ⟨rfl, trivial⟩ ?_
  have hh0 := Part.le.refl h
  refine Sr ?_
  refine Ru 1 rfl ?_
  refine JL.nil ?_
  refine J.seq ?_
  refine Sr ?_
  refine Ru 1 rfl ?_
  refine JL.callP ca_50 rfl (among_fn _ _ _ (by omega) (by omega) (by omega)) rfl ?_
  rw [hm]
  refine JL.nil ?_
  refine J.block ?_
  refine Sr ?_
  refine Ru 2 rfl ?_
  refine JL.nil ?_
  refine Cs rfl (fun hc2 => ?_) fun hc2 => ?_
  ·
   obtain rfl : m = 0 := (by omega)
   refine Sr ?_
   refine JL.callR ca_93 rfl (rbelow_fn (n := 256) (k := 189) (by decide) (by decide) (by decide) (by decide)) rfl ?_
   rintro _ h3 hle3 ⟨ra, rc, rfl, hR⟩
   replace hh0 := hh0.mono hle3
   refine Ru 1 rfl ?_
   refine Nk [2] rfl ?_
   exact J.retR (RetV.one rfl rfl) ⟨_, _, rfl, hR⟩
  refine Sr ?_
  refine Ru 2 rfl ?_
  refine Nk [8, 4, 2] rfl ?_
  refine Cs rfl (fun hc4 => ?_) fun hc4 => ?_
  ·
   obtain rfl : m = 1 := (by omega)
   refine Sr ?_
   refine JL.callR ca_93 rfl (rbelow_fn (n := 255) (k := 19) (by decide) (by decide) (by decide) (by decide)) rfl ?_
   rintro _ h5 hle5 ⟨ra, rc, rfl, hR⟩
   replace hh0 := hh0.mono hle5
   refine Ru 1 rfl ?_
   refine Nk [2] rfl ?_
   exact J.retR (RetV.one rfl rfl) ⟨_, _, rfl, hR⟩
  refine Sr ?_
  refine Ru 2 rfl ?_
  refine JL.nil ?_
  refine Cs rfl (fun hc6 => ?_) fun hc6 => ?_
  ·
   obtain rfl : m = 2 := (by omega)
   refine Sr ?_
   refine JL.callR ca_93 rfl (rbelow_fn (n := 256) (k := 357) (by decide) (by decide) (by decide) (by decide)) rfl ?_
   rintro _ h7 hle7 ⟨ra, rc, rfl, hR⟩
   replace hh0 := hh0.mono hle7
   refine Ru 1 rfl ?_
   refine Nk [2] rfl ?_
   exact J.retR (RetV.one rfl rfl) ⟨_, _, rfl, hR⟩
  refine Sr ?_
  refine Ru 2 rfl ?_
  refine Nk [14, 4, 2] rfl ?_
  refine Cs rfl (fun hc8 => ?_) fun hc8 => ?_
  ·
   obtain rfl : m = 3 := (by omega)
   refine Sr ?_
   refine JL.callR ca_93 rfl (rbelow_fn (n := 255) (k := 31) (by decide) (by decide) (by decide) (by decide)) rfl ?_
   rintro _ h9 hle9 ⟨ra, rc, rfl, hR⟩
   replace hh0 := hh0.mono hle9
   refine Ru 1 rfl ?_
   refine Nk [2] rfl ?_
   exact J.retR (RetV.one rfl rfl) ⟨_, _, rfl, hR⟩
  refine Sr ?_
  refine Ru 2 rfl ?_
  refine JL.nil ?_
  refine Cs rfl (fun hc10 => ?_) fun hc10 => ?_
  ·
   obtain rfl : m = 4 := (by omega)
   refine Sr ?_
   refine JL.callR ca_93 rfl (rbelow_fn (n := 257) (k := 93) (by decide) (by decide) (by decide) (by decide)) rfl ?_
   rintro _ h11 hle11 ⟨ra, rc, rfl, hR⟩
   replace hh0 := hh0.mono hle11
   refine Ru 1 rfl ?_
   refine Nk [2] rfl ?_
   exact J.retR (RetV.one rfl rfl) ⟨_, _, rfl, hR⟩
  obtain rfl : m = 5 := (by omega)
  refine J.skip ?_
  refine Kp [2] rfl ?_
  refine Sr ?_
  refine JL.callR ca_93 rfl (rbelow_fn (n := 521) (k := 1) (by decide) (by decide) (by decide) (by decide)) rfl ?_
  rintro _ h12 hle12 ⟨ra, rc, rfl, hR⟩
  replace hh0 := hh0.mono hle12
  refine Ru 1 rfl ?_
  refine JL.nil ?_
  exact J.retR (RetV.one rfl rfl) ⟨_, _, rfl, hR⟩
def expL : Nat → List UInt32
  | 0 => [0xb9c9afc1, 0xb9c94636, 0xb9c94636, 0xb9c94636, 0xb9c94636, 0xb9c94636, 0xb9c94636, 0xb9c94636, 0x65af9976, 0x65af9a50, 0x65af9a50, 0x65af9a50, 0x65af9a50, 0x65af9a50, 0x65af9a50, 0x65af9a50]
  | 1 => [0xa813656d, 0xa81357ec, 0xa81357ec, 0xa81357ec, 0xa81357ec, 0xa81357ec, 0xa81357ec, 0xa81357ec, 0x63159c8e, 0x63159cea, 0x63159cea, 0x63159cea, 0x63159cea, 0x63159cea, 0x63159cea, 0x63159cea]
  | 2 => [0x197912ed, 0x1978e687, 0x1978e687, 0x1978e687, 0x1978e687, 0x1978e687, 0x1978e687, 0x1978e687, 0xaced5201, 0xaced5312, 0xaced5312, 0xaced5312, 0xaced5312, 0xaced5312, 0xaced5312, 0xaced5312]
  | 3 => [0xc45a3f41, 0xc45a3ba5, 0xc45a3ba5, 0xc45a3ba5, 0xc45a3ba5, 0xc45a3ba5, 0xc45a3ba5, 0xc45a3ba5, 0x7db7821d, 0x7db78248, 0x7db78248, 0x7db78248, 0x7db78248, 0x7db78248, 0x7db78248, 0x7db78248]
  | 4 => [0x4623bbc1, 0x4623b9dc, 0x4623b9dc, 0x4623b9dc, 0x4623b9dc, 0x4623b9dc, 0x4623b9dc, 0x4623b9dc, 0x2940d6ad, 0x2940d6bf, 0x2940d6bf, 0x2940d6bf, 0x2940d6bf, 0x2940d6bf, 0x2940d6bf, 0x2940d6bf]
  | 5 => [0xa87558e9, 0xa875578a, 0xa875578a, 0xa875578a, 0xa875578a, 0xa875578a, 0xa875578a, 0xa875578a, 0x807f7f7e, 0x807f7f80, 0x807f7f80, 0x807f7f80, 0x807f7f80, 0x807f7f80, 0x807f7f80, 0x807f7f80, 0xa269780, 0xa27f5d8, 0xa27f5d8, 0xa27f5d8, 0xa27f5d8, 0xa27f5d8, 0xa27f5d8, 0xa27f5d8, 0x1d8]
  | 6 => [0xa4b65c7d, 0xa4b65b49, 0xa4b65b49, 0xa4b65b49, 0xa4b65b49, 0xa4b65b49, 0xa4b65b49, 0xa4b65b49, 0x807f7f7f, 0x807f7f80, 0x807f7f80, 0x807f7f80, 0x807f7f80, 0x807f7f80, 0x807f7f80, 0x807f7f80, 0xc9230380, 0xc92436db, 0xc92436db, 0xc92436db, 0xc92436db, 0xc92436db, 0xc92436db, 0xc92436db, 0xdb]
  | 7 => [0xb84e47d1, 0xb84e47b1, 0xb84e47b1, 0xb84e47b1, 0xb84e47b1, 0xb84e47b1, 0xb84e47b1, 0xb84e47b1, 0x807f7f7f, 0x807f7f80, 0x807f7f80, 0x807f7f80, 0x807f7f80, 0x807f7f80, 0x807f7f80, 0x807f7f80, 0x3137af80, 0x3137cec8, 0x3137cec8, 0x3137cec8, 0x3137cec8, 0x3137cec8, 0x3137cec8, 0x3137cec8, 0xc8]
  | 8 => [0xf86107c1, 0xf861079e, 0xf861079e, 0xf861079e, 0xf861079e, 0xf861079e, 0xf861079e, 0xf861079e, 0x807f7f7f, 0x807f7f80, 0x807f7f80, 0x807f7f80, 0x807f7f80, 0x807f7f80, 0x807f7f80, 0x807f7f80, 0x1e77bf80, 0x1e77e188, 0x1e77e188, 0x1e77e188, 0x1e77e188, 0x1e77e188, 0x1e77e188, 0x1e77e188, 0x88]
  | 9 => [0x72988d99, 0x72988d67, 0x72988d67, 0x72988d67, 0x72988d67, 0x72988d67, 0x72988d67, 0x72988d67, 0x807f7f7f, 0x807f7f80, 0x807f7f80, 0x807f7f80, 0x807f7f80, 0x807f7f80, 0x807f7f80, 0x807f7f80, 0xe6f1e780, 0xe6f2190d, 0xe6f2190d, 0xe6f2190d, 0xe6f2190d, 0xe6f2190d, 0xe6f2190d, 0xe6f2190d, 0x10d]
  | 10 => [0x956b39cd, 0x956a956a, 0x956a956a, 0x956a956a, 0x956a956a, 0x956a956a, 0x956a956a, 0x956a956a, 0x9e619d0e, 0x9e619e61, 0x9e619e61, 0x9e619e61, 0x9e619e61, 0x9e619e61, 0x9e619e61, 0x9e619e61]
  | 11 => [0x11ee43e1, 0x11ee11ee, 0x11ee11ee, 0x11ee11ee, 0x11ee11ee, 0x11ee11ee, 0x11ee11ee, 0x11ee11ee, 0x6e916d3e, 0x6e916e91, 0x6e916e91, 0x6e916e91, 0x6e916e91, 0x6e916e91, 0x6e916e91, 0x6e916e91, 0x1]
  | _ => []
theorem cells_lit32 {h : Part} {xs : List Value} {l : List UInt32} (e : ws .u32 l = xs) : CellsR u32R 1 h xs l := e ▸ CellsR.of_ws32
theorem rexponent_fn {i : Nat} {h : Part} (hi : i < 12) : FnR Tryz.prog 54 [.int .i64 i] h (fun v h' => ∃ a c, v = .slice a (expL i).length c ∧ SlR u32R 1 h' a c (expL i)) := by
  refine Fn.intro Tryz.func54 rfl Tryz.ntmps54 rfl (fun e he => ?_)
  refine J.weak [(0, _)] ⟨rfl, trivial⟩ ?_
  have hh0 := Part.le.refl h
  refine Sr ?_
  refine Ru 1 rfl ?_
  refine JL.nil ?_
  refine J.seq ?_
  refine Sr ?_
  refine Ru 1 rfl ?_
  refine JL.nil ?_
  refine J.block ?_
  refine Sr ?_
  refine Ru 2 rfl ?_
  refine JL.nil ?_
  refine Cs rfl (fun hc1 => ?_) fun hc1 => ?_
  ·
   obtain rfl : i = 0 := (by omega)
   refine Sr ?_
   refine JL.lit1 ap_30 zr_103 rfl rfl rfl rfl rfl (fun b2 => ?_)
   refine JL.pubB (R := u32R) (sz := 1) (l := (expL 0)) dl_ ((cells_lit32 (by kernel_rfl))) z7_ (fun h3 hle3 hQ => ?_)
   replace hh0 := hh0.mono hle3
   refine Ru 1 rfl ?_
   refine Nk [2] rfl ?_
   exact J.retR (RetV.one rfl rfl) ⟨_, _, rfl, hQ⟩
  refine Sr ?_
  refine Ru 2 rfl ?_
  refine Nk [7, 3, 2] rfl ?_
  refine Cs rfl (fun hc4 => ?_) fun hc4 => ?_
  ·
   obtain rfl : i = 1 := (by omega)
   refine Sr ?_
   refine JL.lit1 ap_30 zr_103 rfl rfl rfl rfl rfl (fun b5 => ?_)
   refine JL.pubB (R := u32R) (sz := 1) (l := (expL 1)) dl_ ((cells_lit32 (by kernel_rfl))) z7_ (fun h6 hle6 hQ => ?_)
   replace hh0 := hh0.mono hle6
   refine Ru 1 rfl ?_
   refine Nk [2] rfl ?_
   exact J.retR (RetV.one rfl rfl) ⟨_, _, rfl, hQ⟩
  refine Sr ?_
  refine Ru 2 rfl ?_
  refine JL.nil ?_
  refine Cs rfl (fun hc7 => ?_) fun hc7 => ?_
  ·
   obtain rfl : i = 2 := (by omega)
   refine Sr ?_
   refine JL.lit1 ap_30 zr_103 rfl rfl rfl rfl rfl (fun b8 => ?_)
   refine JL.pubB (R := u32R) (sz := 1) (l := (expL 2)) dl_ ((cells_lit32 (by kernel_rfl))) z7_ (fun h9 hle9 hQ => ?_)
   replace hh0 := hh0.mono hle9
   refine Ru 1 rfl ?_
   refine Nk [2] rfl ?_
   exact J.retR (RetV.one rfl rfl) ⟨_, _, rfl, hQ⟩
  refine Sr ?_
  refine Ru 2 rfl ?_
  refine Nk [13, 3, 2] rfl ?_
  refine Cs rfl (fun hc10 => ?_) fun hc10 => ?_
  ·
   obtain rfl : i = 3 := (by omega)
   refine Sr ?_
   refine JL.lit1 ap_30 zr_103 rfl rfl rfl rfl rfl (fun b11 => ?_)
   refine JL.pubB (R := u32R) (sz := 1) (l := (expL 3)) dl_ ((cells_lit32 (by kernel_rfl))) z7_ (fun h12 hle12 hQ => ?_)
   replace hh0 := hh0.mono hle12
   refine Ru 1 rfl ?_
   refine Nk [2] rfl ?_
   exact J.retR (RetV.one rfl rfl) ⟨_, _, rfl, hQ⟩
  refine Sr ?_
  refine Ru 2 rfl ?_
  refine JL.nil ?_
  refine Cs rfl (fun hc13 => ?_) fun hc13 => ?_
  ·
   obtain rfl : i = 4 := (by omega)
   refine Sr ?_
   refine JL.lit1 ap_30 zr_103 rfl rfl rfl rfl rfl (fun b14 => ?_)
   refine JL.pubB (R := u32R) (sz := 1) (l := (expL 4)) dl_ ((cells_lit32 (by kernel_rfl))) z7_ (fun h15 hle15 hQ => ?_)
   replace hh0 := hh0.mono hle15
   refine Ru 1 rfl ?_
   refine Nk [2] rfl ?_
   exact J.retR (RetV.one rfl rfl) ⟨_, _, rfl, hQ⟩
  refine Sr ?_
  refine Ru 2 rfl ?_
  refine Nk [19, 3, 2] rfl ?_
  refine Cs rfl (fun hc16 => ?_) fun hc16 => ?_
  ·
   obtain rfl : i = 5 := (by omega)
   refine Sr ?_
   refine JL.lit1 ap_30 zr_103 rfl rfl rfl rfl rfl (fun b17 => ?_)
   refine JL.pubB (R := u32R) (sz := 1) (l := (expL 5)) dl_ ((cells_lit32 (by kernel_rfl))) z7_ (fun h18 hle18 hQ => ?_)
   replace hh0 := hh0.mono hle18
   refine Ru 1 rfl ?_
   refine Nk [2] rfl ?_
   exact J.retR (RetV.one rfl rfl) ⟨_, _, rfl, hQ⟩
  refine Sr ?_
  refine Ru 2 rfl ?_
  refine JL.nil ?_
  refine Cs rfl (fun hc19 => ?_) fun hc19 => ?_
  ·
   obtain rfl : i = 6 := (by omega)
   refine Sr ?_
   refine JL.lit1 ap_30 zr_103 rfl rfl rfl rfl rfl (fun b20 => ?_)
   refine JL.pubB (R := u32R) (sz := 1) (l := (expL 6)) dl_ ((cells_lit32 (by kernel_rfl))) z7_ (fun h21 hle21 hQ => ?_)
   replace hh0 := hh0.mono hle21
   refine Ru 1 rfl ?_
   refine Nk [2] rfl ?_
   exact J.retR (RetV.one rfl rfl) ⟨_, _, rfl, hQ⟩
  refine Sr ?_
  refine Ru 2 rfl ?_
  refine Nk [25, 3, 2] rfl ?_
  refine Cs rfl (fun hc22 => ?_) fun hc22 => ?_
  ·
   obtain rfl : i = 7 := (by omega)
   refine Sr ?_
   refine JL.lit1 ap_30 zr_103 rfl rfl rfl rfl rfl (fun b23 => ?_)
   refine JL.pubB (R := u32R) (sz := 1) (l := (expL 7)) dl_ ((cells_lit32 (by kernel_rfl))) z7_ (fun h24 hle24 hQ => ?_)
   replace hh0 := hh0.mono hle24
   refine Ru 1 rfl ?_
   refine Nk [2] rfl ?_
   exact J.retR (RetV.one rfl rfl) ⟨_, _, rfl, hQ⟩
  refine Sr ?_
  refine Ru 2 rfl ?_
  refine JL.nil ?_
  refine Cs rfl (fun hc25 => ?_) fun hc25 => ?_
  ·
   obtain rfl : i = 8 := (by omega)
   refine Sr ?_
   refine JL.lit1 ap_30 zr_103 rfl rfl rfl rfl rfl (fun b26 => ?_)
   refine JL.pubB (R := u32R) (sz := 1) (l := (expL 8)) dl_ ((cells_lit32 (by kernel_rfl))) z7_ (fun h27 hle27 hQ => ?_)
   replace hh0 := hh0.mono hle27
   refine Ru 1 rfl ?_
   refine Nk [2] rfl ?_
   exact J.retR (RetV.one rfl rfl) ⟨_, _, rfl, hQ⟩
  refine Sr ?_
  refine Ru 2 rfl ?_
  refine Nk [31, 3, 2] rfl ?_
  refine Cs rfl (fun hc28 => ?_) fun hc28 => ?_
  ·
   obtain rfl : i = 9 := (by omega)
   refine Sr ?_
   refine JL.lit1 ap_30 zr_103 rfl rfl rfl rfl rfl (fun b29 => ?_)
   refine JL.pubB (R := u32R) (sz := 1) (l := (expL 9)) dl_ ((cells_lit32 (by kernel_rfl))) z7_ (fun h30 hle30 hQ => ?_)
   replace hh0 := hh0.mono hle30
   refine Ru 1 rfl ?_
   refine Nk [2] rfl ?_
   exact J.retR (RetV.one rfl rfl) ⟨_, _, rfl, hQ⟩
  refine Sr ?_
  refine Ru 2 rfl ?_
  refine JL.nil ?_
  refine Cs rfl (fun hc31 => ?_) fun hc31 => ?_
  ·
   obtain rfl : i = 10 := (by omega)
   refine Sr ?_
   refine JL.lit1 ap_30 zr_103 rfl rfl rfl rfl rfl (fun b32 => ?_)
   refine JL.pubB (R := u32R) (sz := 1) (l := (expL 10)) dl_ ((cells_lit32 (by kernel_rfl))) z7_ (fun h33 hle33 hQ => ?_)
   replace hh0 := hh0.mono hle33
   refine Ru 1 rfl ?_
   refine Nk [2] rfl ?_
   exact J.retR (RetV.one rfl rfl) ⟨_, _, rfl, hQ⟩
  refine Sr ?_
  refine Ru 2 rfl ?_
  refine Nk [37, 2] rfl ?_
  refine Cs rfl (fun hc34 => ?_) fun hc34 => ?_
  ·
   obtain rfl : i = 11 := (by omega)
   refine Sr ?_
   refine JL.lit1 ap_30 zr_103 rfl rfl rfl rfl rfl (fun b35 => ?_)
   refine JL.pubB (R := u32R) (sz := 1) (l := (expL 11)) dl_ ((cells_lit32 (by kernel_rfl))) z7_ (fun h36 hle36 hQ => ?_)
   replace hh0 := hh0.mono hle36
   refine Ru 1 rfl ?_
   refine JL.nil ?_
   exact J.retR (RetV.one rfl rfl) ⟨_, _, rfl, hQ⟩
  refine J.skip ?_
  refine Sr ?_
  refine Ru 1 rfl ?_
  refine JL.nil ?_
  exfalso; omega
def pairR : Rep (Int × Int) := fun _ cs p => cs = [.int .i64 p.1, .int .i64 p.2]
instance : Mono pairR := ⟨fun _ r => r, fun r u hu => by unfold pairR at r; subst r; simp only [List.mem_cons, List.not_mem_nil, or_false] at hu; rcases hu with rfl | rfl <;> rfl⟩
theorem cells_pairs {h : Part} : ∀ (l : List (Int × Int)), CellsR pairR 2 h (l.flatMap fun p => [.int .i64 p.1, .int .i64 p.2]) l
  | [] => CellsR.nil
  | p :: r => by
    have ih := cells_pairs (h := h) r
    refine ⟨by have := ih.1; simp only [List.flatMap_cons, List.length_append, List.length_cons, List.length_nil] at this ⊢; omega, fun i x hx => ?_⟩
    cases i with
    | zero => simp only [List.getElem?_cons_zero, Option.some.injEq] at hx; subst hx; rfl
    | succ i =>
      have := ih.2 i x (by simpa using hx)
      rw [show (i + 1) * 2 = i * 2 + 1 + 1 by omega, List.flatMap_cons]
      exact this
def pairsL : List (Int × Int) := [(0, 2), (0, 4), (2, 4), (4, 1), (4, 3), (0, 5), (2, 5), (1, 5), (3, 5), (4, 5), (0, 2), (0, 4)]
def keyN (i : Nat) : Nat := vL (primeL (amongI (pairsL.getD i (0, 0)).1 6).toNat) * vL (primeL (amongI (pairsL.getD i (0, 0)).2 6).toNat)
def keyE (i : Nat) : Nat := if 10 ≤ i then 257 else 65537
theorem pairs_bd (i : Nat) : -10 ≤ (pairsL.getD i (0, 0)).1 ∧ (pairsL.getD i (0, 0)).1 ≤ 10 ∧ -10 ≤ (pairsL.getD i (0, 0)).2 ∧ (pairsL.getD i (0, 0)).2 ≤ 10 := by
  rcases Nat.lt_or_ge i 12 with h | h
  · have : i = 0 ∨ i = 1 ∨ i = 2 ∨ i = 3 ∨ i = 4 ∨ i = 5 ∨ i = 6 ∨ i = 7 ∨ i = 8 ∨ i = 9 ∨ i = 10 ∨ i = 11 := by omega
    rcases this with rfl | rfl | rfl | rfl | rfl | rfl | rfl | rfl | rfl | rfl | rfl | rfl <;> decide
  · rw [List.getD_eq_getElem?_getD, List.getElem?_eq_none (by simpa [pairsL] using h)]; decide
theorem rkept_fn {k : Int} {h : Part} (h0 : -9223372036854775808 ≤ k) (h1 : k ≤ 9223372036854775807) : FnR Tryz.prog 19 [.int .i64 k] h
    (fun v h' => ∃ an cn ae ce ad cd, v = .agg #[.slice an (toL (keyN (amongI k 12).toNat)).length cn, .slice ae (toL (keyE (amongI k 12).toNat)).length ce, .slice ad (expL (amongI k 12).toNat).length cd] ∧ SlR u32R 1 h' an cn (toL (keyN (amongI k 12).toNat)) ∧ SlR u32R 1 h' ae ce (toL (keyE (amongI k 12).toNat)) ∧ SlR u32R 1 h' ad cd (expL (amongI k 12).toNat)) := by
  obtain ⟨g0, g1⟩ := amongI_bd k 12 (by decide)
  obtain ⟨i, hi⟩ : ∃ i : Nat, amongI k 12 = (i : Int) := ⟨(amongI k 12).toNat, by omega⟩
  rw [hi, Int.toNat_natCast]
  obtain ⟨p1, p2, p3, p4⟩ := pairs_bd i
  obtain ⟨y, hy⟩ : ∃ y, y = keyE i := ⟨_, rfl⟩
  have hy2 : y ≤ 65537 := by rw [hy]; unfold keyE; split <;> omega
  have hpl : pairsL.length = 12 := rfl
  have hpe : pairsL[i]'(by omega) = pairsL.getD i (0, 0) := by rw [List.getD_eq_getElem?_getD, List.getElem?_eq_getElem (by omega)]; rfl
  obtain ⟨pr, hpr⟩ : ∃ pr, pr = pairsL.getD i (0, 0) := ⟨_, rfl⟩
  have l1 := primeL_len (amongI pr.1 6).toNat
  have l2 := primeL_len (amongI pr.2 6).toNat
  rw [← hpr] at p1 p2 p3 p4 hpe
  refine Fn.intro Tryz.func19 rfl Tryz.ntmps19 rfl (fun e he => ?_)
  refine J.weak [(0, _)] ⟨rfl, trivial⟩ ?_
  have hh0 := Part.le.refl h
  refine Sr ?_
  refine JL.alloc zr_32 rfl (fun b1 => ?_)
  refine JL.nil ?_
  refine Sr ?_
  refine Ru 1 rfl ?_
  refine JL.callP ca_50 rfl (among_fn _ _ _ (by omega) (by omega) (by omega)) rfl ?_
  rw [hi]
  refine Ru 1 rfl ?_
  refine JL.nil ?_
  refine Sr ?_
  refine JL.op (RunV.buildArr az_61 rfl rfl rfl) rfl ?_
  refine JL.op (RunV.buildArr az_61 rfl rfl rfl) rfl ?_
  refine JL.op (RunV.buildArr az_61 rfl rfl rfl) rfl ?_
  refine JL.op (RunV.buildArr az_61 rfl rfl rfl) rfl ?_
  refine JL.op (RunV.buildArr az_61 rfl rfl rfl) rfl ?_
  refine JL.op (RunV.buildArr az_61 rfl rfl rfl) rfl ?_
  refine JL.op (RunV.buildArr az_61 rfl rfl rfl) rfl ?_
  refine JL.op (RunV.buildArr az_61 rfl rfl rfl) rfl ?_
  refine JL.op (RunV.buildArr az_61 rfl rfl rfl) rfl ?_
  refine JL.op (RunV.buildArr az_61 rfl rfl rfl) rfl ?_
  refine JL.op (RunV.buildArr az_61 rfl rfl rfl) rfl ?_
  refine JL.op (RunV.buildArr az_61 rfl rfl rfl) rfl ?_
  refine JL.litAll [_, _, _, _, _, _, _, _, _, _, _, _] ap_62 rfl rfl (List.forall_mem_cons.2 ⟨(by first | rfl), List.forall_mem_cons.2 ⟨(by first | rfl), List.forall_mem_cons.2 ⟨(by first | rfl), List.forall_mem_cons.2 ⟨(by first | rfl), List.forall_mem_cons.2 ⟨(by first | rfl), List.forall_mem_cons.2 ⟨(by first | rfl), List.forall_mem_cons.2 ⟨(by first | rfl), List.forall_mem_cons.2 ⟨(by first | rfl), List.forall_mem_cons.2 ⟨(by first | rfl), List.forall_mem_cons.2 ⟨(by first | rfl), List.forall_mem_cons.2 ⟨(by first | rfl), List.forall_mem_cons.2 ⟨(by first | rfl), List.forall_mem_nil _⟩⟩⟩⟩⟩⟩⟩⟩⟩⟩⟩⟩) rfl (by kernel_rfl) (by kernel_rfl) rfl (fun b3 => ?_)
  refine JL.pubB (R := pairR) (sz := 2) (l := pairsL) dl_ ((show CellsR pairR 2 _ (pairsL.flatMap fun p => [.int .i64 p.1, .int .i64 p.2]) pairsL from cells_pairs pairsL)) z7_ (fun h4 hle4 hK => ?_)
  replace hh0 := hh0.mono hle4
  refine Ru 1 rfl ?_
  refine Nk [3, 0, 2] rfl ?_
  refine Sr ?_
  refine Ru 1 rfl ?_
  refine JL.nil ?_
  refine J.seq ?_
  refine Sr ?_
  refine Ru 2 rfl ?_
  refine JL.nil ?_
  refine J.meet [(4, .int .u64 y)] [(3, _), (0, _), (2, _)] ⟨rfl, rfl, rfl, trivial⟩ ?_ ?_
  ·
   refine Cs rfl (fun hc5 => ?_) fun hc5 => ?_
   ·
    refine Rg ?_
    refine Ru 1 rfl ?_
    refine JL.nil ?_
    refine ⟨rfl, rfl, ?_⟩
    repeat (first | exact trivial | refine ⟨rfl, ?_⟩ | refine ⟨(by exact some_int (by rw [hy]; unfold keyE; split <;> omega)), ?_⟩)
   refine J.skip ?_
   refine ⟨rfl, rfl, ?_⟩
   repeat (first | exact trivial | refine ⟨rfl, ?_⟩ | refine ⟨(by exact some_int (by rw [hy]; unfold keyE; split <;> omega)), ?_⟩)
  refine J.seq ?_
  refine J.held ([]) 19 mixed_ rfl (fun h00 => ?_)
  refine JH.take 0 rfl (by kernel_rfl) (by kernel_rfl) (by kernel_rfl) (fun _ _ _ _ hh => hh) (br_ h00) (RunV.move rfl) rfl ?_
  refine JH.take 1 rfl (by kernel_rfl) (by kernel_rfl) (by kernel_rfl) (fun _ _ _ _ hh => hh) (br_ h00) (RunV.move rfl) rfl ?_
  refine JH.takeE 2 rfl (by kernel_rfl) (by kernel_rfl) (by kernel_rfl) (fun _ _ _ _ hh => hh) (br_ h00) (RunE.index (m := i) sl_62 rfl rfl rfl hK hpl.symm (by omega)) rfl ?_
  rintro _ ⟨b6, o6, hi6, rfl, hE6⟩
  refine JH.take 3 rfl (by kernel_rfl) (by kernel_rfl) (by kernel_rfl) (fun _ _ _ _ hh => hh) (br_ h00) (RunV.indexAt ar_61 rfl rfl (show _ = ((0 : Nat) : Int) from rfl) (by omega)) rfl ?_
  refine JH.takeE 4 rfl (by kernel_rfl) (by kernel_rfl) (by kernel_rfl) (fun _ _ _ _ hh => hh) (br_ h00) (RunE.loadF ag_3 rfl (by assumption) (by decide)) rfl ?_
  rintro v7 ⟨_, hv7, rfl⟩
  cases hv7
  rw [hpe]
  refine JH.take 6 rfl (by kernel_rfl) (by kernel_rfl) (by kernel_rfl) (fun _ _ _ _ hh => hh) (br_ h00) (RunV.move rfl) rfl ?_
  refine JH.take 7 rfl (by kernel_rfl) (by kernel_rfl) (by kernel_rfl) (fun _ _ _ _ hh => hh) (br_ h00) (RunV.move rfl) rfl ?_
  refine JH.takeE 8 rfl (by kernel_rfl) (by kernel_rfl) (by kernel_rfl) (fun _ _ _ _ hh => hh) (br_ h00) (RunE.index (m := i) sl_62 rfl rfl rfl hK hpl.symm (by omega)) rfl ?_
  rintro _ ⟨b8, o8, hi8, rfl, hE8⟩
  refine JH.take 9 rfl (by kernel_rfl) (by kernel_rfl) (by kernel_rfl) (fun _ _ _ _ hh => hh) (br_ h00) (RunV.indexAt ar_61 rfl rfl (show _ = ((1 : Nat) : Int) from rfl) (by omega)) rfl ?_
  refine JH.takeE 10 rfl (by kernel_rfl) (by kernel_rfl) (by kernel_rfl) (fun _ _ _ _ hh => hh) (br_ h00) (RunE.loadF ag_3 rfl (by assumption) (by decide)) rfl ?_
  rintro v9 ⟨_, hv9, rfl⟩
  cases hv9
  rw [hpe]
  refine JH.take 13 rfl (by kernel_rfl) (by kernel_rfl) (by kernel_rfl) (fun _ _ _ _ hh => hh) (br_ h00) (RunV.move rfl) rfl ?_
  refine JH.take 15 rfl (by kernel_rfl) (by kernel_rfl) (by kernel_rfl) (fun _ _ _ _ hh => hh) (br_ h00) (RunV.move rfl) rfl ?_
  refine JH.all1 5 (by kernel_rfl) rfl ?_
  unfold One
  refine JL.callR ca_52 rfl (rprimes_fn (k := pr.1) (by omega) (by omega)) rfl ?_
  rintro _ h10 hle10 ⟨pa, pc, rfl, hP1⟩
  replace hh0 := hh0.mono hle10
  replace hK := hK.mono hle10
  refine JL.nil ⟨(br_ h00), ?_⟩
  refine JH.all1 11 (by kernel_rfl) rfl ?_
  unfold One
  refine JL.callR ca_52 rfl (rprimes_fn (k := pr.2) (by omega) (by omega)) rfl ?_
  rintro _ h11 hle11 ⟨qa, qc, rfl, hP2⟩
  replace hh0 := hh0.mono hle11
  replace hK := hK.mono hle11
  replace hP1 := hP1.mono hle11
  refine JL.nil ⟨(br_ h00), ?_⟩
  refine JH.all1 12 (by kernel_rfl) rfl ?_
  unfold One
  refine JL.callR ca_51 rfl (rmul_fn hP1 hP2 (by omega) (by omega)) rfl ?_
  rintro _ h12 hle12 ⟨na, nc, rfl, hN⟩
  replace hh0 := hh0.mono hle12
  replace hK := hK.mono hle12
  replace hP1 := hP1.mono hle12
  replace hP2 := hP2.mono hle12
  refine JL.nil ⟨(br_ h00), ?_⟩
  refine JH.all1 14 (by kernel_rfl) rfl ?_
  unfold One
  refine JL.callR ca_53 rfl (rOf_fn (n := y) (by omega)) rfl ?_
  rintro _ h13 hle13 ⟨ea, ec, rfl, hE⟩
  replace hh0 := hh0.mono hle13
  replace hK := hK.mono hle13
  replace hP1 := hP1.mono hle13
  replace hP2 := hP2.mono hle13
  replace hN := hN.mono hle13
  refine JL.nil ⟨(br_ h00), ?_⟩
  refine JH.all1 16 (by kernel_rfl) rfl ?_
  unfold One
  refine JL.callR ca_54 rfl (rexponent_fn (i := i) (by omega)) rfl ?_
  rintro _ h14 hle14 ⟨da, dc, rfl, hD⟩
  replace hh0 := hh0.mono hle14
  replace hK := hK.mono hle14
  replace hP1 := hP1.mono hle14
  replace hP2 := hP2.mono hle14
  replace hN := hN.mono hle14
  replace hE := hE.mono hle14
  refine JL.nil ⟨(br_ h00), ?_⟩
  refine JH.take 17 rfl (by kernel_rfl) (by kernel_rfl) (by kernel_rfl) (fun _ _ _ _ hh => hh) (br_ h00) (RunV.build (cs := [_, _, _]) pl_32 rfl rfl) rfl ?_
  refine JH.all1 18 (by kernel_rfl) rfl ?_
  unfold One
  refine JL.storeA ag_32 rfl rfl dl_ (by first | rfl) z43_ (by first | rfl) ?_
  refine JL.nil ⟨(br_ h00), ?_⟩
  refine JH.done (by kernel_rfl) ?_
  refine Kp [2] rfl ?_
  have hkN : vL (primeL (amongI pr.1 6).toNat) * vL (primeL (amongI pr.2 6).toNat) = keyN i := (by rw [hpr]; rfl); rw [hkN] at hN ⊢; rw [hy] at hE ⊢; exact J.retR (RetV.cell rfl rfl ag_32 mm_ (by first | rfl)) ⟨_, _, _, _, _, _, rfl, hN, hE, hD⟩
end Go.Proofs.YtmngjbefnloljaaGreatDoor
namespace Go.Proofs.YtmngjbefnloljaaGreatDoor
open Go Go.RowKit
theorem z34_ {p : Prop} (u : p := by first | exact RunV.conv_i64 cv_93_3 rfl (by omega) (by omega) | exact RunV.conv cv_93_3 rfl) : p := u
end Go.Proofs.YtmngjbefnloljaaGreatDoor
namespace Go.Proofs.YtmngjbefnloljaaGreatDoor
open Go Go.RowKit
set_option maxRecDepth 100000
theorem ca_117 : callT Tryz.prog 117 = true := by kernel_rfl
theorem ca_79 : callT Tryz.prog 79 = true := by kernel_rfl
theorem cv_93_3 : convI Tryz.prog 93 3 = some .i64 := by kernel_rfl
theorem mul64_fn {y : Nat} {h : Part} (hy : y < 2147483648) : Pure Tryz.prog 117 [.int .u64 1, .int .u64 y] h (.tuple #[.int .u64 0, .int .u64 y]) := by
  refine Fn.intro Tryz.func117 rfl Tryz.ntmps117 rfl (fun e he => ?_)
  refine J.weak [(0, _), (1, _)] ⟨rfl, rfl, trivial⟩ ?_
  refine Sr ?_
  refine Ru 2 rfl ?_
  refine JL.nil ?_
  refine Sr ?_
  refine Ru 1 rfl ?_
  refine JL.op (RunV.mask_u64 32 4294967296 rfl rfl (by decide) (by decide) (by decide) (by omega) (by omega)) rfl ?_
  rw [show (1 : Int) % 4294967296 = 1 from rfl]
  refine Ru 1 rfl ?_
  refine JL.nil ?_
  refine Sr ?_
  refine Ru 1 rfl ?_
  refine JL.op (RunV.shr_u64 4294967296 rfl rfl (by decide) (by decide) (by decide)) rfl ?_
  rw [show (1 : Int) / 4294967296 = 0 from rfl]
  refine Ru 1 rfl ?_
  refine JL.nil ?_
  refine Sr ?_
  refine Ru 1 rfl ?_
  refine JL.op (RunV.mask_u64 32 4294967296 rfl rfl (by decide) (by decide) (by decide) (by omega) (by omega)) rfl ?_
  rw [show (y : Int) % 4294967296 = y by omega]
  refine Ru 1 rfl ?_
  refine Nk [8, 7, 6, 5, 4, 0, 1] rfl ?_
  refine Sr ?_
  refine Ru 1 rfl ?_
  refine JL.op (RunV.shr_u64 4294967296 rfl rfl (by decide) (by decide) (by decide)) rfl ?_
  rw [show (y : Int) / 4294967296 = 0 by omega]
  refine Ru 1 rfl ?_
  refine JL.nil ?_
  refine Sr ?_
  refine Ru 2 rfl ?_
  refine JL.op z29_ rfl ?_
  rw [Int.one_mul]
  refine Ru 1 rfl ?_
  refine Nk [10, 9, 8, 7, 6, 5, 4, 0, 1] rfl ?_
  refine Sr ?_
  refine Ru 2 rfl ?_
  refine JL.op z29_ rfl ?_
  rw [Int.zero_mul]
  refine Ru 1 rfl ?_
  refine JL.op (RunV.shr_u64 4294967296 rfl rfl (by decide) (by decide) (by decide)) rfl ?_
  refine JL.op z20_ rfl ?_
  rw [show (0 : Int) + (y : Int) / 4294967296 = 0 by omega]
  refine Ru 1 rfl ?_
  refine Nk [11, 9, 7, 6, 5, 4, 0, 1] rfl ?_
  refine Sr ?_
  refine Ru 1 rfl ?_
  refine JL.op (RunV.mask_u64 32 4294967296 rfl rfl (by decide) (by decide) (by decide) (by omega) (by omega)) rfl ?_
  rw [show (0 : Int) % 4294967296 = 0 from rfl]
  refine Ru 1 rfl ?_
  refine JL.nil ?_
  refine Sr ?_
  refine Ru 1 rfl ?_
  refine JL.op (RunV.shr_u64 4294967296 rfl rfl (by decide) (by decide) (by decide)) rfl ?_
  rw [show (0 : Int) / 4294967296 = 0 from rfl]
  refine Ru 1 rfl ?_
  refine Nk [13, 12, 9, 7, 6, 5, 4, 0, 1] rfl ?_
  refine Sr ?_
  refine Ru 3 rfl ?_
  refine JL.op z29_ rfl ?_
  rw [Int.mul_zero]
  refine JL.op z20_ rfl ?_
  refine Ru 1 rfl ?_
  refine Nk [12, 13, 9, 7, 5, 4, 0, 1] rfl ?_
  refine Sr ?_
  refine Ru 2 rfl ?_
  refine JL.op z29_ rfl ?_
  rw [Int.mul_zero]
  refine Ru 1 rfl ?_
  refine JL.op z20_ rfl ?_
  refine Ru 1 rfl ?_
  refine JL.op (RunV.shr_u64 4294967296 rfl rfl (by decide) (by decide) (by decide)) rfl ?_
  refine JL.op z20_ rfl ?_
  refine Ru 1 rfl ?_
  refine Nk [4, 5, 0, 1] rfl ?_
  refine Sr ?_
  refine Ru 2 rfl ?_
  refine JL.op z29_ rfl ?_
  refine Ru 1 rfl ?_
  refine Nk [5, 4] rfl ?_
  exact J.retP (RetV.two rfl rfl rfl) (by first | rfl | (rw [Int.one_mul]; rfl)) rfl
theorem mul1_fn {y : Nat} {h : Part} (hy : y < 2147483648) : Pure Tryz.prog 79 [.int .u64 1, .int .u64 y] h (.tuple #[.int .u64 0, .int .u64 y]) := by
  refine Fn.intro Tryz.func79 rfl Tryz.ntmps79 rfl (fun e he => ?_)
  refine J.weak [(0, _), (1, _)] ⟨rfl, rfl, trivial⟩ ?_
  refine Sr ?_
  refine Ru 2 rfl ?_
  refine JL.nil ?_
  refine J.seq ?_
  refine J.cond_f rfl ?_
  refine J.skip ?_
  refine Sr ?_
  refine Ru 2 rfl ?_
  refine JL.callP ca_117 rfl (mul64_fn hy) rfl ?_
  refine Ru 5 rfl ?_
  refine Nk [9, 8, 5, 4] rfl ?_
  refine Sr ?_
  refine Ru 4 rfl ?_
  refine Nk [5, 4] rfl ?_
  exact J.retP (RetV.two rfl rfl rfl) rfl rfl
section
variable {f : Fr} {n : Post} {x : Nat → Post} {S : Sig} {h : Part} {L L' : List Ent} {ops : Array Oper} {rest : List Oper}
variable {ty : TypeId} {pos : String} {af : Array Edge} {d : Nat} {T T2 : TypeId} {xo yo : Operand}
theorem JL.copyS {g o dl dc c t m sl sc e : Nat} {xs : List Value} (hT : slT f.P T = some (e, 1)) (hx : ev S xo = some (.slice (some ⟨g, o, none⟩) dl dc)) (hy : ev S yo = some (.slice (some ⟨g, 0, none⟩) sl sc)) (u : Del (.row (some ⟨g, 0, none⟩) c t 1 m xs) L L')
    (hm : xs.length = m) (hsm : Nat.min sl dl ≤ m) (hfit : o + Nat.min sl dl ≤ m) (h1 : ∀ v ∈ xs.take (Nat.min sl dl), v.oneCell' = true) (hd : Nat.blt d f.m = true)
    (k : JL f ops n x rest ((d, .int .i64 (Nat.min sl dl : Nat)) :: S) h (.row (some ⟨g, 0, none⟩) c t 1 m (over xs o (xs.take (Nat.min sl dl))) :: L')) :
    JL f ops n x (⟨some d, .call { callee := .builtin .copy, args := #[xo, yo], argTypes := #[T, T2] }, ty, pos, af, none⟩ :: rest) S h L := by
  have hl : (xs.take (Nat.min sl dl)).length = Nat.min sl dl := by rw [List.length_take]; omega
  refine JL.copy_ (cs := xs.take (Nat.min sl dl)) hT hx hy u hl (by rw [hl]; exact hfit) h1 (fun w hk j v hj => ?_) hd (by rw [hl]; exact k)
  have hj2 : xs[j]? = some v := by
    rw [List.getElem?_take] at hj
    split at hj
    · exact hj
    · cases hj
  rw [Addr.add_lit, Nat.zero_add, row_cell hk u.mem (List.getElem?_eq_some_iff.1 hj2).1, hj2]
end
theorem rep_take (b : UInt8) {xs : List Value} {bp k : Nat} (hx : xs.take bp = u8s (List.replicate bp b)) (hk : k ≤ bp) : xs.take k = u8s (List.replicate k b) := by
  have : xs.take k = (xs.take bp).take k := by rw [List.take_take, Nat.min_eq_left hk]
  rw [this, hx]
  simp [u8s, hk]
theorem brepeat_fn {a : Option Addr} {c N : Nat} {b : UInt8} {h : Part} (hl : SlR u8R 1 h a c [b]) (hN0 : 0 < N) (hN : N ≤ 8192) : FnR Tryz.prog 36 [.slice a 1 c, .int .i64 N] h (fun v h' => ∃ a c, v = .slice a (List.replicate N b).length c ∧ SlR u8R 1 h' a c (List.replicate N b)) := by
  have hNz := mnz (N := N) (by omega)
  have hrl : (List.replicate N b).length = N := List.length_replicate
  refine Fn.intro Tryz.func36 rfl Tryz.ntmps36 rfl (fun e he => ?_)
  refine J.weak [(0, _), (1, _)] ⟨rfl, rfl, trivial⟩ ?_
  have hh0 := Part.le.refl h
  refine Sr ?_
  refine Ru 1 rfl ?_
  refine JL.nil ?_
  refine J.seq ?_
  refine Sr ?_
  refine Ru 2 rfl ?_
  refine JL.nil ?_
  refine Cs rfl (fun hc1 => ?_) fun hc1 => ?_
  ·
   exfalso; omega
  refine J.skip ?_
  refine J.seq ?_
  refine Sr ?_
  refine Ru 2 rfl ?_
  refine JL.nil ?_
  refine Cs rfl (fun hc2 => ?_) fun hc2 => ?_
  ·
   exfalso; omega
  refine J.skip ?_
  refine Kp [4, 0, 1] rfl ?_
  refine Sr ?_
  refine Ru 2 rfl ?_
  refine JL.op z41_ rfl ?_
  refine Ru 1 rfl ?_
  refine JL.op z41_ rfl ?_
  refine JL.callP ca_79 rfl (mul1_fn (y := N) (by omega)) rfl ?_
  refine Ru 5 rfl ?_
  refine Nk [6, 5, 4, 0] rfl ?_
  refine J.seq ?_
  refine Sr ?_
  refine Ru 3 rfl ?_
  apply On 29 32 3 [6, 4, 0] rfl rfl
  rotate_left
  ·
   intro hb4 hc4
   refine Ru 3 rfl ?_
   exact Ae (om_f hb4 rfl) rfl
  rotate_right
  ·
   exact fun hb4 _ => Ru 3 rfl (Ae (om_t hb4 rfl) rfl)
  refine JL.nil ?_
  refine Cs rfl (fun hc5 => ?_) fun hc5 => ?_
  ·
   exfalso; omega
  refine J.skip ?_
  refine Sr ?_
  refine Ru 1 rfl ?_
  refine JL.op z34_ rfl ?_
  refine Ru 1 rfl ?_
  refine Nk [7, 4, 0] rfl ?_
  refine J.seq ?_
  refine Sr ?_
  refine Ru 3 rfl ?_
  refine JL.nil ?_
  refine Cs rfl (fun hc6 => ?_) fun hc6 => ?_
  ·
   exfalso; omega
  refine J.skip ?_
  refine Sr ?_
  refine Ru 2 rfl ?_
  refine Nk [8, 7, 4, 0] rfl ?_
  refine J.seq ?_
  refine Sr ?_
  refine Ru 2 rfl ?_
  refine JL.nil ?_
  refine Cs rfl (fun hc7 => ?_) fun hc7 => ?_
  ·
   exfalso; omega
  refine J.skip ?_
  refine Sr ?_
  refine Ru 1 rfl ?_
  refine JL.noZero rfl rfl hNz rfl (fun bR cR xs0 hx0 hc0 => ?_)
  refine Ru 2 rfl ?_
  refine JL.op (RunV.full3 sl_22 rfl rfl rfl rfl rfl hc0 (by omega)) rfl ?_
  refine Ru 1 rfl ?_
  refine Nk [9, 8, 7, 4, 0] rfl ?_
  refine Sr ?_
  refine Ru 2 rfl ?_
  refine JL.copyN sl_22 rfl rfl dl_ hl (by simp) rfl (by simp; omega) (by simp; omega) rfl ?_
  refine Ru 1 rfl ?_
  refine JL.nil ?_
  refine J.seq ?_
  refine J.block ?_
  refine J.loop (fun t_ S_ h_ L_ => ∃ (bp : Nat) (xs : List Value), t_ = N - bp ∧ S_ = [(7, .int .i64 N), (8, .int .i64 N), (9, .slice (some ⟨bR, 0, none⟩) N N), (10, .int .i64 bp)] ∧ h = h_ ∧ L_ = [.row (some ⟨bR, 0, none⟩) cR 5 1 N xs] ∧ (1 ≤ bp ∧ bp ≤ N ∧ xs.length = N ∧ xs.take bp = u8s (List.replicate bp b))) ⟨_, _, ?_, ⟨1, _, rfl, rfl, rfl, rfl, ⟨by omega, by omega, by rw [over_len (by simp [u8s]; omega)]; exact hx0, by simp [over, u8s]⟩⟩⟩ ?_
  ·
   exact z2_
  rintro _ _ _ _ ⟨bp, xs, rfl, rfl, rfl, rfl, hb1, hbp, hxl, hxt⟩
  refine J.seq ?_
  refine Sr ?_
  skip
  refine Ru 3 rfl ?_
  refine JL.nil ?_
  refine Cs rfl (fun hc10 => ?_) fun hc10 => ?_
  ·
   have hbN : bp < N := (by omega); obtain ⟨kk, hkk⟩ : ∃ kk, kk = Nat.min bp (N - bp) := ⟨_, rfl⟩; have hk1 : kk ≤ bp := (by rw [hkk]; exact Nat.min_le_left _ _); have hk2 : kk ≤ N - bp := (by rw [hkk]; exact Nat.min_le_right _ _); have hk0 : 0 < kk := (by rw [hkk]; exact Nat.lt_min.2 ⟨by omega, by omega⟩); have hrt := rep_take b hxt hk1; obtain ⟨q1, q2⟩ := over_flat (p := List.replicate bp b) (l := List.replicate kk b) (N := N) (by rw [List.length_replicate]; exact hxt) hxl (by rw [List.length_replicate, List.length_replicate]; omega); rw [List.length_replicate, List.replicate_append_replicate, List.length_replicate] at q1; rw [List.length_replicate] at q2
   refine J.skip ?_
   refine J.block ?_
   refine Sr ?_
   refine Ru 2 rfl ?_
   refine JL.op (RunV.min2 rfl rfl) rfl ?_
   rw [if_neg (show ¬ ((N : Int) < (bp : Int)) by omega)]
   refine Ru 1 rfl ?_
   refine JL.nil ?_
   refine J.held ([]) 10 mixed_ rfl (fun h00 => ?_)
   refine JH.take 0 rfl (by kernel_rfl) (by kernel_rfl) (by kernel_rfl) (fun _ _ _ _ hh => hh) (br_ h00) (RunV.move rfl) rfl ?_
   refine JH.take 1 rfl (by kernel_rfl) (by kernel_rfl) (by kernel_rfl) (fun _ _ _ _ hh => hh) (br_ h00) (RunV.move rfl) rfl ?_
   refine JH.take 2 rfl (by kernel_rfl) (by kernel_rfl) (by kernel_rfl) (fun _ _ _ _ hh => hh) (br_ h00) (RunV.move rfl) rfl ?_
   refine JH.take 3 rfl (by kernel_rfl) (by kernel_rfl) (by kernel_rfl) (fun _ _ _ _ hh => hh) (br_ h00) (RunV.fromv sl_22 (k := bp) rfl rfl rfl (by omega) (by omega)) rfl ?_
   refine JH.take 4 rfl (by kernel_rfl) (by kernel_rfl) (by kernel_rfl) (fun _ _ _ _ hh => hh) (br_ h00) (RunV.move rfl) rfl ?_
   refine JH.take 5 rfl (by kernel_rfl) (by kernel_rfl) (by kernel_rfl) (fun _ _ _ _ hh => hh) (br_ h00) (RunV.move rfl) rfl ?_
   refine JH.take 6 rfl (by kernel_rfl) (by kernel_rfl) (by kernel_rfl) (fun _ _ _ _ hh => hh) (br_ h00) (RunV.cutv sl_22 (m := bp) rfl rfl rfl (by omega) (by omega)) rfl ?_
   refine JH.all1 7 (by kernel_rfl) rfl ?_
   unfold One
   refine JL.copyS sl_22 rfl rfl dl_ hxl (by rw [← hkk]; omega) (by rw [← hkk]; omega) (by rw [← hkk, hrt]; intro v hv; obtain ⟨z, _, rfl⟩ := List.mem_map.1 hv; rfl) rfl ?_; rw [← hkk, hrt]
   refine JL.nil ⟨(br_ h00), ?_⟩
   refine JH.take 8 rfl (by kernel_rfl) (by kernel_rfl) (by kernel_rfl) (fun _ _ _ _ hh => hh) (br_ h00) ai_ rfl ?_
   refine JH.take 9 rfl (by kernel_rfl) (by kernel_rfl) (by kernel_rfl) (fun _ _ _ _ hh => hh) (br_ h00) (RunV.assign rfl) rfl ?_
   refine JH.done (by kernel_rfl) ?_
   refine ⟨_, ?_, _, ?_, ⟨bp + kk, _, rfl, rfl, rfl, rfl, ⟨by omega, by omega, q2, q1⟩⟩⟩
   ·
    omega
   exact z2_
  have hbe : bp = N := (by omega); subst hbe; rw [List.take_of_length_le (by omega)] at hxt; subst hxt
  refine J.exit ?_
  refine Kp [9] rfl ?_
  refine Sr ?_
  refine JL.pub (R := u8R) (l := List.replicate bp b) dl_ CellsR.of_u8 hrl.symm (by omega) (fun h9 hle9 hP9 => ?_)
  refine Ru 2 rfl ?_
  refine JL.nil ?_
  rw [hrl]; exact J.retR (RetV.one rfl rfl) ⟨_, _, rfl, hP9.recap (by omega) hc0⟩
end Go.Proofs.YtmngjbefnloljaaGreatDoor
namespace Go.Proofs.YtmngjbefnloljaaGreatDoor
open Go Go.RowKit
set_option maxRecDepth 100000
theorem ca_78 : callT Tryz.prog 78 = true := by kernel_rfl
theorem join_fn {a : Option Addr} {c : Nat} {ls : List (List UInt8)} {h : Part} (hl : SlR (slR u8R 1) 1 h a c ls) (h2 : 2 ≤ ls.length) (hb : ls.flatten.length ≤ 1000000000) (hl0 : ∀ l ∈ ls, 0 < l.length) : FnR Tryz.prog 35 [.slice a ls.length c] h (fun v h' => ∃ a c, v = .slice a ls.flatten.length c ∧ SlR u8R 1 h' a c ls.flatten) := by
  refine Fn.intro Tryz.func35 rfl Tryz.ntmps35 rfl (fun e he => ?_)
  refine J.weak [(0, _)] ⟨rfl, trivial⟩ ?_
  have hh0 := Part.le.refl h
  refine Sr ?_
  refine Ru 1 rfl ?_
  refine JL.nil ?_
  refine Sr ?_
  refine Ru 1 rfl ?_
  refine JL.callR ca_78 rfl (bjoin_fn hl h2 hb hl0) rfl ?_
  rintro _ h1 hle1 ⟨ja, jc, rfl, hJ⟩
  replace hl := hl.mono hle1
  replace hh0 := hh0.mono hle1
  refine Ru 1 rfl ?_
  refine JL.nil ?_
  exact J.retR (RetV.one rfl rfl) ⟨_, _, rfl, hJ⟩
theorem public_fn {an ae ad : Option Addr} {cn ce cd : Nat} {n x d : List UInt32} {h : Part} (hn : SlR u32R 1 h an cn n) (hx : SlR u32R 1 h ae ce x) (hln : n.length ≤ 100000) (hlx : x.length ≤ 100000) : FnR Tryz.prog 26 [.agg #[.slice an n.length cn, .slice ae x.length ce, .slice ad d.length cd]] h
    (fun v h' => ∃ a1 c1 a2 c2, v = .agg #[.slice a1 (toL (vL n)).length c1, .slice a2 (toL (vL x)).length c2, .slice none 0 0] ∧ SlR u32R 1 h' a1 c1 (toL (vL n)) ∧ SlR u32R 1 h' a2 c2 (toL (vL x))) := by
  refine Fn.intro Tryz.func26 rfl Tryz.ntmps26 rfl (fun e he => ?_)
  refine J.weak [(0, _)] ⟨rfl, trivial⟩ ?_
  have hh0 := Part.le.refl h
  refine Sr ?_
  refine JL.box rfl rfl rfl (fun b1 => ?_)
  refine JL.alloc zr_32 rfl (fun b2 => ?_)
  refine JL.nil ?_
  refine J.seq ?_
  refine J.held ([.blk b1 32 [.slice an n.length cn, .slice ae x.length ce, .slice ad d.length cd]]) 8 mixed_ rfl (fun h00 => ?_)
  refine JH.take 0 rfl (by kernel_rfl) (by kernel_rfl) (by kernel_rfl) (fun _ _ _ _ hh => hh) (br_ h00) (by first | exact RunV.fieldAt0 fo_32_0 rfl | exact RunV.fieldAt fo_32_0 rfl) rfl ?_
  refine JH.take 1 rfl (by kernel_rfl) (by kernel_rfl) (by kernel_rfl) (fun _ _ _ _ hh => hh) (br_ h00) (RunV.own1 ag_30 rfl mm_ rfl) rfl ?_
  refine JH.take 3 rfl (by kernel_rfl) (by kernel_rfl) (by kernel_rfl) (fun _ _ _ _ hh => hh) (br_ h00) z48_ rfl ?_
  refine JH.take 4 rfl (by kernel_rfl) (by kernel_rfl) (by kernel_rfl) (fun _ _ _ _ hh => hh) (br_ h00) (RunV.own1 ag_30 rfl mm_ rfl) rfl ?_
  refine JH.all1 2 (by kernel_rfl) rfl ?_
  unfold One
  refine JL.callR ca_59 rfl (nattrim_fn hn (by omega)) rfl ?_
  rintro _ h3 hle3 ⟨ta, tc, rfl, hT⟩
  replace hn := hn.mono hle3
  replace hx := hx.mono hle3
  replace hh0 := hh0.mono hle3
  refine JL.nil ⟨(br_ h00), ?_⟩
  refine JH.all1 5 (by kernel_rfl) rfl ?_
  unfold One
  refine JL.callR ca_59 rfl (nattrim_fn hx (by omega)) rfl ?_
  rintro _ h4 hle4 ⟨ua, uc, rfl, hU⟩
  replace hn := hn.mono hle4
  replace hx := hx.mono hle4
  replace hh0 := hh0.mono hle4
  replace hT := hT.mono hle4
  refine JL.nil ⟨(br_ h00), ?_⟩
  refine JH.take 6 rfl (by kernel_rfl) (by kernel_rfl) (by kernel_rfl) (fun _ _ _ _ hh => hh) (br_ h00) (RunV.build (cs := [_, _, .slice none 0 0]) pl_32 rfl rfl) rfl ?_
  refine JH.all1 7 (by kernel_rfl) rfl ?_
  unfold One
  refine JL.storeA ag_32 rfl rfl dl_ (by first | rfl) z43_ (by first | rfl) ?_
  refine JL.nil ⟨(br_ h00), ?_⟩
  refine JH.done (by kernel_rfl) ?_
  refine Kp [2] rfl ?_
  exact J.retR (RetV.cell rfl rfl ag_32 mm_ (by first | rfl)) ⟨_, _, _, _, rfl, hT, hU⟩
end Go.Proofs.YtmngjbefnloljaaGreatDoor
namespace Go.Proofs.YtmngjbefnloljaaGreatDoor
open Go Go.RowKit
set_option maxRecDepth 100000
theorem ag_168 : aggT Tryz.prog 168 = some (some 8) := by kernel_rfl
theorem ar_170 : arT Tryz.prog 170 = some (8, 1) := by kernel_rfl
theorem az_168 : arZ Tryz.prog 168 = some ([.int .u64 0, .int .u64 0, .int .u64 0, .int .u64 0, .int .u64 0, .int .u64 0, .int .u64 0, .int .u64 0], 1) := by kernel_rfl
theorem ca_112 : callT Tryz.prog 112 = true := by kernel_rfl
theorem ni_169 : niT Tryz.prog 169 = true := by kernel_rfl
theorem ni_173 : niT Tryz.prog 173 = true := by kernel_rfl
theorem pl_172 : plT Tryz.prog 172 = some ([.int .u32 0, .int .u32 0, .int .u32 0, .int .u32 0, .int .u32 0, .int .u32 0, .int .u32 0, .int .u32 0], [(0, 8)]) := by kernel_rfl
theorem pl_175 : plT Tryz.prog 175 = some ([.int .u64 0, .int .u64 0, .int .u64 0, .int .u64 0, .int .u64 0, .int .u64 0, .int .u64 0, .int .u64 0], [(0, 8)]) := by kernel_rfl
theorem zr_168 : zeroT Tryz.prog 168 = some [.int .u64 0, .int .u64 0, .int .u64 0, .int .u64 0, .int .u64 0, .int .u64 0, .int .u64 0, .int .u64 0] := by kernel_rfl
section
variable {f : Fr} {S : Sig} {h : Part} {L : List Ent} {ty T yt : TypeId} {xo yo : Operand}
theorem RunV.eql_nil_nil (hT : ifT f.P T = true) (hx : ev S xo = some .nilIface) : RunV f S h L (.binOp .eql T xo (.const .nilIface) yt) ty (.bool true) := RunV.bin (y := .const .nilIface) hx rfl fun w => by
  unfold ifT at hT
  split at hT <;> try cases hT
  rename_i ms hu
  have key : ∀ m : Nat, (Op.equalIn (m + 1) T .nilIface .nilIface).run f.P w = .ok true w := fun m => by simp [Op.equalIn, run_underlying hu]
  simp only [go_sem, binOp, Op.equal, Op.maxDepth]
  simp [eqGuard, key 9999]
theorem RunV.eql_iface_nil {t : TypeId} {v : Value} (hT : ifT f.P T = true) (hx : ev S xo = some (.iface t v)) : RunV f S h L (.binOp .eql T xo (.const .nilIface) yt) ty (.bool false) := RunV.bin (y := .const .nilIface) hx rfl fun w => by
  unfold ifT at hT
  split at hT <;> try cases hT
  rename_i ms hu
  have key : ∀ m : Nat, (Op.equalIn (m + 1) T (.iface t v) .nilIface).run f.P w = .ok false w := fun m => by simp [Op.equalIn, run_underlying hu]
  simp only [go_sem, binOp, Op.equal, Op.maxDepth]
  simp [eqGuard, key 9999]
def arE (P : Program) (T : Nat) : Option (Nat × Bool) :=
  match P.underlying T with
  | some (.array n e) => some (n, aggT P e == some none)
  | _ => none
theorem RunV.indexAgg {len m : Nat} {k : IntKind} {i : Int} {cs : List Value} {v : Value} (hT : arE f.P T = some (len, true)) (hx : ev S xo = some (.agg cs.toArray)) (hy : ev S yo = some (.int k i)) (hi : i = (m : Int)) (h1 : m < len) (hv : cs[m]? = some v) :
    RunV f S h L (.index T xo yo) ty v := fun a w s _ _ _ _ => by
  subst hi
  have h0 : (0 : Int) ≤ m := by omega
  unfold arE at hT
  split at hT <;> try cases hT
  rename_i n e hu
  simp only [Option.some.injEq, Prod.mk.injEq, beq_iff_eq] at hT
  obtain ⟨rfl, he⟩ := hT
  have ⟨e1, e2⟩ := aggT_one he w
  simp [execOp, s.eval hx, s.eval hy, Instr.index, asIntOf, run_underlying hu, h0, h1, e2, part, e1, hv]
end
def c64 (l : List UInt64) : List Value := l.map fun x => .int .u64 (x.toNat : Int)
theorem c64_at (l : List UInt64) (i : Nat) (h : i < l.length) : (c64 l)[i]? = some (.int .u64 ((l[i]'h).toNat : Int)) := by simp [c64, h]
def sqL : List UInt64 := [7640891576956012808, 13503953896175478587, 4354685564936845355, 11912009170470909681, 5840696475078001361, 11170449401992604703, 2270897969802886507, 6620516959819538809]
theorem shaoid_fn {n : Int} {h : Part} : Pure Tryz.prog 76 [.int .i64 n] h (.string ⟨(if n = 256 then [50, 46, 49, 54, 46, 56, 52, 48, 46, 49, 46, 49, 48, 49, 46, 51, 46, 52, 46, 50, 46, 49] else if n = 384 then [50, 46, 49, 54, 46, 56, 52, 48, 46, 49, 46, 49, 48, 49, 46, 51, 46, 52, 46, 50, 46, 50] else if n = 512 then [50, 46, 49, 54, 46, 56, 52, 48, 46, 49, 46, 49, 48, 49, 46, 51, 46, 52, 46, 50, 46, 51] else [] : List UInt8).toArray⟩) := by
  refine Fn.intro Tryz.func76 rfl Tryz.ntmps76 rfl (fun e he => ?_)
  refine J.weak [(0, _)] ⟨rfl, trivial⟩ ?_
  refine Sr ?_
  refine Ru 1 rfl ?_
  refine JL.nil ?_
  refine J.seq ?_
  refine Sr ?_
  refine Ru 1 rfl ?_
  refine JL.nil ?_
  refine J.block ?_
  refine Sr ?_
  refine Ru 2 rfl ?_
  refine JL.nil ?_
  refine Cs rfl (fun hc1 => ?_) fun hc1 => ?_
  ·
   refine Sr ?_
   refine Ru 1 rfl ?_
   refine Nk [2] rfl ?_
   rw [if_pos hc1]; exact J.retP (RetV.one rfl rfl) rfl rfl
  refine Sr ?_
  refine Ru 2 rfl ?_
  refine Nk [6, 3, 2] rfl ?_
  refine Cs rfl (fun hc2 => ?_) fun hc2 => ?_
  ·
   refine Sr ?_
   refine Ru 1 rfl ?_
   refine JL.nil ?_
   rw [if_neg (by omega), if_pos hc2]; exact J.retP (RetV.one rfl rfl) rfl rfl
  refine Sr ?_
  refine Ru 2 rfl ?_
  refine JL.nil ?_
  refine Cs rfl (fun hc3 => ?_) fun hc3 => ?_
  ·
   refine Sr ?_
   refine Ru 1 rfl ?_
   refine Nk [2] rfl ?_
   rw [if_neg (by omega), if_neg (by omega), if_pos hc3]; exact J.retP (RetV.one rfl rfl) rfl rfl
  refine J.skip ?_
  refine Kp [2] rfl ?_
  refine Sr ?_
  refine Ru 1 rfl ?_
  refine JL.nil ?_
  rw [if_neg (by omega), if_neg (by omega), if_neg (by omega)]; exact J.retP (RetV.one rfl rfl) rfl rfl
def someH (n : Int) : Prop := n = 256 ∨ n = 384 ∨ n = 512
instance (n : Int) : Decidable (someH n) := inferInstanceAs (Decidable (_ ∨ _ ∨ _))
theorem first_none {n : Int} {h : Part} (hn : ¬ someH n) : FnR Tryz.prog 112 [.int .i64 n] h (fun v _ => v = .nilIface) := by
  unfold someH at hn
  refine Fn.intro Tryz.func112 rfl Tryz.ntmps112 rfl (fun e he => ?_)
  refine J.weak [(0, _)] ⟨rfl, trivial⟩ ?_
  have hh0 := Part.le.refl h
  refine Sr ?_
  refine Ru 1 rfl ?_
  refine JL.nil ?_
  refine Sr ?_
  refine JL.op (RunV.buildArr az_168 rfl rfl rfl) rfl ?_
  refine JL.alloc zr_168 rfl (fun b1 => ?_)
  refine JL.storeA ag_168 rfl rfl dl_ (by first | rfl) z43_ (by first | rfl) ?_
  refine JL.nil ?_
  refine J.seq ?_
  refine Sr ?_
  refine Ru 1 rfl ?_
  refine JL.nil ?_
  refine J.block ?_
  refine Sr ?_
  refine Ru 2 rfl ?_
  refine JL.nil ?_
  refine Cs rfl (fun hc2 => ?_) fun hc2 => ?_
  ·
   exfalso; omega
  refine Sr ?_
  refine Ru 2 rfl ?_
  refine Nk [29, 8, 3, 2] rfl ?_
  refine Cs rfl (fun hc3 => ?_) fun hc3 => ?_
  ·
   exfalso; omega
  refine Sr ?_
  refine Ru 2 rfl ?_
  refine JL.nil ?_
  refine Cs rfl (fun hc4 => ?_) fun hc4 => ?_
  ·
   exfalso; omega
  refine J.skip ?_
  refine Kp [2] rfl ?_
  refine Sr ?_
  refine Ru 1 rfl ?_
  refine JL.nil ?_
  exact J.retR (RetV.one rfl rfl) rfl
theorem first_some {n : Int} {h : Part} (hn : someH n) : FnR Tryz.prog 112 [.int .i64 n] h (fun v _ => ∃ t u, v = .iface t u) := by
  unfold someH at hn
  have hsl : sqL.length = 8 := rfl
  refine Fn.intro Tryz.func112 rfl Tryz.ntmps112 rfl (fun e he => ?_)
  refine J.weak [(0, _)] ⟨rfl, trivial⟩ ?_
  have hh0 := Part.le.refl h
  refine Sr ?_
  refine Ru 1 rfl ?_
  refine JL.nil ?_
  refine Sr ?_
  refine JL.op (RunV.buildArr az_168 rfl rfl rfl) rfl ?_
  refine JL.alloc zr_168 rfl (fun b1 => ?_)
  refine JL.storeA ag_168 rfl rfl dl_ (by first | rfl) z43_ (by first | rfl) ?_
  refine JL.nil ?_
  refine J.seq ?_
  refine Sr ?_
  refine Ru 1 rfl ?_
  refine JL.nil ?_
  refine J.block ?_
  refine Sr ?_
  refine Ru 2 rfl ?_
  refine JL.nil ?_
  refine Cs rfl (fun hc2 => ?_) fun hc2 => ?_
  ·
   refine Sr ?_
   refine JL.op (RunV.build (cs := [.int .u32 0, .int .u32 0, .int .u32 0, .int .u32 0, .int .u32 0, .int .u32 0, .int .u32 0, .int .u32 0]) pl_172 rfl rfl) rfl ?_
   refine JL.box rfl rfl rfl (fun b3 => ?_)
   refine Ru 1 rfl ?_
   refine Nk [4, 3, 2] rfl ?_
   refine J.seq ?_
   refine Sr ?_
   refine JL.op (RunV.ownA ag_168 rfl mm_ (by first | rfl)) rfl ?_
   refine Ru 1 rfl ?_
   refine JL.nil ?_
   refine J.block ?_
   refine J.loop (fun t_ S_ h_ L_ => ∃ (i : Nat) (cs : List Value), t_ = 8 - i ∧ S_ = [(4, .pointer (some ⟨b3, 0, none⟩)), (13, .agg (c64 sqL).toArray), (14, .int .i64 i)] ∧ h = h_ ∧ L_ = [.blk b3 172 cs, .blk b1 168 (c64 sqL)] ∧ (i ≤ 8 ∧ cs.length = 8)) ⟨_, _, ?_, ⟨0, [.int .u32 0, .int .u32 0, .int .u32 0, .int .u32 0, .int .u32 0, .int .u32 0, .int .u32 0, .int .u32 0], rfl, rfl, rfl, rfl, ⟨by omega, rfl⟩⟩⟩ ?_
   ·
    exact z2_
   rintro _ _ _ _ ⟨i, cs, rfl, rfl, rfl, rfl, hi, hcl⟩
   refine Sr ?_
   refine Ru 1 rfl ?_
   refine JL.nil ?_
   refine J.seq ?_
   refine Cs rfl (fun hc4 => ?_) fun hc4 => ?_
   ·
    have hi' : i < 8 := (by omega); have hx64 := (sqL[i]'(by omega)).toNat_lt
    refine J.skip ?_
    refine J.seq ?_
    refine J.block ?_
    refine Sr ?_
    refine Ru 1 rfl ?_
    refine JL.op (RunV.indexAgg (len := 8) (m := i) (by kernel_rfl) rfl rfl rfl hi' (c64_at sqL i (by omega))) rfl ?_
    refine Ru 2 rfl ?_
    refine JL.nil ?_
    refine Rg ?_
    refine Ru 3 rfl ?_
    refine JL.op (RunV.shr_u64 4294967296 rfl rfl (by decide) (by decide) (by decide)) rfl ?_
    refine JL.op (RunV.toW ((sqL[i]'(by omega)).toNat / 4294967296) cv_63_103 rfl (by rw [Int.natCast_ediv]; rfl)) rfl ?_
    refine Ru 2 rfl ?_
    refine JL.op (RunV.indexArr ar_170 rfl rfl z8_ (by omega)) rfl ?_
    refine JL.store1 ag_103 rfl rfl rfl dl_ z32_ ?_
    refine JL.nil ?_
    refine Rg ?_
    refine JL.op ai_ rfl ?_
    refine Ru 1 rfl ?_
    refine JL.nil ?_
    refine ⟨_, ?_, _, ?_, ⟨i + 1, _, rfl, rfl, rfl, rfl, ⟨by omega, by rw [List.length_set]; exact hcl⟩⟩⟩
    ·
     omega
    exact z2_
   refine J.exit ?_
   refine Sr ?_
   refine Ru 1 rfl ?_
   refine JL.op (RunV.makeInterface ni_169 rfl) rfl ?_
   refine Ru 1 rfl ?_
   refine Nk [2] rfl ?_
   exact J.retR (RetV.one rfl rfl) ⟨_, _, rfl⟩
  refine Sr ?_
  refine Ru 2 rfl ?_
  refine Nk [29, 8, 3, 2] rfl ?_
  refine Cs rfl (fun hc5 => ?_) fun hc5 => ?_
  ·
   refine Sr ?_
   refine JL.op (RunV.buildArr az_168 rfl rfl rfl) rfl ?_
   refine JL.op (RunV.build (cs := [_, _, _, _, _, _, _, _]) pl_175 rfl rfl) rfl ?_
   refine JL.box rfl rfl rfl (fun b6 => ?_)
   refine JL.op (RunV.makeInterface ni_173 rfl) rfl ?_
   refine Ru 1 rfl ?_
   refine Nk [2] rfl ?_
   exact J.retR (RetV.one rfl rfl) ⟨_, _, rfl⟩
  refine Sr ?_
  refine Ru 2 rfl ?_
  refine JL.nil ?_
  refine Cs rfl (fun hc7 => ?_) fun hc7 => ?_
  ·
   refine Sr ?_
   refine JL.op (RunV.ownA ag_168 rfl mm_ (by first | rfl)) rfl ?_
   refine JL.op (RunV.build (cs := [_, _, _, _, _, _, _, _]) pl_175 rfl rfl) rfl ?_
   refine JL.box rfl rfl rfl (fun b8 => ?_)
   refine JL.op (RunV.makeInterface ni_173 rfl) rfl ?_
   refine Ru 1 rfl ?_
   refine Nk [2] rfl ?_
   exact J.retR (RetV.one rfl rfl) ⟨_, _, rfl⟩
  refine J.skip ?_
  refine Kp [2] rfl ?_
  refine Sr ?_
  refine Ru 1 rfl ?_
  refine JL.nil ?_
  exfalso; omega
def shaSize (n : Int) : Int := if someH n then n / 8 else 0
theorem shasize_fn {n : Int} {h : Part} : FnR Tryz.prog 74 [.int .i64 n] h (fun v _ => v = .int .i64 (shaSize n)) := by
  by_cases hn : someH n
  · have hs : shaSize n = n / 8 := if_pos hn
    rw [hs]
    have hn2 := hn
    unfold someH at hn2
    refine Fn.intro Tryz.func74 rfl Tryz.ntmps74 rfl (fun e he => ?_)
    refine J.weak [(0, _)] ⟨rfl, trivial⟩ ?_
    have hh0 := Part.le.refl h
    refine Sr ?_
    refine Ru 1 rfl ?_
    refine JL.nil ?_
    refine J.seq ?_
    refine Sr ?_
    refine Ru 1 rfl ?_
    refine JL.callR ca_112 rfl (first_some hn) rfl ?_
    rintro _ h1 hle1 ⟨t, u, rfl⟩
    replace hh0 := hh0.mono hle1
    refine JL.op (RunV.eql_iface_nil (by kernel_rfl) rfl) rfl ?_
    refine JL.nil ?_
    refine J.cond_f rfl ?_
    refine J.skip ?_
    refine Sr ?_
    refine Ru 1 rfl ?_
    refine JL.op z12_ rfl ?_
    refine Ru 1 rfl ?_
    refine Nk [2] rfl ?_
    exact J.retR (RetV.one rfl rfl) rfl
  · have hs : shaSize n = 0 := if_neg hn
    rw [hs]
    refine Fn.intro Tryz.func74 rfl Tryz.ntmps74 rfl (fun e he => ?_)
    refine J.weak [(0, _)] ⟨rfl, trivial⟩ ?_
    have hh0 := Part.le.refl h
    refine Sr ?_
    refine Ru 1 rfl ?_
    refine JL.nil ?_
    refine J.seq ?_
    refine Sr ?_
    refine Ru 1 rfl ?_
    refine JL.callR ca_112 rfl (first_none hn) rfl ?_
    rintro _ h1 hle1 rfl
    replace hh0 := hh0.mono hle1
    refine JL.op (RunV.eql_nil_nil (by kernel_rfl) rfl) rfl ?_
    refine JL.nil ?_
    refine J.cond_t rfl ?_
    refine Sr ?_
    refine Ru 1 rfl ?_
    refine JL.nil ?_
    exact J.retR (RetV.one rfl rfl) rfl
end Go.Proofs.YtmngjbefnloljaaGreatDoor
namespace Go.Proofs.YtmngjbefnloljaaGreatDoor
open Go Go.RowKit
set_option maxRecDepth 100000
theorem ag_99 : aggT Tryz.prog 99 = some (some 8) := by kernel_rfl
theorem ap_97 : apT Tryz.prog 97 = some (93, 1, 8) := by kernel_rfl
theorem ca_118 : callT Tryz.prog 118 = true := by kernel_rfl
theorem ca_37 : callT Tryz.prog 37 = true := by kernel_rfl
theorem ca_81 : callT Tryz.prog 81 = true := by kernel_rfl
theorem fo_99_2 : fieldOff Tryz.prog 99 2 = some 2 := by kernel_rfl
theorem pl_99 : plT Tryz.prog 99 = some ([.int .u64 0, .int .i64 0, .slice none 0 0, .slice none 0 0, .slice none 0 0, .slice none 0 0, .slice none 0 0, .int .i64 0], [(0, 1), (1, 1), (2, 1), (3, 1), (4, 1), (5, 1), (6, 1), (7, 1)]) := by kernel_rfl
theorem zr_93 : zeroT Tryz.prog 93 = some [.int .u64 0] := by kernel_rfl
theorem zr_99 : zeroT Tryz.prog 99 = some [.int .u64 0, .int .i64 0, .slice none 0 0, .slice none 0 0, .slice none 0 0, .slice none 0 0, .slice none 0 0, .int .i64 0] := by kernel_rfl
def waySize (n : Int) : Int := if n = 256 then 32 else if n = 384 then 48 else if n = 512 then 64 else 0
theorem way_sha (n : Int) : waySize n = shaSize n := by
  by_cases h1 : n = 256
  · subst h1; rfl
  · by_cases h2 : n = 384
    · subst h2; rfl
    · by_cases h3 : n = 512
      · subst h3; rfl
      · have h4 : ¬ someH n := (by unfold someH; omega)
        show (if n = 256 then 32 else if n = 384 then 48 else if n = 512 then 64 else 0 : Int) = shaSize n
        rw [if_neg h1, if_neg h2, if_neg h3, show shaSize n = 0 from if_neg h4]
def sq16 : List UInt64 := [0x6a09e667f3bcc908, 0xbb67ae8584caa73b, 0x3c6ef372fe94f82b, 0xa54ff53a5f1d36f1, 0x510e527fade682d1, 0x9b05688c2b3e6c1f, 0x1f83d9abfb41bd6b, 0x5be0cd19137e2179, 0xcbbb9d5dc1059ed8, 0x629a292a367cd507, 0x9159015a3070dd17, 0x152fecd8f70e5939, 0x67332667ffc00b31, 0x8eb44a8768581511, 0xdb0c2e0d64f98fa7, 0x47b5481dbefa4fa4]
theorem cells_lit64 {h : Part} {xs : List Value} {l : List UInt64} (e : c64 l = xs) : CellsR u64R 1 h xs l := by
  subst e
  refine ⟨by simp [c64], fun i x hx => ?_⟩
  obtain ⟨hi, rfl⟩ := List.getElem?_eq_some_iff.1 hx
  unfold u64R
  rw [Nat.mul_one, List.take_one, List.head?_drop, c64_at l i hi]
  rfl
theorem squares_fn {h : Part} : FnR Tryz.prog 118 [] h (fun v h' => ∃ a c, v = .slice a sq16.length c ∧ SlR u64R 1 h' a c sq16) := by
  refine Fn.intro Tryz.func118 rfl Tryz.ntmps118 rfl (fun e he => ?_)
  have hh0 := Part.le.refl h
  refine Sr ?_
  refine Ru 1 rfl ?_
  refine JL.nil ?_
  refine Sr ?_
  refine JL.lit1 ap_66 zr_63 rfl rfl rfl rfl rfl (fun b1 => ?_)
  refine JL.pubB (R := u64R) (sz := 1) (l := sq16) dl_ ((cells_lit64 (by kernel_rfl))) z7_ (fun h2 hle2 hQ => ?_)
  replace hh0 := hh0.mono hle2
  refine Ru 1 rfl ?_
  refine JL.nil ?_
  exact J.retR (RetV.one rfl rfl) ⟨_, _, rfl, hQ⟩
theorem ways_some {n : Int} {h : Part} (hn : n = 256) : FnR Tryz.prog 81 [.int .i64 n] h (fun v _ => ∃ c0 c1 c2 c3 c4 c5 c6, v = .agg #[c0, c1, c2, c3, c4, c5, c6, .int .i64 (waySize n)]) := by
  have hw : waySize n = 32 := if_pos hn
  have hsl : sq16.length = 16 := rfl
  rw [hw]
  refine Fn.intro Tryz.func81 rfl Tryz.ntmps81 rfl (fun e he => ?_)
  refine J.weak [(0, _)] ⟨rfl, trivial⟩ ?_
  have hh0 := Part.le.refl h
  refine Sr ?_
  refine JL.alloc zr_99 rfl (fun b1 => ?_)
  refine JL.nil ?_
  refine Sr ?_
  refine JL.callR ca_118 rfl (squares_fn) rfl ?_
  rintro _ h2 hle2 ⟨sa, sc, rfl, hQ⟩
  replace hh0 := hh0.mono hle2
  refine Ru 1 rfl ?_
  refine JL.nil ?_
  refine J.seq ?_
  refine Sr ?_
  refine Ru 2 rfl ?_
  refine JL.nil ?_
  refine Cs rfl (fun hc3 => ?_) fun hc3 => ?_
  rotate_left
  ·
   exfalso; omega
  refine Sr ?_
  refine JL.lit1 ap_97 zr_93 rfl rfl rfl rfl rfl (fun b4 => ?_)
  refine JL.lit1 ap_97 zr_93 rfl rfl rfl rfl rfl (fun b5 => ?_)
  refine JL.lit1 ap_97 zr_93 rfl rfl rfl rfl rfl (fun b6 => ?_)
  refine JL.lit1 ap_97 zr_93 rfl rfl rfl rfl rfl (fun b7 => ?_)
  refine JL.op (RunV.build (cs := [_, _, .slice none 0 0, _, _, _, _, _]) pl_99 rfl rfl) rfl ?_
  refine JL.alloc zr_99 rfl (fun b8 => ?_)
  refine JL.storeA ag_99 rfl rfl dl_ (by first | rfl) z43_ (by first | rfl) ?_
  refine Nk [4, 3, 2, 0] rfl ?_
  refine J.seq ?_
  refine Sr ?_
  refine JL.own (L' := [.blk b8 99 _, .blk b1 99 _]) (fun w hk => hk.drop (by repeat (first | exact List.nil_sublist _ | apply List.Sublist.cons_cons | apply List.Sublist.cons))) ?_; refine JL.row_nil 63 1 ?_; refine JL.own (fun w hk => hk.perm (.swap ..)) ?_
  refine Ru 1 rfl ?_
  refine JL.nil ?_
  refine J.block ?_
  refine J.loop (fun t_ S_ h_ L_ => ∃ (i : Nat) (l : List UInt64) (ao : Option Addr) (co : Nat) (xs : List Value), t_ = 8 - i ∧ S_ = [(2, .pointer (some ⟨b1, 0, none⟩)), (3, .slice sa sq16.length sc), (4, .pointer (some ⟨b8, 0, none⟩)), (5, .int .i64 i)] ∧ h2 = h_ ∧ L_ = [.blk b8 99 [.int .u64 32, .int .i64 64, .slice ao l.length co, (.slice (some ⟨b4, 0, none⟩) 3 3), (.slice (some ⟨b5, 0, none⟩) 3 3), (.slice (some ⟨b6, 0, none⟩) 3 3), (.slice (some ⟨b7, 0, none⟩) 3 3), .int .i64 32], .row ao co 63 1 l.length xs, .blk b1 99 [.int .u64 0, .int .i64 0, .slice none 0 0, .slice none 0 0, .slice none 0 0, .slice none 0 0, .slice none 0 0, .int .i64 0]] ∧ (i ≤ 8 ∧ l.length = i ∧ CellsR u64R 1 h2 xs l)) ⟨_, _, ?_, ⟨0, [], none, 0, [], rfl, rfl, rfl, rfl, ⟨by omega, rfl, CellsR.nil⟩⟩⟩ ?_
  ·
   exact z2_
  rintro _ _ _ _ ⟨i, l, ao, co, xs, rfl, rfl, rfl, rfl, hi, hll, hC⟩
  refine J.seq ?_
  refine Sr ?_
  refine Ru 2 rfl ?_
  refine JL.nil ?_
  refine Cs rfl (fun hc9 => ?_) fun hc9 => ?_
  ·
   have hi' : i < 8 := (by omega); have hi16 : i < sq16.length := (by omega); have hx64 := (sq16[i]'hi16).toNat_lt
   refine J.skip ?_
   refine J.seq ?_
   refine J.block ?_
   refine J.held ([]) 11 mixed_ rfl (fun h00 => ?_)
   refine JH.take 0 rfl (by kernel_rfl) (by kernel_rfl) (by kernel_rfl) (fun _ _ _ _ hh => hh) (br_ h00) (by first | exact RunV.fieldAt0 fo_99_2 rfl | exact RunV.fieldAt fo_99_2 rfl) rfl ?_
   refine JH.take 2 rfl (by kernel_rfl) (by kernel_rfl) (by kernel_rfl) (fun _ _ _ _ hh => hh) (br_ h00) (RunV.move rfl) rfl ?_
   refine JH.take 3 rfl (by kernel_rfl) (by kernel_rfl) (by kernel_rfl) (fun _ _ _ _ hh => hh) (br_ h00) (RunV.move rfl) rfl ?_
   refine JH.takeE 4 rfl (by kernel_rfl) (by kernel_rfl) (by kernel_rfl) (fun _ _ _ _ hh => hh) (br_ h00) (RunE.index sl_66 rfl rfl z8_ (by assumption) rfl (by omega)) rfl ?_
   rintro _ ⟨b10, o10, hi10, rfl, hE10⟩
   refine JH.take 5 rfl (by kernel_rfl) (by kernel_rfl) (by kernel_rfl) (fun _ _ _ _ hh => hh) (br_ h00) (RunV.ld_u64 ag_63 rfl (by assumption)) rfl ?_
   refine JH.take 6 rfl (by kernel_rfl) (by kernel_rfl) (by kernel_rfl) (fun _ _ _ _ hh => hh) (br_ h00) z16_ rfl ?_
   refine JH.all2 1 7 (by kernel_rfl) rfl rfl ?_ ?_
   ·
    unfold One
    refine JL.op (RunV.own1 ag_66 rfl mm_ rfl) rfl ?_
    refine JL.nil ⟨(br_ h00), ?_⟩
    refine JH.all1 7 (by kernel_rfl) rfl ?_
    unfold One
    refine JL.lit1 ap_66 zr_63 rfl rfl rfl rfl rfl (fun b12 => ?_)
    refine JL.nil ⟨(br_ h00), ?_⟩
    refine JH.all1 8 (by kernel_rfl) rfl ?_
    unfold One
    refine JL.append1 ap_66 rfl rfl (by assumption) rfl dl_ dl_ rfl ((by show _ = _; rw [UInt64.toNat_div]; rfl : u64R _ [.int .u64 (((sq16[i]'hi16).toNat : Int) / 4294967296)] (sq16[i]'hi16 / 4294967296))) z3_ rfl rfl (fun a13 c13 xs13 hC13 hN13 => ?_)
    refine JL.nil ⟨(br_ h00), ?_⟩
    refine JH.take 9 rfl (by kernel_rfl) (by kernel_rfl) (by kernel_rfl) (fun _ _ _ _ hh => hh) (br_ h00) (by first | exact RunV.fieldAt0 fo_99_2 rfl | exact RunV.fieldAt fo_99_2 rfl) rfl ?_
    refine JH.all1 10 (by kernel_rfl) rfl ?_
    unfold One
    refine JL.store1 ag_66 rfl rfl rfl dl_ z32_ ?_
    refine JL.nil ⟨(br_ h00), ?_⟩
    refine JH.done (by kernel_rfl) ?_
    refine Rg ?_
    refine Ru 1 rfl ?_
    refine JL.op ai_ rfl ?_
    refine Ru 1 rfl ?_
    refine JL.nil ?_
    refine ⟨_, ?_, _, ?_, ⟨i + 1, _, _, _, _, rfl, rfl, rfl, rfl, ⟨by omega, by simp [hll], by assumption⟩⟩⟩
    ·
     omega
    exact z2_
   unfold One
   refine JL.lit1 ap_66 zr_63 rfl rfl rfl rfl rfl (fun b14 => ?_)
   refine JL.nil ⟨(br_ h00), ?_⟩
   refine JH.all1 1 (by kernel_rfl) rfl ?_
   unfold One
   refine JL.op (RunV.own1 ag_66 rfl mm_ rfl) rfl ?_
   refine JL.nil ⟨(br_ h00), ?_⟩
   refine JH.all1 8 (by kernel_rfl) rfl ?_
   unfold One
   refine JL.append1 ap_66 rfl rfl (by assumption) rfl dl_ dl_ rfl ((by show _ = _; rw [UInt64.toNat_div]; rfl : u64R _ [.int .u64 (((sq16[i]'hi16).toNat : Int) / 4294967296)] (sq16[i]'hi16 / 4294967296))) z3_ rfl rfl (fun a15 c15 xs15 hC15 hN15 => ?_)
   refine JL.nil ⟨(br_ h00), ?_⟩
   refine JH.take 9 rfl (by kernel_rfl) (by kernel_rfl) (by kernel_rfl) (fun _ _ _ _ hh => hh) (br_ h00) (by first | exact RunV.fieldAt0 fo_99_2 rfl | exact RunV.fieldAt fo_99_2 rfl) rfl ?_
   refine JH.all1 10 (by kernel_rfl) rfl ?_
   unfold One
   refine JL.store1 ag_66 rfl rfl rfl dl_ z32_ ?_
   refine JL.nil ⟨(br_ h00), ?_⟩
   refine JH.done (by kernel_rfl) ?_
   refine Rg ?_
   refine Ru 1 rfl ?_
   refine JL.op ai_ rfl ?_
   refine Ru 1 rfl ?_
   refine JL.nil ?_
   refine ⟨_, ?_, _, ?_, ⟨i + 1, _, _, _, _, rfl, rfl, rfl, rfl, ⟨by omega, by simp [hll], by assumption⟩⟩⟩
   ·
    omega
   exact z2_
  refine J.exit ?_
  refine Sr ?_
  refine JL.op (RunV.ownA ag_99 rfl mm_ (by first | rfl)) rfl ?_
  refine JL.storeA ag_99 rfl rfl dl_ (by first | rfl) z43_ (by first | rfl) ?_
  refine Nk [2, 3] rfl ?_
  exact J.retR (RetV.cell rfl rfl ag_99 mm_ (by first | rfl)) ⟨_, _, _, _, _, _, _, rfl⟩
theorem ways_other {n : Int} {h : Part} (hn : n ≠ 256) : FnR Tryz.prog 81 [.int .i64 n] h (fun v _ => ∃ c0 c1 c2 c3 c4 c5 c6, v = .agg #[c0, c1, c2, c3, c4, c5, c6, .int .i64 (waySize n)]) := by
  have hw : waySize n = if n = 384 then 48 else if n = 512 then 64 else 0 := if_neg hn
  have hsl : sq16.length = 16 := rfl
  rw [hw]
  refine Fn.intro Tryz.func81 rfl Tryz.ntmps81 rfl (fun e he => ?_)
  refine J.weak [(0, _)] ⟨rfl, trivial⟩ ?_
  have hh0 := Part.le.refl h
  refine Sr ?_
  refine JL.alloc zr_99 rfl (fun b1 => ?_)
  refine JL.nil ?_
  refine Sr ?_
  refine JL.callR ca_118 rfl (squares_fn) rfl ?_
  rintro _ h2 hle2 ⟨sa, sc, rfl, hQ⟩
  replace hh0 := hh0.mono hle2
  refine Ru 1 rfl ?_
  refine JL.nil ?_
  refine J.seq ?_
  refine Sr ?_
  refine Ru 2 rfl ?_
  refine JL.nil ?_
  refine Cs rfl (fun hc3 => ?_) fun hc3 => ?_
  ·
   exfalso; omega
  refine J.skip ?_
  refine Sr ?_
  refine JL.lit1 ap_97 zr_93 rfl rfl rfl rfl rfl (fun b4 => ?_)
  refine JL.lit1 ap_97 zr_93 rfl rfl rfl rfl rfl (fun b5 => ?_)
  refine JL.lit1 ap_97 zr_93 rfl rfl rfl rfl rfl (fun b6 => ?_)
  refine JL.lit1 ap_97 zr_93 rfl rfl rfl rfl rfl (fun b7 => ?_)
  refine JL.op (RunV.build (cs := [_, _, .slice none 0 0, _, _, _, _, .int .i64 0]) pl_99 rfl rfl) rfl ?_
  refine JL.alloc zr_99 rfl (fun b8 => ?_)
  refine JL.storeA ag_99 rfl rfl dl_ (by first | rfl) z43_ (by first | rfl) ?_
  refine Nk [6, 3, 2, 0] rfl ?_
  refine J.seq ?_
  refine Sr ?_
  refine Ru 2 rfl ?_
  refine JL.nil ?_
  refine Cs rfl (fun hc9 => ?_) fun hc9 => ?_
  ·
   refine Sr ?_
   refine Ru 1 rfl ?_
   refine JL.store1 ag_3 rfl rfl rfl dl_ z32_ ?_
   refine JL.nil ?_
   refine Rg ?_
   refine Ru 1 rfl ?_
   refine JL.ope (RunE.cut_l sl_66 rfl rfl (show _ = ((8 : Nat) : Int) from rfl) (by assumption) rfl (by omega)) rfl ?_
   rintro _ ⟨a10, c10, rfl, hS10⟩
   refine Ru 1 rfl ?_
   refine JL.store1 ag_66 rfl rfl rfl dl_ z32_ ?_
   refine Nk [6, 3, 2, 0] rfl ?_
   refine J.seq ?_
   refine Sr ?_
   refine Ru 2 rfl ?_
   refine JL.nil ?_
   refine Cs rfl (fun hc11 => ?_) fun hc11 => ?_
   ·
    refine Sr ?_
    refine Ru 1 rfl ?_
    refine JL.store1 ag_3 rfl rfl rfl dl_ z32_ ?_
    refine Nk [6, 3, 2] rfl ?_
    refine Rg ?_
    refine Ru 1 rfl ?_
    refine JL.ope (RunE.cut_h sl_66 rfl rfl (show _ = ((8 : Nat) : Int) from rfl) (by assumption) rfl (by omega)) rfl ?_
    rintro _ ⟨a12, c12, rfl, hS12⟩
    refine Ru 1 rfl ?_
    refine JL.store1 ag_66 rfl rfl rfl dl_ z32_ ?_
    refine JL.nil ?_
    refine Sr ?_
    refine JL.op (RunV.ownA ag_99 rfl mm_ (by first | rfl)) rfl ?_
    refine JL.storeA ag_99 rfl rfl dl_ (by first | rfl) z43_ (by first | rfl) ?_
    refine Nk [2] rfl ?_
    exfalso; omega
   refine J.skip ?_
   refine Kp [6, 2] rfl ?_
   refine Sr ?_
   refine JL.op (RunV.ownA ag_99 rfl mm_ (by first | rfl)) rfl ?_
   refine JL.storeA ag_99 rfl rfl dl_ (by first | rfl) z43_ (by first | rfl) ?_
   refine JL.nil ?_
   first | (exfalso; omega) | (rw [if_pos (show n = 384 by omega)]; exact J.retR (RetV.cell rfl rfl ag_99 mm_ (by first | rfl)) ⟨_, _, _, _, _, _, _, rfl⟩) | (rw [if_neg (show ¬ n = 384 by omega), if_pos (show n = 512 by omega)]; exact J.retR (RetV.cell rfl rfl ag_99 mm_ (by first | rfl)) ⟨_, _, _, _, _, _, _, rfl⟩) | (rw [if_neg (show ¬ n = 384 by omega), if_neg (show ¬ n = 512 by omega)]; exact J.retR (RetV.cell rfl rfl ag_99 mm_ (by first | rfl)) ⟨_, _, _, _, _, _, _, rfl⟩)
  refine J.skip ?_
  refine J.seq ?_
  refine Sr ?_
  refine Ru 2 rfl ?_
  refine Nk [42, 6, 3, 2] rfl ?_
  refine Cs rfl (fun hc13 => ?_) fun hc13 => ?_
  ·
   refine Sr ?_
   refine Ru 1 rfl ?_
   refine JL.store1 ag_3 rfl rfl rfl dl_ z32_ ?_
   refine JL.nil ?_
   refine Rg ?_
   refine Ru 1 rfl ?_
   refine JL.ope (RunE.cut_h sl_66 rfl rfl (show _ = ((8 : Nat) : Int) from rfl) (by assumption) rfl (by omega)) rfl ?_
   rintro _ ⟨a14, c14, rfl, hS14⟩
   refine Ru 1 rfl ?_
   refine JL.store1 ag_66 rfl rfl rfl dl_ z32_ ?_
   refine Nk [6, 2] rfl ?_
   refine Sr ?_
   refine JL.op (RunV.ownA ag_99 rfl mm_ (by first | rfl)) rfl ?_
   refine JL.storeA ag_99 rfl rfl dl_ (by first | rfl) z43_ (by first | rfl) ?_
   refine JL.nil ?_
   first | (exfalso; omega) | (rw [if_pos (show n = 384 by omega)]; exact J.retR (RetV.cell rfl rfl ag_99 mm_ (by first | rfl)) ⟨_, _, _, _, _, _, _, rfl⟩) | (rw [if_neg (show ¬ n = 384 by omega), if_pos (show n = 512 by omega)]; exact J.retR (RetV.cell rfl rfl ag_99 mm_ (by first | rfl)) ⟨_, _, _, _, _, _, _, rfl⟩) | (rw [if_neg (show ¬ n = 384 by omega), if_neg (show ¬ n = 512 by omega)]; exact J.retR (RetV.cell rfl rfl ag_99 mm_ (by first | rfl)) ⟨_, _, _, _, _, _, _, rfl⟩)
  refine J.skip ?_
  refine Sr ?_
  refine JL.op (RunV.ownA ag_99 rfl mm_ (by first | rfl)) rfl ?_
  refine JL.storeA ag_99 rfl rfl dl_ (by first | rfl) z43_ (by first | rfl) ?_
  refine Nk [2] rfl ?_
  first | (exfalso; omega) | (rw [if_pos (show n = 384 by omega)]; exact J.retR (RetV.cell rfl rfl ag_99 mm_ (by first | rfl)) ⟨_, _, _, _, _, _, _, rfl⟩) | (rw [if_neg (show ¬ n = 384 by omega), if_pos (show n = 512 by omega)]; exact J.retR (RetV.cell rfl rfl ag_99 mm_ (by first | rfl)) ⟨_, _, _, _, _, _, _, rfl⟩) | (rw [if_neg (show ¬ n = 384 by omega), if_neg (show ¬ n = 512 by omega)]; exact J.retR (RetV.cell rfl rfl ag_99 mm_ (by first | rfl)) ⟨_, _, _, _, _, _, _, rfl⟩)
theorem ways_fn {n : Int} {h : Part} : FnR Tryz.prog 81 [.int .i64 n] h (fun v _ => ∃ c0 c1 c2 c3 c4 c5 c6, v = .agg #[c0, c1, c2, c3, c4, c5, c6, .int .i64 (waySize n)]) := by
  by_cases hn : n = 256
  · exact ways_some hn
  · exact ways_other hn
section
variable {f : Fr} {S : Sig} {h : Part} {L : List Ent} {ty T : TypeId} {xo : Operand}
def fld1 (P : Program) (T i : Nat) : Option Nat :=
  match P.underlying T with
  | some (.struct fs) => match fs[i]? with
    | some g => if aggT P g.type == some none then some g.offset else none
    | none => none
  | _ => none
theorem RunV.field1 {i o : Nat} {cs : List Value} {v : Value} (hT : fld1 f.P T i = some o) (hx : ev S xo = some (.agg cs.toArray)) (hv : cs[o]? = some v) : RunV f S h L (.field T xo i) ty v := fun a w s _ _ _ _ => by
  unfold fld1 at hT
  split at hT <;> try cases hT
  rename_i fs hu
  split at hT <;> try cases hT
  rename_i g hg
  split at hT <;> cases hT
  rename_i he
  have ⟨e1, e2⟩ := aggT_one (by simpa using he : aggT f.P g.type = some none) w
  simp [execOp, s.eval hx, Instr.field, run_underlying hu, hg, part, e1, hv, asAgg]
end
theorem rshasize_fn {n : Int} {h : Part} : FnR Tryz.prog 37 [.int .i64 n] h (fun v _ => v = .int .i64 (shaSize n)) := by
  rw [← way_sha]
  refine Fn.intro Tryz.func37 rfl Tryz.ntmps37 rfl (fun e he => ?_)
  refine J.weak [(0, _)] ⟨rfl, trivial⟩ ?_
  have hh0 := Part.le.refl h
  refine Sr ?_
  refine Ru 1 rfl ?_
  refine JL.nil ?_
  refine Sr ?_
  refine Ru 1 rfl ?_
  refine JL.callR ca_81 rfl (ways_fn) rfl ?_
  rintro _ h1 hle1 ⟨c0, c1, c2, c3, c4, c5, c6, rfl⟩
  replace hh0 := hh0.mono hle1
  refine JL.op (RunV.field1 (o := 7) (cs := [c0, c1, c2, c3, c4, c5, c6, .int .i64 (waySize n)]) (by kernel_rfl) rfl rfl) rfl ?_
  refine Ru 1 rfl ?_
  refine Nk [2] rfl ?_
  exact J.retR (RetV.one rfl rfl) rfl
def oidH (n : Int) : List UInt8 := if n = 256 then [50, 46, 49, 54, 46, 56, 52, 48, 46, 49, 46, 49, 48, 49, 46, 51, 46, 52, 46, 50, 46, 49] else if n = 384 then [50, 46, 49, 54, 46, 56, 52, 48, 46, 49, 46, 49, 48, 49, 46, 51, 46, 52, 46, 50, 46, 50] else if n = 512 then [50, 46, 49, 54, 46, 56, 52, 48, 46, 49, 46, 49, 48, 49, 46, 51, 46, 52, 46, 50, 46, 51] else []
theorem shaoid_fn' {n : Int} {h : Part} : Pure Tryz.prog 76 [.int .i64 n] h (.string ⟨(oidH n).toArray⟩) := shaoid_fn
theorem rshaoid_fn {n : Int} {h : Part} : FnR Tryz.prog 83 [.int .i64 n] h (fun v _ => v = .string ⟨(oidH n).toArray⟩) := by
  have h0 : shaSize n = 0 ↔ ¬ someH n := by
    unfold shaSize
    by_cases hn : someH n
    · rw [if_pos hn]; unfold someH at hn ⊢; omega
    · rw [if_neg hn]; exact ⟨fun _ => hn, fun _ => rfl⟩
  unfold someH at h0
  unfold oidH
  refine Fn.intro Tryz.func83 rfl Tryz.ntmps83 rfl (fun e he => ?_)
  refine J.weak [(0, _)] ⟨rfl, trivial⟩ ?_
  have hh0 := Part.le.refl h
  refine Sr ?_
  refine Ru 1 rfl ?_
  refine JL.nil ?_
  refine J.seq ?_
  refine Sr ?_
  refine Ru 1 rfl ?_
  refine JL.callR ca_37 rfl (rshasize_fn) rfl ?_
  rintro _ h1 hle1 rfl
  replace hh0 := hh0.mono hle1
  refine Ru 1 rfl ?_
  refine JL.nil ?_
  refine Cs rfl (fun hc2 => ?_) fun hc2 => ?_
  ·
   refine Sr ?_
   refine Ru 1 rfl ?_
   refine Nk [2, 0] rfl ?_
   rw [if_neg (by omega), if_neg (by omega), if_neg (by omega)]; exact J.retR (RetV.one rfl rfl) rfl
  refine J.skip ?_
  refine Sr ?_
  refine Ru 1 rfl ?_
  refine JL.nil ?_
  refine J.seq ?_
  refine Sr ?_
  refine Ru 2 rfl ?_
  refine Nk [8, 3, 2, 0] rfl ?_
  refine Cs rfl (fun hc3 => ?_) fun hc3 => ?_
  ·
   refine Rg ?_
   refine Ru 1 rfl ?_
   refine JL.nil ?_
   refine J.seq ?_
   refine Sr ?_
   refine Ru 2 rfl ?_
   refine Nk [10, 3, 2] rfl ?_
   refine Cs rfl (fun hc4 => ?_) fun hc4 => ?_
   ·
    refine Rg ?_
    refine Ru 1 rfl ?_
    refine JL.nil ?_
    refine Sr ?_
    refine Ru 1 rfl ?_
    refine JL.op (RunV.addS rfl rfl z3_) rfl ?_
    refine Ru 1 rfl ?_
    refine Nk [2] rfl ?_
    first | (exfalso; omega) | (rw [if_pos (show n = 256 by omega)]; exact J.retR (RetV.one rfl rfl) rfl) | (rw [if_neg (show ¬ n = 256 by omega), if_pos (show n = 384 by omega)]; exact J.retR (RetV.one rfl rfl) rfl) | (rw [if_neg (show ¬ n = 256 by omega), if_neg (show ¬ n = 384 by omega), if_pos (show n = 512 by omega)]; exact J.retR (RetV.one rfl rfl) rfl)
   refine J.skip ?_
   refine Sr ?_
   refine Ru 1 rfl ?_
   refine JL.op (RunV.addS rfl rfl z3_) rfl ?_
   refine Ru 1 rfl ?_
   refine Nk [2] rfl ?_
   first | (exfalso; omega) | (rw [if_pos (show n = 256 by omega)]; exact J.retR (RetV.one rfl rfl) rfl) | (rw [if_neg (show ¬ n = 256 by omega), if_pos (show n = 384 by omega)]; exact J.retR (RetV.one rfl rfl) rfl) | (rw [if_neg (show ¬ n = 256 by omega), if_neg (show ¬ n = 384 by omega), if_pos (show n = 512 by omega)]; exact J.retR (RetV.one rfl rfl) rfl)
  refine J.skip ?_
  refine J.seq ?_
  refine Sr ?_
  refine Ru 2 rfl ?_
  refine JL.nil ?_
  refine Cs rfl (fun hc5 => ?_) fun hc5 => ?_
  ·
   refine Rg ?_
   refine Ru 1 rfl ?_
   refine Nk [3, 2] rfl ?_
   refine Sr ?_
   refine Ru 1 rfl ?_
   refine JL.op (RunV.addS rfl rfl z3_) rfl ?_
   refine Ru 1 rfl ?_
   refine JL.nil ?_
   first | (exfalso; omega) | (rw [if_pos (show n = 256 by omega)]; exact J.retR (RetV.one rfl rfl) rfl) | (rw [if_neg (show ¬ n = 256 by omega), if_pos (show n = 384 by omega)]; exact J.retR (RetV.one rfl rfl) rfl) | (rw [if_neg (show ¬ n = 256 by omega), if_neg (show ¬ n = 384 by omega), if_pos (show n = 512 by omega)]; exact J.retR (RetV.one rfl rfl) rfl)
  refine J.skip ?_
  refine Kp [3, 2] rfl ?_
  refine Sr ?_
  refine Ru 1 rfl ?_
  refine JL.op (RunV.addS rfl rfl z3_) rfl ?_
  refine Ru 1 rfl ?_
  refine JL.nil ?_
  first | (exfalso; omega) | (rw [if_pos (show n = 256 by omega)]; exact J.retR (RetV.one rfl rfl) rfl) | (rw [if_neg (show ¬ n = 256 by omega), if_pos (show n = 384 by omega)]; exact J.retR (RetV.one rfl rfl) rfl) | (rw [if_neg (show ¬ n = 256 by omega), if_neg (show ¬ n = 384 by omega), if_pos (show n = 512 by omega)]; exact J.retR (RetV.one rfl rfl) rfl)
end Go.Proofs.YtmngjbefnloljaaGreatDoor
namespace Go.Proofs.YtmngjbefnloljaaGreatDoor
open Go Go.RowKit
set_option maxRecDepth 100000
theorem ca_38 : callT Tryz.prog 38 = true := by kernel_rfl
theorem ca_66 : callT Tryz.prog 66 = true := by kernel_rfl
theorem ca_82 : callT Tryz.prog 82 = true := by kernel_rfl
theorem ca_83 : callT Tryz.prog 83 = true := by kernel_rfl
theorem rseq_fn {b : Option Addr} {cb m : Nat} {h : Part} : FnR Tryz.prog 66 [.slice b m cb] h (fun v _ => v = .agg #[.int .i64 0, .int .i64 16, .bool true, .slice none 0 0, .slice b m cb]) := by
  refine Fn.intro Tryz.func66 rfl Tryz.ntmps66 rfl (fun e he => ?_)
  refine J.weak [(0, _)] ⟨rfl, trivial⟩ ?_
  have hh0 := Part.le.refl h
  refine Sr ?_
  refine JL.alloc zr_75 rfl (fun b1 => ?_)
  refine JL.nil ?_
  refine Sr ?_
  refine Ru 1 rfl ?_
  refine JL.op (RunV.build (cs := [.int .i64 0, _, _, .slice none 0 0, _]) pl_75 rfl rfl) rfl ?_
  refine JL.storeA ag_75 rfl rfl dl_ (by first | rfl | exact NdR.all1 (by assumption)) (by first | rfl | assumption | exact NdR.len5 (by assumption)) z25_ ?_
  refine JL.nil ?_
  exact J.retR (RetV.cell rfl rfl ag_75 mm_ z25_) rfl
theorem roid_fn {s : List UInt8} {h : Part} (hs : s.length ≤ 1000000) : FnR Tryz.prog 82 [.string ⟨s.toArray⟩] h (fun v h' => ∃ a c, v = .agg #[.int .i64 0, .int .i64 6, .bool false, .slice a ((oidB s).getD []).length c, .slice none 0 0] ∧ SlR u8R 1 h' a c ((oidB s).getD [])) := by
  refine Fn.intro Tryz.func82 rfl Tryz.ntmps82 rfl (fun e he => ?_)
  refine J.weak [(0, _)] ⟨rfl, trivial⟩ ?_
  have hh0 := Part.le.refl h
  refine Sr ?_
  refine JL.alloc zr_75 rfl (fun b1 => ?_)
  refine JL.nil ?_
  refine Sr ?_
  refine Ru 1 rfl ?_
  refine JL.callR ca_119 rfl (roidbytes_fn s _ (by omega)) rfl ?_
  rintro _ h2 hle2 ⟨oa, oc, rfl, hO⟩
  replace hh0 := hh0.mono hle2
  refine Ru 5 rfl ?_
  refine Nk [3, 2] rfl ?_
  refine Sr ?_
  refine Ru 1 rfl ?_
  refine JL.op (RunV.build (cs := [.int .i64 0, _, .bool false, _, .slice none 0 0]) pl_75 rfl rfl) rfl ?_
  refine JL.storeA ag_75 rfl rfl dl_ (by first | rfl | exact NdR.all1 (by assumption)) (by first | rfl | assumption | exact NdR.len5 (by assumption)) z25_ ?_
  refine JL.nil ?_
  exact J.retR (RetV.cell rfl rfl ag_75 mm_ z25_) ⟨_, _, rfl, hO⟩
def oidN (n : Int) : Nd := .mk 0 6 false ((oidB (oidH n)).getD []) []
def infoN (n : Int) (d : List UInt8) : Nd := .mk 0 16 true [] [.mk 0 16 true [] [oidN n, .mk 0 5 false [] []], .mk 0 4 false d []]
theorem oidH_len (n : Int) : (oidH n).length ≤ 30 := by
  unfold oidH; split
  · decide
  · split
    · decide
    · split <;> decide
theorem rinfo_fn {n : Int} {a : Option Addr} {c : Nat} {d : List UInt8} {h : Part} (hd : SlR u8R 1 h a c d) (hsz : (infoN n d).sz ≤ 10000000) : FnR Tryz.prog 38 [.int .i64 n, .slice a d.length c] h (fun v h' => ∃ a c, v = .slice a ((infoN n d).put.getD []).length c ∧ SlR u8R 1 h' a c ((infoN n d).put.getD [])) := by
  have hol := oidH_len n
  refine Fn.intro Tryz.func38 rfl Tryz.ntmps38 rfl (fun e he => ?_)
  refine J.weak [(0, _), (1, _)] ⟨rfl, rfl, trivial⟩ ?_
  have hh0 := Part.le.refl h
  refine Sr ?_
  refine Ru 1 rfl ?_
  refine JL.nil ?_
  refine Sr ?_
  refine Ru 1 rfl ?_
  refine JL.callR ca_83 rfl (rshaoid_fn) rfl ?_
  rintro _ h1 hle1 rfl
  replace hd := hd.mono hle1
  replace hh0 := hh0.mono hle1
  refine JL.callR ca_82 rfl (roid_fn (s := oidH n) (by omega)) rfl ?_
  rintro _ h2 hle2 ⟨oa, oc, rfl, hO⟩
  replace hd := hd.mono hle2
  replace hh0 := hh0.mono hle2
  refine JL.op (RunV.build (cs := [.int .i64 0, _, .bool false, .slice none 0 0, .slice none 0 0]) pl_75 rfl rfl) rfl ?_
  refine JL.litAll [_, _] ap_73 rfl rfl (List.forall_mem_cons.2 ⟨z25_, List.forall_mem_cons.2 ⟨z25_, List.forall_mem_nil _⟩⟩) rfl (by kernel_rfl) (by kernel_rfl) rfl (fun b3 => ?_)
  refine JL.pubB (R := NdR) (sz := 5) (l := [oidN n, .mk 0 5 false [] []]) dl_ (((CellsR.one (NdR.of hO SlR.nil_) rfl).append (CellsR.one (NdR.of SlR.nil_ SlR.nil_) rfl))) z7_ (fun h4 hle4 hK1 => ?_)
  replace hd := hd.mono hle4
  replace hh0 := hh0.mono hle4
  replace hO := hO.mono hle4
  refine JL.callR ca_66 rfl (rseq_fn) rfl ?_
  rintro _ h5 hle5 rfl
  replace hd := hd.mono hle5
  replace hh0 := hh0.mono hle5
  replace hO := hO.mono hle5
  replace hK1 := hK1.mono hle5
  refine Ru 1 rfl ?_
  refine JL.op (RunV.build (cs := [.int .i64 0, _, .bool false, _, .slice none 0 0]) pl_75 rfl rfl) rfl ?_
  refine JL.litAll [_, _] ap_73 rfl rfl (List.forall_mem_cons.2 ⟨z25_, List.forall_mem_cons.2 ⟨z25_, List.forall_mem_nil _⟩⟩) rfl (by kernel_rfl) (by kernel_rfl) rfl (fun b6 => ?_)
  refine JL.pubB (R := NdR) (sz := 5) (l := [.mk 0 16 true [] [oidN n, .mk 0 5 false [] []], .mk 0 4 false d []]) dl_ (((CellsR.one (NdR.of SlR.nil_ hK1) rfl).append (CellsR.one (NdR.of hd SlR.nil_) rfl))) z7_ (fun h7 hle7 hK2 => ?_)
  replace hd := hd.mono hle7
  replace hh0 := hh0.mono hle7
  replace hO := hO.mono hle7
  replace hK1 := hK1.mono hle7
  refine JL.callR ca_66 rfl (rseq_fn) rfl ?_
  rintro _ h8 hle8 rfl
  replace hd := hd.mono hle8
  replace hh0 := hh0.mono hle8
  replace hO := hO.mono hle8
  replace hK1 := hK1.mono hle8
  replace hK2 := hK2.mono hle8
  refine JL.callR ca_65 rfl (rbytes_fn' (x := infoN n d) (NdR.of SlR.nil_ hK2) hsz) rfl ?_
  rintro _ h9 hle9 ⟨ia, ic, rfl, hI⟩
  replace hd := hd.mono hle9
  replace hh0 := hh0.mono hle9
  replace hO := hO.mono hle9
  replace hK1 := hK1.mono hle9
  replace hK2 := hK2.mono hle9
  refine Ru 5 rfl ?_
  refine Nk [5, 4] rfl ?_
  refine Sr ?_
  refine Ru 2 rfl ?_
  refine JL.nil ?_
  exact J.retR (RetV.one rfl rfl) ⟨_, _, rfl, hI⟩
theorem Ok.blk_row {e : Env} {h : Part} {L : List Ent} {w : World} {b t : Nat} {cs : List Value} (k : Ok e h (.blk b t cs :: L) w) (hl : cs.length ≤ maxLen) : Ok e h (.row (some ⟨b, 0, none⟩) cs.length t 1 cs.length cs :: L) w := by
  have hb := k.own _ (List.mem_cons_self ..)
  simp only [Ent.holds] at hb
  refine k.turn rfl rfl rfl (Nat.le_refl _) (fun _ _ _ => rfl) ?_ (fun b hb => .inl hb)
  exact ⟨by simp, .inr ⟨b, cs.length, cs.toArray, rfl, Nat.zero_le _, hb, Nat.le_refl _, hl, by simp, by simp⟩⟩
def infoL (n : Int) (d : List UInt8) : List UInt8 := (infoN n d).put.getD []
def formE (n : Int) (d : List UInt8) (k : Int) : Int := if shaSize n = 0 ∨ (d.length : Int) ≠ shaSize n then 40 else if k < (infoL n d).length + 11 ∨ 512 < k then 50 else 0
def formL (n : Int) (d : List UInt8) (k : Int) : List UInt8 := if formE n d k = 0 then [0, 1] ++ List.replicate (k.toNat - (infoL n d).length - 3) 255 ++ [0] ++ infoL n d else []
theorem info_sz (n : Int) (d : List UInt8) (h : (d.length : Int) = shaSize n) : (infoN n d).sz ≤ 10000000 := by
  have h1 : shaSize n ≤ 64 := by unfold shaSize; split <;> (try unfold someH at *) <;> omega
  have h2 : ((oidB (oidH n)).getD []).length ≤ 1000 := by
    unfold oidH; split
    · decide +kernel
    · split
      · decide +kernel
      · split <;> decide +kernel
  simp only [infoN, oidN, Nd.sz, Nd.szL, List.length_nil]
  omega
theorem rform_fn {n k : Int} {a : Option Addr} {c : Nat} {d : List UInt8} {h : Part} (hd : SlR u8R 1 h a c d) (hdl : d.length ≤ 100000) (hk0 : -9223372036854775808 ≤ k) (hk1 : k ≤ 9223372036854775807) : FnR Tryz.prog 12 [.int .i64 n, .slice a d.length c, .int .i64 k] h (fun v h' => ∃ a c, v = .tuple #[.slice a (formL n d k).length c, .int .i64 (formE n d k)] ∧ SlR u8R 1 h' a c (formL n d k)) := by
  by_cases hz : shaSize n = 0 ∨ (d.length : Int) ≠ shaSize n
  · have he : formE n d k = 40 := if_pos hz
    have hf : formL n d k = [] := if_neg (by rw [he]; decide)
    rw [he, hf]
    refine Fn.intro Tryz.func12 rfl Tryz.ntmps12 rfl (fun e he => ?_)
    refine J.weak [(0, _), (1, _), (2, _)] ⟨rfl, rfl, rfl, trivial⟩ ?_
    have hh0 := Part.le.refl h
    refine Sr ?_
    refine Ru 2 rfl ?_
    refine JL.nil ?_
    refine J.seq ?_
    refine Sr ?_
    refine Ru 1 rfl ?_
    refine JL.callR ca_37 rfl (rshasize_fn) rfl ?_
    rintro _ h1 hle1 rfl
    replace hd := hd.mono hle1
    replace hh0 := hh0.mono hle1
    refine Ru 2 rfl ?_
    refine Bs 13 rfl (fun hc2 => ?_) fun hc2 => ?_
    ·
     refine Ru 6 rfl ?_
     refine Nk [19, 7, 6, 0, 1, 2] rfl ?_
     refine J.cond_t rfl ?_
     refine Sr ?_
     refine Ru 2 rfl ?_
     refine JL.nil ?_
     exact J.retR (RetV.two rfl rfl rfl) ⟨_, _, rfl, SlR.nil_⟩
    refine Ru 3 rfl ?_
    refine JL.callRg rfl rfl  ca_37 rfl (rshasize_fn) rfl ?_
    rintro _ h3 hle3 rfl
    replace hd := hd.mono hle3
    replace hh0 := hh0.mono hle3
    refine Ru 2 rfl ?_
    refine Nk [19, 7, 6, 0, 1, 2] rfl ?_
    refine Cs rfl (fun hc4 => ?_) fun hc4 => ?_
    rotate_left
    ·
     exfalso; omega
    refine Sr ?_
    refine Ru 2 rfl ?_
    refine JL.nil ?_
    exact J.retR (RetV.two rfl rfl rfl) ⟨_, _, rfl, SlR.nil_⟩
  · have hz1 : shaSize n ≠ 0 := fun e => hz (.inl e)
    have hz2 : (d.length : Int) = shaSize n := Classical.byContradiction fun e => hz (.inr e)
    have hsz := info_sz n d hz2
    obtain ⟨t, ht⟩ : ∃ t, t = infoL n d := ⟨_, rfl⟩
    by_cases hk : k < t.length + 11 ∨ 512 < k
    · have he : formE n d k = 50 := by unfold formE; rw [if_neg hz, ← ht, if_pos hk]
      have hf : formL n d k = [] := if_neg (by rw [he]; decide)
      rw [he, hf]
      refine Fn.intro Tryz.func12 rfl Tryz.ntmps12 rfl (fun e he => ?_)
      refine J.weak [(0, _), (1, _), (2, _)] ⟨rfl, rfl, rfl, trivial⟩ ?_
      have hh0 := Part.le.refl h
      refine Sr ?_
      refine Ru 2 rfl ?_
      refine JL.nil ?_
      refine J.seq ?_
      refine Sr ?_
      refine Ru 1 rfl ?_
      refine JL.callR ca_37 rfl (rshasize_fn) rfl ?_
      rintro _ h1 hle1 rfl
      replace hd := hd.mono hle1
      replace hh0 := hh0.mono hle1
      refine Ru 2 rfl ?_
      refine Bs 13 rfl (fun hc2 => ?_) fun hc2 => ?_
      ·
       exfalso; omega
      refine Ru 3 rfl ?_
      refine JL.callRg rfl rfl  ca_37 rfl (rshasize_fn) rfl ?_
      rintro _ h3 hle3 rfl
      replace hd := hd.mono hle3
      replace hh0 := hh0.mono hle3
      refine Ru 2 rfl ?_
      refine Nk [19, 7, 6, 0, 1, 2] rfl ?_
      refine Cs rfl (fun hc4 => ?_) fun hc4 => ?_
      ·
       exfalso; omega
      refine J.skip ?_
      refine Sr ?_
      refine Ru 2 rfl ?_
      refine JL.callR ca_38 rfl (rinfo_fn hd hsz) rfl ?_
      rintro _ h5 hle5 ⟨ia, ic, rfl, hI⟩
      replace hd := hd.mono hle5
      replace hh0 := hh0.mono hle5
      rw [show (infoN n d).put.getD [] = t from ht.symm] at hI ⊢; have htl := hI.big
      refine Ru 1 rfl ?_
      refine Nk [8, 7, 6, 2] rfl ?_
      refine J.seq ?_
      refine Sr ?_
      refine Ru 3 rfl ?_
      refine JL.op ai_ rfl ?_
      refine Ru 2 rfl ?_
      apply On 28 31 3 [8, 7, 6, 2] rfl rfl
      rotate_left
      ·
       intro hb6 hc6
       refine Ru 3 rfl ?_
       exact Ae (om_f hb6 rfl) rfl
      rotate_right
      ·
       exact fun hb6 _ => Ru 3 rfl (Ae (om_t hb6 rfl) rfl)
      refine JL.nil ?_
      refine Cs rfl (fun hc7 => ?_) fun hc7 => ?_
      rotate_left
      ·
       exfalso; omega
      refine Sr ?_
      refine Ru 2 rfl ?_
      refine JL.nil ?_
      exact J.retR (RetV.two rfl rfl rfl) ⟨_, _, rfl, SlR.nil_⟩
    · have he : formE n d k = 0 := by unfold formE; rw [if_neg hz, ← ht, if_neg hk]
      have hf : formL n d k = [0, 1] ++ List.replicate (k.toNat - t.length - 3) 255 ++ [0] ++ t := by unfold formL; rw [if_pos he, ← ht]
      rw [he, hf]
      refine Fn.intro Tryz.func12 rfl Tryz.ntmps12 rfl (fun e he => ?_)
      refine J.weak [(0, _), (1, _), (2, _)] ⟨rfl, rfl, rfl, trivial⟩ ?_
      have hh0 := Part.le.refl h
      refine Sr ?_
      refine Ru 2 rfl ?_
      refine JL.nil ?_
      refine J.seq ?_
      refine Sr ?_
      refine Ru 1 rfl ?_
      refine JL.callR ca_37 rfl (rshasize_fn) rfl ?_
      rintro _ h1 hle1 rfl
      replace hd := hd.mono hle1
      replace hh0 := hh0.mono hle1
      refine Ru 2 rfl ?_
      refine Bs 13 rfl (fun hc2 => ?_) fun hc2 => ?_
      ·
       exfalso; omega
      refine Ru 3 rfl ?_
      refine JL.callRg rfl rfl  ca_37 rfl (rshasize_fn) rfl ?_
      rintro _ h3 hle3 rfl
      replace hd := hd.mono hle3
      replace hh0 := hh0.mono hle3
      refine Ru 2 rfl ?_
      refine Nk [19, 7, 6, 0, 1, 2] rfl ?_
      refine Cs rfl (fun hc4 => ?_) fun hc4 => ?_
      ·
       exfalso; omega
      refine J.skip ?_
      refine Sr ?_
      refine Ru 2 rfl ?_
      refine JL.callR ca_38 rfl (rinfo_fn hd hsz) rfl ?_
      rintro _ h5 hle5 ⟨ia, ic, rfl, hI⟩
      replace hd := hd.mono hle5
      replace hh0 := hh0.mono hle5
      rw [show (infoN n d).put.getD [] = t from ht.symm] at hI ⊢; have htl := hI.big
      refine Ru 1 rfl ?_
      refine Nk [8, 7, 6, 2] rfl ?_
      refine J.seq ?_
      refine Sr ?_
      refine Ru 3 rfl ?_
      refine JL.op ai_ rfl ?_
      refine Ru 2 rfl ?_
      apply On 28 31 3 [8, 7, 6, 2] rfl rfl
      rotate_left
      ·
       intro hb6 hc6
       refine Ru 3 rfl ?_
       exact Ae (om_f hb6 rfl) rfl
      rotate_right
      ·
       exact fun hb6 _ => Ru 3 rfl (Ae (om_t hb6 rfl) rfl)
      refine JL.nil ?_
      refine Cs rfl (fun hc7 => ?_) fun hc7 => ?_
      ·
       exfalso; omega
      refine J.skip ?_
      refine Sr ?_
      refine JL.lit1 ap_22 zr_5 rfl rfl rfl rfl rfl (fun b8 => ?_)
      refine JL.own (fun w hk => hk.blk_row (by decide)) ?_
      refine Ru 1 rfl ?_
      refine JL.nil ?_
      refine J.seq ?_
      refine J.block ?_
      refine J.loop (fun t_ S_ h_ L_ => ∃ (g : Part) (i : Nat) (ao : Option Addr) (co : Nat), t_ = k.toNat - i ∧ S_ = [(2, .int .i64 k), (8, .slice ia t.length ic), (9, .slice ao ([0, 1] ++ List.replicate i (255 : UInt8)).length co)] ∧ g = h_ ∧ L_ = [.row ao co 5 1 ([0, 1] ++ List.replicate i (255 : UInt8)).length (u8s ([0, 1] ++ List.replicate i (255 : UInt8)))] ∧ (h.le g ∧ SlR u8R 1 g ia ic t ∧ (i : Int) + t.length + 3 ≤ k)) ⟨_, _, ?_, ⟨_, 0, _, _, rfl, rfl, rfl, rfl, ⟨hh0, hI, by omega⟩⟩⟩ ?_
      ·
       exact z5_
      rintro _ _ _ _ ⟨g, i, ao, co, rfl, rfl, rfl, rfl, hhg, hI, hi⟩
      have hll : ([0, 1] ++ List.replicate i (255 : UInt8)).length = i + 2 := (by simp)
      refine J.seq ?_
      refine Sr ?_
      refine Ru 2 rfl ?_
      refine JL.op ai_ rfl ?_
      refine Ru 2 rfl ?_
      refine JL.op ai_ rfl ?_
      refine Ru 2 rfl ?_
      refine JL.nil ?_
      refine Cs rfl (fun hc9 => ?_) fun hc9 => ?_
      ·
       have hke : [0, 1] ++ List.replicate i (255 : UInt8) ++ [255] = [0, 1] ++ List.replicate (i + 1) 255 := (by rw [List.append_assoc, ← List.replicate_succ'])
       refine J.skip ?_
       refine J.block ?_
       refine Rg ?_
       refine Ru 1 rfl ?_
       refine JL.lit1 ap_22 zr_5 rfl rfl rfl rfl rfl (fun b10 => ?_)
       refine JL.own (L' := [.blk _ _ [.int .u8 (((255 : UInt8).toNat : Nat) : Int)], _]) (fun w hk => hk) ?_
       refine JL.append1 ap_22 rfl rfl CellsR.of_u8 rfl dl_ dl_ rfl (rfl) z3_ rfl rfl (fun a11 c11 xs11 hC11 hN11 => ?_)
       obtain rfl := hC11.u8
       rw [hke]
       refine Ru 1 rfl ?_
       refine JL.nil ?_
       refine ⟨_, ?_, _, ?_, ⟨_, i + 1, _, _, rfl, rfl, rfl, rfl, ⟨by assumption, by assumption, by omega⟩⟩⟩
       ·
        omega
       exact z5_
      have hie : i = k.toNat - t.length - 3 := (by omega); have hri : (List.replicate i (255 : UInt8)).length = i := List.length_replicate; have htk : t.length ≤ 501 := (by omega); have hff : ([0, 1] ++ List.replicate i (255 : UInt8) ++ [0] ++ t).length ≤ 100000 := (by simp only [List.length_append, List.length_cons, List.length_nil, hri]; omega)
      refine J.exit ?_
      refine Kp [8, 9] rfl ?_
      refine Sr ?_
      refine Ru 1 rfl ?_
      refine JL.lit1 ap_22 zr_5 rfl rfl rfl rfl rfl (fun b12 => ?_)
      refine JL.own (L' := [.blk _ _ [.int .u8 (((0 : UInt8).toNat : Nat) : Int)], _]) (fun w hk => hk) ?_
      refine JL.append1 ap_22 rfl rfl CellsR.of_u8 rfl dl_ dl_ rfl (rfl) z3_ rfl rfl (fun a13 c13 xs13 hC13 hN13 => ?_)
      obtain rfl := hC13.u8
      refine Ru 1 rfl ?_
      refine JL.nil ?_
      refine Sr ?_
      refine Ru 2 rfl ?_
      refine JL.append ap_22 rfl rfl CellsR.of_u8 rfl (by assumption) rfl dl_ z3_ rfl rfl (fun a14 c14 xs14 hC14 hN14 => ?_)
      obtain rfl := hC14.u8
      refine JL.pub (R := u8R) (l := [0, 1] ++ List.replicate i (255 : UInt8) ++ [0] ++ t) dl_ CellsR.of_u8 rfl (by omega) (fun h9 hle9 hP9 => ?_)
      refine Ru 2 rfl ?_
      refine Nk [7, 6] rfl ?_
      rw [← hie]; exact J.retR (RetV.two rfl rfl rfl) ⟨_, _, rfl, hP9⟩
end Go.Proofs.YtmngjbefnloljaaGreatDoor
namespace Go.Proofs.YtmngjbefnloljaaGreatDoor
open Go Go.RowKit
set_option maxRecDepth 100000
theorem ca_12 : callT Tryz.prog 12 = true := by kernel_rfl
theorem ca_27 : callT Tryz.prog 27 = true := by kernel_rfl
theorem ca_44 : callT Tryz.prog 44 = true := by kernel_rfl
theorem ca_46 : callT Tryz.prog 46 = true := by kernel_rfl
theorem ca_64 : callT Tryz.prog 64 = true := by kernel_rfl
def sizeB (N : Nat) : Nat := (bl N + 7) / 8
def kformE (n : Int) (d : List UInt8) (N E D : Nat) : Int := if formE n d 512 ≠ 0 then formE n d 512 else if rightB N E D = true then formE n d (sizeB N) else 50
def kformL (n : Int) (d : List UInt8) (N E D : Nat) : List UInt8 := if formE n d 512 ≠ 0 then [] else if rightB N E D = true then formL n d (sizeB N) else []
theorem rkform_fn {an ae ad : Option Addr} {cn ce cd : Nat} {n x dd : List UInt32} {hash : Int} {a : Option Addr} {c : Nat} {d : List UInt8} {h : Part} (hn : SlR u32R 1 h an cn n) (hx : SlR u32R 1 h ae ce x) (hdd : SlR u32R 1 h ad cd dd) (hd : SlR u8R 1 h a c d) (hln : n.length ≤ 100000) (hlx : x.length ≤ 100000) (hld : dd.length ≤ 100000) (hdl : d.length ≤ 100000) :
    FnR Tryz.prog 44 [.agg #[.slice an n.length cn, .slice ae x.length ce, .slice ad dd.length cd], .int .i64 hash, .slice a d.length c] h (fun v h' => ∃ a c, v = .tuple #[.slice a (kformL hash d (vL n) (vL x) (vL dd)).length c, .int .i64 (kformE hash d (vL n) (vL x) (vL dd))] ∧ SlR u8R 1 h' a c (kformL hash d (vL n) (vL x) (vL dd))) := by
  have hbl := bl_len' n
  refine Fn.intro Tryz.func44 rfl Tryz.ntmps44 rfl (fun e he => ?_)
  refine J.weak [(0, _), (1, _), (2, _)] ⟨rfl, rfl, rfl, trivial⟩ ?_
  have hh0 := Part.le.refl h
  refine Sr ?_
  refine JL.box rfl rfl rfl (fun b1 => ?_)
  refine Ru 2 rfl ?_
  refine JL.nil ?_
  refine Sr ?_
  refine Ru 2 rfl ?_
  refine JL.callR ca_12 rfl (rform_fn (k := 512) hd hdl (by decide) (by decide)) rfl ?_
  rintro _ h2 hle2 ⟨fa, fc, rfl, hF⟩
  replace hn := hn.mono hle2
  replace hx := hx.mono hle2
  replace hdd := hdd.mono hle2
  replace hd := hd.mono hle2
  replace hh0 := hh0.mono hle2
  refine Ru 5 rfl ?_
  refine Nk [9, 7, 6, 3, 1, 2] rfl ?_
  refine J.seq ?_
  refine Sr ?_
  refine Ru 2 rfl ?_
  refine JL.nil ?_
  refine Cs rfl (fun hc3 => ?_) fun hc3 => ?_
  ·
   have e1 : kformE hash d (vL n) (vL x) (vL dd) = formE hash d 512 := if_pos hc3; have e2 : kformL hash d (vL n) (vL x) (vL dd) = [] := if_pos hc3
   refine Sr ?_
   refine Ru 3 rfl ?_
   refine Nk [7, 6, 3, 1, 2] rfl ?_
   rw [e1, e2]; exact J.retR (RetV.two rfl rfl rfl) ⟨_, _, rfl, SlR.nil_⟩
  have hc0 : ¬ formE hash d 512 ≠ 0 := (by simpa using hc3)
  refine J.skip ?_
  refine J.seq ?_
  refine Sr ?_
  refine JL.op (RunV.ownA ag_32 rfl mm_ (by first | rfl)) rfl ?_
  refine JL.callR ca_64 rfl (rkeyright_fn hn hx hdd (by omega) (by omega) (by omega)) rfl ?_
  rintro _ h4 hle4 rfl
  replace hn := hn.mono hle4
  replace hx := hx.mono hle4
  replace hdd := hdd.mono hle4
  replace hd := hd.mono hle4
  replace hh0 := hh0.mono hle4
  replace hF := hF.mono hle4
  refine Ru 1 rfl ?_
  refine Nk [21, 7, 6, 3, 1, 2] rfl ?_
  refine Cs rfl (fun hc5 => ?_) fun hc5 => ?_
  ·
   have hrt : ¬ rightB (vL n) (vL x) (vL dd) = true := (by simpa using hc5); have e1 : kformE hash d (vL n) (vL x) (vL dd) = 50 := (by unfold kformE; rw [if_neg hc0, if_neg hrt]); have e2 : kformL hash d (vL n) (vL x) (vL dd) = [] := (by unfold kformL; rw [if_neg hc0, if_neg hrt])
   refine Sr ?_
   refine Ru 2 rfl ?_
   refine JL.nil ?_
   rw [e1, e2]; exact J.retR (RetV.two rfl rfl rfl) ⟨_, _, rfl, SlR.nil_⟩
  have hrt : rightB (vL n) (vL x) (vL dd) = true := (by simpa using hc5); have e1 : kformE hash d (vL n) (vL x) (vL dd) = formE hash d (sizeB (vL n)) := (by unfold kformE; rw [if_neg hc0, if_pos hrt]); have e2 : kformL hash d (vL n) (vL x) (vL dd) = formL hash d (sizeB (vL n)) := (by unfold kformL; rw [if_neg hc0, if_pos hrt])
  refine J.skip ?_
  refine Sr ?_
  refine Ru 2 rfl ?_
  refine JL.op (RunV.ownA ag_32 rfl mm_ (by first | rfl)) rfl ?_
  refine JL.callR ca_27 rfl (rsize_fn hn (by omega)) rfl ?_
  rintro _ h6 hle6 rfl
  replace hn := hn.mono hle6
  replace hx := hx.mono hle6
  replace hdd := hdd.mono hle6
  replace hd := hd.mono hle6
  replace hh0 := hh0.mono hle6
  replace hF := hF.mono hle6
  refine JL.callR ca_12 rfl (rform_fn (k := (sizeB (vL n) : Nat)) hd hdl (by omega) (by unfold sizeB; omega)) rfl ?_
  rintro _ h7 hle7 ⟨ga, gc, rfl, hG⟩
  replace hn := hn.mono hle7
  replace hx := hx.mono hle7
  replace hdd := hdd.mono hle7
  replace hd := hd.mono hle7
  replace hh0 := hh0.mono hle7
  replace hF := hF.mono hle7
  refine Ru 4 rfl ?_
  refine Nk [7, 6] rfl ?_
  rw [e1, e2]; exact J.retR (RetV.two rfl rfl rfl) ⟨_, _, rfl, hG⟩
theorem formL_len (n : Int) (d : List UInt8) (k : Int) : (formL n d k).length ≤ 512 := by
  unfold formL
  split
  case isFalse => simp
  case isTrue h =>
    unfold formE at h
    split at h
    · cases h
    · split at h
      · cases h
      · rename_i hk
        simp only [List.length_append, List.length_cons, List.length_nil, List.length_replicate]
        omega
theorem kformL_len (n : Int) (d : List UInt8) (N E D : Nat) : (kformL n d N E D).length ≤ 512 := by
  unfold kformL
  split
  · simp
  · split
    · exact formL_len _ _ _
    · simp
theorem kform_right {n : Int} {d : List UInt8} {N E D : Nat} (h : kformE n d N E D = 0) : rightB N E D = true := by
  unfold kformE at h
  split at h
  · rename_i h1; exact absurd h h1
  · split at h
    · assumption
    · cases h
def numW (s k : Nat) : List UInt8 := natW (d32 (toL s)) k
def sigE (n : Int) (d : List UInt8) (N E D : Nat) : Int := if kformE n d N E D ≠ 0 then kformE n d N E D else if bl D = 0 then 50 else 0
def sigL (n : Int) (d : List UInt8) (N E D : Nat) : List UInt8 := if kformE n d N E D ≠ 0 then [] else if bl D = 0 then [] else numW (powV (beV (kformL n d N E D)) D N) (sizeB N)
theorem pow_fit (X E N : Nat) (hN : 0 < N) : bl (powV X E N) ≤ 8 * sizeB N := by
  have h1 : powV X E N < N := by unfold powV; rw [if_neg (by omega)]; exact Nat.mod_lt _ hN
  have := bl_le _ _ (Nat.lt_trans h1 (lt_bl N))
  unfold sizeB; omega
theorem toL_beV_len (l : List UInt8) : (toL (beV l)).length ≤ l.length := by
  rw [toL_len]
  refine nd_le _ _ (Nat.lt_of_lt_of_le (beV_lt l) ?_)
  rw [pow32, show (256 : Nat) = 2 ^ 8 from rfl, ← Nat.pow_mul]
  exact Nat.pow_le_pow_right (by decide) (by omega)
def proveE (n : Int) (d s : List UInt8) (N E D : Nat) : Int := if kformE n d N E D ≠ 0 then kformE n d N E D else if s.length ≠ sizeB N ∨ N ≤ beV s then 63 else if powV (beV s) E N = beV (kformL n d N E D) then 0 else 63
theorem rprove_fn {an ae ad : Option Addr} {cn ce cd : Nat} {n x dd : List UInt32} {hash : Int} {a b : Option Addr} {c cb : Nat} {d s : List UInt8} {h : Part} (hn : SlR u32R 1 h an cn n) (hx : SlR u32R 1 h ae ce x) (hdd : SlR u32R 1 h ad cd dd) (hd : SlR u8R 1 h a c d) (hs : SlR u8R 1 h b cb s) (hln : n.length ≤ 10000) (hlx : x.length ≤ 10000) (hld : dd.length ≤ 10000) (hdl : d.length ≤ 100000) (hsl : s.length ≤ 100000) :
    FnR Tryz.prog 18 [.agg #[.slice an n.length cn, .slice ae x.length ce, .slice ad dd.length cd], .int .i64 hash, .slice a d.length c, .slice b s.length cb] h (fun v _ => v = .int .i64 (proveE hash d s (vL n) (vL x) (vL dd))) := by
  have hbl := bl_len' n
  have hkl := kformL_len hash d (vL n) (vL x) (vL dd)
  have hts := toL_beV_len s
  have htk := toL_beV_len (kformL hash d (vL n) (vL x) (vL dd))
  obtain ⟨-, c2, -, -, -⟩ := cmp_facts (beV s) (vL n)
  obtain ⟨-, -, -, -, c5⟩ := cmp_facts (powV (beV s) (vL x) (vL n)) (beV (kformL hash d (vL n) (vL x) (vL dd)))
  refine Fn.intro Tryz.func18 rfl Tryz.ntmps18 rfl (fun e he => ?_)
  refine J.weak [(0, _), (1, _), (2, _), (3, _)] ⟨rfl, rfl, rfl, rfl, trivial⟩ ?_
  have hh0 := Part.le.refl h
  refine Sr ?_
  refine JL.box rfl rfl rfl (fun b1 => ?_)
  refine Ru 1 rfl ?_
  refine JL.nil ?_
  refine Sr ?_
  refine JL.op (RunV.ownA ag_32 rfl mm_ (by first | rfl)) rfl ?_
  refine Ru 2 rfl ?_
  refine JL.callR ca_44 rfl (rkform_fn hn hx hdd hd (by omega) (by omega) (by omega) hdl) rfl ?_
  rintro _ h2 hle2 ⟨fa, fc, rfl, hF⟩
  replace hn := hn.mono hle2
  replace hx := hx.mono hle2
  replace hdd := hdd.mono hle2
  replace hd := hd.mono hle2
  replace hs := hs.mono hle2
  replace hh0 := hh0.mono hle2
  refine Ru 5 rfl ?_
  refine Nk [10, 9, 8, 4, 3] rfl ?_
  refine J.seq ?_
  refine Sr ?_
  refine Ru 2 rfl ?_
  refine JL.nil ?_
  refine Cs rfl (fun hc3 => ?_) fun hc3 => ?_
  ·
   have e1 : proveE hash d s (vL n) (vL x) (vL dd) = kformE hash d (vL n) (vL x) (vL dd) := if_pos hc3
   refine Sr ?_
   refine Ru 2 rfl ?_
   refine Nk [8, 9, 4, 3] rfl ?_
   rw [e1]; exact J.retR (RetV.one rfl rfl) rfl
  have hc0 : ¬ kformE hash d (vL n) (vL x) (vL dd) ≠ 0 := (by simpa using hc3); have hrt := kform_right (Classical.byContradiction hc0); have hrt2 := of_decide_eq_true hrt; have hN0 : 0 < vL n := (by omega); have hpl : (toL (powV (beV s) (vL x) (vL n))).length ≤ 10000 := (by rw [toL_len]; exact Nat.le_trans (nd_le _ n.length (Nat.lt_of_lt_of_le (show powV (beV s) (vL x) (vL n) < vL n by unfold powV; rw [if_neg (by omega)]; exact Nat.mod_lt _ hN0) (Nat.le_of_lt (vL_lt n)))) (by omega))
  refine J.skip ?_
  refine Sr ?_
  refine Ru 1 rfl ?_
  refine JL.callR ca_22 rfl (rread_fn hs (by omega)) rfl ?_
  rintro _ h4 hle4 ⟨sa, sc, rfl, hS⟩
  replace hn := hn.mono hle4
  replace hx := hx.mono hle4
  replace hdd := hdd.mono hle4
  replace hd := hd.mono hle4
  replace hs := hs.mono hle4
  replace hh0 := hh0.mono hle4
  replace hF := hF.mono hle4
  refine Ru 1 rfl ?_
  refine Nk [11, 9, 8, 4, 3] rfl ?_
  refine J.seq ?_
  refine Sr ?_
  refine Ru 2 rfl ?_
  refine JL.op (RunV.ownA ag_32 rfl mm_ (by first | rfl)) rfl ?_
  refine JL.callR ca_27 rfl (rsize_fn hn (by omega)) rfl ?_
  rintro _ h5 hle5 rfl
  replace hn := hn.mono hle5
  replace hx := hx.mono hle5
  replace hdd := hdd.mono hle5
  replace hd := hd.mono hle5
  replace hs := hs.mono hle5
  replace hh0 := hh0.mono hle5
  replace hF := hF.mono hle5
  replace hS := hS.mono hle5
  refine Ru 2 rfl ?_
  refine Bs 31 rfl (fun hc6 => ?_) fun hc6 => ?_
  ·
   refine Ru 6 rfl ?_
   refine Nk [37, 11, 9, 8, 4] rfl ?_
   refine J.cond_t rfl ?_
   refine Sr ?_
   refine Ru 1 rfl ?_
   refine JL.nil ?_
   first | (rw [show proveE hash d s (vL n) (vL x) (vL dd) = 63 by unfold proveE; rw [if_neg hc0, if_pos (by unfold sizeB; omega)]]; exact J.retR (RetV.one rfl rfl) rfl) | (rw [show proveE hash d s (vL n) (vL x) (vL dd) = 63 by unfold proveE; rw [if_neg hc0, if_neg (by unfold sizeB; omega), if_neg (by omega)]]; exact J.retR (RetV.one rfl rfl) rfl) | (rw [show proveE hash d s (vL n) (vL x) (vL dd) = 0 by unfold proveE; rw [if_neg hc0, if_neg (by unfold sizeB; omega), if_pos (by omega)]]; exact J.retR (RetV.one rfl rfl) rfl)
  refine Ru 2 rfl ?_
  refine JL.opg rfl rfl  (RunV.own1 ag_30 rfl mm_ rfl) rfl ?_
  refine JL.callRg rfl rfl  ca_49 rfl (rcmp_fn hS hn (by omega) (by omega)) rfl ?_
  rintro _ h7 hle7 rfl
  replace hn := hn.mono hle7
  replace hx := hx.mono hle7
  replace hdd := hdd.mono hle7
  replace hd := hd.mono hle7
  replace hs := hs.mono hle7
  replace hh0 := hh0.mono hle7
  replace hF := hF.mono hle7
  replace hS := hS.mono hle7
  rw [vL_toL]
  refine Ru 2 rfl ?_
  refine Nk [37, 11, 9, 8, 4] rfl ?_
  refine Cs rfl (fun hc8 => ?_) fun hc8 => ?_
  ·
   refine Sr ?_
   refine Ru 1 rfl ?_
   refine JL.nil ?_
   first | (rw [show proveE hash d s (vL n) (vL x) (vL dd) = 63 by unfold proveE; rw [if_neg hc0, if_pos (by unfold sizeB; omega)]]; exact J.retR (RetV.one rfl rfl) rfl) | (rw [show proveE hash d s (vL n) (vL x) (vL dd) = 63 by unfold proveE; rw [if_neg hc0, if_neg (by unfold sizeB; omega), if_neg (by omega)]]; exact J.retR (RetV.one rfl rfl) rfl) | (rw [show proveE hash d s (vL n) (vL x) (vL dd) = 0 by unfold proveE; rw [if_neg hc0, if_neg (by unfold sizeB; omega), if_pos (by omega)]]; exact J.retR (RetV.one rfl rfl) rfl)
  refine J.skip ?_
  refine Sr ?_
  refine Ru 2 rfl ?_
  refine JL.op (RunV.own1 ag_30 rfl mm_ rfl) rfl ?_
  refine Ru 1 rfl ?_
  refine JL.op (RunV.own1 ag_30 rfl mm_ rfl) rfl ?_
  refine JL.callR ca_46 rfl (rpow_fn hS hx hn (by omega) (by omega) (by omega)) rfl ?_
  rintro _ h9 hle9 ⟨pa, pc, rfl, hP⟩
  replace hn := hn.mono hle9
  replace hx := hx.mono hle9
  replace hdd := hdd.mono hle9
  replace hd := hd.mono hle9
  replace hs := hs.mono hle9
  replace hh0 := hh0.mono hle9
  replace hF := hF.mono hle9
  replace hS := hS.mono hle9
  rw [vL_toL] at hP ⊢; have hc1 : ¬ (s.length ≠ sizeB (vL n) ∨ vL n ≤ beV s) := (by unfold sizeB; omega)
  refine Ru 5 rfl ?_
  refine Nk [12, 9, 8] rfl ?_
  refine J.seq ?_
  refine Sr ?_
  refine Ru 2 rfl ?_
  refine JL.callR ca_22 rfl (rread_fn hF (by omega)) rfl ?_
  rintro _ h10 hle10 ⟨ma, mc, rfl, hM⟩
  replace hn := hn.mono hle10
  replace hx := hx.mono hle10
  replace hdd := hdd.mono hle10
  replace hd := hd.mono hle10
  replace hs := hs.mono hle10
  replace hh0 := hh0.mono hle10
  replace hF := hF.mono hle10
  replace hS := hS.mono hle10
  replace hP := hP.mono hle10
  refine JL.callR ca_49 rfl (rcmp_fn hP hM (by omega) (by omega)) rfl ?_
  rintro _ h11 hle11 rfl
  replace hn := hn.mono hle11
  replace hx := hx.mono hle11
  replace hdd := hdd.mono hle11
  replace hd := hd.mono hle11
  replace hs := hs.mono hle11
  replace hh0 := hh0.mono hle11
  replace hF := hF.mono hle11
  replace hS := hS.mono hle11
  replace hP := hP.mono hle11
  replace hM := hM.mono hle11
  rw [vL_toL, vL_toL]
  refine Ru 1 rfl ?_
  refine Nk [51, 8] rfl ?_
  refine Cs rfl (fun hc12 => ?_) fun hc12 => ?_
  ·
   refine Sr ?_
   refine Ru 1 rfl ?_
   refine JL.nil ?_
   first | (rw [show proveE hash d s (vL n) (vL x) (vL dd) = 63 by unfold proveE; rw [if_neg hc0, if_pos (by unfold sizeB; omega)]]; exact J.retR (RetV.one rfl rfl) rfl) | (rw [show proveE hash d s (vL n) (vL x) (vL dd) = 63 by unfold proveE; rw [if_neg hc0, if_neg (by unfold sizeB; omega), if_neg (by omega)]]; exact J.retR (RetV.one rfl rfl) rfl) | (rw [show proveE hash d s (vL n) (vL x) (vL dd) = 0 by unfold proveE; rw [if_neg hc0, if_neg (by unfold sizeB; omega), if_pos (by omega)]]; exact J.retR (RetV.one rfl rfl) rfl)
  refine J.skip ?_
  refine Sr ?_
  refine Ru 1 rfl ?_
  refine JL.nil ?_
  first | (rw [show proveE hash d s (vL n) (vL x) (vL dd) = 63 by unfold proveE; rw [if_neg hc0, if_pos (by unfold sizeB; omega)]]; exact J.retR (RetV.one rfl rfl) rfl) | (rw [show proveE hash d s (vL n) (vL x) (vL dd) = 63 by unfold proveE; rw [if_neg hc0, if_neg (by unfold sizeB; omega), if_neg (by omega)]]; exact J.retR (RetV.one rfl rfl) rfl) | (rw [show proveE hash d s (vL n) (vL x) (vL dd) = 0 by unfold proveE; rw [if_neg hc0, if_neg (by unfold sizeB; omega), if_pos (by omega)]]; exact J.retR (RetV.one rfl rfl) rfl)
end Go.Proofs.YtmngjbefnloljaaGreatDoor
namespace Go.Proofs.YtmngjbefnloljaaGreatDoor
open Go Go.RowKit
set_option maxRecDepth 100000
def mp : Nat → Nat → Nat → Nat → Nat
  | 0, _, _, N => 1 % N
  | f + 1, X, E, N => if E % 2 = 1 then X * mp f (X * X % N) (E / 2) N % N else mp f (X * X % N) (E / 2) N
theorem mp_ok : ∀ (f X E N : Nat), E < 2 ^ f → mp f X E N = X ^ E % N
  | 0, X, E, N, h => by
    have : E = 0 := by simpa using h
    subst this; simp [mp]
  | f + 1, X, E, N, h => by
    have ih := mp_ok f (X * X % N) (E / 2) N (by rw [Nat.pow_succ] at h; omega)
    rw [mp, ih, ← Nat.pow_mod (X * X) (E / 2) N]
    have e1 : (X * X) ^ (E / 2) = X ^ (2 * (E / 2)) := by rw [← Nat.pow_two, ← Nat.pow_mul]
    rw [e1]
    split
    · rename_i h2
      rw [Nat.mul_mod_mod, ← Nat.pow_succ']
      congr 2; omega
    · rename_i h2
      congr 2; omega
def d0 : List UInt8 := List.replicate 32 1
theorem kn_right : rightB (keyN 0) (keyE 0) (vL (expL 0)) = true := by decide +kernel
theorem kn_size : sizeB (keyN 0) = 64 := by decide +kernel
theorem kn_form : formE 256 d0 62 = 0 ∧ formE 256 d0 61 = 50 ∧ formE 256 d0 512 = 0 ∧ formE 256 d0 64 = 0 := by decide +kernel
theorem kn_list : (formL 256 d0 62).length = 62 ∧ (formL 256 d0 62)[1]? = some 1 ∧ (formL 256 d0 62)[10]? = some 0 ∧ (formL 256 d0 62)[11]? = some 48 := by decide +kernel
def n0 : Nat := keyN 0
def x0 : Nat := keyE 0
def p0 : Nat := vL (expL 0)
def m0 : Nat := beV (formL 256 d0 64)
def s0 : Nat := mp 512 m0 p0 n0
theorem kn_pow : mp 17 s0 x0 n0 = m0 ∧ p0 < 2 ^ 512 ∧ x0 < 2 ^ 17 ∧ 0 < n0 ∧ bl p0 ≠ 0 ∧ beV (numW s0 64) = s0 ∧ (numW s0 64).length = 64 ∧ s0 < n0 := by decide +kernel
theorem kn_kform : kformE 256 d0 n0 x0 p0 = 0 ∧ kformL 256 d0 n0 x0 p0 = formL 256 d0 64 := by
  have h1 := kn_form.2.2.1
  have h2 := kn_form.2.2.2
  have h3 : rightB n0 x0 p0 = true := kn_right
  have h4 : sizeB n0 = 64 := kn_size
  refine ⟨?_, ?_⟩
  · unfold kformE
    rw [if_neg (by rw [h1]; decide), if_pos h3, h4]; exact h2
  · unfold kformL
    rw [if_neg (by rw [h1]; decide), if_pos h3, h4]; rfl
theorem kn_sign : sigE 256 d0 n0 x0 p0 = 0 ∧ sigL 256 d0 n0 x0 p0 = numW s0 64 := by
  obtain ⟨k1, k2⟩ := kn_kform
  obtain ⟨-, q1, -, q2, q3, -⟩ := kn_pow
  have h4 : sizeB n0 = 64 := kn_size
  refine ⟨by unfold sigE; rw [if_neg (by rw [k1]; decide), if_neg q3], ?_⟩
  unfold sigL
  rw [if_neg (by rw [k1]; decide), if_neg q3, k2, h4]
  have e : powV (beV (formL 256 d0 64)) p0 n0 = s0 := by
    unfold powV s0 m0
    rw [if_neg (by omega), mp_ok 512 _ _ _ q1]
  rw [e]
theorem kn_prove : proveE 256 d0 (numW s0 64) n0 x0 p0 = 0 := by
  obtain ⟨k1, k2⟩ := kn_kform
  obtain ⟨q0, -, q1, q2, -, q4, q5, q6⟩ := kn_pow
  have h4 : sizeB n0 = 64 := kn_size
  unfold proveE
  rw [if_neg (by rw [k1]; decide), if_neg (by rw [q4, q5, h4]; omega), q4, k2]
  refine if_pos ?_
  unfold powV
  rw [if_neg (by omega), ← mp_ok 17 s0 x0 n0 q1, q0]
  rfl
theorem numW_be (s k : Nat) : numW s k = be k s := by unfold numW; rw [natW_be, vL_toL]
theorem bl_256 {s k : Nat} (h : bl s ≤ 8 * k) : s < 256 ^ k := by
  refine Nat.lt_of_lt_of_le (lt_bl s) ?_
  rw [show (256 : Nat) = 2 ^ 8 from rfl, ← Nat.pow_mul]
  exact Nat.pow_le_pow_right (by decide) h
theorem numW_iff {s k : Nat} {m : List UInt8} (hm : m.length = k) (hs : bl s ≤ 8 * k) : numW s k = m ↔ s = beV m := by
  rw [numW_be]
  constructor
  · intro h
    rw [← h, beV_be, Nat.mod_eq_of_lt (bl_256 hs)]
  · intro h
    rw [h, ← hm, be_beV]
theorem formL_len_eq {n : Int} {d : List UInt8} {k : Int} (h : formE n d k = 0) (hk : 0 ≤ k) : ((formL n d k).length : Int) = k := by
  unfold formL
  rw [if_pos h]
  unfold formE at h
  split at h
  · cases h
  · split at h
    · cases h
    · rename_i hk2
      simp only [List.length_append, List.length_cons, List.length_nil, List.length_replicate]
      omega
theorem kformL_size {n : Int} {d : List UInt8} {N E D : Nat} (h : kformE n d N E D = 0) : (kformL n d N E D).length = sizeB N := by
  have hr := kform_right h
  unfold kformE at h
  split at h
  · rename_i h1; exact absurd h h1
  · rename_i h1
    have := formL_len_eq h (by omega)
    unfold kformL
    rw [if_neg h1, if_pos hr]
    omega
end Go.Proofs.YtmngjbefnloljaaGreatDoor
namespace Go.Proofs.YtmngjbefnloljaaGreatDoor
open Go Go.RowKit
set_option maxRecDepth 100000
theorem ca_61 : callT Tryz.prog 61 = true := by kernel_rfl
theorem ca_62 : callT Tryz.prog 62 = true := by kernel_rfl
theorem ca_74 : callT Tryz.prog 74 = true := by kernel_rfl
theorem ca_75 : callT Tryz.prog 75 = true := by kernel_rfl
theorem ca_76 : callT Tryz.prog 76 = true := by kernel_rfl
def infoO (O d : List UInt8) : Nd := .mk 0 16 true [] [.mk 0 16 true [] [.mk 0 6 false O [], .mk 0 5 false [] []], .mk 0 4 false d []]
theorem infoN_O (n : Int) (d : List UInt8) : infoN n d = infoO ((oidB (oidH n)).getD []) d := rfl
theorem size_some {n : Int} (h : shaSize n ≠ 0) : someH n := by
  unfold shaSize at h
  by_cases hn : someH n
  · exact hn
  · rw [if_neg hn] at h; exact absurd rfl h
theorem oidH_ok {n : Int} (h : someH n) : (oidB (oidH n)).isSome = true ∧ valB 6 ((oidB (oidH n)).getD []) = true ∧ ((oidB (oidH n)).getD []).length = 9 := by
  unfold someH at h
  rcases h with rfl | rfl | rfl <;> decide +kernel
theorem infoO_put {O d : List UInt8} (h1 : valB 6 O = true) (h2 : O.length ≤ 1000) (h3 : d.length ≤ 1000) : ∃ t, (infoO O d).put = some t ∧ t.length ≤ O.length + d.length + 40 := by
  have k1 : okN 0 6 false O [] = true := by
    unfold okN; rw [show mayB 0 6 false = true from by decide, h1]; simp
  have k2 : okN 0 5 false [] [] = true := by decide
  have k3 : okN 0 4 false d [] = true := by
    unfold okN; rw [show mayB 0 4 false = true from by decide, valB_0 (by omega)]; simp
  have k4 : ∀ ks, okN 0 16 true [] ks = true := fun ks => by
    unfold okN; rw [show mayB 0 16 true = true from by decide]; simp
  have b1 := headB_len 0 6 false O.length
  have b2 := headB_len 0 5 false 0
  have b3 := headB_len 0 4 false d.length
  refine ⟨_, by simp only [infoO, Nd.put, Nd.putL, k1, k2, k3, k4, if_true, Option.map_some, Bool.false_and, decide_eq_true_eq, Bool.and_self, show (decide ((16 : Int) = 17)) = false from rfl, Bool.and_false, Bool.false_eq_true, if_false]; rfl, ?_⟩
  simp only [List.length_append, List.length_nil]
  have b4 := headB_len 0 16 true (([] ++ (headB 0 6 false O.length ++ O)) ++ (headB 0 5 false ([] : List UInt8).length ++ [])).length
  simp only [List.length_append, List.length_nil] at b4
  generalize (headB 0 6 false O.length).length = z1 at *
  generalize (headB 0 5 false 0).length = z2 at *
  generalize (headB 0 4 false d.length).length = z3 at *
  generalize (headB 0 16 true (0 + (z1 + O.length) + (z2 + 0))).length = z4 at *
  have b5 := headB_len 0 16 true (0 + (z4 + (0 + (z1 + O.length) + (z2 + 0))) + (z3 + d.length))
  omega
theorem info_wr {n : Int} {d : List UInt8} (hz1 : shaSize n ≠ 0) (hz2 : (d.length : Int) = shaSize n) : (infoN n d).wr = (infoL n d, 0) ∧ (infoL n d).length ≤ 200 := by
  have h1 := oidH_ok (size_some hz1)
  have hd : d.length ≤ 64 := by
    have : shaSize n ≤ 64 := by unfold shaSize; split <;> (try unfold someH at *) <;> omega
    omega
  obtain ⟨t, ht, htl⟩ := infoO_put (O := (oidB (oidH n)).getD []) (d := d) h1.2.1 (by rw [h1.2.2]; decide) (by omega)
  have e : infoL n d = t := by unfold infoL; rw [infoN_O, ht]; rfl
  rw [h1.2.2] at htl
  refine ⟨?_, by rw [e]; omega⟩
  unfold Nd.wr
  rw [infoN_O, ht, e]
  simp only
  rw [if_neg (by simp [infoO, Nd.rk, Nd.rkL]), if_neg (by omega)]
theorem headB2 {c t : Int} {k : Bool} {n : Nat} (h : n < 128) : (headB c t k n).length = 2 := by unfold headB lenB; rw [if_pos h]; rfl
theorem infoO_len {O d t : List UInt8} (h1 : valB 6 O = true) (h2 : O.length = 9) (h3 : d.length ≤ 64) (ht : (infoO O d).put = some t) : t.length = 19 + d.length := by
  have k1 : okN 0 6 false O [] = true := by
    unfold okN; rw [show mayB 0 6 false = true from by decide, h1]; simp
  have k2 : okN 0 5 false [] [] = true := by decide
  have k3 : okN 0 4 false d [] = true := by
    unfold okN; rw [show mayB 0 4 false = true from by decide, valB_0 (by omega)]; simp
  have k4 : ∀ ks, okN 0 16 true [] ks = true := fun ks => by
    unfold okN; rw [show mayB 0 16 true = true from by decide]; simp
  simp only [infoO, Nd.put, Nd.putL, k1, k2, k3, k4, if_true, Option.map_some, Bool.false_and, decide_eq_true_eq, Bool.and_self, show (decide ((16 : Int) = 17)) = false from rfl, Bool.and_false, Bool.false_eq_true, if_false, Option.some.injEq] at ht
  subst ht
  have b1 : (headB 0 6 false O.length).length = 2 := headB2 (by omega)
  have b2 : (headB 0 5 false 0).length = 2 := headB2 (by decide)
  have b3 : (headB 0 4 false d.length).length = 2 := headB2 (by omega)
  simp only [List.length_append, List.length_nil, b1, b2, b3]
  have b4 : (headB 0 16 true (0 + (2 + O.length) + (2 + 0))).length = 2 := headB2 (by omega)
  rw [b4, headB2 (by omega)]
  omega
theorem info_len {n : Int} {d : List UInt8} (hz1 : shaSize n ≠ 0) (hz2 : (d.length : Int) = shaSize n) : (infoL n d).length = 19 + d.length := by
  have h1 := oidH_ok (size_some hz1)
  have hd : d.length ≤ 64 := by
    have : shaSize n ≤ 64 := by unfold shaSize; split <;> (try unfold someH at *) <;> omega
    omega
  obtain ⟨t, ht, _⟩ := infoO_put (O := (oidB (oidH n)).getD []) (d := d) h1.2.1 (by rw [h1.2.2]; decide) (by omega)
  have e : infoL n d = t := by unfold infoL; rw [infoN_O, ht]; rfl
  rw [e]
  exact infoO_len h1.2.1 h1.2.2 hd ht
theorem cons_fn' {cl t : Int} {ks : List Nd} {a : Option Addr} {c c' m : Nat} {h : Part} (hk : SlR NdR 5 h a c' ks) (hm : m = ks.length) (hc : c = c') (hz : Nd.szL ks ≤ 1099511627776) :
    FnR Tryz.prog 62 [.int .i64 cl, .int .i64 t, .slice a m c] h (fun v h' => ∃ cs, v = .agg (List.toArray cs) ∧ NdR h' cs (.mk cl t true [] ks)) := by
  subst hm hc; exact cons_fn hk hz
theorem infoO_fn {n : Int} {a : Option Addr} {c : Nat} {d O : List UInt8} {h : Part} (hd : SlR u8R 1 h a c d) (hT : Tabs h) (hz1 : shaSize n ≠ 0) (hz2 : (d.length : Int) = shaSize n) (hO : (oidB (oidH n)).getD [] = O) (hOl : O.length ≤ 1000) (hdl : d.length ≤ 1000) :
    FnR Tryz.prog 34 [.int .i64 n, .slice a d.length c] h (fun v h' => ∃ a c, v = .tuple #[.slice a (infoO O d).wr.1.length c, .int .i64 (infoO O d).wr.2] ∧ SlR u8R 1 h' a c (infoO O d).wr.1) := by
  have hol := oidH_len n
  have hs1 : Nd.szL [.mk 0 6 false O [], .mk 0 5 false [] []] ≤ 1099511627776 := by simp only [Nd.sz, Nd.szL, List.length_nil]; omega
  have hs2 : Nd.szL [.mk 0 16 true [] [.mk 0 6 false O [], .mk 0 5 false [] []], .mk 0 4 false d []] ≤ 1099511627776 := by simp only [Nd.sz, Nd.szL, List.length_nil]; omega
  have hs3 : (infoO O d).sz ≤ 1073741824 := by simp only [infoO, Nd.sz, Nd.szL, List.length_nil]; omega
  refine Fn.intro Tryz.func34 rfl Tryz.ntmps34 rfl (fun e he => ?_)
  refine J.weak [(0, _), (1, _)] ⟨rfl, rfl, trivial⟩ ?_
  have hh0 := Part.le.refl h
  refine Sr ?_
  refine Ru 2 rfl ?_
  refine JL.nil ?_
  refine J.seq ?_
  refine Sr ?_
  refine Ru 1 rfl ?_
  refine JL.callR ca_74 rfl (shasize_fn) rfl ?_
  rintro _ h1 hle1 rfl
  replace hd := hd.mono hle1
  replace hT := hT.mono hle1
  replace hh0 := hh0.mono hle1
  refine Ru 2 rfl ?_
  refine Bs 12 rfl (fun hc2 => ?_) fun hc2 => ?_
  ·
   exfalso; omega
  refine Ru 3 rfl ?_
  refine JL.callRg rfl rfl  ca_74 rfl (shasize_fn) rfl ?_
  rintro _ h3 hle3 rfl
  replace hd := hd.mono hle3
  replace hT := hT.mono hle3
  replace hh0 := hh0.mono hle3
  refine Ru 2 rfl ?_
  refine Nk [18, 5, 4, 0, 1] rfl ?_
  refine Cs rfl (fun hc4 => ?_) fun hc4 => ?_
  ·
   exfalso; omega
  refine J.skip ?_
  refine Sr ?_
  refine Ru 1 rfl ?_
  refine JL.callP ca_76 rfl (shaoid_fn') rfl ?_
  refine JL.callR ca_75 rfl (obytes_fn (s := oidH n) (by omega)) rfl ?_
  rintro _ h6 hle6 ⟨oa, oc, rfl, hOS⟩
  replace hd := hd.mono hle6
  replace hT := hT.mono hle6
  replace hh0 := hh0.mono hle6
  rw [hO] at hOS ⊢; generalize (if (oidB (oidH n)).isSome then (0 : Int) else 20) = ee
  refine Ru 5 rfl ?_
  refine Nk [6, 5, 4, 1] rfl ?_
  refine Sr ?_
  refine Ru 1 rfl ?_
  refine JL.callR ca_77 rfl (prim_fn (t := 6) hOS) rfl ?_
  rintro _ h7 hle7 ⟨w1, rfl, hA⟩
  replace hd := hd.mono hle7
  replace hT := hT.mono hle7
  replace hh0 := hh0.mono hle7
  replace hOS := hOS.mono hle7
  refine JL.callR ca_77 rfl (prim_fn (t := 5) (l := []) SlR.nil_) rfl ?_
  rintro _ h8 hle8 ⟨w2, rfl, hB⟩
  replace hd := hd.mono hle8
  replace hT := hT.mono hle8
  replace hh0 := hh0.mono hle8
  replace hOS := hOS.mono hle8
  replace hA := hA.mono hle8
  refine JL.litAll [_, _] ap_73 rfl rfl (List.forall_mem_cons.2 ⟨z25_, List.forall_mem_cons.2 ⟨z25_, List.forall_mem_nil _⟩⟩) rfl (by kernel_rfl) (by kernel_rfl) rfl (fun b9 => ?_)
  refine JL.pubB (R := NdR) (sz := 5) (l := [.mk 0 6 false O [], .mk 0 5 false [] []]) dl_ ((by have := (CellsR.one hA hA.len5).append (CellsR.one hB hB.len5); simpa using this)) z7_ (fun h10 hle10 hK1 => ?_)
  replace hd := hd.mono hle10
  replace hT := hT.mono hle10
  replace hh0 := hh0.mono hle10
  replace hOS := hOS.mono hle10
  replace hA := hA.mono hle10
  replace hB := hB.mono hle10
  refine JL.callR ca_62 rfl (cons_fn' (cl := 0) (t := 16) hK1 (by simp) (by simp) hs1) rfl ?_
  rintro _ h11 hle11 ⟨w3, rfl, hC⟩
  replace hd := hd.mono hle11
  replace hT := hT.mono hle11
  replace hh0 := hh0.mono hle11
  replace hOS := hOS.mono hle11
  replace hA := hA.mono hle11
  replace hB := hB.mono hle11
  replace hK1 := hK1.mono hle11
  refine Ru 1 rfl ?_
  refine JL.callR ca_77 rfl (prim_fn (t := 4) hd) rfl ?_
  rintro _ h12 hle12 ⟨w4, rfl, hD⟩
  replace hd := hd.mono hle12
  replace hT := hT.mono hle12
  replace hh0 := hh0.mono hle12
  replace hOS := hOS.mono hle12
  replace hA := hA.mono hle12
  replace hB := hB.mono hle12
  replace hK1 := hK1.mono hle12
  replace hC := hC.mono hle12
  refine JL.litAll [_, _] ap_73 rfl rfl (List.forall_mem_cons.2 ⟨z25_, List.forall_mem_cons.2 ⟨z25_, List.forall_mem_nil _⟩⟩) rfl (by kernel_rfl) (by kernel_rfl) rfl (fun b13 => ?_)
  refine JL.pubB (R := NdR) (sz := 5) (l := [.mk 0 16 true [] [.mk 0 6 false O [], .mk 0 5 false [] []], .mk 0 4 false d []]) dl_ ((by have := (CellsR.one hC hC.len5).append (CellsR.one hD hD.len5); simpa using this)) z7_ (fun h14 hle14 hK2 => ?_)
  replace hd := hd.mono hle14
  replace hT := hT.mono hle14
  replace hh0 := hh0.mono hle14
  replace hOS := hOS.mono hle14
  replace hA := hA.mono hle14
  replace hB := hB.mono hle14
  replace hK1 := hK1.mono hle14
  replace hC := hC.mono hle14
  replace hD := hD.mono hle14
  refine JL.callR ca_62 rfl (cons_fn' (cl := 0) (t := 16) hK2 (by simp) (by simp) hs2) rfl ?_
  rintro _ h15 hle15 ⟨w5, rfl, hE⟩
  replace hd := hd.mono hle15
  replace hT := hT.mono hle15
  replace hh0 := hh0.mono hle15
  replace hOS := hOS.mono hle15
  replace hA := hA.mono hle15
  replace hB := hB.mono hle15
  replace hK1 := hK1.mono hle15
  replace hC := hC.mono hle15
  replace hD := hD.mono hle15
  replace hK2 := hK2.mono hle15
  rw [show Nd.mk 0 16 true [] [Nd.mk 0 16 true [] [Nd.mk 0 6 false O [], Nd.mk 0 5 false [] []], Nd.mk 0 4 false d []] = infoO O d from rfl] at hE; generalize infoO O d = XX at *
  refine JL.alloc zr_75 rfl (fun b16 => ?_)
  refine JL.storeA ag_75 rfl rfl dl_ (by first | rfl | exact NdR.all1 (by assumption)) (by first | rfl | assumption | exact NdR.len5 (by assumption)) z25_ ?_
  refine Nk [8, 5, 4] rfl ?_
  refine Sr ?_
  refine JL.op (RunV.ownA ag_75 rfl mm_ z25_) rfl ?_
  refine JL.callR ca_61 rfl (write_fn (x := XX) hE hT (by omega)) rfl ?_
  rintro _ h17 hle17 ⟨ia, ic, rfl, hI⟩
  replace hd := hd.mono hle17
  replace hT := hT.mono hle17
  replace hh0 := hh0.mono hle17
  replace hOS := hOS.mono hle17
  replace hA := hA.mono hle17
  replace hB := hB.mono hle17
  replace hK1 := hK1.mono hle17
  replace hC := hC.mono hle17
  replace hD := hD.mono hle17
  replace hK2 := hK2.mono hle17
  replace hE := hE.mono hle17
  refine Ru 4 rfl ?_
  refine Nk [5, 4] rfl ?_
  exact J.retR (RetV.two rfl rfl rfl) ⟨_, _, rfl, hI⟩
def infoE (n : Int) (d : List UInt8) : Int := if shaSize n = 0 ∨ (d.length : Int) ≠ shaSize n then 40 else 0
def infoR (n : Int) (d : List UInt8) : List UInt8 := if shaSize n = 0 ∨ (d.length : Int) ≠ shaSize n then [] else infoL n d
theorem info_fn {n : Int} {a : Option Addr} {c : Nat} {d : List UInt8} {h : Part} (hd : SlR u8R 1 h a c d) (hT : Tabs h) :
    FnR Tryz.prog 34 [.int .i64 n, .slice a d.length c] h (fun v h' => ∃ a c, v = .tuple #[.slice a (infoR n d).length c, .int .i64 (infoE n d)] ∧ SlR u8R 1 h' a c (infoR n d)) := by
  by_cases hz : shaSize n = 0 ∨ (d.length : Int) ≠ shaSize n
  · rw [show infoE n d = 40 from if_pos hz, show infoR n d = [] from if_pos hz]
    have hdb := hd.big
    refine Fn.intro Tryz.func34 rfl Tryz.ntmps34 rfl (fun e he => ?_)
    refine J.weak [(0, _), (1, _)] ⟨rfl, rfl, trivial⟩ ?_
    have hh0 := Part.le.refl h
    refine Sr ?_
    refine Ru 2 rfl ?_
    refine JL.nil ?_
    refine J.seq ?_
    refine Sr ?_
    refine Ru 1 rfl ?_
    refine JL.callR ca_74 rfl (shasize_fn) rfl ?_
    rintro _ h1 hle1 rfl
    replace hd := hd.mono hle1
    replace hT := hT.mono hle1
    replace hh0 := hh0.mono hle1
    refine Ru 2 rfl ?_
    refine Bs 12 rfl (fun hc2 => ?_) fun hc2 => ?_
    ·
     refine Ru 6 rfl ?_
     refine Nk [18, 5, 4, 0, 1] rfl ?_
     refine J.cond_t rfl ?_
     refine Sr ?_
     refine Ru 2 rfl ?_
     refine JL.nil ?_
     exact J.retR (RetV.two rfl rfl rfl) ⟨_, _, rfl, SlR.nil_⟩
    refine Ru 3 rfl ?_
    refine JL.callRg rfl rfl  ca_74 rfl (shasize_fn) rfl ?_
    rintro _ h3 hle3 rfl
    replace hd := hd.mono hle3
    replace hT := hT.mono hle3
    replace hh0 := hh0.mono hle3
    refine Ru 2 rfl ?_
    refine Nk [18, 5, 4, 0, 1] rfl ?_
    refine Cs rfl (fun hc4 => ?_) fun hc4 => ?_
    rotate_left
    ·
     exfalso; omega
    refine Sr ?_
    refine Ru 2 rfl ?_
    refine JL.nil ?_
    exact J.retR (RetV.two rfl rfl rfl) ⟨_, _, rfl, SlR.nil_⟩
  · have hz1 : shaSize n ≠ 0 := fun e => hz (.inl e)
    have hz2 : (d.length : Int) = shaSize n := Classical.byContradiction fun e => hz (.inr e)
    rw [show infoE n d = 0 from if_neg hz, show infoR n d = infoL n d from if_neg hz]
    have h1 := oidH_ok (size_some hz1)
    have hdl : d.length ≤ 1000 := by
      have : shaSize n ≤ 64 := by unfold shaSize; split <;> (try unfold someH at *) <;> omega
      omega
    refine (infoO_fn hd hT hz1 hz2 rfl (by rw [h1.2.2]; decide) hdl).mono fun u h' _ hh => ?_
    have := (info_wr hz1 hz2).1
    rw [infoN_O] at this
    rw [this] at hh
    exact hh
end Go.Proofs.YtmngjbefnloljaaGreatDoor
namespace Go.Proofs.YtmngjbefnloljaaGreatDoor
open Go Go.RowKit
set_option maxRecDepth 100000
theorem ap_91 : apT Tryz.prog 91 = some (22, 1, 24) := by kernel_rfl
theorem ca_34 : callT Tryz.prog 34 = true := by kernel_rfl
theorem ca_35 : callT Tryz.prog 35 = true := by kernel_rfl
theorem ca_36 : callT Tryz.prog 36 = true := by kernel_rfl
theorem brepeat_fn' {a : Option Addr} {c c' m N : Nat} {q : Int} {b : UInt8} {h : Part} (hl : SlR u8R 1 h a c' [b]) (hm : m = 1) (hc : c = c') (hq : q = (N : Int)) (hN0 : 0 < N) (hN : N ≤ 8192) : FnR Tryz.prog 36 [.slice a m c, .int .i64 q] h (fun v h' => ∃ a c, v = .slice a (List.replicate N b).length c ∧ SlR u8R 1 h' a c (List.replicate N b)) := by
  subst hm hc hq; exact brepeat_fn hl hN0 hN
theorem join_fn' {a : Option Addr} {c c' m : Nat} {ls : List (List UInt8)} {l : List UInt8} {h : Part} (hl : SlR (slR u8R 1) 1 h a c' ls) (hm : m = ls.length) (hc : c = c') (hf : ls.flatten = l) (h2 : 2 ≤ ls.length) (hb : l.length ≤ 1000000000) (hl0 : ∀ l ∈ ls, 0 < l.length) : FnR Tryz.prog 35 [.slice a m c] h (fun v h' => ∃ a c, v = .slice a l.length c ∧ SlR u8R 1 h' a c l) := by
  subst hm hc hf; exact join_fn hl h2 hb hl0
theorem infoL_pos {n : Int} {d : List UInt8} (hz1 : shaSize n ≠ 0) (hz2 : (d.length : Int) = shaSize n) : 0 < (infoL n d).length := by
  have h1 := (info_wr hz1 hz2).1
  unfold infoL
  cases hb : (infoN n d).put with
  | none => unfold Nd.wr at h1; rw [hb] at h1; injection h1 with _ h2; cases h2
  | some b =>
    have h2 := (Nd.put_len _ _ _ (Nat.le_refl _) hb).1
    show 0 < b.length
    omega
theorem slcell {a : Option Addr} {c : Nat} {l : List UInt8} {h : Part} (k : SlR u8R 1 h a c l) : CellsR (slR u8R 1) 1 h [.slice a l.length c] [l] := CellsR.one (R := slR u8R 1) ⟨a, c, rfl, k⟩ rfl
theorem pform_fn {n k : Int} {a : Option Addr} {c : Nat} {d : List UInt8} {h : Part} (hd : SlR u8R 1 h a c d) (hT : Tabs h) (hk0 : -9223372036854775808 ≤ k) (hk1 : k ≤ 9223372036854775807) : FnR Tryz.prog 11 [.int .i64 n, .slice a d.length c, .int .i64 k] h (fun v h' => ∃ a c, v = .tuple #[.slice a (formL n d k).length c, .int .i64 (formE n d k)] ∧ SlR u8R 1 h' a c (formL n d k)) := by
  refine Fn.intro Tryz.func11 rfl Tryz.ntmps11 rfl (fun e he => ?_)
  refine J.weak [(0, _), (1, _), (2, _)] ⟨rfl, rfl, rfl, trivial⟩ ?_
  have hh0 := Part.le.refl h
  refine Sr ?_
  refine Ru 2 rfl ?_
  refine JL.nil ?_
  refine Sr ?_
  refine Ru 2 rfl ?_
  refine JL.callR ca_34 rfl (info_fn hd hT) rfl ?_
  rintro _ h1 hle1 ⟨ia, ic, rfl, hI⟩
  replace hd := hd.mono hle1
  replace hT := hT.mono hle1
  replace hh0 := hh0.mono hle1
  refine Ru 5 rfl ?_
  refine Nk [9, 8, 7, 6, 2] rfl ?_
  refine J.seq ?_
  refine Sr ?_
  refine Ru 2 rfl ?_
  refine JL.nil ?_
  refine Cs rfl (fun hc2 => ?_) fun hc2 => ?_
  ·
   have hz : shaSize n = 0 ∨ (d.length : Int) ≠ shaSize n := Classical.byContradiction (fun hn => hc2 (if_neg hn)); have he : formE n d k = 40 := if_pos hz; have hf : formL n d k = [] := if_neg (by rw [he]; decide); have he2 : infoE n d = 40 := if_pos hz
   refine Sr ?_
   refine Ru 3 rfl ?_
   refine Nk [7, 6, 8, 2] rfl ?_
   rw [he, hf, he2]; exact J.retR (RetV.two rfl rfl rfl) ⟨_, _, rfl, SlR.nil_⟩
  have hz : ¬ (shaSize n = 0 ∨ (d.length : Int) ≠ shaSize n) := (fun hn => by rw [show infoE n d = 40 from if_pos hn] at hc2; omega); have hz1 : shaSize n ≠ 0 := (fun e => hz (.inl e)); have hz2 : (d.length : Int) = shaSize n := Classical.byContradiction (fun e => hz (.inr e)); have htl := (info_wr hz1 hz2).2; rw [show infoR n d = infoL n d from if_neg hz] at hI ⊢; obtain ⟨t, ht⟩ : ∃ t, t = infoL n d := ⟨_, rfl⟩; rw [← ht] at hI htl ⊢
  refine J.skip ?_
  refine J.seq ?_
  refine Sr ?_
  refine Ru 3 rfl ?_
  refine JL.op ai_ rfl ?_
  refine Ru 2 rfl ?_
  apply On 24 27 3 [8, 7, 6, 2] rfl rfl
  rotate_left
  ·
   intro hb3 hc3
   refine Ru 3 rfl ?_
   exact Ae (om_f hb3 rfl) rfl
  rotate_right
  ·
   exact fun hb3 _ => Ru 3 rfl (Ae (om_t hb3 rfl) rfl)
  refine JL.nil ?_
  refine Cs rfl (fun hc4 => ?_) fun hc4 => ?_
  ·
   have he : formE n d k = 50 := (by unfold formE; rw [if_neg hz, ← ht, if_pos (by omega)]); have hf : formL n d k = [] := if_neg (by rw [he]; decide)
   refine Sr ?_
   refine Ru 2 rfl ?_
   refine JL.nil ?_
   rw [he, hf]; exact J.retR (RetV.two rfl rfl rfl) ⟨_, _, rfl, SlR.nil_⟩
  have he : formE n d k = 0 := (by unfold formE; rw [if_neg hz, ← ht, if_neg (by omega)]); have hf : formL n d k = [0, 1] ++ List.replicate (k.toNat - t.length - 3) 255 ++ [0] ++ t := (by unfold formL; rw [if_pos he, ← ht]); have htp : 0 < t.length := (by rw [ht]; exact infoL_pos hz1 hz2); have hne : ∀ l ∈ [[0, 1], List.replicate (k.toNat - t.length - 3) (255 : UInt8), [0], t], 0 < l.length := (by intro l hl; simp at hl; rcases hl with rfl | rfl | rfl | rfl <;> (first | (exact Nat.zero_lt_succ _) | omega | (rw [List.length_replicate]; omega)))
  refine J.skip ?_
  refine Sr ?_
  refine JL.lit1 ap_22 zr_5 rfl rfl rfl rfl rfl (fun b5 => ?_)
  refine JL.pubB (R := u8R) (sz := 1) (l := [0, 1]) dl_ (cells_lit (by first | kernel_rfl | rfl)) (by first | decide | omega | (simp; done)) (fun h6 hle6 h01 => ?_)
  replace hd := hd.mono hle6
  replace hT := hT.mono hle6
  replace hh0 := hh0.mono hle6
  replace hI := hI.mono hle6
  refine JL.lit1 ap_22 zr_5 rfl rfl rfl rfl rfl (fun b7 => ?_)
  refine JL.pubB (R := u8R) (sz := 1) (l := [255]) dl_ (cells_lit (by first | kernel_rfl | rfl)) (by first | decide | omega | (simp; done)) (fun h8 hle8 hFF => ?_)
  replace hd := hd.mono hle8
  replace hT := hT.mono hle8
  replace hh0 := hh0.mono hle8
  replace hI := hI.mono hle8
  replace h01 := h01.mono hle8
  refine Ru 3 rfl ?_
  refine JL.op si_ rfl ?_
  refine JL.op si_ rfl ?_
  refine JL.callR ca_36 rfl (brepeat_fn' (N := k.toNat - t.length - 3) hFF (by rfl) (by simp) (by omega) (by omega) (by omega)) rfl ?_
  rintro _ h9 hle9 ⟨ra, rc, rfl, hR⟩
  replace hd := hd.mono hle9
  replace hT := hT.mono hle9
  replace hh0 := hh0.mono hle9
  replace hI := hI.mono hle9
  replace h01 := h01.mono hle9
  replace hFF := hFF.mono hle9
  refine JL.lit1 ap_22 zr_5 rfl rfl rfl rfl rfl (fun b10 => ?_)
  refine JL.pubB (R := u8R) (sz := 1) (l := [0]) dl_ (cells_lit (by first | kernel_rfl | rfl)) (by first | decide | omega | (simp; done)) (fun h11 hle11 h00 => ?_)
  replace hd := hd.mono hle11
  replace hT := hT.mono hle11
  replace hh0 := hh0.mono hle11
  replace hI := hI.mono hle11
  replace h01 := h01.mono hle11
  replace hFF := hFF.mono hle11
  replace hR := hR.mono hle11
  refine Ru 1 rfl ?_
  refine JL.lit1 ap_91 zr_22 rfl rfl rfl rfl rfl (fun b12 => ?_)
  refine JL.pubB (R := (slR u8R 1)) (sz := 1) (l := [[0, 1], List.replicate (k.toNat - t.length - 3) 255, [0], t]) dl_ ((((slcell h01).append (slcell hR)).append ((slcell h00).append (slcell hI)))) z7_ (fun h13 hle13 hLs => ?_)
  replace hd := hd.mono hle13
  replace hT := hT.mono hle13
  replace hh0 := hh0.mono hle13
  replace hI := hI.mono hle13
  replace h01 := h01.mono hle13
  replace hFF := hFF.mono hle13
  replace hR := hR.mono hle13
  replace h00 := h00.mono hle13
  refine JL.callR ca_35 rfl (join_fn' (l := formL n d k) hLs (by simp) (by simp) (by rw [hf]; simp) (by simp) (by have := formL_len n d k; omega) hne) rfl ?_
  rintro _ h14 hle14 ⟨ja, jc, rfl, hJ⟩
  replace hd := hd.mono hle14
  replace hT := hT.mono hle14
  replace hh0 := hh0.mono hle14
  replace hI := hI.mono hle14
  replace h01 := h01.mono hle14
  replace hFF := hFF.mono hle14
  replace hR := hR.mono hle14
  replace h00 := h00.mono hle14
  replace hLs := hLs.mono hle14
  refine Ru 2 rfl ?_
  refine Nk [7, 6] rfl ?_
  rw [he]; exact J.retR (RetV.two rfl rfl rfl) ⟨_, _, rfl, hJ⟩
end Go.Proofs.YtmngjbefnloljaaGreatDoor
namespace Go.Proofs.YtmngjbefnloljaaGreatDoor
open Go Go.RowKit
set_option maxRecDepth 100000
end Go.Proofs.YtmngjbefnloljaaGreatDoor
namespace Go.Proofs.YtmngjbefnloljaaGreatDoor
open Go Go.RowKit
set_option maxRecDepth 100000
end Go.Proofs.YtmngjbefnloljaaGreatDoor
namespace Go.Proofs.YtmngjbefnloljaaGreatDoor
open Go Go.RowKit
set_option maxRecDepth 100000
theorem ca_11 : callT Tryz.prog 11 = true := by kernel_rfl
theorem ca_25 : callT Tryz.prog 25 = true := by kernel_rfl
theorem ca_39 : callT Tryz.prog 39 = true := by kernel_rfl
theorem ca_41 : callT Tryz.prog 41 = true := by kernel_rfl
theorem ca_48 : callT Tryz.prog 48 = true := by kernel_rfl
theorem ca_60 : callT Tryz.prog 60 = true := by kernel_rfl
theorem form512 {n : Int} {d : List UInt8} (h : ¬ (shaSize n = 0 ∨ (d.length : Int) ≠ shaSize n)) : formE n d 512 = 0 := by
  have hz1 : shaSize n ≠ 0 := fun e => h (.inl e)
  have hz2 : (d.length : Int) = shaSize n := Classical.byContradiction fun e => h (.inr e)
  have := (info_wr hz1 hz2).2
  unfold formE
  rw [if_neg h, if_neg (by omega)]
theorem infoE_512 (n : Int) (d : List UInt8) : infoE n d = formE n d 512 := by
  by_cases h : shaSize n = 0 ∨ (d.length : Int) ≠ shaSize n
  · rw [show infoE n d = 40 from if_pos h]; unfold formE; rw [if_pos h]
  · rw [form512 h]; exact if_neg h
theorem kform_fn {an ae ad : Option Addr} {cn ce cd : Nat} {n x dd : List UInt32} {hash : Int} {a : Option Addr} {c : Nat} {d : List UInt8} {h : Part} (hn : SlR u32R 1 h an cn n) (hx : SlR u32R 1 h ae ce x) (hdd : SlR u32R 1 h ad cd dd) (hd : SlR u8R 1 h a c d) (hT : Tabs h) (hln : n.length ≤ 100000) :
    FnR Tryz.prog 39 [.agg #[.slice an n.length cn, .slice ae x.length ce, .slice ad dd.length cd], .int .i64 hash, .slice a d.length c] h (fun v h' => ∃ a c, v = .tuple #[.slice a (kformL hash d (vL n) (vL x) (vL dd)).length c, .int .i64 (kformE hash d (vL n) (vL x) (vL dd))] ∧ SlR u8R 1 h' a c (kformL hash d (vL n) (vL x) (vL dd))) := by
  have hbl := bl_len' n
  have hi := infoE_512 hash d
  refine Fn.intro Tryz.func39 rfl Tryz.ntmps39 rfl (fun e he => ?_)
  refine J.weak [(0, _), (1, _), (2, _)] ⟨rfl, rfl, rfl, trivial⟩ ?_
  have hh0 := Part.le.refl h
  refine Sr ?_
  refine JL.box rfl rfl rfl (fun b1 => ?_)
  refine Ru 2 rfl ?_
  refine JL.nil ?_
  refine J.seq ?_
  refine Sr ?_
  refine Ru 2 rfl ?_
  refine JL.callR ca_34 rfl (info_fn hd hT) rfl ?_
  rintro _ h2 hle2 ⟨fa, fc, rfl, hF⟩
  replace hn := hn.mono hle2
  replace hx := hx.mono hle2
  replace hdd := hdd.mono hle2
  replace hd := hd.mono hle2
  replace hT := hT.mono hle2
  replace hh0 := hh0.mono hle2
  rw [hi]
  refine Ru 5 rfl ?_
  refine Nk [9, 7, 6, 3, 1, 2] rfl ?_
  refine Sr ?_
  refine Ru 2 rfl ?_
  refine JL.nil ?_
  refine Cs rfl (fun hc3 => ?_) fun hc3 => ?_
  ·
   have e1 : kformE hash d (vL n) (vL x) (vL dd) = formE hash d 512 := if_pos hc3; have e2 : kformL hash d (vL n) (vL x) (vL dd) = [] := if_pos hc3
   refine Sr ?_
   refine Ru 3 rfl ?_
   refine Nk [7, 6, 3, 1, 2] rfl ?_
   rw [e1, e2]; exact J.retR (RetV.two rfl rfl rfl) ⟨_, _, rfl, SlR.nil_⟩
  have hc0 : ¬ formE hash d 512 ≠ 0 := (by simpa using hc3)
  refine J.skip ?_
  refine J.seq ?_
  refine Sr ?_
  refine JL.op (RunV.ownA ag_32 rfl mm_ (by first | rfl)) rfl ?_
  refine JL.callR ca_60 rfl (keyright_fn hn hx hdd) rfl ?_
  rintro _ h4 hle4 rfl
  replace hn := hn.mono hle4
  replace hx := hx.mono hle4
  replace hdd := hdd.mono hle4
  replace hd := hd.mono hle4
  replace hT := hT.mono hle4
  replace hh0 := hh0.mono hle4
  replace hF := hF.mono hle4
  refine Ru 1 rfl ?_
  refine Nk [21, 7, 6, 3, 1, 2] rfl ?_
  refine Cs rfl (fun hc5 => ?_) fun hc5 => ?_
  ·
   have hrt : ¬ rightB (vL n) (vL x) (vL dd) = true := (by simpa using hc5); have e1 : kformE hash d (vL n) (vL x) (vL dd) = 50 := (by unfold kformE; rw [if_neg hc0, if_neg hrt]); have e2 : kformL hash d (vL n) (vL x) (vL dd) = [] := (by unfold kformL; rw [if_neg hc0, if_neg hrt])
   refine Sr ?_
   refine Ru 2 rfl ?_
   refine JL.nil ?_
   rw [e1, e2]; exact J.retR (RetV.two rfl rfl rfl) ⟨_, _, rfl, SlR.nil_⟩
  have hrt : rightB (vL n) (vL x) (vL dd) = true := (by simpa using hc5); have e1 : kformE hash d (vL n) (vL x) (vL dd) = formE hash d (sizeB (vL n)) := (by unfold kformE; rw [if_neg hc0, if_pos hrt]); have e2 : kformL hash d (vL n) (vL x) (vL dd) = formL hash d (sizeB (vL n)) := (by unfold kformL; rw [if_neg hc0, if_pos hrt])
  refine J.skip ?_
  refine Sr ?_
  refine Ru 2 rfl ?_
  refine JL.op (RunV.ownA ag_32 rfl mm_ (by first | rfl)) rfl ?_
  refine JL.callP ca_25 rfl (ksize_fn hn) rfl ?_
  refine JL.callR ca_11 rfl (pform_fn (k := (sizeB (vL n) : Nat)) hd hT (by omega) (by unfold sizeB; omega)) rfl ?_
  rintro _ h7 hle7 ⟨ga, gc, rfl, hG⟩
  replace hn := hn.mono hle7
  replace hx := hx.mono hle7
  replace hdd := hdd.mono hle7
  replace hd := hd.mono hle7
  replace hT := hT.mono hle7
  replace hh0 := hh0.mono hle7
  replace hF := hF.mono hle7
  refine Ru 4 rfl ?_
  refine Nk [7, 6] rfl ?_
  rw [e1, e2]; exact J.retR (RetV.two rfl rfl rfl) ⟨_, _, rfl, hG⟩
theorem psign_fn {an ae ad : Option Addr} {cn ce cd : Nat} {n x dd : List UInt32} {hash : Int} {a : Option Addr} {c : Nat} {d : List UInt8} {h : Part} (hn : SlR u32R 1 h an cn n) (hx : SlR u32R 1 h ae ce x) (hdd : SlR u32R 1 h ad cd dd) (hd : SlR u8R 1 h a c d) (hT : Tabs h) (hln : n.length ≤ 10000) (hld : dd.length ≤ 10000) :
    FnR Tryz.prog 15 [.agg #[.slice an n.length cn, .slice ae x.length ce, .slice ad dd.length cd], .int .i64 hash, .slice a d.length c] h (fun v h' => ∃ a c, v = .tuple #[.slice a (sigL hash d (vL n) (vL x) (vL dd)).length c, .int .i64 (sigE hash d (vL n) (vL x) (vL dd))] ∧ SlR u8R 1 h' a c (sigL hash d (vL n) (vL x) (vL dd))) := by
  have hbl := bl_len' n
  have hkl := kformL_len hash d (vL n) (vL x) (vL dd)
  refine Fn.intro Tryz.func15 rfl Tryz.ntmps15 rfl (fun e he => ?_)
  refine J.weak [(0, _), (1, _), (2, _)] ⟨rfl, rfl, rfl, trivial⟩ ?_
  have hh0 := Part.le.refl h
  refine Sr ?_
  refine JL.box rfl rfl rfl (fun b1 => ?_)
  refine Ru 2 rfl ?_
  refine JL.nil ?_
  refine Sr ?_
  refine JL.op (RunV.ownA ag_32 rfl mm_ (by first | rfl)) rfl ?_
  refine Ru 2 rfl ?_
  refine JL.callR ca_39 rfl (kform_fn hn hx hdd hd hT (by omega)) rfl ?_
  rintro _ h2 hle2 ⟨fa, fc, rfl, hF⟩
  replace hn := hn.mono hle2
  replace hx := hx.mono hle2
  replace hdd := hdd.mono hle2
  replace hd := hd.mono hle2
  replace hT := hT.mono hle2
  replace hh0 := hh0.mono hle2
  refine Ru 5 rfl ?_
  refine Nk [9, 8, 7, 6, 3] rfl ?_
  refine J.seq ?_
  refine Sr ?_
  refine Ru 2 rfl ?_
  refine JL.nil ?_
  refine Cs rfl (fun hc3 => ?_) fun hc3 => ?_
  ·
   have e1 : sigE hash d (vL n) (vL x) (vL dd) = kformE hash d (vL n) (vL x) (vL dd) := if_pos hc3; have e2 : sigL hash d (vL n) (vL x) (vL dd) = [] := if_pos hc3
   refine Sr ?_
   refine Ru 3 rfl ?_
   refine Nk [7, 6, 8, 3] rfl ?_
   rw [e1, e2]; exact J.retR (RetV.two rfl rfl rfl) ⟨_, _, rfl, SlR.nil_⟩
  have hc0 : ¬ kformE hash d (vL n) (vL x) (vL dd) ≠ 0 := (by simpa using hc3); have hrt := kform_right (Classical.byContradiction hc0); have hrt2 := of_decide_eq_true hrt; have hN0 : 0 < vL n := (by omega); have hsz : sizeB (vL n) ≤ 65536 := (by unfold sizeB; omega); have hpf := pow_fit (beV (kformL hash d (vL n) (vL x) (vL dd))) (vL dd) (vL n) hN0
  refine J.skip ?_
  refine J.seq ?_
  refine Sr ?_
  refine Ru 1 rfl ?_
  refine JL.op (RunV.own1 ag_30 rfl mm_ rfl) rfl ?_
  refine JL.callP ca_40 rfl (natbits_fn hdd) rfl ?_
  rw [nbits_vL]
  refine Ru 1 rfl ?_
  refine Nk [25, 8, 7, 6, 3] rfl ?_
  refine Cs rfl (fun hc5 => ?_) fun hc5 => ?_
  ·
   have hb0 : bl (vL dd) = 0 := (by omega); have e1 : sigE hash d (vL n) (vL x) (vL dd) = 50 := (by unfold sigE; rw [if_neg hc0, if_pos hb0]); have e2 : sigL hash d (vL n) (vL x) (vL dd) = [] := (by unfold sigL; rw [if_neg hc0, if_pos hb0])
   refine Sr ?_
   refine Ru 2 rfl ?_
   refine JL.nil ?_
   rw [e1, e2]; exact J.retR (RetV.two rfl rfl rfl) ⟨_, _, rfl, SlR.nil_⟩
  have hb0 : ¬ bl (vL dd) = 0 := (by omega); have e1 : sigE hash d (vL n) (vL x) (vL dd) = 0 := (by unfold sigE; rw [if_neg hc0, if_neg hb0]); have e2 : sigL hash d (vL n) (vL x) (vL dd) = numW (powV (beV (kformL hash d (vL n) (vL x) (vL dd))) (vL dd) (vL n)) (sizeB (vL n)) := (by unfold sigL; rw [if_neg hc0, if_neg hb0])
  refine J.skip ?_
  refine J.seq ?_
  refine J.held ([.blk b1 32 [.slice an n.length cn, .slice ae x.length ce, .slice ad dd.length cd]]) 12 mixed_ rfl (fun h00 => ?_)
  refine JH.take 0 rfl (by kernel_rfl) (by kernel_rfl) (by kernel_rfl) (fun _ _ _ _ hh => hh) (br_ h00) (RunV.move rfl) rfl ?_
  refine JH.take 2 rfl (by kernel_rfl) (by kernel_rfl) (by kernel_rfl) (fun _ _ _ _ hh => hh) (br_ h00) (by first | exact RunV.fieldAt0 fo_32_2 rfl | exact RunV.fieldAt fo_32_2 rfl) rfl ?_
  refine JH.take 3 rfl (by kernel_rfl) (by kernel_rfl) (by kernel_rfl) (fun _ _ _ _ hh => hh) (br_ h00) (RunV.own1 ag_30 rfl mm_ rfl) rfl ?_
  refine JH.take 4 rfl (by kernel_rfl) (by kernel_rfl) (by kernel_rfl) (fun _ _ _ _ hh => hh) (br_ h00) (by first | exact RunV.fieldAt0 fo_32_0 rfl | exact RunV.fieldAt fo_32_0 rfl) rfl ?_
  refine JH.take 5 rfl (by kernel_rfl) (by kernel_rfl) (by kernel_rfl) (fun _ _ _ _ hh => hh) (br_ h00) (RunV.own1 ag_30 rfl mm_ rfl) rfl ?_
  refine JH.all1 1 (by kernel_rfl) rfl ?_
  unfold One
  refine JL.callR ca_42 rfl (natread_fn hF (by omega)) rfl ?_
  rintro _ h6 hle6 ⟨ma, mc, rfl, hM⟩
  replace hn := hn.mono hle6
  replace hx := hx.mono hle6
  replace hdd := hdd.mono hle6
  replace hd := hd.mono hle6
  replace hT := hT.mono hle6
  replace hh0 := hh0.mono hle6
  replace hF := hF.mono hle6
  have hml : (toL (beV (kformL hash d (vL n) (vL x) (vL dd)))).length ≤ 100000 := (by have := toL_beV_len (kformL hash d (vL n) (vL x) (vL dd)); omega)
  refine JL.nil ⟨(br_ h00), ?_⟩
  refine JH.all1 6 (by kernel_rfl) rfl ?_
  unfold One
  refine JL.callR ca_41 rfl (natpow_fn hM hdd hn hml (by omega) (by omega)) rfl ?_
  rintro _ h7 hle7 ⟨pa, pc, rfl, hP⟩
  replace hn := hn.mono hle7
  replace hx := hx.mono hle7
  replace hdd := hdd.mono hle7
  replace hd := hd.mono hle7
  replace hT := hT.mono hle7
  replace hh0 := hh0.mono hle7
  replace hF := hF.mono hle7
  replace hM := hM.mono hle7
  rw [vL_toL] at hP ⊢
  refine JL.nil ⟨(br_ h00), ?_⟩
  refine JH.take 7 rfl (by kernel_rfl) (by kernel_rfl) (by kernel_rfl) (fun _ _ _ _ hh => hh) (br_ h00) (RunV.move rfl) rfl ?_
  refine JH.take 8 rfl (by kernel_rfl) (by kernel_rfl) (by kernel_rfl) (fun _ _ _ _ hh => hh) (br_ h00) (RunV.extract rfl rfl) rfl ?_
  refine JH.take 9 rfl (by kernel_rfl) (by kernel_rfl) (by kernel_rfl) (fun _ _ _ _ hh => hh) (br_ h00) (RunV.extract rfl rfl) rfl ?_
  refine JH.take 10 rfl (by kernel_rfl) (by kernel_rfl) (by kernel_rfl) (fun _ _ _ _ hh => hh) (br_ h00) (RunV.assign rfl) rfl ?_
  refine JH.take 11 rfl (by kernel_rfl) (by kernel_rfl) (by kernel_rfl) (fun _ _ _ _ hh => hh) (br_ h00) (RunV.assign rfl) rfl ?_
  refine JH.done (by kernel_rfl) ?_
  refine Kp [10, 7, 6, 3] rfl ?_
  refine Sr ?_
  refine Ru 1 rfl ?_
  refine JL.op (RunV.ownA ag_32 rfl mm_ (by first | rfl)) rfl ?_
  refine JL.callP ca_25 rfl (ksize_fn hn) rfl ?_
  refine JL.callR ca_43 rfl (natwrite_fn (k := sizeB (vL n)) hP hsz (by rw [nbits_vL, vL_toL]; omega)) rfl ?_
  rintro _ h9 hle9 ⟨wa, wc, rfl, hW⟩
  replace hn := hn.mono hle9
  replace hx := hx.mono hle9
  replace hdd := hdd.mono hle9
  replace hd := hd.mono hle9
  replace hT := hT.mono hle9
  replace hh0 := hh0.mono hle9
  replace hF := hF.mono hle9
  replace hM := hM.mono hle9
  replace hP := hP.mono hle9
  refine Ru 4 rfl ?_
  refine Nk [7, 6] rfl ?_
  rw [e1, e2]; exact J.retR (RetV.two rfl rfl rfl) ⟨_, _, rfl, hW⟩
theorem pprove_fn {an ae ad : Option Addr} {cn ce cd : Nat} {n x dd : List UInt32} {hash : Int} {a b : Option Addr} {c cb : Nat} {d s : List UInt8} {h : Part} (hn : SlR u32R 1 h an cn n) (hx : SlR u32R 1 h ae ce x) (hdd : SlR u32R 1 h ad cd dd) (hd : SlR u8R 1 h a c d) (hs : SlR u8R 1 h b cb s) (hT : Tabs h) (hln : n.length ≤ 10000) (hlx : x.length ≤ 10000) (hsl : s.length ≤ 100000) :
    FnR Tryz.prog 17 [.agg #[.slice an n.length cn, .slice ae x.length ce, .slice ad dd.length cd], .int .i64 hash, .slice a d.length c, .slice b s.length cb] h (fun v _ => v = .int .i64 (proveE hash d s (vL n) (vL x) (vL dd))) := by
  have hbl := bl_len' n
  have hkl := kformL_len hash d (vL n) (vL x) (vL dd)
  have hts := toL_beV_len s
  obtain ⟨-, c2, -, -, -⟩ := cmp_facts (beV s) (vL n)
  refine Fn.intro Tryz.func17 rfl Tryz.ntmps17 rfl (fun e he => ?_)
  refine J.weak [(0, _), (1, _), (2, _), (3, _)] ⟨rfl, rfl, rfl, rfl, trivial⟩ ?_
  have hh0 := Part.le.refl h
  refine Sr ?_
  refine JL.box rfl rfl rfl (fun b1 => ?_)
  refine Ru 1 rfl ?_
  refine JL.nil ?_
  refine Sr ?_
  refine JL.op (RunV.ownA ag_32 rfl mm_ (by first | rfl)) rfl ?_
  refine Ru 2 rfl ?_
  refine JL.callR ca_39 rfl (kform_fn hn hx hdd hd hT (by omega)) rfl ?_
  rintro _ h2 hle2 ⟨fa, fc, rfl, hF⟩
  replace hn := hn.mono hle2
  replace hx := hx.mono hle2
  replace hdd := hdd.mono hle2
  replace hd := hd.mono hle2
  replace hs := hs.mono hle2
  replace hT := hT.mono hle2
  replace hh0 := hh0.mono hle2
  refine Ru 5 rfl ?_
  refine Nk [10, 9, 8, 4, 3] rfl ?_
  refine J.seq ?_
  refine Sr ?_
  refine Ru 2 rfl ?_
  refine JL.nil ?_
  refine Cs rfl (fun hc3 => ?_) fun hc3 => ?_
  ·
   have e1 : proveE hash d s (vL n) (vL x) (vL dd) = kformE hash d (vL n) (vL x) (vL dd) := if_pos hc3
   refine Sr ?_
   refine Ru 2 rfl ?_
   refine Nk [8, 9, 4, 3] rfl ?_
   rw [e1]; exact J.retR (RetV.one rfl rfl) rfl
  have hc0 : ¬ kformE hash d (vL n) (vL x) (vL dd) ≠ 0 := (by simpa using hc3); have hc00 := Classical.byContradiction hc0; have hrt := kform_right hc00; have hkz := kformL_size hc00; have hrt2 := of_decide_eq_true hrt; have hN0 : 0 < vL n := (by omega); have hsz : sizeB (vL n) ≤ 65536 := (by unfold sizeB; omega); have hpf := pow_fit (beV s) (vL x) (vL n) hN0; have hiff := numW_iff hkz hpf
  refine J.skip ?_
  refine Sr ?_
  refine Ru 1 rfl ?_
  refine JL.callR ca_42 rfl (natread_fn hs (by omega)) rfl ?_
  rintro _ h4 hle4 ⟨sa, sc, rfl, hS⟩
  replace hn := hn.mono hle4
  replace hx := hx.mono hle4
  replace hdd := hdd.mono hle4
  replace hd := hd.mono hle4
  replace hs := hs.mono hle4
  replace hT := hT.mono hle4
  replace hh0 := hh0.mono hle4
  replace hF := hF.mono hle4
  refine Ru 1 rfl ?_
  refine Nk [11, 9, 8, 4, 3] rfl ?_
  refine J.seq ?_
  refine Sr ?_
  refine Ru 2 rfl ?_
  refine JL.op (RunV.ownA ag_32 rfl mm_ (by first | rfl)) rfl ?_
  refine JL.callP ca_25 rfl (ksize_fn hn) rfl ?_
  refine Ru 2 rfl ?_
  refine Bs 33 rfl (fun hc6 => ?_) fun hc6 => ?_
  ·
   refine Ru 6 rfl ?_
   refine Nk [39, 11, 9, 8, 4] rfl ?_
   refine J.cond_t rfl ?_
   refine Sr ?_
   refine Ru 1 rfl ?_
   refine JL.nil ?_
   first | (rw [show proveE hash d s (vL n) (vL x) (vL dd) = 63 by unfold proveE; rw [if_neg hc0, if_pos (by unfold sizeB; omega)]]; exact J.retR (RetV.one rfl rfl) rfl) | (rw [show proveE hash d s (vL n) (vL x) (vL dd) = 63 by unfold proveE; rw [if_neg hc0, if_neg hc1, if_neg (fun hh => by have := hiff.2 hh; simp_all [numW])]]; exact J.retR (RetV.one rfl rfl) rfl) | (rw [show proveE hash d s (vL n) (vL x) (vL dd) = 0 by unfold proveE; rw [if_neg hc0, if_neg hc1, if_pos (hiff.1 (by simp_all [numW]))]]; exact J.retR (RetV.one rfl rfl) rfl)
  refine Ru 2 rfl ?_
  refine JL.opg rfl rfl  (RunV.own1 ag_30 rfl mm_ rfl) rfl ?_
  refine JL.callPg rfl rfl  ca_47 rfl (natcmp_fn hS hn) rfl ?_
  rw [vL_toL]
  refine Ru 2 rfl ?_
  refine Nk [39, 11, 9, 8, 4] rfl ?_
  refine Cs rfl (fun hc8 => ?_) fun hc8 => ?_
  ·
   refine Sr ?_
   refine Ru 1 rfl ?_
   refine JL.nil ?_
   first | (rw [show proveE hash d s (vL n) (vL x) (vL dd) = 63 by unfold proveE; rw [if_neg hc0, if_pos (by unfold sizeB; omega)]]; exact J.retR (RetV.one rfl rfl) rfl) | (rw [show proveE hash d s (vL n) (vL x) (vL dd) = 63 by unfold proveE; rw [if_neg hc0, if_neg hc1, if_neg (fun hh => by have := hiff.2 hh; simp_all [numW])]]; exact J.retR (RetV.one rfl rfl) rfl) | (rw [show proveE hash d s (vL n) (vL x) (vL dd) = 0 by unfold proveE; rw [if_neg hc0, if_neg hc1, if_pos (hiff.1 (by simp_all [numW]))]]; exact J.retR (RetV.one rfl rfl) rfl)
  refine J.skip ?_
  refine Sr ?_
  refine Ru 2 rfl ?_
  refine JL.op (RunV.own1 ag_30 rfl mm_ rfl) rfl ?_
  refine Ru 1 rfl ?_
  refine JL.op (RunV.own1 ag_30 rfl mm_ rfl) rfl ?_
  refine JL.callR ca_41 rfl (natpow_fn hS hx hn (by omega) (by omega) (by omega)) rfl ?_
  rintro _ h9 hle9 ⟨pa, pc, rfl, hP⟩
  replace hn := hn.mono hle9
  replace hx := hx.mono hle9
  replace hdd := hdd.mono hle9
  replace hd := hd.mono hle9
  replace hs := hs.mono hle9
  replace hT := hT.mono hle9
  replace hh0 := hh0.mono hle9
  replace hF := hF.mono hle9
  replace hS := hS.mono hle9
  rw [vL_toL] at hP ⊢; have hc1 : ¬ (s.length ≠ sizeB (vL n) ∨ vL n ≤ beV s) := (by unfold sizeB; omega)
  refine Ru 5 rfl ?_
  refine Nk [12, 9, 8, 4] rfl ?_
  refine Sr ?_
  refine Ru 1 rfl ?_
  refine JL.op (RunV.ownA ag_32 rfl mm_ (by first | rfl)) rfl ?_
  refine JL.callP ca_25 rfl (ksize_fn hn) rfl ?_
  refine JL.callR ca_43 rfl (natwrite_fn (k := sizeB (vL n)) hP hsz (by rw [nbits_vL, vL_toL]; omega)) rfl ?_
  rintro _ h11 hle11 ⟨wa, wc, rfl, hW⟩
  replace hn := hn.mono hle11
  replace hx := hx.mono hle11
  replace hdd := hdd.mono hle11
  replace hd := hd.mono hle11
  replace hs := hs.mono hle11
  replace hT := hT.mono hle11
  replace hh0 := hh0.mono hle11
  replace hF := hF.mono hle11
  replace hS := hS.mono hle11
  replace hP := hP.mono hle11
  refine Ru 5 rfl ?_
  refine Nk [14, 9, 8] rfl ?_
  refine J.seq ?_
  refine Sr ?_
  refine Ru 2 rfl ?_
  refine JL.callP ca_48 rfl (bequal_fn hW hF) rfl ?_
  refine Ru 1 rfl ?_
  refine Nk [59, 8] rfl ?_
  refine Cs rfl (fun hc13 => ?_) fun hc13 => ?_
  ·
   refine Sr ?_
   refine Ru 1 rfl ?_
   refine JL.nil ?_
   first | (rw [show proveE hash d s (vL n) (vL x) (vL dd) = 63 by unfold proveE; rw [if_neg hc0, if_pos (by unfold sizeB; omega)]]; exact J.retR (RetV.one rfl rfl) rfl) | (rw [show proveE hash d s (vL n) (vL x) (vL dd) = 63 by unfold proveE; rw [if_neg hc0, if_neg hc1, if_neg (fun hh => by have := hiff.2 hh; simp_all [numW])]]; exact J.retR (RetV.one rfl rfl) rfl) | (rw [show proveE hash d s (vL n) (vL x) (vL dd) = 0 by unfold proveE; rw [if_neg hc0, if_neg hc1, if_pos (hiff.1 (by simp_all [numW]))]]; exact J.retR (RetV.one rfl rfl) rfl)
  refine J.skip ?_
  refine Sr ?_
  refine Ru 1 rfl ?_
  refine JL.nil ?_
  first | (rw [show proveE hash d s (vL n) (vL x) (vL dd) = 63 by unfold proveE; rw [if_neg hc0, if_pos (by unfold sizeB; omega)]]; exact J.retR (RetV.one rfl rfl) rfl) | (rw [show proveE hash d s (vL n) (vL x) (vL dd) = 63 by unfold proveE; rw [if_neg hc0, if_neg hc1, if_neg (fun hh => by have := hiff.2 hh; simp_all [numW])]]; exact J.retR (RetV.one rfl rfl) rfl) | (rw [show proveE hash d s (vL n) (vL x) (vL dd) = 0 by unfold proveE; rw [if_neg hc0, if_neg hc1, if_pos (hiff.1 (by simp_all [numW]))]]; exact J.retR (RetV.one rfl rfl) rfl)
end Go.Proofs.YtmngjbefnloljaaGreatDoor
namespace Go.Proofs.YtmngjbefnloljaaGreatDoor
open Go Go.RowKit
set_option maxRecDepth 100000
theorem ca_10 : callT Tryz.prog 10 = true := by kernel_rfl
theorem ca_15 : callT Tryz.prog 15 = true := by kernel_rfl
theorem ca_17 : callT Tryz.prog 17 = true := by kernel_rfl
theorem ca_18 : callT Tryz.prog 18 = true := by kernel_rfl
theorem ca_19 : callT Tryz.prog 19 = true := by kernel_rfl
theorem fixed_fn {h : Part} (hT : Tabs h) : Pure Tryz.prog 10 [] h (.bool true) := by
  refine Pure.ofV ?_
  have hd0 : d0.length = 32 := List.length_replicate
  have hk : (amongI 0 12).toNat = 0 := by decide
  obtain ⟨k1, k2, k3, k4⟩ := kn_form
  obtain ⟨q1, q2, q3, q4⟩ := kn_list
  obtain ⟨s1, s2⟩ := kn_sign
  have p1 := kn_prove
  have hb0 : (toL (keyN 0)).length = 16 := by decide +kernel
  have hb1 : (toL (keyE 0)).length = 1 := by decide +kernel
  have hb2 : (expL 0).length = 16 := by decide +kernel
  obtain ⟨h2, e2⟩ := List.getElem?_eq_some_iff.1 q2
  obtain ⟨h3, e3⟩ := List.getElem?_eq_some_iff.1 q3
  obtain ⟨h4, e4⟩ := List.getElem?_eq_some_iff.1 q4
  have hsl := kn_pow.2.2.2.2.2.2.1
  refine Fn.intro Tryz.func10 rfl Tryz.ntmps10 rfl (fun e he => ?_)
  have hh0 := Part.le.refl h
  refine Sr ?_
  refine Ru 1 rfl ?_
  refine JL.nil ?_
  refine Sr ?_
  refine Ru 1 rfl ?_
  refine JL.nil ?_
  refine J.seq ?_
  refine Sr ?_
  refine JL.row_nil 5 1 ?_
  refine Ru 1 rfl ?_
  refine JL.nil ?_
  refine J.block ?_
  refine J.loop (fun t_ S_ h_ L_ => ∃ (i : Nat) (a : Option Addr) (c : Nat), t_ = 33 - i ∧ S_ = [(1, .slice a (List.replicate i (1 : UInt8)).length c), (2, .int .i64 i)] ∧ h = h_ ∧ L_ = [.row a c 5 1 (List.replicate i (1 : UInt8)).length (u8s (List.replicate i 1))] ∧ (i ≤ 32)) ⟨_, _, ?_, ⟨0, none, 0, rfl, rfl, rfl, rfl, by omega⟩⟩ ?_
  ·
   exact z5_
  rintro _ _ _ _ ⟨i, a, c, rfl, rfl, rfl, rfl, hi⟩
  refine J.seq ?_
  refine Sr ?_
  refine Ru 2 rfl ?_
  refine JL.nil ?_
  refine Cs rfl (fun hc1 => ?_) fun hc1 => ?_
  ·
   have hke : List.replicate i (1 : UInt8) ++ [1] = List.replicate (i + 1) 1 := (by rw [← List.replicate_succ']); have hrl : (List.replicate i (1 : UInt8)).length = i := List.length_replicate
   refine J.skip ?_
   refine J.seq ?_
   refine J.block ?_
   refine Rg ?_
   refine Ru 1 rfl ?_
   refine JL.lit1 ap_22 zr_5 rfl rfl rfl rfl rfl (fun b2 => ?_)
   refine JL.own (L' := [.blk _ _ [.int .u8 (((1 : UInt8).toNat : Nat) : Int)], _]) (fun w hk => hk) ?_
   refine JL.append1 ap_22 rfl rfl CellsR.of_u8 rfl dl_ dl_ rfl (rfl) z3_ rfl rfl (fun a3 c3 xs3 hC3 hN3 => ?_)
   obtain rfl := hC3.u8
   rw [hke]
   refine Ru 1 rfl ?_
   refine JL.nil ?_
   refine Rg ?_
   refine Ru 1 rfl ?_
   refine JL.op ai_ rfl ?_
   refine Ru 1 rfl ?_
   refine JL.nil ?_
   refine ⟨_, ?_, _, ?_, ⟨i + 1, _, _, rfl, rfl, rfl, rfl, by omega⟩⟩
   ·
    omega
   exact z5_
  obtain rfl : i = 32 := (by omega); 
  refine J.exit ?_
  refine Sr ?_
  refine JL.pub (R := u8R) (l := d0) dl_ CellsR.of_u8 rfl (by omega) (fun h9 hle9 hD => ?_); replace hT := hT.mono hle9; replace hh0 := hh0.mono hle9
  refine Ru 1 rfl ?_
  refine JL.callR ca_11 rfl (pform_fn (n := 256) (k := 62) (d := d0) hD hT (by decide) (by decide)) rfl ?_
  rintro _ h4 hle4 ⟨fa, fc, rfl, hF⟩
  replace hT := hT.mono hle4
  replace hh0 := hh0.mono hle4
  replace hD := hD.mono hle4
  rw [k1]
  refine Ru 5 rfl ?_
  refine Nk [4, 3, 1] rfl ?_
  refine Sr ?_
  refine Ru 1 rfl ?_
  refine JL.callR ca_11 rfl (pform_fn (n := 256) (k := 61) (d := d0) hD hT (by decide) (by decide)) rfl ?_
  rintro _ h5 hle5 ⟨ga, gc, rfl, hG⟩
  replace hT := hT.mono hle5
  replace hh0 := hh0.mono hle5
  replace hD := hD.mono hle5
  replace hF := hF.mono hle5
  rw [k2]
  refine Ru 5 rfl ?_
  refine Nk [6, 4, 3, 1] rfl ?_
  refine Sr ?_
  refine JL.callR ca_19 rfl (rkept_fn (k := 0) (by decide) (by decide)) rfl ?_
  rintro _ h6 hle6 ⟨an, cn, ae, ce, ad, cd, rfl, hN, hE, hX⟩
  replace hT := hT.mono hle6
  replace hh0 := hh0.mono hle6
  replace hD := hD.mono hle6
  replace hF := hF.mono hle6
  rw [hk] at hN hE hX ⊢
  refine JL.alloc zr_32 rfl (fun b7 => ?_)
  refine JL.storeA ag_32 rfl rfl dl_ (by first | rfl) z43_ (by first | rfl) ?_
  refine JL.nil ?_
  refine Sr ?_
  refine JL.op (RunV.ownA ag_32 rfl mm_ (by first | rfl)) rfl ?_
  refine Ru 1 rfl ?_
  refine JL.callR ca_15 rfl (psign_fn (hash := 256) (d := d0) hN hE hX hD hT (by omega) (by omega)) rfl ?_
  rintro _ h8 hle8 ⟨sa, sc, rfl, hS⟩
  replace hT := hT.mono hle8
  replace hh0 := hh0.mono hle8
  replace hD := hD.mono hle8
  replace hF := hF.mono hle8
  replace hN := hN.mono hle8
  replace hE := hE.mono hle8
  replace hX := hX.mono hle8
  rw [vL_toL, vL_toL, show sigE 256 d0 (keyN 0) (keyE 0) (vL (expL 0)) = 0 from s1, show sigL 256 d0 (keyN 0) (keyE 0) (vL (expL 0)) = numW s0 64 from s2] at *
  refine Ru 5 rfl ?_
  refine Nk [9, 8, 7, 6, 4, 3, 1] rfl ?_
  refine Sr ?_
  refine Ru 3 rfl ?_
  refine Bs 36 rfl (fun hc9 => ?_) fun hc9 => ?_
  rotate_left
  ·
   exfalso; (exact hc9 rfl)
  refine Ru 5 rfl ?_
  refine Bs 41 rfl (fun hc10 => ?_) fun hc10 => ?_
  rotate_left
  ·
   exfalso; omega
  refine Ru 1 rfl ?_
  refine JL.opeg rfl rfl  (RunE.index sl_22 rfl rfl (show _ = ((1 : Nat) : Int) from rfl) (by assumption) rfl (by omega)) rfl ?_
  rintro _ ⟨b11, o11, hi11, rfl, hE11⟩
  refine JL.opg rfl rfl  (RunV.ld_u8 ag_5 rfl (by assumption)) rfl ?_
  refine Ru 3 rfl ?_
  refine Bs 47 rfl (fun hc13 => ?_) fun hc13 => ?_
  rotate_left
  ·
   exfalso; (exact hc13 (by rw [e2]; rfl))
  refine Ru 1 rfl ?_
  refine JL.opeg rfl rfl  (RunE.index sl_22 rfl rfl (show _ = ((10 : Nat) : Int) from rfl) (by assumption) rfl (by omega)) rfl ?_
  rintro _ ⟨b14, o14, hi14, rfl, hE14⟩
  refine JL.opg rfl rfl  (RunV.ld_u8 ag_5 rfl (by assumption)) rfl ?_
  refine Ru 3 rfl ?_
  refine Bs 53 rfl (fun hc16 => ?_) fun hc16 => ?_
  rotate_left
  ·
   exfalso; (exact hc16 (by rw [e3]; rfl))
  refine Ru 1 rfl ?_
  refine JL.opeg rfl rfl  (RunE.index sl_22 rfl rfl (show _ = ((11 : Nat) : Int) from rfl) (by assumption) rfl (by omega)) rfl ?_
  rintro _ ⟨b17, o17, hi17, rfl, hE17⟩
  refine JL.opg rfl rfl  (RunV.ld_u8 ag_5 rfl (by assumption)) rfl ?_
  refine Ru 3 rfl ?_
  refine Bs 59 rfl (fun hc19 => ?_) fun hc19 => ?_
  rotate_left
  ·
   exfalso; (exact hc19 (by rw [e4]; rfl))
  refine Ru 4 rfl ?_
  refine Bs 63 rfl (fun hc20 => ?_) fun hc20 => ?_
  rotate_left
  ·
   exfalso; (exact hc20 rfl)
  refine Ru 4 rfl ?_
  refine Bs 67 rfl (fun hc21 => ?_) fun hc21 => ?_
  rotate_left
  ·
   exfalso; (exact hc21 rfl)
  refine JL.opg rfl rfl  (RunV.ownA ag_32 rfl mm_ (by first | rfl)) rfl ?_
  refine Ru 2 rfl ?_
  refine JL.callRg rfl rfl  ca_17 rfl (pprove_fn (hash := 256) (d := d0) hN hE hX hD hS hT (by omega) (by omega) (by omega)) rfl ?_
  rintro _ h22 hle22 rfl
  replace hT := hT.mono hle22
  replace hh0 := hh0.mono hle22
  replace hD := hD.mono hle22
  replace hF := hF.mono hle22
  replace hN := hN.mono hle22
  replace hE := hE.mono hle22
  replace hX := hX.mono hle22
  replace hS := hS.mono hle22
  rw [vL_toL, vL_toL, show proveE 256 d0 (numW s0 64) (keyN 0) (keyE 0) (vL (expL 0)) = 0 from p1]
  refine Ru 3 rfl ?_
  refine Nk [0] rfl ?_
  exact J.retV (RetV.one rfl rfl) rfl
end Go.Proofs.YtmngjbefnloljaaGreatDoor
namespace Go.Proofs.YtmngjbefnloljaaGreatDoor
open Go Go.RowKit
set_option maxRecDepth 100000
end Go.Proofs.YtmngjbefnloljaaGreatDoor
namespace Go.Proofs.YtmngjbefnloljaaGreatDoor
open Go Go.RowKit
set_option maxRecDepth 100000
theorem ag_93 : aggT Tryz.prog 93 = some none := by kernel_rfl
theorem ca_127 : callT Tryz.prog 127 = true := by kernel_rfl
theorem ca_149 : callT Tryz.prog 149 = true := by kernel_rfl
theorem sl_97 : slT Tryz.prog 97 = some (93, 1) := by kernel_rfl
def W64 (v : Value) : Prop := ∃ m : Nat, m < 18446744073709551616 ∧ v = .int .u64 (m : Int)
theorem wrapW (z : Int) : W64 (.int .u64 (IntKind.u64.wrap z)) := by
  refine ⟨(z % 18446744073709551616).toNat, by omega, ?_⟩
  have : IntKind.u64.wrap z = z % 18446744073709551616 := by unfold IntKind.wrap; simp [IntKind.signed, IntKind.bits]
  rw [this, Int.toNat_of_nonneg (by omega)]
section
variable {f : Fr} {S : Sig} {h : Part} {L : List Ent} {ty T yt : TypeId} {x y : Operand} {p q : Int}
theorem RunE.addW (hx : ev S x = some (.int .u64 p)) (hy : ev S y = some (.int .u64 q)) : RunE f S h L (.binOp .add T x y yt) ty W64 := ⟨_, RunV.add hx hy, wrapW _⟩
theorem RunE.mulW (hx : ev S x = some (.int .u64 p)) (hy : ev S y = some (.int .u64 q)) : RunE f S h L (.binOp .mul T x y yt) ty W64 := ⟨_, RunV.mul hx hy, wrapW _⟩
theorem RunE.andW (hx : ev S x = some (.int .u64 p)) (hy : ev S y = some (.int .u64 q)) : RunE f S h L (.binOp .and T x y yt) ty W64 := ⟨_, RunV.and_ hx hy, wrapW _⟩
theorem RunE.orW (hx : ev S x = some (.int .u64 p)) (hy : ev S y = some (.int .u64 q)) : RunE f S h L (.binOp .or T x y yt) ty W64 := ⟨_, RunV.or_ hx hy, wrapW _⟩
theorem RunE.xorW (hx : ev S x = some (.int .u64 p)) (hy : ev S y = some (.int .u64 q)) : RunE f S h L (.binOp .xor T x y yt) ty W64 := ⟨_, RunV.xor_ hx hy, wrapW _⟩
theorem RunE.shlW {yk : IntKind} (hx : ev S x = some (.int .u64 p)) (hy : ev S y = some (.int yk q)) (h0 : 0 ≤ q) (h1 : q ≤ 64) : RunE f S h L (.binOp .shl T x y yt) ty W64 := ⟨_, RunV.shl hx hy h0 (by show q ≤ ((64 : Nat) : Int); omega), wrapW _⟩
theorem RunE.shrW {yk : IntKind} {m : Nat} (hm : m < 18446744073709551616) (hx : ev S x = some (.int .u64 (m : Int))) (hy : ev S y = some (.int yk q)) (h0 : 0 ≤ q) (h1 : q ≤ 64) : RunE f S h L (.binOp .shr T x y yt) ty W64 := by
  refine ⟨_, RunV.shr hx hy h0 (by show q ≤ ((64 : Nat) : Int); omega), m / 2 ^ q.toNat, Nat.lt_of_le_of_lt (Nat.div_le_self _ _) hm, ?_⟩
  simp
end
abbrev wayC (f g0 g1 k0 k1 : Option Addr) (fc c0 c1 d0 d1 : Nat) : List Value := [.int .u64 32, .int .i64 64, .slice f 8 fc, .slice g0 3 c0, .slice g1 3 c1, .slice k0 3 d0, .slice k1 3 d1, .int .i64 32]
theorem wcut_fn {f g0 g1 k0 k1 : Option Addr} {fc c0 c1 d0 d1 m : Nat} {h : Part} (hm : m < 18446744073709551616) : FnR Tryz.prog 127 [.agg (wayC f g0 g1 k0 k1 fc c0 c1 d0 d1).toArray, .int .u64 m] h (fun v _ => W64 v) := by
  refine Fn.intro Tryz.func127 rfl Tryz.ntmps127 rfl (fun e he => ?_)
  refine J.weak [(0, _), (1, _)] ⟨rfl, rfl, trivial⟩ ?_
  have hh0 := Part.le.refl h
  refine Sr ?_
  refine JL.box rfl rfl rfl (fun b1 => ?_)
  refine Ru 1 rfl ?_
  refine JL.nil ?_
  refine J.seq ?_
  refine Sr ?_
  refine Ru 1 rfl ?_
  refine JL.op (RunV.own1 ag_93 rfl mm_ rfl) rfl ?_
  refine Ru 1 rfl ?_
  refine JL.nil ?_
  refine Cs rfl (fun hc2 => ?_) fun hc2 => ?_
  rotate_left
  ·
   exfalso; exact hc2 rfl
  refine Sr ?_
  refine Ru 1 rfl ?_
  refine JL.op z31_ rfl ?_
  refine Ru 1 rfl ?_
  refine Nk [4, 1] rfl ?_
  exact J.retR (RetV.one rfl rfl) ⟨m % 4294967296, by omega, by simp⟩
theorem wturn_fn {f g0 g1 k0 k1 : Option Addr} {fc c0 c1 d0 d1 m n : Nat} {h : Part} (hm : m < 18446744073709551616) (hn : n ≤ 32) : FnR Tryz.prog 149 [.agg (wayC f g0 g1 k0 k1 fc c0 c1 d0 d1).toArray, .int .u64 m, .int .u64 n] h (fun v _ => W64 v) := by
  refine Fn.intro Tryz.func149 rfl Tryz.ntmps149 rfl (fun e he => ?_)
  refine J.weak [(0, _), (1, _), (2, _)] ⟨rfl, rfl, rfl, trivial⟩ ?_
  have hh0 := Part.le.refl h
  refine Sr ?_
  refine JL.box rfl rfl rfl (fun b1 => ?_)
  refine Ru 1 rfl ?_
  refine JL.nil ?_
  refine Sr ?_
  refine JL.op (RunV.ownA ag_99 rfl mm_ (by first | rfl)) rfl ?_
  refine Ru 2 rfl ?_
  refine JL.ope (RunE.shrW hm rfl rfl (by omega) (by omega)) rfl ?_
  rintro _ ⟨m1, hm1, rfl⟩
  refine Ru 2 rfl ?_
  refine JL.op (RunV.own1 ag_93 rfl mm_ rfl) rfl ?_
  refine Ru 1 rfl ?_
  refine JL.op z33_ rfl ?_
  refine JL.ope (RunE.shlW rfl rfl (by omega) (by omega)) rfl ?_
  rintro _ ⟨m2, hm2, rfl⟩
  refine JL.ope (RunE.orW rfl rfl) rfl ?_
  rintro _ ⟨m3, hm3, rfl⟩
  refine JL.callR ca_127 rfl (wcut_fn hm3) rfl ?_
  rintro _ h5 hle5 ⟨m4, hm4, rfl⟩
  replace hh0 := hh0.mono hle5
  refine Ru 1 rfl ?_
  refine Nk [6] rfl ?_
  exact J.retR (RetV.one rfl rfl) ⟨m4, hm4, rfl⟩
theorem wbig_fn {f g0 g1 k0 k1 a : Option Addr} {fc c0 c1 d0 d1 m c : Nat} {x0 x1 x2 : UInt64} {h : Part} (hm : m < 18446744073709551616) (hl : SlR u64R 1 h a c [x0, x1, x2]) (h0 : x0.toNat ≤ 32) (h1 : x1.toNat ≤ 32) (h2 : x2.toNat ≤ 32) : FnR Tryz.prog 129 [.agg (wayC f g0 g1 k0 k1 fc c0 c1 d0 d1).toArray, .int .u64 m, .slice a 3 c] h (fun v _ => W64 v) := by
  have hll : [x0, x1, x2].length = 3 := rfl
  refine Fn.intro Tryz.func129 rfl Tryz.ntmps129 rfl (fun e he => ?_)
  refine J.weak [(0, _), (1, _), (2, _)] ⟨rfl, rfl, rfl, trivial⟩ ?_
  have hh0 := Part.le.refl h
  refine Sr ?_
  refine JL.box rfl rfl rfl (fun b1 => ?_)
  refine Ru 1 rfl ?_
  refine JL.nil ?_
  refine J.seq ?_
  refine J.held ([.blk b1 99 (wayC f g0 g1 k0 k1 fc c0 c1 d0 d1)]) 21 mixed_ rfl (fun h00 => ?_)
  refine JH.take 0 rfl (by kernel_rfl) (by kernel_rfl) (by kernel_rfl) (fun _ _ _ _ hh => hh) (br_ h00) (RunV.ownA ag_99 rfl mm_ (by first | rfl)) rfl ?_
  refine JH.take 1 rfl (by kernel_rfl) (by kernel_rfl) (by kernel_rfl) (fun _ _ _ _ hh => hh) (br_ h00) (RunV.move rfl) rfl ?_
  refine JH.take 2 rfl (by kernel_rfl) (by kernel_rfl) (by kernel_rfl) (fun _ _ _ _ hh => hh) (br_ h00) (RunV.move rfl) rfl ?_
  refine JH.takeE 3 rfl (by kernel_rfl) (by kernel_rfl) (by kernel_rfl) (fun _ _ _ _ hh => hh) (br_ h00) (RunE.index sl_97 rfl rfl (show _ = ((0 : Nat) : Int) from rfl) (by assumption) rfl (by omega)) rfl ?_
  rintro _ ⟨b2, o2, hi2, rfl, hE2⟩
  refine JH.take 4 rfl (by kernel_rfl) (by kernel_rfl) (by kernel_rfl) (fun _ _ _ _ hh => hh) (br_ h00) (RunV.ld_u64 (y := x0) ag_93 rfl (by assumption)) rfl ?_
  refine JH.take 6 rfl (by kernel_rfl) (by kernel_rfl) (by kernel_rfl) (fun _ _ _ _ hh => hh) (br_ h00) (RunV.ownA ag_99 rfl mm_ (by first | rfl)) rfl ?_
  refine JH.take 7 rfl (by kernel_rfl) (by kernel_rfl) (by kernel_rfl) (fun _ _ _ _ hh => hh) (br_ h00) (RunV.move rfl) rfl ?_
  refine JH.take 8 rfl (by kernel_rfl) (by kernel_rfl) (by kernel_rfl) (fun _ _ _ _ hh => hh) (br_ h00) (RunV.move rfl) rfl ?_
  refine JH.takeE 9 rfl (by kernel_rfl) (by kernel_rfl) (by kernel_rfl) (fun _ _ _ _ hh => hh) (br_ h00) (RunE.index sl_97 rfl rfl (show _ = ((1 : Nat) : Int) from rfl) (by assumption) rfl (by omega)) rfl ?_
  rintro _ ⟨b3, o3, hi3, rfl, hE3⟩
  refine JH.take 10 rfl (by kernel_rfl) (by kernel_rfl) (by kernel_rfl) (fun _ _ _ _ hh => hh) (br_ h00) (RunV.ld_u64 (y := x1) ag_93 rfl (by assumption)) rfl ?_
  refine JH.take 13 rfl (by kernel_rfl) (by kernel_rfl) (by kernel_rfl) (fun _ _ _ _ hh => hh) (br_ h00) (RunV.ownA ag_99 rfl mm_ (by first | rfl)) rfl ?_
  refine JH.take 14 rfl (by kernel_rfl) (by kernel_rfl) (by kernel_rfl) (fun _ _ _ _ hh => hh) (br_ h00) (RunV.move rfl) rfl ?_
  refine JH.take 15 rfl (by kernel_rfl) (by kernel_rfl) (by kernel_rfl) (fun _ _ _ _ hh => hh) (br_ h00) (RunV.move rfl) rfl ?_
  refine JH.takeE 16 rfl (by kernel_rfl) (by kernel_rfl) (by kernel_rfl) (fun _ _ _ _ hh => hh) (br_ h00) (RunE.index sl_97 rfl rfl (show _ = ((2 : Nat) : Int) from rfl) (by assumption) rfl (by omega)) rfl ?_
  rintro _ ⟨b4, o4, hi4, rfl, hE4⟩
  refine JH.take 17 rfl (by kernel_rfl) (by kernel_rfl) (by kernel_rfl) (fun _ _ _ _ hh => hh) (br_ h00) (RunV.ld_u64 (y := x2) ag_93 rfl (by assumption)) rfl ?_
  refine JH.all1 5 (by kernel_rfl) rfl ?_
  unfold One
  refine JL.callR ca_149 rfl (wturn_fn hm h0) rfl ?_
  rintro _ h5 hle5 ⟨m1, hm1, rfl⟩
  replace hl := hl.mono hle5
  replace hh0 := hh0.mono hle5
  refine JL.nil ⟨(br_ h00), ?_⟩
  refine JH.all1 11 (by kernel_rfl) rfl ?_
  unfold One
  refine JL.callR ca_149 rfl (wturn_fn hm h1) rfl ?_
  rintro _ h6 hle6 ⟨m2, hm2, rfl⟩
  replace hl := hl.mono hle6
  replace hh0 := hh0.mono hle6
  refine JL.nil ⟨(br_ h00), ?_⟩
  refine JH.takeE 12 rfl (by kernel_rfl) (by kernel_rfl) (by kernel_rfl) (fun _ _ _ _ hh => hh) (br_ h00) (RunE.xorW rfl rfl) rfl ?_
  rintro _ ⟨m5, hm5, rfl⟩
  refine JH.all1 18 (by kernel_rfl) rfl ?_
  unfold One
  refine JL.callR ca_149 rfl (wturn_fn hm h2) rfl ?_
  rintro _ h8 hle8 ⟨m3, hm3, rfl⟩
  replace hl := hl.mono hle8
  replace hh0 := hh0.mono hle8
  refine JL.nil ⟨(br_ h00), ?_⟩
  refine JH.takeE 19 rfl (by kernel_rfl) (by kernel_rfl) (by kernel_rfl) (fun _ _ _ _ hh => hh) (br_ h00) (RunE.xorW rfl rfl) rfl ?_
  rintro _ ⟨m4, hm4, rfl⟩
  refine JH.take 20 rfl (by kernel_rfl) (by kernel_rfl) (by kernel_rfl) (fun _ _ _ _ hh => hh) (br_ h00) (RunV.assign rfl) rfl ?_
  refine JH.done (by kernel_rfl) ?_
  refine Kp [6] rfl ?_
  exact J.retR (RetV.one rfl rfl) ⟨m4, hm4, rfl⟩
theorem wlow_fn {f g0 g1 k0 k1 a : Option Addr} {fc c0 c1 d0 d1 m c : Nat} {x0 x1 x2 : UInt64} {h : Part} (hm : m < 18446744073709551616) (hl : SlR u64R 1 h a c [x0, x1, x2]) (h0 : x0.toNat ≤ 32) (h1 : x1.toNat ≤ 32) (h2 : x2.toNat ≤ 32) : FnR Tryz.prog 128 [.agg (wayC f g0 g1 k0 k1 fc c0 c1 d0 d1).toArray, .int .u64 m, .slice a 3 c] h (fun v _ => W64 v) := by
  have hll : [x0, x1, x2].length = 3 := rfl
  refine Fn.intro Tryz.func128 rfl Tryz.ntmps128 rfl (fun e he => ?_)
  refine J.weak [(0, _), (1, _), (2, _)] ⟨rfl, rfl, rfl, trivial⟩ ?_
  have hh0 := Part.le.refl h
  refine Sr ?_
  refine JL.box rfl rfl rfl (fun b1 => ?_)
  refine Ru 1 rfl ?_
  refine JL.nil ?_
  refine J.seq ?_
  refine J.held ([.blk b1 99 (wayC f g0 g1 k0 k1 fc c0 c1 d0 d1)]) 20 mixed_ rfl (fun h00 => ?_)
  refine JH.take 0 rfl (by kernel_rfl) (by kernel_rfl) (by kernel_rfl) (fun _ _ _ _ hh => hh) (br_ h00) (RunV.ownA ag_99 rfl mm_ (by first | rfl)) rfl ?_
  refine JH.take 1 rfl (by kernel_rfl) (by kernel_rfl) (by kernel_rfl) (fun _ _ _ _ hh => hh) (br_ h00) (RunV.move rfl) rfl ?_
  refine JH.take 2 rfl (by kernel_rfl) (by kernel_rfl) (by kernel_rfl) (fun _ _ _ _ hh => hh) (br_ h00) (RunV.move rfl) rfl ?_
  refine JH.takeE 3 rfl (by kernel_rfl) (by kernel_rfl) (by kernel_rfl) (fun _ _ _ _ hh => hh) (br_ h00) (RunE.index sl_97 rfl rfl (show _ = ((0 : Nat) : Int) from rfl) (by assumption) rfl (by omega)) rfl ?_
  rintro _ ⟨b2, o2, hi2, rfl, hE2⟩
  refine JH.take 4 rfl (by kernel_rfl) (by kernel_rfl) (by kernel_rfl) (fun _ _ _ _ hh => hh) (br_ h00) (RunV.ld_u64 (y := x0) ag_93 rfl (by assumption)) rfl ?_
  refine JH.take 6 rfl (by kernel_rfl) (by kernel_rfl) (by kernel_rfl) (fun _ _ _ _ hh => hh) (br_ h00) (RunV.ownA ag_99 rfl mm_ (by first | rfl)) rfl ?_
  refine JH.take 7 rfl (by kernel_rfl) (by kernel_rfl) (by kernel_rfl) (fun _ _ _ _ hh => hh) (br_ h00) (RunV.move rfl) rfl ?_
  refine JH.take 8 rfl (by kernel_rfl) (by kernel_rfl) (by kernel_rfl) (fun _ _ _ _ hh => hh) (br_ h00) (RunV.move rfl) rfl ?_
  refine JH.takeE 9 rfl (by kernel_rfl) (by kernel_rfl) (by kernel_rfl) (fun _ _ _ _ hh => hh) (br_ h00) (RunE.index sl_97 rfl rfl (show _ = ((1 : Nat) : Int) from rfl) (by assumption) rfl (by omega)) rfl ?_
  rintro _ ⟨b3, o3, hi3, rfl, hE3⟩
  refine JH.take 10 rfl (by kernel_rfl) (by kernel_rfl) (by kernel_rfl) (fun _ _ _ _ hh => hh) (br_ h00) (RunV.ld_u64 (y := x1) ag_93 rfl (by assumption)) rfl ?_
  refine JH.take 13 rfl (by kernel_rfl) (by kernel_rfl) (by kernel_rfl) (fun _ _ _ _ hh => hh) (br_ h00) (RunV.move rfl) rfl ?_
  refine JH.take 14 rfl (by kernel_rfl) (by kernel_rfl) (by kernel_rfl) (fun _ _ _ _ hh => hh) (br_ h00) (RunV.move rfl) rfl ?_
  refine JH.takeE 15 rfl (by kernel_rfl) (by kernel_rfl) (by kernel_rfl) (fun _ _ _ _ hh => hh) (br_ h00) (RunE.index sl_97 rfl rfl (show _ = ((2 : Nat) : Int) from rfl) (by assumption) rfl (by omega)) rfl ?_
  rintro _ ⟨b4, o4, hi4, rfl, hE4⟩
  refine JH.take 16 rfl (by kernel_rfl) (by kernel_rfl) (by kernel_rfl) (fun _ _ _ _ hh => hh) (br_ h00) (RunV.ld_u64 (y := x2) ag_93 rfl (by assumption)) rfl ?_
  refine JH.takeE 17 rfl (by kernel_rfl) (by kernel_rfl) (by kernel_rfl) (fun _ _ _ _ hh => hh) (br_ h00) (RunE.shrW hm rfl rfl (by omega) (by omega)) rfl ?_
  rintro _ ⟨m3, hm3, rfl⟩
  refine JH.all1 5 (by kernel_rfl) rfl ?_
  unfold One
  refine JL.callR ca_149 rfl (wturn_fn hm h0) rfl ?_
  rintro _ h6 hle6 ⟨m1, hm1, rfl⟩
  replace hl := hl.mono hle6
  replace hh0 := hh0.mono hle6
  refine JL.nil ⟨(br_ h00), ?_⟩
  refine JH.all1 11 (by kernel_rfl) rfl ?_
  unfold One
  refine JL.callR ca_149 rfl (wturn_fn hm h1) rfl ?_
  rintro _ h7 hle7 ⟨m2, hm2, rfl⟩
  replace hl := hl.mono hle7
  replace hh0 := hh0.mono hle7
  refine JL.nil ⟨(br_ h00), ?_⟩
  refine JH.takeE 12 rfl (by kernel_rfl) (by kernel_rfl) (by kernel_rfl) (fun _ _ _ _ hh => hh) (br_ h00) (RunE.xorW rfl rfl) rfl ?_
  rintro _ ⟨m5, hm5, rfl⟩
  refine JH.takeE 18 rfl (by kernel_rfl) (by kernel_rfl) (by kernel_rfl) (fun _ _ _ _ hh => hh) (br_ h00) (RunE.xorW rfl rfl) rfl ?_
  rintro _ ⟨m4, hm4, rfl⟩
  refine JH.take 19 rfl (by kernel_rfl) (by kernel_rfl) (by kernel_rfl) (fun _ _ _ _ hh => hh) (br_ h00) (RunV.assign rfl) rfl ?_
  refine JH.done (by kernel_rfl) ?_
  refine Kp [6] rfl ?_
  exact J.retR (RetV.one rfl rfl) ⟨m4, hm4, rfl⟩
end Go.Proofs.YtmngjbefnloljaaGreatDoor
namespace Go.Proofs.YtmngjbefnloljaaGreatDoor
open Go Go.RowKit
set_option maxRecDepth 100000
theorem cv_3_63 : convI Tryz.prog 3 63 = some .u64 := by kernel_rfl
theorem wpad_fn {f g0 g1 k0 k1 a : Option Addr} {fc c0 c1 d0 d1 c : Nat} {l : List UInt8} {h : Part} (hl : SlR u8R 1 h a c l) (hll : l.length ≤ 1000000) : FnR Tryz.prog 95 [.agg (wayC f g0 g1 k0 k1 fc c0 c1 d0 d1).toArray, .slice a l.length c] h
    (fun v h' => ∃ a' c' out, v = .slice a' (List.length out) c' ∧ SlR u8R 1 h' a' c' out ∧ out.length % 64 = 0 ∧ out.length ≤ l.length + 200) := by
  refine Fn.intro Tryz.func95 rfl Tryz.ntmps95 rfl (fun e he => ?_)
  refine J.weak [(0, _), (1, _)] ⟨rfl, rfl, trivial⟩ ?_
  have hh0 := Part.le.refl h
  refine Sr ?_
  refine JL.box rfl rfl rfl (fun b1 => ?_)
  refine Ru 1 rfl ?_
  refine JL.nil ?_
  refine Sr ?_
  refine Ru 1 rfl ?_
  refine JL.op (RunV.own1 ag_93 rfl mm_ rfl) rfl ?_
  refine JL.op z34_ rfl ?_
  refine JL.op z12_ rfl ?_
  refine Ru 1 rfl ?_
  refine Nk [5, 4, 1] rfl ?_
  refine Sr ?_
  refine Ru 1 rfl ?_
  refine JL.nil ?_
  refine Sr ?_
  refine Ru 2 rfl ?_
  refine JL.row_nil 5 1 ?_
  refine JL.append ap_22 rfl rfl (CellsR.nil (R := u8R)) rfl (by assumption) rfl dl_ z3_ rfl rfl (fun a2 c2 xs2 hC2 hN2 => ?_)
  obtain rfl := hC2.u8
  refine JL.lit1 ap_22 zr_5 rfl rfl rfl rfl rfl (fun b3 => ?_)
  refine JL.own (L' := [.blk _ _ [.int .u8 (((128 : UInt8).toNat : Nat) : Int)], _, _]) (fun w hk => hk) ?_
  refine JL.append1 ap_22 rfl rfl CellsR.of_u8 rfl dl_ dl_ rfl (rfl) z3_ rfl rfl (fun a4 c4 xs4 hC4 hN4 => ?_)
  obtain rfl := hC4.u8
  refine Ru 1 rfl ?_
  refine Nk [6, 5, 4, 1] rfl ?_
  refine J.seq ?_
  refine J.block ?_
  refine J.loop (fun t_ S_ h_ L_ => ∃ (out : List UInt8) (ao : Option Addr) (co k : Nat), t_ = k + 1 ∧ S_ = [(1, .slice a l.length c), (5, .int .i64 4), (6, .slice ao out.length co)] ∧ h = h_ ∧ L_ = [.row ao co 5 1 out.length (u8s out), .blk b1 99 (wayC f g0 g1 k0 k1 fc c0 c1 d0 d1)] ∧ ((out.length + 8 + k) % 64 = 0 ∧ k < 64 ∧ out.length + k ≤ l.length + 65)) ⟨_, _, ?_, ⟨_, _, _, (64 - (l.length + 9) % 64) % 64, rfl, rfl, rfl, rfl, ⟨by simp; omega, by omega, by simp; omega⟩⟩⟩ ?_
  ·
   exact z5_
  rintro _ _ _ _ ⟨out, ao, co, k, rfl, rfl, rfl, rfl, hk1, hk2, hk3⟩
  refine J.seq ?_
  refine Sr ?_
  refine Ru 3 rfl ?_
  refine JL.op z10_ rfl ?_
  refine JL.op ai_ rfl ?_
  refine Ru 1 rfl ?_
  refine JL.op z10_ rfl ?_
  refine JL.op z22_ rfl ?_
  refine Ru 1 rfl ?_
  refine JL.nil ?_
  refine Cs rfl (fun hc5 => ?_) fun hc5 => ?_
  ·
   obtain ⟨j, rfl⟩ : ∃ j, k = j + 1 := ⟨k - 1, by omega⟩
   refine J.skip ?_
   refine J.block ?_
   refine Rg ?_
   refine Ru 1 rfl ?_
   refine JL.lit1 ap_22 zr_5 rfl rfl rfl rfl rfl (fun b6 => ?_)
   refine JL.own (L' := [.blk _ _ [.int .u8 (((0 : UInt8).toNat : Nat) : Int)], _, _]) (fun w hk => hk) ?_
   refine JL.append1 ap_22 rfl rfl CellsR.of_u8 rfl dl_ dl_ rfl (rfl) z3_ rfl rfl (fun a7 c7 xs7 hC7 hN7 => ?_)
   obtain rfl := hC7.u8
   refine Ru 1 rfl ?_
   refine JL.nil ?_
   refine ⟨_, ?_, _, ?_, ⟨_, _, _, j, rfl, rfl, rfl, rfl, ⟨by simp; omega, by omega, by simp; omega⟩⟩⟩
   ·
    omega
   exact z5_
  refine J.exit ?_
  refine Kp [1, 5, 6] rfl ?_
  refine Sr ?_
  refine Ru 2 rfl ?_
  refine JL.op (by first | exact RunV.conv_u64 cv_3_63 rfl (by omega) (by omega) | exact RunV.conv cv_3_63 rfl) rfl ?_
  refine Ru 1 rfl ?_
  refine JL.nil ?_
  refine J.seq ?_
  refine Sr ?_
  refine Ru 1 rfl ?_
  refine JL.op z10_ rfl ?_
  refine JL.op si_ rfl ?_
  refine Ru 1 rfl ?_
  refine Nk [8, 7, 6] rfl ?_
  refine J.block ?_
  refine J.loop (fun t_ S_ h_ L_ => ∃ (out : List UInt8) (ao : Option Addr) (co j : Nat), t_ = j + 1 ∧ S_ = [(6, .slice ao out.length co), (7, .int .u64 l.length), (8, .int .i64 ((j : Int) - 1))] ∧ h = h_ ∧ L_ = [.row ao co 5 1 out.length (u8s out), .blk b1 99 (wayC f g0 g1 k0 k1 fc c0 c1 d0 d1)] ∧ ((out.length + j) % 64 = 0 ∧ j ≤ 8 ∧ out.length + j ≤ l.length + 73)) ⟨_, _, ?_, ⟨_, _, _, 8, rfl, rfl, rfl, rfl, ⟨by omega, by omega, by omega⟩⟩⟩ ?_
  ·
   exact z2_
  rintro _ _ _ _ ⟨out, ao, co, j, rfl, rfl, rfl, rfl, hj1, hj2, hj3⟩
  refine J.seq ?_
  refine Sr ?_
  refine Ru 2 rfl ?_
  refine JL.nil ?_
  refine Cs rfl (fun hc8 => ?_) fun hc8 => ?_
  ·
   obtain ⟨i, rfl⟩ : ∃ i, j = i + 1 := ⟨j - 1, by omega⟩
   refine J.skip ?_
   refine J.seq ?_
   refine J.block ?_
   refine Sr ?_
   refine Ru 1 rfl ?_
   refine JL.nil ?_
   refine J.seq ?_
   refine J.block ?_
   refine Sr ?_
   refine Ru 3 rfl ?_
   refine JL.nil ?_
   refine Cs rfl (fun hc9 => ?_) fun hc9 => ?_
   rotate_left
   ·
    exfalso; omega
   refine Rg ?_
   refine Ru 1 rfl ?_
   refine JL.ope (RunE.mulW rfl rfl) rfl ?_
   rintro _ ⟨m1, hm1, rfl⟩
   refine Ru 1 rfl ?_
   refine JL.op z41_ rfl ?_
   refine JL.op z29_ rfl ?_
   refine JL.ope (RunE.shrW hm1 rfl rfl (by omega) (by omega)) rfl ?_
   rintro _ ⟨m2, hm2, rfl⟩
   refine Ru 1 rfl ?_
   refine JL.nil ?_
   refine Rg ?_
   refine Ru 2 rfl ?_
   refine JL.op (RunV.toByte m2 cv_63_5 rfl rfl) rfl ?_
   refine JL.lit1 ap_22 zr_5 rfl rfl rfl rfl rfl (fun b12 => ?_)
   refine JL.append1 ap_22 rfl rfl CellsR.of_u8 rfl dl_ dl_ rfl (rfl) z3_ rfl rfl (fun a13 c13 xs13 hC13 hN13 => ?_)
   obtain rfl := hC13.u8
   refine Ru 1 rfl ?_
   refine JL.nil ?_
   refine Rg ?_
   refine Ru 1 rfl ?_
   refine JL.op si_ rfl ?_
   refine Ru 1 rfl ?_
   refine JL.nil ?_
   refine ⟨_, ?_, _, ?_, ⟨_, _, _, i, rfl, rfl, rfl, rfl, ⟨by simp; omega, by omega, by simp; omega⟩⟩⟩
   ·
    omega
   exact z2_
  refine J.exit ?_
  refine Kp [6] rfl ?_
  refine Sr ?_
  refine JL.pub (R := u8R) (l := out) dl_ CellsR.of_u8 rfl (by omega) (fun hp hlep hSp => ?_)
  refine Ru 2 rfl ?_
  refine JL.nil ?_
  exact J.retR (RetV.one rfl rfl) ⟨_, _, out, rfl, hSp, by omega, by omega⟩
end Go.Proofs.YtmngjbefnloljaaGreatDoor
namespace Go.Proofs.YtmngjbefnloljaaGreatDoor
open Go Go.RowKit
theorem z24_ {p : Prop} (u : p := by repeat (first | exact trivial | refine ⟨rfl, ?_⟩ | refine ⟨(by exact some_int (by simp)), ?_⟩)) : p := u
end Go.Proofs.YtmngjbefnloljaaGreatDoor
namespace Go.Proofs.YtmngjbefnloljaaGreatDoor
open Go Go.RowKit
set_option maxRecDepth 100000
theorem ag_97 : aggT Tryz.prog 97 = some none := by kernel_rfl
theorem ca_128 : callT Tryz.prog 128 = true := by kernel_rfl
theorem ca_129 : callT Tryz.prog 129 = true := by kernel_rfl
theorem fo_99_4 : fieldOff Tryz.prog 99 4 = some 4 := by kernel_rfl
theorem fo_99_5 : fieldOff Tryz.prog 99 5 = some 5 := by kernel_rfl
theorem fo_99_6 : fieldOff Tryz.prog 99 6 = some 6 := by kernel_rfl
theorem elW {h : Part} {m : Nat} (hm : m < 18446744073709551616) : u64R h [.int .u64 (m : Int)] (UInt64.ofNat m) := by
  unfold u64R
  rw [UInt64.toNat_ofNat', Nat.mod_eq_of_lt (by simpa using hm)]
theorem CellsR.u64 {h : Part} {cs : List Value} {l : List UInt64} (k : CellsR u64R 1 h cs l) : cs = c64 l := by
  apply List.ext_getElem?
  intro i
  by_cases hi : i < l.length
  · have := k.2 i _ (List.getElem?_eq_getElem hi)
    unfold u64R at this
    have h1 : ((cs.drop (i * 1)).take 1)[0]? = some (.int .u64 (l[i].toNat : Int)) := by rw [this]; rfl
    rw [List.getElem?_take, if_pos (by omega), List.getElem?_drop] at h1
    simp only [Nat.mul_one, Nat.add_zero] at h1
    rw [h1]
    simp [c64, hi]
  · rw [List.getElem?_eq_none (by have := k.1; omega), List.getElem?_eq_none (by simp [c64]; omega)]
section
variable {f : Fr} {n : Post} {x : Nat → Post} {S : Sig} {h : Part} {L : List Ent} {ty T yt : TypeId} {xo : Operand} {p : Int}
theorem RunE.notW (hx : ev S xo = some (.int .u64 p)) : RunE f S h L (.unOp .xor T xo) ty W64 := by
  refine ⟨.int .u64 (bits .xor .u64 IntKind.u64.max p), fun a w s _ _ _ _ => ?_, wrapW _⟩
  have e : Op.unary .xor (.int .u64 p) = pure (.int .u64 (bits .xor .u64 IntKind.u64.max p)) := rfl
  simp only [execOp, s.eval hx, e]
  simp [Sem.run_bind, Sem.run_pure, Result.andThen]
theorem RunE.rowW {g c t m i : Nat} {us : List UInt64} (hT : aggT f.P T = some none) (hx : ev S xo = some (.pointer (some ⟨g, i, none⟩))) (hm : Ent.row (some ⟨g, 0, none⟩) c t 1 m (c64 us) ∈ L) (hi : i < us.length) : RunE f S h L (.load T xo) ty W64 :=
  ⟨_, RunV.rowload hT hx hm (c64_at us i hi), _, us[i].toNat_lt, rfl⟩
theorem RunE.partW {b o : Nat} {y : UInt64} (hT : aggT f.P T = some none) (hx : ev S xo = some (.pointer (some ⟨b, o, none⟩))) (hE : EltR u64R 1 h b o y) : RunE f S h L (.load T xo) ty W64 :=
  ⟨_, RunV.ld_u64 hT hx hE, _, y.toNat_lt, rfl⟩
theorem J.rowaddr {c0 : Code} {ao : Option Addr} {c t sz nn : Nat} {xs : List Value} (hm : Ent.row ao c t sz nn xs ∈ L) (hn : 0 < nn) (k : ∀ g, ao = some ⟨g, 0, none⟩ → J f c0 n x S h L) : J f c0 n x S h L := fun a w s => by
  have hown : w.ownsRow 0 t sz (.slice ao nn c) nn xs := s.ok.own _ hm
  rcases hown.2 with ⟨_, h0⟩ | ⟨g, cap, cur, hv, _⟩
  · omega
  · injection hv with h1 _ _
    exact k g h1 a w s
end
theorem wblock_fn {f g0 g1 k0 k1 ka ha ba : Option Addr} {fc c0 c1 d0 d1 kc hc bc : Nat} {K H : List UInt64} {B : List UInt8} {h : Part} (hK : SlR u64R 1 h ka kc K) (hKl : K.length = 80) (hH : SlR u64R 1 h ha hc H) (hHl : H.length = 8) (hB : SlR u8R 1 h ba bc B) (hBl : B.length = 64)
    (hg0 : SlR u64R 1 h g0 c0 [2, 13, 22]) (hg1 : SlR u64R 1 h g1 c1 [6, 11, 25]) (hk0 : SlR u64R 1 h k0 d0 [7, 18, 3]) (hk1 : SlR u64R 1 h k1 d1 [17, 19, 10]) :
    FnR Tryz.prog 96 [.agg (wayC f g0 g1 k0 k1 fc c0 c1 d0 d1).toArray, .slice ka 80 kc, .slice ha 8 hc, .slice ba 64 bc] h (fun v h' => ∃ a c out, v = .slice a 8 c ∧ SlR u64R 1 h' a c out ∧ out.length = 8) := by
  refine Fn.intro Tryz.func96 rfl Tryz.ntmps96 rfl (fun e he => ?_)
  refine J.weak [(0, _), (1, _), (2, _), (3, _)] ⟨rfl, rfl, rfl, rfl, trivial⟩ ?_
  have hh0 := Part.le.refl h
  refine Sr ?_
  refine JL.box rfl rfl rfl (fun b1 => ?_)
  refine Ru 1 rfl ?_
  refine JL.nil ?_
  refine Sr ?_
  refine Ru 1 rfl ?_
  refine JL.op (RunV.own1 ag_93 rfl mm_ rfl) rfl ?_
  refine JL.op z34_ rfl ?_
  refine JL.op z12_ rfl ?_
  refine Ru 1 rfl ?_
  refine Nk [9, 8, 4, 1, 2, 3] rfl ?_
  refine Sr ?_
  refine Ru 1 rfl ?_
  refine JL.nil ?_
  refine J.seq ?_
  refine Sr ?_
  refine JL.row_nil 63 1 ?_
  refine Ru 1 rfl ?_
  refine JL.nil ?_
  refine J.block ?_
  refine J.loop (fun t_ S_ h_ L_ => ∃ (g : Part) (us : List UInt64) (ao : Option Addr) (co : Nat), t_ = 65 - us.length ∧ S_ = [(1, .slice ka 80 kc), (2, .slice ha 8 hc), (3, .slice ba 64 bc), (4, .pointer (some ⟨b1, 0, none⟩)), (9, .int .i64 4), (10, .slice ao us.length co), (11, .int .i64 us.length)] ∧ g = h_ ∧ L_ = [.row ao co 63 1 us.length (c64 us), .blk b1 99 (wayC f g0 g1 k0 k1 fc c0 c1 d0 d1)] ∧ (h.le g ∧ SlR u64R 1 g ka kc K ∧ SlR u64R 1 g ha hc H ∧ SlR u8R 1 g ba bc B ∧ SlR u64R 1 g g0 c0 [2, 13, 22] ∧ SlR u64R 1 g g1 c1 [6, 11, 25] ∧ SlR u64R 1 g k0 d0 [7, 18, 3] ∧ SlR u64R 1 g k1 d1 [17, 19, 10] ∧ us.length ≤ 64)) ⟨_, _, ?_, ⟨_, [], none, 0, rfl, rfl, rfl, rfl, ⟨hh0, hK, hH, hB, hg0, hg1, hk0, hk1, by simp⟩⟩⟩ ?_
  ·
   exact z24_
  rintro _ _ _ _ ⟨g, us, ao, co, rfl, rfl, rfl, rfl, hh0, hK, hH, hB, hg0, hg1, hk0, hk1, hul⟩
  refine J.seq ?_
  refine Sr ?_
  refine Ru 2 rfl ?_
  refine JL.op (RunV.own1 ag_3 rfl mm_ rfl) rfl ?_
  refine Ru 1 rfl ?_
  refine JL.nil ?_
  refine Cs rfl (fun hc2 => ?_) fun hc2 => ?_
  ·
   refine J.skip ?_
   refine J.seq ?_
   refine J.block ?_
   refine Sr ?_
   refine Ru 1 rfl ?_
   refine JL.nil ?_
   refine J.seq ?_
   refine Sr ?_
   refine Ru 2 rfl ?_
   refine JL.nil ?_
   refine Cs rfl (fun hc3 => ?_) fun hc3 => ?_
   ·
    refine Sr ?_
    refine Ru 1 rfl ?_
    refine JL.nil ?_
    refine J.block ?_
    refine J.loop (fun t_ S_ h_ L_ => ∃ (i x : Nat), t_ = 5 - i ∧ S_ = [(1, .slice ka 80 kc), (2, .slice ha 8 hc), (3, .slice ba 64 bc), (4, .pointer (some ⟨b1, 0, none⟩)), (9, .int .i64 4), (10, .slice ao us.length co), (11, .int .i64 us.length), (12, .int .u64 x), (13, .int .i64 i)] ∧ g = h_ ∧ L_ = [.row ao co 63 1 us.length (c64 us), .blk b1 99 (wayC f g0 g1 k0 k1 fc c0 c1 d0 d1)] ∧ (i ≤ 4 ∧ x < 18446744073709551616)) ⟨_, _, ?_, ⟨0, 0, rfl, rfl, rfl, rfl, ⟨by omega, by omega⟩⟩⟩ ?_
    ·
     exact z5_
    rintro _ _ _ _ ⟨i, x, rfl, rfl, rfl, rfl, hi, hx⟩
    refine J.seq ?_
    refine Sr ?_
    refine Ru 3 rfl ?_
    refine JL.nil ?_
    refine Cs rfl (fun hc4 => ?_) fun hc4 => ?_
    ·
     refine J.skip ?_
     refine J.seq ?_
     refine J.block ?_
     refine Rg ?_
     refine Ru 1 rfl ?_
     refine JL.ope (RunE.mulW rfl rfl) rfl ?_
     rintro _ ⟨m1, hm1, rfl⟩
     refine Ru 3 rfl ?_
     refine JL.op z10_ rfl ?_
     refine Ru 1 rfl ?_
     refine JL.op ai_ rfl ?_
     refine JL.ope (RunE.index (m := us.length * 4 + i) sl_22 rfl rfl (by omega) hB hBl.symm (by omega)) rfl ?_
     rintro _ ⟨b6, o6, hi6, rfl, hE6⟩
     refine JL.op (RunV.ld_u8 ag_5 rfl (by assumption)) rfl ?_
     refine JL.op z42_ rfl ?_
     refine JL.ope (RunE.addW rfl rfl) rfl ?_
     rintro _ ⟨m2, hm2, rfl⟩
     refine Ru 1 rfl ?_
     refine JL.nil ?_
     refine Rg ?_
     refine Ru 1 rfl ?_
     refine JL.op ai_ rfl ?_
     refine Ru 1 rfl ?_
     refine JL.nil ?_
     refine ⟨_, ?_, _, ?_, ⟨i + 1, m2, rfl, rfl, rfl, rfl, ⟨by omega, hm2⟩⟩⟩
     ·
      omega
     exact z5_
    refine J.exit ?_
    refine Rg ?_
    refine Ru 2 rfl ?_
    refine JL.lit1 ap_66 zr_63 rfl rfl rfl rfl rfl (fun b9 => ?_)
    refine JL.append1 ap_66 rfl rfl (cells_lit64 rfl) rfl dl_ dl_ rfl ((elW hx)) z3_ rfl rfl (fun a10 c10 xs10 hC10 hN10 => ?_)
    obtain rfl := CellsR.u64 (l := us ++ [UInt64.ofNat x]) (by assumption)
    refine Ru 1 rfl ?_
    refine JL.nil ?_
    refine Rg ?_
    refine Ru 1 rfl ?_
    refine JL.op ai_ rfl ?_
    refine Ru 1 rfl ?_
    refine JL.nil ?_
    refine ⟨_, ?_, _, ?_, ⟨_, us ++ [UInt64.ofNat x], _, _, rfl, rfl, rfl, rfl, ⟨by assumption, hK, hH, hB, hg0, hg1, hk0, hk1, by simp; omega⟩⟩⟩
    ·
     simp; omega
    exact z24_
   refine J.rowaddr (List.mem_cons_self ..) (by omega) (fun ga hga => ?_); subst hga
   refine J.held ([.row (some ⟨ga, 0, none⟩) co 63 1 us.length (c64 us), .blk b1 99 (wayC f g0 g1 k0 k1 fc c0 c1 d0 d1)]) 34 mixed_ rfl (fun h00 => ?_)
   refine JH.take 0 rfl (by kernel_rfl) (by kernel_rfl) (by kernel_rfl) (fun _ _ _ _ hh => hh) (br_ h00) (RunV.ownA ag_99 rfl mm_ (by first | rfl)) rfl ?_
   refine JH.take 1 rfl (by kernel_rfl) (by kernel_rfl) (by kernel_rfl) (fun _ _ _ _ hh => hh) (br_ h00) (RunV.ownA ag_99 rfl mm_ (by first | rfl)) rfl ?_
   refine JH.take 2 rfl (by kernel_rfl) (by kernel_rfl) (by kernel_rfl) (fun _ _ _ _ hh => hh) (br_ h00) (RunV.move rfl) rfl ?_
   refine JH.take 3 rfl (by kernel_rfl) (by kernel_rfl) (by kernel_rfl) (fun _ _ _ _ hh => hh) (br_ h00) (RunV.move rfl) rfl ?_
   refine JH.take 4 rfl (by kernel_rfl) (by kernel_rfl) (by kernel_rfl) (fun _ _ _ _ hh => hh) (br_ h00) si_ rfl ?_
   refine JH.take 5 rfl (by kernel_rfl) (by kernel_rfl) (by kernel_rfl) (fun _ _ _ _ hh => hh) (br_ h00) (RunV.index_at sl_66 (m := us.length - 2) rfl rfl (by omega) (by omega)) rfl ?_
   refine JH.takeE 6 rfl (by kernel_rfl) (by kernel_rfl) (by kernel_rfl) (fun _ _ _ _ hh => hh) (br_ h00) (RunE.rowW ag_63 rfl mm_ (by omega)) rfl ?_
   rintro _ ⟨n1, hn1, rfl⟩
   refine JH.take 7 rfl (by kernel_rfl) (by kernel_rfl) (by kernel_rfl) (fun _ _ _ _ hh => hh) (br_ h00) (by first | exact RunV.fieldAt0 fo_99_6 rfl | exact RunV.fieldAt fo_99_6 rfl) rfl ?_
   refine JH.take 8 rfl (by kernel_rfl) (by kernel_rfl) (by kernel_rfl) (fun _ _ _ _ hh => hh) (br_ h00) (RunV.own1 ag_97 rfl mm_ rfl) rfl ?_
   refine JH.take 10 rfl (by kernel_rfl) (by kernel_rfl) (by kernel_rfl) (fun _ _ _ _ hh => hh) (br_ h00) (RunV.move rfl) rfl ?_
   refine JH.take 11 rfl (by kernel_rfl) (by kernel_rfl) (by kernel_rfl) (fun _ _ _ _ hh => hh) (br_ h00) (RunV.move rfl) rfl ?_
   refine JH.take 12 rfl (by kernel_rfl) (by kernel_rfl) (by kernel_rfl) (fun _ _ _ _ hh => hh) (br_ h00) si_ rfl ?_
   refine JH.take 13 rfl (by kernel_rfl) (by kernel_rfl) (by kernel_rfl) (fun _ _ _ _ hh => hh) (br_ h00) (RunV.index_at sl_66 (m := us.length - 7) rfl rfl (by omega) (by omega)) rfl ?_
   refine JH.takeE 14 rfl (by kernel_rfl) (by kernel_rfl) (by kernel_rfl) (fun _ _ _ _ hh => hh) (br_ h00) (RunE.rowW ag_63 rfl mm_ (by omega)) rfl ?_
   rintro _ ⟨n2, hn2, rfl⟩
   refine JH.take 16 rfl (by kernel_rfl) (by kernel_rfl) (by kernel_rfl) (fun _ _ _ _ hh => hh) (br_ h00) (RunV.ownA ag_99 rfl mm_ (by first | rfl)) rfl ?_
   refine JH.take 17 rfl (by kernel_rfl) (by kernel_rfl) (by kernel_rfl) (fun _ _ _ _ hh => hh) (br_ h00) (RunV.move rfl) rfl ?_
   refine JH.take 18 rfl (by kernel_rfl) (by kernel_rfl) (by kernel_rfl) (fun _ _ _ _ hh => hh) (br_ h00) (RunV.move rfl) rfl ?_
   refine JH.take 19 rfl (by kernel_rfl) (by kernel_rfl) (by kernel_rfl) (fun _ _ _ _ hh => hh) (br_ h00) si_ rfl ?_
   refine JH.take 20 rfl (by kernel_rfl) (by kernel_rfl) (by kernel_rfl) (fun _ _ _ _ hh => hh) (br_ h00) (RunV.index_at sl_66 (m := us.length - 15) rfl rfl (by omega) (by omega)) rfl ?_
   refine JH.takeE 21 rfl (by kernel_rfl) (by kernel_rfl) (by kernel_rfl) (fun _ _ _ _ hh => hh) (br_ h00) (RunE.rowW ag_63 rfl mm_ (by omega)) rfl ?_
   rintro _ ⟨n3, hn3, rfl⟩
   refine JH.take 22 rfl (by kernel_rfl) (by kernel_rfl) (by kernel_rfl) (fun _ _ _ _ hh => hh) (br_ h00) (by first | exact RunV.fieldAt0 fo_99_5 rfl | exact RunV.fieldAt fo_99_5 rfl) rfl ?_
   refine JH.take 23 rfl (by kernel_rfl) (by kernel_rfl) (by kernel_rfl) (fun _ _ _ _ hh => hh) (br_ h00) (RunV.own1 ag_97 rfl mm_ rfl) rfl ?_
   refine JH.take 26 rfl (by kernel_rfl) (by kernel_rfl) (by kernel_rfl) (fun _ _ _ _ hh => hh) (br_ h00) (RunV.move rfl) rfl ?_
   refine JH.take 27 rfl (by kernel_rfl) (by kernel_rfl) (by kernel_rfl) (fun _ _ _ _ hh => hh) (br_ h00) (RunV.move rfl) rfl ?_
   refine JH.take 28 rfl (by kernel_rfl) (by kernel_rfl) (by kernel_rfl) (fun _ _ _ _ hh => hh) (br_ h00) si_ rfl ?_
   refine JH.take 29 rfl (by kernel_rfl) (by kernel_rfl) (by kernel_rfl) (fun _ _ _ _ hh => hh) (br_ h00) (RunV.index_at sl_66 (m := us.length - 16) rfl rfl (by omega) (by omega)) rfl ?_
   refine JH.takeE 30 rfl (by kernel_rfl) (by kernel_rfl) (by kernel_rfl) (fun _ _ _ _ hh => hh) (br_ h00) (RunE.rowW ag_63 rfl mm_ (by omega)) rfl ?_
   rintro _ ⟨n4, hn4, rfl⟩
   refine JH.all1 9 (by kernel_rfl) rfl ?_
   unfold One
   refine JL.callR ca_128 rfl (wlow_fn hn1 hk1 (by decide) (by decide) (by decide)) rfl ?_
   rintro _ h15 hle15 ⟨p1, hp1, rfl⟩
   replace hK := hK.mono hle15
   replace hH := hH.mono hle15
   replace hB := hB.mono hle15
   replace hg0 := hg0.mono hle15
   replace hg1 := hg1.mono hle15
   replace hk0 := hk0.mono hle15
   replace hk1 := hk1.mono hle15
   replace hh0 := hh0.mono hle15
   refine JL.nil ⟨(br_ h00), ?_⟩
   refine JH.takeE 15 rfl (by kernel_rfl) (by kernel_rfl) (by kernel_rfl) (fun _ _ _ _ hh => hh) (br_ h00) (RunE.addW rfl rfl) rfl ?_
   rintro _ ⟨q1, hq1, rfl⟩
   refine JH.all1 24 (by kernel_rfl) rfl ?_
   unfold One
   refine JL.callR ca_128 rfl (wlow_fn hn3 hk0 (by decide) (by decide) (by decide)) rfl ?_
   rintro _ h17 hle17 ⟨p2, hp2, rfl⟩
   replace hK := hK.mono hle17
   replace hH := hH.mono hle17
   replace hB := hB.mono hle17
   replace hg0 := hg0.mono hle17
   replace hg1 := hg1.mono hle17
   replace hk0 := hk0.mono hle17
   replace hk1 := hk1.mono hle17
   replace hh0 := hh0.mono hle17
   refine JL.nil ⟨(br_ h00), ?_⟩
   refine JH.takeE 25 rfl (by kernel_rfl) (by kernel_rfl) (by kernel_rfl) (fun _ _ _ _ hh => hh) (br_ h00) (RunE.addW rfl rfl) rfl ?_
   rintro _ ⟨q2, hq2, rfl⟩
   refine JH.takeE 31 rfl (by kernel_rfl) (by kernel_rfl) (by kernel_rfl) (fun _ _ _ _ hh => hh) (br_ h00) (RunE.addW rfl rfl) rfl ?_
   rintro _ ⟨q3, hq3, rfl⟩
   refine JH.all1 32 (by kernel_rfl) rfl ?_
   unfold One
   refine JL.callR ca_127 rfl (wcut_fn hq3) rfl ?_
   rintro _ h20 hle20 ⟨x, hx, rfl⟩
   replace hK := hK.mono hle20
   replace hH := hH.mono hle20
   replace hB := hB.mono hle20
   replace hg0 := hg0.mono hle20
   replace hg1 := hg1.mono hle20
   replace hk0 := hk0.mono hle20
   replace hk1 := hk1.mono hle20
   replace hh0 := hh0.mono hle20
   refine JL.nil ⟨(br_ h00), ?_⟩
   refine JH.take 33 rfl (by kernel_rfl) (by kernel_rfl) (by kernel_rfl) (fun _ _ _ _ hh => hh) (br_ h00) (RunV.assign rfl) rfl ?_
   refine JH.done (by kernel_rfl) ?_
   refine Rg ?_
   refine Ru 2 rfl ?_
   refine JL.lit1 ap_66 zr_63 rfl rfl rfl rfl rfl (fun b21 => ?_)
   refine JL.append1 ap_66 rfl rfl (cells_lit64 rfl) rfl dl_ dl_ rfl ((elW hx)) z3_ rfl rfl (fun a22 c22 xs22 hC22 hN22 => ?_)
   obtain rfl := CellsR.u64 (l := us ++ [UInt64.ofNat x]) (by assumption)
   refine Ru 1 rfl ?_
   refine JL.nil ?_
   refine Rg ?_
   refine Ru 1 rfl ?_
   refine JL.op ai_ rfl ?_
   refine Ru 1 rfl ?_
   refine JL.nil ?_
   refine ⟨_, ?_, _, ?_, ⟨_, us ++ [UInt64.ofNat x], _, _, rfl, rfl, rfl, rfl, ⟨by assumption, hK, hH, hB, hg0, hg1, hk0, hk1, by simp; omega⟩⟩⟩
   ·
    simp; omega
   exact z24_
  have hu64 : us.length = 64 := (by omega); refine J.rowaddr (List.mem_cons_self ..) (by omega) (fun gz hgz => ?_); subst hgz
  refine J.exit ?_
  refine Kp [1, 2, 4, 10] rfl ?_
  refine J.seq ?_
  refine J.drawn mixed_ (by kernel_rfl) ?_
  refine Rq 1 rfl ?_
  refine JQ.ope (RunE.index (m := 0) sl_66 rfl rfl rfl hH hHl.symm (by omega)) rfl ?_
  rintro _ ⟨b23, o23, hi23, rfl, hE23⟩
  refine JQ.ope (RunE.partW ag_63 rfl (by assumption)) rfl ?_
  rintro _ ⟨x0, hx0, rfl⟩
  refine Rq 1 rfl ?_
  refine JQ.ope (RunE.index (m := 1) sl_66 rfl rfl rfl hH hHl.symm (by omega)) rfl ?_
  rintro _ ⟨b25, o25, hi25, rfl, hE25⟩
  refine JQ.ope (RunE.partW ag_63 rfl (by assumption)) rfl ?_
  rintro _ ⟨x1, hx1, rfl⟩
  refine Rq 1 rfl ?_
  refine JQ.ope (RunE.index (m := 2) sl_66 rfl rfl rfl hH hHl.symm (by omega)) rfl ?_
  rintro _ ⟨b27, o27, hi27, rfl, hE27⟩
  refine JQ.ope (RunE.partW ag_63 rfl (by assumption)) rfl ?_
  rintro _ ⟨x2, hx2, rfl⟩
  refine Rq 1 rfl ?_
  refine JQ.ope (RunE.index (m := 3) sl_66 rfl rfl rfl hH hHl.symm (by omega)) rfl ?_
  rintro _ ⟨b29, o29, hi29, rfl, hE29⟩
  refine JQ.ope (RunE.partW ag_63 rfl (by assumption)) rfl ?_
  rintro _ ⟨x3, hx3, rfl⟩
  refine Rq 1 rfl ?_
  refine JQ.ope (RunE.index (m := 4) sl_66 rfl rfl rfl hH hHl.symm (by omega)) rfl ?_
  rintro _ ⟨b31, o31, hi31, rfl, hE31⟩
  refine JQ.ope (RunE.partW ag_63 rfl (by assumption)) rfl ?_
  rintro _ ⟨x4, hx4, rfl⟩
  refine Rq 1 rfl ?_
  refine JQ.ope (RunE.index (m := 5) sl_66 rfl rfl rfl hH hHl.symm (by omega)) rfl ?_
  rintro _ ⟨b33, o33, hi33, rfl, hE33⟩
  refine JQ.ope (RunE.partW ag_63 rfl (by assumption)) rfl ?_
  rintro _ ⟨x5, hx5, rfl⟩
  refine Rq 1 rfl ?_
  refine JQ.ope (RunE.index (m := 6) sl_66 rfl rfl rfl hH hHl.symm (by omega)) rfl ?_
  rintro _ ⟨b35, o35, hi35, rfl, hE35⟩
  refine JQ.ope (RunE.partW ag_63 rfl (by assumption)) rfl ?_
  rintro _ ⟨x6, hx6, rfl⟩
  refine Rq 1 rfl ?_
  refine JQ.ope (RunE.index (m := 7) sl_66 rfl rfl rfl hH hHl.symm (by omega)) rfl ?_
  rintro _ ⟨b37, o37, hi37, rfl, hE37⟩
  refine JQ.ope (RunE.partW ag_63 rfl (by assumption)) rfl ?_
  rintro _ ⟨x7, hx7, rfl⟩
  refine Rq 8 rfl ?_
  refine Nq [21, 20, 19, 18, 17, 16, 15, 14, 1, 2, 4, 10] rfl ?_
  refine J.seq ?_
  refine Sr ?_
  refine Ru 1 rfl ?_
  refine JL.nil ?_
  refine J.block ?_
  refine J.loop (fun t_ S_ h_ L_ => ∃ (g2 : Part) (t x0 x1 x2 x3 x4 x5 x6 x7 : Nat), t_ = 65 - t ∧ S_ = [(1, .slice ka 80 kc), (2, .slice ha 8 hc), (4, .pointer (some ⟨b1, 0, none⟩)), (10, .slice (some ⟨gz, 0, none⟩) us.length co), (14, .int .u64 x0), (15, .int .u64 x1), (16, .int .u64 x2), (17, .int .u64 x3), (18, .int .u64 x4), (19, .int .u64 x5), (20, .int .u64 x6), (21, .int .u64 x7), (22, .int .i64 t)] ∧ g2 = h_ ∧ L_ = [.row (some ⟨gz, 0, none⟩) co 63 1 us.length (c64 us), .blk b1 99 (wayC f g0 g1 k0 k1 fc c0 c1 d0 d1)] ∧ (h.le g2 ∧ SlR u64R 1 g2 ka kc K ∧ SlR u64R 1 g2 ha hc H ∧ SlR u64R 1 g2 g0 c0 [2, 13, 22] ∧ SlR u64R 1 g2 g1 c1 [6, 11, 25] ∧ t ≤ 64 ∧ x0 < 18446744073709551616 ∧ x1 < 18446744073709551616 ∧ x2 < 18446744073709551616 ∧ x3 < 18446744073709551616 ∧ x4 < 18446744073709551616 ∧ x5 < 18446744073709551616 ∧ x6 < 18446744073709551616 ∧ x7 < 18446744073709551616)) ⟨_, _, ?_, ⟨_, 0, x0, x1, x2, x3, x4, x5, x6, x7, rfl, rfl, rfl, rfl, ⟨by assumption, hK, hH, hg0, hg1, by omega, hx0, hx1, hx2, hx3, hx4, hx5, hx6, hx7⟩⟩⟩ ?_
  ·
   exact z5_
  rintro _ _ _ _ ⟨g2, t, x0, x1, x2, x3, x4, x5, x6, x7, rfl, rfl, rfl, rfl, hh0, hK, hH, hg0, hg1, ht, hx0, hx1, hx2, hx3, hx4, hx5, hx6, hx7⟩
  refine J.seq ?_
  refine Sr ?_
  refine Ru 2 rfl ?_
  refine JL.op (RunV.own1 ag_3 rfl mm_ rfl) rfl ?_
  refine Ru 1 rfl ?_
  refine JL.nil ?_
  refine Cs rfl (fun hc39 => ?_) fun hc39 => ?_
  ·
   refine J.skip ?_
   refine J.seq ?_
   refine J.block ?_
   refine Sr ?_
   refine Ru 2 rfl ?_
   refine JL.ope (RunE.index (m := t) sl_66 rfl rfl rfl hK hKl.symm (by omega)) rfl ?_
   rintro _ ⟨b40, o40, hi40, rfl, hE40⟩
   refine JL.ope (RunE.partW ag_63 rfl (by assumption)) rfl ?_
   rintro _ ⟨kk, hkk, rfl⟩
   refine Ru 1 rfl ?_
   refine JL.nil ?_
   refine J.seq ?_
   refine Sr ?_
   refine Ru 1 rfl ?_
   refine JL.op (RunV.own1 ag_93 rfl mm_ rfl) rfl ?_
   refine Ru 1 rfl ?_
   refine JL.nil ?_
   refine Cs rfl (fun hc42 => ?_) fun hc42 => ?_
   rotate_left
   ·
    exfalso; exact hc42 rfl
   refine Rg ?_
   refine Ru 1 rfl ?_
   refine JL.op z16_ rfl ?_
   refine Ru 1 rfl ?_
   refine JL.nil ?_
   refine J.seq ?_
   refine J.held ([.row (some ⟨gz, 0, none⟩) co 63 1 us.length (c64 us), .blk b1 99 (wayC f g0 g1 k0 k1 fc c0 c1 d0 d1)]) 26 mixed_ rfl (fun h00 => ?_)
   refine JH.take 0 rfl (by kernel_rfl) (by kernel_rfl) (by kernel_rfl) (fun _ _ _ _ hh => hh) (br_ h00) (RunV.move rfl) rfl ?_
   refine JH.take 1 rfl (by kernel_rfl) (by kernel_rfl) (by kernel_rfl) (fun _ _ _ _ hh => hh) (br_ h00) (RunV.ownA ag_99 rfl mm_ (by first | rfl)) rfl ?_
   refine JH.take 2 rfl (by kernel_rfl) (by kernel_rfl) (by kernel_rfl) (fun _ _ _ _ hh => hh) (br_ h00) (RunV.move rfl) rfl ?_
   refine JH.take 3 rfl (by kernel_rfl) (by kernel_rfl) (by kernel_rfl) (fun _ _ _ _ hh => hh) (br_ h00) (by first | exact RunV.fieldAt0 fo_99_4 rfl | exact RunV.fieldAt fo_99_4 rfl) rfl ?_
   refine JH.take 4 rfl (by kernel_rfl) (by kernel_rfl) (by kernel_rfl) (fun _ _ _ _ hh => hh) (br_ h00) (RunV.own1 ag_97 rfl mm_ rfl) rfl ?_
   refine JH.take 7 rfl (by kernel_rfl) (by kernel_rfl) (by kernel_rfl) (fun _ _ _ _ hh => hh) (br_ h00) (RunV.move rfl) rfl ?_
   refine JH.take 8 rfl (by kernel_rfl) (by kernel_rfl) (by kernel_rfl) (fun _ _ _ _ hh => hh) (br_ h00) (RunV.move rfl) rfl ?_
   refine JH.takeE 9 rfl (by kernel_rfl) (by kernel_rfl) (by kernel_rfl) (fun _ _ _ _ hh => hh) (br_ h00) (RunE.andW rfl rfl) rfl ?_
   rintro _ ⟨q2, hq2, rfl⟩
   refine JH.take 10 rfl (by kernel_rfl) (by kernel_rfl) (by kernel_rfl) (fun _ _ _ _ hh => hh) (br_ h00) (RunV.ownA ag_99 rfl mm_ (by first | rfl)) rfl ?_
   refine JH.take 11 rfl (by kernel_rfl) (by kernel_rfl) (by kernel_rfl) (fun _ _ _ _ hh => hh) (br_ h00) (RunV.move rfl) rfl ?_
   refine JH.takeE 12 rfl (by kernel_rfl) (by kernel_rfl) (by kernel_rfl) (fun _ _ _ _ hh => hh) (br_ h00) (RunE.notW rfl) rfl ?_
   rintro _ ⟨q3, hq3, rfl⟩
   refine JH.take 14 rfl (by kernel_rfl) (by kernel_rfl) (by kernel_rfl) (fun _ _ _ _ hh => hh) (br_ h00) (RunV.move rfl) rfl ?_
   refine JH.take 18 rfl (by kernel_rfl) (by kernel_rfl) (by kernel_rfl) (fun _ _ _ _ hh => hh) (br_ h00) (RunV.move rfl) rfl ?_
   refine JH.take 20 rfl (by kernel_rfl) (by kernel_rfl) (by kernel_rfl) (fun _ _ _ _ hh => hh) (br_ h00) (RunV.move rfl) rfl ?_
   refine JH.take 21 rfl (by kernel_rfl) (by kernel_rfl) (by kernel_rfl) (fun _ _ _ _ hh => hh) (br_ h00) (RunV.move rfl) rfl ?_
   refine JH.take 22 rfl (by kernel_rfl) (by kernel_rfl) (by kernel_rfl) (fun _ _ _ _ hh => hh) (br_ h00) (RunV.index_at sl_66 (m := t) rfl rfl (by omega) (by omega)) rfl ?_
   refine JH.takeE 23 rfl (by kernel_rfl) (by kernel_rfl) (by kernel_rfl) (fun _ _ _ _ hh => hh) (br_ h00) (RunE.rowW ag_63 rfl mm_ (by omega)) rfl ?_
   rintro _ ⟨n1, hn1, rfl⟩
   refine JH.all1 5 (by kernel_rfl) rfl ?_
   unfold One
   refine JL.callR ca_129 rfl (wbig_fn hx4 hg1 (by decide) (by decide) (by decide)) rfl ?_
   rintro _ h46 hle46 ⟨p1, hp1, rfl⟩
   replace hK := hK.mono hle46
   replace hH := hH.mono hle46
   replace hg0 := hg0.mono hle46
   replace hg1 := hg1.mono hle46
   replace hh0 := hh0.mono hle46
   refine JL.nil ⟨(br_ h00), ?_⟩
   refine JH.takeE 6 rfl (by kernel_rfl) (by kernel_rfl) (by kernel_rfl) (fun _ _ _ _ hh => hh) (br_ h00) (RunE.addW rfl rfl) rfl ?_
   rintro _ ⟨q1, hq1, rfl⟩
   refine JH.all1 13 (by kernel_rfl) rfl ?_
   unfold One
   refine JL.callR ca_127 rfl (wcut_fn hq3) rfl ?_
   rintro _ h48 hle48 ⟨p2, hp2, rfl⟩
   replace hK := hK.mono hle48
   replace hH := hH.mono hle48
   replace hg0 := hg0.mono hle48
   replace hg1 := hg1.mono hle48
   replace hh0 := hh0.mono hle48
   refine JL.nil ⟨(br_ h00), ?_⟩
   refine JH.takeE 15 rfl (by kernel_rfl) (by kernel_rfl) (by kernel_rfl) (fun _ _ _ _ hh => hh) (br_ h00) (RunE.andW rfl rfl) rfl ?_
   rintro _ ⟨q4, hq4, rfl⟩
   refine JH.takeE 16 rfl (by kernel_rfl) (by kernel_rfl) (by kernel_rfl) (fun _ _ _ _ hh => hh) (br_ h00) (RunE.xorW rfl rfl) rfl ?_
   rintro _ ⟨q5, hq5, rfl⟩
   refine JH.takeE 17 rfl (by kernel_rfl) (by kernel_rfl) (by kernel_rfl) (fun _ _ _ _ hh => hh) (br_ h00) (RunE.addW rfl rfl) rfl ?_
   rintro _ ⟨q6, hq6, rfl⟩
   refine JH.takeE 19 rfl (by kernel_rfl) (by kernel_rfl) (by kernel_rfl) (fun _ _ _ _ hh => hh) (br_ h00) (RunE.addW rfl rfl) rfl ?_
   rintro _ ⟨q7, hq7, rfl⟩
   refine JH.takeE 24 rfl (by kernel_rfl) (by kernel_rfl) (by kernel_rfl) (fun _ _ _ _ hh => hh) (br_ h00) (RunE.addW rfl rfl) rfl ?_
   rintro _ ⟨y1, hy1, rfl⟩
   refine JH.take 25 rfl (by kernel_rfl) (by kernel_rfl) (by kernel_rfl) (fun _ _ _ _ hh => hh) (br_ h00) (RunV.assign rfl) rfl ?_
   refine JH.done (by kernel_rfl) ?_
   refine Sr ?_
   refine JL.op (RunV.ownA ag_99 rfl mm_ (by first | rfl)) rfl ?_
   refine Ru 2 rfl ?_
   refine JL.op (RunV.own1 ag_97 rfl mm_ rfl) rfl ?_
   refine JL.callR ca_129 rfl (wbig_fn hx0 hg0 (by decide) (by decide) (by decide)) rfl ?_
   rintro _ h54 hle54 ⟨p3, hp3, rfl⟩
   replace hK := hK.mono hle54
   replace hH := hH.mono hle54
   replace hg0 := hg0.mono hle54
   replace hg1 := hg1.mono hle54
   replace hh0 := hh0.mono hle54
   refine Ru 2 rfl ?_
   refine JL.ope (RunE.andW rfl rfl) rfl ?_
   rintro _ ⟨r1, hr1, rfl⟩
   refine Ru 2 rfl ?_
   refine JL.ope (RunE.andW rfl rfl) rfl ?_
   rintro _ ⟨r2, hr2, rfl⟩
   refine JL.ope (RunE.xorW rfl rfl) rfl ?_
   rintro _ ⟨r3, hr3, rfl⟩
   refine Ru 2 rfl ?_
   refine JL.ope (RunE.andW rfl rfl) rfl ?_
   rintro _ ⟨r4, hr4, rfl⟩
   refine JL.ope (RunE.xorW rfl rfl) rfl ?_
   rintro _ ⟨r5, hr5, rfl⟩
   refine JL.ope (RunE.addW rfl rfl) rfl ?_
   rintro _ ⟨y2, hy2, rfl⟩
   refine Ru 1 rfl ?_
   refine JL.nil ?_
   refine Sr ?_
   refine Ru 6 rfl ?_
   refine Nk [19, 20, 21, 178, 177, 176, 25, 175, 174, 173, 172, 171, 170, 169, 168, 167, 166, 165, 164, 163, 162, 161, 160, 159, 24, 158, 153, 151, 150, 149, 147, 140, 139, 157, 156, 155, 154, 152, 148, 146, 145, 144, 143, 142, 141, 138, 137, 136, 135, 134, 23, 133, 132, 131, 130, 129, 128, 127, 126, 125, 122, 121, 120, 119, 1, 2, 4, 10, 14, 15, 16, 17, 18, 22] rfl ?_
   refine Sr ?_
   refine JL.op (RunV.ownA ag_99 rfl mm_ (by first | rfl)) rfl ?_
   refine Ru 2 rfl ?_
   refine JL.ope (RunE.addW rfl rfl) rfl ?_
   rintro _ ⟨z1, hz1, rfl⟩
   refine JL.callR ca_127 rfl (wcut_fn hz1) rfl ?_
   rintro _ h62 hle62 ⟨w1, hw1, rfl⟩
   replace hK := hK.mono hle62
   replace hH := hH.mono hle62
   replace hg0 := hg0.mono hle62
   replace hg1 := hg1.mono hle62
   replace hh0 := hh0.mono hle62
   refine Ru 1 rfl ?_
   refine JL.nil ?_
   refine Sr ?_
   refine Ru 6 rfl ?_
   refine JL.nil ?_
   refine Rg ?_
   refine JL.op (RunV.ownA ag_99 rfl mm_ (by first | rfl)) rfl ?_
   refine Ru 2 rfl ?_
   refine JL.ope (RunE.addW rfl rfl) rfl ?_
   rintro _ ⟨z2, hz2, rfl⟩
   refine JL.callR ca_127 rfl (wcut_fn hz2) rfl ?_
   rintro _ h64 hle64 ⟨w2, hw2, rfl⟩
   replace hK := hK.mono hle64
   replace hH := hH.mono hle64
   replace hg0 := hg0.mono hle64
   replace hg1 := hg1.mono hle64
   replace hh0 := hh0.mono hle64
   refine Ru 1 rfl ?_
   refine Nk [14, 191, 190, 189, 188, 187, 15, 16, 17, 186, 185, 184, 18, 183, 182, 181, 180, 179, 19, 20, 21, 178, 177, 176, 25, 175, 174, 173, 172, 171, 170, 169, 168, 167, 166, 165, 164, 163, 162, 161, 160, 159, 24, 158, 153, 151, 150, 149, 147, 140, 139, 157, 156, 155, 154, 152, 148, 146, 145, 144, 143, 142, 141, 138, 137, 136, 135, 134, 23, 133, 132, 131, 130, 129, 128, 127, 126, 125, 122, 121, 120, 119, 1, 2, 4, 10, 22] rfl ?_
   refine Rg ?_
   refine Ru 1 rfl ?_
   refine JL.op ai_ rfl ?_
   refine Ru 1 rfl ?_
   refine JL.nil ?_
   refine ⟨_, ?_, _, ?_, ⟨_, t + 1, w2, x0, x1, x2, w1, x4, x5, x6, rfl, rfl, rfl, rfl, ⟨by assumption, hK, hH, hg0, hg1, by omega, hw2, hx0, hx1, hx2, hw1, hx4, hx5, hx6⟩⟩⟩
   ·
    omega
   exact z5_
  refine J.exit ?_
  refine Kp [2, 4, 14, 15, 16, 17, 18, 19, 20, 21] rfl ?_
  refine Sr ?_
  refine Ru 8 rfl ?_
  refine JL.lit1 ap_66 zr_63 rfl rfl rfl rfl rfl (fun b65 => ?_)
  refine JL.pubB (R := u64R) (sz := 1) (l := [UInt64.ofNat x0, UInt64.ofNat x1, UInt64.ofNat x2, UInt64.ofNat x3, UInt64.ofNat x4, UInt64.ofNat x5, UInt64.ofNat x6, UInt64.ofNat x7]) dl_ ((((((((((CellsR.one (elW hx0) rfl).append (CellsR.one (elW hx1) rfl)).append (CellsR.one (elW hx2) rfl)).append (CellsR.one (elW hx3) rfl)).append (CellsR.one (elW hx4) rfl)).append (CellsR.one (elW hx5) rfl)).append (CellsR.one (elW hx6) rfl)).append (CellsR.one (elW hx7) rfl)))) z7_ (fun h66 hle66 hNow => ?_)
  replace hK := hK.mono hle66
  replace hH := hH.mono hle66
  replace hg0 := hg0.mono hle66
  replace hg1 := hg1.mono hle66
  replace hh0 := hh0.mono hle66
  refine Ru 1 rfl ?_
  refine Nk [26, 2, 4] rfl ?_
  refine Sr ?_
  refine JL.row_nil 63 1 ?_
  refine Ru 1 rfl ?_
  refine JL.nil ?_
  refine J.seq ?_
  refine Sr ?_
  refine Ru 1 rfl ?_
  refine JL.nil ?_
  refine J.block ?_
  refine J.loop (fun t_ S_ h_ L_ => ∃ (g3 : Part) (vs : List UInt64) (av : Option Addr) (cv : Nat), t_ = 9 - vs.length ∧ S_ = [(2, .slice ha 8 hc), (4, .pointer (some ⟨b1, 0, none⟩)), (26, .slice (some ⟨b65, 0, none⟩) 8 8), (27, .slice av vs.length cv), (28, .int .i64 vs.length)] ∧ g3 = h_ ∧ L_ = [.row av cv 63 1 vs.length (c64 vs), .row (some ⟨gz, 0, none⟩) co 63 1 us.length (c64 us), .blk b1 99 (wayC f g0 g1 k0 k1 fc c0 c1 d0 d1)] ∧ (h.le g3 ∧ SlR u64R 1 g3 ha hc H ∧ SlR u64R 1 g3 (some ⟨b65, 0, none⟩) 8 [UInt64.ofNat x0, UInt64.ofNat x1, UInt64.ofNat x2, UInt64.ofNat x3, UInt64.ofNat x4, UInt64.ofNat x5, UInt64.ofNat x6, UInt64.ofNat x7] ∧ vs.length ≤ 8)) ⟨_, _, ?_, ⟨_, [], none, 0, rfl, rfl, rfl, rfl, ⟨by assumption, hH, hNow, by simp⟩⟩⟩ ?_
  ·
   exact z24_
  rintro _ _ _ _ ⟨g3, vs, av, cv, rfl, rfl, rfl, rfl, hh0, hH, hNow, hvl⟩
  refine J.seq ?_
  refine Sr ?_
  refine Ru 2 rfl ?_
  refine JL.nil ?_
  refine Cs rfl (fun hc67 => ?_) fun hc67 => ?_
  ·
   refine J.skip ?_
   refine J.seq ?_
   refine J.block ?_
   refine J.held ([.blk b1 99 (wayC f g0 g1 k0 k1 fc c0 c1 d0 d1)]) 15 mixed_ rfl (fun h00 => ?_)
   refine JH.take 0 rfl (by kernel_rfl) (by kernel_rfl) (by kernel_rfl) (fun _ _ _ _ hh => hh) (br_ h00) (RunV.move rfl) rfl ?_
   refine JH.take 1 rfl (by kernel_rfl) (by kernel_rfl) (by kernel_rfl) (fun _ _ _ _ hh => hh) (br_ h00) (RunV.ownA ag_99 rfl mm_ (by first | rfl)) rfl ?_
   refine JH.take 2 rfl (by kernel_rfl) (by kernel_rfl) (by kernel_rfl) (fun _ _ _ _ hh => hh) (br_ h00) (RunV.move rfl) rfl ?_
   refine JH.take 3 rfl (by kernel_rfl) (by kernel_rfl) (by kernel_rfl) (fun _ _ _ _ hh => hh) (br_ h00) (RunV.move rfl) rfl ?_
   refine JH.takeE 4 rfl (by kernel_rfl) (by kernel_rfl) (by kernel_rfl) (fun _ _ _ _ hh => hh) (br_ h00) (RunE.index (m := vs.length) sl_66 rfl rfl rfl hH hHl.symm (by omega)) rfl ?_
   rintro _ ⟨b68, o68, hi68, rfl, hE68⟩
   refine JH.takeE 5 rfl (by kernel_rfl) (by kernel_rfl) (by kernel_rfl) (fun _ _ _ _ hh => hh) (br_ h00) (RunE.partW ag_63 rfl (by assumption)) rfl ?_
   rintro _ ⟨n1, hn1, rfl⟩
   refine JH.take 6 rfl (by kernel_rfl) (by kernel_rfl) (by kernel_rfl) (fun _ _ _ _ hh => hh) (br_ h00) (RunV.move rfl) rfl ?_
   refine JH.take 7 rfl (by kernel_rfl) (by kernel_rfl) (by kernel_rfl) (fun _ _ _ _ hh => hh) (br_ h00) (RunV.move rfl) rfl ?_
   refine JH.takeE 8 rfl (by kernel_rfl) (by kernel_rfl) (by kernel_rfl) (fun _ _ _ _ hh => hh) (br_ h00) (RunE.index (m := vs.length) sl_66 rfl rfl rfl hNow rfl (by have hl8 : [UInt64.ofNat x0, UInt64.ofNat x1, UInt64.ofNat x2, UInt64.ofNat x3, UInt64.ofNat x4, UInt64.ofNat x5, UInt64.ofNat x6, UInt64.ofNat x7].length = 8 := rfl; omega)) rfl ?_
   rintro _ ⟨b70, o70, hi70, rfl, hE70⟩
   refine JH.takeE 9 rfl (by kernel_rfl) (by kernel_rfl) (by kernel_rfl) (fun _ _ _ _ hh => hh) (br_ h00) (RunE.partW ag_63 rfl (by assumption)) rfl ?_
   rintro _ ⟨n2, hn2, rfl⟩
   refine JH.takeE 10 rfl (by kernel_rfl) (by kernel_rfl) (by kernel_rfl) (fun _ _ _ _ hh => hh) (br_ h00) (RunE.addW rfl rfl) rfl ?_
   rintro _ ⟨q1, hq1, rfl⟩
   refine JH.all1 11 (by kernel_rfl) rfl ?_
   unfold One
   refine JL.callR ca_127 rfl (wcut_fn hq1) rfl ?_
   rintro _ h73 hle73 ⟨x, hx, rfl⟩
   replace hH := hH.mono hle73
   replace hNow := hNow.mono hle73
   replace hh0 := hh0.mono hle73
   refine JL.nil ⟨(br_ h00), ?_⟩
   refine JH.all1 12 (by kernel_rfl) rfl ?_
   unfold One
   refine JL.lit1 ap_66 zr_63 rfl rfl rfl rfl rfl (fun b74 => ?_)
   refine JL.nil ⟨(br_ h00), ?_⟩
   refine JH.all1 13 (by kernel_rfl) rfl ?_
   unfold One
   refine JL.append1 ap_66 rfl rfl (cells_lit64 rfl) rfl dl_ dl_ rfl ((elW hx)) z3_ rfl rfl (fun a75 c75 xs75 hC75 hN75 => ?_)
   obtain rfl := CellsR.u64 (l := vs ++ [UInt64.ofNat x]) (by assumption)
   refine JL.nil ⟨(br_ h00), ?_⟩
   refine JH.take 14 rfl (by kernel_rfl) (by kernel_rfl) (by kernel_rfl) (fun _ _ _ _ hh => hh) (br_ h00) (RunV.assign rfl) rfl ?_
   refine JH.done (by kernel_rfl) ?_
   refine Rg ?_
   refine Ru 1 rfl ?_
   refine JL.op ai_ rfl ?_
   refine Ru 1 rfl ?_
   refine JL.nil ?_
   refine ⟨_, ?_, _, ?_, ⟨_, vs ++ [UInt64.ofNat x], _, _, rfl, rfl, rfl, rfl, ⟨by assumption, hH, hNow, by simp; omega⟩⟩⟩
   ·
    simp; omega
   exact z24_
  have hv8 : vs.length = 8 := (by omega)
  refine J.exit ?_
  refine Kp [27] rfl ?_
  refine Sr ?_
  refine JL.pub (R := u64R) (l := vs) dl_ (cells_lit64 rfl) rfl (by omega) (fun hp hlep hSp => ?_)
  refine Ru 2 rfl ?_
  refine JL.nil ?_
  exact J.retR (RetV.one rfl rfl) ⟨_, _, vs, by rw [hv8], hSp, hv8⟩
end Go.Proofs.YtmngjbefnloljaaGreatDoor
namespace Go.Proofs.YtmngjbefnloljaaGreatDoor
open Go Go.RowKit
set_option maxRecDepth 100000
theorem ca_94 : callT Tryz.prog 94 = true := by kernel_rfl
theorem ca_95 : callT Tryz.prog 95 = true := by kernel_rfl
theorem ca_96 : callT Tryz.prog 96 = true := by kernel_rfl
def cub80 : List UInt64 := [4794697086780616226, 8158064640168781261, 13096744586834688815, 16840607885511220156, 4131703408338449720, 6480981068601479193, 10538285296894168987, 12329834152419229976, 15566598209576043074, 1334009975649890238, 2608012711638119052, 6128411473006802146, 8268148722764581231, 9286055187155687089, 11230858885718282805, 13951009754708518548, 16472876342353939154, 17275323862435702243, 1135362057144423861, 2597628984639134821, 3308224258029322869, 5365058923640841347, 6679025012923562964, 8573033837759648693, 10970295158949994411, 12119686244451234320, 12683024718118986047, 13788192230050041572, 14330467153632333762, 15395433587784984357, 489312712824947311, 1452737877330783856, 2861767655752347644, 3322285676063803686, 5560940570517711597, 5996557281743188959, 7280758554555802590, 8532644243296465576, 9350256976987008742, 10552545826968843579, 11727347734174303076, 12113106623233404929, 14000437183269869457, 14369950271660146224, 15101387698204529176, 15463397548674623760, 17586052441742319658, 1182934255886127544, 1847814050463011016, 2177327727835720531, 2830643537854262169, 3796741975233480872, 4115178125766777443, 5681478168544905931, 6601373596472566643, 7507060721942968483, 8399075790359081724, 8693463985226723168, 9568029438360202098, 10144078919501101548, 10430055236837252648, 11840083180663258601, 13761210420658862357, 14299343276471374635, 14566680578165727644, 15097957966210449927, 16922976911328602910, 17689382322260857208, 500013540394364858, 748580250866718886, 1242879168328830382, 1977374033974150939, 2944078676154940804, 3659926193048069267, 4368137639120453308, 4836135668995329356, 5532061633213252278, 6448918945643986474, 6902733635092675308, 7801388544844847127]
theorem cubes_fn {h : Part} : FnR Tryz.prog 94 [] h (fun v h' => ∃ a c, v = .slice a 80 c ∧ SlR u64R 1 h' a c cub80) := by
  refine Fn.intro Tryz.func94 rfl Tryz.ntmps94 rfl (fun e he => ?_)
  have hh0 := Part.le.refl h
  refine Sr ?_
  refine Ru 1 rfl ?_
  refine JL.nil ?_
  refine Sr ?_
  refine JL.lit1 ap_66 zr_63 rfl rfl rfl rfl rfl (fun b1 => ?_)
  refine JL.pubB (R := u64R) (sz := 1) (l := cub80) dl_ ((cells_lit64 (by kernel_rfl))) z7_ (fun h2 hle2 hQ => ?_)
  replace hh0 := hh0.mono hle2
  refine Ru 1 rfl ?_
  refine JL.nil ?_
  exact J.retR (RetV.one rfl rfl) ⟨_, _, rfl, hQ⟩
theorem ways256 {h : Part} : FnR Tryz.prog 81 [.int .i64 256] h (fun v h' => ∃ f fc g0 c0 g1 c1 k0 d0 k1 d1 F, v = .agg (wayC f g0 g1 k0 k1 fc c0 c1 d0 d1).toArray ∧ SlR u64R 1 h' f fc F ∧ F.length = 8 ∧ SlR u64R 1 h' g0 c0 [2, 13, 22] ∧ SlR u64R 1 h' g1 c1 [6, 11, 25] ∧ SlR u64R 1 h' k0 d0 [7, 18, 3] ∧ SlR u64R 1 h' k1 d1 [17, 19, 10]) := by
  have hsl : sq16.length = 16 := rfl
  refine Fn.intro Tryz.func81 rfl Tryz.ntmps81 rfl (fun e he => ?_)
  refine J.weak [(0, _)] ⟨rfl, trivial⟩ ?_
  have hh0 := Part.le.refl h
  refine Sr ?_
  refine JL.alloc zr_99 rfl (fun b1 => ?_)
  refine JL.nil ?_
  refine Sr ?_
  refine JL.callR ca_118 rfl (squares_fn) rfl ?_
  rintro _ h2 hle2 ⟨sa, sc, rfl, hQ⟩
  replace hh0 := hh0.mono hle2
  refine Ru 1 rfl ?_
  refine JL.nil ?_
  refine J.seq ?_
  refine Sr ?_
  refine Ru 2 rfl ?_
  refine JL.nil ?_
  refine Cs rfl (fun hc3 => ?_) fun hc3 => ?_
  rotate_left
  ·
   exfalso; exact hc3 rfl
  refine Sr ?_
  refine JL.lit1 ap_97 zr_93 rfl rfl rfl rfl rfl (fun b4 => ?_)
  refine JL.pubB (R := u64R) (sz := 1) (l := [2, 13, 22]) dl_ ((cells_lit64 (by kernel_rfl))) z7_ (fun h5 hle5 hB0 => ?_)
  replace hh0 := hh0.mono hle5
  replace hQ := hQ.mono hle5
  refine JL.lit1 ap_97 zr_93 rfl rfl rfl rfl rfl (fun b6 => ?_)
  refine JL.pubB (R := u64R) (sz := 1) (l := [6, 11, 25]) dl_ ((cells_lit64 (by kernel_rfl))) z7_ (fun h7 hle7 hB1 => ?_)
  replace hh0 := hh0.mono hle7
  replace hQ := hQ.mono hle7
  replace hB0 := hB0.mono hle7
  refine JL.lit1 ap_97 zr_93 rfl rfl rfl rfl rfl (fun b8 => ?_)
  refine JL.pubB (R := u64R) (sz := 1) (l := [7, 18, 3]) dl_ ((cells_lit64 (by kernel_rfl))) z7_ (fun h9 hle9 hL0 => ?_)
  replace hh0 := hh0.mono hle9
  replace hQ := hQ.mono hle9
  replace hB0 := hB0.mono hle9
  replace hB1 := hB1.mono hle9
  refine JL.lit1 ap_97 zr_93 rfl rfl rfl rfl rfl (fun b10 => ?_)
  refine JL.pubB (R := u64R) (sz := 1) (l := [17, 19, 10]) dl_ ((cells_lit64 (by kernel_rfl))) z7_ (fun h11 hle11 hL1 => ?_)
  replace hh0 := hh0.mono hle11
  replace hQ := hQ.mono hle11
  replace hB0 := hB0.mono hle11
  replace hB1 := hB1.mono hle11
  replace hL0 := hL0.mono hle11
  refine JL.op (RunV.build (cs := [_, _, .slice none 0 0, _, _, _, _, _]) pl_99 rfl rfl) rfl ?_
  refine JL.alloc zr_99 rfl (fun b12 => ?_)
  refine JL.storeA ag_99 rfl rfl dl_ (by first | rfl) z43_ (by first | rfl) ?_
  refine Nk [4, 3, 2, 0] rfl ?_
  refine J.seq ?_
  refine Sr ?_
  refine JL.row_nil 63 1 ?_; refine JL.own (fun w hk => hk.perm (.swap ..)) ?_
  refine Ru 1 rfl ?_
  refine JL.nil ?_
  refine J.block ?_
  refine J.loop (fun t_ S_ h_ L_ => ∃ (g : Part) (us : List UInt64) (ao : Option Addr) (co : Nat), t_ = 9 - us.length ∧ S_ = [(2, .pointer (some ⟨b1, 0, none⟩)), (3, .slice sa sq16.length sc), (4, .pointer (some ⟨b12, 0, none⟩)), (5, .int .i64 us.length)] ∧ g = h_ ∧ L_ = [.blk b12 99 [.int .u64 32, .int .i64 64, .slice ao us.length co, .slice (some ⟨b4, 0, none⟩) 3 3, .slice (some ⟨b6, 0, none⟩) 3 3, .slice (some ⟨b8, 0, none⟩) 3 3, .slice (some ⟨b10, 0, none⟩) 3 3, .int .i64 32], .row ao co 63 1 us.length (c64 us), .blk b1 99 [.int .u64 0, .int .i64 0, .slice none 0 0, .slice none 0 0, .slice none 0 0, .slice none 0 0, .slice none 0 0, .int .i64 0]] ∧ (h.le g ∧ SlR u64R 1 g sa sc sq16 ∧ SlR u64R 1 g (some ⟨b4, 0, none⟩) 3 [2, 13, 22] ∧ SlR u64R 1 g (some ⟨b6, 0, none⟩) 3 [6, 11, 25] ∧ SlR u64R 1 g (some ⟨b8, 0, none⟩) 3 [7, 18, 3] ∧ SlR u64R 1 g (some ⟨b10, 0, none⟩) 3 [17, 19, 10] ∧ us.length ≤ 8)) ⟨_, _, ?_, ⟨_, [], none, 0, rfl, rfl, rfl, rfl, ⟨hh0, hQ, hB0, hB1, hL0, hL1, by simp⟩⟩⟩ ?_
  ·
   exact z24_
  rintro _ _ _ _ ⟨g, us, ao, co, rfl, rfl, rfl, rfl, hh0, hQ, hB0, hB1, hL0, hL1, hul⟩
  refine J.seq ?_
  refine Sr ?_
  refine Ru 2 rfl ?_
  refine JL.nil ?_
  refine Cs rfl (fun hc13 => ?_) fun hc13 => ?_
  ·
   have hi16 : us.length < sq16.length := (by omega); have hx64 := (sq16[us.length]'hi16).toNat_lt; have hdd : (sq16[us.length]'hi16).toNat / 4294967296 < 18446744073709551616 := (by omega)
   refine J.skip ?_
   refine J.seq ?_
   refine J.block ?_
   refine J.held ([]) 11 mixed_ rfl (fun h00 => ?_)
   refine JH.take 0 rfl (by kernel_rfl) (by kernel_rfl) (by kernel_rfl) (fun _ _ _ _ hh => hh) (br_ h00) (by first | exact RunV.fieldAt0 fo_99_2 rfl | exact RunV.fieldAt fo_99_2 rfl) rfl ?_
   refine JH.take 2 rfl (by kernel_rfl) (by kernel_rfl) (by kernel_rfl) (fun _ _ _ _ hh => hh) (br_ h00) (RunV.move rfl) rfl ?_
   refine JH.take 3 rfl (by kernel_rfl) (by kernel_rfl) (by kernel_rfl) (fun _ _ _ _ hh => hh) (br_ h00) (RunV.move rfl) rfl ?_
   refine JH.takeE 4 rfl (by kernel_rfl) (by kernel_rfl) (by kernel_rfl) (fun _ _ _ _ hh => hh) (br_ h00) (RunE.index sl_66 rfl rfl z8_ (by assumption) rfl (by omega)) rfl ?_
   rintro _ ⟨b14, o14, hi14, rfl, hE14⟩
   refine JH.take 5 rfl (by kernel_rfl) (by kernel_rfl) (by kernel_rfl) (fun _ _ _ _ hh => hh) (br_ h00) (RunV.ld_u64 ag_63 rfl (by assumption)) rfl ?_
   refine JH.take 6 rfl (by kernel_rfl) (by kernel_rfl) (by kernel_rfl) (fun _ _ _ _ hh => hh) (br_ h00) z16_ rfl ?_
   refine JH.all2 1 7 (by kernel_rfl) rfl rfl ?_ ?_
   ·
    unfold One
    refine JL.op (RunV.own1 ag_66 rfl mm_ rfl) rfl ?_
    refine JL.nil ⟨(br_ h00), ?_⟩
    refine JH.all1 7 (by kernel_rfl) rfl ?_
    unfold One
    refine JL.lit1 ap_66 zr_63 rfl rfl rfl rfl rfl (fun b16 => ?_)
    refine JL.nil ⟨(br_ h00), ?_⟩
    refine JH.all1 8 (by kernel_rfl) rfl ?_
    unfold One
    refine JL.append1 ap_66 rfl rfl (cells_lit64 rfl) rfl dl_ dl_ rfl ((elW hdd)) z3_ rfl rfl (fun a17 c17 xs17 hC17 hN17 => ?_)
    obtain rfl := CellsR.u64 (l := us ++ [UInt64.ofNat ((sq16[us.length]'hi16).toNat / 4294967296)]) (by assumption)
    refine JL.nil ⟨(br_ h00), ?_⟩
    refine JH.take 9 rfl (by kernel_rfl) (by kernel_rfl) (by kernel_rfl) (fun _ _ _ _ hh => hh) (br_ h00) (by first | exact RunV.fieldAt0 fo_99_2 rfl | exact RunV.fieldAt fo_99_2 rfl) rfl ?_
    refine JH.all1 10 (by kernel_rfl) rfl ?_
    unfold One
    refine JL.store1 ag_66 rfl rfl rfl dl_ z32_ ?_
    refine JL.nil ⟨(br_ h00), ?_⟩
    refine JH.done (by kernel_rfl) ?_
    refine Rg ?_
    refine Ru 1 rfl ?_
    refine JL.op ai_ rfl ?_
    refine Ru 1 rfl ?_
    refine JL.nil ?_
    refine ⟨_, ?_, _, ?_, ⟨_, us ++ [UInt64.ofNat ((sq16[us.length]'hi16).toNat / 4294967296)], _, _, rfl, rfl, rfl, rfl, ⟨by assumption, hQ, hB0, hB1, hL0, hL1, by simp; omega⟩⟩⟩
    ·
     simp; omega
    exact z24_
   unfold One
   refine JL.lit1 ap_66 zr_63 rfl rfl rfl rfl rfl (fun b18 => ?_)
   refine JL.nil ⟨(br_ h00), ?_⟩
   refine JH.all1 1 (by kernel_rfl) rfl ?_
   unfold One
   refine JL.op (RunV.own1 ag_66 rfl mm_ rfl) rfl ?_
   refine JL.nil ⟨(br_ h00), ?_⟩
   refine JH.all1 8 (by kernel_rfl) rfl ?_
   unfold One
   refine JL.append1 ap_66 rfl rfl (cells_lit64 rfl) rfl dl_ dl_ rfl ((elW hdd)) z3_ rfl rfl (fun a19 c19 xs19 hC19 hN19 => ?_)
   obtain rfl := CellsR.u64 (l := us ++ [UInt64.ofNat ((sq16[us.length]'hi16).toNat / 4294967296)]) (by assumption)
   refine JL.nil ⟨(br_ h00), ?_⟩
   refine JH.take 9 rfl (by kernel_rfl) (by kernel_rfl) (by kernel_rfl) (fun _ _ _ _ hh => hh) (br_ h00) (by first | exact RunV.fieldAt0 fo_99_2 rfl | exact RunV.fieldAt fo_99_2 rfl) rfl ?_
   refine JH.all1 10 (by kernel_rfl) rfl ?_
   unfold One
   refine JL.store1 ag_66 rfl rfl rfl dl_ z32_ ?_
   refine JL.nil ⟨(br_ h00), ?_⟩
   refine JH.done (by kernel_rfl) ?_
   refine Rg ?_
   refine Ru 1 rfl ?_
   refine JL.op ai_ rfl ?_
   refine Ru 1 rfl ?_
   refine JL.nil ?_
   refine ⟨_, ?_, _, ?_, ⟨_, us ++ [UInt64.ofNat ((sq16[us.length]'hi16).toNat / 4294967296)], _, _, rfl, rfl, rfl, rfl, ⟨by assumption, hQ, hB0, hB1, hL0, hL1, by simp; omega⟩⟩⟩
   ·
    simp; omega
   exact z24_
  have hv8 : us.length = 8 := (by omega)
  refine J.exit ?_
  refine Sr ?_
  refine JL.pub (R := u64R) (l := us) dl_ (cells_lit64 rfl) rfl (by omega) (fun hp hlep hSp => ?_); replace hB0 := hB0.mono hlep; replace hB1 := hB1.mono hlep; replace hL0 := hL0.mono hlep; replace hL1 := hL1.mono hlep
  refine JL.op (RunV.ownA ag_99 rfl mm_ (by first | rfl)) rfl ?_
  refine JL.storeA ag_99 rfl rfl dl_ (by first | rfl) z43_ (by first | rfl) ?_
  refine Nk [2, 3] rfl ?_
  exact J.retR (RetV.cell rfl rfl ag_99 mm_ (by first | rfl)) ⟨_, _, _, _, _, _, _, _, _, _, us, by rw [hv8], hSp, hv8, hB0, hB1, hL0, hL1⟩
theorem wdigest_fn {a : Option Addr} {c : Nat} {l : List UInt8} {h : Part} (hl : SlR u8R 1 h a c l) (hll : l.length ≤ 1000000) : FnR Tryz.prog 55 [.int .i64 256, .slice a l.length c] h (fun v h' => ∃ a c out, v = .tuple #[.slice a 32 c, .int .i64 0] ∧ SlR u8R 1 h' a c out ∧ out.length = 32) := by
  have hcl : cub80.length = 80 := rfl
  refine Fn.intro Tryz.func55 rfl Tryz.ntmps55 rfl (fun e he => ?_)
  refine J.weak [(0, _), (1, _)] ⟨rfl, rfl, trivial⟩ ?_
  have hh0 := Part.le.refl h
  refine Sr ?_
  refine Ru 2 rfl ?_
  refine JL.nil ?_
  refine Sr ?_
  refine Ru 1 rfl ?_
  refine JL.callR ca_81 rfl (ways256) rfl ?_
  rintro _ h1 hle1 ⟨f, fc, g0, c0, g1, c1, k0, d0, k1, d1, F, rfl, hF, hFl, hg0, hg1, hk0, hk1⟩
  replace hl := hl.mono hle1
  replace hh0 := hh0.mono hle1
  refine JL.alloc zr_99 rfl (fun b2 => ?_)
  refine JL.storeA ag_99 rfl rfl dl_ (by first | rfl) z43_ (by first | rfl) ?_
  refine JL.nil ?_
  refine J.seq ?_
  refine Sr ?_
  refine Ru 1 rfl ?_
  refine JL.op (RunV.own1 ag_3 rfl mm_ rfl) rfl ?_
  refine Ru 1 rfl ?_
  refine Nk [19, 6, 5, 4, 1] rfl ?_
  refine Cs rfl (fun hc3 => ?_) fun hc3 => ?_
  ·
   exfalso; cases hc3
  refine J.skip ?_
  refine Sr ?_
  refine JL.callR ca_94 rfl (cubes_fn) rfl ?_
  rintro _ h4 hle4 ⟨ka, kc, rfl, hK⟩
  replace hl := hl.mono hle4
  replace hh0 := hh0.mono hle4
  replace hF := hF.mono hle4
  replace hg0 := hg0.mono hle4
  replace hg1 := hg1.mono hle4
  replace hk0 := hk0.mono hle4
  replace hk1 := hk1.mono hle4
  refine Ru 1 rfl ?_
  refine JL.nil ?_
  refine Sr ?_
  refine Ru 1 rfl ?_
  refine JL.op (RunV.own1 ag_66 rfl mm_ rfl) rfl ?_
  refine Ru 1 rfl ?_
  refine Nk [8, 7, 6, 5, 4, 1] rfl ?_
  refine Sr ?_
  refine JL.op (RunV.ownA ag_99 rfl mm_ (by first | rfl)) rfl ?_
  refine Ru 1 rfl ?_
  refine JL.callR ca_95 rfl (wpad_fn hl hll) rfl ?_
  rintro _ h5 hle5 ⟨pa, pc, P, rfl, hP, hPm, hPl⟩
  replace hl := hl.mono hle5
  replace hh0 := hh0.mono hle5
  replace hF := hF.mono hle5
  replace hg0 := hg0.mono hle5
  replace hg1 := hg1.mono hle5
  replace hk0 := hk0.mono hle5
  replace hk1 := hk1.mono hle5
  replace hK := hK.mono hle5
  refine Ru 1 rfl ?_
  refine JL.nil ?_
  refine Sr ?_
  refine Ru 1 rfl ?_
  refine JL.op (RunV.own1 ag_93 rfl mm_ rfl) rfl ?_
  refine JL.op z34_ rfl ?_
  refine JL.op z10_ rfl ?_
  refine Ru 1 rfl ?_
  refine Nk [10, 9, 8, 7, 6, 5, 4] rfl ?_
  refine J.seq ?_
  refine Sr ?_
  refine Ru 1 rfl ?_
  refine JL.nil ?_
  refine J.block ?_
  refine J.loop (fun t_ S_ h_ L_ => ∃ (g : Part) (i : Nat) (ha : Option Addr) (hc : Nat) (H : List UInt64), t_ = 1200000 - i ∧ S_ = [(6, .pointer (some ⟨b2, 0, none⟩)), (7, .slice ka 80 kc), (8, .slice ha 8 hc), (9, .slice pa P.length pc), (10, .int .i64 64), (11, .int .i64 i)] ∧ g = h_ ∧ L_ = [.blk b2 99 (wayC f g0 g1 k0 k1 fc c0 c1 d0 d1)] ∧ (h.le g ∧ SlR u64R 1 g g0 c0 [2, 13, 22] ∧ SlR u64R 1 g g1 c1 [6, 11, 25] ∧ SlR u64R 1 g k0 d0 [7, 18, 3] ∧ SlR u64R 1 g k1 d1 [17, 19, 10] ∧ SlR u64R 1 g ka kc cub80 ∧ SlR u8R 1 g pa pc P ∧ SlR u64R 1 g ha hc H ∧ H.length = 8 ∧ i % 64 = 0 ∧ i ≤ P.length)) ⟨_, _, ?_, ⟨_, 0, _, _, F, rfl, rfl, rfl, rfl, ⟨hh0, hg0, hg1, hk0, hk1, hK, hP, hF, hFl, by omega, by omega⟩⟩⟩ ?_
  ·
   exact z5_
  rintro _ _ _ _ ⟨g, i, ha, hc, H, rfl, rfl, rfl, rfl, hh0, hg0, hg1, hk0, hk1, hK, hP, hH, hHl, hi, hiP⟩
  refine J.seq ?_
  refine Sr ?_
  refine Ru 4 rfl ?_
  refine JL.nil ?_
  refine Cs rfl (fun hc6 => ?_) fun hc6 => ?_
  ·
   refine J.skip ?_
   refine J.seq ?_
   refine J.block ?_
   refine J.held ([.blk b2 99 (wayC f g0 g1 k0 k1 fc c0 c1 d0 d1)]) 11 mixed_ rfl (fun h00 => ?_)
   refine JH.take 0 rfl (by kernel_rfl) (by kernel_rfl) (by kernel_rfl) (fun _ _ _ _ hh => hh) (br_ h00) (RunV.ownA ag_99 rfl mm_ (by first | rfl)) rfl ?_
   refine JH.take 1 rfl (by kernel_rfl) (by kernel_rfl) (by kernel_rfl) (fun _ _ _ _ hh => hh) (br_ h00) (RunV.move rfl) rfl ?_
   refine JH.take 2 rfl (by kernel_rfl) (by kernel_rfl) (by kernel_rfl) (fun _ _ _ _ hh => hh) (br_ h00) (RunV.move rfl) rfl ?_
   refine JH.take 3 rfl (by kernel_rfl) (by kernel_rfl) (by kernel_rfl) (fun _ _ _ _ hh => hh) (br_ h00) (RunV.move rfl) rfl ?_
   refine JH.take 4 rfl (by kernel_rfl) (by kernel_rfl) (by kernel_rfl) (fun _ _ _ _ hh => hh) (br_ h00) (RunV.move rfl) rfl ?_
   refine JH.take 5 rfl (by kernel_rfl) (by kernel_rfl) (by kernel_rfl) (fun _ _ _ _ hh => hh) (br_ h00) (RunV.move rfl) rfl ?_
   refine JH.take 6 rfl (by kernel_rfl) (by kernel_rfl) (by kernel_rfl) (fun _ _ _ _ hh => hh) (br_ h00) (RunV.move rfl) rfl ?_
   refine JH.take 7 rfl (by kernel_rfl) (by kernel_rfl) (by kernel_rfl) (fun _ _ _ _ hh => hh) (br_ h00) ai_ rfl ?_
   refine JH.takeE 8 rfl (by kernel_rfl) (by kernel_rfl) (by kernel_rfl) (fun _ _ _ _ hh => hh) (br_ h00) (RunE.cut_lh (m := i) (m' := i + 64) sl_22 rfl rfl rfl rfl (by omega) hP rfl (by omega) (by omega)) rfl ?_
   rintro _ ⟨qa, qc, rfl, hS⟩
   obtain ⟨Q, hQe⟩ : ∃ Q, Q = (P.drop i).take (i + 64 - i) := ⟨_, rfl⟩; rw [← hQe] at hS ⊢; have hQl : Q.length = 64 := (by rw [hQe]; simp; omega); rw [hQl]
   refine JH.all1 9 (by kernel_rfl) rfl ?_
   unfold One
   refine JL.callR ca_96 rfl (wblock_fn hK rfl hH hHl hS hQl hg0 hg1 hk0 hk1) rfl ?_
   rintro _ h8 hle8 ⟨na, nc, NH, rfl, hNH, hNl⟩
   replace hh0 := hh0.mono hle8
   replace hg0 := hg0.mono hle8
   replace hg1 := hg1.mono hle8
   replace hk0 := hk0.mono hle8
   replace hk1 := hk1.mono hle8
   replace hK := hK.mono hle8
   replace hP := hP.mono hle8
   replace hH := hH.mono hle8
   refine JL.nil ⟨(br_ h00), ?_⟩
   refine JH.take 10 rfl (by kernel_rfl) (by kernel_rfl) (by kernel_rfl) (fun _ _ _ _ hh => hh) (br_ h00) (RunV.assign rfl) rfl ?_
   refine JH.done (by kernel_rfl) ?_
   refine Rg ?_
   refine Ru 2 rfl ?_
   refine JL.op ai_ rfl ?_
   refine Ru 1 rfl ?_
   refine JL.nil ?_
   refine ⟨_, ?_, _, ?_, ⟨_, i + 64, _, _, NH, rfl, rfl, rfl, rfl, ⟨by assumption, hg0, hg1, hk0, hk1, hK, hP, hNH, hNl, by omega, by omega⟩⟩⟩
   ·
    omega
   exact z5_
  refine J.exit ?_
  refine Kp [6, 8] rfl ?_
  refine Sr ?_
  refine Ru 1 rfl ?_
  refine JL.nil ?_
  refine J.seq ?_
  refine Sr ?_
  refine JL.row_nil 5 1 ?_
  refine Ru 1 rfl ?_
  refine JL.nil ?_
  refine J.block ?_
  refine J.loop (fun t_ S_ h_ L_ => ∃ (i : Nat) (out : List UInt8) (ao : Option Addr) (co : Nat), t_ = 9 - i ∧ S_ = [(6, .pointer (some ⟨b2, 0, none⟩)), (8, .slice ha 8 hc), (12, .slice ao out.length co), (13, .int .i64 i)] ∧ g = h_ ∧ L_ = [.row ao co 5 1 out.length (u8s out), .blk b2 99 (wayC f g0 g1 k0 k1 fc c0 c1 d0 d1)] ∧ (i ≤ 8 ∧ out.length = 4 * i)) ⟨_, _, ?_, ⟨0, [], none, 0, rfl, rfl, rfl, rfl, ⟨by omega, rfl⟩⟩⟩ ?_
  ·
   exact z5_
  rintro _ _ _ _ ⟨i, out, ao, co, rfl, rfl, rfl, rfl, hi2, hol⟩
  refine J.seq ?_
  refine Sr ?_
  refine Ru 2 rfl ?_
  refine JL.nil ?_
  refine Cs rfl (fun hc9 => ?_) fun hc9 => ?_
  ·
   refine J.skip ?_
   refine J.seq ?_
   refine J.block ?_
   refine Sr ?_
   refine Ru 1 rfl ?_
   refine JL.op (RunV.own1 ag_93 rfl mm_ rfl) rfl ?_
   refine JL.op z34_ rfl ?_
   refine JL.op si_ rfl ?_
   refine Ru 1 rfl ?_
   refine JL.nil ?_
   refine J.block ?_
   refine J.loop (fun t_ S_ h_ L_ => ∃ (j : Nat) (out : List UInt8) (ao : Option Addr) (co : Nat), t_ = j + 1 ∧ S_ = [(6, .pointer (some ⟨b2, 0, none⟩)), (8, .slice ha 8 hc), (12, .slice ao out.length co), (13, .int .i64 i), (14, .int .i64 (8 * (j : Int) - 8))] ∧ g = h_ ∧ L_ = [.row ao co 5 1 out.length (u8s out), .blk b2 99 (wayC f g0 g1 k0 k1 fc c0 c1 d0 d1)] ∧ (j ≤ 4 ∧ out.length + j = 4 * (i + 1))) ⟨_, _, ?_, ⟨4, _, _, _, rfl, rfl, rfl, rfl, ⟨by omega, by omega⟩⟩⟩ ?_
   ·
    exact z2_
   rintro _ _ _ _ ⟨j, out, ao, co, rfl, rfl, rfl, rfl, hj, hoj⟩
   refine J.seq ?_
   refine Sr ?_
   refine Ru 2 rfl ?_
   refine JL.nil ?_
   refine Cs rfl (fun hc10 => ?_) fun hc10 => ?_
   ·
    obtain ⟨z, rfl⟩ : ∃ z, j = z + 1 := ⟨j - 1, by omega⟩
    refine J.skip ?_
    refine J.seq ?_
    refine J.block ?_
    refine Rg ?_
    refine Ru 3 rfl ?_
    refine JL.ope (RunE.index (m := i) sl_66 rfl rfl rfl hH hHl.symm (by omega)) rfl ?_
    rintro _ ⟨b11, o11, hi11, rfl, hE11⟩
    refine JL.ope (RunE.partW ag_63 rfl (by assumption)) rfl ?_
    rintro _ ⟨x, hx, rfl⟩
    refine Ru 1 rfl ?_
    refine JL.op z41_ rfl ?_
    refine JL.ope (RunE.shrW hx rfl rfl (by omega) (by omega)) rfl ?_
    rintro _ ⟨y, hy, rfl⟩
    refine JL.op (RunV.toByte y cv_63_5 rfl rfl) rfl ?_
    refine JL.lit1 ap_22 zr_5 rfl rfl rfl rfl rfl (fun b14 => ?_)
    refine JL.append1 ap_22 rfl rfl CellsR.of_u8 rfl dl_ dl_ rfl (rfl) z3_ rfl rfl (fun a15 c15 xs15 hC15 hN15 => ?_)
    obtain rfl := hC15.u8
    refine Ru 1 rfl ?_
    refine JL.nil ?_
    refine Rg ?_
    refine Ru 1 rfl ?_
    refine JL.op si_ rfl ?_
    refine Ru 1 rfl ?_
    refine JL.nil ?_
    refine ⟨_, ?_, _, ?_, ⟨z, _, _, _, rfl, rfl, rfl, rfl, ⟨by omega, by simp; omega⟩⟩⟩
    ·
     omega
    exact z2_
   refine J.exit ?_
   refine Rg ?_
   refine Ru 1 rfl ?_
   refine JL.op ai_ rfl ?_
   refine Ru 1 rfl ?_
   refine JL.nil ?_
   refine ⟨_, ?_, _, ?_, ⟨i + 1, _, _, _, rfl, rfl, rfl, rfl, ⟨by omega, by omega⟩⟩⟩
   ·
    omega
   exact z5_
  have ho32 : out.length = 32 := (by omega)
  refine J.exit ?_
  refine Kp [6, 12] rfl ?_
  refine Sr ?_
  refine JL.pub (R := u8R) (l := out) dl_ CellsR.of_u8 rfl (by omega) (fun hp hlep hSp => ?_)
  refine Ru 2 rfl ?_
  refine JL.op (RunV.own1 ag_3 rfl mm_ rfl) rfl ?_
  refine JL.ope (RunE.cut_h (m := 32) sl_22 rfl rfl rfl hSp rfl (by omega)) rfl ?_
  rintro _ ⟨za, zc, rfl, hZ⟩
  have hz32 : (out.take 32).length = 32 := (by simp [ho32]); rw [hz32]
  refine Ru 2 rfl ?_
  refine Nk [5, 4] rfl ?_
  exact J.retR (RetV.two rfl rfl rfl) ⟨_, _, out.take 32, rfl, hZ, hz32⟩
end Go.Proofs.YtmngjbefnloljaaGreatDoor
namespace Go.Proofs.YtmngjbefnloljaaGreatDoor
open Go Go.RowKit
set_option maxRecDepth 100000
theorem ca_20 : callT Tryz.prog 20 = true := by kernel_rfl
theorem ca_55 : callT Tryz.prog 55 = true := by kernel_rfl
theorem kept_all : ((List.range 12).all fun i => rightB (keyN i) (keyE i) (vL (expL i)) && decide (62 ≤ sizeB (keyN i) ∧ sizeB (keyN i) ≤ 512 ∧ bl (vL (expL i)) ≠ 0) && decide ((toL (keyN i)).length ≤ 100 ∧ (toL (keyE i)).length ≤ 100 ∧ (expL i).length ≤ 100)) = true := by decide +kernel
theorem kept_one {i : Nat} (hi : i < 12) : rightB (keyN i) (keyE i) (vL (expL i)) = true ∧ (62 ≤ sizeB (keyN i) ∧ sizeB (keyN i) ≤ 512 ∧ bl (vL (expL i)) ≠ 0) ∧ (toL (keyN i)).length ≤ 100 ∧ (toL (keyE i)).length ≤ 100 ∧ (expL i).length ≤ 100 := by
  have := List.all_eq_true.1 kept_all i (List.mem_range.2 hi)
  simp only [Bool.and_eq_true, decide_eq_true_eq] at this
  exact ⟨this.1.1, this.1.2, this.2⟩
end Go.Proofs.YtmngjbefnloljaaGreatDoor
namespace Go.Proofs.YtmngjbefnloljaaGreatDoor
open Go Go.RowKit
def Pr (p : Nat) : Prop := 2 ≤ p ∧ ∀ d, d ∣ p → d = 1 ∨ d = p
theorem Pr.co {p a : Nat} (hp : Pr p) (h : ¬ p ∣ a) : Nat.gcd p a = 1 := by
  rcases hp.2 _ (Nat.gcd_dvd_left p a) with h1 | h1
  · exact h1
  · exact absurd (h1 ▸ Nat.gcd_dvd_right p a) h
theorem Pr.split {p a b : Nat} (hp : Pr p) (h : p ∣ a * b) : p ∣ a ∨ p ∣ b := by
  by_cases ha : p ∣ a
  · exact .inl ha
  · exact .inr (Nat.Coprime.dvd_of_dvd_mul_left (hp.co ha) h)
theorem pr_dvd : ∀ (b n : Nat), n ≤ b → 2 ≤ n → ∃ r, Pr r ∧ r ∣ n
  | 0, n, hb, h2 => by omega
  | b + 1, n, hb, h2 => by
    by_cases h : ∃ d, d ∣ n ∧ d ≠ 1 ∧ d ≠ n
    · obtain ⟨d, hd, h1, hn⟩ := h
      have hle := Nat.le_of_dvd (by omega) hd
      have h0 : d ≠ 0 := fun e => by subst e; have := Nat.zero_dvd.1 hd; omega
      obtain ⟨r, hr, hrd⟩ := pr_dvd b d (by omega) (by omega)
      exact ⟨r, hr, Nat.dvd_trans hrd hd⟩
    · refine ⟨n, ⟨h2, fun d hd => ?_⟩, Nat.dvd_refl n⟩
      by_cases h1 : d = 1
      · exact .inl h1
      · by_cases hn : d = n
        · exact .inr hn
        · exact absurd ⟨d, hd, h1, hn⟩ h
def ch : Nat → Nat → Nat
  | _, 0 => 1
  | 0, _ + 1 => 0
  | n + 1, k + 1 => ch n k + ch n (k + 1)
theorem ch_z : ∀ n k, n < k → ch n k = 0
  | 0, k + 1, _ => rfl
  | n + 1, k + 1, h => by rw [ch, ch_z n k (by omega), ch_z n (k + 1) (by omega)]
theorem ch_n : ∀ n, ch n n = 1
  | 0 => rfl
  | n + 1 => by rw [ch, ch_n n, ch_z n (n + 1) (by omega)]
theorem ch_ab : ∀ n k, (k + 1) * ch (n + 1) (k + 1) = (n + 1) * ch n k
  | 0, 0 => rfl
  | 0, k + 1 => by
    rw [ch_z (0 + 1) (k + 1 + 1) (by omega), ch_z 0 (k + 1) (by omega)]; omega
  | n + 1, 0 => by
    have := ch_ab n 0
    rw [ch]
    simp only [ch] at this ⊢
    omega
  | n + 1, j + 1 => by
    have h1 := ch_ab n j
    have h2 := ch_ab n (j + 1)
    rw [ch, Nat.mul_add, h2]
    have e1 : ch (n + 1) (j + 1) = ch n j + ch n (j + 1) := rfl
    have e2 : (j + 1 + 1) * ch (n + 1) (j + 1) = ch (n + 1) (j + 1) + (j + 1) * ch (n + 1) (j + 1) := by rw [Nat.add_mul (j + 1) 1]; omega
    have e3 : (n + 1 + 1) * ch (n + 1) (j + 1) = ch (n + 1) (j + 1) + (n + 1) * ch (n + 1) (j + 1) := by rw [Nat.add_mul (n + 1) 1]; omega
    rw [e2, h1, e3, e1, Nat.mul_add]
    omega
def bsm (a n : Nat) : Nat → Nat
  | 0 => 0
  | m + 1 => bsm a n m + ch n m * a ^ m
theorem bsm_s (a n : Nat) : ∀ m, bsm a (n + 1) (m + 1) = bsm a n (m + 1) + a * bsm a n m
  | 0 => by simp [bsm, ch]
  | m + 1 => by
    have ih := bsm_s a n m
    rw [bsm, ih]
    have e : ch (n + 1) (m + 1) = ch n m + ch n (m + 1) := rfl
    rw [e]
    have e2 : bsm a n (m + 1 + 1) = bsm a n (m + 1) + ch n (m + 1) * a ^ (m + 1) := rfl
    have e3 : bsm a n (m + 1) = bsm a n m + ch n m * a ^ m := rfl
    have e4 : a * bsm a n (m + 1) = a * bsm a n m + ch n m * a ^ (m + 1) := by rw [e3, Nat.mul_add, Nat.pow_succ]; congr 1; rw [Nat.mul_left_comm, Nat.mul_comm a (a ^ m)]
    rw [e2, e4, Nat.add_mul]
    omega
theorem binom (a : Nat) : ∀ n, (a + 1) ^ n = bsm a n (n + 1)
  | 0 => by simp [bsm, ch]
  | n + 1 => by
    have ih := binom a n
    have e1 : bsm a n (n + 1 + 1) = bsm a n (n + 1) := by rw [bsm, ch_z n (n + 1) (by omega), Nat.zero_mul, Nat.add_zero]
    rw [bsm_s, e1, ← ih, Nat.pow_succ, Nat.mul_add, Nat.mul_one, Nat.mul_comm a]
    omega
theorem ch_dvd {p : Nat} (hp : Pr p) {k : Nat} (h0 : 0 < k) (h1 : k < p) : p ∣ ch p k := by
  obtain ⟨n, rfl⟩ : ∃ n, p = n + 1 := ⟨p - 1, by omega⟩
  obtain ⟨j, rfl⟩ : ∃ j, k = j + 1 := ⟨k - 1, by omega⟩
  have h := ch_ab n j
  have hd : (n + 1) ∣ (j + 1) * ch (n + 1) (j + 1) := ⟨ch n j, h⟩
  rcases hp.split hd with h2 | h2
  · have := Nat.le_of_dvd (by omega) h2; omega
  · exact h2
theorem bsm_mod {p : Nat} (hp : Pr p) (a : Nat) : ∀ m, m + 1 ≤ p → bsm a p (m + 1) % p = 1 % p
  | 0, _ => by simp [bsm, ch]
  | m + 1, h => by
    rw [bsm, Nat.add_mod, bsm_mod hp a m (by omega)]
    obtain ⟨c, hc⟩ := ch_dvd hp (k := m + 1) (by omega) (by omega)
    rw [hc, Nat.mul_assoc, Nat.mul_mod_right]
    simp
theorem fermat {p : Nat} (hp : Pr p) : ∀ a, a ^ p % p = a % p
  | 0 => by
    have := hp.1
    rw [Nat.zero_pow (by omega)]
  | a + 1 => by
    have h2 := hp.1
    rw [binom, bsm, ch_n, Nat.one_mul, Nat.add_mod, fermat hp a]
    have := bsm_mod hp a (p - 1) (by omega)
    rw [Nat.sub_add_cancel (by omega)] at this
    rw [this, ← Nat.add_mod, Nat.add_comm]
theorem fermat1 {p a : Nat} (hp : Pr p) (h : ¬ p ∣ a) : a ^ (p - 1) % p = 1 := by
  have h2 := hp.1
  have hf := fermat hp a
  have e : a ^ p = a * a ^ (p - 1) := by
    conv => lhs; rw [show p = p - 1 + 1 by omega]
    rw [Nat.pow_succ, Nat.mul_comm]
  have h1 : 1 ≤ a ^ (p - 1) := Nat.pos_of_ne_zero fun e0 => by
    have ha : a = 0 := by
      rcases Nat.eq_zero_or_pos a with h3 | h3
      · exact h3
      · exact absurd e0 (Nat.ne_of_gt (Nat.pow_pos h3))
    exact h (ha ▸ Nat.dvd_zero p)
  rw [e] at hf
  have hd : p ∣ a * a ^ (p - 1) - a := Nat.dvd_of_mod_eq_zero (Nat.sub_mod_eq_zero_of_mod_eq hf)
  have hd2 : p ∣ a * (a ^ (p - 1) - 1) := by rw [Nat.mul_sub, Nat.mul_one]; exact hd
  rcases hp.split hd2 with h3 | h3
  · exact absurd h3 h
  · obtain ⟨c, hc⟩ := h3
    have e2 : a ^ (p - 1) = 1 + p * c := by omega
    rw [e2, Nat.add_mul_mod_self_left, Nat.mod_eq_of_lt (by omega)]
theorem pow_gcd {a r : Nat} (h2 : 2 ≤ r) : ∀ m n, a ^ m % r = 1 → a ^ n % r = 1 → a ^ Nat.gcd m n % r = 1 := by
  intro m n
  induction m, n using Nat.gcd.induction with
  | H0 n => intro _ h; simpa using h
  | H1 m n hm ih =>
    intro h1 h3
    rw [Nat.gcd_rec]
    refine ih ?_ h1
    have e : a ^ n = (a ^ m) ^ (n / m) * a ^ (n % m) := by rw [← Nat.pow_mul, ← Nat.pow_add, Nat.div_add_mod]
    rw [e, Nat.mul_mod, Nat.pow_mod, h1, Nat.one_pow, Nat.mod_eq_of_lt (show 1 < r by omega), Nat.one_mul, Nat.mod_mod] at h3
    exact h3
theorem pk_one {N q a r : Nat} (hN : 2 ≤ N) (hq : Pr q) (hd : q ∣ N - 1) (h1 : a ^ (N - 1) % N = 1) (h2 : Nat.gcd (a ^ ((N - 1) / q) % N + (N - 1)) N = 1) (hr : Pr r) (hrN : r ∣ N) : q ∣ r - 1 := by
  have hr2 := hr.1
  have hm : ∀ x, x % N % r = x % r := fun x => Nat.mod_mod_of_dvd x hrN
  have h1r : a ^ (N - 1) % r = 1 := by rw [← hm, h1, Nat.mod_eq_of_lt (by omega)]
  have hra : ¬ r ∣ a := fun hh => by
    have : r ∣ a ^ (N - 1) := Nat.dvd_trans hh (by rw [show N - 1 = (N - 2) + 1 by omega, Nat.pow_succ]; exact Nat.dvd_mul_left ..)
    rw [Nat.mod_eq_zero_of_dvd this] at h1r
    omega
  have hg := pow_gcd hr2 _ _ (fermat1 hr hra) h1r
  refine Decidable.byContradiction fun hn => ?_
  have hc : Nat.gcd (Nat.gcd (r - 1) (N - 1)) q = 1 := by
    rw [Nat.gcd_comm]
    exact hq.co fun hh => hn (Nat.dvd_trans hh (Nat.gcd_dvd_left ..))
  have hdv : Nat.gcd (r - 1) (N - 1) ∣ (N - 1) / q := by
    have h3 : Nat.gcd (r - 1) (N - 1) ∣ q * ((N - 1) / q) := by rw [Nat.mul_div_cancel' hd]; exact Nat.gcd_dvd_right ..
    exact Nat.Coprime.dvd_of_dvd_mul_left hc h3
  obtain ⟨c, hc2⟩ := hdv
  have h4 : a ^ ((N - 1) / q) % r = 1 := by rw [hc2, Nat.pow_mul, Nat.pow_mod, hg, Nat.one_pow, Nat.mod_eq_of_lt (by omega)]
  have h5 : r ∣ a ^ ((N - 1) / q) % N + (N - 1) := by
    refine Nat.dvd_of_mod_eq_zero ?_
    obtain ⟨k, hk⟩ := hrN
    have : (a ^ ((N - 1) / q) % N + (N - 1)) % r = (a ^ ((N - 1) / q) % N % r + (N - 1)) % r := (Nat.mod_add_mod _ _ _).symm
    rw [this, Nat.mod_mod_of_dvd _ ⟨k, hk⟩, h4, show 1 + (N - 1) = N by omega, hk, Nat.mul_mod_right]
  have h6 := Nat.dvd_gcd h5 hrN
  rw [h2] at h6
  have := Nat.le_of_dvd (by decide) h6
  omega
theorem co_all {q m : Nat} (hq : Pr q) : ∀ (l : List Nat), (∀ x ∈ l, Pr x) → q ∉ l → Nat.gcd q (l.foldr (· * ·) 1) = 1
  | [], _, _ => by simp
  | x :: l, hp, hn => by
    simp only [List.mem_cons, not_or] at hn
    refine hq.co fun hd => ?_
    rw [List.foldr_cons] at hd
    rcases hq.split hd with h | h
    · rcases (hp x (List.mem_cons_self ..)).2 q h with h1 | h1
      · have := hq.1; omega
      · exact hn.1 h1
    · have h1 := co_all (m := m) hq l (fun y hy => hp y (List.mem_cons_of_mem _ hy)) hn.2
      have h2 := Nat.dvd_gcd (Nat.dvd_refl q) h
      rw [h1] at h2
      have := Nat.le_of_dvd (by decide) h2
      have := hq.1
      omega
theorem all_dvd {n : Nat} : ∀ (l : List Nat), (∀ x ∈ l, Pr x ∧ x ∣ n) → l.Nodup → l.foldr (· * ·) 1 ∣ n
  | [], _, _ => Nat.one_dvd n
  | x :: l, hp, hn => by
    rw [List.nodup_cons] at hn
    have hx := hp x (List.mem_cons_self ..)
    have ih := all_dvd l (fun y hy => hp y (List.mem_cons_of_mem _ hy)) hn.2
    have hc := co_all (m := 0) hx.1 l (fun y hy => (hp y (List.mem_cons_of_mem _ hy)).1) hn.1
    exact Nat.Coprime.mul_dvd_of_dvd_of_dvd hc hx.2 ih
def pkB (f N : Nat) (c : Nat × Nat) : Bool := (N - 1) % c.1 == 0 && (mp f c.2 (N - 1) N == 1 && Nat.gcd (mp f c.2 ((N - 1) / c.1) N + (N - 1)) N == 1)
def pkA (f N : Nat) (l : List (Nat × Nat)) : Bool := decide (2 ≤ N ∧ N < 2 ^ f) && (l.all (pkB f N) && (decide (l.map (·.1)).Nodup && decide (N ≤ (l.map (·.1)).foldr (· * ·) 1 * (l.map (·.1)).foldr (· * ·) 1)))
theorem pk_ok {f N : Nat} {l : List (Nat × Nat)} (h : pkA f N l = true) (hp : ∀ c ∈ l, Pr c.1) : Pr N := by
  unfold pkA at h
  simp only [Bool.and_eq_true, decide_eq_true_eq, List.all_eq_true] at h
  obtain ⟨⟨hN, hf⟩, hl, hd, hs⟩ := h
  have key : ∀ r, Pr r → r ∣ N → (l.map (·.1)).foldr (· * ·) 1 < r := fun r hr hrN => by
    have h1 : (l.map (·.1)).foldr (· * ·) 1 ∣ r - 1 := all_dvd _ (fun x hx => by
      obtain ⟨c, hc, rfl⟩ := List.mem_map.1 hx
      have h2 := hl c hc
      unfold pkB at h2
      simp only [Bool.and_eq_true, beq_iff_eq] at h2
      obtain ⟨h3, h4, h5⟩ := h2
      have hlt : (N - 1) / c.1 < 2 ^ f := Nat.lt_of_le_of_lt (Nat.div_le_self ..) (by omega)
      rw [mp_ok f _ _ _ (by omega)] at h4
      rw [mp_ok f _ _ _ hlt] at h5
      exact ⟨hp c hc, pk_one hN (hp c hc) (Nat.dvd_of_mod_eq_zero h3) h4 h5 hr hrN⟩) hd
    have := Nat.le_of_dvd (by have := hr.1; omega) h1
    have := hr.1
    omega
  refine ⟨hN, fun d hdN => ?_⟩
  refine Decidable.byContradiction fun hn => ?_
  have hd1 : d ≠ 1 := fun e => hn (.inl e)
  have hdN' : d ≠ N := fun e => hn (.inr e)
  obtain ⟨e, he⟩ := hdN
  have hd0 : d ≠ 0 := fun e0 => by subst e0; rw [Nat.zero_mul] at he; omega
  have he0 : e ≠ 0 := fun e0 => by subst e0; rw [Nat.mul_zero] at he; omega
  have he1 : e ≠ 1 := fun e1 => by subst e1; rw [Nat.mul_one] at he; exact hdN' he.symm
  obtain ⟨r1, hr1, hrd1⟩ := pr_dvd d d (Nat.le_refl _) (by omega)
  obtain ⟨r2, hr2, hrd2⟩ := pr_dvd e e (Nat.le_refl _) (by omega)
  have k1 := key r1 hr1 (Nat.dvd_trans hrd1 ⟨e, he⟩)
  have k2 := key r2 hr2 (Nat.dvd_trans hrd2 ⟨d, by rw [he, Nat.mul_comm]⟩)
  have l1 := Nat.le_of_dvd (by omega) hrd1
  have l2 := Nat.le_of_dvd (by omega) hrd2
  have := Nat.mul_lt_mul_of_lt_of_lt (Nat.lt_of_lt_of_le k1 l1) (Nat.lt_of_lt_of_le k2 l2)
  rw [← he] at this
  omega
def tdB (p : Nat) : Nat → Nat → Bool
  | 0, _ => false
  | f + 1, d => if p < d * d then true else if p % d == 0 then false else tdB p f (d + 1)
theorem td_ok {p : Nat} : ∀ f d, 2 ≤ d → tdB p f d = true → ∀ x, d ≤ x → x * x ≤ p → ¬ x ∣ p
  | 0, _, _, h => by cases h
  | f + 1, d, h2, h => by
    unfold tdB at h
    split at h
    · rename_i h1
      intro x hx hxx
      have := Nat.mul_le_mul hx hx
      omega
    · split at h
      · cases h
      · rename_i h3
        intro x hx hxx hd
        by_cases he : x = d
        · subst he
          exact h3 (by simpa using Nat.mod_eq_zero_of_dvd hd)
        · exact td_ok f (d + 1) (by omega) h x (by omega) hxx hd
theorem pr_small {p f : Nat} (h2 : 2 ≤ p) (h : tdB p f 2 = true) : Pr p := by
  refine ⟨h2, fun d hd => Decidable.byContradiction fun hn => ?_⟩
  obtain ⟨e, he⟩ := hd
  have h1 : d ≠ 1 := fun h => hn (.inl h)
  have h3 : d ≠ p := fun h => hn (.inr h)
  have hd0 : d ≠ 0 := fun e0 => by subst e0; rw [Nat.zero_mul] at he; omega
  have he0 : e ≠ 0 := fun e0 => by subst e0; rw [Nat.mul_zero] at he; omega
  have he1 : e ≠ 1 := fun e1 => by subst e1; rw [Nat.mul_one] at he; exact h3 he.symm
  rcases Nat.le_total d e with hde | hde
  · exact td_ok f 2 (by decide) h d (by omega) (by rw [he]; exact Nat.mul_le_mul_left d hde) ⟨e, he⟩
  · exact td_ok f 2 (by decide) h e (by omega) (by rw [he]; exact Nat.mul_le_mul_right e hde) ⟨d, by rw [he, Nat.mul_comm]⟩
theorem rsa_one {p m E : Nat} (hp : Pr p) (hE : E % (p - 1) = 1 % (p - 1)) (h1 : 1 ≤ E) : m ^ E % p = m % p := by
  have h2 := hp.1
  by_cases hd : p ∣ m
  · have : p ∣ m ^ E := Nat.dvd_trans hd (by rw [show E = E - 1 + 1 by omega, Nat.pow_succ]; exact Nat.dvd_mul_left ..)
    rw [Nat.mod_eq_zero_of_dvd hd, Nat.mod_eq_zero_of_dvd this]
  · obtain ⟨k, hk⟩ : p - 1 ∣ E - 1 := Nat.dvd_of_mod_eq_zero (Nat.sub_mod_eq_zero_of_mod_eq hE)
    have e : E = (p - 1) * k + 1 := by omega
    rw [e, Nat.pow_succ, Nat.pow_mul, Nat.mul_mod, Nat.pow_mod, fermat1 hp hd, Nat.one_pow, Nat.mod_eq_of_lt (show 1 < p by omega), Nat.one_mul, Nat.mod_mod]
theorem rsa_back {p q m E : Nat} (hp : Pr p) (hq : Pr q) (hne : p ≠ q) (h1 : 1 ≤ E) (hE : E % (p - 1) = 1 % (p - 1)) (hE2 : E % (q - 1) = 1 % (q - 1)) : m ^ E % (p * q) = m % (p * q) := by
  have a := rsa_one (m := m) hp hE h1
  have b := rsa_one (m := m) hq hE2 h1
  have hc : Nat.gcd p q = 1 := hp.co fun hd => by
    rcases hq.2 p hd with h | h
    · have := hp.1; omega
    · exact hne h
  have hle : m ≤ m ^ E := by
    rcases Nat.eq_zero_or_pos m with h0 | h0
    · subst h0; exact Nat.zero_le _
    · calc m = m ^ 1 := (Nat.pow_one m).symm
        _ ≤ m ^ E := Nat.pow_le_pow_right h0 h1
  have d1 : p ∣ m ^ E - m := Nat.dvd_of_mod_eq_zero (Nat.sub_mod_eq_zero_of_mod_eq a)
  have d2 : q ∣ m ^ E - m := Nat.dvd_of_mod_eq_zero (Nat.sub_mod_eq_zero_of_mod_eq b)
  obtain ⟨k, hk⟩ := Nat.Coprime.mul_dvd_of_dvd_of_dvd hc d1 d2
  have e : m ^ E = m + p * q * k := by omega
  rw [e, Nat.add_mul_mod_self_left]
end Go.Proofs.YtmngjbefnloljaaGreatDoor
namespace Go.Proofs.YtmngjbefnloljaaGreatDoor
open Go Go.RowKit
set_option maxRecDepth 100000
theorem sm_ok : ([19, 37, 103, 127, 151, 173, 223, 317, 683, 863, 991, 1109, 1381, 1433, 2731, 4153, 8191, 23609, 36151, 49481, 51481, 61681, 87881, 184711, 409891, 419527, 430751, 447859, 569003, 603103, 702529, 842887, 858001, 973591, 1458599] : List Nat).all (fun p => decide (2 ≤ p) && tdB p 2000 2) = true := by decide +kernel
theorem sm {p : Nat} (h : p ∈ ([19, 37, 103, 127, 151, 173, 223, 317, 683, 863, 991, 1109, 1381, 1433, 2731, 4153, 8191, 23609, 36151, 49481, 51481, 61681, 87881, 184711, 409891, 419527, 430751, 447859, 569003, 603103, 702529, 842887, 858001, 973591, 1458599] : List Nat)) : Pr p := by
  have := List.all_eq_true.1 sm_ok p h
  rw [Bool.and_eq_true, decide_eq_true_eq] at this
  exact pr_small this.1 this.2
theorem cr0 : Pr 14220365526706201077871 := pk_ok (f := 74) (l := [(973591, 2), (87881, 2), (36151, 2)]) (by decide +kernel) (by
  intro c hc
  simp only [List.mem_cons, List.not_mem_nil, or_false] at hc
  rcases hc with rfl | rfl | rfl
  · exact sm (by decide)
  · exact sm (by decide)
  · exact sm (by decide))
theorem cr1 : Pr 10262543633 := pk_ok (f := 34) (l := [(702529, 2)]) (by decide +kernel) (by
  intro c hc
  simp only [List.mem_cons, List.not_mem_nil, or_false] at hc
  subst hc; exact sm (by decide))
theorem cr2 : Pr 246301047193 := pk_ok (f := 38) (l := [(10262543633, 2)]) (by decide +kernel) (by
  intro c hc
  simp only [List.mem_cons, List.not_mem_nil, or_false] at hc
  subst hc; exact cr1)
theorem cr3 : Pr 68964293214041 := pk_ok (f := 46) (l := [(246301047193, 2)]) (by decide +kernel) (by
  intro c hc
  simp only [List.mem_cons, List.not_mem_nil, or_false] at hc
  subst hc; exact cr2)
theorem cr4 : Pr 23236691026952546459 := pk_ok (f := 65) (l := [(68964293214041, 2)]) (by decide +kernel) (by
  intro c hc
  simp only [List.mem_cons, List.not_mem_nil, or_false] at hc
  subst hc; exact cr3)
theorem cr5 : Pr 440208639276132997491800604758226661590679912188273141493 := pk_ok (f := 189) (l := [(14220365526706201077871, 2), (23236691026952546459, 2)]) (by decide +kernel) (by
  intro c hc
  simp only [List.mem_cons, List.not_mem_nil, or_false] at hc
  rcases hc with rfl | rfl
  · exact cr0
  · exact cr4)
theorem cr6 : Pr 115792089237316195423570985008687907853269984665640564039457584007913129639747 := pk_ok (f := 256) (l := [(440208639276132997491800604758226661590679912188273141493, 2)]) (by decide +kernel) (by
  intro c hc
  simp only [List.mem_cons, List.not_mem_nil, or_false] at hc
  subst hc; exact cr5)
theorem cr7 : Pr 8574133 := pk_ok (f := 24) (l := [(991, 2), (103, 2)]) (by decide +kernel) (by
  intro c hc
  simp only [List.mem_cons, List.not_mem_nil, or_false] at hc
  rcases hc with rfl | rfl
  · exact sm (by decide)
  · exact sm (by decide))
theorem cr8 : Pr 1919519569386763 := pk_ok (f := 51) (l := [(8574133, 2), (127, 2)]) (by decide +kernel) (by
  intro c hc
  simp only [List.mem_cons, List.not_mem_nil, or_false] at hc
  rcases hc with rfl | rfl
  · exact cr7
  · exact sm (by decide))
theorem cr9 : Pr 2773320623 := pk_ok (f := 32) (l := [(569003, 2)]) (by decide +kernel) (by
  intro c hc
  simp only [List.mem_cons, List.not_mem_nil, or_false] at hc
  subst hc; exact sm (by decide))
theorem cr10 : Pr 72106336199 := pk_ok (f := 37) (l := [(2773320623, 2)]) (by decide +kernel) (by
  intro c hc
  simp only [List.mem_cons, List.not_mem_nil, or_false] at hc
  subst hc; exact cr9)
theorem cr11 : Pr 75445702479781427272750846543864801 := pk_ok (f := 116) (l := [(1919519569386763, 2), (72106336199, 2)]) (by decide +kernel) (by
  intro c hc
  simp only [List.mem_cons, List.not_mem_nil, or_false] at hc
  rcases hc with rfl | rfl
  · exact cr8
  · exact cr10)
theorem cr12 : Pr 31757755568855353 := pk_ok (f := 55) (l := [(430751, 2), (4153, 2)]) (by decide +kernel) (by
  intro c hc
  simp only [List.mem_cons, List.not_mem_nil, or_false] at hc
  rcases hc with rfl | rfl
  · exact sm (by decide)
  · exact sm (by decide))
theorem cr13 : Pr 74058212732561358302231226437062788676166966415465897661863160754340907 := pk_ok (f := 236) (l := [(75445702479781427272750846543864801, 2), (31757755568855353, 2)]) (by decide +kernel) (by
  intro c hc
  simp only [List.mem_cons, List.not_mem_nil, or_false] at hc
  rcases hc with rfl | rfl
  · exact cr11
  · exact cr12)
theorem cr14 : Pr 57896044618658097711785492504343953926634992332820282019728792003956564819949 := pk_ok (f := 255) (l := [(74058212732561358302231226437062788676166966415465897661863160754340907, 2)]) (by decide +kernel) (by
  intro c hc
  simp only [List.mem_cons, List.not_mem_nil, or_false] at hc
  subst hc; exact cr13)
theorem cr15 : Pr 13632489247711 := pk_ok (f := 44) (l := [(1458599, 2), (863, 2)]) (by decide +kernel) (by
  intro c hc
  simp only [List.mem_cons, List.not_mem_nil, or_false] at hc
  rcases hc with rfl | rfl
  · exact sm (by decide)
  · exact sm (by decide))
theorem cr16 : Pr 31899288685224363607 := pk_ok (f := 65) (l := [(13632489247711, 2)]) (by decide +kernel) (by
  intro c hc
  simp only [List.mem_cons, List.not_mem_nil, or_false] at hc
  subst hc; exact cr15)
theorem cr17 : Pr 60126941426599669447189234697 := pk_ok (f := 96) (l := [(31899288685224363607, 2)]) (by decide +kernel) (by
  intro c hc
  simp only [List.mem_cons, List.not_mem_nil, or_false] at hc
  subst hc; exact cr16)
theorem cr18 : Pr 747028813 := pk_ok (f := 30) (l := [(447859, 2)]) (by decide +kernel) (by
  intro c hc
  simp only [List.mem_cons, List.not_mem_nil, or_false] at hc
  subst hc; exact sm (by decide))
theorem cr19 : Pr 68272457277697 := pk_ok (f := 46) (l := [(747028813, 2)]) (by decide +kernel) (by
  intro c hc
  simp only [List.mem_cons, List.not_mem_nil, or_false] at hc
  subst hc; exact cr18)
theorem cr20 : Pr 58046022126052663018522713286279169250844263723568937103399901 := pk_ok (f := 206) (l := [(60126941426599669447189234697, 2), (68272457277697, 2)]) (by decide +kernel) (by
  intro c hc
  simp only [List.mem_cons, List.not_mem_nil, or_false] at hc
  rcases hc with rfl | rfl
  · exact cr17
  · exact cr19)
theorem cr21 : Pr 115792089237316195423570985008687907853269984665640564039457584007913129639579 := pk_ok (f := 256) (l := [(58046022126052663018522713286279169250844263723568937103399901, 2)]) (by decide +kernel) (by
  intro c hc
  simp only [List.mem_cons, List.not_mem_nil, or_false] at hc
  subst hc; exact cr20)
theorem cr22 : Pr 1864388056649 := pk_ok (f := 41) (l := [(419527, 2), (173, 2)]) (by decide +kernel) (by
  intro c hc
  simp only [List.mem_cons, List.not_mem_nil, or_false] at hc
  rcases hc with rfl | rfl
  · exact sm (by decide)
  · exact sm (by decide))
theorem cr23 : Pr 41113485425223749 := pk_ok (f := 56) (l := [(1864388056649, 2)]) (by decide +kernel) (by
  intro c hc
  simp only [List.mem_cons, List.not_mem_nil, or_false] at hc
  subst hc; exact cr22)
theorem cr24 : Pr 5519485418336288303251 := pk_ok (f := 73) (l := [(41113485425223749, 3)]) (by decide +kernel) (by
  intro c hc
  simp only [List.mem_cons, List.not_mem_nil, or_false] at hc
  subst hc; exact cr23)
theorem cr25 : Pr 4710883168879506001 := pk_ok (f := 63) (l := [(842887, 3), (184711, 3)]) (by decide +kernel) (by
  intro c hc
  simp only [List.mem_cons, List.not_mem_nil, or_false] at hc
  rcases hc with rfl | rfl
  · exact sm (by decide)
  · exact sm (by decide))
theorem cr26 : Pr 57896044618658097711785492504343953926634992332820282019728792003956564819937 := pk_ok (f := 255) (l := [(5519485418336288303251, 2), (4710883168879506001, 2)]) (by decide +kernel) (by
  intro c hc
  simp only [List.mem_cons, List.not_mem_nil, or_false] at hc
  rcases hc with rfl | rfl
  · exact cr24
  · exact cr25)
theorem cr27 : Pr 191752980233 := pk_ok (f := 38) (l := [(603103, 2)]) (by decide +kernel) (by
  intro c hc
  simp only [List.mem_cons, List.not_mem_nil, or_false] at hc
  subst hc; exact sm (by decide))
theorem cr28 : Pr 1684562129 := pk_ok (f := 31) (l := [(1109, 2), (683, 2)]) (by decide +kernel) (by
  intro c hc
  simp only [List.mem_cons, List.not_mem_nil, or_false] at hc
  rcases hc with rfl | rfl
  · exact sm (by decide)
  · exact sm (by decide))
theorem cr29 : Pr 4256108998421884090447033 := pk_ok (f := 82) (l := [(191752980233, 2), (1684562129, 2)]) (by decide +kernel) (by
  intro c hc
  simp only [List.mem_cons, List.not_mem_nil, or_false] at hc
  rcases hc with rfl | rfl
  · exact cr27
  · exact cr28)
theorem cr30 : Pr 226383580007948671454741876052149460081859 := pk_ok (f := 138) (l := [(4256108998421884090447033, 2)]) (by decide +kernel) (by
  intro c hc
  simp only [List.mem_cons, List.not_mem_nil, or_false] at hc
  subst hc; exact cr29)
theorem cr31 : Pr 152401426061351045623332230958307016527107478801 := pk_ok (f := 157) (l := [(226383580007948671454741876052149460081859, 2)]) (by decide +kernel) (by
  intro c hc
  simp only [List.mem_cons, List.not_mem_nil, or_false] at hc
  subst hc; exact cr30)
theorem cr32 : Pr 231584178474632390847141970017375815706539969331281128078915168015826259279779 := pk_ok (f := 257) (l := [(152401426061351045623332230958307016527107478801, 2)]) (by decide +kernel) (by
  intro c hc
  simp only [List.mem_cons, List.not_mem_nil, or_false] at hc
  subst hc; exact cr31)
theorem cr33 : Pr 8620289 := pk_ok (f := 24) (l := [(223, 2), (151, 2)]) (by decide +kernel) (by
  intro c hc
  simp only [List.mem_cons, List.not_mem_nil, or_false] at hc
  rcases hc with rfl | rfl
  · exact sm (by decide)
  · exact sm (by decide))
theorem cr34 : Pr 2534364967 := pk_ok (f := 32) (l := [(8620289, 2)]) (by decide +kernel) (by
  intro c hc
  simp only [List.mem_cons, List.not_mem_nil, or_false] at hc
  subst hc; exact cr33)
theorem cr35 : Pr 145295143558111 := pk_ok (f := 48) (l := [(2534364967, 3)]) (by decide +kernel) (by
  intro c hc
  simp only [List.mem_cons, List.not_mem_nil, or_false] at hc
  subst hc; exact cr34)
theorem cr36 : Pr 108140989558681 := pk_ok (f := 47) (l := [(23609, 3), (1433, 3)]) (by decide +kernel) (by
  intro c hc
  simp only [List.mem_cons, List.not_mem_nil, or_false] at hc
  rcases hc with rfl | rfl
  · exact sm (by decide)
  · exact sm (by decide))
theorem cr37 : Pr 308761441 := pk_ok (f := 29) (l := [(49481, 3)]) (by decide +kernel) (by
  intro c hc
  simp only [List.mem_cons, List.not_mem_nil, or_false] at hc
  subst hc; exact sm (by decide))
theorem cr38 : Pr 34110701 := pk_ok (f := 26) (l := [(1381, 3), (19, 3)]) (by decide +kernel) (by
  intro c hc
  simp only [List.mem_cons, List.not_mem_nil, or_false] at hc
  rcases hc with rfl | rfl
  · exact sm (by decide)
  · exact sm (by decide))
theorem cr39 : Pr 7623851 := pk_ok (f := 23) (l := [(317, 3), (37, 3)]) (by decide +kernel) (by
  intro c hc
  simp only [List.mem_cons, List.not_mem_nil, or_false] at hc
  rcases hc with rfl | rfl
  · exact sm (by decide)
  · exact sm (by decide))
theorem cr40 : Pr 6864797660130609714981900799081393217269435300143305409394463459185543183397656052122559640661454554977296311391480858037121987999716643812574028291115057151 := pk_ok (f := 521) (l := [(145295143558111, 3), (108140989558681, 3), (308761441, 3), (34110701, 3), (7623851, 3), (858001, 3), (409891, 3), (61681, 3), (51481, 3), (8191, 3), (2731, 3)]) (by decide +kernel) (by
  intro c hc
  simp only [List.mem_cons, List.not_mem_nil, or_false] at hc
  rcases hc with rfl | rfl | rfl | rfl | rfl | rfl | rfl | rfl | rfl | rfl | rfl
  · exact cr35
  · exact cr36
  · exact cr37
  · exact cr38
  · exact cr39
  · exact sm (by decide)
  · exact sm (by decide)
  · exact sm (by decide)
  · exact sm (by decide)
  · exact sm (by decide)
  · exact sm (by decide))
end Go.Proofs.YtmngjbefnloljaaGreatDoor
namespace Go.Proofs.YtmngjbefnloljaaGreatDoor
open Go Go.RowKit
theorem form_good {n : Int} {d : List UInt8} {k : Int} (h : formE n d k = 0) : shaSize n ≠ 0 ∧ (d.length : Int) = shaSize n ∧ ((infoL n d).length : Int) + 11 ≤ k ∧ k ≤ 512 := by
  unfold formE at h
  split at h
  · cases h
  · rename_i h1
    split at h
    · cases h
    · rename_i h2
      exact ⟨fun e => h1 (.inl e), Classical.byContradiction fun e => h1 (.inr e), by omega, by omega⟩
theorem kform_good {n : Int} {d : List UInt8} {N E D : Nat} (h : kformE n d N E D = 0) : formE n d (sizeB N) = 0 ∧ kformL n d N E D = formL n d (sizeB N) := by
  have hr := kform_right h
  unfold kformE at h
  unfold kformL
  split at h
  · rename_i h1; exact absurd h h1
  · rename_i h1
    rw [if_neg h1, if_pos hr]
    exact ⟨h, rfl⟩
end Go.Proofs.YtmngjbefnloljaaGreatDoor
