/- Plain laws: chains of nodes, as deep as may be and deeper; lengths. -/
import Derived.Test.YtmngjbefnloljaaDoorDerL
set_option linter.unusedSimpArgs false
set_option linter.unusedVariables false
set_option linter.constructorNameAsVariable false
namespace Go.Proofs.YtmngjbefnloljaaDoor
open Go Go.RowKit

def chain (c t : Int) : Nat → Nd
  | 0 => .mk 0 5 false [] []
  | i + 1 => .mk c t true [] [chain c t i]
def chB (c t : Int) : Nat → List UInt8
  | 0 => [5, 0]
  | i + 1 => UInt8.ofNat (64 * c + 32 + t).toNat :: UInt8.ofNat (chB c t i).length :: chB c t i
theorem chB_len (c t : Int) (i : Nat) : (chB c t i).length = 2 * (i + 1) := by
  induction i with
  | zero => rfl
  | succ i ih => simp only [chB, List.length_cons, ih]; omega
theorem chain_rk (c t : Int) (i : Nat) : (chain c t i).rk = i + 1 := by
  induction i with
  | zero => simp [chain, Nd.rk, Nd.rkL]
  | succ i ih => simp [chain, Nd.rk, Nd.rkL, ih]
theorem chain_sz (c t : Int) (i : Nat) : (chain c t i).sz = i + 1 := by
  induction i with
  | zero => simp [chain, Nd.sz, Nd.szL]
  | succ i ih => simp [chain, Nd.sz, Nd.szL, ih]; omega
theorem leaf_put : Nd.put (.mk 0 5 false [] []) = some [5, 0] := by kernel_rfl
def chOk (c t : Int) : Prop := (c = 0 ∧ t = 16) ∨ (c = 2 ∧ t = 3)
theorem chOk_may {c t : Int} (h : chOk c t) : mayB c t true = true := by
  rcases h with ⟨rfl, rfl⟩ | ⟨rfl, rfl⟩ <;> decide
theorem chain_put {c t : Int} (h : chOk c t) (i : Nat) (hi : i ≤ 60) : (chain c t i).put = some (chB c t i) := by
  induction i with
  | zero => exact leaf_put
  | succ i ih =>
    have hm := chOk_may h
    have hok : okN c t true [] [chain c t i] = true := okN_of hm (fun _ => rfl) (fun hh => by cases hh)
    have hl := chB_len c t i
    simp only [chain, Nd.put, hok, if_true, Nd.putL, ih (by omega), aboveB, Bool.and_false, Bool.false_eq_true, if_false, List.nil_append, Option.map_some]
    rw [headB_short (by omega)]
    have ht : tagN c t true = (64 * c + 32 + t).toNat := by
      unfold tagN
      rcases h with ⟨rfl, rfl⟩ | ⟨rfl, rfl⟩ <;> rfl
    rw [ht]
    rfl
theorem rdH_two {x y : UInt8} {r l : List UInt8} {p e : Nat} {ok : Bool} (h : x :: y :: r <+: l.drop p) (hm : mayB (x.toNat / 64 : Nat) (x.toNat % 32 : Nat) (decide (x.toNat / 32 % 2 = 1)) = true) (hy : y.toNat < 128) (he : p + 2 + y.toNat ≤ e) :
    rdH l p e ok = if ok then .ok (x.toNat / 64, x.toNat % 32, decide (x.toNat / 32 % 2 = 1), y.toNat, p + 2) else .error (p, 33) := by
  obtain ⟨h1, h2, h3⟩ := pre_byte h
  obtain ⟨h4, h5, _⟩ := pre_byte h3
  unfold rdH
  rw [h1, if_neg (by omega), if_neg (by rw [hm]; decide)]
  have hS : rdS l (p + 1) e = .ok (y.toNat, p + 2) := by
    unfold rdS
    rw [h4, if_neg (by omega), if_pos hy]
  rw [hS]
  simp only
  rw [if_neg (by omega)]
  cases ok <;> simp
theorem chTag {c t : Int} (h : chOk c t) : (UInt8.ofNat (64 * c + 32 + t).toNat).toNat / 64 = c.toNat ∧ (UInt8.ofNat (64 * c + 32 + t).toNat).toNat % 32 = t.toNat ∧ decide ((UInt8.ofNat (64 * c + 32 + t).toNat).toNat / 32 % 2 = 1) = true := by
  rcases h with ⟨rfl, rfl⟩ | ⟨rfl, rfl⟩ <;> decide
theorem rd_deep {c t : Int} (h : chOk c t) : ∀ (d i : Nat) (l : List UInt8) (p e : Nat), d < i + 1 → i ≤ 60 → chB c t i <+: l.drop p → p + (chB c t i).length ≤ e → rdN d l p e = .error (((p + 2 * d : Nat) : Int), 33) := by
  intro d
  induction d with
  | zero =>
    intro i l p e _ hi hp he
    have hl := chB_len c t i
    cases i with
    | zero =>
      have := rdH_two (ok := false) (e := e) hp (by decide) (by decide) (by rw [hl] at he; simp; omega)
      simp only [rdN]
      rw [this]
      simp
    | succ i =>
      have hl' := chB_len c t i
      obtain ⟨k1, k2, k3⟩ := chTag h
      have hy : (UInt8.ofNat (chB c t i).length).toNat = 2 * (i + 1) := by rw [hl']; simp; omega
      have := rdH_two (ok := false) (e := e) hp (by rw [k1, k2, k3]; rcases h with ⟨rfl, rfl⟩ | ⟨rfl, rfl⟩ <;> decide) (by omega) (by omega)
      simp only [rdN]
      rw [this]
      simp
  | succ d ih =>
    intro i l p e hd hi hp he
    cases i with
    | zero => omega
    | succ i =>
      have hl := chB_len c t (i + 1)
      have hl' := chB_len c t i
      obtain ⟨k1, k2, k3⟩ := chTag h
      have hy : (UInt8.ofNat (chB c t i).length).toNat = 2 * (i + 1) := by rw [hl']; simp; omega
      have hH := rdH_two (ok := true) (e := e) hp (by rw [k1, k2, k3]; rcases h with ⟨rfl, rfl⟩ | ⟨rfl, rfl⟩ <;> decide) (by omega) (by omega)
      rw [k1, k2, k3, hy, if_pos rfl] at hH
      have hp2 : chB c t i <+: l.drop (p + 2) := by
        have := (pre_drop (a := [UInt8.ofNat (64 * c + 32 + t).toNat, UInt8.ofNat (chB c t i).length]) (b := chB c t i) hp).2
        exact this
      have hi' := ih i l (p + 2) (p + 2 + 2 * (i + 1)) (by omega) (by omega) hp2 (by omega)
      rw [rdN_cons hH, show 2 * (i + 1) = (2 * i + 1) + 1 by omega, rdK_err (by omega) (by rw [show p + 2 + (2 * i + 1 + 1) = p + 2 + 2 * (i + 1) by omega]; exact hi')]
      simp only
      congr 2
      omega
theorem chain_wr {c t : Int} (h : chOk c t) (i : Nat) (hi : i ≤ 60) : (chain c t i).wr = if 32 < i + 1 then ([], 33) else (chB c t i, 0) := by
  have := chB_len c t i
  unfold Nd.wr
  rw [chain_put h i hi, chain_rk]
  simp only
  split
  · rfl
  · rw [if_neg (by omega)]
theorem chain_rd {c t : Int} (h : chOk c t) (i : Nat) (hi : i ≤ 60) : rdTop (chB c t i) = if 32 < i + 1 then (ndZ, 64, 33) else (chain c t i, 0, 0) := by
  have hl := chB_len c t i
  split
  · rename_i hh
    unfold rdTop
    rw [if_neg (by omega), rd_deep h 32 i _ 0 _ hh hi (by simp) (by omega)]
    rfl
  · rename_i hh
    have hw := chain_wr h i hi
    rw [if_neg hh] at hw
    have := rdTop_wr (x := chain c t i) (by rw [hw])
    rwa [hw] at this
end Go.Proofs.YtmngjbefnloljaaDoor
