/- Walks: the program's texts: characters, object identifiers; Walks: the program's texts: digits, object identifiers; Walks: the program's rules of nodes: tags, values, heads; The arguments of this seat's laws: nodes, bytes, numbers; the library's tables; The join: numbers of many digits as arguments; The join: keys as arguments; make; append of what was made; rows of the call's own, cell by cell; a callee that only reads what is owned; Walks: the program writes nodes; Walks: the program writes and makes nodes; Regions that draw their order, and whose operations make or write memory; Walks: the program reads nodes; Walks: the program reads a node; Plain laws of nodes and bytes: what is written is read again; what is read is written again; what is cut off is too short. No program in sight; A function that defers one call of a closure of its own, right after it has made its result variables; Walks: the program reads bytes as a node; Walks: what the laws of nodes use beside; Plain laws: chains of nodes, as deep as may be and deeper; lengths. -/
import Derived.Lib.LaidU8
import Derived.Laws.MakeOwn
import Derived.OrdersHeld
import Derived.Recover
import Derived.Test.YtmngjbefnloljaaGreatDoorP0
set_option linter.unusedSimpArgs false
set_option linter.unusedVariables false
set_option linter.constructorNameAsVariable false
namespace Go.Proofs.YtmngjbefnloljaaGreatDoor
open Go Go.RowKit
theorem z21_ {p : Prop} (u : p := by repeat (first | exact trivial | refine ⟨rfl, ?_⟩ | refine ⟨(by exact some_bool (by first | exact decide_eq_decide.2 (by omega) | exact (decide_eq_false (by omega)).symm | exact (decide_eq_true (by omega)).symm | simp_all)), ?_⟩)) : p := u
end Go.Proofs.YtmngjbefnloljaaGreatDoor
namespace Go.Proofs.YtmngjbefnloljaaGreatDoor
open Go Go.RowKit
theorem ca_166 : callT Tryz.prog 166 = true := by kernel_rfl
def Tabs (h : Part) : Prop := ∃ C1 C2, h 1 = some C1 ∧ h 2 = some C2 ∧ (∀ c, c < 256 → C1[c]? = some (.int .u8 (Go.Lib.firstT c))) ∧
  (∀ i, i < 16 → C2[2 * i]? = some (.int .u8 (Go.Lib.accLo i)) ∧ C2[2 * i + 1]? = some (.int .u8 (Go.Lib.accHi i)))
theorem Tabs.mono {h h' : Part} (k : Tabs h) (hle : h.le h') : Tabs h' := by
  obtain ⟨C1, C2, h1, h2, h3⟩ := k
  exact ⟨C1, C2, hle _ _ h1, hle _ _ h2, h3⟩
theorem Tabs.tabs {h : Part} (k : Tabs h) {w : World} (s : Sub h w) : Go.Lib.Utf8Tabs 1 2 w := by
  obtain ⟨C1, C2, h1, h2, h3, h4⟩ := k
  exact ⟨fun c hc => s.cell h1 (h3 c hc), fun i hi => ⟨s.cell h2 (h4 i hi).1, s.cell h2 (h4 i hi).2⟩⟩
theorem decodeGo_list (s : List UInt8) (hs : s ≠ []) : Go.Lib.decodeGo ⟨s.toArray⟩ = (chr s, wid s) := by
  unfold Go.Lib.decodeGo
  rw [bsize, if_neg (fun h => hs (List.length_eq_zero_iff.1 h))]
  rfl
theorem decode_fn (s : List UInt8) (h : Part) (hT : Tabs h) (hs : s ≠ []) : Pure Tryz.prog 166 [.string ⟨s.toArray⟩] h (.tuple #[.int .i32 (chr s), .int .i64 (wid s)]) :=
  Pure.lib fun w hw => (Tryz.utf8_DecodeRuneInString ⟨s.toArray⟩ w (hT.tabs hw)).mono fun e w' ⟨he, hb⟩ => by
    rw [decodeGo_list s hs] at he
    exact ⟨he, hb⟩
def runes (ok : Nat → Nat → Bool) : List UInt8 → Nat → Bool
  | [], _ => true
  | _ :: r, k + 1 => runes ok r k
  | b :: r, 0 => ok (chr (b :: r)) (wid (b :: r)) && runes ok r (wid (b :: r) - 1)
theorem runes_drop (ok : Nat → Nat → Bool) : ∀ (l : List UInt8) (k : Nat), runes ok l k = runes ok (l.drop k) 0
  | [], k => by cases k <;> simp [runes]
  | b :: r, 0 => rfl
  | b :: r, k + 1 => by simp only [runes, List.drop_succ_cons]; exact runes_drop ok r k
theorem runes_end (ok : Nat → Nat → Bool) (s : List UInt8) (p : Nat) (h : s.length ≤ p) : runes ok (s.drop p) 0 = true := by
  rw [List.drop_of_length_le h]; rfl
theorem runes_step (ok : Nat → Nat → Bool) (s : List UInt8) (p : Nat) (h : p < s.length) : runes ok (s.drop p) 0 = (ok (chr (s.drop p)) (wid (s.drop p)) && runes ok (s.drop (p + wid (s.drop p))) 0) := by
  have e : s.drop p = s[p] :: s.drop (p + 1) := List.drop_eq_getElem_cons h
  have hw := wid_pos (s.drop p)
  rw [← List.drop_drop]
  generalize s.drop p = q at *
  subst e
  simp only [runes]
  rw [runes_drop]
  congr 2
  cases hk : wid (s[p] :: s.drop (p + 1)) with
  | zero => omega
  | succ k => simp only [Nat.add_sub_cancel, List.drop_succ_cons]
theorem ia5_fn (s : List UInt8) (h : Part) (h2 : s.length ≤ 140737488355328) : Pure Tryz.prog 155 [.string ⟨s.toArray⟩] h (.bool (runes (fun c _ => decide (c ≤ 127)) s 0)) := by
  refine Fn.intro Tryz.func155 rfl Tryz.ntmps155 rfl (fun e he => ?_)
  refine J.weak [(0, _)] ⟨rfl, trivial⟩ ?_
  refine Sr ?_
  refine Ru 1 rfl ?_
  refine JL.nil ?_
  refine J.seq ?_
  refine Sr ?_
  refine Ru 1 rfl ?_
  refine JL.range un_9 rfl rfl (fun b1 => ?_)
  refine JL.nil ?_
  refine J.block ?_
  refine J.loop (fun t_ S_ h_ L_ => ∃ (p : Nat), t_ = s.length - p ∧ S_ = [(6, .pointer (some ⟨b1, 0, none⟩))] ∧ h = h_ ∧ L_ = [.it b1 s p] ∧ (runes (fun c _ => decide (c ≤ 127)) s 0 = runes (fun c _ => decide (c ≤ 127)) (s.drop p) 0)) ⟨_, _, ?_, ⟨0, rfl, rfl, rfl, rfl, rfl⟩⟩ ?_
  ·
   exact z7_
  rintro _ _ _ _ ⟨p, rfl, rfl, rfl, rfl, he⟩
  have hw := wid_pos (s.drop p)
  refine Sr ?_
  refine JL.next rfl dl_ rfl (fun hx2 => ?_) (fun hx2 => ?_)
  ·
   refine Ru 1 rfl ?_
   refine JL.nil ?_
   refine J.seq ?_
   refine J.cond_t rfl ?_
   refine J.skip ?_
   refine J.block ?_
   refine Sr ?_
   refine Ru 2 rfl ?_
   refine JL.nil ?_
   refine Sr ?_
   refine Ru 2 rfl ?_
   refine JL.nil ?_
   refine Cs rfl (fun hc3 => ?_) fun hc3 => ?_
   ·
    refine Sr ?_
    refine Ru 1 rfl ?_
    refine JL.nil ?_
    exact J.retP (RetV.one rfl rfl) (by first | (exfalso; omega) | (rw [he, runes_end _ _ _ (by omega)]) | (rw [he, runes_step _ s p (by omega), decide_eq_false (by omega)]; rfl)) rfl
   refine J.skip ?_
   refine ⟨_, ?_, _, ?_, ⟨p + wid (s.drop p), rfl, rfl, rfl, rfl, by rw [he, runes_step _ s p (by omega), decide_eq_true (by omega)]; rfl⟩⟩
   ·
    omega
   exact z7_
  refine Ru 1 rfl ?_
  refine JL.nil ?_
  refine J.seq ?_
  refine J.cond_f rfl ?_
  refine J.exit ?_
  refine Sr ?_
  refine Ru 1 rfl ?_
  refine JL.nil ?_
  exact J.retP (RetV.one rfl rfl) (by first | (exfalso; omega) | (rw [he, runes_end _ _ _ (by omega)]) | (rw [he, runes_step _ s p (by omega), decide_eq_false (by omega)]; rfl)) rfl
def prC (c : Nat) : Bool := decide (65 ≤ c ∧ c ≤ 90 ∨ 97 ≤ c ∧ c ≤ 122 ∨ 48 ≤ c ∧ c ≤ 57 ∨ c = 32 ∨ c = 39 ∨ c = 40 ∨ c = 41 ∨ c = 43 ∨ c = 44 ∨ c = 45 ∨ c = 46 ∨ c = 47 ∨ c = 58 ∨ c = 61 ∨ c = 63)
theorem printable_fn (s : List UInt8) (h : Part) (h2 : s.length ≤ 140737488355328) : Pure Tryz.prog 154 [.string ⟨s.toArray⟩] h (.bool (runes (fun c _ => prC c) s 0)) := by
  refine Fn.intro Tryz.func154 rfl Tryz.ntmps154 rfl (fun e he => ?_)
  refine J.weak [(0, _)] ⟨rfl, trivial⟩ ?_
  refine Sr ?_
  refine Ru 1 rfl ?_
  refine JL.nil ?_
  refine J.seq ?_
  refine Sr ?_
  refine Ru 1 rfl ?_
  refine JL.range un_9 rfl rfl (fun b1 => ?_)
  refine JL.nil ?_
  refine J.block ?_
  refine J.loop (fun t_ S_ h_ L_ => ∃ (p : Nat), t_ = s.length - p ∧ S_ = [(6, .pointer (some ⟨b1, 0, none⟩))] ∧ h = h_ ∧ L_ = [.it b1 s p] ∧ (runes (fun c _ => prC c) s 0 = runes (fun c _ => prC c) (s.drop p) 0)) ⟨_, _, ?_, ⟨0, rfl, rfl, rfl, rfl, rfl⟩⟩ ?_
  ·
   exact z7_
  rintro _ _ _ _ ⟨p, rfl, rfl, rfl, rfl, he⟩
  have hw := wid_pos (s.drop p)
  refine Sr ?_
  refine JL.next rfl dl_ rfl (fun hx2 => ?_) (fun hx2 => ?_)
  ·
   refine Ru 1 rfl ?_
   refine JL.nil ?_
   refine J.seq ?_
   refine J.cond_t rfl ?_
   refine J.skip ?_
   refine J.block ?_
   refine Sr ?_
   refine Ru 2 rfl ?_
   refine JL.nil ?_
   refine J.block ?_
   refine J.seq ?_
   refine J.seq ?_
   refine J.meet [(10, .bool (decide (65 ≤ chr (s.drop p) ∧ chr (s.drop p) ≤ 90)))] [(4, _), (9, _), (8, _), (7, _), (6, _)] ⟨rfl, rfl, rfl, rfl, rfl, trivial⟩ ?_ ?_
   ·
    refine Rg ?_
    refine Ru 3 rfl ?_
    refine Bs 13 rfl (fun hc3 => ?_) fun hc3 => ?_
    ·
     refine Ru 4 rfl ?_
     refine JL.nil ?_
     refine ⟨rfl, rfl, ?_⟩
     exact z21_
    refine Ru 4 rfl ?_
    refine JL.nil ?_
    refine ⟨rfl, rfl, ?_⟩
    exact z21_
   refine Cs rfl (fun hc4 => ?_) fun hc4 => ?_
   ·
    refine J.skip ?_
    refine J.cond_t rfl ?_
    refine J.skip ?_
    refine ⟨_, ?_, _, ?_, ⟨p + wid (s.drop p), rfl, rfl, rfl, rfl, by rw [he, runes_step _ s p (by omega), prC, decide_eq_true (by omega), Bool.true_and]⟩⟩
    ·
     omega
    exact z7_
   refine J.seq ?_
   refine J.meet [(10, .bool (decide (97 ≤ chr (s.drop p) ∧ chr (s.drop p) ≤ 122)))] [(4, _), (9, _), (8, _), (7, _), (6, _)] ⟨rfl, rfl, rfl, rfl, rfl, trivial⟩ ?_ ?_
   ·
    refine Rg ?_
    refine Ru 3 rfl ?_
    refine Bs 19 rfl (fun hc5 => ?_) fun hc5 => ?_
    ·
     refine Ru 4 rfl ?_
     refine JL.nil ?_
     refine ⟨rfl, rfl, ?_⟩
     exact z21_
    refine Ru 4 rfl ?_
    refine JL.nil ?_
    refine ⟨rfl, rfl, ?_⟩
    exact z21_
   refine Cs rfl (fun hc6 => ?_) fun hc6 => ?_
   ·
    refine J.skip ?_
    refine J.cond_t rfl ?_
    refine J.skip ?_
    refine ⟨_, ?_, _, ?_, ⟨p + wid (s.drop p), rfl, rfl, rfl, rfl, by rw [he, runes_step _ s p (by omega), prC, decide_eq_true (by omega), Bool.true_and]⟩⟩
    ·
     omega
    exact z7_
   refine J.meet [(10, .bool (decide (48 ≤ chr (s.drop p) ∧ chr (s.drop p) ≤ 57)))] [(4, _), (9, _), (8, _), (7, _), (6, _)] ⟨rfl, rfl, rfl, rfl, rfl, trivial⟩ ?_ ?_
   ·
    refine Rg ?_
    refine Ru 3 rfl ?_
    refine Bs 25 rfl (fun hc7 => ?_) fun hc7 => ?_
    ·
     refine Ru 4 rfl ?_
     refine JL.nil ?_
     refine ⟨rfl, rfl, ?_⟩
     exact z21_
    refine Ru 4 rfl ?_
    refine JL.nil ?_
    refine ⟨rfl, rfl, ?_⟩
    exact z21_
   refine Cs rfl (fun hc8 => ?_) fun hc8 => ?_
   ·
    refine J.skip ?_
    refine ⟨_, ?_, _, ?_, ⟨p + wid (s.drop p), rfl, rfl, rfl, rfl, by rw [he, runes_step _ s p (by omega), prC, decide_eq_true (by omega), Bool.true_and]⟩⟩
    ·
     omega
    exact z7_
   refine J.seq ?_
   refine Sr ?_
   refine Ru 3 rfl ?_
   refine JL.nil ?_
   refine Cs rfl (fun hc9 => ?_) fun hc9 => ?_
   ·
    refine J.skip ?_
    refine J.cond_t rfl ?_
    refine J.skip ?_
    refine ⟨_, ?_, _, ?_, ⟨p + wid (s.drop p), rfl, rfl, rfl, rfl, by rw [he, runes_step _ s p (by omega), prC, decide_eq_true (by omega), Bool.true_and]⟩⟩
    ·
     omega
    exact z7_
   refine Sr ?_
   refine Ru 3 rfl ?_
   refine JL.nil ?_
   refine Cs rfl (fun hc10 => ?_) fun hc10 => ?_
   ·
    refine J.skip ?_
    refine J.cond_t rfl ?_
    refine J.skip ?_
    refine ⟨_, ?_, _, ?_, ⟨p + wid (s.drop p), rfl, rfl, rfl, rfl, by rw [he, runes_step _ s p (by omega), prC, decide_eq_true (by omega), Bool.true_and]⟩⟩
    ·
     omega
    exact z7_
   refine Sr ?_
   refine Ru 3 rfl ?_
   refine Nk [29, 35, 34, 33, 32, 31, 30, 10, 4, 9, 8, 7, 6] rfl ?_
   refine Cs rfl (fun hc11 => ?_) fun hc11 => ?_
   ·
    refine J.skip ?_
    refine J.cond_t rfl ?_
    refine J.skip ?_
    refine ⟨_, ?_, _, ?_, ⟨p + wid (s.drop p), rfl, rfl, rfl, rfl, by rw [he, runes_step _ s p (by omega), prC, decide_eq_true (by omega), Bool.true_and]⟩⟩
    ·
     omega
    exact z7_
   refine Sr ?_
   refine Ru 3 rfl ?_
   refine JL.nil ?_
   refine Cs rfl (fun hc12 => ?_) fun hc12 => ?_
   ·
    refine J.skip ?_
    refine J.cond_t rfl ?_
    refine J.skip ?_
    refine ⟨_, ?_, _, ?_, ⟨p + wid (s.drop p), rfl, rfl, rfl, rfl, by rw [he, runes_step _ s p (by omega), prC, decide_eq_true (by omega), Bool.true_and]⟩⟩
    ·
     omega
    exact z7_
   refine Sr ?_
   refine Ru 3 rfl ?_
   refine JL.nil ?_
   refine Cs rfl (fun hc13 => ?_) fun hc13 => ?_
   ·
    refine J.skip ?_
    refine Kp [29, 39, 38, 37, 36, 35, 34, 33, 32, 31, 30, 10, 4, 9, 8, 7, 6] rfl ?_
    refine J.cond_t rfl ?_
    refine J.skip ?_
    refine ⟨_, ?_, _, ?_, ⟨p + wid (s.drop p), rfl, rfl, rfl, rfl, by rw [he, runes_step _ s p (by omega), prC, decide_eq_true (by omega), Bool.true_and]⟩⟩
    ·
     omega
    exact z7_
   refine Sr ?_
   refine Ru 3 rfl ?_
   refine Nk [29, 41, 40, 39, 38, 37, 36, 35, 34, 33, 32, 31, 30, 10, 4, 9, 8, 7, 6] rfl ?_
   refine Cs rfl (fun hc14 => ?_) fun hc14 => ?_
   ·
    refine J.skip ?_
    refine J.cond_t rfl ?_
    refine J.skip ?_
    refine ⟨_, ?_, _, ?_, ⟨p + wid (s.drop p), rfl, rfl, rfl, rfl, by rw [he, runes_step _ s p (by omega), prC, decide_eq_true (by omega), Bool.true_and]⟩⟩
    ·
     omega
    exact z7_
   refine Sr ?_
   refine Ru 3 rfl ?_
   refine JL.nil ?_
   refine Cs rfl (fun hc15 => ?_) fun hc15 => ?_
   ·
    refine J.skip ?_
    refine J.cond_t rfl ?_
    refine J.skip ?_
    refine ⟨_, ?_, _, ?_, ⟨p + wid (s.drop p), rfl, rfl, rfl, rfl, by rw [he, runes_step _ s p (by omega), prC, decide_eq_true (by omega), Bool.true_and]⟩⟩
    ·
     omega
    exact z7_
   refine Sr ?_
   refine Ru 3 rfl ?_
   refine JL.nil ?_
   refine Cs rfl (fun hc16 => ?_) fun hc16 => ?_
   ·
    refine J.skip ?_
    refine Kp [29, 45, 44, 43, 42, 41, 40, 39, 38, 37, 36, 35, 34, 33, 32, 31, 30, 10, 4, 9, 8, 7, 6] rfl ?_
    refine J.cond_t rfl ?_
    refine J.skip ?_
    refine ⟨_, ?_, _, ?_, ⟨p + wid (s.drop p), rfl, rfl, rfl, rfl, by rw [he, runes_step _ s p (by omega), prC, decide_eq_true (by omega), Bool.true_and]⟩⟩
    ·
     omega
    exact z7_
   refine Sr ?_
   refine Ru 3 rfl ?_
   refine Nk [29, 47, 46, 45, 44, 43, 42, 41, 40, 39, 38, 37, 36, 35, 34, 33, 32, 31, 30, 10, 4, 9, 8, 7, 6] rfl ?_
   refine Cs rfl (fun hc17 => ?_) fun hc17 => ?_
   ·
    refine J.skip ?_
    refine J.cond_t rfl ?_
    refine J.skip ?_
    refine ⟨_, ?_, _, ?_, ⟨p + wid (s.drop p), rfl, rfl, rfl, rfl, by rw [he, runes_step _ s p (by omega), prC, decide_eq_true (by omega), Bool.true_and]⟩⟩
    ·
     omega
    exact z7_
   refine Sr ?_
   refine Ru 3 rfl ?_
   refine JL.nil ?_
   refine Cs rfl (fun hc18 => ?_) fun hc18 => ?_
   ·
    refine J.skip ?_
    refine J.cond_t rfl ?_
    refine J.skip ?_
    refine ⟨_, ?_, _, ?_, ⟨p + wid (s.drop p), rfl, rfl, rfl, rfl, by rw [he, runes_step _ s p (by omega), prC, decide_eq_true (by omega), Bool.true_and]⟩⟩
    ·
     omega
    exact z7_
   refine Sr ?_
   refine Ru 3 rfl ?_
   refine JL.nil ?_
   refine Cs rfl (fun hc19 => ?_) fun hc19 => ?_
   ·
    refine J.skip ?_
    refine Kp [29, 51, 50, 49, 48, 47, 46, 45, 44, 43, 42, 41, 40, 39, 38, 37, 36, 35, 34, 33, 32, 31, 30, 10, 4, 9, 8, 7, 6] rfl ?_
    refine J.cond_t rfl ?_
    refine J.skip ?_
    refine ⟨_, ?_, _, ?_, ⟨p + wid (s.drop p), rfl, rfl, rfl, rfl, by rw [he, runes_step _ s p (by omega), prC, decide_eq_true (by omega), Bool.true_and]⟩⟩
    ·
     omega
    exact z7_
   refine Rg ?_
   refine Ru 3 rfl ?_
   refine Nk [29, 53, 52, 51, 50, 49, 48, 47, 46, 45, 44, 43, 42, 41, 40, 39, 38, 37, 36, 35, 34, 33, 32, 31, 30, 10, 4, 9, 8, 7, 6] rfl ?_
   refine Cs rfl (fun hc20 => ?_) fun hc20 => ?_
   ·
    refine J.skip ?_
    refine ⟨_, ?_, _, ?_, ⟨p + wid (s.drop p), rfl, rfl, rfl, rfl, by rw [he, runes_step _ s p (by omega), prC, decide_eq_true (by omega), Bool.true_and]⟩⟩
    ·
     omega
    exact z7_
   refine Sr ?_
   refine Ru 1 rfl ?_
   refine JL.nil ?_
   exact J.retP (RetV.one rfl rfl) (by first | (exfalso; omega) | (rw [he, runes_end _ _ _ (by omega)]) | (rw [he, runes_step _ s p (by omega), prC, decide_eq_false (by omega)]; rfl)) rfl
  refine Ru 1 rfl ?_
  refine JL.nil ?_
  refine J.seq ?_
  refine J.cond_f rfl ?_
  refine J.exit ?_
  refine Sr ?_
  refine Ru 1 rfl ?_
  refine JL.nil ?_
  exact J.retP (RetV.one rfl rfl) (by first | (exfalso; omega) | (rw [he, runes_end _ _ _ (by omega)]) | (rw [he, runes_step _ s p (by omega), prC, decide_eq_false (by omega)]; rfl)) rfl
theorem utf8_fn (s : List UInt8) (h : Part) (hT : Tabs h) (h2 : s.length ≤ 140737488355328) : Pure Tryz.prog 153 [.string ⟨s.toArray⟩] h (.bool (runes (fun c n => !decide (c = 65533 ∧ n = 1)) s 0)) := by
  refine Fn.intro Tryz.func153 rfl Tryz.ntmps153 rfl (fun e he => ?_)
  refine J.weak [(0, _)] ⟨rfl, trivial⟩ ?_
  refine Sr ?_
  refine Ru 1 rfl ?_
  refine JL.nil ?_
  refine J.seq ?_
  refine Sr ?_
  refine Ru 1 rfl ?_
  refine JL.range un_9 rfl rfl (fun b1 => ?_)
  refine JL.nil ?_
  refine J.block ?_
  refine J.loop (fun t_ S_ h_ L_ => ∃ (p : Nat), t_ = s.length - p ∧ S_ = [(0, .string ⟨s.toArray⟩), (8, .pointer (some ⟨b1, 0, none⟩))] ∧ h = h_ ∧ L_ = [.it b1 s p] ∧ (runes (fun c n => !decide (c = 65533 ∧ n = 1)) s 0 = runes (fun c n => !decide (c = 65533 ∧ n = 1)) (s.drop p) 0)) ⟨_, _, ?_, ⟨0, rfl, rfl, rfl, rfl, rfl⟩⟩ ?_
  ·
   exact z7_
  rintro _ _ _ _ ⟨p, rfl, rfl, rfl, rfl, he⟩
  have hw := wid_pos (s.drop p)
  refine Sr ?_
  refine JL.next rfl dl_ rfl (fun hx2 => ?_) (fun hx2 => ?_)
  ·
   refine Ru 1 rfl ?_
   refine JL.nil ?_
   refine J.seq ?_
   refine J.cond_t rfl ?_
   refine J.skip ?_
   refine J.block ?_
   refine Sr ?_
   refine Ru 4 rfl ?_
   refine JL.nil ?_
   refine Sr ?_
   refine Ru 2 rfl ?_
   refine JL.nil ?_
   refine Cs rfl (fun hc3 => ?_) fun hc3 => ?_
   ·
    refine Sr ?_
    refine Ru 2 rfl ?_
    refine JL.op (RunV.strCut_l un_9 rfl rfl z9_ (by omega)) rfl ?_
    refine JL.callP ca_166 rfl (decode_fn (s.drop p) _ hT (by intro hh; have := congrArg List.length hh; simp at this; omega)) rfl ?_
    refine Ru 5 rfl ?_
    refine JL.nil ?_
    refine Sr ?_
    refine Ru 2 rfl ?_
    refine JL.nil ?_
    refine Cs rfl (fun hc5 => ?_) fun hc5 => ?_
    ·
     refine Sr ?_
     refine Ru 1 rfl ?_
     refine JL.nil ?_
     exact J.retP (RetV.one rfl rfl) (by first | (exfalso; omega) | (rw [he, runes_end _ _ _ (by omega)]) | (rw [he, runes_step _ s p (by omega), decide_eq_true (by omega)]; rfl)) rfl
    refine J.skip ?_
    refine ⟨_, ?_, _, ?_, ⟨p + wid (s.drop p), rfl, rfl, rfl, rfl, by rw [he, runes_step _ s p (by omega), decide_eq_false (by omega)]; rfl⟩⟩
    ·
     omega
    exact z7_
   refine J.skip ?_
   refine ⟨_, ?_, _, ?_, ⟨p + wid (s.drop p), rfl, rfl, rfl, rfl, by rw [he, runes_step _ s p (by omega), decide_eq_false (by omega)]; rfl⟩⟩
   ·
    omega
   exact z7_
  refine Ru 1 rfl ?_
  refine JL.nil ?_
  refine J.seq ?_
  refine J.cond_f rfl ?_
  refine J.exit ?_
  refine Sr ?_
  refine Ru 1 rfl ?_
  refine JL.nil ?_
  exact J.retP (RetV.one rfl rfl) (by first | (exfalso; omega) | (rw [he, runes_end _ _ _ (by omega)]) | (rw [he, runes_step _ s p (by omega), decide_eq_true (by omega)]; rfl)) rfl
end Go.Proofs.YtmngjbefnloljaaGreatDoor
namespace Go.Proofs.YtmngjbefnloljaaGreatDoor
open Go Go.RowKit
theorem z5_ {p : Prop} (u : p := by first | omega | (simp only [List.length_append, List.length_cons, List.length_nil]; omega)) : p := u
theorem z28_ {p : Prop} (u : p := by first | exact RunV.add_u64 rfl rfl (by omega) (by omega) | exact RunV.add rfl rfl) : p := u
theorem z29_ {p : Prop} (u : p := by first | exact RunV.quo_u64 rfl rfl (by omega) (by omega) (by omega) | exact RunV.quo rfl rfl (by omega)) : p := u
theorem z32_ {p : Prop} (u : p := by first | rfl | (simp; omega)) : p := u
theorem z33_ {p : Prop} (u : p := by first | exact RunV.mul_u64 rfl rfl (by omega) (by omega) | exact RunV.mul rfl rfl) : p := u
theorem z42_ {p : Prop} (u : p := by first | exact RunV.rem_u64 rfl rfl (by omega) (by omega) | exact RunV.rem rfl rfl (by omega)) : p := u
theorem z46_ {p : Prop} (u : p := by first | (have hz : oidT l = none := (by rw [he, List.drop_of_length_le (by omega), oidGo]; simp [*]); rw [hz]; rfl) | (have hz : oidT l = some out := (by rw [he, List.drop_of_length_le (by omega), oidGo]; simp [*]); rw [hz]; rfl)) : p := u
theorem z50_ {p : Prop} (u : p := by first | exact RunV.sub_u64 rfl rfl (by omega) (by omega) | exact RunV.sub rfl rfl) : p := u
end Go.Proofs.YtmngjbefnloljaaGreatDoor
namespace Go.Proofs.YtmngjbefnloljaaGreatDoor
open Go Go.RowKit
theorem ap_22 : apT Tryz.prog 22 = some (5, 1, 1) := by kernel_rfl
theorem ar_197 : arT Tryz.prog 197 = some (20, 1) := by kernel_rfl
theorem ca_169 : callT Tryz.prog 169 = true := by kernel_rfl
theorem cv_5_63 : convI Tryz.prog 5 63 = some .u64 := by kernel_rfl
theorem cv_63_5 : convI Tryz.prog 63 5 = some .u8 := by kernel_rfl
theorem sb_22_9 : strT Tryz.prog 22 9 = true := by kernel_rfl
theorem zr_197 : zeroT Tryz.prog 197 = some [.int .u8 0, .int .u8 0, .int .u8 0, .int .u8 0, .int .u8 0, .int .u8 0, .int .u8 0, .int .u8 0, .int .u8 0, .int .u8 0, .int .u8 0, .int .u8 0, .int .u8 0, .int .u8 0, .int .u8 0, .int .u8 0, .int .u8 0, .int .u8 0, .int .u8 0, .int .u8 0] := by kernel_rfl
theorem zr_5 : zeroT Tryz.prog 5 = some [.int .u8 0] := by kernel_rfl
def dgo : Nat → Nat → Nat → Nat → List UInt8
  | 0, _, _, _ => []
  | f + 1, n, len, least => if 0 < n ∨ len < least then dgo f (n / 10) (len + 1) least ++ [UInt8.ofNat (48 + n % 10)] else []
def dgs (n least : Nat) : List UInt8 := dgo 20 n 0 least
theorem dgo_end {f n len least : Nat} (h : ¬ (0 < n ∨ len < least)) : dgo f n len least = [] := by
  cases f with
  | zero => rfl
  | succ f => simp only [dgo]; rw [if_neg h]
theorem dgo_len : ∀ f n len least, (dgo f n len least).length ≤ f
  | 0, _, _, _ => Nat.le_refl _
  | f + 1, n, len, least => by
    simp only [dgo]; split
    · have := dgo_len f (n / 10) (len + 1) least; simp; omega
    · simp
theorem dgs_len (n least : Nat) : (dgs n least).length ≤ 20 := dgo_len _ _ _ _
theorem ofNat_toNat8 {n : Nat} (h : n < 256) : ((UInt8.ofNat n).toNat : Int) = n := by simp; omega
theorem drop_set_cons {α : Type} (l : List α) (j : Nat) (x : α) (h : j < l.length) : (l.set j x).drop j = x :: l.drop (j + 1) := by
  rw [List.drop_eq_getElem_cons (by simpa using h), List.getElem_set_self]
  congr 1
  apply List.ext_getElem?
  intro i
  simp [List.getElem?_set, show ¬ j = j + 1 + i by omega]
theorem digits_fn {a : Option Addr} {c : Nat} {l : List UInt8} {n least : Nat} {h : Part} (hn : n < 18446744073709551616) (hl : least ≤ 20) (hb : l.length ≤ 70368744177664) :
    Fn Tryz.prog 169 [.slice a l.length c, .int .u64 n, .int .i64 least] h [.row a c 5 1 l.length (u8s l)]
      (Rets fun v _ Lo => ∃ a' c', v = .slice a' (l ++ dgs n least).length c' ∧ Lo = [.row a' c' 5 1 (l ++ dgs n least).length (u8s (l ++ dgs n least))]) := by
  refine Fn.intro Tryz.func169 rfl Tryz.ntmps169 rfl (fun e he => ?_)
  refine J.weak [(0, _), (1, _), (2, _)] ⟨rfl, rfl, rfl, trivial⟩ ?_
  refine Sr ?_
  refine Ru 1 rfl ?_
  refine JL.nil ?_
  refine Sr ?_
  refine JL.alloc zr_197 rfl (fun b1 => ?_)
  refine JL.nil ?_
  refine Sr ?_
  refine Ru 1 rfl ?_
  refine JL.nil ?_
  refine J.seq ?_
  refine J.block ?_
  refine J.loop (fun t_ S_ h_ L_ => ∃ (k m : Nat) (bs : List UInt8), t_ = m + k ∧ S_ = [(0, .slice a l.length c), (1, .int .u64 m), (2, .int .i64 least), (7, .pointer (some ⟨b1, 0, none⟩)), (8, .int .i64 k)] ∧ h = h_ ∧ L_ = [.blk b1 197 (u8s bs), .row a c 5 1 l.length (u8s l)] ∧ (k ≤ 20 ∧ bs.length = 20 ∧ m ≤ n ∧ m < 10 ^ k ∧ dgs n least = dgo k m (20 - k) least ++ bs.drop k)) ⟨_, _, ?_, ⟨20, n, List.replicate 20 0, rfl, rfl, rfl, rfl, ⟨by omega, rfl, by omega, by omega, by simp [dgs]⟩⟩⟩ ?_
  ·
   repeat (first | exact trivial | refine ⟨rfl, ?_⟩ | refine ⟨(by exact some_i64 (by omega)), ?_⟩)
  rintro _ _ _ _ ⟨k, m, bs, rfl, rfl, rfl, rfl, hk, hbs, hmn, hm, he⟩
  have hul : (u8s bs).length = 20 := by rw [u8s_length, hbs]
  refine J.seq ?_
  refine J.seq ?_
  refine J.meet [(16, .bool (decide (0 < m ∨ 20 - k < least)))] [(0, _), (1, _), (2, _), (7, _), (8, _)] ⟨rfl, rfl, rfl, rfl, rfl, trivial⟩ ?_ ?_
  ·
   refine Rg ?_
   refine Ru 3 rfl ?_
   refine Bs 11 rfl (fun hc2 => ?_) fun hc2 => ?_
   ·
    refine Ru 5 rfl ?_
    refine JL.nil ?_
    refine ⟨rfl, rfl, ?_⟩
    exact z21_
   refine Ru 1 rfl ?_
   refine JL.opg rfl rfl  si_ rfl ?_
   refine Ru 3 rfl ?_
   refine JL.nil ?_
   refine ⟨rfl, rfl, ?_⟩
   exact z21_
  refine Cs rfl (fun hc3 => ?_) fun hc3 => ?_
  ·
   obtain ⟨j, rfl⟩ : ∃ j, k = j + 1 := ⟨k - 1, by have : k ≠ 0 := (by rintro rfl; simp at hm; omega); omega⟩
   refine J.skip ?_
   refine J.block ?_
   refine Sr ?_
   refine Ru 1 rfl ?_
   refine JL.op si_ rfl ?_
   refine Ru 1 rfl ?_
   refine JL.nil ?_
   refine Sr ?_
   refine Ru 2 rfl ?_
   refine JL.op z42_ rfl ?_
   refine JL.op z28_ rfl ?_
   refine JL.op (by first | exact RunV.conv_u8 cv_63_5 rfl (by omega) (by omega) | exact RunV.conv cv_63_5 rfl) rfl ?_
   refine JL.op (RunV.indexArr ar_197 rfl rfl z9_ (by omega)) rfl ?_
   refine JL.store1 ag_5 rfl rfl rfl dl_ z32_ ?_
   refine JL.nil ?_
   refine Rg ?_
   refine Ru 1 rfl ?_
   refine JL.op z29_ rfl ?_
   refine Ru 1 rfl ?_
   refine JL.nil ?_
   rw [show (((j + 1 : Nat) : Int) - 1).toNat = j by omega, show (48 + (m : Int) % 10) = ((UInt8.ofNat (48 + m % 10)).toNat : Int) by rw [ofNat_toNat8 (by omega)]; omega, u8s_set]
   refine ⟨_, ?_, _, ?_, ⟨j, m / 10, bs.set j (UInt8.ofNat (48 + m % 10)), rfl, rfl, rfl, rfl, ⟨by omega, by simp [hbs], by omega, by rw [Nat.pow_succ] at hm; omega, by rw [he, dgo, if_pos hc3, List.append_assoc, show 20 - (j + 1) + 1 = 20 - j by omega, drop_set_cons bs j _ (by omega)]; rfl⟩⟩⟩
   ·
    omega
   repeat (first | exact trivial | refine ⟨rfl, ?_⟩ | refine ⟨(by exact some_i64 (by omega)), ?_⟩)
  refine J.exit ?_
  refine Sr ?_
  refine Ru 2 rfl ?_
  have hdl : (bs.drop k).length ≤ 20 := (by simp; omega); have hd : dgs n least = bs.drop k := by rw [he, dgo_end (by omega)]; rfl
  refine JL.pubB (R := u8R) (sz := 1) dl_ CellsR.of_u8 (by omega) (fun h4 hle4 hB4 => ?_)
  refine JL.ope (RunE.cutArr ar_197 rfl rfl z9_ hB4 (by omega) (by omega)) rfl ?_
  rintro _ ⟨a4, c4, rfl, hS4⟩
  refine JL.append ap_22 rfl rfl CellsR.of_u8 rfl (by assumption) rfl dl_ z5_ rfl rfl (fun a5 c5 xs5 hC5 hN5 => ?_)
  obtain rfl := hC5.u8
  refine Ru 1 rfl ?_
  refine Nk [6] rfl ?_
  rw [← hd]; exact J.ret ⟨_, [_], _, (RetV.one rfl rfl), .cons .here .nil, _, rfl, _, _, rfl, rfl⟩
theorem digits_fn' {a : Option Addr} {c : Nat} {l : List UInt8} {n least : Nat} {N Q : Int} {h : Part} (hN : N = (n : Int)) (hQ : Q = (least : Int)) (hn : n < 18446744073709551616) (hl : least ≤ 20) (hb : l.length ≤ 70368744177664) :
    Fn Tryz.prog 169 [.slice a l.length c, .int .u64 N, .int .i64 Q] h [.row a c 5 1 l.length (u8s l)]
      (Rets fun v _ Lo => ∃ a' c', v = .slice a' (l ++ dgs n least).length c' ∧ Lo = [.row a' c' 5 1 (l ++ dgs n least).length (u8s (l ++ dgs n least))]) := by
  subst hN hQ
  exact digits_fn hn hl hb
def oidGo : List UInt8 → List UInt8 → Nat → Bool → Bool → Option (List UInt8)
  | [], out, _, fresh, first => if !fresh || first then none else some out
  | c :: r, out, n, fresh, first =>
    if (fresh && decide (c.toNat = 128)) || decide (72057594037927935 < n) then none
    else if 127 < c.toNat then oidGo r out (n * 128 + c.toNat % 128) false first
    else if first then oidGo r (out ++ dgs (min ((n * 128 + c.toNat % 128) / 40) 2) 1 ++ [46] ++ dgs (n * 128 + c.toNat % 128 - 40 * min ((n * 128 + c.toNat % 128) / 40) 2) 1) 0 true false
    else oidGo r (out ++ [46] ++ dgs (n * 128 + c.toNat % 128) 1) 0 true false
def oidT (b : List UInt8) : Option (List UInt8) := oidGo b [] 0 true true
theorem oidtext_fn' {a0 : Option Addr} {c0 : Nat} {l : List UInt8} {h : Part} (hl : SlR u8R 1 h a0 c0 l) (hb : l.length ≤ 1073741824) :
    Fn Tryz.prog 152 [.slice a0 l.length c0] h [] (Rets fun u _ _ => u = .tuple #[.string ⟨((oidT l).getD []).toArray⟩, .int .i64 (if (oidT l).isSome then 0 else 20)]) := by
  refine Fn.intro Tryz.func152 rfl Tryz.ntmps152 rfl (fun e he => ?_)
  refine J.weak [(0, _)] ⟨rfl, trivial⟩ ?_
  refine Sr ?_
  refine Ru 2 rfl ?_
  refine JL.nil ?_
  refine Sr ?_
  refine Ru 1 rfl ?_
  refine JL.nil ?_
  refine Sr ?_
  refine Ru 3 rfl ?_
  refine JL.nil ?_
  refine J.seq ?_
  refine Sr ?_
  refine JL.row_nil 5 1 ?_
  refine Ru 3 rfl ?_
  refine JL.nil ?_
  refine J.block ?_
  refine J.loop (fun t_ S_ h_ L_ => ∃ (g : Part) (i : Nat) (out : List UInt8) (n : Nat) (fresh first : Bool) (a : Option Addr) (c : Nat), t_ = l.length - i ∧ S_ = [(4, .slice a out.length c), (5, .int .u64 n), (6, .bool fresh), (7, .bool first), (11, .slice a0 l.length c0), (12, .int .i64 l.length), (13, .int .i64 i)] ∧ g = h_ ∧ L_ = [.row a c 5 1 out.length (u8s out)] ∧ (h.le g ∧ i ≤ l.length ∧ n ≤ 9223372036854775807 ∧ out.length ≤ 41 * i ∧ oidT l = oidGo (l.drop i) out n fresh first)) ⟨_, _, ?_, ⟨_, 0, [], 0, true, true, none, 0, rfl, rfl, rfl, rfl, ⟨Part.le.refl _, by omega, by omega, by simp, rfl⟩⟩⟩ ?_
  ·
   repeat (first | exact trivial | refine ⟨rfl, ?_⟩ | refine ⟨(by exact some_int (by simp <;> omega)), ?_⟩)
  rintro _ _ _ _ ⟨g, i, out, n, fresh, first, a, c, rfl, rfl, rfl, rfl, hhg, hi, hn, ho, he⟩
  have hl := hl.mono hhg
  refine Sr ?_
  refine Ru 1 rfl ?_
  refine JL.nil ?_
  refine J.seq ?_
  refine Cs rfl (fun hc1 => ?_) fun hc1 => ?_
  ·
   refine J.skip ?_
   refine J.seq ?_
   refine J.block ?_
   refine Sr ?_
   refine JL.ope (RunE.index sl_22 rfl rfl z9_ (by assumption) rfl (by omega)) rfl ?_
   rintro _ ⟨b2, o2, hi2, rfl, hE2⟩
   have e1 : decide ((l[i].toNat : Int) = 128) = decide (l[i].toNat = 128) := decide_eq_decide.2 (by omega); have e2 : decide ((72057594037927935 : Int) < n) = decide (72057594037927935 < n) := decide_eq_decide.2 (by omega)
   refine JL.op (RunV.ld_u8 ag_5 rfl (by assumption)) rfl ?_
   refine Ru 1 rfl ?_
   refine JL.nil ?_
   refine J.seq ?_
   refine J.seq ?_
   refine J.meet [(25, .bool ((fresh && decide ((l[i].toNat : Int) = 128)) || decide ((72057594037927935 : Int) < n)))] [(9, _), (16, _), (15, _), (14, _), (4, _), (5, _), (6, _), (7, _), (11, _), (12, _), (13, _)] ⟨rfl, rfl, rfl, rfl, rfl, rfl, rfl, rfl, rfl, rfl, rfl, trivial⟩ ?_ ?_
   ·
    refine Rg ?_
    refine Ru 2 rfl ?_
    refine Bs 18 rfl (fun hc4 => ?_) fun hc4 => ?_
    ·
     refine Ru 4 rfl ?_
     refine Bs 22 rfl (fun hc5 => ?_) fun hc5 => ?_
     ·
      refine Ru 3 rfl ?_
      refine JL.nil ?_
      refine ⟨rfl, rfl, ?_⟩
      repeat (first | exact trivial | refine ⟨rfl, ?_⟩ | refine ⟨(by exact some_bool (by cases fresh <;> simp_all)), ?_⟩)
     refine Ru 3 rfl ?_
     refine JL.nil ?_
     refine ⟨rfl, rfl, ?_⟩
     repeat (first | exact trivial | refine ⟨rfl, ?_⟩ | refine ⟨(by exact some_bool (by cases fresh <;> simp_all)), ?_⟩)
    refine Ru 7 rfl ?_
    refine JL.nil ?_
    refine ⟨rfl, rfl, ?_⟩
    repeat (first | exact trivial | refine ⟨rfl, ?_⟩ | refine ⟨(by exact some_bool (by cases fresh <;> simp_all)), ?_⟩)
   refine Cs rfl (fun hc6 => ?_) fun hc6 => ?_
   ·
    rw [e1, e2] at hc6; have hcz := hc6
    refine Sr ?_
    refine Ru 2 rfl ?_
    refine JL.nil ?_
    exact J.retV (RetV.two rfl rfl rfl) (by have hz : oidT l = none := (by rw [he, List.drop_eq_getElem_cons (by omega), oidGo, if_pos hcz]); rw [hz]; rfl)
   rw [e1, e2] at hc6; have hcz := hc6; have hnn : ¬ 72057594037927935 < n := (by intro hh; rw [decide_eq_true hh] at hc6; simp at hc6); have hdr := List.drop_eq_getElem_cons hi2
   refine J.skip ?_
   refine Sr ?_
   refine Ru 1 rfl ?_
   refine JL.op (by first | exact RunV.shl_u64 128 rfl rfl (by decide) (by decide) (by decide) (by omega) (by omega) | exact RunV.shl rfl rfl (by decide) (by decide)) rfl ?_
   refine Ru 1 rfl ?_
   refine JL.op (by first | exact RunV.maskb_u8 7 128 rfl rfl (by decide) (by decide) (by decide) | exact RunV.mask_u8 7 128 rfl rfl (by decide) (by decide) (by decide) (by omega) (by omega) | exact RunV.and_ rfl rfl) rfl ?_
   refine JL.op (by first | exact RunV.convb_u64 cv_5_63 rfl | exact RunV.conv_u64 cv_5_63 rfl (by omega) (by omega) | exact RunV.conv cv_5_63 rfl) rfl ?_
   refine JL.op (RunV.join_u64 7 128 rfl rfl (by decide) (by omega) (by omega) (by omega) (by omega) (by omega) (by omega)) rfl ?_
   refine Ru 2 rfl ?_
   refine JL.nil ?_
   refine J.seq ?_
   refine Sr ?_
   refine Ru 2 rfl ?_
   refine JL.nil ?_
   refine Cs rfl (fun hc7 => ?_) fun hc7 => ?_
   ·
    refine J.exit ?_
    refine Rg ?_
    refine JL.op ai_ rfl ?_
    refine Ru 1 rfl ?_
    refine JL.nil ?_
    refine ⟨_, ?_, _, ?_, ⟨_, i + 1, out, n * 128 + l[i].toNat % 128, false, first, a, c, rfl, rfl, rfl, rfl, ⟨by assumption, by omega, by omega, by omega, by rw [he, hdr, oidGo, if_neg (by rw [hcz]; decide), if_pos (by omega)]⟩⟩⟩
    ·
     omega
    repeat (first | exact trivial | refine ⟨rfl, ?_⟩ | refine ⟨(by exact some_int (by simp <;> omega)), ?_⟩)
   refine J.skip ?_
   refine J.seq ?_
   refine Sr ?_
   refine Ru 1 rfl ?_
   refine JL.nil ?_
   refine Cs rfl (fun hc8 => ?_) fun hc8 => ?_
   ·
    subst hc8; obtain ⟨m2, hm2⟩ : ∃ m2 : Nat, m2 = n * 128 + l[i].toNat % 128 - 40 * min ((n * 128 + l[i].toNat % 128) / 40) 2 := ⟨_, rfl⟩
    refine Sr ?_
    refine Ru 1 rfl ?_
    refine JL.op z29_ rfl ?_
    refine JL.op (RunV.min2 rfl rfl) rfl ?_
    refine Ru 1 rfl ?_
    refine Nk [10, 37, 36, 35, 34, 33, 32, 6, 5, 31, 30, 29, 28, 27, 26, 25, 9, 16, 15, 14, 4, 7, 11, 12, 13] rfl ?_
    refine Sr ?_
    refine Ru 2 rfl ?_
    refine JL.call ca_169 rfl (digits_fn' (n := min ((n * 128 + l[i].toNat % 128) / 40) 2) (least := 1) (by split <;> omega) rfl (by omega) (by omega) (by omega)) pt_ rfl ?_
    rintro _ h9 Lo9 hle9 ⟨a9, c9, rfl, rfl⟩
    replace hl := hl.mono hle9
    replace hhg := hhg.mono hle9
    refine Ru 1 rfl ?_
    refine JL.nil ?_
    refine Sr ?_
    refine Ru 2 rfl ?_
    refine JL.op z33_ rfl ?_
    refine JL.op z50_ rfl ?_
    refine Ru 1 rfl ?_
    refine JL.nil ?_
    refine Rg ?_
    refine Ru 1 rfl ?_
    refine JL.nil ?_
    refine Sr ?_
    have hdl2 := dgs_len m2 1; have hdl := dgs_len (min ((n * 128 + l[i].toNat % 128) / 40) 2) 1
    refine Ru 1 rfl ?_
    refine JL.lit1 ap_22 zr_5 rfl rfl rfl rfl rfl (fun b10 => ?_)
    refine JL.append1 ap_22 rfl rfl CellsR.of_u8 rfl dl_ dl_ rfl ((show u8R _ [.int .u8 46] 46 from rfl)) z5_ rfl rfl (fun a11 c11 xs11 hC11 hN11 => ?_)
    obtain rfl := hC11.u8
    refine Ru 1 rfl ?_
    refine JL.call ca_169 rfl (digits_fn' (n := m2) (least := 1) (by (try split) <;> omega) rfl (by omega) (by omega) (by simp; omega)) pt_ rfl ?_
    rintro _ h12 Lo12 hle12 ⟨a12, c12, rfl, rfl⟩
    replace hl := hl.mono hle12
    replace hhg := hhg.mono hle12
    refine Ru 1 rfl ?_
    refine JL.nil ?_
    refine Rg ?_
    refine Ru 2 rfl ?_
    refine Nk [6, 5, 4, 49, 48, 47, 46, 45, 7, 44, 43, 42, 41, 40, 39, 38, 10, 37, 36, 35, 34, 33, 32, 31, 30, 29, 28, 27, 26, 25, 9, 16, 15, 14, 11, 12, 13] rfl ?_
    refine Rg ?_
    refine JL.op ai_ rfl ?_
    refine Ru 1 rfl ?_
    refine JL.nil ?_
    refine ⟨_, ?_, _, ?_, ⟨_, i + 1, _, 0, true, false, _, _, rfl, rfl, rfl, rfl, ⟨by assumption, by omega, by omega, by simp; omega, by rw [he, hdr, oidGo, if_neg (by rw [hcz]; decide), if_neg (by omega)]; subst hm2; simp [*]⟩⟩⟩
    ·
     omega
    repeat (first | exact trivial | refine ⟨rfl, ?_⟩ | refine ⟨(by exact some_int (by simp <;> omega)), ?_⟩)
   subst hc8; obtain ⟨m2, hm2⟩ : ∃ m2 : Nat, m2 = n * 128 + l[i].toNat % 128 := ⟨_, rfl⟩
   refine J.skip ?_
   refine Kp [34, 33, 32, 6, 5, 31, 30, 29, 28, 27, 26, 25, 9, 16, 15, 14, 4, 7, 11, 12, 13] rfl ?_
   refine Sr ?_
   have hdl2 := dgs_len m2 1; have hdl := dgs_len (min ((n * 128 + l[i].toNat % 128) / 40) 2) 1
   refine Ru 1 rfl ?_
   refine JL.lit1 ap_22 zr_5 rfl rfl rfl rfl rfl (fun b13 => ?_)
   refine JL.append1 ap_22 rfl rfl CellsR.of_u8 rfl dl_ dl_ rfl ((show u8R _ [.int .u8 46] 46 from rfl)) z5_ rfl rfl (fun a14 c14 xs14 hC14 hN14 => ?_)
   obtain rfl := hC14.u8
   refine Ru 1 rfl ?_
   refine JL.call ca_169 rfl (digits_fn' (n := m2) (least := 1) (by (try split) <;> omega) rfl (by omega) (by omega) (by simp; omega)) pt_ rfl ?_
   rintro _ h15 Lo15 hle15 ⟨a15, c15, rfl, rfl⟩
   replace hl := hl.mono hle15
   replace hhg := hhg.mono hle15
   refine Ru 1 rfl ?_
   refine JL.nil ?_
   refine Rg ?_
   refine Ru 2 rfl ?_
   refine JL.nil ?_
   refine Rg ?_
   refine JL.op ai_ rfl ?_
   refine Ru 1 rfl ?_
   refine JL.nil ?_
   refine ⟨_, ?_, _, ?_, ⟨_, i + 1, _, 0, true, false, _, _, rfl, rfl, rfl, rfl, ⟨by assumption, by omega, by omega, by simp; omega, by rw [he, hdr, oidGo, if_neg (by rw [hcz]; decide), if_neg (by omega)]; subst hm2; simp [*]⟩⟩⟩
   ·
    omega
   repeat (first | exact trivial | refine ⟨rfl, ?_⟩ | refine ⟨(by exact some_int (by simp <;> omega)), ?_⟩)
  refine J.exit ?_
  refine Kp [4, 6, 7] rfl ?_
  refine J.seq ?_
  refine Sr ?_
  refine Ru 3 rfl ?_
  refine Bs 53 rfl (fun hc16 => ?_) fun hc16 => ?_
  ·
   refine Ru 2 rfl ?_
   refine Nk [55, 4] rfl ?_
   refine J.cond_t rfl ?_
   refine Sr ?_
   refine Ru 2 rfl ?_
   refine JL.nil ?_
   exact J.retV (RetV.two rfl rfl rfl) z46_
  refine Ru 2 rfl ?_
  refine Nk [55, 4] rfl ?_
  refine Cs rfl (fun hc17 => ?_) fun hc17 => ?_
  ·
   refine Sr ?_
   refine Ru 2 rfl ?_
   refine JL.nil ?_
   exact J.retV (RetV.two rfl rfl rfl) z46_
  refine J.skip ?_
  refine Sr ?_
  refine Ru 1 rfl ?_
  refine JL.pub (R := u8R) (l := out) dl_ CellsR.of_u8 rfl (by omega) (fun hp hlep hSp => ?_)
  refine JL.op (RunV.strB sb_22_9 rfl (by assumption) rfl) rfl ?_
  refine Ru 2 rfl ?_
  refine Nk [3, 2] rfl ?_
  exact J.retV (RetV.two rfl rfl rfl) z46_
end Go.Proofs.YtmngjbefnloljaaGreatDoor
namespace Go.Proofs.YtmngjbefnloljaaGreatDoor
open Go Go.RowKit
theorem z1_ {p : Prop} (u : p := by first | (rw [valB_1 (by omega), ← e0 (by omega)]; (congr 1; first | exact (decide_eq_true (by omega)).symm | exact (decide_eq_false (by omega)).symm | exact decide_eq_decide.2 (by omega) | (rw [← decide_not]; exact decide_eq_decide.2 (by omega)))) | (rw [valB_1 (by omega)]; (congr 1; first | exact (decide_eq_true (by omega)).symm | exact (decide_eq_false (by omega)).symm | exact decide_eq_decide.2 (by omega) | (rw [← decide_not]; exact decide_eq_decide.2 (by omega)))) | rw [valB_2 (by omega)] | (rw [valB_3 (by omega), bitsB, ← e0, ← e1, decide_eq_true (by omega)]; done) | (rw [valB_3 (by omega), bitsB, ← e0, ← e1]; congr 1; exact decide_eq_decide.2 ⟨fun hh => ⟨by omega, .inr (by exact_mod_cast hh)⟩, fun ⟨_, hh⟩ => by exact_mod_cast hh.resolve_left (by omega)⟩) | (rw [valB_3 (by omega), bitsB, ← e0 (by omega), decide_eq_false (by omega)]; done) | (rw [valB_3 (by omega), bitsB, decide_eq_false (by omega)]; done) | (rw [valB_5 (by omega)]; (congr 1; first | exact (decide_eq_true (by omega)).symm | exact (decide_eq_false (by omega)).symm | exact decide_eq_decide.2 (by omega) | (rw [← decide_not]; exact decide_eq_decide.2 (by omega)))) | (rw [valB_6 (by omega)]; cases (oidT l).isSome <;> rfl) | rw [valB_12 (by omega)] | rw [valB_19 (by omega)] | rw [valB_22 (by omega)] | (rw [valB_23 (by omega)]; cases psOk l <;> rfl) | (rw [valB_24 (by omega)]; cases plOk l <;> rfl) | rw [valB_0 (by omega)]) : p := u
theorem z4_ {p : Prop} (u : p := by repeat (first | exact trivial | refine ⟨rfl, ?_⟩ | refine ⟨(by exact some_int (by omega)), ?_⟩)) : p := u
theorem z27_ {p : Prop} (u : p := by rw [leastB, if_neg (by omega), if_neg (by omega), ← e0, ← e1]; (congr 1; first | exact (decide_eq_true (by omega)).symm | exact (decide_eq_false (by omega)).symm | exact decide_eq_decide.2 (by omega) | (rw [← decide_not]; exact decide_eq_decide.2 (by omega)))) : p := u
end Go.Proofs.YtmngjbefnloljaaGreatDoor
namespace Go.Proofs.YtmngjbefnloljaaGreatDoor
open Go Go.RowKit
theorem ag_3 : aggT Tryz.prog 3 = some none := by kernel_rfl
theorem ag_4 : aggT Tryz.prog 4 = some none := by kernel_rfl
theorem ca_150 : callT Tryz.prog 150 = true := by kernel_rfl
theorem ca_151 : callT Tryz.prog 151 = true := by kernel_rfl
theorem ca_152 : callT Tryz.prog 152 = true := by kernel_rfl
theorem ca_153 : callT Tryz.prog 153 = true := by kernel_rfl
theorem ca_154 : callT Tryz.prog 154 = true := by kernel_rfl
theorem ca_155 : callT Tryz.prog 155 = true := by kernel_rfl
theorem ca_156 : callT Tryz.prog 156 = true := by kernel_rfl
theorem ca_157 : callT Tryz.prog 157 = true := by kernel_rfl
theorem cv_3_5 : convI Tryz.prog 3 5 = some .u8 := by kernel_rfl
theorem un_4 : Tryz.prog.underlying 4 = some .bool := by kernel_rfl
theorem oidtext_fn {a0 : Option Addr} {c0 : Nat} {l : List UInt8} {h : Part} (hl : SlR u8R 1 h a0 c0 l) (hb : l.length ≤ 1073741824) :
    Pure Tryz.prog 152 [.slice a0 l.length c0] h (.tuple #[.string ⟨((oidT l).getD []).toArray⟩, .int .i64 (if (oidT l).isSome then 0 else 20)]) := Pure.ofV (oidtext_fn' hl hb)
theorem form_cases (t : Int) : form t = 0 ∨ form t = 1 ∨ form t = 2 := by
  unfold form
  split
  · exact .inr (.inr rfl)
  · split
    · exact .inr (.inl rfl)
    · exact .inl rfl
theorem known_fn (t : Int) (h : Part) : Pure Tryz.prog 150 [.int .i64 t] h (.tuple #[.bool (decide (form t ≠ 0)), .bool (decide (form t = 2))]) := by
  refine Fn.intro Tryz.func150 rfl Tryz.ntmps150 rfl (fun e he => ?_)
  refine J.weak [(0, _)] ⟨rfl, trivial⟩ ?_
  refine Sr ?_
  refine Ru 2 rfl ?_
  refine JL.nil ?_
  refine J.seq ?_
  refine Sr ?_
  refine Ru 1 rfl ?_
  refine JL.nil ?_
  refine J.block ?_
  refine J.seq ?_
  refine Sr ?_
  refine Ru 2 rfl ?_
  refine JL.nil ?_
  refine Cs rfl (fun hc1 => ?_) fun hc1 => ?_
  ·
   refine J.skip ?_
   refine J.cond_t rfl ?_
   refine Sr ?_
   refine Ru 2 rfl ?_
   refine Nk [3, 2] rfl ?_
   exact J.retP (RetV.two rfl rfl rfl) (by simp [form, *]) rfl
  refine Rg ?_
  refine Ru 2 rfl ?_
  refine Nk [5, 4, 3, 2] rfl ?_
  refine Cs rfl (fun hc2 => ?_) fun hc2 => ?_
  ·
   refine Sr ?_
   refine Ru 2 rfl ?_
   refine Nk [3, 2] rfl ?_
   exact J.retP (RetV.two rfl rfl rfl) (by simp [form, *]) rfl
  refine J.seq ?_
  refine Sr ?_
  refine Ru 2 rfl ?_
  refine JL.nil ?_
  refine Cs rfl (fun hc3 => ?_) fun hc3 => ?_
  ·
   refine J.skip ?_
   refine Kp [8, 3, 2] rfl ?_
   refine J.cond_t rfl ?_
   refine Sr ?_
   refine Ru 2 rfl ?_
   refine JL.nil ?_
   exact J.retP (RetV.two rfl rfl rfl) (by simp [form, *]) rfl
  refine Sr ?_
  refine Ru 2 rfl ?_
  refine Nk [8, 4, 3, 2] rfl ?_
  refine Cs rfl (fun hc4 => ?_) fun hc4 => ?_
  ·
   refine J.skip ?_
   refine J.cond_t rfl ?_
   refine Sr ?_
   refine Ru 2 rfl ?_
   refine Nk [3, 2] rfl ?_
   exact J.retP (RetV.two rfl rfl rfl) (by simp [form, *]) rfl
  refine Sr ?_
  refine Ru 2 rfl ?_
  refine JL.nil ?_
  refine Cs rfl (fun hc5 => ?_) fun hc5 => ?_
  ·
   refine J.skip ?_
   refine Kp [8, 3, 2] rfl ?_
   refine J.cond_t rfl ?_
   refine Sr ?_
   refine Ru 2 rfl ?_
   refine JL.nil ?_
   exact J.retP (RetV.two rfl rfl rfl) (by simp [form, *]) rfl
  refine Sr ?_
  refine Ru 2 rfl ?_
  refine Nk [8, 4, 3, 2] rfl ?_
  refine Cs rfl (fun hc6 => ?_) fun hc6 => ?_
  ·
   refine J.skip ?_
   refine J.cond_t rfl ?_
   refine Sr ?_
   refine Ru 2 rfl ?_
   refine Nk [3, 2] rfl ?_
   exact J.retP (RetV.two rfl rfl rfl) (by simp [form, *]) rfl
  refine Sr ?_
  refine Ru 2 rfl ?_
  refine JL.nil ?_
  refine Cs rfl (fun hc7 => ?_) fun hc7 => ?_
  ·
   refine J.skip ?_
   refine Kp [8, 3, 2] rfl ?_
   refine J.cond_t rfl ?_
   refine Sr ?_
   refine Ru 2 rfl ?_
   refine JL.nil ?_
   exact J.retP (RetV.two rfl rfl rfl) (by simp [form, *]) rfl
  refine Sr ?_
  refine Ru 2 rfl ?_
  refine Nk [8, 4, 3, 2] rfl ?_
  refine Cs rfl (fun hc8 => ?_) fun hc8 => ?_
  ·
   refine J.skip ?_
   refine J.cond_t rfl ?_
   refine Sr ?_
   refine Ru 2 rfl ?_
   refine Nk [3, 2] rfl ?_
   exact J.retP (RetV.two rfl rfl rfl) (by simp [form, *]) rfl
  refine Sr ?_
  refine Ru 2 rfl ?_
  refine JL.nil ?_
  refine Cs rfl (fun hc9 => ?_) fun hc9 => ?_
  ·
   refine J.skip ?_
   refine Kp [8, 3, 2] rfl ?_
   refine J.cond_t rfl ?_
   refine Sr ?_
   refine Ru 2 rfl ?_
   refine JL.nil ?_
   exact J.retP (RetV.two rfl rfl rfl) (by simp [form, *]) rfl
  refine Sr ?_
  refine Ru 2 rfl ?_
  refine Nk [8, 4, 3, 2] rfl ?_
  refine Cs rfl (fun hc10 => ?_) fun hc10 => ?_
  ·
   refine J.skip ?_
   refine J.cond_t rfl ?_
   refine Sr ?_
   refine Ru 2 rfl ?_
   refine Nk [3, 2] rfl ?_
   exact J.retP (RetV.two rfl rfl rfl) (by simp [form, *]) rfl
  refine Sr ?_
  refine Ru 2 rfl ?_
  refine JL.nil ?_
  refine Cs rfl (fun hc11 => ?_) fun hc11 => ?_
  ·
   refine J.skip ?_
   refine Kp [8, 3, 2] rfl ?_
   refine J.cond_t rfl ?_
   refine Sr ?_
   refine Ru 2 rfl ?_
   refine JL.nil ?_
   exact J.retP (RetV.two rfl rfl rfl) (by simp [form, *]) rfl
  refine Sr ?_
  refine Ru 2 rfl ?_
  refine Nk [8, 4, 3, 2] rfl ?_
  refine Cs rfl (fun hc12 => ?_) fun hc12 => ?_
  ·
   refine J.skip ?_
   refine J.cond_t rfl ?_
   refine Sr ?_
   refine Ru 2 rfl ?_
   refine Nk [3, 2] rfl ?_
   exact J.retP (RetV.two rfl rfl rfl) (by simp [form, *]) rfl
  refine Sr ?_
  refine Ru 2 rfl ?_
  refine JL.nil ?_
  refine Cs rfl (fun hc13 => ?_) fun hc13 => ?_
  ·
   refine J.skip ?_
   refine Kp [8, 3, 2] rfl ?_
   refine J.cond_t rfl ?_
   refine Sr ?_
   refine Ru 2 rfl ?_
   refine JL.nil ?_
   exact J.retP (RetV.two rfl rfl rfl) (by simp [form, *]) rfl
  refine Rg ?_
  refine Ru 2 rfl ?_
  refine Nk [8, 3, 2] rfl ?_
  refine Cs rfl (fun hc14 => ?_) fun hc14 => ?_
  ·
   refine Sr ?_
   refine Ru 2 rfl ?_
   refine JL.nil ?_
   exact J.retP (RetV.two rfl rfl rfl) (by simp [form, *]) rfl
  refine J.skip ?_
  refine Sr ?_
  refine Ru 2 rfl ?_
  refine JL.nil ?_
  exact J.retP (RetV.two rfl rfl rfl) (by simp [form, *]) rfl
theorem pmay_fn {x : Nd} {cs : List Value} {h : Part} (r : NdR h cs x) : Pure Tryz.prog 130 [.agg cs.toArray] h (.bool (mayB x.cls x.tag x.cons)) := by
  cases x with
  | mk c t k bs ks =>
  obtain ⟨a, ca, b, cb, rfl, ha, hb⟩ := r.inv
  simp only [Nd.cls, Nd.tag, Nd.cons]
  have hf := form_cases t
  refine Fn.intro Tryz.func130 rfl Tryz.ntmps130 rfl (fun e he => ?_)
  refine J.weak [(0, _)] ⟨rfl, trivial⟩ ?_
  refine Sr ?_
  refine JL.box rfl rfl rfl (fun b1 => ?_)
  refine Ru 1 rfl ?_
  refine JL.nil ?_
  refine J.seq ?_
  refine Sr ?_
  refine Ru 1 rfl ?_
  refine JL.op (RunV.own1 ag_3 rfl mm_ rfl) rfl ?_
  refine Ru 2 rfl ?_
  refine Bs 8 rfl (fun hc2 => ?_) fun hc2 => ?_
  ·
   refine Ru 4 rfl ?_
   refine Nk [12, 2, 1] rfl ?_
   refine J.cond_t rfl ?_
   refine Sr ?_
   refine Ru 1 rfl ?_
   refine JL.nil ?_
   exact J.retP (RetV.one rfl rfl) (by rcases hf with hf | hf | hf <;> cases k <;> simp_all [mayB] <;> omega) rfl
  refine Ru 1 rfl ?_
  refine JL.opg rfl rfl  (RunV.own1 ag_3 rfl mm_ rfl) rfl ?_
  refine Ru 2 rfl ?_
  refine Nk [12, 2, 1] rfl ?_
  refine Cs rfl (fun hc3 => ?_) fun hc3 => ?_
  ·
   refine Sr ?_
   refine Ru 1 rfl ?_
   refine JL.nil ?_
   exact J.retP (RetV.one rfl rfl) (by rcases hf with hf | hf | hf <;> cases k <;> simp_all [mayB] <;> omega) rfl
  refine J.skip ?_
  refine J.seq ?_
  refine Sr ?_
  refine Ru 1 rfl ?_
  refine JL.op (RunV.own1 ag_3 rfl mm_ rfl) rfl ?_
  refine JL.nil ?_
  refine J.block ?_
  refine Sr ?_
  refine Ru 2 rfl ?_
  refine JL.nil ?_
  refine Cs rfl (fun hc4 => ?_) fun hc4 => ?_
  ·
   refine Sr ?_
   refine Ru 1 rfl ?_
   refine Nk [2] rfl ?_
   exact J.retP (RetV.one rfl rfl) (by rcases hf with hf | hf | hf <;> cases k <;> simp_all [mayB] <;> omega) rfl
  refine Sr ?_
  refine Ru 2 rfl ?_
  refine Nk [17, 2, 1] rfl ?_
  refine Cs rfl (fun hc5 => ?_) fun hc5 => ?_
  ·
   refine Sr ?_
   refine Ru 1 rfl ?_
   refine JL.op (RunV.own1 ag_3 rfl mm_ rfl) rfl ?_
   refine JL.callP ca_150 rfl (known_fn _ _) rfl ?_
   refine Ru 5 rfl ?_
   refine Nk [4, 3, 2, 1] rfl ?_
   refine Sr ?_
   refine Ru 2 rfl ?_
   refine Bs 26 rfl (fun hc7 => ?_) fun hc7 => ?_
   ·
    refine Ru 2 rfl ?_
    refine JL.opg rfl rfl  (RunV.own1 ag_4 rfl mm_ rfl) rfl ?_
    refine JL.opg rfl rfl  (RunV.eqlB un_4 rfl rfl) rfl ?_
    refine Ru 2 rfl ?_
    refine Nk [2] rfl ?_
    exact J.retP (RetV.one rfl rfl) (by rcases hf with hf | hf | hf <;> cases k <;> simp_all [mayB] <;> omega) rfl
   refine Ru 6 rfl ?_
   refine Nk [2] rfl ?_
   exact J.retP (RetV.one rfl rfl) (by rcases hf with hf | hf | hf <;> cases k <;> simp_all [mayB] <;> omega) rfl
  refine J.skip ?_
  refine Sr ?_
  refine Ru 1 rfl ?_
  refine JL.nil ?_
  exact J.retP (RetV.one rfl rfl) (by rcases hf with hf | hf | hf <;> cases k <;> simp_all [mayB] <;> omega) rfl
def leastB (b : List UInt8) : Bool := if b.length = 0 then false else if b.length = 1 then true else decide (¬ (byteAt b 0 = 0 ∧ byteAt b 1 < 128 ∨ byteAt b 0 = 255 ∧ 127 < byteAt b 1))
theorem least_fn {a : Option Addr} {c : Nat} {l : List UInt8} {h : Part} (hl : SlR u8R 1 h a c l) : Pure Tryz.prog 151 [.slice a l.length c] h (.bool (leastB l)) := by
  have hb := hl.le63
  refine Fn.intro Tryz.func151 rfl Tryz.ntmps151 rfl (fun e he => ?_)
  refine J.weak [(0, _)] ⟨rfl, trivial⟩ ?_
  refine Sr ?_
  refine Ru 1 rfl ?_
  refine JL.nil ?_
  refine J.seq ?_
  refine J.block ?_
  refine Sr ?_
  refine Ru 4 rfl ?_
  refine JL.nil ?_
  refine Cs rfl (fun hc1 => ?_) fun hc1 => ?_
  ·
   refine Sr ?_
   refine Ru 1 rfl ?_
   refine Nk [2, 0] rfl ?_
   exact J.retP (RetV.one rfl rfl) (by rw [leastB, if_pos (by omega)]) rfl
  refine Sr ?_
  refine Ru 4 rfl ?_
  refine Nk [7, 2, 0] rfl ?_
  refine Cs rfl (fun hc2 => ?_) fun hc2 => ?_
  ·
   refine Sr ?_
   refine Ru 1 rfl ?_
   refine JL.nil ?_
   exact J.retP (RetV.one rfl rfl) (by rw [leastB, if_neg (by omega), if_pos (by omega)]) rfl
  refine J.skip ?_
  refine Sr ?_
  have e0 := byteAt_eq l 0 (by omega); have e1 := byteAt_eq l 1 (by omega)
  refine Ru 1 rfl ?_
  refine JL.ope (RunE.index sl_22 rfl rfl (show _ = ((0 : Nat) : Int) from rfl) (by assumption) rfl (by omega)) rfl ?_
  rintro _ ⟨b3, o3, hi3, rfl, hE3⟩
  refine JL.op (RunV.ld_u8 ag_5 rfl (by assumption)) rfl ?_
  refine Ru 2 rfl ?_
  refine Bs 15 rfl (fun hc5 => ?_) fun hc5 => ?_
  ·
   refine Ru 1 rfl ?_
   refine JL.opeg rfl rfl  (RunE.index sl_22 rfl rfl (show _ = ((1 : Nat) : Int) from rfl) (by assumption) rfl (by omega)) rfl ?_
   rintro _ ⟨b6, o6, hi6, rfl, hE6⟩
   refine JL.opg rfl rfl  (RunV.ld_u8 ag_5 rfl (by assumption)) rfl ?_
   refine Ru 3 rfl ?_
   refine Bs 21 rfl (fun hc8 => ?_) fun hc8 => ?_
   ·
    refine Ru 13 rfl ?_
    refine Nk [2] rfl ?_
    exact J.retP (RetV.one rfl rfl) z27_ rfl
   refine Ru 1 rfl ?_
   refine JL.opeg rfl rfl  (RunE.index sl_22 rfl rfl (show _ = ((0 : Nat) : Int) from rfl) (by assumption) rfl (by omega)) rfl ?_
   rintro _ ⟨b9, o9, hi9, rfl, hE9⟩
   refine JL.opg rfl rfl  (RunV.ld_u8 ag_5 rfl (by assumption)) rfl ?_
   refine Ru 2 rfl ?_
   refine Bs 26 rfl (fun hc11 => ?_) fun hc11 => ?_
   ·
    refine Ru 1 rfl ?_
    refine JL.opeg rfl rfl  (RunE.index sl_22 rfl rfl (show _ = ((1 : Nat) : Int) from rfl) (by assumption) rfl (by omega)) rfl ?_
    rintro _ ⟨b12, o12, hi12, rfl, hE12⟩
    refine JL.opg rfl rfl  (RunV.ld_u8 ag_5 rfl (by assumption)) rfl ?_
    refine Ru 5 rfl ?_
    refine Nk [2] rfl ?_
    exact J.retP (RetV.one rfl rfl) z27_ rfl
   refine Ru 8 rfl ?_
   refine Nk [2] rfl ?_
   exact J.retP (RetV.one rfl rfl) z27_ rfl
  refine Ru 7 rfl ?_
  refine JL.opeg rfl rfl  (RunE.index sl_22 rfl rfl (show _ = ((0 : Nat) : Int) from rfl) (by assumption) rfl (by omega)) rfl ?_
  rintro _ ⟨b14, o14, hi14, rfl, hE14⟩
  refine JL.opg rfl rfl  (RunV.ld_u8 ag_5 rfl (by assumption)) rfl ?_
  refine Ru 2 rfl ?_
  refine Bs 26 rfl (fun hc16 => ?_) fun hc16 => ?_
  ·
   refine Ru 1 rfl ?_
   refine JL.opeg rfl rfl  (RunE.index sl_22 rfl rfl (show _ = ((1 : Nat) : Int) from rfl) (by assumption) rfl (by omega)) rfl ?_
   rintro _ ⟨b17, o17, hi17, rfl, hE17⟩
   refine JL.opg rfl rfl  (RunV.ld_u8 ag_5 rfl (by assumption)) rfl ?_
   refine Ru 5 rfl ?_
   refine Nk [2] rfl ?_
   exact J.retP (RetV.one rfl rfl) z27_ rfl
  refine Ru 8 rfl ?_
  refine Nk [2] rfl ?_
  exact J.retP (RetV.one rfl rfl) z27_ rfl
def bitsB (b : List UInt8) : Bool := decide (¬ (b.length = 0 ∨ 7 < byteAt b 0 ∨ b.length = 1 ∧ 0 < byteAt b 0) ∧ (byteAt b 0 = 0 ∨ byteAt b (b.length - 1) % 2 ^ byteAt b 0 = 0))
def valB (t : Int) (b : List UInt8) : Bool :=
  if t = 1 then decide (b.length = 1 ∧ (byteAt b 0 = 0 ∨ byteAt b 0 = 255)) else if t = 2 ∨ t = 10 then leastB b else if t = 3 then bitsB b else if t = 5 then decide (b.length = 0)
  else if t = 6 then (oidT b).isSome else if t = 12 then runes (fun c n => !decide (c = 65533 ∧ n = 1)) b 0 else if t = 19 then runes (fun c _ => prC c) b 0 else if t = 22 then runes (fun c _ => decide (c ≤ 127)) b 0
  else if t = 23 then psOk b else if t = 24 then plOk b else true
theorem valB_1 {t : Int} {b : List UInt8} (h : t = 1) : valB t b = decide (b.length = 1 ∧ (byteAt b 0 = 0 ∨ byteAt b 0 = 255)) := by
  unfold valB; rw [if_pos (by omega)]
theorem valB_2 {t : Int} {b : List UInt8} (h : t = 2 ∨ t = 10) : valB t b = leastB b := by
  unfold valB; rw [if_neg (by omega)]; rw [if_pos (by omega)]
theorem valB_3 {t : Int} {b : List UInt8} (h : t = 3) : valB t b = bitsB b := by
  unfold valB; rw [if_neg (by omega)]; rw [if_neg (by omega)]; rw [if_pos (by omega)]
theorem valB_5 {t : Int} {b : List UInt8} (h : t = 5) : valB t b = decide (b.length = 0) := by
  unfold valB; rw [if_neg (by omega)]; rw [if_neg (by omega)]; rw [if_neg (by omega)]; rw [if_pos (by omega)]
theorem valB_6 {t : Int} {b : List UInt8} (h : t = 6) : valB t b = (oidT b).isSome := by
  unfold valB; rw [if_neg (by omega)]; rw [if_neg (by omega)]; rw [if_neg (by omega)]; rw [if_neg (by omega)]; rw [if_pos (by omega)]
theorem valB_12 {t : Int} {b : List UInt8} (h : t = 12) : valB t b = runes (fun c n => !decide (c = 65533 ∧ n = 1)) b 0 := by
  unfold valB; rw [if_neg (by omega)]; rw [if_neg (by omega)]; rw [if_neg (by omega)]; rw [if_neg (by omega)]; rw [if_neg (by omega)]; rw [if_pos (by omega)]
theorem valB_19 {t : Int} {b : List UInt8} (h : t = 19) : valB t b = runes (fun c _ => prC c) b 0 := by
  unfold valB; rw [if_neg (by omega)]; rw [if_neg (by omega)]; rw [if_neg (by omega)]; rw [if_neg (by omega)]; rw [if_neg (by omega)]; rw [if_neg (by omega)]; rw [if_pos (by omega)]
theorem valB_22 {t : Int} {b : List UInt8} (h : t = 22) : valB t b = runes (fun c _ => decide (c ≤ 127)) b 0 := by
  unfold valB; rw [if_neg (by omega)]; rw [if_neg (by omega)]; rw [if_neg (by omega)]; rw [if_neg (by omega)]; rw [if_neg (by omega)]; rw [if_neg (by omega)]; rw [if_neg (by omega)]; rw [if_pos (by omega)]
theorem valB_23 {t : Int} {b : List UInt8} (h : t = 23) : valB t b = psOk b := by
  unfold valB; rw [if_neg (by omega)]; rw [if_neg (by omega)]; rw [if_neg (by omega)]; rw [if_neg (by omega)]; rw [if_neg (by omega)]; rw [if_neg (by omega)]; rw [if_neg (by omega)]; rw [if_neg (by omega)]; rw [if_pos (by omega)]
theorem valB_24 {t : Int} {b : List UInt8} (h : t = 24) : valB t b = plOk b := by
  unfold valB; rw [if_neg (by omega)]; rw [if_neg (by omega)]; rw [if_neg (by omega)]; rw [if_neg (by omega)]; rw [if_neg (by omega)]; rw [if_neg (by omega)]; rw [if_neg (by omega)]; rw [if_neg (by omega)]; rw [if_neg (by omega)]; rw [if_pos (by omega)]
theorem valB_0 {t : Int} {b : List UInt8} (h : ¬ (t = 1 ∨ t = 2 ∨ t = 10 ∨ t = 3 ∨ t = 5 ∨ t = 6 ∨ t = 12 ∨ t = 19 ∨ t = 22 ∨ t = 23 ∨ t = 24)) : valB t b = true := by
  unfold valB; rw [if_neg (by omega)]; rw [if_neg (by omega)]; rw [if_neg (by omega)]; rw [if_neg (by omega)]; rw [if_neg (by omega)]; rw [if_neg (by omega)]; rw [if_neg (by omega)]; rw [if_neg (by omega)]; rw [if_neg (by omega)]; rw [if_neg (by omega)]
theorem pow2_7 (n : Nat) (h : n ≤ 7) : (1 : Int) ≤ 2 ^ n ∧ (2 : Int) ^ n ≤ 128 := by
  have : n = 0 ∨ n = 1 ∨ n = 2 ∨ n = 3 ∨ n = 4 ∨ n = 5 ∨ n = 6 ∨ n = 7 := by omega
  rcases this with rfl | rfl | rfl | rfl | rfl | rfl | rfl | rfl <;> decide
theorem value_fn {t : Int} {a : Option Addr} {c : Nat} {l : List UInt8} {h : Part} (hl : SlR u8R 1 h a c l) (hT : Tabs h) (hb : l.length ≤ 1073741824) : Pure Tryz.prog 131 [.int .i64 t, .slice a l.length c] h (.bool (valB t l)) := by
  have e0 := fun hh => byteAt_eq l 0 hh
  refine Fn.intro Tryz.func131 rfl Tryz.ntmps131 rfl (fun e he => ?_)
  refine J.weak [(0, _), (1, _)] ⟨rfl, rfl, trivial⟩ ?_
  refine Sr ?_
  refine Ru 1 rfl ?_
  refine JL.nil ?_
  refine J.seq ?_
  refine Sr ?_
  refine Ru 1 rfl ?_
  refine JL.nil ?_
  refine J.block ?_
  refine Sr ?_
  refine Ru 2 rfl ?_
  refine JL.nil ?_
  refine Cs rfl (fun hc1 => ?_) fun hc1 => ?_
  ·
   refine Sr ?_
   refine Ru 4 rfl ?_
   refine Bs 18 rfl (fun hc2 => ?_) fun hc2 => ?_
   ·
    refine Ru 1 rfl ?_
    refine JL.opeg rfl rfl  (RunE.index sl_22 rfl rfl (show _ = ((0 : Nat) : Int) from rfl) (by assumption) rfl (by omega)) rfl ?_
    rintro _ ⟨b3, o3, hi3, rfl, hE3⟩
    refine JL.opg rfl rfl  (RunV.ld_u8 ag_5 rfl (by assumption)) rfl ?_
    refine Ru 2 rfl ?_
    refine Bs 23 rfl (fun hc5 => ?_) fun hc5 => ?_
    ·
     refine Ru 7 rfl ?_
     refine Nk [4] rfl ?_
     exact J.retP (RetV.one rfl rfl) z1_ rfl
    refine Ru 1 rfl ?_
    refine JL.opeg rfl rfl  (RunE.index sl_22 rfl rfl (show _ = ((0 : Nat) : Int) from rfl) (by assumption) rfl (by omega)) rfl ?_
    rintro _ ⟨b6, o6, hi6, rfl, hE6⟩
    refine JL.opg rfl rfl  (RunV.ld_u8 ag_5 rfl (by assumption)) rfl ?_
    refine Ru 4 rfl ?_
    refine Nk [4] rfl ?_
    exact J.retP (RetV.one rfl rfl) z1_ rfl
   refine Ru 12 rfl ?_
   refine Nk [4] rfl ?_
   exact J.retP (RetV.one rfl rfl) z1_ rfl
  refine J.seq ?_
  refine Sr ?_
  refine Ru 2 rfl ?_
  refine Nk [30, 12, 4, 1] rfl ?_
  refine Cs rfl (fun hc8 => ?_) fun hc8 => ?_
  ·
   refine J.skip ?_
   refine J.cond_t rfl ?_
   refine Sr ?_
   refine Ru 1 rfl ?_
   refine JL.callP ca_151 rfl (least_fn (by assumption)) rfl ?_
   refine Ru 1 rfl ?_
   refine Nk [4] rfl ?_
   exact J.retP (RetV.one rfl rfl) z1_ rfl
  refine Rg ?_
  refine Ru 2 rfl ?_
  refine JL.nil ?_
  refine Cs rfl (fun hc10 => ?_) fun hc10 => ?_
  ·
   refine Sr ?_
   refine Ru 1 rfl ?_
   refine JL.callP ca_151 rfl (least_fn (by assumption)) rfl ?_
   refine Ru 1 rfl ?_
   refine Nk [4] rfl ?_
   exact J.retP (RetV.one rfl rfl) z1_ rfl
  refine Sr ?_
  refine Ru 2 rfl ?_
  refine Nk [35, 12, 4, 1] rfl ?_
  refine Cs rfl (fun hc12 => ?_) fun hc12 => ?_
  ·
   refine J.seq ?_
   refine Sr ?_
   refine Ru 4 rfl ?_
   refine Bs 40 rfl (fun hc13 => ?_) fun hc13 => ?_
   ·
    refine Ru 16 rfl ?_
    refine Nk [56, 4, 1] rfl ?_
    refine J.cond_t rfl ?_
    refine Sr ?_
    refine Ru 1 rfl ?_
    refine JL.nil ?_
    exact J.retP (RetV.one rfl rfl) z1_ rfl
   refine Ru 1 rfl ?_
   refine JL.opeg rfl rfl  (RunE.index sl_22 rfl rfl (show _ = ((0 : Nat) : Int) from rfl) (by assumption) rfl (by omega)) rfl ?_
   rintro _ ⟨b14, o14, hi14, rfl, hE14⟩
   refine JL.opg rfl rfl  (RunV.ld_u8 ag_5 rfl (by assumption)) rfl ?_
   refine Ru 3 rfl ?_
   refine Bs 46 rfl (fun hc16 => ?_) fun hc16 => ?_
   ·
    refine Ru 10 rfl ?_
    refine Nk [56, 4, 1] rfl ?_
    refine J.cond_t rfl ?_
    refine Sr ?_
    refine Ru 1 rfl ?_
    refine JL.nil ?_
    exact J.retP (RetV.one rfl rfl) z1_ rfl
   refine Ru 4 rfl ?_
   refine Bs 50 rfl (fun hc17 => ?_) fun hc17 => ?_
   ·
    refine Ru 1 rfl ?_
    refine JL.opeg rfl rfl  (RunE.index sl_22 rfl rfl (show _ = ((0 : Nat) : Int) from rfl) (by assumption) rfl (by omega)) rfl ?_
    rintro _ ⟨b18, o18, hi18, rfl, hE18⟩
    refine JL.opg rfl rfl  (RunV.ld_u8 ag_5 rfl (by assumption)) rfl ?_
    refine Ru 3 rfl ?_
    refine Nk [56, 4, 1] rfl ?_
    refine Cs rfl (fun hc20 => ?_) fun hc20 => ?_
    ·
     refine Sr ?_
     refine Ru 1 rfl ?_
     refine JL.nil ?_
     exact J.retP (RetV.one rfl rfl) z1_ rfl
    refine J.skip ?_
    refine J.seq ?_
    refine J.drawn mixed_ (by kernel_rfl) ?_
    have e0 := byteAt_eq l 0 (by omega); have e1 := byteAt_eq l (l.length - 1) (by omega); have hp := pow2_7 (l[0]'(by omega)).toNat (by omega)
    refine Rq 1 rfl ?_
    refine JQ.ope (RunE.index sl_22 rfl rfl (show _ = ((0 : Nat) : Int) from rfl) (by assumption) rfl (by omega)) rfl ?_
    rintro _ ⟨b21, o21, hi21, rfl, hE21⟩
    refine JQ.op (RunV.ld_u8 ag_5 rfl (by assumption)) rfl ?_
    refine Rq 2 rfl ?_
    refine Bq 61 rfl (fun hc23 => ?_) fun hc23 => ?_
    ·
     refine Rq 15 rfl ?_
     refine Nq [4] rfl ?_
     exact J.retP (RetV.one rfl rfl) z1_ rfl
    refine Rq 3 rfl ?_
    refine JQ.opg rfl rfl  si_ rfl ?_
    refine JQ.opeg rfl rfl  (RunE.index (m := l.length - 1) sl_22 rfl rfl (by omega) (by assumption) rfl (by omega)) rfl ?_
    rintro _ ⟨b24, o24, hi24, rfl, hE24⟩
    refine JQ.opg rfl rfl  (RunV.ld_u8 ag_5 rfl (by assumption)) rfl ?_
    refine Rq 1 rfl ?_
    refine JQ.opeg rfl rfl  (RunE.index sl_22 rfl rfl (show _ = ((0 : Nat) : Int) from rfl) (by assumption) rfl (by omega)) rfl ?_
    rintro _ ⟨b26, o26, hi26, rfl, hE26⟩
    refine JQ.opg rfl rfl  (RunV.ld_u8 ag_5 rfl (by assumption)) rfl ?_
    refine JQ.opg rfl rfl  (RunV.shl_u8 ((2 : Int) ^ (l[0]'(by omega)).toNat) rfl rfl (by omega) (by omega) (by simp) (by omega) (by omega)) rfl ?_
    refine JQ.opg rfl rfl  (RunV.sub_u8 rfl rfl (by omega) (by omega)) rfl ?_
    refine JQ.opg rfl rfl  (RunV.maskb_u8 (l[0]'(by omega)).toNat ((2 : Int) ^ (l[0]'(by omega)).toNat) rfl rfl (by omega) rfl (by omega)) rfl ?_
    refine Rq 3 rfl ?_
    refine Nq [4] rfl ?_
    exact J.retP (RetV.one rfl rfl) z1_ rfl
   refine Ru 6 rfl ?_
   refine Nk [56, 4, 1] rfl ?_
   refine J.cond_f rfl ?_
   refine J.skip ?_
   refine J.seq ?_
   refine J.drawn mixed_ (by kernel_rfl) ?_
   have e0 := byteAt_eq l 0 (by omega); have e1 := byteAt_eq l (l.length - 1) (by omega); have hp := pow2_7 (l[0]'(by omega)).toNat (by omega)
   refine Rq 1 rfl ?_
   refine JQ.ope (RunE.index sl_22 rfl rfl (show _ = ((0 : Nat) : Int) from rfl) (by assumption) rfl (by omega)) rfl ?_
   rintro _ ⟨b28, o28, hi28, rfl, hE28⟩
   refine JQ.op (RunV.ld_u8 ag_5 rfl (by assumption)) rfl ?_
   refine Rq 2 rfl ?_
   refine Bq 61 rfl (fun hc30 => ?_) fun hc30 => ?_
   ·
    refine Rq 15 rfl ?_
    refine Nq [4] rfl ?_
    exact J.retP (RetV.one rfl rfl) z1_ rfl
   refine Rq 3 rfl ?_
   refine JQ.opg rfl rfl  si_ rfl ?_
   refine JQ.opeg rfl rfl  (RunE.index (m := l.length - 1) sl_22 rfl rfl (by omega) (by assumption) rfl (by omega)) rfl ?_
   rintro _ ⟨b31, o31, hi31, rfl, hE31⟩
   refine JQ.opg rfl rfl  (RunV.ld_u8 ag_5 rfl (by assumption)) rfl ?_
   refine Rq 1 rfl ?_
   refine JQ.opeg rfl rfl  (RunE.index sl_22 rfl rfl (show _ = ((0 : Nat) : Int) from rfl) (by assumption) rfl (by omega)) rfl ?_
   rintro _ ⟨b33, o33, hi33, rfl, hE33⟩
   refine JQ.opg rfl rfl  (RunV.ld_u8 ag_5 rfl (by assumption)) rfl ?_
   refine JQ.opg rfl rfl  (RunV.shl_u8 ((2 : Int) ^ (l[0]'(by omega)).toNat) rfl rfl (by omega) (by omega) (by simp) (by omega) (by omega)) rfl ?_
   refine JQ.opg rfl rfl  (RunV.sub_u8 rfl rfl (by omega) (by omega)) rfl ?_
   refine JQ.opg rfl rfl  (RunV.maskb_u8 (l[0]'(by omega)).toNat ((2 : Int) ^ (l[0]'(by omega)).toNat) rfl rfl (by omega) rfl (by omega)) rfl ?_
   refine Rq 3 rfl ?_
   refine Nq [4] rfl ?_
   exact J.retP (RetV.one rfl rfl) z1_ rfl
  refine Sr ?_
  refine Ru 2 rfl ?_
  refine JL.nil ?_
  refine Cs rfl (fun hc35 => ?_) fun hc35 => ?_
  ·
   refine Sr ?_
   refine Ru 4 rfl ?_
   refine Nk [4] rfl ?_
   exact J.retP (RetV.one rfl rfl) z1_ rfl
  refine Sr ?_
  refine Ru 2 rfl ?_
  refine Nk [81, 12, 4, 1] rfl ?_
  refine Cs rfl (fun hc36 => ?_) fun hc36 => ?_
  ·
   refine Sr ?_
   refine Ru 1 rfl ?_
   refine JL.callP ca_152 rfl (oidtext_fn (by assumption) (by omega)) rfl ?_
   refine Ru 5 rfl ?_
   refine Nk [6, 4] rfl ?_
   refine Sr ?_
   refine Ru 3 rfl ?_
   refine JL.nil ?_
   exact J.retP (RetV.one rfl rfl) z1_ rfl
  refine Sr ?_
  refine Ru 2 rfl ?_
  refine JL.nil ?_
  refine Cs rfl (fun hc38 => ?_) fun hc38 => ?_
  ·
   refine Sr ?_
   refine Ru 1 rfl ?_
   refine JL.op (RunV.strB sb_22_9 rfl (by assumption) rfl) rfl ?_
   refine JL.callP ca_153 rfl (utf8_fn _ _ (by assumption) (by omega)) rfl ?_
   refine Ru 1 rfl ?_
   refine Nk [4] rfl ?_
   exact J.retP (RetV.one rfl rfl) z1_ rfl
  refine Sr ?_
  refine Ru 2 rfl ?_
  refine Nk [95, 12, 4, 1] rfl ?_
  refine Cs rfl (fun hc40 => ?_) fun hc40 => ?_
  ·
   refine Sr ?_
   refine Ru 1 rfl ?_
   refine JL.op (RunV.strB sb_22_9 rfl (by assumption) rfl) rfl ?_
   refine JL.callP ca_154 rfl (printable_fn _ _ (by omega)) rfl ?_
   refine Ru 1 rfl ?_
   refine Nk [4] rfl ?_
   exact J.retP (RetV.one rfl rfl) z1_ rfl
  refine Sr ?_
  refine Ru 2 rfl ?_
  refine JL.nil ?_
  refine Cs rfl (fun hc42 => ?_) fun hc42 => ?_
  ·
   refine Sr ?_
   refine Ru 1 rfl ?_
   refine JL.op (RunV.strB sb_22_9 rfl (by assumption) rfl) rfl ?_
   refine JL.callP ca_155 rfl (ia5_fn _ _ (by omega)) rfl ?_
   refine Ru 1 rfl ?_
   refine Nk [4] rfl ?_
   exact J.retP (RetV.one rfl rfl) z1_ rfl
  refine Sr ?_
  refine Ru 2 rfl ?_
  refine Nk [105, 12, 4, 1] rfl ?_
  refine Cs rfl (fun hc44 => ?_) fun hc44 => ?_
  ·
   refine Sr ?_
   refine Ru 1 rfl ?_
   refine JL.op (RunV.strB sb_22_9 rfl (by assumption) rfl) rfl ?_
   refine JL.callP ca_156 rfl (pshort_fn _ _ (by omega)) rfl ?_
   refine Ru 5 rfl ?_
   refine Nk [8, 4] rfl ?_
   refine Sr ?_
   refine Ru 3 rfl ?_
   refine JL.nil ?_
   exact J.retP (RetV.one rfl rfl) z1_ rfl
  refine Sr ?_
  refine Ru 2 rfl ?_
  refine JL.nil ?_
  refine Cs rfl (fun hc46 => ?_) fun hc46 => ?_
  ·
   refine Sr ?_
   refine Ru 1 rfl ?_
   refine JL.op (RunV.strB sb_22_9 rfl (by assumption) rfl) rfl ?_
   refine JL.callP ca_157 rfl (plong_fn _ _ (by omega)) rfl ?_
   refine Ru 7 rfl ?_
   refine Nk [11, 4] rfl ?_
   refine Sr ?_
   refine Ru 3 rfl ?_
   refine JL.nil ?_
   exact J.retP (RetV.one rfl rfl) z1_ rfl
  refine J.skip ?_
  refine Kp [4] rfl ?_
  refine Sr ?_
  refine Ru 1 rfl ?_
  refine JL.nil ?_
  exact J.retP (RetV.one rfl rfl) z1_ rfl
def be : Nat → Nat → List UInt8
  | 0, _ => []
  | k + 1, n => UInt8.ofNat (n / 256 ^ k) :: be k n
def nby (n : Nat) : Nat := if n < 256 then 1 else if n < 65536 then 2 else if n < 16777216 then 3 else if n < 4294967296 then 4 else if n < 1099511627776 then 5 else 6
def lenB (n : Nat) : List UInt8 := if n < 128 then [UInt8.ofNat n] else UInt8.ofNat (128 + nby n) :: be (nby n) n
def tagN (c t : Int) (k : Bool) : Nat := (64 * c + t).toNat + (if k then 32 else 0)
def headB (c t : Int) (k : Bool) (n : Nat) : List UInt8 := UInt8.ofNat (tagN c t k) :: lenB n
theorem nby_bd (n : Nat) : 1 ≤ nby n ∧ nby n ≤ 6 := by unfold nby; (repeat' split) <;> omega
theorem be_len (k n : Nat) : (be k n).length = k := by induction k with
  | zero => rfl
  | succ k ih => simp [be, ih]
theorem shr_cast (n j : Nat) (e : Int) (he : e = 8 * (j : Int)) : (n : Int) / 2 ^ e.toNat = ((n / 256 ^ j : Nat) : Int) := by
  subst he
  have h1 : (8 * (j : Int)).toNat = 8 * j := by omega
  have h2 : (256 : Nat) ^ j = 2 ^ (8 * j) := by rw [Nat.pow_mul]
  rw [h1, h2]
  simp
theorem nby_gt (n j : Nat) (hn : n ≤ 140737488355328) (h1 : 1 ≤ j) (h2 : j ≤ nby n) : 0 < n / 256 ^ j ↔ j < nby n := by
  have hb := nby_bd n
  have hj : j = 1 ∨ j = 2 ∨ j = 3 ∨ j = 4 ∨ j = 5 ∨ j = 6 := by omega
  have e1 : (256 : Nat) ^ 1 = 256 := rfl
  have e2 : (256 : Nat) ^ 2 = 65536 := rfl
  have e3 : (256 : Nat) ^ 3 = 16777216 := rfl
  have e4 : (256 : Nat) ^ 4 = 4294967296 := rfl
  have e5 : (256 : Nat) ^ 5 = 1099511627776 := rfl
  have e6 : (256 : Nat) ^ 6 = 281474976710656 := rfl
  unfold nby at *
  rcases hj with rfl | rfl | rfl | rfl | rfl | rfl <;> simp only [e1, e2, e3, e4, e5, e6] <;> (repeat' split) <;> omega
theorem headB_short {c t : Int} {k : Bool} {n : Nat} (h : n < 128) : headB c t k n = [UInt8.ofNat (tagN c t k)] ++ [UInt8.ofNat n] := by
  unfold headB lenB; rw [if_pos h]; rfl
theorem headB_long {c t : Int} {k : Bool} {n : Nat} (h : ¬ n < 128) : headB c t k n = ([UInt8.ofNat (tagN c t k)] ++ [UInt8.ofNat (128 + nby n)]) ++ be (nby n) n := by
  unfold headB lenB; rw [if_neg h]; rfl
theorem head_fn {x : Nd} {cs : List Value} {h : Part} {n : Nat} (r : NdR h cs x) (hc : x.cls = 0 ∨ x.cls = 2) (ht : 0 ≤ x.tag ∧ x.tag ≤ 30) (hn : n ≤ 140737488355328) :
    Fn Tryz.prog 133 [.agg cs.toArray, .int .i64 n] h [] (Rets fun v _ Lo => ∃ a c, v = .slice a (headB x.cls x.tag x.cons n).length c ∧ Lo = [.row a c 5 1 (headB x.cls x.tag x.cons n).length (u8s (headB x.cls x.tag x.cons n))]) := by
  cases x with
  | mk c t k bs ks =>
  obtain ⟨a, ca, b, cb, rfl, ha, hb⟩ := r.inv
  simp only [Nd.cls, Nd.tag, Nd.cons] at *
  have hk := nby_bd n
  refine Fn.intro Tryz.func133 rfl Tryz.ntmps133 rfl (fun e he => ?_)
  refine J.weak [(0, _), (1, _)] ⟨rfl, rfl, trivial⟩ ?_
  refine Sr ?_
  refine JL.box rfl rfl rfl (fun b1 => ?_)
  refine Ru 1 rfl ?_
  refine JL.nil ?_
  refine Sr ?_
  refine Ru 1 rfl ?_
  refine JL.op (RunV.own1 ag_3 rfl mm_ rfl) rfl ?_
  refine JL.op (by first | exact RunV.shl_i64 64 rfl rfl (by decide) (by decide) (by decide) (by omega) (by omega) | exact RunV.shl rfl rfl (by decide) (by decide)) rfl ?_
  refine Ru 1 rfl ?_
  refine JL.op (RunV.own1 ag_3 rfl mm_ rfl) rfl ?_
  refine JL.op (RunV.join_i64 6 64 rfl rfl (by decide) (by omega) (by omega) (by omega) (by omega) (by omega) (by omega)) rfl ?_
  refine JL.op (RunV.toByte (64 * c + t).toNat cv_3_5 rfl (by omega)) rfl ?_
  refine Ru 1 rfl ?_
  refine Nk [5, 4, 2, 1] rfl ?_
  refine J.seq ?_
  refine Sr ?_
  refine Ru 1 rfl ?_
  refine JL.op (RunV.own1 ag_4 rfl mm_ rfl) rfl ?_
  refine JL.nil ?_
  refine J.meet [(5, .int .u8 ((UInt8.ofNat (tagN c t k)).toNat : Int))] [(4, _), (1, _)] ⟨rfl, rfl, trivial⟩ ?_ ?_
  ·
   refine Cs rfl (fun hc2 => ?_) fun hc2 => ?_
   ·
    refine Rg ?_
    refine Ru 1 rfl ?_
    refine JL.op (RunV.or32 (64 * c + t).toNat rfl (by omega) (by omega)) rfl ?_
    refine Ru 1 rfl ?_
    refine JL.nil ?_
    refine ⟨rfl, rfl, ?_⟩
    repeat (first | exact trivial | refine ⟨rfl, ?_⟩ | refine ⟨(by exact some_int (by cases k <;> first | rfl | simp_all)), ?_⟩)
   refine J.skip ?_
   refine ⟨rfl, rfl, ?_⟩
   repeat (first | exact trivial | refine ⟨rfl, ?_⟩ | refine ⟨(by exact some_int (by cases k <;> first | rfl | simp_all)), ?_⟩)
  refine Sr ?_
  refine Ru 1 rfl ?_
  refine JL.lit1 ap_22 zr_5 rfl rfl rfl rfl rfl (fun b3 => ?_)
  refine Ru 1 rfl ?_
  refine JL.nil ?_
  refine J.seq ?_
  refine Sr ?_
  refine Ru 2 rfl ?_
  refine JL.nil ?_
  refine Cs rfl (fun hc4 => ?_) fun hc4 => ?_
  ·
   refine Sr ?_
   refine Ru 2 rfl ?_
   refine JL.op (RunV.toByte n cv_3_5 rfl rfl) rfl ?_
   refine JL.lit1 ap_22 zr_5 rfl rfl rfl rfl rfl (fun b5 => ?_)
   refine JL.rowB (b := b3) dl_ ?_
   refine JL.append1 ap_22 rfl rfl CellsR.of_u8 rfl dl_ dl_ rfl (rfl) z5_ rfl rfl (fun a6 c6 xs6 hC6 hN6 => ?_)
   obtain rfl := hC6.u8
   refine Ru 1 rfl ?_
   refine Nk [4, 6, 1] rfl ?_
   rw [← headB_short (by omega)]; exact J.ret ⟨_, [_], _, (RetV.one rfl rfl), .cons .here .nil, _, rfl, _, _, rfl, rfl⟩
  refine J.skip ?_
  refine Kp [6, 4, 1] rfl ?_
  refine Sr ?_
  refine Ru 1 rfl ?_
  refine JL.nil ?_
  refine J.seq ?_
  refine J.block ?_
  refine J.loop (fun t_ S_ h_ L_ => ∃ (j : Nat), t_ = 7 - j ∧ S_ = [(1, .int .i64 n), (6, .slice (some ⟨b3, 0, none⟩) 1 1), (7, .int .i64 j)] ∧ h = h_ ∧ L_ = [.blk b3 5 [.int .u8 ((UInt8.ofNat (tagN c t k)).toNat : Int)], .blk b1 75 [.int .i64 c, .int .i64 t, .bool k, .slice a bs.length ca, .slice b ks.length cb]] ∧ (1 ≤ j ∧ j ≤ nby n)) ⟨_, _, ?_, ⟨1, rfl, rfl, rfl, rfl, ⟨by omega, by omega⟩⟩⟩ ?_
  ·
   exact z7_
  rintro _ _ _ _ ⟨j, rfl, rfl, rfl, rfl, hj, hj2⟩
  have hgt := nby_gt n j hn hj hj2
  refine J.seq ?_
  refine Sr ?_
  refine Ru 2 rfl ?_
  refine JL.op z16_ rfl ?_
  refine JL.op (RunV.shr rfl rfl (by omega) (by show _ ≤ ((64 : Nat) : Int); omega)) rfl ?_
  rw [shr_cast n j _ rfl]
  refine Ru 1 rfl ?_
  refine JL.nil ?_
  refine Cs rfl (fun hc7 => ?_) fun hc7 => ?_
  ·
   refine J.skip ?_
   refine J.block ?_
   refine Rg ?_
   refine Ru 1 rfl ?_
   refine JL.op ai_ rfl ?_
   refine Ru 1 rfl ?_
   refine JL.nil ?_
   refine ⟨_, ?_, _, ?_, ⟨j + 1, rfl, rfl, rfl, rfl, ⟨by omega, by omega⟩⟩⟩
   ·
    omega
   exact z7_
  refine J.exit ?_
  refine Kp [1, 6, 7] rfl ?_
  refine Sr ?_
  refine Ru 2 rfl ?_
  refine JL.op ai_ rfl ?_
  refine JL.op (RunV.toByte (128 + j) cv_3_5 rfl (by omega)) rfl ?_
  refine JL.lit1 ap_22 zr_5 rfl rfl rfl rfl rfl (fun b8 => ?_)
  refine JL.rowB (b := b3) dl_ ?_
  refine JL.append1 ap_22 rfl rfl CellsR.of_u8 rfl dl_ dl_ rfl (rfl) z5_ rfl rfl (fun a9 c9 xs9 hC9 hN9 => ?_)
  obtain rfl := hC9.u8
  refine Ru 1 rfl ?_
  refine Nk [6, 1, 7] rfl ?_
  refine J.seq ?_
  refine J.block ?_
  refine J.loop (fun t_ S_ h_ L_ => ∃ (j : Nat) (out : List UInt8) (a9 : Option Addr) (q : Nat), t_ = 7 + j ∧ S_ = [(1, .int .i64 n), (6, .slice a9 out.length q), (7, .int .i64 j)] ∧ h = h_ ∧ L_ = [.row a9 q 5 1 out.length (u8s out), .blk b1 75 [.int .i64 c, .int .i64 t, .bool k, .slice a bs.length ca, .slice b ks.length cb]] ∧ (j ≤ nby n ∧ out.length ≤ 10 - j ∧ headB c t k n = out ++ be j n)) ⟨_, _, ?_, ⟨j, _, _, _, rfl, rfl, rfl, rfl, ⟨by omega, by simp; omega, by have hjn : j = nby n := (by omega); rw [hjn]; exact headB_long (by omega)⟩⟩⟩ ?_
  ·
   exact z4_
  rintro _ _ _ _ ⟨j, out, a9, q, rfl, rfl, rfl, rfl, hj, hol, he⟩
  refine J.seq ?_
  refine Sr ?_
  refine Ru 2 rfl ?_
  refine JL.nil ?_
  refine Cs rfl (fun hc10 => ?_) fun hc10 => ?_
  ·
   obtain ⟨i, rfl⟩ : ∃ i, j = i + 1 := ⟨j - 1, by omega⟩
   refine J.skip ?_
   refine J.seq ?_
   refine J.block ?_
   refine Rg ?_
   refine Ru 3 rfl ?_
   refine JL.op si_ rfl ?_
   refine JL.op z16_ rfl ?_
   refine JL.op (RunV.shr rfl rfl (by omega) (by show _ ≤ ((64 : Nat) : Int); omega)) rfl ?_
   rw [shr_cast n i _ (by omega)]
   refine JL.op (RunV.toByte (n / 256 ^ i) cv_3_5 rfl rfl) rfl ?_
   refine JL.lit1 ap_22 zr_5 rfl rfl rfl rfl rfl (fun b11 => ?_)
   refine JL.append1 ap_22 rfl rfl CellsR.of_u8 rfl dl_ dl_ rfl (rfl) z5_ rfl rfl (fun a12 c12 xs12 hC12 hN12 => ?_)
   obtain rfl := hC12.u8
   refine Ru 1 rfl ?_
   refine JL.nil ?_
   refine Rg ?_
   refine Ru 1 rfl ?_
   refine JL.op si_ rfl ?_
   refine Ru 1 rfl ?_
   refine JL.nil ?_
   refine ⟨_, ?_, _, ?_, ⟨i, _, _, _, rfl, rfl, rfl, rfl, ⟨by omega, by simp; omega, by rw [he, be, List.append_assoc]; rfl⟩⟩⟩
   ·
    omega
   exact z4_
  refine J.exit ?_
  refine Kp [6] rfl ?_
  refine Sr ?_
  refine Ru 2 rfl ?_
  refine JL.nil ?_
  (have hj0 : j = 0 := (by omega)); subst hj0; rw [show out = headB c t k n from by rw [he]; simp [be]]; exact J.ret ⟨_, [_], _, (RetV.one rfl rfl), .cons .here .nil, _, rfl, _, _, rfl, rfl⟩
end Go.Proofs.YtmngjbefnloljaaGreatDoor
namespace Go.Proofs.YtmngjbefnloljaaGreatDoor
open Go Go.RowKit Go.ChangeShapes Go.WideShapes Go.Lib
set_option maxRecDepth 100000
theorem cells_u8 : Tryz.prog.cellsOf 5 = 1 := by kernel_rfl
theorem bytes_u8 : 0 < Tryz.prog.bytesOf 5 := by rw [show Tryz.prog.bytesOf 5 = 1 by kernel_rfl]; decide
theorem opens_bytes (n : Nat) : Opens Tryz.prog (n + 1) 22 (slR u8R 1) 1 (fun l => (l.map fun _ => 1).sum + 1) := opens_slice Tryz.underlying22 cells_u8 (by decide) bytes_u8 (opens_u8 Tryz.underlying5)
section
variable {H : Type} {enc : TypeId × Value → H} {W : World} {base : Nat} {v : Value} {d : DataW H} {ps : List MemPlace}
theorem arg_sl {α : Type} {R : Rep α} {sz : Nat} {μ : List α → Nat} {t e : TypeId} (hu : Tryz.prog.underlying t = some (.slice e)) (ho : ∀ n, Opens Tryz.prog (n + 1) t (slR R sz) 1 μ) (hval : Value.okWide Tryz.prog W .any base t v) (hd : DataW.Trod enc Tryz.prog W 0 (fun _ => true) true t v d ps)
    (hw : (d.weights Tryz.prog t).all (· ≤ reachBytes) = true) : ∃ a c l, v = .slice a (List.length l) c ∧ SlR R sz (partOf W) a c l ∧ μ l ≤ Rows.uptoBulk d := by
  obtain ⟨n, hn⟩ := hd
  cases n with
  | zero => simp [DataW.trod] at hn
  | succ n =>
    obtain ⟨l, _, ⟨a, c, hcs, hR⟩, hs⟩ := ho n enc W _ _ hn hw
    refine ⟨a, c, l, ?_, hR, hs⟩
    simp only [Value.okWide, hu] at hval
    cases v <;> simp [Value.cells] at hcs <;> first | (simp [hcs]; done) | (simp [Cell.okWide, Cell.ok, hu] at hval)
end
theorem tabs_laid {W : World} {l : List (String × DataW Unit)} (h : laidMet Tryz.prog l W) (m3 : ("unicode/utf8.first", Go.Pinned.utf8First) ∈ l) (m4 : ("unicode/utf8.acceptRanges", acceptData) ∈ l) : Tabs (partOf W) := by
  obtain ⟨g, t, cs, fuel, p, hg, hty, hvar, hd⟩ := laidMet.reads h m3
  obtain rfl := Option.some.inj ((show Tryz.prog.globalNamed "unicode/utf8.first" = some 1 by kernel_rfl).symm.trans hg)
  obtain rfl := Option.some.inj ((show (Tryz.prog.globals[1]?).map (·.type) = some 199 by kernel_rfl).symm.trans hty)
  rw [show Go.Pinned.utf8First = firstData by kernel_rfl] at hd
  have hcs := cells_of_tab Tryz.underlying199 Tryz.underlying5 cells_u8 (by kernel_rfl) hd
  have h1 : ∀ c, c < 256 → W.cell? ⟨1, c, none⟩ = some (.int .u8 (firstT c)) := fun c hc => by
    rw [World.var?_cell hg hvar c, ← Array.getElem?_toList, hcs]
    simp [firstTab, hc]
  obtain ⟨g, t, cs, fuel, p, hg, hty, hvar, hd⟩ := laidMet.reads h m4
  obtain rfl := Option.some.inj ((show Tryz.prog.globalNamed "unicode/utf8.acceptRanges" = some 2 by kernel_rfl).symm.trans hg)
  obtain rfl := Option.some.inj ((show (Tryz.prog.globals[2]?).map (·.type) = some 202 by kernel_rfl).symm.trans hty)
  have h2 : ∀ i, i < 16 → W.cell? ⟨2, 2 * i, none⟩ = some (.int .u8 (accLo i)) ∧ W.cell? ⟨2, 2 * i + 1, none⟩ = some (.int .u8 (accHi i)) := fun i hi => by
    obtain ⟨fuel', d, q, hdi, he⟩ := array_elem Tryz.underlying202 hd i hi
    simp only [List.getElem?_map, List.getElem?_range hi, Option.map_some, Option.some.injEq] at hdi
    subst hdi
    have hc2 : Tryz.prog.cellsOf 201 = 2 := by kernel_rfl
    rw [hc2] at he
    have hcs := ints_of_struct Tryz.underlying201 (fun j f hj => by
      match j, hj with
      | 0, hj => simp at hj; subst hj; exact ⟨Tryz.underlying5, rfl, cells_u8⟩
      | 1, hj => simp at hj; subst hj; exact ⟨Tryz.underlying5, rfl, cells_u8⟩
      | j + 2, hj => simp at hj) (by rw [hc2]; rfl) he
    have e0 := congrArg (·[0]?) hcs
    have e1 := congrArg (·[1]?) hcs
    simp only [List.getElem?_take, List.getElem?_drop] at e0 e1
    constructor
    · rw [World.var?_cell hg hvar (2 * i), ← Array.getElem?_toList]
      simpa [Nat.mul_comm] using e0
    · rw [World.var?_cell hg hvar (2 * i + 1), ← Array.getElem?_toList]
      simpa [Nat.mul_comm] using e1
  obtain ⟨C1, k1, _⟩ := partOf_cell (h1 0 (by decide))
  obtain ⟨C2, k2, _⟩ := partOf_cell (h2 0 (by decide)).1
  have same : ∀ {b i v C}, partOf W b = some C → W.cell? ⟨b, i, none⟩ = some v → C[i]? = some v := fun hC hv => by
    obtain ⟨C', hC', hi⟩ := partOf_cell hv
    rw [hC] at hC'
    cases hC'
    exact hi
  exact ⟨C1, C2, k1, k2, fun c hc => same k1 (h1 c hc), fun i hi => ⟨same k2 (h2 i hi).1, same k2 (h2 i hi).2⟩⟩
theorem finish {H : Type} {enc : TypeId × Value → H} {ts : List TypeId} {F : Nat} {f : Func} {s : ChangeSpec} {apart fresh handsOn again : Bool} {W : World} {args : Array Value} {ds gs : List (DataW H)} {before : List MemPlace} (hp : plainB Tryz.prog ts = true) (hts : ∀ t ∈ f.params.toList, t ∈ ts) (hres : f.resultTypes = #[4]) (hv : s.vars = [])
    (hfn : s.fn H (ds ++ gs) = { results := [.lit (.bool true)], args := ds }) (hW : DataW.Whole enc Tryz.prog f.params.toList s.vars apart W args.toList ds gs before) (hF : Pure Tryz.prog F args.toList (partOf W) (.bool true)) :
    Calls Tryz.prog F args W fun e W' => ∃ v, e = .returned v ∧ s.post enc Tryz.prog f apart fresh handsOn again W args v W' := by
  have := hF W (ok_start W)
  rw [Array.toArray_toList] at this
  refine this.mono fun e w' ⟨h', Lo, ⟨u, he, hu, _, _⟩, hO⟩ => ?_
  subst hu
  exact ⟨.bool true, he, post_keep hp hts hres Tryz.underlying4 hv hfn hW hO.os hO.output hO.size (fun b hb => hO.old b hb (by simp [keys]))⟩
def layCells (cs : List Value) : Obj → Obj
  | .cells _ t frozen => .cells cs.toArray t frozen
  | o => o
noncomputable def laidWorld (os : Os) : World :=
  { World.holding Tryz.prog os ⟨#[], #[], []⟩ with heap := ((World.holding Tryz.prog os ⟨#[], #[], []⟩).heap.modify 1 (layCells (firstTab.map fun z => Value.int .u8 z))).modify 2 (layCells ((List.range 16).flatMap fun i => [Value.int .u8 (accLo i), Value.int .u8 (accHi i)])) }
end Go.Proofs.YtmngjbefnloljaaGreatDoor
namespace Go.Proofs.YtmngjbefnloljaaGreatDoor
open Go Go.RowKit Go.ChangeShapes Go.WideShapes Go.Lib Go.ChangeAt
theorem cells_u32 : Tryz.prog.cellsOf 103 = 1 := by kernel_rfl
theorem bytes_u32 : 0 < Tryz.prog.bytesOf 103 := Nat.lt_of_lt_of_eq (by decide : 0 < 4) (show 4 = Tryz.prog.bytesOf 103 by kernel_rfl)
theorem opens_nat (n : Nat) : Opens Tryz.prog (n + 1) 30 (slR u32R 1) 1 (fun l => (l.map fun _ => 1).sum + 1) := opens_slice Tryz.underlying30 cells_u32 (by decide) bytes_u32 (opens_u32 Tryz.underlying103)
end Go.Proofs.YtmngjbefnloljaaGreatDoor
namespace Go.Proofs.YtmngjbefnloljaaGreatDoor
open Go Go.RowKit Go.ChangeShapes Go.WideShapes Go.Lib Go.ChangeAt
set_option maxRecDepth 100000
theorem cells_nat : Tryz.prog.cellsOf 30 = 1 := by kernel_rfl
theorem cells_key : Tryz.prog.cellsOf 32 = 3 := by kernel_rfl
def plainTsK : List TypeId := [103, 5, 3, 4, 22, 30, 32]
theorem plainTsK_ok : plainB Tryz.prog plainTsK = true := by kernel_rfl
section
variable {H : Type} {enc : TypeId × Value → H} {W : World} {base : Nat} {v : Value} {d : DataW H} {ps : List MemPlace}
theorem nat_cell {n : Nat} {v : Value} {x : DataW H × List MemPlace} (h : DataW.trod enc Tryz.prog W 0 (fun _ => true) true n 30 [v] = some x) (hw : (x.1.weights Tryz.prog 30).all (· ≤ reachBytes) = true) : ∃ a c l, v = .slice a (List.length l) c ∧ SlR u32R 1 (partOf W) a c l := by
  cases n with
  | zero => simp [DataW.trod] at h
  | succ n =>
    obtain ⟨l, _, ⟨a, c, hcs, hR⟩, _⟩ := opens_nat n enc W _ _ h hw
    cases hcs
    exact ⟨a, c, l, rfl, hR⟩
theorem key_cells {n : Nat} {cs : List Value} {x : DataW H × List MemPlace} (h : DataW.trod enc Tryz.prog W 0 (fun _ => true) true n 32 cs = some x) (hw : (x.1.weights Tryz.prog 32).all (· ≤ reachBytes) = true) :
    ∃ an cn n ae ce x ad cd y, cs = [.slice an (List.length n) cn, .slice ae (List.length x) ce, .slice ad (List.length y) cd] ∧ SlR u32R 1 (partOf W) an cn n ∧ SlR u32R 1 (partOf W) ae ce x ∧ SlR u32R 1 (partOf W) ad cd y := by
  obtain ⟨xs, m, rfl, rfl, hl, hxl, hall⟩ := DataW.trod_struct Tryz.underlying32 h
  rw [cells_key] at hl
  match cs, hl with
  | [v0, v1, v2], _ =>
  match xs, hxl with
  | [x0, x1, x2], _ =>
  have h0 : DataW.trod enc Tryz.prog W 0 (fun _ => true) true m 30 ((List.drop 0 [v0, v1, v2]).take (Tryz.prog.cellsOf 30)) = some x0 := hall 0 _ rfl
  rw [cells_nat] at h0
  change DataW.trod enc Tryz.prog W 0 (fun _ => true) true m 30 [v0] = some x0 at h0
  have h1 : DataW.trod enc Tryz.prog W 0 (fun _ => true) true m 30 ((List.drop 1 [v0, v1, v2]).take (Tryz.prog.cellsOf 30)) = some x1 := hall 1 _ rfl
  rw [cells_nat] at h1
  change DataW.trod enc Tryz.prog W 0 (fun _ => true) true m 30 [v1] = some x1 at h1
  have h2 : DataW.trod enc Tryz.prog W 0 (fun _ => true) true m 30 ((List.drop 2 [v0, v1, v2]).take (Tryz.prog.cellsOf 30)) = some x2 := hall 2 _ rfl
  rw [cells_nat] at h2
  change DataW.trod enc Tryz.prog W 0 (fun _ => true) true m 30 [v2] = some x2 at h2
  simp only [DataW.weights, Tryz.underlying32, List.map_cons, List.map_nil, DataW.weightsEach, List.all_append, Bool.and_eq_true, List.append_nil] at hw
  obtain ⟨w0, w1, w2⟩ := hw
  obtain ⟨a0, c0, l0, rfl, r0⟩ := nat_cell h0 w0
  obtain ⟨a1, c1, l1, rfl, r1⟩ := nat_cell h1 w1
  obtain ⟨a2, c2, l2, rfl, r2⟩ := nat_cell h2 w2
  exact ⟨a0, c0, l0, a1, c1, l1, a2, c2, l2, rfl, r0, r1, r2⟩
theorem arg_key (hval : Value.okWide Tryz.prog W .any base 32 v) (hd : DataW.Trod enc Tryz.prog W 0 (fun _ => true) true 32 v d ps) (hw : (d.weights Tryz.prog 32).all (· ≤ reachBytes) = true) :
    ∃ an cn n ae ce x ad cd y, v = .agg #[.slice an (List.length n) cn, .slice ae (List.length x) ce, .slice ad (List.length y) cd] ∧ SlR u32R 1 (partOf W) an cn n ∧ SlR u32R 1 (partOf W) ae ce x ∧ SlR u32R 1 (partOf W) ad cd y := by
  simp only [Value.okWide, Tryz.underlying32] at hval
  obtain ⟨cs, rfl, _, _⟩ := hval
  obtain ⟨n, hn⟩ := hd
  obtain ⟨a0, c0, l0, a1, c1, l1, a2, c2, l2, hcs, r⟩ := key_cells hn hw
  refine ⟨a0, c0, l0, a1, c1, l1, a2, c2, l2, ?_, r⟩
  have : cs.toList = [.slice a0 (List.length l0) c0, .slice a1 (List.length l1) c1, .slice a2 (List.length l2) c2] := hcs
  obtain ⟨l⟩ := cs
  simp only at this
  rw [this]
end
end Go.Proofs.YtmngjbefnloljaaGreatDoor
namespace Go.Proofs.YtmngjbefnloljaaGreatDoor
open Go Go.RowKit
theorem madeCells_one {z : Array Value} {z0 : Value} (hz : z = #[z0]) (n : Nat) : madeCells z n = (List.replicate n z0).toArray := by
  subst hz
  apply Array.ext
  · simp [madeCells]
  · intro i h1 h2
    simp [madeCells, Nat.mod_one]
def mkT (P : Program) (T : Nat) : Option (Nat × Value × Nat) :=
  match P.underlying T with
  | some (.slice e) => match P.info? e with
    | some i => match i.zero with
      | some z => match z.cells.toList with
        | [z0] => if i.size = 1 then some (e, z0, i.bytes) else none
        | _ => none
      | none => none
    | none => none
  | _ => none
theorem mkT_spec {P : Program} {T e bytes : Nat} {z0 : Value} (h : mkT P T = some (e, z0, bytes)) : P.underlying T = some (.slice e) ∧ ∃ i z, P.info? e = some i ∧ i.zero = some z ∧ z.cells = #[z0] ∧ i.size = 1 ∧ i.bytes = bytes := by
  unfold mkT at h
  split at h <;> try cases h
  rename_i e' hT
  split at h <;> try cases h
  rename_i i hi
  split at h <;> try cases h
  rename_i z hz
  split at h <;> try cases h
  rename_i z1 hzc
  split at h <;> cases h
  rename_i hs
  exact ⟨hT, i, z, hi, hz, by apply Array.ext'; simpa using hzc, hs, rfl⟩
section
variable {f : Fr} {n : Post} {x : Nat → Post} {S : Sig} {h : Part} {L L' : List Ent} {ops : Array Oper} {rest : List Oper}
variable {ty : TypeId} {pos : String} {af : Array Edge} {d : Nat} {v : Value} {T : TypeId} {xo yo : Operand}
theorem JL.make1 {e bytes m : Nat} {z0 : Value} {k1 k2 : IntKind} {p q : Int} (hT : mkT f.P T = some (e, z0, bytes)) (hx : ev S xo = some (.int k1 p)) (hy : ev S yo = some (.int k2 q)) (hp : p = (m : Int)) (hq : q = (m : Int)) (hb : bytes * m ≤ 140737488355328) (hb1 : Nat.blt 0 bytes = true) (hd : Nat.blt d f.m = true)
    (k : ∀ b, JL f ops n x rest ((d, .slice (some ⟨b, 0, none⟩) m m) :: S) h (.row (some ⟨b, 0, none⟩) m e 1 m (List.replicate m z0) :: L)) :
    JL f ops n x (⟨some d, .makeSlice T xo yo, ty, pos, af, none⟩ :: rest) S h L := fun a w s => by
  subst hp hq
  obtain ⟨hu, i, z, hi, hz, hzc, hs, hby⟩ := mkT_spec hT
  have hb1' : 0 < bytes := by simpa using hb1
  have hmb : m ≤ bytes * m := Nat.le_mul_of_pos_left _ hb1'
  have hbi : (i.bytes : Int) * (m : Int) ≤ 281474976710656 := by
    rw [hby]
    have : ((bytes * m : Nat) : Int) ≤ 281474976710656 := by omega
    rwa [Int.natCast_mul] at this
  have hr := run_make (P := f.P) w T e i z hu hi hz k1 k2 (m : Int) (m : Int) (by omega) (Int.le_refl _) hbi (by omega)
  simp only [Int.toNat_natCast, hs, Nat.mul_one, madeCells_one hzc] at hr
  have hok := (s.ok.alloc e (List.replicate m z0)).toRow (m := m) (sz := 1) (by simp) (by simp only [maxLen]; omega)
  refine wpList_val (v := .slice (some ⟨w.heap.size, 0, none⟩) m m) (w' := w.alloc (.cells (List.replicate m z0).toArray e)) rfl ?_ (k w.heap.size _ _ (s.put hd _ hok))
  simp [execOp, s.eval hx, s.eval hy, hr]
theorem JL.rowL {b t : Nat} {cs : List Value} {l : List UInt8} (u : Del (.blk b t cs) L L') (hc : cs = u8s l) (hl : l.length ≤ 140737488355328) (k : JL f ops n x rest S h (.row (some ⟨b, 0, none⟩) l.length t 1 l.length (u8s l) :: L')) : JL f ops n x rest S h L := fun ac w s => by
  subst hc
  exact k ac w (s.with ((s.ok.perm u.perm).toRow (m := l.length) (sz := 1) (by simp [u8s]) (by simp only [maxLen]; omega)))
theorem replicate_u8 (m : Nat) : List.replicate m (Value.int .u8 0) = u8s (List.replicate m 0) := by simp [u8s]
theorem Ok.row_some {e : Env} {w : World} {a : Option Addr} {c t sz m : Nat} {xs : List Value} (k : Ok e h L w) (hm : Ent.row a c t sz m xs ∈ L) (h0 : 0 < m) : ∃ g, a = some ⟨g, 0, none⟩ := by
  have hown : w.ownsRow 0 t sz (.slice a m c) m xs := k.own _ hm
  rcases hown.2 with ⟨hv, hl⟩ | ⟨g, cap, cur, hv, _⟩
  · omega
  · injection hv with e1 e2 e3
    exact ⟨g, e1⟩
theorem RunV.index_at {e g ln c m : Nat} {k : IntKind} {i : Int} (hT : slT f.P T = some (e, 1)) (hx : ev S xo = some (.slice (some ⟨g, 0, none⟩) ln c)) (hy : ev S yo = some (.int k i)) (hi : i = (m : Int)) (h1 : m < ln) :
    RunV f S h L (.indexAddr T xo yo) ty (.pointer (some ⟨g, m, none⟩)) := fun ac w s _ _ _ _ => by
  subst hi
  obtain ⟨hu, inf, hi, hs⟩ := slT_spec hT
  have h0 : (0 : Int) ≤ m := by omega
  have h2 : (m : Int) < ln := by omega
  simp [execOp, s.eval hx, s.eval hy, Instr.indexAt, run_underlying hu, asIntOf, sizeOf, typeInfo, hi, hs, h1, Addr.add_lit]
theorem row_cell {w : World} {g c t m i : Nat} {xs : List Value} (hk : Ok f.e h L w) (hm : Ent.row (some ⟨g, 0, none⟩) c t 1 m xs ∈ L) (hi : i < xs.length) : w.cell? ⟨g, i, none⟩ = xs[i]? := by
  have hown : w.ownsRow 0 t 1 (.slice (some ⟨g, 0, none⟩) m c) m xs := hk.own _ hm
  have := World.ownsRow.cells (g := g) hown rfl i xs[i] (List.getElem?_eq_getElem hi)
  rw [Addr.add_lit, Nat.zero_add] at this
  rw [this, List.getElem?_eq_getElem hi]
theorem RunV.rowload {g c t m i : Nat} {xs : List Value} (hT : aggT f.P T = some none) (hx : ev S xo = some (.pointer (some ⟨g, i, none⟩))) (hm : Ent.row (some ⟨g, 0, none⟩) c t 1 m xs ∈ L) (hv : xs[i]? = some v) : RunV f S h L (.load T xo) ty v := fun ac w s _ _ _ _ => by
  have hc : w.cell? ⟨g, i, none⟩ = some v := by rw [row_cell s.ok hm (List.getElem?_eq_some_iff.1 hv).1, hv]
  simp [execOp, s.eval hx, Instr.loadAt, Instr.sureAddr, loadVar, (aggT_one hT w).1, load, Sem.run, hc]
theorem JL.storeRow {g c t m i : Nat} {xs : List Value} (hT : aggT f.P T = some none) (hx : ev S xo = some (.pointer (some ⟨g, i, none⟩))) (hy : ev S yo = some v) (hv : v.oneCell' = true) (u : Del (.row (some ⟨g, 0, none⟩) c t 1 m xs) L L') (hi : i < xs.length)
    (k : JL f ops n x rest S h (.row (some ⟨g, 0, none⟩) c t 1 m (xs.set i v) :: L')) : JL f ops n x (⟨none, .store T xo yo, ty, pos, af, none⟩ :: rest) S h L := fun a w s => by
  have okp := s.ok.perm u.perm
  have hown : w.ownsRow 0 t 1 (.slice (some ⟨g, 0, none⟩) m c) m xs := okp.own _ (List.mem_cons_self ..)
  have hcell : w.cell? ⟨g, i, none⟩ = some xs[i] := by rw [row_cell s.ok u.mem hi, List.getElem?_eq_getElem hi]
  rcases hown.2 with ⟨hvv, _⟩ | ⟨g', cap, cur, hvv, hbg, hg, h1, h2, h3, h4⟩
  · cases hvv
  · injection hvv with e1 e2 e3
    injection e1 with e1
    injection e1 with e1
    subst e1 e3
    have hxl : xs.length = m := by simpa using hown.1
    have hf := frozen_of_row w g i _ t hg
    have e1 : w.setCell ⟨g, i, none⟩ v = w.setRow g (cur.setIfInBounds i v) := setCell_eq_setRow w g i _ t _ v hg
    have hok : Ok f.e h (.row (some ⟨g, 0, none⟩) c t 1 m (xs.set i v) :: L') (w.setRow g (cur.setIfInBounds i v)) := by
      refine okp.turn rfl rfl rfl (by simp) (fun b' _ hne => setRow_other w g b' _ (fun e => hne (by rw [e]; rfl))) ?_ (fun b' hb' => .inl hb')
      refine ⟨by simpa using hown.1, .inr ⟨g, c, _, rfl, hbg, setRow_heap w g _ _ t _ hg, h1, h2, by simpa using h3, ?_⟩⟩
      have h4' : cur.toList.take m = xs := by simpa using h4
      simp only [Nat.mul_one, Array.toList_setIfInBounds]
      rw [List.take_set, h4']
    refine wpList_skp (w' := w.setRow g (cur.setIfInBounds i v)) rfl ?_ (k _ _ (s.with hok))
    have hcells : v.cells = #[v] := by cases v <;> first | rfl | (simp [Value.oneCell'] at hv)
    have hst : (store (Addr.add ⟨g, i, none⟩ 0) v).run f.P w = .ok () (w.setRow g (cur.setIfInBounds i v)) := by
      rw [Addr.add_zero', run_store f.P w _ v _ hv, hcell, ← e1]; simp [hf]
    simp [execOp, s.eval hx, s.eval hy, Instr.storeAt, Instr.sureAddr, storeVar, (aggT_one hT w).2, hcells, storeCells, hst]
end
end Go.Proofs.YtmngjbefnloljaaGreatDoor
namespace Go.Proofs.YtmngjbefnloljaaGreatDoor
open Go Go.RowKit
theorem z6_ {p : Prop} (u : p := by first | rfl | exact NdR.len5 (by assumption)) : p := u
theorem z15_ {p : Prop} (u : p := by repeat (first | exact trivial | refine ⟨rfl, ?_⟩ | refine ⟨(by exact some_bool (by cases k <;> simp_all [okN, Nd.cls, Nd.tag, Nd.cons])), ?_⟩)) : p := u
theorem z17_ {p : Prop} (u : p := by first | rfl | assumption | exact NdR.len5 (by assumption)) : p := u
theorem z22_ {p : Prop} (u : p := by first | rfl | exact NdR.all1 (by assumption)) : p := u
theorem z45_ {p : Prop} (u : p := by repeat (first | exact trivial | refine ⟨rfl, ?_⟩ | refine ⟨(by exact some_bool (by cases kbad <;> simp_all)), ?_⟩)) : p := u
end Go.Proofs.YtmngjbefnloljaaGreatDoor
namespace Go.Proofs.YtmngjbefnloljaaGreatDoor
open Go Go.RowKit
theorem ag_22 : aggT Tryz.prog 22 = some none := by kernel_rfl
theorem ag_73 : aggT Tryz.prog 73 = some none := by kernel_rfl
theorem ag_75 : aggT Tryz.prog 75 = some (some 5) := by kernel_rfl
theorem ca_130 : callT Tryz.prog 130 = true := by kernel_rfl
theorem ca_131 : callT Tryz.prog 131 = true := by kernel_rfl
theorem ca_132 : callT Tryz.prog 132 = true := by kernel_rfl
theorem ca_133 : callT Tryz.prog 133 = true := by kernel_rfl
theorem ca_99 : callT Tryz.prog 99 = true := by kernel_rfl
theorem sl_73 : slT Tryz.prog 73 = some (75, 5) := by kernel_rfl
theorem zr_75 : zeroT Tryz.prog 75 = some [.int .i64 0, .int .i64 0, .bool false, .slice none 0 0, .slice none 0 0] := by kernel_rfl
theorem run_bcompare {h : Part} {w : World} (s : Sub h w) {a b : Option Addr} {c d : Nat} {l r : List UInt8} (hl : SlR u8R 1 h a c l) (hr : SlR u8R 1 h b d r) :
    (callFunc 158 #[.slice a l.length c, .slice b r.length d]).run Tryz.prog w = .ok (.value (.int .i64 (Go.Lib.compareBytes l r))) w := by
  rw [run_callFunc_extern Tryz.func158 (by kernel_rfl) (by kernel_rfl) (by kernel_rfl) (e := Extern.BytealgCompare.compare) (by kernel_rfl), run_compareB s hl hr]
  rfl
theorem bcompare_fn {a b : Option Addr} {c d : Nat} {l r : List UInt8} {h : Part} (hl : SlR u8R 1 h a c l) (hr : SlR u8R 1 h b d r) : Pure Tryz.prog 132 [.slice a l.length c, .slice b r.length d] h (.int .i64 (Go.Lib.compareBytes l r)) := by
  refine Fn.intro Tryz.func132 rfl Tryz.ntmps132 rfl (fun e he => ?_)
  refine J.weak [(0, _), (1, _)] ⟨rfl, rfl, trivial⟩ ?_
  refine Sr ?_
  refine Ru 1 rfl ?_
  refine JL.nil ?_
  refine Sr ?_
  refine Ru 2 rfl ?_
  refine JL.op (RunV.callX rfl (fun w hw => run_bcompare hw hl hr)) rfl ?_
  refine Ru 1 rfl ?_
  refine Nk [4] rfl ?_
  exact J.retP (RetV.one rfl rfl) rfl rfl
def okN (c t : Int) (k : Bool) (bs : List UInt8) (ks : List Nd) : Bool :=
  mayB c t k && (!(k && decide (0 < bs.length)) && (!(!k && decide (0 < ks.length)) && !(decide (c = 0) && (!k && !valB t bs))))
def aboveB : Option (List UInt8) → List UInt8 → Bool
  | none, _ => false
  | some l, b => decide (0 < Go.Lib.compareBytes l b)
mutual
def Nd.put : Nd → Option (List UInt8)
  | .mk c t k bs ks => if okN c t k bs ks then (Nd.putL (decide (c = 0) && decide (t = 17)) ks none bs).map (fun b => headB c t k b.length ++ b) else none
def Nd.putL : Bool → List Nd → Option (List UInt8) → List UInt8 → Option (List UInt8)
  | _, [], _, acc => some acc
  | set, x :: r, last, acc => match Nd.put x with
    | none => none
    | some b => if set && aboveB last b then none else Nd.putL set r (some b) (acc ++ b)
end
theorem headB_len (c t : Int) (k : Bool) (n : Nat) : 2 ≤ (headB c t k n).length ∧ (headB c t k n).length ≤ 8 := by
  have := nby_bd n
  unfold headB lenB
  split
  · simp
  · simp [be_len]; omega
theorem Nd.put_len : ∀ (n : Nat) (x : Nd) (b : List UInt8), x.rk ≤ n → x.put = some b → 2 ≤ b.length ∧ b.length ≤ 8 * x.sz := by
  intro n
  induction n with
  | zero => intro x b hx; cases x; simp [Nd.rk] at hx
  | succ n ih =>
    intro x b hx hb
    cases x with
    | mk c t k bs ks =>
      simp only [Nd.rk] at hx
      have key : ∀ (l : List Nd) (set : Bool) (last : Option (List UInt8)) (acc b : List UInt8), Nd.rkL l ≤ n → Nd.putL set l last acc = some b → b.length ≤ acc.length + 8 * Nd.szL l := by
        intro l
        induction l with
        | nil => intro set last acc b _ hb; simp only [Nd.putL, Option.some.injEq] at hb; subst hb; simp [Nd.szL]
        | cons y r ihr =>
          intro set last acc b hl hb
          simp only [Nd.rkL] at hl
          simp only [Nd.putL] at hb
          split at hb
          · cases hb
          · rename_i b1 hb1
            split at hb
            · cases hb
            · have h1 := ih y b1 (by omega) hb1
              have h2 := ihr _ _ _ _ (by omega) hb
              simp only [Nd.szL, List.length_append] at h2 ⊢
              omega
      simp only [Nd.put] at hb
      split at hb
      · cases hp : Nd.putL (decide (c = 0) && decide (t = 17)) ks none bs with
        | none => simp [hp] at hb
        | some b1 =>
          simp only [hp, Option.map_some, Option.some.injEq] at hb
          subst hb
          have h1 := key ks _ _ _ _ (by omega) hp
          have h2 := headB_len c t k b1.length
          simp only [List.length_append, Nd.sz]
          omega
      · cases hb
theorem Nd.szL_take (l : List Nd) (i : Nat) (h : i < l.length) : Nd.szL (l.take (i + 1)) = Nd.szL (l.take i) + l[i].sz := by
  rw [List.take_succ_eq_append_getElem h, Nd.szL_append]; simp [Nd.szL]
theorem Nd.szL_take_le (l : List Nd) (i : Nat) : Nd.szL (l.take i) ≤ Nd.szL l := by
  have := Nd.szL_append (l.take i) (l.drop i)
  rw [List.take_append_drop] at this
  omega
def PutR (x : Nd) (bw : Nat) (d0 deep : Int) : Value → Part → List Ent → Prop := fun v h' Lo =>
  ∃ (b : List UInt8) (a : Option Addr) (c : Nat) (d1 : Int) (bad : Bool), v = .slice a b.length c ∧ SlR u8R 1 h' a c b ∧ Lo = [.blk bw 119 [.int .i64 d1, .bool bad]] ∧
    (bad = true → x.put = none) ∧ (bad = false → x.put = some b ∧ d1 = max d0 (deep + x.rk - 1))
theorem Nd.putL_step (set : Bool) (ks : List Nd) (i : Nat) (last : Option (List UInt8)) (acc : List UInt8) (hi : i < ks.length) :
    Nd.putL set (ks.drop i) last acc = match Nd.put ks[i] with
      | none => none
      | some b => if set && aboveB last b then none else Nd.putL set (ks.drop (i + 1)) (some b) (acc ++ b) := by
  rw [List.drop_eq_getElem_cons hi]; rfl
theorem above_if (i : Nat) (l b : List UInt8) : aboveB (if i = 0 then none else some l) b = (decide ((0 : Int) < i) && decide (0 < Go.Lib.compareBytes l b)) := by
  by_cases h : i = 0
  · subst h; rfl
  · rw [if_neg h, decide_eq_true (show (0 : Int) < i by omega)]; rfl
theorem okN_may {c t : Int} {k : Bool} {bs : List UInt8} {ks : List Nd} (h : okN c t k bs ks = true) : (c = 0 ∨ c = 2) ∧ 0 ≤ t ∧ t ≤ 30 := by
  unfold okN mayB at h
  simp only [Bool.and_eq_true, Bool.or_eq_true, decide_eq_true_eq] at h
  obtain ⟨⟨h1, h2⟩, _⟩ := h
  exact ⟨by rcases h2 with h2 | h2; exact .inr h2; exact .inl h2.1, h1⟩
theorem put_fn : ∀ (n : Nat) (x : Nd) (cs : List Value) (h : Part) (bw : Nat) (d0 deep : Int), x.rk ≤ n → NdR h cs x → Tabs h → x.sz ≤ 1073741824 → 0 ≤ deep → deep + x.rk ≤ 1099511627776 →
    Fn Tryz.prog 99 [.pointer (some ⟨bw, 0, none⟩), .agg cs.toArray, .int .i64 deep] h [.blk bw 119 [.int .i64 d0, .bool false]] (Rets (PutR x bw d0 deep)) := by
  intro n
  induction n with
  | zero => intro x cs h bw d0 deep hx; cases x; simp [Nd.rk] at hx
  | succ n ih =>
  intro x cs h bw d0 deep hx r hT hsz hd0 hd1
  cases x with
  | mk c t k bs ks =>
  obtain ⟨a, ca, b, cb, rfl, ha, hb⟩ := r.inv
  have hl := hb.big
  have hl2 := ha.big
  simp only [Nd.rk] at hx hd1
  simp only [Nd.sz] at hsz
  have hkr : ∀ i (hi : i < ks.length), (ks[i].rk ≤ n ∧ ks[i].rk ≤ Nd.rkL ks) ∧ ks[i].sz ≤ Nd.szL ks := fun i hi => ⟨⟨by have := Nd.rk_lt (List.getElem_mem hi); omega, Nd.rk_lt (List.getElem_mem hi)⟩, Nd.sz_le (List.getElem_mem hi)⟩
  refine Fn.intro Tryz.func99 rfl Tryz.ntmps99 rfl (fun e he => ?_)
  refine J.weak [(0, _), (1, _), (2, _)] ⟨rfl, rfl, rfl, trivial⟩ ?_
  refine Sr ?_
  refine JL.box rfl rfl rfl (fun b1 => ?_)
  refine Ru 1 rfl ?_
  refine JL.nil ?_
  refine Sr ?_
  refine Ru 4 rfl ?_
  refine JL.op (RunV.own1 ag_3 rfl mm_ rfl) rfl ?_
  refine Ru 1 rfl ?_
  refine JL.op (RunV.max2 rfl rfl) rfl ?_
  refine Ru 2 rfl ?_
  refine JL.store1 ag_3 rfl rfl rfl dl_ z32_ ?_
  refine Nk [6, 4, 0, 2] rfl ?_
  refine J.seq ?_
  refine J.seq ?_
  refine J.meet [(62, .bool (!okN c t k bs ks))] [(6, _), (4, _), (0, _), (2, _)] ⟨rfl, rfl, rfl, rfl, trivial⟩ ?_ ?_
  ·
   refine Rg ?_
   refine JL.op (RunV.ownA ag_75 rfl mm_ z6_) rfl ?_
   refine JL.callP ca_130 rfl (pmay_fn (by assumption)) rfl ?_
   refine Ru 2 rfl ?_
   refine Bs 24 rfl (fun hc3 => ?_) fun hc3 => ?_
   ·
    refine Ru 38 rfl ?_
    refine JL.nil ?_
    refine ⟨rfl, rfl, ?_⟩
    exact z15_
   refine Ru 1 rfl ?_
   refine JL.opg rfl rfl  (RunV.own1 ag_4 rfl mm_ rfl) rfl ?_
   refine Ru 1 rfl ?_
   refine Bs 27 rfl (fun hc4 => ?_) fun hc4 => ?_
   ·
    refine Ru 1 rfl ?_
    refine JL.opg rfl rfl  (RunV.own1 ag_22 rfl mm_ rfl) rfl ?_
    refine Ru 5 rfl ?_
    refine Bs 34 rfl (fun hc5 => ?_) fun hc5 => ?_
    ·
     refine Ru 28 rfl ?_
     refine JL.nil ?_
     refine ⟨rfl, rfl, ?_⟩
     exact z15_
    refine Ru 1 rfl ?_
    refine JL.opg rfl rfl  (RunV.own1 ag_4 rfl mm_ rfl) rfl ?_
    refine Ru 2 rfl ?_
    refine Bs 38 rfl (fun hc6 => ?_) fun hc6 => ?_
    ·
     refine Ru 1 rfl ?_
     refine JL.opg rfl rfl  (RunV.own1 ag_73 rfl mm_ rfl) rfl ?_
     refine Ru 5 rfl ?_
     refine Bs 45 rfl (fun hc7 => ?_) fun hc7 => ?_
     ·
      refine Ru 17 rfl ?_
      refine JL.nil ?_
      refine ⟨rfl, rfl, ?_⟩
      exact z15_
     refine Ru 1 rfl ?_
     refine JL.opg rfl rfl  (RunV.own1 ag_3 rfl mm_ rfl) rfl ?_
     refine Ru 2 rfl ?_
     refine Bs 49 rfl (fun hc8 => ?_) fun hc8 => ?_
     ·
      refine Ru 1 rfl ?_
      refine JL.opg rfl rfl  (RunV.own1 ag_4 rfl mm_ rfl) rfl ?_
      refine Ru 3 rfl ?_
      refine Bs 54 rfl (fun hc9 => ?_) fun hc9 => ?_
      ·
       refine Ru 1 rfl ?_
       refine JL.opg rfl rfl  (RunV.own1 ag_3 rfl mm_ rfl) rfl ?_
       refine Ru 1 rfl ?_
       refine JL.opg rfl rfl  (RunV.own1 ag_22 rfl mm_ rfl) rfl ?_
       refine JL.callPg rfl rfl  ca_131 rfl (value_fn (by assumption) (by assumption) (by omega)) rfl ?_
       refine Ru 3 rfl ?_
       refine JL.nil ?_
       refine ⟨rfl, rfl, ?_⟩
       exact z15_
      refine Ru 8 rfl ?_
      refine JL.nil ?_
      refine ⟨rfl, rfl, ?_⟩
      exact z15_
     refine Ru 13 rfl ?_
     refine JL.nil ?_
     refine ⟨rfl, rfl, ?_⟩
     exact z15_
    refine Ru 8 rfl ?_
    refine JL.opg rfl rfl  (RunV.own1 ag_3 rfl mm_ rfl) rfl ?_
    refine Ru 2 rfl ?_
    refine Bs 49 rfl (fun hc11 => ?_) fun hc11 => ?_
    ·
     refine Ru 1 rfl ?_
     refine JL.opg rfl rfl  (RunV.own1 ag_4 rfl mm_ rfl) rfl ?_
     refine Ru 3 rfl ?_
     refine Bs 54 rfl (fun hc12 => ?_) fun hc12 => ?_
     ·
      refine Ru 1 rfl ?_
      refine JL.opg rfl rfl  (RunV.own1 ag_3 rfl mm_ rfl) rfl ?_
      refine Ru 1 rfl ?_
      refine JL.opg rfl rfl  (RunV.own1 ag_22 rfl mm_ rfl) rfl ?_
      refine JL.callPg rfl rfl  ca_131 rfl (value_fn (by assumption) (by assumption) (by omega)) rfl ?_
      refine Ru 3 rfl ?_
      refine JL.nil ?_
      refine ⟨rfl, rfl, ?_⟩
      exact z15_
     refine Ru 8 rfl ?_
     refine JL.nil ?_
     refine ⟨rfl, rfl, ?_⟩
     exact z15_
    refine Ru 13 rfl ?_
    refine JL.nil ?_
    refine ⟨rfl, rfl, ?_⟩
    exact z15_
   refine Ru 8 rfl ?_
   refine JL.opg rfl rfl  (RunV.own1 ag_4 rfl mm_ rfl) rfl ?_
   refine Ru 2 rfl ?_
   refine Bs 38 rfl (fun hc14 => ?_) fun hc14 => ?_
   ·
    refine Ru 1 rfl ?_
    refine JL.opg rfl rfl  (RunV.own1 ag_73 rfl mm_ rfl) rfl ?_
    refine Ru 5 rfl ?_
    refine Bs 45 rfl (fun hc15 => ?_) fun hc15 => ?_
    ·
     refine Ru 17 rfl ?_
     refine JL.nil ?_
     refine ⟨rfl, rfl, ?_⟩
     exact z15_
    refine Ru 1 rfl ?_
    refine JL.opg rfl rfl  (RunV.own1 ag_3 rfl mm_ rfl) rfl ?_
    refine Ru 2 rfl ?_
    refine Bs 49 rfl (fun hc16 => ?_) fun hc16 => ?_
    ·
     refine Ru 1 rfl ?_
     refine JL.opg rfl rfl  (RunV.own1 ag_4 rfl mm_ rfl) rfl ?_
     refine Ru 3 rfl ?_
     refine Bs 54 rfl (fun hc17 => ?_) fun hc17 => ?_
     ·
      refine Ru 1 rfl ?_
      refine JL.opg rfl rfl  (RunV.own1 ag_3 rfl mm_ rfl) rfl ?_
      refine Ru 1 rfl ?_
      refine JL.opg rfl rfl  (RunV.own1 ag_22 rfl mm_ rfl) rfl ?_
      refine JL.callPg rfl rfl  ca_131 rfl (value_fn (by assumption) (by assumption) (by omega)) rfl ?_
      refine Ru 3 rfl ?_
      refine JL.nil ?_
      refine ⟨rfl, rfl, ?_⟩
      exact z15_
     refine Ru 8 rfl ?_
     refine JL.nil ?_
     refine ⟨rfl, rfl, ?_⟩
     exact z15_
    refine Ru 13 rfl ?_
    refine JL.nil ?_
    refine ⟨rfl, rfl, ?_⟩
    exact z15_
   refine Ru 8 rfl ?_
   refine JL.opg rfl rfl  (RunV.own1 ag_3 rfl mm_ rfl) rfl ?_
   refine Ru 2 rfl ?_
   refine Bs 49 rfl (fun hc19 => ?_) fun hc19 => ?_
   ·
    refine Ru 1 rfl ?_
    refine JL.opg rfl rfl  (RunV.own1 ag_4 rfl mm_ rfl) rfl ?_
    refine Ru 3 rfl ?_
    refine Bs 54 rfl (fun hc20 => ?_) fun hc20 => ?_
    ·
     refine Ru 1 rfl ?_
     refine JL.opg rfl rfl  (RunV.own1 ag_3 rfl mm_ rfl) rfl ?_
     refine Ru 1 rfl ?_
     refine JL.opg rfl rfl  (RunV.own1 ag_22 rfl mm_ rfl) rfl ?_
     refine JL.callPg rfl rfl  ca_131 rfl (value_fn (by assumption) (by assumption) (by omega)) rfl ?_
     refine Ru 3 rfl ?_
     refine JL.nil ?_
     refine ⟨rfl, rfl, ?_⟩
     exact z15_
    refine Ru 8 rfl ?_
    refine JL.nil ?_
    refine ⟨rfl, rfl, ?_⟩
    exact z15_
   refine Ru 13 rfl ?_
   refine JL.nil ?_
   refine ⟨rfl, rfl, ?_⟩
   exact z15_
  refine Cs rfl (fun hc22 => ?_) fun hc22 => ?_
  ·
   refine Sr ?_
   refine Ru 3 rfl ?_
   refine JL.store1 ag_4 rfl rfl rfl dl_ z32_ ?_
   refine Nk [6, 4, 0, 2] rfl ?_
   refine Sr ?_
   refine Ru 1 rfl ?_
   refine JL.nil ?_
   exact J.ret ⟨_, [_], _, (RetV.one rfl rfl), .cons dl_ .nil, _, rfl, [], none, 0, _, true, rfl, SlR.nil_, rfl, (fun _ => by simp only [Nd.put]; rw [hc22]; rfl), (fun hh => by cases hh)⟩
  have hok : okN c t k bs ks = true := hc22; have hmm := okN_may hok
  refine J.skip ?_
  refine Sr ?_
  refine Ru 1 rfl ?_
  refine JL.op (RunV.own1 ag_22 rfl mm_ rfl) rfl ?_
  refine Ru 1 rfl ?_
  refine JL.nil ?_
  refine Sr ?_
  refine Ru 1 rfl ?_
  refine JL.nil ?_
  refine J.seq ?_
  refine Sr ?_
  refine Ru 1 rfl ?_
  refine JL.op (RunV.own1 ag_73 rfl mm_ rfl) rfl ?_
  refine Ru 2 rfl ?_
  refine Nk [71, 70, 69, 8, 7, 6, 4, 0, 2] rfl ?_
  refine J.block ?_
  refine J.loop (fun t_ S_ h_ L_ => ∃ (g : Part) (i : Nat) (inB lb : List UInt8) (ai la : Option Addr) (ci lc : Nat) (d : Int), t_ = ks.length - i ∧ S_ = [(0, .pointer (some ⟨bw, 0, none⟩)), (2, .int .i64 deep), (4, .pointer (some ⟨b1, 0, none⟩)), (7, .slice ai inB.length ci), (8, .slice la lb.length lc), (69, .slice b ks.length cb), (70, .int .i64 ks.length), (71, .int .i64 i)] ∧ g = h_ ∧ L_ = [.blk bw 119 [.int .i64 d, .bool false], .blk b1 75 [.int .i64 c, .int .i64 t, .bool k, .slice a bs.length ca, .slice b ks.length cb]] ∧ (h.le g ∧ i ≤ ks.length ∧ SlR u8R 1 g ai ci inB ∧ SlR u8R 1 g la lc lb ∧ inB.length ≤ bs.length + 8 * Nd.szL (ks.take i) ∧ d = max (max d0 deep) (deep + Nd.rkL (ks.take i)) ∧ Nd.putL (decide (c = 0) && decide (t = 17)) ks none bs = Nd.putL (decide (c = 0) && decide (t = 17)) (ks.drop i) (if i = 0 then none else some lb) inB)) ⟨_, _, ?_, ⟨_, 0, bs, [], _, _, _, _, _, rfl, rfl, rfl, rfl, ⟨Part.le.refl _, by omega, ha, SlR.nil_, by omega, by simp [Nd.rkL]; (try omega), rfl⟩⟩⟩ ?_
  ·
   exact z7_
  rintro _ _ _ _ ⟨g, i, inB, lb, ai, la, ci, lc, d, rfl, rfl, rfl, rfl, hhg, hi, hin, hla, hil, hd, hp⟩
  have r := r.mono hhg; have hT := hT.mono hhg; have ha := ha.mono hhg; have hb := hb.mono hhg; have hst := Nd.szL_take_le ks i
  refine Sr ?_
  refine Ru 1 rfl ?_
  refine JL.nil ?_
  refine J.seq ?_
  refine Cs rfl (fun hc23 => ?_) fun hc23 => ?_
  ·
   have hi' : i < ks.length := (by omega); have hrt := Nd.rkL_take ks i hi'; have hzt := Nd.szL_take ks i hi'; have hst2 := Nd.szL_take_le ks (i + 1); have hrz := Nd.rkL_le_szL ks; have hrl := Nd.rkL_le ks i
   refine J.skip ?_
   refine J.seq ?_
   refine J.block ?_
   refine Sr ?_
   refine Ru 1 rfl ?_
   refine JL.ope (RunE.index sl_73 rfl rfl z9_ (by assumption) rfl (by omega)) rfl ?_
   rintro _ ⟨b24, o24, hi24, rfl, hE24⟩
   refine JL.ope (RunE.loadA ag_75 rfl (by assumption)) rfl ?_
   rintro _ ⟨_, rfl, hNd25⟩
   refine JL.alloc zr_75 rfl (fun b26 => ?_)
   refine Ru 1 rfl ?_
   refine JL.storeA ag_75 rfl rfl dl_ z22_ z17_ z6_ ?_
   refine JL.nil ?_
   refine Sr ?_
   refine Ru 1 rfl ?_
   refine JL.op (RunV.ownA ag_75 rfl mm_ z6_) rfl ?_
   refine Ru 1 rfl ?_
   refine JL.op ai_ rfl ?_
   refine JL.call ca_99 rfl (ih (ks[i]'(by omega)) _ _ _ _ _ (hkr i (by omega)).1.1 (by assumption) hT (by have := (hkr i (by omega)).2; omega) (by omega) (by have := (hkr i (by omega)).1.2; omega)) pt_ rfl ?_
   rintro _ h27 Lo27 hle27 ⟨kb, ka, kc, kd, kbad, rfl, hkS, rfl, hkf, hkt⟩
   replace r := r.mono hle27
   replace hT := hT.mono hle27
   replace ha := ha.mono hle27
   replace hb := hb.mono hle27
   replace hhg := hhg.mono hle27
   replace hin := hin.mono hle27
   replace hla := hla.mono hle27
   replace hNd25 := hNd25.mono hle27
   refine Ru 1 rfl ?_
   refine JL.nil ?_
   refine J.seq ?_
   refine J.seq ?_
   refine J.meet [(104, .bool (kbad || ((decide (c = 0) && decide (t = 17)) && (decide ((0 : Int) < i) && decide (0 < Go.Lib.compareBytes lb kb)))))] [(11, _), (80, _), (79, _), (78, _), (77, _), (76, _), (9, _), (10, _), (75, _), (74, _), (73, _), (72, _), (0, _), (2, _), (4, _), (7, _), (8, _), (69, _), (70, _), (71, _)] ⟨rfl, rfl, rfl, rfl, rfl, rfl, rfl, rfl, rfl, rfl, rfl, rfl, rfl, rfl, rfl, rfl, rfl, rfl, rfl, rfl, trivial⟩ ?_ ?_
   ·
    refine Rg ?_
    refine Ru 3 rfl ?_
    refine JL.op (RunV.own1 ag_4 rfl mm_ rfl) rfl ?_
    refine Ru 1 rfl ?_
    refine Bs 85 rfl (fun hc28 => ?_) fun hc28 => ?_
    ·
     refine Ru 19 rfl ?_
     refine JL.nil ?_
     refine ⟨rfl, rfl, ?_⟩
     exact z45_
    refine Ru 1 rfl ?_
    refine JL.opg rfl rfl  (RunV.own1 ag_3 rfl mm_ rfl) rfl ?_
    refine Ru 2 rfl ?_
    refine Bs 89 rfl (fun hc29 => ?_) fun hc29 => ?_
    ·
     refine Ru 1 rfl ?_
     refine JL.opg rfl rfl  (RunV.own1 ag_3 rfl mm_ rfl) rfl ?_
     refine Ru 3 rfl ?_
     refine Bs 94 rfl (fun hc30 => ?_) fun hc30 => ?_
     ·
      refine Ru 4 rfl ?_
      refine Bs 98 rfl (fun hc31 => ?_) fun hc31 => ?_
      ·
       refine Ru 2 rfl ?_
       refine JL.callPg rfl rfl  ca_132 rfl (bcompare_fn (by assumption) (by assumption)) rfl ?_
       refine Ru 3 rfl ?_
       refine JL.nil ?_
       refine ⟨rfl, rfl, ?_⟩
       exact z45_
      refine Ru 6 rfl ?_
      refine JL.nil ?_
      refine ⟨rfl, rfl, ?_⟩
      exact z45_
     refine Ru 10 rfl ?_
     refine JL.nil ?_
     refine ⟨rfl, rfl, ?_⟩
     exact z45_
    refine Ru 15 rfl ?_
    refine JL.nil ?_
    refine ⟨rfl, rfl, ?_⟩
    exact z45_
   refine Cs rfl (fun hc33 => ?_) fun hc33 => ?_
   ·
    have hz : Nd.putL (decide (c = 0) && decide (t = 17)) ks none bs = none := (by rw [hp, Nd.putL_step _ _ _ _ _ hi']; cases hkb : kbad with
      | true => rw [hkf hkb]
      | false => rw [(hkt hkb).1]; show (if _ then _ else _) = _; rw [if_pos (by rw [above_if]; rw [hkb, Bool.false_or] at hc33; exact hc33)])
    refine Sr ?_
    refine Ru 3 rfl ?_
    refine JL.store1 ag_4 rfl rfl rfl dl_ z32_ ?_
    refine JL.nil ?_
    refine Sr ?_
    refine Ru 1 rfl ?_
    refine JL.nil ?_
    exact J.ret ⟨_, [_], _, (RetV.one rfl rfl), .cons dl_ .nil, _, rfl, [], none, 0, _, true, rfl, SlR.nil_, rfl, (fun _ => by simp only [Nd.put]; rw [hok, hz]; rfl), (fun hh => by cases hh)⟩
   have hkb : kbad = false := (by cases kbad <;> simp_all); subst hkb; have hkp := (hkt rfl).1; have hkd := (hkt rfl).2; have hkl := Nd.put_len _ _ kb (Nat.le_refl _) hkp; rw [Bool.false_or] at hc33; have hcz := hc33; have hki := hkr i hi'
   refine J.skip ?_
   refine Sr ?_
   refine Ru 5 rfl ?_
   refine JL.ope (RunE.cut_full sl_22 rfl rfl rfl (by assumption) rfl rfl rfl) rfl ?_
   rintro _ ⟨a34, rfl, hS34⟩
   refine Ru 1 rfl ?_
   refine JL.appendFull ap_22 rfl rfl (by assumption) rfl rfl (by assumption) rfl (by omega) z5_ rfl rfl (fun a35 c35 xs35 hC35 hN35 => ?_)
   obtain rfl := hC35.u8
   refine Ru 1 rfl ?_
   refine JL.pub (R := u8R) (l := inB ++ kb) dl_ CellsR.of_u8 rfl z5_ (fun h36 hle36 hP36 => ?_)
   replace r := r.mono hle36
   replace hT := hT.mono hle36
   replace ha := ha.mono hle36
   replace hb := hb.mono hle36
   replace hhg := hhg.mono hle36
   replace hin := hin.mono hle36
   replace hla := hla.mono hle36
   replace hNd25 := hNd25.mono hle36
   replace hkS := hkS.mono hle36
   refine JL.nil ?_
   refine Rg ?_
   refine Ru 2 rfl ?_
   refine JL.nil ?_
   refine Rg ?_
   refine JL.ents [.blk bw _ _, .blk b1 _ _] pt_ ?_
   refine JL.op ai_ rfl ?_
   refine Ru 1 rfl ?_
   refine JL.nil ?_
   refine ⟨_, ?_, _, ?_, ⟨_, i + 1, inB ++ kb, kb, _, _, _, _, _, rfl, rfl, rfl, rfl, ⟨by assumption, by omega, by assumption, by assumption, by rw [List.length_append, hzt]; omega, by rw [hkd, hd, hrt]; omega, by rw [hp, Nd.putL_step _ _ _ _ _ hi', hkp]; show (if _ then _ else _) = _; rw [if_neg (by rw [above_if, hcz]; decide), if_neg (by omega)]⟩⟩⟩
   ·
    omega
   exact z7_
  refine J.exit ?_
  refine Kp [4, 7] rfl ?_
  refine Sr ?_
  refine JL.op (RunV.ownA ag_75 rfl mm_ z6_) rfl ?_
  refine Ru 2 rfl ?_
  have hhl := headB_len c t k inB.length; have hst2 := Nd.szL_take_le ks i
  refine JL.call ca_133 rfl (head_fn r hmm.1 hmm.2 (by omega)) pt_ rfl ?_
  rintro _ h37 Lo37 hle37 ⟨a37, c37, rfl, rfl⟩
  replace r := r.mono hle37
  replace hT := hT.mono hle37
  replace ha := ha.mono hle37
  replace hb := hb.mono hle37
  replace hhg := hhg.mono hle37
  replace hin := hin.mono hle37
  replace hla := hla.mono hle37
  simp only [Nd.cls, Nd.tag, Nd.cons]
  refine Ru 1 rfl ?_
  refine JL.append ap_22 rfl rfl CellsR.of_u8 rfl (by assumption) rfl dl_ z5_ rfl rfl (fun a38 c38 xs38 hC38 hN38 => ?_)
  obtain rfl := hC38.u8
  refine Ru 1 rfl ?_
  refine JL.pub (R := u8R) (l := headB c t k inB.length ++ inB) dl_ CellsR.of_u8 rfl z5_ (fun h39 hle39 hP39 => ?_)
  replace r := r.mono hle39
  replace hT := hT.mono hle39
  replace ha := ha.mono hle39
  replace hb := hb.mono hle39
  replace hhg := hhg.mono hle39
  replace hin := hin.mono hle39
  replace hla := hla.mono hle39
  refine Nk [6] rfl ?_
  have hz : Nd.putL (decide (c = 0) && decide (t = 17)) ks none bs = some inB := by rw [hp, List.drop_of_length_le (by omega)]; rfl
  exact J.ret ⟨_, [_], _, (RetV.one rfl rfl), .cons dl_ .nil, _, rfl, headB c t k inB.length ++ inB, _, _, _, false, rfl, by assumption, rfl, (fun hh => by cases hh), (fun _ => ⟨by simp only [Nd.put]; rw [hok, hz]; rfl, by rw [hd, List.take_of_length_le (by omega)]; simp only [Nd.rk]; omega⟩)⟩
end Go.Proofs.YtmngjbefnloljaaGreatDoor
namespace Go.Proofs.YtmngjbefnloljaaGreatDoor
open Go Go.RowKit
theorem ap_73 : apT Tryz.prog 73 = some (75, 5, 72) := by kernel_rfl
theorem ca_100 : callT Tryz.prog 100 = true := by kernel_rfl
theorem pl_119 : plT Tryz.prog 119 = some ([.int .i64 0, .bool false], [(0, 1), (1, 1)]) := by kernel_rfl
theorem pl_75 : plT Tryz.prog 75 = some ([.int .i64 0, .int .i64 0, .bool false, .slice none 0 0, .slice none 0 0], [(0, 1), (1, 1), (2, 1), (3, 1), (4, 1)]) := by kernel_rfl
def Nd.wr (x : Nd) : List UInt8 × Int := match x.put with
  | none => ([], 34)
  | some b => if 32 < x.rk then ([], 33) else if 16777216 < b.length then ([], 2) else (b, 0)
theorem write_fn {x : Nd} {cs : List Value} {h : Part} (r : NdR h cs x) (hT : Tabs h) (hsz : x.sz ≤ 1073741824) :
    FnR Tryz.prog 61 [.agg cs.toArray] h (fun v h' => ∃ a c, v = .tuple #[.slice a x.wr.1.length c, .int .i64 x.wr.2] ∧ SlR u8R 1 h' a c x.wr.1) := by
  have hrk : x.rk ≤ x.sz := Nd.rk_le_sz _ x (Nat.le_refl _)
  have hr1 : 1 ≤ x.rk := by cases x; simp [Nd.rk]
  refine Fn.intro Tryz.func61 rfl Tryz.ntmps61 rfl (fun e he => ?_)
  refine J.weak [(0, _)] ⟨rfl, trivial⟩ ?_
  refine Sr ?_
  refine JL.box rfl rfl rfl (fun b1 => ?_)
  refine Ru 2 rfl ?_
  refine JL.nil ?_
  refine Sr ?_
  refine JL.op (RunV.build (cs := [.int .i64 0, .bool false]) pl_119 rfl rfl) rfl ?_
  refine JL.box rfl rfl rfl (fun b2 => ?_)
  refine Ru 1 rfl ?_
  refine JL.nil ?_
  refine Sr ?_
  refine Ru 1 rfl ?_
  refine JL.op (RunV.ownA ag_75 rfl mm_ z6_) rfl ?_
  refine JL.call ca_99 rfl (put_fn _ x _ _ _ _ _ (Nat.le_refl _) r hT hsz (by omega) (by omega)) pt_ rfl ?_
  rintro _ h3 Lo3 hle3 ⟨kb, ka, kc, kd, kbad, rfl, hkS, rfl, hkf, hkt⟩
  replace r := r.mono hle3
  replace hT := hT.mono hle3
  refine Ru 1 rfl ?_
  refine Nk [5, 4, 3, 2] rfl ?_
  refine J.seq ?_
  refine J.block ?_
  refine Sr ?_
  refine Ru 3 rfl ?_
  refine JL.op (RunV.own1 ag_4 rfl mm_ rfl) rfl ?_
  refine Ru 1 rfl ?_
  refine JL.nil ?_
  refine Cs rfl (fun hc4 => ?_) fun hc4 => ?_
  ·
   have hw : x.wr = ([], 34) := (by unfold Nd.wr; rw [hkf hc4])
   refine Sr ?_
   refine Ru 2 rfl ?_
   refine Nk [3, 2, 5] rfl ?_
   rw [hw]; exact J.retR (RetV.two rfl rfl rfl) ⟨_, _, rfl, SlR.nil_⟩
  have hkt := hkt hc4; have hkp := hkt.1; have hkd := hkt.2; have hl := hkS.big
  refine Sr ?_
  refine Ru 3 rfl ?_
  refine JL.op (RunV.own1 ag_3 rfl mm_ rfl) rfl ?_
  refine Ru 2 rfl ?_
  refine Nk [16, 5, 3, 2] rfl ?_
  refine Cs rfl (fun hc5 => ?_) fun hc5 => ?_
  ·
   have hw : x.wr = ([], 33) := (by unfold Nd.wr; rw [hkp]; simp only; rw [if_pos (by omega)])
   refine Sr ?_
   refine Ru 2 rfl ?_
   refine JL.nil ?_
   rw [hw]; exact J.retR (RetV.two rfl rfl rfl) ⟨_, _, rfl, SlR.nil_⟩
  refine Sr ?_
  refine Ru 4 rfl ?_
  refine Nk [22, 5, 3, 2] rfl ?_
  refine Cs rfl (fun hc6 => ?_) fun hc6 => ?_
  ·
   have hw : x.wr = ([], 2) := (by unfold Nd.wr; rw [hkp]; simp only; rw [if_neg (by omega), if_pos (by omega)])
   refine Sr ?_
   refine Ru 2 rfl ?_
   refine JL.nil ?_
   rw [hw]; exact J.retR (RetV.two rfl rfl rfl) ⟨_, _, rfl, SlR.nil_⟩
  have hw : x.wr = (kb, 0) := (by unfold Nd.wr; rw [hkp]; simp only; rw [if_neg (by omega), if_neg (by omega)])
  refine J.skip ?_
  refine Sr ?_
  refine Ru 3 rfl ?_
  refine Nk [3, 2] rfl ?_
  rw [hw]; exact J.retR (RetV.two rfl rfl rfl) ⟨_, _, rfl, hkS⟩
theorem right_fn {x : Nd} {cs : List Value} {h : Part} (r : NdR h cs x) (hT : Tabs h) (hsz : x.sz ≤ 1073741824) : Pure Tryz.prog 143 [.agg cs.toArray] h (.bool x.put.isSome) := by
  have hrk : x.rk ≤ x.sz := Nd.rk_le_sz _ x (Nat.le_refl _)
  refine Pure.ofV ?_
  refine Fn.intro Tryz.func143 rfl Tryz.ntmps143 rfl (fun e he => ?_)
  refine J.weak [(0, _)] ⟨rfl, trivial⟩ ?_
  refine Sr ?_
  refine JL.box rfl rfl rfl (fun b1 => ?_)
  refine Ru 1 rfl ?_
  refine JL.nil ?_
  refine Sr ?_
  refine JL.op (RunV.build (cs := [.int .i64 0, .bool false]) pl_119 rfl rfl) rfl ?_
  refine JL.box rfl rfl rfl (fun b2 => ?_)
  refine Ru 1 rfl ?_
  refine JL.nil ?_
  refine Sr ?_
  refine Ru 1 rfl ?_
  refine JL.op (RunV.ownA ag_75 rfl mm_ z6_) rfl ?_
  refine JL.call ca_99 rfl (put_fn _ x _ _ _ _ _ (Nat.le_refl _) r hT hsz (by omega) (by omega)) pt_ rfl ?_
  rintro _ h3 Lo3 hle3 ⟨kb, ka, kc, kd, kbad, rfl, hkS, rfl, hkf, hkt⟩
  replace r := r.mono hle3
  replace hT := hT.mono hle3
  refine Nk [3, 2] rfl ?_
  refine Sr ?_
  refine Ru 3 rfl ?_
  refine JL.op (RunV.own1 ag_4 rfl mm_ rfl) rfl ?_
  refine Ru 2 rfl ?_
  refine Nk [2] rfl ?_
  exact J.retV (RetV.one rfl rfl) (by cases hb : kbad with | true => rw [hkf hb]; rfl | false => rw [(hkt hb).1]; rfl)
theorem prim_fn {t : Int} {a : Option Addr} {c : Nat} {l : List UInt8} {h : Part} (hl : SlR u8R 1 h a c l) : FnR Tryz.prog 77 [.int .i64 t, .slice a l.length c] h (fun v h' => ∃ cs, v = .agg (List.toArray cs) ∧ NdR h' cs (.mk 0 t false l [])) := by
  have hb := hl.big
  refine Fn.intro Tryz.func77 rfl Tryz.ntmps77 rfl (fun e he => ?_)
  refine J.weak [(0, _), (1, _)] ⟨rfl, rfl, trivial⟩ ?_
  refine Sr ?_
  refine JL.alloc zr_75 rfl (fun b1 => ?_)
  refine JL.nil ?_
  refine Sr ?_
  refine Ru 2 rfl ?_
  refine JL.row_nil 5 1 ?_
  refine JL.append ap_22 rfl rfl (CellsR.nil (R := u8R)) rfl (by assumption) rfl dl_ z5_ rfl rfl (fun a2 c2 xs2 hC2 hN2 => ?_)
  obtain rfl := hC2.u8
  refine JL.pub (R := u8R) (l := l) dl_ CellsR.of_u8 rfl z5_ (fun h3 hle3 hP3 => ?_)
  replace hl := hl.mono hle3
  refine JL.op (RunV.build (cs := [.int .i64 0, _, .bool false, _, .slice none 0 0]) pl_75 rfl rfl) rfl ?_
  refine JL.storeA ag_75 rfl rfl dl_ z22_ z17_ z6_ ?_
  refine Nk [4] rfl ?_
  exact J.retR (RetV.cell rfl rfl ag_75 mm_ z6_) ⟨_, rfl, NdR.of (by assumption) SlR.nil_⟩
theorem Nd.len_le_szL (l : List Nd) : l.length ≤ Nd.szL l := by
  induction l with
  | nil => simp
  | cons x r ih => cases x; simp only [List.length_cons, Nd.szL, Nd.sz]; omega
theorem own_fn : ∀ (n : Nat) (ks : List Nd) (a : Option Addr) (c : Nat) (h : Part), Nd.rkL ks ≤ n → SlR NdR 5 h a c ks → Nd.szL ks ≤ 1099511627776 →
    FnR Tryz.prog 100 [.slice a ks.length c] h (fun v h' => ∃ a' c', v = .slice a' ks.length c' ∧ SlR NdR 5 h' a' c' ks) := by
  intro n
  induction n with
  | zero =>
    intro ks a c h hx
    cases ks with
    | cons x r => cases x; simp [Nd.rkL, Nd.rk] at hx
    | nil =>
      intro hk _
      have hx : (0 : Nat) = 0 := rfl
      refine Fn.intro Tryz.func100 rfl Tryz.ntmps100 rfl (fun e he => ?_)
      refine J.weak [(0, _)] ⟨rfl, trivial⟩ ?_
      refine Sr ?_
      refine Ru 1 rfl ?_
      refine JL.nil ?_
      refine Sr ?_
      refine Ru 1 rfl ?_
      refine JL.nil ?_
      refine J.seq ?_
      refine Sr ?_
      refine Ru 3 rfl ?_
      refine JL.nil ?_
      refine J.block ?_
      refine J.loop (fun t_ S_ h_ L_ => ∃ (i : Nat), t_ = 0 - i ∧ S_ = [(3, .slice none 0 0), (6, .slice a ([] : List Nd).length c), (7, .int .i64 0), (8, .int .i64 0)] ∧ h = h_ ∧ L_ = [] ∧ (True)) ⟨_, _, ?_, ⟨0, rfl, rfl, rfl, rfl, trivial⟩⟩ ?_
      ·
       exact z7_
      rintro _ _ _ _ ⟨i, rfl, rfl, rfl, rfl, -⟩
      refine Sr ?_
      refine Ru 1 rfl ?_
      refine JL.nil ?_
      refine J.seq ?_
      refine Cs rfl (fun hc1 => ?_) fun hc1 => ?_
      ·
       exfalso; simp at hc1 --done
      refine J.exit ?_
      refine Kp [3] rfl ?_
      refine Sr ?_
      refine Ru 2 rfl ?_
      refine JL.nil ?_
      exact J.retR (RetV.one rfl rfl) ⟨_, _, rfl, SlR.nil_⟩
  | succ n ih =>
    intro ks a c h hx hk hsz
    have hl := hk.big
    have hlz := Nd.len_le_szL ks
    have hz : ∀ i (hi : i < ks.length), ks[i].rk ≤ n + 1 ∧ ks[i].sz ≤ Nd.szL ks := fun i hi => ⟨by have := Nd.rk_lt (List.getElem_mem hi); omega, Nd.sz_le (List.getElem_mem hi)⟩
    refine Fn.intro Tryz.func100 rfl Tryz.ntmps100 rfl (fun e he => ?_)
    refine J.weak [(0, _)] ⟨rfl, trivial⟩ ?_
    refine Sr ?_
    refine Ru 1 rfl ?_
    refine JL.nil ?_
    refine Sr ?_
    refine Ru 1 rfl ?_
    refine JL.nil ?_
    refine J.seq ?_
    refine Sr ?_
    refine JL.row_nil 75 5 ?_
    refine Ru 3 rfl ?_
    refine JL.nil ?_
    refine J.block ?_
    refine J.loop (fun t_ S_ h_ L_ => ∃ (g : Part) (i : Nat) (ao : Option Addr) (co : Nat) (xs : List Value), t_ = ks.length - i ∧ S_ = [(3, .slice ao (ks.take i).length co), (6, .slice a ks.length c), (7, .int .i64 ks.length), (8, .int .i64 i)] ∧ g = h_ ∧ L_ = [.row ao co 75 5 (ks.take i).length xs] ∧ (h.le g ∧ i ≤ ks.length ∧ CellsR NdR 5 g xs (ks.take i))) ⟨_, _, ?_, ⟨_, 0, _, _, _, rfl, rfl, rfl, rfl, ⟨Part.le.refl _, by omega, CellsR.nil⟩⟩⟩ ?_
    ·
     exact z7_
    rintro _ _ _ _ ⟨g, i, ao, co, xs, rfl, rfl, rfl, rfl, hhg, hi, hC⟩
    have hk := hk.mono hhg
    refine Sr ?_
    refine Ru 1 rfl ?_
    refine JL.nil ?_
    refine J.seq ?_
    refine Cs rfl (fun hc1 => ?_) fun hc1 => ?_
    ·
     have hi' : i < ks.length := (by omega); have hzi := hz i hi'; obtain ⟨kc, kt, kk, kbs, kks, hkx⟩ : ∃ c t k bs ks', ks[i] = .mk c t k bs ks' := (by cases ks[i]; exact ⟨_, _, _, _, _, rfl⟩); have hke : ks.take i ++ [.mk kc kt kk kbs kks] = ks.take (i + 1) := (by rw [← hkx, List.take_succ_eq_append_getElem hi']); have htl : (ks.take i).length ≤ ks.length := (by simp; omega)
     refine J.skip ?_
     refine J.seq ?_
     refine J.block ?_
     refine Sr ?_
     refine JL.ope (RunE.index sl_73 rfl rfl z9_ (by assumption) rfl (by omega)) rfl ?_
     rintro _ ⟨b2, o2, hi2, rfl, hE2⟩
     refine JL.ope (RunE.loadA ag_75 rfl (by assumption)) rfl ?_
     rintro _ ⟨_, rfl, hNdx⟩
     rw [hkx] at hNdx hzi; obtain ⟨ka, kca, kb, kcb, rfl, hka, hkb⟩ := hNdx.inv; simp only [Nd.rk, Nd.sz] at hzi; have hkal := hka.big
     refine JL.alloc zr_75 rfl (fun b4 => ?_)
     refine JL.storeA ag_75 rfl rfl dl_ z22_ z17_ z6_ ?_
     refine JL.nil ?_
     refine Sr ?_
     refine Ru 1 rfl ?_
     refine JL.op (RunV.own1 ag_22 rfl mm_ rfl) rfl ?_
     refine JL.row_nil 5 1 ?_
     refine JL.append ap_22 rfl rfl (CellsR.nil (R := u8R)) rfl (by assumption) rfl dl_ z5_ rfl rfl (fun a5 c5 xs5 hC5 hN5 => ?_)
     obtain rfl := hC5.u8
     refine JL.pub (R := u8R) (l := kbs) dl_ CellsR.of_u8 rfl z5_ (fun h6 hle6 hP6 => ?_)
     replace hk := hk.mono hle6
     replace hhg := hhg.mono hle6
     replace hC := hC.mono hle6
     replace hka := hka.mono hle6
     replace hkb := hkb.mono hle6
     refine Ru 1 rfl ?_
     refine JL.store1 ag_22 rfl rfl rfl dl_ z32_ ?_
     refine JL.nil ?_
     refine Sr ?_
     refine Ru 1 rfl ?_
     refine JL.op (RunV.own1 ag_73 rfl mm_ rfl) rfl ?_
     refine JL.callR ca_100 rfl (ih kks _ _ _ (by omega) (by assumption) (by omega)) rfl ?_
     rintro _ h7 hle7 ⟨a7, c7, rfl, hS7⟩
     replace hk := hk.mono hle7
     replace hhg := hhg.mono hle7
     replace hC := hC.mono hle7
     replace hka := hka.mono hle7
     replace hkb := hkb.mono hle7
     replace hP6 := hP6.mono hle7
     refine Ru 1 rfl ?_
     refine JL.store1 ag_73 rfl rfl rfl dl_ z32_ ?_
     refine JL.nil ?_
     refine Rg ?_
     refine Ru 1 rfl ?_
     refine JL.op (RunV.ownA ag_75 rfl mm_ z6_) rfl ?_
     refine JL.litA ap_73 rfl z6_ rfl rfl (fun b8 => ?_)
     refine JL.append1 ap_73 rfl rfl (by assumption) rfl dl_ dl_ z6_ ((NdR.of (by assumption) (by assumption) : NdR _ _ (.mk kc kt kk kbs kks))) z5_ rfl rfl (fun a9 c9 xs9 hC9 hN9 => ?_)
     rw [hke] at *
     refine Ru 1 rfl ?_
     refine JL.nil ?_
     refine Rg ?_
     refine JL.ents [.row _ _ _ _ _ _] pt_ ?_
     refine JL.op ai_ rfl ?_
     refine Ru 1 rfl ?_
     refine JL.nil ?_
     refine ⟨_, ?_, _, ?_, ⟨_, i + 1, _, _, _, rfl, rfl, rfl, rfl, ⟨by assumption, by omega, by assumption⟩⟩⟩
     ·
      omega
     exact z7_
    refine J.exit ?_
    refine Kp [3] rfl ?_
    refine Sr ?_
    refine Ru 1 rfl ?_
    have hke : ks.take i = ks := List.take_of_length_le (by omega); rw [hke] at hC ⊢; refine JL.pub (R := NdR) dl_ (by assumption) rfl hl (fun h9 hle9 hS9 => ?_)
    refine Ru 1 rfl ?_
    refine JL.nil ?_
    exact J.retR (RetV.one rfl rfl) ⟨_, _, rfl, hS9⟩
theorem cons_fn {cl t : Int} {ks : List Nd} {a : Option Addr} {c : Nat} {h : Part} (hk : SlR NdR 5 h a c ks) (hz : Nd.szL ks ≤ 1099511627776) :
    FnR Tryz.prog 62 [.int .i64 cl, .int .i64 t, .slice a ks.length c] h (fun v h' => ∃ cs, v = .agg (List.toArray cs) ∧ NdR h' cs (.mk cl t true [] ks)) := by
  refine Fn.intro Tryz.func62 rfl Tryz.ntmps62 rfl (fun e he => ?_)
  refine J.weak [(0, _), (1, _), (2, _)] ⟨rfl, rfl, rfl, trivial⟩ ?_
  refine Sr ?_
  refine JL.alloc zr_75 rfl (fun b1 => ?_)
  refine JL.nil ?_
  refine Sr ?_
  refine Ru 3 rfl ?_
  refine JL.callR ca_100 rfl (own_fn _ _ _ _ _ (Nat.le_refl _) (by assumption) (by omega)) rfl ?_
  rintro _ h2 hle2 ⟨a2, c2, rfl, hS2⟩
  replace hk := hk.mono hle2
  refine JL.op (RunV.build (cs := [_, _, _, .slice none 0 0, _]) pl_75 rfl rfl) rfl ?_
  refine JL.storeA ag_75 rfl rfl dl_ z22_ z17_ z6_ ?_
  refine Nk [6] rfl ?_
  exact J.retR (RetV.cell rfl rfl ag_75 mm_ z6_) ⟨_, rfl, NdR.of SlR.nil_ (by assumption)⟩
end Go.Proofs.YtmngjbefnloljaaGreatDoor
namespace Go.Proofs.YtmngjbefnloljaaGreatDoor
open Go Go.RowKit
def JH (f : Fr) (ops : Array Oper) (n : Post) (x : Nat → Post) (h0 : Part) (L0 : List Ent) (fuel : Nat) (listed : Array Bool) : Post := fun S h L =>
  ∀ a w, Sat f.e f.m S h L a w → wpAnyH f.P .any ops (f.Q n x) (fun w => Ok f.e h0 L0 w) fuel listed a w
theorem Ok.bridge {e : Env} {h h0 : Part} {Li L Lr : List Ent} (p : Parts Li L Lr) (hle : h0.le h) (h00 : e.h0.le h0) (w : World) (k : Ok e h L w) : Ok e h0 Li w := (p.ok w k).shrink hle h00
section
variable {f : Fr} {n : Post} {x : Nat → Post} {S : Sig} {h h0 : Part} {L L0 : List Ent} {ops : Array Oper} {fuel i j d : Nat} {listed : Array Bool}
variable {q : Op} {ty : TypeId} {pos : String} {af : Array Edge} {v : Value} {o o2 : Oper}
theorem J.held {id : Nat} {l : List Oper} (L0 : List Ent) (N : Nat) (hm : f.P.follows .mixedOrders = true) (hN : l.length = N) (k : f.e.h0.le h → JH f l.toArray n x h L0 N (Array.replicate N false) S h L) : J f (.region id l.toArray true) n x S h L := fun a w s => by
  subst hN
  refine wp_region_held (S := fun w => Ok f.e h L0 w) hm ?_
  have := k s.ok.le a { w with drawn := w.drawn + 1 } (s.with (s.ok.drawn _))
  simpa using this
theorem JH.take (i : Nat) (hi : ops[i]? = some ⟨some d, q, ty, pos, af, none⟩) (hs : Region.noSelect ops = true) (hf : Region.free .any ops listed i = true) (hr : (Region.ready .any ops listed).contains i = true)
    (hp : ∀ c S h L, f.p c S h L → f.p c [] h L) (hb : ∀ w, Ok f.e h L w → Ok f.e h0 L0 w) (r : RunV f S h0 L0 q ty v) (hd : Nat.blt d f.m = true) (k : JH f ops n x h0 L0 fuel (listed.setIfInBounds i true) ((d, v) :: S) h L) :
    JH f ops n x h0 L0 (fuel + 1) listed S h L := fun a w s => by
  refine wpAnyH_take (v := v) hi hs hf hr (fun c a w hq => ?_) ?_ (hb w s.ok) (k _ w (s.put hd v s.ok))
  · obtain ⟨S', h', L', s', k'⟩ := hq
    refine ⟨[], h', L', ⟨?_, fun s v hv => by simp [look] at hv, ?_, s'.ok⟩, hp _ _ _ _ k'⟩
    · have := s'.size; simpa [Act.put] using this
    · have := s'.ds; simpa [Act.put] using this
  · exact .inl ⟨by simp [Region.wanted], fun w' hw' => r a w' (s.with hw') _ _ _ _⟩
theorem JH.takeE {V : Value → Prop} (i : Nat) (hi : ops[i]? = some ⟨some d, q, ty, pos, af, none⟩) (hs : Region.noSelect ops = true) (hf : Region.free .any ops listed i = true) (hr : (Region.ready .any ops listed).contains i = true)
    (hp : ∀ c S h L, f.p c S h L → f.p c [] h L) (hb : ∀ w, Ok f.e h L w → Ok f.e h0 L0 w) (r : RunE f S h0 L0 q ty V) (hd : Nat.blt d f.m = true) (k : ∀ v, V v → JH f ops n x h0 L0 fuel (listed.setIfInBounds i true) ((d, v) :: S) h L) :
    JH f ops n x h0 L0 (fuel + 1) listed S h L := by
  obtain ⟨v, r, hv⟩ := r
  exact JH.take i hi hs hf hr hp hb r hd (k v hv)
theorem wp_monoQ {P : Program} {o : Oper} {a : Act} {w : World} {K K' : Act → World → Prop} {Q Q' : Exit → Act → World → Prop} (hK : ∀ a w, K a w → K' a w) (hp : ∀ c a w, Q (.panic c) a w → Q' (.panic c) a w) (ho : ∀ a w, ¬ Q .outgrown a w) (hh : o.wp P a w K Q) : o.wp P a w K' Q' := by
  unfold Oper.wp at *
  generalize (execOp a.eval o).run P w = r at *
  cases r with
  | ok n w' =>
    cases n <;> simp only [Oper.upon] at hh ⊢ <;>
      first
        | exact hK _ _ hh
        | exact Calls.mono hh (fun e w'' he => by cases e <;> first | exact hK _ _ he | exact hp _ _ _ he | exact (let ⟨a1, w1, h1⟩ := he; (ho a1 w1 h1).elim))
        | exact Rows.mono hh (fun _ _ he => hK _ _ he)
        | exact hh
  | halt x w' => cases x <;> simp only [Oper.upon] at hh ⊢ <;> first | exact hp _ _ _ hh | exact (let ⟨a1, w1, h1⟩ := hh; (ho a1 w1 h1).elim) | exact hh
def One (f : Fr) (ops : Array Oper) (n : Post) (x : Nat → Post) (h0 : Part) (L0 : List Ent) (fuel : Nat) (listed : Array Bool) (i : Nat) (o : Oper) : Post := fun S h L =>
  JL f ops (fun S' h' L' => (∀ w, Ok f.e h' L' w → Ok f.e h0 L0 w) ∧ JH f ops n x h0 L0 fuel (listed.setIfInBounds i true) S' h' L') x [o] S h L
theorem One.wp (hi : ops[i]? = some o) (k : One f ops n x h0 L0 fuel listed i o S h L) (a : Act) (w : World) (s : Sat f.e f.m S h L a w) :
    wpOp f.P ops (f.Q n x) i (fun a' w' => Ok f.e h0 L0 w' ∧ wpAnyH f.P .any ops (f.Q n x) (fun w => Ok f.e h0 L0 w) fuel (listed.setIfInBounds i true) a' w') a w := by
  have hk := k a w s
  have fin : ∀ a w, (f.Q (fun S' h' L' => (∀ w, Ok f.e h' L' w → Ok f.e h0 L0 w) ∧ JH f ops n x h0 L0 fuel (listed.setIfInBounds i true) S' h' L') x) .normal a w → Ok f.e h0 L0 w ∧ wpAnyH f.P .any ops (f.Q n x) (fun w => Ok f.e h0 L0 w) fuel (listed.setIfInBounds i true) a w := fun a w hq => by
    obtain ⟨S', h', L', s', hb, k'⟩ := hq
    exact ⟨hb w s'.ok, k' a w s'⟩
  unfold wpList at hk
  unfold wpOp
  simp only [hi]
  split
  · rename_i hw
    rw [if_pos hw] at hk
    rcases hk with hk | ⟨_, a', w', hh⟩
    · exact .inl (wp_monoQ (fun a w hq => fin a w (by simpa [wpList] using hq)) (fun c a w hq => hq) (fun a w hh => hh) hk)
    · exact hh.elim
  · rename_i hw
    rw [if_neg hw] at hk
    exact fin _ _ (by simpa [wpList] using hk)
theorem JH.all1 (i : Nat) (hr : Region.ready .any ops listed = [i]) (hi : ops[i]? = some o) (k : One f ops n x h0 L0 fuel listed i o S h L) : JH f ops n x h0 L0 (fuel + 1) listed S h L := fun a w s =>
  wpAnyH_all hr (by simp) fun i' hi' => by
    simp only [List.mem_singleton] at hi'
    subst hi'
    exact k.wp hi a w s
theorem JH.all2 (i j : Nat) (hr : Region.ready .any ops listed = [i, j]) (hi : ops[i]? = some o) (hj : ops[j]? = some o2) (k1 : One f ops n x h0 L0 fuel listed i o S h L) (k2 : One f ops n x h0 L0 fuel listed j o2 S h L) : JH f ops n x h0 L0 (fuel + 1) listed S h L := fun a w s =>
  wpAnyH_all hr (by simp) fun i' hi' => by
    simp only [List.mem_cons, List.not_mem_nil, or_false] at hi'
    rcases hi' with rfl | rfl
    · exact k1.wp hi a w s
    · exact k2.wp hj a w s
theorem JH.done (hr : Region.ready .any ops listed = []) (k : n S h L) : JH f ops n x h0 L0 fuel listed S h L := fun a w s => wpAnyH_done hr ⟨S, h, L, s, k⟩ fuel
end
end Go.Proofs.YtmngjbefnloljaaGreatDoor
namespace Go.Proofs.YtmngjbefnloljaaGreatDoor
open Go
theorem br_ {e : Env} {h h0 : Part} {L Li Lr : List Ent} (h00 : e.h0.le h0) (p : Parts Li L Lr := by repeat first | exact Parts.nil | exact Del.here | apply Del.there | apply Parts.cons) (q : h0.le h := by first | exact Part.le.refl _ | assumption | (repeat (first | assumption | refine Part.le.trans (by assumption) ?_))) : ∀ w, Ok e h L w → Ok e h0 Li w := Ok.bridge p q h00
end Go.Proofs.YtmngjbefnloljaaGreatDoor
namespace Go.Proofs.YtmngjbefnloljaaGreatDoor
open Go Go.RowKit
theorem ca_164 : callT Tryz.prog 164 = true := by kernel_rfl
theorem ni_163 : niT Tryz.prog 163 = true := by kernel_rfl
theorem pl_163 : plT Tryz.prog 163 = some ([.int .i64 0, .int .i64 0], [(0, 2)]) := by kernel_rfl
theorem pl_82 : plT Tryz.prog 82 = some ([.int .i64 0, .int .i64 0], [(0, 1), (1, 1)]) := by kernel_rfl
def gvn (at_ c : Int) : Value := .iface 163 (.agg #[.int .i64 at_, .int .i64 c])
theorem nfail_fn {ok : Bool} {e from_ : Int} {bf : Nat} {h : Part} : Fn Tryz.prog 141 [.bool ok, .int .i64 e, .pointer (some ⟨bf, 0, none⟩)] h [.blk bf 3 [.int .i64 from_]] (FailR ok (gvn from_ e) bf 3 [.int .i64 from_]) := by
  refine Fn.intro Tryz.func141 rfl Tryz.ntmps141 rfl (fun e he => ?_)
  refine J.weak [(0, _), (1, _), (2, _)] ⟨rfl, rfl, rfl, trivial⟩ ?_
  refine Sr ?_
  refine Ru 2 rfl ?_
  refine JL.nil ?_
  refine Cs rfl (fun hc1 => ?_) fun hc1 => ?_
  ·
   refine Rg ?_
   refine JL.op (RunV.own1 ag_3 rfl mm_ rfl) rfl ?_
   refine Ru 1 rfl ?_
   refine JL.op (RunV.build (cs := [_, _]) pl_82 rfl rfl) rfl ?_
   refine JL.op (RunV.build (cs := [_, _]) pl_163 rfl rfl) rfl ?_
   refine JL.op (RunV.makeInterface ni_163 rfl) rfl ?_
   refine JL.panic rfl ?_
   exact ⟨_, _, .cons .here .nil, .inr ⟨hc1, rfl, rfl⟩⟩
  refine J.skip ?_
  exact ⟨_, _, _, (RetV.none_ rfl), .cons .here .nil, .inl ⟨hc1, rfl, rfl⟩⟩
theorem sfail_fn {ok : Bool} {e from_ : Int} {bf : Nat} {h : Part} : Fn Tryz.prog 164 [.bool ok, .int .i64 e, .pointer (some ⟨bf, 0, none⟩)] h [.blk bf 3 [.int .i64 from_]] (FailR ok (gvn from_ e) bf 3 [.int .i64 from_]) := by
  refine Fn.intro Tryz.func164 rfl Tryz.ntmps164 rfl (fun e he => ?_)
  refine J.weak [(0, _), (1, _), (2, _)] ⟨rfl, rfl, rfl, trivial⟩ ?_
  refine Sr ?_
  refine Ru 2 rfl ?_
  refine JL.nil ?_
  refine Cs rfl (fun hc1 => ?_) fun hc1 => ?_
  ·
   refine Rg ?_
   refine JL.op (RunV.own1 ag_3 rfl mm_ rfl) rfl ?_
   refine Ru 1 rfl ?_
   refine JL.op (RunV.build (cs := [_, _]) pl_82 rfl rfl) rfl ?_
   refine JL.op (RunV.build (cs := [_, _]) pl_163 rfl rfl) rfl ?_
   refine JL.op (RunV.makeInterface ni_163 rfl) rfl ?_
   refine JL.panic rfl ?_
   exact ⟨_, _, .cons .here .nil, .inr ⟨hc1, rfl, rfl⟩⟩
  refine J.skip ?_
  exact ⟨_, _, _, (RetV.none_ rfl), .cons .here .nil, .inl ⟨hc1, rfl, rfl⟩⟩
def beval (l : List UInt8) : Nat := l.foldl (fun a b => a * 256 + b.toNat) 0
def rdS (l : List UInt8) (p e : Nat) : Except Int (Nat × Nat) :=
  if ¬ p < e then .error 30 else if byteAt l p < 128 then .ok (byteAt l p, p + 1)
  else if ¬ (1 ≤ byteAt l p - 128 ∧ byteAt l p - 128 ≤ 4) then .error 32
  else if ¬ (byteAt l p - 128 ≤ e - (p + 1)) then .error 30
  else if ¬ (128 ≤ beval ((l.drop (p + 1)).take (byteAt l p - 128)) ∧ 0 < beval ((l.drop (p + 1)).take (byteAt l p - 128)) / 256 ^ (byteAt l p - 128 - 1)) then .error 32
  else .ok (beval ((l.drop (p + 1)).take (byteAt l p - 128)), p + 1 + (byteAt l p - 128))
def SizeR (s : Except Int (Nat × Nat)) (from_ : Int) (br : Nat) (b : Value) : Ending → Part → List Ent → Prop := fun e _ Lo =>
  match s with
  | .ok (n, q) => e = .returned (.int .i64 n) ∧ Lo = [.blk br 127 [b, .int .i64 q]]
  | .error c => e = .panicked [{ v := gvn from_ c, recovered := false }] ∧ Lo = []
theorem beval_step (l : List UInt8) (i : Nat) (h : i < l.length) : beval (l.take (i + 1)) = beval (l.take i) * 256 + l[i].toNat := by
  rw [List.take_succ_eq_append_getElem h]; unfold beval; rw [List.foldl_append]; rfl
theorem beval_lt (l : List UInt8) (i : Nat) : beval (l.take i) < 256 ^ i := by
  induction i with
  | zero => simp [beval]
  | succ i ih =>
    by_cases h : i < l.length
    · rw [beval_step l i h]
      have := l[i].toNat_lt
      have e : (256 : Nat) ^ (i + 1) = 256 ^ i * 256 := Nat.pow_succ ..
      omega
    · rw [List.take_of_length_le (by omega)]
      rw [List.take_of_length_le (by omega)] at ih
      have e : (256 : Nat) ^ (i + 1) = 256 ^ i * 256 := Nat.pow_succ ..
      omega
theorem pow256_3 (i : Nat) (h : i ≤ 3) : (256 : Nat) ^ i ≤ 16777216 := by
  have : i = 0 ∨ i = 1 ∨ i = 2 ∨ i = 3 := by omega
  rcases this with rfl | rfl | rfl | rfl <;> decide
theorem size_rd {l : List UInt8} {p en : Nat} {from_ : Int} {br : Nat} {ab : Option Addr} {cb : Nat} {h : Part} (hl : SlR u8R 1 h ab cb l) (he : en ≤ l.length) :
    Fn Tryz.prog 142 [.pointer (some ⟨br, 0, none⟩), .int .i64 from_, .int .i64 en] h [.blk br 127 [.slice ab l.length cb, .int .i64 p]] (SizeR (rdS l p en) from_ br (.slice ab l.length cb)) := by
  have hb := hl.big
  have hen := he
  refine Fn.intro Tryz.func142 rfl Tryz.ntmps142 rfl (fun e he => ?_)
  refine J.weak [(0, _), (1, _), (2, _)] ⟨rfl, rfl, rfl, trivial⟩ ?_
  have hh0 := Part.le.refl h
  refine Sr ?_
  refine JL.box rfl rfl rfl (fun b1 => ?_)
  refine Ru 1 rfl ?_
  refine JL.nil ?_
  refine Sr ?_
  refine JL.op (RunV.makeFunc (os1 := []) (os2 := [.tmp 4]) rfl rfl) rfl ?_
  refine Ru 1 rfl ?_
  refine JL.nil ?_
  refine Sr ?_
  refine Ru 4 rfl ?_
  refine JL.op (RunV.own1 ag_3 rfl mm_ rfl) rfl ?_
  refine Ru 2 rfl ?_
  refine JL.fail ca_164 rfl rfl (sfail_fn) dl_ rfl (fun hc2 h2 hle2 => ?_) (fun hc2 h2 hle2 => ?_)
  ·
   try simp only [decide_eq_true_eq, decide_eq_false_iff_not, Bool.not_eq_eq_eq_not, Bool.not_true, Bool.not_false, ne_eq, Decidable.not_not] at hc2
   exact ⟨[], _, .nil, by unfold rdS; rw [if_pos (by omega)]; exact ⟨rfl, rfl⟩⟩
  try simp only [decide_eq_true_eq, decide_eq_false_iff_not, Bool.not_eq_eq_eq_not, Bool.not_true, Bool.not_false, ne_eq, Decidable.not_not] at hc2
  replace hl := hl.mono hle2
  replace hh0 := hh0.mono hle2
  refine Nk [7, 6, 0, 2] rfl ?_
  refine J.seq ?_
  refine J.drawn mixed_ (by kernel_rfl) ?_
  refine Rq 3 rfl ?_
  refine JQ.op (RunV.own1 ag_22 rfl mm_ rfl) rfl ?_
  refine Rq 3 rfl ?_
  refine JQ.op (RunV.own1 ag_3 rfl mm_ rfl) rfl ?_
  refine JQ.ope (RunE.index sl_22 rfl rfl z9_ (by assumption) rfl (by omega)) rfl ?_
  rintro _ ⟨b3, o3, hi3, rfl, hE3⟩
  refine JQ.op (RunV.ld_u8 ag_5 rfl (by assumption)) rfl ?_
  refine JQ.op z10_ rfl ?_
  refine Rq 1 rfl ?_
  refine Nq [8, 7, 6, 0, 2] rfl ?_
  refine Sr ?_
  have hpl : p < l.length := (by omega); have hbt := byteAt_eq l p hpl; have hlt := byteAt_lt l p
  refine Ru 3 rfl ?_
  refine JL.op (RunV.own1 ag_3 rfl mm_ rfl) rfl ?_
  refine JL.op ai_ rfl ?_
  refine Ru 2 rfl ?_
  refine JL.store1 ag_3 rfl rfl rfl dl_ z32_ ?_
  refine Nk [8, 7, 6, 0, 2] rfl ?_
  refine J.seq ?_
  refine Sr ?_
  refine Ru 2 rfl ?_
  refine JL.nil ?_
  refine Cs rfl (fun hc5 => ?_) fun hc5 => ?_
  ·
   refine Sr ?_
   refine Ru 2 rfl ?_
   refine Nk [6, 8, 7, 0, 2] rfl ?_
   exact J.ret ⟨_, [_], _, (RetV.one rfl rfl), .cons .here .nil, by unfold rdS; rw [if_neg (by omega), if_pos (by omega)]; exact ⟨by rw [hbt], by simp⟩⟩
  refine J.skip ?_
  refine Sr ?_
  refine Ru 1 rfl ?_
  refine JL.op si_ rfl ?_
  refine Ru 1 rfl ?_
  refine Nk [9, 8, 7, 6, 0, 2] rfl ?_
  refine Sr ?_
  refine Ru 4 rfl ?_
  refine Bs 47 rfl (fun hc6 => ?_) fun hc6 => ?_
  ·
   refine Ru 3 rfl ?_
   refine JL.fail ca_164 rfl rfl (sfail_fn) dl_ rfl (fun hc7 h7 hle7 => ?_) (fun hc7 h7 hle7 => ?_)
   ·
    try simp only [decide_eq_true_eq, decide_eq_false_iff_not, Bool.not_eq_eq_eq_not, Bool.not_true, Bool.not_false, ne_eq, Decidable.not_not] at hc7
    exact ⟨[], _, .nil, by unfold rdS; rw [if_neg (by omega), if_neg (by omega), if_pos (by omega)]; exact ⟨rfl, rfl⟩⟩
   try simp only [decide_eq_true_eq, decide_eq_false_iff_not, Bool.not_eq_eq_eq_not, Bool.not_true, Bool.not_false, ne_eq, Decidable.not_not] at hc7
   replace hl := hl.mono hle7
   replace hh0 := hh0.mono hle7
   refine Nk [9, 8, 7, 6, 0, 2] rfl ?_
   refine Sr ?_
   refine Ru 6 rfl ?_
   refine JL.op (RunV.own1 ag_3 rfl mm_ rfl) rfl ?_
   refine JL.op si_ rfl ?_
   refine Ru 1 rfl ?_
   refine JL.fail ca_164 rfl rfl (sfail_fn) dl_ rfl (fun hc8 h8 hle8 => ?_) (fun hc8 h8 hle8 => ?_)
   ·
    try simp only [decide_eq_true_eq, decide_eq_false_iff_not, Bool.not_eq_eq_eq_not, Bool.not_true, Bool.not_false, ne_eq, Decidable.not_not] at hc8
    exact ⟨[], _, .nil, by unfold rdS; rw [if_neg (by omega), if_neg (by omega), if_neg (by omega), if_pos (by omega)]; exact ⟨rfl, rfl⟩⟩
   try simp only [decide_eq_true_eq, decide_eq_false_iff_not, Bool.not_eq_eq_eq_not, Bool.not_true, Bool.not_false, ne_eq, Decidable.not_not] at hc8
   replace hl := hl.mono hle8
   replace hh0 := hh0.mono hle8
   refine Nk [9, 8, 7, 6, 0] rfl ?_
   refine Sr ?_
   obtain ⟨kk, hkk⟩ : ∃ kk : Nat, byteAt l p = 128 + kk := ⟨byteAt l p - 128, by omega⟩
   refine Ru 1 rfl ?_
   refine JL.nil ?_
   refine J.seq ?_
   refine J.seq ?_
   refine J.drawn mixed_ (by kernel_rfl) ?_
   refine Rq 3 rfl ?_
   refine JQ.op (RunV.own1 ag_22 rfl mm_ rfl) rfl ?_
   refine Rq 3 rfl ?_
   refine JQ.op (RunV.own1 ag_3 rfl mm_ rfl) rfl ?_
   refine Rq 3 rfl ?_
   refine JQ.op (RunV.own1 ag_3 rfl mm_ rfl) rfl ?_
   refine Rq 1 rfl ?_
   refine JQ.op ai_ rfl ?_
   refine JQ.ope (RunE.cut_lh (m := p + 1) (m' := p + 1 + kk) sl_22 rfl rfl rfl (by omega) (by omega) (by assumption) rfl (by omega) (by omega)) rfl ?_
   rintro _ ⟨as_, cs_, rfl, hSs⟩
   rw [show p + 1 + kk - (p + 1) = kk by omega] at *; obtain ⟨sub, hsub⟩ : ∃ sub, sub = (l.drop (p + 1)).take kk := ⟨_, rfl⟩; rw [← hsub] at hSs ⊢; have hsl : sub.length = kk := (by rw [hsub]; simp; omega)
   refine Rq 2 rfl ?_
   refine Nq [78, 77, 76, 8, 9, 7, 6, 0] rfl ?_
   refine J.block ?_
   refine J.loop (fun t_ S_ h_ L_ => ∃ (g : Part) (i : Nat), t_ = kk - i ∧ S_ = [(0, .pointer (some ⟨br, 0, none⟩)), (7, .func (.func 164) #[] #[.pointer (some ⟨b1, 0, none⟩)]), (8, .int .i64 (beval (sub.take i))), (9, .int .i64 ((l[p].toNat : Int) - 128)), (76, .slice as_ sub.length cs_), (77, .int .i64 sub.length), (78, .int .i64 i)] ∧ g = h_ ∧ L_ = [.blk b1 3 [.int .i64 from_], .blk br 127 [.slice ab l.length cb, .int .i64 (p + 1)]] ∧ (h.le g ∧ SlR u8R 1 g as_ cs_ sub ∧ i ≤ kk)) ⟨_, _, ?_, ⟨_, 0, rfl, rfl, rfl, rfl, ⟨by assumption, by assumption, by omega⟩⟩⟩ ?_
   ·
    repeat (first | exact trivial | refine ⟨rfl, ?_⟩ | refine ⟨(by exact some_int (by first | rfl | omega)), ?_⟩)
   rintro _ _ _ _ ⟨g, i, rfl, rfl, rfl, rfl, hhg, hSs, hi⟩
   have hbl := beval_lt sub i
   refine Sr ?_
   refine Ru 1 rfl ?_
   refine JL.nil ?_
   refine J.seq ?_
   refine Cs rfl (fun hc10 => ?_) fun hc10 => ?_
   ·
    have h256 := pow256_3 i (by omega); have hst := beval_step sub i (by omega); have hsb := (sub[i]'(by omega)).toNat_lt
    refine J.skip ?_
    refine J.seq ?_
    refine J.block ?_
    refine Sr ?_
    refine JL.ope (RunE.index sl_22 rfl rfl z9_ (by assumption) rfl (by omega)) rfl ?_
    rintro _ ⟨b11, o11, hi11, rfl, hE11⟩
    refine JL.op (RunV.ld_u8 ag_5 rfl (by assumption)) rfl ?_
    refine Ru 1 rfl ?_
    refine JL.nil ?_
    refine Rg ?_
    refine Ru 1 rfl ?_
    refine JL.op (by first | exact RunV.shl_i64 256 rfl rfl (by decide) (by decide) (by decide) (by omega) (by omega) | exact RunV.shl rfl rfl (by decide) (by decide)) rfl ?_
    refine Ru 1 rfl ?_
    refine JL.op z10_ rfl ?_
    refine JL.op (RunV.join_i64 8 256 rfl rfl (by decide) (by omega) (by omega) (by omega) (by omega) (by omega) (by omega)) rfl ?_
    refine Ru 1 rfl ?_
    refine JL.nil ?_
    refine Rg ?_
    refine JL.op ai_ rfl ?_
    refine Ru 1 rfl ?_
    refine JL.nil ?_
    refine ⟨_, ?_, _, ?_, ⟨_, i + 1, rfl, rfl, rfl, rfl, ⟨by assumption, by assumption, by omega⟩⟩⟩
    ·
     omega
    repeat (first | exact trivial | refine ⟨rfl, ?_⟩ | refine ⟨(by exact some_int (by first | rfl | omega)), ?_⟩)
   refine J.exit ?_
   refine Kp [0, 7, 8, 9] rfl ?_
   refine Sr ?_
   have hv : beval ((l.drop (p + 1)).take (byteAt l p - 128)) = beval (sub.take i) := (by rw [hkk, show 128 + kk - 128 = kk by omega, ← hsub, List.take_of_length_le (by omega)]); have hsh := shr_cast (beval (sub.take i)) (byteAt l p - 128 - 1) (8 * ((l[p].toNat : Int) - 128 - 1)) (by omega)
   refine Ru 4 rfl ?_
   refine Bs 91 rfl (fun hc13 => ?_) fun hc13 => ?_
   ·
    refine Ru 2 rfl ?_
    refine JL.opg rfl rfl  si_ rfl ?_
    refine JL.opg rfl rfl  z16_ rfl ?_
    refine JL.opg rfl rfl  (RunV.shr rfl rfl (by omega) (by show _ ≤ ((64 : Nat) : Int); omega)) rfl ?_
    rw [hsh]
    refine Ru 2 rfl ?_
    refine JL.fail ca_164 rfl rfl (sfail_fn) dl_ rfl (fun hc14 h14 hle14 => ?_) (fun hc14 h14 hle14 => ?_)
    ·
     try simp only [decide_eq_true_eq, decide_eq_false_iff_not, Bool.not_eq_eq_eq_not, Bool.not_true, Bool.not_false, ne_eq, Decidable.not_not] at hc14
     exact ⟨[], _, .nil, by unfold rdS; rw [if_neg (by omega), if_neg (by omega), if_neg (by omega), if_neg (by omega), if_pos (by rw [hv]; omega)]; exact ⟨rfl, rfl⟩⟩
    try simp only [decide_eq_true_eq, decide_eq_false_iff_not, Bool.not_eq_eq_eq_not, Bool.not_true, Bool.not_false, ne_eq, Decidable.not_not] at hc14
    replace hhg := hhg.mono hle14
    replace hSs := hSs.mono hle14
    refine Nk [0, 8, 9] rfl ?_
    refine Sr ?_
    refine Ru 3 rfl ?_
    refine JL.op (RunV.own1 ag_3 rfl mm_ rfl) rfl ?_
    refine Ru 1 rfl ?_
    refine JL.op ai_ rfl ?_
    refine Ru 2 rfl ?_
    refine JL.store1 ag_3 rfl rfl rfl dl_ z32_ ?_
    refine Nk [8] rfl ?_
    refine Sr ?_
    refine Ru 2 rfl ?_
    refine JL.nil ?_
    exact J.ret ⟨_, [_], _, (RetV.one rfl rfl), .cons dl_ .nil, by unfold rdS; rw [if_neg (by omega), if_neg (by omega), if_neg (by omega), if_neg (by omega), if_neg (by rw [hv]; omega)]; exact ⟨by rw [hv], by simp; omega⟩⟩
   refine Ru 7 rfl ?_
   refine JL.fail ca_164 rfl rfl (sfail_fn) dl_ rfl (fun hc15 h15 hle15 => ?_) (fun hc15 => by cases hc15)
   exact ⟨[], _, .nil, by unfold rdS; rw [if_neg (by omega), if_neg (by omega), if_neg (by omega), if_neg (by omega), if_pos (by rw [hv]; omega)]; exact ⟨rfl, rfl⟩⟩
  refine Ru 3 rfl ?_
  refine JL.fail ca_164 rfl rfl (sfail_fn) dl_ rfl (fun hc16 h16 hle16 => ?_) (fun hc16 => by cases hc16)
  exact ⟨[], _, .nil, by unfold rdS; rw [if_neg (by omega), if_neg (by omega), if_pos (by omega)]; exact ⟨rfl, rfl⟩⟩
theorem SizeR.out {s : Except Int (Nat × Nat)} {fr : Int} {br : Nat} {b : Value} {h : Part} {Lo : List Ent} (k : SizeR s fr br b .outgrown h Lo) : False := by
  unfold SizeR at k; split at k <;> cases k.1
theorem SizeR.pan {s : Except Int (Nat × Nat)} {fr : Int} {br : Nat} {b : Value} {h : Part} {Lo : List Ent} {ch : List PanicEntry} (k : SizeR s fr br b (.panicked ch) h Lo) : ∃ c, s = .error c ∧ ch = [{ v := gvn fr c, recovered := false }] := by
  unfold SizeR at k
  split at k
  · cases k.1
  · rename_i c; have := k.1; injection this with e; exact ⟨c, rfl, e⟩
theorem SizeR.ret {s : Except Int (Nat × Nat)} {fr : Int} {br : Nat} {b v : Value} {h : Part} {Lo : List Ent} (k : SizeR s fr br b (.returned v) h Lo) : ∃ n q : Nat, s = .ok (n, q) ∧ v = .int .i64 n ∧ Lo = [.blk br 127 [b, .int .i64 q]] := by
  unfold SizeR at k
  split at k
  · rename_i n q; have := k.1; injection this with e; exact ⟨n, q, rfl, e, k.2⟩
  · cases k.1
theorem rdS_le {l : List UInt8} {p en n q : Nat} (h : rdS l p en = .ok (n, q)) : p < q ∧ q ≤ en := by
  unfold rdS at h
  split at h
  · cases h
  · split at h
    · cases h; omega
    · split at h
      · cases h
      · split at h
        · cases h
        · split at h
          · cases h
          · injection h with h; injection h with h1 h2; omega
end Go.Proofs.YtmngjbefnloljaaGreatDoor
namespace Go.Proofs.YtmngjbefnloljaaGreatDoor
open Go Go.RowKit
theorem z13_ {p : Prop} (u : p := by repeat (first | exact trivial | refine ⟨rfl, ?_⟩ | refine ⟨(by exact some_bool (by unfold cutL; cases r <;> first | rfl | (rw [decide_eq_true (show acc.length = 0 by omega)]; rfl) | (rw [decide_eq_false (show ¬ acc.length = 0 by omega)]; rfl) | (exfalso; simp_all; done))), ?_⟩)) : p := u
end Go.Proofs.YtmngjbefnloljaaGreatDoor
namespace Go.Proofs.YtmngjbefnloljaaGreatDoor
open Go Go.RowKit
theorem ca_108 : callT Tryz.prog 108 = true := by kernel_rfl
theorem ca_141 : callT Tryz.prog 141 = true := by kernel_rfl
theorem ca_142 : callT Tryz.prog 142 = true := by kernel_rfl
theorem fo_127_0 : fieldOff Tryz.prog 127 0 = some 0 := by kernel_rfl
theorem fo_127_1 : fieldOff Tryz.prog 127 1 = some 1 := by kernel_rfl
theorem fo_75_3 : fieldOff Tryz.prog 75 3 = some 3 := by kernel_rfl
theorem fo_75_4 : fieldOff Tryz.prog 75 4 = some 4 := by kernel_rfl
theorem zr_3 : zeroT Tryz.prog 3 = some [.int .i64 0] := by kernel_rfl
abbrev RdE (α : Type) := Except (Int × Int) α
def rdH (l : List UInt8) (p en : Nat) (ok : Bool) : RdE (Nat × Nat × Bool × Nat × Nat) :=
  if ¬ p < en then .error (p, 30)
  else if mayB (byteAt l p / 64 : Nat) (byteAt l p % 32 : Nat) (decide (byteAt l p / 32 % 2 = 1)) = false then .error (p, 31)
  else match rdS l (p + 1) en with
    | .error c => .error (p, c)
    | .ok (n, q) => if ¬ n ≤ en - q then .error (p, 30) else if ok = false then .error (p, 33) else .ok (byteAt l p / 64, byteAt l p % 32, decide (byteAt l p / 32 % 2 = 1), n, q)
def cutL (l : List UInt8) (i j : Nat) : List UInt8 := (l.drop i).take (j - i)
def rdK (rd : Nat → Nat → RdE (Nd × Nat)) (l : List UInt8) (stop : Nat) : Nat → Nat → List Nd → Bool → Nat → RdE (List Nd × Bool × Nat)
  | 0, p, acc, r, _ => .ok (acc, r, p)
  | f + 1, p, acc, r, last => if ¬ p < stop then .ok (acc, r, p) else match rd p stop with
    | .error e => .error e
    | .ok (x, p') => rdK rd l stop f p' (acc ++ [x]) (r && (decide (acc.length = 0) || decide (Go.Lib.compareBytes (cutL l last p) (cutL l p p') ≤ 0))) p
def rdN : Nat → List UInt8 → Nat → Nat → RdE (Nd × Nat)
  | 0, l, p, en => match rdH l p en false with
    | .error e => .error e
    | .ok _ => .error (p, 33)
  | d + 1, l, p, en => match rdH l p en true with
    | .error e => .error e
    | .ok (c, t, k, n, q) =>
      if k = false then (if decide (c = 2) || valB t (cutL l q (q + n)) then .ok (.mk c t false (cutL l q (q + n)) [], q + n) else .error (p, 34))
      else match rdK (rdN d l) l (q + n) n q [] true q with
        | .error e => .error e
        | .ok (ks, r, p') => if r || (decide (c ≠ 0) || decide (t ≠ 17)) then .ok (.mk c t true [] ks, p') else .error (p, 34)
theorem rdH_le {l : List UInt8} {p en : Nat} {ok : Bool} {c t n q : Nat} {k : Bool} (h : rdH l p en ok = .ok (c, t, k, n, q)) : p + 1 < q ∧ q + n ≤ en ∧ c ≤ 3 ∧ t ≤ 31 := by
  unfold rdH at h
  split at h
  · cases h
  · split at h
    · cases h
    · split at h
      · cases h
      · rename_i n' q' hs
        have := rdS_le hs
        have := byteAt_lt l p
        split at h
        · cases h
        · split at h
          · cases h
          · injection h with h; injection h with h1 h2; injection h2 with h2 h3; injection h3 with h3 h4; injection h4 with h4 h5; omega
theorem rdK_le {rd : Nat → Nat → RdE (Nd × Nat)} {l : List UInt8} {stop : Nat} (hrd : ∀ p x p', rd p stop = .ok (x, p') → p < p' ∧ p' ≤ stop) : ∀ (f p : Nat) (acc : List Nd) (r : Bool) (last : Nat) (ks : List Nd) (r' : Bool) (p' : Nat), p ≤ stop → stop ≤ p + f → rdK rd l stop f p acc r last = .ok (ks, r', p') → p' = stop
  | 0, p, acc, r, last, ks, r', p', h1, h2, h => by simp only [rdK] at h; injection h with h; injection h with h3 h4; injection h4 with h4 h5; omega
  | f + 1, p, acc, r, last, ks, r', p', h1, h2, h => by
    simp only [rdK] at h
    split at h
    · injection h with h; injection h with h3 h4; injection h4 with h4 h5; omega
    · split at h
      · cases h
      · rename_i x q hq
        have := hrd p x q hq
        exact rdK_le hrd f q _ _ _ ks r' p' this.2 (by omega) h
theorem rdN_le : ∀ (d : Nat) (l : List UInt8) (p en : Nat) (x : Nd) (p' : Nat), rdN d l p en = .ok (x, p') → p < p' ∧ p' ≤ en
  | 0, l, p, en, x, p', h => by simp only [rdN] at h; split at h <;> cases h
  | d + 1, l, p, en, x, p', h => by
    simp only [rdN] at h
    split at h
    · cases h
    · rename_i c t k n q hh
      have h0 := rdH_le hh
      split at h
      · split at h
        · injection h with h; injection h with h1 h2; omega
        · cases h
      · split at h
        · cases h
        · rename_i ks r p1 hk
          have := rdK_le (fun p x p' => rdN_le d l p (q + n) x p') n q _ _ _ _ _ _ (by omega) (by omega) hk
          split at h
          · injection h with h; injection h with h1 h2; omega
          · cases h
def NodeR (s : RdE (Nd × Nat)) (br : Nat) (b : Value) : Ending → Part → List Ent → Prop := fun e h' Lo =>
  match s with
  | .ok (x, q) => (∃ cs, e = .returned (.agg (List.toArray cs)) ∧ NdR h' cs x) ∧ Lo = [.blk br 127 [b, .int .i64 q]]
  | .error (a, c) => e = .panicked [{ v := gvn a c, recovered := false }] ∧ Lo = []
theorem NodeR.out {s : RdE (Nd × Nat)} {br : Nat} {b : Value} {h : Part} {Lo : List Ent} (k : NodeR s br b .outgrown h Lo) : False := by
  unfold NodeR at k
  split at k
  · obtain ⟨⟨_, hh, _⟩, _⟩ := k; cases hh
  · cases k.1
theorem NodeR.pan {s : RdE (Nd × Nat)} {br : Nat} {b : Value} {h : Part} {Lo : List Ent} {ch : List PanicEntry} (k : NodeR s br b (.panicked ch) h Lo) : ∃ a c, s = .error (a, c) ∧ ch = [{ v := gvn a c, recovered := false }] := by
  unfold NodeR at k
  split at k
  · obtain ⟨⟨_, hh, _⟩, _⟩ := k; cases hh
  · rename_i a c; have := k.1; injection this with e; exact ⟨a, c, rfl, e⟩
theorem NodeR.ret {s : RdE (Nd × Nat)} {br : Nat} {b v : Value} {h : Part} {Lo : List Ent} (k : NodeR s br b (.returned v) h Lo) : ∃ (x : Nd) (q : Nat) (cs : List Value), s = .ok (x, q) ∧ v = .agg cs.toArray ∧ NdR h cs x ∧ Lo = [.blk br 127 [b, .int .i64 q]] := by
  unfold NodeR at k
  split at k
  · rename_i x q; obtain ⟨⟨cs, hh, hn⟩, hL⟩ := k; injection hh with e; exact ⟨x, q, cs, rfl, e, hn, hL⟩
  · cases k.1
theorem rdN_err {d : Nat} {l : List UInt8} {p en : Nat} {e : Int × Int} (h : rdH l p en true = .error e) : rdN (d + 1) l p en = .error e := by simp only [rdN]; rw [h]
theorem rdN_err0 {l : List UInt8} {p en : Nat} {e : Int × Int} (h : rdH l p en false = .error e) : rdN 0 l p en = .error e := by simp only [rdN]; rw [h]
theorem rdN_prim {d : Nat} {l : List UInt8} {p en c t n q : Nat} (h : rdH l p en true = .ok (c, t, false, n, q)) : rdN (d + 1) l p en = if decide (c = 2) || valB t (cutL l q (q + n)) then .ok (.mk c t false (cutL l q (q + n)) [], q + n) else .error (p, 34) := by simp only [rdN]; rw [h]; rfl
theorem rdN_cons {d : Nat} {l : List UInt8} {p en c t n q : Nat} (h : rdH l p en true = .ok (c, t, true, n, q)) : rdN (d + 1) l p en = match rdK (rdN d l) l (q + n) n q [] true q with
    | .error e => .error e
    | .ok (ks, r, p') => if r || (decide (c ≠ 0) || decide (t ≠ 17)) then .ok (.mk c t true [] ks, p') else .error (p, 34) := by simp only [rdN]; rw [h]; rfl
theorem rdK_stop {rd : Nat → Nat → RdE (Nd × Nat)} {l : List UInt8} {stop f p last : Nat} {acc : List Nd} {r : Bool} (h : ¬ p < stop) : rdK rd l stop f p acc r last = .ok (acc, r, p) := by
  cases f with
  | zero => rfl
  | succ f => simp only [rdK]; rw [if_pos h]
theorem rdK_err {rd : Nat → Nat → RdE (Nd × Nat)} {l : List UInt8} {stop f p last : Nat} {acc : List Nd} {r : Bool} {e : Int × Int} (h : p < stop) (he : rd p stop = .error e) : rdK rd l stop (f + 1) p acc r last = .error e := by
  simp only [rdK]; rw [if_neg (by omega), he]
theorem rdK_ok {rd : Nat → Nat → RdE (Nd × Nat)} {l : List UInt8} {stop f p last p' : Nat} {acc : List Nd} {r : Bool} {x : Nd} (h : p < stop) (he : rd p stop = .ok (x, p')) : rdK rd l stop (f + 1) p acc r last = rdK rd l stop f p' (acc ++ [x]) (r && (decide (acc.length = 0) || decide (Go.Lib.compareBytes (cutL l last p) (cutL l p p') ≤ 0))) p := by
  rw [rdK, if_neg (by omega), he]
theorem node_rd : ∀ (d : Nat) (l : List UInt8) (p en : Nat) (br : Nat) (ab : Option Addr) (cb : Nat) (h : Part), SlR u8R 1 h ab cb l → Tabs h → l.length ≤ 16777216 → en ≤ l.length → d ≤ 32 →
    Fn Tryz.prog 108 [.pointer (some ⟨br, 0, none⟩), .int .i64 en, .int .i64 ((33 : Int) - d)] h [.blk br 127 [.slice ab l.length cb, .int .i64 p]] (NodeR (rdN d l p en) br (.slice ab l.length cb)) := by
  intro d
  induction d with
  | zero =>
    intro l p en br ab cb h hl hT hll hen hd
    refine Fn.intro Tryz.func108 rfl Tryz.ntmps108 rfl (fun e he => ?_)
    refine J.weak [(0, _), (1, _), (2, _)] ⟨rfl, rfl, rfl, trivial⟩ ?_
    have hh0 := Part.le.refl h
    refine Sr ?_
    refine JL.alloc zr_75 rfl (fun b1 => ?_)
    refine JL.nil ?_
    refine Sr ?_
    refine Ru 3 rfl ?_
    refine JL.op (RunV.own1 ag_3 rfl mm_ rfl) rfl ?_
    refine JL.alloc zr_3 rfl (fun b2 => ?_)
    refine JL.store1 ag_3 rfl rfl rfl dl_ z32_ ?_
    refine JL.nil ?_
    refine Sr ?_
    refine JL.op (RunV.makeFunc (os1 := []) (os2 := [.tmp 7]) rfl rfl) rfl ?_
    refine Ru 1 rfl ?_
    refine Nk [8, 7, 6, 0, 1, 2] rfl ?_
    refine Sr ?_
    refine Ru 4 rfl ?_
    refine JL.op (RunV.own1 ag_3 rfl mm_ rfl) rfl ?_
    refine Ru 2 rfl ?_
    refine JL.fail ca_141 rfl rfl (nfail_fn) dl_ rfl (fun hc3 h3 hle3 => ?_) (fun hc3 h3 hle3 => ?_)
    ·
     try simp only [decide_eq_true_eq, decide_eq_false_iff_not, Bool.not_eq_eq_eq_not, Bool.not_true, Bool.not_false, ne_eq, Decidable.not_not] at hc3
     have hE : rdH l p en false = .error (p, 30) := (by unfold rdH; rw [if_pos (by omega)]); exact ⟨[], _, .nil, by rw [rdN_err0 hE]; exact ⟨rfl, rfl⟩⟩
    try simp only [decide_eq_true_eq, decide_eq_false_iff_not, Bool.not_eq_eq_eq_not, Bool.not_true, Bool.not_false, ne_eq, Decidable.not_not] at hc3
    replace hl := hl.mono hle3
    replace hT := hT.mono hle3
    replace hh0 := hh0.mono hle3
    refine Nk [8, 7, 6, 0, 1, 2] rfl ?_
    refine J.seq ?_
    refine J.drawn mixed_ (by kernel_rfl) ?_
    refine Rq 3 rfl ?_
    refine JQ.op (RunV.own1 ag_22 rfl mm_ rfl) rfl ?_
    refine Rq 3 rfl ?_
    refine JQ.op (RunV.own1 ag_3 rfl mm_ rfl) rfl ?_
    refine JQ.ope (RunE.index sl_22 rfl rfl z9_ (by assumption) rfl (by omega)) rfl ?_
    rintro _ ⟨b4, o4, hi4, rfl, hE4⟩
    refine JQ.op (RunV.ld_u8 ag_5 rfl (by assumption)) rfl ?_
    refine Rq 1 rfl ?_
    refine Nq [9, 8, 7, 6, 0, 1, 2] rfl ?_
    refine Sr ?_
    have hpl : p < l.length := (by omega); have hbt := byteAt_eq l p hpl; have hlt := byteAt_lt l p
    refine Ru 3 rfl ?_
    refine JL.op (RunV.own1 ag_3 rfl mm_ rfl) rfl ?_
    refine JL.op ai_ rfl ?_
    refine Ru 2 rfl ?_
    refine JL.store1 ag_3 rfl rfl rfl dl_ z32_ ?_
    refine Nk [9, 8, 7, 6, 0, 1, 2] rfl ?_
    refine Sr ?_
    refine Ru 1 rfl ?_
    refine JL.op (RunV.shr_u8 64 rfl rfl (by decide) (by decide) (by decide)) rfl ?_
    refine JL.op z10_ rfl ?_
    rw [show ((l[p].toNat : Int) / 64) = ((byteAt l p / 64 : Nat) : Int) by rw [hbt]; simp]
    refine Ru 1 rfl ?_
    refine JL.op (by first | exact RunV.maskb_u8 5 32 rfl rfl (by decide) (by decide) (by decide) | exact RunV.mask_u8 5 32 rfl rfl (by decide) (by decide) (by decide) (by omega) (by omega) | exact RunV.and_ rfl rfl) rfl ?_
    refine JL.op z10_ rfl ?_
    rw [show ((l[p].toNat : Int) % 32) = ((byteAt l p % 32 : Nat) : Int) by rw [hbt]; simp]
    refine Ru 1 rfl ?_
    refine JL.op (RunV.and32 rfl (by omega) (by omega)) rfl ?_
    refine Ru 1 rfl ?_
    rw [show decide ((0 : Int) < 32 * ((l[p].toNat : Int) / 32 % 2)) = decide (byteAt l p / 32 % 2 = 1) from decide_eq_decide.2 (by omega)]; obtain ⟨c, hcd⟩ : ∃ c, byteAt l p / 64 = c := ⟨_, rfl⟩; obtain ⟨t, htd⟩ : ∃ t, byteAt l p % 32 = t := ⟨_, rfl⟩; obtain ⟨k, hkd⟩ : ∃ k, decide (byteAt l p / 32 % 2 = 1) = k := ⟨_, rfl⟩; rw [hcd, htd, hkd]
    refine JL.op (RunV.build (cs := [_, _, _, .slice none 0 0, .slice none 0 0]) pl_75 rfl rfl) rfl ?_
    refine JL.alloc zr_75 rfl (fun b6 => ?_)
    refine JL.storeA ag_75 rfl rfl dl_ z22_ z17_ z6_ ?_
    refine Nk [10, 8, 7, 6, 0, 1, 2] rfl ?_
    refine Sr ?_
    refine Ru 1 rfl ?_
    refine JL.op (RunV.ownA ag_75 rfl mm_ z6_) rfl ?_
    refine JL.callP ca_130 rfl (pmay_fn (x := .mk c t k [] []) (NdR.of SlR.nil_ SlR.nil_)) rfl ?_
    refine JL.fail ca_141 rfl rfl (nfail_fn) dl_ rfl (fun hc8 h8 hle8 => ?_) (fun hc8 h8 hle8 => ?_)
    ·
     try simp only [decide_eq_true_eq, decide_eq_false_iff_not, Bool.not_eq_eq_eq_not, Bool.not_true, Bool.not_false, ne_eq, Decidable.not_not] at hc8
     have hE : rdH l p en false = .error (p, 31) := (by unfold rdH; rw [if_neg (by omega), hcd, htd, hkd, if_pos (by exact hc8)]); exact ⟨[], _, .nil, by rw [rdN_err0 hE]; exact ⟨rfl, rfl⟩⟩
    try simp only [decide_eq_true_eq, decide_eq_false_iff_not, Bool.not_eq_eq_eq_not, Bool.not_true, Bool.not_false, ne_eq, Decidable.not_not] at hc8
    replace hl := hl.mono hle8
    replace hT := hT.mono hle8
    replace hh0 := hh0.mono hle8
    have hmay : mayB c t k = true := hc8
    refine JL.nil ?_
    refine Sr ?_
    refine Ru 1 rfl ?_
    refine JL.op (RunV.own1 ag_3 rfl mm_ rfl) rfl ?_
    refine Ru 1 rfl ?_
    refine JL.call_ ca_142 rfl (size_rd (by assumption) (by omega)) pt_ rfl (fun _ _ hh => (SizeR.out hh).elim) (fun ch9 h9 Lo9 hle9 hR9 => ?_) (fun v9 h9 Lo9 hle9 hR9 => ?_)
    ·
     have hR9 := SizeR.pan hR9
     obtain ⟨zc, hzc, rfl⟩ := hR9; have hE : rdH l p en false = .error (p, zc) := (by unfold rdH; rw [if_neg (by omega), hcd, htd, hkd, if_neg (by rw [hmay]; decide), hzc]); exact ⟨[], _, .nil, by rw [rdN_err0 hE]; exact ⟨rfl, rfl⟩⟩
    obtain ⟨zn, zq, hzs, rfl, rfl⟩ := SizeR.ret hR9
    replace hl := hl.mono hle9
    replace hT := hT.mono hle9
    replace hh0 := hh0.mono hle9
    have hzq := rdS_le hzs
    refine Ru 1 rfl ?_
    refine Nk [11, 10, 8, 6, 0, 1, 2] rfl ?_
    refine Sr ?_
    refine Ru 6 rfl ?_
    refine JL.op (RunV.own1 ag_3 rfl mm_ rfl) rfl ?_
    refine JL.op si_ rfl ?_
    refine Ru 1 rfl ?_
    refine JL.fail ca_141 rfl rfl (nfail_fn) dl_ rfl (fun hc10 h10 hle10 => ?_) (fun hc10 h10 hle10 => ?_)
    ·
     try simp only [decide_eq_true_eq, decide_eq_false_iff_not, Bool.not_eq_eq_eq_not, Bool.not_true, Bool.not_false, ne_eq, Decidable.not_not] at hc10
     have hE : rdH l p en false = .error (p, 30) := (by unfold rdH; rw [if_neg (by omega), hcd, htd, hkd, if_neg (by rw [hmay]; decide), hzs]; simp only; rw [if_pos (by omega)]); exact ⟨[], _, .nil, by rw [rdN_err0 hE]; exact ⟨rfl, rfl⟩⟩
    try simp only [decide_eq_true_eq, decide_eq_false_iff_not, Bool.not_eq_eq_eq_not, Bool.not_true, Bool.not_false, ne_eq, Decidable.not_not] at hc10
    replace hl := hl.mono hle10
    replace hT := hT.mono hle10
    replace hh0 := hh0.mono hle10
    refine Nk [11, 10, 8, 6, 0, 2] rfl ?_
    refine Sr ?_
    refine Ru 3 rfl ?_
    refine JL.fail ca_141 rfl rfl (nfail_fn) dl_ rfl (fun hc11 h11 hle11 => ?_) (fun hc11 h11 hle11 => ?_)
    ·
     try simp only [decide_eq_true_eq, decide_eq_false_iff_not, Bool.not_eq_eq_eq_not, Bool.not_true, Bool.not_false, ne_eq, Decidable.not_not] at hc11
     have hE : rdH l p en false = .error (p, 33) := (by unfold rdH; rw [if_neg (by omega), hcd, htd, hkd, if_neg (by rw [hmay]; decide), hzs]; simp only; rw [if_neg (by omega)]; rfl); exact ⟨[], _, .nil, by rw [rdN_err0 hE]; exact ⟨rfl, rfl⟩⟩
    try simp only [decide_eq_true_eq, decide_eq_false_iff_not, Bool.not_eq_eq_eq_not, Bool.not_true, Bool.not_false, ne_eq, Decidable.not_not] at hc11
    replace hl := hl.mono hle11
    replace hT := hT.mono hle11
    replace hh0 := hh0.mono hle11
    exfalso; omega --done
  | succ d ih =>
    intro l p en br ab cb h hl hT hll hen hd
    refine Fn.intro Tryz.func108 rfl Tryz.ntmps108 rfl (fun e he => ?_)
    refine J.weak [(0, _), (1, _), (2, _)] ⟨rfl, rfl, rfl, trivial⟩ ?_
    have hh0 := Part.le.refl h
    refine Sr ?_
    refine JL.alloc zr_75 rfl (fun b1 => ?_)
    refine JL.nil ?_
    refine Sr ?_
    refine Ru 3 rfl ?_
    refine JL.op (RunV.own1 ag_3 rfl mm_ rfl) rfl ?_
    refine JL.alloc zr_3 rfl (fun b2 => ?_)
    refine JL.store1 ag_3 rfl rfl rfl dl_ z32_ ?_
    refine JL.nil ?_
    refine Sr ?_
    refine JL.op (RunV.makeFunc (os1 := []) (os2 := [.tmp 7]) rfl rfl) rfl ?_
    refine Ru 1 rfl ?_
    refine Nk [8, 7, 6, 0, 1, 2] rfl ?_
    refine Sr ?_
    refine Ru 4 rfl ?_
    refine JL.op (RunV.own1 ag_3 rfl mm_ rfl) rfl ?_
    refine Ru 2 rfl ?_
    refine JL.fail ca_141 rfl rfl (nfail_fn) dl_ rfl (fun hc3 h3 hle3 => ?_) (fun hc3 h3 hle3 => ?_)
    ·
     try simp only [decide_eq_true_eq, decide_eq_false_iff_not, Bool.not_eq_eq_eq_not, Bool.not_true, Bool.not_false, ne_eq, Decidable.not_not] at hc3
     have hE : rdH l p en true = .error (p, 30) := (by unfold rdH; rw [if_pos (by omega)]); exact ⟨[], _, .nil, by rw [rdN_err hE]; exact ⟨rfl, rfl⟩⟩
    try simp only [decide_eq_true_eq, decide_eq_false_iff_not, Bool.not_eq_eq_eq_not, Bool.not_true, Bool.not_false, ne_eq, Decidable.not_not] at hc3
    replace hl := hl.mono hle3
    replace hT := hT.mono hle3
    replace hh0 := hh0.mono hle3
    refine Nk [8, 7, 6, 0, 1, 2] rfl ?_
    refine J.seq ?_
    refine J.drawn mixed_ (by kernel_rfl) ?_
    refine Rq 3 rfl ?_
    refine JQ.op (RunV.own1 ag_22 rfl mm_ rfl) rfl ?_
    refine Rq 3 rfl ?_
    refine JQ.op (RunV.own1 ag_3 rfl mm_ rfl) rfl ?_
    refine JQ.ope (RunE.index sl_22 rfl rfl z9_ (by assumption) rfl (by omega)) rfl ?_
    rintro _ ⟨b4, o4, hi4, rfl, hE4⟩
    refine JQ.op (RunV.ld_u8 ag_5 rfl (by assumption)) rfl ?_
    refine Rq 1 rfl ?_
    refine Nq [9, 8, 7, 6, 0, 1, 2] rfl ?_
    refine Sr ?_
    have hpl : p < l.length := (by omega); have hbt := byteAt_eq l p hpl; have hlt := byteAt_lt l p
    refine Ru 3 rfl ?_
    refine JL.op (RunV.own1 ag_3 rfl mm_ rfl) rfl ?_
    refine JL.op ai_ rfl ?_
    refine Ru 2 rfl ?_
    refine JL.store1 ag_3 rfl rfl rfl dl_ z32_ ?_
    refine Nk [9, 8, 7, 6, 0, 1, 2] rfl ?_
    refine Sr ?_
    refine Ru 1 rfl ?_
    refine JL.op (RunV.shr_u8 64 rfl rfl (by decide) (by decide) (by decide)) rfl ?_
    refine JL.op z10_ rfl ?_
    rw [show ((l[p].toNat : Int) / 64) = ((byteAt l p / 64 : Nat) : Int) by rw [hbt]; simp]
    refine Ru 1 rfl ?_
    refine JL.op (by first | exact RunV.maskb_u8 5 32 rfl rfl (by decide) (by decide) (by decide) | exact RunV.mask_u8 5 32 rfl rfl (by decide) (by decide) (by decide) (by omega) (by omega) | exact RunV.and_ rfl rfl) rfl ?_
    refine JL.op z10_ rfl ?_
    rw [show ((l[p].toNat : Int) % 32) = ((byteAt l p % 32 : Nat) : Int) by rw [hbt]; simp]
    refine Ru 1 rfl ?_
    refine JL.op (RunV.and32 rfl (by omega) (by omega)) rfl ?_
    refine Ru 1 rfl ?_
    rw [show decide ((0 : Int) < 32 * ((l[p].toNat : Int) / 32 % 2)) = decide (byteAt l p / 32 % 2 = 1) from decide_eq_decide.2 (by omega)]; obtain ⟨c, hcd⟩ : ∃ c, byteAt l p / 64 = c := ⟨_, rfl⟩; obtain ⟨t, htd⟩ : ∃ t, byteAt l p % 32 = t := ⟨_, rfl⟩; obtain ⟨k, hkd⟩ : ∃ k, decide (byteAt l p / 32 % 2 = 1) = k := ⟨_, rfl⟩; rw [hcd, htd, hkd]
    refine JL.op (RunV.build (cs := [_, _, _, .slice none 0 0, .slice none 0 0]) pl_75 rfl rfl) rfl ?_
    refine JL.alloc zr_75 rfl (fun b6 => ?_)
    refine JL.storeA ag_75 rfl rfl dl_ z22_ z17_ z6_ ?_
    refine Nk [10, 8, 7, 6, 0, 1, 2] rfl ?_
    refine Sr ?_
    refine Ru 1 rfl ?_
    refine JL.op (RunV.ownA ag_75 rfl mm_ z6_) rfl ?_
    refine JL.callP ca_130 rfl (pmay_fn (x := .mk c t k [] []) (NdR.of SlR.nil_ SlR.nil_)) rfl ?_
    refine JL.fail ca_141 rfl rfl (nfail_fn) dl_ rfl (fun hc8 h8 hle8 => ?_) (fun hc8 h8 hle8 => ?_)
    ·
     try simp only [decide_eq_true_eq, decide_eq_false_iff_not, Bool.not_eq_eq_eq_not, Bool.not_true, Bool.not_false, ne_eq, Decidable.not_not] at hc8
     have hE : rdH l p en true = .error (p, 31) := (by unfold rdH; rw [if_neg (by omega), hcd, htd, hkd, if_pos (by exact hc8)]); exact ⟨[], _, .nil, by rw [rdN_err hE]; exact ⟨rfl, rfl⟩⟩
    try simp only [decide_eq_true_eq, decide_eq_false_iff_not, Bool.not_eq_eq_eq_not, Bool.not_true, Bool.not_false, ne_eq, Decidable.not_not] at hc8
    replace hl := hl.mono hle8
    replace hT := hT.mono hle8
    replace hh0 := hh0.mono hle8
    have hmay : mayB c t k = true := hc8
    refine JL.nil ?_
    refine Sr ?_
    refine Ru 1 rfl ?_
    refine JL.op (RunV.own1 ag_3 rfl mm_ rfl) rfl ?_
    refine Ru 1 rfl ?_
    refine JL.call_ ca_142 rfl (size_rd (by assumption) (by omega)) pt_ rfl (fun _ _ hh => (SizeR.out hh).elim) (fun ch9 h9 Lo9 hle9 hR9 => ?_) (fun v9 h9 Lo9 hle9 hR9 => ?_)
    ·
     have hR9 := SizeR.pan hR9
     obtain ⟨zc, hzc, rfl⟩ := hR9; have hE : rdH l p en true = .error (p, zc) := (by unfold rdH; rw [if_neg (by omega), hcd, htd, hkd, if_neg (by rw [hmay]; decide), hzc]); exact ⟨[], _, .nil, by rw [rdN_err hE]; exact ⟨rfl, rfl⟩⟩
    obtain ⟨zn, zq, hzs, rfl, rfl⟩ := SizeR.ret hR9
    replace hl := hl.mono hle9
    replace hT := hT.mono hle9
    replace hh0 := hh0.mono hle9
    have hzq := rdS_le hzs
    refine Ru 1 rfl ?_
    refine Nk [11, 10, 8, 6, 0, 1, 2] rfl ?_
    refine Sr ?_
    refine Ru 6 rfl ?_
    refine JL.op (RunV.own1 ag_3 rfl mm_ rfl) rfl ?_
    refine JL.op si_ rfl ?_
    refine Ru 1 rfl ?_
    refine JL.fail ca_141 rfl rfl (nfail_fn) dl_ rfl (fun hc10 h10 hle10 => ?_) (fun hc10 h10 hle10 => ?_)
    ·
     try simp only [decide_eq_true_eq, decide_eq_false_iff_not, Bool.not_eq_eq_eq_not, Bool.not_true, Bool.not_false, ne_eq, Decidable.not_not] at hc10
     have hE : rdH l p en true = .error (p, 30) := (by unfold rdH; rw [if_neg (by omega), hcd, htd, hkd, if_neg (by rw [hmay]; decide), hzs]; simp only; rw [if_pos (by omega)]); exact ⟨[], _, .nil, by rw [rdN_err hE]; exact ⟨rfl, rfl⟩⟩
    try simp only [decide_eq_true_eq, decide_eq_false_iff_not, Bool.not_eq_eq_eq_not, Bool.not_true, Bool.not_false, ne_eq, Decidable.not_not] at hc10
    replace hl := hl.mono hle10
    replace hT := hT.mono hle10
    replace hh0 := hh0.mono hle10
    refine Nk [11, 10, 8, 6, 0, 2] rfl ?_
    refine Sr ?_
    refine Ru 3 rfl ?_
    refine JL.fail ca_141 rfl rfl (nfail_fn) dl_ rfl (fun hc11 h11 hle11 => ?_) (fun hc11 h11 hle11 => ?_)
    ·
     try simp only [decide_eq_true_eq, decide_eq_false_iff_not, Bool.not_eq_eq_eq_not, Bool.not_true, Bool.not_false, ne_eq, Decidable.not_not] at hc11
     exfalso; omega
    try simp only [decide_eq_true_eq, decide_eq_false_iff_not, Bool.not_eq_eq_eq_not, Bool.not_true, Bool.not_false, ne_eq, Decidable.not_not] at hc11
    replace hl := hl.mono hle11
    replace hT := hT.mono hle11
    replace hh0 := hh0.mono hle11
    refine JL.nil ?_
    refine J.seq ?_
    refine Sr ?_
    have hH : rdH l p en true = .ok (c, t, k, zn, zq) := (by unfold rdH; rw [if_neg (by omega), hcd, htd, hkd, if_neg (by rw [hmay]; decide), hzs]; simp only; rw [if_neg (by omega), if_neg (by decide)])
    refine Ru 1 rfl ?_
    refine JL.op (RunV.own1 ag_4 rfl mm_ rfl) rfl ?_
    refine Ru 1 rfl ?_
    refine Nk [80, 11, 10, 8, 6, 0, 2] rfl ?_
    refine Cs rfl (fun hc12 => ?_) fun hc12 => ?_
    ·
     have hkf : k = false := (by simpa using hc12); subst hkf
     refine J.seq ?_
     refine J.held ([.blk br 127 [.slice ab l.length cb, .int .i64 zq]]) 18 mixed_ rfl (fun h00 => ?_)
     refine JH.take 0 rfl (by kernel_rfl) (by kernel_rfl) (by kernel_rfl) (fun _ _ _ _ hh => hh) (br_ h00) (RunV.move rfl) rfl ?_
     refine JH.take 1 rfl (by kernel_rfl) (by kernel_rfl) (by kernel_rfl) (fun _ _ _ _ hh => hh) (br_ h00) (RunV.nilCheck rfl) rfl ?_
     refine JH.take 2 rfl (by kernel_rfl) (by kernel_rfl) (by kernel_rfl) (fun _ _ _ _ hh => hh) (br_ h00) (by first | exact RunV.fieldAt0 fo_127_0 rfl | exact RunV.fieldAt fo_127_0 rfl) rfl ?_
     refine JH.take 3 rfl (by kernel_rfl) (by kernel_rfl) (by kernel_rfl) (fun _ _ _ _ hh => hh) (br_ h00) (RunV.own1 ag_22 rfl mm_ rfl) rfl ?_
     refine JH.take 4 rfl (by kernel_rfl) (by kernel_rfl) (by kernel_rfl) (fun _ _ _ _ hh => hh) (br_ h00) (RunV.move rfl) rfl ?_
     refine JH.take 5 rfl (by kernel_rfl) (by kernel_rfl) (by kernel_rfl) (fun _ _ _ _ hh => hh) (br_ h00) (RunV.nilCheck rfl) rfl ?_
     refine JH.take 6 rfl (by kernel_rfl) (by kernel_rfl) (by kernel_rfl) (fun _ _ _ _ hh => hh) (br_ h00) (by first | exact RunV.fieldAt0 fo_127_1 rfl | exact RunV.fieldAt fo_127_1 rfl) rfl ?_
     refine JH.take 7 rfl (by kernel_rfl) (by kernel_rfl) (by kernel_rfl) (fun _ _ _ _ hh => hh) (br_ h00) (RunV.own1 ag_3 rfl mm_ rfl) rfl ?_
     refine JH.take 8 rfl (by kernel_rfl) (by kernel_rfl) (by kernel_rfl) (fun _ _ _ _ hh => hh) (br_ h00) (RunV.move rfl) rfl ?_
     refine JH.take 9 rfl (by kernel_rfl) (by kernel_rfl) (by kernel_rfl) (fun _ _ _ _ hh => hh) (br_ h00) (RunV.nilCheck rfl) rfl ?_
     refine JH.take 10 rfl (by kernel_rfl) (by kernel_rfl) (by kernel_rfl) (fun _ _ _ _ hh => hh) (br_ h00) (by first | exact RunV.fieldAt0 fo_127_1 rfl | exact RunV.fieldAt fo_127_1 rfl) rfl ?_
     refine JH.take 11 rfl (by kernel_rfl) (by kernel_rfl) (by kernel_rfl) (fun _ _ _ _ hh => hh) (br_ h00) (RunV.own1 ag_3 rfl mm_ rfl) rfl ?_
     refine JH.take 12 rfl (by kernel_rfl) (by kernel_rfl) (by kernel_rfl) (fun _ _ _ _ hh => hh) (br_ h00) (RunV.move rfl) rfl ?_
     refine JH.take 13 rfl (by kernel_rfl) (by kernel_rfl) (by kernel_rfl) (fun _ _ _ _ hh => hh) (br_ h00) ai_ rfl ?_
     refine JH.takeE 14 rfl (by kernel_rfl) (by kernel_rfl) (by kernel_rfl) (fun _ _ _ _ hh => hh) (br_ h00) (RunE.cut_lh (m := zq) (m' := zq + zn) sl_22 rfl rfl rfl rfl (by omega) (by assumption) rfl (by omega) (by omega)) rfl ?_
     rintro _ ⟨as_, cs_, rfl, hSs⟩
     obtain ⟨bs, hbs⟩ : ∃ bs, cutL l zq (zq + zn) = bs := ⟨_, rfl⟩; have hbc := hbs; unfold cutL at hbs; rw [hbs] at hSs ⊢; have hbsl := hSs.big; have hbl2 : bs.length ≤ 16777216 := (by rw [← hbs]; simp; omega)
     refine JH.all1 15 (by kernel_rfl) rfl ?_
     unfold One
     refine JL.row_nil 5 1 ?_
     refine JL.append ap_22 rfl rfl (CellsR.nil (R := u8R)) rfl (by assumption) rfl dl_ z5_ rfl rfl (fun a14 c14 xs14 hC14 hN14 => ?_)
     obtain rfl := hC14.u8
     refine JL.pub (R := u8R) (l := bs) dl_ CellsR.of_u8 rfl z5_ (fun h15 hle15 hP15 => ?_)
     replace hl := hl.mono hle15
     replace hT := hT.mono hle15
     replace hh0 := hh0.mono hle15
     replace hSs := hSs.mono hle15
     refine JL.nil ⟨(br_ h00), ?_⟩
     refine JH.take 16 rfl (by kernel_rfl) (by kernel_rfl) (by kernel_rfl) (fun _ _ _ _ hh => hh) (br_ h00) (by first | exact RunV.fieldAt0 fo_75_3 rfl | exact RunV.fieldAt fo_75_3 rfl) rfl ?_
     refine JH.all1 17 (by kernel_rfl) rfl ?_
     unfold One
     refine JL.store1 ag_22 rfl rfl rfl dl_ z32_ ?_
     refine JL.nil ⟨(br_ h00), ?_⟩
     refine JH.done (by kernel_rfl) ?_
     refine Kp [11, 10, 8, 6, 0, 2] rfl ?_
     refine Sr ?_
     refine Ru 3 rfl ?_
     refine JL.op (RunV.own1 ag_3 rfl mm_ rfl) rfl ?_
     refine Ru 1 rfl ?_
     refine JL.op ai_ rfl ?_
     refine Ru 2 rfl ?_
     refine JL.store1 ag_3 rfl rfl rfl dl_ z32_ ?_
     refine Nk [11, 10, 8, 6, 0, 2] rfl ?_
     refine Sr ?_
     refine Ru 2 rfl ?_
     refine JL.op (RunV.own1 ag_3 rfl mm_ rfl) rfl ?_
     refine Ru 2 rfl ?_
     refine Bs 110 rfl (fun hc16 => ?_) fun hc16 => ?_
     ·
      refine Ru 6 rfl ?_
      refine JL.fail ca_141 rfl rfl (nfail_fn) dl_ rfl (fun hc17 => by cases hc17) (fun hc17 h17 hle17 => ?_)
      replace hl := hl.mono hle17
      replace hT := hT.mono hle17
      replace hh0 := hh0.mono hle17
      replace hSs := hSs.mono hle17
      replace hP15 := hP15.mono hle17
      refine Nk [11, 10, 8, 6, 0, 2] rfl ?_
      refine Sr ?_
      refine JL.op (RunV.ownA ag_75 rfl mm_ z6_) rfl ?_
      refine JL.storeA ag_75 rfl rfl dl_ z22_ z17_ z6_ ?_
      refine JL.nil ?_
      have hN : rdN (d + 1) l p en = .ok (.mk c t false bs [], zq + zn) := (by rw [rdN_prim hH, hbc, if_pos (by rw [decide_eq_true (by omega)]; rfl)]); exact J.ret ⟨_, [.blk br _ _], _, (RetV.cell rfl rfl ag_75 mm_ z6_), .cons dl_ .nil, by rw [hN]; exact ⟨⟨_, rfl, NdR.of (by assumption) SlR.nil_⟩, by simp⟩⟩
     refine Ru 1 rfl ?_
     refine JL.opg rfl rfl  (RunV.own1 ag_3 rfl mm_ rfl) rfl ?_
     refine Ru 1 rfl ?_
     refine JL.opg rfl rfl  (RunV.own1 ag_22 rfl mm_ rfl) rfl ?_
     refine JL.callPg rfl rfl  ca_131 rfl (value_fn (l := bs) (by assumption) (by assumption) (by omega)) rfl ?_
     refine Ru 1 rfl ?_
     refine JL.fail ca_141 rfl rfl (nfail_fn) dl_ rfl (fun hc19 h19 hle19 => ?_) (fun hc19 h19 hle19 => ?_)
     ·
      try simp only [decide_eq_true_eq, decide_eq_false_iff_not, Bool.not_eq_eq_eq_not, Bool.not_true, Bool.not_false, ne_eq, Decidable.not_not] at hc19
      have hN : rdN (d + 1) l p en = .error (p, 34) := (by rw [rdN_prim hH, hbc, if_neg (by rw [show valB t bs = false from hc19, decide_eq_false (by omega)]; decide)]); exact ⟨[], _, .nil, by rw [hN]; exact ⟨rfl, rfl⟩⟩
     try simp only [decide_eq_true_eq, decide_eq_false_iff_not, Bool.not_eq_eq_eq_not, Bool.not_true, Bool.not_false, ne_eq, Decidable.not_not] at hc19
     replace hl := hl.mono hle19
     replace hT := hT.mono hle19
     replace hh0 := hh0.mono hle19
     replace hSs := hSs.mono hle19
     replace hP15 := hP15.mono hle19
     have hvv : valB t bs = true := hc19
     refine Nk [11, 10, 8, 6, 0, 2] rfl ?_
     refine Sr ?_
     refine JL.op (RunV.ownA ag_75 rfl mm_ z6_) rfl ?_
     refine JL.storeA ag_75 rfl rfl dl_ z22_ z17_ z6_ ?_
     refine JL.nil ?_
     have hN : rdN (d + 1) l p en = .ok (.mk c t false bs [], zq + zn) := (by rw [rdN_prim hH, hbc, if_pos (by rw [hvv]; simp)]); exact J.ret ⟨_, [.blk br _ _], _, (RetV.cell rfl rfl ag_75 mm_ z6_), .cons dl_ .nil, by rw [hN]; exact ⟨⟨_, rfl, NdR.of (by assumption) SlR.nil_⟩, by simp⟩⟩
    have hkt : k = true := (by simpa using hc12); subst hkt
    refine J.skip ?_
    refine Sr ?_
    refine Ru 3 rfl ?_
    refine JL.op (RunV.own1 ag_3 rfl mm_ rfl) rfl ?_
    refine Ru 2 rfl ?_
    refine Nk [13, 12, 11, 10, 8, 6, 0, 2] rfl ?_
    refine J.seq ?_
    refine Sr ?_
    refine Ru 3 rfl ?_
    refine JL.op (RunV.own1 ag_3 rfl mm_ rfl) rfl ?_
    refine Ru 1 rfl ?_
    refine JL.op ai_ rfl ?_
    refine Ru 1 rfl ?_
    refine JL.row_nil 75 5 ?_; refine JL.ents [.blk br _ _, .blk b6 _ _, .row _ _ _ _ _ _, .blk b2 _ _, .blk b1 _ _] pt_ ?_
    refine Nk [14, 13, 12, 10, 8, 6, 0, 2] rfl ?_
    refine J.block ?_
    refine J.loop (fun t_ S_ h_ L_ => ∃ (g : Part) (f pos last : Nat) (acc : List Nd) (r : Bool) (ak : Option Addr) (ck : Nat) (xs : List Value), t_ = zq + zn - pos ∧ S_ = [(0, .pointer (some ⟨br, 0, none⟩)), (2, .int .i64 ((33 : Int) - ((d + 1 : Nat) : Int))), (6, .pointer (some ⟨b1, 0, none⟩)), (8, .func (.func 141) #[] #[.pointer (some ⟨b2, 0, none⟩)]), (10, .pointer (some ⟨b6, 0, none⟩)), (12, .int .i64 last), (13, .bool r), (14, .int .i64 ((zq + zn : Nat) : Int))] ∧ g = h_ ∧ L_ = [.blk br 127 [.slice ab l.length cb, .int .i64 pos], .blk b6 75 [.int .i64 c, .int .i64 t, .bool true, .slice none 0 0, .slice ak acc.length ck], .row ak ck 75 5 acc.length xs, .blk b2 3 [.int .i64 p], .blk b1 75 [.int .i64 0, .int .i64 0, .bool false, .slice none 0 0, .slice none 0 0]] ∧ (h.le g ∧ SlR u8R 1 g ab cb l ∧ Tabs g ∧ CellsR NdR 5 g xs acc ∧ last ≤ pos ∧ pos ≤ zq + zn ∧ zq + zn ≤ pos + f ∧ acc.length ≤ pos ∧ rdK (rdN d l) l (zq + zn) zn zq [] true zq = rdK (rdN d l) l (zq + zn) f pos acc r last)) ⟨_, _, ?_, ⟨_, zn, zq, zq, [], true, none, 0, [], rfl, rfl, rfl, rfl, ⟨by assumption, by assumption, by assumption, CellsR.nil, by omega, by omega, by omega, by simp, rfl⟩⟩⟩ ?_
    ·
     exact z7_
    rintro _ _ _ _ ⟨g, f, pos, last, acc, r, ak, ck, xs, rfl, rfl, rfl, rfl, hhg, hl, hT, hC, hlp, hps, hpf, hap, hK⟩
    refine J.seq ?_
    refine Sr ?_
    refine Ru 3 rfl ?_
    refine JL.op (RunV.own1 ag_3 rfl mm_ rfl) rfl ?_
    refine Ru 2 rfl ?_
    refine JL.nil ?_
    refine Cs rfl (fun hc20 => ?_) fun hc20 => ?_
    ·
     obtain ⟨f', rfl⟩ : ∃ f', f = f' + 1 := ⟨f - 1, by omega⟩
     refine J.skip ?_
     refine J.block ?_
     refine Sr ?_
     refine Ru 3 rfl ?_
     refine JL.op (RunV.own1 ag_3 rfl mm_ rfl) rfl ?_
     refine Ru 1 rfl ?_
     refine JL.nil ?_
     refine J.seq ?_
     refine J.held ([]) 11 mixed_ rfl (fun h00 => ?_)
     refine JH.take 0 rfl (by kernel_rfl) (by kernel_rfl) (by kernel_rfl) (fun _ _ _ _ hh => hh) (br_ h00) (by first | exact RunV.fieldAt0 fo_75_4 rfl | exact RunV.fieldAt fo_75_4 rfl) rfl ?_
     refine JH.take 2 rfl (by kernel_rfl) (by kernel_rfl) (by kernel_rfl) (fun _ _ _ _ hh => hh) (br_ h00) (RunV.move rfl) rfl ?_
     refine JH.take 3 rfl (by kernel_rfl) (by kernel_rfl) (by kernel_rfl) (fun _ _ _ _ hh => hh) (br_ h00) (RunV.move rfl) rfl ?_
     refine JH.take 4 rfl (by kernel_rfl) (by kernel_rfl) (by kernel_rfl) (fun _ _ _ _ hh => hh) (br_ h00) (RunV.move rfl) rfl ?_
     refine JH.take 5 rfl (by kernel_rfl) (by kernel_rfl) (by kernel_rfl) (fun _ _ _ _ hh => hh) (br_ h00) ai_ rfl ?_
     rw [show ((33 : Int) - ((d + 1 : Nat) : Int) + 1) = 33 - (d : Int) by omega]
     refine JH.all2 1 6 (by kernel_rfl) rfl rfl ?_ ?_
     ·
      unfold One
      refine JL.op (RunV.own1 ag_73 rfl mm_ rfl) rfl ?_
      refine JL.nil ⟨(br_ h00), ?_⟩
      refine JH.all1 6 (by kernel_rfl) rfl ?_
      unfold One
      refine JL.call_ ca_108 rfl (ih l pos (zq + zn) br ab cb _ (by assumption) (by assumption) hll (by omega) (by omega)) pt_ rfl (fun _ _ hh => (NodeR.out hh).elim) (fun ch21 h21 Lo21 hle21 hR21 => ?_) (fun v21 h21 Lo21 hle21 hR21 => ?_)
      ·
       have hR21 := NodeR.pan hR21
       obtain ⟨xa, xc, hxe, rfl⟩ := hR21; have hN : rdN (d + 1) l p en = .error (xa, xc) := (by rw [rdN_cons hH, hK, rdK_err (by omega) hxe]); exact ⟨[], _, .nil, by rw [hN]; exact ⟨rfl, rfl⟩⟩
      obtain ⟨x, p', xcs, hxs, rfl, hNdx, rfl⟩ := NodeR.ret hR21
      replace hhg := hhg.mono hle21
      replace hC := hC.mono hle21
      replace hl := hl.mono hle21
      replace hT := hT.mono hle21
      have hxl := rdN_le d l pos (zq + zn) x p' hxs; have hal : ((acc ++ [x]).length : Int) = (acc.length : Int) + 1 := by simp
      refine JL.nil ⟨(br_ h00), ?_⟩
      refine JH.all1 7 (by kernel_rfl) rfl ?_
      unfold One
      refine JL.litA ap_73 rfl z6_ rfl rfl (fun b22 => ?_)
      refine JL.nil ⟨(br_ h00), ?_⟩
      refine JH.all1 8 (by kernel_rfl) rfl ?_
      unfold One
      refine JL.append1 ap_73 rfl rfl (by assumption) rfl dl_ dl_ z6_ (hNdx) z5_ rfl rfl (fun a23 c23 xs23 hC23 hN23 => ?_)
      refine JL.nil ⟨(br_ h00), ?_⟩
      refine JH.take 9 rfl (by kernel_rfl) (by kernel_rfl) (by kernel_rfl) (fun _ _ _ _ hh => hh) (br_ h00) (by first | exact RunV.fieldAt0 fo_75_4 rfl | exact RunV.fieldAt fo_75_4 rfl) rfl ?_
      refine JH.all1 10 (by kernel_rfl) rfl ?_
      unfold One
      refine JL.store1 ag_73 rfl rfl rfl dl_ z32_ ?_
      refine JL.nil ⟨(br_ h00), ?_⟩
      refine JH.done (by kernel_rfl) ?_
      refine J.seq ?_
      refine J.meet [(13, .bool (r && (decide (acc.length = 0) || decide (Go.Lib.compareBytes (cutL l last pos) (cutL l pos p') ≤ 0))))] [(148, _), (147, _), (146, _), (145, _), (140, _), (144, _), (143, _), (142, _), (141, _), (139, _), (15, _), (138, _), (137, _), (136, _), (135, _), (134, _), (133, _), (132, _), (131, _), (130, _), (129, _), (0, _), (2, _), (6, _), (8, _), (10, _), (12, _), (14, _)] ⟨rfl, rfl, rfl, rfl, rfl, rfl, rfl, rfl, rfl, rfl, rfl, rfl, rfl, rfl, rfl, rfl, rfl, rfl, rfl, rfl, rfl, rfl, rfl, rfl, rfl, rfl, rfl, rfl, trivial⟩ ?_ ?_
      ·
       refine J.drawn mixed_ (by kernel_rfl) ?_
       refine Rq 2 rfl ?_
       refine Bq 150 rfl (fun hc24 => ?_) fun hc24 => ?_
       ·
        refine Rq 1 rfl ?_
        refine JQ.opg rfl rfl  (RunV.own1 ag_73 rfl mm_ rfl) rfl ?_
        refine Rq 3 rfl ?_
        refine Bq 155 rfl (fun hc25 => ?_) fun hc25 => ?_
        ·
         refine Rq 22 rfl ?_
         refine JQ.nil ?_
         refine ⟨rfl, rfl, ?_⟩
         exact z13_
        refine Rq 3 rfl ?_
        refine JQ.opg rfl rfl  (RunV.own1 ag_22 rfl mm_ rfl) rfl ?_
        refine Rq 2 rfl ?_
        refine JQ.opeg rfl rfl  (RunE.cut_lh (m := last) (m' := pos) sl_22 rfl rfl rfl rfl rfl (by assumption) rfl (by omega) (by omega)) rfl ?_
        rintro _ ⟨as1, cs1, rfl, hSs1⟩
        refine Rq 3 rfl ?_
        refine JQ.opg rfl rfl  (RunV.own1 ag_22 rfl mm_ rfl) rfl ?_
        refine Rq 4 rfl ?_
        refine JQ.opg rfl rfl  (RunV.own1 ag_3 rfl mm_ rfl) rfl ?_
        refine JQ.opeg rfl rfl  (RunE.cut_lh (m := pos) (m' := p') sl_22 rfl rfl rfl rfl rfl (by assumption) rfl (by omega) (by omega)) rfl ?_
        rintro _ ⟨as2, cs2, rfl, hSs2⟩
        refine JQ.callPg rfl rfl  ca_132 rfl (bcompare_fn (by assumption) (by assumption)) rfl ?_
        refine Rq 4 rfl ?_
        refine JQ.nil ?_
        refine ⟨rfl, rfl, ?_⟩
        exact z13_
       refine Rq 27 rfl ?_
       refine JQ.nil ?_
       refine ⟨rfl, rfl, ?_⟩
       exact z13_
      refine Rg ?_
      refine Ru 2 rfl ?_
      refine JL.ents [.blk br _ _, .blk b6 _ _, .row _ _ _ _ _ _, .blk b2 _ _, .blk b1 _ _] pt_ ?_
      refine JL.nil ?_
      refine ⟨_, ?_, _, ?_, ⟨_, f', p', pos, acc ++ [x], _, _, _, _, rfl, rfl, rfl, rfl, ⟨by assumption, by assumption, by assumption, by assumption, by omega, by omega, by omega, by simp; omega, by rw [hK, rdK_ok (by omega) hxs]⟩⟩⟩
      ·
       omega
      exact z7_
     unfold One
     refine JL.call_ ca_108 rfl (ih l pos (zq + zn) br ab cb _ (by assumption) (by assumption) hll (by omega) (by omega)) pt_ rfl (fun _ _ hh => (NodeR.out hh).elim) (fun ch29 h29 Lo29 hle29 hR29 => ?_) (fun v29 h29 Lo29 hle29 hR29 => ?_)
     ·
      have hR29 := NodeR.pan hR29
      obtain ⟨xa, xc, hxe, rfl⟩ := hR29; have hN : rdN (d + 1) l p en = .error (xa, xc) := (by rw [rdN_cons hH, hK, rdK_err (by omega) hxe]); exact ⟨[], _, .nil, by rw [hN]; exact ⟨rfl, rfl⟩⟩
     obtain ⟨x, p', xcs, hxs, rfl, hNdx, rfl⟩ := NodeR.ret hR29
     replace hhg := hhg.mono hle29
     replace hC := hC.mono hle29
     replace hl := hl.mono hle29
     replace hT := hT.mono hle29
     have hxl := rdN_le d l pos (zq + zn) x p' hxs; have hal : ((acc ++ [x]).length : Int) = (acc.length : Int) + 1 := by simp
     refine JL.nil ⟨(br_ h00), ?_⟩
     refine JH.all2 1 7 (by kernel_rfl) rfl rfl ?_ ?_
     ·
      unfold One
      refine JL.op (RunV.own1 ag_73 rfl mm_ rfl) rfl ?_
      refine JL.nil ⟨(br_ h00), ?_⟩
      refine JH.all1 7 (by kernel_rfl) rfl ?_
      unfold One
      refine JL.litA ap_73 rfl z6_ rfl rfl (fun b30 => ?_)
      refine JL.nil ⟨(br_ h00), ?_⟩
      refine JH.all1 8 (by kernel_rfl) rfl ?_
      unfold One
      refine JL.append1 ap_73 rfl rfl (by assumption) rfl dl_ dl_ z6_ (hNdx) z5_ rfl rfl (fun a31 c31 xs31 hC31 hN31 => ?_)
      refine JL.nil ⟨(br_ h00), ?_⟩
      refine JH.take 9 rfl (by kernel_rfl) (by kernel_rfl) (by kernel_rfl) (fun _ _ _ _ hh => hh) (br_ h00) (by first | exact RunV.fieldAt0 fo_75_4 rfl | exact RunV.fieldAt fo_75_4 rfl) rfl ?_
      refine JH.all1 10 (by kernel_rfl) rfl ?_
      unfold One
      refine JL.store1 ag_73 rfl rfl rfl dl_ z32_ ?_
      refine JL.nil ⟨(br_ h00), ?_⟩
      refine JH.done (by kernel_rfl) ?_
      refine J.seq ?_
      refine J.meet [(13, .bool (r && (decide (acc.length = 0) || decide (Go.Lib.compareBytes (cutL l last pos) (cutL l pos p') ≤ 0))))] [(148, _), (147, _), (146, _), (140, _), (145, _), (144, _), (143, _), (142, _), (141, _), (139, _), (15, _), (138, _), (137, _), (136, _), (135, _), (134, _), (133, _), (132, _), (131, _), (130, _), (129, _), (0, _), (2, _), (6, _), (8, _), (10, _), (12, _), (14, _)] ⟨rfl, rfl, rfl, rfl, rfl, rfl, rfl, rfl, rfl, rfl, rfl, rfl, rfl, rfl, rfl, rfl, rfl, rfl, rfl, rfl, rfl, rfl, rfl, rfl, rfl, rfl, rfl, rfl, trivial⟩ ?_ ?_
      ·
       refine J.drawn mixed_ (by kernel_rfl) ?_
       refine Rq 2 rfl ?_
       refine Bq 150 rfl (fun hc32 => ?_) fun hc32 => ?_
       ·
        refine Rq 1 rfl ?_
        refine JQ.opg rfl rfl  (RunV.own1 ag_73 rfl mm_ rfl) rfl ?_
        refine Rq 3 rfl ?_
        refine Bq 155 rfl (fun hc33 => ?_) fun hc33 => ?_
        ·
         refine Rq 22 rfl ?_
         refine JQ.nil ?_
         refine ⟨rfl, rfl, ?_⟩
         exact z13_
        refine Rq 3 rfl ?_
        refine JQ.opg rfl rfl  (RunV.own1 ag_22 rfl mm_ rfl) rfl ?_
        refine Rq 2 rfl ?_
        refine JQ.opeg rfl rfl  (RunE.cut_lh (m := last) (m' := pos) sl_22 rfl rfl rfl rfl rfl (by assumption) rfl (by omega) (by omega)) rfl ?_
        rintro _ ⟨as1, cs1, rfl, hSs1⟩
        refine Rq 3 rfl ?_
        refine JQ.opg rfl rfl  (RunV.own1 ag_22 rfl mm_ rfl) rfl ?_
        refine Rq 4 rfl ?_
        refine JQ.opg rfl rfl  (RunV.own1 ag_3 rfl mm_ rfl) rfl ?_
        refine JQ.opeg rfl rfl  (RunE.cut_lh (m := pos) (m' := p') sl_22 rfl rfl rfl rfl rfl (by assumption) rfl (by omega) (by omega)) rfl ?_
        rintro _ ⟨as2, cs2, rfl, hSs2⟩
        refine JQ.callPg rfl rfl  ca_132 rfl (bcompare_fn (by assumption) (by assumption)) rfl ?_
        refine Rq 4 rfl ?_
        refine JQ.nil ?_
        refine ⟨rfl, rfl, ?_⟩
        exact z13_
       refine Rq 27 rfl ?_
       refine JQ.nil ?_
       refine ⟨rfl, rfl, ?_⟩
       exact z13_
      refine Rg ?_
      refine Ru 2 rfl ?_
      refine JL.ents [.blk br _ _, .blk b6 _ _, .row _ _ _ _ _ _, .blk b2 _ _, .blk b1 _ _] pt_ ?_
      refine JL.nil ?_
      refine ⟨_, ?_, _, ?_, ⟨_, f', p', pos, acc ++ [x], _, _, _, _, rfl, rfl, rfl, rfl, ⟨by assumption, by assumption, by assumption, by assumption, by omega, by omega, by omega, by simp; omega, by rw [hK, rdK_ok (by omega) hxs]⟩⟩⟩
      ·
       omega
      exact z7_
     unfold One
     refine JL.litA ap_73 rfl z6_ rfl rfl (fun b37 => ?_)
     refine JL.nil ⟨(br_ h00), ?_⟩
     refine JH.all1 1 (by kernel_rfl) rfl ?_
     unfold One
     refine JL.op (RunV.own1 ag_73 rfl mm_ rfl) rfl ?_
     refine JL.nil ⟨(br_ h00), ?_⟩
     refine JH.all1 8 (by kernel_rfl) rfl ?_
     unfold One
     refine JL.append1 ap_73 rfl rfl (by assumption) rfl dl_ dl_ z6_ (hNdx) z5_ rfl rfl (fun a38 c38 xs38 hC38 hN38 => ?_)
     refine JL.nil ⟨(br_ h00), ?_⟩
     refine JH.take 9 rfl (by kernel_rfl) (by kernel_rfl) (by kernel_rfl) (fun _ _ _ _ hh => hh) (br_ h00) (by first | exact RunV.fieldAt0 fo_75_4 rfl | exact RunV.fieldAt fo_75_4 rfl) rfl ?_
     refine JH.all1 10 (by kernel_rfl) rfl ?_
     unfold One
     refine JL.store1 ag_73 rfl rfl rfl dl_ z32_ ?_
     refine JL.nil ⟨(br_ h00), ?_⟩
     refine JH.done (by kernel_rfl) ?_
     refine J.seq ?_
     refine J.meet [(13, .bool (r && (decide (acc.length = 0) || decide (Go.Lib.compareBytes (cutL l last pos) (cutL l pos p') ≤ 0))))] [(148, _), (147, _), (140, _), (146, _), (145, _), (144, _), (143, _), (142, _), (141, _), (139, _), (15, _), (138, _), (137, _), (136, _), (135, _), (134, _), (133, _), (132, _), (131, _), (130, _), (129, _), (0, _), (2, _), (6, _), (8, _), (10, _), (12, _), (14, _)] ⟨rfl, rfl, rfl, rfl, rfl, rfl, rfl, rfl, rfl, rfl, rfl, rfl, rfl, rfl, rfl, rfl, rfl, rfl, rfl, rfl, rfl, rfl, rfl, rfl, rfl, rfl, rfl, rfl, trivial⟩ ?_ ?_
     ·
      refine J.drawn mixed_ (by kernel_rfl) ?_
      refine Rq 2 rfl ?_
      refine Bq 150 rfl (fun hc39 => ?_) fun hc39 => ?_
      ·
       refine Rq 1 rfl ?_
       refine JQ.opg rfl rfl  (RunV.own1 ag_73 rfl mm_ rfl) rfl ?_
       refine Rq 3 rfl ?_
       refine Bq 155 rfl (fun hc40 => ?_) fun hc40 => ?_
       ·
        refine Rq 22 rfl ?_
        refine JQ.nil ?_
        refine ⟨rfl, rfl, ?_⟩
        exact z13_
       refine Rq 3 rfl ?_
       refine JQ.opg rfl rfl  (RunV.own1 ag_22 rfl mm_ rfl) rfl ?_
       refine Rq 2 rfl ?_
       refine JQ.opeg rfl rfl  (RunE.cut_lh (m := last) (m' := pos) sl_22 rfl rfl rfl rfl rfl (by assumption) rfl (by omega) (by omega)) rfl ?_
       rintro _ ⟨as1, cs1, rfl, hSs1⟩
       refine Rq 3 rfl ?_
       refine JQ.opg rfl rfl  (RunV.own1 ag_22 rfl mm_ rfl) rfl ?_
       refine Rq 4 rfl ?_
       refine JQ.opg rfl rfl  (RunV.own1 ag_3 rfl mm_ rfl) rfl ?_
       refine JQ.opeg rfl rfl  (RunE.cut_lh (m := pos) (m' := p') sl_22 rfl rfl rfl rfl rfl (by assumption) rfl (by omega) (by omega)) rfl ?_
       rintro _ ⟨as2, cs2, rfl, hSs2⟩
       refine JQ.callPg rfl rfl  ca_132 rfl (bcompare_fn (by assumption) (by assumption)) rfl ?_
       refine Rq 4 rfl ?_
       refine JQ.nil ?_
       refine ⟨rfl, rfl, ?_⟩
       exact z13_
      refine Rq 27 rfl ?_
      refine JQ.nil ?_
      refine ⟨rfl, rfl, ?_⟩
      exact z13_
     refine Rg ?_
     refine Ru 2 rfl ?_
     refine JL.ents [.blk br _ _, .blk b6 _ _, .row _ _ _ _ _ _, .blk b2 _ _, .blk b1 _ _] pt_ ?_
     refine JL.nil ?_
     refine ⟨_, ?_, _, ?_, ⟨_, f', p', pos, acc ++ [x], _, _, _, _, rfl, rfl, rfl, rfl, ⟨by assumption, by assumption, by assumption, by assumption, by omega, by omega, by omega, by simp; omega, by rw [hK, rdK_ok (by omega) hxs]⟩⟩⟩
     ·
      omega
     exact z7_
    refine J.exit ?_
    refine Kp [6, 8, 10, 13] rfl ?_
    refine Sr ?_
    refine Ru 3 rfl ?_
    refine Bs 180 rfl (fun hc44 => ?_) fun hc44 => ?_
    ·
     refine Ru 9 rfl ?_
     refine JL.fail ca_141 rfl rfl (nfail_fn) dl_ rfl (fun hc45 => by cases hc45) (fun hc45 h45 hle45 => ?_)
     replace hhg := hhg.mono hle45
     replace hC := hC.mono hle45
     replace hl := hl.mono hle45
     replace hT := hT.mono hle45
     refine Nk [6, 10] rfl ?_
     refine Sr ?_
     refine JL.pub (R := NdR) (l := acc) dl_ (by assumption) rfl (by omega) (fun h9 hle9 hS9 => ?_)
     refine JL.op (RunV.ownA ag_75 rfl mm_ z6_) rfl ?_
     refine JL.storeA ag_75 rfl rfl dl_ z22_ z17_ z6_ ?_
     refine JL.nil ?_
     have hN : rdN (d + 1) l p en = .ok (.mk c t true [] acc, pos) := (by rw [rdN_cons hH, hK, rdK_stop (by omega)]; simp only; rw [if_pos (by simp_all <;> omega)]); exact J.ret ⟨_, [.blk br _ _], _, (RetV.cell rfl rfl ag_75 mm_ z6_), .cons dl_ .nil, by rw [hN]; exact ⟨⟨_, rfl, NdR.of SlR.nil_ hS9⟩, rfl⟩⟩
    refine Ru 1 rfl ?_
    refine JL.opg rfl rfl  (RunV.own1 ag_3 rfl mm_ rfl) rfl ?_
    refine Ru 3 rfl ?_
    refine Bs 185 rfl (fun hc46 => ?_) fun hc46 => ?_
    ·
     refine Ru 4 rfl ?_
     refine JL.fail ca_141 rfl rfl (nfail_fn) dl_ rfl (fun hc47 => by cases hc47) (fun hc47 h47 hle47 => ?_)
     replace hhg := hhg.mono hle47
     replace hC := hC.mono hle47
     replace hl := hl.mono hle47
     replace hT := hT.mono hle47
     refine Nk [6, 10] rfl ?_
     refine Sr ?_
     refine JL.pub (R := NdR) (l := acc) dl_ (by assumption) rfl (by omega) (fun h9 hle9 hS9 => ?_)
     refine JL.op (RunV.ownA ag_75 rfl mm_ z6_) rfl ?_
     refine JL.storeA ag_75 rfl rfl dl_ z22_ z17_ z6_ ?_
     refine JL.nil ?_
     have hN : rdN (d + 1) l p en = .ok (.mk c t true [] acc, pos) := (by rw [rdN_cons hH, hK, rdK_stop (by omega)]; simp only; rw [if_pos (by simp_all <;> omega)]); exact J.ret ⟨_, [.blk br _ _], _, (RetV.cell rfl rfl ag_75 mm_ z6_), .cons dl_ .nil, by rw [hN]; exact ⟨⟨_, rfl, NdR.of SlR.nil_ hS9⟩, rfl⟩⟩
    refine Ru 1 rfl ?_
    refine JL.opg rfl rfl  (RunV.own1 ag_3 rfl mm_ rfl) rfl ?_
    refine Ru 2 rfl ?_
    refine JL.fail ca_141 rfl rfl (nfail_fn) dl_ rfl (fun hc48 h48 hle48 => ?_) (fun hc48 h48 hle48 => ?_)
    ·
     try simp only [decide_eq_true_eq, decide_eq_false_iff_not, Bool.not_eq_eq_eq_not, Bool.not_true, Bool.not_false, ne_eq, Decidable.not_not] at hc48
     have hN : rdN (d + 1) l p en = .error (p, 34) := (by rw [rdN_cons hH, hK, rdK_stop (by omega)]; simp only; rw [if_neg (by simp_all <;> omega)]); exact ⟨[], _, .nil, by rw [hN]; exact ⟨rfl, rfl⟩⟩
    try simp only [decide_eq_true_eq, decide_eq_false_iff_not, Bool.not_eq_eq_eq_not, Bool.not_true, Bool.not_false, ne_eq, Decidable.not_not] at hc48
    replace hhg := hhg.mono hle48
    replace hC := hC.mono hle48
    replace hl := hl.mono hle48
    replace hT := hT.mono hle48
    refine Nk [6, 10] rfl ?_
    refine Sr ?_
    refine JL.pub (R := NdR) (l := acc) dl_ (by assumption) rfl (by omega) (fun h9 hle9 hS9 => ?_)
    refine JL.op (RunV.ownA ag_75 rfl mm_ z6_) rfl ?_
    refine JL.storeA ag_75 rfl rfl dl_ z22_ z17_ z6_ ?_
    refine JL.nil ?_
    have hN : rdN (d + 1) l p en = .ok (.mk c t true [] acc, pos) := (by rw [rdN_cons hH, hK, rdK_stop (by omega)]; simp only; rw [if_pos (by simp_all <;> omega)]); exact J.ret ⟨_, [.blk br _ _], _, (RetV.cell rfl rfl ag_75 mm_ z6_), .cons dl_ .nil, by rw [hN]; exact ⟨⟨_, rfl, NdR.of SlR.nil_ hS9⟩, rfl⟩⟩
end Go.Proofs.YtmngjbefnloljaaGreatDoor
namespace Go.Proofs.YtmngjbefnloljaaGreatDoor
open Go Go.RowKit
theorem foldl_be (l : List UInt8) (a : Nat) : l.foldl (fun a b => a * 256 + b.toNat) a = a * 256 ^ l.length + beval l := by
  unfold beval
  induction l generalizing a with
  | nil => simp
  | cons x r ih =>
    simp only [List.foldl_cons, List.length_cons, Nat.zero_mul, Nat.zero_add]
    rw [ih (a * 256 + x.toNat), ih x.toNat, Nat.pow_succ, Nat.add_mul]
    have : a * 256 * 256 ^ r.length = a * (256 ^ r.length * 256) := by rw [Nat.mul_assoc, Nat.mul_comm 256]
    omega
theorem beval_cons (x : UInt8) (r : List UInt8) : beval (x :: r) = x.toNat * 256 ^ r.length + beval r := by
  have := foldl_be r x.toNat
  unfold beval at *
  simpa using this
theorem beval_lt' (l : List UInt8) : beval l < 256 ^ l.length := by
  have := beval_lt l l.length
  rwa [List.take_length] at this
theorem beval_be (k n : Nat) : beval (be k n) = n % 256 ^ k := by
  induction k with
  | zero => simp [be, beval, Nat.mod_one]
  | succ k ih =>
    rw [be, beval_cons, ih, be_len, Nat.mod_pow_succ]
    simp only [UInt8.toNat_ofNat', show (2 : Nat) ^ 8 = 256 from rfl]
    rw [Nat.mul_comm]; omega
theorem be_add (k a n : Nat) : be k (a * 256 ^ k + n) = be k n := by
  induction k generalizing a with
  | zero => rfl
  | succ k ih =>
    have h1 : a * 256 ^ (k + 1) + n = (a * 256) * 256 ^ k + n := by rw [Nat.pow_succ, Nat.mul_assoc, Nat.mul_comm 256]
    have hp : 0 < 256 ^ k := Nat.pow_pos (by decide)
    simp only [be]
    rw [h1, ih]
    congr 1
    rw [Nat.mul_comm (a * 256), Nat.mul_add_div hp]
    apply UInt8.toNat_inj.1
    simp only [UInt8.toNat_ofNat']
    omega
theorem be_beval (l : List UInt8) : be l.length (beval l) = l := by
  induction l with
  | nil => rfl
  | cons x r ih =>
    have hp : 0 < 256 ^ r.length := Nat.pow_pos (by decide)
    have hlt := beval_lt' r
    simp only [List.length_cons, be]
    rw [beval_cons, be_add, ih]
    congr 1
    rw [Nat.mul_comm x.toNat, Nat.mul_add_div hp, Nat.div_eq_of_lt hlt]
    simp
theorem nby_4 (n : Nat) (h : n < 4294967296) : nby n ≤ 4 ∧ n < 256 ^ nby n ∧ (128 ≤ n → 0 < n / 256 ^ (nby n - 1)) := by
  unfold nby
  (repeat' split) <;> refine ⟨by omega, by simp; omega, fun hh => ?_⟩ <;> first | omega | (simp; omega)
theorem nby_of (n k : Nat) (h1 : 1 ≤ k) (h4 : k ≤ 4) (hlt : n < 256 ^ k) (h0 : 0 < n / 256 ^ (k - 1)) : nby n = k := by
  have : k = 1 ∨ k = 2 ∨ k = 3 ∨ k = 4 := by omega
  rcases this with rfl | rfl | rfl | rfl <;> simp at hlt h0 <;> unfold nby <;> (repeat' split) <;> omega
theorem pre_drop {a b l : List UInt8} {p : Nat} (h : a ++ b <+: l.drop p) : a <+: l.drop p ∧ b <+: l.drop (p + a.length) := by
  obtain ⟨t, ht⟩ := h
  refine ⟨⟨b ++ t, by rw [← ht, List.append_assoc]⟩, ⟨t, ?_⟩⟩
  rw [← List.drop_drop, ← ht, List.append_assoc, List.drop_left]
theorem pre_len {b l : List UInt8} {p : Nat} (h : b <+: l.drop p) : b = [] ∨ p + b.length ≤ l.length := by
  have := h.length_le
  rw [List.length_drop] at this
  cases b with
  | nil => exact .inl rfl
  | cons x r => simp only [List.length_cons] at *; exact .inr (by omega)
theorem pre_byte {x : UInt8} {r l : List UInt8} {p : Nat} (h : x :: r <+: l.drop p) : byteAt l p = x.toNat ∧ p < l.length ∧ r <+: l.drop (p + 1) := by
  have h2 := (pre_drop (a := [x]) (b := r) h).2
  have hl := pre_len h
  simp only [List.length_cons, reduceCtorEq, false_or] at hl
  refine ⟨?_, by omega, h2⟩
  obtain ⟨t, ht⟩ := h
  have : l[p]? = some x := by
    have := congrArg (·[0]?) ht
    simp only [List.cons_append, List.getElem?_cons_zero, List.getElem?_drop, Nat.add_zero] at this
    exact this.symm
  simp [byteAt, List.getD, this]
theorem pre_cut {b l : List UInt8} {p : Nat} (h : b <+: l.drop p) : cutL l p (p + b.length) = b := by
  unfold cutL
  rw [show p + b.length - p = b.length by omega]
  exact (List.prefix_iff_eq_take.1 h).symm
theorem cut_len {l : List UInt8} {p q : Nat} (h : p ≤ q) (h2 : q ≤ l.length) : (cutL l p q).length = q - p := by
  unfold cutL; simp; omega
theorem cut_cut {l : List UInt8} {p q r : Nat} (h : p ≤ q) (h2 : q ≤ r) : cutL l p q ++ cutL l q r = cutL l p r := by
  unfold cutL
  have e : l.drop q = (l.drop p).drop (q - p) := by rw [List.drop_drop]; congr 1; omega
  have e2 : r - p = (q - p) + (r - q) := by omega
  rw [e, e2, List.take_add]
theorem cut_one {l : List UInt8} {p : Nat} (h : p < l.length) : cutL l p (p + 1) = [UInt8.ofNat (byteAt l p)] := by
  unfold cutL
  rw [show p + 1 - p = 1 by omega, List.drop_eq_getElem_cons h, List.take_succ_cons, List.take_zero, ← byteAt_eq l p h]
  simp
theorem lenB_len (n : Nat) : 1 ≤ (lenB n).length := by unfold lenB; split <;> simp
theorem rdS_lenB {n p e : Nat} {l : List UInt8} (h : lenB n <+: l.drop p) (he : p + (lenB n).length ≤ e) (hn : n < 4294967296) : rdS l p e = .ok (n, p + (lenB n).length) := by
  have hl1 := lenB_len n
  unfold lenB at *
  split at h
  · rename_i h1
    rw [if_pos h1] at *
    obtain ⟨hb, hp, _⟩ := pre_byte h
    have e1 : (UInt8.ofNat n).toNat = n := by simp; omega
    rw [e1] at hb
    unfold rdS
    rw [if_neg (by simp at he; omega), if_pos (by omega), hb]
    rfl
  · rename_i h1
    rw [if_neg h1] at *
    obtain ⟨h4, hlt, h0⟩ := nby_4 n hn
    have hb6 := nby_bd n
    obtain ⟨hb, hp, hr⟩ := pre_byte h
    have e1 : (UInt8.ofNat (128 + nby n)).toNat = 128 + nby n := by simp; omega
    rw [e1] at hb
    simp only [List.length_cons, be_len] at he ⊢
    have ht : (l.drop (p + 1)).take (byteAt l p - 128) = be (nby n) n := by
      have := List.prefix_iff_eq_take.1 hr
      rw [be_len] at this
      rw [hb, show 128 + nby n - 128 = nby n by omega, ← this]
    have hv : beval (be (nby n) n) = n := by rw [beval_be, Nat.mod_eq_of_lt hlt]
    unfold rdS
    rw [if_neg (by omega), if_neg (by omega), if_neg (by omega), if_neg (by omega), ht, hv, if_neg (by rw [hb, show 128 + nby n - 128 - 1 = nby n - 1 by omega]; have := h0 (by omega); omega)]
    rw [hb, show p + 1 + (128 + nby n - 128) = p + (nby n + 1) by omega]
theorem rdS_inv {l : List UInt8} {p e n q : Nat} (h : rdS l p e = .ok (n, q)) (he : e ≤ l.length) : cutL l p q = lenB n ∧ n < 4294967296 := by
  unfold rdS at h
  split at h
  · cases h
  · rename_i h0
    have hb := byteAt_lt l p
    split at h
    · rename_i h1
      injection h with h; injection h with h2 h3
      subst h2 h3
      refine ⟨?_, by omega⟩
      rw [cut_one (by omega)]
      unfold lenB
      rw [if_pos h1]
    · rename_i h1
      split at h
      · cases h
      · split at h
        · cases h
        · split at h
          · cases h
          · rename_i h2 h3 h4
            injection h with h; injection h with h5 h6
            obtain ⟨k, hk⟩ : ∃ k, byteAt l p - 128 = k := ⟨_, rfl⟩
            rw [hk] at h2 h3 h4 h5 h6
            have hbl : ((l.drop (p + 1)).take k).length = k := by simp; omega
            have hvl := beval_lt' ((l.drop (p + 1)).take k)
            rw [hbl, h5] at hvl
            rw [h5] at h4
            have h41 : 1 ≤ k ∧ k ≤ 4 := by omega
            have hpk : (256 : Nat) ^ k ≤ 256 ^ 4 := Nat.pow_le_pow_right (by decide) h41.2
            have hnb := nby_of n k h41.1 h41.2 hvl (by omega)
            refine ⟨?_, by have : (256 : Nat) ^ 4 = 4294967296 := by decide
                           omega⟩
            have hbe := be_beval ((l.drop (p + 1)).take k)
            rw [hbl, h5] at hbe
            rw [← h6, ← cut_cut (q := p + 1) (by omega) (by omega), cut_one (by omega)]
            unfold lenB
            rw [if_neg (by omega), hnb, hbe, show byteAt l p = 128 + k by omega]
            unfold cutL
            rw [show p + 1 + k - (p + 1) = k by omega]
            rfl
theorem tag_byte {c t : Int} {k : Bool} (hc : c = 0 ∨ c = 2) (ht : 0 ≤ t ∧ t ≤ 30) : (UInt8.ofNat (tagN c t k)).toNat / 64 = c.toNat ∧ (UInt8.ofNat (tagN c t k)).toNat % 32 = t.toNat ∧ decide ((UInt8.ofNat (tagN c t k)).toNat / 32 % 2 = 1) = k := by
  have h : (UInt8.ofNat (tagN c t k)).toNat = tagN c t k := by
    simp only [UInt8.toNat_ofNat']
    unfold tagN
    cases k <;> simp <;> omega
  rw [h]
  unfold tagN
  cases k <;> simp <;> omega
theorem mayB_bd {c t : Int} {k : Bool} (h : mayB c t k = true) : (c = 0 ∨ c = 2) ∧ 0 ≤ t ∧ t ≤ 30 := by
  unfold mayB at h
  simp only [Bool.and_eq_true, Bool.or_eq_true, decide_eq_true_eq] at h
  omega
theorem byte_tag (b : Nat) (hb : b < 256) : UInt8.ofNat (tagN (b / 64 : Nat) (b % 32 : Nat) (decide (b / 32 % 2 = 1))) = UInt8.ofNat b := by
  congr 1
  unfold tagN
  by_cases h : b / 32 % 2 = 1
  · simp [h]; omega
  · simp [h]; omega
theorem rdH_headB {c t : Int} {k : Bool} {n p e : Nat} {l : List UInt8} (hm : mayB c t k = true) (h : headB c t k n <+: l.drop p) (he : p + (headB c t k n).length + n ≤ e) (hn : n < 4294967296) :
    rdH l p e true = .ok (c.toNat, t.toNat, k, n, p + (headB c t k n).length) := by
  obtain ⟨hc, ht⟩ := mayB_bd hm
  obtain ⟨hb, hp, hr⟩ := pre_byte h
  obtain ⟨e1, e2, e3⟩ := tag_byte (k := k) hc ht
  have ec : ((c.toNat : Nat) : Int) = c := Int.toNat_of_nonneg (by omega)
  have et : ((t.toNat : Nat) : Int) = t := Int.toNat_of_nonneg (by omega)
  have hlen : (headB c t k n).length = (lenB n).length + 1 := rfl
  have hS := rdS_lenB (e := e) hr (by omega) hn
  unfold rdH
  rw [hb, e1, e2, e3, ec, et, if_neg (by omega), if_neg (by rw [hm]; decide), hS]
  simp only
  rw [if_neg (by omega), if_neg (by decide), hlen]
  congr 5
  omega
theorem rdH_inv {l : List UInt8} {p e c t n q : Nat} {k ok : Bool} (h : rdH l p e ok = .ok (c, t, k, n, q)) (he : e ≤ l.length) : mayB c t k = true ∧ cutL l p q = headB c t k n ∧ n < 4294967296 := by
  have hle := rdH_le h
  unfold rdH at h
  split at h
  · cases h
  · split at h
    · cases h
    · rename_i h0 h1
      split at h
      · cases h
      · rename_i n' q' hs
        split at h
        · cases h
        · split at h
          · cases h
          · injection h with h; injection h with h2 h3; injection h3 with h3 h4; injection h4 with h4 h5; injection h5 with h5 h6
            subst h5 h6
            have hi := rdS_inv hs he
            have hq := rdS_le hs
            rw [h2, h3, h4] at h1
            refine ⟨by simpa using h1, ?_, hi.2⟩
            rw [← cut_cut (q := p + 1) (by omega) (by omega), cut_one (by omega), hi.1, ← h2, ← h3, ← h4]
            unfold headB
            rw [byte_tag _ (byteAt_lt l p)]
            rfl
theorem Nd.putL_pre {set : Bool} {ks : List Nd} {last : Option (List UInt8)} {acc B : List UInt8} (h : Nd.putL set ks last acc = some B) : ∃ r, B = acc ++ r := by
  induction ks generalizing last acc with
  | nil => simp only [Nd.putL, Option.some.injEq] at h; exact ⟨[], by simp [h]⟩
  | cons x r ih =>
    simp only [Nd.putL] at h
    split at h
    · cases h
    · split at h
      · cases h
      · obtain ⟨r', hr⟩ := ih h
        exact ⟨_, by rw [hr, List.append_assoc]⟩
theorem okN_parts {c t : Int} {k : Bool} {bs : List UInt8} {ks : List Nd} (h : okN c t k bs ks = true) : mayB c t k = true ∧ (k = true → bs = []) ∧ (k = false → ks = [] ∧ (decide (c = 2) || valB t bs) = true) := by
  unfold okN at h
  simp only [Bool.and_eq_true, Bool.not_eq_eq_eq_not, Bool.not_true] at h
  obtain ⟨h1, h2, h3, h4⟩ := h
  have hc := (mayB_bd h1).1
  refine ⟨h1, fun hk => ?_, fun hk => ?_⟩
  · subst hk
    exact List.eq_nil_of_length_eq_zero (by simpa using h2)
  · subst hk
    refine ⟨List.eq_nil_of_length_eq_zero (by simpa using h3), ?_⟩
    rcases hc with hc | hc
    · subst hc; simpa using h4
    · simp [hc]
theorem rdN_put : ∀ (d : Nat) (x : Nd) (b l : List UInt8) (p e : Nat), x.put = some b → x.rk ≤ d → b.length < 4294967296 → b <+: l.drop p → p + b.length ≤ e → rdN d l p e = .ok (x, p + b.length) := by
  intro d
  induction d with
  | zero => intro x b l p e _ hr; cases x; simp [Nd.rk] at hr
  | succ d ih =>
    intro x b l p e hb hr hl hpre he
    cases x with
    | mk c t k bs ks =>
    simp only [Nd.put] at hb
    split at hb
    · rename_i hok
      cases hin : Nd.putL (decide (c = 0) && decide (t = 17)) ks none bs with
      | none => simp [hin] at hb
      | some inb =>
        simp only [hin, Option.map_some, Option.some.injEq] at hb
        subst hb
        simp only [Nd.rk] at hr
        obtain ⟨hm, hk1, hk2⟩ := okN_parts hok
        obtain ⟨hcc, htt⟩ := mayB_bd hm
        have ec : ((c.toNat : Nat) : Int) = c := Int.toNat_of_nonneg (by omega)
        have et : ((t.toNat : Nat) : Int) = t := Int.toNat_of_nonneg (by omega)
        rw [List.length_append] at hl he ⊢
        obtain ⟨hp1, hp2⟩ := pre_drop hpre
        have hH := rdH_headB (e := e) hm hp1 (by omega) (by omega)
        cases k with
        | false =>
          obtain ⟨hks, hv⟩ := hk2 rfl
          subst hks
          simp only [Nd.putL, Option.some.injEq] at hin
          subst hin
          rw [rdN_prim hH, pre_cut hp2, ec, et, if_pos (by rw [show (decide (c.toNat = 2)) = decide (c = 2) from decide_eq_decide.2 (by omega)]; exact hv)]
          congr 2
          omega
        | true =>
          have hbs := hk1 rfl
          subst hbs
          have key : ∀ (r : List Nd) (f q last : Nat) (acc : List Nd) (rr : Bool) (lo : Option (List UInt8)) (ab rb : List UInt8), Nd.rkL r ≤ d → Nd.putL (decide (c = 0) && decide (t = 17)) r lo ab = some (ab ++ rb) → rb <+: l.drop q → rb.length < 4294967296 → rb.length ≤ f →
              (∀ z, lo = some z → cutL l last q = z ∧ acc ≠ []) → (lo = none → acc = []) → ((decide (c = 0) && decide (t = 17)) = true → rr = true) →
              ∃ r', rdK (rdN d l) l (q + rb.length) f q acc rr last = .ok (acc ++ r, r', q + rb.length) ∧ ((decide (c = 0) && decide (t = 17)) = true → r' = true) := by
            intro r
            induction r with
            | nil =>
              intro f q last acc rr lo ab rb _ h1 _ _ _ _ _ h6
              simp only [Nd.putL, Option.some.injEq] at h1
              have : rb = [] := by simpa using h1
              subst this
              refine ⟨rr, ?_, h6⟩
              rw [rdK_stop (by simp)]
              simp
            | cons y r ihr =>
              intro f q last acc rr lo ab rb h0 h1 h2 h3 h4 h5 h5' h6
              simp only [Nd.rkL] at h0
              simp only [Nd.putL] at h1
              split at h1
              · cases h1
              · rename_i yb hyb
                split at h1
                · cases h1
                · rename_i hab
                  obtain ⟨rb', hrb⟩ := Nd.putL_pre h1
                  have hrb2 : rb = yb ++ rb' := by rw [List.append_assoc] at hrb; exact List.append_cancel_left hrb
                  subst hrb2
                  rw [List.length_append] at h3 h4 ⊢
                  have hyl := (Nd.put_len _ y yb (Nat.le_refl _) hyb).1
                  obtain ⟨g1, g2⟩ := pre_drop h2
                  obtain ⟨f', rfl⟩ : ∃ f', f = f' + 1 := ⟨f - 1, by omega⟩
                  have hy := ih y yb l q (q + (yb.length + rb'.length)) hyb (by omega) (by omega) g1 (by omega)
                  have hcy : cutL l q (q + yb.length) = yb := pre_cut g1
                  rw [rdK_ok (by omega) hy]
                  rw [← List.append_assoc] at h1
                  obtain ⟨r', k1, k2⟩ := ihr f' (q + yb.length) q (acc ++ [y]) (rr && (decide (acc.length = 0) || decide (Go.Lib.compareBytes (cutL l last q) (cutL l q (q + yb.length)) ≤ 0))) (some yb) (ab ++ yb) rb' (by omega) h1 g2 (by omega) (by omega)
                    (fun z hz => by cases hz; exact ⟨hcy, by simp⟩) (fun hz => by cases hz) (fun hs => by
                      rw [h6 hs, Bool.true_and, hcy]
                      cases lo with
                      | none => rw [h5' rfl]; rfl
                      | some z =>
                        obtain ⟨hz1, hz2⟩ := h5 z rfl
                        rw [hz1]
                        rw [hs, Bool.true_and] at hab
                        simp only [aboveB, decide_eq_true_eq] at hab
                        rw [decide_eq_true (show Go.Lib.compareBytes z yb ≤ 0 by omega), Bool.or_true])
                  refine ⟨r', ?_, k2⟩
                  rw [Nat.add_assoc] at k1
                  rw [k1, List.append_assoc]
                  rfl
          obtain ⟨r', k1, k2⟩ := key ks inb.length (p + (headB c t true inb.length).length) (p + (headB c t true inb.length).length) [] true none [] inb (by omega) (by simpa using hin) hp2 (by omega) (Nat.le_refl _) (fun z hz => by cases hz) (fun _ => rfl) (fun _ => rfl)
          rw [rdN_cons hH, k1]
          simp only [List.nil_append]
          rw [if_pos, ec, et]
          · congr 2
            omega
          · by_cases hs : (decide (c = 0) && decide (t = 17)) = true
            · rw [k2 hs]; rfl
            · simp only [Bool.and_eq_true, decide_eq_true_eq, not_and] at hs
              by_cases hc0 : c = 0
              · rw [decide_eq_true (show t.toNat ≠ 17 by have := hs hc0; omega)]; simp
              · rw [decide_eq_true (show c.toNat ≠ 0 by omega)]; simp
    · cases hb
theorem okN_of {c t : Int} {k : Bool} {bs : List UInt8} {ks : List Nd} (hm : mayB c t k = true) (h1 : k = true → bs = []) (h2 : k = false → ks = [] ∧ (decide (c = 2) || valB t bs) = true) : okN c t k bs ks = true := by
  unfold okN
  have hc := (mayB_bd hm).1
  rw [hm]
  cases k with
  | true => rw [h1 rfl]; simp
  | false =>
    obtain ⟨h3, h4⟩ := h2 rfl
    subst h3
    rcases hc with hc | hc
    · subst hc; simpa using h4
    · simp [hc]
theorem rdN_inv : ∀ (d : Nat) (l : List UInt8) (p e : Nat) (x : Nd) (q : Nat), e ≤ l.length → rdN d l p e = .ok (x, q) → x.put = some (cutL l p q) ∧ x.rk ≤ d := by
  intro d
  induction d with
  | zero => intro l p e x q _ h; simp only [rdN] at h; split at h <;> cases h
  | succ d ih =>
    intro l p e x q he h
    simp only [rdN] at h
    split at h
    · cases h
    · rename_i c t k n q0 hh
      have h0 := rdH_le hh
      obtain ⟨hm, hcut, hn⟩ := rdH_inv hh he
      split at h
      · rename_i hk
        subst hk
        split at h
        · rename_i hv
          injection h with h; injection h with h1 h2
          subst h1 h2
          have hok : okN c t false (cutL l q0 (q0 + n)) [] = true := okN_of hm (fun hh => by cases hh) (fun _ => ⟨rfl, by rw [show decide ((c : Int) = 2) = decide (c = 2) from decide_eq_decide.2 (by omega)]; exact hv⟩)
          refine ⟨?_, by simp [Nd.rk, Nd.rkL]⟩
          simp only [Nd.put, hok, if_true, Nd.putL, Option.map_some]
          rw [cut_len (by omega) (by omega), show q0 + n - q0 = n by omega, ← hcut, cut_cut (by omega) (by omega)]
        · cases h
      · rename_i hk
        have hk : k = true := by simpa using hk
        subst hk
        have key : ∀ (f q1 : Nat) (acc : List Nd) (rr : Bool) (last : Nat) (ks : List Nd) (r' : Bool) (q2 : Nat) (lo : Option (List UInt8)) (set : Bool), q1 ≤ q0 + n → last ≤ q1 → q0 + n ≤ q1 + f → rdK (rdN d l) l (q0 + n) f q1 acc rr last = .ok (ks, r', q2) → (set = true → r' = true) →
            (∀ z, lo = some z → cutL l last q1 = z ∧ acc ≠ []) →
            ∃ r, ks = acc ++ r ∧ Nd.rkL r ≤ d ∧ q2 = q0 + n ∧ ∀ ab, Nd.putL set r lo ab = some (ab ++ cutL l q1 (q0 + n)) := by
          intro f
          induction f with
          | zero =>
            intro q1 acc rr last ks r' q2 lo set h1 h2 h3 h4 h5 h6
            simp only [rdK] at h4
            injection h4 with h4; injection h4 with h7 h8; injection h8 with h8 h9
            have hq : q1 = q0 + n := by omega
            refine ⟨[], by simp [h7], by simp [Nd.rkL], by omega, fun ab => ?_⟩
            simp [Nd.putL, cutL, hq]
          | succ f ihf =>
            intro q1 acc rr last ks r' q2 lo set h1 h2 h3 h4 h5 h6
            simp only [rdK] at h4
            split at h4
            · injection h4 with h4; injection h4 with h7 h8; injection h8 with h8 h9
              have hq : q1 = q0 + n := by omega
              refine ⟨[], by simp [h7], by simp [Nd.rkL], by omega, fun ab => ?_⟩
              simp [Nd.putL, cutL, hq]
            · split at h4
              · cases h4
              · rename_i y q3 hy
                have hyl := rdN_le d l q1 (q0 + n) y q3 hy
                obtain ⟨hyp, hyr⟩ := ih l q1 (q0 + n) y q3 (by omega) hy
                have hmono : ∀ (f q1 : Nat) (acc : List Nd) (rr : Bool) (last : Nat) (ks : List Nd) (r' : Bool) (q2 : Nat), rdK (rdN d l) l (q0 + n) f q1 acc rr last = .ok (ks, r', q2) → r' = true → rr = true := by
                  intro f
                  induction f with
                  | zero => intro q1 acc rr last ks r' q2 h hr; simp only [rdK] at h; injection h with h; injection h with _ h; injection h with h _; rw [h]; exact hr
                  | succ f ihm =>
                    intro q1 acc rr last ks r' q2 h hr
                    simp only [rdK] at h
                    split at h
                    · injection h with h; injection h with _ h; injection h with h _; rw [h]; exact hr
                    · split at h
                      · cases h
                      · have := ihm _ _ _ _ _ _ _ h hr
                        simp only [Bool.and_eq_true] at this
                        exact this.1
                have hr5 := fun hs => hmono _ _ _ _ _ _ _ _ h4 (h5 hs)
                obtain ⟨r, g1, g2, g3, g4⟩ := ihf q3 (acc ++ [y]) _ q1 ks r' q2 (some (cutL l q1 q3)) set (by omega) (by omega) (by omega) h4 h5 (fun z hz => by cases hz; exact ⟨rfl, by simp⟩)
                refine ⟨y :: r, by rw [g1, List.append_assoc]; rfl, by simp only [Nd.rkL]; omega, g3, fun ab => ?_⟩
                simp only [Nd.putL, hyp]
                rw [if_neg, g4, List.append_assoc, cut_cut (by omega) (by omega)]
                intro hs
                simp only [Bool.and_eq_true] at hs
                have := hr5 hs.1
                cases lo with
                | none => simp [aboveB] at hs
                | some z =>
                  obtain ⟨hz1, hz2⟩ := h6 z rfl
                  simp only [aboveB, decide_eq_true_eq] at hs
                  rw [hz1] at this
                  have hne : ¬ acc.length = 0 := fun hh => hz2 (List.eq_nil_of_length_eq_zero hh)
                  simp only [Bool.and_eq_true, Bool.or_eq_true, decide_eq_true_eq] at this
                  omega
        split at h
        · cases h
        · rename_i ks r p1 hK
          split at h
          · rename_i hr
            injection h with h; injection h with h1 h2
            subst h1 h2
            obtain ⟨r2, g1, g2, g3, g4⟩ := key n q0 [] true q0 ks r p1 none (decide ((c : Int) = 0) && decide ((t : Int) = 17)) (by omega) (by omega) (by omega) hK (fun hs => by
              simp only [Bool.and_eq_true, Bool.or_eq_true, decide_eq_true_eq] at hs hr
              rcases hr with hr | hr
              · exact hr
              · omega) (fun z hz => by cases hz)
            simp only [List.nil_append] at g1
            subst g1 g3
            have hok : okN c t true [] ks = true := okN_of hm (fun _ => rfl) (fun hh => by cases hh)
            refine ⟨?_, by simp only [Nd.rk]; omega⟩
            have hp := g4 []
            simp only [List.nil_append] at hp
            simp only [Nd.put, hok, if_true, hp, Option.map_some]
            rw [cut_len (by omega) (by omega), show q0 + n - q0 = n by omega, ← hcut, cut_cut (by omega) (by omega)]
          · cases h
theorem rdH_err {l : List UInt8} {p e : Nat} {ok : Bool} {a c : Int} (h : rdH l p e ok = .error (a, c)) : a = p ∧ c ≠ 0 := by
  unfold rdH at h
  split at h
  · injection h with h; injection h with h1 h2; omega
  · split at h
    · injection h with h; injection h with h1 h2; omega
    · split at h
      · rename_i c' hs
        injection h with h; injection h with h1 h2
        refine ⟨h1.symm, ?_⟩
        subst h2
        unfold rdS at hs
        (repeat' split at hs) <;> first | (injection hs with hs; omega) | cases hs
      · split at h
        · injection h with h; injection h with h1 h2; omega
        · split at h
          · injection h with h; injection h with h1 h2; omega
          · cases h
theorem rdN_at : ∀ (d : Nat) (l : List UInt8) (p e : Nat) (a c : Int), p ≤ e → rdN d l p e = .error (a, c) → p ≤ a ∧ a ≤ e ∧ c ≠ 0 := by
  intro d
  induction d with
  | zero =>
    intro l p e a c hpe h
    simp only [rdN] at h
    split at h
    · rename_i er hh; injection h with h; subst h; have := rdH_err hh; omega
    · injection h with h; injection h with h1 h2; omega
  | succ d ih =>
    intro l p e a c hpe h
    simp only [rdN] at h
    split at h
    · rename_i er hh; injection h with h; subst h; have := rdH_err hh; omega
    · rename_i c' t k n q hh
      have h0 := rdH_le hh
      split at h
      · split at h
        · cases h
        · injection h with h; injection h with h1 h2; omega
      · have key : ∀ (f q1 : Nat) (acc : List Nd) (rr : Bool) (last : Nat), p ≤ q1 → q1 ≤ q + n → rdK (rdN d l) l (q + n) f q1 acc rr last = .error (a, c) → p ≤ a ∧ a ≤ e ∧ c ≠ 0 := by
          intro f
          induction f with
          | zero => intro q1 acc rr last _ _ h; simp only [rdK] at h; cases h
          | succ f ihf =>
            intro q1 acc rr last g1 g2 h
            simp only [rdK] at h
            split at h
            · cases h
            · split at h
              · rename_i er hy
                injection h with h; subst h
                have := ih l q1 (q + n) a c g2 hy
                omega
              · rename_i y q3 hy
                have := rdN_le d l q1 (q + n) y q3 hy
                exact ihf _ _ _ _ (by omega) (by omega) h
        split at h
        · rename_i er hK
          injection h with h; subst h
          exact key _ _ _ _ _ (by omega) (by omega) hK
        · split at h
          · cases h
          · injection h with h; injection h with h1 h2; omega
def ndZ : Nd := .mk 0 0 false [] []
def rdTop (l : List UInt8) : Nd × Int × Int :=
  if 16777216 < l.length then (ndZ, 0, 2) else match rdN 32 l 0 l.length with
    | .error (a, c) => (ndZ, a, c)
    | .ok (x, q) => if q < l.length then (ndZ, q, 35) else (x, 0, 0)
theorem wr_cases (x : Nd) : (x.wr.2 = 0 ∧ x.put = some x.wr.1 ∧ x.rk ≤ 32 ∧ x.wr.1.length ≤ 16777216) ∨ x.wr.2 ≠ 0 := by
  unfold Nd.wr
  cases hx : x.put with
  | none => exact .inr (by simp)
  | some b =>
    simp only
    split
    · exact .inr (by simp)
    · split
      · exact .inr (by simp)
      · exact .inl ⟨rfl, rfl, by omega, by simp; omega⟩
theorem wr_rdTop {l : List UInt8} {x : Nd} {a : Int} (h : rdTop l = (x, a, 0)) : x.wr = (l, 0) := by
  unfold rdTop at h
  split at h
  · injection h with _ h; injection h with _ h; omega
  · split at h
    · rename_i a' c hh
      have := rdN_at 32 l 0 l.length a' c (by omega) hh
      injection h with _ h; injection h with _ h; omega
    · rename_i y q hh
      split at h
      · injection h with _ h; injection h with _ h; omega
      · injection h with h _
        subst h
        have hle := rdN_le 32 l 0 l.length y q hh
        obtain ⟨h1, h2⟩ := rdN_inv 32 l 0 l.length y q (Nat.le_refl _) hh
        have hq : q = l.length := by omega
        subst hq
        have hc : cutL l 0 l.length = l := by simp [cutL]
        rw [hc] at h1
        unfold Nd.wr
        rw [h1]
        simp only
        rw [if_neg (by omega), if_neg (by omega)]
theorem Nd.put_sz : ∀ (n : Nat) (x : Nd) (b : List UInt8), x.rk ≤ n → x.put = some b → x.sz ≤ b.length := by
  intro n
  induction n with
  | zero => intro x b hx; cases x; simp [Nd.rk] at hx
  | succ n ih =>
    intro x b hx hb
    cases x with
    | mk c t k bs ks =>
      simp only [Nd.rk] at hx
      have key : ∀ (l : List Nd) (set : Bool) (last : Option (List UInt8)) (acc b : List UInt8), Nd.rkL l ≤ n → Nd.putL set l last acc = some b → acc.length + Nd.szL l ≤ b.length := by
        intro l
        induction l with
        | nil => intro set last acc b _ hb; simp only [Nd.putL, Option.some.injEq] at hb; subst hb; simp [Nd.szL]
        | cons y r ihr =>
          intro set last acc b hl hb
          simp only [Nd.rkL] at hl
          simp only [Nd.putL] at hb
          split at hb
          · cases hb
          · rename_i b1 hb1
            split at hb
            · cases hb
            · have h1 := ih y b1 (by omega) hb1
              have h2 := ihr _ _ _ _ (by omega) hb
              simp only [Nd.szL, List.length_append] at h2 ⊢
              omega
      simp only [Nd.put] at hb
      split at hb
      · cases hp : Nd.putL (decide (c = 0) && decide (t = 17)) ks none bs with
        | none => simp [hp] at hb
        | some b1 =>
          simp only [hp, Option.map_some, Option.some.injEq] at hb
          subst hb
          have h1 := key ks _ _ _ _ (by omega) hp
          have h2 := headB_len c t k b1.length
          simp only [List.length_append, Nd.sz]
          omega
      · cases hb
theorem wr_sz {x : Nd} {b : List UInt8} (h : x.wr = (b, 0)) : x.sz ≤ b.length ∧ b.length ≤ 16777216 := by
  rcases wr_cases x with ⟨_, h1, h2, h3⟩ | hh
  · rw [h] at h1 h3
    exact ⟨Nd.put_sz _ x b (Nat.le_refl _) h1, h3⟩
  · rw [h] at hh; exact absurd rfl hh
end Go.Proofs.YtmngjbefnloljaaGreatDoor
namespace Go.Proofs.YtmngjbefnloljaaGreatDoor
open Go Go.RowKit
def LeaveP (P : Program) (e : Env) (m : Nat) (fn : Func) (R : Ending → World → Prop) (d : Deferred) (u : FrameMode) : Post := fun S h L => ∀ a w, Sat e m S h L a w → Leaves P fn a.tmps R [d] u w
def FnEnd (w0 : World) (h : Part) (Li : List Ent) (R : Ending → Part → List Ent → Prop) : Ending → World → Prop := fun e w' => ∃ h' Lo, R e h' Lo ∧ Ok ⟨w0, (· ∈ keys Li), h, []⟩ h' Lo w'
theorem Ok.ds {e : Env} {h : Part} {L : List Ent} {w : World} (k : Ok e h L w) (ds : List Deferred) : Ok { e with ds := ds } h L w := ⟨k.os, k.tape, k.output, k.size, k.old, k.sub, k.le, k.fresh, k.own, k.key, k.nodup⟩
theorem Fn.introD {P : Program} {F m D t5 id : Nat} {fn : Func} {r0 rest : Code} {caps : Array Operand} {ty ty' : TypeId} {pos pos' : String} {af af' : Array Edge} {args : List Value} {h : Part} {Li : List Ent} {R : Ending → Part → List Ent → Prop}
    (hf : P.funcs[F]? = some fn) (hb : fn.body = some (.seq r0 (.seq (.region id #[⟨some t5, .makeFunc (.func D) #[] caps, ty, pos, af, none⟩, ⟨none, .defer { callee := .value (.tmp t5), args := #[], argTypes := #[] }, ty', pos', af', none⟩] false) rest)))
    (hm : fn.ntmps = m) (hl : Nat.ble args.length m = true) (ht : Nat.blt t5 m = true)
    (k : ∀ w0, J ⟨P, ⟨w0, (· ∈ keys Li), h, []⟩, m, fun _ _ _ => False, fun _ _ _ _ => False⟩ r0
      (fun S1 h1 L1 => ∃ vs, evl S1 caps.toList = some vs ∧
        J ⟨P, ⟨w0, (· ∈ keys Li), h, [⟨.fn (.func D) vs.toArray, #[]⟩]⟩, m, LeaveP P ⟨w0, (· ∈ keys Li), h, [⟨.fn (.func D) vs.toArray, #[]⟩]⟩ m fn (FnEnd w0 h Li R) ⟨.fn (.func D) vs.toArray, #[]⟩ .returning,
          fun c => LeaveP P ⟨w0, (· ∈ keys Li), h, [⟨.fn (.func D) vs.toArray, #[]⟩]⟩ m fn (FnEnd w0 h Li R) ⟨.fn (.func D) vs.toArray, #[]⟩ (.panicking c)⟩ rest
          (LeaveP P ⟨w0, (· ∈ keys Li), h, [⟨.fn (.func D) vs.toArray, #[]⟩]⟩ m fn (FnEnd w0 h Li R) ⟨.fn (.func D) vs.toArray, #[]⟩ .returning) NoExit ((t5, .func (.func D) #[] vs.toArray) :: S1) h1 L1) NoExit (argSig 0 args) h Li) : Fn P F args h Li R := fun w hw => by
  have hl' : args.length ≤ m := by simpa using hl
  refine calls_of_wp_defers hf hb ?_
  have hs : Sat ⟨w, (· ∈ keys Li), h, []⟩ m (argSig 0 args) h Li ⟨args.toArray ++ Array.replicate (fn.ntmps - args.toArray.size) undef, []⟩ w := by
    refine ⟨by simp [hm]; omega, fun s v hv => ?_, rfl, hw⟩
    obtain ⟨_, h2⟩ := argSig_look _ _ _ _ hv
    have hlt := (List.getElem?_eq_some_iff.1 h2).1
    simp only [Nat.sub_zero] at h2 hlt
    rw [Array.getElem?_append_left (by simpa using hlt)]
    simpa using h2
  refine wp_seq (wpm (k w _ w hs) (fun ex a' w' q => ?_))
  cases ex with
  | normal =>
    obtain ⟨S1, h1, L1, s1, vs, hvs, k1⟩ := q
    show Code.wp P _ _ a' w'
    refine wp_seq ?_
    have hcap : caps.map a'.eval = vs.toArray := by
      have := evl_spec s1 hvs
      rw [← this]
      apply Array.ext'
      simp
    have hreg := wp_region_lit (P := P) (id := id) (Q := Exit.then (fun a2 w2 => rest.wp P (bodyPostD P fn (FnEnd w h Li R)) a2 w2) (bodyPostD P fn (FnEnd w h Li R))) (a := a') (w := w')
      (l := [⟨some t5, .makeFunc (.func D) #[] caps, ty, pos, af, none⟩, ⟨none, .defer { callee := .value (.tmp t5), args := #[], argTypes := #[] }, ty', pos', af', none⟩]) ?_
    · exact hreg
    · refine wpList_val (v := .func (.func D) #[] vs.toArray) (w' := w') rfl ?_ ?_
      · simp [execOp, Instr.makeFunc, hcap]
      · unfold wpList
        rw [if_pos (by simp [Region.wanted])]
        refine .inl ?_
        have s2 := s1.put ht (.func (.func D) #[] vs.toArray) s1.ok
        have ht5 : (a'.put (some t5) (.func (.func D) #[] vs.toArray)).eval (.tmp t5) = .func (.func D) #[] vs.toArray := s2.eval (x := .tmp t5) (by simp [ev, look])
        have hr : (execOp (a'.put (some t5) (.func (.func D) #[] vs.toArray)).eval ⟨none, .defer { callee := .value (.tmp t5), args := #[], argTypes := #[] }, ty', pos', af', none⟩).run P w' = .ok (.defer ⟨.fn (.func D) vs.toArray, #[]⟩) w' := by
          simp [execOp, resolve, ht5, Deferred.ofValue]
        simp only [Oper.wp, hr, Oper.upon]
        unfold wpList
        show Code.wp P rest _ _ w'
        have s3 : Sat ⟨w, (· ∈ keys Li), h, [⟨.fn (.func D) vs.toArray, #[]⟩]⟩ m ((t5, .func (.func D) #[] vs.toArray) :: S1) h1 L1 ({ a'.put (some t5) (.func (.func D) #[] vs.toArray) with defers := ⟨.fn (.func D) vs.toArray, #[]⟩ :: (a'.put (some t5) (.func (.func D) #[] vs.toArray)).defers }.put none undef) w' := by
          exact ⟨by simpa [Act.put] using s2.size, fun s v hv => by simpa [Act.put] using s2.slot s v hv, by have := s2.ds; simpa [Act.put] using this, s2.ok.ds _⟩
        refine wpm (k1 _ _ s3) (fun ex2 a2 w2 q2 => ?_)
        cases ex2 with
        | normal => obtain ⟨S, h', L', s', hh⟩ := q2; have := hh _ _ s'; have e1 := s'.ds; simp only [bodyPostD, e1]; exact this
        | ret => obtain ⟨S, h', L', s', hh⟩ := q2; have := hh _ _ s'; have e1 := s'.ds; simp only [bodyPostD, e1]; exact this
        | panic c => obtain ⟨S, h', L', s', hh⟩ := q2; have := hh _ _ s'; have e1 := s'.ds; simp only [bodyPostD, e1]; exact this
        | exit i => obtain ⟨_, _, _, _, hh⟩ := q2; exact hh.1.elim
        | goto l => obtain ⟨_, _, _, _, hh⟩ := q2; exact hh.elim
        | outgrown => exact False.elim q2
  | ret => obtain ⟨_, _, _, _, hh⟩ := q; exact hh.elim
  | panic c => obtain ⟨_, _, _, _, hh⟩ := q; exact hh.elim
  | exit i => obtain ⟨_, _, _, _, hh⟩ := q; exact hh.1.elim
  | goto l => obtain ⟨_, _, _, _, hh⟩ := q; exact hh.elim
  | outgrown => exact False.elim q
theorem J.pfalse {P : Program} {e : Env} {m : Nat} {r : Post} {p : List PanicEntry → Post} {c : Code} {n : Post} {x : Nat → Post} {S : Sig} {h : Part} {L : List Ent} (k : J ⟨P, e, m, r, fun _ _ _ _ => False⟩ c n x S h L) : J ⟨P, e, m, r, p⟩ c n x S h L := fun a w s =>
  wpm (k a w s) (fun ex a' w' q => by
    cases ex with
    | panic c => obtain ⟨_, _, _, _, hh⟩ := q; exact hh.elim
    | _ => exact q)
inductive Asks : FrameMode → Value → FrameMode → Prop where
  | none : Asks .returning .nilIface .returning
  | some {v : Value} : Asks (.panicking [{ v := v, recovered := false }]) v (.panicking [{ v := v, recovered := true }])
theorem callsD_rec {P : Program} {D id t3 t2 m : Nat} {fn : Func} {rest : Code} {ty ty' : TypeId} {pos pos' : String} {af af' : Array Edge} {e : Env} {h : Part} {L : List Ent} {w : World} {vs : List Value} {x : Value} {u u' : FrameMode} {post : Post}
    (hf : P.funcs[D]? = some fn) (hb : fn.body = some (.seq (.region id #[⟨some t3, .call { callee := .builtin .recover, args := #[], argTypes := #[] }, ty, pos, af, none⟩, ⟨some t2, .assign (.tmp t3), ty', pos', af', none⟩] false) rest))
    (hm : fn.ntmps = m) (hr : fn.results = #[]) (hl : Nat.ble vs.length m = true) (ht3 : Nat.blt t3 m = true) (ht2 : Nat.blt t2 m = true) (hu : Asks u x u')
    (ok : Ok e h L w) (he : e.ds = [])
    (k : J ⟨P, e, m, fun _ _ _ => False, fun _ _ _ _ => False⟩ rest post NoExit ((t2, x) :: (t3, x) :: argSig 0 vs) h L) :
    CallsD P D vs.toArray u w (fun e1 u1 w1 => (∃ v, e1 = .returned v) ∧ u1 = u' ∧ ∃ S h1 L1, post S h1 L1 ∧ Ok e h1 L1 w1) := by
  have hl' : vs.length ≤ m := by simpa using hl
  refine callsD_of_wpS hf hb (fun c₀ cs hc => wpS_seq (wpS_region ?_))
  have s0 : Sat e m (argSig 0 vs) h L ⟨vs.toArray ++ Array.replicate (fn.ntmps - vs.toArray.size) undef, []⟩ w := by
    refine ⟨by simp [hm]; omega, fun s v hv => ?_, by simp [he], ok⟩
    obtain ⟨_, h2⟩ := argSig_look _ _ _ _ hv
    have hlt := (List.getElem?_eq_some_iff.1 h2).1
    simp only [Nat.sub_zero] at h2 hlt
    rw [Array.getElem?_append_left (by simpa using hlt)]
    simpa using h2
  generalize (⟨vs.toArray ++ Array.replicate (fn.ntmps - vs.toArray.size) undef, []⟩ : Act) = a0 at s0 ⊢
  have s1 := s0.put ht3 x s0.ok
  have s2 := s1.put ht2 x s1.ok
  have hx : (a0.put (some t3) x).eval (.tmp t3) = x := s1.eval (x := .tmp t3) (by simp [ev, look])
  have fin : ∀ cs', cs' = { c₀ with mode := u' } :: cs → rest.wpS P (bodyPostS P fn c₀ cs (fun e1 u1 w1 => (∃ v, e1 = .returned v) ∧ u1 = u' ∧ ∃ S h1 L1, post S h1 L1 ∧ Ok e h1 L1 w1)) ((a0.put (some t3) x).put (some t2) x) cs' w := fun cs' hcs => by
    refine wpS_of_wp (wpm (k _ _ s2) (fun ex a' w' q => ?_))
    cases ex with
    | normal =>
      obtain ⟨S, h1, L1, s', hh⟩ := q
      have hd := s'.ds
      simp only at hd
      exact ⟨by rw [hd, he], u', hcs, .tuple #[], results_none hr _ _ _, ⟨_, rfl⟩, rfl, S, h1, L1, hh, s'.ok⟩
    | ret => obtain ⟨_, _, _, _, hh⟩ := q; exact hh.elim
    | panic c => obtain ⟨_, _, _, _, hh⟩ := q; exact hh.elim
    | exit i => obtain ⟨_, _, _, _, hh⟩ := q; exact hh.1.elim
    | goto l => obtain ⟨_, _, _, _, hh⟩ := q; exact hh.elim
    | outgrown => exact False.elim q
  have hex : ∀ a : Act, (execOp a.eval ⟨some t3, .call { callee := .builtin .recover, args := #[], argTypes := #[] }, ty, pos, af, none⟩).run P w = .ok .recover w := fun a => by
    simp [execOp, resolve, invoke, builtin]
  have hex2 : (execOp (a0.put (some t3) x).eval ⟨some t2, .assign (.tmp t3), ty', pos', af', none⟩).run P w = .ok (.value x) w := by simp [execOp, hx]
  show wpOpsS P _ _ [0, 1] a0 (c₀ :: cs) w
  cases hu with
  | none =>
    have hrec : recoverD (c₀ :: cs) = none := by simp [recoverD, hc]
    simp only [wpOpsS, List.getElem?_toArray, List.getElem?_cons_zero, List.getElem?_cons_succ, Region.wanted, hex, hrec, hex2, Oper.upon, if_true]
    exact fin _ (by rw [← hc])
  | some =>
    have hrec : recoverD (c₀ :: cs) = some (x, { c₀ with mode := .panicking [{ v := x, recovered := true }] } :: cs) := by simp [recoverD, hc]
    simp only [wpOpsS, List.getElem?_toArray, List.getElem?_cons_zero, List.getElem?_cons_succ, Region.wanted, hex, hrec, hex2, Oper.upon, if_true]
    exact fin _ rfl
end Go.Proofs.YtmngjbefnloljaaGreatDoor
namespace Go.Proofs.YtmngjbefnloljaaGreatDoor
open Go Go.RowKit
theorem z31_ {p : Prop} (u : p := by first | rfl | assumption) : p := u
end Go.Proofs.YtmngjbefnloljaaGreatDoor
namespace Go.Proofs.YtmngjbefnloljaaGreatDoor
open Go Go.RowKit
theorem ag_163 : aggT Tryz.prog 163 = some (some 2) := by kernel_rfl
theorem ag_82 : aggT Tryz.prog 82 = some (some 2) := by kernel_rfl
theorem ca_107 : callT Tryz.prog 107 = true := by kernel_rfl
theorem pl_127 : plT Tryz.prog 127 = some ([.slice none 0 0, .int .i64 0], [(0, 1), (1, 1)]) := by kernel_rfl
theorem zr_163 : zeroT Tryz.prog 163 = some [.int .i64 0, .int .i64 0] := by kernel_rfl
theorem zr_82 : zeroT Tryz.prog 82 = some [.int .i64 0, .int .i64 0] := by kernel_rfl
theorem RunV.typeAssert {f : Fr} {S : Sig} {h : Part} {L : List Ent} {ty X T : TypeId} {xo : Operand} {v : Value} (hT : niT f.P T = true) (hx : ev S xo = some (.iface T v)) : RunV f S h L (.typeAssert xo X T true) ty (.tuple #[v, .bool true]) := fun a w s _ _ _ _ => by
  unfold niT at hT
  split at hT <;> try cases hT
  rename_i d hd hu
  cases d <;> first | (exact (hd _ rfl).elim) | simp [execOp, s.eval hx, Instr.typeAssert, run_underlying hu]
theorem caught_fn {a c : Int} {h : Part} : Pure Tryz.prog 107 [gvn a c] h (.agg #[.int .i64 a, .int .i64 c]) := by
  unfold gvn
  refine Pure.ofV ?_
  refine Fn.intro Tryz.func107 rfl Tryz.ntmps107 rfl (fun e he => ?_)
  refine J.weak [(0, _)] ⟨rfl, trivial⟩ ?_
  refine Sr ?_
  refine JL.alloc zr_82 rfl (fun b1 => ?_)
  refine JL.nil ?_
  refine Sr ?_
  refine Ru 1 rfl ?_
  refine JL.op (RunV.typeAssert ni_163 rfl) rfl ?_
  refine Ru 3 rfl ?_
  refine JL.alloc zr_163 rfl (fun b2 => ?_)
  refine JL.storeA ag_163 rfl rfl dl_ (by first | rfl) z31_ (by first | rfl) ?_
  refine Ru 1 rfl ?_
  refine Nk [4, 3, 2, 0] rfl ?_
  refine J.seq ?_
  refine Sr ?_
  refine Ru 2 rfl ?_
  refine JL.nil ?_
  refine Cs rfl (fun hc3 => ?_) fun hc3 => ?_
  ·
   refine Rg ?_
   refine Ru 1 rfl ?_
   refine JL.panic rfl ?_
   exact absurd hc3 (by decide)
  refine J.skip ?_
  refine Kp [3, 2] rfl ?_
  refine Sr ?_
  refine Ru 1 rfl ?_
  refine JL.op (RunV.ownA ag_82 rfl mm_ (by first | rfl)) rfl ?_
  refine JL.storeA ag_82 rfl rfl dl_ (by first | rfl) z31_ (by first | rfl) ?_
  refine JL.nil ?_
  exact J.retV (RetV.cell rfl rfl ag_82 mm_ (by first | rfl)) rfl
theorem ifE_ : ifT Tryz.prog 20 = true := by kernel_rfl
def tailC : Code → Code
  | .seq _ c => c
  | c => c
theorem read1_none {e : Env} {h : Part} {L : List Ent} {bN bF : Nat} : J ⟨Tryz.prog, e, 9, fun _ _ _ => False, fun _ _ _ _ => False⟩ (tailC (Tryz.f106.body.getD .skip)) (fun _ h1 L1 => h1 = h ∧ L1 = L) NoExit [(2, .nilIface), (0, .pointer (some ⟨bN, 0, none⟩)), (1, .pointer (some ⟨bF, 0, none⟩))] h L := by
  skip
  refine Sr ?_
  refine Ru 1 rfl ?_
  refine JL.op (RunV.neq_nil_nil ifE_ rfl) rfl ?_
  refine JL.nil ?_
  refine J.cond_f rfl ?_
  refine J.skip ?_
  exact ⟨rfl, rfl⟩
theorem read1_some {e : Env} {h : Part} {L : List Ent} {bN bF : Nat} {a c : Int} {csN csF : List Value} (hN : csN.length = 5) (hF : csF.length = 2) : J ⟨Tryz.prog, e, 9, fun _ _ _ => False, fun _ _ _ _ => False⟩ (tailC (Tryz.f106.body.getD .skip))
    (fun _ h1 L1 => h1 = h ∧ L1 = .blk bF 82 [.int .i64 a, .int .i64 c] :: .blk bN 75 [.int .i64 0, .int .i64 0, .bool false, .slice none 0 0, .slice none 0 0] :: L) NoExit [(2, gvn a c), (0, .pointer (some ⟨bN, 0, none⟩)), (1, .pointer (some ⟨bF, 0, none⟩))] h (.blk bF 82 csF :: .blk bN 75 csN :: L) := by
  skip
  refine Sr ?_
  refine Ru 1 rfl ?_
  refine JL.op (RunV.neq_iface_nil ifE_ rfl) rfl ?_
  refine JL.nil ?_
  refine J.cond_t rfl ?_
  refine Rg ?_
  refine JL.op (RunV.build (cs := [.int .i64 0, .int .i64 0, .bool false, .slice none 0 0, .slice none 0 0]) pl_75 rfl rfl) rfl ?_
  refine Ru 1 rfl ?_
  refine JL.callP ca_107 rfl (caught_fn) rfl ?_
  refine JL.storeA ag_75 rfl rfl dl_ z22_ z17_ z6_ ?_
  refine JL.storeA ag_82 rfl rfl dl_ (by first | rfl) z31_ (by first | rfl) ?_
  refine JL.nil ?_
  exact ⟨rfl, rfl⟩
abbrev rdD (bN bF : Nat) : Deferred := ⟨.fn (.func 106) #[.pointer (some ⟨bN, 0, none⟩), .pointer (some ⟨bF, 0, none⟩)], #[]⟩
section
variable {w0 : World} {h0 h : Part} {S : Sig} {L L1 L2 : List Ent} {bN bF : Nat} {csN csF : List Value} {R : Ending → Part → List Ent → Prop}
theorem rd_invoke (w : World) : (invoke (rdD bN bF).target (rdD bN bF).args).run Tryz.prog w = .ok (.enter 106 #[.pointer (some ⟨bN, 0, none⟩), .pointer (some ⟨bF, 0, none⟩)]) w := by
  have := run_call (P := Tryz.prog) (F := 106) (by kernel_rfl) #[.pointer (some ⟨bN, 0, none⟩), .pointer (some ⟨bF, 0, none⟩)] w
  simp [invoke, rdD, this]
theorem rd_leave (h2 : look S 2 = some (.pointer (some ⟨bN, 0, none⟩))) (h3 : look S 3 = some (.pointer (some ⟨bF, 0, none⟩))) (uN : Del (.blk bN 75 csN) L L1) (uF : Del (.blk bF 82 csF) L1 L2) (hN : csN.length = 5) (hF : csF.length = 2)
    (hR : R (.returned (.tuple #[.agg csN.toArray, .agg csF.toArray])) h []) :
    LeaveP Tryz.prog ⟨w0, (· ∈ keys []), h0, [rdD bN bF]⟩ 33 Tryz.f68 (FnEnd w0 h0 [] R) (rdD bN bF) .returning S h L := fun a w s => by
  have okp := s.ok.perm (uN.perm.trans (uF.perm.cons _))
  refine leaves_cons (by simp) (rd_invoke w) ((callsD_rec (e := ⟨w0, (· ∈ keys []), h0, []⟩) (vs := [.pointer (some ⟨bN, 0, none⟩), .pointer (some ⟨bF, 0, none⟩)]) Tryz.func106 rfl Tryz.ntmps106 rfl rfl rfl rfl .none (okp.ds []) rfl (J.weak [(2, _), (0, _), (1, _)] ⟨rfl, rfl, rfl, trivial⟩ read1_none)).mono ?_)
  rintro e u w' ⟨⟨v, rfl⟩, rfl, S', h1, L1, ⟨rfl, rfl⟩, ok⟩
  have s' : Sat ⟨w0, (· ∈ keys []), h0, [rdD bN bF]⟩ 33 S h1 _ a w' := s.with (ok.ds _)
  exact ⟨_, RetV.cell2 rfl h2 ag_75 (List.mem_cons_self ..) hN h3 ag_82 (List.mem_cons_of_mem _ (List.mem_cons_self ..)) hF a w' s', h1, [], hR, ok.drop (List.nil_sublist _)⟩
theorem rd_pan {a c : Int} (h2 : look S 2 = some (.pointer (some ⟨bN, 0, none⟩))) (h3 : look S 3 = some (.pointer (some ⟨bF, 0, none⟩))) (uF : Del (.blk bF 82 csF) L L1) (uN : Del (.blk bN 75 csN) L1 L2) (hN : csN.length = 5) (hF : csF.length = 2)
    (hR : R (.returned (.tuple #[.agg #[.int .i64 0, .int .i64 0, .bool false, .slice none 0 0, .slice none 0 0], .agg #[.int .i64 a, .int .i64 c]])) h []) :
    LeaveP Tryz.prog ⟨w0, (· ∈ keys []), h0, [rdD bN bF]⟩ 33 Tryz.f68 (FnEnd w0 h0 [] R) (rdD bN bF) (.panicking [{ v := gvn a c, recovered := false }]) S h L := fun ac w s => by
  have okp := s.ok.perm (uF.perm.trans (uN.perm.cons _))
  refine leaves_cons (by simp) (rd_invoke w) ((callsD_rec (e := ⟨w0, (· ∈ keys []), h0, []⟩) (vs := [.pointer (some ⟨bN, 0, none⟩), .pointer (some ⟨bF, 0, none⟩)]) Tryz.func106 rfl Tryz.ntmps106 rfl rfl rfl rfl .some (okp.ds []) rfl (J.weak [(2, _), (0, _), (1, _)] ⟨rfl, rfl, rfl, trivial⟩ (read1_some hN hF))).mono ?_)
  rintro e u w' ⟨⟨v, rfl⟩, rfl, S', h1, L1, ⟨rfl, rfl⟩, ok⟩
  have s' : Sat ⟨w0, (· ∈ keys []), h0, [rdD bN bF]⟩ 33 S h1 _ ac w' := s.with (ok.ds _)
  exact ⟨_, RetV.cell2 rfl h2 ag_75 (List.mem_cons_of_mem _ (List.mem_cons_self ..)) rfl h3 ag_82 (List.mem_cons_self ..) rfl ac w' s', h1, [], hR, ok.drop (List.nil_sublist _)⟩
end
theorem read_fn {a : Option Addr} {c : Nat} {l : List UInt8} {h : Part} (hl : SlR u8R 1 h a c l) (hT : Tabs h) :
    FnR Tryz.prog 68 [.slice a l.length c] h (fun v h' => ∃ cs, v = .tuple #[.agg (List.toArray cs), .agg #[.int .i64 (rdTop l).2.1, .int .i64 (rdTop l).2.2]] ∧ NdR h' cs (rdTop l).1) := by
  have hb := hl.big
  refine Fn.introD Tryz.func68 rfl Tryz.ntmps68 rfl rfl (fun w0 => ?_)
  refine J.region ?_
  refine JL.alloc zr_75 rfl (fun bN => ?_)
  refine JL.alloc zr_82 rfl (fun bF => ?_)
  refine JL.nil ⟨_, rfl, ?_⟩
  skip
  refine J.seq ?_
  refine Sr ?_
  refine Ru 3 rfl ?_
  refine JL.nil ?_
  refine Cs rfl (fun hc1 => ?_) fun hc1 => ?_
  ·
   refine Sr ?_
   refine JL.op (RunV.build (cs := [.int .i64 0, .int .i64 0, .bool false, .slice none 0 0, .slice none 0 0]) pl_75 rfl rfl) rfl ?_
   refine JL.op (RunV.build (cs := [.int .i64 0, _]) pl_82 rfl rfl) rfl ?_
   refine JL.storeA ag_75 rfl rfl dl_ z22_ z17_ z6_ ?_
   refine JL.storeA ag_82 rfl rfl dl_ (by first | rfl) z31_ (by first | rfl) ?_
   refine Nk [3, 2, 0] rfl ?_
   exact J.ret (rd_leave rfl rfl (by repeat first | exact Del.here | apply Del.there) (by repeat first | exact Del.here | apply Del.there) rfl rfl ⟨_, rfl, rfl, _, by unfold rdTop; rw [if_pos (by omega)], by unfold rdTop; rw [if_pos (by omega)]; exact NdR.of SlR.nil_ SlR.nil_⟩)
  refine J.skip ?_
  refine Kp [3, 2, 0] rfl ?_
  refine Sr ?_
  refine Ru 1 rfl ?_
  refine JL.op (RunV.build (cs := [_, .int .i64 0]) pl_127 rfl rfl) rfl ?_
  refine JL.box rfl rfl rfl (fun b2 => ?_)
  refine Ru 1 rfl ?_
  refine JL.nil ?_
  refine Sr ?_
  refine Ru 3 rfl ?_
  refine JL.call_ ca_108 rfl (node_rd 32 l 0 l.length _ a c _ hl hT (by omega) (by omega) (by omega)) pt_ rfl (fun _ _ hh => (NodeR.out hh).elim) (fun ch3 h3 Lo3 hle3 hR3 => ?_) (fun v3 h3 Lo3 hle3 hR3 => ?_)
  ·
   have hR3 := NodeR.pan hR3
   obtain ⟨xa, xc, hxe, rfl⟩ := hR3; have hLo : Lo3 = [] := (by unfold NodeR at hR3; rw [hxe] at hR3; exact hR3.2); subst hLo; exact rd_pan rfl rfl (by repeat first | exact Del.here | apply Del.there) (by repeat first | exact Del.here | apply Del.there) rfl rfl ⟨_, rfl, rfl, _, by unfold rdTop; rw [if_neg (by omega), hxe], by unfold rdTop; rw [if_neg (by omega), hxe]; exact NdR.of SlR.nil_ SlR.nil_⟩
  obtain ⟨x, q, xcs, hxs, rfl, hNdx, rfl⟩ := NodeR.ret hR3
  replace hl := hl.mono hle3
  replace hT := hT.mono hle3
  refine JL.storeA ag_75 rfl rfl dl_ z22_ z17_ z6_ ?_
  refine Nk [4, 3, 2, 0] rfl ?_
  refine J.seq ?_
  refine Sr ?_
  refine Ru 3 rfl ?_
  refine JL.op (RunV.own1 ag_3 rfl mm_ rfl) rfl ?_
  refine Ru 3 rfl ?_
  refine Nk [24, 4, 3, 2] rfl ?_
  refine Cs rfl (fun hc4 => ?_) fun hc4 => ?_
  ·
   refine J.pfalse ?_
   refine J.seq ?_
   refine J.held ([.blk b2 127 [.slice a l.length c, .int .i64 q]]) 8 mixed_ rfl (fun h00 => ?_)
   refine JH.take 0 rfl (by kernel_rfl) (by kernel_rfl) (by kernel_rfl) (fun _ _ _ _ hh => hh) (br_ h00) (RunV.build (cs := [.int .i64 0, .int .i64 0, .bool false, .slice none 0 0, .slice none 0 0]) pl_75 rfl rfl) rfl ?_
   refine JH.take 1 rfl (by kernel_rfl) (by kernel_rfl) (by kernel_rfl) (fun _ _ _ _ hh => hh) (br_ h00) (RunV.move rfl) rfl ?_
   refine JH.take 2 rfl (by kernel_rfl) (by kernel_rfl) (by kernel_rfl) (fun _ _ _ _ hh => hh) (br_ h00) (RunV.nilCheck rfl) rfl ?_
   refine JH.take 3 rfl (by kernel_rfl) (by kernel_rfl) (by kernel_rfl) (fun _ _ _ _ hh => hh) (br_ h00) (by first | exact RunV.fieldAt0 fo_127_1 rfl | exact RunV.fieldAt fo_127_1 rfl) rfl ?_
   refine JH.take 4 rfl (by kernel_rfl) (by kernel_rfl) (by kernel_rfl) (fun _ _ _ _ hh => hh) (br_ h00) (RunV.own1 ag_3 rfl mm_ rfl) rfl ?_
   refine JH.take 5 rfl (by kernel_rfl) (by kernel_rfl) (by kernel_rfl) (fun _ _ _ _ hh => hh) (br_ h00) (RunV.build (cs := [_, _]) pl_82 rfl rfl) rfl ?_
   refine JH.all1 6 (by kernel_rfl) rfl ?_
   unfold One
   refine JL.storeA ag_75 rfl rfl dl_ z22_ z17_ z6_ ?_
   refine JL.nil ⟨(br_ h00), ?_⟩
   refine JH.all1 7 (by kernel_rfl) rfl ?_
   unfold One
   refine JL.storeA ag_82 rfl rfl dl_ (by first | rfl) z31_ (by first | rfl) ?_
   refine JL.nil ⟨(br_ h00), ?_⟩
   refine JH.done (by kernel_rfl) ?_
   refine Kp [3, 2] rfl ?_
   exact J.ret (rd_leave rfl rfl (by repeat first | exact Del.here | apply Del.there) (by repeat first | exact Del.here | apply Del.there) rfl rfl ⟨_, rfl, rfl, _, by unfold rdTop; rw [if_neg (by omega), hxs]; simp only; rw [if_pos (by omega)], by unfold rdTop; rw [if_neg (by omega), hxs]; simp only; rw [if_pos (by omega)]; exact NdR.of SlR.nil_ SlR.nil_⟩)
  refine J.skip ?_
  refine Sr ?_
  refine JL.op (RunV.ownA ag_75 rfl mm_ z6_) rfl ?_
  refine JL.op (RunV.build (cs := [.int .i64 0, .int .i64 0]) pl_82 rfl rfl) rfl ?_
  refine JL.storeA ag_75 rfl rfl dl_ z22_ z17_ z6_ ?_
  refine JL.storeA ag_82 rfl rfl dl_ (by first | rfl) z31_ (by first | rfl) ?_
  refine Nk [3, 2] rfl ?_
  exact J.ret (rd_leave rfl rfl (by repeat first | exact Del.here | apply Del.there) (by repeat first | exact Del.here | apply Del.there) hNdx.len5 rfl ⟨_, rfl, rfl, _, by unfold rdTop; rw [if_neg (by omega), hxs]; simp only; rw [if_neg (by omega)], by unfold rdTop; rw [if_neg (by omega), hxs]; simp only; rw [if_neg (by omega)]; exact hNdx⟩)
end Go.Proofs.YtmngjbefnloljaaGreatDoor
namespace Go.Proofs.YtmngjbefnloljaaGreatDoor
open Go Go.RowKit
set_option maxRecDepth 100000
theorem samebytes_fn {a b : Option Addr} {ca cb : Nat} {l r : List UInt8} {h : Part} (hl : SlR u8R 1 h a ca l) (hr : SlR u8R 1 h b cb r) : Pure Tryz.prog 13 [.slice a l.length ca, .slice b r.length cb] h (.bool (decide (l = r))) := by
  refine Fn.intro Tryz.func13 rfl Tryz.ntmps13 rfl (fun e he => ?_)
  refine J.weak [(0, _), (1, _)] ⟨rfl, rfl, trivial⟩ ?_
  refine Sr ?_
  refine Ru 1 rfl ?_
  refine JL.nil ?_
  refine Sr ?_
  refine Ru 1 rfl ?_
  refine JL.op (RunV.strB (l := l) sb_22_9 rfl hl rfl) rfl ?_
  refine Ru 1 rfl ?_
  refine JL.op (RunV.strB (l := r) sb_22_9 rfl hr rfl) rfl ?_
  refine JL.op (RunV.eqlS rfl rfl) rfl ?_
  refine Ru 1 rfl ?_
  refine Nk [4] rfl ?_
  exact J.retP (RetV.one rfl rfl) rfl rfl
def amongI (k n : Int) : Int := if n < 1 then 0 else k % n
theorem amongI_bd (k n : Int) (h : 1 ≤ n) : 0 ≤ amongI k n ∧ amongI k n < n := by
  unfold amongI; rw [if_neg (by omega)]
  exact ⟨Int.emod_nonneg _ (by omega), Int.emod_lt_of_pos _ (by omega)⟩
theorem among_fn (k n : Int) (h : Part) (h0 : -9223372036854775808 ≤ k) (h1 : k ≤ 9223372036854775807) (h2 : n ≤ 9223372036854775807) : Pure Tryz.prog 50 [.int .i64 k, .int .i64 n] h (.int .i64 (amongI k n)) := by
  have key : 1 ≤ n → (Int.tmod k n < 0 → Int.tmod k n + n = k % n) ∧ (¬ Int.tmod k n < 0 → Int.tmod k n = k % n) ∧ -n < Int.tmod k n ∧ Int.tmod k n < n := fun hn => by
    have e1 : Int.tmod k n = k % n ∨ Int.tmod k n + n = k % n ∧ Int.tmod k n < 0 ∧ k % n ≠ 0 := by
      have hp := Int.emod_nonneg k (show n ≠ 0 by omega)
      have hlt := Int.emod_lt_of_pos k (show 0 < n by omega)
      by_cases hk : 0 ≤ k
      · left; exact Int.tmod_eq_emod_of_nonneg hk
      · rw [Int.tmod_eq_emod]
        split
        · left; omega
        · rename_i hnd
          right
          have hne : k % n ≠ 0 := fun hh => hnd (.inr (Int.dvd_of_emod_eq_zero hh))
          have hnn : (n.natAbs : Int) = n := by omega
          omega
    have hp := Int.emod_nonneg k (show n ≠ 0 by omega)
    have hlt := Int.emod_lt_of_pos k (show 0 < n by omega)
    omega
  refine Fn.intro Tryz.func50 rfl Tryz.ntmps50 rfl (fun e he => ?_)
  refine J.weak [(0, _), (1, _)] ⟨rfl, rfl, trivial⟩ ?_
  refine Sr ?_
  refine Ru 1 rfl ?_
  refine JL.nil ?_
  refine J.seq ?_
  refine Sr ?_
  refine Ru 2 rfl ?_
  refine JL.nil ?_
  refine Cs rfl (fun hc1 => ?_) fun hc1 => ?_
  ·
   refine Sr ?_
   refine Ru 1 rfl ?_
   refine JL.nil ?_
   exact J.retP (RetV.one rfl rfl) (by unfold amongI; rw [if_pos (by omega)]) rfl
  refine J.skip ?_
  refine Sr ?_
  obtain ⟨k1, k2, k3, k4⟩ := key (by omega)
  refine Ru 2 rfl ?_
  refine JL.op (RunV.rem rfl rfl (by omega)) rfl ?_
  refine Ru 1 rfl ?_
  refine Nk [0, 4, 1] rfl ?_
  refine J.seq ?_
  refine Sr ?_
  refine Ru 2 rfl ?_
  refine JL.nil ?_
  refine Cs rfl (fun hc2 => ?_) fun hc2 => ?_
  ·
   refine Rg ?_
   refine Ru 2 rfl ?_
   refine JL.op ai_ rfl ?_
   refine Ru 1 rfl ?_
   refine Nk [0, 4] rfl ?_
   refine Sr ?_
   refine Ru 2 rfl ?_
   refine JL.nil ?_
   exact J.retP (RetV.one rfl rfl) (by unfold amongI; rw [if_neg (by omega), k1 (by omega)]) rfl
  refine J.skip ?_
  refine Sr ?_
  refine Ru 2 rfl ?_
  refine Nk [4] rfl ?_
  exact J.retP (RetV.one rfl rfl) (by unfold amongI; rw [if_neg (by omega), k2 (by omega)]) rfl
theorem cells_lit {h : Part} {cs : List Value} {l : List UInt8} (hc : cs = u8s l) : CellsR u8R 1 h cs l := hc ▸ CellsR.of_u8
end Go.Proofs.YtmngjbefnloljaaGreatDoor
namespace Go.Proofs.YtmngjbefnloljaaGreatDoor
open Go Go.RowKit
def chain (c t : Int) : Nat → Nd
  | 0 => .mk 0 5 false [] []
  | i + 1 => .mk c t true [] [chain c t i]
end Go.Proofs.YtmngjbefnloljaaGreatDoor
