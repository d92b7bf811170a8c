/- Walks: the program's texts: characters, object identifiers. -/
import Derived.Test.YtmngjbefnloljaaDoorTxt
set_option linter.unusedSimpArgs false
set_option linter.unusedVariables false
set_option linter.constructorNameAsVariable false
namespace Go.Proofs.YtmngjbefnloljaaDoor
open Go Go.RowKit
theorem ca_118 : callT Tryd.prog 118 = true := by kernel_rfl

/-- The library's two tables of bytes. -/
def Tabs (h : Part) : Prop := ∃ C1 C2, h 1 = some C1 ∧ h 2 = some C2 ∧ (∀ c, c < 256 → C1[c]? = some (.int .u8 (Go.Lib.firstT c))) ∧
  (∀ i, i < 16 → C2[2 * i]? = some (.int .u8 (Go.Lib.accLo i)) ∧ C2[2 * i + 1]? = some (.int .u8 (Go.Lib.accHi i)))
theorem Tabs.mono {h h' : Part} (k : Tabs h) (hle : h.le h') : Tabs h' := by
  obtain ⟨C1, C2, h1, h2, h3⟩ := k
  exact ⟨C1, C2, hle _ _ h1, hle _ _ h2, h3⟩
theorem Tabs.tabs {h : Part} (k : Tabs h) {w : World} (s : Sub h w) : Go.Lib.Utf8Tabs 1 2 w := by
  obtain ⟨C1, C2, h1, h2, h3, h4⟩ := k
  exact ⟨fun c hc => s.cell h1 (h3 c hc), fun i hi => ⟨s.cell h2 (h4 i hi).1, s.cell h2 (h4 i hi).2⟩⟩
theorem decodeGo_list (s : List UInt8) (hs : s ≠ []) : Go.Lib.decodeGo ⟨s.toArray⟩ = (chr s, wid s) := by
  unfold Go.Lib.decodeGo
  rw [bsize, if_neg (fun h => hs (List.length_eq_zero_iff.1 h))]
  rfl
theorem decode_fn (s : List UInt8) (h : Part) (hT : Tabs h) (hs : s ≠ []) : Pure Tryd.prog 118 [.string ⟨s.toArray⟩] h (.tuple #[.int .i32 (chr s), .int .i64 (wid s)]) :=
  Pure.lib fun w hw => (Tryd.utf8_DecodeRuneInString ⟨s.toArray⟩ w (hT.tabs hw)).mono fun e w' ⟨he, hb⟩ => by
    rw [decodeGo_list s hs] at he
    exact ⟨he, hb⟩




/-- All characters, each with its width, are such. -/
def runes (ok : Nat → Nat → Bool) : List UInt8 → Nat → Bool
  | [], _ => true
  | _ :: r, k + 1 => runes ok r k
  | b :: r, 0 => ok (chr (b :: r)) (wid (b :: r)) && runes ok r (wid (b :: r) - 1)
theorem runes_drop (ok : Nat → Nat → Bool) : ∀ (l : List UInt8) (k : Nat), runes ok l k = runes ok (l.drop k) 0
  | [], k => by cases k <;> simp [runes]
  | b :: r, 0 => rfl
  | b :: r, k + 1 => by simp only [runes, List.drop_succ_cons]; exact runes_drop ok r k
theorem runes_end (ok : Nat → Nat → Bool) (s : List UInt8) (p : Nat) (h : s.length ≤ p) : runes ok (s.drop p) 0 = true := by
  rw [List.drop_of_length_le h]; rfl
theorem runes_step (ok : Nat → Nat → Bool) (s : List UInt8) (p : Nat) (h : p < s.length) : runes ok (s.drop p) 0 = (ok (chr (s.drop p)) (wid (s.drop p)) && runes ok (s.drop (p + wid (s.drop p))) 0) := by
  have e : s.drop p = s[p] :: s.drop (p + 1) := List.drop_eq_getElem_cons h
  have hw := wid_pos (s.drop p)
  rw [← List.drop_drop]
  generalize s.drop p = q at *
  subst e
  simp only [runes]
  rw [runes_drop]
  congr 2
  cases hk : wid (s[p] :: s.drop (p + 1)) with
  | zero => omega
  | succ k => simp only [Nat.add_sub_cancel, List.drop_succ_cons]

theorem ia5_fn (s : List UInt8) (h : Part) (h2 : s.length ≤ 140737488355328) : Pure Tryd.prog 90 [.string ⟨s.toArray⟩] h (.bool (runes (fun c _ => decide (c ≤ 127)) s 0)) := by
  refine Fn.intro Tryd.func90 rfl Tryd.ntmps90 rfl (fun e he => ?_)
  refine J.weak [(0, _)] ⟨rfl, trivial⟩ ?_
  refine Sr ?_
  refine Ru 1 rfl ?_
  refine JL.nil ?_
  refine J.seq ?_
  refine Sr ?_
  refine Ru 1 rfl ?_
  refine JL.range un_9 rfl rfl (fun b1 => ?_)
  refine JL.nil ?_
  refine J.block ?_
  refine J.loop (fun t_ S_ h_ L_ => ∃ (p : Nat), t_ = s.length - p ∧ S_ = [(6, .pointer (some ⟨b1, 0, none⟩))] ∧ h = h_ ∧ L_ = [.it b1 s p] ∧ (runes (fun c _ => decide (c ≤ 127)) s 0 = runes (fun c _ => decide (c ≤ 127)) (s.drop p) 0)) ⟨_, _, ?_, ⟨0, rfl, rfl, rfl, rfl, rfl⟩⟩ ?_
  ·
   repeat (first | exact trivial | refine ⟨rfl, ?_⟩)
  rintro _ _ _ _ ⟨p, rfl, rfl, rfl, rfl, he⟩
  have hw := wid_pos (s.drop p)
  refine Sr ?_
  refine JL.next rfl (by repeat (first | exact Del.here | apply Del.there)) rfl (fun hx2 => ?_) (fun hx2 => ?_)
  ·
   refine Ru 1 rfl ?_
   refine JL.nil ?_
   refine J.seq ?_
   refine J.cond_t rfl ?_
   refine J.skip ?_
   refine J.block ?_
   refine Sr ?_
   refine Ru 2 rfl ?_
   refine JL.nil ?_
   refine Sr ?_
   refine Ru 2 rfl ?_
   refine JL.nil ?_
   refine Cs rfl (fun hc3 => ?_) fun hc3 => ?_
   ·
    refine Sr ?_
    refine Ru 1 rfl ?_
    refine JL.nil ?_
    exact J.retP (RetV.one rfl rfl) (by first | (exfalso; omega) | (rw [he, runes_end _ _ _ (by omega)]) | (rw [he, runes_step _ s p (by omega), decide_eq_false (by omega)]; rfl)) rfl
   ·
    refine J.skip ?_
    refine ⟨_, ?_, _, ?_, ⟨p + wid (s.drop p), rfl, rfl, rfl, rfl, by rw [he, runes_step _ s p (by omega), decide_eq_true (by omega)]; rfl⟩⟩
    ·
     omega
    ·
     repeat (first | exact trivial | refine ⟨rfl, ?_⟩)
  ·
   refine Ru 1 rfl ?_
   refine JL.nil ?_
   refine J.seq ?_
   refine J.cond_f rfl ?_
   refine J.exit ?_
   refine Sr ?_
   refine Ru 1 rfl ?_
   refine JL.nil ?_
   exact J.retP (RetV.one rfl rfl) (by first | (exfalso; omega) | (rw [he, runes_end _ _ _ (by omega)]) | (rw [he, runes_step _ s p (by omega), decide_eq_false (by omega)]; rfl)) rfl




def prC (c : Nat) : Bool := decide (65 ≤ c ∧ c ≤ 90 ∨ 97 ≤ c ∧ c ≤ 122 ∨ 48 ≤ c ∧ c ≤ 57 ∨ c = 32 ∨ c = 39 ∨ c = 40 ∨ c = 41 ∨ c = 43 ∨ c = 44 ∨ c = 45 ∨ c = 46 ∨ c = 47 ∨ c = 58 ∨ c = 61 ∨ c = 63)
theorem printable_fn (s : List UInt8) (h : Part) (h2 : s.length ≤ 140737488355328) : Pure Tryd.prog 89 [.string ⟨s.toArray⟩] h (.bool (runes (fun c _ => prC c) s 0)) := by
  refine Fn.intro Tryd.func89 rfl Tryd.ntmps89 rfl (fun e he => ?_)
  refine J.weak [(0, _)] ⟨rfl, trivial⟩ ?_
  refine Sr ?_
  refine Ru 1 rfl ?_
  refine JL.nil ?_
  refine J.seq ?_
  refine Sr ?_
  refine Ru 1 rfl ?_
  refine JL.range un_9 rfl rfl (fun b1 => ?_)
  refine JL.nil ?_
  refine J.block ?_
  refine J.loop (fun t_ S_ h_ L_ => ∃ (p : Nat), t_ = s.length - p ∧ S_ = [(6, .pointer (some ⟨b1, 0, none⟩))] ∧ h = h_ ∧ L_ = [.it b1 s p] ∧ (runes (fun c _ => prC c) s 0 = runes (fun c _ => prC c) (s.drop p) 0)) ⟨_, _, ?_, ⟨0, rfl, rfl, rfl, rfl, rfl⟩⟩ ?_
  ·
   repeat (first | exact trivial | refine ⟨rfl, ?_⟩)
  rintro _ _ _ _ ⟨p, rfl, rfl, rfl, rfl, he⟩
  have hw := wid_pos (s.drop p)
  refine Sr ?_
  refine JL.next rfl (by repeat (first | exact Del.here | apply Del.there)) rfl (fun hx2 => ?_) (fun hx2 => ?_)
  ·
   refine Ru 1 rfl ?_
   refine JL.nil ?_
   refine J.seq ?_
   refine J.cond_t rfl ?_
   refine J.skip ?_
   refine J.block ?_
   refine Sr ?_
   refine Ru 2 rfl ?_
   refine JL.nil ?_
   refine J.block ?_
   refine J.seq ?_
   refine J.seq ?_
   refine J.meet [(10, .bool (decide (65 ≤ chr (s.drop p) ∧ chr (s.drop p) ≤ 90)))] [(4, _), (9, _), (8, _), (7, _), (6, _)] ⟨rfl, rfl, rfl, rfl, rfl, trivial⟩ ?_ ?_
   ·
    refine Rg ?_
    refine Ru 3 rfl ?_
    refine Bs 13 rfl (fun hc3 => ?_) fun hc3 => ?_
    ·
     refine Ru 4 rfl ?_
     refine JL.nil ?_
     refine ⟨rfl, rfl, ?_⟩
     repeat (first | exact trivial | refine ⟨rfl, ?_⟩ | refine ⟨(by exact some_bool (by first | exact decide_eq_decide.2 (by omega) | exact (decide_eq_false (by omega)).symm | exact (decide_eq_true (by omega)).symm | simp_all)), ?_⟩)
    ·
     refine Ru 4 rfl ?_
     refine JL.nil ?_
     refine ⟨rfl, rfl, ?_⟩
     repeat (first | exact trivial | refine ⟨rfl, ?_⟩ | refine ⟨(by exact some_bool (by first | exact decide_eq_decide.2 (by omega) | exact (decide_eq_false (by omega)).symm | exact (decide_eq_true (by omega)).symm | simp_all)), ?_⟩)
   ·
    refine Cs rfl (fun hc4 => ?_) fun hc4 => ?_
    ·
     refine J.skip ?_
     refine J.cond_t rfl ?_
     refine J.skip ?_
     refine ⟨_, ?_, _, ?_, ⟨p + wid (s.drop p), rfl, rfl, rfl, rfl, by rw [he, runes_step _ s p (by omega), prC, decide_eq_true (by omega), Bool.true_and]⟩⟩
     ·
      omega
     ·
      repeat (first | exact trivial | refine ⟨rfl, ?_⟩)
    ·
     refine J.seq ?_
     refine J.meet [(10, .bool (decide (97 ≤ chr (s.drop p) ∧ chr (s.drop p) ≤ 122)))] [(4, _), (9, _), (8, _), (7, _), (6, _)] ⟨rfl, rfl, rfl, rfl, rfl, trivial⟩ ?_ ?_
     ·
      refine Rg ?_
      refine Ru 3 rfl ?_
      refine Bs 19 rfl (fun hc5 => ?_) fun hc5 => ?_
      ·
       refine Ru 4 rfl ?_
       refine JL.nil ?_
       refine ⟨rfl, rfl, ?_⟩
       repeat (first | exact trivial | refine ⟨rfl, ?_⟩ | refine ⟨(by exact some_bool (by first | exact decide_eq_decide.2 (by omega) | exact (decide_eq_false (by omega)).symm | exact (decide_eq_true (by omega)).symm | simp_all)), ?_⟩)
      ·
       refine Ru 4 rfl ?_
       refine JL.nil ?_
       refine ⟨rfl, rfl, ?_⟩
       repeat (first | exact trivial | refine ⟨rfl, ?_⟩ | refine ⟨(by exact some_bool (by first | exact decide_eq_decide.2 (by omega) | exact (decide_eq_false (by omega)).symm | exact (decide_eq_true (by omega)).symm | simp_all)), ?_⟩)
     ·
      refine Cs rfl (fun hc6 => ?_) fun hc6 => ?_
      ·
       refine J.skip ?_
       refine J.cond_t rfl ?_
       refine J.skip ?_
       refine ⟨_, ?_, _, ?_, ⟨p + wid (s.drop p), rfl, rfl, rfl, rfl, by rw [he, runes_step _ s p (by omega), prC, decide_eq_true (by omega), Bool.true_and]⟩⟩
       ·
        omega
       ·
        repeat (first | exact trivial | refine ⟨rfl, ?_⟩)
      ·
       refine J.meet [(10, .bool (decide (48 ≤ chr (s.drop p) ∧ chr (s.drop p) ≤ 57)))] [(4, _), (9, _), (8, _), (7, _), (6, _)] ⟨rfl, rfl, rfl, rfl, rfl, trivial⟩ ?_ ?_
       ·
        refine Rg ?_
        refine Ru 3 rfl ?_
        refine Bs 25 rfl (fun hc7 => ?_) fun hc7 => ?_
        ·
         refine Ru 4 rfl ?_
         refine JL.nil ?_
         refine ⟨rfl, rfl, ?_⟩
         repeat (first | exact trivial | refine ⟨rfl, ?_⟩ | refine ⟨(by exact some_bool (by first | exact decide_eq_decide.2 (by omega) | exact (decide_eq_false (by omega)).symm | exact (decide_eq_true (by omega)).symm | simp_all)), ?_⟩)
        ·
         refine Ru 4 rfl ?_
         refine JL.nil ?_
         refine ⟨rfl, rfl, ?_⟩
         repeat (first | exact trivial | refine ⟨rfl, ?_⟩ | refine ⟨(by exact some_bool (by first | exact decide_eq_decide.2 (by omega) | exact (decide_eq_false (by omega)).symm | exact (decide_eq_true (by omega)).symm | simp_all)), ?_⟩)
       ·
        refine Cs rfl (fun hc8 => ?_) fun hc8 => ?_
        ·
         refine J.skip ?_
         refine ⟨_, ?_, _, ?_, ⟨p + wid (s.drop p), rfl, rfl, rfl, rfl, by rw [he, runes_step _ s p (by omega), prC, decide_eq_true (by omega), Bool.true_and]⟩⟩
         ·
          omega
         ·
          repeat (first | exact trivial | refine ⟨rfl, ?_⟩)
        ·
         refine J.seq ?_
         refine Sr ?_
         refine Ru 3 rfl ?_
         refine JL.nil ?_
         refine Cs rfl (fun hc9 => ?_) fun hc9 => ?_
         ·
          refine J.skip ?_
          refine J.cond_t rfl ?_
          refine J.skip ?_
          refine ⟨_, ?_, _, ?_, ⟨p + wid (s.drop p), rfl, rfl, rfl, rfl, by rw [he, runes_step _ s p (by omega), prC, decide_eq_true (by omega), Bool.true_and]⟩⟩
          ·
           omega
          ·
           repeat (first | exact trivial | refine ⟨rfl, ?_⟩)
         ·
          refine Sr ?_
          refine Ru 3 rfl ?_
          refine JL.nil ?_
          refine Cs rfl (fun hc10 => ?_) fun hc10 => ?_
          ·
           refine J.skip ?_
           refine J.cond_t rfl ?_
           refine J.skip ?_
           refine ⟨_, ?_, _, ?_, ⟨p + wid (s.drop p), rfl, rfl, rfl, rfl, by rw [he, runes_step _ s p (by omega), prC, decide_eq_true (by omega), Bool.true_and]⟩⟩
           ·
            omega
           ·
            repeat (first | exact trivial | refine ⟨rfl, ?_⟩)
          ·
           refine Sr ?_
           refine Ru 3 rfl ?_
           refine Nk [29, 35, 34, 33, 32, 31, 30, 10, 4, 9, 8, 7, 6] rfl ?_
           refine Cs rfl (fun hc11 => ?_) fun hc11 => ?_
           ·
            refine J.skip ?_
            refine J.cond_t rfl ?_
            refine J.skip ?_
            refine ⟨_, ?_, _, ?_, ⟨p + wid (s.drop p), rfl, rfl, rfl, rfl, by rw [he, runes_step _ s p (by omega), prC, decide_eq_true (by omega), Bool.true_and]⟩⟩
            ·
             omega
            ·
             repeat (first | exact trivial | refine ⟨rfl, ?_⟩)
           ·
            refine Sr ?_
            refine Ru 3 rfl ?_
            refine JL.nil ?_
            refine Cs rfl (fun hc12 => ?_) fun hc12 => ?_
            ·
             refine J.skip ?_
             refine J.cond_t rfl ?_
             refine J.skip ?_
             refine ⟨_, ?_, _, ?_, ⟨p + wid (s.drop p), rfl, rfl, rfl, rfl, by rw [he, runes_step _ s p (by omega), prC, decide_eq_true (by omega), Bool.true_and]⟩⟩
             ·
              omega
             ·
              repeat (first | exact trivial | refine ⟨rfl, ?_⟩)
            ·
             refine Sr ?_
             refine Ru 3 rfl ?_
             refine JL.nil ?_
             refine Cs rfl (fun hc13 => ?_) fun hc13 => ?_
             ·
              refine J.skip ?_
              refine Kp [29, 39, 38, 37, 36, 35, 34, 33, 32, 31, 30, 10, 4, 9, 8, 7, 6] rfl ?_
              refine J.cond_t rfl ?_
              refine J.skip ?_
              refine ⟨_, ?_, _, ?_, ⟨p + wid (s.drop p), rfl, rfl, rfl, rfl, by rw [he, runes_step _ s p (by omega), prC, decide_eq_true (by omega), Bool.true_and]⟩⟩
              ·
               omega
              ·
               repeat (first | exact trivial | refine ⟨rfl, ?_⟩)
             ·
              refine Sr ?_
              refine Ru 3 rfl ?_
              refine Nk [29, 41, 40, 39, 38, 37, 36, 35, 34, 33, 32, 31, 30, 10, 4, 9, 8, 7, 6] rfl ?_
              refine Cs rfl (fun hc14 => ?_) fun hc14 => ?_
              ·
               refine J.skip ?_
               refine J.cond_t rfl ?_
               refine J.skip ?_
               refine ⟨_, ?_, _, ?_, ⟨p + wid (s.drop p), rfl, rfl, rfl, rfl, by rw [he, runes_step _ s p (by omega), prC, decide_eq_true (by omega), Bool.true_and]⟩⟩
               ·
                omega
               ·
                repeat (first | exact trivial | refine ⟨rfl, ?_⟩)
              ·
               refine Sr ?_
               refine Ru 3 rfl ?_
               refine JL.nil ?_
               refine Cs rfl (fun hc15 => ?_) fun hc15 => ?_
               ·
                refine J.skip ?_
                refine J.cond_t rfl ?_
                refine J.skip ?_
                refine ⟨_, ?_, _, ?_, ⟨p + wid (s.drop p), rfl, rfl, rfl, rfl, by rw [he, runes_step _ s p (by omega), prC, decide_eq_true (by omega), Bool.true_and]⟩⟩
                ·
                 omega
                ·
                 repeat (first | exact trivial | refine ⟨rfl, ?_⟩)
               ·
                refine Sr ?_
                refine Ru 3 rfl ?_
                refine JL.nil ?_
                refine Cs rfl (fun hc16 => ?_) fun hc16 => ?_
                ·
                 refine J.skip ?_
                 refine Kp [29, 45, 44, 43, 42, 41, 40, 39, 38, 37, 36, 35, 34, 33, 32, 31, 30, 10, 4, 9, 8, 7, 6] rfl ?_
                 refine J.cond_t rfl ?_
                 refine J.skip ?_
                 refine ⟨_, ?_, _, ?_, ⟨p + wid (s.drop p), rfl, rfl, rfl, rfl, by rw [he, runes_step _ s p (by omega), prC, decide_eq_true (by omega), Bool.true_and]⟩⟩
                 ·
                  omega
                 ·
                  repeat (first | exact trivial | refine ⟨rfl, ?_⟩)
                ·
                 refine Sr ?_
                 refine Ru 3 rfl ?_
                 refine Nk [29, 47, 46, 45, 44, 43, 42, 41, 40, 39, 38, 37, 36, 35, 34, 33, 32, 31, 30, 10, 4, 9, 8, 7, 6] rfl ?_
                 refine Cs rfl (fun hc17 => ?_) fun hc17 => ?_
                 ·
                  refine J.skip ?_
                  refine J.cond_t rfl ?_
                  refine J.skip ?_
                  refine ⟨_, ?_, _, ?_, ⟨p + wid (s.drop p), rfl, rfl, rfl, rfl, by rw [he, runes_step _ s p (by omega), prC, decide_eq_true (by omega), Bool.true_and]⟩⟩
                  ·
                   omega
                  ·
                   repeat (first | exact trivial | refine ⟨rfl, ?_⟩)
                 ·
                  refine Sr ?_
                  refine Ru 3 rfl ?_
                  refine JL.nil ?_
                  refine Cs rfl (fun hc18 => ?_) fun hc18 => ?_
                  ·
                   refine J.skip ?_
                   refine J.cond_t rfl ?_
                   refine J.skip ?_
                   refine ⟨_, ?_, _, ?_, ⟨p + wid (s.drop p), rfl, rfl, rfl, rfl, by rw [he, runes_step _ s p (by omega), prC, decide_eq_true (by omega), Bool.true_and]⟩⟩
                   ·
                    omega
                   ·
                    repeat (first | exact trivial | refine ⟨rfl, ?_⟩)
                  ·
                   refine Sr ?_
                   refine Ru 3 rfl ?_
                   refine JL.nil ?_
                   refine Cs rfl (fun hc19 => ?_) fun hc19 => ?_
                   ·
                    refine J.skip ?_
                    refine Kp [29, 51, 50, 49, 48, 47, 46, 45, 44, 43, 42, 41, 40, 39, 38, 37, 36, 35, 34, 33, 32, 31, 30, 10, 4, 9, 8, 7, 6] rfl ?_
                    refine J.cond_t rfl ?_
                    refine J.skip ?_
                    refine ⟨_, ?_, _, ?_, ⟨p + wid (s.drop p), rfl, rfl, rfl, rfl, by rw [he, runes_step _ s p (by omega), prC, decide_eq_true (by omega), Bool.true_and]⟩⟩
                    ·
                     omega
                    ·
                     repeat (first | exact trivial | refine ⟨rfl, ?_⟩)
                   ·
                    refine Rg ?_
                    refine Ru 3 rfl ?_
                    refine Nk [29, 53, 52, 51, 50, 49, 48, 47, 46, 45, 44, 43, 42, 41, 40, 39, 38, 37, 36, 35, 34, 33, 32, 31, 30, 10, 4, 9, 8, 7, 6] rfl ?_
                    refine Cs rfl (fun hc20 => ?_) fun hc20 => ?_
                    ·
                     refine J.skip ?_
                     refine ⟨_, ?_, _, ?_, ⟨p + wid (s.drop p), rfl, rfl, rfl, rfl, by rw [he, runes_step _ s p (by omega), prC, decide_eq_true (by omega), Bool.true_and]⟩⟩
                     ·
                      omega
                     ·
                      repeat (first | exact trivial | refine ⟨rfl, ?_⟩)
                    ·
                     refine Sr ?_
                     refine Ru 1 rfl ?_
                     refine JL.nil ?_
                     exact J.retP (RetV.one rfl rfl) (by first | (exfalso; omega) | (rw [he, runes_end _ _ _ (by omega)]) | (rw [he, runes_step _ s p (by omega), prC, decide_eq_false (by omega)]; rfl)) rfl
  ·
   refine Ru 1 rfl ?_
   refine JL.nil ?_
   refine J.seq ?_
   refine J.cond_f rfl ?_
   refine J.exit ?_
   refine Sr ?_
   refine Ru 1 rfl ?_
   refine JL.nil ?_
   exact J.retP (RetV.one rfl rfl) (by first | (exfalso; omega) | (rw [he, runes_end _ _ _ (by omega)]) | (rw [he, runes_step _ s p (by omega), prC, decide_eq_false (by omega)]; rfl)) rfl




theorem utf8_fn (s : List UInt8) (h : Part) (hT : Tabs h) (h2 : s.length ≤ 140737488355328) : Pure Tryd.prog 88 [.string ⟨s.toArray⟩] h (.bool (runes (fun c n => !decide (c = 65533 ∧ n = 1)) s 0)) := by
  refine Fn.intro Tryd.func88 rfl Tryd.ntmps88 rfl (fun e he => ?_)
  refine J.weak [(0, _)] ⟨rfl, trivial⟩ ?_
  refine Sr ?_
  refine Ru 1 rfl ?_
  refine JL.nil ?_
  refine J.seq ?_
  refine Sr ?_
  refine Ru 1 rfl ?_
  refine JL.range un_9 rfl rfl (fun b1 => ?_)
  refine JL.nil ?_
  refine J.block ?_
  refine J.loop (fun t_ S_ h_ L_ => ∃ (p : Nat), t_ = s.length - p ∧ S_ = [(0, .string ⟨s.toArray⟩), (8, .pointer (some ⟨b1, 0, none⟩))] ∧ h = h_ ∧ L_ = [.it b1 s p] ∧ (runes (fun c n => !decide (c = 65533 ∧ n = 1)) s 0 = runes (fun c n => !decide (c = 65533 ∧ n = 1)) (s.drop p) 0)) ⟨_, _, ?_, ⟨0, rfl, rfl, rfl, rfl, rfl⟩⟩ ?_
  ·
   repeat (first | exact trivial | refine ⟨rfl, ?_⟩)
  rintro _ _ _ _ ⟨p, rfl, rfl, rfl, rfl, he⟩
  have hw := wid_pos (s.drop p)
  refine Sr ?_
  refine JL.next rfl (by repeat (first | exact Del.here | apply Del.there)) rfl (fun hx2 => ?_) (fun hx2 => ?_)
  ·
   refine Ru 1 rfl ?_
   refine JL.nil ?_
   refine J.seq ?_
   refine J.cond_t rfl ?_
   refine J.skip ?_
   refine J.block ?_
   refine Sr ?_
   refine Ru 4 rfl ?_
   refine JL.nil ?_
   refine Sr ?_
   refine Ru 2 rfl ?_
   refine JL.nil ?_
   refine Cs rfl (fun hc3 => ?_) fun hc3 => ?_
   ·
    refine Sr ?_
    refine Ru 2 rfl ?_
    refine JL.op (RunV.strCut_l un_9 rfl rfl (by first | with_reducible rfl | exact (Int.toNat_of_nonneg (by omega)).symm) (by omega)) rfl ?_
    refine JL.callP ca_118 rfl (decode_fn (s.drop p) _ hT (by intro hh; have := congrArg List.length hh; simp at this; omega)) rfl ?_
    refine Ru 5 rfl ?_
    refine JL.nil ?_
    refine Sr ?_
    refine Ru 2 rfl ?_
    refine JL.nil ?_
    refine Cs rfl (fun hc5 => ?_) fun hc5 => ?_
    ·
     refine Sr ?_
     refine Ru 1 rfl ?_
     refine JL.nil ?_
     exact J.retP (RetV.one rfl rfl) (by first | (exfalso; omega) | (rw [he, runes_end _ _ _ (by omega)]) | (rw [he, runes_step _ s p (by omega), decide_eq_true (by omega)]; rfl)) rfl
    ·
     refine J.skip ?_
     refine ⟨_, ?_, _, ?_, ⟨p + wid (s.drop p), rfl, rfl, rfl, rfl, by rw [he, runes_step _ s p (by omega), decide_eq_false (by omega)]; rfl⟩⟩
     ·
      omega
     ·
      repeat (first | exact trivial | refine ⟨rfl, ?_⟩)
   ·
    refine J.skip ?_
    refine ⟨_, ?_, _, ?_, ⟨p + wid (s.drop p), rfl, rfl, rfl, rfl, by rw [he, runes_step _ s p (by omega), decide_eq_false (by omega)]; rfl⟩⟩
    ·
     omega
    ·
     repeat (first | exact trivial | refine ⟨rfl, ?_⟩)
  ·
   refine Ru 1 rfl ?_
   refine JL.nil ?_
   refine J.seq ?_
   refine J.cond_f rfl ?_
   refine J.exit ?_
   refine Sr ?_
   refine Ru 1 rfl ?_
   refine JL.nil ?_
   exact J.retP (RetV.one rfl rfl) (by first | (exfalso; omega) | (rw [he, runes_end _ _ _ (by omega)]) | (rw [he, runes_step _ s p (by omega), decide_eq_true (by omega)]; rfl)) rfl




end Go.Proofs.YtmngjbefnloljaaDoor
