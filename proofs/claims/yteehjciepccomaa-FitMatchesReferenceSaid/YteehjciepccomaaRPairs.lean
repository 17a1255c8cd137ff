/-
  Each of fit's functions and the reference's give the same answers.
-/
import Derived.Test.YteehjciepccomaaRSolve
import Derived.Test.YteehjciepccomaaRBegins
import Derived.Test.YteehjciepccomaaRCheck
import Derived.Test.YteehjciepccomaaRBent
import Derived.Test.YteehjciepccomaaFUse
namespace Go.Proofs.Yteehjciepccomaa
open Go.RowKit
set_option maxRecDepth 100000
set_option maxHeartbeats 1000000

theorem best_len {total : Int} : ∀ {l : List Pc} {s : Int} {ns : List Int}, bestS total l s = some ns → ns.length = l.length
  | [], s, ns, h => by
    obtain rfl : ns = [] := by simpa [bestS] using h.symm
    rfl
  | p :: ps, s, ns, h => by
    rw [bestS] at h
    cases hf : p.lens.find? (fun n => decide (awayS n p.want + leastS total ps (s + n) = leastS total (p :: ps) s)) with
    | none => rw [hf] at h; simp at h
    | some n =>
      rw [hf] at h
      obtain ⟨ms, h1, rfl⟩ := Option.map_eq_some_iff.1 h
      rw [List.length_cons, List.length_cons, best_len h1]
theorem resume_len (l : List Pc) (total : Int) (took : List Int) : (resumeS l total took).1.length ≤ l.length := by
  unfold resumeS
  split
  · split
    · show (restS l total took.length (sumS took)).1.length ≤ _
      unfold restS
      split
      · exact Nat.zero_le _
      · split
        · next ns h =>
          have := best_len h
          rw [List.length_drop] at this
          show ns.length ≤ _
          omega
        · exact Nat.zero_le _
    · exact Nat.zero_le _
  · exact Nat.zero_le _
theorem blame_len (total : Int) : ∀ (l : List Pc) (k : Nat) (now : List Int), (blameFrom total l k now).2.length ≤ 72001
  | [], k, now => by
    rw [blameFrom]
    split
    · exact Nat.zero_le _
    · exact memb_length _ _
  | p :: ps, k, now => by
    rw [blameFrom]
    split
    · exact memb_length _ _
    · exact blame_len total ps (k + 1) _

section
variable {n₀ : Nat} (a : Option Addr) (cap : Nat) (l : List Pc) (W0 : World) (hI : PcsAt n₀ W0 a l) (hn : n₀ ≤ W0.heap.size) (hl : l.length ≤ 10)
include hI hn hl
theorem begins_pair (hc : l.length ≤ cap) (k : Int) : ∃ (rl : List Int) (re : Int), rl.length ≤ 100000 ∧
    (∀ W, Upd [] W0 W → Calls Try.prog 16 #[.slice a l.length cap, .int .i64 k] W fun e w' => ∃ A c', e = .returned (.tuple #[.slice A rl.length c', .int .i64 re]) ∧ Ints w'.heap.size w' (.slice A rl.length c') rl ∧ Upd [] W w') ∧
    (∀ W, Upd [] W0 W → Calls Try.prog 17 #[.slice a l.length cap, .int .i64 k] W fun e w' => ∃ A c', e = .returned (.tuple #[.slice A rl.length c', .int .i64 re]) ∧ Ints w'.heap.size w' (.slice A rl.length c') rl ∧ Upd [] W w') := by
  have hm : l.length ≤ maxLen := by unfold maxLen; omega
  by_cases h : ValidS l 0 ∧ 0 ≤ k ∧ k ≤ l.length
  · obtain ⟨kn, rfl⟩ : ∃ kn : Nat, k = (kn : Int) := ⟨k.toNat, by omega⟩
    refine ⟨beginsL l kn, 0, ?_, fun W hW => ?_, fun W hW => ?_⟩
    · have : (beginsL l kn).length ≤ 72001 := Nat.le_trans (List.length_filter_le _ _) (memb_length _ _)
      omega
    · exact begins_use a cap l W (hI.upd hW hn (by simp)) (Nat.le_trans hn hW.size) hm h.1 kn (by omega) hc rfl
    · exact rbegins_use a cap l W (hI.upd hW hn (by simp)) (Nat.le_trans hn hW.size) hm h.1 kn (by omega) rfl
  · refine ⟨[], 100, by simp, fun W hW => ?_, fun W hW => ?_⟩
    · refine (begins_no a cap l k W (hI.upd hW hn (by simp)) (Nat.le_trans hn hW.size) hm h).mono ?_
      rintro e w' ⟨rfl, u⟩
      exact ⟨none, 0, rfl, ints_none _ _, (Upd.refl [] W).below u⟩
    · refine (rbegins_no a cap l W (hI.upd hW hn (by simp)) (Nat.le_trans hn hW.size) hm k h).mono ?_
      rintro e w' ⟨rfl, u⟩
      exact ⟨none, 0, rfl, ints_none _ _, u⟩
theorem solve_pair (t : Int) : ∃ (ri : List Int) (rc re : Int), ri.length ≤ 10 ∧
    (∀ W, Upd [] W0 W → Calls Try.prog 19 #[.slice a l.length cap, .int .i64 t] W fun e w' => ∃ A c', e = .returned (.tuple #[.slice A ri.length c', .int .i64 rc, .int .i64 re]) ∧ Ints w'.heap.size w' (.slice A ri.length c') ri ∧ Upd [] W w') ∧
    (∀ W, Upd [] W0 W → Calls Try.prog 20 #[.slice a l.length cap, .int .i64 t] W fun e w' => ∃ A c', e = .returned (.tuple #[.slice A ri.length c', .int .i64 rc, .int .i64 re]) ∧ Ints w'.heap.size w' (.slice A ri.length c') ri ∧ Upd [] W w') := by
  have hm : l.length ≤ maxLen := by unfold maxLen; omega
  obtain ⟨ri, rc, re, h⟩ : ∃ ri rc re, resumeS l t [] = (ri, rc, re) := ⟨_, _, _, rfl⟩
  have := resume_len l t []
  rw [h] at this
  exact ⟨ri, rc, re, by have : ri.length ≤ l.length := this; omega, fun W hW => solve_use a cap l t W (hI.upd hW hn (by simp)) (Nat.le_trans hn hW.size) hm h, fun W hW => rsolve_use a cap l t W (hI.upd hW hn (by simp)) (Nat.le_trans hn hW.size) hm h⟩
theorem resume_pair (t : Int) (ta : Option Addr) (tn tc : Nat) (took : List Int) {n₁ : Nat} (hJ : Ints n₁ W0 (.slice ta tn tc) took) (hn1 : n₁ ≤ W0.heap.size) (hm2 : took.length ≤ maxLen) : ∃ (ri : List Int) (rc re : Int), ri.length ≤ 10 ∧
    (∀ W, Upd [] W0 W → Calls Try.prog 23 #[.slice a l.length cap, .int .i64 t, .slice ta tn tc] W fun e w' => ∃ A c', e = .returned (.tuple #[.slice A ri.length c', .int .i64 rc, .int .i64 re]) ∧ Ints w'.heap.size w' (.slice A ri.length c') ri ∧ Upd [] W w') ∧
    (∀ W, Upd [] W0 W → Calls Try.prog 24 #[.slice a l.length cap, .int .i64 t, .slice ta tn tc] W fun e w' => ∃ A c', e = .returned (.tuple #[.slice A ri.length c', .int .i64 rc, .int .i64 re]) ∧ Ints w'.heap.size w' (.slice A ri.length c') ri ∧ Upd [] W w') := by
  have hm : l.length ≤ maxLen := by unfold maxLen; omega
  obtain ⟨ri, rc, re, h⟩ : ∃ ri rc re, resumeS l t took = (ri, rc, re) := ⟨_, _, _, rfl⟩
  have := resume_len l t took
  rw [h] at this
  exact ⟨ri, rc, re, by have : ri.length ≤ l.length := this; omega, fun W hW => resume_use a cap l t W (hI.upd hW hn (by simp)) (Nat.le_trans hn hW.size) hm ta tn tc took (hJ.upd hW hn1 (by simp)) (Nat.le_trans hn1 hW.size) hm2 h, fun W hW => rresume_use a cap l t W (hI.upd hW hn (by simp)) (Nat.le_trans hn hW.size) hm ta tn tc took (hJ.upd hW hn1 (by simp)) hm2 h⟩
theorem blame_pair (t : Int) : ∃ (ri : Int) (rl : List Int) (re : Int), rl.length ≤ 100000 ∧
    (∀ W, Upd [] W0 W → Calls Try.prog 21 #[.slice a l.length cap, .int .i64 t] W fun e w' => ∃ A c', e = .returned (.tuple #[.int .i64 ri, .slice A rl.length c', .int .i64 re]) ∧ Ints w'.heap.size w' (.slice A rl.length c') rl ∧ Upd [] W w') ∧
    (∀ W, Upd [] W0 W → Calls Try.prog 22 #[.slice a l.length cap, .int .i64 t] W fun e w' => ∃ A c', e = .returned (.tuple #[.int .i64 ri, .slice A rl.length c', .int .i64 re]) ∧ Ints w'.heap.size w' (.slice A rl.length c') rl ∧ Upd [] W w') := by
  have hm : l.length ≤ maxLen := by unfold maxLen; omega
  by_cases hV : ValidS l t
  · obtain ⟨ri, rl, h⟩ : ∃ ri rl, blameS l t = (ri, rl) := ⟨_, _, rfl⟩
    have := blame_len t l 0 [0]
    rw [show blameFrom t l 0 [0] = (ri, rl) from h] at this
    exact ⟨ri, rl, 0, by have : rl.length ≤ 72001 := this; omega, fun W hW => blame_use a cap l t W (hI.upd hW hn (by simp)) (Nat.le_trans hn hW.size) hm hV h, fun W hW => rblame_use a cap l W (hI.upd hW hn (by simp)) (Nat.le_trans hn hW.size) hm t hV h⟩
  · refine ⟨0, [], 100, by simp, fun W hW => ?_, fun W hW => ?_⟩
    · refine (blame_no a cap l t W (hI.upd hW hn (by simp)) (Nat.le_trans hn hW.size) hm hV).mono ?_
      rintro e w' ⟨rfl, u⟩
      exact ⟨none, 0, rfl, ints_none _ _, (Upd.refl [] W).below u⟩
    · refine (rblame_no a cap l W (hI.upd hW hn (by simp)) (Nat.le_trans hn hW.size) hm t hV).mono ?_
      rintro e w' ⟨rfl, u⟩
      exact ⟨none, 0, rfl, ints_none _ _, u⟩
theorem valid_pair (t : Int) : ∃ v : Bool,
    (∀ W, Upd [] W0 W → Calls Try.prog 25 #[.slice a l.length cap, .int .i64 t] W fun e w' => e = .returned (.bool v) ∧ Upd [] W w') ∧
    (∀ W, Upd [] W0 W → Calls Try.prog 26 #[.slice a l.length cap, .int .i64 t] W fun e w' => e = .returned (.bool v) ∧ Upd [] W w') := by
  have hm : l.length ≤ maxLen := by unfold maxLen; omega
  exact ⟨decide (ValidS l t), fun W hW => valid_any a cap l t W (hI.upd hW hn (by simp)) (Nat.le_trans hn hW.size) hm, fun W hW => rvalid_any a cap l t W (hI.upd hW hn (by simp)) (Nat.le_trans hn hW.size) hm⟩
theorem check_pair (t : Int) (ca : Option Addr) (cn cc : Nat) (ch : List Int) {n₁ : Nat} (hJ : Ints n₁ W0 (.slice ca cn cc) ch) (hn1 : n₁ ≤ W0.heap.size) (hm2 : ch.length ≤ maxLen) : ∃ (v : Int) (b : Bool),
    (∀ W, Upd [] W0 W → Calls Try.prog 28 #[.slice a l.length cap, .int .i64 t, .slice ca cn cc] W fun e w' => e = .returned (.tuple #[.int .i64 v, .bool b]) ∧ Upd [] W w') ∧
    (∀ W, Upd [] W0 W → Calls Try.prog 29 #[.slice a l.length cap, .int .i64 t, .slice ca cn cc] W fun e w' => e = .returned (.tuple #[.int .i64 v, .bool b]) ∧ Upd [] W w') := by
  have hm : l.length ≤ maxLen := by unfold maxLen; omega
  obtain rfl := hJ.form.1
  have h1 := fun W (hW : Upd [] W0 W) => check_use a cap l t W (hI.upd hW hn (by simp)) (Nat.le_trans hn hW.size) hm ca ch.length cc ch (hJ.upd hW hn1 (by simp)) (Nat.le_trans hn1 hW.size) hm2
  have h2 := fun W (hW : Upd [] W0 W) => rcheck_any a cap l t ca cc ch W (hI.upd hW hn (by simp)) (hJ.upd hW hn1 (by simp)) (Nat.le_trans hn hW.size) hm hm2
  by_cases h : ValidS l t ∧ ch.length = l.length ∧ fitsS t l 0 ch = true
  · simp only [if_pos h] at h1 h2
    exact ⟨_, _, h1, h2⟩
  · simp only [if_neg h] at h1 h2
    exact ⟨_, _, h1, h2⟩
end
end Go.Proofs.Yteehjciepccomaa
