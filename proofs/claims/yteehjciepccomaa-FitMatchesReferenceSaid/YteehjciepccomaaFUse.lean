/-
  The program's functions as the statements use them: results as lists in memory.
-/
import Derived.Test.YteehjciepccomaaFLaw
import Derived.Test.YteehjciepccomaaFCheck
namespace Go.Proofs.Yteehjciepccomaa
open Go.RowKit
set_option maxRecDepth 100000
set_option maxHeartbeats 1000000

theorem eq_of_strict {l m : List Int} (hl : l.Pairwise (· < ·)) (hm : m.Pairwise (· < ·)) (h : ∀ x, x ∈ l ↔ x ∈ m) : l = m := by
  induction l generalizing m with
  | nil => cases m with
    | nil => rfl
    | cons y m => exact absurd ((h y).2 (by simp)) (by simp)
  | cons x l ih => cases m with
    | nil => exact absurd ((h x).1 (by simp)) (by simp)
    | cons y m =>
      rw [List.pairwise_cons] at hl hm
      have hxy : x = y := by
        have h1 := (h x).1 (by simp)
        have h2 := (h y).2 (by simp)
        simp only [List.mem_cons] at h1 h2
        rcases h1 with h1 | h1
        · exact h1
        · rcases h2 with h2 | h2
          · exact h2.symm
          · have := hm.1 x h1
            have := hl.1 y h2
            omega
      subst hxy
      congr 1
      refine ih hl.2 hm.2 fun z => ?_
      have hz := h z
      simp only [List.mem_cons] at hz
      constructor
      · intro hzl
        have := hl.1 z hzl
        rcases hz.1 (.inr hzl) with e | e
        · omega
        · exact e
      · intro hzm
        have := hm.1 z hzm
        rcases hz.2 (.inr hzm) with e | e
        · omega
        · exact e
theorem memb_strict (L : List Int) (k : Nat) : (memb L k).Pairwise (· < ·) := by
  unfold memb
  rw [List.pairwise_map]
  exact (List.Pairwise.filter _ List.pairwise_lt_range).imp (by intro a b h; exact_mod_cast h)
theorem memb_eq {L M : List Int} (hM : M.Pairwise (· < ·)) (hb : ∀ x ∈ L, 0 ≤ x ∧ x ≤ 72000) (h : ∀ x, x ∈ L ↔ x ∈ M) : memb L 72001 = M :=
  eq_of_strict (memb_strict L _) hM fun x => (memb_mem hb x).trans (h x)

theorem own_slice {w : World} {base : Nat} {v : Value} {zs : List Int} (h : w.ownsRow base 3 1 v zs.length (zs.map (Value.int .i64))) : ∃ A c, v = .slice A zs.length c ∧ Ints w.heap.size w (.slice A zs.length c) zs := by
  obtain ⟨A, c, rfl⟩ := own_form h
  exact ⟨A, c, rfl, own_ints h⟩

section
variable {n₀ : Nat} (a : Option Addr) (c : Nat) (l : List Pc) (total : Int) (w : World) (hI : PcsAt n₀ w a l) (hn : n₀ ≤ w.heap.size) (hm : l.length ≤ maxLen)
include hI hn hm
theorem resume_use (ta : Option Addr) (tn tc : Nat) (took : List Int) {n₁ : Nat} (hJ : Ints n₁ w (.slice ta tn tc) took) (hn1 : n₁ ≤ w.heap.size) (hm2 : took.length ≤ maxLen) {ri : List Int} {rc re : Int} (hr : resumeS l total took = (ri, rc, re)) :
    Calls Try.prog 23 #[.slice a l.length c, .int .i64 total, .slice ta tn tc] w fun e w' => ∃ A c', e = .returned (.tuple #[.slice A ri.length c', .int .i64 rc, .int .i64 re]) ∧ Ints w'.heap.size w' (.slice A ri.length c') ri ∧ Upd [] w w' := by
  refine (resume_any (n₀ := w.heap.size) a c l total ta tn tc took w (hI.mono hn) (hJ.mono hn1) (Nat.le_refl _) hm hm2).mono ?_
  rintro e w' ⟨v, rfl, h1, h2⟩
  rw [hr] at h1 ⊢
  obtain ⟨A, c', rfl, h3⟩ := own_slice h1
  exact ⟨A, c', rfl, h3, (Upd.refl [] w).below h2⟩
theorem solve_use {ri : List Int} {rc re : Int} (hr : resumeS l total [] = (ri, rc, re)) :
    Calls Try.prog 19 #[.slice a l.length c, .int .i64 total] w fun e w' => ∃ A c', e = .returned (.tuple #[.slice A ri.length c', .int .i64 rc, .int .i64 re]) ∧ Ints w'.heap.size w' (.slice A ri.length c') ri ∧ Upd [] w w' := by
  refine (solve_any a c l total w hI hn hm).mono ?_
  rintro e w' ⟨v, rfl, h1, h2⟩
  rw [hr] at h1 ⊢
  obtain ⟨A, c', rfl, h3⟩ := own_slice h1
  exact ⟨A, c', rfl, h3, (Upd.refl [] w).below h2⟩
theorem blame_use (hV : ValidS l total) {ri : Int} {rl : List Int} (hr : blameS l total = (ri, rl)) :
    Calls Try.prog 21 #[.slice a l.length c, .int .i64 total] w fun e w' => ∃ A c', e = .returned (.tuple #[.int .i64 ri, .slice A rl.length c', .int .i64 0]) ∧ Ints w'.heap.size w' (.slice A rl.length c') rl ∧ Upd [] w w' := by
  refine (blame_yes a c l total w hI hn hm hV).mono ?_
  rintro e w' ⟨v, rfl, h1, h2⟩
  rw [hr] at h1 ⊢
  obtain ⟨A, c', rfl, h3⟩ := own_slice h1
  exact ⟨A, c', rfl, h3, (Upd.refl [] w).below h2⟩
theorem begins_use (hV : ValidS l 0) (n : Nat) (hn2 : n ≤ l.length) (hc : l.length ≤ c) {rl : List Int} (hr : beginsL l n = rl) :
    Calls Try.prog 16 #[.slice a l.length c, .int .i64 (n : Int)] w fun e w' => ∃ A c', e = .returned (.tuple #[.slice A rl.length c', .int .i64 0]) ∧ Ints w'.heap.size w' (.slice A rl.length c') rl ∧ Upd [] w w' := by
  refine (begins_yes a c l n w hI hn hm hc hV hn2).mono ?_
  rintro e w' ⟨v, rfl, h1, h2⟩
  rw [hr] at h1
  obtain ⟨A, c', rfl, h3⟩ := own_slice h1
  exact ⟨A, c', rfl, h3, (Upd.refl [] w).below h2⟩
theorem check_use (ca : Option Addr) (cn cc : Nat) (ch : List Int) {n₁ : Nat} (hJ : Ints n₁ w (.slice ca cn cc) ch) (hn1 : n₁ ≤ w.heap.size) (hm2 : ch.length ≤ maxLen) :
    Calls Try.prog 28 #[.slice a l.length c, .int .i64 total, .slice ca cn cc] w fun e w' => e = .returned (if ValidS l total ∧ ch.length = l.length ∧ fitsS total l 0 ch = true then .tuple #[.int .i64 (costS l ch), .bool true] else .tuple #[.int .i64 0, .bool false]) ∧ Upd [] w w' := by
  obtain rfl := hJ.form.1
  exact check_any (n₀ := w.heap.size) a c l total ca cc ch w (hI.mono hn) (hJ.mono hn1) (Nat.le_refl _) hm hm2
end
end Go.Proofs.Yteehjciepccomaa
