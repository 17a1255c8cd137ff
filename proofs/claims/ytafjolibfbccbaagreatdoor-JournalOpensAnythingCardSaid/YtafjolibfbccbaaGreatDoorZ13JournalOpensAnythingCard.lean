/-
  A list sorted, without doubles, cut to bounds: the numbers below n that it holds.
-/
import Derived.Lib.SlicesCompact
import Derived.Test.YtafjolibfbccbaaGreatDoorZ1JournalOpensAnythingCard

namespace Go.Proofs.YtafjolibfbccbaaGreatDoor
open Go.Lib

theorem eq_of_strict {l m : List Int} (hl : l.Pairwise (· < ·)) (hm : m.Pairwise (· < ·)) (h : ∀ x, x ∈ l ↔ x ∈ m) : l = m := by
  induction l generalizing m with
  | nil => cases m with
    | nil => rfl
    | cons y m => exact absurd ((h y).2 (by simp)) (by simp)
  | cons x l ih => cases m with
    | nil => exact absurd ((h x).1 (by simp)) (by simp)
    | cons y m =>
      rw [List.pairwise_cons] at hl hm
      have hxy : x = y := by
        have h1 := (h x).1 (by simp)
        have h2 := (h y).2 (by simp)
        simp only [List.mem_cons] at h1 h2
        rcases h1 with h1 | h1
        · exact h1
        · rcases h2 with h2 | h2
          · exact h2.symm
          · have := hm.1 x h1
            have := hl.1 y h2
            omega
      subst hxy
      congr 1
      refine ih hl.2 hm.2 fun z => ?_
      have hz := h z
      simp only [List.mem_cons] at hz
      constructor
      · intro hzl
        have := hl.1 z hzl
        rcases hz.1 (.inr hzl) with e | e
        · omega
        · exact e
      · intro hzm
        have := hm.1 z hzm
        rcases hz.2 (.inr hzm) with e | e
        · omega
        · exact e

theorem compactUpTo_spec (d : Array Int) (hs : ∀ i j, i < j → j < d.size → d[i]! ≤ d[j]!) (m : Nat) (hm : m ≤ d.size) :
    (compactUpTo d m).Pairwise (· < ·) ∧ (∀ x, x ∈ compactUpTo d m ↔ ∃ j, j < m ∧ d[j]! = x) := by
  induction m with
  | zero => simp [compactUpTo]
  | succ m ih =>
    obtain ⟨h1, h2⟩ := ih (by omega)
    rw [compactUpTo_succ]
    cases hk : keeps d m with
    | false =>
      have hpos : 0 < m := by
        rcases Nat.eq_zero_or_pos m with h | h
        · subst h; rw [keeps_lt_one d 0 (by omega)] at hk; cases hk
        · exact h
      have heq : d[m]! = d[m - 1]! := by
        simp only [keeps] at hk
        simpa [show m ≠ 0 by omega] using hk
      simp only [Bool.false_eq_true, if_false, List.append_nil]
      refine ⟨h1, fun x => ?_⟩
      rw [h2]
      constructor
      · rintro ⟨j, hj, e⟩; exact ⟨j, by omega, e⟩
      · rintro ⟨j, hj, e⟩
        by_cases hjm : j = m
        · subst hjm; exact ⟨j - 1, by omega, by rw [← heq]; exact e⟩
        · exact ⟨j, by omega, e⟩
    | true =>
      simp only [if_true]
      refine ⟨?_, fun x => ?_⟩
      · rw [List.pairwise_append]
        refine ⟨h1, by simp, fun a ha b hb => ?_⟩
        simp only [List.mem_singleton] at hb
        subst hb
        obtain ⟨j, hj, rfl⟩ := (h2 a).1 ha
        have hle := hs j m hj (by omega)
        have hpm := hs j (m - 1)
        have hne : d[m]! ≠ d[m - 1]! := by
          simp only [keeps] at hk
          intro e
          simp [e, show m ≠ 0 by omega] at hk
        have hl2 : d[m - 1]! ≤ d[m]! := hs (m - 1) m (by omega) (by omega)
        rcases Nat.lt_or_ge j (m - 1) with hj' | hj'
        · have := hpm hj' (by omega)
          omega
        · have : j = m - 1 := by omega
          subst this
          omega
      · rw [List.mem_append, h2]
        simp only [List.mem_singleton]
        constructor
        · rintro (⟨j, hj, e⟩ | e)
          · exact ⟨j, by omega, e⟩
          · exact ⟨m, by omega, e.symm⟩
        · rintro ⟨j, hj, e⟩
          by_cases hjm : j = m
          · subst hjm; exact .inr e.symm
          · exact .inl ⟨j, by omega, e⟩

theorem order_eq (n : Nat) (keep : List Int) :
    ((compact (keep.mergeSort fun x y => decide (x ≤ y))).filter fun x => !(decide (x < 0) || decide ((n : Int) ≤ x))) = (order n keep).map (fun i : Nat => (i : Int)) := by
  have hsort := List.pairwise_mergeSort (le := fun x y : Int => decide (x ≤ y)) (by intro a b c; simp; omega) (by intro a b; simp; omega) keep
  obtain ⟨h1, h2⟩ := compactUpTo_spec (keep.mergeSort fun x y => decide (x ≤ y)).toArray (fun i j hij hj => by
    have hj' : j < (keep.mergeSort fun x y => decide (x ≤ y)).length := by simpa using hj
    have := (List.pairwise_iff_getElem.1 hsort) i j (by omega) hj' hij
    simp only [decide_eq_true_eq] at this
    rw [getElem!_pos _ i (by simp at hj' ⊢; omega), getElem!_pos _ j hj]
    simpa using this) (keep.mergeSort fun x y => decide (x ≤ y)).length (by simp)
  refine eq_of_strict (List.Pairwise.filter _ h1) ?_ fun x => ?_
  · rw [List.pairwise_map]
    refine List.Pairwise.filter _ ?_
    exact List.pairwise_lt_range.imp (by intro a b h; exact_mod_cast h)
  · rw [List.mem_filter]
    show x ∈ compactUpTo _ _ ∧ _ ↔ _
    rw [h2]
    simp only [List.mem_map, order, List.mem_filter, List.mem_range, decide_eq_true_eq]
    constructor
    · rintro ⟨⟨j, hj, e⟩, hb⟩
      have hx : x ∈ keep := by
        rw [← List.mem_mergeSort (le := fun x y : Int => decide (x ≤ y)), ← e]
        rw [getElem!_pos _ j (by simpa using hj)]
        simp
      simp at hb
      refine ⟨x.toNat, ⟨by omega, ?_⟩, by omega⟩
      rw [show ((x.toNat : Nat) : Int) = x by omega]
      exact hx
    · rintro ⟨i, ⟨hi, hk⟩, rfl⟩
      refine ⟨?_, by simp; omega⟩
      have hx := (List.mem_mergeSort (le := fun x y : Int => decide (x ≤ y))).2 hk
      obtain ⟨j, hj, e⟩ := List.mem_iff_getElem.1 hx
      exact ⟨j, hj, by rw [getElem!_pos _ j (by simpa using hj)]; simpa using e⟩
end Go.Proofs.YtafjolibfbccbaaGreatDoor
