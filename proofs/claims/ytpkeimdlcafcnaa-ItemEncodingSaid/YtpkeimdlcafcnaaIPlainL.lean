/-
  The lengths of a recording: ascending, and those of its cuts.
-/
import Derived.Test.YtpkeimdlcafcnaaILengths
namespace Go.Proofs.Ytpkeimdlcafcnaa

theorem compact_spec (zs : List Int) (h : zs.Pairwise (· ≤ ·)) : (Lib.compact zs).Pairwise (· < ·) ∧ ∀ x, x ∈ Lib.compact zs ↔ x ∈ zs := by
  have hget : ∀ j (hj : j < zs.length), zs.toArray[j]! = zs[j] := fun j hj => by simp [hj]
  have key : ∀ m, m ≤ zs.length → (Lib.compactUpTo zs.toArray m).Pairwise (· < ·) ∧ (∀ x, x ∈ Lib.compactUpTo zs.toArray m ↔ x ∈ zs.take m) := by
    intro m
    induction m with
    | zero => intro _; simp [Lib.compactUpTo]
    | succ m ih =>
      intro hm
      obtain ⟨h1, h2⟩ := ih (by omega)
      have hlt : m < zs.length := by omega
      have hle : ∀ x ∈ zs.take m, x ≤ zs[m] := by
        intro x hx
        obtain ⟨j, hj, rfl⟩ := List.mem_take_iff_getElem.1 hx
        exact List.pairwise_iff_getElem.1 h j m (by omega) hlt (by omega)
      rw [Lib.compactUpTo_succ, hget m hlt, List.take_succ_eq_append_getElem hlt]
      by_cases hk : Lib.keeps zs.toArray m = true
      · rw [if_pos hk]
        refine ⟨List.pairwise_append.2 ⟨h1, by simp, fun a ha b hb => ?_⟩, fun x => ?_⟩
        · obtain rfl := List.mem_singleton.1 hb
          have ha' := (h2 a).1 ha
          have hal := hle a ha'
          rcases Nat.eq_zero_or_pos m with rfl | hpos
          · simp at ha'
          · have hne : zs[m] ≠ zs[m - 1] := by
              have := hk
              unfold Lib.keeps at this
              rw [hget m hlt, hget (m - 1) (by omega)] at this
              have h0 : m ≠ 0 := by omega
              simpa [h0] using this
            obtain ⟨j, hj, rfl⟩ := List.mem_take_iff_getElem.1 ha'
            have h3 : zs[j] ≤ zs[m - 1] := by
              rcases Nat.lt_or_ge j (m - 1) with hjl | hjl
              · exact List.pairwise_iff_getElem.1 h j (m - 1) (by omega) (by omega) hjl
              · have : j = m - 1 := by omega
                subst this
                exact Int.le_refl _
            have h4 := List.pairwise_iff_getElem.1 h (m - 1) m (by omega) hlt (by omega)
            omega
        · rw [List.mem_append, List.mem_append, h2]
      · rw [if_neg hk, List.append_nil]
        refine ⟨h1, fun x => ?_⟩
        rw [h2, List.mem_append]
        constructor
        · exact .inl
        · rintro (hx | hx)
          · exact hx
          · obtain rfl := List.mem_singleton.1 hx
            have hpos : m ≠ 0 := fun e => hk (by subst e; simp [Lib.keeps])
            have he : zs[m] = zs[m - 1] := by
              have := hk
              unfold Lib.keeps at this
              rw [hget m hlt, hget (m - 1) (by omega)] at this
              simpa [hpos] using this
            rw [he]
            exact List.mem_take_iff_getElem.2 ⟨m - 1, by omega, rfl⟩
  have := key zs.length (Nat.le_refl _)
  rw [List.take_length] at this
  exact this

theorem lengthsS_asc (i : It) : (lengthsS i).Pairwise (· < ·) := by
  refine (compact_spec _ ?_).1
  have := List.pairwise_mergeSort (le := fun x y : Int => decide (x ≤ y)) (fun a b c h1 h2 => by simp at *; omega) (fun a b => by simp; omega) (allLens i)
  simpa using this
theorem mem_lengthsS {i : It} {x : Int} : x ∈ lengthsS i ↔ x ∈ allLens i := by
  unfold lengthsS
  rw [(compact_spec _ ?_).2, List.mem_mergeSort]
  have := List.pairwise_mergeSort (le := fun x y : Int => decide (x ≤ y)) (fun a b c h1 h2 => by simp at *; omega) (fun a b => by simp; omega) (allLens i)
  simpa using this
/-- Two ascending lists with the same members are one. -/
theorem asc_ext : ∀ {l m : List Int}, l.Pairwise (· < ·) → m.Pairwise (· < ·) → (∀ x, x ∈ l ↔ x ∈ m) → l = m
  | [], [], _, _, _ => rfl
  | [], y :: m, _, _, h => absurd ((h y).2 (by simp)) (by simp)
  | x :: l, [], _, _, h => absurd ((h x).1 (by simp)) (by simp)
  | x :: l, y :: m, hl, hm, h => by
    obtain ⟨hx, hl'⟩ := List.pairwise_cons.1 hl
    obtain ⟨hy, hm'⟩ := List.pairwise_cons.1 hm
    have e : x = y := by
      have h1 := (h x).1 (by simp)
      have h2 := (h y).2 (by simp)
      rcases List.mem_cons.1 h1 with e | h1
      · exact e
      · rcases List.mem_cons.1 h2 with e | h2
        · exact e.symm
        · have := hx y h2
          have := hy x h1
          omega
    subst e
    rw [asc_ext hl' hm' fun z => ?_]
    have hz := h z
    rw [List.mem_cons, List.mem_cons] at hz
    constructor
    · intro h1
      rcases hz.1 (.inr h1) with e | h2
      · subst e; have := hx z h1; omega
      · exact h2
    · intro h1
      rcases hz.2 (.inr h1) with e | h2
      · subst e; have := hy z h1; omega
      · exact h2
end Go.Proofs.Ytpkeimdlcafcnaa
