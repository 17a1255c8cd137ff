/-
  The plain law of the blamed piece.
-/
import Derived.Test.YteehjciepccomaaFLawBest
namespace Go.Proofs.Yteehjciepccomaa

theorem reach_fits {total : Int} : ∀ {l : List Pc} {now : List Int}, (total ∈ reachS l now ↔ ∃ a ∈ now, ∃ ns, fitsS total l a ns = true)
  | [], now => by
    show total ∈ now ↔ _
    constructor
    · intro h; exact ⟨total, h, [], by simp [fitsS]⟩
    · rintro ⟨a, ha, ns, hf⟩
      cases ns with
      | nil => simp only [fitsS, decide_eq_true_eq] at hf; subst hf; exact ha
      | cons n ns => simp [fitsS] at hf
  | p :: l, now => by
    show total ∈ reachS l (nextS p now) ↔ _
    rw [reach_fits]
    constructor
    · rintro ⟨a, ha, ns, hf⟩
      obtain ⟨b, hb, hm, n, hn, rfl⟩ := mem_nextS.1 ha
      exact ⟨b, hb, n :: ns, by simp only [fitsS, Bool.and_eq_true, decide_eq_true_eq]; exact ⟨⟨hm, hn⟩, hf⟩⟩
    · rintro ⟨b, hb, ns, hf⟩
      cases ns with
      | nil => simp [fitsS] at hf
      | cons n ns =>
        simp only [fitsS, Bool.and_eq_true, decide_eq_true_eq] at hf
        exact ⟨b + n, mem_nextS.2 ⟨b, hb, hf.1.1, n, hf.1.2, rfl⟩, ns, hf.2⟩
/-- What a blamed piece tells: 'now' is what can be reached ahead of 'l', of which number k is the first. -/
theorem blameFrom_cases {total : Int} (l : List Pc) : ∀ (k : Nat) (now : List Int), ∃ j : Nat, j ≤ l.length ∧
    (∀ i, i < j → ∀ p, l[i]? = some p → p.join < 0 ∨ p.join ∈ reachS (l.take i) now) ∧
    ((blameFrom total l k now = (-1, []) ∧ j = l.length ∧ total ∈ reachS l now) ∨
     (blameFrom total l k now = (((k + j : Nat) : Int), memb (reachS (l.take j) now) 72001) ∧ ((j = l.length ∧ total ∉ reachS l now) ∨ ∃ p, l[j]? = some p ∧ 0 ≤ p.join ∧ p.join ∉ reachS (l.take j) now))) := by
  induction l with
  | nil =>
    intro k now
    refine ⟨0, Nat.le_refl _, fun i hi => by omega, ?_⟩
    rw [blameFrom]
    by_cases h : total ∈ now
    · rw [if_pos h]; exact .inl ⟨rfl, rfl, h⟩
    · rw [if_neg h]; exact .inr ⟨rfl, .inl ⟨rfl, h⟩⟩
  | cons p l ih =>
    intro k now
    rw [blameFrom]
    by_cases h : 0 ≤ p.join ∧ p.join ∉ now
    · rw [if_pos h]
      exact ⟨0, Nat.zero_le _, fun i hi => by omega, .inr ⟨rfl, .inr ⟨p, rfl, h.1, h.2⟩⟩⟩
    · rw [if_neg h]
      obtain ⟨j, hj, hall, hc⟩ := ih (k + 1) (nextS p now)
      refine ⟨j + 1, by simp; omega, fun i hi q hq => ?_, ?_⟩
      · cases i with
        | zero =>
          obtain rfl : p = q := by simpa using hq
          by_cases h0 : p.join < 0
          · exact .inl h0
          · right
            by_cases hm : p.join ∈ now
            · exact hm
            · exact absurd ⟨by omega, hm⟩ h
        | succ i => exact hall i (by omega) q (by simpa using hq)
      · rcases hc with ⟨h1, h2, h3⟩ | ⟨h1, h2⟩
        · exact .inl ⟨h1, by simp [h2], h3⟩
        · refine .inr ⟨by rw [h1, show k + 1 + j = k + (j + 1) by omega]; rfl, ?_⟩
          rcases h2 with ⟨h2, h3⟩ | ⟨q, hq, h3⟩
          · exact .inl ⟨by simp [h2], h3⟩
          · exact .inr ⟨q, by simpa using hq, h3⟩
theorem reach_some {l : List Pc} (hok : ∀ p ∈ l, PcOk p) : ∀ (j : Nat) {now : List Int}, j ≤ l.length → now ≠ [] → (∀ i, i < j → ∀ p, l[i]? = some p → p.join < 0 ∨ p.join ∈ reachS (l.take i) now) → reachS (l.take j) now ≠ [] := by
  intro j
  induction j with
  | zero => intro now _ hn _; exact hn
  | succ j ih =>
    intro now hj hn hall
    have hp : l[j]? = some (l[j]'(by omega)) := List.getElem?_eq_getElem _
    have h1 := ih (by omega) hn (fun i hi => hall i (by omega))
    rw [reachS_take hp]
    have hpk := hok _ (List.mem_of_getElem? hp)
    obtain ⟨n, hnl⟩ : ∃ n, n ∈ (l[j]'(by omega)).lens := by
      have := hpk.1.1
      cases h : (l[j]'(by omega)).lens with
      | nil => rw [h] at this; simp at this
      | cons n ns => exact ⟨n, by simp⟩
    have hex : ∃ a ∈ reachS (l.take j) now, meetsS (l[j]'(by omega)) a = true := by
      rcases hall j (by omega) _ hp with h | h
      · obtain ⟨a, ha⟩ := List.exists_mem_of_ne_nil _ h1
        exact ⟨a, ha, by simp [meetsS, h]⟩
      · exact ⟨_, h, by simp [meetsS]⟩
    obtain ⟨a, ha, hm⟩ := hex
    intro h
    have := mem_nextS.2 ⟨a, ha, hm, n, hnl, rfl⟩
    rw [h] at this
    simp at this
/-- No second at which a piece with a join may begin: nothing is reached from there on. -/
theorem reach_none {l : List Pc} {j : Nat} {p : Pc} (hp : l[j]? = some p) (h0 : 0 ≤ p.join) {now : List Int} (hno : p.join ∉ reachS (l.take j) now) : reachS l now = [] := by
  have hempty : ∀ (m : List Pc), reachS m [] = [] := by
    intro m
    induction m with
    | nil => rfl
    | cons q m ih => exact ih
  have hsplit : ∀ (m : List Pc) (i : Nat) (n : List Int), reachS m n = reachS (m.drop i) (reachS (m.take i) n) := by
    intro m
    induction m with
    | nil => intro i n; simp [reachS]
    | cons q m ih =>
      intro i n
      cases i with
      | zero => rfl
      | succ i => exact ih i _
  rw [hsplit l (j + 1) now, reachS_take hp]
  have : nextS p (reachS (l.take j) now) = [] := by
    rw [List.eq_nil_iff_forall_not_mem]
    intro x hx
    obtain ⟨a, ha, hm, _⟩ := mem_nextS.1 hx
    simp only [meetsS, Bool.or_eq_true, decide_eq_true_eq] at hm
    rcases hm with hm | hm
    · omega
    · rw [hm] at hno; exact hno ha
  rw [this, hempty]
/-- What Begins lists is some second, where the piece may begin at one. -/
theorem begins_some {l : List Pc} (hok : ∀ p ∈ l, PcOk p) (hl : l.length ≤ 20) {j : Nat} {p : Pc} (hp : l[j]? = some p) (hr : reachS (l.take j) [0] ≠ []) (hm : p.join < 0 ∨ p.join ∈ reachS (l.take j) [0]) : beginsL l j ≠ [] := by
  have hjl := (List.getElem?_eq_some_iff.1 hp).1
  have hb := reachS_bound hok j (by omega)
  have hb2 : ∀ x ∈ reachS (l.take j) [0], 0 ≤ x ∧ x ≤ 72000 := fun x hx => by have := hb x hx; omega
  have hex : ∃ a ∈ reachS (l.take j) [0], meetsS p a = true := by
    rcases hm with h | h
    · obtain ⟨a, ha⟩ := List.exists_mem_of_ne_nil _ hr
      exact ⟨a, ha, by simp [meetsS, h]⟩
    · exact ⟨_, h, by simp [meetsS]⟩
  obtain ⟨a, ha, hma⟩ := hex
  intro h
  have : a ∈ beginsL l j := by
    unfold beginsL
    rw [hp, List.mem_filter]
    exact ⟨(memb_mem hb2 a).2 ha, hma⟩
  rw [h] at this
  simp at this
theorem begins_none {l : List Pc} {j : Nat} {p : Pc} (hok : ∀ p ∈ l, PcOk p) (hl : l.length ≤ 20) (hp : l[j]? = some p) (h0 : 0 ≤ p.join) (hno : p.join ∉ reachS (l.take j) [0]) : beginsL l j = [] := by
  have hjl := (List.getElem?_eq_some_iff.1 hp).1
  have hb := reachS_bound hok j (by omega)
  have hb2 : ∀ x ∈ reachS (l.take j) [0], 0 ≤ x ∧ x ≤ 72000 := fun x hx => by have := hb x hx; omega
  unfold beginsL
  rw [hp, List.filter_eq_nil_iff]
  intro a ha
  have := (memb_mem hb2 a).1 ha
  simp only [meetsS, Bool.or_eq_true, decide_eq_true_eq]
  rintro (hm | hm)
  · omega
  · rw [hm] at hno; exact hno this
end Go.Proofs.Yteehjciepccomaa
