/-
  The plain law of the steps: from the seconds of one piece to those of the next.
-/
import Derived.Test.YteehjciepccomaaFBlameP
import Derived.Test.YteehjciepccomaaFLawBlame
namespace Go.Proofs.Yteehjciepccomaa

def joinAt (l : List Pc) (j : Nat) : Int := match l[j]? with
  | some q => q.join
  | none => -1
theorem mem_begins {l : List Pc} {t : Int} (hV : ValidS l t) {j : Nat} (hj : j ≤ l.length) (x : Int) : x ∈ beginsL l j ↔ x ∈ reachS (l.take j) [0] ∧ (joinAt l j < 0 ∨ joinAt l j = x) := by
  have hb := reachS_bound hV.2.2 j hj
  have h20 := hV.1
  have hb2 : ∀ x ∈ reachS (l.take j) [0], 0 ≤ x ∧ x ≤ 72000 := fun x hx => by have := hb x hx; omega
  unfold beginsL joinAt
  rw [List.mem_filter, memb_mem hb2]
  cases hp : l[j]? with
  | none => simp
  | some p =>
    simp only
    unfold meetsS
    simp
theorem begins_strict {l : List Pc} {j : Nat} : (beginsL l j).Pairwise (· < ·) := by
  unfold beginsL
  exact (memb_strict _ _).filter _
theorem begins_bound {l : List Pc} {t : Int} (hV : ValidS l t) {j : Nat} (hj : j ≤ l.length) {x : Int} (h : x ∈ beginsL l j) : 0 ≤ x ∧ x ≤ 3600 * j :=
  reachS_bound hV.2.2 j hj x ((mem_begins hV hj x).1 h).1
theorem steps_fwd {l : List Pc} {t : Int} (hV : ValidS l t) {n : Nat} {p : Pc} (hp : l[n]? = some p) {a z : Int} (ha : a ∈ beginsL l n) (hz : z ∈ p.lens) (hj : joinAt l (n + 1) < 0 ∨ joinAt l (n + 1) = a + z) : a + z ∈ beginsL l (n + 1) := by
  have hn := (List.getElem?_eq_some_iff.1 hp).1
  have h1 := (mem_begins hV (Nat.le_of_lt hn) a).1 ha
  refine (mem_begins hV hn (a + z)).2 ⟨?_, hj⟩
  rw [reachS_take hp, mem_nextS]
  refine ⟨a, h1.1, ?_, z, hz, rfl⟩
  have h2 := h1.2
  unfold joinAt at h2
  rw [hp] at h2
  simp only at h2
  unfold meetsS
  simpa using h2
theorem steps_back {l : List Pc} {t : Int} (hV : ValidS l t) {n : Nat} {p : Pc} (hp : l[n]? = some p) {y : Int} (hy : y ∈ beginsL l (n + 1)) : (∃ z ∈ p.lens, y - z ∈ beginsL l n) ∧ (joinAt l (n + 1) < 0 ∨ joinAt l (n + 1) = y) := by
  have hn := (List.getElem?_eq_some_iff.1 hp).1
  have h1 := (mem_begins hV hn y).1 hy
  refine ⟨?_, h1.2⟩
  have h2 := h1.1
  rw [reachS_take hp, mem_nextS] at h2
  obtain ⟨a, ha, hm, z, hz, e⟩ := h2
  refine ⟨z, hz, ?_⟩
  obtain rfl : a = y - z := by omega
  refine (mem_begins hV (Nat.le_of_lt hn) _).2 ⟨ha, ?_⟩
  unfold joinAt
  rw [hp]
  unfold meetsS at hm
  simpa using hm
end Go.Proofs.Yteehjciepccomaa
