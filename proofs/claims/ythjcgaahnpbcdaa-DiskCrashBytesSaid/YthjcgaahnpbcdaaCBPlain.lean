/-
  Which writes survive, by a list of bools: in plain lists.
-/
import Derived.Test.YthjcgaahnpbcdaaCrash
namespace Go.Proofs.Ythjcgaahnpbcdaa

def keepB (ks : List Bool) (i : Nat) : Bool := ks[i]?.getD false
def idx (ks : List Bool) (k : Nat) : List Nat := (List.range k).filter (keepB ks)
def lastOf (ks : List Bool) (k : Nat) : Int := match (idx ks k).getLast? with
  | some i => (i : Int)
  | none => -1
theorem idx_succ (ks : List Bool) (k : Nat) : idx ks (k + 1) = idx ks k ++ (if keepB ks k then [k] else []) := by
  unfold idx
  rw [List.range_succ, List.filter_append]
  simp [List.filter_cons]
theorem idx_yes {ks : List Bool} {k : Nat} (h : keepB ks k = true) : idx ks (k + 1) = idx ks k ++ [k] := by rw [idx_succ, h]; rfl
theorem idx_no {ks : List Bool} {k : Nat} (h : keepB ks k = false) : idx ks (k + 1) = idx ks k := by rw [idx_succ, h]; simp
theorem lastOf_zero (ks : List Bool) : lastOf ks 0 = -1 := rfl
theorem lastOf_yes {ks : List Bool} {k : Nat} (h : keepB ks k = true) : lastOf ks (k + 1) = k := by unfold lastOf; rw [idx_yes h]; simp
theorem lastOf_no {ks : List Bool} {k : Nat} (h : keepB ks k = false) : lastOf ks (k + 1) = lastOf ks k := by unfold lastOf; rw [idx_no h]
theorem idx_split (ks : List Bool) {k M : Nat} (h : k ≤ M) : ∃ r, idx ks M = idx ks k ++ r ∧ ∀ x ∈ r, k ≤ x := by
  induction M with
  | zero => obtain rfl : k = 0 := by omega
            exact ⟨[], by simp, by simp⟩
  | succ M ih =>
    rcases Nat.lt_or_ge M k with hk | hk
    · obtain rfl : k = M + 1 := by omega
      exact ⟨[], by simp, by simp⟩
    · obtain ⟨r, hr, hx⟩ := ih hk
      cases hb : keepB ks M with
      | true => exact ⟨r ++ [M], by rw [idx_yes hb, hr, List.append_assoc], fun x hm => by
          simp only [List.mem_append, List.mem_singleton] at hm
          rcases hm with hm | rfl
          · exact hx x hm
          · exact hk⟩
      | false => exact ⟨r, by rw [idx_no hb, hr], hx⟩
theorem idx_at {ks : List Bool} {k M : Nat} (h : k < M) (hk : keepB ks k = true) : (idx ks M)[(idx ks k).length]? = some k := by
  obtain ⟨r, hr, _⟩ := idx_split ks (show k + 1 ≤ M by omega)
  rw [hr, idx_yes hk, List.append_assoc, List.getElem?_append_right (Nat.le_refl _)]
  simp
theorem last_iff {ks : List Bool} {k M : Nat} (h : k < M) (hk : keepB ks k = true) : ((k : Int) = lastOf ks M) ↔ (idx ks k).length + 1 = (idx ks M).length := by
  obtain ⟨r, hr, hx⟩ := idx_split ks (show k + 1 ≤ M by omega)
  rw [idx_yes hk] at hr
  unfold lastOf
  rw [hr]
  cases hl : r.getLast? with
  | none =>
    have : r = [] := by simpa using hl
    subst this
    simp
  | some y =>
    have hne : r ≠ [] := fun e => by rw [e] at hl; simp at hl
    have hy : k + 1 ≤ y := hx y (List.mem_of_getLast? hl)
    have hrl : 0 < r.length := List.length_pos_iff.2 hne
    rw [List.getLast?_append, hl]
    simp only [Option.some_or, List.length_append, List.length_cons, List.length_nil]
    constructor <;> intro h <;> omega
theorem order_idx (ks : List Bool) (M : Nat) : order M ((idx ks M).reverse.map fun i : Nat => (i : Int)) = idx ks M := by
  unfold order idx
  apply List.filter_congr
  intro i hi
  simp only [List.mem_range] at hi
  rw [Bool.eq_iff_iff]
  simp only [decide_eq_true_eq, List.mem_map, List.mem_reverse, List.mem_filter, List.mem_range]
  constructor
  · rintro ⟨a, ⟨_, ha⟩, e⟩
    have : a = i := by omega
    subst this
    exact ha
  · intro h
    exact ⟨i, ⟨hi, h⟩, rfl⟩
end Go.Proofs.Ythjcgaahnpbcdaa
