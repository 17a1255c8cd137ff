/-
  The plain law of what is left of a best choice.
-/
import Derived.Test.YteehjciepccomaaFLawBest
namespace Go.Proofs.Yteehjciepccomaa

theorem sumS_cons (n : Int) (l : List Int) : sumS (n :: l) = n + sumS l := by
  have h : ∀ (l : List Int) (a : Int), l.foldl (· + ·) a = a + l.foldl (· + ·) 0 := by
    intro l
    induction l with
    | nil => intro a; simp
    | cons m l ih => intro a; rw [List.foldl_cons, ih, List.foldl_cons, ih (0 + m)]; omega
  unfold sumS
  rw [List.foldl_cons, h]
  omega
/-- Behind the first lengths of the best choice, the other ones are the best. -/
theorem best_rest {total : Int} : ∀ {l : List Pc} (_hok : ∀ p ∈ l, PcOk p) (k : Nat) {at_ : Int} {ns : List Int}, k ≤ l.length → leastS total l at_ < never → bestS total l at_ = some ns →
    bestS total (l.drop k) (at_ + sumS (ns.take k)) = some (ns.drop k) ∧ leastS total (l.drop k) (at_ + sumS (ns.take k)) < never ∧ TookOk (ns.take k) ∧ ns.length = l.length
  | [], _, k, at_, ns, hk, hlt, hb => by
    obtain rfl : ns = [] := by simpa [bestS] using hb.symm
    obtain rfl : k = 0 := by simpa using hk
    exact ⟨by simp [bestS], by simpa [sumS] using hlt, fun n hn => by simp at hn, rfl⟩
  | p :: l, hok, k, at_, ns, hk, hlt, hb => by
    have hb0 := hb
    rw [bestS] at hb
    cases hfi : p.lens.find? fun n => decide (awayS n p.want + leastS total l (at_ + n) = leastS total (p :: l) at_) with
    | none => rw [hfi] at hb; cases hb
    | some n =>
      rw [hfi] at hb
      simp only at hb
      cases hbb : bestS total l (at_ + n) with
      | none => rw [hbb] at hb; cases hb
      | some ms =>
        rw [hbb] at hb
        simp only [Option.map_some, Option.some.injEq] at hb
        subst hb
        have hn := List.find?_some hfi
        simp only [decide_eq_true_eq] at hn
        have hnm := List.mem_of_find?_eq_some hfi
        have hlt2 : leastS total l (at_ + n) < never := by have := awayS_nonneg n p.want; omega
        have hnb := len_ok (hok p List.mem_cons_self) hnm
        have hok' : ∀ q ∈ l, PcOk q := fun q hq => hok q (List.mem_cons_of_mem _ hq)
        cases k with
        | zero =>
          have := best_rest hok' 0 (Nat.zero_le _) hlt2 hbb
          refine ⟨by simpa [sumS] using hb0, by simpa [sumS] using hlt, fun m hm => by simp at hm, by simp [this.2.2.2]⟩
        | succ k =>
          obtain ⟨h1, h2, h3, h4⟩ := best_rest hok' k (by simpa using hk) hlt2 hbb
          rw [List.take_succ_cons, List.drop_succ_cons, List.drop_succ_cons, sumS_cons, ← Int.add_assoc]
          refine ⟨h1, h2, fun m hm => ?_, by simp [h4]⟩
          rcases List.mem_cons.1 hm with rfl | hm
          · exact hnb
          · exact h3 m hm
theorem cost_take {l : List Pc} : ∀ {ns : List Int} {i : Nat} {p : Pc} {n : Int}, l[i]? = some p → ns[i]? = some n → costS (l.take (i + 1)) (ns.take (i + 1)) = costS (l.take i) (ns.take i) + awayS n p.want := by
  induction l with
  | nil => intro ns i p n h; simp at h
  | cons q l ih =>
    intro ns i p n h h2
    cases ns with
    | nil => simp at h2
    | cons m ns =>
      cases i with
      | zero =>
        obtain rfl : q = p := by simpa using h
        obtain rfl : m = n := by simpa using h2
        simp [costS]
      | succ i =>
        have := ih (ns := ns) (i := i) (by simpa using h) (by simpa using h2)
        rw [List.take_succ_cons, List.take_succ_cons, costS, this, List.take_succ_cons, List.take_succ_cons, costS]
        omega
theorem cost_split : ∀ (l : List Pc) (ns : List Int) (k : Nat), costS l ns = costS (l.take k) (ns.take k) + costS (l.drop k) (ns.drop k)
  | [], ns, k => by simp [costS]
  | p :: l, [], k => by
    cases k with
    | zero => simp [costS]
    | succ k => simp [costS]
  | p :: l, n :: ns, 0 => by simp [costS]
  | p :: l, n :: ns, k + 1 => by
    rw [List.take_succ_cons, List.take_succ_cons, List.drop_succ_cons, List.drop_succ_cons, costS, costS, cost_split l ns k]
    omega
/-- Resume behind the first k of the best choice. -/
theorem resume_best {l : List Pc} {t : Int} {ns : List Int} (hV : ValidS l t) (hlt : leastS t l 0 < never) (hb : bestS t l 0 = some ns) (k : Nat) (hk : k ≤ l.length) : resumeS l t (ns.take k) = (ns.drop k, costS (l.drop k) (ns.drop k), 0) := by
  obtain ⟨h1, h2, h3, h4⟩ := best_rest hV.2.2 k hk hlt hb
  rw [Int.zero_add] at h1 h2
  have hlen : (ns.take k).length = k := by rw [List.length_take]; omega
  have hokd : ∀ p ∈ l.drop k, PcOk p := fun p hp => hV.2.2 p (List.mem_of_mem_drop hp)
  obtain ⟨ms, g1, g2, g3⟩ := best_fits hokd h2
  obtain rfl : ns.drop k = ms := by rw [h1] at g1; simpa using g1
  unfold resumeS
  rw [if_pos ⟨hV, by rw [hlen]; exact hk, h3⟩, hlen]
  have e : restS l t k (sumS (ns.take k)) = (ns.drop k, costS (l.drop k) (ns.drop k), true) := by
    unfold restS
    rw [if_neg (by omega), h1, g3]
  rw [e]
  rfl
theorem resume_cases {l : List Pc} {t : Int} {took : List Int} (hV : ValidS l t) {r : List Int} {c e : Int} (h : resumeS l t took = (r, c, e)) : (e = 100 ∧ r = [] ∧ c = 0) ∨ (e = 0 ∧ took.length ≤ l.length ∧ fitsS t (l.drop took.length) (sumS took) r = true ∧ costS (l.drop took.length) r = c) := by
  unfold resumeS at h
  split at h
  · rename_i hc
    split at h
    · rename_i hb
      obtain ⟨rfl, h2⟩ := Prod.mk.inj h
      obtain ⟨rfl, rfl⟩ := Prod.mk.inj h2
      refine .inr ⟨rfl, hc.2.1, ?_⟩
      unfold restS at hb ⊢
      have hokd : ∀ p ∈ l.drop took.length, PcOk p := fun p hp => hV.2.2 p (List.mem_of_mem_drop hp)
      split at hb
      · cases hb
      · rename_i hnev
        obtain ⟨ms, g1, g2, g3⟩ := best_fits hokd (show leastS t (l.drop took.length) (sumS took) < never by omega)
        rw [if_neg hnev, g1]
        exact ⟨g2, g3⟩
    · obtain ⟨rfl, h2⟩ := Prod.mk.inj h
      obtain ⟨rfl, rfl⟩ := Prod.mk.inj h2
      exact .inl ⟨rfl, rfl, rfl⟩
  · obtain ⟨rfl, h2⟩ := Prod.mk.inj h
    obtain ⟨rfl, rfl⟩ := Prod.mk.inj h2
    exact .inl ⟨rfl, rfl, rfl⟩
end Go.Proofs.Yteehjciepccomaa
