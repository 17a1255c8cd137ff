/-
  The plain law of the best choice.
-/
import Derived.Test.YteehjciepccomaaFResume
namespace Go.Proofs.Yteehjciepccomaa

theorem cost_bound {l : List Pc} (hok : ∀ p ∈ l, PcOk p) : ∀ {ns : List Int} {total at_ : Int}, fitsS total l at_ ns = true → 0 ≤ costS l ns ∧ costS l ns ≤ 3600 * l.length := by
  induction l with
  | nil => intro ns total at_ h; cases ns <;> simp [costS]
  | cons p l ih =>
    intro ns total at_ h
    cases ns with
    | nil => simp [fitsS] at h
    | cons n ns =>
      simp only [fitsS, Bool.and_eq_true, decide_eq_true_eq] at h
      have h1 := ih (fun q hq => hok q (List.mem_cons_of_mem _ hq)) h.2
      have hp := hok p List.mem_cons_self
      have hn := len_ok hp h.1.2
      have hw := hp.2.1
      have ha : 0 ≤ awayS n p.want ∧ awayS n p.want ≤ 3600 := by unfold awayS; omega
      rw [costS, List.length_cons]
      omega
/-- No choice that fits costs less. -/
theorem least_le {total : Int} {l : List Pc} (hok : ∀ p ∈ l, PcOk p) : ∀ {ns : List Int} {at_ : Int}, 0 ≤ at_ → fitsS total l at_ ns = true → leastS total l at_ ≤ costS l ns := by
  induction l with
  | nil =>
    intro ns at_ _ h
    cases ns with
    | nil => simp only [fitsS, decide_eq_true_eq] at h; rw [leastS, if_pos h]; simp [costS]
    | cons n ns => simp [fitsS] at h
  | cons p l ih =>
    intro ns at_ h0 h
    cases ns with
    | nil => simp [fitsS] at h
    | cons n ns =>
      have h' := h
      simp only [fitsS, Bool.and_eq_true, decide_eq_true_eq] at h
      have hp := hok p List.mem_cons_self
      have hn := len_ok hp h.1.2
      have h1 := ih (fun q hq => hok q (List.mem_cons_of_mem _ hq)) (at_ := at_ + n) (by omega) h.2
      rw [leastS, costS]
      split
      · rename_i hlt
        -- it would end behind the total
        have hb : ∀ (m : List Pc) (hm : ∀ q ∈ m, PcOk q) (ks : List Int) (t : Int), total < t → fitsS total m t ks = false := by
          intro m
          induction m with
          | nil => intro _ ks t ht; cases ks <;> simp [fitsS]; omega
          | cons q m im =>
            intro hm ks t ht
            cases ks with
            | nil => simp [fitsS]
            | cons k ks =>
              cases hk : fitsS total (q :: m) t (k :: ks) with
              | false => rfl
              | true =>
                simp only [fitsS, Bool.and_eq_true, decide_eq_true_eq] at hk
                have hkk := len_ok (hm q List.mem_cons_self) hk.1.2
                have := im (fun r hr => hm r (List.mem_cons_of_mem _ hr)) ks (t + k) (by omega)
                rw [this] at hk
                simp at hk
        rw [hb (p :: l) hok (n :: ns) at_ hlt] at h'
        cases h'
      · rw [if_pos h.1.1]
        have := foldl_min_mem (fun n => awayS n p.want + leastS total l (at_ + n)) p.lens never n h.1.2
        have hmin : min (p.lens.foldl (fun c n => min c (awayS n p.want + leastS total l (at_ + n))) never) never ≤ awayS n p.want + leastS total l (at_ + n) := by omega
        omega
/-- The choice that is taken fits, and costs that much. -/
theorem best_fits {total : Int} {l : List Pc} (hok : ∀ p ∈ l, PcOk p) : ∀ {at_ : Int}, leastS total l at_ < never → ∃ ns, bestS total l at_ = some ns ∧ fitsS total l at_ ns = true ∧ costS l ns = leastS total l at_ := by
  induction l with
  | nil =>
    intro at_ h
    rw [leastS] at h
    by_cases e : at_ = total
    · exact ⟨[], rfl, by simp [fitsS, e], by rw [leastS, if_pos e]; rfl⟩
    · rw [if_neg e] at h; omega
  | cons p l ih =>
    intro at_ h
    have h0 := h
    rw [leastS] at h
    split at h
    · omega
    split at h
    case isFalse => omega
    rename_i hm
    rcases foldl_min_cases (fun n => awayS n p.want + leastS total l (at_ + n)) p.lens never with hc | ⟨n, hn, hc⟩
    · rw [hc] at h; omega
    · have hle : leastS total (p :: l) at_ = awayS n p.want + leastS total l (at_ + n) := by
        rw [leastS]
        rename_i hlt
        rw [if_neg hlt, if_pos hm, hc]
        rw [hc] at h
        show min (awayS n p.want + leastS total l (at_ + n)) never = awayS n p.want + leastS total l (at_ + n)
        omega
      cases hf : p.lens.find? fun n => decide (awayS n p.want + leastS total l (at_ + n) = leastS total (p :: l) at_) with
      | none =>
        have := List.find?_eq_none.1 hf n hn
        simp [hle] at this
      | some k =>
        have hk := List.find?_some hf
        simp only [decide_eq_true_eq] at hk
        have hkm := List.mem_of_find?_eq_some hf
        have hk2 : leastS total l (at_ + k) < never := by have := awayS_nonneg k p.want; omega
        obtain ⟨ks, h1, h2, h3⟩ := ih (fun q hq => hok q (List.mem_cons_of_mem _ hq)) hk2
        refine ⟨k :: ks, ?_, ?_, ?_⟩
        · rw [bestS, hf]
          simp only [h1, Option.map_some]
        · simp only [fitsS, Bool.and_eq_true, decide_eq_true_eq]
          exact ⟨⟨hm, hkm⟩, h2⟩
        · rw [costS, h3, hk]
/-- Whether a list comes before another one. -/
def firstS : List Int → List Int → Bool
  | x :: xs, y :: ys => if x = y then firstS xs ys else decide (x < y)
  | _, _ => false
theorem asc_lt {p : Pc} (hp : PcOk p) : p.lens.Pairwise (· < ·) := by
  rw [List.pairwise_iff_getElem]
  have step : ∀ j, (hj : j + 1 < p.lens.length) → p.lens[j]'(by omega) < p.lens[j + 1] := fun j hj => by
    have := (hp.2.2.2 (j + 1) hj).2
    rcases this with h | h
    · omega
    · rw [show j + 1 - 1 = j from rfl, List.getElem?_eq_getElem (by omega), List.getElem?_eq_getElem hj] at h
      simpa using h
  have all : ∀ d i, (h : i + d + 1 < p.lens.length) → p.lens[i]'(by omega) < p.lens[i + d + 1] := by
    intro d
    induction d with
    | zero => intro i h; exact step i h
    | succ d ih => intro i h; exact Int.lt_trans (ih i (by omega)) (step (i + d + 1) h)
  intro i j hi hj hij
  have := all (j - i - 1) i (by omega)
  simp only [show i + (j - i - 1) + 1 = j by omega] at this
  exact this
/-- Of the choices that cost as little, none comes first. -/
theorem best_first {total : Int} {l : List Pc} (hok : ∀ p ∈ l, PcOk p) : ∀ {at_ : Int} {ns ks : List Int}, 0 ≤ at_ → bestS total l at_ = some ns → fitsS total l at_ ks = true → costS l ks = leastS total l at_ → firstS ks ns = false := by
  induction l with
  | nil =>
    intro at_ ns ks _ hb hf _
    cases ks with
    | nil => rfl
    | cons k ks => simp [fitsS] at hf
  | cons p l ih =>
    intro at_ ns ks h0 hb hf hc
    cases ks with
    | nil => simp [fitsS] at hf
    | cons k ks =>
      have hf' := hf
      simp only [fitsS, Bool.and_eq_true, decide_eq_true_eq] at hf
      have hp := hok p List.mem_cons_self
      have hk := len_ok hp hf.1.2
      have hok' : ∀ q ∈ l, PcOk q := fun q hq => hok q (List.mem_cons_of_mem _ hq)
      have hle := least_le hok' (at_ := at_ + k) (by omega) hf.2
      have hall := least_le hok h0 hf'
      rw [costS] at hc
      -- k does it too
      have hkeq : awayS k p.want + leastS total l (at_ + k) = leastS total (p :: l) at_ := by
        have hge : leastS total (p :: l) at_ ≤ awayS k p.want + leastS total l (at_ + k) := by
          rw [leastS]
          split
          · rename_i hlt
            have := leastS_far l (show total < at_ + k by omega)
            have := awayS_nonneg k p.want
            omega
          · rw [if_pos hf.1.1]
            have := foldl_min_mem (fun n => awayS n p.want + leastS total l (at_ + n)) p.lens never k hf.1.2
            have : min (p.lens.foldl (fun c n => min c (awayS n p.want + leastS total l (at_ + n))) never) never ≤ awayS k p.want + leastS total l (at_ + k) := by omega
            exact this
        omega
      rw [bestS] at hb
      cases hfi : p.lens.find? fun n => decide (awayS n p.want + leastS total l (at_ + n) = leastS total (p :: l) at_) with
      | none => rw [hfi] at hb; cases hb
      | some n =>
        rw [hfi] at hb
        simp only at hb
        cases hbb : bestS total l (at_ + n) with
        | none => rw [hbb] at hb; cases hb
        | some ms =>
          rw [hbb] at hb
          simp only [Option.map_some, Option.some.injEq] at hb
          subst hb
          rw [firstS]
          by_cases e : k = n
          · rw [if_pos e]
            subst e
            exact ih hok' (by omega) hbb hf.2 (by omega)
          · rw [if_neg e]
            refine decide_eq_false (fun hlt => ?_)
            -- n is the first that does it, and the lengths ascend
            obtain ⟨_, xs, ys, hsp, hno⟩ := List.find?_eq_some_iff_append.1 hfi
            have hasc := asc_lt hp
            rw [hsp, List.pairwise_append] at hasc
            have hkm := hf.1.2
            rw [hsp] at hkm
            rcases List.mem_append.1 hkm with h | h
            · have := hno k h
              simp [hkeq] at this
            · rcases List.mem_cons.1 h with h | h
              · exact e h
              · have := (List.pairwise_cons.1 hasc.2.1).1 k h
                omega
end Go.Proofs.Yteehjciepccomaa
