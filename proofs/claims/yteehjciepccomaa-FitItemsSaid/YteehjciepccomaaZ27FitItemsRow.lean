/-
  Recordings that are shortened to what Solve returns: the plain law.
-/
import Derived.Test.YteehjciepccomaaZ26FitItemsRow
import Derived.Test.YteehjciepccomaaZ14FitItemsRow
import Derived.Lib.RowBridge

namespace Go.Proofs.Yteehjciepccomaa

theorem foldl_add0 (l : List Int) : ∀ c : Int, l.foldl (· + ·) c = c + l.foldl (· + ·) 0 := by
  induction l with
  | nil => intro c; simp
  | cons x l ih =>
    intro c
    rw [List.foldl_cons, List.foldl_cons, ih, ih (0 + x)]
    omega
theorem sumS_cons2 (n : Int) (l : List Int) : sumS (n :: l) = n + sumS l := by
  unfold sumS
  rw [List.foldl_cons, foldl_add0]
  omega
/-- A recording with its first three trims. -/
def cut3 (i : It) : It := { i with trims := i.trims.take 3 }
theorem sumSp_take : ∀ (l : List Sp) (k : Nat), (∀ s ∈ l, s.fr ≤ s.to_) → sumSp (l.take k) ≤ sumSp l
  | [], k, _ => by rw [List.take_nil]; exact Int.le_refl _
  | s :: l, 0, h => by
    have := sumSp_take l 0 fun t ht => h t (by simp [ht])
    rw [List.take_zero, sumSp_nil] at *
    rw [sumSp_cons]
    have := h s (by simp)
    omega
  | s :: l, k + 1, h => by
    have := sumSp_take l k fun t ht => h t (by simp [ht])
    rw [List.take_succ_cons, sumSp_cons, sumSp_cons]
    omega
theorem cut3_ok {i : It} (h : ItOk i) : ItOk (cut3 i) := by
  obtain ⟨h1, ⟨h2, h3⟩, h4, h5⟩ := h
  have hs : ∀ s ∈ i.trims, s.fr ≤ s.to_ := fun s hs => by
    obtain ⟨k, hk⟩ := List.getElem?_of_mem hs
    have := (h2.1 k (List.getElem?_eq_some_iff.1 hk).1).1
    rw [hk] at this
    have h9 : s.fr < s.to_ := this.2.1
    omega
  refine ⟨h1, ⟨⟨fun k hk => ?_, ?_⟩, h3⟩, ?_, h5⟩
  · have hk' : k < (i.trims.take 3).length := hk
    rw [List.length_take] at hk'
    have := h2.1 k (by omega)
    unfold SpOk at this ⊢
    show SpIn i.len ((i.trims.take 3)[k]?.getD ⟨0, 0⟩) ∧ (k = 0 ∨ ((i.trims.take 3)[k - 1]?.getD ⟨0, 0⟩).to_ ≤ ((i.trims.take 3)[k]?.getD ⟨0, 0⟩).fr)
    rw [List.getElem?_take_of_lt (by omega), List.getElem?_take_of_lt (by omega)]
    exact this
  · show (i.trims.take 3).length ≤ 4
    rw [List.length_take]
    omega
  · have := sumSp_take i.trims 3 hs
    show sumSp (i.trims.take 3) < i.len
    omega
theorem lens_small {i : It} (h : i.trims.length ≤ 3) : (lengthsS i).length ≤ 8 := by
  unfold lengthsS
  refine Nat.le_trans (Lib.compact_length_le _) ?_
  rw [List.length_mergeSort]
  unfold allLens
  rw [List.length_map, List.length_range]
  exact Nat.pow_le_pow_right (n := 2) (by omega) h
theorem lens_mem {i : It} (h : ItOk i) {x : Int} (hx : x ∈ lengthsS i) : ∃ s, cutLen i (bitsS s i.trims.length) = x ∧ 1 ≤ x ∧ x ≤ i.len := by
  rw [mem_lengthsS] at hx
  unfold allLens at hx
  obtain ⟨s, _, rfl⟩ := List.mem_map.1 hx
  exact ⟨s, rfl, cutLen_pos h s, cutLen_le h _⟩
theorem lens_has (i : It) {s : Nat} (hs : s < 2 ^ i.trims.length) : cutLen i (bitsS s i.trims.length) ∈ lengthsS i := by
  rw [mem_lengthsS]
  unfold allLens
  exact List.mem_map.2 ⟨s, List.mem_range.2 hs, rfl⟩
theorem bits_mod (i : It) (s : Nat) : ∃ t, t < 2 ^ i.trims.length ∧ bitsS t i.trims.length = bitsS s i.trims.length :=
  ⟨s % 2 ^ i.trims.length, Nat.mod_lt _ (Nat.pow_pos (by omega)), bitsS_congr _ _ _ fun j hj => by rw [Nat.testBit_mod_two_pow]; simp [hj]⟩
theorem lens_set (i : It) (s : Nat) : cutLen i (bitsS s i.trims.length) ∈ lengthsS i := by
  obtain ⟨t, h1, h2⟩ := bits_mod i s
  rw [← h2]
  exact lens_has i h1
theorem pc_ok {i : It} (h : ItOk i) (h3 : i.trims.length ≤ 3) {j : Int} (hj : -1 ≤ j ∧ j ≤ 3600) : PcOk ⟨lengthsS i, i.len, j⟩ := by
  have hl := h.1.2.2
  refine ⟨⟨List.length_pos_of_mem (lens_set i 0), lens_small h3⟩, ⟨show 0 ≤ i.len by omega, hl.2⟩, hj, fun k hk => ?_⟩
  have hk' : k < (lengthsS i).length := hk
  have hx : (lengthsS i)[k]? = some (lengthsS i)[k] := List.getElem?_eq_getElem hk'
  obtain ⟨_, _, b1, b2⟩ := lens_mem h (List.getElem_mem hk')
  refine ⟨?_, ?_⟩
  · show 0 ≤ (lengthsS i)[k]?.getD 0 ∧ (lengthsS i)[k]?.getD 0 ≤ 3600
    rw [hx]
    show 0 ≤ (lengthsS i)[k] ∧ (lengthsS i)[k] ≤ 3600
    omega
  · rcases Nat.eq_zero_or_pos k with h0 | h0
    · exact .inl h0
    · refine .inr ?_
      show (lengthsS i)[k - 1]?.getD 0 < (lengthsS i)[k]?.getD 0
      rw [hx, List.getElem?_eq_getElem (show k - 1 < (lengthsS i).length by omega)]
      exact (List.pairwise_iff_getElem.1 (lengthsS_asc i)) (k - 1) k (by omega) hk' (by omega)

/-- The hour as it grows: its pieces, a choice that fits, its length. -/
structure Hour (qs : List It) (P : List Pc) (h : List Int) (t : Int) : Prop where
  len : P.length = qs.length
  ok : ∀ i ∈ qs, ItOk i ∧ i.trims.length ≤ 3 ∧ i.len ≤ 400
  pcs : ∀ (k : Nat) i p, qs[k]? = some i → P[k]? = some p → p.lens = lengthsS i ∧ p.want = i.len
  pok : ∀ p ∈ P, PcOk p
  fits : fitsS t P 0 h = true
  low : 0 ≤ t
  high : t ≤ 400 * (qs.length : Int)
theorem hour_nil : Hour [] [] [] 0 := ⟨rfl, fun i h => by simp at h, fun k i p h => by simp at h, fun p h => by simp at h, rfl, Int.le_refl _, Int.le_refl _⟩
theorem hour_snoc {qs : List It} {P : List Pc} {h : List Int} {t : Int} (H : Hour qs P h t) {i : It} (hi : ItOk i) (h3 : i.trims.length ≤ 3) (h4 : i.len ≤ 400) (s : Nat) (j : Int) (hj : j = -1 ∨ j = t) (hm : qs.length ≤ 6) :
    Hour (qs ++ [i]) (P ++ [⟨lengthsS i, i.len, j⟩]) (h ++ [cutLen i (bitsS s i.trims.length)]) (t + cutLen i (bitsS s i.trims.length)) := by
  have h1 := cutLen_pos hi s
  have h2 := cutLen_le hi (bitsS s i.trims.length)
  have hl := H.low
  have hh := H.high
  refine ⟨by simp [H.len], fun x hx => ?_, fun k x p hx hp => ?_, fun p hp => ?_, ?_, by omega, by rw [List.length_append]; simp; omega⟩
  · rcases List.mem_append.1 hx with hx | hx
    · exact H.ok x hx
    · obtain rfl := List.mem_singleton.1 hx
      exact ⟨hi, h3, h4⟩
  · rcases Nat.lt_or_ge k qs.length with hk | hk
    · rw [List.getElem?_append_left hk] at hx
      rw [List.getElem?_append_left (by rw [H.len]; exact hk)] at hp
      exact H.pcs k x p hx hp
    · rw [List.getElem?_append_right hk] at hx
      rw [List.getElem?_append_right (by rw [H.len]; exact hk), H.len] at hp
      have hk0 := (List.getElem?_eq_some_iff.1 hx).1
      obtain e : k - qs.length = 0 := by simpa using hk0
      rw [e] at hx hp
      obtain rfl : i = x := by simpa using hx
      obtain rfl : _ = p := by simpa using hp
      exact ⟨rfl, rfl⟩
  · rcases List.mem_append.1 hp with hp | hp
    · exact H.pok p hp
    · obtain rfl := List.mem_singleton.1 hp
      exact pc_ok hi h3 (by omega)
  · refine fitsS_snoc (lens_set i s) H.fits ?_
    unfold meetsS
    rcases hj with rfl | rfl
    · simp
    · simp
theorem fits_len {t : Int} : ∀ {P : List Pc} {s : Int} {ns : List Int}, fitsS t P s ns = true → ns.length = P.length
  | [], _, [], _ => rfl
  | [], _, _ :: _, h => by simp [fitsS] at h
  | _ :: _, _, [], h => by simp [fitsS] at h
  | p :: P, s, n :: ns, h => by
    simp only [fitsS, Bool.and_eq_true] at h
    rw [List.length_cons, List.length_cons, fits_len h.2]
theorem fits_at {t : Int} : ∀ {P : List Pc} {s : Int} {ns : List Int} {k : Nat} {p : Pc} {n : Int}, fitsS t P s ns = true → P[k]? = some p → ns[k]? = some n → n ∈ p.lens ∧ (p.join < 0 ∨ p.join = s + sumS (ns.take k))
  | [], _, _, _, _, _, _, hp, _ => by simp at hp
  | _ :: _, _, [], _, _, _, h, _, _ => by simp [fitsS] at h
  | q :: P, s, m :: ns, 0, p, n, h, hp, hn => by
    simp only [fitsS, Bool.and_eq_true] at h
    obtain rfl : q = p := by simpa using hp
    obtain rfl : m = n := by simpa using hn
    refine ⟨of_decide_eq_true h.1.2, ?_⟩
    have hm := h.1.1
    unfold meetsS at hm
    rw [Bool.or_eq_true, decide_eq_true_iff, decide_eq_true_iff] at hm
    show _ ∨ q.join = s + 0
    omega
  | q :: P, s, m :: ns, k + 1, p, n, h, hp, hn => by
    simp only [fitsS, Bool.and_eq_true] at h
    obtain ⟨h1, h2⟩ := fits_at (k := k) h.2 (by simpa using hp) (by simpa using hn)
    refine ⟨h1, ?_⟩
    rw [List.take_succ_cons]
    have e : sumS (m :: ns.take k) = m + sumS (ns.take k) := sumS_cons2 m _
    omega
theorem fits_sum {t : Int} : ∀ {P : List Pc} {s : Int} {ns : List Int}, fitsS t P s ns = true → s + sumS ns = t
  | [], s, [], h => by
    have e : s = t := by simpa [fitsS] using h
    show s + 0 = t
    omega
  | [], _, _ :: _, h => by simp [fitsS] at h
  | _ :: _, _, [], h => by simp [fitsS] at h
  | p :: P, s, n :: ns, h => by
    simp only [fitsS, Bool.and_eq_true] at h
    have := fits_sum h.2
    rw [sumS_cons2]
    omega
/-- What has been left out so far. -/
def lostS : List It → List Int → Int
  | i :: qs, n :: ns => i.len - n + lostS qs ns
  | _, _ => 0
theorem cost_lost {t : Int} : ∀ {qs : List It} {P : List Pc} {s : Int} {ns : List Int}, P.length = qs.length → (∀ i ∈ qs, ItOk i) → (∀ (k : Nat) i p, qs[k]? = some i → P[k]? = some p → p.lens = lengthsS i ∧ p.want = i.len) → fitsS t P s ns = true → costS P ns = lostS qs ns
  | [], [], _, [], _, _, _, _ => rfl
  | [], [], _, _ :: _, _, _, _, h => by simp [fitsS] at h
  | [], _ :: _, _, _, hl, _, _, _ => by simp at hl
  | _ :: _, [], _, _, hl, _, _, _ => by simp at hl
  | _ :: _, _ :: _, _, [], _, _, _, h => by simp [fitsS] at h
  | i :: qs, p :: P, s, n :: ns, hl, hok, hp, h => by
    simp only [fitsS, Bool.and_eq_true] at h
    have ih := cost_lost (qs := qs) (P := P) (ns := ns) (by simpa using hl) (fun x hx => hok x (by simp [hx])) (fun k x q hx hq => hp (k + 1) x q (by simpa using hx) (by simpa using hq)) h.2
    obtain ⟨e1, e2⟩ := hp 0 i p rfl rfl
    have hm := of_decide_eq_true h.1.2
    rw [e1] at hm
    obtain ⟨_, _, _, hle⟩ := lens_mem (hok i (by simp)) hm
    show awayS n p.want + costS P ns = i.len - n + lostS qs ns
    rw [ih, e2]
    unfold awayS
    omega
theorem lost_snoc : ∀ {qs : List It} {ns : List Int} {k : Nat} {i : It} {n : Int}, qs[k]? = some i → ns[k]? = some n → lostS (qs.take (k + 1)) (ns.take (k + 1)) = lostS (qs.take k) (ns.take k) + (i.len - n)
  | [], _, _, _, _, h, _ => by simp at h
  | _ :: _, [], _, _, _, _, h => by simp at h
  | q :: qs, m :: ns, 0, i, n, h1, h2 => by
    obtain rfl : q = i := by simpa using h1
    obtain rfl : m = n := by simpa using h2
    show q.len - m + lostS (qs.take 0) (ns.take 0) = 0 + (q.len - m)
    rw [List.take_zero, List.take_zero]
    show q.len - m + 0 = _
    omega
  | q :: qs, m :: ns, k + 1, i, n, h1, h2 => by
    have := lost_snoc (qs := qs) (ns := ns) (k := k) (by simpa using h1) (by simpa using h2)
    show q.len - m + lostS (qs.take (k + 1)) (ns.take (k + 1)) = (q.len - m + lostS (qs.take k) (ns.take k)) + _
    omega
/-- What Solve answers for the hour. -/
theorem hour_solve {qs : List It} {P : List Pc} {h : List Int} {t : Int} (H : Hour qs P h t) (hq : qs.length ≤ 6) :
    ∃ ns c, resumeS P t [] = (ns, c, 0) ∧ ns.length = qs.length ∧ 0 ≤ c ∧ c ≤ 72000 ∧ fitsS t P 0 ns = true ∧ c = lostS qs ns := by
  have hV : ValidS P t := ⟨by rw [H.len]; omega, ⟨H.low, by have := H.high; omega⟩, H.pok⟩
  rcases solve_cases hV with ⟨ns, h1, _, h3, h4, _⟩ | ⟨_, h2⟩
  · refine ⟨ns, _, h1, by rw [fits_len h3, H.len], (leastS_bounds _ _ _).1, ?_, h3, ?_⟩
    · have := (cost_bound H.pok h3).2
      rw [h4] at this
      have hl := H.len
      have : (P.length : Int) ≤ 6 := by omega
      omega
    · rw [← h4]
      exact cost_lost H.len (fun i hi => (H.ok i hi).1) H.pcs h3
  · have := h2 h
    rw [H.fits] at this
    cases this
end Go.Proofs.Yteehjciepccomaa
