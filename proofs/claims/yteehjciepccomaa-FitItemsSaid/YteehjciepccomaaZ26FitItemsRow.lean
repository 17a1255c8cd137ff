/-
  Lengths and preferred cuts: the plain laws.
-/
import Derived.Test.YteehjciepccomaaZ25FitItemsRow
import Derived.Test.YteehjciepccomaaZ24FitItemsRow

namespace Go.Proofs.Yteehjciepccomaa

theorem bitsS_congr (s t : Nat) : ∀ n, (∀ j, j < n → s.testBit j = t.testBit j) → bitsS s n = bitsS t n := by
  intro n
  induction n with
  | zero => intro _; rfl
  | succ n ih =>
    intro h
    rw [bitsS, bitsS, h n (by omega), ih fun j hj => h j (by omega)]
theorem bitsS_low (s n : Nat) : bitsS (s % 2 ^ n) n = bitsS s n :=
  bitsS_congr _ _ n fun j hj => by rw [Nat.testBit_mod_two_pow]; simp [hj]
def bSum (l : List Sp) (s n : Nat) : Int := sumSp (cutSps l (bitsS s n))
theorem bSum_succ (l : List Sp) (s n : Nat) : bSum l s (n + 1) = bSum l s n + if s.testBit n then (spOf l n).to_ - (spOf l n).fr else 0 := by
  unfold bSum cutSps
  rw [bitsS]
  split
  · rw [List.map_append, List.map_cons, List.map_nil, sumSp_snoc]
  · omega
theorem bit_comp : ∀ s : Nat, s < 16 → ∀ j : Nat, j < 4 → (15 - s).testBit j = !s.testBit j := by decide
theorem bit_15 : ∀ j : Nat, j < 4 → (15 : Nat).testBit j = true := by decide
theorem bSum_comp (l : List Sp) (s : Nat) (hs : s < 16) : ∀ n, n ≤ 4 → bSum l s n + bSum l (15 - s) n = bSum l 15 n := by
  intro n
  induction n with
  | zero => intro _; rfl
  | succ n ih =>
    intro hn
    rw [bSum_succ, bSum_succ, bSum_succ, bit_comp s hs n (by omega), bit_15 n (by omega)]
    have := ih (by omega)
    cases s.testBit n <;> simp <;> omega
theorem cutLen_b (i : It) (s : Nat) : cutLen i (bitsS s i.trims.length) = i.len - bSum i.trims s i.trims.length := cutLen_eq _ _
theorem cutLen_comp {i : It} (h : ItOk i) (s : Nat) (hs : s < 16) : cutLen i (bitsS s i.trims.length) + cutLen i (bitsS (15 - s) i.trims.length) = cutLen i (bitsS 15 i.trims.length) + i.len := by
  rw [cutLen_b, cutLen_b, cutLen_b]
  have := bSum_comp i.trims s hs i.trims.length h.2.1.1.2
  omega
theorem mem_lens {i : It} {x : Int} : x ∈ lengthsS i ↔ ∃ s, cutLen i (bitsS s i.trims.length) = x := by
  rw [mem_lengthsS]
  unfold allLens
  simp only [List.mem_map, List.mem_range]
  constructor
  · rintro ⟨s, _, h⟩; exact ⟨s, h⟩
  · rintro ⟨s, h⟩; exact ⟨s % 2 ^ i.trims.length, Nat.mod_lt _ (Nat.two_pow_pos _), by rw [bitsS_low]; exact h⟩
theorem mem_lens16 {i : It} (h : ItOk i) {x : Int} : x ∈ lengthsS i ↔ ∃ s, s < 16 ∧ cutLen i (bitsS s i.trims.length) = x := by
  rw [mem_lens]
  constructor
  · rintro ⟨s, e⟩
    refine ⟨s % 2 ^ i.trims.length, Nat.lt_of_lt_of_le (Nat.mod_lt _ (Nat.two_pow_pos _)) (Nat.pow_le_pow_right (n := 2) (by omega) h.2.1.1.2), by rw [bitsS_low]; exact e⟩
  · rintro ⟨s, _, e⟩; exact ⟨s, e⟩
theorem bSum_nonneg {i : It} (h : ItOk i) (s : Nat) : ∀ n, n ≤ i.trims.length → 0 ≤ bSum i.trims s n := by
  intro n
  induction n with
  | zero => intro _; exact Int.le_refl _
  | succ n ih =>
    intro hn
    rw [bSum_succ]
    have := ih (by omega)
    have h2 := (h.2.1.1.1 n (by omega)).1.2.1
    have e : spOf i.trims n = i.trims[n]?.getD ⟨0, 0⟩ := by unfold spOf; rw [Int.toNat_natCast]
    rw [e]
    split <;> omega
theorem bits_zero (n : Nat) : bitsS 0 n = [] := by
  induction n with
  | zero => rfl
  | succ n ih => rw [bitsS, Nat.zero_testBit, if_neg (by simp), ih]
theorem cutLen_full (i : It) : cutLen i (bitsS 0 i.trims.length) = i.len := by rw [bits_zero]; rfl
theorem lens_bounds {i : It} (h : ItOk i) {x : Int} (hx : x ∈ lengthsS i) : cutLen i (bitsS 15 i.trims.length) ≤ x ∧ x ≤ i.len := by
  obtain ⟨s, hs, rfl⟩ := (mem_lens16 h).1 hx
  have h1 := cutLen_comp h s hs
  have h2 := bSum_nonneg h s i.trims.length (Nat.le_refl _)
  have h3 := bSum_nonneg h (15 - s) i.trims.length (Nat.le_refl _)
  rw [cutLen_b i (15 - s), cutLen_b i s] at h1
  rw [cutLen_b i s]
  omega
theorem lens_sym {i : It} (h : ItOk i) {x : Int} (hx : x ∈ lengthsS i) : cutLen i (bitsS 15 i.trims.length) + i.len - x ∈ lengthsS i := by
  obtain ⟨s, hs, rfl⟩ := (mem_lens16 h).1 hx
  refine mem_lens.2 ⟨15 - s, ?_⟩
  have h1 := cutLen_comp h s hs
  omega
theorem lens_ne (i : It) : lengthsS i ≠ [] := fun e => by
  have : i.len ∈ lengthsS i := mem_lens.2 ⟨0, cutLen_full i⟩
  rw [e] at this
  simp at this
theorem lens_rev {i : It} (h : ItOk i) : (lengthsS i).reverse.map (fun x => cutLen i (bitsS 15 i.trims.length) + i.len - x) = lengthsS i := by
  refine asc_ext ?_ (lengthsS_asc i) fun x => ?_
  · rw [List.map_reverse, List.pairwise_reverse, List.pairwise_map]
    exact (lengthsS_asc i).imp fun hab => by omega
  · rw [List.map_reverse, List.mem_reverse, List.mem_map]
    constructor
    · rintro ⟨y, hy, rfl⟩; exact lens_sym h hy
    · intro hx; exact ⟨_, lens_sym h hx, by omega⟩
theorem lens_pair {i : It} (h : ItOk i) {k : Nat} {x y : Int} (hx : (lengthsS i)[k]? = some x) (hy : (lengthsS i)[(lengthsS i).length - 1 - k]? = some y) : x + y = cutLen i (bitsS 15 i.trims.length) + i.len := by
  have hk := (List.getElem?_eq_some_iff.1 hx).1
  have e := lens_rev h
  have h1 : ((lengthsS i).reverse.map (fun x => cutLen i (bitsS 15 i.trims.length) + i.len - x))[k]? = some x := by rw [e]; exact hx
  rw [List.getElem?_map, List.getElem?_reverse hk, hy] at h1
  simp at h1
  omega
theorem lens_first {i : It} (h : ItOk i) {x : Int} (hx : (lengthsS i)[0]? = some x) : x = cutLen i (bitsS 15 i.trims.length) := by
  have h1 := (lens_bounds h (List.mem_of_getElem? hx)).1
  obtain ⟨k, hk⟩ := List.getElem?_of_mem (mem_lens.2 ⟨15, rfl⟩ : cutLen i (bitsS 15 i.trims.length) ∈ lengthsS i)
  rcases Nat.eq_zero_or_pos k with rfl | hp
  · rw [hx] at hk; exact Option.some.inj hk
  · have h2 := (List.getElem?_eq_some_iff.1 hk)
    have h3 := (List.getElem?_eq_some_iff.1 hx)
    have := List.pairwise_iff_getElem.1 (lengthsS_asc i) 0 k h3.1 h2.1 hp
    rw [h2.2, h3.2] at this
    omega

/-! The order of cuts. -/
theorem cmpI_lt {x y : Int} : Lib.compareInt x y < 0 ↔ x < y := by
  unfold Lib.compareInt
  by_cases h : x < y
  · rw [if_pos h]; omega
  · rw [if_neg h]; split <;> omega
theorem cmpI_eq {x y : Int} : Lib.compareInt x y = 0 ↔ x = y := by
  unfold Lib.compareInt
  by_cases h : x < y
  · rw [if_pos h]; omega
  · rw [if_neg h]; split <;> omega
theorem cmpL_trans : ∀ {a b c : List Int}, cmpL a b < 0 → cmpL b c < 0 → cmpL a c < 0
  | [], [], _, h, _ => by simp [cmpL] at h
  | [], _ :: _, [], _, h => by simp [cmpL] at h
  | [], _ :: _, _ :: _, _, _ => by simp [cmpL]
  | _ :: _, [], _, h, _ => by simp [cmpL] at h
  | _ :: _, _ :: _, [], _, h => by simp [cmpL] at h
  | x :: a, y :: b, z :: c, h1, h2 => by
    rw [cmpL] at *
    by_cases e1 : x = y
    · subst e1
      rw [if_pos (cmpI_eq.2 rfl)] at h1
      by_cases e2 : x = z
      · subst e2
        rw [if_pos (cmpI_eq.2 rfl)] at *
        exact cmpL_trans h1 h2
      · rw [if_neg (fun h => e2 (cmpI_eq.1 h))] at *
        exact h2
    · rw [if_neg (fun h => e1 (cmpI_eq.1 h))] at h1
      have l1 := cmpI_lt.1 h1
      by_cases e2 : y = z
      · subst e2
        rw [if_neg (fun h => e1 (cmpI_eq.1 h))]
        exact h1
      · rw [if_neg (fun h => e2 (cmpI_eq.1 h))] at h2
        have l2 := cmpI_lt.1 h2
        rw [if_neg (fun h => by have := cmpI_eq.1 h; omega)]
        exact cmpI_lt.2 (by omega)
theorem cutCmp_trans {a b c : List Int} (h1 : cutCmp a b < 0) (h2 : cutCmp b c < 0) : cutCmp a c < 0 := by
  unfold cutCmp at *
  by_cases e1 : (a.length : Int) = b.length
  · rw [if_pos (cmpI_eq.2 e1)] at h1
    by_cases e2 : (b.length : Int) = c.length
    · rw [if_pos (cmpI_eq.2 e2)] at h2
      rw [if_pos (cmpI_eq.2 (by omega))]
      exact cmpL_trans h1 h2
    · rw [if_neg (fun h => e2 (cmpI_eq.1 h))] at h2
      rw [if_neg (fun h => e2 (by have := cmpI_eq.1 h; omega)), e1]
      exact h2
  · rw [if_neg (fun h => e1 (cmpI_eq.1 h))] at h1
    have l1 := cmpI_lt.1 h1
    by_cases e2 : (b.length : Int) = c.length
    · rw [if_neg (fun h => e1 (by have := cmpI_eq.1 h; omega)), ← e2]
      exact h1
    · rw [if_neg (fun h => e2 (cmpI_eq.1 h))] at h2
      have l2 := cmpI_lt.1 h2
      rw [if_neg (fun h => by have := cmpI_eq.1 h; omega)]
      exact cmpI_lt.2 (by omega)
theorem cmpL_self : ∀ a : List Int, cmpL a a = 0
  | [] => rfl
  | x :: a => by rw [cmpL, if_pos (cmpI_eq.2 rfl)]; exact cmpL_self a
theorem cutCmp_self (a : List Int) : cutCmp a a = 0 := by unfold cutCmp; rw [if_pos (cmpI_eq.2 rfl)]; exact cmpL_self a
/-- What the search over cuts ends with. -/
theorem bestOf_spec (i : It) (wanted : Int) : ∀ l : List Nat, match bestOf i wanted l with
    | none => ∀ s ∈ l, cutLen i (bitsS s i.trims.length) ≠ wanted
    | some b => (∃ s ∈ l, bitsS s i.trims.length = b) ∧ cutLen i b = wanted ∧ ∀ s ∈ l, cutLen i (bitsS s i.trims.length) = wanted → ¬ cutCmp (bitsS s i.trims.length) b < 0 := by
  intro l
  obtain ⟨m, hm⟩ : ∃ m, m = l.reverse := ⟨_, rfl⟩
  have hl : l = m.reverse := by rw [hm, List.reverse_reverse]
  subst hl
  clear hm
  induction m with
  | nil => intro s hs; simp at hs
  | cons s m ih =>
    rw [List.reverse_cons, bestOf_snoc]
    unfold bestStep
    by_cases hw : cutLen i (bitsS s i.trims.length) = wanted
    · rw [if_pos hw]
      cases hb : bestOf i wanted m.reverse with
      | none =>
        rw [hb] at ih
        refine ⟨⟨s, by simp, rfl⟩, hw, fun t ht hwt => ?_⟩
        rcases List.mem_append.1 ht with ht | ht
        · exact absurd hwt (ih t ht)
        · obtain rfl := List.mem_singleton.1 ht
          rw [cutCmp_self]
          omega
      | some b =>
        rw [hb] at ih
        obtain ⟨⟨r, hr, hrb⟩, i2, i3⟩ := ih
        show match (if cutCmp (bitsS s i.trims.length) b < 0 then some (bitsS s i.trims.length) else some b) with | none => _ | some b => _
        by_cases hc : cutCmp (bitsS s i.trims.length) b < 0
        · rw [if_pos hc]
          refine ⟨⟨s, by simp, rfl⟩, hw, fun t ht hwt hlt => ?_⟩
          rcases List.mem_append.1 ht with ht | ht
          · exact i3 t ht hwt (cutCmp_trans hlt hc)
          · obtain rfl := List.mem_singleton.1 ht
            rw [cutCmp_self] at hlt
            omega
        · rw [if_neg hc]
          refine ⟨⟨r, List.mem_append_left _ hr, hrb⟩, i2, fun t ht hwt => ?_⟩
          rcases List.mem_append.1 ht with ht | ht
          · exact i3 t ht hwt
          · obtain rfl := List.mem_singleton.1 ht
            exact hc
    · rw [if_neg hw]
      cases hb : bestOf i wanted m.reverse with
      | none =>
        rw [hb] at ih
        intro t ht
        rcases List.mem_append.1 ht with ht | ht
        · exact ih t ht
        · obtain rfl := List.mem_singleton.1 ht
          exact hw
      | some b =>
        rw [hb] at ih
        obtain ⟨⟨r, hr, hrb⟩, i2, i3⟩ := ih
        refine ⟨⟨r, List.mem_append_left _ hr, hrb⟩, i2, fun t ht hwt => ?_⟩
        rcases List.mem_append.1 ht with ht | ht
        · exact i3 t ht hwt
        · obtain rfl := List.mem_singleton.1 ht
          exact absurd hwt hw
/-- The preferred cut of a length that some cut has. -/
theorem best_yes {i : It} (wanted : Int) (s : Nat) (hs : cutLen i (bitsS s i.trims.length) = wanted) : ∃ b r, bestOf i wanted (List.range (2 ^ i.trims.length)) = some b ∧ bitsS r i.trims.length = b ∧ cutLen i b = wanted ∧ ∀ t, cutLen i (bitsS t i.trims.length) = wanted → ¬ cutCmp (bitsS t i.trims.length) b < 0 := by
  have h := bestOf_spec i wanted (List.range (2 ^ i.trims.length))
  have hin : ∀ t : Nat, t % 2 ^ i.trims.length ∈ List.range (2 ^ i.trims.length) := fun t => List.mem_range.2 (Nat.mod_lt _ (Nat.two_pow_pos _))
  cases hb : bestOf i wanted (List.range (2 ^ i.trims.length)) with
  | none =>
    rw [hb] at h
    exact absurd (by rw [bitsS_low]; exact hs) (h _ (hin s))
  | some b =>
    rw [hb] at h
    obtain ⟨⟨r, _, hr⟩, h2, h3⟩ := h
    refine ⟨b, r, rfl, hr, h2, fun t ht => ?_⟩
    have := h3 _ (hin t)
    rw [bitsS_low] at this
    exact this ht
theorem best_no {i : It} (wanted : Int) (hs : ∀ s, cutLen i (bitsS s i.trims.length) ≠ wanted) : bestOf i wanted (List.range (2 ^ i.trims.length)) = none := by
  have h := bestOf_spec i wanted (List.range (2 ^ i.trims.length))
  cases hb : bestOf i wanted (List.range (2 ^ i.trims.length)) with
  | none => rfl
  | some b =>
    rw [hb] at h
    obtain ⟨⟨r, _, hr⟩, h2, _⟩ := h
    exact absurd (by rw [hr]; exact h2) (hs r)
end Go.Proofs.Yteehjciepccomaa
