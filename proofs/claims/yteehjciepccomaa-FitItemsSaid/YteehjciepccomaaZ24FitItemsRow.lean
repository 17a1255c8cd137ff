/-
  Places of a shortened recording: the plain law.
-/
import Derived.Test.YteehjciepccomaaZ21FitItemsRow
import Derived.Test.YteehjciepccomaaZ6FitItemsRow
import Derived.Test.YteehjciepccomaaZ18FitItemsRow

namespace Go.Proofs.Yteehjciepccomaa

/-- How many seconds of a spell lie before a second. -/
def por (s : Sp) (x : Int) : Int := max 0 (min x s.to_ - s.fr)
def porL (l : List Sp) (x : Int) : Int := l.foldr (fun s n => por s x + n) 0
def placeL : List Sp → Int → Int
  | [], a => a
  | s :: l, a => placeL l (if s.fr ≤ a then a + (s.to_ - s.fr) else a)
def Gone (l : List Sp) (x : Int) : Prop := ∃ s ∈ l, s.fr ≤ x ∧ x < s.to_
instance (l : List Sp) (x : Int) : Decidable (Gone l x) := by unfold Gone; infer_instance
/-- Spells one behind the other, from a second on. -/
def Row : Int → List Sp → Prop
  | _, [] => True
  | b, s :: l => b ≤ s.fr ∧ s.fr < s.to_ ∧ Row s.to_ l
theorem Row.le : ∀ {l : List Sp} {b : Int}, Row b l → ∀ s ∈ l, b ≤ s.fr ∧ s.fr < s.to_
  | s :: l, b, h, t, ht => by
    obtain ⟨h1, h2, h3⟩ := h
    rcases List.mem_cons.1 ht with rfl | ht
    · exact ⟨h1, h2⟩
    · have := h3.le t ht
      omega
theorem Row.weak {l : List Sp} {a b : Int} (h : Row b l) (hab : a ≤ b) : Row a l := by
  cases l with
  | nil => trivial
  | cons s l => obtain ⟨h1, h2, h3⟩ := h; exact ⟨by omega, h2, h3⟩
theorem placeL_before : ∀ {l : List Sp} {a : Int}, (∀ s ∈ l, a < s.fr) → placeL l a = a
  | [], _, _ => rfl
  | s :: l, a, h => by
    rw [placeL, if_neg (by have := h s (by simp); omega)]
    exact placeL_before fun t ht => h t (by simp [ht])
theorem porL_zero : ∀ {l : List Sp} {x : Int}, (∀ s ∈ l, x ≤ s.fr) → porL l x = 0
  | [], _, _ => rfl
  | s :: l, x, h => by
    show por s x + porL l x = 0
    rw [porL_zero fun t ht => h t (by simp [ht])]
    have := h s (by simp)
    unfold por
    omega
theorem placeL_spec : ∀ {l : List Sp} {b : Int}, Row b l → ∀ a, a ≤ placeL l a ∧ ¬ Gone l (placeL l a) ∧ placeL l a - porL l (placeL l a) = a
  | [], _, _, a => ⟨Int.le_refl _, fun ⟨s, hs, _⟩ => by simp at hs, by show a - 0 = a; omega⟩
  | s :: l, b, h, a => by
    obtain ⟨h1, h2, h3⟩ := h
    by_cases hs : s.fr ≤ a
    · rw [placeL, if_pos hs]
      obtain ⟨i1, i2, i3⟩ := placeL_spec h3 (a + (s.to_ - s.fr))
      refine ⟨by omega, ?_, ?_⟩
      · rintro ⟨t, ht, ht1, ht2⟩
        rcases List.mem_cons.1 ht with rfl | ht
        · omega
        · exact i2 ⟨t, ht, ht1, ht2⟩
      · show _ - (por s _ + porL l _) = a
        unfold por
        omega
    · have hb : ∀ t ∈ s :: l, a < t.fr := fun t ht => by
        rcases List.mem_cons.1 ht with rfl | ht
        · omega
        · have := h3.le t ht
          omega
      rw [placeL_before hb]
      refine ⟨Int.le_refl _, ?_, by rw [porL_zero fun t ht => Int.le_of_lt (hb t ht)]; omega⟩
      rintro ⟨t, ht, ht1, ht2⟩
      have := hb t ht
      omega
theorem placeL_skip : ∀ {l : List Sp} {b : Int}, Row b l → ∀ k, b ≤ k → k < placeL l b → Gone l k
  | [], b, _, k, h1, h2 => by
    have : placeL [] b = b := rfl
    omega
  | s :: l, b, h, k, h1, h2 => by
    obtain ⟨g1, g2, g3⟩ := h
    by_cases hs : s.fr ≤ b
    · rw [placeL, if_pos hs] at h2
      rcases Int.lt_or_le k s.to_ with hk | hk
      · exact ⟨s, by simp, by omega, hk⟩
      · rw [show b + (s.to_ - s.fr) = s.to_ by omega] at h2
        obtain ⟨t, ht, hx⟩ := placeL_skip g3 k hk h2
        exact ⟨t, by simp [ht], hx⟩
    · rw [placeL_before fun t ht => by
        rcases List.mem_cons.1 ht with rfl | ht
        · omega
        · have := g3.le t ht
          omega] at h2
      omega
theorem placeL_next : ∀ {l : List Sp} {b : Int}, Row b l → ∀ a, placeL l a < placeL l (a + 1) ∧ ∀ k, placeL l a < k → k < placeL l (a + 1) → Gone l k
  | [], _, _, a => by
    have e1 : placeL [] a = a := rfl
    have e2 : placeL [] (a + 1) = a + 1 := rfl
    exact ⟨by omega, fun k h1 h2 => by omega⟩
  | s :: l, b, h, a => by
    obtain ⟨g1, g2, g3⟩ := h
    by_cases hs : s.fr ≤ a
    · rw [placeL, placeL, if_pos hs, if_pos (by omega), show a + 1 + (s.to_ - s.fr) = a + (s.to_ - s.fr) + 1 by omega]
      obtain ⟨i1, i2⟩ := placeL_next g3 (a + (s.to_ - s.fr))
      exact ⟨i1, fun k h1 h2 => by obtain ⟨t, ht, hx⟩ := i2 k h1 h2; exact ⟨t, by simp [ht], hx⟩⟩
    · have ep : placeL (s :: l) a = a := placeL_before fun t ht => by
        rcases List.mem_cons.1 ht with rfl | ht
        · omega
        · have := g3.le t ht
          omega
      rw [ep]
      have hq := (placeL_spec (show Row b (s :: l) from ⟨g1, g2, g3⟩) (a + 1)).1
      refine ⟨by omega, fun k h1 h2 => ?_⟩
      by_cases hs2 : s.fr ≤ a + 1
      · rcases Int.lt_or_le k s.to_ with hk | hk
        · exact ⟨s, by simp, by omega, hk⟩
        · rw [placeL, if_pos hs2, show a + 1 + (s.to_ - s.fr) = s.to_ by omega] at h2
          obtain ⟨t, ht, hx⟩ := placeL_skip g3 k hk h2
          exact ⟨t, by simp [ht], hx⟩
      · rw [placeL_before fun t ht => by
          rcases List.mem_cons.1 ht with rfl | ht
          · omega
          · have := g3.le t ht
            omega] at h2
        omega
theorem placeL_lt : ∀ {l : List Sp} {b : Int}, Row b l → ∀ a len, a < len - sumSp l → (∀ s ∈ l, s.to_ ≤ len) → placeL l a < len
  | [], _, _, a, len, h, _ => by
    have e1 : placeL [] a = a := rfl
    rw [sumSp_nil] at h
    omega
  | s :: l, b, h, a, len, hl, ht => by
    obtain ⟨g1, g2, g3⟩ := h
    rw [sumSp_cons] at hl
    have hsum : ∀ m : List Sp, (∀ t ∈ m, t.fr < t.to_) → 0 ≤ sumSp m := by
      intro m
      induction m with
      | nil => intro _; rw [sumSp_nil]; omega
      | cons t m ih =>
        intro hm
        rw [sumSp_cons]
        have := ih fun u hu => hm u (by simp [hu])
        have := hm t (by simp)
        omega
    have h0 := hsum l fun t ht => (g3.le t ht).2
    rw [placeL]
    by_cases hs : s.fr ≤ a
    · rw [if_pos hs]
      exact placeL_lt g3 _ len (by omega) fun t h => ht t (by simp [h])
    · rw [if_neg hs]
      exact placeL_lt g3 _ len (by omega) fun t h => ht t (by simp [h])
/-- Kept seconds: monotone. -/
theorem porL_mono : ∀ {l : List Sp} {b : Int}, Row b l → ∀ x y, x ≤ y → 0 ≤ porL l y - porL l x ∧ porL l y - porL l x ≤ max 0 (y - max x b)
  | [], b, _, x, y, h => by
    show 0 ≤ (0 : Int) - 0 ∧ (0 : Int) - 0 ≤ _
    omega
  | s :: l, b, h, x, y, hxy => by
    obtain ⟨g1, g2, g3⟩ := h
    have ih := porL_mono g3 x y hxy
    show 0 ≤ (por s y + porL l y) - (por s x + porL l x) ∧ (por s y + porL l y) - (por s x + porL l x) ≤ _
    unfold por
    omega
theorem porL_all : ∀ {l : List Sp} {b len : Int}, Row b l → (∀ s ∈ l, s.to_ ≤ len) → porL l len = sumSp l
  | [], _, _, _, _ => rfl
  | s :: l, b, len, h, ht => by
    obtain ⟨g1, g2, g3⟩ := h
    show por s len + porL l len = _
    rw [porL_all g3 fun t h => ht t (by simp [h]), sumSp_cons]
    have := ht s (by simp)
    unfold por
    omega
theorem porL_low {l : List Sp} {b : Int} (h : Row b l) (x : Int) (hx : x ≤ b) : porL l x = 0 :=
  porL_zero fun s hs => by have := h.le s hs; omega
theorem porL_step {l : List Sp} {b : Int} (h : Row b l) (x : Int) (hg : ¬ Gone l x) : porL l (x + 1) = porL l x := by
  induction l generalizing b with
  | nil => rfl
  | cons s l ih =>
    obtain ⟨g1, g2, g3⟩ := h
    show por s (x + 1) + porL l (x + 1) = por s x + porL l x
    rw [ih g3 fun ⟨t, ht, hx⟩ => hg ⟨t, by simp [ht], hx⟩]
    have : ¬ (s.fr ≤ x ∧ x < s.to_) := fun h => hg ⟨s, by simp, h⟩
    unfold por
    omega
/-! The spells of a cut. -/
def cutSps (trims : List Sp) (cut : List Int) : List Sp := cut.map (spOf trims)
theorem placeS_eq (trims : List Sp) : ∀ (cut : List Int) (a : Int), placeS trims cut a = placeL (cutSps trims cut) a
  | [], _ => rfl
  | k :: cut, a => by
    show placeS trims cut _ = placeL (spOf trims k :: cutSps trims cut) a
    rw [placeL, ← placeS_eq trims cut]
theorem cutLen_eq (i : It) (cut : List Int) : cutLen i cut = i.len - sumSp (cutSps i.trims cut) := by
  unfold cutLen
  have : ∀ (cut : List Int) (v : Int), cut.foldl (fun n k => n - ((spOf i.trims k).to_ - (spOf i.trims k).fr)) v = v - sumSp (cutSps i.trims cut) := by
    intro cut
    induction cut with
    | nil => intro v; show v = v - sumSp []; rw [sumSp_nil]; omega
    | cons k cut ih =>
      intro v
      rw [List.foldl_cons, ih]
      show _ = v - sumSp (spOf i.trims k :: cutSps i.trims cut)
      rw [sumSp_cons]
      omega
  exact this cut i.len
theorem sps_pair {n : Int} {l : List Sp} (h : SpsOk n l) : ∀ (d j : Nat), j + d + 1 < l.length → (spOf l j).to_ ≤ (spOf l ((j + d + 1 : Nat) : Int)).fr := by
  intro d
  induction d with
  | zero =>
    intro j hj
    have := (h.1 (j + 1) hj).2
    rcases this with h0 | h0
    · omega
    · unfold spOf
      simpa using h0
  | succ d ih =>
    intro j hj
    have h1 := ih j (by omega)
    have h2 := (h.1 (j + d + 1 + 1) (by omega)).2
    have h3 := (h.1 (j + d + 1) (by omega)).1
    rcases h2 with h0 | h0
    · omega
    · unfold SpIn at h3
      unfold spOf at *
      simp only [Int.toNat_natCast] at *
      rw [show j + (d + 1) + 1 = j + d + 1 + 1 by omega]
      rw [show j + d + 1 + 1 - 1 = j + d + 1 by omega] at h0
      omega
theorem cut_row {n : Int} {l : List Sp} (h : SpsOk n l) : ∀ (cut : List Int) (b : Int), (∀ k ∈ cut, 0 ≤ k ∧ k < (l.length : Int)) → cut.Pairwise (· < ·) → (∀ k ∈ cut, b ≤ (spOf l k).fr) → Row b (cutSps l cut)
  | [], _, _, _, _ => trivial
  | k :: cut, b, hk, hp, hb => by
    obtain ⟨p1, p2⟩ := List.pairwise_cons.1 hp
    have hk0 := hk k (by simp)
    obtain ⟨kn, rfl⟩ : ∃ kn : Nat, k = (kn : Int) := ⟨k.toNat, by omega⟩
    have hin := (h.1 kn (by omega)).1
    refine ⟨hb _ (by simp), by unfold spOf; rw [Int.toNat_natCast]; exact hin.2.1, cut_row h cut _ (fun j hj => hk j (by simp [hj])) p2 fun j hj => ?_⟩
    have hj0 := hk j (by simp [hj])
    obtain ⟨jn, rfl⟩ : ∃ jn : Nat, j = (jn : Int) := ⟨j.toNat, by omega⟩
    have hlt := p1 _ hj
    have := sps_pair h (jn - kn - 1) kn (by omega)
    rwa [show kn + (jn - kn - 1) + 1 = jn by omega] at this
theorem bitsS_pairwise (set n : Nat) : (bitsS set n).Pairwise (· < ·) := by
  induction n with
  | zero => exact List.Pairwise.nil
  | succ n ih =>
    rw [bitsS]
    split
    · refine List.pairwise_append.2 ⟨ih, by simp, fun a ha b hb => ?_⟩
      obtain rfl := List.mem_singleton.1 hb
      obtain ⟨k, hk, _, rfl⟩ := bitsS_mem.1 ha
      omega
    · exact ih
theorem bitsS_cutOk (set n : Nat) (hn : n ≤ 4) : CutOk n (bitsS set n) := by
  refine ⟨fun k hk => ?_, Nat.le_trans (bitsS_length _ _) hn⟩
  have hm : (bitsS set n)[k]?.getD 0 ∈ bitsS set n := by rw [List.getElem?_eq_getElem hk]; exact List.getElem_mem hk
  obtain ⟨j, hj, _, e⟩ := bitsS_mem.1 hm
  refine ⟨by rw [e]; omega, ?_⟩
  rcases Nat.eq_zero_or_pos k with h | h
  · exact .inl h
  · have := List.pairwise_iff_getElem.1 (bitsS_pairwise set n) (k - 1) k (by omega) hk (by omega)
    rw [List.getElem?_eq_getElem hk, List.getElem?_eq_getElem (by omega)]
    exact .inr this
theorem bits_row {i : It} (h : ItOk i) (set : Nat) : Row 0 (cutSps i.trims (bitsS set i.trims.length)) := by
  refine cut_row h.2.1.1 _ 0 (fun k hk => ?_) (bitsS_pairwise _ _) fun k hk => ?_
  · obtain ⟨j, hj, _, rfl⟩ := bitsS_mem.1 hk
    omega
  · obtain ⟨j, hj, _, rfl⟩ := bitsS_mem.1 hk
    have := (h.2.1.1.1 j hj).1.1
    unfold spOf
    rw [Int.toNat_natCast]
    exact this
theorem bits_to {i : It} (h : ItOk i) (set : Nat) : ∀ s ∈ cutSps i.trims (bitsS set i.trims.length), s.to_ ≤ i.len := by
  intro s hs
  obtain ⟨k, hk, rfl⟩ := List.mem_map.1 hs
  obtain ⟨j, hj, _, rfl⟩ := bitsS_mem.1 hk
  have := (h.2.1.1.1 j hj).1.2.2
  unfold spOf
  rw [Int.toNat_natCast]
  exact this
theorem sumSp_bits {l : List Sp} (h : ∀ j, j < l.length → (l[j]?.getD ⟨0, 0⟩).fr < (l[j]?.getD ⟨0, 0⟩).to_) (set : Nat) : ∀ n, n ≤ l.length → sumSp (cutSps l (bitsS set n)) ≤ sumSp (l.take n) := by
  intro n
  induction n with
  | zero => intro _; exact Int.le_refl _
  | succ n ih =>
    intro hn
    have ih := ih (by omega)
    have hs := h n (by omega)
    rw [List.take_succ_eq_append_getElem (by omega), sumSp_snoc]
    rw [List.getElem?_eq_getElem (by omega)] at hs
    simp only [Option.getD_some] at hs
    rw [bitsS]
    split
    · unfold cutSps
      rw [List.map_append, List.map_cons, List.map_nil, sumSp_snoc]
      have e : spOf l (n : Int) = l[n] := by unfold spOf; rw [Int.toNat_natCast, List.getElem?_eq_getElem (by omega)]; rfl
      rw [e]
      unfold cutSps at ih
      omega
    · omega
theorem cutLen_pos {i : It} (h : ItOk i) (set : Nat) : 1 ≤ cutLen i (bitsS set i.trims.length) := by
  rw [cutLen_eq]
  have := sumSp_bits (l := i.trims) (fun j hj => (h.2.1.1.1 j hj).1.2.1) set i.trims.length (Nat.le_refl _)
  rw [List.take_length] at this
  have := h.2.2.1
  omega
end Go.Proofs.Yteehjciepccomaa
