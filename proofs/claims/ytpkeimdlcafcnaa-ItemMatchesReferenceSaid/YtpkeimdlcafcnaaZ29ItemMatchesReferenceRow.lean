/-
  Each of item's functions and the reference's give the same answers.
-/
import Derived.Test.YtpkeimdlcafcnaaZ27ItemMatchesReferenceRow
import Derived.Test.YtpkeimdlcafcnaaZ28ItemMatchesReferenceRow
import Derived.Test.YtpkeimdlcafcnaaZ26ItemMatchesReferenceRow
import Derived.Test.YtpkeimdlcafcnaaZ10ItemMatchesReferenceRow

namespace Go.Proofs.Ytpkeimdlcafcnaa
open Go.RowKit
set_option maxRecDepth 100000
set_option maxHeartbeats 1000000

theorem asc_len2 : ∀ {l : List Int} {a b : Int}, l.Pairwise (· < ·) → (∀ x ∈ l, a ≤ x ∧ x ≤ b) → l.length ≤ (b - a + 1).toNat
  | [], _, _, _, _ => Nat.zero_le _
  | x :: l, a, b, h, hb => by
    obtain ⟨h1, h2⟩ := List.pairwise_cons.1 h
    have hx := hb x (by simp)
    have := asc_len2 (l := l) (a := x + 1) (b := b) h2 fun y hy => ⟨by have := h1 y hy; omega, (hb y (by simp [hy])).2⟩
    rw [List.length_cons]
    omega
theorem lens_len {i : It} (h : ItOk i) : (lengthsS i).length ≤ 3600 := by
  have := asc_len2 (lengthsS_asc i) (a := 1) (b := 3600) fun x hx => by
    rw [mem_lengthsS] at hx
    unfold allLens at hx
    obtain ⟨s, _, rfl⟩ := List.mem_map.1 hx
    have h1 := cutLen_pos h s
    have h2 := cutLen_le h (bitsS s i.trims.length)
    have h3 := h.1.2.2.2
    exact ⟨h1, by omega⟩
  simpa using this
theorem best_len {i : It} (h : ItOk i) {wanted : Int} {c : List Int} (hc : bestOf i wanted (List.range (2 ^ i.trims.length)) = some c) : c.length ≤ 4 := by
  by_cases hs : ∃ s, cutLen i (bitsS s i.trims.length) = wanted
  · obtain ⟨s, hs⟩ := hs
    obtain ⟨b, r, h1, h2, _⟩ := best_yes wanted s hs
    rw [h1] at hc
    cases hc
    rw [← h2]
    exact Nat.le_trans (bitsS_length _ _) h.2.1.1.2
  · rw [best_no wanted fun s e => hs ⟨s, e⟩] at hc
    cases hc
theorem own_at {w' : World} {base e n : Nat} {v : Value} {l : List Int} (h : w'.ownsRow base e 1 v n (l.map (Value.int .i64))) (hn : n = l.length) : ∃ A c, v = .slice A l.length c ∧ Ints w'.heap.size w' (.slice A l.length c) l := by
  subst hn
  obtain ⟨A, c, rfl⟩ := own_form h
  exact ⟨A, c, rfl, it_own_ints h⟩

section
variable (i : It) (ta : Option Addr) (tc : Nat) (ka : Option Addr) (kc : Nat) (W0 : World) (it : ItAt W0 i ta ka) (h1 : i.trims.length ≤ 6) (h2 : i.talks.length ≤ 6)
include it h1 h2
theorem valid_pair : ∃ v : Bool, (∀ W, Upd [] W0 W → Calls Try.prog 12 #[.agg #[.int .i64 i.id, .int .i64 i.kind, .int .i64 i.len, .slice ta i.trims.length tc, .slice ka i.talks.length kc, .int .i64 i.artist, .int .i64 i.tempo, .int .i64 i.lang]] W fun e w' => e = .returned (.bool v) ∧ Upd [] W w') ∧
    (∀ W, Upd [] W0 W → Calls Try.prog 13 #[.agg #[.int .i64 i.id, .int .i64 i.kind, .int .i64 i.len, .slice ta i.trims.length tc, .slice ka i.talks.length kc, .int .i64 i.artist, .int .i64 i.tempo, .int .i64 i.lang]] W fun e w' => e = .returned (.bool v) ∧ Upd [] W w') :=
  ⟨decide (ItOk i), fun W hW => valid_it i ta tc ka kc W (it.upd hW).trims (it.upd hW).talks (Nat.le_refl _) (by unfold maxLen; omega) (by unfold maxLen; omega), fun W hW => refValid i ta tc ka kc W (it.upd hW) (by unfold maxLen; omega) (by unfold maxLen; omega)⟩
theorem lengths_pair : ∃ (L : List Int) (E : Int), L.length ≤ 3600 ∧ (∀ W, Upd [] W0 W → Calls Try.prog 14 #[.agg #[.int .i64 i.id, .int .i64 i.kind, .int .i64 i.len, .slice ta i.trims.length tc, .slice ka i.talks.length kc, .int .i64 i.artist, .int .i64 i.tempo, .int .i64 i.lang]] W fun e w' => ∃ A c, e = .returned (.tuple #[.slice A L.length c, .int .i64 E]) ∧ Ints w'.heap.size w' (.slice A L.length c) L ∧ Upd [] W w') ∧
    (∀ W, Upd [] W0 W → Calls Try.prog 15 #[.agg #[.int .i64 i.id, .int .i64 i.kind, .int .i64 i.len, .slice ta i.trims.length tc, .slice ka i.talks.length kc, .int .i64 i.artist, .int .i64 i.tempo, .int .i64 i.lang]] W fun e w' => ∃ A c, e = .returned (.tuple #[.slice A L.length c, .int .i64 E]) ∧ Ints w'.heap.size w' (.slice A L.length c) L ∧ Upd [] W w') := by
  by_cases h : ItOk i
  · refine ⟨lengthsS i, 0, lens_len h, fun W hW => ?_, fun W hW => ?_⟩
    · refine (itemLengths i ta tc ka kc W (it.upd hW).trims (it.upd hW).talks (Nat.le_refl _) (by unfold maxLen; omega) (by unfold maxLen; omega)).mono fun e w' h9 => ?_
      unfold LengthsPost at h9
      rw [if_pos h] at h9
      obtain ⟨v, rfl, ho, hu⟩ := h9
      obtain ⟨A, c, rfl, hi⟩ := own_at ho rfl
      exact ⟨A, c, rfl, hi, hu⟩
    · refine (refLengths i ta tc ka kc W (it.upd hW) (by unfold maxLen; omega) (by unfold maxLen; omega)).mono fun e w' h9 => ?_
      unfold RLensPost at h9
      rw [if_pos h] at h9
      obtain ⟨A, n, c, rfl, rfl, hi, hu⟩ := h9
      exact ⟨A, c, rfl, hi, hu⟩
  · refine ⟨[], 70, Nat.zero_le _, fun W hW => ?_, fun W hW => ?_⟩
    · refine (itemLengths i ta tc ka kc W (it.upd hW).trims (it.upd hW).talks (Nat.le_refl _) (by unfold maxLen; omega) (by unfold maxLen; omega)).mono fun e w' h9 => ?_
      unfold LengthsPost at h9
      rw [if_neg h] at h9
      exact ⟨none, 0, h9.1, .inl ⟨none, 0, rfl, rfl⟩, h9.2⟩
    · refine (refLengths i ta tc ka kc W (it.upd hW) (by unfold maxLen; omega) (by unfold maxLen; omega)).mono fun e w' h9 => ?_
      unfold RLensPost at h9
      rw [if_neg h] at h9
      exact ⟨none, 0, h9.1, .inl ⟨none, 0, rfl, rfl⟩, h9.2⟩
theorem encode_pair : ∃ (s : ByteArray) (E : Int), (∀ W, Upd [] W0 W → Calls Try.prog 16 #[.agg #[.int .i64 i.id, .int .i64 i.kind, .int .i64 i.len, .slice ta i.trims.length tc, .slice ka i.talks.length kc, .int .i64 i.artist, .int .i64 i.tempo, .int .i64 i.lang]] W fun e w' => e = .returned (.tuple #[.string s, .int .i64 E]) ∧ Upd [] W w') ∧
    (∀ W, Upd [] W0 W → Calls Try.prog 17 #[.agg #[.int .i64 i.id, .int .i64 i.kind, .int .i64 i.len, .slice ta i.trims.length tc, .slice ka i.talks.length kc, .int .i64 i.artist, .int .i64 i.tempo, .int .i64 i.lang]] W fun e w' => e = .returned (.tuple #[.string s, .int .i64 E]) ∧ Upd [] W w') := by
  by_cases h : ItOk i
  · refine ⟨⟨(encS i).toArray⟩, 0, fun W hW => ?_, fun W hW => ?_⟩
    · refine (itemEncode i ta tc ka kc W (it.upd hW).trims (it.upd hW).talks (Nat.le_refl _) (by unfold maxLen; omega) (by unfold maxLen; omega)).mono fun e w' h9 => ?_
      unfold EncodePost at h9
      rwa [if_pos h] at h9
    · refine (refEncode i ta tc ka kc W (it.upd hW) (by unfold maxLen; omega) (by unfold maxLen; omega)).mono fun e w' h9 => ?_
      unfold EncodePost at h9
      rwa [if_pos h] at h9
  · refine ⟨⟨#[]⟩, 70, fun W hW => ?_, fun W hW => ?_⟩
    · refine (itemEncode i ta tc ka kc W (it.upd hW).trims (it.upd hW).talks (Nat.le_refl _) (by unfold maxLen; omega) (by unfold maxLen; omega)).mono fun e w' h9 => ?_
      unfold EncodePost at h9
      rwa [if_neg h] at h9
    · refine (refEncode i ta tc ka kc W (it.upd hW) (by unfold maxLen; omega) (by unfold maxLen; omega)).mono fun e w' h9 => ?_
      unfold EncodePost at h9
      rwa [if_neg h] at h9
theorem cut_pair (k : Int) : ∃ (L : List Int) (E : Int), L.length ≤ 4 ∧ (∀ W, Upd [] W0 W → Calls Try.prog 20 #[.agg #[.int .i64 i.id, .int .i64 i.kind, .int .i64 i.len, .slice ta i.trims.length tc, .slice ka i.talks.length kc, .int .i64 i.artist, .int .i64 i.tempo, .int .i64 i.lang], .int .i64 k] W fun e w' => ∃ A c, e = .returned (.tuple #[.slice A L.length c, .int .i64 E]) ∧ Ints w'.heap.size w' (.slice A L.length c) L ∧ Upd [] W w') ∧
    (∀ W, Upd [] W0 W → Calls Try.prog 21 #[.agg #[.int .i64 i.id, .int .i64 i.kind, .int .i64 i.len, .slice ta i.trims.length tc, .slice ka i.talks.length kc, .int .i64 i.artist, .int .i64 i.tempo, .int .i64 i.lang], .int .i64 k] W fun e w' => ∃ A c, e = .returned (.tuple #[.slice A L.length c, .int .i64 E]) ∧ Ints w'.heap.size w' (.slice A L.length c) L ∧ Upd [] W w') := by
  cases hb : (if ItOk i then bestOf i k (List.range (2 ^ i.trims.length)) else none) with
  | none =>
    refine ⟨[], 70, Nat.zero_le _, fun W hW => ?_, fun W hW => ?_⟩
    · refine (itemCut i ta tc ka kc k W (it.upd hW).trims (it.upd hW).talks (Nat.le_refl _) (by unfold maxLen; omega) (by unfold maxLen; omega)).mono fun e w' h9 => ?_
      unfold CutPost at h9
      rw [hb] at h9
      exact ⟨none, 0, h9.2, .inl ⟨none, 0, rfl, rfl⟩, h9.1⟩
    · refine (refCut i ta tc ka kc k W (it.upd hW) (by unfold maxLen; omega) (by unfold maxLen; omega)).mono fun e w' h9 => ?_
      obtain ⟨⟨_, rfl⟩ | ⟨h, A, n, c, f, hbest, rfl⟩, hu⟩ := h9
      · exact ⟨none, 0, rfl, .inl ⟨none, 0, rfl, rfl⟩, hu⟩
      · rw [if_pos h] at hb
        rcases hbest with ⟨rfl, _⟩ | ⟨rfl, b, h8, _⟩
        · exact ⟨none, 0, rfl, .inl ⟨none, 0, rfl, rfl⟩, hu⟩
        · rw [hb] at h8; cases h8
  | some b =>
    have h : ItOk i := by
      by_cases h : ItOk i
      · exact h
      · rw [if_neg h] at hb; cases hb
    have hb' := hb
    rw [if_pos h] at hb'
    refine ⟨b, 0, best_len h hb', fun W hW => ?_, fun W hW => ?_⟩
    · refine (itemCut i ta tc ka kc k W (it.upd hW).trims (it.upd hW).talks (Nat.le_refl _) (by unfold maxLen; omega) (by unfold maxLen; omega)).mono fun e w' h9 => ?_
      unfold CutPost at h9
      rw [hb] at h9
      obtain ⟨hu, v, rfl, ho⟩ := h9
      obtain ⟨A, c, rfl, hi⟩ := own_at ho rfl
      exact ⟨A, c, rfl, hi, hu⟩
    · refine (refCut i ta tc ka kc k W (it.upd hW) (by unfold maxLen; omega) (by unfold maxLen; omega)).mono fun e w' h9 => ?_
      obtain ⟨⟨h0, _⟩ | ⟨_, A, n, c, f, hbest, rfl⟩, hu⟩ := h9
      · exact absurd h h0
      · rcases hbest with ⟨_, h8, _⟩ | ⟨rfl, b2, h8, rfl, _, hi⟩
        · rw [hb'] at h8; cases h8
        · rw [hb'] at h8
          cases h8
          exact ⟨A, c, rfl, hi, hu⟩

section
variable (a : Option Addr) (n c : Nat) (xs : List Int) (hC : Ints W0.heap.size W0 (.slice a n c) xs) (hm : n ≤ maxLen)
include hC hm
theorem length_pair : ∃ (r E : Int), (0 ≤ r ∧ r ≤ 3600) ∧ (∀ W, Upd [] W0 W → Calls Try.prog 24 #[.agg #[.int .i64 i.id, .int .i64 i.kind, .int .i64 i.len, .slice ta i.trims.length tc, .slice ka i.talks.length kc, .int .i64 i.artist, .int .i64 i.tempo, .int .i64 i.lang], .slice a n c] W fun e w' => e = .returned (.tuple #[.int .i64 r, .int .i64 E]) ∧ Upd [] W w') ∧
    (∀ W, Upd [] W0 W → Calls Try.prog 25 #[.agg #[.int .i64 i.id, .int .i64 i.kind, .int .i64 i.len, .slice ta i.trims.length tc, .slice ka i.talks.length kc, .int .i64 i.artist, .int .i64 i.tempo, .int .i64 i.lang], .slice a n c] W fun e w' => e = .returned (.tuple #[.int .i64 r, .int .i64 E]) ∧ Upd [] W w') := by
  by_cases h : ItOk i ∧ CutOk i.trims.length xs
  · have hp : 0 ≤ cutLen i xs := by
      have := cutLen_por h.1 h.2
      have := (porL_mono (cutOk_row h.1 h.2) 0 i.len (by have := h.1.1.2.2.1; omega)).2
      rw [porL_low (cutOk_row h.1 h.2) 0 (Int.le_refl _)] at this
      have := h.1.1.2.2
      omega
    have hl := cutLen_le h.1 xs
    have h36 := h.1.1.2.2.2
    refine ⟨cutLen i xs, 0, ⟨hp, by omega⟩, fun W hW => ?_, fun W hW => ?_⟩
    · refine (itemLength i ta tc ka kc a n c xs W (it.upd hW).trims (it.upd hW).talks (Nat.le_refl _) (by unfold maxLen; omega) (by unfold maxLen; omega) (keepI hC hW) (Nat.le_refl _) hm).mono fun e w' h9 => ?_
      rwa [if_pos h] at h9
    · refine (refLength i ta tc ka kc a n c xs W (it.upd hW) (by unfold maxLen; omega) (by unfold maxLen; omega) (keepI hC hW) hm).mono fun e w' h9 => ?_
      rwa [if_pos h] at h9
  · refine ⟨0, 70, by omega, fun W hW => ?_, fun W hW => ?_⟩
    · refine (itemLength i ta tc ka kc a n c xs W (it.upd hW).trims (it.upd hW).talks (Nat.le_refl _) (by unfold maxLen; omega) (by unfold maxLen; omega) (keepI hC hW) (Nat.le_refl _) hm).mono fun e w' h9 => ?_
      rwa [if_neg h] at h9
    · refine (refLength i ta tc ka kc a n c xs W (it.upd hW) (by unfold maxLen; omega) (by unfold maxLen; omega) (keepI hC hW) hm).mono fun e w' h9 => ?_
      rwa [if_neg h] at h9
theorem talk_pair : ∃ (L : List Sp) (E : Int), L.length ≤ 3600 ∧ (∀ W, Upd [] W0 W → Calls Try.prog 26 #[.agg #[.int .i64 i.id, .int .i64 i.kind, .int .i64 i.len, .slice ta i.trims.length tc, .slice ka i.talks.length kc, .int .i64 i.artist, .int .i64 i.tempo, .int .i64 i.lang], .slice a n c] W fun e w' => ∃ A c', e = .returned (.tuple #[.slice A L.length c', .int .i64 E]) ∧ SpsAt w'.heap.size w' A L ∧ Upd [] W w') ∧
    (∀ W, Upd [] W0 W → Calls Try.prog 27 #[.agg #[.int .i64 i.id, .int .i64 i.kind, .int .i64 i.len, .slice ta i.trims.length tc, .slice ka i.talks.length kc, .int .i64 i.artist, .int .i64 i.tempo, .int .i64 i.lang], .slice a n c] W fun e w' => ∃ A c', e = .returned (.tuple #[.slice A L.length c', .int .i64 E]) ∧ SpsAt w'.heap.size w' A L ∧ Upd [] W w') := by
  by_cases h : ItOk i ∧ CutOk i.trims.length xs
  · have hl := cutLen_le h.1 xs
    have h36 := h.1.1.2.2.2
    have key : ∀ W e w', TalkPost i xs W e w' → ∃ A c', e = .returned (.tuple #[.slice A (talkS (beforeS i.trims xs) i.talks).length c', .int .i64 0]) ∧ SpsAt w'.heap.size w' A (talkS (beforeS i.trims xs) i.talks) ∧ Upd [] W w' := fun W e w' h9 => by
      unfold TalkPost at h9
      rw [if_pos h] at h9
      obtain ⟨v, rfl, ho, hu⟩ := h9
      obtain ⟨A, c', rfl⟩ := own_form ho
      exact ⟨A, c', rfl, own_sps ho, hu⟩
    refine ⟨talkS (beforeS i.trims xs) i.talks, 0, by have := sep_len (talk_any h.1 h.2).1; omega, fun W hW => ?_, fun W hW => ?_⟩
    · exact (itemTalk i ta tc ka kc a n c xs W (it.upd hW).trims (it.upd hW).talks (Nat.le_refl _) (by unfold maxLen; omega) (by unfold maxLen; omega) (keepI hC hW) (Nat.le_refl _) hm).mono fun e w' h9 => key W e w' h9
    · exact (refTalk i ta tc ka kc a n c xs W (it.upd hW) (by unfold maxLen; omega) (by unfold maxLen; omega) (keepI hC hW) hm).mono fun e w' h9 => key W e w' h9
  · have key : ∀ W e w', TalkPost i xs W e w' → ∃ A c', e = .returned (.tuple #[.slice A ([] : List Sp).length c', .int .i64 70]) ∧ SpsAt w'.heap.size w' A ([] : List Sp) ∧ Upd [] W w' := fun W e w' h9 => by
      unfold TalkPost at h9
      rw [if_neg h] at h9
      exact ⟨none, 0, h9.1, fun i s hs => by simp at hs, h9.2⟩
    refine ⟨[], 70, Nat.zero_le _, fun W hW => ?_, fun W hW => ?_⟩
    · exact (itemTalk i ta tc ka kc a n c xs W (it.upd hW).trims (it.upd hW).talks (Nat.le_refl _) (by unfold maxLen; omega) (by unfold maxLen; omega) (keepI hC hW) (Nat.le_refl _) hm).mono fun e w' h9 => key W e w' h9
    · exact (refTalk i ta tc ka kc a n c xs W (it.upd hW) (by unfold maxLen; omega) (by unfold maxLen; omega) (keepI hC hW) hm).mono fun e w' h9 => key W e w' h9
theorem place_pair (k : Int) : ∃ (r E : Int), (∀ W, Upd [] W0 W → Calls Try.prog 29 #[.agg #[.int .i64 i.id, .int .i64 i.kind, .int .i64 i.len, .slice ta i.trims.length tc, .slice ka i.talks.length kc, .int .i64 i.artist, .int .i64 i.tempo, .int .i64 i.lang], .slice a n c, .int .i64 k] W fun e w' => e = .returned (.tuple #[.int .i64 r, .int .i64 E]) ∧ Upd [] W w') ∧
    (∀ W, Upd [] W0 W → Calls Try.prog 30 #[.agg #[.int .i64 i.id, .int .i64 i.kind, .int .i64 i.len, .slice ta i.trims.length tc, .slice ka i.talks.length kc, .int .i64 i.artist, .int .i64 i.tempo, .int .i64 i.lang], .slice a n c, .int .i64 k] W fun e w' => e = .returned (.tuple #[.int .i64 r, .int .i64 E]) ∧ Upd [] W w') := by
  by_cases h : (ItOk i ∧ CutOk i.trims.length xs) ∧ 0 ≤ k ∧ k < cutLen i xs
  · refine ⟨placeS i.trims xs k, 0, fun W hW => ?_, fun W hW => ?_⟩
    · refine (itemPlace i ta tc ka kc a n c xs k W (it.upd hW).trims (it.upd hW).talks (Nat.le_refl _) (by unfold maxLen; omega) (by unfold maxLen; omega) (keepI hC hW) (Nat.le_refl _) hm).mono fun e w' h9 => ?_
      rwa [if_pos h] at h9
    · refine (refPlace i ta tc ka kc a n c xs k W (it.upd hW) (by unfold maxLen; omega) (by unfold maxLen; omega) (keepI hC hW) hm).mono fun e w' h9 => ?_
      rwa [if_pos h] at h9
  · refine ⟨0, 70, fun W hW => ?_, fun W hW => ?_⟩
    · refine (itemPlace i ta tc ka kc a n c xs k W (it.upd hW).trims (it.upd hW).talks (Nat.le_refl _) (by unfold maxLen; omega) (by unfold maxLen; omega) (keepI hC hW) (Nat.le_refl _) hm).mono fun e w' h9 => ?_
      rwa [if_neg h] at h9
    · refine (refPlace i ta tc ka kc a n c xs k W (it.upd hW) (by unfold maxLen; omega) (by unfold maxLen; omega) (keepI hC hW) hm).mono fun e w' h9 => ?_
      rwa [if_neg h] at h9
theorem heard_pair (k : Int) : ∃ (r E : Int), (∀ W, Upd [] W0 W → Calls Try.prog 31 #[.agg #[.int .i64 i.id, .int .i64 i.kind, .int .i64 i.len, .slice ta i.trims.length tc, .slice ka i.talks.length kc, .int .i64 i.artist, .int .i64 i.tempo, .int .i64 i.lang], .slice a n c, .int .i64 k] W fun e w' => e = .returned (.tuple #[.int .i64 r, .int .i64 E]) ∧ Upd [] W w') ∧
    (∀ W, Upd [] W0 W → Calls Try.prog 32 #[.agg #[.int .i64 i.id, .int .i64 i.kind, .int .i64 i.len, .slice ta i.trims.length tc, .slice ka i.talks.length kc, .int .i64 i.artist, .int .i64 i.tempo, .int .i64 i.lang], .slice a n c, .int .i64 k] W fun e w' => e = .returned (.tuple #[.int .i64 r, .int .i64 E]) ∧ Upd [] W w') := by
  by_cases h : (ItOk i ∧ CutOk i.trims.length xs) ∧ 0 ≤ k ∧ k < i.len
  · refine ⟨heardS i.trims xs k k, 0, fun W hW => ?_, fun W hW => ?_⟩
    · refine (itemHeard i ta tc ka kc a n c xs k W (it.upd hW).trims (it.upd hW).talks (Nat.le_refl _) (by unfold maxLen; omega) (by unfold maxLen; omega) (keepI hC hW) (Nat.le_refl _) hm).mono fun e w' h9 => ?_
      rwa [if_pos h] at h9
    · refine (refHeard i ta tc ka kc a n c xs k W (it.upd hW) (by unfold maxLen; omega) (by unfold maxLen; omega) (keepI hC hW) hm).mono fun e w' h9 => ?_
      rwa [if_pos h] at h9
  · refine ⟨0, 70, fun W hW => ?_, fun W hW => ?_⟩
    · refine (itemHeard i ta tc ka kc a n c xs k W (it.upd hW).trims (it.upd hW).talks (Nat.le_refl _) (by unfold maxLen; omega) (by unfold maxLen; omega) (keepI hC hW) (Nat.le_refl _) hm).mono fun e w' h9 => ?_
      rwa [if_neg h] at h9
    · refine (refHeard i ta tc ka kc a n c xs k W (it.upd hW) (by unfold maxLen; omega) (by unfold maxLen; omega) (keepI hC hW) hm).mono fun e w' h9 => ?_
      rwa [if_neg h] at h9
end
end
end Go.Proofs.Ytpkeimdlcafcnaa
