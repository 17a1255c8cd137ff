/-
  Talk: the plain laws.
-/
import Derived.Test.YtpkeimdlcafcnaaIPlainF
import Derived.Test.YtpkeimdlcafcnaaITalk
namespace Go.Proofs.Ytpkeimdlcafcnaa

def TInv (l : List Sp) (m : Int) : Prop := (∀ s ∈ l, 0 ≤ s.fr ∧ s.fr < s.to_ ∧ s.to_ ≤ m) ∧ l.Pairwise (fun s t => s.to_ < t.fr)
theorem TInv.weak {l : List Sp} {m k : Int} (h : TInv l m) (hk : m ≤ k) : TInv l k := ⟨fun s hs => by have := h.1 s hs; omega, h.2⟩
theorem TInv.snoc {l : List Sp} {m : Int} {t : Sp} (h : TInv l m) (h0 : 0 ≤ t.fr) (h1 : t.fr < t.to_) (hl : ∀ s ∈ l, s.to_ < t.fr) : TInv (l ++ [t]) t.to_ := by
  refine ⟨fun s hs => ?_, ?_⟩
  · rcases List.mem_append.1 hs with hs | hs
    · have := h.1 s hs; have := hl s hs; omega
    · obtain rfl := List.mem_singleton.1 hs; omega
  · refine List.pairwise_append.2 ⟨h.2, by simp, fun s hs u hu => ?_⟩
    obtain rfl := List.mem_singleton.1 hu
    exact hl s hs
theorem gone_app {l : List Sp} {t : Sp} {a : Int} : Gone (l ++ [t]) a ↔ Gone l a ∨ (t.fr ≤ a ∧ a < t.to_) := by
  unfold Gone
  constructor
  · rintro ⟨s, hs, h⟩
    rcases List.mem_append.1 hs with hs | hs
    · exact .inl ⟨s, hs, h⟩
    · obtain rfl := List.mem_singleton.1 hs; exact .inr h
  · rintro (⟨s, hs, h⟩ | h)
    · exact ⟨s, List.mem_append_left _ hs, h⟩
    · exact ⟨t, by simp, h⟩
theorem tstep {f : Int → Int} {acc : List Sp} {t : Sp} {m : Int} (h : TInv acc m) (h0 : 0 ≤ f t.fr) (h1 : m ≤ f t.fr) (h2 : f t.fr ≤ f t.to_) :
    TInv (talkStep f acc t) (f t.to_) ∧ (∀ a, Gone (talkStep f acc t) a ↔ Gone acc a ∨ (f t.fr ≤ a ∧ a < f t.to_)) ∧ sumSp (talkStep f acc t) = sumSp acc + (f t.to_ - f t.fr) := by
  unfold talkStep
  by_cases e : f t.fr = f t.to_
  · rw [if_pos e]
    refine ⟨h.weak (by omega), fun a => ⟨.inl, fun h => h.elim id fun h => ?_⟩, by omega⟩
    omega
  · rw [if_neg e]
    have hap : ∀ l : List Sp, TInv l m → (∀ s ∈ l, s.to_ < f t.fr) → TInv (l ++ [⟨f t.fr, f t.to_⟩]) (f t.to_) ∧ (∀ a, Gone (l ++ [⟨f t.fr, f t.to_⟩]) a ↔ Gone l a ∨ (f t.fr ≤ a ∧ a < f t.to_)) ∧ sumSp (l ++ [⟨f t.fr, f t.to_⟩]) = sumSp l + (f t.to_ - f t.fr) :=
      fun l hl hb => ⟨hl.snoc (t := ⟨f t.fr, f t.to_⟩) h0 (show f t.fr < f t.to_ by omega) hb, fun a => gone_app, sumSp_snoc _ _⟩
    rcases List.eq_nil_or_concat acc with rfl | ⟨p, r, heq⟩
    · exact hap [] h (fun s hs => by simp at hs)
    · rw [List.concat_eq_append] at heq
      subst heq
      rw [List.getLast?_concat]
      have hr := h.1 r (by simp)
      have hp := List.pairwise_append.1 h.2
      have hpr : ∀ s ∈ p, s.to_ < r.fr := fun s hs => hp.2.2 s hs r (by simp)
      have hpi : TInv p m := ⟨fun s hs => h.1 s (by simp [hs]), hp.1⟩
      by_cases e2 : r.to_ = f t.fr
      · simp only [if_pos e2, List.dropLast_concat]
        refine ⟨hpi.snoc (t := ⟨r.fr, f t.to_⟩) hr.1 (show r.fr < f t.to_ by omega) hpr, fun a => ?_, ?_⟩
        · rw [gone_app, gone_app]
          show _ ∨ (r.fr ≤ a ∧ a < f t.to_) ↔ _
          have h1 := hr.2.1
          constructor
          · rintro (h | h)
            · exact .inl (.inl h)
            · by_cases h3 : a < r.to_
              · exact .inl (.inr ⟨h.1, h3⟩)
              · exact .inr (by omega)
          · rintro ((h | h) | h)
            · exact .inl h
            · exact .inr (by omega)
            · exact .inr (by omega)
        · rw [sumSp_snoc, sumSp_snoc]
          show _ + (f t.to_ - r.fr) = _
          omega
      · simp only [if_neg e2]
        refine hap (p ++ [r]) h fun s hs => ?_
        rcases List.mem_append.1 hs with hs | hs
        · have := hpr s hs; omega
        · obtain rfl := List.mem_singleton.1 hs; omega
def dSum (f : Int → Int) (l : List Sp) : Int := l.foldr (fun t n => f t.to_ - f t.fr + n) 0
theorem talk_gen {f : Int → Int} (mono : ∀ x y, x ≤ y → f x ≤ f y) : ∀ (ts : List Sp) (b : Int) (acc : List Sp), Row b ts → 0 ≤ f b → TInv acc (f b) → ∀ M, f b ≤ M → (∀ t ∈ ts, f t.to_ ≤ M) →
    TInv (ts.foldl (talkStep f) acc) M ∧ (∀ a, Gone (ts.foldl (talkStep f) acc) a ↔ Gone acc a ∨ ∃ t ∈ ts, f t.fr ≤ a ∧ a < f t.to_) ∧ sumSp (ts.foldl (talkStep f) acc) = sumSp acc + dSum f ts := by
  intro ts
  induction ts with
  | nil => intro b acc _ _ h M hM _; exact ⟨h.weak hM, fun a => ⟨.inl, fun h => h.elim id fun ⟨_, h, _⟩ => by simp at h⟩, by show sumSp acc = sumSp acc + 0; omega⟩
  | cons t ts ih =>
    intro b acc hr h0 h M hM ht
    obtain ⟨g1, g2, g3⟩ := hr
    have m1 := mono b t.fr g1
    have m2 := mono t.fr t.to_ (by omega)
    obtain ⟨s1, s2, s3⟩ := tstep (f := f) h (by omega) m1 m2
    obtain ⟨i1, i2, i3⟩ := ih t.to_ (talkStep f acc t) g3 (by omega) s1 M (ht t (by simp)) fun u hu => ht u (by simp [hu])
    rw [List.foldl_cons]
    refine ⟨i1, fun a => ?_, ?_⟩
    · rw [i2, s2]
      constructor
      · rintro ((h | h) | ⟨u, hu, h⟩)
        · exact .inl h
        · exact .inr ⟨t, by simp, h⟩
        · exact .inr ⟨u, by simp [hu], h⟩
      · rintro (h | ⟨u, hu, h⟩)
        · exact .inl (.inl h)
        · rcases List.mem_cons.1 hu with rfl | hu
          · exact .inl (.inr h)
          · exact .inr ⟨u, hu, h⟩
    · rw [i3, s3]
      show _ = sumSp acc + (f t.to_ - f t.fr + dSum f ts)
      omega
theorem row_of_ok (n : Int) : ∀ (l : List Sp) (b : Int), (∀ k, k < l.length → SpOk n l k) → (∀ s, l[0]? = some s → b ≤ s.fr) → Row b l
  | [], _, _, _ => trivial
  | s :: l, b, h, hb => by
    have h0 := (h 0 (by simp)).1
    refine ⟨hb s rfl, h0.2.1, row_of_ok n l s.to_ (fun k hk => ?_) fun t ht => ?_⟩
    · have h1 := h (k + 1) (by simp; omega)
      refine ⟨h1.1, ?_⟩
      rcases Nat.eq_zero_or_pos k with e | e
      · exact .inl e
      · obtain ⟨j, rfl⟩ : ∃ j, k = j + 1 := ⟨k - 1, by omega⟩
        exact .inr (h1.2.resolve_left (by omega))
    · have hl : 0 < l.length := (List.getElem?_eq_some_iff.1 ht).1
      have h1 := (h 1 (by simp; omega)).2.resolve_left (by omega)
      simpa [ht] using h1
theorem talks_row {i : It} (h : ItOk i) : Row 0 i.talks := row_of_ok i.len _ _ h.2.1.2.1 fun s hs => by
  have := (h.2.1.2.1 0 (List.getElem?_eq_some_iff.1 hs).1).1.1
  simpa [hs] using this
theorem talks_to {i : It} (h : ItOk i) : ∀ t ∈ i.talks, 0 ≤ t.fr ∧ t.fr < t.to_ ∧ t.to_ ≤ i.len := by
  intro t ht
  obtain ⟨k, hk⟩ := List.getElem?_of_mem ht
  have := (h.2.1.2.1 k (List.getElem?_eq_some_iff.1 hk).1).1
  rw [hk] at this
  exact this
theorem before_mono {trims : List Sp} {cut : List Int} (h : Row 0 (cutSps trims cut)) (x y : Int) (hxy : x ≤ y) : beforeS trims cut x ≤ beforeS trims cut y := by
  rw [beforeS_eq, beforeS_eq]
  have := porL_mono h x y hxy
  omega
/-- What Talk answers. -/
theorem talk_all {i : It} (h : ItOk i) (set : Nat) :
    TInv (talkS (beforeS i.trims (bitsS set i.trims.length)) i.talks) (cutLen i (bitsS set i.trims.length)) ∧ sumSp (talkS (beforeS i.trims (bitsS set i.trims.length)) i.talks) = dSum (beforeS i.trims (bitsS set i.trims.length)) i.talks ∧
    ∀ a, Gone (talkS (beforeS i.trims (bitsS set i.trims.length)) i.talks) a ↔ ∃ t ∈ i.talks, beforeS i.trims (bitsS set i.trims.length) t.fr ≤ a ∧ a < beforeS i.trims (bitsS set i.trims.length) t.to_ := by
  have hr := bits_row h set
  have hto := bits_to h set
  have hB0 : beforeS i.trims (bitsS set i.trims.length) 0 = 0 := by rw [beforeS_eq, porL_low hr 0 (Int.le_refl _)]; rfl
  have hBn : beforeS i.trims (bitsS set i.trims.length) i.len = cutLen i (bitsS set i.trims.length) := by rw [beforeS_eq, porL_all hr hto, cutLen_eq]
  have hl := h.1.2.2
  obtain ⟨h1, h2, h3⟩ := talk_gen (before_mono hr) i.talks 0 [] (talks_row h) (by omega) ⟨fun s hs => by simp at hs, by simp⟩ (cutLen i (bitsS set i.trims.length))
    (by rw [← hBn]; exact before_mono hr _ _ (by omega)) fun t ht => by rw [← hBn]; exact before_mono hr _ _ (talks_to h t ht).2.2
  refine ⟨h1, ?_, fun a => ?_⟩
  · unfold talkS
    rw [h3, sumSp_nil, Int.zero_add]
  · unfold talkS
    rw [h2]
    exact ⟨fun h => h.elim (fun ⟨_, h, _⟩ => by simp at h) id, .inr⟩
/-- A second is one of talk exactly if its place is. -/
theorem talk_place {i : It} (h : ItOk i) (set : Nat) (a : Int) : Gone (talkS (beforeS i.trims (bitsS set i.trims.length)) i.talks) a ↔ Gone i.talks (placeS i.trims (bitsS set i.trims.length) a) := by
  have hr := bits_row h set
  have hsp := placeL_spec hr a
  rw [← placeS_eq] at hsp
  obtain ⟨p, hp⟩ : ∃ p, placeS i.trims (bitsS set i.trims.length) a = p := ⟨_, rfl⟩
  rw [hp] at hsp ⊢
  obtain ⟨_, s2, s3⟩ := hsp
  have st := porL_step hr p s2
  have b1 : beforeS i.trims (bitsS set i.trims.length) p = a := by rw [beforeS_eq]; exact s3
  have b2 : beforeS i.trims (bitsS set i.trims.length) (p + 1) = a + 1 := by rw [beforeS_eq, st]; omega
  have key : ∀ x, beforeS i.trims (bitsS set i.trims.length) x ≤ a ↔ x ≤ p := by
    intro x
    constructor
    · intro hx
      refine Int.not_lt.1 fun hlt => ?_
      have := before_mono hr (p + 1) x (by omega)
      omega
    · intro hx
      have := before_mono hr x p hx
      omega
  rw [(talk_all h set).2.2 a]
  unfold Gone
  refine exists_congr fun t => and_congr_right fun _ => and_congr (key _) ?_
  have := key t.to_
  omega
theorem tsum_bound : ∀ {l : List Sp} {b m : Int}, (∀ s ∈ l, b ≤ s.fr ∧ s.fr < s.to_ ∧ s.to_ ≤ m) → l.Pairwise (fun s t => s.to_ < t.fr) → b ≤ m → 0 ≤ sumSp l ∧ sumSp l ≤ m - b
  | [], b, m, _, _, h => by rw [sumSp_nil]; omega
  | s :: l, b, m, h1, h2, h3 => by
    have hs := h1 s (by simp)
    have hp := List.pairwise_cons.1 h2
    have := tsum_bound (l := l) (b := s.to_) (m := m) (fun t ht => by have := h1 t (by simp [ht]); have := hp.1 t ht; omega) hp.2 (by omega)
    rw [sumSp_cons]
    omega
theorem TInv.take {l : List Sp} {m : Int} (h : TInv l m) (k : Nat) : TInv (l.take k) m := ⟨fun s hs => h.1 s (List.mem_of_mem_take hs), h.2.sublist (List.take_sublist _ _)⟩

/-! One trim more. -/
theorem porL_snoc (l : List Sp) (s : Sp) (x : Int) : porL (l ++ [s]) x = porL l x + por s x := by
  induction l with
  | nil => show por s x + 0 = 0 + por s x; omega
  | cons t l ih =>
    show por t x + porL (l ++ [s]) x = por t x + porL l x + por s x
    rw [ih]; omega
theorem bPor_succ (l : List Sp) (s n : Nat) (x : Int) : porL (cutSps l (bitsS s (n + 1))) x = porL (cutSps l (bitsS s n)) x + if s.testBit n then por (spOf l n) x else 0 := by
  unfold cutSps
  rw [bitsS]
  split
  · rw [List.map_append, List.map_cons, List.map_nil, porL_snoc]
  · omega
theorem bPor_or (l : List Sp) (s k : Nat) (x : Int) : ∀ n, porL (cutSps l (bitsS (s ||| 2 ^ k) n)) x = porL (cutSps l (bitsS s n)) x + if k < n ∧ s.testBit k = false then por (spOf l k) x else 0 := by
  intro n
  induction n with
  | zero => rw [if_neg (by omega)]; rfl
  | succ n ih =>
    rw [bPor_succ, bPor_succ, ih, Nat.testBit_or, Nat.testBit_two_pow]
    by_cases e : k = n
    · subst e
      rw [if_neg (show ¬ (k < k ∧ s.testBit k = false) from fun h => by omega)]
      cases hb : s.testBit k <;> simp
    · rw [decide_eq_false e, Bool.or_false]
      by_cases h2 : k < n ∧ s.testBit k = false
      · rw [if_pos h2, if_pos (show k < n + 1 ∧ s.testBit k = false from ⟨by omega, h2.2⟩)]; omega
      · rw [if_neg h2, if_neg (show ¬ (k < n + 1 ∧ s.testBit k = false) from fun h => h2 ⟨by omega, h.2⟩)]; omega
theorem dSum_bound {g : Int → Int} (mono : ∀ x y, x ≤ y → g x ≤ g y) {G : Int} (hG : ∀ x, g x ≤ G) : ∀ (l : List Sp) (b : Int), Row b l → 0 ≤ dSum g l ∧ dSum g l ≤ G - g b
  | [], b, _ => by have := hG b; show 0 ≤ (0 : Int) ∧ (0 : Int) ≤ _; omega
  | t :: l, b, h => by
    obtain ⟨g1, g2, g3⟩ := h
    have ih := dSum_bound mono hG l t.to_ g3
    have := mono b t.fr g1
    have := mono t.fr t.to_ (by omega)
    show 0 ≤ g t.to_ - g t.fr + dSum g l ∧ g t.to_ - g t.fr + dSum g l ≤ _
    omega
theorem dSum_sub (f g : Int → Int) (l : List Sp) : dSum (fun x => f x - g x) l = dSum f l - dSum g l := by
  induction l with
  | nil => rfl
  | cons t l ih =>
    show (f t.to_ - g t.to_) - (f t.fr - g t.fr) + dSum (fun x => f x - g x) l = (f t.to_ - f t.fr + dSum f l) - (g t.to_ - g t.fr + dSum g l)
    rw [ih]; omega
theorem por_mono (t : Sp) {x y : Int} (h : x ≤ y) : por t x ≤ por t y := by unfold por; omega
theorem por_le {t : Sp} (h : t.fr < t.to_) (x : Int) : por t x ≤ t.to_ - t.fr := by unfold por; omega
theorem por_nonneg (t : Sp) (x : Int) : 0 ≤ por t x := by unfold por; omega
theorem talk_more {i : It} (h : ItOk i) (s k : Nat) (hk : k < i.trims.length) {t : Sp} (ht : i.trims[k]? = some t) :
    sumSp (talkS (beforeS i.trims (bitsS (s ||| 2 ^ k) i.trims.length)) i.talks) ≤ sumSp (talkS (beforeS i.trims (bitsS s i.trims.length)) i.talks) ∧
    sumSp (talkS (beforeS i.trims (bitsS s i.trims.length)) i.talks) - sumSp (talkS (beforeS i.trims (bitsS (s ||| 2 ^ k) i.trims.length)) i.talks) ≤ t.to_ - t.fr := by
  rw [(talk_all h s).2.1, (talk_all h (s ||| 2 ^ k)).2.1]
  have htk := (h.2.1.1.1 k hk).1
  rw [ht] at htk
  have e1 : spOf i.trims (k : Int) = t := by unfold spOf; rw [Int.toNat_natCast, ht]; rfl
  have hl : t.fr < t.to_ := htk.2.1
  obtain ⟨g, hg, mono, hG, h0⟩ : ∃ g : Int → Int, (∀ x, (if k < i.trims.length ∧ s.testBit k = false then por t x else 0) = g x) ∧ (∀ x y, x ≤ y → g x ≤ g y) ∧ (∀ x, g x ≤ t.to_ - t.fr) ∧ 0 ≤ g 0 := by
    by_cases hc : k < i.trims.length ∧ s.testBit k = false
    · exact ⟨por t, fun x => by rw [if_pos hc], fun x y hxy => por_mono t hxy, fun x => por_le hl x, por_nonneg t 0⟩
    · exact ⟨fun _ => 0, fun x => by rw [if_neg hc], fun _ _ _ => Int.le_refl _, fun _ => (show (0 : Int) ≤ t.to_ - t.fr by omega), Int.le_refl _⟩
  have eD : beforeS i.trims (bitsS (s ||| 2 ^ k) i.trims.length) = fun x => beforeS i.trims (bitsS s i.trims.length) x - g x := by
    funext x
    rw [beforeS_eq, beforeS_eq, bPor_or, e1, hg]
    omega
  have := dSum_bound mono hG i.talks 0 (talks_row h)
  rw [eD, dSum_sub]
  omega
end Go.Proofs.Ytpkeimdlcafcnaa
