/-
  The plain law of a further length, and of a join that is dropped.
-/
import Derived.Test.YteehjciepccomaaFRestP
import Derived.Test.YteehjciepccomaaFApp
namespace Go.Proofs.Yteehjciepccomaa

/-- What fits the one fits the other, at the same cost. -/
def Wider (p q : Pc) : Prop := (∀ n ∈ p.lens, n ∈ q.lens) ∧ q.want = p.want ∧ (q.join = p.join ∨ q.join < 0)
theorem fits_set {total : Int} {q : Pc} : ∀ {l : List Pc} {k : Nat} {p : Pc} {at_ : Int} {ns : List Int}, l[k]? = some p → Wider p q → fitsS total l at_ ns = true → fitsS total (l.set k q) at_ ns = true ∧ costS (l.set k q) ns = costS l ns
  | [], k, p, at_, ns, hp, _, _ => by simp at hp
  | r :: l, 0, p, at_, [], hp, hw, h => by simp [fitsS] at h
  | r :: l, 0, p, at_, n :: ns, hp, hw, h => by
    obtain rfl : r = p := by simpa using hp
    rw [List.set_cons_zero]
    simp only [fitsS, Bool.and_eq_true, decide_eq_true_eq] at h ⊢
    refine ⟨⟨⟨?_, hw.1 n h.1.2⟩, h.2⟩, ?_⟩
    · have h1 := h.1.1
      unfold meetsS at h1 ⊢
      rcases hw.2.2 with e | e
      · rw [e]; exact h1
      · simp [e]
    · rw [costS, costS, hw.2.1]
  | r :: l, k + 1, p, at_, [], hp, hw, h => by simp [fitsS] at h
  | r :: l, k + 1, p, at_, n :: ns, hp, hw, h => by
    rw [List.set_cons_succ]
    simp only [fitsS, Bool.and_eq_true, decide_eq_true_eq] at h ⊢
    have := fits_set (total := total) (q := q) (l := l) (k := k) (p := p) (at_ := at_ + n) (ns := ns) (by simpa using hp) hw h.2
    exact ⟨⟨h.1, this.1⟩, by rw [costS, costS, this.2]⟩
theorem valid_set {l : List Pc} {t : Int} (h : ValidS l t) {q : Pc} (hq : PcOk q) (k : Nat) : ValidS (l.set k q) t := by
  refine ⟨by rw [List.length_set]; exact h.1, h.2.1, fun r hr => ?_⟩
  rcases List.mem_or_eq_of_mem_set hr with hr | rfl
  · exact h.2.2 r hr
  · exact hq
theorem solve_wider {l : List Pc} {t : Int} {k : Nat} {p q : Pc} (hV : ValidS l t) (hq : PcOk q) (hp : l[k]? = some p) (hw : Wider p q) {r : List Int} {c : Int} (hs : resumeS l t [] = (r, c, 0)) :
    ∃ r' c', resumeS (l.set k q) t [] = (r', c', 0) ∧ c' ≤ c := by
  have hV2 := valid_set hV hq k
  rcases solve_cases hV with ⟨ns, h1, h2, h3, h4, _⟩ | ⟨h1, _⟩
  · rw [hs] at h1
    simp only [Prod.mk.injEq] at h1
    obtain ⟨rfl, rfl, _⟩ := h1
    obtain ⟨f1, f2⟩ := fits_set hp hw h3
    rcases solve_cases hV2 with ⟨ms, g1, g2, g3, g4, _⟩ | ⟨_, g2⟩
    · refine ⟨ms, _, g1, ?_⟩
      have := least_le hV2.2.2 (Int.le_refl 0) f1
      omega
    · rw [g2] at f1; cases f1
  · rw [hs] at h1
    have := (Prod.mk.inj (Prod.mk.inj h1).2).2
    omega
theorem solve_errs {l : List Pc} {t : Int} (hV : ValidS l t) {r : List Int} {c e : Int} (hs : resumeS l t [] = (r, c, e)) : e = 0 ∨ e = 100 := by
  rcases solve_cases hV with ⟨ns, h1, _⟩ | ⟨h1, _⟩
  · rw [hs] at h1; exact .inl (Prod.mk.inj (Prod.mk.inj h1).2).2
  · rw [hs] at h1; exact .inr (Prod.mk.inj (Prod.mk.inj h1).2).2

theorem take_snoc {ps : List Int} {i : Nat} {y : Int} (h : ps[i]? = some y) : ps.take (i + 1) = ps.take i ++ [y] := by
  have hl := (List.getElem?_eq_some_iff.1 h).1
  rw [List.take_add_one, h]
  rfl
theorem take_below {ps : List Int} (hps : ps.Pairwise (· < ·)) {i : Nat} {y : Int} (h : ps[i]? = some y) : ∀ x ∈ ps.take i, x < y := by
  have h1 : (ps.take (i + 1)).Pairwise (· < ·) := hps.sublist (List.take_sublist _ _)
  rw [take_snoc h, List.pairwise_append] at h1
  exact fun x hx => h1.2.2 x hx y (by simp)
theorem take_upto {ps : List Int} (hps : ps.Pairwise (· < ·)) {i : Nat} {v n : Int} (h : ps[i]? = some v) (hn : v < n) : ∀ x ∈ ps.take (i + 1), x < n := by
  intro x hx
  rw [take_snoc h] at hx
  rcases List.mem_append.1 hx with hx | hx
  · have := take_below hps h x hx; omega
  · simp only [List.mem_singleton] at hx; omega
/-- The lengths so far, with the further one where it belongs. -/
structure Ins (n : Int) (ps : List Int) (i : Nat) (zs : List Int) : Prop where
  asc : zs.Pairwise (· < ·)
  sup : ∀ x ∈ ps.take i, x ∈ zs
  sub : ∀ x ∈ zs, x ∈ ps.take i ∨ (x = n ∧ ∃ y ∈ ps.take i, n < y)
  len : zs.length ≤ i ∨ (zs.length ≤ i + 1 ∧ ∃ y ∈ ps.take i, n < y)
theorem Ins.zero (n : Int) (ps : List Int) : Ins n ps 0 [] := ⟨List.Pairwise.nil, by simp, by simp, .inl (Nat.le_refl _)⟩
theorem asc_snoc {zs : List Int} {y : Int} (h : zs.Pairwise (· < ·)) (hy : ∀ x ∈ zs, x < y) : (zs ++ [y]).Pairwise (· < ·) := by
  rw [List.pairwise_append]
  exact ⟨h, by simp, fun a ha b hb => by simp only [List.mem_singleton] at hb; rw [hb]; exact hy a ha⟩
theorem Ins.below {n : Int} {ps zs : List Int} {i : Nat} {y : Int} (hps : ps.Pairwise (· < ·)) (h : Ins n ps i zs) (hy : ps[i]? = some y) : ∀ x ∈ zs, x < y := by
  intro x hx
  rcases h.sub x hx with h1 | ⟨rfl, v, hv, hlt⟩
  · exact take_below hps hy x h1
  · have := take_below hps hy v hv; omega
theorem Ins.next {n : Int} {ps zs : List Int} {i : Nat} {y : Int} (hps : ps.Pairwise (· < ·)) (h : Ins n ps i zs) (hy : ps[i]? = some y) : Ins n ps (i + 1) (zs ++ [y]) := by
  have ht := take_snoc hy
  refine ⟨asc_snoc h.asc (h.below hps hy), fun x hx => ?_, fun x hx => ?_, ?_⟩
  · rw [ht] at hx
    rcases List.mem_append.1 hx with hx | hx
    · exact List.mem_append.2 (.inl (h.sup x hx))
    · exact List.mem_append.2 (.inr hx)
  · rw [ht]
    rcases List.mem_append.1 hx with hx | hx
    · rcases h.sub x hx with h1 | ⟨h1, v, hv, hlt⟩
      · exact .inl (List.mem_append.2 (.inl h1))
      · exact .inr ⟨h1, v, List.mem_append.2 (.inl hv), hlt⟩
    · exact .inl (List.mem_append.2 (.inr hx))
  · rw [ht, List.length_append, List.length_singleton]
    rcases h.len with h1 | ⟨h1, v, hv, hlt⟩
    · exact .inl (by omega)
    · exact .inr ⟨by omega, v, List.mem_append.2 (.inl hv), hlt⟩
theorem Ins.both {n : Int} {ps zs : List Int} {i : Nat} {y : Int} (h : Ins n ps i zs) (hy : ps[i]? = some y) (hn : n < y) (hv : ∀ v ∈ ps.take i, v < n) : Ins n ps (i + 1) (zs ++ [n] ++ [y]) := by
  have ht := take_snoc hy
  have hlt : ∀ x ∈ zs, x < n := fun x hx => by
    rcases h.sub x hx with h1 | ⟨h1, v, hv2, hlt⟩
    · exact hv x h1
    · have := hv v hv2; omega
  refine ⟨asc_snoc (asc_snoc h.asc hlt) (fun x hx => ?_), fun x hx => ?_, fun x hx => ?_, ?_⟩
  · rcases List.mem_append.1 hx with hx | hx
    · have := hlt x hx; omega
    · simp only [List.mem_singleton] at hx; omega
  · rw [ht] at hx
    rcases List.mem_append.1 hx with hx | hx
    · exact List.mem_append.2 (.inl (List.mem_append.2 (.inl (h.sup x hx))))
    · exact List.mem_append.2 (.inr hx)
  · rw [ht]
    rcases List.mem_append.1 hx with hx | hx
    · rcases List.mem_append.1 hx with hx | hx
      · rcases h.sub x hx with h1 | ⟨h1, v, hv, hlt⟩
        · exact .inl (List.mem_append.2 (.inl h1))
        · exact .inr ⟨h1, v, List.mem_append.2 (.inl hv), hlt⟩
      · simp only [List.mem_singleton] at hx
        exact .inr ⟨hx, y, by simp, hn⟩
    · exact .inl (List.mem_append.2 (.inr hx))
  · rw [ht, List.length_append, List.length_append, List.length_singleton, List.length_singleton]
    rcases h.len with h1 | ⟨h1, v, hv2, hlt2⟩
    · exact .inr ⟨by omega, y, by simp, hn⟩
    · have := hv v hv2; omega
theorem pcok_of {p : Pc} (hp : PcOk p) {zs : List Int} (ha : zs.Pairwise (· < ·)) (hb : ∀ x ∈ zs, 0 ≤ x ∧ x ≤ 3600) (h1 : 1 ≤ zs.length) (h8 : zs.length ≤ 8) : PcOk { p with lens := zs } := by
  refine ⟨⟨h1, h8⟩, hp.2.1, hp.2.2.1, fun k hk => ?_⟩
  show LenOk zs k
  have hk : k < zs.length := hk
  unfold LenOk
  rw [List.getElem?_eq_getElem hk]
  refine ⟨hb _ (List.getElem_mem hk), ?_⟩
  rcases Nat.eq_zero_or_pos k with h0 | h0
  · exact .inl h0
  · right
    rw [List.getElem?_eq_getElem (by omega)]
    exact (List.pairwise_iff_getElem.1 ha) (k - 1) k (by omega) hk (by omega)
theorem Ins.fin {n : Int} {p : Pc} {zs : List Int} (hp : PcOk p) (h7 : p.lens.length ≤ 7) (hn : 0 ≤ n ∧ n ≤ 3600) (h : Ins n p.lens p.lens.length zs) : PcOk { p with lens := zs } ∧ Wider p { p with lens := zs } := by
  have hsub := h.sub
  have hsup := h.sup
  have hlen := h.len
  rw [List.take_length] at hsub hsup hlen
  refine ⟨pcok_of hp h.asc (fun x hx => ?_) ?_ ?_, hsup, rfl, .inl rfl⟩
  · rcases hsub x hx with h1 | ⟨rfl, _⟩
    · exact len_ok hp h1
    · exact hn
  · obtain ⟨x, hx⟩ : ∃ x, x ∈ p.lens := ⟨_, List.getElem_mem (show 0 < p.lens.length from hp.1.1)⟩
    exact List.length_pos_iff.2 (fun e => by have := hsup x hx; rw [e] at this; simp at this)
  · rcases hlen with h1 | ⟨h1, _⟩ <;> omega
theorem Ins.fin2 {n : Int} {p : Pc} {zs : List Int} (hp : PcOk p) (h7 : p.lens.length ≤ 7) (hn : 0 ≤ n ∧ n ≤ 3600) (h : Ins n p.lens p.lens.length zs) (hl : ∀ v ∈ p.lens, v < n) : PcOk { p with lens := zs ++ [n] } ∧ Wider p { p with lens := zs ++ [n] } := by
  have hsub := h.sub
  have hsup := h.sup
  have hlen := h.len
  rw [List.take_length] at hsub hsup hlen
  have hlt : ∀ x ∈ zs, x < n := fun x hx => by
    rcases hsub x hx with h1 | ⟨h1, v, hv, h2⟩
    · exact hl x h1
    · have := hl v hv; omega
  refine ⟨pcok_of hp (asc_snoc h.asc hlt) (fun x hx => ?_) (by simp) ?_, fun x hx => List.mem_append.2 (.inl (hsup x hx)), rfl, .inl rfl⟩
  · rcases List.mem_append.1 hx with hx | hx
    · rcases hsub x hx with h1 | ⟨rfl, _⟩
      · exact len_ok hp h1
      · exact hn
    · simp only [List.mem_singleton] at hx
      rw [hx]; exact hn
  · rw [List.length_append, List.length_singleton]
    rcases hlen with h1 | ⟨h1, v, hv, h2⟩
    · omega
    · have := hl v hv; omega
theorem free_wider (p : Pc) : Wider p (p.at_ (-1)) := ⟨fun _ h => h, rfl, .inr (by show (-1 : Int) < 0; omega)⟩
theorem free_ok {p : Pc} (hp : PcOk p) : PcOk (p.at_ (-1)) := ⟨hp.1, hp.2.1, ⟨by show (-1 : Int) ≤ -1; omega, by show (-1 : Int) ≤ 3600; omega⟩, hp.2.2.2⟩
end Go.Proofs.Yteehjciepccomaa
