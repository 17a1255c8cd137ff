/-
  A copy of pieces, and a join set in it.
-/
import Derived.Test.YteehjciepccomaaFMade2
import Derived.Test.YteehjciepccomaaMem2
namespace Go.Proofs.Yteehjciepccomaa
open Go.RowKit
set_option maxHeartbeats 1000000

/-- Pieces in a block of the call's own from its first cell on; their lengths lie below. -/
def PcsIn (n₀ : Nat) (w : World) (g : Nat) (l : List Pc) : Prop := ∃ cs, Blk w g 50 cs ∧ n₀ ≤ g ∧ ∀ i p, l[i]? = some p → ∃ pa pn pc, Ints n₀ w (.slice pa pn pc) p.lens ∧ p.lens.length ≤ maxLen ∧
  cs[i * 3]? = some (.slice pa pn pc) ∧ cs[i * 3 + 1]? = some (.int .i64 p.want) ∧ cs[i * 3 + 2]? = some (.int .i64 p.join)
theorem PcsIn.pcs {n₀ : Nat} {w : World} {g : Nat} {l : List Pc} (h : PcsIn n₀ w g l) : PcsAt w.heap.size w (some ⟨g, 0, none⟩) l := by
  obtain ⟨cs, hb, hn, hp⟩ := h
  intro i p hi
  obtain ⟨pa, pn, pc, h1, h2, h3, h4, h5⟩ := hp i p hi
  have hg := hb.lt
  exact ⟨g, 0, pa, pn, pc, rfl, hg, h1.mono (by omega), h2, by rw [Nat.zero_add, hb.cell]; exact h3, by rw [Nat.zero_add, hb.cell]; exact h4, by rw [Nat.zero_add, hb.cell]; exact h5⟩
theorem PcsIn.upd {n₀ : Nat} {w w' : World} {g : Nat} {l : List Pc} {ls : List Nat} (h : PcsIn n₀ w g l) (hu : Upd ls w w') (hn : n₀ ≤ w.heap.size) (hl : ∀ x ∈ ls, n₀ ≤ x ∧ x ≠ g) : PcsIn n₀ w' g l := by
  obtain ⟨cs, hb, hn', hp⟩ := h
  refine ⟨cs, hb.upd hu (fun hm => (hl g hm).2 rfl), hn', fun i p hi => ?_⟩
  obtain ⟨pa, pn, pc, h1, h2⟩ := hp i p hi
  exact ⟨pa, pn, pc, h1.upd hu hn (fun x hx => (hl x hx).1), h2⟩
def Pc.at_ (p : Pc) (v : Int) : Pc := { p with join := v }
theorem PcsIn.set {n₀ : Nat} {w : World} {g : Nat} {l : List Pc} (h : PcsIn n₀ w g l) (hn0 : n₀ ≤ w.heap.size) {n : Nat} {p : Pc} (hp : l[n]? = some p) (v : Int) : PcsIn n₀ (w.setCell ⟨g, n * 3 + 2, none⟩ (.int .i64 v)) g (l.set n (p.at_ v)) := by
  obtain ⟨cs, hb, hn, hall⟩ := h
  have hu : Upd [g] w (w.setCell ⟨g, n * 3 + 2, none⟩ (.int .i64 v)) := (Upd.refl [g] w).setCell (.inl (by simp)) _
  refine ⟨_, hb.set_ (n * 3 + 2) (.int .i64 v), hn, fun i q hi => ?_⟩
  rw [List.getElem?_set] at hi
  by_cases e : n = i
  · subst e
    have hlt := (List.getElem?_eq_some_iff.1 hp).1
    rw [if_pos rfl, if_pos hlt] at hi
    obtain rfl : p.at_ v = q := by simpa using hi
    obtain ⟨pa, pn, pc, h1, h2, h3, h4, h5⟩ := hall n p hp
    refine ⟨pa, pn, pc, h1.upd hu hn0 (by simp; omega), h2, ?_, ?_, ?_⟩
    · rw [List.getElem?_set, if_neg (by omega)]; exact h3
    · rw [List.getElem?_set, if_neg (by omega)]; exact h4
    · rw [List.getElem?_set, if_pos rfl, if_pos (List.getElem?_eq_some_iff.1 h5).1]; rfl
  · rw [if_neg e] at hi
    obtain ⟨pa, pn, pc, h1, h2, h3, h4, h5⟩ := hall i q hi
    refine ⟨pa, pn, pc, h1.upd hu hn0 (by simp; omega), h2, ?_, ?_, ?_⟩
    · rw [List.getElem?_set, if_neg (by omega)]; exact h3
    · rw [List.getElem?_set, if_neg (by omega)]; exact h4
    · rw [List.getElem?_set, if_neg (by omega)]; exact h5

/-- The cells that a copy of pieces takes. -/
def newsOf (w : World) (a : Option Addr) (len : Nat) : List Value := match a with
  | some ⟨b, o, _⟩ => (List.range (len * 3)).map fun j => (w.cell? ⟨b, o + j, none⟩).getD undef
  | none => []
theorem news_at {n₀ : Nat} {w : World} {b o : Nat} {l : List Pc} (h : PcsAt n₀ w (some ⟨b, o, none⟩) l) (j : Nat) (hj : j < l.length * 3) : ∃ u, (newsOf w (some ⟨b, o, none⟩) l.length)[j]? = some u ∧ w.cell? ⟨b, o + j, none⟩ = some u ∧ u.oneCell' = true := by
  have hi : j / 3 < l.length := by omega
  obtain ⟨b', o', pa, pn, pc, e, _, _, _, c0, c1, c2⟩ := h (j / 3) _ (List.getElem?_eq_getElem hi)
  obtain ⟨rfl, rfl⟩ : b = b' ∧ o = o' := by simpa using e
  have key : ∃ u, w.cell? ⟨b, o + j, none⟩ = some u ∧ u.oneCell' = true := by
    have hm : j % 3 = 0 ∨ j % 3 = 1 ∨ j % 3 = 2 := by omega
    rcases hm with hm | hm | hm
    · rw [show o + j / 3 * 3 = o + j by omega] at c0; exact ⟨_, c0, rfl⟩
    · rw [show o + j / 3 * 3 + 1 = o + j by omega] at c1; exact ⟨_, c1, rfl⟩
    · rw [show o + j / 3 * 3 + 2 = o + j by omega] at c2; exact ⟨_, c2, rfl⟩
  obtain ⟨u, hu, h1⟩ := key
  refine ⟨u, ?_, hu, h1⟩
  unfold newsOf
  simp only
  rw [List.getElem?_map, List.getElem?_range hj]
  simp [hu]
/-- A copy made of those cells holds the same pieces. -/
theorem copy_pcs {n₀ : Nat} {w w' : World} {b o g : Nat} {r : List Value} {l : List Pc} (h : PcsAt n₀ w (some ⟨b, o, none⟩) l) (hu : Upd [] w w') (hn : n₀ ≤ w.heap.size) (hg : w.heap.size ≤ g) (hb : Blk w' g 50 (newsOf w (some ⟨b, o, none⟩) l.length ++ r)) : PcsIn n₀ w' g l := by
  refine ⟨_, hb, by omega, fun i p hi => ?_⟩
  have hlt := (List.getElem?_eq_some_iff.1 hi).1
  obtain ⟨b', o', pa, pn, pc, e, _, h1, h2, c0, c1, c2⟩ := h i p hi
  obtain ⟨rfl, rfl⟩ : b = b' ∧ o = o' := by simpa using e
  have key : ∀ t, t < 3 → (newsOf w (some ⟨b, o, none⟩) l.length ++ r)[i * 3 + t]? = w.cell? ⟨b, o + i * 3 + t, none⟩ := fun t ht => by
    obtain ⟨u, q1, q2, _⟩ := news_at h (i * 3 + t) (by omega)
    rw [List.getElem?_append_left (List.getElem?_eq_some_iff.1 q1).1, q1, ← q2, Nat.add_assoc]
  exact ⟨pa, pn, pc, h1.upd hu hn (by simp), h2, (key 0 (by omega)).trans c0, (key 1 (by omega)).trans c1, (key 2 (by omega)).trans c2⟩
theorem own_empty3 (base : Nat) (w : World) (hb : base ≤ w.heap.size) : (w.alloc (.cells #[] 50)).ownsRow base 50 3 (.slice (some ⟨w.heap.size, 0, none⟩) 0 0) 0 [] :=
  ⟨rfl, .inr ⟨w.heap.size, 0, #[], rfl, hb, heap_alloc_new w _, Nat.le_refl _, by decide, rfl, rfl⟩⟩
theorem news_length {w : World} {b o len : Nat} : (newsOf w (some ⟨b, o, none⟩) len).length = len * 3 := by simp [newsOf]
end Go.Proofs.Yteehjciepccomaa
