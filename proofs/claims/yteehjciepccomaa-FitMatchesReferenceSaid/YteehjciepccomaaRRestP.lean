/-
  The reference's table of least costs: plain law and rows in memory.
-/
import Derived.Test.YteehjciepccomaaFBestP
import Derived.Test.YteehjciepccomaaRRight
import Derived.Test.YteehjciepccomaaFUse
namespace Go.Proofs.Yteehjciepccomaa
open Go.RowKit
set_option maxRecDepth 100000
set_option maxHeartbeats 1000000

/-- A least cost as the reference's table holds it. -/
def encL (x : Int) : Int := if x < never then x else -1
theorem enc_far {C x : Int} (h : never ≤ x) : encL (min C x) = encL C := by
  unfold encL
  by_cases h1 : C < never
  · rw [if_pos h1, if_pos (by omega)]; omega
  · rw [if_neg h1, if_neg (by omega)]
def foldC (total : Int) (p : Pc) (ps : List Pc) (s : Int) (q : Nat) : Int := (p.lens.take q).foldl (fun c n => min c (awayS n p.want + leastS total ps (s + n))) never
theorem foldC_zero (total : Int) (p : Pc) (ps : List Pc) (s : Int) : foldC total p ps s 0 = never := rfl
theorem foldC_succ {total : Int} {p : Pc} {ps : List Pc} {s z : Int} {q : Nat} (h : p.lens[q]? = some z) : foldC total p ps s (q + 1) = min (foldC total p ps s q) (awayS z p.want + leastS total ps (s + z)) := by
  unfold foldC
  rw [List.take_add_one, h, List.foldl_append]
  rfl
theorem foldC_all {total : Int} {p : Pc} {ps : List Pc} {s : Int} (hp : ∀ n ∈ p.lens, 0 ≤ n) {q : Nat} (hq : p.lens.length ≤ q) : encL (leastS total (p :: ps) s) = if meetsS p s = true then encL (foldC total p ps s q) else -1 := by
  unfold foldC
  rw [List.take_of_length_le hq, leastS]
  have hn : encL never = -1 := by unfold encL; rw [if_neg (by omega)]
  by_cases h1 : total < s
  · rw [if_pos h1, hn]
    split
    · have h2 : never ≤ p.lens.foldl (fun c n => min c (awayS n p.want + leastS total ps (s + n))) never := by
        rcases foldl_min_cases (fun n => awayS n p.want + leastS total ps (s + n)) p.lens never with h | ⟨n, hn, h⟩
        · rw [h]; omega
        · have h3 := hp n hn
          have h4 := awayS_nonneg n p.want
          rw [h]
          rw [leastS_far ps (by omega : total < s + n)]
          omega
      unfold encL
      rw [if_neg (by omega)]
    · rfl
  · rw [if_neg h1]
    split
    · rw [enc_far (Int.le_refl _)]
    · exact hn
theorem least_small {total : Int} {l : List Pc} (hok : ∀ p ∈ l, PcOk p) (hl : l.length ≤ 20) {s : Int} (h : leastS total l s < never) : 0 ≤ leastS total l s ∧ leastS total l s ≤ 72000 := by
  obtain ⟨ns, _, h1, h2⟩ := best_fits hok h
  have := cost_bound hok h1
  omega
theorem best_step {total s : Int} {p : Pc} {ps : List Pc} (hok : ∀ q ∈ p :: ps, PcOk q) (h : leastS total (p :: ps) s < never) :
    ∃ n, p.lens.find? (fun n => decide (awayS n p.want + leastS total ps (s + n) = leastS total (p :: ps) s)) = some n ∧ n ∈ p.lens ∧ leastS total ps (s + n) < never ∧ bestS total (p :: ps) s = (bestS total ps (s + n)).map (n :: ·) := by
  obtain ⟨ns, h1, _⟩ := best_fits hok h
  cases hf : p.lens.find? (fun n => decide (awayS n p.want + leastS total ps (s + n) = leastS total (p :: ps) s)) with
  | none => rw [bestS, hf] at h1; simp at h1
  | some n =>
    have h2 : awayS n p.want + leastS total ps (s + n) = leastS total (p :: ps) s := by
      have h3 := List.find?_some hf
      exact of_decide_eq_true h3
    have h3 := awayS_nonneg n p.want
    exact ⟨n, rfl, List.mem_of_find?_eq_some hf, by omega, by rw [bestS, hf]⟩

/-- The block B holds the costs of the seconds below s. -/
def RowTo (w : World) (B : Nat) (total : Int) (ls : List Pc) (s : Nat) : Prop := ∃ cs, Blk w B 3 cs ∧ cs.length = 3601 ∧ ∀ x, x < s → cs[x]? = some (.int .i64 (encL (leastS total ls (x : Int))))
section
variable {w w' : World} {B : Nat} {total : Int} {ls : List Pc} {s : Nat}
theorem RowTo.lt (h : RowTo w B total ls s) : B < w.heap.size := by
  obtain ⟨cs, h1, _⟩ := h
  exact h1.lt
theorem RowTo.cell (h : RowTo w B total ls s) {x : Nat} (hx : x < s) : w.cell? ⟨B, x, none⟩ = some (.int .i64 (encL (leastS total ls (x : Int)))) := by
  obtain ⟨cs, h1, _, h3⟩ := h
  exact (h1.cell x).trans (h3 x hx)
theorem RowTo.any (h : RowTo w B total ls s) {x : Nat} (hx : x < 3601) : w.frozen? ⟨B, x, none⟩ = false ∧ ∃ v, w.cell? ⟨B, x, none⟩ = some v := by
  obtain ⟨cs, h1, h2, _⟩ := h
  exact ⟨h1.frozen x, cs[x]'(by omega), by rw [h1.cell x, List.getElem?_eq_getElem]⟩
theorem RowTo.upd {l : List Nat} (h : RowTo w B total ls s) (hu : Upd l w w') (hB : B ∉ l) : RowTo w' B total ls s := by
  obtain ⟨cs, h1, h2⟩ := h
  exact ⟨cs, h1.upd hu hB, h2⟩
theorem RowTo.far (h : RowTo w B total ls s) {G x : Nat} (hB : B ≠ G) (u : Value) : RowTo (w.setCell ⟨G, x, none⟩ u) B total ls s := by
  obtain ⟨cs, h1, h2⟩ := h
  exact ⟨cs, h1.far hB u, h2⟩
theorem RowTo.set_at (h : RowTo w B total ls s) (hs : s < 3601) (u : Value) : RowTo (w.setCell ⟨B, s, none⟩ u) B total ls s ∧ (w.setCell ⟨B, s, none⟩ u).cell? ⟨B, s, none⟩ = some u := by
  obtain ⟨cs, h1, h2, h3⟩ := h
  refine ⟨⟨cs.set s u, h1.set_ s u, by rw [List.length_set]; exact h2, fun x hx => ?_⟩, ?_⟩
  · rw [List.getElem?_set, if_neg (by omega)]
    exact h3 x hx
  · rw [(h1.set_ s u).cell, List.getElem?_set, if_pos rfl, if_pos (by omega)]
theorem RowTo.step (h : RowTo w B total ls s) (hc : w.cell? ⟨B, s, none⟩ = some (.int .i64 (encL (leastS total ls (s : Int))))) : RowTo w B total ls (s + 1) := by
  obtain ⟨cs, h1, h2, h3⟩ := h
  refine ⟨cs, h1, h2, fun x hx => ?_⟩
  rcases Nat.lt_or_ge x s with h | h
  · exact h3 x h
  · obtain rfl : x = s := by omega
    exact (h1.cell x).symm.trans hc
end
/-- The table: its rows from j on are done, in blocks below G. -/
def TabTo (w : World) (T G : Nat) (total : Int) (l : List Pc) (i : Nat) : Prop := (∃ cs, Blk w T 24 cs ∧ cs.length = l.length + 1) ∧ ∀ j, i ≤ j → j ≤ l.length → ∃ B, B < G ∧ B ≠ T ∧ w.cell? ⟨T, j, none⟩ = some (.slice (some ⟨B, 0, none⟩) 3601 3601) ∧ RowTo w B total (l.drop j) 3601
section
variable {w w' : World} {T G : Nat} {total : Int} {l : List Pc} {i : Nat}
theorem TabTo.any (h : TabTo w T G total l i) {j : Nat} (hj : j ≤ l.length) : w.frozen? ⟨T, j, none⟩ = false ∧ ∃ v, w.cell? ⟨T, j, none⟩ = some v := by
  obtain ⟨⟨cs, h1, h2⟩, _⟩ := h
  exact ⟨h1.frozen j, cs[j]'(by omega), by rw [h1.cell j, List.getElem?_eq_getElem]⟩
theorem TabTo.lt (h : TabTo w T G total l i) : T < w.heap.size := by
  obtain ⟨⟨cs, h1, _⟩, _⟩ := h
  exact h1.lt
theorem TabTo.upd {ls : List Nat} (h : TabTo w T G total l i) (hu : Upd ls w w') (hT : T ∉ ls) (hB : ∀ x ∈ ls, G ≤ x) : TabTo w' T G total l i := by
  obtain ⟨⟨cs, h1, h2⟩, h3⟩ := h
  refine ⟨⟨cs, h1.upd hu hT, h2⟩, fun j hj hj2 => ?_⟩
  obtain ⟨B, e1, e2, e3, e4⟩ := h3 j hj hj2
  refine ⟨B, e1, e2, ?_, e4.upd hu fun hm => by have := hB B hm; omega⟩
  exact ((h1.upd hu hT).cell j).trans ((h1.cell j).symm.trans e3)
theorem TabTo.far (h : TabTo w T G total l i) {g x : Nat} (hT : T ≠ g) (hg : G ≤ g) (u : Value) : TabTo (w.setCell ⟨g, x, none⟩ u) T G total l i := by
  obtain ⟨⟨cs, h1, h2⟩, h3⟩ := h
  refine ⟨⟨cs, h1.far hT u, h2⟩, fun j hj hj2 => ?_⟩
  obtain ⟨B, e1, e2, e3, e4⟩ := h3 j hj hj2
  refine ⟨B, e1, e2, ?_, e4.far (by omega) u⟩
  exact ((h1.far hT u).cell j).trans ((h1.cell j).symm.trans e3)
theorem TabTo.put (h : TabTo w T G total l i) {x : Nat} (hx : x < i) (u : Value) (hl : x ≤ l.length) : TabTo (w.setCell ⟨T, x, none⟩ u) T G total l i ∧ (w.setCell ⟨T, x, none⟩ u).cell? ⟨T, x, none⟩ = some u := by
  obtain ⟨⟨cs, h1, h2⟩, h3⟩ := h
  refine ⟨⟨⟨cs.set x u, h1.set_ x u, by rw [List.length_set]; exact h2⟩, fun j hj hj2 => ?_⟩, ?_⟩
  · obtain ⟨B, e1, e2, e3, e4⟩ := h3 j hj hj2
    refine ⟨B, e1, e2, ?_, e4.far e2 u⟩
    rw [(h1.set_ x u).cell, List.getElem?_set, if_neg (by omega)]
    exact (h1.cell j).symm.trans e3
  · rw [(h1.set_ x u).cell, List.getElem?_set, if_pos rfl, if_pos (by omega)]
theorem TabTo.mono {G' : Nat} (h : TabTo w T G total l i) (hG : G ≤ G') : TabTo w T G' total l i := by
  obtain ⟨h1, h3⟩ := h
  refine ⟨h1, fun j hj hj2 => ?_⟩
  obtain ⟨B, e1, e2, e3, e4⟩ := h3 j hj hj2
  exact ⟨B, by omega, e2, e3, e4⟩
theorem TabTo.step {G' : Nat} (h : TabTo w T G total l (i + 1)) (hG : G < G') (hT : G ≠ T) (hc : w.cell? ⟨T, i, none⟩ = some (.slice (some ⟨G, 0, none⟩) 3601 3601)) (hr : RowTo w G total (l.drop i) 3601) : TabTo w T G' total l i := by
  obtain ⟨h1, h3⟩ := h
  refine ⟨h1, fun j hj hj2 => ?_⟩
  rcases Nat.lt_or_ge i j with hlt | hge
  · obtain ⟨B, e1, e2, e3, e4⟩ := h3 j (by omega) hj2
    exact ⟨B, by omega, e2, e3, e4⟩
  · obtain rfl : j = i := by omega
    exact ⟨G, hG, hT, hc, hr⟩
end
/-- One row is under way: the block G, up to second s. -/
structure Cur (w : World) (T G : Nat) (total : Int) (l : List Pc) (i s : Nat) : Prop where
  tab : TabTo w T G total l (i + 1)
  at_ : w.cell? ⟨T, i, none⟩ = some (.slice (some ⟨G, 0, none⟩) 3601 3601)
  row : RowTo w G total (l.drop i) s
  ne : G ≠ T
section
variable {w w' : World} {T G : Nat} {total : Int} {l : List Pc} {i s : Nat}
theorem Cur.set (h : Cur w T G total l i s) (hs : s < 3601) (u : Value) : Cur (w.setCell ⟨G, s, none⟩ u) T G total l i s ∧ (w.setCell ⟨G, s, none⟩ u).cell? ⟨G, s, none⟩ = some u := by
  have h1 := h.row.set_at hs u
  refine ⟨⟨h.tab.far (fun e => h.ne e.symm) (Nat.le_refl _) u, ?_, h1.1, h.ne⟩, h1.2⟩
  rw [World.cell?_setCell_far _ _ _ _ (by show G ≠ T; exact h.ne)]
  exact h.at_
theorem Cur.upd (h : Cur w T G total l i s) (hu : Upd [] w w') : Cur w' T G total l i s :=
  ⟨h.tab.upd hu (by simp) (by simp), (hu.cell (World.block_lt_of_cell? _ _ h.at_) (by simp)).trans h.at_, h.row.upd hu (by simp), h.ne⟩
theorem Cur.step (h : Cur w T G total l i s) (hc : w.cell? ⟨G, s, none⟩ = some (.int .i64 (encL (leastS total (l.drop i) (s : Int))))) : Cur w T G total l i (s + 1) :=
  ⟨h.tab, h.at_, h.row.step hc, h.ne⟩
end
end Go.Proofs.Yteehjciepccomaa
