/-
  The program's disk and the reference's, of one state, in blocks apart.
-/
import Derived.Test.YthjcgaahnpbcdaaRefF
namespace Go.Proofs.Ythjcgaahnpbcdaa
open Go.RowKit
set_option maxHeartbeats 1000000

theorem IsRef.same {w w' : World} {F : List Nat} {g : Nat} {D : DiskS} (h : IsRef w F g D) (hs : SameAt F w w') : IsRef w' F g D := by
  obtain ⟨gd, cs, r, A, c, h⟩ := h
  have hF := h.fp
  exact ⟨gd, cs, r, A, c, ⟨hs.blk (by simp [hF]) h.head, hs.blk (by simp [hF]) h.sure, h.cap, own_same h.pend (hs.mono (by intro x hx; simp [hF]; simp at hx; simp [hx])), h.fp, h.ok⟩⟩

/-- Both disks: the program's at g with state D, the reference's at x with state R; the blocks X are none of theirs. -/
def Both (B : Nat) (X : List Nat) (w0 w : World) (g : Nat) (D : DiskS) (x : Nat) (R : DiskS) : Prop := ∃ F G, IsDisk w F g D ∧ IsRef w G x R ∧
  (∀ k ∈ F, B ≤ k ∧ k ∉ X ∧ k ∉ G) ∧ (∀ k ∈ G, B ≤ k ∧ k ∉ X) ∧ Below B w0 w ∧ B ≤ w.heap.size ∧ ∀ y ∈ X, y < w.heap.size

section
variable {B : Nat} {X : List Nat} {w0 w w' : World} {g x : Nat} {D D' R R' : DiskS}
theorem Both.one (h : Both B X w0 w g D x R) : DiskIn B X w0 w g D := by
  obtain ⟨F, G, h1, h2, d1, d2, h4, h5, h6⟩ := h
  exact ⟨F, h1, fun k hk => ⟨(d1 k hk).1, (d1 k hk).2.1⟩, h4, h5, h6⟩
theorem Both.step (h : Both B X w0 w g D x R) {l : List Nat} (hu : Upd l w w') (hl : ∀ y ∈ l, y ∈ X) (hlB : ∀ y ∈ l, B ≤ y) : Both B X w0 w' g D x R := by
  obtain ⟨F, G, h1, h2, d1, d2, h4, h5, h6⟩ := h
  exact ⟨F, G, h1.upd hu (fun k hk hm => (d1 k hk).2.1 (hl k hm)), h2.upd hu (fun k hk hm => (d2 k hk).2 (hl k hm)), d1, d2, h4.trans (hu.toBelow h5 hlB), Nat.le_trans h5 hu.size, fun y hy => Nat.lt_of_lt_of_le (h6 y hy) hu.size⟩
theorem Both.act {P : Program} {f : FuncId} {args : Array Value} {E : Ending} (h : Both B X w0 w g D x R)
    (hc : ∀ Y, DiskIn B Y w0 w g D → Calls P f args w fun e w' => e = E ∧ DiskIn B Y w0 w' g D' ∧ SameAt Y w w') :
    Calls P f args w fun e w' => e = E ∧ Both B X w0 w' g D' x R ∧ SameAt X w w' := by
  obtain ⟨F, G, h1, h2, d1, d2, h4, h5, h6⟩ := h
  refine (hc (X ++ G) ⟨F, h1, fun k hk => ⟨(d1 k hk).1, fun hm => ?_⟩, h4, h5, fun y hy => ?_⟩).mono ?_
  · simp only [List.mem_append] at hm
    rcases hm with hm | hm
    · exact (d1 k hk).2.1 hm
    · exact (d1 k hk).2.2 hm
  · simp only [List.mem_append] at hy
    rcases hy with hm | hm
    · exact h6 y hm
    · exact h2.lt y hm
  · rintro e w' ⟨he, ⟨F', k1, k2, k3, k4, k5⟩, hs⟩
    refine ⟨he, ⟨F', G, k1, h2.same (hs.mono (by intro y hy; simp [hy])), fun k hk => ⟨(k2 k hk).1, ?_, ?_⟩, d2, k3, k4, fun y hy => k5 y (by simp [hy])⟩, hs.mono (by intro y hy; simp [hy])⟩
    · intro hm; exact (k2 k hk).2 (by simp [hm])
    · intro hm; exact (k2 k hk).2 (by simp [hm])
theorem Both.actR {P : Program} {f : FuncId} {args : Array Value} {E : Ending} (h : Both B X w0 w g D x R)
    (hc : ∀ G, IsRef w G x R → Calls P f args w fun e w' => e = E ∧ MovedR G w w' x R') :
    Calls P f args w fun e w' => e = E ∧ Both B X w0 w' g D x R' ∧ SameAt X w w' := by
  obtain ⟨F, G, h1, h2, d1, d2, h4, h5, h6⟩ := h
  have l1 := h1.lt
  refine (hc G h2).mono ?_
  rintro e w' ⟨he, G', k1, k2, k3⟩
  have hs := k2.size
  refine ⟨he, ⟨F, G', h1.upd k2 (fun k hk => (d1 k hk).2.2), k1, fun k hk => ⟨(d1 k hk).1, (d1 k hk).2.1, fun hm => ?_⟩, fun k hk => ?_, h4.trans (k2.toBelow h5 (fun y hy => (d2 y hy).1)), by omega, fun y hy => Nat.lt_of_lt_of_le (h6 y hy) hs⟩, fun y hy => k2.block y (h6 y hy) (fun hm => (d2 y hm).2 hy)⟩
  · rcases k3 k hm with hm | hm
    · exact (d1 k hk).2.2 hm
    · have := l1 k hk; omega
  · rcases k3 k hk with hk | hk
    · exact d2 k hk
    · exact ⟨by omega, fun hm => by have := h6 k hm; omega⟩
theorem Both.mono {X' : List Nat} (h : Both B X w0 w g D x R) (hs : ∀ y ∈ X', y ∈ X) : Both B X' w0 w g D x R := by
  obtain ⟨F, G, h1, h2, d1, d2, h4, h5, h6⟩ := h
  exact ⟨F, G, h1, h2, fun k hk => ⟨(d1 k hk).1, fun hm => (d1 k hk).2.1 (hs k hm), (d1 k hk).2.2⟩, fun k hk => ⟨(d2 k hk).1, fun hm => (d2 k hk).2 (hs k hm)⟩, h4, h5, fun y hy => h6 y (hs y hy)⟩
theorem Both.more (h : Both B X w0 w g D x R) (hu : Upd [] w w') (y : Nat) (hy : w.heap.size ≤ y) (hy' : y < w'.heap.size) : Both B (y :: X) w0 w' g D x R := by
  obtain ⟨F, G, h1, h2, d1, d2, h4, h5, h6⟩ := h
  have l1 := h1.lt
  have l2 := h2.lt
  refine ⟨F, G, h1.upd hu (by simp), h2.upd hu (by simp), fun k hk => ⟨(d1 k hk).1, ?_, (d1 k hk).2.2⟩, fun k hk => ⟨(d2 k hk).1, ?_⟩, h4.trans (hu.toBelow h5 (by simp)), Nat.le_trans h5 hu.size, ?_⟩
  · have := l1 k hk
    simp only [List.mem_cons, not_or]
    exact ⟨by omega, (d1 k hk).2.1⟩
  · have := l2 k hk
    simp only [List.mem_cons, not_or]
    exact ⟨by omega, (d2 k hk).2⟩
  · intro z hz
    simp only [List.mem_cons] at hz
    rcases hz with rfl | hz
    · exact hy'
    · exact Nat.lt_of_lt_of_le (h6 z hz) hu.size
theorem Both.refs (h : Both B X w0 w g D x R) : ∃ G, IsRef w G x R ∧ ∀ k ∈ G, B ≤ k := by
  obtain ⟨F, G, h1, h2, d1, d2, h4, h5, h6⟩ := h
  exact ⟨G, h2, fun k hk => (d2 k hk).1⟩
theorem Both.start {w1 w2 : World} {F : List Nat} (h1 : DiskIn B [] w0 w1 g D) (h2 : IsRef w2 F x R) (hF : ∀ k ∈ F, w1.heap.size ≤ k) (hb : Below w1.heap.size w1 w2) : Both B [] w0 w2 g D x R := by
  obtain ⟨G, a1, a2, a3, a4, _⟩ := h1
  have u12 : Upd [] w1 w2 := (Upd.refl [] w1).below hb
  have l1 := a1.lt
  exact ⟨G, F, a1.upd u12 (by simp), h2, fun k hk => ⟨(a2 k hk).1, by simp, fun hm => by have := l1 k hk; have := hF k hm; omega⟩, fun k hk => ⟨by have := hF k hk; omega, by simp⟩, a3.trans (u12.toBelow a4 (by simp)), Nat.le_trans a4 u12.size, by simp⟩
end
end Go.Proofs.Ythjcgaahnpbcdaa
