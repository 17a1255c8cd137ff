/-
  Three disks that share no block.
-/
import Derived.Test.YthjcgaahnpbcdaaLawRB
namespace Go.Proofs.Ythjcgaahnpbcdaa
open Go.RowKit
set_option maxHeartbeats 1000000

theorem IsDisk.same {w w' : World} {F : List Nat} {g : Nat} {D : DiskS} (h : IsDisk w F g D) (hs : SameAt F w w') : IsDisk w' F g D := by
  obtain ⟨gd, gv, A, c, h⟩ := h
  have hF := h.fp
  exact ⟨gd, gv, A, c, ⟨hs.blk (by simp [hF]) h.head, hs.blk (by simp [hF]) h.sure, hs.blk (by simp [hF]) h.vis, own_same h.pend (hs.mono (by intro x hx; simp [hF]; simp at hx; simp [hx])), h.ne, h.fp, h.ok⟩⟩

def Trio (B : Nat) (X : List Nat) (w0 w : World) (p q r : Nat × DiskS) : Prop := ∃ Fp Fq Fr, IsDisk w Fp p.1 p.2 ∧ IsDisk w Fq q.1 q.2 ∧ IsDisk w Fr r.1 r.2 ∧
  (∀ k ∈ Fp, B ≤ k ∧ k ∉ X ∧ k ∉ Fq ∧ k ∉ Fr) ∧ (∀ k ∈ Fq, B ≤ k ∧ k ∉ X ∧ k ∉ Fr) ∧ (∀ k ∈ Fr, B ≤ k ∧ k ∉ X) ∧ Below B w0 w ∧ B ≤ w.heap.size ∧ ∀ x ∈ X, x < w.heap.size

theorem IsDisk.lt {w : World} {F : List Nat} {g : Nat} {D : DiskS} (h : IsDisk w F g D) : ∀ k ∈ F, k < w.heap.size := by
  obtain ⟨gd, gv, A, c, h⟩ := h
  exact h.lt

section
variable {B : Nat} {X : List Nat} {w0 w : World} {p q r : Nat × DiskS}

theorem Trio.rot (h : Trio B X w0 w p q r) : Trio B X w0 w q r p := by
  obtain ⟨Fp, Fq, Fr, h1, h2, h3, d1, d2, d3, h4, h5, h6⟩ := h
  refine ⟨Fq, Fr, Fp, h2, h3, h1, fun k hk => ⟨(d2 k hk).1, (d2 k hk).2.1, (d2 k hk).2.2, fun hm => (d1 k hm).2.2.1 hk⟩, fun k hk => ⟨(d3 k hk).1, (d3 k hk).2, fun hm => (d1 k hm).2.2.2 hk⟩, fun k hk => ⟨(d1 k hk).1, (d1 k hk).2.1⟩, h4, h5, h6⟩
theorem Trio.one (h : Trio B X w0 w p q r) : DiskIn B X w0 w p.1 p.2 := by
  obtain ⟨Fp, Fq, Fr, h1, h2, h3, d1, d2, d3, h4, h5, h6⟩ := h
  exact ⟨Fp, h1, fun k hk => ⟨(d1 k hk).1, (d1 k hk).2.1⟩, h4, h5, h6⟩
theorem Trio.two (h : Trio B X w0 w p q r) : DiskIn B X w0 w q.1 q.2 := h.rot.one
theorem Trio.three (h : Trio B X w0 w p q r) : DiskIn B X w0 w r.1 r.2 := h.rot.rot.one
theorem Trio.act {P : Program} {f : FuncId} {args : Array Value} {E : Ending} {g : Nat} {D D' : DiskS} (h : Trio B X w0 w (g, D) q r)
    (hc : ∀ Y, DiskIn B Y w0 w g D → Calls P f args w fun e w' => e = E ∧ DiskIn B Y w0 w' g D' ∧ SameAt Y w w') :
    Calls P f args w fun e w' => e = E ∧ Trio B X w0 w' (g, D') q r ∧ SameAt X w w' := by
  obtain ⟨Fp, Fq, Fr, h1, h2, h3, d1, d2, d3, h4, h5, h6⟩ := h
  refine (hc (X ++ (Fq ++ Fr)) ⟨Fp, h1, fun k hk => ⟨(d1 k hk).1, fun hm => ?_⟩, h4, h5, fun x hx => ?_⟩).mono ?_
  · simp only [List.mem_append] at hm
    rcases hm with hm | hm | hm
    · exact (d1 k hk).2.1 hm
    · exact (d1 k hk).2.2.1 hm
    · exact (d1 k hk).2.2.2 hm
  · simp only [List.mem_append] at hx
    rcases hx with hm | hm | hm
    · exact h6 x hm
    · exact h2.lt x hm
    · exact h3.lt x hm
  · rintro e w' ⟨he, ⟨F', k1, k2, k3, k4, k5⟩, hs⟩
    refine ⟨he, ⟨F', Fq, Fr, k1, h2.same (hs.mono (by intro x hx; simp [hx])), h3.same (hs.mono (by intro x hx; simp [hx])), fun k hk => ⟨(k2 k hk).1, ?_, ?_, ?_⟩, d2, d3, k3, k4, fun x hx => k5 x (by simp [hx])⟩, hs.mono (by intro x hx; simp [hx])⟩
    · intro hm; exact (k2 k hk).2 (by simp [hm])
    · intro hm; exact (k2 k hk).2 (by simp [hm])
    · intro hm; exact (k2 k hk).2 (by simp [hm])
theorem Trio.act2 {P : Program} {f : FuncId} {args : Array Value} {E : Ending} {g : Nat} {D D' : DiskS} (h : Trio B X w0 w p (g, D) r)
    (hc : ∀ Y, DiskIn B Y w0 w g D → Calls P f args w fun e w' => e = E ∧ DiskIn B Y w0 w' g D' ∧ SameAt Y w w') :
    Calls P f args w fun e w' => e = E ∧ Trio B X w0 w' p (g, D') r ∧ SameAt X w w' :=
  (h.rot.act hc).mono fun _ _ ⟨a, b, c⟩ => ⟨a, b.rot.rot, c⟩
theorem Trio.act3 {P : Program} {f : FuncId} {args : Array Value} {E : Ending} {g : Nat} {D D' : DiskS} (h : Trio B X w0 w p q (g, D))
    (hc : ∀ Y, DiskIn B Y w0 w g D → Calls P f args w fun e w' => e = E ∧ DiskIn B Y w0 w' g D' ∧ SameAt Y w w') :
    Calls P f args w fun e w' => e = E ∧ Trio B X w0 w' p q (g, D') ∧ SameAt X w w' :=
  (h.rot.rot.act hc).mono fun _ _ ⟨a, b, c⟩ => ⟨a, b.rot, c⟩
theorem Trio.step {w' : World} (h : Trio B X w0 w p q r) {l : List Nat} (hu : Upd l w w') (hl : ∀ x ∈ l, x ∈ X) (hlB : ∀ x ∈ l, B ≤ x) : Trio B X w0 w' p q r := by
  obtain ⟨Fp, Fq, Fr, h1, h2, h3, d1, d2, d3, h4, h5, h6⟩ := h
  exact ⟨Fp, Fq, Fr, h1.upd hu (fun k hk hm => (d1 k hk).2.1 (hl k hm)), h2.upd hu (fun k hk hm => (d2 k hk).2.1 (hl k hm)), h3.upd hu (fun k hk hm => (d3 k hk).2 (hl k hm)), d1, d2, d3,
    h4.trans (hu.toBelow h5 hlB), Nat.le_trans h5 hu.size, fun x hx => Nat.lt_of_lt_of_le (h6 x hx) hu.size⟩
theorem Trio.drewN (h : Trio B X w0 w p q r) (n : Nat) : Trio B X w0 (w.drewN n) p q r := h.step ((Upd.refl [] w).drewN n) (by simp) (by simp)
theorem Trio.mono {X' : List Nat} (h : Trio B X w0 w p q r) (hs : ∀ x ∈ X', x ∈ X) : Trio B X' w0 w p q r := by
  obtain ⟨Fp, Fq, Fr, h1, h2, h3, d1, d2, d3, h4, h5, h6⟩ := h
  exact ⟨Fp, Fq, Fr, h1, h2, h3, fun k hk => ⟨(d1 k hk).1, fun hm => (d1 k hk).2.1 (hs k hm), (d1 k hk).2.2⟩, fun k hk => ⟨(d2 k hk).1, fun hm => (d2 k hk).2.1 (hs k hm), (d2 k hk).2.2⟩, fun k hk => ⟨(d3 k hk).1, fun hm => (d3 k hk).2 (hs k hm)⟩, h4, h5, fun x hx => h6 x (hs x hx)⟩
theorem Trio.more {w' : World} (h : Trio B X w0 w p q r) (hu : Upd [] w w') (x : Nat) (hx : w.heap.size ≤ x) (hx' : x < w'.heap.size) : Trio B (x :: X) w0 w' p q r := by
  obtain ⟨Fp, Fq, Fr, h1, h2, h3, d1, d2, d3, h4, h5, h6⟩ := h
  have l1 := h1.lt
  have l2 := h2.lt
  have l3 := h3.lt
  refine ⟨Fp, Fq, Fr, h1.upd hu (by simp), h2.upd hu (by simp), h3.upd hu (by simp), fun k hk => ⟨(d1 k hk).1, ?_, (d1 k hk).2.2⟩, fun k hk => ⟨(d2 k hk).1, ?_, (d2 k hk).2.2⟩, fun k hk => ⟨(d3 k hk).1, ?_⟩, h4.trans (hu.toBelow h5 (by simp)), Nat.le_trans h5 hu.size, ?_⟩
  · have := l1 k hk
    simp only [List.mem_cons, not_or]
    exact ⟨by omega, (d1 k hk).2.1⟩
  · have := l2 k hk
    simp only [List.mem_cons, not_or]
    exact ⟨by omega, (d2 k hk).2.1⟩
  · have := l3 k hk
    simp only [List.mem_cons, not_or]
    exact ⟨by omega, (d3 k hk).2⟩
  · intro y hy
    simp only [List.mem_cons] at hy
    rcases hy with rfl | hy
    · exact hx'
    · exact Nat.lt_of_lt_of_le (h6 y hy) hu.size
end
theorem Trio.start {B : Nat} {w0 w1 w2 w3 : World} {g1 g2 g3 : Nat} {C1 C2 C3 : DiskS} (h1 : DiskIn B [] w0 w1 g1 C1) (h2 : DiskIn w1.heap.size [] w1 w2 g2 C2) (h3 : DiskIn w2.heap.size [] w2 w3 g3 C3) :
    Trio B [] w0 w3 (g1, C1) (g2, C2) (g3, C3) := by
  obtain ⟨F1, a1, a2, a3, a4, _⟩ := h1
  obtain ⟨F2, b1, b2, b3, b4, _⟩ := h2
  obtain ⟨F3, c1, c2, c3, c4, _⟩ := h3
  have u12 : Upd [] w1 w2 := (Upd.refl [] w1).below b3
  have u23 : Upd [] w2 w3 := (Upd.refl [] w2).below c3
  have u13 := u12.trans u23 (by simp)
  have l1 := a1.lt
  have l2 := b1.lt
  refine ⟨F1, F2, F3, a1.upd u13 (by simp), b1.upd u23 (by simp), c1, fun k hk => ⟨(a2 k hk).1, by simp, fun hm => ?_, fun hm => ?_⟩, fun k hk => ⟨?_, by simp, fun hm => ?_⟩, fun k hk => ⟨?_, by simp⟩, a3.trans (u13.toBelow a4 (by simp)), Nat.le_trans a4 u13.size, by simp⟩
  · have := l1 k hk; have := (b2 k hm).1; omega
  · have := l1 k hk; have := (c2 k hm).1; omega
  · have := (b2 k hk).1; omega
  · have := l2 k hk; have := (c2 k hm).1; omega
  · have := (c2 k hk).1; omega
end Go.Proofs.Ythjcgaahnpbcdaa
