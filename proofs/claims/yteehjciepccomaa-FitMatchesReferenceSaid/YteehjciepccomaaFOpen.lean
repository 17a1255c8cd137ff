/-
  A slice of rows of four numbers that came in.
-/
import Derived.Test.YteehjciepccomaaFMade2
import Derived.Laws.IdiomArrays
namespace Go.Proofs.Yteehjciepccomaa
open Go.RowKit Go.ChangeShapes Go.WideShapes Go.Deep
set_option maxHeartbeats 1000000

def X4Arg (W : World) (a : Option Addr) (len cap : Nat) (xs : List X4) : Prop := xs.length = len ∧ len ≤ cap ∧ cap ≤ maxLen ∧ X4At W.heap.size W a xs
theorem open_x4 {H : Type} {enc : TypeId × Value → H} {w : World} {base : Nat} {spare : Nat → Bool} {held : Bool} {a : Option Addr} {len cap : Nat} {d : DataW H} {p : List MemPlace}
    (h : DataW.Trod enc Try.prog w base spare held 23 (.slice a len cap) d p) : ∃ xs, X4Arg w a len cap xs := by
  obtain ⟨fuel, hf⟩ := h
  rcases open_slice Try.underlying23 hf with ⟨hcs, _⟩ | ⟨x, l, c, m, n, D, Pl, hcs, hb, hl, hm, hmm, hx, hi⟩
  · simp [Value.cells] at hcs
    obtain ⟨rfl, rfl, rfl⟩ := hcs
    exact ⟨[], rfl, Nat.le_refl _, Nat.zero_le _, fun i x hx => by simp at hx⟩
  · simp [Value.cells] at hcs
    obtain ⟨rfl, rfl, rfl⟩ := hcs
    have hle : len ≤ m := by rw [hmm]; split <;> omega
    have hC : Try.prog.cellsOf 70 = 4 := by kernel_rfl
    have hrow : ∀ i, i < len → ∃ z : X4, ((Lit.int .i64 z.a).wf = true ∧ (Lit.int .i64 z.b).wf = true ∧ (Lit.int .i64 z.c).wf = true ∧ (Lit.int .i64 z.d).wf = true) ∧
        w.cell? (x.add (i * 4)) = some (.int .i64 z.a) ∧ w.cell? (x.add (i * 4 + 1)) = some (.int .i64 z.b) ∧ w.cell? (x.add (i * 4 + 2)) = some (.int .i64 z.c) ∧ w.cell? (x.add (i * 4 + 3)) = some (.int .i64 z.d) := by
      intro i hil
      obtain ⟨cs', hc, ht'⟩ := hi i (by omega)
      rw [hC] at hc
      obtain ⟨_, hcl, hat⟩ := World.cells?_some hc
      match cs', hcl with
      | [e0, e1, e2, e3], _ =>
        obtain ⟨y0, y1, y2, y3, n', _, t0, t1, t2, t3⟩ := trod_array4 Try.underlying70 (by kernel_rfl) ht'
        obtain ⟨z0, q0, _, w0⟩ := DataW.trod_int Try.underlying3 t0
        obtain ⟨z1, q1, _, w1⟩ := DataW.trod_int Try.underlying3 t1
        obtain ⟨z2, q2, _, w2⟩ := DataW.trod_int Try.underlying3 t2
        obtain ⟨z3, q3, _, w3⟩ := DataW.trod_int Try.underlying3 t3
        simp at q0 q1 q2 q3
        subst q0 q1 q2 q3
        refine ⟨⟨z0, z1, z2, z3⟩, ⟨w0, w1, w2, w3⟩, ?_, ?_, ?_, ?_⟩
        · have := hat 0 (by omega); rw [Go.Deep.add_add] at this; simpa using this
        · have := hat 1 (by omega); rw [Go.Deep.add_add] at this; simpa using this
        · have := hat 2 (by omega); rw [Go.Deep.add_add] at this; simpa using this
        · have := hat 3 (by omega); rw [Go.Deep.add_add] at this; simpa using this
    obtain ⟨zs, hzl, hzs⟩ := choose_list hrow
    refine ⟨zs, hzl, hl, hm, fun i z hz => ?_⟩
    obtain ⟨⟨f1, f2, f3, f4⟩, g0, g1, g2, g3⟩ := hzs i z hz
    have hlen : 0 < len := by have := (List.getElem?_eq_some_iff.1 hz).1; omega
    obtain ⟨z0, hz0⟩ : ∃ z0, zs[0]? = some z0 := ⟨_, List.getElem?_eq_getElem (by omega)⟩
    have hs := spot_of (hzs 0 z0 hz0).2.1 rfl
    have hb := World.block_lt_of_cell? w _ g0
    rw [plain_add hs] at g0 g1 g2 g3 hb
    exact ⟨x.block, x.off, by obtain ⟨b, o, s⟩ := x; simp only at hs; subst hs; rfl, hb, f1, f2, f3, f4, g0, g1, g2, g3⟩
end Go.Proofs.Yteehjciepccomaa
