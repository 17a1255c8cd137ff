/-
  Six integers that came in as an array.
-/
import Derived.Test.YteehjciepccomaaZ18FitItemsRow
import Derived.OpenShut
import Derived.ProofKit
import Derived.DataShut

namespace Go.Proofs.Yteehjciepccomaa
open Go.RowKit Go.ChangeShapes Go.WideShapes
set_option maxRecDepth 100000

theorem fits_of_wf {c : Int} (h : (Lit.int .i64 c).wf = true) : Fits64 c := by
  have := (Lit.wf_int_iff .i64 c).1 h
  simp [IntKind.min, IntKind.max, IntKind.signed, IntKind.bits] at this
  unfold Fits64
  omega
theorem okWide_arr6 {W : World} {r : Reach} {b0 : Nat} {v : Value} (h : Value.okWide Try.prog W r b0 89 v) : ∃ xs : Array Value, v = .agg xs := by
  simp only [Value.okWide, Try.underlying89] at h
  obtain ⟨cs, h1, h2, _⟩ := h
  exact ⟨cs, h1⟩
theorem open_arr6 {H : Type} {enc : TypeId × Value → H} {w : World} {base : Nat} {spare : Nat → Bool} {held : Bool} {cs : Array Value} {d : DataW H} {p : List MemPlace}
    (h : DataW.Trod enc Try.prog w base spare held 89 (.agg cs) d p) :
    ∃ x0 x1 x2 x3 x4 x5 : Int, cs = #[.int .i64 x0, .int .i64 x1, .int .i64 x2, .int .i64 x3, .int .i64 x4, .int .i64 x5] ∧ Fits64 x0 ∧ Fits64 x1 ∧ Fits64 x2 ∧ Fits64 x3 ∧ Fits64 x4 ∧ Fits64 x5 := by
  obtain ⟨fuel, hf⟩ := h
  obtain ⟨xs, m, _, _, hl, hxl, hi⟩ := DataW.trod_array Try.underlying89 hf
  have hc1 : Try.prog.cellsOf 3 = 1 := by kernel_rfl
  have hc6 : Try.prog.cellsOf 89 = 6 := by kernel_rfl
  rw [hc6] at hl
  simp only [hc1, Nat.mul_one] at hi
  obtain ⟨l, rfl⟩ : ∃ l : List Value, cs = l.toArray := ⟨cs.toList, by simp⟩
  have hcl : (Value.agg l.toArray).cells.toList = l := by simp [Value.cells]
  rw [hcl] at hl hi
  match l, hl, xs, hxl with
  | [c0, c1, c2, c3, c4, c5], _, [y0, y1, y2, y3, y4, y5], _ =>
    obtain ⟨z0, q0, _, w0⟩ := DataW.trod_int Try.underlying3 (show _ = some y0 from hi 0 (by omega))
    obtain ⟨z1, q1, _, w1⟩ := DataW.trod_int Try.underlying3 (show _ = some y1 from hi 1 (by omega))
    obtain ⟨z2, q2, _, w2⟩ := DataW.trod_int Try.underlying3 (show _ = some y2 from hi 2 (by omega))
    obtain ⟨z3, q3, _, w3⟩ := DataW.trod_int Try.underlying3 (show _ = some y3 from hi 3 (by omega))
    obtain ⟨z4, q4, _, w4⟩ := DataW.trod_int Try.underlying3 (show _ = some y4 from hi 4 (by omega))
    obtain ⟨z5, q5, _, w5⟩ := DataW.trod_int Try.underlying3 (show _ = some y5 from hi 5 (by omega))
    simp at q0 q1 q2 q3 q4 q5
    subst q0 q1 q2 q3 q4 q5
    exact ⟨z0, z1, z2, z3, z4, z5, rfl, fits_of_wf w0, fits_of_wf w1, fits_of_wf w2, fits_of_wf w3, fits_of_wf w4, fits_of_wf w5⟩
end Go.Proofs.Yteehjciepccomaa
