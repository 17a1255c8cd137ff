/-
  A list of pieces that came in, opened.
-/
import Derived.Test.YteehjciepccomaaRCut
import Derived.Test.YteehjciepccomaaFOpen
namespace Go.Proofs.Yteehjciepccomaa
open Go.RowKit Go.ChangeShapes Go.WideShapes
set_option maxRecDepth 100000
set_option maxHeartbeats 1000000

def PcArg (W : World) (a : Option Addr) (len cap : Nat) (l : List Pc) : Prop := l.length = len ∧ len ≤ cap ∧ cap ≤ maxLen ∧ RawAt W a l
theorem open_pcs {H : Type} {enc : TypeId × Value → H} {w : World} {base : Nat} {spare : Nat → Bool} {held : Bool} {a : Option Addr} {len cap : Nat} {d : DataW H} {p : List MemPlace}
    (h : DataW.Trod enc Try.prog w base spare held 22 (.slice a len cap) d p) : ∃ l, PcArg w a len cap l := by
  obtain ⟨fuel, hf⟩ := h
  rcases open_slice_fields Try.underlying22 Try.underlying50 (by kernel_rfl) (by kernel_rfl) hf with ⟨hcs, _⟩ | ⟨x, l, c, m, hcs, hb, hl, hm, hmm, hi⟩
  · simp [Value.cells] at hcs
    obtain ⟨rfl, rfl, rfl⟩ := hcs
    exact ⟨[], rfl, Nat.le_refl _, Nat.zero_le _, fun i x hx => by simp at hx⟩
  · simp [Value.cells] at hcs
    obtain ⟨rfl, rfl, rfl⟩ := hcs
    have hrow : ∀ i, i < len → ∃ z : Pc, ∃ pa pn pc, IntsArg w pa pn pc z.lens ∧ w.cell? (x.add (i * 3)) = some (.slice pa pn pc) ∧ w.cell? (x.add (i * 3 + 1)) = some (.int .i64 z.want) ∧ w.cell? (x.add (i * 3 + 2)) = some (.int .i64 z.join) := by
      intro i hil
      obtain ⟨n, hf⟩ := hi i (by omega)
      obtain ⟨v0, y0, c0, t0⟩ := hf 0 _ rfl
      obtain ⟨v1, y1, c1, t1⟩ := hf 1 _ rfl
      obtain ⟨v2, y2, c2, t2⟩ := hf 2 _ rfl
      obtain ⟨z1, q1, _, w1⟩ := DataW.trod_int Try.underlying3 t1
      obtain ⟨z2, q2, _, w2⟩ := DataW.trod_int Try.underlying3 t2
      simp at q1 q2
      subst q1 q2
      obtain ⟨pa, pn, pc, rfl⟩ : ∃ pa pn pc, v0 = .slice pa pn pc := by
        rcases open_ints Try.underlying24 Try.underlying3 (by kernel_rfl) t0 with ⟨hcs, _⟩ | ⟨x, l, c, zs, hcs, _⟩
        · exact ⟨none, 0, 0, by simpa using hcs⟩
        · exact ⟨some x, l, c, by simpa using hcs⟩
      obtain ⟨zs, hzs⟩ := open_ints_arg Try.underlying24 Try.underlying3 (by kernel_rfl) (⟨n, t0⟩ : DataW.Trod enc Try.prog w base spare held 24 (.slice pa pn pc) y0.1 y0.2)
      exact ⟨⟨zs, z1, z2⟩, pa, pn, pc, hzs, by simpa using c0, by simpa using c1, by simpa using c2⟩
    obtain ⟨zs, hzl, hzs⟩ := choose_list hrow
    refine ⟨zs, hzl, hl, hm, fun i z hz => ?_⟩
    obtain ⟨pa, pn, pc, g, g0, g1, g2⟩ := hzs i z hz
    have hlen : 0 < len := by have := (List.getElem?_eq_some_iff.1 hz).1; omega
    obtain ⟨z0, hz0⟩ : ∃ z0, zs[0]? = some z0 := ⟨_, List.getElem?_eq_getElem (by omega)⟩
    obtain ⟨_, _, _, _, h0, _⟩ := hzs 0 z0 hz0
    have hs := spot_of h0 rfl
    have hb := World.block_lt_of_cell? w _ g0
    rw [plain_add hs] at g0 g1 g2 hb
    exact ⟨x.block, x.off, pa, pn, pc, by obtain ⟨b, o, s⟩ := x; simp only at hs; subst hs; rfl, hb, g, g0, g1, g2⟩
end Go.Proofs.Yteehjciepccomaa
