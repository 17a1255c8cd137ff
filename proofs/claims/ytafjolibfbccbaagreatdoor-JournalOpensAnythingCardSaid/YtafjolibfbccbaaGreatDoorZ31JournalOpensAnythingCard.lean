/-
  Slices of strings that came in, and slices of such slices.
-/
import Derived.Test.YtafjolibfbccbaaGreatDoorZ28JournalOpensAnythingCard
import Derived.SliceStrings

namespace Go.Proofs.YtafjolibfbccbaaGreatDoor
open Go.RowKit Go.ChangeShapes Go.WideShapes Go.Deep
set_option maxRecDepth 100000
set_option maxHeartbeats 4000000

/-- A slice of strings that came in. -/
structure StrsArg (W : World) (a : Option Addr) (len cap : Nat) (l : List ByteArray) : Prop where
  hlen : l.length = len
  hcap : len ≤ cap
  hmax : cap ≤ maxLen
  at_ : StrsAt W a l
  small : ∀ s ∈ l, s.size ≤ maxLen
theorem StrsArg.mx {W : World} {a : Option Addr} {len cap : Nat} {l : List ByteArray} (h : StrsArg W a len cap l) : len ≤ 9223372036854775807 := by
  have h1 := h.hcap
  have h2 := h.hmax
  unfold maxLen at h2
  omega
section
variable {H : Type} {enc : TypeId × Value → H} {w : World} {base : Nat} {spare : Nat → Bool} {held : Bool}
theorem open_strs_raw {fuel : Nat} {cs : List Value} {x : DataW H × List MemPlace} (hf : DataW.trod enc Tryz.prog w base spare held fuel 22 cs = some x) :
    ∃ a len cap l, cs = [.slice a len cap] ∧ StrsArg w a len cap l := by
  rcases open_strings Tryz.underlying22 Tryz.underlying9 (by kernel_rfl) hf with ⟨rfl, _⟩ | ⟨y, len, cap, ss, rfl, _, hl, hm, hz, _, hcell, hsz⟩
  · exact ⟨none, 0, 0, [], rfl, rfl, Nat.le_refl _, Nat.zero_le _, fun j s hs => by simp at hs, by simp⟩
  · have hle : len ≤ ss.length := by rw [hz]; split <;> omega
    refine ⟨some y, len, cap, ss.take len, rfl, by simp; omega, hl, hm, fun j s hs => ?_, fun s hs => hsz s (List.mem_of_mem_take hs)⟩
    have hj := (List.getElem?_eq_some_iff.1 hs).1
    rw [List.length_take] at hj
    have hs0 := spot_of (hcell 0 (by omega)) rfl
    have hc := hcell j (by omega)
    rw [plain_add hs0] at hc
    rw [List.getElem?_take_of_lt (by omega)] at hs
    rw [List.getD, hs] at hc
    exact ⟨y.block, y.off, by obtain ⟨b, o, s⟩ := y; simp only at hs0; subst hs0; rfl, hc⟩
theorem open_strs {a : Option Addr} {len cap : Nat} {d : DataW H} {p : List MemPlace} (h : DataW.Trod enc Tryz.prog w base spare held 22 (.slice a len cap) d p) : ∃ l, StrsArg w a len cap l := by
  obtain ⟨fuel, hf⟩ := h
  obtain ⟨a', n', c', l, e, hs⟩ := open_strs_raw hf
  simp [Value.cells] at e
  obtain ⟨rfl, rfl, rfl⟩ := e
  exact ⟨l, hs⟩
end
/-- A slice of strings as it lies in a cell. -/
structure SRow where
  a : Option Addr
  n : Nat
  c : Nat
  l : List ByteArray
/-- A slice of slices of strings that came in. -/
structure GrpsArg (W : World) (a : Option Addr) (len cap : Nat) (l : List SRow) : Prop where
  hlen : l.length = len
  hcap : len ≤ cap
  hmax : cap ≤ maxLen
  at_ : ∀ i x, l[i]? = some x → ∃ b o, a = some ⟨b, o, none⟩ ∧ W.cell? ⟨b, o + i, none⟩ = some (.slice x.a x.n x.c) ∧ StrsArg W x.a x.n x.c x.l
theorem GrpsArg.mx {W : World} {a : Option Addr} {len cap : Nat} {l : List SRow} (h : GrpsArg W a len cap l) : len ≤ 9223372036854775807 := by
  have h1 := h.hcap
  have h2 := h.hmax
  unfold maxLen at h2
  omega
/-- What came in lies below. -/
theorem StrsAt.below {B : Nat} {w w' : World} {a : Option Addr} {l : List ByteArray} (h : StrsAt w a l) (hb : Below B w w') (hB : ∀ k, a.map (·.block) = some k → k < B) : StrsAt w' a l := by
  intro j s hs
  obtain ⟨b, o, rfl, hc⟩ := h j s hs
  exact ⟨b, o, rfl, (hb.cell (p := ⟨b, o + j, none⟩) (hB b rfl)).trans hc⟩
theorem StrsAt.later {w w' : World} {a : Option Addr} {l : List ByteArray} (h : StrsAt w a l) (hb : Below w.heap.size w w') : StrsAt w' a l := by
  intro j s hs
  obtain ⟨b, o, rfl, hc⟩ := h j s hs
  exact ⟨b, o, rfl, (hb.cell (p := ⟨b, o + j, none⟩) (World.block_lt_of_cell? _ _ hc)).trans hc⟩
theorem open_grps {H : Type} {enc : TypeId × Value → H} {w : World} {base : Nat} {spare : Nat → Bool} {held : Bool} {a : Option Addr} {len cap : Nat} {d : DataW H} {p : List MemPlace} (h : DataW.Trod enc Tryz.prog w base spare held 48 (.slice a len cap) d p) : ∃ l, GrpsArg w a len cap l := by
  obtain ⟨fuel, hf⟩ := h
  rcases open_slice Tryz.underlying48 hf with ⟨hcs, _⟩ | ⟨y, l, c, m, n, D, Pl, hcs, _, hl, hm, hmm, _, hi⟩
  · simp [Value.cells] at hcs
    obtain ⟨rfl, rfl, rfl⟩ := hcs
    exact ⟨[], rfl, Nat.le_refl _, Nat.zero_le _, fun i x hx => by simp at hx⟩
  · simp [Value.cells] at hcs
    obtain ⟨rfl, rfl, rfl⟩ := hcs
    have hc1 : Tryz.prog.cellsOf 22 = 1 := by kernel_rfl
    have hle : len ≤ m := by rw [hmm]; split <;> omega
    have hrow : ∀ i, i < len → ∃ x : SRow, w.cell? (y.add i) = some (.slice x.a x.n x.c) ∧ StrsArg w x.a x.n x.c x.l := by
      intro i hil
      obtain ⟨cs', hcc, ht⟩ := hi i (by omega)
      rw [hc1, Nat.mul_one] at hcc
      obtain ⟨a', n', c', l', rfl, hs⟩ := open_strs_raw ht
      exact ⟨⟨a', n', c', l'⟩, cell_of_cells?_one hcc, hs⟩
    obtain ⟨zs, hzl, hzs⟩ := choose_list hrow
    refine ⟨zs, hzl, hl, hm, fun i x hx => ?_⟩
    have hlen : 0 < len := by have := (List.getElem?_eq_some_iff.1 hx).1; omega
    obtain ⟨z0, hz0⟩ : ∃ z0, zs[0]? = some z0 := ⟨_, List.getElem?_eq_getElem (by omega)⟩
    have hs0 := spot_of (hzs 0 z0 hz0).1 rfl
    obtain ⟨g0, g1⟩ := hzs i x hx
    rw [plain_add hs0] at g0
    exact ⟨y.block, y.off, by obtain ⟨b, o, s⟩ := y; simp only at hs0; subst hs0; rfl, g0, g1⟩
end Go.Proofs.YtafjolibfbccbaaGreatDoor
