/-
  How pieces lie in memory.
-/
import Derived.Test.YtafjolibfbccbaaGreatDoorFArgs
import Derived.Test.YtafjolibfbccbaaGreatDoorFPlain
namespace Go.Proofs.YtafjolibfbccbaaGreatDoor
open Go.RowKit
set_option maxHeartbeats 1000000

theorem Ints.form {n₀ : Nat} {w : World} {a : Option Addr} {n c : Nat} {zs : List Int} (h : Ints n₀ w (.slice a n c) zs) : n = zs.length ∧ ∀ j z, zs[j]? = some z → ∃ b o, a = some ⟨b, o, none⟩ ∧ b < n₀ ∧ w.cell? ⟨b, o + j, none⟩ = some (.int .i64 z) := by
  rcases h with ⟨a', c', e, rfl⟩ | ⟨b, off, cap, e, hb, hc⟩
  · injection e with e1 e2 e3
    exact ⟨by simpa using e2, by simp⟩
  · injection e with e1 e2 e3
    refine ⟨e2, fun j z hz => ⟨b, off, e1, hb, ?_⟩⟩
    have hj := (List.getElem?_eq_some_iff.1 hz).1
    rw [hc j hj, hz]; rfl
theorem Ints.of {n₀ : Nat} {w : World} {a : Option Addr} {n c : Nat} {zs : List Int} (hn : n = zs.length) (h : ∀ j z, zs[j]? = some z → ∃ b o, a = some ⟨b, o, none⟩ ∧ b < n₀ ∧ w.cell? ⟨b, o + j, none⟩ = some (.int .i64 z)) : Ints n₀ w (.slice a n c) zs := by
  subst hn
  cases zs with
  | nil => exact .inl ⟨a, c, rfl, rfl⟩
  | cons z zs =>
    obtain ⟨b, o, rfl, hb, _⟩ := h 0 z rfl
    refine .inr ⟨b, o, c, rfl, hb, fun j hj => ?_⟩
    obtain ⟨b', o', e, _, hc⟩ := h j _ (List.getElem?_eq_getElem hj)
    obtain ⟨rfl, rfl⟩ : b = b' ∧ o = o' := by simpa using e
    rw [hc, List.getElem?_eq_getElem hj]; rfl
theorem Ints.take {n₀ : Nat} {w : World} {a : Option Addr} {n c c' : Nat} {zs : List Int} (h : Ints n₀ w (.slice a n c) zs) (k : Nat) (hk : k ≤ zs.length) : Ints n₀ w (.slice a k c') (zs.take k) := by
  obtain ⟨_, hc⟩ := h.form
  refine Ints.of (by simp; omega) fun j z hz => hc j z ?_
  rw [List.getElem?_take] at hz
  split at hz
  · exact hz
  · cases hz

/-- Pieces in a row from an address on; all of it in blocks below n₀. -/
def PcsAt (n₀ : Nat) (w : World) (a : Option Addr) (l : List Pc) : Prop := ∀ i p, l[i]? = some p → ∃ b o pa pn pc, a = some ⟨b, o, none⟩ ∧ b < n₀ ∧ Ints n₀ w (.slice pa pn pc) p.lens ∧ p.lens.length ≤ maxLen ∧
  w.cell? ⟨b, o + i * 3, none⟩ = some (.slice pa pn pc) ∧ w.cell? ⟨b, o + i * 3 + 1, none⟩ = some (.int .i64 p.want) ∧ w.cell? ⟨b, o + i * 3 + 2, none⟩ = some (.int .i64 p.join)
theorem PcsAt.below {n₀ : Nat} {w w' : World} {a : Option Addr} {l : List Pc} (h : PcsAt n₀ w a l) (hb : Below n₀ w w') : PcsAt n₀ w' a l := by
  intro i p hp
  obtain ⟨b, o, pa, pn, pc, e, h1, h2, h3, c0, c1, c2⟩ := h i p hp
  exact ⟨b, o, pa, pn, pc, e, h1, h2.below hb, h3, (hb.cell (p := ⟨b, _, none⟩) h1).trans c0, (hb.cell (p := ⟨b, _, none⟩) h1).trans c1, (hb.cell (p := ⟨b, _, none⟩) h1).trans c2⟩
theorem PcsAt.mono {n₀ n₁ : Nat} {w : World} {a : Option Addr} {l : List Pc} (h : PcsAt n₀ w a l) (hn : n₀ ≤ n₁) : PcsAt n₁ w a l := by
  intro i p hp
  obtain ⟨b, o, pa, pn, pc, e, h1, h2, h3, c⟩ := h i p hp
  exact ⟨b, o, pa, pn, pc, e, by omega, h2.mono hn, h3, c⟩
theorem PcsAt.take {n₀ : Nat} {w : World} {a : Option Addr} {l : List Pc} (h : PcsAt n₀ w a l) (k : Nat) : PcsAt n₀ w a (l.take k) := by
  intro i p hp
  rw [List.getElem?_take] at hp
  split at hp
  · exact h i p hp
  · cases hp
end Go.Proofs.YtafjolibfbccbaaGreatDoor
