/-
  What the texts on items need of memory, with no function of chapter 10.
-/
import Derived.Test.YtafjolibfbccbaaGreatDoorMem2
import Derived.Test.YtafjolibfbccbaaGreatDoorFMem
import Derived.WalkKit
import Derived.Maps.AppendAt
namespace Go.Proofs.YtafjolibfbccbaaGreatDoor
open Go.RowKit
set_option maxRecDepth 100000
set_option maxHeartbeats 1000000

theorem keepc (w W : World) (ad : Addr) (v : Value) (hu : Upd [] w W) (hc : w.cell? ad = some v) : W.cell? ad = some v := (hu.cell (World.block_lt_of_cell? _ _ hc) (by simp)).trans hc
theorem ints_upd {n₀ : Nat} {w w' : World} {v : Value} {zs : List Int} {l : List Nat} (h : Ints n₀ w v zs) (hu : Upd l w w') (hn : n₀ ≤ w.heap.size) (hl : ∀ x ∈ l, n₀ ≤ x) : Ints n₀ w' v zs := by
  rcases h with h | ⟨b, off, cap, e, hb, hc⟩
  · exact .inl h
  · exact .inr ⟨b, off, cap, e, hb, fun j hj => (hu.cell (p := ⟨b, off + j, none⟩) (Nat.lt_of_lt_of_le hb hn) (fun hm => by have := hl b hm; omega)).trans (hc j hj)⟩
theorem it_own_less {w : World} {base base' e size n : Nat} {v : Value} {xs : List Value} (h : w.ownsRow base e size v n xs) (hb : base' ≤ base) : w.ownsRow base' e size v n xs := by
  refine ⟨h.1, ?_⟩
  rcases h.2 with h | ⟨g, cap, cur, h1, h2, h3⟩
  · exact .inl h
  · exact .inr ⟨g, cap, cur, h1, Nat.le_trans hb h2, h3⟩
theorem it_own_block {w : World} {base e size n : Nat} {v : Value} {xs : List Value} (h : w.ownsRow base e size v n xs) : ∀ k, v.ownBlock = some k → base ≤ k := fun k hk => by
  rcases h.2 with ⟨hv, _⟩ | ⟨g, cap, cur, hv, hb, _⟩
  · rw [hv] at hk; simp [Value.ownBlock] at hk
  · rw [hv] at hk
    obtain rfl : g = k := by simpa [Value.ownBlock] using hk
    exact hb

theorem it_own_lt {w : World} {base e size n : Nat} {v : Value} {xs : List Value} (h : w.ownsRow base e size v n xs) : ∀ k, v.ownBlock = some k → k < w.heap.size := fun k hk => by
  rcases h.2 with ⟨hv, _⟩ | ⟨g, cap, cur, hv, hb, hg, _⟩
  · rw [hv] at hk; simp [Value.ownBlock] at hk
  · rw [hv] at hk
    obtain rfl : g = k := by simpa [Value.ownBlock] using hk
    exact (Array.getElem?_eq_some_iff.1 hg).1
theorem it_own_ints {w : World} {base e : Nat} {v : Value} {zs : List Int} (h : w.ownsRow base e 1 v zs.length (zs.map (Value.int .i64))) : Ints w.heap.size w v zs := by
  rcases h.2 with ⟨hv, h0⟩ | ⟨g, cap, cur, hv, _, hg, h1, h2, h3, h4⟩
  · exact .inl ⟨none, 0, hv, List.eq_nil_of_length_eq_zero h0⟩
  · refine .inr ⟨g, 0, cap, hv, (Array.getElem?_eq_some_iff.1 hg).1, fun k hk => ?_⟩
    subst hv
    have := World.ownsRow.cells h (g := g) rfl k (.int .i64 (zs[k]?.getD 0)) (by simp [hk])
    have e : (⟨g, 0, none⟩ : Addr).add k = ⟨g, k, none⟩ := by unfold Addr.add; split <;> simp_all
    rw [e] at this
    rw [Nat.zero_add]
    exact this
theorem it_own_le {w : World} {base e size n : Nat} {v : Value} {xs : List Value} (h : w.ownsRow base e size v n xs) : n ≤ maxLen := by
  rcases h.2 with ⟨_, h0⟩ | ⟨g, cap, cur, hv, _, hg, h1, h2, _⟩
  · unfold maxLen; omega
  · omega
theorem it_one_new (w : World) (v : Value) (t : TypeId) (n : Nat) (hn : w.heap.size = n) : ∀ j u, [v][j]? = some u → (w.alloc (.cells #[v] t)).cell? ((⟨n, 0, none⟩ : Addr).add j) = some u := by
  subst hn
  exact cell_one_new w v t
end Go.Proofs.YtafjolibfbccbaaGreatDoor
