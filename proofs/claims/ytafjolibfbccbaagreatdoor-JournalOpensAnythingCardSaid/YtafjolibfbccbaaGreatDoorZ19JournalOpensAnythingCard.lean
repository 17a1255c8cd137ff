/-
  Blocks that are kept through a round of a range over a function.
-/
import Derived.Test.YtafjolibfbccbaaGreatDoorZ4JournalOpensAnythingCard
import Derived.Test.YtafjolibfbccbaaGreatDoorZ5JournalOpensAnythingCard
import Derived.Test.YtafjolibfbccbaaGreatDoorZ14JournalOpensAnythingCard
import Derived.Shelf.Abstract
import Derived.Shelf.RegionOpen
import Derived.OwnWalkIn
import Derived.TacticsInMore
import Derived.LoopNIn
import Derived.LoopIn

namespace Go.Proofs.YtafjolibfbccbaaGreatDoor
open Go.RowKit Go.Shelf
set_option maxRecDepth 100000
attribute [local go_sem] Oper.semAt_some

def KeepX (n : Nat) (l : List Nat) (W W' : World) : Prop := W.heap.size ≤ W'.heap.size ∧ ∀ k, k < n → k ∉ l → W'.heap[k]? = W.heap[k]?
theorem KeepX.refl (n : Nat) (l : List Nat) (W : World) : KeepX n l W W := ⟨Nat.le_refl _, fun _ _ _ => rfl⟩
theorem KeepX.trans {n : Nat} {l : List Nat} {A B C : World} (h : KeepX n l A B) (k : KeepX n l B C) : KeepX n l A C := ⟨Nat.le_trans h.1 k.1, fun j h1 h2 => (k.2 j h1 h2).trans (h.2 j h1 h2)⟩
theorem KeepX.put {n : Nat} {l : List Nat} {w : World} (hn : n ≤ w.heap.size) (W : World) (r : Nat) (o o' : Obj) (hl : w.heap.size ≤ r) (h : W.heap[r]? = some o) (_ : o.isCells = false) (_ : o.isWalk = false) : KeepX n l W (W.putObj r o') := ⟨by simp, fun k hk _ => by
  have hlt := (Array.getElem?_eq_some_iff.1 h).1
  exact (grownBy_putObj' W r o').block k (by omega) (by intro e; cases e; omega)⟩
theorem KeepX.of_upd {n : Nat} {l : List Nat} {W W' : World} (h : Upd l W W') (hn : n ≤ W.heap.size) : KeepX n l W W' := ⟨h.size, fun k h1 h2 => h.block k (by omega) h2⟩
theorem it_ownFrom_upd {β : Type} {w0 : World} {l : List Nat} : OwnFrom w0.heap.size (fun (_ : β) W => Upd l w0 W) := by
  intro s W W' row h hg hr
  exact h.grown hg (fun k e => .inr (hr k e).1)
end Go.Proofs.YtafjolibfbccbaaGreatDoor
