/-
  mixed, three turns.
-/
import Derived.Test.YtafjolibfbccbaaGreatDoorHSched
namespace Go.Proofs.YtafjolibfbccbaaGreatDoor
open Go.RowKit

theorem mixed_three (a b c : Nat) (x : Int) (g : Nat) (w : World) (habc : (1 ≤ a ∧ a < 32) ∧ (1 ≤ b ∧ b < 32) ∧ (1 ≤ c ∧ c < 32)) (hx : Word x)
    (hB : Blk w g 3 [.int .i64 (a : Int), .int .i64 (b : Int), .int .i64 (c : Int)]) :
    Calls Tryz.prog 145 #[.int .u32 x, .slice (some ⟨g, 0, none⟩) 3 3] w fun e w' => e = .returned (.int .u32 (mixS [a, b, c] x)) ∧ w = w' :=
  mixed_any (n₀ := w.heap.size) x [a, b, c] (some ⟨g, 0, none⟩) 3 w hx (fun n hn => by
    rcases List.mem_cons.1 hn with rfl | hn
    · exact habc.1
    · rcases List.mem_cons.1 hn with rfl | hn
      · exact habc.2.1
      · obtain rfl := List.mem_singleton.1 hn
        exact habc.2.2) (.inr ⟨g, 0, 3, rfl, hB.lt, fun j hj => by
        rw [Nat.zero_add, hB.cell]
        match j, hj with
        | 0, _ => rfl
        | 1, _ => rfl
        | 2, _ => rfl⟩) (by simp)

end Go.Proofs.YtafjolibfbccbaaGreatDoor
