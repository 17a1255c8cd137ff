/-
  The chapter's examples: their values.
-/
import Derived.Test.YteehjciepccomaaFUse
namespace Go.Proofs.Yteehjciepccomaa
open Go.RowKit
set_option maxRecDepth 100000
set_option maxHeartbeats 1000000

def exS (j : Int) : List Pc := [⟨[10], 10, -1⟩, ⟨[170, 200], 200, -1⟩, ⟨[60, 90, 120], 90, -1⟩, ⟨[30], 30, j⟩]

theorem ex_r1 : resumeS (exS 300) 330 [] = ([10, 200, 90, 30], 0, 0) := by decide +kernel
theorem ex_r2 : resumeS (exS 300) 330 [10, 230] = ([60, 30], 30, 0) := by decide +kernel
theorem ex_r3 : resumeS (exS 300) 330 [10, 260] = ([], 0, 100) := by decide +kernel
theorem ex_r4 : resumeS (exS 300) 340 [] = ([], 0, 100) := by decide +kernel
theorem ex_v1 : ValidS (exS 300) 330 := by decide +kernel
theorem ex_v2 : ValidS (exS 300) 340 := by decide +kernel
theorem ex_v3 : ValidS (exS 305) 340 := by decide +kernel
theorem ex_v4 : ValidS (exS 300) 0 := by decide +kernel
theorem ex_v5 : ¬ ValidS (exS 300) 3601 := by decide +kernel
theorem ex_c1 : (ValidS (exS 300) 330 ∧ ([10, 170, 120, 30] : List Int).length = (exS 300).length ∧ fitsS 330 (exS 300) 0 [10, 170, 120, 30] = true) ∧ costS (exS 300) [10, 170, 120, 30] = 60 := by decide +kernel
theorem ex_c2 : ¬ (ValidS (exS 300) 330 ∧ ([10, 200, 60, 30] : List Int).length = (exS 300).length ∧ fitsS 330 (exS 300) 0 [10, 200, 60, 30] = true) := by decide +kernel
theorem strict_of {M : List Int} (h : decide (M.Pairwise (· < ·)) = true) : M.Pairwise (· < ·) := of_decide_eq_true h
theorem memb_val {L M : List Int} (hM : decide (M.Pairwise (· < ·)) = true) (hb : decide (∀ x ∈ L, 0 ≤ x ∧ x ≤ 72000) = true) (h1 : decide (∀ x ∈ L, x ∈ M) = true) (h2 : decide (∀ x ∈ M, x ∈ L) = true) : memb L 72001 = M :=
  memb_eq (of_decide_eq_true hM) (of_decide_eq_true hb) fun x => ⟨of_decide_eq_true h1 x, of_decide_eq_true h2 x⟩
theorem ex_b1 : blameS (exS 300) 340 = (4, [330]) := by
  have h : blameS (exS 300) 340 = (4, memb (reachS (exS 300) [0]) 72001) := by
    rw [blameS, exS, blameFrom, if_neg (by decide +kernel), blameFrom, if_neg (by decide +kernel), blameFrom, if_neg (by decide +kernel), blameFrom, if_neg (by decide +kernel), blameFrom, if_neg (by decide +kernel)]
    rfl
  rw [h, memb_val (M := [330]) (by decide +kernel) (by decide +kernel) (by decide +kernel) (by decide +kernel)]
theorem ex_b2 : blameS (exS 305) 340 = (3, [240, 270, 300, 330]) := by
  have h : blameS (exS 305) 340 = (3, memb (reachS ((exS 305).take 3) [0]) 72001) := by
    rw [blameS, exS, blameFrom, if_neg (by decide +kernel), blameFrom, if_neg (by decide +kernel), blameFrom, if_neg (by decide +kernel), blameFrom, if_pos (by decide +kernel)]
    rfl
  rw [h, memb_val (M := [240, 270, 300, 330]) (by decide +kernel) (by decide +kernel) (by decide +kernel) (by decide +kernel)]
theorem ex_b3 : blameS (exS 300) 330 = (-1, []) := by
  rw [blameS, exS, blameFrom, if_neg (by decide +kernel), blameFrom, if_neg (by decide +kernel), blameFrom, if_neg (by decide +kernel), blameFrom, if_neg (by decide +kernel), blameFrom, if_pos (by decide +kernel)]
theorem ex_g1 : beginsL (exS 300) 2 = [180, 210] := by
  have h : beginsL (exS 300) 2 = (memb (reachS ((exS 300).take 2) [0]) 72001).filter (meetsS ⟨[60, 90, 120], 90, -1⟩) := rfl
  rw [h, memb_val (M := [180, 210]) (by decide +kernel) (by decide +kernel) (by decide +kernel) (by decide +kernel)]
  decide +kernel

theorem ints_cells {zs : List Int} {k : Nat} {z : Int} (h : zs[k]? = some z) : (zs.map (Value.int .i64))[k]? = some (.int .i64 z) := by
  rw [List.getElem?_map, h]; rfl
theorem example_any (j : Int) (w : World) :
    Calls Try.prog 39 #[.int .i64 j] w fun e w' => ∃ b, e = .returned (.slice (some ⟨b, 0, none⟩) 4 4) ∧ PcsAt w'.heap.size w' (some ⟨b, 0, none⟩) (exS j) ∧ Upd [] w w' := by
  go_enter Try.func39, Try.ntmps39
  go_wp2_with fail
  go_ret
  obtain ⟨W, hW⟩ : ∃ W, (((((w.alloc (.cells #[.int .i64 10] 3)).alloc (.cells #[.int .i64 170, .int .i64 200] 3)).alloc (.cells #[.int .i64 60, .int .i64 90, .int .i64 120] 3)).alloc (.cells #[.int .i64 30] 3)).alloc (.cells #[.slice (some ⟨w.heap.size, 0, none⟩) 1 1, .int .i64 10, .int .i64 (-1), .slice (some ⟨w.heap.size + 1, 0, none⟩) 2 2, .int .i64 200, .int .i64 (-1), .slice (some ⟨w.heap.size + 1 + 1, 0, none⟩) 3 3, .int .i64 90, .int .i64 (-1), .slice (some ⟨w.heap.size + 1 + 1 + 1, 0, none⟩) 1 1, .int .i64 30, .int .i64 j] 50)) = W := ⟨_, rfl⟩
  rw [hW]
  have hsz : W.heap.size = w.heap.size + 5 := by rw [← hW]; simp
  have L0 : Blk W w.heap.size 3 ([10].map (Value.int .i64)) := by
    have := ((((Blk.new w 3 [.int .i64 10]).alloc (.cells #[.int .i64 170, .int .i64 200] 3)).alloc (.cells #[.int .i64 60, .int .i64 90, .int .i64 120] 3)).alloc (.cells #[.int .i64 30] 3)).alloc (.cells #[.slice (some ⟨w.heap.size, 0, none⟩) 1 1, .int .i64 10, .int .i64 (-1), .slice (some ⟨w.heap.size + 1, 0, none⟩) 2 2, .int .i64 200, .int .i64 (-1), .slice (some ⟨w.heap.size + 1 + 1, 0, none⟩) 3 3, .int .i64 90, .int .i64 (-1), .slice (some ⟨w.heap.size + 1 + 1 + 1, 0, none⟩) 1 1, .int .i64 30, .int .i64 j] 50)
    rw [hW] at this
    exact this
  have L1 : Blk W (w.heap.size + 1) 3 ([170, 200].map (Value.int .i64)) := by
    have := (((Blk.new (w.alloc (.cells #[.int .i64 10] 3)) 3 [.int .i64 170, .int .i64 200]).alloc (.cells #[.int .i64 60, .int .i64 90, .int .i64 120] 3)).alloc (.cells #[.int .i64 30] 3)).alloc (.cells #[.slice (some ⟨w.heap.size, 0, none⟩) 1 1, .int .i64 10, .int .i64 (-1), .slice (some ⟨w.heap.size + 1, 0, none⟩) 2 2, .int .i64 200, .int .i64 (-1), .slice (some ⟨w.heap.size + 1 + 1, 0, none⟩) 3 3, .int .i64 90, .int .i64 (-1), .slice (some ⟨w.heap.size + 1 + 1 + 1, 0, none⟩) 1 1, .int .i64 30, .int .i64 j] 50)
    rw [hW] at this
    simpa using this
  have L2 : Blk W (w.heap.size + 1 + 1) 3 ([60, 90, 120].map (Value.int .i64)) := by
    have := ((Blk.new ((w.alloc (.cells #[.int .i64 10] 3)).alloc (.cells #[.int .i64 170, .int .i64 200] 3)) 3 [.int .i64 60, .int .i64 90, .int .i64 120]).alloc (.cells #[.int .i64 30] 3)).alloc (.cells #[.slice (some ⟨w.heap.size, 0, none⟩) 1 1, .int .i64 10, .int .i64 (-1), .slice (some ⟨w.heap.size + 1, 0, none⟩) 2 2, .int .i64 200, .int .i64 (-1), .slice (some ⟨w.heap.size + 1 + 1, 0, none⟩) 3 3, .int .i64 90, .int .i64 (-1), .slice (some ⟨w.heap.size + 1 + 1 + 1, 0, none⟩) 1 1, .int .i64 30, .int .i64 j] 50)
    rw [hW] at this
    simpa using this
  have L3 : Blk W (w.heap.size + 1 + 1 + 1) 3 ([30].map (Value.int .i64)) := by
    have := (Blk.new (((w.alloc (.cells #[.int .i64 10] 3)).alloc (.cells #[.int .i64 170, .int .i64 200] 3)).alloc (.cells #[.int .i64 60, .int .i64 90, .int .i64 120] 3)) 3 [.int .i64 30]).alloc (.cells #[.slice (some ⟨w.heap.size, 0, none⟩) 1 1, .int .i64 10, .int .i64 (-1), .slice (some ⟨w.heap.size + 1, 0, none⟩) 2 2, .int .i64 200, .int .i64 (-1), .slice (some ⟨w.heap.size + 1 + 1, 0, none⟩) 3 3, .int .i64 90, .int .i64 (-1), .slice (some ⟨w.heap.size + 1 + 1 + 1, 0, none⟩) 1 1, .int .i64 30, .int .i64 j] 50)
    rw [hW] at this
    simpa using this
  have K : Blk W (w.heap.size + 1 + 1 + 1 + 1) 50 [.slice (some ⟨w.heap.size, 0, none⟩) 1 1, .int .i64 10, .int .i64 (-1), .slice (some ⟨w.heap.size + 1, 0, none⟩) 2 2, .int .i64 200, .int .i64 (-1), .slice (some ⟨w.heap.size + 1 + 1, 0, none⟩) 3 3, .int .i64 90, .int .i64 (-1), .slice (some ⟨w.heap.size + 1 + 1 + 1, 0, none⟩) 1 1, .int .i64 30, .int .i64 j] := by
    have := Blk.new ((((w.alloc (.cells #[.int .i64 10] 3)).alloc (.cells #[.int .i64 170, .int .i64 200] 3)).alloc (.cells #[.int .i64 60, .int .i64 90, .int .i64 120] 3)).alloc (.cells #[.int .i64 30] 3)) 50 [.slice (some ⟨w.heap.size, 0, none⟩) 1 1, .int .i64 10, .int .i64 (-1), .slice (some ⟨w.heap.size + 1, 0, none⟩) 2 2, .int .i64 200, .int .i64 (-1), .slice (some ⟨w.heap.size + 1 + 1, 0, none⟩) 3 3, .int .i64 90, .int .i64 (-1), .slice (some ⟨w.heap.size + 1 + 1 + 1, 0, none⟩) 1 1, .int .i64 30, .int .i64 j]
    rw [hW] at this
    simpa using this
  refine ⟨w.heap.size + 1 + 1 + 1 + 1, rfl, ?_, by rw [← hW]; exact (((((Upd.refl [] w).alloc _).alloc _).alloc _).alloc _).alloc _⟩
  intro i p hp
  match i with
  | 0 =>
    obtain rfl : (⟨[10], 10, -1⟩ : Pc) = p := by simpa [exS] using hp
    exact ⟨_, 0, _, _, _, rfl, by omega, Ints.of (by rfl) (fun k z hz => ⟨_, 0, rfl, by omega, by have := L0.cell k; rw [Nat.zero_add, this]; exact ints_cells hz⟩), by decide, K.cell 0, K.cell 1, K.cell 2⟩
  | 1 =>
    obtain rfl : (⟨[170, 200], 200, -1⟩ : Pc) = p := by simpa [exS] using hp
    exact ⟨_, 0, _, _, _, rfl, by omega, Ints.of (by rfl) (fun k z hz => ⟨_, 0, rfl, by omega, by have := L1.cell k; rw [Nat.zero_add, this]; exact ints_cells hz⟩), by decide, K.cell 3, K.cell 4, K.cell 5⟩
  | 2 =>
    obtain rfl : (⟨[60, 90, 120], 90, -1⟩ : Pc) = p := by simpa [exS] using hp
    exact ⟨_, 0, _, _, _, rfl, by omega, Ints.of (by rfl) (fun k z hz => ⟨_, 0, rfl, by omega, by have := L2.cell k; rw [Nat.zero_add, this]; exact ints_cells hz⟩), by decide, K.cell 6, K.cell 7, K.cell 8⟩
  | 3 =>
    obtain rfl : (⟨[30], 30, j⟩ : Pc) = p := by simpa [exS] using hp
    exact ⟨_, 0, _, _, _, rfl, by omega, Ints.of (by rfl) (fun k z hz => ⟨_, 0, rfl, by omega, by have := L3.cell k; rw [Nat.zero_add, this]; exact ints_cells hz⟩), (show 1 ≤ maxLen by decide), K.cell 9, K.cell 10, K.cell 11⟩
  | n + 4 => simp [exS] at hp
end Go.Proofs.Yteehjciepccomaa
