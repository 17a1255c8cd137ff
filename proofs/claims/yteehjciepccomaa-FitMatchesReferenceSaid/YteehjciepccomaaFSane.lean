/-
  sane: the chapter's examples hold.
-/
import Derived.Test.YteehjciepccomaaFEx
namespace Go.Proofs.Yteehjciepccomaa
open Go.RowKit
set_option maxRecDepth 100000
set_option maxHeartbeats 1000000

theorem lit_ints (w : World) (zs : List Int) : Ints (w.alloc (.cells (zs.map (Value.int .i64)).toArray 3)).heap.size (w.alloc (.cells (zs.map (Value.int .i64)).toArray 3)) (.slice (some ⟨w.heap.size, 0, none⟩) zs.length zs.length) zs := by
  refine Ints.of rfl fun k z hz => ⟨_, 0, rfl, by simp, ?_⟩
  rw [Nat.zero_add, (Blk.new w 3 (zs.map (Value.int .i64))).cell]
  exact ints_cells hz
theorem ints_yes {n₀ n₁ : Nat} (a : Option Addr) (n c : Nat) (zs : List Int) (a' : Option Addr) (n' c' : Nat) (w : World) (hI : Ints n₀ w (.slice a n c) zs) (hJ : Ints n₁ w (.slice a' n' c') zs) (h0 : n₀ ≤ w.heap.size) (h1 : n₁ ≤ w.heap.size) (hm : n ≤ 1000000000) :
    Calls Try.prog 18 #[.slice a n c, .slice a' n' c'] w fun e w' => e = .returned (.bool true) ∧ Upd [] w w' := by
  have h := ints_any a n c zs a' n' c' zs w hI hJ h0 h1 hm
  rwa [decide_eq_true rfl] at h

theorem sane_any (w : World) : Calls Try.prog 10 #[] w fun e w' => e = .returned (.bool true) ∧ Upd [] w w' := by
  go_enter Try.func10, Try.ntmps10
  go_wp2_with fail
  refine (example_any 300 w).mono ?_
  rintro e w1 ⟨b1, rfl, pc, u⟩
  have U0 := hide u
  clear u
  have Pb1 := hide pc
  clear pc
  go_wp2_with fail
  refine (solve_use (some ⟨b1, 0, none⟩) 4 (exS 300) 330 w1 (Pb1.out.upd (Upd.refl [] w1) (Nat.le_refl _) (by simp)) (Upd.refl [] w1).size (by decide) ex_r1).mono ?_
  rintro e w2 ⟨A1, c1, rfl, i1, u⟩
  have U1 := hide u
  clear u
  have IA1 := hide i1
  clear i1
  go_wp2_with fail
  obtain ⟨w3, hw⟩ : ∃ x, w2.alloc (.cells #[.int .i64 10, .int .i64 230] 3) = x := ⟨_, rfl⟩
  have J3 := hide (show Ints w3.heap.size w3 (.slice (some ⟨w2.heap.size, 0, none⟩) 2 2) [10, 230] from by rw [← hw]; exact lit_ints w2 [10, 230])
  have U2 := hide (show Upd [] w2 w3 by rw [← hw]; exact (Upd.refl [] _).alloc _)
  rw [hw]
  clear hw
  refine (resume_use (some ⟨b1, 0, none⟩) 4 (exS 300) 330 w3 (Pb1.out.upd (U1.out.trans U2.out (by simp)) (Nat.le_refl _) (by simp)) (U1.out.trans U2.out (by simp)).size (by decide) (some ⟨w2.heap.size, 0, none⟩) 2 2 [10, 230] J3.out (Nat.le_refl _) (by decide) ex_r2).mono ?_
  rintro e w4 ⟨A2, c2, rfl, i1, u⟩
  have U3 := hide u
  clear u
  have IA2 := hide i1
  clear i1
  go_wp2_with fail
  obtain ⟨w5, hw⟩ : ∃ x, w4.alloc (.cells #[.int .i64 10, .int .i64 260] 3) = x := ⟨_, rfl⟩
  have J5 := hide (show Ints w5.heap.size w5 (.slice (some ⟨w4.heap.size, 0, none⟩) 2 2) [10, 260] from by rw [← hw]; exact lit_ints w4 [10, 260])
  have U4 := hide (show Upd [] w4 w5 by rw [← hw]; exact (Upd.refl [] _).alloc _)
  rw [hw]
  clear hw
  refine (resume_use (some ⟨b1, 0, none⟩) 4 (exS 300) 330 w5 (Pb1.out.upd (((U1.out.trans U2.out (by simp)).trans U3.out (by simp)).trans U4.out (by simp)) (Nat.le_refl _) (by simp)) (((U1.out.trans U2.out (by simp)).trans U3.out (by simp)).trans U4.out (by simp)).size (by decide) (some ⟨w4.heap.size, 0, none⟩) 2 2 [10, 260] J5.out (Nat.le_refl _) (by decide) ex_r3).mono ?_
  rintro e w6 ⟨A3, c3, rfl, i1, u⟩
  have U5 := hide u
  clear u
  have IA3 := hide i1
  clear i1
  go_wp2_with fail
  refine (solve_use (some ⟨b1, 0, none⟩) 4 (exS 300) 340 w6 (Pb1.out.upd ((((U1.out.trans U2.out (by simp)).trans U3.out (by simp)).trans U4.out (by simp)).trans U5.out (by simp)) (Nat.le_refl _) (by simp)) ((((U1.out.trans U2.out (by simp)).trans U3.out (by simp)).trans U4.out (by simp)).trans U5.out (by simp)).size (by decide) ex_r4).mono ?_
  rintro e w7 ⟨A4, c4, rfl, i1, u⟩
  have U6 := hide u
  clear u
  have IA4 := hide i1
  clear i1
  go_wp2_with fail
  refine (blame_use (some ⟨b1, 0, none⟩) 4 (exS 300) 340 w7 (Pb1.out.upd (((((U1.out.trans U2.out (by simp)).trans U3.out (by simp)).trans U4.out (by simp)).trans U5.out (by simp)).trans U6.out (by simp)) (Nat.le_refl _) (by simp)) (((((U1.out.trans U2.out (by simp)).trans U3.out (by simp)).trans U4.out (by simp)).trans U5.out (by simp)).trans U6.out (by simp)).size (by decide) ex_v2 ex_b1).mono ?_
  rintro e w8 ⟨A5, c5, rfl, i1, u⟩
  have U7 := hide u
  clear u
  have IA5 := hide i1
  clear i1
  go_wp2_with fail
  refine (example_any 305 w8).mono ?_
  rintro e w9 ⟨b2, rfl, pc, u⟩
  have U8 := hide u
  clear u
  have Pb2 := hide pc
  clear pc
  go_wp2_with fail
  refine (blame_use (some ⟨b2, 0, none⟩) 4 (exS 305) 340 w9 (Pb2.out.upd (Upd.refl [] w9) (Nat.le_refl _) (by simp)) (Upd.refl [] w9).size (by decide) ex_v3 ex_b2).mono ?_
  rintro e w10 ⟨A6, c6, rfl, i1, u⟩
  have U9 := hide u
  clear u
  have IA6 := hide i1
  clear i1
  go_wp2_with fail
  refine (blame_use (some ⟨b1, 0, none⟩) 4 (exS 300) 330 w10 (Pb1.out.upd ((((((((U1.out.trans U2.out (by simp)).trans U3.out (by simp)).trans U4.out (by simp)).trans U5.out (by simp)).trans U6.out (by simp)).trans U7.out (by simp)).trans U8.out (by simp)).trans U9.out (by simp)) (Nat.le_refl _) (by simp)) ((((((((U1.out.trans U2.out (by simp)).trans U3.out (by simp)).trans U4.out (by simp)).trans U5.out (by simp)).trans U6.out (by simp)).trans U7.out (by simp)).trans U8.out (by simp)).trans U9.out (by simp)).size (by decide) ex_v1 ex_b3).mono ?_
  rintro e w11 ⟨A7, c7, rfl, i1, u⟩
  have U10 := hide u
  clear u
  have IA7 := hide i1
  clear i1
  go_wp2_with fail
  refine (begins_use (some ⟨b1, 0, none⟩) 4 (exS 300) w11 (Pb1.out.upd (((((((((U1.out.trans U2.out (by simp)).trans U3.out (by simp)).trans U4.out (by simp)).trans U5.out (by simp)).trans U6.out (by simp)).trans U7.out (by simp)).trans U8.out (by simp)).trans U9.out (by simp)).trans U10.out (by simp)) (Nat.le_refl _) (by simp)) (((((((((U1.out.trans U2.out (by simp)).trans U3.out (by simp)).trans U4.out (by simp)).trans U5.out (by simp)).trans U6.out (by simp)).trans U7.out (by simp)).trans U8.out (by simp)).trans U9.out (by simp)).trans U10.out (by simp)).size (by decide) ex_v4 2 (by decide) (by decide) ex_g1).mono ?_
  rintro e w12 ⟨A8, c8, rfl, i1, u⟩
  have U11 := hide u
  clear u
  have IA8 := hide i1
  clear i1
  go_wp2_with fail
  obtain ⟨w13, hw⟩ : ∃ x, w12.alloc (.cells #[.int .i64 10, .int .i64 170, .int .i64 120, .int .i64 30] 3) = x := ⟨_, rfl⟩
  have J13 := hide (show Ints w13.heap.size w13 (.slice (some ⟨w12.heap.size, 0, none⟩) 4 4) [10, 170, 120, 30] from by rw [← hw]; exact lit_ints w12 [10, 170, 120, 30])
  have U12 := hide (show Upd [] w12 w13 by rw [← hw]; exact (Upd.refl [] _).alloc _)
  rw [hw]
  clear hw
  have CK := check_use (some ⟨b1, 0, none⟩) 4 (exS 300) 330 w13 (Pb1.out.upd (((((((((((U1.out.trans U2.out (by simp)).trans U3.out (by simp)).trans U4.out (by simp)).trans U5.out (by simp)).trans U6.out (by simp)).trans U7.out (by simp)).trans U8.out (by simp)).trans U9.out (by simp)).trans U10.out (by simp)).trans U11.out (by simp)).trans U12.out (by simp)) (Nat.le_refl _) (by simp)) (((((((((((U1.out.trans U2.out (by simp)).trans U3.out (by simp)).trans U4.out (by simp)).trans U5.out (by simp)).trans U6.out (by simp)).trans U7.out (by simp)).trans U8.out (by simp)).trans U9.out (by simp)).trans U10.out (by simp)).trans U11.out (by simp)).trans U12.out (by simp)).size (by decide) (some ⟨w12.heap.size, 0, none⟩) 4 4 [10, 170, 120, 30] J13.out (Nat.le_refl _) (by decide)
  rw [if_pos ex_c1.1, ex_c1.2] at CK
  refine (CK).mono ?_
  rintro e w14 ⟨rfl, u⟩
  have U13 := hide u
  clear u
  clear CK
  go_wp2_with fail
  obtain ⟨w15, hw⟩ : ∃ x, w14.alloc (.cells #[.int .i64 10, .int .i64 200, .int .i64 60, .int .i64 30] 3) = x := ⟨_, rfl⟩
  have J15 := hide (show Ints w15.heap.size w15 (.slice (some ⟨w14.heap.size, 0, none⟩) 4 4) [10, 200, 60, 30] from by rw [← hw]; exact lit_ints w14 [10, 200, 60, 30])
  have U14 := hide (show Upd [] w14 w15 by rw [← hw]; exact (Upd.refl [] _).alloc _)
  rw [hw]
  clear hw
  have CK := check_use (some ⟨b1, 0, none⟩) 4 (exS 300) 330 w15 (Pb1.out.upd (((((((((((((U1.out.trans U2.out (by simp)).trans U3.out (by simp)).trans U4.out (by simp)).trans U5.out (by simp)).trans U6.out (by simp)).trans U7.out (by simp)).trans U8.out (by simp)).trans U9.out (by simp)).trans U10.out (by simp)).trans U11.out (by simp)).trans U12.out (by simp)).trans U13.out (by simp)).trans U14.out (by simp)) (Nat.le_refl _) (by simp)) (((((((((((((U1.out.trans U2.out (by simp)).trans U3.out (by simp)).trans U4.out (by simp)).trans U5.out (by simp)).trans U6.out (by simp)).trans U7.out (by simp)).trans U8.out (by simp)).trans U9.out (by simp)).trans U10.out (by simp)).trans U11.out (by simp)).trans U12.out (by simp)).trans U13.out (by simp)).trans U14.out (by simp)).size (by decide) (some ⟨w14.heap.size, 0, none⟩) 4 4 [10, 200, 60, 30] J15.out (Nat.le_refl _) (by decide)
  rw [if_neg ex_c2] at CK
  refine (CK).mono ?_
  rintro e w16 ⟨rfl, u⟩
  have U15 := hide u
  clear u
  clear CK
  go_wp2_with fail
  obtain ⟨w17, hw⟩ : ∃ x, w16.alloc (.cells #[.int .i64 10, .int .i64 200, .int .i64 90, .int .i64 30] 3) = x := ⟨_, rfl⟩
  have J17 := hide (show Ints w17.heap.size w17 (.slice (some ⟨w16.heap.size, 0, none⟩) 4 4) [10, 200, 90, 30] from by rw [← hw]; exact lit_ints w16 [10, 200, 90, 30])
  have U16 := hide (show Upd [] w16 w17 by rw [← hw]; exact (Upd.refl [] _).alloc _)
  rw [hw]
  clear hw
  refine (ints_yes A1 4 c1 [10, 200, 90, 30] (some ⟨w16.heap.size, 0, none⟩) 4 4 w17 (IA1.out.upd ((((((((((((((U2.out.trans U3.out (by simp)).trans U4.out (by simp)).trans U5.out (by simp)).trans U6.out (by simp)).trans U7.out (by simp)).trans U8.out (by simp)).trans U9.out (by simp)).trans U10.out (by simp)).trans U11.out (by simp)).trans U12.out (by simp)).trans U13.out (by simp)).trans U14.out (by simp)).trans U15.out (by simp)).trans U16.out (by simp)) (Nat.le_refl _) (by simp)) J17.out ((((((((((((((U2.out.trans U3.out (by simp)).trans U4.out (by simp)).trans U5.out (by simp)).trans U6.out (by simp)).trans U7.out (by simp)).trans U8.out (by simp)).trans U9.out (by simp)).trans U10.out (by simp)).trans U11.out (by simp)).trans U12.out (by simp)).trans U13.out (by simp)).trans U14.out (by simp)).trans U15.out (by simp)).trans U16.out (by simp)).size (Nat.le_refl _) (by decide)).mono ?_
  rintro e w18 ⟨rfl, u⟩
  have U17 := hide u
  clear u
  go_wp2_with fail
  obtain ⟨w19, hw⟩ : ∃ x, w18.alloc (.cells #[.int .i64 60, .int .i64 30] 3) = x := ⟨_, rfl⟩
  have J19 := hide (show Ints w19.heap.size w19 (.slice (some ⟨w18.heap.size, 0, none⟩) 2 2) [60, 30] from by rw [← hw]; exact lit_ints w18 [60, 30])
  have U18 := hide (show Upd [] w18 w19 by rw [← hw]; exact (Upd.refl [] _).alloc _)
  rw [hw]
  clear hw
  refine (ints_yes A2 2 c2 [60, 30] (some ⟨w18.heap.size, 0, none⟩) 2 2 w19 (IA2.out.upd ((((((((((((((U4.out.trans U5.out (by simp)).trans U6.out (by simp)).trans U7.out (by simp)).trans U8.out (by simp)).trans U9.out (by simp)).trans U10.out (by simp)).trans U11.out (by simp)).trans U12.out (by simp)).trans U13.out (by simp)).trans U14.out (by simp)).trans U15.out (by simp)).trans U16.out (by simp)).trans U17.out (by simp)).trans U18.out (by simp)) (Nat.le_refl _) (by simp)) J19.out ((((((((((((((U4.out.trans U5.out (by simp)).trans U6.out (by simp)).trans U7.out (by simp)).trans U8.out (by simp)).trans U9.out (by simp)).trans U10.out (by simp)).trans U11.out (by simp)).trans U12.out (by simp)).trans U13.out (by simp)).trans U14.out (by simp)).trans U15.out (by simp)).trans U16.out (by simp)).trans U17.out (by simp)).trans U18.out (by simp)).size (Nat.le_refl _) (by decide)).mono ?_
  rintro e w20 ⟨rfl, u⟩
  have U19 := hide u
  clear u
  go_wp2_with fail
  obtain ⟨w21, hw⟩ : ∃ x, w20.alloc (.cells #[.int .i64 330] 3) = x := ⟨_, rfl⟩
  have J21 := hide (show Ints w21.heap.size w21 (.slice (some ⟨w20.heap.size, 0, none⟩) 1 1) [330] from by rw [← hw]; exact lit_ints w20 [330])
  have U20 := hide (show Upd [] w20 w21 by rw [← hw]; exact (Upd.refl [] _).alloc _)
  rw [hw]
  clear hw
  refine (ints_yes A5 1 c5 [330] (some ⟨w20.heap.size, 0, none⟩) 1 1 w21 (IA5.out.upd ((((((((((((U8.out.trans U9.out (by simp)).trans U10.out (by simp)).trans U11.out (by simp)).trans U12.out (by simp)).trans U13.out (by simp)).trans U14.out (by simp)).trans U15.out (by simp)).trans U16.out (by simp)).trans U17.out (by simp)).trans U18.out (by simp)).trans U19.out (by simp)).trans U20.out (by simp)) (Nat.le_refl _) (by simp)) J21.out ((((((((((((U8.out.trans U9.out (by simp)).trans U10.out (by simp)).trans U11.out (by simp)).trans U12.out (by simp)).trans U13.out (by simp)).trans U14.out (by simp)).trans U15.out (by simp)).trans U16.out (by simp)).trans U17.out (by simp)).trans U18.out (by simp)).trans U19.out (by simp)).trans U20.out (by simp)).size (Nat.le_refl _) (by decide)).mono ?_
  rintro e w22 ⟨rfl, u⟩
  have U21 := hide u
  clear u
  go_wp2_with fail
  obtain ⟨w23, hw⟩ : ∃ x, w22.alloc (.cells #[.int .i64 240, .int .i64 270, .int .i64 300, .int .i64 330] 3) = x := ⟨_, rfl⟩
  have J23 := hide (show Ints w23.heap.size w23 (.slice (some ⟨w22.heap.size, 0, none⟩) 4 4) [240, 270, 300, 330] from by rw [← hw]; exact lit_ints w22 [240, 270, 300, 330])
  have U22 := hide (show Upd [] w22 w23 by rw [← hw]; exact (Upd.refl [] _).alloc _)
  rw [hw]
  clear hw
  refine (ints_yes A6 4 c6 [240, 270, 300, 330] (some ⟨w22.heap.size, 0, none⟩) 4 4 w23 (IA6.out.upd ((((((((((((U10.out.trans U11.out (by simp)).trans U12.out (by simp)).trans U13.out (by simp)).trans U14.out (by simp)).trans U15.out (by simp)).trans U16.out (by simp)).trans U17.out (by simp)).trans U18.out (by simp)).trans U19.out (by simp)).trans U20.out (by simp)).trans U21.out (by simp)).trans U22.out (by simp)) (Nat.le_refl _) (by simp)) J23.out ((((((((((((U10.out.trans U11.out (by simp)).trans U12.out (by simp)).trans U13.out (by simp)).trans U14.out (by simp)).trans U15.out (by simp)).trans U16.out (by simp)).trans U17.out (by simp)).trans U18.out (by simp)).trans U19.out (by simp)).trans U20.out (by simp)).trans U21.out (by simp)).trans U22.out (by simp)).size (Nat.le_refl _) (by decide)).mono ?_
  rintro e w24 ⟨rfl, u⟩
  have U23 := hide u
  clear u
  go_wp2_with fail
  obtain ⟨w25, hw⟩ : ∃ x, w24.alloc (.cells #[.int .i64 180, .int .i64 210] 3) = x := ⟨_, rfl⟩
  have J25 := hide (show Ints w25.heap.size w25 (.slice (some ⟨w24.heap.size, 0, none⟩) 2 2) [180, 210] from by rw [← hw]; exact lit_ints w24 [180, 210])
  have U24 := hide (show Upd [] w24 w25 by rw [← hw]; exact (Upd.refl [] _).alloc _)
  rw [hw]
  clear hw
  refine (ints_yes A8 2 c8 [180, 210] (some ⟨w24.heap.size, 0, none⟩) 2 2 w25 (IA8.out.upd ((((((((((((U12.out.trans U13.out (by simp)).trans U14.out (by simp)).trans U15.out (by simp)).trans U16.out (by simp)).trans U17.out (by simp)).trans U18.out (by simp)).trans U19.out (by simp)).trans U20.out (by simp)).trans U21.out (by simp)).trans U22.out (by simp)).trans U23.out (by simp)).trans U24.out (by simp)) (Nat.le_refl _) (by simp)) J25.out ((((((((((((U12.out.trans U13.out (by simp)).trans U14.out (by simp)).trans U15.out (by simp)).trans U16.out (by simp)).trans U17.out (by simp)).trans U18.out (by simp)).trans U19.out (by simp)).trans U20.out (by simp)).trans U21.out (by simp)).trans U22.out (by simp)).trans U23.out (by simp)).trans U24.out (by simp)).size (Nat.le_refl _) (by decide)).mono ?_
  rintro e w26 ⟨rfl, u⟩
  have U25 := hide u
  clear u
  go_wp2_with fail
  have VK := valid_any (some ⟨b1, 0, none⟩) 4 (exS 300) 330 w26 (Pb1.out.upd ((((((((((((((((((((((((U1.out.trans U2.out (by simp)).trans U3.out (by simp)).trans U4.out (by simp)).trans U5.out (by simp)).trans U6.out (by simp)).trans U7.out (by simp)).trans U8.out (by simp)).trans U9.out (by simp)).trans U10.out (by simp)).trans U11.out (by simp)).trans U12.out (by simp)).trans U13.out (by simp)).trans U14.out (by simp)).trans U15.out (by simp)).trans U16.out (by simp)).trans U17.out (by simp)).trans U18.out (by simp)).trans U19.out (by simp)).trans U20.out (by simp)).trans U21.out (by simp)).trans U22.out (by simp)).trans U23.out (by simp)).trans U24.out (by simp)).trans U25.out (by simp)) (Nat.le_refl _) (by simp)) ((((((((((((((((((((((((U1.out.trans U2.out (by simp)).trans U3.out (by simp)).trans U4.out (by simp)).trans U5.out (by simp)).trans U6.out (by simp)).trans U7.out (by simp)).trans U8.out (by simp)).trans U9.out (by simp)).trans U10.out (by simp)).trans U11.out (by simp)).trans U12.out (by simp)).trans U13.out (by simp)).trans U14.out (by simp)).trans U15.out (by simp)).trans U16.out (by simp)).trans U17.out (by simp)).trans U18.out (by simp)).trans U19.out (by simp)).trans U20.out (by simp)).trans U21.out (by simp)).trans U22.out (by simp)).trans U23.out (by simp)).trans U24.out (by simp)).trans U25.out (by simp)).size (by decide)
  rw [decide_eq_true ex_v1] at VK
  refine (VK).mono ?_
  rintro e w27 ⟨rfl, u⟩
  have U26 := hide u
  clear u
  clear VK
  go_wp2_with fail
  have VK := valid_any (some ⟨b1, 0, none⟩) 4 (exS 300) 3601 w27 (Pb1.out.upd (((((((((((((((((((((((((U1.out.trans U2.out (by simp)).trans U3.out (by simp)).trans U4.out (by simp)).trans U5.out (by simp)).trans U6.out (by simp)).trans U7.out (by simp)).trans U8.out (by simp)).trans U9.out (by simp)).trans U10.out (by simp)).trans U11.out (by simp)).trans U12.out (by simp)).trans U13.out (by simp)).trans U14.out (by simp)).trans U15.out (by simp)).trans U16.out (by simp)).trans U17.out (by simp)).trans U18.out (by simp)).trans U19.out (by simp)).trans U20.out (by simp)).trans U21.out (by simp)).trans U22.out (by simp)).trans U23.out (by simp)).trans U24.out (by simp)).trans U25.out (by simp)).trans U26.out (by simp)) (Nat.le_refl _) (by simp)) (((((((((((((((((((((((((U1.out.trans U2.out (by simp)).trans U3.out (by simp)).trans U4.out (by simp)).trans U5.out (by simp)).trans U6.out (by simp)).trans U7.out (by simp)).trans U8.out (by simp)).trans U9.out (by simp)).trans U10.out (by simp)).trans U11.out (by simp)).trans U12.out (by simp)).trans U13.out (by simp)).trans U14.out (by simp)).trans U15.out (by simp)).trans U16.out (by simp)).trans U17.out (by simp)).trans U18.out (by simp)).trans U19.out (by simp)).trans U20.out (by simp)).trans U21.out (by simp)).trans U22.out (by simp)).trans U23.out (by simp)).trans U24.out (by simp)).trans U25.out (by simp)).trans U26.out (by simp)).size (by decide)
  rw [decide_eq_false ex_v5] at VK
  refine (VK).mono ?_
  rintro e w28 ⟨rfl, u⟩
  have U27 := hide u
  clear u
  clear VK
  go_wp2_with fail
  go_ret
  exact ⟨rfl, (((((((((((((((((((((((((((U0.out.trans U1.out (by simp)).trans U2.out (by simp)).trans U3.out (by simp)).trans U4.out (by simp)).trans U5.out (by simp)).trans U6.out (by simp)).trans U7.out (by simp)).trans U8.out (by simp)).trans U9.out (by simp)).trans U10.out (by simp)).trans U11.out (by simp)).trans U12.out (by simp)).trans U13.out (by simp)).trans U14.out (by simp)).trans U15.out (by simp)).trans U16.out (by simp)).trans U17.out (by simp)).trans U18.out (by simp)).trans U19.out (by simp)).trans U20.out (by simp)).trans U21.out (by simp)).trans U22.out (by simp)).trans U23.out (by simp)).trans U24.out (by simp)).trans U25.out (by simp)).trans U26.out (by simp)).trans U27.out (by simp))⟩
end Go.Proofs.Yteehjciepccomaa
