/-
  airchecklaw34.sane: the example.
-/
import Derived.Test.YtafjolibfbccbaaGreatDoorKSane
namespace Go.Proofs.YtafjolibfbccbaaGreatDoor
open Go.RowKit
set_option maxRecDepth 100000
set_option maxHeartbeats 4000000

theorem sane_any {ks : List Int} {a0 : Addr} (w : World) (hl : Laid w.heap.size ks a0 w) : Calls Tryz.prog 8 #[] w fun e w' => e = .returned (.bool true) ∧ Below w.heap.size w w' := by
  have HL := hide hl
  clear hl
  go_enter Tryz.func8, Tryz.ntmps8
  go_wp2_with fail
  refine (new_in 200 w.heap.size w _ (Below.refl _ _) (Nat.le_refl _) [] (by simp) (by omega) (by omega)).mono ?_
  rintro e w1 ⟨g, rfl, d0, _, _⟩
  have C1 := open_in HL.out d0 (by decide)
  rw [k0] at C1
  have HC := hide C1
  clear d0 C1
  go_wp2_with fail
  refine HC.out.mono ?_
  rintro e w2 ⟨_, hj⟩
  try simp only at hj
  obtain ⟨jb, rfl, hj⟩ := hj
  have HJ := hide hj
  have HRE := hide (records_in hj (by have := recs_le ks [] (by decide); omega))
  rw [tapeOf_recs] at HRE
  clear hj HC
  go_wp2_with fail
  refine HRE.out.mono ?_
  rintro e w3 ⟨A3, c3, rfl, _, u⟩
  replace HJ := hide (HJ.out.step u (by simp))
  clear u HRE
  have HRO := hide (room_in HJ.out (size_le ks 200 [] (by decide)))
  rw [room_of ks 200 [] (by decide)] at HRO
  rw [show ((200 - lenL [] : Nat) : Int) = 200 from rfl] at HRO
  simp only [List.length_nil]
  go_wp2_with fail
  refine HRO.out.mono ?_
  rintro e w4 ⟨rfl, u⟩
  replace HJ := hide (HJ.out.step u (by simp))
  clear u HRO
  go_wp2_with fail
  replace HJ := hide (HJ.out.step ((Upd.refl [] w4).alloc (.cells #[.string ⟨#[97, 98]⟩, .string ⟨#[]⟩] 9)) (by simp))
  have C1 := append_in (some ⟨w4.heap.size, 0, none⟩) 2 2 R1 HL.out HJ.out rfl (by decide) (strs_new w4 R1) (by decide) (by simp [diskOf]) (size_le ks 200 _ (by first | (rw [lenL_1]; decide) | (rw [lenL_nil]; decide))) (by rw [tapeOf_head]; decide) (recs_le ks _ (by decide))
  rw [k1 ks] at C1
  have HC := hide C1
  clear C1
  refine HC.out.mono ?_
  rintro e w5 ⟨rfl, hj, _⟩
  replace HJ := hide hj
  clear hj HC
  obtain ⟨wm, hwm⟩ : ∃ x, w5.alloc (.cells (bCells (List.replicate 96 0)).toArray 5) = x := ⟨_, rfl⟩
  have u : Upd [] w5 wm := by rw [← hwm]; exact (Upd.refl [] _).alloc _
  have hm := make_bytes 96 (by decide) w5
  rw [hwm, show ((96 : Nat) : Int) = 96 from rfl] at hm
  have hcv := conv_zeros wm 96 w5.heap.size (by rw [← hwm]; exact Blk.new w5 _ _)
  replace HJ := hide (HJ.out.step (u.alloc (.cells #[.string (zs 96)] 9)) (by simp))
  clear hwm u
  go_wp2_with fail
  clear hm hcv
  have C1 := append_in (some ⟨wm.heap.size, 0, none⟩) 1 1 [zs 96] HL.out HJ.out rfl (by decide) (strs_new wm [zs 96]) (by simp [zs_size]) (by simp [diskOf]) (size_le ks 200 _ (by first | (rw [lenL_1]; decide) | (rw [lenL_nil]; decide))) (by rw [tapeOf_head]; decide) (recs_le ks _ (by decide))
  rw [k2 ks] at C1
  have HC := hide C1
  clear C1
  refine HC.out.mono ?_
  rintro e w6 ⟨rfl, hj, _⟩
  replace HJ := hide hj
  clear hj HC
  have HRO := hide (room_in HJ.out (size_le ks 200 L1 (by rw [lenL_1]; decide)))
  rw [room_of ks 200 L1 (by rw [lenL_1]; decide), lenL_1] at HRO
  rw [show ((200 - 70 : Nat) : Int) = 130 from rfl] at HRO
  go_wp2_with fail
  refine HRO.out.mono ?_
  rintro e w7 ⟨rfl, u⟩
  replace HJ := hide (HJ.out.step u (by simp))
  clear u HRO
  obtain ⟨wm, hwm⟩ : ∃ x, w7.alloc (.cells (bCells (List.replicate 95 0)).toArray 5) = x := ⟨_, rfl⟩
  have u : Upd [] w7 wm := by rw [← hwm]; exact (Upd.refl [] _).alloc _
  have hm := make_bytes 95 (by decide) w7
  rw [hwm, show ((95 : Nat) : Int) = 95 from rfl] at hm
  have hcv := conv_zeros wm 95 w7.heap.size (by rw [← hwm]; exact Blk.new w7 _ _)
  replace HJ := hide (HJ.out.step (u.alloc (.cells #[.string (zs 95)] 9)) (by simp))
  clear hwm u
  go_wp2_with fail
  clear hm hcv
  have C1 := append_in (some ⟨wm.heap.size, 0, none⟩) 1 1 [zs 95] HL.out HJ.out rfl (by decide) (strs_new wm [zs 95]) (by simp [zs_size]) (by simp [diskOf]) (size_le ks 200 _ (by first | (rw [lenL_1]; decide) | (rw [lenL_nil]; decide))) (by rw [tapeOf_head]; decide) (recs_le ks _ (by decide))
  rw [k3 ks] at C1
  have HC := hide C1
  clear C1
  refine HC.out.mono ?_
  rintro e w8 ⟨rfl, hj, _⟩
  replace HJ := hide hj
  clear hj HC
  have C1 := reopen_in HL.out HJ.out (by simp [diskOf])
  rw [k4] at C1
  have HC := hide C1
  clear C1
  go_wp2_with fail
  refine HC.out.mono ?_
  rintro e w9 ⟨_, _, hj⟩
  try simp only at hj
  obtain ⟨jc, A, c, rfl, ht, hj⟩ := hj
  replace HJ := hide hj
  have HT := hide ht
  clear hj ht HC
  go_wp2_with fail
  obtain ⟨D, hw1, hw2, hw3, hw4⟩ := k5 ks
  have C1 := jwrite_in (0 : Int) ⟨#[2]⟩ HJ.out (by simp [diskOf])
  rw [hw1] at C1
  have HC := hide C1
  have HW2 := hide hw2
  have HW3 := hide hw3
  have HW4 := hide hw4
  clear C1 hw1 hw2 hw3 hw4
  refine HC.out.mono ?_
  rintro e w10 ⟨rfl, hj, hsm⟩
  replace HJ := hide hj
  replace HT := hide (tape_same HT.out (hsm.mono (fun x hx => List.mem_append_left _ hx)))
  clear hj hsm HC
  have C1 := reopen_in HL.out HJ.out (by rw [HW4.out]; decide)
  rw [HW2.out] at C1
  have HC := hide C1
  clear C1
  go_wp2_with fail
  refine HC.out.mono ?_
  rintro e w11 ⟨hsm, hj, rfl⟩
  replace HJ := hide hj
  replace HT := hide (tape_same HT.out (hsm.mono (fun x hx => List.mem_append_left _ hx)))
  clear hj hsm HC
  have HON := hide (open_nil w11)
  go_wp2_with fail
  refine HON.out.mono ?_
  rintro e w' ⟨rfl, rfl⟩
  clear HON
  have HRO := hide (room_in HJ.out (by rw [HW3.out, tapeOf_size, bytesOf_length, lenL_2]; decide))
  rw [HW3.out, tapeOf_size, bytesOf_length, lenL_2] at HRO
  rw [show ((200 - 200 : Nat) : Int) = 0 from rfl] at HRO
  go_wp2_with fail
  refine HRO.out.mono ?_
  rintro e w12 ⟨rfl, u⟩
  replace HJ := hide (HJ.out.step u (by simp))
  replace HT := hide (HT.out.upd0 u)
  clear u HRO
  have HRE := hide (records_any _ _ _ _ _ _ _ w12 HT.out (by have := recs_le ks L2 (by decide); omega))
  rw [tapeOf_recs] at HRE
  go_wp2_with fail
  refine HRE.out.mono ?_
  rintro e w13 ⟨A3, c3, rfl, _, u⟩
  replace HJ := hide (HJ.out.step u (by simp))
  replace HT := hide (HT.out.upd0 u)
  clear u HRE
  simp only [show L2.length = 3 from rfl]
  have HRE := hide (records_any _ _ _ _ _ _ _ w13 HT.out (by have := recs_le ks L2 (by decide); omega))
  rw [tapeOf_recs] at HRE
  go_wp2_with fail
  refine HRE.out.mono ?_
  rintro e w14 ⟨A4, c4, rfl, ho, u⟩
  replace HJ := hide (HJ.out.step u (by simp))
  clear u HRE
  obtain ⟨b, o, rfl, hc⟩ := strs_own ho 0 ⟨#[97, 98]⟩ rfl
  have hc0 : w14.cell? ⟨b, o, none⟩ = some (.string ⟨#[97, 98]⟩) := hc
  clear hc ho
  simp only [show L2.length = 3 from rfl]
  go_wp2_with fail
  go_ret
  exact ⟨rfl, HJ.out.below⟩
end Go.Proofs.YtafjolibfbccbaaGreatDoor
