/-
  sane: the chapter's examples hold.
-/
import Derived.Test.YtpkeimdlcafcnaaIEx
import Derived.Deep.CutBlock
namespace Go.Proofs.Ytpkeimdlcafcnaa
open Go.RowKit
set_option maxRecDepth 100000
set_option maxHeartbeats 40000000

theorem keepI {W W' : World} {v : Value} {zs : List Int} (h : Ints W.heap.size W v zs) (hu : Upd [] W W') : Ints W'.heap.size W' v zs := (ints_upd h hu (Nat.le_refl _) (by simp)).mono hu.size
theorem keepS {W W' : World} {a : Option Addr} {l : List Sp} (h : SpsAt W.heap.size W a l) (hu : Upd [] W W') : SpsAt W'.heap.size W' a l := (h.upd hu (Nat.le_refl _) (by simp)).mono hu.size
theorem example_any (w : World) : Calls Try.prog 38 #[] w fun e w' => ∃ ta ka, e = .returned (.agg #[.int .i64 3, .int .i64 1, .int .i64 200, .slice ta 2 2, .slice ka 2 2, .int .i64 7, .int .i64 3, .int .i64 2]) ∧ ItAt w' exS ta ka ∧ Upd [] w w' := by
  go_enter Try.func38, Try.ntmps38
  go_wp2_with fail
  obtain ⟨wa, hwa⟩ : ∃ x, w.alloc (.cells #[.int .i64 3, .int .i64 1, .int .i64 200, .slice (some ⟨w.heap.size + 1, 0, none⟩) 2 2, .slice (some ⟨w.heap.size + 1 + 1, 0, none⟩) 2 2, .int .i64 7, .int .i64 3, .int .i64 2] 24) = x := ⟨_, rfl⟩
  have B : Blk wa w.heap.size 24 [.int .i64 3, .int .i64 1, .int .i64 200, .slice (some ⟨w.heap.size + 1, 0, none⟩) 2 2, .slice (some ⟨w.heap.size + 1 + 1, 0, none⟩) 2 2, .int .i64 7, .int .i64 3, .int .i64 2] := by rw [← hwa]; exact Blk.new w _ _
  have ua : Upd [] w wa := by rw [← hwa]; exact (Upd.refl [] _).alloc _
  have hza : wa.heap.size = w.heap.size + 1 := by rw [← hwa]; simp
  rw [hwa]
  clear hwa
  obtain ⟨wb, hwb⟩ : ∃ x, wa.alloc (.cells #[.int .i64 10, .int .i64 30, .int .i64 150, .int .i64 180] 53) = x := ⟨_, rfl⟩
  have sb : SpsAt wb.heap.size wb (some ⟨w.heap.size + 1, 0, none⟩) exS.trims := by rw [← hwb, ← hza]; exact lit_sps wa exS.trims
  have ub : Upd [] wa wb := by rw [← hwb]; exact (Upd.refl [] _).alloc _
  have hzb : wb.heap.size = w.heap.size + 1 + 1 := by rw [← hwb, ← hza]; simp
  rw [hwb]
  clear hwb
  obtain ⟨wc, hwc⟩ : ∃ x, wb.alloc (.cells #[.int .i64 0, .int .i64 15, .int .i64 170, .int .i64 200] 53) = x := ⟨_, rfl⟩
  have sc : SpsAt wc.heap.size wc (some ⟨w.heap.size + 1 + 1, 0, none⟩) exS.talks := by rw [← hwc, ← hzb]; exact lit_sps wb exS.talks
  have uc : Upd [] wb wc := by rw [← hwc]; exact (Upd.refl [] _).alloc _
  rw [hwc]
  clear hwc
  have Bc := (B.upd ub (by simp)).upd uc (by simp)
  have v0 := Bc.cell 0
  have v1 := Bc.cell 1
  have v2 := Bc.cell 2
  have v3 := Bc.cell 3
  have v4 := Bc.cell 4
  have v5 := Bc.cell 5
  have v6 := Bc.cell 6
  have v7 := Bc.cell 7
  refine bodyPost_ret (v := .agg #[.int .i64 3, .int .i64 1, .int .i64 200, .slice (some ⟨w.heap.size + 1, 0, none⟩) 2 2, .slice (some ⟨w.heap.size + 1 + 1, 0, none⟩) 2 2, .int .i64 7, .int .i64 3, .int .i64 2]) (by simp [results, Try.results38, go_sem, v0, v1, v2, v3, v4, v5, v6, v7]) rfl ⟨_, _, rfl, ⟨keepS sb uc, sc⟩, (ua.trans ub (by simp)).trans uc (by simp)⟩
theorem sane_any (w0 : World) : Calls Try.prog 9 #[] w0 fun e w' => e = .returned (.bool true) ∧ Upd [] w0 w' := by
  go_enter Try.func9, Try.ntmps9
  -- example
  go_wp2_with fail
  refine (example_any w0).mono ?_
  rintro e w1 ⟨ta, ka, rfl, it, u⟩
  have IT := hide it
  have UU := hide u
  clear it u
  obtain ⟨w2, hw⟩ : ∃ x, w1.alloc (.cells #[.int .i64 3, .int .i64 1, .int .i64 200, .slice ta 2 2, .slice ka 2 2, .int .i64 7, .int .i64 3, .int .i64 2] 24) = x := ⟨_, rfl⟩
  have u : Upd [] w1 w2 := by rw [← hw]; exact (Upd.refl [] _).alloc _
  have BL2 := hide (show Blk w2 w1.heap.size 24 [.int .i64 3, .int .i64 1, .int .i64 200, .slice ta 2 2, .slice ka 2 2, .int .i64 7, .int .i64 3, .int .i64 2] by rw [← hw]; exact Blk.new w1 _ _)
  have IT2 := hide (IT.out.upd u)
  have UU2 := hide (UU.out.trans u (by simp))
  have HW := hide hw
  clear hw u
  have f0 := fun (W : World) => True.intro
  clear f0
  go_upto_region 2 with fail
  rw [HW.out]
  have k0 := BL2.out.cell 0
  have k1 := BL2.out.cell 1
  have k2 := BL2.out.cell 2
  have k3 := BL2.out.cell 3
  have k4 := BL2.out.cell 4
  have k5 := BL2.out.cell 5
  have k6 := BL2.out.cell 6
  have k7 := BL2.out.cell 7
  have hlt := BL2.out.lt
  go_wp2_with fail
  refine (use_lengths (i := exS) IT2.out exOk 2 2 _ ex_lengths).mono ?_
  rintro e w3 ⟨la, lc, rfl, il, u⟩
  have BL3 := hide (BL2.out.upd u (by simp))
  have IT3 := hide (IT2.out.upd u)
  have UU3 := hide (UU2.out.trans u (by simp))
  have L1 := hide il
  clear il
  clear u
  clear k0 k1 k2 k3 k4 k5 k6 k7 hlt
  have k0 := BL3.out.cell 0
  have k1 := BL3.out.cell 1
  have k2 := BL3.out.cell 2
  have k3 := BL3.out.cell 3
  have k4 := BL3.out.cell 4
  have k5 := BL3.out.cell 5
  have k6 := BL3.out.cell 6
  have k7 := BL3.out.cell 7
  have hlt := BL3.out.lt
  go_wp2_with fail
  obtain ⟨w4, hw⟩ : ∃ x, w3.alloc (.cells #[.int .i64 0, .int .i64 1] 3) = x := ⟨_, rfl⟩
  have u : Upd [] w3 w4 := by rw [← hw]; exact (Upd.refl [] _).alloc _
  have J4 := hide (show Ints w4.heap.size w4 (.slice (some ⟨w3.heap.size, 0, none⟩) 2 2) [0, 1] by rw [← hw]; exact it_lit_ints w3 [0, 1] 2 rfl)
  have BL4 := hide (BL3.out.upd u (by simp))
  have IT4 := hide (IT3.out.upd u)
  have UU4 := hide (UU3.out.trans u (by simp))
  have L1 := hide (keepI L1.out u)
  rw [hw]
  clear hw u
  clear k0 k1 k2 k3 k4 k5 k6 k7 hlt
  have k0 := BL4.out.cell 0
  have k1 := BL4.out.cell 1
  have k2 := BL4.out.cell 2
  have k3 := BL4.out.cell 3
  have k4 := BL4.out.cell 4
  have k5 := BL4.out.cell 5
  have k6 := BL4.out.cell 6
  have k7 := BL4.out.cell 7
  have hlt := BL4.out.lt
  refine (use_length (i := exS) IT4.out exOk 2 2 (some ⟨w3.heap.size, 0, none⟩) 2 2 [0, 1] J4.out (by decide) 150 (by decide)).mono ?_
  rintro e w5 ⟨rfl, u⟩
  have BL5 := hide (BL4.out.upd u (by simp))
  have IT5 := hide (IT4.out.upd u)
  have UU5 := hide (UU4.out.trans u (by simp))
  have L1 := hide (keepI L1.out u)
  clear u
  clear k0 k1 k2 k3 k4 k5 k6 k7 hlt
  have k0 := BL5.out.cell 0
  have k1 := BL5.out.cell 1
  have k2 := BL5.out.cell 2
  have k3 := BL5.out.cell 3
  have k4 := BL5.out.cell 4
  have k5 := BL5.out.cell 5
  have k6 := BL5.out.cell 6
  have k7 := BL5.out.cell 7
  have hlt := BL5.out.lt
  go_wp2_with fail
  refine (use_cut (i := exS) IT5.out exOk 2 2 170 [1] ex_best1).mono ?_
  rintro e w6 ⟨ca, cc, rfl, ic, u⟩
  have BL6 := hide (BL5.out.upd u (by simp))
  have IT6 := hide (IT5.out.upd u)
  have UU6 := hide (UU5.out.trans u (by simp))
  have L2 := hide ic
  clear ic
  have L1 := hide (keepI L1.out u)
  clear u
  clear k0 k1 k2 k3 k4 k5 k6 k7 hlt
  have k0 := BL6.out.cell 0
  have k1 := BL6.out.cell 1
  have k2 := BL6.out.cell 2
  have k3 := BL6.out.cell 3
  have k4 := BL6.out.cell 4
  have k5 := BL6.out.cell 5
  have k6 := BL6.out.cell 6
  have k7 := BL6.out.cell 7
  have hlt := BL6.out.lt
  go_wp2_with fail
  refine (use_nocut (i := exS) IT6.out exOk 2 2 160 ex_best2).mono ?_
  rintro e w7 ⟨rfl, u⟩
  have BL7 := hide (BL6.out.upd u (by simp))
  have IT7 := hide (IT6.out.upd u)
  have UU7 := hide (UU6.out.trans u (by simp))
  have L1 := hide (keepI L1.out u)
  have L2 := hide (keepI L2.out u)
  clear u
  clear k0 k1 k2 k3 k4 k5 k6 k7 hlt
  have k0 := BL7.out.cell 0
  have k1 := BL7.out.cell 1
  have k2 := BL7.out.cell 2
  have k3 := BL7.out.cell 3
  have k4 := BL7.out.cell 4
  have k5 := BL7.out.cell 5
  have k6 := BL7.out.cell 6
  have k7 := BL7.out.cell 7
  have hlt := BL7.out.lt
  go_wp2_with fail
  obtain ⟨w8, hw⟩ : ∃ x, w7.alloc (.cells #[.int .i64 0] 3) = x := ⟨_, rfl⟩
  have u : Upd [] w7 w8 := by rw [← hw]; exact (Upd.refl [] _).alloc _
  have J8 := hide (show Ints w8.heap.size w8 (.slice (some ⟨w7.heap.size, 0, none⟩) 1 1) [0] by rw [← hw]; exact it_lit_ints w7 [0] 1 rfl)
  have BL8 := hide (BL7.out.upd u (by simp))
  have IT8 := hide (IT7.out.upd u)
  have UU8 := hide (UU7.out.trans u (by simp))
  have L1 := hide (keepI L1.out u)
  have L2 := hide (keepI L2.out u)
  rw [hw]
  clear hw u
  clear k0 k1 k2 k3 k4 k5 k6 k7 hlt
  have k0 := BL8.out.cell 0
  have k1 := BL8.out.cell 1
  have k2 := BL8.out.cell 2
  have k3 := BL8.out.cell 3
  have k4 := BL8.out.cell 4
  have k5 := BL8.out.cell 5
  have k6 := BL8.out.cell 6
  have k7 := BL8.out.cell 7
  have hlt := BL8.out.lt
  refine (use_place (i := exS) IT8.out exOk 2 2 (some ⟨w7.heap.size, 0, none⟩) 1 1 [0] J8.out (by decide) 9 (9) (by decide) (by decide) (by decide)).mono ?_
  rintro e w9 ⟨rfl, u⟩
  have BL9 := hide (BL8.out.upd u (by simp))
  have IT9 := hide (IT8.out.upd u)
  have UU9 := hide (UU8.out.trans u (by simp))
  have L1 := hide (keepI L1.out u)
  have L2 := hide (keepI L2.out u)
  clear u
  clear k0 k1 k2 k3 k4 k5 k6 k7 hlt
  have k0 := BL9.out.cell 0
  have k1 := BL9.out.cell 1
  have k2 := BL9.out.cell 2
  have k3 := BL9.out.cell 3
  have k4 := BL9.out.cell 4
  have k5 := BL9.out.cell 5
  have k6 := BL9.out.cell 6
  have k7 := BL9.out.cell 7
  have hlt := BL9.out.lt
  go_wp2_with fail
  obtain ⟨w10, hw⟩ : ∃ x, w9.alloc (.cells #[.int .i64 0] 3) = x := ⟨_, rfl⟩
  have u : Upd [] w9 w10 := by rw [← hw]; exact (Upd.refl [] _).alloc _
  have J10 := hide (show Ints w10.heap.size w10 (.slice (some ⟨w9.heap.size, 0, none⟩) 1 1) [0] by rw [← hw]; exact it_lit_ints w9 [0] 1 rfl)
  have BL10 := hide (BL9.out.upd u (by simp))
  have IT10 := hide (IT9.out.upd u)
  have UU10 := hide (UU9.out.trans u (by simp))
  have L1 := hide (keepI L1.out u)
  have L2 := hide (keepI L2.out u)
  rw [hw]
  clear hw u
  clear k0 k1 k2 k3 k4 k5 k6 k7 hlt
  have k0 := BL10.out.cell 0
  have k1 := BL10.out.cell 1
  have k2 := BL10.out.cell 2
  have k3 := BL10.out.cell 3
  have k4 := BL10.out.cell 4
  have k5 := BL10.out.cell 5
  have k6 := BL10.out.cell 6
  have k7 := BL10.out.cell 7
  have hlt := BL10.out.lt
  refine (use_place (i := exS) IT10.out exOk 2 2 (some ⟨w9.heap.size, 0, none⟩) 1 1 [0] J10.out (by decide) 10 (30) (by decide) (by decide) (by decide)).mono ?_
  rintro e w11 ⟨rfl, u⟩
  have BL11 := hide (BL10.out.upd u (by simp))
  have IT11 := hide (IT10.out.upd u)
  have UU11 := hide (UU10.out.trans u (by simp))
  have L1 := hide (keepI L1.out u)
  have L2 := hide (keepI L2.out u)
  clear u
  clear k0 k1 k2 k3 k4 k5 k6 k7 hlt
  have k0 := BL11.out.cell 0
  have k1 := BL11.out.cell 1
  have k2 := BL11.out.cell 2
  have k3 := BL11.out.cell 3
  have k4 := BL11.out.cell 4
  have k5 := BL11.out.cell 5
  have k6 := BL11.out.cell 6
  have k7 := BL11.out.cell 7
  have hlt := BL11.out.lt
  go_wp2_with fail
  obtain ⟨w12, hw⟩ : ∃ x, w11.alloc (.cells #[.int .i64 0] 3) = x := ⟨_, rfl⟩
  have u : Upd [] w11 w12 := by rw [← hw]; exact (Upd.refl [] _).alloc _
  have J12 := hide (show Ints w12.heap.size w12 (.slice (some ⟨w11.heap.size, 0, none⟩) 1 1) [0] by rw [← hw]; exact it_lit_ints w11 [0] 1 rfl)
  have BL12 := hide (BL11.out.upd u (by simp))
  have IT12 := hide (IT11.out.upd u)
  have UU12 := hide (UU11.out.trans u (by simp))
  have L1 := hide (keepI L1.out u)
  have L2 := hide (keepI L2.out u)
  rw [hw]
  clear hw u
  clear k0 k1 k2 k3 k4 k5 k6 k7 hlt
  have k0 := BL12.out.cell 0
  have k1 := BL12.out.cell 1
  have k2 := BL12.out.cell 2
  have k3 := BL12.out.cell 3
  have k4 := BL12.out.cell 4
  have k5 := BL12.out.cell 5
  have k6 := BL12.out.cell 6
  have k7 := BL12.out.cell 7
  have hlt := BL12.out.lt
  refine (use_heard (i := exS) IT12.out exOk 2 2 (some ⟨w11.heap.size, 0, none⟩) 1 1 [0] J12.out (by decide) 15 (-1) (by decide) (by decide) (by decide)).mono ?_
  rintro e w13 ⟨rfl, u⟩
  have BL13 := hide (BL12.out.upd u (by simp))
  have IT13 := hide (IT12.out.upd u)
  have UU13 := hide (UU12.out.trans u (by simp))
  have L1 := hide (keepI L1.out u)
  have L2 := hide (keepI L2.out u)
  clear u
  clear k0 k1 k2 k3 k4 k5 k6 k7 hlt
  have k0 := BL13.out.cell 0
  have k1 := BL13.out.cell 1
  have k2 := BL13.out.cell 2
  have k3 := BL13.out.cell 3
  have k4 := BL13.out.cell 4
  have k5 := BL13.out.cell 5
  have k6 := BL13.out.cell 6
  have k7 := BL13.out.cell 7
  have hlt := BL13.out.lt
  go_wp2_with fail
  obtain ⟨w14, hw⟩ : ∃ x, w13.alloc (.cells #[.int .i64 0] 3) = x := ⟨_, rfl⟩
  have u : Upd [] w13 w14 := by rw [← hw]; exact (Upd.refl [] _).alloc _
  have J14 := hide (show Ints w14.heap.size w14 (.slice (some ⟨w13.heap.size, 0, none⟩) 1 1) [0] by rw [← hw]; exact it_lit_ints w13 [0] 1 rfl)
  have BL14 := hide (BL13.out.upd u (by simp))
  have IT14 := hide (IT13.out.upd u)
  have UU14 := hide (UU13.out.trans u (by simp))
  have L1 := hide (keepI L1.out u)
  have L2 := hide (keepI L2.out u)
  rw [hw]
  clear hw u
  clear k0 k1 k2 k3 k4 k5 k6 k7 hlt
  have k0 := BL14.out.cell 0
  have k1 := BL14.out.cell 1
  have k2 := BL14.out.cell 2
  have k3 := BL14.out.cell 3
  have k4 := BL14.out.cell 4
  have k5 := BL14.out.cell 5
  have k6 := BL14.out.cell 6
  have k7 := BL14.out.cell 7
  have hlt := BL14.out.lt
  refine (use_heard (i := exS) IT14.out exOk 2 2 (some ⟨w13.heap.size, 0, none⟩) 1 1 [0] J14.out (by decide) 30 (10) (by decide) (by decide) (by decide)).mono ?_
  rintro e w15 ⟨rfl, u⟩
  have BL15 := hide (BL14.out.upd u (by simp))
  have IT15 := hide (IT14.out.upd u)
  have UU15 := hide (UU14.out.trans u (by simp))
  have L1 := hide (keepI L1.out u)
  have L2 := hide (keepI L2.out u)
  clear u
  clear k0 k1 k2 k3 k4 k5 k6 k7 hlt
  have k0 := BL15.out.cell 0
  have k1 := BL15.out.cell 1
  have k2 := BL15.out.cell 2
  have k3 := BL15.out.cell 3
  have k4 := BL15.out.cell 4
  have k5 := BL15.out.cell 5
  have k6 := BL15.out.cell 6
  have k7 := BL15.out.cell 7
  have hlt := BL15.out.lt
  go_wp2_with fail
  obtain ⟨w16, hw⟩ : ∃ x, w15.alloc (.cells #[.int .i64 0] 3) = x := ⟨_, rfl⟩
  have u : Upd [] w15 w16 := by rw [← hw]; exact (Upd.refl [] _).alloc _
  have J16 := hide (show Ints w16.heap.size w16 (.slice (some ⟨w15.heap.size, 0, none⟩) 1 1) [0] by rw [← hw]; exact it_lit_ints w15 [0] 1 rfl)
  have BL16 := hide (BL15.out.upd u (by simp))
  have IT16 := hide (IT15.out.upd u)
  have UU16 := hide (UU15.out.trans u (by simp))
  have L1 := hide (keepI L1.out u)
  have L2 := hide (keepI L2.out u)
  rw [hw]
  clear hw u
  clear k0 k1 k2 k3 k4 k5 k6 k7 hlt
  have k0 := BL16.out.cell 0
  have k1 := BL16.out.cell 1
  have k2 := BL16.out.cell 2
  have k3 := BL16.out.cell 3
  have k4 := BL16.out.cell 4
  have k5 := BL16.out.cell 5
  have k6 := BL16.out.cell 6
  have k7 := BL16.out.cell 7
  have hlt := BL16.out.lt
  refine (use_talk (i := exS) IT16.out exOk 2 2 (some ⟨w15.heap.size, 0, none⟩) 1 1 [0] J16.out (by decide) [⟨0, 10⟩, ⟨150, 180⟩] (by decide)).mono ?_
  rintro e w17 ⟨sa, sc, rfl, is, u⟩
  have BL17 := hide (BL16.out.upd u (by simp))
  have IT17 := hide (IT16.out.upd u)
  have UU17 := hide (UU16.out.trans u (by simp))
  have S1 := hide is
  clear is
  have L1 := hide (keepI L1.out u)
  have L2 := hide (keepI L2.out u)
  clear u
  clear k0 k1 k2 k3 k4 k5 k6 k7 hlt
  have k0 := BL17.out.cell 0
  have k1 := BL17.out.cell 1
  have k2 := BL17.out.cell 2
  have k3 := BL17.out.cell 3
  have k4 := BL17.out.cell 4
  have k5 := BL17.out.cell 5
  have k6 := BL17.out.cell 6
  have k7 := BL17.out.cell 7
  have hlt := BL17.out.lt
  go_wp2_with fail
  obtain ⟨w18, hw⟩ : ∃ x, w17.alloc (.cells #[.int .i64 1] 3) = x := ⟨_, rfl⟩
  have u : Upd [] w17 w18 := by rw [← hw]; exact (Upd.refl [] _).alloc _
  have J18 := hide (show Ints w18.heap.size w18 (.slice (some ⟨w17.heap.size, 0, none⟩) 1 1) [1] by rw [← hw]; exact it_lit_ints w17 [1] 1 rfl)
  have BL18 := hide (BL17.out.upd u (by simp))
  have IT18 := hide (IT17.out.upd u)
  have UU18 := hide (UU17.out.trans u (by simp))
  have L1 := hide (keepI L1.out u)
  have L2 := hide (keepI L2.out u)
  have S1 := hide (keepS S1.out u)
  rw [hw]
  clear hw u
  clear k0 k1 k2 k3 k4 k5 k6 k7 hlt
  have k0 := BL18.out.cell 0
  have k1 := BL18.out.cell 1
  have k2 := BL18.out.cell 2
  have k3 := BL18.out.cell 3
  have k4 := BL18.out.cell 4
  have k5 := BL18.out.cell 5
  have k6 := BL18.out.cell 6
  have k7 := BL18.out.cell 7
  have hlt := BL18.out.lt
  refine (use_talk (i := exS) IT18.out exOk 2 2 (some ⟨w17.heap.size, 0, none⟩) 1 1 [1] J18.out (by decide) [⟨0, 15⟩, ⟨150, 170⟩] (by decide)).mono ?_
  rintro e w19 ⟨ra, rc, rfl, is, u⟩
  have BL19 := hide (BL18.out.upd u (by simp))
  have IT19 := hide (IT18.out.upd u)
  have UU19 := hide (UU18.out.trans u (by simp))
  have S2 := hide is
  clear is
  have L1 := hide (keepI L1.out u)
  have L2 := hide (keepI L2.out u)
  have S1 := hide (keepS S1.out u)
  clear u
  clear k0 k1 k2 k3 k4 k5 k6 k7 hlt
  have k0 := BL19.out.cell 0
  have k1 := BL19.out.cell 1
  have k2 := BL19.out.cell 2
  have k3 := BL19.out.cell 3
  have k4 := BL19.out.cell 4
  have k5 := BL19.out.cell 5
  have k6 := BL19.out.cell 6
  have k7 := BL19.out.cell 7
  have hlt := BL19.out.lt
  go_wp2_with fail
  have JN := hide (show Ints w19.heap.size w19 (.slice none 0 0) [] from .inl ⟨none, 0, rfl, rfl⟩)
  refine (use_noplace (i := exS) IT19.out exOk 2 2 none 0 0 [] JN.out (by decide) 200 (by decide)).mono ?_
  rintro e w20 ⟨rfl, u⟩
  have BL20 := hide (BL19.out.upd u (by simp))
  have IT20 := hide (IT19.out.upd u)
  have UU20 := hide (UU19.out.trans u (by simp))
  have L1 := hide (keepI L1.out u)
  have L2 := hide (keepI L2.out u)
  have S1 := hide (keepS S1.out u)
  have S2 := hide (keepS S2.out u)
  clear u
  clear k0 k1 k2 k3 k4 k5 k6 k7 hlt
  have k0 := BL20.out.cell 0
  have k1 := BL20.out.cell 1
  have k2 := BL20.out.cell 2
  have k3 := BL20.out.cell 3
  have k4 := BL20.out.cell 4
  have k5 := BL20.out.cell 5
  have k6 := BL20.out.cell 6
  have k7 := BL20.out.cell 7
  have hlt := BL20.out.lt
  go_wp2_with fail
  have HEN := hide ex_enc
  refine (use_encode (i := exS) IT20.out exOk 2 2 ).mono ?_
  rintro e w21 ⟨rfl, u⟩
  have BL21 := hide (BL20.out.upd u (by simp))
  have IT21 := hide (IT20.out.upd u)
  have UU21 := hide (UU20.out.trans u (by simp))
  have L1 := hide (keepI L1.out u)
  have L2 := hide (keepI L2.out u)
  have S1 := hide (keepS S1.out u)
  have S2 := hide (keepS S2.out u)
  clear u
  clear k0 k1 k2 k3 k4 k5 k6 k7 hlt
  have k0 := BL21.out.cell 0
  have k1 := BL21.out.cell 1
  have k2 := BL21.out.cell 2
  have k3 := BL21.out.cell 3
  have k4 := BL21.out.cell 4
  have k5 := BL21.out.cell 5
  have k6 := BL21.out.cell 6
  have k7 := BL21.out.cell 7
  have hlt := BL21.out.lt
  obtain ⟨en, hen⟩ : ∃ s, ByteArray.mk (encS exS).toArray = s := ⟨_, rfl⟩
  have hes : en.size = 21 := by rw [← hen]; exact HEN.out
  rw [hen]
  clear hen
  go_wp2_with fail
  obtain ⟨w22, hw⟩ : ∃ x, w21.alloc (.cells #[.int .i64 150, .int .i64 170, .int .i64 180, .int .i64 200] 3) = x := ⟨_, rfl⟩
  have u : Upd [] w21 w22 := by rw [← hw]; exact (Upd.refl [] _).alloc _
  have J22 := hide (show Ints w22.heap.size w22 (.slice (some ⟨w21.heap.size, 0, none⟩) 4 4) [150, 170, 180, 200] by rw [← hw]; exact it_lit_ints w21 [150, 170, 180, 200] 4 rfl)
  have BL22 := hide (BL21.out.upd u (by simp))
  have IT22 := hide (IT21.out.upd u)
  have UU22 := hide (UU21.out.trans u (by simp))
  have L1 := hide (keepI L1.out u)
  have L2 := hide (keepI L2.out u)
  have S1 := hide (keepS S1.out u)
  have S2 := hide (keepS S2.out u)
  rw [hw]
  clear hw u
  clear k0 k1 k2 k3 k4 k5 k6 k7 hlt
  have k0 := BL22.out.cell 0
  have k1 := BL22.out.cell 1
  have k2 := BL22.out.cell 2
  have k3 := BL22.out.cell 3
  have k4 := BL22.out.cell 4
  have k5 := BL22.out.cell 5
  have k6 := BL22.out.cell 6
  have k7 := BL22.out.cell 7
  have hlt := BL22.out.lt
  refine (refInts la 4 lc [150, 170, 180, 200] (some ⟨w21.heap.size, 0, none⟩) 4 4 [150, 170, 180, 200] w22 L1.out J22.out (by unfold maxLen; omega) (by unfold maxLen; omega)).mono ?_
  rintro e w23 ⟨he, u⟩
  have BL23 := hide (BL22.out.upd u (by simp))
  have IT23 := hide (IT22.out.upd u)
  have UU23 := hide (UU22.out.trans u (by simp))
  obtain rfl := he
  have L1 := hide (keepI L1.out u)
  have L2 := hide (keepI L2.out u)
  have S1 := hide (keepS S1.out u)
  have S2 := hide (keepS S2.out u)
  clear u
  clear k0 k1 k2 k3 k4 k5 k6 k7 hlt
  have k0 := BL23.out.cell 0
  have k1 := BL23.out.cell 1
  have k2 := BL23.out.cell 2
  have k3 := BL23.out.cell 3
  have k4 := BL23.out.cell 4
  have k5 := BL23.out.cell 5
  have k6 := BL23.out.cell 6
  have k7 := BL23.out.cell 7
  have hlt := BL23.out.lt
  rw [decide_eq_true (show ([150, 170, 180, 200] : List Int) = [150, 170, 180, 200] from rfl)]
  go_wp2_with fail
  obtain ⟨w24, hw⟩ : ∃ x, w23.alloc (.cells #[.int .i64 1] 3) = x := ⟨_, rfl⟩
  have u : Upd [] w23 w24 := by rw [← hw]; exact (Upd.refl [] _).alloc _
  have J24 := hide (show Ints w24.heap.size w24 (.slice (some ⟨w23.heap.size, 0, none⟩) 1 1) [1] by rw [← hw]; exact it_lit_ints w23 [1] 1 rfl)
  have BL24 := hide (BL23.out.upd u (by simp))
  have IT24 := hide (IT23.out.upd u)
  have UU24 := hide (UU23.out.trans u (by simp))
  have L1 := hide (keepI L1.out u)
  have L2 := hide (keepI L2.out u)
  have S1 := hide (keepS S1.out u)
  have S2 := hide (keepS S2.out u)
  rw [hw]
  clear hw u
  clear k0 k1 k2 k3 k4 k5 k6 k7 hlt
  have k0 := BL24.out.cell 0
  have k1 := BL24.out.cell 1
  have k2 := BL24.out.cell 2
  have k3 := BL24.out.cell 3
  have k4 := BL24.out.cell 4
  have k5 := BL24.out.cell 5
  have k6 := BL24.out.cell 6
  have k7 := BL24.out.cell 7
  have hlt := BL24.out.lt
  refine (refInts ca 1 cc [1] (some ⟨w23.heap.size, 0, none⟩) 1 1 [1] w24 L2.out J24.out (by unfold maxLen; omega) (by unfold maxLen; omega)).mono ?_
  rintro e w25 ⟨he, u⟩
  have BL25 := hide (BL24.out.upd u (by simp))
  have IT25 := hide (IT24.out.upd u)
  have UU25 := hide (UU24.out.trans u (by simp))
  obtain rfl := he
  have L1 := hide (keepI L1.out u)
  have L2 := hide (keepI L2.out u)
  have S1 := hide (keepS S1.out u)
  have S2 := hide (keepS S2.out u)
  clear u
  clear k0 k1 k2 k3 k4 k5 k6 k7 hlt
  have k0 := BL25.out.cell 0
  have k1 := BL25.out.cell 1
  have k2 := BL25.out.cell 2
  have k3 := BL25.out.cell 3
  have k4 := BL25.out.cell 4
  have k5 := BL25.out.cell 5
  have k6 := BL25.out.cell 6
  have k7 := BL25.out.cell 7
  have hlt := BL25.out.lt
  rw [decide_eq_true (show ([1] : List Int) = [1] from rfl)]
  go_wp2_with fail
  obtain ⟨w26, hw⟩ : ∃ x, w25.alloc (.cells #[.int .i64 0, .int .i64 10, .int .i64 150, .int .i64 180] 53) = x := ⟨_, rfl⟩
  have u : Upd [] w25 w26 := by rw [← hw]; exact (Upd.refl [] _).alloc _
  have J26 := hide (show SpsAt w26.heap.size w26 (some ⟨w25.heap.size, 0, none⟩) [⟨0, 10⟩, ⟨150, 180⟩] by rw [← hw]; exact lit_sps w25 [⟨0, 10⟩, ⟨150, 180⟩])
  have BL26 := hide (BL25.out.upd u (by simp))
  have IT26 := hide (IT25.out.upd u)
  have UU26 := hide (UU25.out.trans u (by simp))
  have L1 := hide (keepI L1.out u)
  have L2 := hide (keepI L2.out u)
  have S1 := hide (keepS S1.out u)
  have S2 := hide (keepS S2.out u)
  rw [hw]
  clear hw u
  clear k0 k1 k2 k3 k4 k5 k6 k7 hlt
  have k0 := BL26.out.cell 0
  have k1 := BL26.out.cell 1
  have k2 := BL26.out.cell 2
  have k3 := BL26.out.cell 3
  have k4 := BL26.out.cell 4
  have k5 := BL26.out.cell 5
  have k6 := BL26.out.cell 6
  have k7 := BL26.out.cell 7
  have hlt := BL26.out.lt
  refine (refSameSpells sa 2 sc [⟨0, 10⟩, ⟨150, 180⟩] (some ⟨w25.heap.size, 0, none⟩) 2 2 [⟨0, 10⟩, ⟨150, 180⟩] w26 S1.out J26.out rfl rfl (by unfold maxLen; omega) (by unfold maxLen; omega)).mono ?_
  rintro e w27 ⟨he, u⟩
  have BL27 := hide (BL26.out.upd u (by simp))
  have IT27 := hide (IT26.out.upd u)
  have UU27 := hide (UU26.out.trans u (by simp))
  obtain rfl := he
  have L1 := hide (keepI L1.out u)
  have L2 := hide (keepI L2.out u)
  have S1 := hide (keepS S1.out u)
  have S2 := hide (keepS S2.out u)
  clear u
  clear k0 k1 k2 k3 k4 k5 k6 k7 hlt
  have k0 := BL27.out.cell 0
  have k1 := BL27.out.cell 1
  have k2 := BL27.out.cell 2
  have k3 := BL27.out.cell 3
  have k4 := BL27.out.cell 4
  have k5 := BL27.out.cell 5
  have k6 := BL27.out.cell 6
  have k7 := BL27.out.cell 7
  have hlt := BL27.out.lt
  rw [decide_eq_true (show ([⟨0, 10⟩, ⟨150, 180⟩] : List Sp) = [⟨0, 10⟩, ⟨150, 180⟩] from rfl)]
  go_wp2_with fail
  obtain ⟨w28, hw⟩ : ∃ x, w27.alloc (.cells #[.int .i64 0, .int .i64 15, .int .i64 150, .int .i64 170] 53) = x := ⟨_, rfl⟩
  have u : Upd [] w27 w28 := by rw [← hw]; exact (Upd.refl [] _).alloc _
  have J28 := hide (show SpsAt w28.heap.size w28 (some ⟨w27.heap.size, 0, none⟩) [⟨0, 15⟩, ⟨150, 170⟩] by rw [← hw]; exact lit_sps w27 [⟨0, 15⟩, ⟨150, 170⟩])
  have BL28 := hide (BL27.out.upd u (by simp))
  have IT28 := hide (IT27.out.upd u)
  have UU28 := hide (UU27.out.trans u (by simp))
  have L1 := hide (keepI L1.out u)
  have L2 := hide (keepI L2.out u)
  have S1 := hide (keepS S1.out u)
  have S2 := hide (keepS S2.out u)
  rw [hw]
  clear hw u
  clear k0 k1 k2 k3 k4 k5 k6 k7 hlt
  have k0 := BL28.out.cell 0
  have k1 := BL28.out.cell 1
  have k2 := BL28.out.cell 2
  have k3 := BL28.out.cell 3
  have k4 := BL28.out.cell 4
  have k5 := BL28.out.cell 5
  have k6 := BL28.out.cell 6
  have k7 := BL28.out.cell 7
  have hlt := BL28.out.lt
  refine (refSameSpells ra 2 rc [⟨0, 15⟩, ⟨150, 170⟩] (some ⟨w27.heap.size, 0, none⟩) 2 2 [⟨0, 15⟩, ⟨150, 170⟩] w28 S2.out J28.out rfl rfl (by unfold maxLen; omega) (by unfold maxLen; omega)).mono ?_
  rintro e w29 ⟨he, u⟩
  have BL29 := hide (BL28.out.upd u (by simp))
  have IT29 := hide (IT28.out.upd u)
  have UU29 := hide (UU28.out.trans u (by simp))
  obtain rfl := he
  have L1 := hide (keepI L1.out u)
  have L2 := hide (keepI L2.out u)
  have S1 := hide (keepS S1.out u)
  have S2 := hide (keepS S2.out u)
  clear u
  clear k0 k1 k2 k3 k4 k5 k6 k7 hlt
  have k0 := BL29.out.cell 0
  have k1 := BL29.out.cell 1
  have k2 := BL29.out.cell 2
  have k3 := BL29.out.cell 3
  have k4 := BL29.out.cell 4
  have k5 := BL29.out.cell 5
  have k6 := BL29.out.cell 6
  have k7 := BL29.out.cell 7
  have hlt := BL29.out.lt
  rw [decide_eq_true (show ([⟨0, 15⟩, ⟨150, 170⟩] : List Sp) = [⟨0, 15⟩, ⟨150, 170⟩] from rfl)]
  go_wp2_with fail
  refine (use_valid (i := exS) IT29.out exOk 2 2 ).mono ?_
  rintro e w30 ⟨rfl, u⟩
  have BL30 := hide (BL29.out.upd u (by simp))
  have IT30 := hide (IT29.out.upd u)
  have UU30 := hide (UU29.out.trans u (by simp))
  have L1 := hide (keepI L1.out u)
  have L2 := hide (keepI L2.out u)
  have S1 := hide (keepS S1.out u)
  have S2 := hide (keepS S2.out u)
  clear u
  clear k0 k1 k2 k3 k4 k5 k6 k7 hlt
  have k0 := BL30.out.cell 0
  have k1 := BL30.out.cell 1
  have k2 := BL30.out.cell 2
  have k3 := BL30.out.cell 3
  have k4 := BL30.out.cell 4
  have k5 := BL30.out.cell 5
  have k6 := BL30.out.cell 6
  have k7 := BL30.out.cell 7
  have hlt := BL30.out.lt
  go_wp2_with fail
  refine (valid_it (n₀ := 0) ⟨0, 0, 0, [], [], 0, 0, 0⟩ none 0 none 0 w30 (fun i s h => by simp at h) (fun i s h => by simp at h) (Nat.zero_le _) (by decide) (by decide)).mono ?_
  rintro e w31 ⟨he, u⟩
  have BL31 := hide (BL30.out.upd u (by simp))
  have IT31 := hide (IT30.out.upd u)
  have UU31 := hide (UU30.out.trans u (by simp))
  rw [decide_eq_false (by decide)] at he
  obtain rfl := he
  have L1 := hide (keepI L1.out u)
  have L2 := hide (keepI L2.out u)
  have S1 := hide (keepS S1.out u)
  have S2 := hide (keepS S2.out u)
  clear u
  clear k0 k1 k2 k3 k4 k5 k6 k7 hlt
  have k0 := BL31.out.cell 0
  have k1 := BL31.out.cell 1
  have k2 := BL31.out.cell 2
  have k3 := BL31.out.cell 3
  have k4 := BL31.out.cell 4
  have k5 := BL31.out.cell 5
  have k6 := BL31.out.cell 6
  have k7 := BL31.out.cell 7
  have hlt := BL31.out.lt
  go_wp2_with fail
  go_ret
  exact ⟨rfl, UU31.out⟩
end Go.Proofs.Ytpkeimdlcafcnaa
