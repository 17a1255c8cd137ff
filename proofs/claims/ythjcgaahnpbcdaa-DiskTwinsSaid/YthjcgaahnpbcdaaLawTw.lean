/-
  The walk of the statement on two disks.
-/
import Derived.Test.YthjcgaahnpbcdaaLawCt
import Derived.Test.YthjcgaahnpbcdaaThree
import Derived.Test.YthjcgaahnpbcdaaLawAS
import Derived.Deep.RegionHeld3
namespace Go.Proofs.Ythjcgaahnpbcdaa
open Go.RowKit
set_option maxRecDepth 100000
set_option maxHeartbeats 1000000

set_option linter.unusedSimpArgs false
theorem calm_le {n k : Nat} {D : DiskS} (h : Calm n k D) : Calm n (k + 1) D := ⟨h.off, h.left, h.size, by have := h.pend; omega⟩
def DiskS.wrote (D : DiskS) (fo : Nat) (fs : List UInt8) : DiskS := { D with pend := D.pend ++ [(fo, fs)], vis := put D.vis fo fs }
section
variable {B : Nat} {X : List Nat} {w0 w : World} {p q r : Nat × DiskS} {g n k fo : Nat} {C : DiskS} {fs : List UInt8}
theorem write_one (hc : Calm n k C) (hk : k ≤ 1000) (hf : fo + fs.length ≤ n) (h : Trio B X w0 w (g, C) q r) :
    Calls Try.prog 21 #[.pointer (some ⟨g, 0, none⟩), .int .i64 (fo : Int), .string ⟨fs.toArray⟩] w fun e w' => e = .returned (.int .i64 0) ∧ Trio B X w0 w' (g, C.wrote fo fs) q r ∧ SameAt X w w' :=
  h.act (fun Y hY => by
    have C1 := write_in (fo : Int) ⟨fs.toArray⟩ hY (by have := hc.pend; omega)
    rw [show (⟨fs.toArray⟩ : ByteArray).data.toList = fs from rfl, write_calm hc hf] at C1
    exact C1)
theorem write_three (hc : Calm n k C) (hk : k ≤ 1000) (hf : fo + fs.length ≤ n) (h : Trio B X w0 w p q (g, C)) :
    Calls Try.prog 21 #[.pointer (some ⟨g, 0, none⟩), .int .i64 (fo : Int), .string ⟨fs.toArray⟩] w fun e w' => e = .returned (.int .i64 0) ∧ Trio B X w0 w' p q (g, C.wrote fo fs) ∧ SameAt X w w' :=
  h.act3 (fun Y hY => by
    have C1 := write_in (fo : Int) ⟨fs.toArray⟩ hY (by have := hc.pend; omega)
    rw [show (⟨fs.toArray⟩ : ByteArray).data.toList = fs from rfl, write_calm hc hf] at C1
    exact C1)
theorem sync_one (hc : Calm n k C) (h : Trio B X w0 w (g, C) q r) :
    Calls Try.prog 23 #[.pointer (some ⟨g, 0, none⟩)] w fun e w' => e = .returned (.int .i64 0) ∧ Trio B X w0 w' (g, C.settled C.vis) q r ∧ SameAt X w w' :=
  h.act (fun Y hY => by
    have C1 := sync_in hY
    rw [sync_calm hc] at C1
    exact C1)
theorem sync_three (hc : Calm n k C) (h : Trio B X w0 w p q (g, C)) :
    Calls Try.prog 23 #[.pointer (some ⟨g, 0, none⟩)] w fun e w' => e = .returned (.int .i64 0) ∧ Trio B X w0 w' p q (g, C.settled C.vis) ∧ SameAt X w w' :=
  h.act3 (fun Y hY => by
    have C1 := sync_in hY
    rw [sync_calm hc] at C1
    exact C1)
end
theorem diskTwins_walk (a0 : Int) (a1 : Option Addr) (len1 cap1 : Nat) (z1 : List WriteP) (w : World) (w0 : (Lit.int .i64 a0).wf = true) (w1 : WritesArg w a1 len1 cap1 z1) :
    Calls Try.prog 11 #[.int .i64 a0, .slice a1 len1 cap1] w fun e w' => e = .returned (.bool true) ∧ Below w.heap.size w w' := by
  have hl : len1 ≤ 9223372036854775807 := by have := w1.2.1; have := w1.2.2.1; unfold maxLen at this; omega
  obtain ⟨n, hn, hn1, hn2⟩ := size_of_pick a0 100 (by omega) (by omega)
  have HN := hide hn
  have HL := hide hl
  have W0 := hide w0
  have W1 := hide w1
  clear hn hl w0 w1
  go_enter Try.func11, Try.ntmps11
  go_wp2_with fail
  refine (sane_any w).mono ?_
  rintro e w1 ⟨rfl, b1⟩
  have B1 := hide b1
  clear b1
  go_wp2_with fail
  refine (pick_any a0 100 w1 W0.out (by omega) (by omega)).mono ?_
  rintro e w' ⟨rfl, rfl⟩
  have hpk := pickN_lt a0 (n := 100) (by omega)
  obtain ⟨q1, q2⟩ := hpk
  go_wp2_with fail
  rw [show 1 + pickN a0 100 = (n : Int) from HN.out]
  clear q1 q2
  refine (new_in n w.heap.size w w1 B1.out B1.out.size [] (by simp) hn1 hn2).mono ?_
  rintro e w2 ⟨g1, rfl, d2, _, _⟩
  have D2 := hide d2
  clear d2
  go_wp2_with fail
  refine (new_in n w2.heap.size w2 w2 (Below.refl _ _) (Nat.le_refl _) [] (by simp) hn1 hn2).mono ?_
  rintro e w3 ⟨g2, rfl, d3, _, _⟩
  have D3 := hide d3
  clear d3
  go_wp2_with fail
  refine (new_in n w3.heap.size w3 w3 (Below.refl _ _) (Nat.le_refl _) [] (by simp) hn1 hn2).mono ?_
  rintro e w4 ⟨g3, rfl, d4, _, _⟩
  have T4 := hide (Trio.start D2.out D3.out d4)
  clear d4 D2 D3
  go_wp2_with fail
  go_loopw [12] (fun i wr => ∃ (k : Nat) (C D : DiskS), k ≤ len1 ∧ k ≤ 30 ∧ i = .int .i64 k ∧ Trio w.heap.size [] w wr (g1, C) (g2, D) (g3, C) ∧ Calm n k C ∧ Calm n k D)
    (fun i _ => 30 - (intOf i).toNat)
  case atStart => exact ⟨0, _, _, Nat.zero_le _, by omega, rfl, T4.out, calm_fresh n, calm_fresh n⟩
  case round =>
    obtain ⟨k, C, D, hk, hk6, rfl, hd, hc, hcd⟩ := hrel
    have HD := hide hd
    have HC := hide hc
    have HE := hide hcd
    clear hd hc hcd
    have HLo := HL.out
    by_cases hlt : ¬ k < len1
    · obtain rfl : k = len1 := by omega
      obtain ⟨wo, rfl⟩ : ∃ wo : World, wo = wr := ⟨_, rfl⟩
      go_wp2_with fail
      have C1 := read_in 0 (n : Int) HD.out.one
      rw [read_calm_to HC.out HD.out.one.ok (v := C.vis) rfl] at C1
      refine C1.mono ?_
      clear C1
      rintro e w' ⟨rfl, rfl⟩
      go_wp2_with fail
      have C1 := read_in 0 (n : Int) HD.out.three
      rw [read_calm_to HC.out HD.out.one.ok (v := C.vis) rfl] at C1
      refine C1.mono ?_
      clear C1
      rintro e w' ⟨rfl, rfl⟩
      go_wp2_with fail
      refine (pending_in HD.out.one).mono ?_
      rintro e w' ⟨rfl, rfl⟩
      go_wp2_with fail
      refine (pending_in HD.out.three).mono ?_
      rintro e w' ⟨rfl, rfl⟩
      go_wp2_with fail
      go_ret
      exact ⟨rfl, HD.out.one.below⟩
    have hlt := Decidable.not_not.1 hlt
    by_cases h60 : ¬ k < 30
    · obtain rfl : k = 30 := by omega
      obtain ⟨wo, rfl⟩ : ∃ wo : World, wo = wr := ⟨_, rfl⟩
      go_wp2_with fail
      have C1 := read_in 0 (n : Int) HD.out.one
      rw [read_calm_to HC.out HD.out.one.ok (v := C.vis) rfl] at C1
      refine C1.mono ?_
      clear C1
      rintro e w' ⟨rfl, rfl⟩
      go_wp2_with fail
      have C1 := read_in 0 (n : Int) HD.out.three
      rw [read_calm_to HC.out HD.out.one.ok (v := C.vis) rfl] at C1
      refine C1.mono ?_
      clear C1
      rintro e w' ⟨rfl, rfl⟩
      go_wp2_with fail
      refine (pending_in HD.out.one).mono ?_
      rintro e w' ⟨rfl, rfl⟩
      go_wp2_with fail
      refine (pending_in HD.out.three).mono ?_
      rintro e w' ⟨rfl, rfl⟩
      go_wp2_with fail
      go_ret
      exact ⟨rfl, HD.out.one.below⟩
    have h60 := Decidable.not_not.1 h60
    obtain ⟨b, off, x, rfl, hbW, hxi, hx0, hx1, c0, c1, c2⟩ := W1.out.at_ HD.out.one.below hlt
    obtain ⟨x0, x1, x2⟩ := x
    have HX0 := hide hx0
    have HX1 := hide hx1
    have ltb := World.block_lt_of_cell? _ _ c0
    clear hxi hx0 hx1
    simp only at c0 c1 c2
    go_wp2_with fail
    refine (fits_any n (x0, x1, x2) _ HX0.out HX1.out hn2).mono ?_
    rintro e w4' ⟨rfl, u4⟩
    have H4 := hide (HD.out.step u4 (by simp) (by simp))
    have hfo := fitS_le n (x0, x1, x2)
    have HF := hide hfo
    clear u4 hfo
    obtain ⟨fo, Efo⟩ : ∃ fo, Hid (fitOff n (x0, x1, x2) = fo) := ⟨_, rfl⟩
    obtain ⟨fs, Efs⟩ : ∃ fs, Hid (fitS n (x0, x1, x2) = fs) := ⟨_, rfl⟩
    rw [Efo.out, Efs.out] at HF ⊢
    have H5 := hide (H4.out.more ((Upd.refl [] w4').alloc (.cells #[.int .i64 (fo : Int), .string ⟨fs.toArray⟩, .bool x2] 53)) w4'.heap.size (Nat.le_refl _) (by simp))
    have L5 := hide (Blk.new w4' 53 [.int .i64 (fo : Int), .string ⟨fs.toArray⟩, .bool x2])
    by_cases hod : (k : Int) % 2 = 1
    · have hod2 : (k : Int).tmod 2 = 1 := by rw [Int.tmod_eq_emod_of_nonneg (by omega)]; exact hod
      clear hod
      have j0 := L5.out.cell 0
      have j1 := L5.out.cell 1
      have j2 := L5.out.cell 2
      have WI := hide (H5.out.act2 (E := .returned (.int .i64 0)) (D' := { D with pend := D.pend ++ [(fo, fs)], vis := put D.vis fo fs }) (fun Y hY => by
        have C1 := write_in (fo : Int) ⟨fs.toArray⟩ hY (by have := HE.out.pend; omega)
        rw [show (⟨fs.toArray⟩ : ByteArray).data.toList = fs from rfl, write_calm HE.out HF.out] at C1
        exact C1))
      go_wp2_with fail
      refine WI.out.mono ?_
      rintro e w6 ⟨rfl, d6, s6⟩
      have H6 := hide d6
      have L6 := hide (s6.blk (by simp) L5.out)
      have j0 := L6.out.cell 0
      have j2 := L6.out.cell 2
      clear d6 s6 WI
      have E6 := hide (calm_write HE.out fo fs)
      obtain ⟨D6, ED6⟩ : ∃ D6, { D with pend := D.pend ++ [(fo, fs)], vis := put D.vis fo fs } = D6 := ⟨_, rfl⟩
      rw [ED6] at H6 E6
      cases x2 with
      | false =>
        by_cases hf7 : (fo : Int) % 7 = 3
        · have hf8 : (fo : Int).tmod 7 = 3 := by rw [Int.tmod_eq_emod_of_nonneg (by omega)]; exact hf7
          clear hf7
          have WI := hide (H6.out.act2 (E := .returned (.int .i64 0)) (D' := { D6.settled D6.sure with off := false, left := 0 }) (fun Y hY => by
            have C1 := crash_in (.slice none 0 0) [] 1 hY (by have := E6.out.pend; omega) (by decide) (.inl ⟨none, 0, rfl, rfl⟩)
            rw [crash_none] at C1
            exact C1))
          go_wp2_with fail
          refine WI.out.mono ?_
          rintro e w8 ⟨rfl, d8, s8⟩
          have H8 := hide d8
          have L8 := hide (s8.blk (by simp) L6.out)
          have j0 := L8.out.cell 0
          have j2 := L8.out.cell 2
          clear d8 s8 WI
          have E8 := hide (show Calm n (k + 1) { D6.settled D6.sure with off := false, left := 0 } from ⟨rfl, rfl, E6.out.size, Nat.zero_le _⟩)
          go_wp2_with fail
          go_roundw
          case rel => exact ⟨k + 1, _, _, by omega, by omega, by go_num, H8.out.mono (by simp), calm_le HC.out, E8.out⟩
          case measure => simp [intOf] <;> omega
        · have hf8 : ¬ (fo : Int).tmod 7 = 3 := by rw [Int.tmod_eq_emod_of_nonneg (by omega)]; exact hf7
          clear hf7
          go_wp2_with fail
          go_roundw
          case rel => exact ⟨k + 1, _, _, by omega, by omega, by go_num, H6.out.mono (by simp), calm_le HC.out, E6.out⟩
          case measure => simp [intOf] <;> omega
      | true =>
        have WI := hide (H6.out.act2 (E := .returned (.int .i64 0)) (D' := (D6.settled D6.vis)) (fun Y hY => by
          have C1 := sync_in hY
          rw [sync_calm E6.out] at C1
          exact C1))
        go_wp2_with fail
        refine WI.out.mono ?_
        rintro e w7 ⟨rfl, d7, s7⟩
        have H7 := hide d7
        have L7 := hide (s7.blk (by simp) L6.out)
        have j0 := L7.out.cell 0
        have j2 := L7.out.cell 2
        clear d7 s7 WI
        have E7 := hide (calm_sync E6.out H6.out.two.ok)
        obtain ⟨D7, ED7⟩ : ∃ D7, D6.settled D6.vis = D7 := ⟨_, rfl⟩
        rw [ED7] at H7 E7
        by_cases hf7 : (fo : Int) % 7 = 3
        · have hf8 : (fo : Int).tmod 7 = 3 := by rw [Int.tmod_eq_emod_of_nonneg (by omega)]; exact hf7
          clear hf7
          have WI := hide (H7.out.act2 (E := .returned (.int .i64 0)) (D' := { D7.settled D7.sure with off := false, left := 0 }) (fun Y hY => by
            have C1 := crash_in (.slice none 0 0) [] 1 hY (by have := E7.out.pend; omega) (by decide) (.inl ⟨none, 0, rfl, rfl⟩)
            rw [crash_none] at C1
            exact C1))
          go_wp2_with fail
          refine WI.out.mono ?_
          rintro e w8 ⟨rfl, d8, s8⟩
          have H8 := hide d8
          have L8 := hide (s8.blk (by simp) L7.out)
          have j0 := L8.out.cell 0
          have j2 := L8.out.cell 2
          clear d8 s8 WI
          have E8 := hide (show Calm n (k + 1) { D7.settled D7.sure with off := false, left := 0 } from ⟨rfl, rfl, E7.out.size, Nat.zero_le _⟩)
          go_wp2_with fail
          go_roundw
          case rel => exact ⟨k + 1, _, _, by omega, by omega, by go_num, H8.out.mono (by simp), calm_le HC.out, E8.out⟩
          case measure => simp [intOf] <;> omega
        · have hf8 : ¬ (fo : Int).tmod 7 = 3 := by rw [Int.tmod_eq_emod_of_nonneg (by omega)]; exact hf7
          clear hf7
          go_wp2_with fail
          go_roundw
          case rel => exact ⟨k + 1, _, _, by omega, by omega, by go_num, H7.out.mono (by simp), calm_le HC.out, E7.out⟩
          case measure => simp [intOf] <;> omega
    · have hod2 : (k : Int).tmod 2 = 0 := by rw [Int.tmod_eq_emod_of_nonneg (by omega)]; omega
      clear hod
      go_wp2_with fail
      have H5d := hide (H5.out.step ((Upd.refl [] _).drew) (by simp) (by simp))
      have HK := hide (show k ≤ 1000 by omega)
      have C7 := hide (show Calm n (k + 1) (C.wrote fo fs) from calm_write HC.out fo fs)
      cases x2 with
      | false =>
        have i0 := L5.out.cell 0
        have i1 := L5.out.cell 1
        have i2 := L5.out.cell 2
        refine wp_region_held_drew (S := (fun w' => w'.cell? ⟨w4'.heap.size, 0, none⟩ = some (.int .i64 (fo : Int)) ∧ w'.cell? ⟨w4'.heap.size, 1, none⟩ = some (.string ⟨fs.toArray⟩) ∧ w'.cell? ⟨w4'.heap.size, 2, none⟩ = some (.bool false))) (by kernel_rfl) (by exact ⟨i0, i1, i2⟩) (fun hHeld => ?_)
        refine wpAnyH_take (i := 0) (oi := ?oi0f) (v := ?v0f) ?oi0_0f (by kernel_rfl) ?ff0f ?rr0f ?hq0f (Or.inl ⟨?hw0f, ?hy0f⟩) (by assumption) ?rest0f
        case oi0_0f =>
          conv =>
            lhs
            whnf
            arg 1
            whnf
        case hq0f => exact fun _ _ _ h => h
        case ff0f => kernel_rfl
        case rr0f => kernel_rfl
        case hw0f => rfl
        case hy0f =>
          intro w hSw
          (try dsimp only at hSw)
          first
          | (go_simp; done)
          | (go_simp; with_reducible rfl)
        try simp only [Act.put, List.setIfInBounds_toArray, List.set_cons_zero, List.set_cons_succ]
        refine wpAnyH_take (i := 1) (oi := ?oi1f) (v := ?v1f) ?oi0_1f (by kernel_rfl) ?ff1f ?rr1f ?hq1f (Or.inl ⟨?hw1f, ?hy1f⟩) (by assumption) ?rest1f
        case oi0_1f =>
          conv =>
            lhs
            whnf
            arg 1
            whnf
        case hq1f => exact fun _ _ _ h => h
        case ff1f => kernel_rfl
        case rr1f => kernel_rfl
        case hw1f => rfl
        case hy1f =>
          intro w hSw
          (try dsimp only at hSw)
          first
          | (go_simp; done)
          | (go_simp; with_reducible rfl)
        try simp only [Act.put, List.setIfInBounds_toArray, List.set_cons_zero, List.set_cons_succ]
        refine wpAnyH_take (i := 2) (oi := ?oi2f) (v := ?v2f) ?oi0_2f (by kernel_rfl) ?ff2f ?rr2f ?hq2f (Or.inl ⟨?hw2f, ?hy2f⟩) (by assumption) ?rest2f
        case oi0_2f =>
          conv =>
            lhs
            whnf
            arg 1
            whnf
        case hq2f => exact fun _ _ _ h => h
        case ff2f => kernel_rfl
        case rr2f => kernel_rfl
        case hw2f => rfl
        case hy2f =>
          intro w hSw
          (try dsimp only at hSw)
          first
          | (go_simp; done)
          | (go_simp; with_reducible rfl)
        try simp only [Act.put, List.setIfInBounds_toArray, List.set_cons_zero, List.set_cons_succ]
        refine wpAnyH_take (i := 3) (oi := ?oi3f) (v := ?v3f) ?oi0_3f (by kernel_rfl) ?ff3f ?rr3f ?hq3f (Or.inl ⟨?hw3f, ?hy3f⟩) (by assumption) ?rest3f
        case oi0_3f =>
          conv =>
            lhs
            whnf
            arg 1
            whnf
        case hq3f => exact fun _ _ _ h => h
        case ff3f => kernel_rfl
        case rr3f => kernel_rfl
        case hw3f => rfl
        case hy3f =>
          intro w hSw
          (try dsimp only at hSw)
          first
          | (go_simp; done)
          | (go_simp; with_reducible rfl)
        try simp only [Act.put, List.setIfInBounds_toArray, List.set_cons_zero, List.set_cons_succ]
        refine wpAnyH_take (i := 4) (oi := ?oi4f) (v := ?v4f) ?oi0_4f (by kernel_rfl) ?ff4f ?rr4f ?hq4f (Or.inl ⟨?hw4f, ?hy4f⟩) (by assumption) ?rest4f
        case oi0_4f =>
          conv =>
            lhs
            whnf
            arg 1
            whnf
        case hq4f => exact fun _ _ _ h => h
        case ff4f => kernel_rfl
        case rr4f => kernel_rfl
        case hw4f => rfl
        case hy4f =>
          intro w hSw
          (try dsimp only at hSw)
          first
          | (go_simp; done)
          | (go_simp; with_reducible rfl)
        try simp only [Act.put, List.setIfInBounds_toArray, List.set_cons_zero, List.set_cons_succ]
        refine wpAnyH_take (i := 6) (oi := ?oi6f) (v := ?v6f) ?oi0_6f (by kernel_rfl) ?ff6f ?rr6f ?hq6f (Or.inl ⟨?hw6f, ?hy6f⟩) (by assumption) ?rest6f
        case oi0_6f =>
          conv =>
            lhs
            whnf
            arg 1
            whnf
        case hq6f => exact fun _ _ _ h => h
        case ff6f => kernel_rfl
        case rr6f => kernel_rfl
        case hw6f => rfl
        case hy6f =>
          intro w hSw
          (try dsimp only at hSw)
          first
          | (go_simp; done)
          | (go_simp; with_reducible rfl)
        try simp only [Act.put, List.setIfInBounds_toArray, List.set_cons_zero, List.set_cons_succ]
        refine wpAnyH_take (i := 7) (oi := ?oi7f) (v := ?v7f) ?oi0_7f (by kernel_rfl) ?ff7f ?rr7f ?hq7f (Or.inl ⟨?hw7f, ?hy7f⟩) (by assumption) ?rest7f
        case oi0_7f =>
          conv =>
            lhs
            whnf
            arg 1
            whnf
        case hq7f => exact fun _ _ _ h => h
        case ff7f => kernel_rfl
        case rr7f => kernel_rfl
        case hw7f => rfl
        case hy7f =>
          intro w hSw
          (try dsimp only at hSw)
          first
          | (go_simp; done)
          | (go_simp; with_reducible rfl)
        try simp only [Act.put, List.setIfInBounds_toArray, List.set_cons_zero, List.set_cons_succ]
        refine wpAnyH_take (i := 8) (oi := ?oi8f) (v := ?v8f) ?oi0_8f (by kernel_rfl) ?ff8f ?rr8f ?hq8f (Or.inl ⟨?hw8f, ?hy8f⟩) (by assumption) ?rest8f
        case oi0_8f =>
          conv =>
            lhs
            whnf
            arg 1
            whnf
        case hq8f => exact fun _ _ _ h => h
        case ff8f => kernel_rfl
        case rr8f => kernel_rfl
        case hw8f => rfl
        case hy8f =>
          intro w hSw
          (try dsimp only at hSw)
          first
          | (go_simp; done)
          | (go_simp; with_reducible rfl)
        try simp only [Act.put, List.setIfInBounds_toArray, List.set_cons_zero, List.set_cons_succ]
        refine wpAnyH_take (i := 9) (oi := ?oi9f) (v := ?v9f) ?oi0_9f (by kernel_rfl) ?ff9f ?rr9f ?hq9f (Or.inl ⟨?hw9f, ?hy9f⟩) (by assumption) ?rest9f
        case oi0_9f =>
          conv =>
            lhs
            whnf
            arg 1
            whnf
        case hq9f => exact fun _ _ _ h => h
        case ff9f => kernel_rfl
        case rr9f => kernel_rfl
        case hw9f => rfl
        case hy9f =>
          intro w hSw
          (try dsimp only at hSw)
          first
          | (go_simp; done)
          | (go_simp; with_reducible rfl)
        try simp only [Act.put, List.setIfInBounds_toArray, List.set_cons_zero, List.set_cons_succ]
        refine wpAnyH_take (i := 10) (oi := ?oi10f) (v := ?v10f) ?oi0_10f (by kernel_rfl) ?ff10f ?rr10f ?hq10f (Or.inl ⟨?hw10f, ?hy10f⟩) (by assumption) ?rest10f
        case oi0_10f =>
          conv =>
            lhs
            whnf
            arg 1
            whnf
        case hq10f => exact fun _ _ _ h => h
        case ff10f => kernel_rfl
        case rr10f => kernel_rfl
        case hw10f => rfl
        case hy10f =>
          intro w hSw
          (try dsimp only at hSw)
          first
          | (go_simp; done)
          | (go_simp; with_reducible rfl)
        try simp only [Act.put, List.setIfInBounds_toArray, List.set_cons_zero, List.set_cons_succ]
        refine wpAnyH_ready (rs := [5]) (by kernel_rfl) (by simp) (AllReadyH.cons (o := ?oi5f) ?oi0_5f (fun K hK => ?_) AllReadyH.nil)
        case oi0_5f =>
          conv =>
            lhs
            whnf
            arg 1
            whnf
        go_simp
        go_at_call 21
        have TT := (write_one HC.out HK.out HF.out H5d.out)
        with_reducible (refine TT.mono ?_)
        clear TT
        rintro e w6 ⟨rfl, d6, s6⟩
        have H6 := hide d6
        have L6 := hide (s6.blk (by simp) L5.out)
        have i60 := L6.out.cell 0
        have i61 := L6.out.cell 1
        have i62 := L6.out.cell 2
        clear d6 s6
        (try dsimp only)
        refine hK.out _ _ (by exact ⟨i60, i61, i62⟩) (fun hHeld => ?_)
        clear hK K
        try simp only [Act.put, List.setIfInBounds_toArray, List.set_cons_zero, List.set_cons_succ]
        refine wpAnyH_ready (rs := [11]) (by kernel_rfl) (by simp) (AllReadyH.cons (o := ?oi11f) ?oi0_11f (fun K hK => ?_) AllReadyH.nil)
        case oi0_11f =>
          conv =>
            lhs
            whnf
            arg 1
            whnf
        go_simp
        go_at_call 21
        have TT := (write_three HC.out HK.out HF.out H6.out)
        with_reducible (refine TT.mono ?_)
        clear TT
        rintro e w7 ⟨rfl, d7, s7⟩
        have H7 := hide d7
        have L7 := hide (s7.blk (by simp) L6.out)
        have i70 := L7.out.cell 0
        have i71 := L7.out.cell 1
        have i72 := L7.out.cell 2
        clear d7 s7
        (try dsimp only)
        refine hK.out _ _ (by exact ⟨i70, i71, i72⟩) (fun hHeld => ?_)
        clear hK K
        try simp only [Act.put, List.setIfInBounds_toArray, List.set_cons_zero, List.set_cons_succ]
        refine wpAnyH_take (i := 12) (oi := ?oi12f) (v := ?v12f) ?oi0_12f (by kernel_rfl) ?ff12f ?rr12f ?hq12f (Or.inl ⟨?hw12f, ?hy12f⟩) (by assumption) ?rest12f
        case oi0_12f =>
          conv =>
            lhs
            whnf
            arg 1
            whnf
        case hq12f => exact fun _ _ _ h => h
        case ff12f => kernel_rfl
        case rr12f => kernel_rfl
        case hw12f => rfl
        case hy12f =>
          intro w hSw
          (try dsimp only at hSw)
          first
          | (go_simp; done)
          | (go_simp; with_reducible rfl)
        try simp only [Act.put, List.setIfInBounds_toArray, List.set_cons_zero, List.set_cons_succ]
        refine wpAnyH_take (i := 13) (oi := ?oi13f) (v := ?v13f) ?oi0_13f (by kernel_rfl) ?ff13f ?rr13f ?hq13f (Or.inl ⟨?hw13f, ?hy13f⟩) (by assumption) ?rest13f
        case oi0_13f =>
          conv =>
            lhs
            whnf
            arg 1
            whnf
        case hq13f => exact fun _ _ _ h => h
        case ff13f => kernel_rfl
        case rr13f => kernel_rfl
        case hw13f => rfl
        case hy13f =>
          intro w hSw
          (try dsimp only at hSw)
          first
          | (go_simp; done)
          | (go_simp; with_reducible rfl)
        try simp only [Act.put, List.setIfInBounds_toArray, List.set_cons_zero, List.set_cons_succ]
        refine wpAnyH_take (i := 14) (oi := ?oi14f) (v := ?v14f) ?oi0_14f (by kernel_rfl) ?ff14f ?rr14f ?hq14f (Or.inl ⟨?hw14f, ?hy14f⟩) (by assumption) ?rest14f
        case oi0_14f =>
          conv =>
            lhs
            whnf
            arg 1
            whnf
        case hq14f => exact fun _ _ _ h => h
        case ff14f => kernel_rfl
        case rr14f => kernel_rfl
        case hw14f => rfl
        case hy14f =>
          intro w hSw
          (try dsimp only at hSw)
          first
          | (go_simp; done)
          | (go_simp; with_reducible rfl)
        try simp only [Act.put, List.setIfInBounds_toArray, List.set_cons_zero, List.set_cons_succ]
        refine wpAnyH_take (i := 15) (oi := ?oi15f) (v := ?v15f) ?oi0_15f (by kernel_rfl) ?ff15f ?rr15f ?hq15f (Or.inl ⟨?hw15f, ?hy15f⟩) (by assumption) ?rest15f
        case oi0_15f =>
          conv =>
            lhs
            whnf
            arg 1
            whnf
        case hq15f => exact fun _ _ _ h => h
        case ff15f => kernel_rfl
        case rr15f => kernel_rfl
        case hw15f => rfl
        case hy15f =>
          intro w hSw
          (try dsimp only at hSw)
          first
          | (go_simp; done)
          | (go_simp; with_reducible rfl)
        try simp only [Act.put, List.setIfInBounds_toArray, List.set_cons_zero, List.set_cons_succ]
        refine wpAnyH_take (i := 16) (oi := ?oi16f) (v := ?v16f) ?oi0_16f (by kernel_rfl) ?ff16f ?rr16f ?hq16f (Or.inl ⟨?hw16f, ?hy16f⟩) (by assumption) ?rest16f
        case oi0_16f =>
          conv =>
            lhs
            whnf
            arg 1
            whnf
        case hq16f => exact fun _ _ _ h => h
        case ff16f => kernel_rfl
        case rr16f => kernel_rfl
        case hw16f => rfl
        case hy16f =>
          intro w hSw
          (try dsimp only at hSw)
          first
          | (go_simp; done)
          | (go_simp; with_reducible rfl)
        try simp only [Act.put, List.setIfInBounds_toArray, List.set_cons_zero, List.set_cons_succ]
        refine wpAnyH_take (i := 17) (oi := ?oi17f) (v := undef) ?oi0_17f (by kernel_rfl) ?ff17f ?rr17f ?hq17f (Or.inr ⟨?hw17f, rfl⟩) (by assumption) ?rest17f
        case oi0_17f =>
          conv =>
            lhs
            whnf
            arg 1
            whnf
        case hq17f => exact fun _ _ _ h => h
        case ff17f => kernel_rfl
        case rr17f => kernel_rfl
        case hw17f => rfl
        try simp only [Act.put, List.setIfInBounds_toArray, List.set_cons_zero, List.set_cons_succ]
        refine wpAnyH_take (i := 19) (oi := ?oi19f) (v := undef) ?oi0_19f (by kernel_rfl) ?ff19f ?rr19f ?hq19f (Or.inr ⟨?hw19f, rfl⟩) (by assumption) ?rest19f
        case oi0_19f =>
          conv =>
            lhs
            whnf
            arg 1
            whnf
        case hq19f => exact fun _ _ _ h => h
        case ff19f => kernel_rfl
        case rr19f => kernel_rfl
        case hw19f => rfl
        try simp only [Act.put, List.setIfInBounds_toArray, List.set_cons_zero, List.set_cons_succ]
        refine wpAnyH_ready (rs := [18]) (by kernel_rfl) (by simp) (AllReadyH.cons (o := ?oi18f) ?oi0_18f (fun K hK => ?_) AllReadyH.nil)
        case oi0_18f =>
          conv =>
            lhs
            whnf
            arg 1
            whnf
        rw [if_neg (by simp [Region.wanted, yielded])]
        refine hK.out _ _ (by assumption) (fun _ => ?_)
        clear hK K
        try simp only [Act.put, List.setIfInBounds_toArray, List.set_cons_zero, List.set_cons_succ]
        refine wpAnyH_ready (rs := [20]) (by kernel_rfl) (by simp) (AllReadyH.cons (o := ?oi20f) ?oi0_20f (fun K hK => ?_) AllReadyH.nil)
        case oi0_20f =>
          conv =>
            lhs
            whnf
            arg 1
            whnf
        rw [if_neg (by simp [Region.wanted, yielded])]
        refine hK.out _ _ (by assumption) (fun _ => ?_)
        clear hK K
        try simp only [Act.put, List.setIfInBounds_toArray, List.set_cons_zero, List.set_cons_succ]
        refine wpAnyH_take (i := 21) (oi := ?oi21f) (v := undef) ?oi0_21f (by kernel_rfl) ?ff21f ?rr21f ?hq21f (Or.inr ⟨?hw21f, rfl⟩) (by assumption) ?rest21f
        case oi0_21f =>
          conv =>
            lhs
            whnf
            arg 1
            whnf
        case hq21f => exact fun _ _ _ h => h
        case ff21f => kernel_rfl
        case rr21f => kernel_rfl
        case hw21f => rfl
        try simp only [Act.put, List.setIfInBounds_toArray, List.set_cons_zero, List.set_cons_succ]
        refine wpAnyH_take (i := 22) (oi := ?oi22f) (v := ?v22f) ?oi0_22f (by kernel_rfl) ?ff22f ?rr22f ?hq22f (Or.inl ⟨?hw22f, ?hy22f⟩) (by assumption) ?rest22f
        case oi0_22f =>
          conv =>
            lhs
            whnf
            arg 1
            whnf
        case hq22f => exact fun _ _ _ h => h
        case ff22f => kernel_rfl
        case rr22f => kernel_rfl
        case hw22f => rfl
        case hy22f =>
          intro w hSw
          (try dsimp only at hSw)
          first
          | (go_simp; done)
          | (go_simp; with_reducible rfl)
        try simp only [Act.put, List.setIfInBounds_toArray, List.set_cons_zero, List.set_cons_succ]
        refine wpAnyH_take (i := 23) (oi := ?oi23f) (v := ?v23f) ?oi0_23f (by kernel_rfl) ?ff23f ?rr23f ?hq23f (Or.inl ⟨?hw23f, ?hy23f⟩) (by assumption) ?rest23f
        case oi0_23f =>
          conv =>
            lhs
            whnf
            arg 1
            whnf
        case hq23f => exact fun _ _ _ h => h
        case ff23f => kernel_rfl
        case rr23f => kernel_rfl
        case hw23f => rfl
        case hy23f =>
          intro w hSw
          (try dsimp only at hSw)
          first
          | (go_simp; done)
          | (go_simp; with_reducible rfl)
        try simp only [Act.put, List.setIfInBounds_toArray, List.set_cons_zero, List.set_cons_succ]
        refine wpAnyH_done (by kernel_rfl) ?_ _
        have CE := hide (show Calm n (k + 1) (C.wrote fo fs) from C7.out)
        go_wp2_with fail
        go_roundw
        case rel => exact ⟨k + 1, (C.wrote fo fs), D, by omega, by omega, by go_num, H7.out.mono (by simp), CE.out, calm_le HE.out⟩
        case measure => simp [intOf] <;> omega
      | true =>
        have i0 := L5.out.cell 0
        have i1 := L5.out.cell 1
        have i2 := L5.out.cell 2
        refine wp_region_held_drew (S := (fun w' => w'.cell? ⟨w4'.heap.size, 0, none⟩ = some (.int .i64 (fo : Int)) ∧ w'.cell? ⟨w4'.heap.size, 1, none⟩ = some (.string ⟨fs.toArray⟩) ∧ w'.cell? ⟨w4'.heap.size, 2, none⟩ = some (.bool true))) (by kernel_rfl) (by exact ⟨i0, i1, i2⟩) (fun hHeld => ?_)
        refine wpAnyH_take (i := 0) (oi := ?oi0t) (v := ?v0t) ?oi0_0t (by kernel_rfl) ?ff0t ?rr0t ?hq0t (Or.inl ⟨?hw0t, ?hy0t⟩) (by assumption) ?rest0t
        case oi0_0t =>
          conv =>
            lhs
            whnf
            arg 1
            whnf
        case hq0t => exact fun _ _ _ h => h
        case ff0t => kernel_rfl
        case rr0t => kernel_rfl
        case hw0t => rfl
        case hy0t =>
          intro w hSw
          (try dsimp only at hSw)
          first
          | (go_simp; done)
          | (go_simp; with_reducible rfl)
        try simp only [Act.put, List.setIfInBounds_toArray, List.set_cons_zero, List.set_cons_succ]
        refine wpAnyH_take (i := 1) (oi := ?oi1t) (v := ?v1t) ?oi0_1t (by kernel_rfl) ?ff1t ?rr1t ?hq1t (Or.inl ⟨?hw1t, ?hy1t⟩) (by assumption) ?rest1t
        case oi0_1t =>
          conv =>
            lhs
            whnf
            arg 1
            whnf
        case hq1t => exact fun _ _ _ h => h
        case ff1t => kernel_rfl
        case rr1t => kernel_rfl
        case hw1t => rfl
        case hy1t =>
          intro w hSw
          (try dsimp only at hSw)
          first
          | (go_simp; done)
          | (go_simp; with_reducible rfl)
        try simp only [Act.put, List.setIfInBounds_toArray, List.set_cons_zero, List.set_cons_succ]
        refine wpAnyH_take (i := 2) (oi := ?oi2t) (v := ?v2t) ?oi0_2t (by kernel_rfl) ?ff2t ?rr2t ?hq2t (Or.inl ⟨?hw2t, ?hy2t⟩) (by assumption) ?rest2t
        case oi0_2t =>
          conv =>
            lhs
            whnf
            arg 1
            whnf
        case hq2t => exact fun _ _ _ h => h
        case ff2t => kernel_rfl
        case rr2t => kernel_rfl
        case hw2t => rfl
        case hy2t =>
          intro w hSw
          (try dsimp only at hSw)
          first
          | (go_simp; done)
          | (go_simp; with_reducible rfl)
        try simp only [Act.put, List.setIfInBounds_toArray, List.set_cons_zero, List.set_cons_succ]
        refine wpAnyH_take (i := 3) (oi := ?oi3t) (v := ?v3t) ?oi0_3t (by kernel_rfl) ?ff3t ?rr3t ?hq3t (Or.inl ⟨?hw3t, ?hy3t⟩) (by assumption) ?rest3t
        case oi0_3t =>
          conv =>
            lhs
            whnf
            arg 1
            whnf
        case hq3t => exact fun _ _ _ h => h
        case ff3t => kernel_rfl
        case rr3t => kernel_rfl
        case hw3t => rfl
        case hy3t =>
          intro w hSw
          (try dsimp only at hSw)
          first
          | (go_simp; done)
          | (go_simp; with_reducible rfl)
        try simp only [Act.put, List.setIfInBounds_toArray, List.set_cons_zero, List.set_cons_succ]
        refine wpAnyH_take (i := 4) (oi := ?oi4t) (v := ?v4t) ?oi0_4t (by kernel_rfl) ?ff4t ?rr4t ?hq4t (Or.inl ⟨?hw4t, ?hy4t⟩) (by assumption) ?rest4t
        case oi0_4t =>
          conv =>
            lhs
            whnf
            arg 1
            whnf
        case hq4t => exact fun _ _ _ h => h
        case ff4t => kernel_rfl
        case rr4t => kernel_rfl
        case hw4t => rfl
        case hy4t =>
          intro w hSw
          (try dsimp only at hSw)
          first
          | (go_simp; done)
          | (go_simp; with_reducible rfl)
        try simp only [Act.put, List.setIfInBounds_toArray, List.set_cons_zero, List.set_cons_succ]
        refine wpAnyH_take (i := 6) (oi := ?oi6t) (v := ?v6t) ?oi0_6t (by kernel_rfl) ?ff6t ?rr6t ?hq6t (Or.inl ⟨?hw6t, ?hy6t⟩) (by assumption) ?rest6t
        case oi0_6t =>
          conv =>
            lhs
            whnf
            arg 1
            whnf
        case hq6t => exact fun _ _ _ h => h
        case ff6t => kernel_rfl
        case rr6t => kernel_rfl
        case hw6t => rfl
        case hy6t =>
          intro w hSw
          (try dsimp only at hSw)
          first
          | (go_simp; done)
          | (go_simp; with_reducible rfl)
        try simp only [Act.put, List.setIfInBounds_toArray, List.set_cons_zero, List.set_cons_succ]
        refine wpAnyH_take (i := 7) (oi := ?oi7t) (v := ?v7t) ?oi0_7t (by kernel_rfl) ?ff7t ?rr7t ?hq7t (Or.inl ⟨?hw7t, ?hy7t⟩) (by assumption) ?rest7t
        case oi0_7t =>
          conv =>
            lhs
            whnf
            arg 1
            whnf
        case hq7t => exact fun _ _ _ h => h
        case ff7t => kernel_rfl
        case rr7t => kernel_rfl
        case hw7t => rfl
        case hy7t =>
          intro w hSw
          (try dsimp only at hSw)
          first
          | (go_simp; done)
          | (go_simp; with_reducible rfl)
        try simp only [Act.put, List.setIfInBounds_toArray, List.set_cons_zero, List.set_cons_succ]
        refine wpAnyH_take (i := 8) (oi := ?oi8t) (v := ?v8t) ?oi0_8t (by kernel_rfl) ?ff8t ?rr8t ?hq8t (Or.inl ⟨?hw8t, ?hy8t⟩) (by assumption) ?rest8t
        case oi0_8t =>
          conv =>
            lhs
            whnf
            arg 1
            whnf
        case hq8t => exact fun _ _ _ h => h
        case ff8t => kernel_rfl
        case rr8t => kernel_rfl
        case hw8t => rfl
        case hy8t =>
          intro w hSw
          (try dsimp only at hSw)
          first
          | (go_simp; done)
          | (go_simp; with_reducible rfl)
        try simp only [Act.put, List.setIfInBounds_toArray, List.set_cons_zero, List.set_cons_succ]
        refine wpAnyH_take (i := 9) (oi := ?oi9t) (v := ?v9t) ?oi0_9t (by kernel_rfl) ?ff9t ?rr9t ?hq9t (Or.inl ⟨?hw9t, ?hy9t⟩) (by assumption) ?rest9t
        case oi0_9t =>
          conv =>
            lhs
            whnf
            arg 1
            whnf
        case hq9t => exact fun _ _ _ h => h
        case ff9t => kernel_rfl
        case rr9t => kernel_rfl
        case hw9t => rfl
        case hy9t =>
          intro w hSw
          (try dsimp only at hSw)
          first
          | (go_simp; done)
          | (go_simp; with_reducible rfl)
        try simp only [Act.put, List.setIfInBounds_toArray, List.set_cons_zero, List.set_cons_succ]
        refine wpAnyH_take (i := 10) (oi := ?oi10t) (v := ?v10t) ?oi0_10t (by kernel_rfl) ?ff10t ?rr10t ?hq10t (Or.inl ⟨?hw10t, ?hy10t⟩) (by assumption) ?rest10t
        case oi0_10t =>
          conv =>
            lhs
            whnf
            arg 1
            whnf
        case hq10t => exact fun _ _ _ h => h
        case ff10t => kernel_rfl
        case rr10t => kernel_rfl
        case hw10t => rfl
        case hy10t =>
          intro w hSw
          (try dsimp only at hSw)
          first
          | (go_simp; done)
          | (go_simp; with_reducible rfl)
        try simp only [Act.put, List.setIfInBounds_toArray, List.set_cons_zero, List.set_cons_succ]
        refine wpAnyH_ready (rs := [5]) (by kernel_rfl) (by simp) (AllReadyH.cons (o := ?oi5t) ?oi0_5t (fun K hK => ?_) AllReadyH.nil)
        case oi0_5t =>
          conv =>
            lhs
            whnf
            arg 1
            whnf
        go_simp
        go_at_call 21
        have TT := (write_one HC.out HK.out HF.out H5d.out)
        with_reducible (refine TT.mono ?_)
        clear TT
        rintro e w6 ⟨rfl, d6, s6⟩
        have H6 := hide d6
        have L6 := hide (s6.blk (by simp) L5.out)
        have i60 := L6.out.cell 0
        have i61 := L6.out.cell 1
        have i62 := L6.out.cell 2
        clear d6 s6
        (try dsimp only)
        refine hK.out _ _ (by exact ⟨i60, i61, i62⟩) (fun hHeld => ?_)
        clear hK K
        try simp only [Act.put, List.setIfInBounds_toArray, List.set_cons_zero, List.set_cons_succ]
        refine wpAnyH_ready (rs := [11]) (by kernel_rfl) (by simp) (AllReadyH.cons (o := ?oi11t) ?oi0_11t (fun K hK => ?_) AllReadyH.nil)
        case oi0_11t =>
          conv =>
            lhs
            whnf
            arg 1
            whnf
        go_simp
        go_at_call 21
        have TT := (write_three HC.out HK.out HF.out H6.out)
        with_reducible (refine TT.mono ?_)
        clear TT
        rintro e w7 ⟨rfl, d7, s7⟩
        have H7 := hide d7
        have L7 := hide (s7.blk (by simp) L6.out)
        have i70 := L7.out.cell 0
        have i71 := L7.out.cell 1
        have i72 := L7.out.cell 2
        clear d7 s7
        (try dsimp only)
        refine hK.out _ _ (by exact ⟨i70, i71, i72⟩) (fun hHeld => ?_)
        clear hK K
        try simp only [Act.put, List.setIfInBounds_toArray, List.set_cons_zero, List.set_cons_succ]
        refine wpAnyH_take (i := 12) (oi := ?oi12t) (v := ?v12t) ?oi0_12t (by kernel_rfl) ?ff12t ?rr12t ?hq12t (Or.inl ⟨?hw12t, ?hy12t⟩) (by assumption) ?rest12t
        case oi0_12t =>
          conv =>
            lhs
            whnf
            arg 1
            whnf
        case hq12t => exact fun _ _ _ h => h
        case ff12t => kernel_rfl
        case rr12t => kernel_rfl
        case hw12t => rfl
        case hy12t =>
          intro w hSw
          (try dsimp only at hSw)
          first
          | (go_simp; done)
          | (go_simp; with_reducible rfl)
        try simp only [Act.put, List.setIfInBounds_toArray, List.set_cons_zero, List.set_cons_succ]
        refine wpAnyH_take (i := 13) (oi := ?oi13t) (v := ?v13t) ?oi0_13t (by kernel_rfl) ?ff13t ?rr13t ?hq13t (Or.inl ⟨?hw13t, ?hy13t⟩) (by assumption) ?rest13t
        case oi0_13t =>
          conv =>
            lhs
            whnf
            arg 1
            whnf
        case hq13t => exact fun _ _ _ h => h
        case ff13t => kernel_rfl
        case rr13t => kernel_rfl
        case hw13t => rfl
        case hy13t =>
          intro w hSw
          (try dsimp only at hSw)
          first
          | (go_simp; done)
          | (go_simp; with_reducible rfl)
        try simp only [Act.put, List.setIfInBounds_toArray, List.set_cons_zero, List.set_cons_succ]
        refine wpAnyH_take (i := 14) (oi := ?oi14t) (v := ?v14t) ?oi0_14t (by kernel_rfl) ?ff14t ?rr14t ?hq14t (Or.inl ⟨?hw14t, ?hy14t⟩) (by assumption) ?rest14t
        case oi0_14t =>
          conv =>
            lhs
            whnf
            arg 1
            whnf
        case hq14t => exact fun _ _ _ h => h
        case ff14t => kernel_rfl
        case rr14t => kernel_rfl
        case hw14t => rfl
        case hy14t =>
          intro w hSw
          (try dsimp only at hSw)
          first
          | (go_simp; done)
          | (go_simp; with_reducible rfl)
        try simp only [Act.put, List.setIfInBounds_toArray, List.set_cons_zero, List.set_cons_succ]
        refine wpAnyH_take (i := 15) (oi := ?oi15t) (v := ?v15t) ?oi0_15t (by kernel_rfl) ?ff15t ?rr15t ?hq15t (Or.inl ⟨?hw15t, ?hy15t⟩) (by assumption) ?rest15t
        case oi0_15t =>
          conv =>
            lhs
            whnf
            arg 1
            whnf
        case hq15t => exact fun _ _ _ h => h
        case ff15t => kernel_rfl
        case rr15t => kernel_rfl
        case hw15t => rfl
        case hy15t =>
          intro w hSw
          (try dsimp only at hSw)
          first
          | (go_simp; done)
          | (go_simp; with_reducible rfl)
        try simp only [Act.put, List.setIfInBounds_toArray, List.set_cons_zero, List.set_cons_succ]
        refine wpAnyH_take (i := 16) (oi := ?oi16t) (v := ?v16t) ?oi0_16t (by kernel_rfl) ?ff16t ?rr16t ?hq16t (Or.inl ⟨?hw16t, ?hy16t⟩) (by assumption) ?rest16t
        case oi0_16t =>
          conv =>
            lhs
            whnf
            arg 1
            whnf
        case hq16t => exact fun _ _ _ h => h
        case ff16t => kernel_rfl
        case rr16t => kernel_rfl
        case hw16t => rfl
        case hy16t =>
          intro w hSw
          (try dsimp only at hSw)
          first
          | (go_simp; done)
          | (go_simp; with_reducible rfl)
        try simp only [Act.put, List.setIfInBounds_toArray, List.set_cons_zero, List.set_cons_succ]
        refine wpAnyH_take (i := 17) (oi := ?oi17t) (v := ?v17t) ?oi0_17t (by kernel_rfl) ?ff17t ?rr17t ?hq17t (Or.inl ⟨?hw17t, ?hy17t⟩) (by assumption) ?rest17t
        case oi0_17t =>
          conv =>
            lhs
            whnf
            arg 1
            whnf
        case hq17t => exact fun _ _ _ h => h
        case ff17t => kernel_rfl
        case rr17t => kernel_rfl
        case hw17t => rfl
        case hy17t =>
          intro w hSw
          (try dsimp only at hSw)
          first
          | (go_simp; done)
          | (go_simp; with_reducible rfl)
        try simp only [Act.put, List.setIfInBounds_toArray, List.set_cons_zero, List.set_cons_succ]
        refine wpAnyH_take (i := 19) (oi := ?oi19t) (v := ?v19t) ?oi0_19t (by kernel_rfl) ?ff19t ?rr19t ?hq19t (Or.inl ⟨?hw19t, ?hy19t⟩) (by assumption) ?rest19t
        case oi0_19t =>
          conv =>
            lhs
            whnf
            arg 1
            whnf
        case hq19t => exact fun _ _ _ h => h
        case ff19t => kernel_rfl
        case rr19t => kernel_rfl
        case hw19t => rfl
        case hy19t =>
          intro w hSw
          (try dsimp only at hSw)
          first
          | (go_simp; done)
          | (go_simp; with_reducible rfl)
        try simp only [Act.put, List.setIfInBounds_toArray, List.set_cons_zero, List.set_cons_succ]
        refine wpAnyH_ready (rs := [18]) (by kernel_rfl) (by simp) (AllReadyH.cons (o := ?oi18t) ?oi0_18t (fun K hK => ?_) AllReadyH.nil)
        case oi0_18t =>
          conv =>
            lhs
            whnf
            arg 1
            whnf
        go_simp
        go_at_call 23
        have TT := (sync_one C7.out H7.out)
        with_reducible (refine TT.mono ?_)
        clear TT
        rintro e w8 ⟨rfl, d8, s8⟩
        have H8 := hide d8
        have L8 := hide (s8.blk (by simp) L7.out)
        have i80 := L8.out.cell 0
        have i81 := L8.out.cell 1
        have i82 := L8.out.cell 2
        clear d8 s8
        (try dsimp only)
        refine hK.out _ _ (by exact ⟨i80, i81, i82⟩) (fun hHeld => ?_)
        clear hK K
        try simp only [Act.put, List.setIfInBounds_toArray, List.set_cons_zero, List.set_cons_succ]
        refine wpAnyH_ready (rs := [20]) (by kernel_rfl) (by simp) (AllReadyH.cons (o := ?oi20t) ?oi0_20t (fun K hK => ?_) AllReadyH.nil)
        case oi0_20t =>
          conv =>
            lhs
            whnf
            arg 1
            whnf
        go_simp
        go_at_call 23
        have TT := (sync_three C7.out H8.out)
        with_reducible (refine TT.mono ?_)
        clear TT
        rintro e w9 ⟨rfl, d9, s9⟩
        have H9 := hide d9
        have L9 := hide (s9.blk (by simp) L8.out)
        have i90 := L9.out.cell 0
        have i91 := L9.out.cell 1
        have i92 := L9.out.cell 2
        clear d9 s9
        (try dsimp only)
        refine hK.out _ _ (by exact ⟨i90, i91, i92⟩) (fun hHeld => ?_)
        clear hK K
        try simp only [Act.put, List.setIfInBounds_toArray, List.set_cons_zero, List.set_cons_succ]
        refine wpAnyH_take (i := 21) (oi := ?oi21t) (v := ?v21t) ?oi0_21t (by kernel_rfl) ?ff21t ?rr21t ?hq21t (Or.inl ⟨?hw21t, ?hy21t⟩) (by assumption) ?rest21t
        case oi0_21t =>
          conv =>
            lhs
            whnf
            arg 1
            whnf
        case hq21t => exact fun _ _ _ h => h
        case ff21t => kernel_rfl
        case rr21t => kernel_rfl
        case hw21t => rfl
        case hy21t =>
          intro w hSw
          (try dsimp only at hSw)
          first
          | (go_simp; done)
          | (go_simp; with_reducible rfl)
        try simp only [Act.put, List.setIfInBounds_toArray, List.set_cons_zero, List.set_cons_succ]
        refine wpAnyH_take (i := 22) (oi := ?oi22t) (v := ?v22t) ?oi0_22t (by kernel_rfl) ?ff22t ?rr22t ?hq22t (Or.inl ⟨?hw22t, ?hy22t⟩) (by assumption) ?rest22t
        case oi0_22t =>
          conv =>
            lhs
            whnf
            arg 1
            whnf
        case hq22t => exact fun _ _ _ h => h
        case ff22t => kernel_rfl
        case rr22t => kernel_rfl
        case hw22t => rfl
        case hy22t =>
          intro w hSw
          (try dsimp only at hSw)
          first
          | (go_simp; done)
          | (go_simp; with_reducible rfl)
        try simp only [Act.put, List.setIfInBounds_toArray, List.set_cons_zero, List.set_cons_succ]
        refine wpAnyH_take (i := 23) (oi := ?oi23t) (v := ?v23t) ?oi0_23t (by kernel_rfl) ?ff23t ?rr23t ?hq23t (Or.inl ⟨?hw23t, ?hy23t⟩) (by assumption) ?rest23t
        case oi0_23t =>
          conv =>
            lhs
            whnf
            arg 1
            whnf
        case hq23t => exact fun _ _ _ h => h
        case ff23t => kernel_rfl
        case rr23t => kernel_rfl
        case hw23t => rfl
        case hy23t =>
          intro w hSw
          (try dsimp only at hSw)
          first
          | (go_simp; done)
          | (go_simp; with_reducible rfl)
        try simp only [Act.put, List.setIfInBounds_toArray, List.set_cons_zero, List.set_cons_succ]
        refine wpAnyH_done (by kernel_rfl) ?_ _
        have CE := hide (show Calm n (k + 1) ((C.wrote fo fs).settled (C.wrote fo fs).vis) from calm_sync C7.out H7.out.one.ok)
        go_wp2_with fail
        go_roundw
        case rel => exact ⟨k + 1, ((C.wrote fo fs).settled (C.wrote fo fs).vis), D, by omega, by omega, by go_num, H9.out.mono (by simp), CE.out, calm_le HE.out⟩
        case measure => simp [intOf] <;> omega
end Go.Proofs.Ythjcgaahnpbcdaa
