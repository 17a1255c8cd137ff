/-
  The walk of the statement on Cut: exactly n further writes succeed.
-/
import Derived.Test.YthjcgaahnpbcdaaLawAS
namespace Go.Proofs.Ythjcgaahnpbcdaa
open Go.RowKit
set_option maxRecDepth 100000
set_option maxHeartbeats 1000000

/-- The state after k writes, c of which may succeed. -/
structure CutSt (n c k : Nat) (D : DiskS) : Prop where
  off : D.off = decide (c ≤ k)
  left : D.left = c - k
  size : D.sure.length = n
  pend : D.pend.length = min k c
  shown : Shown D
theorem cut_start (n c : Nat) : ((DiskS.fresh n).cut ((c : Int) + 5)) = ({ DiskS.fresh n with off := false, left := c + 5 }, 0) := by
  have h1 : ¬ ((c : Int) + 5 < 0) := by omega
  have h2 : ((c : Int) + 5).toNat = c + 5 := by omega
  have h3 : ¬ ((c : Int) + 5 = 0) := by omega
  simp [DiskS.cut, DiskS.fresh, h1, h2, h3]
theorem cut_next (n c : Nat) : ({ DiskS.fresh n with off := false, left := c + 5 } : DiskS).cut (c : Int) = ({ DiskS.fresh n with off := decide (c ≤ 0), left := c }, 0) := by
  have h1 : ¬ ((c : Int) < 0) := by omega
  have h3 : decide ((c : Int) = 0) = decide (c ≤ 0) := by rw [decide_eq_decide]; omega
  simp only [DiskS.cut, DiskS.fresh, h1, h3]
  simp
theorem mem_three {a b : Nat} {l : List Nat} : ∀ x ∈ l, x ∈ a :: ([b] ++ l) := fun _ hx => by simp [hx]
theorem mem_two {a : Nat} {l : List Nat} : ∀ x ∈ l, x ∈ a :: l := fun _ hx => List.mem_cons_of_mem _ hx
theorem cutSt_start (n c : Nat) : CutSt n c 0 { DiskS.fresh n with off := decide (c ≤ 0), left := c } := ⟨rfl, by simp, by simp [DiskS.fresh], by simp [DiskS.fresh], rfl⟩
theorem cut_write {n c k : Nat} {D : DiskS} (h : CutSt n c k D) (hk : k < c) {off : Nat} {s : List UInt8} (hf : off + s.length ≤ n) :
    D.write off s = (D.written off s, 0) ∧ CutSt n c (k + 1) (D.written off s) ∧ (D.written off s).vis = put D.vis off s := by
  have hi : inB D.sure.length off s.length = true := by simp [inB, h.size]; omega
  have ho : D.off = false := by rw [h.off]; simp; omega
  have hl := h.left
  have hl0 : ¬ D.left = 0 := by omega
  have hv : D.written off s = { D with pend := D.pend ++ [(off, s)], vis := put D.vis off s, left := D.left - 1, off := decide (D.left - 1 = 0) } := by
    simp [DiskS.written, DiskS.used, hl0]
  refine ⟨by simp [DiskS.write, hi, ho], ?_, by rw [hv]⟩
  rw [hv]
  refine ⟨?_, by show D.left - 1 = _; omega, h.size, by simp [h.pend]; omega, shown_write h.shown off s⟩
  show decide (D.left - 1 = 0) = decide (c ≤ k + 1)
  rw [decide_eq_decide]
  omega
theorem cut_stop {n c k : Nat} {D : DiskS} (h : CutSt n c k D) (hk : c ≤ k) (off : Int) (s : List UInt8) : D.write off s = (D, 331) ∧ CutSt n c (k + 1) D := by
  have ho : D.off = true := by rw [h.off]; simp; exact hk
  refine ⟨by simp [DiskS.write, ho], by rw [ho]; simp; omega, by rw [h.left]; omega, h.size, by rw [h.pend]; omega, h.shown⟩

theorem diskCut_walk (a0 a1 : Int) (a2 : Option Addr) (len1 cap1 : Nat) (z1 : List WriteP) (w : World) (w0 : (Lit.int .i64 a0).wf = true) (v1 : (Lit.int .i64 a1).wf = true) (w1 : WritesArg w a2 len1 cap1 z1) :
    Calls Try.prog 10 #[.int .i64 a0, .int .i64 a1, .slice a2 len1 cap1] w fun e w' => e = .returned (.bool true) ∧ Below w.heap.size w w' := by
  have hc := pickN_lt a1 (n := 20) (by omega)
  obtain ⟨c, Ec⟩ : ∃ c : Nat, Hid (pickN a1 20 = c) := ⟨(pickN a1 20).toNat, show pickN a1 20 = _ by omega⟩
  have hc20 : c < 20 := by have := Ec.out; omega
  have V1 := hide v1
  clear hc v1
  have hl : len1 ≤ 9223372036854775807 := by have := w1.2.1; have := w1.2.2.1; unfold maxLen at this; omega
  obtain ⟨n, hn, hn1, hn2⟩ := size_of_pick a0 100 (by omega) (by omega)
  have HN := hide hn
  have HL := hide hl
  have W0 := hide w0
  have W1 := hide w1
  clear hn hl w0 w1
  have hmk := fun W => make_bytes n hn2 W
  go_enter Try.func10, Try.ntmps10
  go_wp2_with fail
  refine (sane_any w).mono ?_
  rintro e w1 ⟨rfl, b1⟩
  have B1 := hide b1
  clear b1
  go_wp2_with fail
  refine (pick_any a0 100 w1 W0.out (by omega) (by omega)).mono ?_
  rintro e w' ⟨rfl, rfl⟩
  have hpk := pickN_lt a0 (n := 100) (by omega)
  obtain ⟨q1, q2⟩ := hpk
  go_wp2_with fail
  rw [show 1 + pickN a0 100 = (n : Int) from HN.out]
  clear q1 q2
  refine (pick_any a1 20 w1 V1.out (by omega) (by omega)).mono ?_
  rintro e w' ⟨rfl, rfl⟩
  rw [Ec.out]
  go_wp2_with fail
  refine (new_in n w.heap.size w w1 B1.out B1.out.size [] (by simp) hn1 hn2).mono ?_
  rintro e w2 ⟨g, rfl, d2, _, _⟩
  have HD2 := hide d2
  clear d2
  go_wp2_with fail
  have C1 := cut_in ((c : Int) + 5) HD2.out (by omega)
  rw [cut_start] at C1
  refine C1.mono ?_
  clear C1
  rintro e w3 ⟨rfl, d3, _⟩
  have HD3 := hide d3
  clear d3
  go_wp2_with fail
  have C1 := cut_in (c : Int) HD3.out (by omega)
  rw [cut_next] at C1
  refine C1.mono ?_
  clear C1
  rintro e w2' ⟨rfl, d2, _⟩
  have gb2 := (Blk.new w2' 5 (bCells (List.replicate n 0)))
  have H3 := hide (d2.more ((Upd.refl [] w2').alloc (.cells (bCells (List.replicate n 0)).toArray 5)) w2'.heap.size (Nat.le_refl _) (by simp))
  have G3 := hide gb2
  have hB2 := hide d2.room
  clear d2 gb2
  go_wp2_with fail
  clear hmk
  obtain ⟨gb, Eg⟩ : ∃ gb, Hid (w2'.heap.size = gb) := ⟨_, rfl⟩
  have hgw := Nat.le_trans hB2.out (Nat.le_refl _)
  rw [Eg.out] at G3 H3 hgw ⊢
  have HG := hide hgw
  clear hgw hB2
  go_loopw [11, 12] (fun v i wr => ∃ (k j : Nat) (D : DiskS) (A : Option Addr) (ca : Nat), k ≤ len1 ∧ k ≤ 40 ∧ Hid (j = min k c) ∧ i = .int .i64 k ∧ v = .slice A j ca ∧ DiskIn w.heap.size ([gb] ++ (A.map (·.block)).toList) w wr g D ∧ Blk wr gb 5 (bCells D.vis) ∧ CutSt n c k D ∧
      wr.ownsRow w.heap.size 3 1 (.slice A j ca) j (((List.range j).map fun i : Nat => (i : Int)).map (Value.int .i64)))
    (fun _ i _ => 40 - (intOf i).toNat)
  case atStart => exact ⟨0, 0, _, none, 0, Nat.zero_le _, by omega, show 0 = _ by omega, rfl, rfl, H3.out, G3.out, cutSt_start n c, World.ownsRow_nil _ _ _ _⟩
  case round =>
    obtain ⟨k, j, D, A, ca, hk, hk6, Ej, rfl, rfl, hd, hg, hcm, hrow⟩ := hrel
    have HD := hide hd
    have HB := hide hg
    have HC := hide hcm
    have HR := hide hrow
    clear hd hg hcm hrow
    have HLo := HL.out
    by_cases hlt : k < len1
    · by_cases h60 : k < 40
      · skip
        obtain ⟨b, off, x, rfl, hbW, hxi, hx0, hx1, c0, c1, c2⟩ := W1.out.at_ HD.out.below hlt
        obtain ⟨x0, x1, x2⟩ := x
        have HX0 := hide hx0
        have HX1 := hide hx1
        have HXI := hide hxi
        have ltb := World.block_lt_of_cell? _ _ c0
        clear hxi hx0 hx1
        simp only at c0 c1 c2
        go_wp2_with fail
        refine (fits_any n (x0, x1, x2) _ HX0.out HX1.out hn2).mono ?_
        rintro e w4 ⟨rfl, u4⟩
        have H4 := hide (HD.out.step u4 (by simp) (by simp))
        have U4 := hide u4
        have HR' := hide (own_base_kept HR.out u4 (by simp))
        have hfo := fitS_le n (x0, x1, x2)
        have HF := hide hfo
        clear u4 hfo
        obtain ⟨fo, Efo⟩ : ∃ fo, Hid (fitOff n (x0, x1, x2) = fo) := ⟨_, rfl⟩
        obtain ⟨fs, Efs⟩ : ∃ fs, Hid (fitS n (x0, x1, x2) = fs) := ⟨_, rfl⟩
        rw [Efo.out, Efs.out] at HF ⊢
        have HV := hide (show D.vis.length = n by rw [HD.out.ok.len, HC.out.size])
        have H5 := hide (H4.out.more ((Upd.refl [] w4).alloc (.cells #[.int .i64 (fo : Int), .string ⟨fs.toArray⟩, .bool x2] 53)) w4.heap.size (Nat.le_refl _) (by simp))
        have L5 := hide (Blk.new w4 53 [.int .i64 (fo : Int), .string ⟨fs.toArray⟩, .bool x2])
        by_cases hkc : k < c
        · obtain ⟨e1, e2, e3⟩ := cut_write HC.out hkc (off := fo) (s := fs) HF.out
          have E2 := hide e2
          have E3 := hide e3
          have C1 := write_in (fo : Int) ⟨fs.toArray⟩ H5.out (by have := HC.out.pend; omega)
          rw [show (⟨fs.toArray⟩ : ByteArray).data.toList = fs from rfl, e1] at C1
          have WI := hide C1
          clear C1 e1 e2 e3
          go_wp2_with fail
          refine WI.out.mono ?_
          rintro e w7 ⟨rfl, d7, s7⟩
          have H7 := hide d7
          have G7 := hide (s7.blk (by simp) (((HB.out.upd U4.out (by simp)).alloc (.cells #[.int .i64 (fo : Int), .string ⟨fs.toArray⟩, .bool x2] 53))))
          have l7 := s7.blk (by simp) L5.out
          have hr7 := own_same ((HR'.out).alloc (.cells #[.int .i64 (fo : Int), .string ⟨fs.toArray⟩, .bool x2] 53)) (s7.mono mem_three)
          have R7 := hide hr7
          have PA := hide (put_any (g := gb) (off := fo) (n := n) ⟨fs.toArray⟩ D.vis w7 G7.out HV.out HF.out hn2)
          have j0 := l7.cell 0
          have j1 := l7.cell 1
          clear d7 s7 l7 hr7 WI
          go_wp2_with fail
          refine PA.out.mono ?_
          rintro e w8 ⟨rfl, g8, u8⟩
          have H8 := hide (H7.out.step u8 (by simp) (by simpa using HG.out))
          have G8 := hide g8
          have R8 := hide (own_base_kept R7.out u8 (fun x hx hm => own_blk_ne (own_zero R7.out) G7.out (by decide) x hx (by simpa using hm)))
          clear g8 u8 PA
          have O1 := hide (show ∀ u ∈ [Value.int .i64 (k : Int)], u.oneCell' = true by simp [Value.oneCell'])
          have O3 := hide (show j + 1 ≤ maxLen by unfold maxLen; have := Ej.out; omega)
          have O4 := hide (show (j + 1) * 8 ≤ 140737488355328 by have := Ej.out; omega)
          have OB := hide (R8.out.alloc (.cells #[.int .i64 (k : Int)] 3))
          go_wp2_with (at_builtin; refine wpList_append_base rfl (.tmp 79) (.tmp 81) _ rfl w.heap.size 3 _ 1 8 Try.underlying37 info_int rfl (by decide) A j ca _ rfl OB.out ⟨w8.heap.size, 0, none⟩ 1 1 [.int .i64 (k : Int)] rfl rfl (cell_one_new _ _ _) O1.out O3.out O4.out (by have := H8.out.room; simp; omega) ?_; intro A' c' w9 h9 u9 a9; have H9 := hide h9; have U9 := hide u9; have A9 := hide a9; clear h9 u9 a9)
          go_roundw
          case rel =>
            obtain rfl : j = k := by have := Ej.out; omega
            refine ⟨j + 1, j + 1, D.written fo fs, A', c', by omega, by omega, show j + 1 = _ by omega, by go_num, rfl, ?_, ?_, E2.out, ?_⟩
            · exact (H8.out.mono (X' := [gb] ++ (A.map (·.block)).toList) mem_two).append [gb] R8.out U9.out A9.out H9.out
            · rw [E3.out]
              exact (G8.out.alloc _).upd U9.out (fun hm => own_blk_ne (own_zero R8.out) G8.out (by decide) gb (by rw [ownBlock_slice]; simpa using hm) rfl)
            · rw [upto_int_succ, List.map_append]; exact H9.out
          case measure => simp [intOf] <;> omega
        · obtain ⟨e1, e2⟩ := cut_stop HC.out (by omega) (fo : Int) fs
          have E2 := hide e2
          have C1 := write_in (fo : Int) ⟨fs.toArray⟩ H5.out (by have := HC.out.pend; omega)
          rw [show (⟨fs.toArray⟩ : ByteArray).data.toList = fs from rfl, e1] at C1
          have WI := hide C1
          clear C1 e1 e2
          go_wp2_with fail
          refine WI.out.mono ?_
          rintro e w7 ⟨rfl, d7, s7⟩
          have H7 := hide d7
          have G7 := hide (s7.blk (by simp) (((HB.out.upd U4.out (by simp)).alloc (.cells #[.int .i64 (fo : Int), .string ⟨fs.toArray⟩, .bool x2] 53))))
          have hr7 := own_same ((HR'.out).alloc (.cells #[.int .i64 (fo : Int), .string ⟨fs.toArray⟩, .bool x2] 53)) (s7.mono mem_three)
          have R7 := hide hr7
          clear d7 s7 hr7 WI
          go_wp2_with fail
          go_roundw
          case rel => exact ⟨k + 1, j, D, A, ca, by omega, by omega, show j = _ by (have := Ej.out; omega), by go_num, rfl, H7.out.mono mem_two, G7.out, E2.out, R7.out⟩
          case measure => simp [intOf] <;> omega
      · obtain rfl : k = 40 := by omega
        obtain ⟨wo, rfl⟩ : ∃ wo : World, wo = wr := ⟨_, rfl⟩
        by_cases hkc : 40 < c
        · exact absurd hkc (by omega)
        · obtain rfl : j = c := by have := Ej.out; omega
          have HDo := hide (show D.off = true by rw [HC.out.off]; simp; omega)
          have C1 := read_in 0 0 HD.out
          rw [show D.read 0 0 = ([], 331) by simp [DiskS.read, HDo.out]] at C1
          have RI := hide C1
          clear C1
          go_wp2_with fail
          refine RI.out.mono ?_
          rintro e w' ⟨rfl, rfl⟩
          have C1 := sync_in HD.out
          rw [show D.sync = (D, 331) by simp [DiskS.sync, HDo.out]] at C1
          have SI := hide C1
          clear C1
          go_wp2_with fail
          refine SI.out.mono ?_
          rintro e w5 ⟨rfl, d5, s5⟩
          have H5 := hide d5
          have S5 := hide s5
          clear d5 s5
          have C1 := cut_in 3 H5.out (by omega)
          rw [show D.cut 3 = (D, 331) by simp [DiskS.cut, HDo.out]] at C1
          have CI := hide C1
          clear C1
          go_wp2_with fail
          refine CI.out.mono ?_
          rintro e w6 ⟨rfl, d6, s6⟩
          have H6 := hide d6
          have S6 := hide s6
          clear d6 s6
          have PD0 : Calls Try.prog 17 #[.pointer (some ⟨g, 0, none⟩)] w6 fun e w' => e = .returned (.int .i64 (j : Int)) ∧ w6 = w' := by
            have := pending_in H6.out
            rwa [show D.pend.length = j by rw [HC.out.pend]; omega] at this
          have PD := hide PD0
          clear PD0
          go_wp2_with fail
          refine PD.out.mono ?_
          rintro e w' ⟨rfl, rfl⟩
          have PD0 : Calls Try.prog 16 #[.pointer (some ⟨g, 0, none⟩)] w6 fun e w' => e = .returned (.int .i64 (n : Int)) ∧ w6 = w' := by
            have := size_in H6.out
            rwa [show D.sure.length = n from HC.out.size] at this
          have SZ := hide PD0
          clear PD0
          go_wp2_with fail
          refine SZ.out.mono ?_
          rintro e w' ⟨rfl, rfl⟩
          go_wp2_with fail
          have hrow6 : w6.ownsRow w.heap.size 3 1 (.slice A j ca) j (((List.range j).map fun i : Nat => (i : Int)).map (Value.int .i64)) := by
            have h5 := own_same HR.out (S5.out.mono mem_two)
            exact own_same h5 (S6.out.mono mem_two)
          have hg6 := (S6.out.blk (by simp) (S5.out.blk (by simp) HB.out))
          have hpl : D.pend.length = j := by rw [HC.out.pend]; omega
          have C1 := crash_in (.slice A j ca) ((List.range j).map fun i : Nat => (i : Int)) (-1) H6.out (by omega) (by simp; omega) (ints_own hrow6 (by simp))
          rw [show ((List.range j).map fun i : Nat => (i : Int)) = ((List.range D.pend.length).map fun i : Nat => (i : Int)) by rw [hpl], crash_all] at C1
          have CR := hide C1
          have G6 := hide hg6
          clear C1 hrow6 hg6 hpl
          refine CR.out.mono ?_
          rintro e w7 ⟨rfl, d7, s7⟩
          have C7 := hide (show Calm n 0 { D.settled (puts D.sure D.pend) with off := false, left := 0 } from ⟨rfl, rfl, by
            have h1 := HC.out.size
            have h2 := HD.out.ok.len
            have h3 : D.vis = puts D.sure D.pend := HC.out.shown
            show (puts D.sure D.pend).length = n
            rw [← h3, h2, h1], Nat.le_refl _⟩)
          have H7 := hide d7
          have cv := conv_whole (s7.blk (by simp) G6.out) (n := n) (by rw [HD.out.ok.len, HC.out.size])
          clear d7 CR s7
          go_wp2_with fail
          have C1 := read_in 0 (n : Int) H7.out
          rw [read_calm_to C7.out H7.out.ok (v := D.vis) HC.out.shown.symm] at C1
          refine C1.mono ?_
          clear C1
          rintro e w' ⟨rfl, rfl⟩
          go_wp2_with fail
          clear cv
          have C1 := write_in (0 : Int) ⟨#[120]⟩ H7.out (by show 0 ≤ _; omega)
          rw [show (⟨#[120]⟩ : ByteArray).data.toList = [120] from rfl, show (0 : Int) = ((0 : Nat) : Int) from rfl, write_calm C7.out (off := 0) (s := [120]) (by simp; omega)] at C1
          have WI := hide C1
          clear C1
          refine WI.out.mono ?_
          rintro e w8 ⟨rfl, d8, s8⟩
          have C8 := hide (calm_write C7.out 0 [120])
          have H8 := hide d8
          clear d8 s8 WI
          go_wp2_with fail
          have C1 := sync_in H8.out
          rw [sync_calm C8.out] at C1
          refine C1.mono ?_
          clear C1
          rintro e w9 ⟨rfl, d9, s9⟩
          go_wp2_with fail
          go_ret
          exact ⟨rfl, d9.below⟩
    · obtain rfl : k = len1 := by omega
      obtain ⟨wo, rfl⟩ : ∃ wo : World, wo = wr := ⟨_, rfl⟩
      by_cases hkc : k < c
      · obtain rfl : j = k := by have := Ej.out; omega
        have HDo := hide (show D.off = false by rw [HC.out.off]; simp; omega)
        have C1 := sync_in HD.out
        rw [show D.sync = (D.settled D.vis, 0) by simp [DiskS.sync, HDo.out]] at C1
        have SI := hide C1
        clear C1
        go_wp2_with (go_at_call 23; refine SI.out.mono ?_; rintro e w8 ⟨rfl, d8, s8⟩)
        go_ret
        exact ⟨rfl, d8.below⟩
      · obtain rfl : j = c := by have := Ej.out; omega
        have HDo := hide (show D.off = true by rw [HC.out.off]; simp; omega)
        have C1 := read_in 0 0 HD.out
        rw [show D.read 0 0 = ([], 331) by simp [DiskS.read, HDo.out]] at C1
        have RI := hide C1
        clear C1
        go_wp2_with fail
        refine RI.out.mono ?_
        rintro e w' ⟨rfl, rfl⟩
        have C1 := sync_in HD.out
        rw [show D.sync = (D, 331) by simp [DiskS.sync, HDo.out]] at C1
        have SI := hide C1
        clear C1
        go_wp2_with fail
        refine SI.out.mono ?_
        rintro e w5 ⟨rfl, d5, s5⟩
        have H5 := hide d5
        have S5 := hide s5
        clear d5 s5
        have C1 := cut_in 3 H5.out (by omega)
        rw [show D.cut 3 = (D, 331) by simp [DiskS.cut, HDo.out]] at C1
        have CI := hide C1
        clear C1
        go_wp2_with fail
        refine CI.out.mono ?_
        rintro e w6 ⟨rfl, d6, s6⟩
        have H6 := hide d6
        have S6 := hide s6
        clear d6 s6
        have PD0 : Calls Try.prog 17 #[.pointer (some ⟨g, 0, none⟩)] w6 fun e w' => e = .returned (.int .i64 (j : Int)) ∧ w6 = w' := by
          have := pending_in H6.out
          rwa [show D.pend.length = j by rw [HC.out.pend]; omega] at this
        have PD := hide PD0
        clear PD0
        go_wp2_with fail
        refine PD.out.mono ?_
        rintro e w' ⟨rfl, rfl⟩
        have PD0 : Calls Try.prog 16 #[.pointer (some ⟨g, 0, none⟩)] w6 fun e w' => e = .returned (.int .i64 (n : Int)) ∧ w6 = w' := by
          have := size_in H6.out
          rwa [show D.sure.length = n from HC.out.size] at this
        have SZ := hide PD0
        clear PD0
        go_wp2_with fail
        refine SZ.out.mono ?_
        rintro e w' ⟨rfl, rfl⟩
        go_wp2_with fail
        have hrow6 : w6.ownsRow w.heap.size 3 1 (.slice A j ca) j (((List.range j).map fun i : Nat => (i : Int)).map (Value.int .i64)) := by
          have h5 := own_same HR.out (S5.out.mono mem_two)
          exact own_same h5 (S6.out.mono mem_two)
        have hg6 := (S6.out.blk (by simp) (S5.out.blk (by simp) HB.out))
        have hpl : D.pend.length = j := by rw [HC.out.pend]; omega
        have C1 := crash_in (.slice A j ca) ((List.range j).map fun i : Nat => (i : Int)) (-1) H6.out (by omega) (by simp; omega) (ints_own hrow6 (by simp))
        rw [show ((List.range j).map fun i : Nat => (i : Int)) = ((List.range D.pend.length).map fun i : Nat => (i : Int)) by rw [hpl], crash_all] at C1
        have CR := hide C1
        have G6 := hide hg6
        clear C1 hrow6 hg6 hpl
        refine CR.out.mono ?_
        rintro e w7 ⟨rfl, d7, s7⟩
        have C7 := hide (show Calm n 0 { D.settled (puts D.sure D.pend) with off := false, left := 0 } from ⟨rfl, rfl, by
          have h1 := HC.out.size
          have h2 := HD.out.ok.len
          have h3 : D.vis = puts D.sure D.pend := HC.out.shown
          show (puts D.sure D.pend).length = n
          rw [← h3, h2, h1], Nat.le_refl _⟩)
        have H7 := hide d7
        have cv := conv_whole (s7.blk (by simp) G6.out) (n := n) (by rw [HD.out.ok.len, HC.out.size])
        clear d7 CR s7
        go_wp2_with fail
        have C1 := read_in 0 (n : Int) H7.out
        rw [read_calm_to C7.out H7.out.ok (v := D.vis) HC.out.shown.symm] at C1
        refine C1.mono ?_
        clear C1
        rintro e w' ⟨rfl, rfl⟩
        go_wp2_with fail
        clear cv
        have C1 := write_in (0 : Int) ⟨#[120]⟩ H7.out (by show 0 ≤ _; omega)
        rw [show (⟨#[120]⟩ : ByteArray).data.toList = [120] from rfl, show (0 : Int) = ((0 : Nat) : Int) from rfl, write_calm C7.out (off := 0) (s := [120]) (by simp; omega)] at C1
        have WI := hide C1
        clear C1
        refine WI.out.mono ?_
        rintro e w8 ⟨rfl, d8, s8⟩
        have C8 := hide (calm_write C7.out 0 [120])
        have H8 := hide d8
        clear d8 s8 WI
        go_wp2_with fail
        have C1 := sync_in H8.out
        rw [sync_calm C8.out] at C1
        refine C1.mono ?_
        clear C1
        rintro e w9 ⟨rfl, d9, s9⟩
        go_wp2_with fail
        go_ret
        exact ⟨rfl, d9.below⟩
end Go.Proofs.Ythjcgaahnpbcdaa
