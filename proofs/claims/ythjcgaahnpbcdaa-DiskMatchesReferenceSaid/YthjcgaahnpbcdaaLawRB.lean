/-
  The walk of the statement that reading returns what was written last.
-/
import Derived.Test.YthjcgaahnpbcdaaLawFits
namespace Go.Proofs.Ythjcgaahnpbcdaa
open Go.RowKit
set_option maxRecDepth 100000
set_option maxHeartbeats 1000000

/-- A disk on which no power failure is scheduled. -/
structure Calm (n k : Nat) (D : DiskS) : Prop where
  off : D.off = false
  left : D.left = 0
  size : D.sure.length = n
  pend : D.pend.length ≤ k
theorem write_calm {n k : Nat} {D : DiskS} (h : Calm n k D) {off : Nat} {s : List UInt8} (hf : off + s.length ≤ n) :
    D.write off s = ({ D with pend := D.pend ++ [(off, s)], vis := put D.vis off s }, 0) := by
  have hi : inB D.sure.length off s.length = true := by simp [inB, h.size]; omega
  have ho := h.off
  have hl := h.left
  simp only [DiskS.write, hi, ho, DiskS.written, DiskS.used, hl]
  simp
theorem calm_write {n k : Nat} {D : DiskS} (h : Calm n k D) (off : Nat) (s : List UInt8) : Calm n (k + 1) { D with pend := D.pend ++ [(off, s)], vis := put D.vis off s } :=
  ⟨h.off, h.left, h.size, by simp; exact h.pend⟩
theorem sync_calm {n k : Nat} {D : DiskS} (h : Calm n k D) : D.sync = (D.settled D.vis, 0) := by simp [DiskS.sync, h.off]
theorem calm_sync {n k : Nat} {D : DiskS} (h : Calm n k D) (hok : D.Ok) : Calm n k (D.settled D.vis) := ⟨h.off, h.left, by simp [DiskS.settled, hok.len, h.size], by simp [DiskS.settled]⟩
theorem read_calm {n k : Nat} {D : DiskS} (h : Calm n k D) (hok : D.Ok) : D.read 0 n = (D.vis, 0) := by
  have hi : inB D.sure.length 0 n = true := by simp [inB, h.size]
  simp only [DiskS.read, h.off, hi]
  have hl : D.vis.length = n := by rw [hok.len, h.size]
  simp [hl, List.take_of_length_le]
theorem read_calm_to {n k : Nat} {D : DiskS} {v : List UInt8} (h : Calm n k D) (hok : D.Ok) (hv : D.vis = v) : D.read 0 n = (v, 0) := by rw [read_calm h hok, hv]
theorem calm_fresh (n : Nat) : Calm n 0 (DiskS.fresh n) := ⟨rfl, rfl, by simp [DiskS.fresh], by simp [DiskS.fresh]⟩

theorem size_of_pick (c : Int) (m : Nat) (hm : 0 < m) (hm2 : m ≤ 4194303) : ∃ n : Nat, 1 + pickN c m = n ∧ 1 ≤ n ∧ n ≤ 4194304 := by
  have := pickN_lt c (n := (m : Int)) (by omega)
  exact ⟨(1 + pickN c m).toNat, by omega, by omega, by omega⟩

theorem diskReadsBack_walk (a0 : Int) (a1 : Option Addr) (len1 cap1 : Nat) (z1 : List WriteP) (w : World) (w0 : (Lit.int .i64 a0).wf = true) (w1 : WritesArg w a1 len1 cap1 z1) :
    Calls Try.prog 6 #[.int .i64 a0, .slice a1 len1 cap1] w fun e w' => e = .returned (.bool true) ∧ Below w.heap.size w w' := by
  have hl : len1 ≤ 9223372036854775807 := by have := w1.2.1; have := w1.2.2.1; unfold maxLen at this; omega
  obtain ⟨n, hn, hn1, hn2⟩ := size_of_pick a0 300 (by omega) (by omega)
  have HN := hide hn
  have HL := hide hl
  have W0 := hide w0
  have W1 := hide w1
  clear hn hl w0 w1
  have hmk := fun W => make_bytes n hn2 W
  go_enter Try.func6, Try.ntmps6
  go_wp2_with fail
  refine (sane_any w).mono ?_
  rintro e w1 ⟨rfl, b1⟩
  have B1 := hide b1
  clear b1
  go_wp2_with fail
  refine (pick_any a0 300 w1 W0.out (by omega) (by omega)).mono ?_
  rintro e w' ⟨rfl, rfl⟩
  have hpk := pickN_lt a0 (n := 300) (by omega)
  obtain ⟨q1, q2⟩ := hpk
  go_wp2_with fail
  rw [show 1 + pickN a0 300 = (n : Int) from HN.out]
  refine (new_in n w.heap.size w w1 B1.out B1.out.size [] (by simp) hn1 hn2).mono ?_
  rintro e w2 ⟨g, rfl, d2, _, _⟩
  have gb2 := (Blk.new w2 5 (bCells (List.replicate n 0)))
  have H3 := hide (d2.more ((Upd.refl [] w2).alloc (.cells (bCells (List.replicate n 0)).toArray 5)) w2.heap.size (Nat.le_refl _) (by simp))
  have G3 := hide gb2
  have hB2 := hide d2.room
  clear d2 gb2 q1 q2
  go_wp2_with fail
  clear hmk
  obtain ⟨gb, Eg⟩ : ∃ gb, Hid (w2.heap.size = gb) := ⟨_, rfl⟩
  have hgw := Nat.le_trans hB2.out (Nat.le_refl _)
  rw [Eg.out] at G3 H3 hgw ⊢
  have HG := hide hgw
  have HB : w.heap.size ≤ w.heap.size := Nat.le_refl _
  clear hgw hB2
  go_loopw [9] (fun i wr => ∃ (k : Nat) (D : DiskS), k ≤ len1 ∧ k ≤ 60 ∧ i = .int .i64 k ∧ DiskIn w.heap.size [gb] w wr g D ∧ Blk wr gb 5 (bCells D.vis) ∧ Calm n k D)
    (fun i _ => 60 - (intOf i).toNat)
  case atStart => exact ⟨0, DiskS.fresh n, Nat.zero_le _, by omega, rfl, H3.out, G3.out, calm_fresh n⟩
  case round =>
    obtain ⟨k, D, hk, hk6, rfl, hd, hg, hcm⟩ := hrel
    have HD := hide hd
    have HB := hide hg
    have HC := hide hcm
    clear hd hg hcm
    have HLo := HL.out
    by_cases hlt : k < len1
    · by_cases h60 : k < 60
      · obtain ⟨b, off, x, rfl, hbW, hxi, hx0, hx1, c0, c1, c2⟩ := W1.out.at_ HD.out.below hlt
        obtain ⟨x0, x1, x2⟩ := x
        have HX0 := hide hx0
        have HX1 := hide hx1
        have ltb := World.block_lt_of_cell? _ _ c0
        clear hxi hx0 hx1
        simp only at c0 c1 c2
        go_wp2_with fail
        refine (fits_any n (x0, x1, x2) _ HX0.out HX1.out hn2).mono ?_
        rintro e w4 ⟨rfl, u4⟩
        have H4 := hide (HD.out.step u4 (by simp) (by simp))
        have G4 := hide (HB.out.upd u4 (by simp))
        have hfo := fitS_le n (x0, x1, x2)
        have HF := hide hfo
        clear u4 hfo
        obtain ⟨fo, Efo⟩ : ∃ fo, Hid (fitOff n (x0, x1, x2) = fo) := ⟨_, rfl⟩
        obtain ⟨fs, Efs⟩ : ∃ fs, Hid (fitS n (x0, x1, x2) = fs) := ⟨_, rfl⟩
        rw [Efo.out, Efs.out] at HF ⊢
        have hsz : (⟨fs.toArray⟩ : ByteArray).size = fs.length := rfl
        have HV := hide (show D.vis.length = n by rw [HD.out.ok.len, HC.out.size])
        have PA := hide (put_any (g := gb) (off := fo) (n := n) ⟨fs.toArray⟩ D.vis (w4.alloc (.cells #[.int .i64 (fo : Int), .string ⟨fs.toArray⟩, .bool x2] 53)) (G4.out.alloc _) HV.out HF.out hn2)
        have H5 := hide (H4.out.more ((Upd.refl [] w4).alloc (.cells #[.int .i64 (fo : Int), .string ⟨fs.toArray⟩, .bool x2] 53)) w4.heap.size (Nat.le_refl _) (by simp))
        have L5 := hide (Blk.new w4 53 [.int .i64 (fo : Int), .string ⟨fs.toArray⟩, .bool x2])
        have hgl4 := G4.out.lt
        clear hsz
        go_wp2_with fail
        refine PA.out.mono ?_
        rintro e w6 ⟨rfl, g6, u6⟩
        have H6 := hide (H5.out.step u6 (by simp) (by simpa using HG.out))
        have G6 := hide g6
        have l6 := L5.out.upd u6 (by simp; omega)
        have j0 := l6.cell 0
        have j1 := l6.cell 1
        have j2 := l6.cell 2
        have L6 := hide l6
        clear g6 u6 l6
        have C1 := write_in (fo : Int) ⟨fs.toArray⟩ H6.out (by have := HC.out.pend; omega)
        rw [show (⟨fs.toArray⟩ : ByteArray).data.toList = fs from rfl, write_calm HC.out HF.out] at C1
        have WI := hide C1
        clear C1
        go_wp2_with fail
        refine WI.out.mono ?_
        rintro e w7 ⟨rfl, d7, s7⟩
        have H7 := hide d7
        have G7 := hide (s7.blk (by simp) G6.out)
        have l7 := s7.blk (by simp) L6.out
        have j3 := l7.cell 2
        have C7 := hide (calm_write HC.out fo fs)
        clear l7 s7
        cases x2 with
        | false =>
          go_wp2_with fail
          have C1 := read_in 0 (n : Int) H7.out
          rw [read_calm_to C7.out H7.out.ok (v := put D.vis fo fs) rfl] at C1
          refine C1.mono ?_
          clear C1
          rintro e w' ⟨rfl, rfl⟩
          have cv := run_conv_bytes (P := Try.prog) G7.out 40 5 9 Try.underlying40 Try.underlying5 Try.underlying9 0 n n (by rw [put_length _ _ _ (by rw [HV.out]; exact HF.out), HV.out]; omega)
          have ev : ((put D.vis fo fs).drop 0).take n = put D.vis fo fs := by rw [List.drop_zero, List.take_of_length_le (by rw [put_length _ _ _ (by rw [HV.out]; exact HF.out), HV.out]; exact Nat.le_refl _)]
          rw [ev] at cv
          clear ev
          go_wp2_with fail
          go_roundw
          case rel => exact ⟨k + 1, _, by omega, by omega, by go_num, H7.out.mono (by simp), G7.out, C7.out⟩
          case measure => simp [intOf]; omega
        | true =>
          have C1 := sync_in H7.out
          rw [sync_calm C7.out] at C1
          have SI := hide C1
          clear C1
          go_wp2_with fail
          refine SI.out.mono ?_
          rintro e w8 ⟨rfl, d8, s8⟩
          have H8 := hide d8
          have G8 := hide (s8.blk (by simp) G7.out)
          have C8 := hide (calm_sync C7.out H7.out.ok)
          clear d8 s8 SI
          go_wp2_with fail
          have C1 := read_in 0 (n : Int) H8.out
          rw [read_calm_to C8.out H8.out.ok (v := put D.vis fo fs) rfl] at C1
          refine C1.mono ?_
          clear C1
          rintro e w' ⟨rfl, rfl⟩
          have cv := run_conv_bytes (P := Try.prog) G8.out 40 5 9 Try.underlying40 Try.underlying5 Try.underlying9 0 n n (by rw [put_length _ _ _ (by rw [HV.out]; exact HF.out), HV.out]; omega)
          have ev : ((put D.vis fo fs).drop 0).take n = put D.vis fo fs := by rw [List.drop_zero, List.take_of_length_le (by rw [put_length _ _ _ (by rw [HV.out]; exact HF.out), HV.out]; exact Nat.le_refl _)]
          rw [ev] at cv
          clear ev
          go_wp2_with fail
          go_roundw
          case rel => exact ⟨k + 1, _, by omega, by omega, by go_num, H8.out.mono (by simp), G8.out, C8.out⟩
          case measure => simp [intOf]; omega
      · obtain rfl : k = 60 := by omega
        go_wp2_with fail
        go_ret
        exact ⟨rfl, HD.out.below⟩
    · obtain rfl : k = len1 := by omega
      go_wp2_with fail
      go_ret
      exact ⟨rfl, HD.out.below⟩
end Go.Proofs.Ythjcgaahnpbcdaa
