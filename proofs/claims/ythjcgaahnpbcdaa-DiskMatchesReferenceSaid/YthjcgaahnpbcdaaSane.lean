/-
  The statements' own fixed examples are true of the disk.
-/
import Derived.Test.YthjcgaahnpbcdaaDIn
namespace Go.Proofs.Ythjcgaahnpbcdaa
open Go.RowKit
set_option maxRecDepth 100000
set_option maxHeartbeats 1000000

def D1 : DiskS := { off := false, left := 0, sure := [0, 0, 0, 0], vis := [97, 98, 0, 0], pend := [(0, [97, 98])] }
def D2 : DiskS := { off := false, left := 0, sure := [0, 0, 0, 0], vis := [97, 120, 121, 0], pend := [(0, [97, 98]), (1, [120, 121])] }
def D3 : DiskS := { off := false, left := 0, sure := [97, 120, 0, 0], vis := [97, 120, 0, 0], pend := [] }
def D4 : DiskS := { off := false, left := 1, sure := [97, 120, 0, 0], vis := [97, 120, 0, 0], pend := [] }
def D5 : DiskS := { off := true, left := 0, sure := [97, 120, 0, 0], vis := [97, 120, 0, 113], pend := [(3, [113])] }
theorem s1 : (DiskS.fresh 4).write 0 (⟨#[97, 98]⟩ : ByteArray).data.toList = (D1, 0) := by rfl
theorem s2 : D1.write 1 (⟨#[120, 121]⟩ : ByteArray).data.toList = (D2, 0) := by rfl
theorem s3 : D2.write 3 (⟨#[122, 122]⟩ : ByteArray).data.toList = (D2, 330) := by rfl
theorem s4 : D2.read 0 4 = ([97, 120, 121, 0], 0) := by rfl
theorem s5 : D2.crash [1, 0] 1 = D3 := by rfl
theorem s6 : D3.read 0 4 = ([97, 120, 0, 0], 0) := by rfl
theorem s7 : D3.cut 1 = (D4, 0) := by rfl
theorem s8 : D4.write 3 (⟨#[113]⟩ : ByteArray).data.toList = (D5, 0) := by rfl
theorem s9 : D5.sync = (D5, 331) := by rfl

theorem sane_any (w : World) : Calls Try.prog 12 #[] w fun e w' => e = .returned (.bool true) ∧ Below w.heap.size w w' := by
  go_enter Try.func12, Try.ntmps12
  go_wp2_with fail
  refine (new_in 4 w.heap.size w _ (Below.refl _ _) (Nat.le_refl _) [] (by simp) (by omega) (by omega)).mono ?_
  rintro e w1 ⟨g, rfl, d0, _, _⟩
  have H0 := hide d0
  clear d0
  go_wp2_with fail
  refine (new_bad 0 w1 (by omega)).mono ?_
  rintro e w' ⟨rfl, rfl⟩
  go_wp2_with fail
  have C1 := write_in (0 : Int) ⟨#[97, 98]⟩ H0.out (by decide)
  rw [s1] at C1
  refine C1.mono ?_
  clear C1
  rintro e w2 ⟨rfl, d1, _⟩
  have H1 := hide d1
  clear d1
  go_wp2_with fail
  have C1 := write_in (1 : Int) ⟨#[120, 121]⟩ H1.out (by decide)
  rw [s2] at C1
  refine C1.mono ?_
  clear C1
  rintro e w3 ⟨rfl, d2, _⟩
  have H2 := hide d2
  clear d2
  go_wp2_with fail
  have C1 := write_in (3 : Int) ⟨#[122, 122]⟩ H2.out (by decide)
  rw [s3] at C1
  refine C1.mono ?_
  clear C1
  rintro e w4 ⟨rfl, d3, _⟩
  have H3 := hide d3
  clear d3
  go_wp2_with fail
  have C1 := read_in 0 4 H3.out
  rw [s4] at C1
  refine C1.mono ?_
  clear C1
  rintro e w' ⟨rfl, rfl⟩
  go_wp2_with fail
  refine (pending_in H3.out).mono ?_
  rintro e w' ⟨rfl, rfl⟩
  go_wp2_with fail
  have H4 := hide (H3.out.step ((Upd.refl [] w4).alloc (.cells #[.int .i64 1, .int .i64 0] 3)) (by simp) (by simp))
  have C1 := crash_in (.slice (some ⟨w4.heap.size, 0, none⟩) 2 2) [1, 0] 1 H4.out (by decide) (by decide) (ints_new w4 [1, 0] 3)
  rw [s5] at C1
  refine C1.mono ?_
  clear C1
  rintro e w5 ⟨rfl, d5, _⟩
  have H5 := hide d5
  clear d5
  go_wp2_with fail
  have C1 := read_in 0 4 H5.out
  rw [s6] at C1
  refine C1.mono ?_
  clear C1
  rintro e w' ⟨rfl, rfl⟩
  go_wp2_with fail
  have C1 := cut_in 1 H5.out (by omega)
  rw [s7] at C1
  refine C1.mono ?_
  clear C1
  rintro e w6 ⟨rfl, d6, _⟩
  have H6 := hide d6
  clear d6
  go_wp2_with fail
  have C1 := write_in (3 : Int) ⟨#[113]⟩ H6.out (by decide)
  rw [s8] at C1
  refine C1.mono ?_
  clear C1
  rintro e w7 ⟨rfl, d7, _⟩
  have H7 := hide d7
  clear d7
  go_wp2_with fail
  have C1 := sync_in H7.out
  rw [s9] at C1
  refine C1.mono ?_
  clear C1
  rintro e w8 ⟨rfl, d8, _⟩
  have H8 := hide d8
  clear d8
  go_wp2_with fail
  have C1 := size_in H8.out
  rw [show (D5.sure.length : Int) = 4 from rfl] at C1
  refine C1.mono ?_
  clear C1
  rintro e w' ⟨rfl, rfl⟩
  go_wp2_with fail
  go_ret
  exact ⟨rfl, H8.out.below⟩
end Go.Proofs.Ythjcgaahnpbcdaa
