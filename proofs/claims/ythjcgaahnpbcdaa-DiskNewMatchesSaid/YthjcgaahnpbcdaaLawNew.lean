/-
  The walk of the statement on New: a new disk has its size, no pending writes, zero bytes.
-/
import Derived.Test.YthjcgaahnpbcdaaLawBase
namespace Go.Proofs.Ythjcgaahnpbcdaa
open Go.RowKit
set_option maxRecDepth 100000
set_option maxHeartbeats 1000000

theorem fresh_read (n : Nat) (at_ : Int) (h : 0 ≤ at_ ∧ at_ < n) : (DiskS.fresh n).read at_ 1 = ([0], 0) := by
  have hi : inB (DiskS.fresh n).sure.length at_ 1 = true := by simp [inB, DiskS.fresh]; omega
  simp only [DiskS.read, hi]
  simp only [DiskS.fresh, Bool.false_eq_true, if_false, if_true, List.drop_replicate, List.take_replicate]
  rw [show min (1 : Int).toNat (n - at_.toNat) = 1 by simp; omega]
  rfl

theorem diskNewMatches_walk (a0 a1 : Int) (w : World) (w0 : (Lit.int .i64 a0).wf = true) (w1 : (Lit.int .i64 a1).wf = true) :
    Calls Try.prog 3 #[.int .i64 a0, .int .i64 a1] w fun e w' => e = .returned (.bool true) ∧ Below w.heap.size w w' := by
  by_cases hbad : a0 < 1 ∨ 4194304 < a0
  · have HB := hide hbad
    by_cases h1 : a0 < 1
    · clear hbad
      go_enter Try.func3, Try.ntmps3
      go_wp2_with fail
      refine (sane_any w).mono ?_
      rintro e w1 ⟨rfl, b1⟩
      have B1 := hide b1
      clear b1
      go_wp2_with fail
      refine (new_bad a0 w1 HB.out).mono ?_
      rintro e w' ⟨rfl, rfl⟩
      go_wp2_with fail
      go_ret
      exact ⟨rfl, B1.out⟩
    · have h2 : 4194304 < a0 := by omega
      clear hbad
      go_enter Try.func3, Try.ntmps3
      go_wp2_with fail
      refine (sane_any w).mono ?_
      rintro e w1 ⟨rfl, b1⟩
      have B1 := hide b1
      clear b1
      go_wp2_with fail
      refine (new_bad a0 w1 HB.out).mono ?_
      rintro e w' ⟨rfl, rfl⟩
      go_wp2_with fail
      go_ret
      exact ⟨rfl, B1.out⟩
  · obtain ⟨n, rfl⟩ : ∃ n : Nat, a0 = n := ⟨a0.toNat, by omega⟩
    have h1 : 1 ≤ n := by omega
    have h2 : n ≤ 4194304 := by omega
    have h3 : ¬ (n : Int) < 1 := by omega
    have h4 : ¬ 4194304 < (n : Int) := by omega
    have hp := pickN_lt a1 (n := (n : Int)) (by omega)
    have HP := hide hp
    have HW := hide w1
    clear hbad hp w0 w1
    go_enter Try.func3, Try.ntmps3
    go_wp2_with fail
    refine (sane_any w).mono ?_
    rintro e w1 ⟨rfl, b1⟩
    have B1 := hide b1
    clear b1
    go_wp2_with fail
    refine (new_in n w.heap.size w w1 B1.out B1.out.size [] (by simp) h1 h2).mono ?_
    rintro e w2 ⟨g, rfl, d2, _, _⟩
    have H2 := hide d2
    clear d2
    go_wp2_with fail
    refine (pick_any a1 n w2 HW.out (by omega) (by omega)).mono ?_
    rintro e w' ⟨rfl, rfl⟩
    go_wp2_with fail
    have C1 := read_in (pickN a1 n) 1 H2.out
    rw [fresh_read n _ HP.out] at C1
    refine C1.mono ?_
    clear C1
    rintro e w' ⟨rfl, rfl⟩
    go_wp2_with fail
    have C1 := size_in H2.out
    rw [show ((DiskS.fresh n).sure.length : Int) = n by simp [DiskS.fresh]] at C1
    refine C1.mono ?_
    clear C1
    rintro e w' ⟨rfl, rfl⟩
    go_wp2_with fail
    have C1 := pending_in H2.out
    rw [show ((DiskS.fresh n).pend.length : Int) = 0 by simp [DiskS.fresh]] at C1
    refine C1.mono ?_
    clear C1
    rintro e w' ⟨rfl, rfl⟩
    go_wp2_with fail
    go_ret
    exact ⟨rfl, H2.out.below⟩
end Go.Proofs.Ythjcgaahnpbcdaa
