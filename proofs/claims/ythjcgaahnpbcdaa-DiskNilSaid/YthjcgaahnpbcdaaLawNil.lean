/-
  The walk of the statement on a nil disk.
-/
import Derived.Test.YthjcgaahnpbcdaaLawBase
namespace Go.Proofs.Ythjcgaahnpbcdaa
open Go.RowKit
set_option maxRecDepth 100000
set_option maxHeartbeats 1000000

theorem diskNil_walk (a0 a1 : Int) (a2 : ByteArray) (a3 : Option Addr) (len3 cap3 : Nat) (z3 : List Int) (w : World) (_w0 : (Lit.int .i64 a0).wf = true) (_w1 : (Lit.int .i64 a1).wf = true) (w2 : a2.size ≤ maxLen) (w3 : IntsArg w a3 len3 cap3 z3) :
    Calls Try.prog 5 #[.int .i64 a0, .int .i64 a1, .string a2, .slice a3 len3 cap3] w fun e w' => e = .returned (.bool true) ∧ Below w.heap.size w w' := by
  obtain ⟨_, h1, h2, _, _⟩ := w3
  have hl : len3 ≤ 9223372036854775807 := by unfold maxLen at h2; omega
  have W2 := hide w2
  have HC := hide h2
  have hmin : 0 ≤ min (len3 : Int) 100 ∧ min (len3 : Int) 100 ≤ cap3 := by omega
  obtain ⟨hm1, hm2⟩ := hmin
  clear w2 h2
  go_enter Try.func5, Try.ntmps5
  go_wp2_with fail
  refine (sane_any w).mono ?_
  rintro e w1 ⟨rfl, b1⟩
  have B1 := hide b1
  clear b1
  go_wp2_with fail
  refine (nil_read a0 a1 w1).mono ?_
  rintro e w' ⟨rfl, rfl⟩
  go_wp2_with fail
  refine (cut_str a2 100 w1 W2.out (by omega)).mono ?_
  rintro e w' ⟨rfl, rfl⟩
  go_wp2_with fail
  refine (nil_write _ _ w1).mono ?_
  rintro e w' ⟨rfl, rfl⟩
  go_wp2_with fail
  refine (nil_sync w1).mono ?_
  rintro e w' ⟨rfl, rfl⟩
  go_wp2_with fail
  refine (nil_cut _ w1).mono ?_
  rintro e w' ⟨rfl, rfl⟩
  go_wp2_with fail
  refine (nil_crash _ _ _ _ w1).mono ?_
  rintro e w4 ⟨rfl, b4⟩
  have B4 := hide b4
  clear b4
  go_wp2_with fail
  refine (pending_nil w4).mono ?_
  rintro e w' ⟨rfl, rfl⟩
  go_wp2_with fail
  refine (size_nil w4).mono ?_
  rintro e w' ⟨rfl, rfl⟩
  go_wp2_with fail
  go_ret
  exact ⟨rfl, B1.out.trans (B4.out.mono B1.out.size)⟩
end Go.Proofs.Ythjcgaahnpbcdaa
