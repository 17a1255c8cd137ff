/-
  The statements' own small functions: pick, cut.
-/
import Derived.Test.YthjcgaahnpbcdaaSane
import Derived.Test.YthjcgaahnpbcdaaArgs
import Derived.OpenShut
namespace Go.Proofs.Ythjcgaahnpbcdaa
open Go.RowKit
set_option maxRecDepth 100000
set_option maxHeartbeats 1000000

def pickN (c n : Int) : Int := (if c < 0 then -(c + 1) else c) % n
theorem pickN_lt (c : Int) {n : Int} (hn : 0 < n) : 0 ≤ pickN c n ∧ pickN c n < n := ⟨Int.emod_nonneg _ (by omega), Int.emod_lt_of_pos _ hn⟩

theorem pick_any (c n : Int) (w : World) (hc : (Lit.int .i64 c).wf = true) (h0 : 0 < n) (_h1 : n ≤ 9223372036854775807) :
    Calls Try.prog 15 #[.int .i64 c, .int .i64 n] w fun e w' => e = .returned (.int .i64 (pickN c n)) ∧ w = w' := by
  have hb : -9223372036854775808 ≤ c ∧ c ≤ 9223372036854775807 := bounds_i64 hc
  by_cases h : c < 0
  · have e : pickN c n = (-(c + 1)) % n := by simp [pickN, h]
    have H := hide e
    obtain ⟨b1, b2⟩ := hb
    clear e hc
    go_enter Try.func15, Try.ntmps15
    go_wp2
    go_ret
    refine ⟨?_, rfl⟩
    rw [H.out, ← Int.tmod_eq_emod_of_nonneg (show 0 ≤ -(c + 1) by omega), Int.neg_tmod]
    rfl
  · have e : pickN c n = c % n := by simp [pickN, h]
    have H := hide e
    obtain ⟨b1, b2⟩ := hb
    clear e hc
    go_enter Try.func15, Try.ntmps15
    go_wp2
    go_ret
    exact ⟨by rw [H.out]; rfl, rfl⟩
theorem cut_str (s : ByteArray) (n : Nat) (w : World) (hs : s.size ≤ maxLen) (hn : n ≤ 4194304) :
    Calls Try.prog 22 #[.string s, .int .i64 (n : Int)] w fun e w' => e = .returned (.string ⟨(s.data.toList.take n).toArray⟩) ∧ w = w' := by
  unfold maxLen at hs
  have hx : (⟨(s.data.toList.take n).toArray⟩ : ByteArray) = s.extract 0 (min (s.size : Int) (n : Int)).toNat := by
    apply ByteArray.ext
    apply Array.toList_inj.1
    rw [Lib.extract_data]
    simp only [List.drop_zero, Nat.sub_zero]
    by_cases h : (s.size : Int) ≤ n
    · rw [Int.min_eq_left h, List.take_of_length_le (by rw [← Lib.size_eq]; omega), List.take_of_length_le (by rw [← Lib.size_eq]; omega)]
    · rw [Int.min_eq_right (by omega)]; rfl
  have H := hide hx
  clear hx
  go_enter Try.func22, Try.ntmps22
  go_wp2
  go_ret
  exact ⟨by rw [H.out]; rfl, rfl⟩
end Go.Proofs.Ythjcgaahnpbcdaa
