/-
  The reference's list of the seconds of a table: listed.
-/
import Derived.Test.YteehjciepccomaaRReach
import Derived.Test.YteehjciepccomaaFMade2
namespace Go.Proofs.Yteehjciepccomaa
open Go.RowKit
set_option maxRecDepth 100000
set_option maxHeartbeats 20000000

theorem rlisted_any (B : Nat) (L : List Int) (w : World) (hB : BoolRow w B L) :
    Calls Try.prog 49 #[.slice (some ⟨B, 0, none⟩) 72001 72001] w fun e w' => ∃ v, e = .returned v ∧ w'.ownsRow w.heap.size 3 1 v (memb L 72001).length ((memb L 72001).map (Value.int .i64)) ∧ Upd [] w w' := by
  have HB := hide hB
  clear hB
  go_enter Try.func49, Try.ntmps49
  go_wp2_with fail
  go_loopw [3, 4] (fun s3 s4 wr => ∃ (k : Nat) (A : Option Addr) (m c : Nat), k ≤ 72001 ∧ s4 = .int .i64 k ∧ s3 = .slice A m c ∧ Hid (m = (memb L k).length) ∧ Hid (Upd [] w wr) ∧ Hid (wr.ownsRow w.heap.size 3 1 (.slice A m c) m ((memb L k).map (Value.int .i64)))) (fun _ k _ => 72001 - (intOf k).toNat)
  case atStart => exact ⟨0, none, 0, 0, Nat.zero_le _, rfl, rfl, rfl, Upd.refl _ _, World.ownsRow_nil _ _ _ _⟩
  case round =>
    obtain ⟨k, A, m, c, hk, rfl, rfl, hm, hu, hrow⟩ := hrel
    obtain ⟨wo, rfl⟩ : ∃ wo : World, wo = wr := ⟨_, rfl⟩
    by_cases hkl : k < 72001
    · have hki : (k : Int) < 72001 := by omega
      have hm9 := hm.out
      have hmk := memb_length L k
      have f0 := ((HB.out.upd hu.out (by simp)).cell hkl).1
      by_cases hL : (k : Int) ∈ L
      · rw [decide_eq_true hL] at f0
        have HSN := hide (memb_yes hL)
        have O1 := hide (show ∀ u ∈ [Value.int .i64 (k : Int)], u.oneCell' = true by simp [Value.oneCell'])
        have O3 := hide (show m + 1 ≤ maxLen by unfold maxLen; omega)
        have O4 := hide (show (m + 1) * 8 ≤ 140737488355328 by omega)
        have OB := hide (hrow.out.alloc (.cells #[.int .i64 (k : Int)] 3))
        have OS := hide (show w.heap.size ≤ (wo.alloc (.cells #[.int .i64 (k : Int)] 3)).heap.size by rw [World.size_alloc]; have := hu.out.size; omega)
        have hA : ∀ q ∈ (A.map (·.block)).toList, w.heap.size ≤ q := fun q hq => (row_lt hrow.out q (by rw [ownBlock_slice]; simpa using hq)).1
        have HA := hide hA
        clear hL hA hm9 hmk
        go_wp2_with (at_builtin; refine wpList_append_base rfl (.tmp 15) (.tmp 17) _ rfl w.heap.size 3 _ 1 8 Try.underlying24 info_int rfl (by decide) A m c _ rfl OB.out ⟨wo.heap.size, 0, none⟩ 1 1 [.int .i64 (k : Int)] rfl rfl (cell_one_new _ _ _) O1.out O3.out O4.out OS.out ?_; intro A2 c2 w2 h2 u2 a2; have H2 := hide h2; have U2 := hide u2; clear h2 u2 a2)
        have V2 := hide (show Upd [] w w2 from ((hu.out.alloc (.cells #[.int .i64 (k : Int)] 3)).trans U2.out (fun q hq => .inr (HA.out q hq))))
        go_wp2_with fail
        go_roundw
        case rel => exact ⟨k + 1, A2, m + 1, c2, by omega, by go_num, rfl, by rw [HSN.out, List.length_append, ← hm.out]; rfl, V2, by rw [HSN.out, List.map_append]; exact H2.out⟩
        case measure => simp [intOf] <;> omega
      · rw [decide_eq_false hL] at f0
        have HSN := hide (memb_no hL)
        clear hL hm9 hmk
        go_wp2_with fail
        go_roundw
        case rel => exact ⟨k + 1, A, m, c, by omega, by go_num, rfl, by rw [HSN.out]; exact hm, hu, by rw [HSN.out]; exact hrow⟩
        case measure => simp [intOf] <;> omega
    · have hki : ¬ (k : Int) < 72001 := by omega
      have hk72 : k = 72001 := by omega
      have hr2 := hrow.out
      have hm2 := hm.out
      rw [hk72] at hr2 hm2
      have HR2 := hide hr2
      have HM2 := hide hm2
      clear hk72 hr2 hm2
      go_wp2_with fail
      go_ret
      exact ⟨_, rfl, by rw [← HM2.out]; exact HR2.out, hu.out⟩
end Go.Proofs.Yteehjciepccomaa
