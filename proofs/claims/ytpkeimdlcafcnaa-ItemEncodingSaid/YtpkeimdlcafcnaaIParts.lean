/-
  The reference's parts: spells that an integer determines.
-/
import Derived.Test.YtpkeimdlcafcnaaIMade
import Derived.Deep.LoopGhost
namespace Go.Proofs.Ytpkeimdlcafcnaa
open Go.RowKit
set_option maxRecDepth 100000
set_option maxHeartbeats 20000000

def partsGo (c len : Int) : Nat → Nat → Int → List Sp
  | 0, _, _ => []
  | f + 1, k, at_ =>
    if len ≤ at_ + c / (5 + 7 * k) % (1 + len / 4) + 1 + c / (11 + 3 * k) % (1 + len / 6) then []
    else ⟨at_ + c / (5 + 7 * k) % (1 + len / 4), at_ + c / (5 + 7 * k) % (1 + len / 4) + 1 + c / (11 + 3 * k) % (1 + len / 6)⟩ :: partsGo c len f (k + 1) (at_ + c / (5 + 7 * k) % (1 + len / 4) + 1 + c / (11 + 3 * k) % (1 + len / 6))
def partsS (x len : Int) : List Sp := partsGo (pickS x 1099511627776) len (pickS x 1099511627776 % 5).toNat 0 0
theorem partsGo_spec (c len : Int) (_ : 1 ≤ len) : ∀ (f k : Nat) (at_ : Int), 0 ≤ at_ → at_ < len → (partsGo c len f k at_).length ≤ f ∧
    (∀ j, j < (partsGo c len f k at_).length → SpIn len ((partsGo c len f k at_)[j]?.getD ⟨0, 0⟩) ∧ (if j = 0 then at_ else ((partsGo c len f k at_)[j - 1]?.getD ⟨0, 0⟩).to_) ≤ ((partsGo c len f k at_)[j]?.getD ⟨0, 0⟩).fr) ∧
    sumSp (partsGo c len f k at_) < len - at_ := by
  intro f
  induction f with
  | zero => intro k at_ h0 h1; exact ⟨Nat.le_refl _, fun j hj => by simp [partsGo] at hj, by show 0 < _; omega⟩
  | succ f ih =>
    intro k at_ h0 h1
    rw [partsGo]
    have a1 := Int.emod_nonneg (c / (5 + 7 * k)) (show 1 + len / 4 ≠ 0 by omega)
    have b1 := Int.emod_nonneg (c / (11 + 3 * k)) (show 1 + len / 6 ≠ 0 by omega)
    generalize c / (5 + 7 * k) % (1 + len / 4) = q1 at *
    generalize c / (11 + 3 * k) % (1 + len / 6) = q2 at *
    by_cases hle : len ≤ at_ + q1 + 1 + q2
    · rw [if_pos hle]
      exact ⟨Nat.zero_le _, fun j hj => by simp at hj, by show 0 < _; omega⟩
    · rw [if_neg hle]
      obtain ⟨i1, i2, i3⟩ := ih (k + 1) (at_ + q1 + 1 + q2) (by omega) (by omega)
      refine ⟨by rw [List.length_cons]; omega, fun j hj => ?_, by rw [sumSp_cons]; show at_ + q1 + 1 + q2 - (at_ + q1) + _ < _; omega⟩
      cases j with
      | zero => exact ⟨⟨by show 0 ≤ at_ + q1; omega, by show at_ + q1 < at_ + q1 + 1 + q2; omega, by show at_ + q1 + 1 + q2 ≤ len; omega⟩, by show at_ ≤ at_ + q1; omega⟩
      | succ j =>
        have := i2 j (by rw [List.length_cons] at hj; omega)
        rw [List.getElem?_cons_succ]
        refine ⟨this.1, ?_⟩
        have h3 := this.2
        rw [if_neg (by omega), show j + 1 - 1 = j by omega]
        cases j with
        | zero => exact h3
        | succ j => rw [if_neg (by omega)] at h3; rw [List.getElem?_cons_succ]; exact h3
theorem partsS_ok (x len : Int) (hl : 1 ≤ len) : SpsOk len (partsS x len) ∧ sumSp (partsS x len) < len := by
  unfold partsS
  have h5 := Int.emod_lt_of_pos (pickS x 1099511627776) (show (0 : Int) < 5 by omega)
  obtain ⟨h1, h2, h3⟩ := partsGo_spec (pickS x 1099511627776) len hl (pickS x 1099511627776 % 5).toNat 0 0 (by omega) (by omega)
  refine ⟨⟨fun k hk => ?_, by omega⟩, by omega⟩
  obtain ⟨a, b⟩ := h2 k hk
  refine ⟨a, ?_⟩
  rcases Nat.eq_zero_or_pos k with h | h
  · exact .inl h
  · rw [if_neg (by omega)] at b
    exact .inr b

theorem parts_any (x len : Int) (w : World) (h1 : -9223372036854775808 ≤ x) (h2 : x ≤ 9223372036854775807) (hl : 1 ≤ len) (hl2 : len ≤ 3600) :
    Calls Try.prog 40 #[.int .i64 x, .int .i64 len] w fun e w' => ∃ A cc, e = .returned (.slice A (partsS x len).length cc) ∧ w'.ownsRow 0 53 2 (.slice A (partsS x len).length cc) (partsS x len).length (spCells (partsS x len)) ∧ Upd [] w w' := by
  have PK := hide (refPick x 1099511627776 w h1 h2 (by omega) (by omega))
  have hcb := pickS_bounds x 1099511627776 (by omega)
  obtain ⟨c, hc⟩ : ∃ c : Nat, pickS x 1099511627776 = (c : Int) := ⟨(pickS x 1099511627776).toNat, by omega⟩
  obtain ⟨L, HL⟩ : ∃ L, Hid (partsS x len = L) := ⟨_, rfl⟩
  obtain ⟨m, hm⟩ : ∃ m, c % 5 = m := ⟨_, rfl⟩
  have HLG := hide (show partsGo c len m 0 0 = L by rw [← HL.out]; unfold partsS; rw [hc, ← hm]; rfl)
  rw [hc] at PK hcb
  rw [HL.out]
  obtain ⟨hc1, hc2⟩ := hcb
  have hm5 : m < 5 := by omega
  have hmi : (c : Int) % 5 = (m : Int) := by omega
  have HMI := hide hmi
  clear h1 h2 hc hm
  go_enter Try.func40, Try.ntmps40
  go_wp2_with (go_at_call 39; refine PK.out.mono ?_; rintro e w' ⟨rfl, rfl⟩)
  obtain ⟨wP, rfl⟩ : ∃ wP : World, wP = w := ⟨_, rfl⟩
  go_loopw [5, 6, 7] (fun s5 s6 s7 wr => ∃ (k : Nat) (at_ : Int) (A : Option Addr) (n cc : Nat) (l : List Sp), k ≤ m ∧ s7 = .int .i64 k ∧ s6 = .int .i64 at_ ∧ (0 ≤ at_ ∧ at_ < len) ∧ s5 = .slice A n cc ∧ n ≤ k ∧ Hid (l ++ partsGo c len (m - k) k at_ = L) ∧ Hid (n = l.length) ∧ Hid (wr.ownsRow wP.heap.size 53 2 (.slice A n cc) n (spCells l)) ∧ Hid (Upd [] wP wr)) (fun _ _ k _ => m - (intOf k).toNat)
  case atStart => exact ⟨0, 0, none, 0, 0, [], Nat.zero_le _, rfl, rfl, by omega, rfl, Nat.le_refl _, HLG, rfl, World.ownsRow_nil _ _ _ _, Upd.refl _ _⟩
  case round =>
    obtain ⟨k, at_, A, n, cc, l, hk, rfl, rfl, ⟨ha1, ha2⟩, rfl, hnk, hl9, hnl, hown, hu⟩ := hrel
    obtain ⟨wo, rfl⟩ : ∃ wo : World, wo = wr := ⟨_, rfl⟩
    by_cases hkm : k < m
    · have hki : (k : Int) < m := by omega
      have hk5 : (k : Int) < 5 := by omega
      have r1 : 0 ≤ (c : Int) / (5 + 7 * k) := Int.ediv_nonneg (by omega) (by omega)
      have r2 : (c : Int) / (5 + 7 * k) ≤ 1099511627776 := by
        have := Int.ediv_le_self (5 + 7 * (k : Int)) (a := (c : Int)) (by omega)
        omega
      have r3 : 0 ≤ (c : Int) / (11 + 3 * k) := Int.ediv_nonneg (by omega) (by omega)
      have r4 : (c : Int) / (11 + 3 * k) ≤ 1099511627776 := by
        have := Int.ediv_le_self (11 + 3 * (k : Int)) (a := (c : Int)) (by omega)
        omega
      obtain ⟨f, hf⟩ : ∃ f, f + 1 = m - k := ⟨m - k - 1, by omega⟩
      have HF := hide hf
      obtain ⟨d1, hd1⟩ : ∃ d, (c : Int) / (5 + 7 * k) = d := ⟨_, rfl⟩
      obtain ⟨d2, hd2⟩ : ∃ d, (c : Int) / (11 + 3 * k) = d := ⟨_, rfl⟩
      obtain ⟨q1, hq1⟩ : ∃ d, d1 % (1 + len / 4) = d := ⟨_, rfl⟩
      obtain ⟨q2, hq2⟩ : ∃ d, d2 % (1 + len / 6) = d := ⟨_, rfl⟩
      have hq1b : 0 ≤ q1 ∧ q1 < 1 + len / 4 := by rw [← hq1]; exact ⟨Int.emod_nonneg _ (by omega), Int.emod_lt_of_pos _ (by omega)⟩
      have hq2b : 0 ≤ q2 ∧ q2 < 1 + len / 6 := by rw [← hq2]; exact ⟨Int.emod_nonneg _ (by omega), Int.emod_lt_of_pos _ (by omega)⟩
      rw [hd1] at r1 r2
      rw [hd2] at r3 r4
      obtain ⟨hq11, hq12⟩ := hq1b
      obtain ⟨hq21, hq22⟩ := hq2b
      have hd1' : (c : Int).tdiv (5 + 7 * k) = d1 := by rw [Int.tdiv_eq_ediv_of_nonneg (by omega), hd1]
      have hd2' : (c : Int).tdiv (11 + 3 * k) = d2 := by rw [Int.tdiv_eq_ediv_of_nonneg (by omega), hd2]
      have e4 : len.tdiv 4 = len / 4 := Int.tdiv_eq_ediv_of_nonneg (by omega)
      have e6 : len.tdiv 6 = len / 6 := Int.tdiv_eq_ediv_of_nonneg (by omega)
      have hq1' : d1.tmod (1 + len / 4) = q1 := by rw [Int.tmod_eq_emod_of_nonneg (by omega), hq1]
      have hq2' : d2.tmod (1 + len / 6) = q2 := by rw [Int.tmod_eq_emod_of_nonneg (by omega), hq2]
      have z1 : ((5 : Int) + 7 * k == 0) = false := by simp; omega
      have z2 : ((11 : Int) + 3 * k == 0) = false := by simp; omega
      have z3 : ((1 : Int) + len / 4 == 0) = false := by simp; omega
      have z4 : ((1 : Int) + len / 6 == 0) = false := by simp; omega
      have HD1 := hide hd1
      have HD2 := hide hd2
      have HQ1 := hide hq1
      have HQ2 := hide hq2
      clear hf hd1 hd2 hq1 hq2
      have HSTEP := hide (show partsGo c len (m - k) k at_ = if len ≤ at_ + q1 + 1 + q2 then [] else ⟨at_ + q1, at_ + q1 + 1 + q2⟩ :: partsGo c len f (k + 1) (at_ + q1 + 1 + q2) by
        rw [← HF.out, partsGo, HD1.out, HD2.out, HQ1.out, HQ2.out])
      have O1 := hide (show ∀ u ∈ [Value.int .i64 (at_ + q1), Value.int .i64 (at_ + q1 + 1 + q2)], u.oneCell' = true by simp [Value.oneCell'])
      have O3 := hide (show n + 1 ≤ maxLen by unfold maxLen; omega)
      have O4 := hide (show (n + 1) * 16 ≤ 140737488355328 by omega)
      have OB := hide (hown.out.alloc (.cells #[.int .i64 (at_ + q1), .int .i64 (at_ + q1 + 1 + q2)] 53))
      have OS := hide (show wP.heap.size ≤ (wo.alloc (.cells #[.int .i64 (at_ + q1), .int .i64 (at_ + q1 + 1 + q2)] 53)).heap.size by have := hu.out.size; rw [World.size_alloc]; omega)
      by_cases hle : len ≤ at_ + q1 + 1 + q2
      · have HE := hide (show l = L by
          have h1 := hl9.out
          rw [HSTEP.out, if_pos hle, List.append_nil] at h1
          exact h1)
        go_wp2_with fail
        go_ret
        have e := HE.out
        subst e
        rw [← hnl.out]
        exact ⟨A, cc, rfl, it_own_less hown.out (Nat.zero_le _), hu.out⟩
      · have HE := hide (show (l ++ [(⟨at_ + q1, at_ + q1 + 1 + q2⟩ : Sp)]) ++ partsGo c len (m - (k + 1)) (k + 1) (at_ + q1 + 1 + q2) = L by
          have h1 := hl9.out
          rw [HSTEP.out, if_neg hle] at h1
          rw [← h1, show m - (k + 1) = f by have := HF.out; omega, List.append_assoc]
          rfl)
        go_wp2_with (at_builtin; refine wpList_append_base rfl (.tmp 44) (.tmp 48) _ rfl wP.heap.size 53 _ 2 16 Try.underlying22 it_info_spell rfl (by decide) A n cc _ rfl OB.out ⟨wo.heap.size, 0, none⟩ 1 1 [.int .i64 (at_ + q1), .int .i64 (at_ + q1 + 1 + q2)] rfl rfl (cell_two_new _ _ _ _) O1.out O3.out O4.out OS.out ?_; intro A5 c5 w5 h5 u5 _; have H5 := hide h5; have V5 := hide ((hu.out.alloc _).trans u5 (fun z hz => .inr (it_own_block hown.out z (by rw [ownBlock_slice]; simpa using hz)))); clear h5 u5)
        go_roundw
        case rel => exact ⟨k + 1, at_ + q1 + 1 + q2, A5, n + 1, c5, l ++ [⟨at_ + q1, at_ + q1 + 1 + q2⟩], by omega, by go_num, rfl, by omega, rfl, by omega, HE, hide (by rw [List.length_append, ← hnl.out]; rfl), hide (by rw [spCells_append]; exact H5.out), V5⟩
        case measure => simp [intOf] <;> omega
    · obtain rfl : k = m := by omega
      have hki : ¬ (k : Int) < k := by omega
      have HE := hide (show l = L by
        have h1 := hl9.out
        rw [Nat.sub_self] at h1
        simpa [partsGo] using h1)
      go_wp2_with fail
      go_ret
      have e := HE.out
      subst e
      rw [← hnl.out]
      exact ⟨A, cc, rfl, it_own_less hown.out (Nat.zero_le _), hu.out⟩
end Go.Proofs.Ytpkeimdlcafcnaa
