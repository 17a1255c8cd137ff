/-
  ordered, over indices.
-/
import Derived.Test.YtpkeimdlcafcnaaIMem
namespace Go.Proofs.Ytpkeimdlcafcnaa
open Go.RowKit
set_option maxRecDepth 100000
set_option maxHeartbeats 20000000

/-- Index k is one of m, and greater than the one before it. -/
def IdxOk (m : Nat) (l : List Int) (k : Nat) : Prop := (0 ≤ l[k]?.getD 0 ∧ l[k]?.getD 0 < m) ∧ (k = 0 ∨ l[k - 1]?.getD 0 < l[k]?.getD 0)
instance (m : Nat) (l : List Int) (k : Nat) : Decidable (IdxOk m l k) := by unfold IdxOk; infer_instance
def CutOk (m : Nat) (l : List Int) : Prop := (∀ k, k < l.length → IdxOk m l k) ∧ l.length ≤ 4
instance (m : Nat) (l : List Int) : Decidable (CutOk m l) := by unfold CutOk; infer_instance

theorem right_cut (x : Int) (bi : Nat) (ta : Option Addr) (tn tc : Nat) (w : World) (hb : w.cell? ⟨bi, 3, none⟩ = some (.slice ta tn tc)) :
    Calls Try.prog 68 #[.int .i64 x, .pointer (some ⟨bi, 0, none⟩)] w fun e w' => e = .returned (.bool (decide (0 ≤ x ∧ x < tn))) ∧ w = w' := by
  go_enter Try.func68, Try.ntmps68
  by_cases h1 : 0 ≤ x
  · by_cases h2 : x < tn
    · rw [decide_eq_true (⟨h1, h2⟩ : 0 ≤ x ∧ x < (tn : Int))]
      go_wp2_with fail
      go_ret
      exact ⟨rfl, rfl⟩
    · rw [decide_eq_false (fun h => h2 h.2 : ¬ (0 ≤ x ∧ x < (tn : Int)))]
      go_wp2_with fail
      go_ret
      exact ⟨rfl, rfl⟩
  · rw [decide_eq_false (fun h => h1 h.1 : ¬ (0 ≤ x ∧ x < (tn : Int)))]
    go_wp2_with fail
    go_ret
    exact ⟨rfl, rfl⟩
theorem follows_cut (x y : Int) (w : World) :
    Calls Try.prog 70 #[.int .i64 x, .int .i64 y] w fun e w' => e = .returned (.bool (decide (x < y))) ∧ w = w' := by
  go_enter Try.func70, Try.ntmps70
  go_wp2_with fail
  go_ret
  exact ⟨rfl, rfl⟩

theorem idxOk_zero {m : Nat} {l : List Int} {x : Int} (h : l[0]? = some x) : IdxOk m l 0 ↔ (0 ≤ x ∧ x < (m : Int)) := by
  unfold IdxOk
  rw [h]
  simp
theorem idxOk_succ {m : Nat} {l : List Int} {k : Nat} {x y : Int} (h : l[k]? = some x) (h2 : l[k + 1]? = some y) : IdxOk m l (k + 1) ↔ (0 ≤ y ∧ y < (m : Int)) ∧ x < y := by
  unfold IdxOk
  rw [h2, show k + 1 - 1 = k from rfl, h]
  simp

theorem ordered_int {n₀ : Nat} (a : Option Addr) (n c : Nat) (l : List Int) (bi : Nat) (ta : Option Addr) (tn tc : Nat) (w : World) (hI : Ints n₀ w (.slice a n c) l) (hm : n ≤ maxLen) (hb : w.cell? ⟨bi, 3, none⟩ = some (.slice ta tn tc)) (ht : tn ≤ maxLen) :
    Calls Try.prog 69 #[.slice a n c, .int .i64 4, .func (.func 68) #[] #[.pointer (some ⟨bi, 0, none⟩)], .func (.func 70) #[] #[]] w fun e w' => e = .returned (.bool (decide (CutOk tn l))) ∧ w = w' := by
  have HI := hide hI.form.2
  have HZ := hide hI.form.1
  have HB := hide hb
  have hm' : n ≤ 9223372036854775807 := by unfold maxLen at hm; omega
  have ht' : tn ≤ 9223372036854775807 := by unfold maxLen at ht; omega
  obtain ⟨r, hr⟩ : ∃ r, decide (CutOk tn l) = r := ⟨_, rfl⟩
  rw [hr]
  have HR := hide hr
  have NO := hide (show ∀ q : Prop, (CutOk tn l → q) → ¬ q → r = false from fun q h1 h2 => by
    rw [← hr]
    exact decide_eq_false fun h => h2 (h1 h))
  clear hI hm hr hb ht
  go_enter Try.func69, Try.ntmps69
  go_wp2_with fail
  go_loopw [13] (fun s13 wr => ∃ k : Nat, k ≤ n ∧ s13 = .int .i64 k ∧ Hid (wr = w) ∧ Hid (∀ j, j < k → IdxOk tn l j)) (fun k _ => n - (intOf k).toNat)
  case atStart => exact ⟨0, Nat.zero_le _, rfl, rfl, fun j hj => by omega⟩
  case round =>
    obtain ⟨k, hk, rfl, hw, hok⟩ := hrel
    obtain rfl := hw.out
    clear hw
    by_cases hkl : k < n
    · obtain ⟨x, hx⟩ : ∃ x, l[k]? = some x := ⟨_, List.getElem?_eq_getElem (by have := HZ.out; omega)⟩
      obtain ⟨b, o, ea, _, c0⟩ := HI.out k x hx
      subst ea
      have HX := hide hx
      have hki : (k : Int) < n := by omega
      obtain ⟨q, hq⟩ : ∃ q, decide (0 ≤ x ∧ x < (tn : Int)) = q := ⟨_, rfl⟩
      have RS := right_cut x bi ta tn tc wr HB.out
      rw [hq] at RS
      have HRS := hide RS
      have HQ := hide hq
      have hlk : ∀ h : CutOk tn l, IdxOk tn l k := fun h => h.1 k (by have := HZ.out; omega)
      have HLK := hide hlk
      clear RS hq hx hlk
      cases q with
      | false =>
        obtain rfl : r = false := NO.out (0 ≤ x ∧ x < (tn : Int)) (fun h => by
          have := (HLK.out h).1
          rw [HX.out] at this
          exact this) (of_decide_eq_false HQ.out)
        go_wp2_with fail
        refine HRS.out.mono ?_
        rintro e w' ⟨rfl, rfl⟩
        go_wp2_with fail
        go_ret
        exact ⟨rfl, rfl⟩
      | true =>
        rcases Nat.eq_zero_or_pos k with hk0 | hk0
        · subst hk0
          simp only [Nat.add_zero] at c0
          go_wp2_with fail
          refine HRS.out.mono ?_
          rintro e w' ⟨rfl, rfl⟩
          go_wp2_with fail
          go_roundw
          case rel => exact ⟨1, by omega, by go_num, by first | exact rfl | exact hide trivial, fun j hj => by
            obtain rfl : j = 0 := by omega
            exact (idxOk_zero HX.out).2 (of_decide_eq_true HQ.out)⟩
          case measure => simp [intOf] <;> omega
        · obtain ⟨m, hmk⟩ : ∃ m, m + 1 = k := ⟨k - 1, by omega⟩
          obtain ⟨p, hp⟩ : ∃ p, l[m]? = some p := ⟨_, List.getElem?_eq_getElem (by have := HZ.out; omega)⟩
          obtain ⟨b2, o2, eb, _, c1⟩ := HI.out m p hp
          obtain ⟨rfl, rfl⟩ : b = b2 ∧ o = o2 := by simpa using eb
          have hw1 : IntKind.i64.wrap ((k : Int) - 1) = (m : Int) := by rw [Go.IntWalk.i64_in _ (by omega)]; omega
          have hml : (m : Int) < n := by omega
          have hk0' : 0 < (k : Int) := by omega
          obtain ⟨q2, hq2⟩ : ∃ q, decide (p < x) = q := ⟨_, rfl⟩
          have FS := fun W => follows_cut p x W
          simp only [hq2] at FS
          have HFS := hide FS
          have HQ2 := hide hq2
          have HST := hide (show IdxOk tn l k ↔ (0 ≤ x ∧ x < (tn : Int)) ∧ p < x by
            subst hmk
            exact idxOk_succ hp HX.out)
          clear hp hmk hq2 FS eb
          cases q2 with
          | false =>
            obtain rfl : r = false := NO.out (p < x) (fun h => (HST.out.1 (HLK.out h)).2) (of_decide_eq_false HQ2.out)
            go_wp2_with fail
            refine HRS.out.mono ?_
            rintro e w' ⟨rfl, rfl⟩
            go_wp2_with fail
            refine (HFS.out _).mono ?_
            rintro e w' ⟨rfl, rfl⟩
            go_wp2_with fail
            go_ret
            exact ⟨rfl, rfl⟩
          | true =>
            go_wp2_with fail
            refine HRS.out.mono ?_
            rintro e w' ⟨rfl, rfl⟩
            go_wp2_with fail
            refine (HFS.out _).mono ?_
            rintro e w' ⟨rfl, rfl⟩
            go_wp2_with fail
            go_roundw
            case rel => exact ⟨k + 1, by omega, by go_num, by first | exact rfl | exact hide trivial, fun j hj => by
              rcases Nat.lt_or_ge j k with h | h
              · exact hok.out j h
              · obtain rfl : j = k := by omega
                exact HST.out.2 ⟨of_decide_eq_true HQ.out, of_decide_eq_true HQ2.out⟩⟩
            case measure => simp [intOf] <;> omega
    · obtain rfl : k = n := by omega
      have hki : ¬ (k : Int) < k := by omega
      by_cases h4 : k ≤ 4
      · obtain rfl : r = true := by
          rw [← HR.out]
          exact decide_eq_true ⟨fun j hj => hok.out j (by have := HZ.out; omega), by have := HZ.out; omega⟩
        have h4' : (k : Int) ≤ 4 := by omega
        go_wp2_with fail
        go_ret
        exact ⟨rfl, rfl⟩
      · obtain rfl : r = false := NO.out (l.length ≤ 4) (fun h => h.2) (by have := HZ.out; omega)
        have h4' : decide ((k : Int) ≤ 4) = false := decide_eq_false (by omega)
        have h4'' : (4 : Int) < k := by omega
        go_wp2_with fail
        go_ret
        exact ⟨rfl, rfl⟩
end Go.Proofs.Ytpkeimdlcafcnaa
