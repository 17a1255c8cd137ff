/-
  The small functions: bounds, a valid piece, a join, a distance, whether a number is in a list.
-/
import Derived.Test.YteehjciepccomaaFMem
import Derived.Below
namespace Go.Proofs.Yteehjciepccomaa
open Go.RowKit
set_option maxRecDepth 100000
set_option maxHeartbeats 1000000

/-- isIn -/
theorem isIn_any (n lo hi : Int) (w : World) : Calls Try.prog 41 #[.int .i64 n, .int .i64 lo, .int .i64 hi] w fun e w' => e = .returned (.bool (decide (lo ≤ n ∧ n ≤ hi))) ∧ w = w' := by
  by_cases h1 : lo ≤ n
  · by_cases h2 : n ≤ hi
    · rw [decide_eq_true (⟨h1, h2⟩ : lo ≤ n ∧ n ≤ hi)]
      go_enter Try.func41, Try.ntmps41
      go_wp2_with fail
      go_ret
      exact ⟨rfl, rfl⟩
    · rw [decide_eq_false (fun h : lo ≤ n ∧ n ≤ hi => h2 h.2)]
      go_enter Try.func41, Try.ntmps41
      go_wp2_with fail
      go_ret
      exact ⟨rfl, rfl⟩
  · rw [decide_eq_false (fun h : lo ≤ n ∧ n ≤ hi => h1 h.1)]
    go_enter Try.func41, Try.ntmps41
    go_wp2_with fail
    go_ret
    exact ⟨rfl, rfl⟩
theorem isIn_yes {n lo hi : Int} (h1 : lo ≤ n) (h2 : n ≤ hi) (w : World) : Calls Try.prog 41 #[.int .i64 n, .int .i64 lo, .int .i64 hi] w fun e w' => e = .returned (.bool true) ∧ w = w' := by
  have h := isIn_any n lo hi w
  rwa [decide_eq_true (⟨h1, h2⟩ : lo ≤ n ∧ n ≤ hi)] at h
theorem isIn_no {n lo hi : Int} (h1 : ¬ (lo ≤ n ∧ n ≤ hi)) (w : World) : Calls Try.prog 41 #[.int .i64 n, .int .i64 lo, .int .i64 hi] w fun e w' => e = .returned (.bool false) ∧ w = w' := by
  have h := isIn_any n lo hi w
  rwa [decide_eq_false h1] at h

/-- meets -/
theorem meets_any (p : Pc) (v : Value) (t : Int) (w : World) (hv : v.oneCell' = true) : Calls Try.prog 46 #[.agg #[v, .int .i64 p.want, .int .i64 p.join], .int .i64 t] w fun e w' => e = .returned (.bool (meetsS p t)) ∧ Upd [] w w' := by
  have L1 := Blk.new w 50 [v, .int .i64 p.want, .int .i64 p.join]
  have U1 := hide ((Upd.refl [] w).alloc (.cells #[v, .int .i64 p.want, .int .i64 p.join] 50))
  have k2 := L1.cell 2
  have HV := hide hv
  clear L1
  by_cases h1 : p.join < 0
  · rw [show meetsS p t = true by simp [meetsS, h1]]
    go_enter Try.func46, Try.ntmps46
    go_wp2_with fail
    go_ret
    exact ⟨rfl, U1.out⟩
  · obtain ⟨r, hr⟩ : ∃ r, (p.join == t) = r := ⟨_, rfl⟩
    rw [show meetsS p t = r by rw [← hr]; unfold meetsS; rw [decide_eq_false h1, Bool.false_or]; rfl]
    have HR := hide hr
    clear hr
    go_enter Try.func46, Try.ntmps46
    go_wp2_with fail
    go_ret
    exact ⟨by rw [← HR.out]; rfl, U1.out⟩

/-- away -/
theorem away_any (a b : Int) (w : World) (h1 : -1000000000000000000 ≤ a ∧ a ≤ 1000000000000000000) (h2 : -1000000000000000000 ≤ b ∧ b ≤ 1000000000000000000) : Calls Try.prog 57 #[.int .i64 a, .int .i64 b] w fun e w' => e = .returned (.int .i64 (awayS a b)) ∧ w = w' := by
  obtain ⟨a1, a2⟩ := h1
  obtain ⟨b1, b2⟩ := h2
  go_enter Try.func57, Try.ntmps57
  go_wp2_with fail
  all_goals go_ret
  · exact ⟨by show Ending.returned (.int .i64 (b - a)) = _; rw [show awayS a b = b - a by unfold awayS; omega], rfl⟩
  · exact ⟨by show Ending.returned (.int .i64 (a - b)) = _; rw [show awayS a b = a - b by unfold awayS; omega], rfl⟩

/-- slices.Index, slices.Contains -/
theorem index_any {n₀ : Nat} (a : Option Addr) (n c : Nat) (zs : List Int) (x : Int) (w : World) (hI : Ints n₀ w (.slice a n c) zs) (hm : n ≤ 1000000000) :
    Calls Try.prog 73 #[.slice a n c, .int .i64 x] w fun e w' => (∃ k : Int, e = .returned (.int .i64 k) ∧ (k < 0 ↔ x ∉ zs) ∧ k ≤ 1000000000) ∧ w = w' := by
  have HI := hide hI.form.2
  have HZ := hide hI.form.1
  clear hI
  go_enter Try.func73, Try.ntmps73
  go_wp2_with fail
  go_loopw [8] (fun i wr => ∃ k : Nat, k ≤ n ∧ i = .int .i64 k ∧ wr = w ∧ Hid (∀ j v, j < k → zs[j]? = some v → v ≠ x))
    (fun i _ => n - (intOf i).toNat)
  case atStart => exact ⟨0, Nat.zero_le _, rfl, rfl, fun j v hj => by omega⟩
  case round =>
    obtain ⟨k, hk, rfl, rfl, hno⟩ := hrel
    by_cases hlt : k < n
    · obtain ⟨v, hv⟩ : ∃ v, zs[k]? = some v := ⟨_, List.getElem?_eq_getElem (by rw [← HZ.out]; exact hlt)⟩
      obtain ⟨b, o, rfl, _, hc⟩ := HI.out k v hv
      have HV := hide hv
      clear hv
      by_cases hx : v = x
      · have HX := hide hx
        rw [HX.out] at hc
        clear hx
        go_wp2_with fail
        go_ret
        refine ⟨⟨k, rfl, ⟨fun h => by omega, fun h => absurd (List.mem_of_getElem? (HX.out ▸ HV.out)) h⟩, by omega⟩, rfl⟩
      · have HX := hide hx
        have hx' : ¬ x = v := fun h => hx h.symm
        clear hx
        go_wp2_with fail
        go_roundw
        case rel => exact ⟨k + 1, by omega, by go_num, by first | rfl | trivial, fun j u hj hu => by
          rcases Nat.lt_or_ge j k with h | h
          · exact hno.out j u h hu
          · obtain rfl : j = k := by omega
            have := HV.out
            rw [hu] at this
            obtain rfl : u = v := by simpa using this
            exact HX.out⟩
        case measure => simp [intOf] <;> omega
    · obtain rfl : k = n := by omega
      go_wp2_with fail
      go_ret
      refine ⟨⟨-1, rfl, ⟨fun _ hm => ?_, fun _ => by omega⟩, by omega⟩, rfl⟩
      obtain ⟨j, hj⟩ := List.getElem?_of_mem hm
      have hjl := (List.getElem?_eq_some_iff.1 hj).1
      exact hno.out j x (by have := HZ.out; omega) hj rfl
theorem contains_any {n₀ : Nat} (a : Option Addr) (n c : Nat) (zs : List Int) (x : Int) (w : World) (hI : Ints n₀ w (.slice a n c) zs) (hm : n ≤ 1000000000) :
    Calls Try.prog 56 #[.slice a n c, .int .i64 x] w fun e w' => e = .returned (.bool (decide (x ∈ zs))) ∧ w = w' := by
  have C := hide (index_any a n c zs x w hI hm)
  clear hI
  go_enter Try.func56, Try.ntmps56
  go_wp2_with fail
  refine C.out.mono ?_
  rintro e w' ⟨⟨k, rfl, hk, _⟩, rfl⟩
  have HK := hide hk
  clear hk
  obtain ⟨r, hr⟩ : ∃ r, decide (0 ≤ k) = r := ⟨_, rfl⟩
  have e : decide (x ∈ zs) = r := by
    rw [← hr]
    have := HK.out
    by_cases hx : x ∈ zs
    · rw [decide_eq_true hx, decide_eq_true (p := 0 ≤ k) (by rcases Int.lt_or_le k 0 with h | h; exact absurd hx (this.1 h); exact h)]
    · rw [decide_eq_false hx, decide_eq_false (by have := this.2 hx; omega)]
  have HE := hide e
  have HR := hide hr
  clear e hr
  go_wp2_with fail
  go_ret
  exact ⟨by rw [HE.out, ← HR.out]; rfl, rfl⟩

end Go.Proofs.Yteehjciepccomaa
