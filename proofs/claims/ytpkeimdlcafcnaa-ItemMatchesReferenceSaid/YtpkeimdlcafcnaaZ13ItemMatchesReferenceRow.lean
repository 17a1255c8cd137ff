/-
  The small functions of the reference and of the laws on items.
  aircheckref07.within: spells lie in a recording.
  The reference's cuts by bits; the items that integers determine.
  The reference's cuts by bits; the items that integers determine.
-/
import Derived.Test.YtpkeimdlcafcnaaZ12ItemMatchesReferenceRow
import Derived.Test.YtpkeimdlcafcnaaZ10ItemMatchesReferenceRow
import Derived.Test.YtpkeimdlcafcnaaZ3ItemMatchesReferenceRow
import Derived.Deep.CutBlock

namespace Go.Proofs.Ytpkeimdlcafcnaa
open Go.RowKit
set_option maxRecDepth 100000
set_option maxHeartbeats 20000000

def pickS (c n : Int) : Int := (if c < 0 then -(c + 1) else c) % n
theorem pickS_bounds (c n : Int) (h : 0 < n) : 0 ≤ pickS c n ∧ pickS c n < n := ⟨Int.emod_nonneg _ (by omega), Int.emod_lt_of_pos _ h⟩
theorem refPick (c n : Int) (w : World) (h1 : -9223372036854775808 ≤ c) (h2 : c ≤ 9223372036854775807) (hn : 0 < n) (hn2 : n ≤ 9223372036854775807) :
    Calls Try.prog 39 #[.int .i64 c, .int .i64 n] w fun e w' => e = .returned (.int .i64 (pickS c n)) ∧ w = w' := by
  unfold pickS
  by_cases h0 : c < 0
  · rw [if_pos h0]
    obtain ⟨d, hd⟩ : ∃ d, -(c + 1) = d := ⟨_, rfl⟩
    have hw1 : IntKind.i64.wrap (c + 1) = c + 1 := Go.IntWalk.i64_in _ (by omega)
    have hw2 : IntKind.i64.wrap (-(c + 1)) = d := by rw [Go.IntWalk.i64_in _ (by omega), hd]
    have ht : d.tmod n = d % n := Int.tmod_eq_emod_of_nonneg (by omega)
    have hd0 : 0 ≤ d := by omega
    have hm := Int.emod_lt_of_pos d hn
    have hm0 := Int.emod_nonneg d (show n ≠ 0 by omega)
    have hw3 : IntKind.i64.wrap (d % n) = d % n := Go.IntWalk.i64_in _ (by omega)
    have hn0 : (n == 0) = false := by simp; omega
    rw [hd]
    clear hd hm hm0
    go_enter Try.func39, Try.ntmps39
    go_wp2
    go_ret
    exact ⟨rfl, rfl⟩
  · rw [if_neg h0]
    have ht : c.tmod n = c % n := Int.tmod_eq_emod_of_nonneg (by omega)
    have hd0 : 0 ≤ c := by omega
    have hm := Int.emod_lt_of_pos c hn
    have hm0 := Int.emod_nonneg c (show n ≠ 0 by omega)
    have hw3 : IntKind.i64.wrap (c % n) = c % n := Go.IntWalk.i64_in _ (by omega)
    have hn0 : (n == 0) = false := by simp; omega
    clear hm hm0
    go_enter Try.func39, Try.ntmps39
    go_wp2
    go_ret
    exact ⟨rfl, rfl⟩
theorem lawPick (c n : Int) (w : World) (h1 : -9223372036854775808 ≤ c) (h2 : c ≤ 9223372036854775807) (hn : 0 < n) (hn2 : n ≤ 9223372036854775807) :
    Calls Try.prog 19 #[.int .i64 c, .int .i64 n] w fun e w' => e = .returned (.int .i64 (pickS c n)) ∧ w = w' := by
  unfold pickS
  by_cases h0 : c < 0
  · rw [if_pos h0]
    obtain ⟨d, hd⟩ : ∃ d, -(c + 1) = d := ⟨_, rfl⟩
    have hw1 : IntKind.i64.wrap (c + 1) = c + 1 := Go.IntWalk.i64_in _ (by omega)
    have hw2 : IntKind.i64.wrap (-(c + 1)) = d := by rw [Go.IntWalk.i64_in _ (by omega), hd]
    have ht : d.tmod n = d % n := Int.tmod_eq_emod_of_nonneg (by omega)
    have hd0 : 0 ≤ d := by omega
    have hm := Int.emod_lt_of_pos d hn
    have hm0 := Int.emod_nonneg d (show n ≠ 0 by omega)
    have hw3 : IntKind.i64.wrap (d % n) = d % n := Go.IntWalk.i64_in _ (by omega)
    have hn0 : (n == 0) = false := by simp; omega
    rw [hd]
    clear hd hm hm0
    go_enter Try.func19, Try.ntmps19
    go_wp2
    go_ret
    exact ⟨rfl, rfl⟩
  · rw [if_neg h0]
    have ht : c.tmod n = c % n := Int.tmod_eq_emod_of_nonneg (by omega)
    have hd0 : 0 ≤ c := by omega
    have hm := Int.emod_lt_of_pos c hn
    have hm0 := Int.emod_nonneg c (show n ≠ 0 by omega)
    have hw3 : IntKind.i64.wrap (c % n) = c % n := Go.IntWalk.i64_in _ (by omega)
    have hn0 : (n == 0) = false := by simp; omega
    clear hm hm0
    go_enter Try.func19, Try.ntmps19
    go_wp2
    go_ret
    exact ⟨rfl, rfl⟩

theorem refInts {n₀ n₁ : Nat} (a : Option Addr) (n c : Nat) (xs : List Int) (a2 : Option Addr) (n2 c2 : Nat) (ys : List Int) (w : World) (h1 : Ints n₀ w (.slice a n c) xs) (h2 : Ints n₁ w (.slice a2 n2 c2) ys) (hm : n ≤ maxLen) (hm2 : n2 ≤ maxLen) :
    Calls Try.prog 18 #[.slice a n c, .slice a2 n2 c2] w fun e w' => e = .returned (.bool (decide (xs = ys))) ∧ Upd [] w w' := by
  have HX := hide h1.form.2
  have HXN := hide h1.form.1
  have HY := hide h2.form.2
  have HYN := hide h2.form.1
  have hm' : n ≤ 9223372036854775807 := by unfold maxLen at hm; omega
  have hm2' : n2 ≤ 9223372036854775807 := by unfold maxLen at hm2; omega
  obtain ⟨r, HR⟩ : ∃ r, Hid (decide (xs = ys) = r) := ⟨_, rfl⟩
  rw [HR.out]
  clear h1 h2 hm hm2
  go_enter Try.func18, Try.ntmps18
  by_cases hnn : n = n2
  case neg =>
    have hnb : ((n : Int) != (n2 : Int)) = true := by simp; omega
    obtain rfl : r = false := by
      rw [← HR.out]
      exact decide_eq_false fun e => hnn (by have := HXN.out; have := HYN.out; rw [this, ‹n = _›, e])
    clear hnn
    go_wp2_with fail
    go_ret
    exact ⟨rfl, Upd.refl _ _⟩
  subst hnn
  go_wp2_with fail
  go_loopw [5] (fun s5 wr => ∃ k : Nat, k ≤ n ∧ s5 = .int .i64 k ∧ Hid (Upd [] w wr) ∧ Hid (xs.take k = ys.take k)) (fun k _ => n - (intOf k).toNat)
  case atStart => exact ⟨0, Nat.zero_le _, rfl, Upd.refl _ _, hide (by simp)⟩
  case round =>
    obtain ⟨k, hk, rfl, hu, hr⟩ := hrel
    obtain ⟨wo, rfl⟩ : ∃ wo : World, wo = wr := ⟨_, rfl⟩
    by_cases hkl : k < n
    · obtain ⟨x, hx⟩ : ∃ x, xs[k]? = some x := ⟨_, List.getElem?_eq_getElem (by have := HXN.out; omega)⟩
      obtain ⟨b, o, ea, _, c0⟩ := HX.out k x hx
      subst ea
      obtain ⟨y, hy⟩ : ∃ y, ys[k]? = some y := ⟨_, List.getElem?_eq_getElem (by have := HYN.out; omega)⟩
      obtain ⟨b2, o2, eb, _, d0⟩ := HY.out k y hy
      subst eb
      have hki : (k : Int) < n := by omega
      have c0' := keepc _ _ _ _ hu.out c0
      have d0' := keepc _ _ _ _ hu.out d0
      have V := hide (hu.out.drew)
      have HX2 := hide hx
      have HY2 := hide hy
      clear hx hy
      by_cases h0 : x = y
      · subst h0
        have HST := hide (show xs.take (k + 1) = ys.take (k + 1) by rw [List.take_add_one, List.take_add_one, hr.out, HX2.out, HY2.out])
        go_wp2_with fail
        refine wp_region_held_drew (S := (fun w' => w'.cell? ⟨b, o + k, none⟩ = some (.int .i64 x) ∧ w'.cell? ⟨b2, o2 + k, none⟩ = some (.int .i64 x))) (by kernel_rfl) (by exact ⟨c0', d0'⟩) (fun hHeld => ?_)
        refine wpAnyH_take (i := 0) (oi := ?oi0T1) (v := ?v0T1) ?oi0_0T1 (by kernel_rfl) ?ff0T1 ?rr0T1 ?hq0T1 (Or.inl ⟨?hw0T1, ?hy0T1⟩) (by assumption) ?rest0T1
        case oi0_0T1 =>
          conv =>
            lhs
            whnf
            arg 1
            whnf
        case hq0T1 => exact fun _ _ _ h => h
        case ff0T1 => kernel_rfl
        case rr0T1 => kernel_rfl
        case hw0T1 => rfl
        case hy0T1 =>
          intro w hSw
          (try dsimp only at hSw)
          first
          | (go_simp; done)
          | (go_simp; with_reducible rfl)
        try simp only [Act.put, List.setIfInBounds_toArray, List.set_cons_zero, List.set_cons_succ]
        refine wpAnyH_take (i := 1) (oi := ?oi1T1) (v := ?v1T1) ?oi0_1T1 (by kernel_rfl) ?ff1T1 ?rr1T1 ?hq1T1 (Or.inl ⟨?hw1T1, ?hy1T1⟩) (by assumption) ?rest1T1
        case oi0_1T1 =>
          conv =>
            lhs
            whnf
            arg 1
            whnf
        case hq1T1 => exact fun _ _ _ h => h
        case ff1T1 => kernel_rfl
        case rr1T1 => kernel_rfl
        case hw1T1 => rfl
        case hy1T1 =>
          intro w hSw
          (try dsimp only at hSw)
          first
          | (go_simp; done)
          | (go_simp; with_reducible rfl)
        try simp only [Act.put, List.setIfInBounds_toArray, List.set_cons_zero, List.set_cons_succ]
        refine wpAnyH_take (i := 2) (oi := ?oi2T1) (v := ?v2T1) ?oi0_2T1 (by kernel_rfl) ?ff2T1 ?rr2T1 ?hq2T1 (Or.inl ⟨?hw2T1, ?hy2T1⟩) (by assumption) ?rest2T1
        case oi0_2T1 =>
          conv =>
            lhs
            whnf
            arg 1
            whnf
        case hq2T1 => exact fun _ _ _ h => h
        case ff2T1 => kernel_rfl
        case rr2T1 => kernel_rfl
        case hw2T1 => rfl
        case hy2T1 =>
          intro w hSw
          (try dsimp only at hSw)
          first
          | (go_simp; done)
          | (go_simp; with_reducible rfl)
        try simp only [Act.put, List.setIfInBounds_toArray, List.set_cons_zero, List.set_cons_succ]
        refine wpAnyH_take (i := 3) (oi := ?oi3T1) (v := ?v3T1) ?oi0_3T1 (by kernel_rfl) ?ff3T1 ?rr3T1 ?hq3T1 (Or.inl ⟨?hw3T1, ?hy3T1⟩) (by assumption) ?rest3T1
        case oi0_3T1 =>
          conv =>
            lhs
            whnf
            arg 1
            whnf
        case hq3T1 => exact fun _ _ _ h => h
        case ff3T1 => kernel_rfl
        case rr3T1 => kernel_rfl
        case hw3T1 => rfl
        case hy3T1 =>
          intro w hSw
          (try dsimp only at hSw)
          first
          | (go_simp; done)
          | (go_simp; with_reducible rfl)
        try simp only [Act.put, List.setIfInBounds_toArray, List.set_cons_zero, List.set_cons_succ]
        refine wpAnyH_take (i := 4) (oi := ?oi4T1) (v := ?v4T1) ?oi0_4T1 (by kernel_rfl) ?ff4T1 ?rr4T1 ?hq4T1 (Or.inl ⟨?hw4T1, ?hy4T1⟩) (by assumption) ?rest4T1
        case oi0_4T1 =>
          conv =>
            lhs
            whnf
            arg 1
            whnf
        case hq4T1 => exact fun _ _ _ h => h
        case ff4T1 => kernel_rfl
        case rr4T1 => kernel_rfl
        case hw4T1 => rfl
        case hy4T1 =>
          intro w hSw
          (try dsimp only at hSw)
          first
          | (go_simp; done)
          | (go_simp; with_reducible rfl)
        try simp only [Act.put, List.setIfInBounds_toArray, List.set_cons_zero, List.set_cons_succ]
        refine wpAnyH_take (i := 5) (oi := ?oi5T1) (v := ?v5T1) ?oi0_5T1 (by kernel_rfl) ?ff5T1 ?rr5T1 ?hq5T1 (Or.inl ⟨?hw5T1, ?hy5T1⟩) (by assumption) ?rest5T1
        case oi0_5T1 =>
          conv =>
            lhs
            whnf
            arg 1
            whnf
        case hq5T1 => exact fun _ _ _ h => h
        case ff5T1 => kernel_rfl
        case rr5T1 => kernel_rfl
        case hw5T1 => rfl
        case hy5T1 =>
          intro w hSw
          (try dsimp only at hSw)
          first
          | (go_simp; done)
          | (go_simp; with_reducible rfl)
        try simp only [Act.put, List.setIfInBounds_toArray, List.set_cons_zero, List.set_cons_succ]
        refine wpAnyH_take (i := 6) (oi := ?oi6T1) (v := ?v6T1) ?oi0_6T1 (by kernel_rfl) ?ff6T1 ?rr6T1 ?hq6T1 (Or.inl ⟨?hw6T1, ?hy6T1⟩) (by assumption) ?rest6T1
        case oi0_6T1 =>
          conv =>
            lhs
            whnf
            arg 1
            whnf
        case hq6T1 => exact fun _ _ _ h => h
        case ff6T1 => kernel_rfl
        case rr6T1 => kernel_rfl
        case hw6T1 => rfl
        case hy6T1 =>
          intro w hSw
          (try dsimp only at hSw)
          first
          | (go_simp; done)
          | (go_simp; with_reducible rfl)
        try simp only [Act.put, List.setIfInBounds_toArray, List.set_cons_zero, List.set_cons_succ]
        refine wpAnyH_take (i := 7) (oi := ?oi7T1) (v := ?v7T1) ?oi0_7T1 (by kernel_rfl) ?ff7T1 ?rr7T1 ?hq7T1 (Or.inl ⟨?hw7T1, ?hy7T1⟩) (by assumption) ?rest7T1
        case oi0_7T1 =>
          conv =>
            lhs
            whnf
            arg 1
            whnf
        case hq7T1 => exact fun _ _ _ h => h
        case ff7T1 => kernel_rfl
        case rr7T1 => kernel_rfl
        case hw7T1 => rfl
        case hy7T1 =>
          intro w hSw
          (try dsimp only at hSw)
          first
          | (go_simp; done)
          | (go_simp; with_reducible rfl)
        try simp only [Act.put, List.setIfInBounds_toArray, List.set_cons_zero, List.set_cons_succ]
        refine wpAnyH_take (i := 8) (oi := ?oi8T1) (v := ?v8T1) ?oi0_8T1 (by kernel_rfl) ?ff8T1 ?rr8T1 ?hq8T1 (Or.inl ⟨?hw8T1, ?hy8T1⟩) (by assumption) ?rest8T1
        case oi0_8T1 =>
          conv =>
            lhs
            whnf
            arg 1
            whnf
        case hq8T1 => exact fun _ _ _ h => h
        case ff8T1 => kernel_rfl
        case rr8T1 => kernel_rfl
        case hw8T1 => rfl
        case hy8T1 =>
          intro w hSw
          (try dsimp only at hSw)
          first
          | (go_simp; done)
          | (go_simp; with_reducible rfl)
        try simp only [Act.put, List.setIfInBounds_toArray, List.set_cons_zero, List.set_cons_succ]
        refine wpAnyH_done (by kernel_rfl) ?_ _
        go_wp2_with fail
        go_roundw
        case rel => exact ⟨k + 1, by omega, by go_num, V, HST⟩
        case measure => simp [intOf] <;> omega
      · have h0b : (x != y) = true := by simpa using h0
        obtain rfl : r = false := by
          rw [← HR.out]
          refine decide_eq_false fun e => h0 ?_
          have h1 := HX2.out
          rw [e, HY2.out] at h1
          exact (Option.some.inj h1).symm
        clear h0
        go_wp2_with fail
        refine wp_region_held_drew (S := (fun w' => w'.cell? ⟨b, o + k, none⟩ = some (.int .i64 x) ∧ w'.cell? ⟨b2, o2 + k, none⟩ = some (.int .i64 y))) (by kernel_rfl) (by exact ⟨c0', d0'⟩) (fun hHeld => ?_)
        refine wpAnyH_take (i := 0) (oi := ?oi0T2) (v := ?v0T2) ?oi0_0T2 (by kernel_rfl) ?ff0T2 ?rr0T2 ?hq0T2 (Or.inl ⟨?hw0T2, ?hy0T2⟩) (by assumption) ?rest0T2
        case oi0_0T2 =>
          conv =>
            lhs
            whnf
            arg 1
            whnf
        case hq0T2 => exact fun _ _ _ h => h
        case ff0T2 => kernel_rfl
        case rr0T2 => kernel_rfl
        case hw0T2 => rfl
        case hy0T2 =>
          intro w hSw
          (try dsimp only at hSw)
          first
          | (go_simp; done)
          | (go_simp; with_reducible rfl)
        try simp only [Act.put, List.setIfInBounds_toArray, List.set_cons_zero, List.set_cons_succ]
        refine wpAnyH_take (i := 1) (oi := ?oi1T2) (v := ?v1T2) ?oi0_1T2 (by kernel_rfl) ?ff1T2 ?rr1T2 ?hq1T2 (Or.inl ⟨?hw1T2, ?hy1T2⟩) (by assumption) ?rest1T2
        case oi0_1T2 =>
          conv =>
            lhs
            whnf
            arg 1
            whnf
        case hq1T2 => exact fun _ _ _ h => h
        case ff1T2 => kernel_rfl
        case rr1T2 => kernel_rfl
        case hw1T2 => rfl
        case hy1T2 =>
          intro w hSw
          (try dsimp only at hSw)
          first
          | (go_simp; done)
          | (go_simp; with_reducible rfl)
        try simp only [Act.put, List.setIfInBounds_toArray, List.set_cons_zero, List.set_cons_succ]
        refine wpAnyH_take (i := 2) (oi := ?oi2T2) (v := ?v2T2) ?oi0_2T2 (by kernel_rfl) ?ff2T2 ?rr2T2 ?hq2T2 (Or.inl ⟨?hw2T2, ?hy2T2⟩) (by assumption) ?rest2T2
        case oi0_2T2 =>
          conv =>
            lhs
            whnf
            arg 1
            whnf
        case hq2T2 => exact fun _ _ _ h => h
        case ff2T2 => kernel_rfl
        case rr2T2 => kernel_rfl
        case hw2T2 => rfl
        case hy2T2 =>
          intro w hSw
          (try dsimp only at hSw)
          first
          | (go_simp; done)
          | (go_simp; with_reducible rfl)
        try simp only [Act.put, List.setIfInBounds_toArray, List.set_cons_zero, List.set_cons_succ]
        refine wpAnyH_take (i := 3) (oi := ?oi3T2) (v := ?v3T2) ?oi0_3T2 (by kernel_rfl) ?ff3T2 ?rr3T2 ?hq3T2 (Or.inl ⟨?hw3T2, ?hy3T2⟩) (by assumption) ?rest3T2
        case oi0_3T2 =>
          conv =>
            lhs
            whnf
            arg 1
            whnf
        case hq3T2 => exact fun _ _ _ h => h
        case ff3T2 => kernel_rfl
        case rr3T2 => kernel_rfl
        case hw3T2 => rfl
        case hy3T2 =>
          intro w hSw
          (try dsimp only at hSw)
          first
          | (go_simp; done)
          | (go_simp; with_reducible rfl)
        try simp only [Act.put, List.setIfInBounds_toArray, List.set_cons_zero, List.set_cons_succ]
        refine wpAnyH_take (i := 4) (oi := ?oi4T2) (v := ?v4T2) ?oi0_4T2 (by kernel_rfl) ?ff4T2 ?rr4T2 ?hq4T2 (Or.inl ⟨?hw4T2, ?hy4T2⟩) (by assumption) ?rest4T2
        case oi0_4T2 =>
          conv =>
            lhs
            whnf
            arg 1
            whnf
        case hq4T2 => exact fun _ _ _ h => h
        case ff4T2 => kernel_rfl
        case rr4T2 => kernel_rfl
        case hw4T2 => rfl
        case hy4T2 =>
          intro w hSw
          (try dsimp only at hSw)
          first
          | (go_simp; done)
          | (go_simp; with_reducible rfl)
        try simp only [Act.put, List.setIfInBounds_toArray, List.set_cons_zero, List.set_cons_succ]
        refine wpAnyH_take (i := 5) (oi := ?oi5T2) (v := ?v5T2) ?oi0_5T2 (by kernel_rfl) ?ff5T2 ?rr5T2 ?hq5T2 (Or.inl ⟨?hw5T2, ?hy5T2⟩) (by assumption) ?rest5T2
        case oi0_5T2 =>
          conv =>
            lhs
            whnf
            arg 1
            whnf
        case hq5T2 => exact fun _ _ _ h => h
        case ff5T2 => kernel_rfl
        case rr5T2 => kernel_rfl
        case hw5T2 => rfl
        case hy5T2 =>
          intro w hSw
          (try dsimp only at hSw)
          first
          | (go_simp; done)
          | (go_simp; with_reducible rfl)
        try simp only [Act.put, List.setIfInBounds_toArray, List.set_cons_zero, List.set_cons_succ]
        refine wpAnyH_take (i := 6) (oi := ?oi6T2) (v := ?v6T2) ?oi0_6T2 (by kernel_rfl) ?ff6T2 ?rr6T2 ?hq6T2 (Or.inl ⟨?hw6T2, ?hy6T2⟩) (by assumption) ?rest6T2
        case oi0_6T2 =>
          conv =>
            lhs
            whnf
            arg 1
            whnf
        case hq6T2 => exact fun _ _ _ h => h
        case ff6T2 => kernel_rfl
        case rr6T2 => kernel_rfl
        case hw6T2 => rfl
        case hy6T2 =>
          intro w hSw
          (try dsimp only at hSw)
          first
          | (go_simp; done)
          | (go_simp; with_reducible rfl)
        try simp only [Act.put, List.setIfInBounds_toArray, List.set_cons_zero, List.set_cons_succ]
        refine wpAnyH_take (i := 7) (oi := ?oi7T2) (v := ?v7T2) ?oi0_7T2 (by kernel_rfl) ?ff7T2 ?rr7T2 ?hq7T2 (Or.inl ⟨?hw7T2, ?hy7T2⟩) (by assumption) ?rest7T2
        case oi0_7T2 =>
          conv =>
            lhs
            whnf
            arg 1
            whnf
        case hq7T2 => exact fun _ _ _ h => h
        case ff7T2 => kernel_rfl
        case rr7T2 => kernel_rfl
        case hw7T2 => rfl
        case hy7T2 =>
          intro w hSw
          (try dsimp only at hSw)
          first
          | (go_simp; done)
          | (go_simp; with_reducible rfl)
        try simp only [Act.put, List.setIfInBounds_toArray, List.set_cons_zero, List.set_cons_succ]
        refine wpAnyH_take (i := 8) (oi := ?oi8T2) (v := ?v8T2) ?oi0_8T2 (by kernel_rfl) ?ff8T2 ?rr8T2 ?hq8T2 (Or.inl ⟨?hw8T2, ?hy8T2⟩) (by assumption) ?rest8T2
        case oi0_8T2 =>
          conv =>
            lhs
            whnf
            arg 1
            whnf
        case hq8T2 => exact fun _ _ _ h => h
        case ff8T2 => kernel_rfl
        case rr8T2 => kernel_rfl
        case hw8T2 => rfl
        case hy8T2 =>
          intro w hSw
          (try dsimp only at hSw)
          first
          | (go_simp; done)
          | (go_simp; with_reducible rfl)
        try simp only [Act.put, List.setIfInBounds_toArray, List.set_cons_zero, List.set_cons_succ]
        refine wpAnyH_done (by kernel_rfl) ?_ _
        go_wp2_with fail
        go_ret
        exact ⟨rfl, V.out⟩
    · obtain rfl : k = n := by omega
      have hki : ¬ (k : Int) < k := by omega
      obtain rfl : r = true := by
        rw [← HR.out]
        have h1 := hr.out
        rw [List.take_of_length_le (by have := HXN.out; omega), List.take_of_length_le (by have := HYN.out; omega)] at h1
        exact decide_eq_true h1
      go_wp2_with fail
      go_ret
      exact ⟨rfl, hu.out⟩

deriving instance DecidableEq for Sp
theorem refSameSpells {n₀ n₁ : Nat} (a : Option Addr) (n c : Nat) (xs : List Sp) (a2 : Option Addr) (n2 c2 : Nat) (ys : List Sp) (w : World) (h1 : SpsAt n₀ w a xs) (h2 : SpsAt n₁ w a2 ys) (hxn : n = xs.length) (hyn : n2 = ys.length) (hm : n ≤ maxLen) (hm2 : n2 ≤ maxLen) :
    Calls Try.prog 28 #[.slice a n c, .slice a2 n2 c2] w fun e w' => e = .returned (.bool (decide (xs = ys))) ∧ Upd [] w w' := by
  have HX := hide h1
  have HXN := hide hxn
  have HY := hide h2
  have HYN := hide hyn
  have hm' : n ≤ 9223372036854775807 := by unfold maxLen at hm; omega
  have hm2' : n2 ≤ 9223372036854775807 := by unfold maxLen at hm2; omega
  obtain ⟨r, HR⟩ : ∃ r, Hid (decide (xs = ys) = r) := ⟨_, rfl⟩
  rw [HR.out]
  clear h1 h2 hm hm2 hxn hyn
  go_enter Try.func28, Try.ntmps28
  by_cases hnn : n = n2
  case neg =>
    have hnb : ((n : Int) != (n2 : Int)) = true := by simp; omega
    obtain rfl : r = false := by
      rw [← HR.out]
      exact decide_eq_false fun e => hnn (by have := HXN.out; have := HYN.out; rw [this, ‹n = _›, e])
    clear hnn
    go_wp2_with fail
    go_ret
    exact ⟨rfl, Upd.refl _ _⟩
  subst hnn
  go_wp2_with fail
  go_loopw [5] (fun s5 wr => ∃ k : Nat, k ≤ n ∧ s5 = .int .i64 k ∧ Hid (Upd [] w wr) ∧ Hid (xs.take k = ys.take k)) (fun k _ => n - (intOf k).toNat)
  case atStart => exact ⟨0, Nat.zero_le _, rfl, Upd.refl _ _, hide (by simp)⟩
  case round =>
    obtain ⟨k, hk, rfl, hu, hr⟩ := hrel
    obtain ⟨wo, rfl⟩ : ∃ wo : World, wo = wr := ⟨_, rfl⟩
    by_cases hkl : k < n
    · obtain ⟨x, hx⟩ : ∃ x, xs[k]? = some x := ⟨_, List.getElem?_eq_getElem (by have := HXN.out; omega)⟩
      obtain ⟨b, o, ea, _, c0, c1⟩ := HX.out k x hx
      subst ea
      obtain ⟨y, hy⟩ : ∃ y, ys[k]? = some y := ⟨_, List.getElem?_eq_getElem (by have := HYN.out; omega)⟩
      obtain ⟨b2, o2, eb, _, d0, d1⟩ := HY.out k y hy
      subst eb
      obtain ⟨x1, x2⟩ := x
      obtain ⟨y1, y2⟩ := y
      dsimp only at c0 c1 d0 d1
      have hki : (k : Int) < n := by omega
      have c0' := keepc _ _ _ _ hu.out c0
      have d0' := keepc _ _ _ _ hu.out d0
      have c1' := keepc _ _ _ _ hu.out c1
      have d1' := keepc _ _ _ _ hu.out d1
      have V := hide (hu.out.drew)
      have HX2 := hide hx
      have HY2 := hide hy
      clear hx hy c0 c1 d0 d1
      by_cases h0 : x1 = y1 ∧ x2 = y2
      · obtain ⟨rfl, rfl⟩ := h0
        have HST := hide (show xs.take (k + 1) = ys.take (k + 1) by rw [List.take_add_one, List.take_add_one, hr.out, HX2.out, HY2.out])
        go_wp2_with fail
        refine wp_region_held_drew (S := (fun w' => w'.cell? ⟨b, o + k * 2, none⟩ = some (.int .i64 x1) ∧ w'.cell? ⟨b, o + k * 2 + 1, none⟩ = some (.int .i64 x2) ∧ w'.cell? ⟨b2, o2 + k * 2, none⟩ = some (.int .i64 x1) ∧ w'.cell? ⟨b2, o2 + k * 2 + 1, none⟩ = some (.int .i64 x2))) (by kernel_rfl) (by exact ⟨c0', c1', d0', d1'⟩) (fun hHeld => ?_)
        refine wpAnyH_take (i := 0) (oi := ?oi0T3) (v := ?v0T3) ?oi0_0T3 (by kernel_rfl) ?ff0T3 ?rr0T3 ?hq0T3 (Or.inl ⟨?hw0T3, ?hy0T3⟩) (by assumption) ?rest0T3
        case oi0_0T3 =>
          conv =>
            lhs
            whnf
            arg 1
            whnf
        case hq0T3 => exact fun _ _ _ h => h
        case ff0T3 => kernel_rfl
        case rr0T3 => kernel_rfl
        case hw0T3 => rfl
        case hy0T3 =>
          intro w hSw
          (try dsimp only at hSw)
          first
          | (go_simp; done)
          | (go_simp; with_reducible rfl)
        try simp only [Act.put, List.setIfInBounds_toArray, List.set_cons_zero, List.set_cons_succ]
        refine wpAnyH_take (i := 1) (oi := ?oi1T3) (v := ?v1T3) ?oi0_1T3 (by kernel_rfl) ?ff1T3 ?rr1T3 ?hq1T3 (Or.inl ⟨?hw1T3, ?hy1T3⟩) (by assumption) ?rest1T3
        case oi0_1T3 =>
          conv =>
            lhs
            whnf
            arg 1
            whnf
        case hq1T3 => exact fun _ _ _ h => h
        case ff1T3 => kernel_rfl
        case rr1T3 => kernel_rfl
        case hw1T3 => rfl
        case hy1T3 =>
          intro w hSw
          (try dsimp only at hSw)
          first
          | (go_simp; done)
          | (go_simp; with_reducible rfl)
        try simp only [Act.put, List.setIfInBounds_toArray, List.set_cons_zero, List.set_cons_succ]
        refine wpAnyH_take (i := 2) (oi := ?oi2T3) (v := ?v2T3) ?oi0_2T3 (by kernel_rfl) ?ff2T3 ?rr2T3 ?hq2T3 (Or.inl ⟨?hw2T3, ?hy2T3⟩) (by assumption) ?rest2T3
        case oi0_2T3 =>
          conv =>
            lhs
            whnf
            arg 1
            whnf
        case hq2T3 => exact fun _ _ _ h => h
        case ff2T3 => kernel_rfl
        case rr2T3 => kernel_rfl
        case hw2T3 => rfl
        case hy2T3 =>
          intro w hSw
          (try dsimp only at hSw)
          first
          | (go_simp; done)
          | (go_simp; with_reducible rfl)
        try simp only [Act.put, List.setIfInBounds_toArray, List.set_cons_zero, List.set_cons_succ]
        refine wpAnyH_take (i := 3) (oi := ?oi3T3) (v := ?v3T3) ?oi0_3T3 (by kernel_rfl) ?ff3T3 ?rr3T3 ?hq3T3 (Or.inl ⟨?hw3T3, ?hy3T3⟩) (by assumption) ?rest3T3
        case oi0_3T3 =>
          conv =>
            lhs
            whnf
            arg 1
            whnf
        case hq3T3 => exact fun _ _ _ h => h
        case ff3T3 => kernel_rfl
        case rr3T3 => kernel_rfl
        case hw3T3 => rfl
        case hy3T3 =>
          intro w hSw
          (try dsimp only at hSw)
          first
          | (go_simp; done)
          | (go_simp; with_reducible rfl)
        try simp only [Act.put, List.setIfInBounds_toArray, List.set_cons_zero, List.set_cons_succ]
        refine wpAnyH_take (i := 4) (oi := ?oi4T3) (v := ?v4T3) ?oi0_4T3 (by kernel_rfl) ?ff4T3 ?rr4T3 ?hq4T3 (Or.inl ⟨?hw4T3, ?hy4T3⟩) (by assumption) ?rest4T3
        case oi0_4T3 =>
          conv =>
            lhs
            whnf
            arg 1
            whnf
        case hq4T3 => exact fun _ _ _ h => h
        case ff4T3 => kernel_rfl
        case rr4T3 => kernel_rfl
        case hw4T3 => rfl
        case hy4T3 =>
          intro w hSw
          (try dsimp only at hSw)
          first
          | (go_simp; done)
          | (go_simp; with_reducible rfl)
        try simp only [Act.put, List.setIfInBounds_toArray, List.set_cons_zero, List.set_cons_succ]
        refine wpAnyH_take (i := 5) (oi := ?oi5T3) (v := ?v5T3) ?oi0_5T3 (by kernel_rfl) ?ff5T3 ?rr5T3 ?hq5T3 (Or.inl ⟨?hw5T3, ?hy5T3⟩) (by assumption) ?rest5T3
        case oi0_5T3 =>
          conv =>
            lhs
            whnf
            arg 1
            whnf
        case hq5T3 => exact fun _ _ _ h => h
        case ff5T3 => kernel_rfl
        case rr5T3 => kernel_rfl
        case hw5T3 => rfl
        case hy5T3 =>
          intro w hSw
          (try dsimp only at hSw)
          first
          | (go_simp; done)
          | (go_simp; with_reducible rfl)
        try simp only [Act.put, List.setIfInBounds_toArray, List.set_cons_zero, List.set_cons_succ]
        refine wpAnyH_take (i := 6) (oi := ?oi6T3) (v := ?v6T3) ?oi0_6T3 (by kernel_rfl) ?ff6T3 ?rr6T3 ?hq6T3 (Or.inl ⟨?hw6T3, ?hy6T3⟩) (by assumption) ?rest6T3
        case oi0_6T3 =>
          conv =>
            lhs
            whnf
            arg 1
            whnf
        case hq6T3 => exact fun _ _ _ h => h
        case ff6T3 => kernel_rfl
        case rr6T3 => kernel_rfl
        case hw6T3 => rfl
        case hy6T3 =>
          intro w hSw
          (try dsimp only at hSw)
          first
          | (go_simp; done)
          | (go_simp; with_reducible rfl)
        try simp only [Act.put, List.setIfInBounds_toArray, List.set_cons_zero, List.set_cons_succ]
        refine wpAnyH_take (i := 7) (oi := ?oi7T3) (v := ?v7T3) ?oi0_7T3 (by kernel_rfl) ?ff7T3 ?rr7T3 ?hq7T3 (Or.inl ⟨?hw7T3, ?hy7T3⟩) (by assumption) ?rest7T3
        case oi0_7T3 =>
          conv =>
            lhs
            whnf
            arg 1
            whnf
        case hq7T3 => exact fun _ _ _ h => h
        case ff7T3 => kernel_rfl
        case rr7T3 => kernel_rfl
        case hw7T3 => rfl
        case hy7T3 =>
          intro w hSw
          (try dsimp only at hSw)
          first
          | (go_simp; done)
          | (go_simp; with_reducible rfl)
        try simp only [Act.put, List.setIfInBounds_toArray, List.set_cons_zero, List.set_cons_succ]
        refine wpAnyH_take (i := 8) (oi := ?oi8T3) (v := ?v8T3) ?oi0_8T3 (by kernel_rfl) ?ff8T3 ?rr8T3 ?hq8T3 (Or.inl ⟨?hw8T3, ?hy8T3⟩) (by assumption) ?rest8T3
        case oi0_8T3 =>
          conv =>
            lhs
            whnf
            arg 1
            whnf
        case hq8T3 => exact fun _ _ _ h => h
        case ff8T3 => kernel_rfl
        case rr8T3 => kernel_rfl
        case hw8T3 => rfl
        case hy8T3 =>
          intro w hSw
          (try dsimp only at hSw)
          first
          | (go_simp; done)
          | (go_simp; with_reducible rfl)
        try simp only [Act.put, List.setIfInBounds_toArray, List.set_cons_zero, List.set_cons_succ]
        refine wpAnyH_done (by kernel_rfl) ?_ _
        go_wp2_with fail
        go_roundw
        case rel => exact ⟨k + 1, by omega, by go_num, V, HST⟩
        case measure => simp [intOf] <;> omega
      · obtain rfl : r = false := by
          rw [← HR.out]
          refine decide_eq_false fun e => h0 ?_
          have h1 := HX2.out
          rw [e, HY2.out] at h1
          have := Option.some.inj h1
          injection this with e1 e2
          exact ⟨e1.symm, e2.symm⟩
        by_cases e1 : x1 = y1
        · subst e1
          have e2 : ¬ x2 = y2 := fun e => h0 ⟨rfl, e⟩
          have e2b : (x2 != y2) = true := by simpa using e2
          have e2c : (x2 == y2) = false := by simpa using e2
          clear h0 e2
          go_wp2_with fail
          refine wp_region_held_drew (S := (fun w' => w'.cell? ⟨b, o + k * 2, none⟩ = some (.int .i64 x1) ∧ w'.cell? ⟨b, o + k * 2 + 1, none⟩ = some (.int .i64 x2) ∧ w'.cell? ⟨b2, o2 + k * 2, none⟩ = some (.int .i64 x1) ∧ w'.cell? ⟨b2, o2 + k * 2 + 1, none⟩ = some (.int .i64 y2))) (by kernel_rfl) (by exact ⟨c0', c1', d0', d1'⟩) (fun hHeld => ?_)
          refine wpAnyH_take (i := 0) (oi := ?oi0T4) (v := ?v0T4) ?oi0_0T4 (by kernel_rfl) ?ff0T4 ?rr0T4 ?hq0T4 (Or.inl ⟨?hw0T4, ?hy0T4⟩) (by assumption) ?rest0T4
          case oi0_0T4 =>
            conv =>
              lhs
              whnf
              arg 1
              whnf
          case hq0T4 => exact fun _ _ _ h => h
          case ff0T4 => kernel_rfl
          case rr0T4 => kernel_rfl
          case hw0T4 => rfl
          case hy0T4 =>
            intro w hSw
            (try dsimp only at hSw)
            first
            | (go_simp; done)
            | (go_simp; with_reducible rfl)
          try simp only [Act.put, List.setIfInBounds_toArray, List.set_cons_zero, List.set_cons_succ]
          refine wpAnyH_take (i := 1) (oi := ?oi1T4) (v := ?v1T4) ?oi0_1T4 (by kernel_rfl) ?ff1T4 ?rr1T4 ?hq1T4 (Or.inl ⟨?hw1T4, ?hy1T4⟩) (by assumption) ?rest1T4
          case oi0_1T4 =>
            conv =>
              lhs
              whnf
              arg 1
              whnf
          case hq1T4 => exact fun _ _ _ h => h
          case ff1T4 => kernel_rfl
          case rr1T4 => kernel_rfl
          case hw1T4 => rfl
          case hy1T4 =>
            intro w hSw
            (try dsimp only at hSw)
            first
            | (go_simp; done)
            | (go_simp; with_reducible rfl)
          try simp only [Act.put, List.setIfInBounds_toArray, List.set_cons_zero, List.set_cons_succ]
          refine wpAnyH_take (i := 2) (oi := ?oi2T4) (v := ?v2T4) ?oi0_2T4 (by kernel_rfl) ?ff2T4 ?rr2T4 ?hq2T4 (Or.inl ⟨?hw2T4, ?hy2T4⟩) (by assumption) ?rest2T4
          case oi0_2T4 =>
            conv =>
              lhs
              whnf
              arg 1
              whnf
          case hq2T4 => exact fun _ _ _ h => h
          case ff2T4 => kernel_rfl
          case rr2T4 => kernel_rfl
          case hw2T4 => rfl
          case hy2T4 =>
            intro w hSw
            (try dsimp only at hSw)
            first
            | (go_simp; done)
            | (go_simp; with_reducible rfl)
          try simp only [Act.put, List.setIfInBounds_toArray, List.set_cons_zero, List.set_cons_succ]
          refine wpAnyH_take (i := 3) (oi := ?oi3T4) (v := ?v3T4) ?oi0_3T4 (by kernel_rfl) ?ff3T4 ?rr3T4 ?hq3T4 (Or.inl ⟨?hw3T4, ?hy3T4⟩) (by assumption) ?rest3T4
          case oi0_3T4 =>
            conv =>
              lhs
              whnf
              arg 1
              whnf
          case hq3T4 => exact fun _ _ _ h => h
          case ff3T4 => kernel_rfl
          case rr3T4 => kernel_rfl
          case hw3T4 => rfl
          case hy3T4 =>
            intro w hSw
            (try dsimp only at hSw)
            first
            | (go_simp; done)
            | (go_simp; with_reducible rfl)
          try simp only [Act.put, List.setIfInBounds_toArray, List.set_cons_zero, List.set_cons_succ]
          refine wpAnyH_take (i := 4) (oi := ?oi4T4) (v := ?v4T4) ?oi0_4T4 (by kernel_rfl) ?ff4T4 ?rr4T4 ?hq4T4 (Or.inl ⟨?hw4T4, ?hy4T4⟩) (by assumption) ?rest4T4
          case oi0_4T4 =>
            conv =>
              lhs
              whnf
              arg 1
              whnf
          case hq4T4 => exact fun _ _ _ h => h
          case ff4T4 => kernel_rfl
          case rr4T4 => kernel_rfl
          case hw4T4 => rfl
          case hy4T4 =>
            intro w hSw
            (try dsimp only at hSw)
            first
            | (go_simp; done)
            | (go_simp; with_reducible rfl)
          try simp only [Act.put, List.setIfInBounds_toArray, List.set_cons_zero, List.set_cons_succ]
          refine wpAnyH_take (i := 5) (oi := ?oi5T4) (v := ?v5T4) ?oi0_5T4 (by kernel_rfl) ?ff5T4 ?rr5T4 ?hq5T4 (Or.inl ⟨?hw5T4, ?hy5T4⟩) (by assumption) ?rest5T4
          case oi0_5T4 =>
            conv =>
              lhs
              whnf
              arg 1
              whnf
          case hq5T4 => exact fun _ _ _ h => h
          case ff5T4 => kernel_rfl
          case rr5T4 => kernel_rfl
          case hw5T4 => rfl
          case hy5T4 =>
            intro w hSw
            (try dsimp only at hSw)
            first
            | (go_simp; done)
            | (go_simp; with_reducible rfl)
          try simp only [Act.put, List.setIfInBounds_toArray, List.set_cons_zero, List.set_cons_succ]
          refine wpAnyH_take (i := 6) (oi := ?oi6T4) (v := ?v6T4) ?oi0_6T4 (by kernel_rfl) ?ff6T4 ?rr6T4 ?hq6T4 (Or.inl ⟨?hw6T4, ?hy6T4⟩) (by assumption) ?rest6T4
          case oi0_6T4 =>
            conv =>
              lhs
              whnf
              arg 1
              whnf
          case hq6T4 => exact fun _ _ _ h => h
          case ff6T4 => kernel_rfl
          case rr6T4 => kernel_rfl
          case hw6T4 => rfl
          case hy6T4 =>
            intro w hSw
            (try dsimp only at hSw)
            first
            | (go_simp; done)
            | (go_simp; with_reducible rfl)
          try simp only [Act.put, List.setIfInBounds_toArray, List.set_cons_zero, List.set_cons_succ]
          refine wpAnyH_take (i := 7) (oi := ?oi7T4) (v := ?v7T4) ?oi0_7T4 (by kernel_rfl) ?ff7T4 ?rr7T4 ?hq7T4 (Or.inl ⟨?hw7T4, ?hy7T4⟩) (by assumption) ?rest7T4
          case oi0_7T4 =>
            conv =>
              lhs
              whnf
              arg 1
              whnf
          case hq7T4 => exact fun _ _ _ h => h
          case ff7T4 => kernel_rfl
          case rr7T4 => kernel_rfl
          case hw7T4 => rfl
          case hy7T4 =>
            intro w hSw
            (try dsimp only at hSw)
            first
            | (go_simp; done)
            | (go_simp; with_reducible rfl)
          try simp only [Act.put, List.setIfInBounds_toArray, List.set_cons_zero, List.set_cons_succ]
          refine wpAnyH_take (i := 8) (oi := ?oi8T4) (v := ?v8T4) ?oi0_8T4 (by kernel_rfl) ?ff8T4 ?rr8T4 ?hq8T4 (Or.inl ⟨?hw8T4, ?hy8T4⟩) (by assumption) ?rest8T4
          case oi0_8T4 =>
            conv =>
              lhs
              whnf
              arg 1
              whnf
          case hq8T4 => exact fun _ _ _ h => h
          case ff8T4 => kernel_rfl
          case rr8T4 => kernel_rfl
          case hw8T4 => rfl
          case hy8T4 =>
            intro w hSw
            (try dsimp only at hSw)
            first
            | (go_simp; done)
            | (go_simp; with_reducible rfl)
          try simp only [Act.put, List.setIfInBounds_toArray, List.set_cons_zero, List.set_cons_succ]
          refine wpAnyH_done (by kernel_rfl) ?_ _
          go_wp2_with fail
          go_ret
          exact ⟨rfl, V.out⟩
        · have e2b : (x1 != y1) = true := by simpa using e1
          have e2c : (x1 == y1) = false := by simpa using e1
          clear h0 e1
          go_wp2_with fail
          refine wp_region_held_drew (S := (fun w' => w'.cell? ⟨b, o + k * 2, none⟩ = some (.int .i64 x1) ∧ w'.cell? ⟨b, o + k * 2 + 1, none⟩ = some (.int .i64 x2) ∧ w'.cell? ⟨b2, o2 + k * 2, none⟩ = some (.int .i64 y1) ∧ w'.cell? ⟨b2, o2 + k * 2 + 1, none⟩ = some (.int .i64 y2))) (by kernel_rfl) (by exact ⟨c0', c1', d0', d1'⟩) (fun hHeld => ?_)
          refine wpAnyH_take (i := 0) (oi := ?oi0T5) (v := ?v0T5) ?oi0_0T5 (by kernel_rfl) ?ff0T5 ?rr0T5 ?hq0T5 (Or.inl ⟨?hw0T5, ?hy0T5⟩) (by assumption) ?rest0T5
          case oi0_0T5 =>
            conv =>
              lhs
              whnf
              arg 1
              whnf
          case hq0T5 => exact fun _ _ _ h => h
          case ff0T5 => kernel_rfl
          case rr0T5 => kernel_rfl
          case hw0T5 => rfl
          case hy0T5 =>
            intro w hSw
            (try dsimp only at hSw)
            first
            | (go_simp; done)
            | (go_simp; with_reducible rfl)
          try simp only [Act.put, List.setIfInBounds_toArray, List.set_cons_zero, List.set_cons_succ]
          refine wpAnyH_take (i := 1) (oi := ?oi1T5) (v := ?v1T5) ?oi0_1T5 (by kernel_rfl) ?ff1T5 ?rr1T5 ?hq1T5 (Or.inl ⟨?hw1T5, ?hy1T5⟩) (by assumption) ?rest1T5
          case oi0_1T5 =>
            conv =>
              lhs
              whnf
              arg 1
              whnf
          case hq1T5 => exact fun _ _ _ h => h
          case ff1T5 => kernel_rfl
          case rr1T5 => kernel_rfl
          case hw1T5 => rfl
          case hy1T5 =>
            intro w hSw
            (try dsimp only at hSw)
            first
            | (go_simp; done)
            | (go_simp; with_reducible rfl)
          try simp only [Act.put, List.setIfInBounds_toArray, List.set_cons_zero, List.set_cons_succ]
          refine wpAnyH_take (i := 2) (oi := ?oi2T5) (v := ?v2T5) ?oi0_2T5 (by kernel_rfl) ?ff2T5 ?rr2T5 ?hq2T5 (Or.inl ⟨?hw2T5, ?hy2T5⟩) (by assumption) ?rest2T5
          case oi0_2T5 =>
            conv =>
              lhs
              whnf
              arg 1
              whnf
          case hq2T5 => exact fun _ _ _ h => h
          case ff2T5 => kernel_rfl
          case rr2T5 => kernel_rfl
          case hw2T5 => rfl
          case hy2T5 =>
            intro w hSw
            (try dsimp only at hSw)
            first
            | (go_simp; done)
            | (go_simp; with_reducible rfl)
          try simp only [Act.put, List.setIfInBounds_toArray, List.set_cons_zero, List.set_cons_succ]
          refine wpAnyH_take (i := 3) (oi := ?oi3T5) (v := ?v3T5) ?oi0_3T5 (by kernel_rfl) ?ff3T5 ?rr3T5 ?hq3T5 (Or.inl ⟨?hw3T5, ?hy3T5⟩) (by assumption) ?rest3T5
          case oi0_3T5 =>
            conv =>
              lhs
              whnf
              arg 1
              whnf
          case hq3T5 => exact fun _ _ _ h => h
          case ff3T5 => kernel_rfl
          case rr3T5 => kernel_rfl
          case hw3T5 => rfl
          case hy3T5 =>
            intro w hSw
            (try dsimp only at hSw)
            first
            | (go_simp; done)
            | (go_simp; with_reducible rfl)
          try simp only [Act.put, List.setIfInBounds_toArray, List.set_cons_zero, List.set_cons_succ]
          refine wpAnyH_take (i := 4) (oi := ?oi4T5) (v := ?v4T5) ?oi0_4T5 (by kernel_rfl) ?ff4T5 ?rr4T5 ?hq4T5 (Or.inl ⟨?hw4T5, ?hy4T5⟩) (by assumption) ?rest4T5
          case oi0_4T5 =>
            conv =>
              lhs
              whnf
              arg 1
              whnf
          case hq4T5 => exact fun _ _ _ h => h
          case ff4T5 => kernel_rfl
          case rr4T5 => kernel_rfl
          case hw4T5 => rfl
          case hy4T5 =>
            intro w hSw
            (try dsimp only at hSw)
            first
            | (go_simp; done)
            | (go_simp; with_reducible rfl)
          try simp only [Act.put, List.setIfInBounds_toArray, List.set_cons_zero, List.set_cons_succ]
          refine wpAnyH_take (i := 5) (oi := ?oi5T5) (v := ?v5T5) ?oi0_5T5 (by kernel_rfl) ?ff5T5 ?rr5T5 ?hq5T5 (Or.inl ⟨?hw5T5, ?hy5T5⟩) (by assumption) ?rest5T5
          case oi0_5T5 =>
            conv =>
              lhs
              whnf
              arg 1
              whnf
          case hq5T5 => exact fun _ _ _ h => h
          case ff5T5 => kernel_rfl
          case rr5T5 => kernel_rfl
          case hw5T5 => rfl
          case hy5T5 =>
            intro w hSw
            (try dsimp only at hSw)
            first
            | (go_simp; done)
            | (go_simp; with_reducible rfl)
          try simp only [Act.put, List.setIfInBounds_toArray, List.set_cons_zero, List.set_cons_succ]
          refine wpAnyH_take (i := 6) (oi := ?oi6T5) (v := ?v6T5) ?oi0_6T5 (by kernel_rfl) ?ff6T5 ?rr6T5 ?hq6T5 (Or.inl ⟨?hw6T5, ?hy6T5⟩) (by assumption) ?rest6T5
          case oi0_6T5 =>
            conv =>
              lhs
              whnf
              arg 1
              whnf
          case hq6T5 => exact fun _ _ _ h => h
          case ff6T5 => kernel_rfl
          case rr6T5 => kernel_rfl
          case hw6T5 => rfl
          case hy6T5 =>
            intro w hSw
            (try dsimp only at hSw)
            first
            | (go_simp; done)
            | (go_simp; with_reducible rfl)
          try simp only [Act.put, List.setIfInBounds_toArray, List.set_cons_zero, List.set_cons_succ]
          refine wpAnyH_take (i := 7) (oi := ?oi7T5) (v := ?v7T5) ?oi0_7T5 (by kernel_rfl) ?ff7T5 ?rr7T5 ?hq7T5 (Or.inl ⟨?hw7T5, ?hy7T5⟩) (by assumption) ?rest7T5
          case oi0_7T5 =>
            conv =>
              lhs
              whnf
              arg 1
              whnf
          case hq7T5 => exact fun _ _ _ h => h
          case ff7T5 => kernel_rfl
          case rr7T5 => kernel_rfl
          case hw7T5 => rfl
          case hy7T5 =>
            intro w hSw
            (try dsimp only at hSw)
            first
            | (go_simp; done)
            | (go_simp; with_reducible rfl)
          try simp only [Act.put, List.setIfInBounds_toArray, List.set_cons_zero, List.set_cons_succ]
          refine wpAnyH_take (i := 8) (oi := ?oi8T5) (v := ?v8T5) ?oi0_8T5 (by kernel_rfl) ?ff8T5 ?rr8T5 ?hq8T5 (Or.inl ⟨?hw8T5, ?hy8T5⟩) (by assumption) ?rest8T5
          case oi0_8T5 =>
            conv =>
              lhs
              whnf
              arg 1
              whnf
          case hq8T5 => exact fun _ _ _ h => h
          case ff8T5 => kernel_rfl
          case rr8T5 => kernel_rfl
          case hw8T5 => rfl
          case hy8T5 =>
            intro w hSw
            (try dsimp only at hSw)
            first
            | (go_simp; done)
            | (go_simp; with_reducible rfl)
          try simp only [Act.put, List.setIfInBounds_toArray, List.set_cons_zero, List.set_cons_succ]
          refine wpAnyH_done (by kernel_rfl) ?_ _
          go_wp2_with fail
          go_ret
          exact ⟨rfl, V.out⟩
    · obtain rfl : k = n := by omega
      have hki : ¬ (k : Int) < k := by omega
      obtain rfl : r = true := by
        rw [← HR.out]
        have h1 := hr.out
        rw [List.take_of_length_le (by have := HXN.out; omega), List.take_of_length_le (by have := HYN.out; omega)] at h1
        exact decide_eq_true h1
      go_wp2_with fail
      go_ret
      exact ⟨rfl, hu.out⟩
end Go.Proofs.Ytpkeimdlcafcnaa

namespace Go.Proofs.Ytpkeimdlcafcnaa
open Go.RowKit
set_option maxRecDepth 100000
set_option maxHeartbeats 20000000

theorem refWithin {n₀ : Nat} (a : Option Addr) (n c : Nat) (xs : List Sp) (len : Int) (w : World) (h1 : SpsAt n₀ w a xs) (hn : n = xs.length) (hm : n ≤ maxLen) :
    Calls Try.prog 45 #[.slice a n c, .int .i64 len, .int .i64 4] w fun e w' => e = .returned (.bool (decide (SpsOk len xs))) ∧ Upd [] w w' := by
  have HX := hide h1
  have HXN := hide hn
  have hm' : n ≤ 9223372036854775807 := by unfold maxLen at hm; omega
  obtain ⟨r, HR⟩ : ∃ r, Hid (decide (SpsOk len xs) = r) := ⟨_, rfl⟩
  rw [HR.out]
  clear h1 hm hn
  go_enter Try.func45, Try.ntmps45
  by_cases h4 : 4 < n
  case pos =>
    obtain rfl : r = false := by rw [← HR.out]; exact decide_eq_false fun h => by have h1 := h.2; have := HXN.out; omega
    have h4i : (4 : Int) < n := by omega
    go_wp2_with fail
    go_ret
    exact ⟨rfl, Upd.refl _ _⟩
  have h4i : ¬ (4 : Int) < n := by omega
  go_wp2_with fail
  go_loopw [7] (fun s7 wr => ∃ k : Nat, k ≤ n ∧ s7 = .int .i64 k ∧ Hid (Upd [] w wr) ∧ Hid (∀ j, j < k → SpOk len xs j)) (fun k _ => n - (intOf k).toNat)
  case atStart => exact ⟨0, Nat.zero_le _, rfl, Upd.refl _ _, hide (fun j hj => by omega)⟩
  case round =>
    obtain ⟨k, hk, rfl, hu, hr⟩ := hrel
    obtain ⟨wo, rfl⟩ : ∃ wo : World, wo = wr := ⟨_, rfl⟩
    have V := hide (hu.out.drew)
    by_cases hkl : k < n
    case neg =>
      obtain rfl : k = n := by omega
      have hki : ¬ (k : Int) < k := by omega
      obtain rfl : r = true := by rw [← HR.out]; exact decide_eq_true ⟨fun j hj => hr.out j (by have := HXN.out; omega), by have := HXN.out; omega⟩
      go_wp2_with fail
      go_ret
      exact ⟨rfl, hu.out⟩
    obtain ⟨s, hs⟩ : ∃ s, xs[k]? = some s := ⟨_, List.getElem?_eq_getElem (by have := HXN.out; omega)⟩
    obtain ⟨b, o, ea, _, c0, c1⟩ := HX.out k s hs
    subst ea
    have hki : (k : Int) < n := by omega
    have c0' := keepc _ _ _ _ hu.out c0
    have c1' := keepc _ _ _ _ hu.out c1
    have HS := hide hs
    clear hs c0 c1
    by_cases e1 : s.fr < 0
    case pos =>
      have d1 : decide (s.fr < 0) = true := decide_eq_true e1
      obtain rfl : r = false := by rw [← HR.out]; exact decide_eq_false fun h => by have h1 := h.1 k (by have := HXN.out; omega); unfold SpOk SpIn at h1; rw [HS.out] at h1; simp only [Option.getD_some] at h1; omega
      go_wp2_with fail
      refine wp_region_held_drew (S := (fun w' => w'.cell? ⟨b, o + k * 2, none⟩ = some (.int .i64 s.fr) ∧ w'.cell? ⟨b, o + k * 2 + 1, none⟩ = some (.int .i64 s.to_))) (by kernel_rfl) (by exact ⟨c0', c1'⟩) (fun hHeld => ?_)
      refine wpAnyH_take (i := 0) (oi := ?oi0W1) (v := ?v0W1) ?oi0_0W1 (by kernel_rfl) ?ff0W1 ?rr0W1 ?hq0W1 (Or.inl ⟨?hw0W1, ?hy0W1⟩) (by assumption) ?rest0W1
      case oi0_0W1 =>
        conv =>
          lhs
          whnf
          arg 1
          whnf
      case hq0W1 => exact fun _ _ _ h => h
      case ff0W1 => kernel_rfl
      case rr0W1 => kernel_rfl
      case hw0W1 => rfl
      case hy0W1 =>
        intro w hSw
        (try dsimp only at hSw)
        first
        | (go_simp; done)
        | (go_simp; with_reducible rfl)
      try simp only [Act.put, List.setIfInBounds_toArray, List.set_cons_zero, List.set_cons_succ]
      refine wpAnyH_take (i := 1) (oi := ?oi1W1) (v := ?v1W1) ?oi0_1W1 (by kernel_rfl) ?ff1W1 ?rr1W1 ?hq1W1 (Or.inl ⟨?hw1W1, ?hy1W1⟩) (by assumption) ?rest1W1
      case oi0_1W1 =>
        conv =>
          lhs
          whnf
          arg 1
          whnf
      case hq1W1 => exact fun _ _ _ h => h
      case ff1W1 => kernel_rfl
      case rr1W1 => kernel_rfl
      case hw1W1 => rfl
      case hy1W1 =>
        intro w hSw
        (try dsimp only at hSw)
        first
        | (go_simp; done)
        | (go_simp; with_reducible rfl)
      try simp only [Act.put, List.setIfInBounds_toArray, List.set_cons_zero, List.set_cons_succ]
      refine wpAnyH_take (i := 2) (oi := ?oi2W1) (v := ?v2W1) ?oi0_2W1 (by kernel_rfl) ?ff2W1 ?rr2W1 ?hq2W1 (Or.inl ⟨?hw2W1, ?hy2W1⟩) (by assumption) ?rest2W1
      case oi0_2W1 =>
        conv =>
          lhs
          whnf
          arg 1
          whnf
      case hq2W1 => exact fun _ _ _ h => h
      case ff2W1 => kernel_rfl
      case rr2W1 => kernel_rfl
      case hw2W1 => rfl
      case hy2W1 =>
        intro w hSw
        (try dsimp only at hSw)
        first
        | (go_simp; done)
        | (go_simp; with_reducible rfl)
      try simp only [Act.put, List.setIfInBounds_toArray, List.set_cons_zero, List.set_cons_succ]
      refine wpAnyH_take (i := 3) (oi := ?oi3W1) (v := ?v3W1) ?oi0_3W1 (by kernel_rfl) ?ff3W1 ?rr3W1 ?hq3W1 (Or.inl ⟨?hw3W1, ?hy3W1⟩) (by assumption) ?rest3W1
      case oi0_3W1 =>
        conv =>
          lhs
          whnf
          arg 1
          whnf
      case hq3W1 => exact fun _ _ _ h => h
      case ff3W1 => kernel_rfl
      case rr3W1 => kernel_rfl
      case hw3W1 => rfl
      case hy3W1 =>
        intro w hSw
        (try dsimp only at hSw)
        first
        | (go_simp; done)
        | (go_simp; with_reducible rfl)
      try simp only [Act.put, List.setIfInBounds_toArray, List.set_cons_zero, List.set_cons_succ]
      refine wpAnyH_take (i := 4) (oi := ?oi4W1) (v := ?v4W1) ?oi0_4W1 (by kernel_rfl) ?ff4W1 ?rr4W1 ?hq4W1 (Or.inl ⟨?hw4W1, ?hy4W1⟩) (by assumption) ?rest4W1
      case oi0_4W1 =>
        conv =>
          lhs
          whnf
          arg 1
          whnf
      case hq4W1 => exact fun _ _ _ h => h
      case ff4W1 => kernel_rfl
      case rr4W1 => kernel_rfl
      case hw4W1 => rfl
      case hy4W1 =>
        intro w hSw
        (try dsimp only at hSw)
        first
        | (go_simp; done)
        | (go_simp; with_reducible rfl)
      try simp only [Act.put, List.setIfInBounds_toArray, List.set_cons_zero, List.set_cons_succ]
      refine wpAnyH_take (i := 5) (oi := ?oi5W1) (v := ?v5W1) ?oi0_5W1 (by kernel_rfl) ?ff5W1 ?rr5W1 ?hq5W1 (Or.inl ⟨?hw5W1, ?hy5W1⟩) (by assumption) ?rest5W1
      case oi0_5W1 =>
        conv =>
          lhs
          whnf
          arg 1
          whnf
      case hq5W1 => exact fun _ _ _ h => h
      case ff5W1 => kernel_rfl
      case rr5W1 => kernel_rfl
      case hw5W1 => rfl
      case hy5W1 =>
        intro w hSw
        (try dsimp only at hSw)
        first
        | (go_simp; done)
        | (go_simp; with_reducible rfl)
      try simp only [Act.put, List.setIfInBounds_toArray, List.set_cons_zero, List.set_cons_succ]
      refine wpAnyH_take (i := 6) (oi := ?oi6W1) (v := ?v6W1) ?oi0_6W1 (by kernel_rfl) ?ff6W1 ?rr6W1 ?hq6W1 (Or.inl ⟨?hw6W1, ?hy6W1⟩) (by assumption) ?rest6W1
      case oi0_6W1 =>
        conv =>
          lhs
          whnf
          arg 1
          whnf
      case hq6W1 => exact fun _ _ _ h => h
      case ff6W1 => kernel_rfl
      case rr6W1 => kernel_rfl
      case hw6W1 => rfl
      case hy6W1 =>
        intro w hSw
        (try dsimp only at hSw)
        first
        | (go_simp; done)
        | (go_simp; with_reducible rfl)
      try simp only [Act.put, List.setIfInBounds_toArray, List.set_cons_zero, List.set_cons_succ]
      refine wpAnyH_take (i := 7) (oi := ?oi7W1) (v := undef) ?oi0_7W1 (by kernel_rfl) ?ff7W1 ?rr7W1 ?hq7W1 (Or.inr ⟨?hw7W1, rfl⟩) (by assumption) ?rest7W1
      case oi0_7W1 =>
        conv =>
          lhs
          whnf
          arg 1
          whnf
      case hq7W1 => exact fun _ _ _ h => h
      case ff7W1 => kernel_rfl
      case rr7W1 => kernel_rfl
      case hw7W1 => rfl
      try simp only [Act.put, List.setIfInBounds_toArray, List.set_cons_zero, List.set_cons_succ]
      refine wpAnyH_take (i := 8) (oi := ?oi8W1) (v := undef) ?oi0_8W1 (by kernel_rfl) ?ff8W1 ?rr8W1 ?hq8W1 (Or.inr ⟨?hw8W1, rfl⟩) (by assumption) ?rest8W1
      case oi0_8W1 =>
        conv =>
          lhs
          whnf
          arg 1
          whnf
      case hq8W1 => exact fun _ _ _ h => h
      case ff8W1 => kernel_rfl
      case rr8W1 => kernel_rfl
      case hw8W1 => rfl
      try simp only [Act.put, List.setIfInBounds_toArray, List.set_cons_zero, List.set_cons_succ]
      refine wpAnyH_take (i := 9) (oi := ?oi9W1) (v := undef) ?oi0_9W1 (by kernel_rfl) ?ff9W1 ?rr9W1 ?hq9W1 (Or.inr ⟨?hw9W1, rfl⟩) (by assumption) ?rest9W1
      case oi0_9W1 =>
        conv =>
          lhs
          whnf
          arg 1
          whnf
      case hq9W1 => exact fun _ _ _ h => h
      case ff9W1 => kernel_rfl
      case rr9W1 => kernel_rfl
      case hw9W1 => rfl
      try simp only [Act.put, List.setIfInBounds_toArray, List.set_cons_zero, List.set_cons_succ]
      refine wpAnyH_take (i := 10) (oi := ?oi10W1) (v := undef) ?oi0_10W1 (by kernel_rfl) ?ff10W1 ?rr10W1 ?hq10W1 (Or.inr ⟨?hw10W1, rfl⟩) (by assumption) ?rest10W1
      case oi0_10W1 =>
        conv =>
          lhs
          whnf
          arg 1
          whnf
      case hq10W1 => exact fun _ _ _ h => h
      case ff10W1 => kernel_rfl
      case rr10W1 => kernel_rfl
      case hw10W1 => rfl
      try simp only [Act.put, List.setIfInBounds_toArray, List.set_cons_zero, List.set_cons_succ]
      refine wpAnyH_take (i := 11) (oi := ?oi11W1) (v := undef) ?oi0_11W1 (by kernel_rfl) ?ff11W1 ?rr11W1 ?hq11W1 (Or.inr ⟨?hw11W1, rfl⟩) (by assumption) ?rest11W1
      case oi0_11W1 =>
        conv =>
          lhs
          whnf
          arg 1
          whnf
      case hq11W1 => exact fun _ _ _ h => h
      case ff11W1 => kernel_rfl
      case rr11W1 => kernel_rfl
      case hw11W1 => rfl
      try simp only [Act.put, List.setIfInBounds_toArray, List.set_cons_zero, List.set_cons_succ]
      refine wpAnyH_take (i := 12) (oi := ?oi12W1) (v := undef) ?oi0_12W1 (by kernel_rfl) ?ff12W1 ?rr12W1 ?hq12W1 (Or.inr ⟨?hw12W1, rfl⟩) (by assumption) ?rest12W1
      case oi0_12W1 =>
        conv =>
          lhs
          whnf
          arg 1
          whnf
      case hq12W1 => exact fun _ _ _ h => h
      case ff12W1 => kernel_rfl
      case rr12W1 => kernel_rfl
      case hw12W1 => rfl
      try simp only [Act.put, List.setIfInBounds_toArray, List.set_cons_zero, List.set_cons_succ]
      refine wpAnyH_take (i := 13) (oi := ?oi13W1) (v := undef) ?oi0_13W1 (by kernel_rfl) ?ff13W1 ?rr13W1 ?hq13W1 (Or.inr ⟨?hw13W1, rfl⟩) (by assumption) ?rest13W1
      case oi0_13W1 =>
        conv =>
          lhs
          whnf
          arg 1
          whnf
      case hq13W1 => exact fun _ _ _ h => h
      case ff13W1 => kernel_rfl
      case rr13W1 => kernel_rfl
      case hw13W1 => rfl
      try simp only [Act.put, List.setIfInBounds_toArray, List.set_cons_zero, List.set_cons_succ]
      refine wpAnyH_take (i := 14) (oi := ?oi14W1) (v := undef) ?oi0_14W1 (by kernel_rfl) ?ff14W1 ?rr14W1 ?hq14W1 (Or.inr ⟨?hw14W1, rfl⟩) (by assumption) ?rest14W1
      case oi0_14W1 =>
        conv =>
          lhs
          whnf
          arg 1
          whnf
      case hq14W1 => exact fun _ _ _ h => h
      case ff14W1 => kernel_rfl
      case rr14W1 => kernel_rfl
      case hw14W1 => rfl
      try simp only [Act.put, List.setIfInBounds_toArray, List.set_cons_zero, List.set_cons_succ]
      refine wpAnyH_take (i := 15) (oi := ?oi15W1) (v := undef) ?oi0_15W1 (by kernel_rfl) ?ff15W1 ?rr15W1 ?hq15W1 (Or.inr ⟨?hw15W1, rfl⟩) (by assumption) ?rest15W1
      case oi0_15W1 =>
        conv =>
          lhs
          whnf
          arg 1
          whnf
      case hq15W1 => exact fun _ _ _ h => h
      case ff15W1 => kernel_rfl
      case rr15W1 => kernel_rfl
      case hw15W1 => rfl
      try simp only [Act.put, List.setIfInBounds_toArray, List.set_cons_zero, List.set_cons_succ]
      refine wpAnyH_take (i := 16) (oi := ?oi16W1) (v := undef) ?oi0_16W1 (by kernel_rfl) ?ff16W1 ?rr16W1 ?hq16W1 (Or.inr ⟨?hw16W1, rfl⟩) (by assumption) ?rest16W1
      case oi0_16W1 =>
        conv =>
          lhs
          whnf
          arg 1
          whnf
      case hq16W1 => exact fun _ _ _ h => h
      case ff16W1 => kernel_rfl
      case rr16W1 => kernel_rfl
      case hw16W1 => rfl
      try simp only [Act.put, List.setIfInBounds_toArray, List.set_cons_zero, List.set_cons_succ]
      refine wpAnyH_take (i := 17) (oi := ?oi17W1) (v := undef) ?oi0_17W1 (by kernel_rfl) ?ff17W1 ?rr17W1 ?hq17W1 (Or.inr ⟨?hw17W1, rfl⟩) (by assumption) ?rest17W1
      case oi0_17W1 =>
        conv =>
          lhs
          whnf
          arg 1
          whnf
      case hq17W1 => exact fun _ _ _ h => h
      case ff17W1 => kernel_rfl
      case rr17W1 => kernel_rfl
      case hw17W1 => rfl
      try simp only [Act.put, List.setIfInBounds_toArray, List.set_cons_zero, List.set_cons_succ]
      refine wpAnyH_take (i := 18) (oi := ?oi18W1) (v := ?v18W1) ?oi0_18W1 (by kernel_rfl) ?ff18W1 ?rr18W1 ?hq18W1 (Or.inl ⟨?hw18W1, ?hy18W1⟩) (by assumption) ?rest18W1
      case oi0_18W1 =>
        conv =>
          lhs
          whnf
          arg 1
          whnf
      case hq18W1 => exact fun _ _ _ h => h
      case ff18W1 => kernel_rfl
      case rr18W1 => kernel_rfl
      case hw18W1 => rfl
      case hy18W1 =>
        intro w hSw
        (try dsimp only at hSw)
        first
        | (go_simp; done)
        | (go_simp; with_reducible rfl)
      try simp only [Act.put, List.setIfInBounds_toArray, List.set_cons_zero, List.set_cons_succ]
      refine wpAnyH_take (i := 19) (oi := ?oi19W1) (v := ?v19W1) ?oi0_19W1 (by kernel_rfl) ?ff19W1 ?rr19W1 ?hq19W1 (Or.inl ⟨?hw19W1, ?hy19W1⟩) (by assumption) ?rest19W1
      case oi0_19W1 =>
        conv =>
          lhs
          whnf
          arg 1
          whnf
      case hq19W1 => exact fun _ _ _ h => h
      case ff19W1 => kernel_rfl
      case rr19W1 => kernel_rfl
      case hw19W1 => rfl
      case hy19W1 =>
        intro w hSw
        (try dsimp only at hSw)
        first
        | (go_simp; done)
        | (go_simp; with_reducible rfl)
      try simp only [Act.put, List.setIfInBounds_toArray, List.set_cons_zero, List.set_cons_succ]
      refine wpAnyH_take (i := 20) (oi := ?oi20W1) (v := undef) ?oi0_20W1 (by kernel_rfl) ?ff20W1 ?rr20W1 ?hq20W1 (Or.inr ⟨?hw20W1, rfl⟩) (by assumption) ?rest20W1
      case oi0_20W1 =>
        conv =>
          lhs
          whnf
          arg 1
          whnf
      case hq20W1 => exact fun _ _ _ h => h
      case ff20W1 => kernel_rfl
      case rr20W1 => kernel_rfl
      case hw20W1 => rfl
      try simp only [Act.put, List.setIfInBounds_toArray, List.set_cons_zero, List.set_cons_succ]
      refine wpAnyH_take (i := 21) (oi := ?oi21W1) (v := undef) ?oi0_21W1 (by kernel_rfl) ?ff21W1 ?rr21W1 ?hq21W1 (Or.inr ⟨?hw21W1, rfl⟩) (by assumption) ?rest21W1
      case oi0_21W1 =>
        conv =>
          lhs
          whnf
          arg 1
          whnf
      case hq21W1 => exact fun _ _ _ h => h
      case ff21W1 => kernel_rfl
      case rr21W1 => kernel_rfl
      case hw21W1 => rfl
      try simp only [Act.put, List.setIfInBounds_toArray, List.set_cons_zero, List.set_cons_succ]
      refine wpAnyH_take (i := 22) (oi := ?oi22W1) (v := undef) ?oi0_22W1 (by kernel_rfl) ?ff22W1 ?rr22W1 ?hq22W1 (Or.inr ⟨?hw22W1, rfl⟩) (by assumption) ?rest22W1
      case oi0_22W1 =>
        conv =>
          lhs
          whnf
          arg 1
          whnf
      case hq22W1 => exact fun _ _ _ h => h
      case ff22W1 => kernel_rfl
      case rr22W1 => kernel_rfl
      case hw22W1 => rfl
      try simp only [Act.put, List.setIfInBounds_toArray, List.set_cons_zero, List.set_cons_succ]
      refine wpAnyH_take (i := 23) (oi := ?oi23W1) (v := undef) ?oi0_23W1 (by kernel_rfl) ?ff23W1 ?rr23W1 ?hq23W1 (Or.inr ⟨?hw23W1, rfl⟩) (by assumption) ?rest23W1
      case oi0_23W1 =>
        conv =>
          lhs
          whnf
          arg 1
          whnf
      case hq23W1 => exact fun _ _ _ h => h
      case ff23W1 => kernel_rfl
      case rr23W1 => kernel_rfl
      case hw23W1 => rfl
      try simp only [Act.put, List.setIfInBounds_toArray, List.set_cons_zero, List.set_cons_succ]
      refine wpAnyH_take (i := 24) (oi := ?oi24W1) (v := undef) ?oi0_24W1 (by kernel_rfl) ?ff24W1 ?rr24W1 ?hq24W1 (Or.inr ⟨?hw24W1, rfl⟩) (by assumption) ?rest24W1
      case oi0_24W1 =>
        conv =>
          lhs
          whnf
          arg 1
          whnf
      case hq24W1 => exact fun _ _ _ h => h
      case ff24W1 => kernel_rfl
      case rr24W1 => kernel_rfl
      case hw24W1 => rfl
      try simp only [Act.put, List.setIfInBounds_toArray, List.set_cons_zero, List.set_cons_succ]
      refine wpAnyH_take (i := 25) (oi := ?oi25W1) (v := undef) ?oi0_25W1 (by kernel_rfl) ?ff25W1 ?rr25W1 ?hq25W1 (Or.inr ⟨?hw25W1, rfl⟩) (by assumption) ?rest25W1
      case oi0_25W1 =>
        conv =>
          lhs
          whnf
          arg 1
          whnf
      case hq25W1 => exact fun _ _ _ h => h
      case ff25W1 => kernel_rfl
      case rr25W1 => kernel_rfl
      case hw25W1 => rfl
      try simp only [Act.put, List.setIfInBounds_toArray, List.set_cons_zero, List.set_cons_succ]
      refine wpAnyH_take (i := 26) (oi := ?oi26W1) (v := undef) ?oi0_26W1 (by kernel_rfl) ?ff26W1 ?rr26W1 ?hq26W1 (Or.inr ⟨?hw26W1, rfl⟩) (by assumption) ?rest26W1
      case oi0_26W1 =>
        conv =>
          lhs
          whnf
          arg 1
          whnf
      case hq26W1 => exact fun _ _ _ h => h
      case ff26W1 => kernel_rfl
      case rr26W1 => kernel_rfl
      case hw26W1 => rfl
      try simp only [Act.put, List.setIfInBounds_toArray, List.set_cons_zero, List.set_cons_succ]
      refine wpAnyH_take (i := 27) (oi := ?oi27W1) (v := ?v27W1) ?oi0_27W1 (by kernel_rfl) ?ff27W1 ?rr27W1 ?hq27W1 (Or.inl ⟨?hw27W1, ?hy27W1⟩) (by assumption) ?rest27W1
      case oi0_27W1 =>
        conv =>
          lhs
          whnf
          arg 1
          whnf
      case hq27W1 => exact fun _ _ _ h => h
      case ff27W1 => kernel_rfl
      case rr27W1 => kernel_rfl
      case hw27W1 => rfl
      case hy27W1 =>
        intro w hSw
        (try dsimp only at hSw)
        first
        | (go_simp; done)
        | (go_simp; with_reducible rfl)
      try simp only [Act.put, List.setIfInBounds_toArray, List.set_cons_zero, List.set_cons_succ]
      refine wpAnyH_take (i := 28) (oi := ?oi28W1) (v := ?v28W1) ?oi0_28W1 (by kernel_rfl) ?ff28W1 ?rr28W1 ?hq28W1 (Or.inl ⟨?hw28W1, ?hy28W1⟩) (by assumption) ?rest28W1
      case oi0_28W1 =>
        conv =>
          lhs
          whnf
          arg 1
          whnf
      case hq28W1 => exact fun _ _ _ h => h
      case ff28W1 => kernel_rfl
      case rr28W1 => kernel_rfl
      case hw28W1 => rfl
      case hy28W1 =>
        intro w hSw
        (try dsimp only at hSw)
        first
        | (go_simp; done)
        | (go_simp; with_reducible rfl)
      try simp only [Act.put, List.setIfInBounds_toArray, List.set_cons_zero, List.set_cons_succ]
      refine wpAnyH_take (i := 29) (oi := ?oi29W1) (v := undef) ?oi0_29W1 (by kernel_rfl) ?ff29W1 ?rr29W1 ?hq29W1 (Or.inr ⟨?hw29W1, rfl⟩) (by assumption) ?rest29W1
      case oi0_29W1 =>
        conv =>
          lhs
          whnf
          arg 1
          whnf
      case hq29W1 => exact fun _ _ _ h => h
      case ff29W1 => kernel_rfl
      case rr29W1 => kernel_rfl
      case hw29W1 => rfl
      try simp only [Act.put, List.setIfInBounds_toArray, List.set_cons_zero, List.set_cons_succ]
      refine wpAnyH_take (i := 30) (oi := ?oi30W1) (v := undef) ?oi0_30W1 (by kernel_rfl) ?ff30W1 ?rr30W1 ?hq30W1 (Or.inr ⟨?hw30W1, rfl⟩) (by assumption) ?rest30W1
      case oi0_30W1 =>
        conv =>
          lhs
          whnf
          arg 1
          whnf
      case hq30W1 => exact fun _ _ _ h => h
      case ff30W1 => kernel_rfl
      case rr30W1 => kernel_rfl
      case hw30W1 => rfl
      try simp only [Act.put, List.setIfInBounds_toArray, List.set_cons_zero, List.set_cons_succ]
      refine wpAnyH_take (i := 31) (oi := ?oi31W1) (v := undef) ?oi0_31W1 (by kernel_rfl) ?ff31W1 ?rr31W1 ?hq31W1 (Or.inr ⟨?hw31W1, rfl⟩) (by assumption) ?rest31W1
      case oi0_31W1 =>
        conv =>
          lhs
          whnf
          arg 1
          whnf
      case hq31W1 => exact fun _ _ _ h => h
      case ff31W1 => kernel_rfl
      case rr31W1 => kernel_rfl
      case hw31W1 => rfl
      try simp only [Act.put, List.setIfInBounds_toArray, List.set_cons_zero, List.set_cons_succ]
      refine wpAnyH_take (i := 32) (oi := ?oi32W1) (v := undef) ?oi0_32W1 (by kernel_rfl) ?ff32W1 ?rr32W1 ?hq32W1 (Or.inr ⟨?hw32W1, rfl⟩) (by assumption) ?rest32W1
      case oi0_32W1 =>
        conv =>
          lhs
          whnf
          arg 1
          whnf
      case hq32W1 => exact fun _ _ _ h => h
      case ff32W1 => kernel_rfl
      case rr32W1 => kernel_rfl
      case hw32W1 => rfl
      try simp only [Act.put, List.setIfInBounds_toArray, List.set_cons_zero, List.set_cons_succ]
      refine wpAnyH_take (i := 33) (oi := ?oi33W1) (v := undef) ?oi0_33W1 (by kernel_rfl) ?ff33W1 ?rr33W1 ?hq33W1 (Or.inr ⟨?hw33W1, rfl⟩) (by assumption) ?rest33W1
      case oi0_33W1 =>
        conv =>
          lhs
          whnf
          arg 1
          whnf
      case hq33W1 => exact fun _ _ _ h => h
      case ff33W1 => kernel_rfl
      case rr33W1 => kernel_rfl
      case hw33W1 => rfl
      try simp only [Act.put, List.setIfInBounds_toArray, List.set_cons_zero, List.set_cons_succ]
      refine wpAnyH_take (i := 34) (oi := ?oi34W1) (v := undef) ?oi0_34W1 (by kernel_rfl) ?ff34W1 ?rr34W1 ?hq34W1 (Or.inr ⟨?hw34W1, rfl⟩) (by assumption) ?rest34W1
      case oi0_34W1 =>
        conv =>
          lhs
          whnf
          arg 1
          whnf
      case hq34W1 => exact fun _ _ _ h => h
      case ff34W1 => kernel_rfl
      case rr34W1 => kernel_rfl
      case hw34W1 => rfl
      try simp only [Act.put, List.setIfInBounds_toArray, List.set_cons_zero, List.set_cons_succ]
      refine wpAnyH_take (i := 35) (oi := ?oi35W1) (v := undef) ?oi0_35W1 (by kernel_rfl) ?ff35W1 ?rr35W1 ?hq35W1 (Or.inr ⟨?hw35W1, rfl⟩) (by assumption) ?rest35W1
      case oi0_35W1 =>
        conv =>
          lhs
          whnf
          arg 1
          whnf
      case hq35W1 => exact fun _ _ _ h => h
      case ff35W1 => kernel_rfl
      case rr35W1 => kernel_rfl
      case hw35W1 => rfl
      try simp only [Act.put, List.setIfInBounds_toArray, List.set_cons_zero, List.set_cons_succ]
      refine wpAnyH_take (i := 36) (oi := ?oi36W1) (v := undef) ?oi0_36W1 (by kernel_rfl) ?ff36W1 ?rr36W1 ?hq36W1 (Or.inr ⟨?hw36W1, rfl⟩) (by assumption) ?rest36W1
      case oi0_36W1 =>
        conv =>
          lhs
          whnf
          arg 1
          whnf
      case hq36W1 => exact fun _ _ _ h => h
      case ff36W1 => kernel_rfl
      case rr36W1 => kernel_rfl
      case hw36W1 => rfl
      try simp only [Act.put, List.setIfInBounds_toArray, List.set_cons_zero, List.set_cons_succ]
      refine wpAnyH_take (i := 37) (oi := ?oi37W1) (v := undef) ?oi0_37W1 (by kernel_rfl) ?ff37W1 ?rr37W1 ?hq37W1 (Or.inr ⟨?hw37W1, rfl⟩) (by assumption) ?rest37W1
      case oi0_37W1 =>
        conv =>
          lhs
          whnf
          arg 1
          whnf
      case hq37W1 => exact fun _ _ _ h => h
      case ff37W1 => kernel_rfl
      case rr37W1 => kernel_rfl
      case hw37W1 => rfl
      try simp only [Act.put, List.setIfInBounds_toArray, List.set_cons_zero, List.set_cons_succ]
      refine wpAnyH_take (i := 38) (oi := ?oi38W1) (v := undef) ?oi0_38W1 (by kernel_rfl) ?ff38W1 ?rr38W1 ?hq38W1 (Or.inr ⟨?hw38W1, rfl⟩) (by assumption) ?rest38W1
      case oi0_38W1 =>
        conv =>
          lhs
          whnf
          arg 1
          whnf
      case hq38W1 => exact fun _ _ _ h => h
      case ff38W1 => kernel_rfl
      case rr38W1 => kernel_rfl
      case hw38W1 => rfl
      try simp only [Act.put, List.setIfInBounds_toArray, List.set_cons_zero, List.set_cons_succ]
      refine wpAnyH_take (i := 39) (oi := ?oi39W1) (v := undef) ?oi0_39W1 (by kernel_rfl) ?ff39W1 ?rr39W1 ?hq39W1 (Or.inr ⟨?hw39W1, rfl⟩) (by assumption) ?rest39W1
      case oi0_39W1 =>
        conv =>
          lhs
          whnf
          arg 1
          whnf
      case hq39W1 => exact fun _ _ _ h => h
      case ff39W1 => kernel_rfl
      case rr39W1 => kernel_rfl
      case hw39W1 => rfl
      try simp only [Act.put, List.setIfInBounds_toArray, List.set_cons_zero, List.set_cons_succ]
      refine wpAnyH_take (i := 40) (oi := ?oi40W1) (v := undef) ?oi0_40W1 (by kernel_rfl) ?ff40W1 ?rr40W1 ?hq40W1 (Or.inr ⟨?hw40W1, rfl⟩) (by assumption) ?rest40W1
      case oi0_40W1 =>
        conv =>
          lhs
          whnf
          arg 1
          whnf
      case hq40W1 => exact fun _ _ _ h => h
      case ff40W1 => kernel_rfl
      case rr40W1 => kernel_rfl
      case hw40W1 => rfl
      try simp only [Act.put, List.setIfInBounds_toArray, List.set_cons_zero, List.set_cons_succ]
      refine wpAnyH_take (i := 41) (oi := ?oi41W1) (v := undef) ?oi0_41W1 (by kernel_rfl) ?ff41W1 ?rr41W1 ?hq41W1 (Or.inr ⟨?hw41W1, rfl⟩) (by assumption) ?rest41W1
      case oi0_41W1 =>
        conv =>
          lhs
          whnf
          arg 1
          whnf
      case hq41W1 => exact fun _ _ _ h => h
      case ff41W1 => kernel_rfl
      case rr41W1 => kernel_rfl
      case hw41W1 => rfl
      try simp only [Act.put, List.setIfInBounds_toArray, List.set_cons_zero, List.set_cons_succ]
      refine wpAnyH_take (i := 42) (oi := ?oi42W1) (v := undef) ?oi0_42W1 (by kernel_rfl) ?ff42W1 ?rr42W1 ?hq42W1 (Or.inr ⟨?hw42W1, rfl⟩) (by assumption) ?rest42W1
      case oi0_42W1 =>
        conv =>
          lhs
          whnf
          arg 1
          whnf
      case hq42W1 => exact fun _ _ _ h => h
      case ff42W1 => kernel_rfl
      case rr42W1 => kernel_rfl
      case hw42W1 => rfl
      try simp only [Act.put, List.setIfInBounds_toArray, List.set_cons_zero, List.set_cons_succ]
      refine wpAnyH_take (i := 43) (oi := ?oi43W1) (v := undef) ?oi0_43W1 (by kernel_rfl) ?ff43W1 ?rr43W1 ?hq43W1 (Or.inr ⟨?hw43W1, rfl⟩) (by assumption) ?rest43W1
      case oi0_43W1 =>
        conv =>
          lhs
          whnf
          arg 1
          whnf
      case hq43W1 => exact fun _ _ _ h => h
      case ff43W1 => kernel_rfl
      case rr43W1 => kernel_rfl
      case hw43W1 => rfl
      try simp only [Act.put, List.setIfInBounds_toArray, List.set_cons_zero, List.set_cons_succ]
      refine wpAnyH_take (i := 44) (oi := ?oi44W1) (v := undef) ?oi0_44W1 (by kernel_rfl) ?ff44W1 ?rr44W1 ?hq44W1 (Or.inr ⟨?hw44W1, rfl⟩) (by assumption) ?rest44W1
      case oi0_44W1 =>
        conv =>
          lhs
          whnf
          arg 1
          whnf
      case hq44W1 => exact fun _ _ _ h => h
      case ff44W1 => kernel_rfl
      case rr44W1 => kernel_rfl
      case hw44W1 => rfl
      try simp only [Act.put, List.setIfInBounds_toArray, List.set_cons_zero, List.set_cons_succ]
      refine wpAnyH_take (i := 45) (oi := ?oi45W1) (v := ?v45W1) ?oi0_45W1 (by kernel_rfl) ?ff45W1 ?rr45W1 ?hq45W1 (Or.inl ⟨?hw45W1, ?hy45W1⟩) (by assumption) ?rest45W1
      case oi0_45W1 =>
        conv =>
          lhs
          whnf
          arg 1
          whnf
      case hq45W1 => exact fun _ _ _ h => h
      case ff45W1 => kernel_rfl
      case rr45W1 => kernel_rfl
      case hw45W1 => rfl
      case hy45W1 =>
        intro w hSw
        (try dsimp only at hSw)
        first
        | (go_simp; done)
        | (go_simp; with_reducible rfl)
      try simp only [Act.put, List.setIfInBounds_toArray, List.set_cons_zero, List.set_cons_succ]
      refine wpAnyH_done (by kernel_rfl) ?_ _
      go_wp2_with fail
      go_ret
      exact ⟨rfl, V.out⟩
    have d1 : decide (s.fr < 0) = false := decide_eq_false e1
    by_cases e2 : s.to_ ≤ s.fr
    case pos =>
      have d2 : decide (s.to_ ≤ s.fr) = true := decide_eq_true e2
      obtain rfl : r = false := by rw [← HR.out]; exact decide_eq_false fun h => by have h1 := h.1 k (by have := HXN.out; omega); unfold SpOk SpIn at h1; rw [HS.out] at h1; simp only [Option.getD_some] at h1; omega
      go_wp2_with fail
      refine wp_region_held_drew (S := (fun w' => w'.cell? ⟨b, o + k * 2, none⟩ = some (.int .i64 s.fr) ∧ w'.cell? ⟨b, o + k * 2 + 1, none⟩ = some (.int .i64 s.to_))) (by kernel_rfl) (by exact ⟨c0', c1'⟩) (fun hHeld => ?_)
      refine wpAnyH_take (i := 0) (oi := ?oi0W2) (v := ?v0W2) ?oi0_0W2 (by kernel_rfl) ?ff0W2 ?rr0W2 ?hq0W2 (Or.inl ⟨?hw0W2, ?hy0W2⟩) (by assumption) ?rest0W2
      case oi0_0W2 =>
        conv =>
          lhs
          whnf
          arg 1
          whnf
      case hq0W2 => exact fun _ _ _ h => h
      case ff0W2 => kernel_rfl
      case rr0W2 => kernel_rfl
      case hw0W2 => rfl
      case hy0W2 =>
        intro w hSw
        (try dsimp only at hSw)
        first
        | (go_simp; done)
        | (go_simp; with_reducible rfl)
      try simp only [Act.put, List.setIfInBounds_toArray, List.set_cons_zero, List.set_cons_succ]
      refine wpAnyH_take (i := 1) (oi := ?oi1W2) (v := ?v1W2) ?oi0_1W2 (by kernel_rfl) ?ff1W2 ?rr1W2 ?hq1W2 (Or.inl ⟨?hw1W2, ?hy1W2⟩) (by assumption) ?rest1W2
      case oi0_1W2 =>
        conv =>
          lhs
          whnf
          arg 1
          whnf
      case hq1W2 => exact fun _ _ _ h => h
      case ff1W2 => kernel_rfl
      case rr1W2 => kernel_rfl
      case hw1W2 => rfl
      case hy1W2 =>
        intro w hSw
        (try dsimp only at hSw)
        first
        | (go_simp; done)
        | (go_simp; with_reducible rfl)
      try simp only [Act.put, List.setIfInBounds_toArray, List.set_cons_zero, List.set_cons_succ]
      refine wpAnyH_take (i := 2) (oi := ?oi2W2) (v := ?v2W2) ?oi0_2W2 (by kernel_rfl) ?ff2W2 ?rr2W2 ?hq2W2 (Or.inl ⟨?hw2W2, ?hy2W2⟩) (by assumption) ?rest2W2
      case oi0_2W2 =>
        conv =>
          lhs
          whnf
          arg 1
          whnf
      case hq2W2 => exact fun _ _ _ h => h
      case ff2W2 => kernel_rfl
      case rr2W2 => kernel_rfl
      case hw2W2 => rfl
      case hy2W2 =>
        intro w hSw
        (try dsimp only at hSw)
        first
        | (go_simp; done)
        | (go_simp; with_reducible rfl)
      try simp only [Act.put, List.setIfInBounds_toArray, List.set_cons_zero, List.set_cons_succ]
      refine wpAnyH_take (i := 3) (oi := ?oi3W2) (v := ?v3W2) ?oi0_3W2 (by kernel_rfl) ?ff3W2 ?rr3W2 ?hq3W2 (Or.inl ⟨?hw3W2, ?hy3W2⟩) (by assumption) ?rest3W2
      case oi0_3W2 =>
        conv =>
          lhs
          whnf
          arg 1
          whnf
      case hq3W2 => exact fun _ _ _ h => h
      case ff3W2 => kernel_rfl
      case rr3W2 => kernel_rfl
      case hw3W2 => rfl
      case hy3W2 =>
        intro w hSw
        (try dsimp only at hSw)
        first
        | (go_simp; done)
        | (go_simp; with_reducible rfl)
      try simp only [Act.put, List.setIfInBounds_toArray, List.set_cons_zero, List.set_cons_succ]
      refine wpAnyH_take (i := 4) (oi := ?oi4W2) (v := ?v4W2) ?oi0_4W2 (by kernel_rfl) ?ff4W2 ?rr4W2 ?hq4W2 (Or.inl ⟨?hw4W2, ?hy4W2⟩) (by assumption) ?rest4W2
      case oi0_4W2 =>
        conv =>
          lhs
          whnf
          arg 1
          whnf
      case hq4W2 => exact fun _ _ _ h => h
      case ff4W2 => kernel_rfl
      case rr4W2 => kernel_rfl
      case hw4W2 => rfl
      case hy4W2 =>
        intro w hSw
        (try dsimp only at hSw)
        first
        | (go_simp; done)
        | (go_simp; with_reducible rfl)
      try simp only [Act.put, List.setIfInBounds_toArray, List.set_cons_zero, List.set_cons_succ]
      refine wpAnyH_take (i := 5) (oi := ?oi5W2) (v := ?v5W2) ?oi0_5W2 (by kernel_rfl) ?ff5W2 ?rr5W2 ?hq5W2 (Or.inl ⟨?hw5W2, ?hy5W2⟩) (by assumption) ?rest5W2
      case oi0_5W2 =>
        conv =>
          lhs
          whnf
          arg 1
          whnf
      case hq5W2 => exact fun _ _ _ h => h
      case ff5W2 => kernel_rfl
      case rr5W2 => kernel_rfl
      case hw5W2 => rfl
      case hy5W2 =>
        intro w hSw
        (try dsimp only at hSw)
        first
        | (go_simp; done)
        | (go_simp; with_reducible rfl)
      try simp only [Act.put, List.setIfInBounds_toArray, List.set_cons_zero, List.set_cons_succ]
      refine wpAnyH_take (i := 6) (oi := ?oi6W2) (v := ?v6W2) ?oi0_6W2 (by kernel_rfl) ?ff6W2 ?rr6W2 ?hq6W2 (Or.inl ⟨?hw6W2, ?hy6W2⟩) (by assumption) ?rest6W2
      case oi0_6W2 =>
        conv =>
          lhs
          whnf
          arg 1
          whnf
      case hq6W2 => exact fun _ _ _ h => h
      case ff6W2 => kernel_rfl
      case rr6W2 => kernel_rfl
      case hw6W2 => rfl
      case hy6W2 =>
        intro w hSw
        (try dsimp only at hSw)
        first
        | (go_simp; done)
        | (go_simp; with_reducible rfl)
      try simp only [Act.put, List.setIfInBounds_toArray, List.set_cons_zero, List.set_cons_succ]
      refine wpAnyH_take (i := 7) (oi := ?oi7W2) (v := ?v7W2) ?oi0_7W2 (by kernel_rfl) ?ff7W2 ?rr7W2 ?hq7W2 (Or.inl ⟨?hw7W2, ?hy7W2⟩) (by assumption) ?rest7W2
      case oi0_7W2 =>
        conv =>
          lhs
          whnf
          arg 1
          whnf
      case hq7W2 => exact fun _ _ _ h => h
      case ff7W2 => kernel_rfl
      case rr7W2 => kernel_rfl
      case hw7W2 => rfl
      case hy7W2 =>
        intro w hSw
        (try dsimp only at hSw)
        first
        | (go_simp; done)
        | (go_simp; with_reducible rfl)
      try simp only [Act.put, List.setIfInBounds_toArray, List.set_cons_zero, List.set_cons_succ]
      refine wpAnyH_take (i := 8) (oi := ?oi8W2) (v := ?v8W2) ?oi0_8W2 (by kernel_rfl) ?ff8W2 ?rr8W2 ?hq8W2 (Or.inl ⟨?hw8W2, ?hy8W2⟩) (by assumption) ?rest8W2
      case oi0_8W2 =>
        conv =>
          lhs
          whnf
          arg 1
          whnf
      case hq8W2 => exact fun _ _ _ h => h
      case ff8W2 => kernel_rfl
      case rr8W2 => kernel_rfl
      case hw8W2 => rfl
      case hy8W2 =>
        intro w hSw
        (try dsimp only at hSw)
        first
        | (go_simp; done)
        | (go_simp; with_reducible rfl)
      try simp only [Act.put, List.setIfInBounds_toArray, List.set_cons_zero, List.set_cons_succ]
      refine wpAnyH_take (i := 9) (oi := ?oi9W2) (v := ?v9W2) ?oi0_9W2 (by kernel_rfl) ?ff9W2 ?rr9W2 ?hq9W2 (Or.inl ⟨?hw9W2, ?hy9W2⟩) (by assumption) ?rest9W2
      case oi0_9W2 =>
        conv =>
          lhs
          whnf
          arg 1
          whnf
      case hq9W2 => exact fun _ _ _ h => h
      case ff9W2 => kernel_rfl
      case rr9W2 => kernel_rfl
      case hw9W2 => rfl
      case hy9W2 =>
        intro w hSw
        (try dsimp only at hSw)
        first
        | (go_simp; done)
        | (go_simp; with_reducible rfl)
      try simp only [Act.put, List.setIfInBounds_toArray, List.set_cons_zero, List.set_cons_succ]
      refine wpAnyH_take (i := 10) (oi := ?oi10W2) (v := ?v10W2) ?oi0_10W2 (by kernel_rfl) ?ff10W2 ?rr10W2 ?hq10W2 (Or.inl ⟨?hw10W2, ?hy10W2⟩) (by assumption) ?rest10W2
      case oi0_10W2 =>
        conv =>
          lhs
          whnf
          arg 1
          whnf
      case hq10W2 => exact fun _ _ _ h => h
      case ff10W2 => kernel_rfl
      case rr10W2 => kernel_rfl
      case hw10W2 => rfl
      case hy10W2 =>
        intro w hSw
        (try dsimp only at hSw)
        first
        | (go_simp; done)
        | (go_simp; with_reducible rfl)
      try simp only [Act.put, List.setIfInBounds_toArray, List.set_cons_zero, List.set_cons_succ]
      refine wpAnyH_take (i := 11) (oi := ?oi11W2) (v := ?v11W2) ?oi0_11W2 (by kernel_rfl) ?ff11W2 ?rr11W2 ?hq11W2 (Or.inl ⟨?hw11W2, ?hy11W2⟩) (by assumption) ?rest11W2
      case oi0_11W2 =>
        conv =>
          lhs
          whnf
          arg 1
          whnf
      case hq11W2 => exact fun _ _ _ h => h
      case ff11W2 => kernel_rfl
      case rr11W2 => kernel_rfl
      case hw11W2 => rfl
      case hy11W2 =>
        intro w hSw
        (try dsimp only at hSw)
        first
        | (go_simp; done)
        | (go_simp; with_reducible rfl)
      try simp only [Act.put, List.setIfInBounds_toArray, List.set_cons_zero, List.set_cons_succ]
      refine wpAnyH_take (i := 12) (oi := ?oi12W2) (v := ?v12W2) ?oi0_12W2 (by kernel_rfl) ?ff12W2 ?rr12W2 ?hq12W2 (Or.inl ⟨?hw12W2, ?hy12W2⟩) (by assumption) ?rest12W2
      case oi0_12W2 =>
        conv =>
          lhs
          whnf
          arg 1
          whnf
      case hq12W2 => exact fun _ _ _ h => h
      case ff12W2 => kernel_rfl
      case rr12W2 => kernel_rfl
      case hw12W2 => rfl
      case hy12W2 =>
        intro w hSw
        (try dsimp only at hSw)
        first
        | (go_simp; done)
        | (go_simp; with_reducible rfl)
      try simp only [Act.put, List.setIfInBounds_toArray, List.set_cons_zero, List.set_cons_succ]
      refine wpAnyH_take (i := 13) (oi := ?oi13W2) (v := ?v13W2) ?oi0_13W2 (by kernel_rfl) ?ff13W2 ?rr13W2 ?hq13W2 (Or.inl ⟨?hw13W2, ?hy13W2⟩) (by assumption) ?rest13W2
      case oi0_13W2 =>
        conv =>
          lhs
          whnf
          arg 1
          whnf
      case hq13W2 => exact fun _ _ _ h => h
      case ff13W2 => kernel_rfl
      case rr13W2 => kernel_rfl
      case hw13W2 => rfl
      case hy13W2 =>
        intro w hSw
        (try dsimp only at hSw)
        first
        | (go_simp; done)
        | (go_simp; with_reducible rfl)
      try simp only [Act.put, List.setIfInBounds_toArray, List.set_cons_zero, List.set_cons_succ]
      refine wpAnyH_take (i := 14) (oi := ?oi14W2) (v := ?v14W2) ?oi0_14W2 (by kernel_rfl) ?ff14W2 ?rr14W2 ?hq14W2 (Or.inl ⟨?hw14W2, ?hy14W2⟩) (by assumption) ?rest14W2
      case oi0_14W2 =>
        conv =>
          lhs
          whnf
          arg 1
          whnf
      case hq14W2 => exact fun _ _ _ h => h
      case ff14W2 => kernel_rfl
      case rr14W2 => kernel_rfl
      case hw14W2 => rfl
      case hy14W2 =>
        intro w hSw
        (try dsimp only at hSw)
        first
        | (go_simp; done)
        | (go_simp; with_reducible rfl)
      try simp only [Act.put, List.setIfInBounds_toArray, List.set_cons_zero, List.set_cons_succ]
      refine wpAnyH_take (i := 15) (oi := ?oi15W2) (v := ?v15W2) ?oi0_15W2 (by kernel_rfl) ?ff15W2 ?rr15W2 ?hq15W2 (Or.inl ⟨?hw15W2, ?hy15W2⟩) (by assumption) ?rest15W2
      case oi0_15W2 =>
        conv =>
          lhs
          whnf
          arg 1
          whnf
      case hq15W2 => exact fun _ _ _ h => h
      case ff15W2 => kernel_rfl
      case rr15W2 => kernel_rfl
      case hw15W2 => rfl
      case hy15W2 =>
        intro w hSw
        (try dsimp only at hSw)
        first
        | (go_simp; done)
        | (go_simp; with_reducible rfl)
      try simp only [Act.put, List.setIfInBounds_toArray, List.set_cons_zero, List.set_cons_succ]
      refine wpAnyH_take (i := 16) (oi := ?oi16W2) (v := ?v16W2) ?oi0_16W2 (by kernel_rfl) ?ff16W2 ?rr16W2 ?hq16W2 (Or.inl ⟨?hw16W2, ?hy16W2⟩) (by assumption) ?rest16W2
      case oi0_16W2 =>
        conv =>
          lhs
          whnf
          arg 1
          whnf
      case hq16W2 => exact fun _ _ _ h => h
      case ff16W2 => kernel_rfl
      case rr16W2 => kernel_rfl
      case hw16W2 => rfl
      case hy16W2 =>
        intro w hSw
        (try dsimp only at hSw)
        first
        | (go_simp; done)
        | (go_simp; with_reducible rfl)
      try simp only [Act.put, List.setIfInBounds_toArray, List.set_cons_zero, List.set_cons_succ]
      refine wpAnyH_take (i := 17) (oi := ?oi17W2) (v := ?v17W2) ?oi0_17W2 (by kernel_rfl) ?ff17W2 ?rr17W2 ?hq17W2 (Or.inl ⟨?hw17W2, ?hy17W2⟩) (by assumption) ?rest17W2
      case oi0_17W2 =>
        conv =>
          lhs
          whnf
          arg 1
          whnf
      case hq17W2 => exact fun _ _ _ h => h
      case ff17W2 => kernel_rfl
      case rr17W2 => kernel_rfl
      case hw17W2 => rfl
      case hy17W2 =>
        intro w hSw
        (try dsimp only at hSw)
        first
        | (go_simp; done)
        | (go_simp; with_reducible rfl)
      try simp only [Act.put, List.setIfInBounds_toArray, List.set_cons_zero, List.set_cons_succ]
      refine wpAnyH_take (i := 18) (oi := ?oi18W2) (v := ?v18W2) ?oi0_18W2 (by kernel_rfl) ?ff18W2 ?rr18W2 ?hq18W2 (Or.inl ⟨?hw18W2, ?hy18W2⟩) (by assumption) ?rest18W2
      case oi0_18W2 =>
        conv =>
          lhs
          whnf
          arg 1
          whnf
      case hq18W2 => exact fun _ _ _ h => h
      case ff18W2 => kernel_rfl
      case rr18W2 => kernel_rfl
      case hw18W2 => rfl
      case hy18W2 =>
        intro w hSw
        (try dsimp only at hSw)
        first
        | (go_simp; done)
        | (go_simp; with_reducible rfl)
      try simp only [Act.put, List.setIfInBounds_toArray, List.set_cons_zero, List.set_cons_succ]
      refine wpAnyH_take (i := 19) (oi := ?oi19W2) (v := ?v19W2) ?oi0_19W2 (by kernel_rfl) ?ff19W2 ?rr19W2 ?hq19W2 (Or.inl ⟨?hw19W2, ?hy19W2⟩) (by assumption) ?rest19W2
      case oi0_19W2 =>
        conv =>
          lhs
          whnf
          arg 1
          whnf
      case hq19W2 => exact fun _ _ _ h => h
      case ff19W2 => kernel_rfl
      case rr19W2 => kernel_rfl
      case hw19W2 => rfl
      case hy19W2 =>
        intro w hSw
        (try dsimp only at hSw)
        first
        | (go_simp; done)
        | (go_simp; with_reducible rfl)
      try simp only [Act.put, List.setIfInBounds_toArray, List.set_cons_zero, List.set_cons_succ]
      refine wpAnyH_take (i := 20) (oi := ?oi20W2) (v := undef) ?oi0_20W2 (by kernel_rfl) ?ff20W2 ?rr20W2 ?hq20W2 (Or.inr ⟨?hw20W2, rfl⟩) (by assumption) ?rest20W2
      case oi0_20W2 =>
        conv =>
          lhs
          whnf
          arg 1
          whnf
      case hq20W2 => exact fun _ _ _ h => h
      case ff20W2 => kernel_rfl
      case rr20W2 => kernel_rfl
      case hw20W2 => rfl
      try simp only [Act.put, List.setIfInBounds_toArray, List.set_cons_zero, List.set_cons_succ]
      refine wpAnyH_take (i := 21) (oi := ?oi21W2) (v := undef) ?oi0_21W2 (by kernel_rfl) ?ff21W2 ?rr21W2 ?hq21W2 (Or.inr ⟨?hw21W2, rfl⟩) (by assumption) ?rest21W2
      case oi0_21W2 =>
        conv =>
          lhs
          whnf
          arg 1
          whnf
      case hq21W2 => exact fun _ _ _ h => h
      case ff21W2 => kernel_rfl
      case rr21W2 => kernel_rfl
      case hw21W2 => rfl
      try simp only [Act.put, List.setIfInBounds_toArray, List.set_cons_zero, List.set_cons_succ]
      refine wpAnyH_take (i := 22) (oi := ?oi22W2) (v := undef) ?oi0_22W2 (by kernel_rfl) ?ff22W2 ?rr22W2 ?hq22W2 (Or.inr ⟨?hw22W2, rfl⟩) (by assumption) ?rest22W2
      case oi0_22W2 =>
        conv =>
          lhs
          whnf
          arg 1
          whnf
      case hq22W2 => exact fun _ _ _ h => h
      case ff22W2 => kernel_rfl
      case rr22W2 => kernel_rfl
      case hw22W2 => rfl
      try simp only [Act.put, List.setIfInBounds_toArray, List.set_cons_zero, List.set_cons_succ]
      refine wpAnyH_take (i := 23) (oi := ?oi23W2) (v := undef) ?oi0_23W2 (by kernel_rfl) ?ff23W2 ?rr23W2 ?hq23W2 (Or.inr ⟨?hw23W2, rfl⟩) (by assumption) ?rest23W2
      case oi0_23W2 =>
        conv =>
          lhs
          whnf
          arg 1
          whnf
      case hq23W2 => exact fun _ _ _ h => h
      case ff23W2 => kernel_rfl
      case rr23W2 => kernel_rfl
      case hw23W2 => rfl
      try simp only [Act.put, List.setIfInBounds_toArray, List.set_cons_zero, List.set_cons_succ]
      refine wpAnyH_take (i := 24) (oi := ?oi24W2) (v := undef) ?oi0_24W2 (by kernel_rfl) ?ff24W2 ?rr24W2 ?hq24W2 (Or.inr ⟨?hw24W2, rfl⟩) (by assumption) ?rest24W2
      case oi0_24W2 =>
        conv =>
          lhs
          whnf
          arg 1
          whnf
      case hq24W2 => exact fun _ _ _ h => h
      case ff24W2 => kernel_rfl
      case rr24W2 => kernel_rfl
      case hw24W2 => rfl
      try simp only [Act.put, List.setIfInBounds_toArray, List.set_cons_zero, List.set_cons_succ]
      refine wpAnyH_take (i := 25) (oi := ?oi25W2) (v := undef) ?oi0_25W2 (by kernel_rfl) ?ff25W2 ?rr25W2 ?hq25W2 (Or.inr ⟨?hw25W2, rfl⟩) (by assumption) ?rest25W2
      case oi0_25W2 =>
        conv =>
          lhs
          whnf
          arg 1
          whnf
      case hq25W2 => exact fun _ _ _ h => h
      case ff25W2 => kernel_rfl
      case rr25W2 => kernel_rfl
      case hw25W2 => rfl
      try simp only [Act.put, List.setIfInBounds_toArray, List.set_cons_zero, List.set_cons_succ]
      refine wpAnyH_take (i := 26) (oi := ?oi26W2) (v := undef) ?oi0_26W2 (by kernel_rfl) ?ff26W2 ?rr26W2 ?hq26W2 (Or.inr ⟨?hw26W2, rfl⟩) (by assumption) ?rest26W2
      case oi0_26W2 =>
        conv =>
          lhs
          whnf
          arg 1
          whnf
      case hq26W2 => exact fun _ _ _ h => h
      case ff26W2 => kernel_rfl
      case rr26W2 => kernel_rfl
      case hw26W2 => rfl
      try simp only [Act.put, List.setIfInBounds_toArray, List.set_cons_zero, List.set_cons_succ]
      refine wpAnyH_take (i := 27) (oi := ?oi27W2) (v := ?v27W2) ?oi0_27W2 (by kernel_rfl) ?ff27W2 ?rr27W2 ?hq27W2 (Or.inl ⟨?hw27W2, ?hy27W2⟩) (by assumption) ?rest27W2
      case oi0_27W2 =>
        conv =>
          lhs
          whnf
          arg 1
          whnf
      case hq27W2 => exact fun _ _ _ h => h
      case ff27W2 => kernel_rfl
      case rr27W2 => kernel_rfl
      case hw27W2 => rfl
      case hy27W2 =>
        intro w hSw
        (try dsimp only at hSw)
        first
        | (go_simp; done)
        | (go_simp; with_reducible rfl)
      try simp only [Act.put, List.setIfInBounds_toArray, List.set_cons_zero, List.set_cons_succ]
      refine wpAnyH_take (i := 28) (oi := ?oi28W2) (v := ?v28W2) ?oi0_28W2 (by kernel_rfl) ?ff28W2 ?rr28W2 ?hq28W2 (Or.inl ⟨?hw28W2, ?hy28W2⟩) (by assumption) ?rest28W2
      case oi0_28W2 =>
        conv =>
          lhs
          whnf
          arg 1
          whnf
      case hq28W2 => exact fun _ _ _ h => h
      case ff28W2 => kernel_rfl
      case rr28W2 => kernel_rfl
      case hw28W2 => rfl
      case hy28W2 =>
        intro w hSw
        (try dsimp only at hSw)
        first
        | (go_simp; done)
        | (go_simp; with_reducible rfl)
      try simp only [Act.put, List.setIfInBounds_toArray, List.set_cons_zero, List.set_cons_succ]
      refine wpAnyH_take (i := 29) (oi := ?oi29W2) (v := undef) ?oi0_29W2 (by kernel_rfl) ?ff29W2 ?rr29W2 ?hq29W2 (Or.inr ⟨?hw29W2, rfl⟩) (by assumption) ?rest29W2
      case oi0_29W2 =>
        conv =>
          lhs
          whnf
          arg 1
          whnf
      case hq29W2 => exact fun _ _ _ h => h
      case ff29W2 => kernel_rfl
      case rr29W2 => kernel_rfl
      case hw29W2 => rfl
      try simp only [Act.put, List.setIfInBounds_toArray, List.set_cons_zero, List.set_cons_succ]
      refine wpAnyH_take (i := 30) (oi := ?oi30W2) (v := undef) ?oi0_30W2 (by kernel_rfl) ?ff30W2 ?rr30W2 ?hq30W2 (Or.inr ⟨?hw30W2, rfl⟩) (by assumption) ?rest30W2
      case oi0_30W2 =>
        conv =>
          lhs
          whnf
          arg 1
          whnf
      case hq30W2 => exact fun _ _ _ h => h
      case ff30W2 => kernel_rfl
      case rr30W2 => kernel_rfl
      case hw30W2 => rfl
      try simp only [Act.put, List.setIfInBounds_toArray, List.set_cons_zero, List.set_cons_succ]
      refine wpAnyH_take (i := 31) (oi := ?oi31W2) (v := undef) ?oi0_31W2 (by kernel_rfl) ?ff31W2 ?rr31W2 ?hq31W2 (Or.inr ⟨?hw31W2, rfl⟩) (by assumption) ?rest31W2
      case oi0_31W2 =>
        conv =>
          lhs
          whnf
          arg 1
          whnf
      case hq31W2 => exact fun _ _ _ h => h
      case ff31W2 => kernel_rfl
      case rr31W2 => kernel_rfl
      case hw31W2 => rfl
      try simp only [Act.put, List.setIfInBounds_toArray, List.set_cons_zero, List.set_cons_succ]
      refine wpAnyH_take (i := 32) (oi := ?oi32W2) (v := undef) ?oi0_32W2 (by kernel_rfl) ?ff32W2 ?rr32W2 ?hq32W2 (Or.inr ⟨?hw32W2, rfl⟩) (by assumption) ?rest32W2
      case oi0_32W2 =>
        conv =>
          lhs
          whnf
          arg 1
          whnf
      case hq32W2 => exact fun _ _ _ h => h
      case ff32W2 => kernel_rfl
      case rr32W2 => kernel_rfl
      case hw32W2 => rfl
      try simp only [Act.put, List.setIfInBounds_toArray, List.set_cons_zero, List.set_cons_succ]
      refine wpAnyH_take (i := 33) (oi := ?oi33W2) (v := undef) ?oi0_33W2 (by kernel_rfl) ?ff33W2 ?rr33W2 ?hq33W2 (Or.inr ⟨?hw33W2, rfl⟩) (by assumption) ?rest33W2
      case oi0_33W2 =>
        conv =>
          lhs
          whnf
          arg 1
          whnf
      case hq33W2 => exact fun _ _ _ h => h
      case ff33W2 => kernel_rfl
      case rr33W2 => kernel_rfl
      case hw33W2 => rfl
      try simp only [Act.put, List.setIfInBounds_toArray, List.set_cons_zero, List.set_cons_succ]
      refine wpAnyH_take (i := 34) (oi := ?oi34W2) (v := undef) ?oi0_34W2 (by kernel_rfl) ?ff34W2 ?rr34W2 ?hq34W2 (Or.inr ⟨?hw34W2, rfl⟩) (by assumption) ?rest34W2
      case oi0_34W2 =>
        conv =>
          lhs
          whnf
          arg 1
          whnf
      case hq34W2 => exact fun _ _ _ h => h
      case ff34W2 => kernel_rfl
      case rr34W2 => kernel_rfl
      case hw34W2 => rfl
      try simp only [Act.put, List.setIfInBounds_toArray, List.set_cons_zero, List.set_cons_succ]
      refine wpAnyH_take (i := 35) (oi := ?oi35W2) (v := undef) ?oi0_35W2 (by kernel_rfl) ?ff35W2 ?rr35W2 ?hq35W2 (Or.inr ⟨?hw35W2, rfl⟩) (by assumption) ?rest35W2
      case oi0_35W2 =>
        conv =>
          lhs
          whnf
          arg 1
          whnf
      case hq35W2 => exact fun _ _ _ h => h
      case ff35W2 => kernel_rfl
      case rr35W2 => kernel_rfl
      case hw35W2 => rfl
      try simp only [Act.put, List.setIfInBounds_toArray, List.set_cons_zero, List.set_cons_succ]
      refine wpAnyH_take (i := 36) (oi := ?oi36W2) (v := undef) ?oi0_36W2 (by kernel_rfl) ?ff36W2 ?rr36W2 ?hq36W2 (Or.inr ⟨?hw36W2, rfl⟩) (by assumption) ?rest36W2
      case oi0_36W2 =>
        conv =>
          lhs
          whnf
          arg 1
          whnf
      case hq36W2 => exact fun _ _ _ h => h
      case ff36W2 => kernel_rfl
      case rr36W2 => kernel_rfl
      case hw36W2 => rfl
      try simp only [Act.put, List.setIfInBounds_toArray, List.set_cons_zero, List.set_cons_succ]
      refine wpAnyH_take (i := 37) (oi := ?oi37W2) (v := undef) ?oi0_37W2 (by kernel_rfl) ?ff37W2 ?rr37W2 ?hq37W2 (Or.inr ⟨?hw37W2, rfl⟩) (by assumption) ?rest37W2
      case oi0_37W2 =>
        conv =>
          lhs
          whnf
          arg 1
          whnf
      case hq37W2 => exact fun _ _ _ h => h
      case ff37W2 => kernel_rfl
      case rr37W2 => kernel_rfl
      case hw37W2 => rfl
      try simp only [Act.put, List.setIfInBounds_toArray, List.set_cons_zero, List.set_cons_succ]
      refine wpAnyH_take (i := 38) (oi := ?oi38W2) (v := undef) ?oi0_38W2 (by kernel_rfl) ?ff38W2 ?rr38W2 ?hq38W2 (Or.inr ⟨?hw38W2, rfl⟩) (by assumption) ?rest38W2
      case oi0_38W2 =>
        conv =>
          lhs
          whnf
          arg 1
          whnf
      case hq38W2 => exact fun _ _ _ h => h
      case ff38W2 => kernel_rfl
      case rr38W2 => kernel_rfl
      case hw38W2 => rfl
      try simp only [Act.put, List.setIfInBounds_toArray, List.set_cons_zero, List.set_cons_succ]
      refine wpAnyH_take (i := 39) (oi := ?oi39W2) (v := undef) ?oi0_39W2 (by kernel_rfl) ?ff39W2 ?rr39W2 ?hq39W2 (Or.inr ⟨?hw39W2, rfl⟩) (by assumption) ?rest39W2
      case oi0_39W2 =>
        conv =>
          lhs
          whnf
          arg 1
          whnf
      case hq39W2 => exact fun _ _ _ h => h
      case ff39W2 => kernel_rfl
      case rr39W2 => kernel_rfl
      case hw39W2 => rfl
      try simp only [Act.put, List.setIfInBounds_toArray, List.set_cons_zero, List.set_cons_succ]
      refine wpAnyH_take (i := 40) (oi := ?oi40W2) (v := undef) ?oi0_40W2 (by kernel_rfl) ?ff40W2 ?rr40W2 ?hq40W2 (Or.inr ⟨?hw40W2, rfl⟩) (by assumption) ?rest40W2
      case oi0_40W2 =>
        conv =>
          lhs
          whnf
          arg 1
          whnf
      case hq40W2 => exact fun _ _ _ h => h
      case ff40W2 => kernel_rfl
      case rr40W2 => kernel_rfl
      case hw40W2 => rfl
      try simp only [Act.put, List.setIfInBounds_toArray, List.set_cons_zero, List.set_cons_succ]
      refine wpAnyH_take (i := 41) (oi := ?oi41W2) (v := undef) ?oi0_41W2 (by kernel_rfl) ?ff41W2 ?rr41W2 ?hq41W2 (Or.inr ⟨?hw41W2, rfl⟩) (by assumption) ?rest41W2
      case oi0_41W2 =>
        conv =>
          lhs
          whnf
          arg 1
          whnf
      case hq41W2 => exact fun _ _ _ h => h
      case ff41W2 => kernel_rfl
      case rr41W2 => kernel_rfl
      case hw41W2 => rfl
      try simp only [Act.put, List.setIfInBounds_toArray, List.set_cons_zero, List.set_cons_succ]
      refine wpAnyH_take (i := 42) (oi := ?oi42W2) (v := undef) ?oi0_42W2 (by kernel_rfl) ?ff42W2 ?rr42W2 ?hq42W2 (Or.inr ⟨?hw42W2, rfl⟩) (by assumption) ?rest42W2
      case oi0_42W2 =>
        conv =>
          lhs
          whnf
          arg 1
          whnf
      case hq42W2 => exact fun _ _ _ h => h
      case ff42W2 => kernel_rfl
      case rr42W2 => kernel_rfl
      case hw42W2 => rfl
      try simp only [Act.put, List.setIfInBounds_toArray, List.set_cons_zero, List.set_cons_succ]
      refine wpAnyH_take (i := 43) (oi := ?oi43W2) (v := undef) ?oi0_43W2 (by kernel_rfl) ?ff43W2 ?rr43W2 ?hq43W2 (Or.inr ⟨?hw43W2, rfl⟩) (by assumption) ?rest43W2
      case oi0_43W2 =>
        conv =>
          lhs
          whnf
          arg 1
          whnf
      case hq43W2 => exact fun _ _ _ h => h
      case ff43W2 => kernel_rfl
      case rr43W2 => kernel_rfl
      case hw43W2 => rfl
      try simp only [Act.put, List.setIfInBounds_toArray, List.set_cons_zero, List.set_cons_succ]
      refine wpAnyH_take (i := 44) (oi := ?oi44W2) (v := undef) ?oi0_44W2 (by kernel_rfl) ?ff44W2 ?rr44W2 ?hq44W2 (Or.inr ⟨?hw44W2, rfl⟩) (by assumption) ?rest44W2
      case oi0_44W2 =>
        conv =>
          lhs
          whnf
          arg 1
          whnf
      case hq44W2 => exact fun _ _ _ h => h
      case ff44W2 => kernel_rfl
      case rr44W2 => kernel_rfl
      case hw44W2 => rfl
      try simp only [Act.put, List.setIfInBounds_toArray, List.set_cons_zero, List.set_cons_succ]
      refine wpAnyH_take (i := 45) (oi := ?oi45W2) (v := ?v45W2) ?oi0_45W2 (by kernel_rfl) ?ff45W2 ?rr45W2 ?hq45W2 (Or.inl ⟨?hw45W2, ?hy45W2⟩) (by assumption) ?rest45W2
      case oi0_45W2 =>
        conv =>
          lhs
          whnf
          arg 1
          whnf
      case hq45W2 => exact fun _ _ _ h => h
      case ff45W2 => kernel_rfl
      case rr45W2 => kernel_rfl
      case hw45W2 => rfl
      case hy45W2 =>
        intro w hSw
        (try dsimp only at hSw)
        first
        | (go_simp; done)
        | (go_simp; with_reducible rfl)
      try simp only [Act.put, List.setIfInBounds_toArray, List.set_cons_zero, List.set_cons_succ]
      refine wpAnyH_done (by kernel_rfl) ?_ _
      go_wp2_with fail
      go_ret
      exact ⟨rfl, V.out⟩
    have d2 : decide (s.to_ ≤ s.fr) = false := decide_eq_false e2
    by_cases e3 : len < s.to_
    case pos =>
      have d3 : decide (len < s.to_) = true := decide_eq_true e3
      obtain rfl : r = false := by rw [← HR.out]; exact decide_eq_false fun h => by have h1 := h.1 k (by have := HXN.out; omega); unfold SpOk SpIn at h1; rw [HS.out] at h1; simp only [Option.getD_some] at h1; omega
      go_wp2_with fail
      refine wp_region_held_drew (S := (fun w' => w'.cell? ⟨b, o + k * 2, none⟩ = some (.int .i64 s.fr) ∧ w'.cell? ⟨b, o + k * 2 + 1, none⟩ = some (.int .i64 s.to_))) (by kernel_rfl) (by exact ⟨c0', c1'⟩) (fun hHeld => ?_)
      refine wpAnyH_take (i := 0) (oi := ?oi0W3) (v := ?v0W3) ?oi0_0W3 (by kernel_rfl) ?ff0W3 ?rr0W3 ?hq0W3 (Or.inl ⟨?hw0W3, ?hy0W3⟩) (by assumption) ?rest0W3
      case oi0_0W3 =>
        conv =>
          lhs
          whnf
          arg 1
          whnf
      case hq0W3 => exact fun _ _ _ h => h
      case ff0W3 => kernel_rfl
      case rr0W3 => kernel_rfl
      case hw0W3 => rfl
      case hy0W3 =>
        intro w hSw
        (try dsimp only at hSw)
        first
        | (go_simp; done)
        | (go_simp; with_reducible rfl)
      try simp only [Act.put, List.setIfInBounds_toArray, List.set_cons_zero, List.set_cons_succ]
      refine wpAnyH_take (i := 1) (oi := ?oi1W3) (v := ?v1W3) ?oi0_1W3 (by kernel_rfl) ?ff1W3 ?rr1W3 ?hq1W3 (Or.inl ⟨?hw1W3, ?hy1W3⟩) (by assumption) ?rest1W3
      case oi0_1W3 =>
        conv =>
          lhs
          whnf
          arg 1
          whnf
      case hq1W3 => exact fun _ _ _ h => h
      case ff1W3 => kernel_rfl
      case rr1W3 => kernel_rfl
      case hw1W3 => rfl
      case hy1W3 =>
        intro w hSw
        (try dsimp only at hSw)
        first
        | (go_simp; done)
        | (go_simp; with_reducible rfl)
      try simp only [Act.put, List.setIfInBounds_toArray, List.set_cons_zero, List.set_cons_succ]
      refine wpAnyH_take (i := 2) (oi := ?oi2W3) (v := ?v2W3) ?oi0_2W3 (by kernel_rfl) ?ff2W3 ?rr2W3 ?hq2W3 (Or.inl ⟨?hw2W3, ?hy2W3⟩) (by assumption) ?rest2W3
      case oi0_2W3 =>
        conv =>
          lhs
          whnf
          arg 1
          whnf
      case hq2W3 => exact fun _ _ _ h => h
      case ff2W3 => kernel_rfl
      case rr2W3 => kernel_rfl
      case hw2W3 => rfl
      case hy2W3 =>
        intro w hSw
        (try dsimp only at hSw)
        first
        | (go_simp; done)
        | (go_simp; with_reducible rfl)
      try simp only [Act.put, List.setIfInBounds_toArray, List.set_cons_zero, List.set_cons_succ]
      refine wpAnyH_take (i := 3) (oi := ?oi3W3) (v := ?v3W3) ?oi0_3W3 (by kernel_rfl) ?ff3W3 ?rr3W3 ?hq3W3 (Or.inl ⟨?hw3W3, ?hy3W3⟩) (by assumption) ?rest3W3
      case oi0_3W3 =>
        conv =>
          lhs
          whnf
          arg 1
          whnf
      case hq3W3 => exact fun _ _ _ h => h
      case ff3W3 => kernel_rfl
      case rr3W3 => kernel_rfl
      case hw3W3 => rfl
      case hy3W3 =>
        intro w hSw
        (try dsimp only at hSw)
        first
        | (go_simp; done)
        | (go_simp; with_reducible rfl)
      try simp only [Act.put, List.setIfInBounds_toArray, List.set_cons_zero, List.set_cons_succ]
      refine wpAnyH_take (i := 4) (oi := ?oi4W3) (v := ?v4W3) ?oi0_4W3 (by kernel_rfl) ?ff4W3 ?rr4W3 ?hq4W3 (Or.inl ⟨?hw4W3, ?hy4W3⟩) (by assumption) ?rest4W3
      case oi0_4W3 =>
        conv =>
          lhs
          whnf
          arg 1
          whnf
      case hq4W3 => exact fun _ _ _ h => h
      case ff4W3 => kernel_rfl
      case rr4W3 => kernel_rfl
      case hw4W3 => rfl
      case hy4W3 =>
        intro w hSw
        (try dsimp only at hSw)
        first
        | (go_simp; done)
        | (go_simp; with_reducible rfl)
      try simp only [Act.put, List.setIfInBounds_toArray, List.set_cons_zero, List.set_cons_succ]
      refine wpAnyH_take (i := 5) (oi := ?oi5W3) (v := ?v5W3) ?oi0_5W3 (by kernel_rfl) ?ff5W3 ?rr5W3 ?hq5W3 (Or.inl ⟨?hw5W3, ?hy5W3⟩) (by assumption) ?rest5W3
      case oi0_5W3 =>
        conv =>
          lhs
          whnf
          arg 1
          whnf
      case hq5W3 => exact fun _ _ _ h => h
      case ff5W3 => kernel_rfl
      case rr5W3 => kernel_rfl
      case hw5W3 => rfl
      case hy5W3 =>
        intro w hSw
        (try dsimp only at hSw)
        first
        | (go_simp; done)
        | (go_simp; with_reducible rfl)
      try simp only [Act.put, List.setIfInBounds_toArray, List.set_cons_zero, List.set_cons_succ]
      refine wpAnyH_take (i := 6) (oi := ?oi6W3) (v := ?v6W3) ?oi0_6W3 (by kernel_rfl) ?ff6W3 ?rr6W3 ?hq6W3 (Or.inl ⟨?hw6W3, ?hy6W3⟩) (by assumption) ?rest6W3
      case oi0_6W3 =>
        conv =>
          lhs
          whnf
          arg 1
          whnf
      case hq6W3 => exact fun _ _ _ h => h
      case ff6W3 => kernel_rfl
      case rr6W3 => kernel_rfl
      case hw6W3 => rfl
      case hy6W3 =>
        intro w hSw
        (try dsimp only at hSw)
        first
        | (go_simp; done)
        | (go_simp; with_reducible rfl)
      try simp only [Act.put, List.setIfInBounds_toArray, List.set_cons_zero, List.set_cons_succ]
      refine wpAnyH_take (i := 7) (oi := ?oi7W3) (v := ?v7W3) ?oi0_7W3 (by kernel_rfl) ?ff7W3 ?rr7W3 ?hq7W3 (Or.inl ⟨?hw7W3, ?hy7W3⟩) (by assumption) ?rest7W3
      case oi0_7W3 =>
        conv =>
          lhs
          whnf
          arg 1
          whnf
      case hq7W3 => exact fun _ _ _ h => h
      case ff7W3 => kernel_rfl
      case rr7W3 => kernel_rfl
      case hw7W3 => rfl
      case hy7W3 =>
        intro w hSw
        (try dsimp only at hSw)
        first
        | (go_simp; done)
        | (go_simp; with_reducible rfl)
      try simp only [Act.put, List.setIfInBounds_toArray, List.set_cons_zero, List.set_cons_succ]
      refine wpAnyH_take (i := 8) (oi := ?oi8W3) (v := ?v8W3) ?oi0_8W3 (by kernel_rfl) ?ff8W3 ?rr8W3 ?hq8W3 (Or.inl ⟨?hw8W3, ?hy8W3⟩) (by assumption) ?rest8W3
      case oi0_8W3 =>
        conv =>
          lhs
          whnf
          arg 1
          whnf
      case hq8W3 => exact fun _ _ _ h => h
      case ff8W3 => kernel_rfl
      case rr8W3 => kernel_rfl
      case hw8W3 => rfl
      case hy8W3 =>
        intro w hSw
        (try dsimp only at hSw)
        first
        | (go_simp; done)
        | (go_simp; with_reducible rfl)
      try simp only [Act.put, List.setIfInBounds_toArray, List.set_cons_zero, List.set_cons_succ]
      refine wpAnyH_take (i := 9) (oi := ?oi9W3) (v := ?v9W3) ?oi0_9W3 (by kernel_rfl) ?ff9W3 ?rr9W3 ?hq9W3 (Or.inl ⟨?hw9W3, ?hy9W3⟩) (by assumption) ?rest9W3
      case oi0_9W3 =>
        conv =>
          lhs
          whnf
          arg 1
          whnf
      case hq9W3 => exact fun _ _ _ h => h
      case ff9W3 => kernel_rfl
      case rr9W3 => kernel_rfl
      case hw9W3 => rfl
      case hy9W3 =>
        intro w hSw
        (try dsimp only at hSw)
        first
        | (go_simp; done)
        | (go_simp; with_reducible rfl)
      try simp only [Act.put, List.setIfInBounds_toArray, List.set_cons_zero, List.set_cons_succ]
      refine wpAnyH_take (i := 10) (oi := ?oi10W3) (v := ?v10W3) ?oi0_10W3 (by kernel_rfl) ?ff10W3 ?rr10W3 ?hq10W3 (Or.inl ⟨?hw10W3, ?hy10W3⟩) (by assumption) ?rest10W3
      case oi0_10W3 =>
        conv =>
          lhs
          whnf
          arg 1
          whnf
      case hq10W3 => exact fun _ _ _ h => h
      case ff10W3 => kernel_rfl
      case rr10W3 => kernel_rfl
      case hw10W3 => rfl
      case hy10W3 =>
        intro w hSw
        (try dsimp only at hSw)
        first
        | (go_simp; done)
        | (go_simp; with_reducible rfl)
      try simp only [Act.put, List.setIfInBounds_toArray, List.set_cons_zero, List.set_cons_succ]
      refine wpAnyH_take (i := 11) (oi := ?oi11W3) (v := ?v11W3) ?oi0_11W3 (by kernel_rfl) ?ff11W3 ?rr11W3 ?hq11W3 (Or.inl ⟨?hw11W3, ?hy11W3⟩) (by assumption) ?rest11W3
      case oi0_11W3 =>
        conv =>
          lhs
          whnf
          arg 1
          whnf
      case hq11W3 => exact fun _ _ _ h => h
      case ff11W3 => kernel_rfl
      case rr11W3 => kernel_rfl
      case hw11W3 => rfl
      case hy11W3 =>
        intro w hSw
        (try dsimp only at hSw)
        first
        | (go_simp; done)
        | (go_simp; with_reducible rfl)
      try simp only [Act.put, List.setIfInBounds_toArray, List.set_cons_zero, List.set_cons_succ]
      refine wpAnyH_take (i := 12) (oi := ?oi12W3) (v := ?v12W3) ?oi0_12W3 (by kernel_rfl) ?ff12W3 ?rr12W3 ?hq12W3 (Or.inl ⟨?hw12W3, ?hy12W3⟩) (by assumption) ?rest12W3
      case oi0_12W3 =>
        conv =>
          lhs
          whnf
          arg 1
          whnf
      case hq12W3 => exact fun _ _ _ h => h
      case ff12W3 => kernel_rfl
      case rr12W3 => kernel_rfl
      case hw12W3 => rfl
      case hy12W3 =>
        intro w hSw
        (try dsimp only at hSw)
        first
        | (go_simp; done)
        | (go_simp; with_reducible rfl)
      try simp only [Act.put, List.setIfInBounds_toArray, List.set_cons_zero, List.set_cons_succ]
      refine wpAnyH_take (i := 13) (oi := ?oi13W3) (v := ?v13W3) ?oi0_13W3 (by kernel_rfl) ?ff13W3 ?rr13W3 ?hq13W3 (Or.inl ⟨?hw13W3, ?hy13W3⟩) (by assumption) ?rest13W3
      case oi0_13W3 =>
        conv =>
          lhs
          whnf
          arg 1
          whnf
      case hq13W3 => exact fun _ _ _ h => h
      case ff13W3 => kernel_rfl
      case rr13W3 => kernel_rfl
      case hw13W3 => rfl
      case hy13W3 =>
        intro w hSw
        (try dsimp only at hSw)
        first
        | (go_simp; done)
        | (go_simp; with_reducible rfl)
      try simp only [Act.put, List.setIfInBounds_toArray, List.set_cons_zero, List.set_cons_succ]
      refine wpAnyH_take (i := 14) (oi := ?oi14W3) (v := ?v14W3) ?oi0_14W3 (by kernel_rfl) ?ff14W3 ?rr14W3 ?hq14W3 (Or.inl ⟨?hw14W3, ?hy14W3⟩) (by assumption) ?rest14W3
      case oi0_14W3 =>
        conv =>
          lhs
          whnf
          arg 1
          whnf
      case hq14W3 => exact fun _ _ _ h => h
      case ff14W3 => kernel_rfl
      case rr14W3 => kernel_rfl
      case hw14W3 => rfl
      case hy14W3 =>
        intro w hSw
        (try dsimp only at hSw)
        first
        | (go_simp; done)
        | (go_simp; with_reducible rfl)
      try simp only [Act.put, List.setIfInBounds_toArray, List.set_cons_zero, List.set_cons_succ]
      refine wpAnyH_take (i := 15) (oi := ?oi15W3) (v := ?v15W3) ?oi0_15W3 (by kernel_rfl) ?ff15W3 ?rr15W3 ?hq15W3 (Or.inl ⟨?hw15W3, ?hy15W3⟩) (by assumption) ?rest15W3
      case oi0_15W3 =>
        conv =>
          lhs
          whnf
          arg 1
          whnf
      case hq15W3 => exact fun _ _ _ h => h
      case ff15W3 => kernel_rfl
      case rr15W3 => kernel_rfl
      case hw15W3 => rfl
      case hy15W3 =>
        intro w hSw
        (try dsimp only at hSw)
        first
        | (go_simp; done)
        | (go_simp; with_reducible rfl)
      try simp only [Act.put, List.setIfInBounds_toArray, List.set_cons_zero, List.set_cons_succ]
      refine wpAnyH_take (i := 16) (oi := ?oi16W3) (v := ?v16W3) ?oi0_16W3 (by kernel_rfl) ?ff16W3 ?rr16W3 ?hq16W3 (Or.inl ⟨?hw16W3, ?hy16W3⟩) (by assumption) ?rest16W3
      case oi0_16W3 =>
        conv =>
          lhs
          whnf
          arg 1
          whnf
      case hq16W3 => exact fun _ _ _ h => h
      case ff16W3 => kernel_rfl
      case rr16W3 => kernel_rfl
      case hw16W3 => rfl
      case hy16W3 =>
        intro w hSw
        (try dsimp only at hSw)
        first
        | (go_simp; done)
        | (go_simp; with_reducible rfl)
      try simp only [Act.put, List.setIfInBounds_toArray, List.set_cons_zero, List.set_cons_succ]
      refine wpAnyH_take (i := 17) (oi := ?oi17W3) (v := ?v17W3) ?oi0_17W3 (by kernel_rfl) ?ff17W3 ?rr17W3 ?hq17W3 (Or.inl ⟨?hw17W3, ?hy17W3⟩) (by assumption) ?rest17W3
      case oi0_17W3 =>
        conv =>
          lhs
          whnf
          arg 1
          whnf
      case hq17W3 => exact fun _ _ _ h => h
      case ff17W3 => kernel_rfl
      case rr17W3 => kernel_rfl
      case hw17W3 => rfl
      case hy17W3 =>
        intro w hSw
        (try dsimp only at hSw)
        first
        | (go_simp; done)
        | (go_simp; with_reducible rfl)
      try simp only [Act.put, List.setIfInBounds_toArray, List.set_cons_zero, List.set_cons_succ]
      refine wpAnyH_take (i := 18) (oi := ?oi18W3) (v := ?v18W3) ?oi0_18W3 (by kernel_rfl) ?ff18W3 ?rr18W3 ?hq18W3 (Or.inl ⟨?hw18W3, ?hy18W3⟩) (by assumption) ?rest18W3
      case oi0_18W3 =>
        conv =>
          lhs
          whnf
          arg 1
          whnf
      case hq18W3 => exact fun _ _ _ h => h
      case ff18W3 => kernel_rfl
      case rr18W3 => kernel_rfl
      case hw18W3 => rfl
      case hy18W3 =>
        intro w hSw
        (try dsimp only at hSw)
        first
        | (go_simp; done)
        | (go_simp; with_reducible rfl)
      try simp only [Act.put, List.setIfInBounds_toArray, List.set_cons_zero, List.set_cons_succ]
      refine wpAnyH_take (i := 19) (oi := ?oi19W3) (v := ?v19W3) ?oi0_19W3 (by kernel_rfl) ?ff19W3 ?rr19W3 ?hq19W3 (Or.inl ⟨?hw19W3, ?hy19W3⟩) (by assumption) ?rest19W3
      case oi0_19W3 =>
        conv =>
          lhs
          whnf
          arg 1
          whnf
      case hq19W3 => exact fun _ _ _ h => h
      case ff19W3 => kernel_rfl
      case rr19W3 => kernel_rfl
      case hw19W3 => rfl
      case hy19W3 =>
        intro w hSw
        (try dsimp only at hSw)
        first
        | (go_simp; done)
        | (go_simp; with_reducible rfl)
      try simp only [Act.put, List.setIfInBounds_toArray, List.set_cons_zero, List.set_cons_succ]
      refine wpAnyH_take (i := 20) (oi := ?oi20W3) (v := ?v20W3) ?oi0_20W3 (by kernel_rfl) ?ff20W3 ?rr20W3 ?hq20W3 (Or.inl ⟨?hw20W3, ?hy20W3⟩) (by assumption) ?rest20W3
      case oi0_20W3 =>
        conv =>
          lhs
          whnf
          arg 1
          whnf
      case hq20W3 => exact fun _ _ _ h => h
      case ff20W3 => kernel_rfl
      case rr20W3 => kernel_rfl
      case hw20W3 => rfl
      case hy20W3 =>
        intro w hSw
        (try dsimp only at hSw)
        first
        | (go_simp; done)
        | (go_simp; with_reducible rfl)
      try simp only [Act.put, List.setIfInBounds_toArray, List.set_cons_zero, List.set_cons_succ]
      refine wpAnyH_take (i := 21) (oi := ?oi21W3) (v := ?v21W3) ?oi0_21W3 (by kernel_rfl) ?ff21W3 ?rr21W3 ?hq21W3 (Or.inl ⟨?hw21W3, ?hy21W3⟩) (by assumption) ?rest21W3
      case oi0_21W3 =>
        conv =>
          lhs
          whnf
          arg 1
          whnf
      case hq21W3 => exact fun _ _ _ h => h
      case ff21W3 => kernel_rfl
      case rr21W3 => kernel_rfl
      case hw21W3 => rfl
      case hy21W3 =>
        intro w hSw
        (try dsimp only at hSw)
        first
        | (go_simp; done)
        | (go_simp; with_reducible rfl)
      try simp only [Act.put, List.setIfInBounds_toArray, List.set_cons_zero, List.set_cons_succ]
      refine wpAnyH_take (i := 22) (oi := ?oi22W3) (v := ?v22W3) ?oi0_22W3 (by kernel_rfl) ?ff22W3 ?rr22W3 ?hq22W3 (Or.inl ⟨?hw22W3, ?hy22W3⟩) (by assumption) ?rest22W3
      case oi0_22W3 =>
        conv =>
          lhs
          whnf
          arg 1
          whnf
      case hq22W3 => exact fun _ _ _ h => h
      case ff22W3 => kernel_rfl
      case rr22W3 => kernel_rfl
      case hw22W3 => rfl
      case hy22W3 =>
        intro w hSw
        (try dsimp only at hSw)
        first
        | (go_simp; done)
        | (go_simp; with_reducible rfl)
      try simp only [Act.put, List.setIfInBounds_toArray, List.set_cons_zero, List.set_cons_succ]
      refine wpAnyH_take (i := 23) (oi := ?oi23W3) (v := ?v23W3) ?oi0_23W3 (by kernel_rfl) ?ff23W3 ?rr23W3 ?hq23W3 (Or.inl ⟨?hw23W3, ?hy23W3⟩) (by assumption) ?rest23W3
      case oi0_23W3 =>
        conv =>
          lhs
          whnf
          arg 1
          whnf
      case hq23W3 => exact fun _ _ _ h => h
      case ff23W3 => kernel_rfl
      case rr23W3 => kernel_rfl
      case hw23W3 => rfl
      case hy23W3 =>
        intro w hSw
        (try dsimp only at hSw)
        first
        | (go_simp; done)
        | (go_simp; with_reducible rfl)
      try simp only [Act.put, List.setIfInBounds_toArray, List.set_cons_zero, List.set_cons_succ]
      refine wpAnyH_take (i := 24) (oi := ?oi24W3) (v := ?v24W3) ?oi0_24W3 (by kernel_rfl) ?ff24W3 ?rr24W3 ?hq24W3 (Or.inl ⟨?hw24W3, ?hy24W3⟩) (by assumption) ?rest24W3
      case oi0_24W3 =>
        conv =>
          lhs
          whnf
          arg 1
          whnf
      case hq24W3 => exact fun _ _ _ h => h
      case ff24W3 => kernel_rfl
      case rr24W3 => kernel_rfl
      case hw24W3 => rfl
      case hy24W3 =>
        intro w hSw
        (try dsimp only at hSw)
        first
        | (go_simp; done)
        | (go_simp; with_reducible rfl)
      try simp only [Act.put, List.setIfInBounds_toArray, List.set_cons_zero, List.set_cons_succ]
      refine wpAnyH_take (i := 25) (oi := ?oi25W3) (v := ?v25W3) ?oi0_25W3 (by kernel_rfl) ?ff25W3 ?rr25W3 ?hq25W3 (Or.inl ⟨?hw25W3, ?hy25W3⟩) (by assumption) ?rest25W3
      case oi0_25W3 =>
        conv =>
          lhs
          whnf
          arg 1
          whnf
      case hq25W3 => exact fun _ _ _ h => h
      case ff25W3 => kernel_rfl
      case rr25W3 => kernel_rfl
      case hw25W3 => rfl
      case hy25W3 =>
        intro w hSw
        (try dsimp only at hSw)
        first
        | (go_simp; done)
        | (go_simp; with_reducible rfl)
      try simp only [Act.put, List.setIfInBounds_toArray, List.set_cons_zero, List.set_cons_succ]
      refine wpAnyH_take (i := 26) (oi := ?oi26W3) (v := ?v26W3) ?oi0_26W3 (by kernel_rfl) ?ff26W3 ?rr26W3 ?hq26W3 (Or.inl ⟨?hw26W3, ?hy26W3⟩) (by assumption) ?rest26W3
      case oi0_26W3 =>
        conv =>
          lhs
          whnf
          arg 1
          whnf
      case hq26W3 => exact fun _ _ _ h => h
      case ff26W3 => kernel_rfl
      case rr26W3 => kernel_rfl
      case hw26W3 => rfl
      case hy26W3 =>
        intro w hSw
        (try dsimp only at hSw)
        first
        | (go_simp; done)
        | (go_simp; with_reducible rfl)
      try simp only [Act.put, List.setIfInBounds_toArray, List.set_cons_zero, List.set_cons_succ]
      refine wpAnyH_take (i := 27) (oi := ?oi27W3) (v := ?v27W3) ?oi0_27W3 (by kernel_rfl) ?ff27W3 ?rr27W3 ?hq27W3 (Or.inl ⟨?hw27W3, ?hy27W3⟩) (by assumption) ?rest27W3
      case oi0_27W3 =>
        conv =>
          lhs
          whnf
          arg 1
          whnf
      case hq27W3 => exact fun _ _ _ h => h
      case ff27W3 => kernel_rfl
      case rr27W3 => kernel_rfl
      case hw27W3 => rfl
      case hy27W3 =>
        intro w hSw
        (try dsimp only at hSw)
        first
        | (go_simp; done)
        | (go_simp; with_reducible rfl)
      try simp only [Act.put, List.setIfInBounds_toArray, List.set_cons_zero, List.set_cons_succ]
      refine wpAnyH_take (i := 28) (oi := ?oi28W3) (v := ?v28W3) ?oi0_28W3 (by kernel_rfl) ?ff28W3 ?rr28W3 ?hq28W3 (Or.inl ⟨?hw28W3, ?hy28W3⟩) (by assumption) ?rest28W3
      case oi0_28W3 =>
        conv =>
          lhs
          whnf
          arg 1
          whnf
      case hq28W3 => exact fun _ _ _ h => h
      case ff28W3 => kernel_rfl
      case rr28W3 => kernel_rfl
      case hw28W3 => rfl
      case hy28W3 =>
        intro w hSw
        (try dsimp only at hSw)
        first
        | (go_simp; done)
        | (go_simp; with_reducible rfl)
      try simp only [Act.put, List.setIfInBounds_toArray, List.set_cons_zero, List.set_cons_succ]
      refine wpAnyH_take (i := 29) (oi := ?oi29W3) (v := undef) ?oi0_29W3 (by kernel_rfl) ?ff29W3 ?rr29W3 ?hq29W3 (Or.inr ⟨?hw29W3, rfl⟩) (by assumption) ?rest29W3
      case oi0_29W3 =>
        conv =>
          lhs
          whnf
          arg 1
          whnf
      case hq29W3 => exact fun _ _ _ h => h
      case ff29W3 => kernel_rfl
      case rr29W3 => kernel_rfl
      case hw29W3 => rfl
      try simp only [Act.put, List.setIfInBounds_toArray, List.set_cons_zero, List.set_cons_succ]
      refine wpAnyH_take (i := 30) (oi := ?oi30W3) (v := undef) ?oi0_30W3 (by kernel_rfl) ?ff30W3 ?rr30W3 ?hq30W3 (Or.inr ⟨?hw30W3, rfl⟩) (by assumption) ?rest30W3
      case oi0_30W3 =>
        conv =>
          lhs
          whnf
          arg 1
          whnf
      case hq30W3 => exact fun _ _ _ h => h
      case ff30W3 => kernel_rfl
      case rr30W3 => kernel_rfl
      case hw30W3 => rfl
      try simp only [Act.put, List.setIfInBounds_toArray, List.set_cons_zero, List.set_cons_succ]
      refine wpAnyH_take (i := 31) (oi := ?oi31W3) (v := undef) ?oi0_31W3 (by kernel_rfl) ?ff31W3 ?rr31W3 ?hq31W3 (Or.inr ⟨?hw31W3, rfl⟩) (by assumption) ?rest31W3
      case oi0_31W3 =>
        conv =>
          lhs
          whnf
          arg 1
          whnf
      case hq31W3 => exact fun _ _ _ h => h
      case ff31W3 => kernel_rfl
      case rr31W3 => kernel_rfl
      case hw31W3 => rfl
      try simp only [Act.put, List.setIfInBounds_toArray, List.set_cons_zero, List.set_cons_succ]
      refine wpAnyH_take (i := 32) (oi := ?oi32W3) (v := undef) ?oi0_32W3 (by kernel_rfl) ?ff32W3 ?rr32W3 ?hq32W3 (Or.inr ⟨?hw32W3, rfl⟩) (by assumption) ?rest32W3
      case oi0_32W3 =>
        conv =>
          lhs
          whnf
          arg 1
          whnf
      case hq32W3 => exact fun _ _ _ h => h
      case ff32W3 => kernel_rfl
      case rr32W3 => kernel_rfl
      case hw32W3 => rfl
      try simp only [Act.put, List.setIfInBounds_toArray, List.set_cons_zero, List.set_cons_succ]
      refine wpAnyH_take (i := 33) (oi := ?oi33W3) (v := undef) ?oi0_33W3 (by kernel_rfl) ?ff33W3 ?rr33W3 ?hq33W3 (Or.inr ⟨?hw33W3, rfl⟩) (by assumption) ?rest33W3
      case oi0_33W3 =>
        conv =>
          lhs
          whnf
          arg 1
          whnf
      case hq33W3 => exact fun _ _ _ h => h
      case ff33W3 => kernel_rfl
      case rr33W3 => kernel_rfl
      case hw33W3 => rfl
      try simp only [Act.put, List.setIfInBounds_toArray, List.set_cons_zero, List.set_cons_succ]
      refine wpAnyH_take (i := 34) (oi := ?oi34W3) (v := undef) ?oi0_34W3 (by kernel_rfl) ?ff34W3 ?rr34W3 ?hq34W3 (Or.inr ⟨?hw34W3, rfl⟩) (by assumption) ?rest34W3
      case oi0_34W3 =>
        conv =>
          lhs
          whnf
          arg 1
          whnf
      case hq34W3 => exact fun _ _ _ h => h
      case ff34W3 => kernel_rfl
      case rr34W3 => kernel_rfl
      case hw34W3 => rfl
      try simp only [Act.put, List.setIfInBounds_toArray, List.set_cons_zero, List.set_cons_succ]
      refine wpAnyH_take (i := 35) (oi := ?oi35W3) (v := undef) ?oi0_35W3 (by kernel_rfl) ?ff35W3 ?rr35W3 ?hq35W3 (Or.inr ⟨?hw35W3, rfl⟩) (by assumption) ?rest35W3
      case oi0_35W3 =>
        conv =>
          lhs
          whnf
          arg 1
          whnf
      case hq35W3 => exact fun _ _ _ h => h
      case ff35W3 => kernel_rfl
      case rr35W3 => kernel_rfl
      case hw35W3 => rfl
      try simp only [Act.put, List.setIfInBounds_toArray, List.set_cons_zero, List.set_cons_succ]
      refine wpAnyH_take (i := 36) (oi := ?oi36W3) (v := undef) ?oi0_36W3 (by kernel_rfl) ?ff36W3 ?rr36W3 ?hq36W3 (Or.inr ⟨?hw36W3, rfl⟩) (by assumption) ?rest36W3
      case oi0_36W3 =>
        conv =>
          lhs
          whnf
          arg 1
          whnf
      case hq36W3 => exact fun _ _ _ h => h
      case ff36W3 => kernel_rfl
      case rr36W3 => kernel_rfl
      case hw36W3 => rfl
      try simp only [Act.put, List.setIfInBounds_toArray, List.set_cons_zero, List.set_cons_succ]
      refine wpAnyH_take (i := 37) (oi := ?oi37W3) (v := undef) ?oi0_37W3 (by kernel_rfl) ?ff37W3 ?rr37W3 ?hq37W3 (Or.inr ⟨?hw37W3, rfl⟩) (by assumption) ?rest37W3
      case oi0_37W3 =>
        conv =>
          lhs
          whnf
          arg 1
          whnf
      case hq37W3 => exact fun _ _ _ h => h
      case ff37W3 => kernel_rfl
      case rr37W3 => kernel_rfl
      case hw37W3 => rfl
      try simp only [Act.put, List.setIfInBounds_toArray, List.set_cons_zero, List.set_cons_succ]
      refine wpAnyH_take (i := 38) (oi := ?oi38W3) (v := undef) ?oi0_38W3 (by kernel_rfl) ?ff38W3 ?rr38W3 ?hq38W3 (Or.inr ⟨?hw38W3, rfl⟩) (by assumption) ?rest38W3
      case oi0_38W3 =>
        conv =>
          lhs
          whnf
          arg 1
          whnf
      case hq38W3 => exact fun _ _ _ h => h
      case ff38W3 => kernel_rfl
      case rr38W3 => kernel_rfl
      case hw38W3 => rfl
      try simp only [Act.put, List.setIfInBounds_toArray, List.set_cons_zero, List.set_cons_succ]
      refine wpAnyH_take (i := 39) (oi := ?oi39W3) (v := undef) ?oi0_39W3 (by kernel_rfl) ?ff39W3 ?rr39W3 ?hq39W3 (Or.inr ⟨?hw39W3, rfl⟩) (by assumption) ?rest39W3
      case oi0_39W3 =>
        conv =>
          lhs
          whnf
          arg 1
          whnf
      case hq39W3 => exact fun _ _ _ h => h
      case ff39W3 => kernel_rfl
      case rr39W3 => kernel_rfl
      case hw39W3 => rfl
      try simp only [Act.put, List.setIfInBounds_toArray, List.set_cons_zero, List.set_cons_succ]
      refine wpAnyH_take (i := 40) (oi := ?oi40W3) (v := undef) ?oi0_40W3 (by kernel_rfl) ?ff40W3 ?rr40W3 ?hq40W3 (Or.inr ⟨?hw40W3, rfl⟩) (by assumption) ?rest40W3
      case oi0_40W3 =>
        conv =>
          lhs
          whnf
          arg 1
          whnf
      case hq40W3 => exact fun _ _ _ h => h
      case ff40W3 => kernel_rfl
      case rr40W3 => kernel_rfl
      case hw40W3 => rfl
      try simp only [Act.put, List.setIfInBounds_toArray, List.set_cons_zero, List.set_cons_succ]
      refine wpAnyH_take (i := 41) (oi := ?oi41W3) (v := undef) ?oi0_41W3 (by kernel_rfl) ?ff41W3 ?rr41W3 ?hq41W3 (Or.inr ⟨?hw41W3, rfl⟩) (by assumption) ?rest41W3
      case oi0_41W3 =>
        conv =>
          lhs
          whnf
          arg 1
          whnf
      case hq41W3 => exact fun _ _ _ h => h
      case ff41W3 => kernel_rfl
      case rr41W3 => kernel_rfl
      case hw41W3 => rfl
      try simp only [Act.put, List.setIfInBounds_toArray, List.set_cons_zero, List.set_cons_succ]
      refine wpAnyH_take (i := 42) (oi := ?oi42W3) (v := undef) ?oi0_42W3 (by kernel_rfl) ?ff42W3 ?rr42W3 ?hq42W3 (Or.inr ⟨?hw42W3, rfl⟩) (by assumption) ?rest42W3
      case oi0_42W3 =>
        conv =>
          lhs
          whnf
          arg 1
          whnf
      case hq42W3 => exact fun _ _ _ h => h
      case ff42W3 => kernel_rfl
      case rr42W3 => kernel_rfl
      case hw42W3 => rfl
      try simp only [Act.put, List.setIfInBounds_toArray, List.set_cons_zero, List.set_cons_succ]
      refine wpAnyH_take (i := 43) (oi := ?oi43W3) (v := undef) ?oi0_43W3 (by kernel_rfl) ?ff43W3 ?rr43W3 ?hq43W3 (Or.inr ⟨?hw43W3, rfl⟩) (by assumption) ?rest43W3
      case oi0_43W3 =>
        conv =>
          lhs
          whnf
          arg 1
          whnf
      case hq43W3 => exact fun _ _ _ h => h
      case ff43W3 => kernel_rfl
      case rr43W3 => kernel_rfl
      case hw43W3 => rfl
      try simp only [Act.put, List.setIfInBounds_toArray, List.set_cons_zero, List.set_cons_succ]
      refine wpAnyH_take (i := 44) (oi := ?oi44W3) (v := undef) ?oi0_44W3 (by kernel_rfl) ?ff44W3 ?rr44W3 ?hq44W3 (Or.inr ⟨?hw44W3, rfl⟩) (by assumption) ?rest44W3
      case oi0_44W3 =>
        conv =>
          lhs
          whnf
          arg 1
          whnf
      case hq44W3 => exact fun _ _ _ h => h
      case ff44W3 => kernel_rfl
      case rr44W3 => kernel_rfl
      case hw44W3 => rfl
      try simp only [Act.put, List.setIfInBounds_toArray, List.set_cons_zero, List.set_cons_succ]
      refine wpAnyH_take (i := 45) (oi := ?oi45W3) (v := ?v45W3) ?oi0_45W3 (by kernel_rfl) ?ff45W3 ?rr45W3 ?hq45W3 (Or.inl ⟨?hw45W3, ?hy45W3⟩) (by assumption) ?rest45W3
      case oi0_45W3 =>
        conv =>
          lhs
          whnf
          arg 1
          whnf
      case hq45W3 => exact fun _ _ _ h => h
      case ff45W3 => kernel_rfl
      case rr45W3 => kernel_rfl
      case hw45W3 => rfl
      case hy45W3 =>
        intro w hSw
        (try dsimp only at hSw)
        first
        | (go_simp; done)
        | (go_simp; with_reducible rfl)
      try simp only [Act.put, List.setIfInBounds_toArray, List.set_cons_zero, List.set_cons_succ]
      refine wpAnyH_done (by kernel_rfl) ?_ _
      go_wp2_with fail
      go_ret
      exact ⟨rfl, V.out⟩
    have d3 : decide (len < s.to_) = false := decide_eq_false e3
    by_cases hk0 : 0 < k
    case neg =>
      have hk0i : ¬ (0 : Int) < k := by omega
      have hk0d : decide ((0 : Int) < k) = false := decide_eq_false hk0i
      have HST := hide (show ∀ j, j < k + 1 → SpOk len xs j from fun j hj => by
        rcases Nat.lt_succ_iff_lt_or_eq.1 hj with h | rfl
        · exact hr.out j h
        · unfold SpOk SpIn; rw [HS.out]; simp only [Option.getD_some]; exact ⟨by omega, .inl (by omega)⟩)
      go_wp2_with fail
      refine wp_region_held_drew (S := (fun w' => w'.cell? ⟨b, o + k * 2, none⟩ = some (.int .i64 s.fr) ∧ w'.cell? ⟨b, o + k * 2 + 1, none⟩ = some (.int .i64 s.to_))) (by kernel_rfl) (by exact ⟨c0', c1'⟩) (fun hHeld => ?_)
      refine wpAnyH_take (i := 0) (oi := ?oi0W4) (v := ?v0W4) ?oi0_0W4 (by kernel_rfl) ?ff0W4 ?rr0W4 ?hq0W4 (Or.inl ⟨?hw0W4, ?hy0W4⟩) (by assumption) ?rest0W4
      case oi0_0W4 =>
        conv =>
          lhs
          whnf
          arg 1
          whnf
      case hq0W4 => exact fun _ _ _ h => h
      case ff0W4 => kernel_rfl
      case rr0W4 => kernel_rfl
      case hw0W4 => rfl
      case hy0W4 =>
        intro w hSw
        (try dsimp only at hSw)
        first
        | (go_simp; done)
        | (go_simp; with_reducible rfl)
      try simp only [Act.put, List.setIfInBounds_toArray, List.set_cons_zero, List.set_cons_succ]
      refine wpAnyH_take (i := 1) (oi := ?oi1W4) (v := ?v1W4) ?oi0_1W4 (by kernel_rfl) ?ff1W4 ?rr1W4 ?hq1W4 (Or.inl ⟨?hw1W4, ?hy1W4⟩) (by assumption) ?rest1W4
      case oi0_1W4 =>
        conv =>
          lhs
          whnf
          arg 1
          whnf
      case hq1W4 => exact fun _ _ _ h => h
      case ff1W4 => kernel_rfl
      case rr1W4 => kernel_rfl
      case hw1W4 => rfl
      case hy1W4 =>
        intro w hSw
        (try dsimp only at hSw)
        first
        | (go_simp; done)
        | (go_simp; with_reducible rfl)
      try simp only [Act.put, List.setIfInBounds_toArray, List.set_cons_zero, List.set_cons_succ]
      refine wpAnyH_take (i := 2) (oi := ?oi2W4) (v := ?v2W4) ?oi0_2W4 (by kernel_rfl) ?ff2W4 ?rr2W4 ?hq2W4 (Or.inl ⟨?hw2W4, ?hy2W4⟩) (by assumption) ?rest2W4
      case oi0_2W4 =>
        conv =>
          lhs
          whnf
          arg 1
          whnf
      case hq2W4 => exact fun _ _ _ h => h
      case ff2W4 => kernel_rfl
      case rr2W4 => kernel_rfl
      case hw2W4 => rfl
      case hy2W4 =>
        intro w hSw
        (try dsimp only at hSw)
        first
        | (go_simp; done)
        | (go_simp; with_reducible rfl)
      try simp only [Act.put, List.setIfInBounds_toArray, List.set_cons_zero, List.set_cons_succ]
      refine wpAnyH_take (i := 3) (oi := ?oi3W4) (v := ?v3W4) ?oi0_3W4 (by kernel_rfl) ?ff3W4 ?rr3W4 ?hq3W4 (Or.inl ⟨?hw3W4, ?hy3W4⟩) (by assumption) ?rest3W4
      case oi0_3W4 =>
        conv =>
          lhs
          whnf
          arg 1
          whnf
      case hq3W4 => exact fun _ _ _ h => h
      case ff3W4 => kernel_rfl
      case rr3W4 => kernel_rfl
      case hw3W4 => rfl
      case hy3W4 =>
        intro w hSw
        (try dsimp only at hSw)
        first
        | (go_simp; done)
        | (go_simp; with_reducible rfl)
      try simp only [Act.put, List.setIfInBounds_toArray, List.set_cons_zero, List.set_cons_succ]
      refine wpAnyH_take (i := 4) (oi := ?oi4W4) (v := ?v4W4) ?oi0_4W4 (by kernel_rfl) ?ff4W4 ?rr4W4 ?hq4W4 (Or.inl ⟨?hw4W4, ?hy4W4⟩) (by assumption) ?rest4W4
      case oi0_4W4 =>
        conv =>
          lhs
          whnf
          arg 1
          whnf
      case hq4W4 => exact fun _ _ _ h => h
      case ff4W4 => kernel_rfl
      case rr4W4 => kernel_rfl
      case hw4W4 => rfl
      case hy4W4 =>
        intro w hSw
        (try dsimp only at hSw)
        first
        | (go_simp; done)
        | (go_simp; with_reducible rfl)
      try simp only [Act.put, List.setIfInBounds_toArray, List.set_cons_zero, List.set_cons_succ]
      refine wpAnyH_take (i := 5) (oi := ?oi5W4) (v := ?v5W4) ?oi0_5W4 (by kernel_rfl) ?ff5W4 ?rr5W4 ?hq5W4 (Or.inl ⟨?hw5W4, ?hy5W4⟩) (by assumption) ?rest5W4
      case oi0_5W4 =>
        conv =>
          lhs
          whnf
          arg 1
          whnf
      case hq5W4 => exact fun _ _ _ h => h
      case ff5W4 => kernel_rfl
      case rr5W4 => kernel_rfl
      case hw5W4 => rfl
      case hy5W4 =>
        intro w hSw
        (try dsimp only at hSw)
        first
        | (go_simp; done)
        | (go_simp; with_reducible rfl)
      try simp only [Act.put, List.setIfInBounds_toArray, List.set_cons_zero, List.set_cons_succ]
      refine wpAnyH_take (i := 6) (oi := ?oi6W4) (v := ?v6W4) ?oi0_6W4 (by kernel_rfl) ?ff6W4 ?rr6W4 ?hq6W4 (Or.inl ⟨?hw6W4, ?hy6W4⟩) (by assumption) ?rest6W4
      case oi0_6W4 =>
        conv =>
          lhs
          whnf
          arg 1
          whnf
      case hq6W4 => exact fun _ _ _ h => h
      case ff6W4 => kernel_rfl
      case rr6W4 => kernel_rfl
      case hw6W4 => rfl
      case hy6W4 =>
        intro w hSw
        (try dsimp only at hSw)
        first
        | (go_simp; done)
        | (go_simp; with_reducible rfl)
      try simp only [Act.put, List.setIfInBounds_toArray, List.set_cons_zero, List.set_cons_succ]
      refine wpAnyH_take (i := 7) (oi := ?oi7W4) (v := ?v7W4) ?oi0_7W4 (by kernel_rfl) ?ff7W4 ?rr7W4 ?hq7W4 (Or.inl ⟨?hw7W4, ?hy7W4⟩) (by assumption) ?rest7W4
      case oi0_7W4 =>
        conv =>
          lhs
          whnf
          arg 1
          whnf
      case hq7W4 => exact fun _ _ _ h => h
      case ff7W4 => kernel_rfl
      case rr7W4 => kernel_rfl
      case hw7W4 => rfl
      case hy7W4 =>
        intro w hSw
        (try dsimp only at hSw)
        first
        | (go_simp; done)
        | (go_simp; with_reducible rfl)
      try simp only [Act.put, List.setIfInBounds_toArray, List.set_cons_zero, List.set_cons_succ]
      refine wpAnyH_take (i := 8) (oi := ?oi8W4) (v := ?v8W4) ?oi0_8W4 (by kernel_rfl) ?ff8W4 ?rr8W4 ?hq8W4 (Or.inl ⟨?hw8W4, ?hy8W4⟩) (by assumption) ?rest8W4
      case oi0_8W4 =>
        conv =>
          lhs
          whnf
          arg 1
          whnf
      case hq8W4 => exact fun _ _ _ h => h
      case ff8W4 => kernel_rfl
      case rr8W4 => kernel_rfl
      case hw8W4 => rfl
      case hy8W4 =>
        intro w hSw
        (try dsimp only at hSw)
        first
        | (go_simp; done)
        | (go_simp; with_reducible rfl)
      try simp only [Act.put, List.setIfInBounds_toArray, List.set_cons_zero, List.set_cons_succ]
      refine wpAnyH_take (i := 9) (oi := ?oi9W4) (v := ?v9W4) ?oi0_9W4 (by kernel_rfl) ?ff9W4 ?rr9W4 ?hq9W4 (Or.inl ⟨?hw9W4, ?hy9W4⟩) (by assumption) ?rest9W4
      case oi0_9W4 =>
        conv =>
          lhs
          whnf
          arg 1
          whnf
      case hq9W4 => exact fun _ _ _ h => h
      case ff9W4 => kernel_rfl
      case rr9W4 => kernel_rfl
      case hw9W4 => rfl
      case hy9W4 =>
        intro w hSw
        (try dsimp only at hSw)
        first
        | (go_simp; done)
        | (go_simp; with_reducible rfl)
      try simp only [Act.put, List.setIfInBounds_toArray, List.set_cons_zero, List.set_cons_succ]
      refine wpAnyH_take (i := 10) (oi := ?oi10W4) (v := ?v10W4) ?oi0_10W4 (by kernel_rfl) ?ff10W4 ?rr10W4 ?hq10W4 (Or.inl ⟨?hw10W4, ?hy10W4⟩) (by assumption) ?rest10W4
      case oi0_10W4 =>
        conv =>
          lhs
          whnf
          arg 1
          whnf
      case hq10W4 => exact fun _ _ _ h => h
      case ff10W4 => kernel_rfl
      case rr10W4 => kernel_rfl
      case hw10W4 => rfl
      case hy10W4 =>
        intro w hSw
        (try dsimp only at hSw)
        first
        | (go_simp; done)
        | (go_simp; with_reducible rfl)
      try simp only [Act.put, List.setIfInBounds_toArray, List.set_cons_zero, List.set_cons_succ]
      refine wpAnyH_take (i := 11) (oi := ?oi11W4) (v := ?v11W4) ?oi0_11W4 (by kernel_rfl) ?ff11W4 ?rr11W4 ?hq11W4 (Or.inl ⟨?hw11W4, ?hy11W4⟩) (by assumption) ?rest11W4
      case oi0_11W4 =>
        conv =>
          lhs
          whnf
          arg 1
          whnf
      case hq11W4 => exact fun _ _ _ h => h
      case ff11W4 => kernel_rfl
      case rr11W4 => kernel_rfl
      case hw11W4 => rfl
      case hy11W4 =>
        intro w hSw
        (try dsimp only at hSw)
        first
        | (go_simp; done)
        | (go_simp; with_reducible rfl)
      try simp only [Act.put, List.setIfInBounds_toArray, List.set_cons_zero, List.set_cons_succ]
      refine wpAnyH_take (i := 12) (oi := ?oi12W4) (v := ?v12W4) ?oi0_12W4 (by kernel_rfl) ?ff12W4 ?rr12W4 ?hq12W4 (Or.inl ⟨?hw12W4, ?hy12W4⟩) (by assumption) ?rest12W4
      case oi0_12W4 =>
        conv =>
          lhs
          whnf
          arg 1
          whnf
      case hq12W4 => exact fun _ _ _ h => h
      case ff12W4 => kernel_rfl
      case rr12W4 => kernel_rfl
      case hw12W4 => rfl
      case hy12W4 =>
        intro w hSw
        (try dsimp only at hSw)
        first
        | (go_simp; done)
        | (go_simp; with_reducible rfl)
      try simp only [Act.put, List.setIfInBounds_toArray, List.set_cons_zero, List.set_cons_succ]
      refine wpAnyH_take (i := 13) (oi := ?oi13W4) (v := ?v13W4) ?oi0_13W4 (by kernel_rfl) ?ff13W4 ?rr13W4 ?hq13W4 (Or.inl ⟨?hw13W4, ?hy13W4⟩) (by assumption) ?rest13W4
      case oi0_13W4 =>
        conv =>
          lhs
          whnf
          arg 1
          whnf
      case hq13W4 => exact fun _ _ _ h => h
      case ff13W4 => kernel_rfl
      case rr13W4 => kernel_rfl
      case hw13W4 => rfl
      case hy13W4 =>
        intro w hSw
        (try dsimp only at hSw)
        first
        | (go_simp; done)
        | (go_simp; with_reducible rfl)
      try simp only [Act.put, List.setIfInBounds_toArray, List.set_cons_zero, List.set_cons_succ]
      refine wpAnyH_take (i := 14) (oi := ?oi14W4) (v := ?v14W4) ?oi0_14W4 (by kernel_rfl) ?ff14W4 ?rr14W4 ?hq14W4 (Or.inl ⟨?hw14W4, ?hy14W4⟩) (by assumption) ?rest14W4
      case oi0_14W4 =>
        conv =>
          lhs
          whnf
          arg 1
          whnf
      case hq14W4 => exact fun _ _ _ h => h
      case ff14W4 => kernel_rfl
      case rr14W4 => kernel_rfl
      case hw14W4 => rfl
      case hy14W4 =>
        intro w hSw
        (try dsimp only at hSw)
        first
        | (go_simp; done)
        | (go_simp; with_reducible rfl)
      try simp only [Act.put, List.setIfInBounds_toArray, List.set_cons_zero, List.set_cons_succ]
      refine wpAnyH_take (i := 15) (oi := ?oi15W4) (v := ?v15W4) ?oi0_15W4 (by kernel_rfl) ?ff15W4 ?rr15W4 ?hq15W4 (Or.inl ⟨?hw15W4, ?hy15W4⟩) (by assumption) ?rest15W4
      case oi0_15W4 =>
        conv =>
          lhs
          whnf
          arg 1
          whnf
      case hq15W4 => exact fun _ _ _ h => h
      case ff15W4 => kernel_rfl
      case rr15W4 => kernel_rfl
      case hw15W4 => rfl
      case hy15W4 =>
        intro w hSw
        (try dsimp only at hSw)
        first
        | (go_simp; done)
        | (go_simp; with_reducible rfl)
      try simp only [Act.put, List.setIfInBounds_toArray, List.set_cons_zero, List.set_cons_succ]
      refine wpAnyH_take (i := 16) (oi := ?oi16W4) (v := ?v16W4) ?oi0_16W4 (by kernel_rfl) ?ff16W4 ?rr16W4 ?hq16W4 (Or.inl ⟨?hw16W4, ?hy16W4⟩) (by assumption) ?rest16W4
      case oi0_16W4 =>
        conv =>
          lhs
          whnf
          arg 1
          whnf
      case hq16W4 => exact fun _ _ _ h => h
      case ff16W4 => kernel_rfl
      case rr16W4 => kernel_rfl
      case hw16W4 => rfl
      case hy16W4 =>
        intro w hSw
        (try dsimp only at hSw)
        first
        | (go_simp; done)
        | (go_simp; with_reducible rfl)
      try simp only [Act.put, List.setIfInBounds_toArray, List.set_cons_zero, List.set_cons_succ]
      refine wpAnyH_take (i := 17) (oi := ?oi17W4) (v := ?v17W4) ?oi0_17W4 (by kernel_rfl) ?ff17W4 ?rr17W4 ?hq17W4 (Or.inl ⟨?hw17W4, ?hy17W4⟩) (by assumption) ?rest17W4
      case oi0_17W4 =>
        conv =>
          lhs
          whnf
          arg 1
          whnf
      case hq17W4 => exact fun _ _ _ h => h
      case ff17W4 => kernel_rfl
      case rr17W4 => kernel_rfl
      case hw17W4 => rfl
      case hy17W4 =>
        intro w hSw
        (try dsimp only at hSw)
        first
        | (go_simp; done)
        | (go_simp; with_reducible rfl)
      try simp only [Act.put, List.setIfInBounds_toArray, List.set_cons_zero, List.set_cons_succ]
      refine wpAnyH_take (i := 18) (oi := ?oi18W4) (v := ?v18W4) ?oi0_18W4 (by kernel_rfl) ?ff18W4 ?rr18W4 ?hq18W4 (Or.inl ⟨?hw18W4, ?hy18W4⟩) (by assumption) ?rest18W4
      case oi0_18W4 =>
        conv =>
          lhs
          whnf
          arg 1
          whnf
      case hq18W4 => exact fun _ _ _ h => h
      case ff18W4 => kernel_rfl
      case rr18W4 => kernel_rfl
      case hw18W4 => rfl
      case hy18W4 =>
        intro w hSw
        (try dsimp only at hSw)
        first
        | (go_simp; done)
        | (go_simp; with_reducible rfl)
      try simp only [Act.put, List.setIfInBounds_toArray, List.set_cons_zero, List.set_cons_succ]
      refine wpAnyH_take (i := 19) (oi := ?oi19W4) (v := ?v19W4) ?oi0_19W4 (by kernel_rfl) ?ff19W4 ?rr19W4 ?hq19W4 (Or.inl ⟨?hw19W4, ?hy19W4⟩) (by assumption) ?rest19W4
      case oi0_19W4 =>
        conv =>
          lhs
          whnf
          arg 1
          whnf
      case hq19W4 => exact fun _ _ _ h => h
      case ff19W4 => kernel_rfl
      case rr19W4 => kernel_rfl
      case hw19W4 => rfl
      case hy19W4 =>
        intro w hSw
        (try dsimp only at hSw)
        first
        | (go_simp; done)
        | (go_simp; with_reducible rfl)
      try simp only [Act.put, List.setIfInBounds_toArray, List.set_cons_zero, List.set_cons_succ]
      refine wpAnyH_take (i := 20) (oi := ?oi20W4) (v := ?v20W4) ?oi0_20W4 (by kernel_rfl) ?ff20W4 ?rr20W4 ?hq20W4 (Or.inl ⟨?hw20W4, ?hy20W4⟩) (by assumption) ?rest20W4
      case oi0_20W4 =>
        conv =>
          lhs
          whnf
          arg 1
          whnf
      case hq20W4 => exact fun _ _ _ h => h
      case ff20W4 => kernel_rfl
      case rr20W4 => kernel_rfl
      case hw20W4 => rfl
      case hy20W4 =>
        intro w hSw
        (try dsimp only at hSw)
        first
        | (go_simp; done)
        | (go_simp; with_reducible rfl)
      try simp only [Act.put, List.setIfInBounds_toArray, List.set_cons_zero, List.set_cons_succ]
      refine wpAnyH_take (i := 21) (oi := ?oi21W4) (v := ?v21W4) ?oi0_21W4 (by kernel_rfl) ?ff21W4 ?rr21W4 ?hq21W4 (Or.inl ⟨?hw21W4, ?hy21W4⟩) (by assumption) ?rest21W4
      case oi0_21W4 =>
        conv =>
          lhs
          whnf
          arg 1
          whnf
      case hq21W4 => exact fun _ _ _ h => h
      case ff21W4 => kernel_rfl
      case rr21W4 => kernel_rfl
      case hw21W4 => rfl
      case hy21W4 =>
        intro w hSw
        (try dsimp only at hSw)
        first
        | (go_simp; done)
        | (go_simp; with_reducible rfl)
      try simp only [Act.put, List.setIfInBounds_toArray, List.set_cons_zero, List.set_cons_succ]
      refine wpAnyH_take (i := 22) (oi := ?oi22W4) (v := ?v22W4) ?oi0_22W4 (by kernel_rfl) ?ff22W4 ?rr22W4 ?hq22W4 (Or.inl ⟨?hw22W4, ?hy22W4⟩) (by assumption) ?rest22W4
      case oi0_22W4 =>
        conv =>
          lhs
          whnf
          arg 1
          whnf
      case hq22W4 => exact fun _ _ _ h => h
      case ff22W4 => kernel_rfl
      case rr22W4 => kernel_rfl
      case hw22W4 => rfl
      case hy22W4 =>
        intro w hSw
        (try dsimp only at hSw)
        first
        | (go_simp; done)
        | (go_simp; with_reducible rfl)
      try simp only [Act.put, List.setIfInBounds_toArray, List.set_cons_zero, List.set_cons_succ]
      refine wpAnyH_take (i := 23) (oi := ?oi23W4) (v := ?v23W4) ?oi0_23W4 (by kernel_rfl) ?ff23W4 ?rr23W4 ?hq23W4 (Or.inl ⟨?hw23W4, ?hy23W4⟩) (by assumption) ?rest23W4
      case oi0_23W4 =>
        conv =>
          lhs
          whnf
          arg 1
          whnf
      case hq23W4 => exact fun _ _ _ h => h
      case ff23W4 => kernel_rfl
      case rr23W4 => kernel_rfl
      case hw23W4 => rfl
      case hy23W4 =>
        intro w hSw
        (try dsimp only at hSw)
        first
        | (go_simp; done)
        | (go_simp; with_reducible rfl)
      try simp only [Act.put, List.setIfInBounds_toArray, List.set_cons_zero, List.set_cons_succ]
      refine wpAnyH_take (i := 24) (oi := ?oi24W4) (v := ?v24W4) ?oi0_24W4 (by kernel_rfl) ?ff24W4 ?rr24W4 ?hq24W4 (Or.inl ⟨?hw24W4, ?hy24W4⟩) (by assumption) ?rest24W4
      case oi0_24W4 =>
        conv =>
          lhs
          whnf
          arg 1
          whnf
      case hq24W4 => exact fun _ _ _ h => h
      case ff24W4 => kernel_rfl
      case rr24W4 => kernel_rfl
      case hw24W4 => rfl
      case hy24W4 =>
        intro w hSw
        (try dsimp only at hSw)
        first
        | (go_simp; done)
        | (go_simp; with_reducible rfl)
      try simp only [Act.put, List.setIfInBounds_toArray, List.set_cons_zero, List.set_cons_succ]
      refine wpAnyH_take (i := 25) (oi := ?oi25W4) (v := ?v25W4) ?oi0_25W4 (by kernel_rfl) ?ff25W4 ?rr25W4 ?hq25W4 (Or.inl ⟨?hw25W4, ?hy25W4⟩) (by assumption) ?rest25W4
      case oi0_25W4 =>
        conv =>
          lhs
          whnf
          arg 1
          whnf
      case hq25W4 => exact fun _ _ _ h => h
      case ff25W4 => kernel_rfl
      case rr25W4 => kernel_rfl
      case hw25W4 => rfl
      case hy25W4 =>
        intro w hSw
        (try dsimp only at hSw)
        first
        | (go_simp; done)
        | (go_simp; with_reducible rfl)
      try simp only [Act.put, List.setIfInBounds_toArray, List.set_cons_zero, List.set_cons_succ]
      refine wpAnyH_take (i := 26) (oi := ?oi26W4) (v := ?v26W4) ?oi0_26W4 (by kernel_rfl) ?ff26W4 ?rr26W4 ?hq26W4 (Or.inl ⟨?hw26W4, ?hy26W4⟩) (by assumption) ?rest26W4
      case oi0_26W4 =>
        conv =>
          lhs
          whnf
          arg 1
          whnf
      case hq26W4 => exact fun _ _ _ h => h
      case ff26W4 => kernel_rfl
      case rr26W4 => kernel_rfl
      case hw26W4 => rfl
      case hy26W4 =>
        intro w hSw
        (try dsimp only at hSw)
        first
        | (go_simp; done)
        | (go_simp; with_reducible rfl)
      try simp only [Act.put, List.setIfInBounds_toArray, List.set_cons_zero, List.set_cons_succ]
      refine wpAnyH_take (i := 27) (oi := ?oi27W4) (v := ?v27W4) ?oi0_27W4 (by kernel_rfl) ?ff27W4 ?rr27W4 ?hq27W4 (Or.inl ⟨?hw27W4, ?hy27W4⟩) (by assumption) ?rest27W4
      case oi0_27W4 =>
        conv =>
          lhs
          whnf
          arg 1
          whnf
      case hq27W4 => exact fun _ _ _ h => h
      case ff27W4 => kernel_rfl
      case rr27W4 => kernel_rfl
      case hw27W4 => rfl
      case hy27W4 =>
        intro w hSw
        (try dsimp only at hSw)
        first
        | (go_simp; done)
        | (go_simp; with_reducible rfl)
      try simp only [Act.put, List.setIfInBounds_toArray, List.set_cons_zero, List.set_cons_succ]
      refine wpAnyH_take (i := 28) (oi := ?oi28W4) (v := ?v28W4) ?oi0_28W4 (by kernel_rfl) ?ff28W4 ?rr28W4 ?hq28W4 (Or.inl ⟨?hw28W4, ?hy28W4⟩) (by assumption) ?rest28W4
      case oi0_28W4 =>
        conv =>
          lhs
          whnf
          arg 1
          whnf
      case hq28W4 => exact fun _ _ _ h => h
      case ff28W4 => kernel_rfl
      case rr28W4 => kernel_rfl
      case hw28W4 => rfl
      case hy28W4 =>
        intro w hSw
        (try dsimp only at hSw)
        first
        | (go_simp; done)
        | (go_simp; with_reducible rfl)
      try simp only [Act.put, List.setIfInBounds_toArray, List.set_cons_zero, List.set_cons_succ]
      refine wpAnyH_take (i := 29) (oi := ?oi29W4) (v := ?v29W4) ?oi0_29W4 (by kernel_rfl) ?ff29W4 ?rr29W4 ?hq29W4 (Or.inl ⟨?hw29W4, ?hy29W4⟩) (by assumption) ?rest29W4
      case oi0_29W4 =>
        conv =>
          lhs
          whnf
          arg 1
          whnf
      case hq29W4 => exact fun _ _ _ h => h
      case ff29W4 => kernel_rfl
      case rr29W4 => kernel_rfl
      case hw29W4 => rfl
      case hy29W4 =>
        intro w hSw
        (try dsimp only at hSw)
        first
        | (go_simp; done)
        | (go_simp; with_reducible rfl)
      try simp only [Act.put, List.setIfInBounds_toArray, List.set_cons_zero, List.set_cons_succ]
      refine wpAnyH_take (i := 30) (oi := ?oi30W4) (v := ?v30W4) ?oi0_30W4 (by kernel_rfl) ?ff30W4 ?rr30W4 ?hq30W4 (Or.inl ⟨?hw30W4, ?hy30W4⟩) (by assumption) ?rest30W4
      case oi0_30W4 =>
        conv =>
          lhs
          whnf
          arg 1
          whnf
      case hq30W4 => exact fun _ _ _ h => h
      case ff30W4 => kernel_rfl
      case rr30W4 => kernel_rfl
      case hw30W4 => rfl
      case hy30W4 =>
        intro w hSw
        (try dsimp only at hSw)
        first
        | (go_simp; done)
        | (go_simp; with_reducible rfl)
      try simp only [Act.put, List.setIfInBounds_toArray, List.set_cons_zero, List.set_cons_succ]
      refine wpAnyH_take (i := 31) (oi := ?oi31W4) (v := ?v31W4) ?oi0_31W4 (by kernel_rfl) ?ff31W4 ?rr31W4 ?hq31W4 (Or.inl ⟨?hw31W4, ?hy31W4⟩) (by assumption) ?rest31W4
      case oi0_31W4 =>
        conv =>
          lhs
          whnf
          arg 1
          whnf
      case hq31W4 => exact fun _ _ _ h => h
      case ff31W4 => kernel_rfl
      case rr31W4 => kernel_rfl
      case hw31W4 => rfl
      case hy31W4 =>
        intro w hSw
        (try dsimp only at hSw)
        first
        | (go_simp; done)
        | (go_simp; with_reducible rfl)
      try simp only [Act.put, List.setIfInBounds_toArray, List.set_cons_zero, List.set_cons_succ]
      refine wpAnyH_take (i := 32) (oi := ?oi32W4) (v := undef) ?oi0_32W4 (by kernel_rfl) ?ff32W4 ?rr32W4 ?hq32W4 (Or.inr ⟨?hw32W4, rfl⟩) (by assumption) ?rest32W4
      case oi0_32W4 =>
        conv =>
          lhs
          whnf
          arg 1
          whnf
      case hq32W4 => exact fun _ _ _ h => h
      case ff32W4 => kernel_rfl
      case rr32W4 => kernel_rfl
      case hw32W4 => rfl
      try simp only [Act.put, List.setIfInBounds_toArray, List.set_cons_zero, List.set_cons_succ]
      refine wpAnyH_take (i := 33) (oi := ?oi33W4) (v := undef) ?oi0_33W4 (by kernel_rfl) ?ff33W4 ?rr33W4 ?hq33W4 (Or.inr ⟨?hw33W4, rfl⟩) (by assumption) ?rest33W4
      case oi0_33W4 =>
        conv =>
          lhs
          whnf
          arg 1
          whnf
      case hq33W4 => exact fun _ _ _ h => h
      case ff33W4 => kernel_rfl
      case rr33W4 => kernel_rfl
      case hw33W4 => rfl
      try simp only [Act.put, List.setIfInBounds_toArray, List.set_cons_zero, List.set_cons_succ]
      refine wpAnyH_take (i := 34) (oi := ?oi34W4) (v := undef) ?oi0_34W4 (by kernel_rfl) ?ff34W4 ?rr34W4 ?hq34W4 (Or.inr ⟨?hw34W4, rfl⟩) (by assumption) ?rest34W4
      case oi0_34W4 =>
        conv =>
          lhs
          whnf
          arg 1
          whnf
      case hq34W4 => exact fun _ _ _ h => h
      case ff34W4 => kernel_rfl
      case rr34W4 => kernel_rfl
      case hw34W4 => rfl
      try simp only [Act.put, List.setIfInBounds_toArray, List.set_cons_zero, List.set_cons_succ]
      refine wpAnyH_take (i := 35) (oi := ?oi35W4) (v := undef) ?oi0_35W4 (by kernel_rfl) ?ff35W4 ?rr35W4 ?hq35W4 (Or.inr ⟨?hw35W4, rfl⟩) (by assumption) ?rest35W4
      case oi0_35W4 =>
        conv =>
          lhs
          whnf
          arg 1
          whnf
      case hq35W4 => exact fun _ _ _ h => h
      case ff35W4 => kernel_rfl
      case rr35W4 => kernel_rfl
      case hw35W4 => rfl
      try simp only [Act.put, List.setIfInBounds_toArray, List.set_cons_zero, List.set_cons_succ]
      refine wpAnyH_take (i := 36) (oi := ?oi36W4) (v := undef) ?oi0_36W4 (by kernel_rfl) ?ff36W4 ?rr36W4 ?hq36W4 (Or.inr ⟨?hw36W4, rfl⟩) (by assumption) ?rest36W4
      case oi0_36W4 =>
        conv =>
          lhs
          whnf
          arg 1
          whnf
      case hq36W4 => exact fun _ _ _ h => h
      case ff36W4 => kernel_rfl
      case rr36W4 => kernel_rfl
      case hw36W4 => rfl
      try simp only [Act.put, List.setIfInBounds_toArray, List.set_cons_zero, List.set_cons_succ]
      refine wpAnyH_take (i := 37) (oi := ?oi37W4) (v := undef) ?oi0_37W4 (by kernel_rfl) ?ff37W4 ?rr37W4 ?hq37W4 (Or.inr ⟨?hw37W4, rfl⟩) (by assumption) ?rest37W4
      case oi0_37W4 =>
        conv =>
          lhs
          whnf
          arg 1
          whnf
      case hq37W4 => exact fun _ _ _ h => h
      case ff37W4 => kernel_rfl
      case rr37W4 => kernel_rfl
      case hw37W4 => rfl
      try simp only [Act.put, List.setIfInBounds_toArray, List.set_cons_zero, List.set_cons_succ]
      refine wpAnyH_take (i := 38) (oi := ?oi38W4) (v := undef) ?oi0_38W4 (by kernel_rfl) ?ff38W4 ?rr38W4 ?hq38W4 (Or.inr ⟨?hw38W4, rfl⟩) (by assumption) ?rest38W4
      case oi0_38W4 =>
        conv =>
          lhs
          whnf
          arg 1
          whnf
      case hq38W4 => exact fun _ _ _ h => h
      case ff38W4 => kernel_rfl
      case rr38W4 => kernel_rfl
      case hw38W4 => rfl
      try simp only [Act.put, List.setIfInBounds_toArray, List.set_cons_zero, List.set_cons_succ]
      refine wpAnyH_take (i := 39) (oi := ?oi39W4) (v := undef) ?oi0_39W4 (by kernel_rfl) ?ff39W4 ?rr39W4 ?hq39W4 (Or.inr ⟨?hw39W4, rfl⟩) (by assumption) ?rest39W4
      case oi0_39W4 =>
        conv =>
          lhs
          whnf
          arg 1
          whnf
      case hq39W4 => exact fun _ _ _ h => h
      case ff39W4 => kernel_rfl
      case rr39W4 => kernel_rfl
      case hw39W4 => rfl
      try simp only [Act.put, List.setIfInBounds_toArray, List.set_cons_zero, List.set_cons_succ]
      refine wpAnyH_take (i := 40) (oi := ?oi40W4) (v := undef) ?oi0_40W4 (by kernel_rfl) ?ff40W4 ?rr40W4 ?hq40W4 (Or.inr ⟨?hw40W4, rfl⟩) (by assumption) ?rest40W4
      case oi0_40W4 =>
        conv =>
          lhs
          whnf
          arg 1
          whnf
      case hq40W4 => exact fun _ _ _ h => h
      case ff40W4 => kernel_rfl
      case rr40W4 => kernel_rfl
      case hw40W4 => rfl
      try simp only [Act.put, List.setIfInBounds_toArray, List.set_cons_zero, List.set_cons_succ]
      refine wpAnyH_take (i := 41) (oi := ?oi41W4) (v := undef) ?oi0_41W4 (by kernel_rfl) ?ff41W4 ?rr41W4 ?hq41W4 (Or.inr ⟨?hw41W4, rfl⟩) (by assumption) ?rest41W4
      case oi0_41W4 =>
        conv =>
          lhs
          whnf
          arg 1
          whnf
      case hq41W4 => exact fun _ _ _ h => h
      case ff41W4 => kernel_rfl
      case rr41W4 => kernel_rfl
      case hw41W4 => rfl
      try simp only [Act.put, List.setIfInBounds_toArray, List.set_cons_zero, List.set_cons_succ]
      refine wpAnyH_take (i := 42) (oi := ?oi42W4) (v := undef) ?oi0_42W4 (by kernel_rfl) ?ff42W4 ?rr42W4 ?hq42W4 (Or.inr ⟨?hw42W4, rfl⟩) (by assumption) ?rest42W4
      case oi0_42W4 =>
        conv =>
          lhs
          whnf
          arg 1
          whnf
      case hq42W4 => exact fun _ _ _ h => h
      case ff42W4 => kernel_rfl
      case rr42W4 => kernel_rfl
      case hw42W4 => rfl
      try simp only [Act.put, List.setIfInBounds_toArray, List.set_cons_zero, List.set_cons_succ]
      refine wpAnyH_take (i := 43) (oi := ?oi43W4) (v := undef) ?oi0_43W4 (by kernel_rfl) ?ff43W4 ?rr43W4 ?hq43W4 (Or.inr ⟨?hw43W4, rfl⟩) (by assumption) ?rest43W4
      case oi0_43W4 =>
        conv =>
          lhs
          whnf
          arg 1
          whnf
      case hq43W4 => exact fun _ _ _ h => h
      case ff43W4 => kernel_rfl
      case rr43W4 => kernel_rfl
      case hw43W4 => rfl
      try simp only [Act.put, List.setIfInBounds_toArray, List.set_cons_zero, List.set_cons_succ]
      refine wpAnyH_take (i := 44) (oi := ?oi44W4) (v := ?v44W4) ?oi0_44W4 (by kernel_rfl) ?ff44W4 ?rr44W4 ?hq44W4 (Or.inl ⟨?hw44W4, ?hy44W4⟩) (by assumption) ?rest44W4
      case oi0_44W4 =>
        conv =>
          lhs
          whnf
          arg 1
          whnf
      case hq44W4 => exact fun _ _ _ h => h
      case ff44W4 => kernel_rfl
      case rr44W4 => kernel_rfl
      case hw44W4 => rfl
      case hy44W4 =>
        intro w hSw
        (try dsimp only at hSw)
        first
        | (go_simp; done)
        | (go_simp; with_reducible rfl)
      try simp only [Act.put, List.setIfInBounds_toArray, List.set_cons_zero, List.set_cons_succ]
      refine wpAnyH_take (i := 45) (oi := ?oi45W4) (v := ?v45W4) ?oi0_45W4 (by kernel_rfl) ?ff45W4 ?rr45W4 ?hq45W4 (Or.inl ⟨?hw45W4, ?hy45W4⟩) (by assumption) ?rest45W4
      case oi0_45W4 =>
        conv =>
          lhs
          whnf
          arg 1
          whnf
      case hq45W4 => exact fun _ _ _ h => h
      case ff45W4 => kernel_rfl
      case rr45W4 => kernel_rfl
      case hw45W4 => rfl
      case hy45W4 =>
        intro w hSw
        (try dsimp only at hSw)
        first
        | (go_simp; done)
        | (go_simp; with_reducible rfl)
      try simp only [Act.put, List.setIfInBounds_toArray, List.set_cons_zero, List.set_cons_succ]
      refine wpAnyH_done (by kernel_rfl) ?_ _
      go_wp2_with fail
      go_roundw
      case rel => exact ⟨k + 1, by omega, by go_num, V, HST⟩
      case measure => simp [intOf] <;> omega
    have hk0i : (0 : Int) < k := by omega
    have hk0d : decide ((0 : Int) < k) = true := decide_eq_true hk0i
    obtain ⟨q, hq⟩ : ∃ q, q + 1 = k := ⟨k - 1, by omega⟩
    obtain ⟨y, hy⟩ : ∃ y, xs[q]? = some y := ⟨_, List.getElem?_eq_getElem (by have := HXN.out; omega)⟩
    obtain ⟨b', o', eb, _, _, d1x⟩ := HX.out q y hy
    injection eb with eb
    injection eb with e1x e2x
    subst e1x e2x
    have d1' := keepc _ _ _ _ hu.out d1x
    have hqn : q < n := by omega
    have hqi : (q : Int) < n := by omega
    have hwq : IntKind.i64.wrap ((k : Int) - 1) = (q : Int) := (Go.IntWalk.i64_in _ (by omega)).trans (by omega)
    have HY := hide (show xs[k - 1]? = some y by rw [show k - 1 = q by omega]; exact hy)
    clear hy d1x
    by_cases e4 : s.fr < y.to_
    case pos =>
      have d4 : decide (s.fr < y.to_) = true := decide_eq_true e4
      obtain rfl : r = false := by rw [← HR.out]; exact decide_eq_false fun h => by have h1 := h.1 k (by have := HXN.out; omega); unfold SpOk SpIn at h1; rw [HS.out] at h1; simp only [Option.getD_some] at h1; rw [HY.out] at h1; simp only [Option.getD_some] at h1; omega
      go_wp2_with fail
      refine wp_region_held_drew (S := (fun w' => w'.cell? ⟨b, o + k * 2, none⟩ = some (.int .i64 s.fr) ∧ w'.cell? ⟨b, o + k * 2 + 1, none⟩ = some (.int .i64 s.to_) ∧ w'.cell? ⟨b, o + q * 2 + 1, none⟩ = some (.int .i64 y.to_))) (by kernel_rfl) (by exact ⟨c0', c1', d1'⟩) (fun hHeld => ?_)
      refine wpAnyH_take (i := 0) (oi := ?oi0W5) (v := ?v0W5) ?oi0_0W5 (by kernel_rfl) ?ff0W5 ?rr0W5 ?hq0W5 (Or.inl ⟨?hw0W5, ?hy0W5⟩) (by assumption) ?rest0W5
      case oi0_0W5 =>
        conv =>
          lhs
          whnf
          arg 1
          whnf
      case hq0W5 => exact fun _ _ _ h => h
      case ff0W5 => kernel_rfl
      case rr0W5 => kernel_rfl
      case hw0W5 => rfl
      case hy0W5 =>
        intro w hSw
        (try dsimp only at hSw)
        first
        | (go_simp; done)
        | (go_simp; with_reducible rfl)
      try simp only [Act.put, List.setIfInBounds_toArray, List.set_cons_zero, List.set_cons_succ]
      refine wpAnyH_take (i := 1) (oi := ?oi1W5) (v := ?v1W5) ?oi0_1W5 (by kernel_rfl) ?ff1W5 ?rr1W5 ?hq1W5 (Or.inl ⟨?hw1W5, ?hy1W5⟩) (by assumption) ?rest1W5
      case oi0_1W5 =>
        conv =>
          lhs
          whnf
          arg 1
          whnf
      case hq1W5 => exact fun _ _ _ h => h
      case ff1W5 => kernel_rfl
      case rr1W5 => kernel_rfl
      case hw1W5 => rfl
      case hy1W5 =>
        intro w hSw
        (try dsimp only at hSw)
        first
        | (go_simp; done)
        | (go_simp; with_reducible rfl)
      try simp only [Act.put, List.setIfInBounds_toArray, List.set_cons_zero, List.set_cons_succ]
      refine wpAnyH_take (i := 2) (oi := ?oi2W5) (v := ?v2W5) ?oi0_2W5 (by kernel_rfl) ?ff2W5 ?rr2W5 ?hq2W5 (Or.inl ⟨?hw2W5, ?hy2W5⟩) (by assumption) ?rest2W5
      case oi0_2W5 =>
        conv =>
          lhs
          whnf
          arg 1
          whnf
      case hq2W5 => exact fun _ _ _ h => h
      case ff2W5 => kernel_rfl
      case rr2W5 => kernel_rfl
      case hw2W5 => rfl
      case hy2W5 =>
        intro w hSw
        (try dsimp only at hSw)
        first
        | (go_simp; done)
        | (go_simp; with_reducible rfl)
      try simp only [Act.put, List.setIfInBounds_toArray, List.set_cons_zero, List.set_cons_succ]
      refine wpAnyH_take (i := 3) (oi := ?oi3W5) (v := ?v3W5) ?oi0_3W5 (by kernel_rfl) ?ff3W5 ?rr3W5 ?hq3W5 (Or.inl ⟨?hw3W5, ?hy3W5⟩) (by assumption) ?rest3W5
      case oi0_3W5 =>
        conv =>
          lhs
          whnf
          arg 1
          whnf
      case hq3W5 => exact fun _ _ _ h => h
      case ff3W5 => kernel_rfl
      case rr3W5 => kernel_rfl
      case hw3W5 => rfl
      case hy3W5 =>
        intro w hSw
        (try dsimp only at hSw)
        first
        | (go_simp; done)
        | (go_simp; with_reducible rfl)
      try simp only [Act.put, List.setIfInBounds_toArray, List.set_cons_zero, List.set_cons_succ]
      refine wpAnyH_take (i := 4) (oi := ?oi4W5) (v := ?v4W5) ?oi0_4W5 (by kernel_rfl) ?ff4W5 ?rr4W5 ?hq4W5 (Or.inl ⟨?hw4W5, ?hy4W5⟩) (by assumption) ?rest4W5
      case oi0_4W5 =>
        conv =>
          lhs
          whnf
          arg 1
          whnf
      case hq4W5 => exact fun _ _ _ h => h
      case ff4W5 => kernel_rfl
      case rr4W5 => kernel_rfl
      case hw4W5 => rfl
      case hy4W5 =>
        intro w hSw
        (try dsimp only at hSw)
        first
        | (go_simp; done)
        | (go_simp; with_reducible rfl)
      try simp only [Act.put, List.setIfInBounds_toArray, List.set_cons_zero, List.set_cons_succ]
      refine wpAnyH_take (i := 5) (oi := ?oi5W5) (v := ?v5W5) ?oi0_5W5 (by kernel_rfl) ?ff5W5 ?rr5W5 ?hq5W5 (Or.inl ⟨?hw5W5, ?hy5W5⟩) (by assumption) ?rest5W5
      case oi0_5W5 =>
        conv =>
          lhs
          whnf
          arg 1
          whnf
      case hq5W5 => exact fun _ _ _ h => h
      case ff5W5 => kernel_rfl
      case rr5W5 => kernel_rfl
      case hw5W5 => rfl
      case hy5W5 =>
        intro w hSw
        (try dsimp only at hSw)
        first
        | (go_simp; done)
        | (go_simp; with_reducible rfl)
      try simp only [Act.put, List.setIfInBounds_toArray, List.set_cons_zero, List.set_cons_succ]
      refine wpAnyH_take (i := 6) (oi := ?oi6W5) (v := ?v6W5) ?oi0_6W5 (by kernel_rfl) ?ff6W5 ?rr6W5 ?hq6W5 (Or.inl ⟨?hw6W5, ?hy6W5⟩) (by assumption) ?rest6W5
      case oi0_6W5 =>
        conv =>
          lhs
          whnf
          arg 1
          whnf
      case hq6W5 => exact fun _ _ _ h => h
      case ff6W5 => kernel_rfl
      case rr6W5 => kernel_rfl
      case hw6W5 => rfl
      case hy6W5 =>
        intro w hSw
        (try dsimp only at hSw)
        first
        | (go_simp; done)
        | (go_simp; with_reducible rfl)
      try simp only [Act.put, List.setIfInBounds_toArray, List.set_cons_zero, List.set_cons_succ]
      refine wpAnyH_take (i := 7) (oi := ?oi7W5) (v := ?v7W5) ?oi0_7W5 (by kernel_rfl) ?ff7W5 ?rr7W5 ?hq7W5 (Or.inl ⟨?hw7W5, ?hy7W5⟩) (by assumption) ?rest7W5
      case oi0_7W5 =>
        conv =>
          lhs
          whnf
          arg 1
          whnf
      case hq7W5 => exact fun _ _ _ h => h
      case ff7W5 => kernel_rfl
      case rr7W5 => kernel_rfl
      case hw7W5 => rfl
      case hy7W5 =>
        intro w hSw
        (try dsimp only at hSw)
        first
        | (go_simp; done)
        | (go_simp; with_reducible rfl)
      try simp only [Act.put, List.setIfInBounds_toArray, List.set_cons_zero, List.set_cons_succ]
      refine wpAnyH_take (i := 8) (oi := ?oi8W5) (v := ?v8W5) ?oi0_8W5 (by kernel_rfl) ?ff8W5 ?rr8W5 ?hq8W5 (Or.inl ⟨?hw8W5, ?hy8W5⟩) (by assumption) ?rest8W5
      case oi0_8W5 =>
        conv =>
          lhs
          whnf
          arg 1
          whnf
      case hq8W5 => exact fun _ _ _ h => h
      case ff8W5 => kernel_rfl
      case rr8W5 => kernel_rfl
      case hw8W5 => rfl
      case hy8W5 =>
        intro w hSw
        (try dsimp only at hSw)
        first
        | (go_simp; done)
        | (go_simp; with_reducible rfl)
      try simp only [Act.put, List.setIfInBounds_toArray, List.set_cons_zero, List.set_cons_succ]
      refine wpAnyH_take (i := 9) (oi := ?oi9W5) (v := ?v9W5) ?oi0_9W5 (by kernel_rfl) ?ff9W5 ?rr9W5 ?hq9W5 (Or.inl ⟨?hw9W5, ?hy9W5⟩) (by assumption) ?rest9W5
      case oi0_9W5 =>
        conv =>
          lhs
          whnf
          arg 1
          whnf
      case hq9W5 => exact fun _ _ _ h => h
      case ff9W5 => kernel_rfl
      case rr9W5 => kernel_rfl
      case hw9W5 => rfl
      case hy9W5 =>
        intro w hSw
        (try dsimp only at hSw)
        first
        | (go_simp; done)
        | (go_simp; with_reducible rfl)
      try simp only [Act.put, List.setIfInBounds_toArray, List.set_cons_zero, List.set_cons_succ]
      refine wpAnyH_take (i := 10) (oi := ?oi10W5) (v := ?v10W5) ?oi0_10W5 (by kernel_rfl) ?ff10W5 ?rr10W5 ?hq10W5 (Or.inl ⟨?hw10W5, ?hy10W5⟩) (by assumption) ?rest10W5
      case oi0_10W5 =>
        conv =>
          lhs
          whnf
          arg 1
          whnf
      case hq10W5 => exact fun _ _ _ h => h
      case ff10W5 => kernel_rfl
      case rr10W5 => kernel_rfl
      case hw10W5 => rfl
      case hy10W5 =>
        intro w hSw
        (try dsimp only at hSw)
        first
        | (go_simp; done)
        | (go_simp; with_reducible rfl)
      try simp only [Act.put, List.setIfInBounds_toArray, List.set_cons_zero, List.set_cons_succ]
      refine wpAnyH_take (i := 11) (oi := ?oi11W5) (v := ?v11W5) ?oi0_11W5 (by kernel_rfl) ?ff11W5 ?rr11W5 ?hq11W5 (Or.inl ⟨?hw11W5, ?hy11W5⟩) (by assumption) ?rest11W5
      case oi0_11W5 =>
        conv =>
          lhs
          whnf
          arg 1
          whnf
      case hq11W5 => exact fun _ _ _ h => h
      case ff11W5 => kernel_rfl
      case rr11W5 => kernel_rfl
      case hw11W5 => rfl
      case hy11W5 =>
        intro w hSw
        (try dsimp only at hSw)
        first
        | (go_simp; done)
        | (go_simp; with_reducible rfl)
      try simp only [Act.put, List.setIfInBounds_toArray, List.set_cons_zero, List.set_cons_succ]
      refine wpAnyH_take (i := 12) (oi := ?oi12W5) (v := ?v12W5) ?oi0_12W5 (by kernel_rfl) ?ff12W5 ?rr12W5 ?hq12W5 (Or.inl ⟨?hw12W5, ?hy12W5⟩) (by assumption) ?rest12W5
      case oi0_12W5 =>
        conv =>
          lhs
          whnf
          arg 1
          whnf
      case hq12W5 => exact fun _ _ _ h => h
      case ff12W5 => kernel_rfl
      case rr12W5 => kernel_rfl
      case hw12W5 => rfl
      case hy12W5 =>
        intro w hSw
        (try dsimp only at hSw)
        first
        | (go_simp; done)
        | (go_simp; with_reducible rfl)
      try simp only [Act.put, List.setIfInBounds_toArray, List.set_cons_zero, List.set_cons_succ]
      refine wpAnyH_take (i := 13) (oi := ?oi13W5) (v := ?v13W5) ?oi0_13W5 (by kernel_rfl) ?ff13W5 ?rr13W5 ?hq13W5 (Or.inl ⟨?hw13W5, ?hy13W5⟩) (by assumption) ?rest13W5
      case oi0_13W5 =>
        conv =>
          lhs
          whnf
          arg 1
          whnf
      case hq13W5 => exact fun _ _ _ h => h
      case ff13W5 => kernel_rfl
      case rr13W5 => kernel_rfl
      case hw13W5 => rfl
      case hy13W5 =>
        intro w hSw
        (try dsimp only at hSw)
        first
        | (go_simp; done)
        | (go_simp; with_reducible rfl)
      try simp only [Act.put, List.setIfInBounds_toArray, List.set_cons_zero, List.set_cons_succ]
      refine wpAnyH_take (i := 14) (oi := ?oi14W5) (v := ?v14W5) ?oi0_14W5 (by kernel_rfl) ?ff14W5 ?rr14W5 ?hq14W5 (Or.inl ⟨?hw14W5, ?hy14W5⟩) (by assumption) ?rest14W5
      case oi0_14W5 =>
        conv =>
          lhs
          whnf
          arg 1
          whnf
      case hq14W5 => exact fun _ _ _ h => h
      case ff14W5 => kernel_rfl
      case rr14W5 => kernel_rfl
      case hw14W5 => rfl
      case hy14W5 =>
        intro w hSw
        (try dsimp only at hSw)
        first
        | (go_simp; done)
        | (go_simp; with_reducible rfl)
      try simp only [Act.put, List.setIfInBounds_toArray, List.set_cons_zero, List.set_cons_succ]
      refine wpAnyH_take (i := 15) (oi := ?oi15W5) (v := ?v15W5) ?oi0_15W5 (by kernel_rfl) ?ff15W5 ?rr15W5 ?hq15W5 (Or.inl ⟨?hw15W5, ?hy15W5⟩) (by assumption) ?rest15W5
      case oi0_15W5 =>
        conv =>
          lhs
          whnf
          arg 1
          whnf
      case hq15W5 => exact fun _ _ _ h => h
      case ff15W5 => kernel_rfl
      case rr15W5 => kernel_rfl
      case hw15W5 => rfl
      case hy15W5 =>
        intro w hSw
        (try dsimp only at hSw)
        first
        | (go_simp; done)
        | (go_simp; with_reducible rfl)
      try simp only [Act.put, List.setIfInBounds_toArray, List.set_cons_zero, List.set_cons_succ]
      refine wpAnyH_take (i := 16) (oi := ?oi16W5) (v := ?v16W5) ?oi0_16W5 (by kernel_rfl) ?ff16W5 ?rr16W5 ?hq16W5 (Or.inl ⟨?hw16W5, ?hy16W5⟩) (by assumption) ?rest16W5
      case oi0_16W5 =>
        conv =>
          lhs
          whnf
          arg 1
          whnf
      case hq16W5 => exact fun _ _ _ h => h
      case ff16W5 => kernel_rfl
      case rr16W5 => kernel_rfl
      case hw16W5 => rfl
      case hy16W5 =>
        intro w hSw
        (try dsimp only at hSw)
        first
        | (go_simp; done)
        | (go_simp; with_reducible rfl)
      try simp only [Act.put, List.setIfInBounds_toArray, List.set_cons_zero, List.set_cons_succ]
      refine wpAnyH_take (i := 17) (oi := ?oi17W5) (v := ?v17W5) ?oi0_17W5 (by kernel_rfl) ?ff17W5 ?rr17W5 ?hq17W5 (Or.inl ⟨?hw17W5, ?hy17W5⟩) (by assumption) ?rest17W5
      case oi0_17W5 =>
        conv =>
          lhs
          whnf
          arg 1
          whnf
      case hq17W5 => exact fun _ _ _ h => h
      case ff17W5 => kernel_rfl
      case rr17W5 => kernel_rfl
      case hw17W5 => rfl
      case hy17W5 =>
        intro w hSw
        (try dsimp only at hSw)
        first
        | (go_simp; done)
        | (go_simp; with_reducible rfl)
      try simp only [Act.put, List.setIfInBounds_toArray, List.set_cons_zero, List.set_cons_succ]
      refine wpAnyH_take (i := 18) (oi := ?oi18W5) (v := ?v18W5) ?oi0_18W5 (by kernel_rfl) ?ff18W5 ?rr18W5 ?hq18W5 (Or.inl ⟨?hw18W5, ?hy18W5⟩) (by assumption) ?rest18W5
      case oi0_18W5 =>
        conv =>
          lhs
          whnf
          arg 1
          whnf
      case hq18W5 => exact fun _ _ _ h => h
      case ff18W5 => kernel_rfl
      case rr18W5 => kernel_rfl
      case hw18W5 => rfl
      case hy18W5 =>
        intro w hSw
        (try dsimp only at hSw)
        first
        | (go_simp; done)
        | (go_simp; with_reducible rfl)
      try simp only [Act.put, List.setIfInBounds_toArray, List.set_cons_zero, List.set_cons_succ]
      refine wpAnyH_take (i := 19) (oi := ?oi19W5) (v := ?v19W5) ?oi0_19W5 (by kernel_rfl) ?ff19W5 ?rr19W5 ?hq19W5 (Or.inl ⟨?hw19W5, ?hy19W5⟩) (by assumption) ?rest19W5
      case oi0_19W5 =>
        conv =>
          lhs
          whnf
          arg 1
          whnf
      case hq19W5 => exact fun _ _ _ h => h
      case ff19W5 => kernel_rfl
      case rr19W5 => kernel_rfl
      case hw19W5 => rfl
      case hy19W5 =>
        intro w hSw
        (try dsimp only at hSw)
        first
        | (go_simp; done)
        | (go_simp; with_reducible rfl)
      try simp only [Act.put, List.setIfInBounds_toArray, List.set_cons_zero, List.set_cons_succ]
      refine wpAnyH_take (i := 20) (oi := ?oi20W5) (v := ?v20W5) ?oi0_20W5 (by kernel_rfl) ?ff20W5 ?rr20W5 ?hq20W5 (Or.inl ⟨?hw20W5, ?hy20W5⟩) (by assumption) ?rest20W5
      case oi0_20W5 =>
        conv =>
          lhs
          whnf
          arg 1
          whnf
      case hq20W5 => exact fun _ _ _ h => h
      case ff20W5 => kernel_rfl
      case rr20W5 => kernel_rfl
      case hw20W5 => rfl
      case hy20W5 =>
        intro w hSw
        (try dsimp only at hSw)
        first
        | (go_simp; done)
        | (go_simp; with_reducible rfl)
      try simp only [Act.put, List.setIfInBounds_toArray, List.set_cons_zero, List.set_cons_succ]
      refine wpAnyH_take (i := 21) (oi := ?oi21W5) (v := ?v21W5) ?oi0_21W5 (by kernel_rfl) ?ff21W5 ?rr21W5 ?hq21W5 (Or.inl ⟨?hw21W5, ?hy21W5⟩) (by assumption) ?rest21W5
      case oi0_21W5 =>
        conv =>
          lhs
          whnf
          arg 1
          whnf
      case hq21W5 => exact fun _ _ _ h => h
      case ff21W5 => kernel_rfl
      case rr21W5 => kernel_rfl
      case hw21W5 => rfl
      case hy21W5 =>
        intro w hSw
        (try dsimp only at hSw)
        first
        | (go_simp; done)
        | (go_simp; with_reducible rfl)
      try simp only [Act.put, List.setIfInBounds_toArray, List.set_cons_zero, List.set_cons_succ]
      refine wpAnyH_take (i := 22) (oi := ?oi22W5) (v := ?v22W5) ?oi0_22W5 (by kernel_rfl) ?ff22W5 ?rr22W5 ?hq22W5 (Or.inl ⟨?hw22W5, ?hy22W5⟩) (by assumption) ?rest22W5
      case oi0_22W5 =>
        conv =>
          lhs
          whnf
          arg 1
          whnf
      case hq22W5 => exact fun _ _ _ h => h
      case ff22W5 => kernel_rfl
      case rr22W5 => kernel_rfl
      case hw22W5 => rfl
      case hy22W5 =>
        intro w hSw
        (try dsimp only at hSw)
        first
        | (go_simp; done)
        | (go_simp; with_reducible rfl)
      try simp only [Act.put, List.setIfInBounds_toArray, List.set_cons_zero, List.set_cons_succ]
      refine wpAnyH_take (i := 23) (oi := ?oi23W5) (v := ?v23W5) ?oi0_23W5 (by kernel_rfl) ?ff23W5 ?rr23W5 ?hq23W5 (Or.inl ⟨?hw23W5, ?hy23W5⟩) (by assumption) ?rest23W5
      case oi0_23W5 =>
        conv =>
          lhs
          whnf
          arg 1
          whnf
      case hq23W5 => exact fun _ _ _ h => h
      case ff23W5 => kernel_rfl
      case rr23W5 => kernel_rfl
      case hw23W5 => rfl
      case hy23W5 =>
        intro w hSw
        (try dsimp only at hSw)
        first
        | (go_simp; done)
        | (go_simp; with_reducible rfl)
      try simp only [Act.put, List.setIfInBounds_toArray, List.set_cons_zero, List.set_cons_succ]
      refine wpAnyH_take (i := 24) (oi := ?oi24W5) (v := ?v24W5) ?oi0_24W5 (by kernel_rfl) ?ff24W5 ?rr24W5 ?hq24W5 (Or.inl ⟨?hw24W5, ?hy24W5⟩) (by assumption) ?rest24W5
      case oi0_24W5 =>
        conv =>
          lhs
          whnf
          arg 1
          whnf
      case hq24W5 => exact fun _ _ _ h => h
      case ff24W5 => kernel_rfl
      case rr24W5 => kernel_rfl
      case hw24W5 => rfl
      case hy24W5 =>
        intro w hSw
        (try dsimp only at hSw)
        first
        | (go_simp; done)
        | (go_simp; with_reducible rfl)
      try simp only [Act.put, List.setIfInBounds_toArray, List.set_cons_zero, List.set_cons_succ]
      refine wpAnyH_take (i := 25) (oi := ?oi25W5) (v := ?v25W5) ?oi0_25W5 (by kernel_rfl) ?ff25W5 ?rr25W5 ?hq25W5 (Or.inl ⟨?hw25W5, ?hy25W5⟩) (by assumption) ?rest25W5
      case oi0_25W5 =>
        conv =>
          lhs
          whnf
          arg 1
          whnf
      case hq25W5 => exact fun _ _ _ h => h
      case ff25W5 => kernel_rfl
      case rr25W5 => kernel_rfl
      case hw25W5 => rfl
      case hy25W5 =>
        intro w hSw
        (try dsimp only at hSw)
        first
        | (go_simp; done)
        | (go_simp; with_reducible rfl)
      try simp only [Act.put, List.setIfInBounds_toArray, List.set_cons_zero, List.set_cons_succ]
      refine wpAnyH_take (i := 26) (oi := ?oi26W5) (v := ?v26W5) ?oi0_26W5 (by kernel_rfl) ?ff26W5 ?rr26W5 ?hq26W5 (Or.inl ⟨?hw26W5, ?hy26W5⟩) (by assumption) ?rest26W5
      case oi0_26W5 =>
        conv =>
          lhs
          whnf
          arg 1
          whnf
      case hq26W5 => exact fun _ _ _ h => h
      case ff26W5 => kernel_rfl
      case rr26W5 => kernel_rfl
      case hw26W5 => rfl
      case hy26W5 =>
        intro w hSw
        (try dsimp only at hSw)
        first
        | (go_simp; done)
        | (go_simp; with_reducible rfl)
      try simp only [Act.put, List.setIfInBounds_toArray, List.set_cons_zero, List.set_cons_succ]
      refine wpAnyH_take (i := 27) (oi := ?oi27W5) (v := ?v27W5) ?oi0_27W5 (by kernel_rfl) ?ff27W5 ?rr27W5 ?hq27W5 (Or.inl ⟨?hw27W5, ?hy27W5⟩) (by assumption) ?rest27W5
      case oi0_27W5 =>
        conv =>
          lhs
          whnf
          arg 1
          whnf
      case hq27W5 => exact fun _ _ _ h => h
      case ff27W5 => kernel_rfl
      case rr27W5 => kernel_rfl
      case hw27W5 => rfl
      case hy27W5 =>
        intro w hSw
        (try dsimp only at hSw)
        first
        | (go_simp; done)
        | (go_simp; with_reducible rfl)
      try simp only [Act.put, List.setIfInBounds_toArray, List.set_cons_zero, List.set_cons_succ]
      refine wpAnyH_take (i := 28) (oi := ?oi28W5) (v := ?v28W5) ?oi0_28W5 (by kernel_rfl) ?ff28W5 ?rr28W5 ?hq28W5 (Or.inl ⟨?hw28W5, ?hy28W5⟩) (by assumption) ?rest28W5
      case oi0_28W5 =>
        conv =>
          lhs
          whnf
          arg 1
          whnf
      case hq28W5 => exact fun _ _ _ h => h
      case ff28W5 => kernel_rfl
      case rr28W5 => kernel_rfl
      case hw28W5 => rfl
      case hy28W5 =>
        intro w hSw
        (try dsimp only at hSw)
        first
        | (go_simp; done)
        | (go_simp; with_reducible rfl)
      try simp only [Act.put, List.setIfInBounds_toArray, List.set_cons_zero, List.set_cons_succ]
      refine wpAnyH_take (i := 29) (oi := ?oi29W5) (v := ?v29W5) ?oi0_29W5 (by kernel_rfl) ?ff29W5 ?rr29W5 ?hq29W5 (Or.inl ⟨?hw29W5, ?hy29W5⟩) (by assumption) ?rest29W5
      case oi0_29W5 =>
        conv =>
          lhs
          whnf
          arg 1
          whnf
      case hq29W5 => exact fun _ _ _ h => h
      case ff29W5 => kernel_rfl
      case rr29W5 => kernel_rfl
      case hw29W5 => rfl
      case hy29W5 =>
        intro w hSw
        (try dsimp only at hSw)
        first
        | (go_simp; done)
        | (go_simp; with_reducible rfl)
      try simp only [Act.put, List.setIfInBounds_toArray, List.set_cons_zero, List.set_cons_succ]
      refine wpAnyH_take (i := 30) (oi := ?oi30W5) (v := ?v30W5) ?oi0_30W5 (by kernel_rfl) ?ff30W5 ?rr30W5 ?hq30W5 (Or.inl ⟨?hw30W5, ?hy30W5⟩) (by assumption) ?rest30W5
      case oi0_30W5 =>
        conv =>
          lhs
          whnf
          arg 1
          whnf
      case hq30W5 => exact fun _ _ _ h => h
      case ff30W5 => kernel_rfl
      case rr30W5 => kernel_rfl
      case hw30W5 => rfl
      case hy30W5 =>
        intro w hSw
        (try dsimp only at hSw)
        first
        | (go_simp; done)
        | (go_simp; with_reducible rfl)
      try simp only [Act.put, List.setIfInBounds_toArray, List.set_cons_zero, List.set_cons_succ]
      refine wpAnyH_take (i := 31) (oi := ?oi31W5) (v := ?v31W5) ?oi0_31W5 (by kernel_rfl) ?ff31W5 ?rr31W5 ?hq31W5 (Or.inl ⟨?hw31W5, ?hy31W5⟩) (by assumption) ?rest31W5
      case oi0_31W5 =>
        conv =>
          lhs
          whnf
          arg 1
          whnf
      case hq31W5 => exact fun _ _ _ h => h
      case ff31W5 => kernel_rfl
      case rr31W5 => kernel_rfl
      case hw31W5 => rfl
      case hy31W5 =>
        intro w hSw
        (try dsimp only at hSw)
        first
        | (go_simp; done)
        | (go_simp; with_reducible rfl)
      try simp only [Act.put, List.setIfInBounds_toArray, List.set_cons_zero, List.set_cons_succ]
      refine wpAnyH_take (i := 32) (oi := ?oi32W5) (v := ?v32W5) ?oi0_32W5 (by kernel_rfl) ?ff32W5 ?rr32W5 ?hq32W5 (Or.inl ⟨?hw32W5, ?hy32W5⟩) (by assumption) ?rest32W5
      case oi0_32W5 =>
        conv =>
          lhs
          whnf
          arg 1
          whnf
      case hq32W5 => exact fun _ _ _ h => h
      case ff32W5 => kernel_rfl
      case rr32W5 => kernel_rfl
      case hw32W5 => rfl
      case hy32W5 =>
        intro w hSw
        (try dsimp only at hSw)
        first
        | (go_simp; done)
        | (go_simp; with_reducible rfl)
      try simp only [Act.put, List.setIfInBounds_toArray, List.set_cons_zero, List.set_cons_succ]
      refine wpAnyH_take (i := 33) (oi := ?oi33W5) (v := ?v33W5) ?oi0_33W5 (by kernel_rfl) ?ff33W5 ?rr33W5 ?hq33W5 (Or.inl ⟨?hw33W5, ?hy33W5⟩) (by assumption) ?rest33W5
      case oi0_33W5 =>
        conv =>
          lhs
          whnf
          arg 1
          whnf
      case hq33W5 => exact fun _ _ _ h => h
      case ff33W5 => kernel_rfl
      case rr33W5 => kernel_rfl
      case hw33W5 => rfl
      case hy33W5 =>
        intro w hSw
        (try dsimp only at hSw)
        first
        | (go_simp; done)
        | (go_simp; with_reducible rfl)
      try simp only [Act.put, List.setIfInBounds_toArray, List.set_cons_zero, List.set_cons_succ]
      refine wpAnyH_take (i := 34) (oi := ?oi34W5) (v := ?v34W5) ?oi0_34W5 (by kernel_rfl) ?ff34W5 ?rr34W5 ?hq34W5 (Or.inl ⟨?hw34W5, ?hy34W5⟩) (by assumption) ?rest34W5
      case oi0_34W5 =>
        conv =>
          lhs
          whnf
          arg 1
          whnf
      case hq34W5 => exact fun _ _ _ h => h
      case ff34W5 => kernel_rfl
      case rr34W5 => kernel_rfl
      case hw34W5 => rfl
      case hy34W5 =>
        intro w hSw
        (try dsimp only at hSw)
        first
        | (go_simp; done)
        | (go_simp; with_reducible rfl)
      try simp only [Act.put, List.setIfInBounds_toArray, List.set_cons_zero, List.set_cons_succ]
      refine wpAnyH_take (i := 35) (oi := ?oi35W5) (v := ?v35W5) ?oi0_35W5 (by kernel_rfl) ?ff35W5 ?rr35W5 ?hq35W5 (Or.inl ⟨?hw35W5, ?hy35W5⟩) (by assumption) ?rest35W5
      case oi0_35W5 =>
        conv =>
          lhs
          whnf
          arg 1
          whnf
      case hq35W5 => exact fun _ _ _ h => h
      case ff35W5 => kernel_rfl
      case rr35W5 => kernel_rfl
      case hw35W5 => rfl
      case hy35W5 =>
        intro w hSw
        (try dsimp only at hSw)
        first
        | (go_simp; done)
        | (go_simp; with_reducible rfl)
      try simp only [Act.put, List.setIfInBounds_toArray, List.set_cons_zero, List.set_cons_succ]
      refine wpAnyH_take (i := 36) (oi := ?oi36W5) (v := ?v36W5) ?oi0_36W5 (by kernel_rfl) ?ff36W5 ?rr36W5 ?hq36W5 (Or.inl ⟨?hw36W5, ?hy36W5⟩) (by assumption) ?rest36W5
      case oi0_36W5 =>
        conv =>
          lhs
          whnf
          arg 1
          whnf
      case hq36W5 => exact fun _ _ _ h => h
      case ff36W5 => kernel_rfl
      case rr36W5 => kernel_rfl
      case hw36W5 => rfl
      case hy36W5 =>
        intro w hSw
        (try dsimp only at hSw)
        first
        | (go_simp; done)
        | (go_simp; with_reducible rfl)
      try simp only [Act.put, List.setIfInBounds_toArray, List.set_cons_zero, List.set_cons_succ]
      refine wpAnyH_take (i := 37) (oi := ?oi37W5) (v := ?v37W5) ?oi0_37W5 (by kernel_rfl) ?ff37W5 ?rr37W5 ?hq37W5 (Or.inl ⟨?hw37W5, ?hy37W5⟩) (by assumption) ?rest37W5
      case oi0_37W5 =>
        conv =>
          lhs
          whnf
          arg 1
          whnf
      case hq37W5 => exact fun _ _ _ h => h
      case ff37W5 => kernel_rfl
      case rr37W5 => kernel_rfl
      case hw37W5 => rfl
      case hy37W5 =>
        intro w hSw
        (try dsimp only at hSw)
        first
        | (go_simp; done)
        | (go_simp; with_reducible rfl)
      try simp only [Act.put, List.setIfInBounds_toArray, List.set_cons_zero, List.set_cons_succ]
      refine wpAnyH_take (i := 38) (oi := ?oi38W5) (v := ?v38W5) ?oi0_38W5 (by kernel_rfl) ?ff38W5 ?rr38W5 ?hq38W5 (Or.inl ⟨?hw38W5, ?hy38W5⟩) (by assumption) ?rest38W5
      case oi0_38W5 =>
        conv =>
          lhs
          whnf
          arg 1
          whnf
      case hq38W5 => exact fun _ _ _ h => h
      case ff38W5 => kernel_rfl
      case rr38W5 => kernel_rfl
      case hw38W5 => rfl
      case hy38W5 =>
        intro w hSw
        (try dsimp only at hSw)
        first
        | (go_simp; done)
        | (go_simp; with_reducible rfl)
      try simp only [Act.put, List.setIfInBounds_toArray, List.set_cons_zero, List.set_cons_succ]
      refine wpAnyH_take (i := 39) (oi := ?oi39W5) (v := ?v39W5) ?oi0_39W5 (by kernel_rfl) ?ff39W5 ?rr39W5 ?hq39W5 (Or.inl ⟨?hw39W5, ?hy39W5⟩) (by assumption) ?rest39W5
      case oi0_39W5 =>
        conv =>
          lhs
          whnf
          arg 1
          whnf
      case hq39W5 => exact fun _ _ _ h => h
      case ff39W5 => kernel_rfl
      case rr39W5 => kernel_rfl
      case hw39W5 => rfl
      case hy39W5 =>
        intro w hSw
        (try dsimp only at hSw)
        first
        | (go_simp; done)
        | (go_simp; with_reducible rfl)
      try simp only [Act.put, List.setIfInBounds_toArray, List.set_cons_zero, List.set_cons_succ]
      refine wpAnyH_take (i := 40) (oi := ?oi40W5) (v := ?v40W5) ?oi0_40W5 (by kernel_rfl) ?ff40W5 ?rr40W5 ?hq40W5 (Or.inl ⟨?hw40W5, ?hy40W5⟩) (by assumption) ?rest40W5
      case oi0_40W5 =>
        conv =>
          lhs
          whnf
          arg 1
          whnf
      case hq40W5 => exact fun _ _ _ h => h
      case ff40W5 => kernel_rfl
      case rr40W5 => kernel_rfl
      case hw40W5 => rfl
      case hy40W5 =>
        intro w hSw
        (try dsimp only at hSw)
        first
        | (go_simp; done)
        | (go_simp; with_reducible rfl)
      try simp only [Act.put, List.setIfInBounds_toArray, List.set_cons_zero, List.set_cons_succ]
      refine wpAnyH_take (i := 41) (oi := ?oi41W5) (v := ?v41W5) ?oi0_41W5 (by kernel_rfl) ?ff41W5 ?rr41W5 ?hq41W5 (Or.inl ⟨?hw41W5, ?hy41W5⟩) (by assumption) ?rest41W5
      case oi0_41W5 =>
        conv =>
          lhs
          whnf
          arg 1
          whnf
      case hq41W5 => exact fun _ _ _ h => h
      case ff41W5 => kernel_rfl
      case rr41W5 => kernel_rfl
      case hw41W5 => rfl
      case hy41W5 =>
        intro w hSw
        (try dsimp only at hSw)
        first
        | (go_simp; done)
        | (go_simp; with_reducible rfl)
      try simp only [Act.put, List.setIfInBounds_toArray, List.set_cons_zero, List.set_cons_succ]
      refine wpAnyH_take (i := 42) (oi := ?oi42W5) (v := ?v42W5) ?oi0_42W5 (by kernel_rfl) ?ff42W5 ?rr42W5 ?hq42W5 (Or.inl ⟨?hw42W5, ?hy42W5⟩) (by assumption) ?rest42W5
      case oi0_42W5 =>
        conv =>
          lhs
          whnf
          arg 1
          whnf
      case hq42W5 => exact fun _ _ _ h => h
      case ff42W5 => kernel_rfl
      case rr42W5 => kernel_rfl
      case hw42W5 => rfl
      case hy42W5 =>
        intro w hSw
        (try dsimp only at hSw)
        first
        | (go_simp; done)
        | (go_simp; with_reducible rfl)
      try simp only [Act.put, List.setIfInBounds_toArray, List.set_cons_zero, List.set_cons_succ]
      refine wpAnyH_take (i := 43) (oi := ?oi43W5) (v := ?v43W5) ?oi0_43W5 (by kernel_rfl) ?ff43W5 ?rr43W5 ?hq43W5 (Or.inl ⟨?hw43W5, ?hy43W5⟩) (by assumption) ?rest43W5
      case oi0_43W5 =>
        conv =>
          lhs
          whnf
          arg 1
          whnf
      case hq43W5 => exact fun _ _ _ h => h
      case ff43W5 => kernel_rfl
      case rr43W5 => kernel_rfl
      case hw43W5 => rfl
      case hy43W5 =>
        intro w hSw
        (try dsimp only at hSw)
        first
        | (go_simp; done)
        | (go_simp; with_reducible rfl)
      try simp only [Act.put, List.setIfInBounds_toArray, List.set_cons_zero, List.set_cons_succ]
      refine wpAnyH_take (i := 44) (oi := ?oi44W5) (v := ?v44W5) ?oi0_44W5 (by kernel_rfl) ?ff44W5 ?rr44W5 ?hq44W5 (Or.inl ⟨?hw44W5, ?hy44W5⟩) (by assumption) ?rest44W5
      case oi0_44W5 =>
        conv =>
          lhs
          whnf
          arg 1
          whnf
      case hq44W5 => exact fun _ _ _ h => h
      case ff44W5 => kernel_rfl
      case rr44W5 => kernel_rfl
      case hw44W5 => rfl
      case hy44W5 =>
        intro w hSw
        (try dsimp only at hSw)
        first
        | (go_simp; done)
        | (go_simp; with_reducible rfl)
      try simp only [Act.put, List.setIfInBounds_toArray, List.set_cons_zero, List.set_cons_succ]
      refine wpAnyH_take (i := 45) (oi := ?oi45W5) (v := ?v45W5) ?oi0_45W5 (by kernel_rfl) ?ff45W5 ?rr45W5 ?hq45W5 (Or.inl ⟨?hw45W5, ?hy45W5⟩) (by assumption) ?rest45W5
      case oi0_45W5 =>
        conv =>
          lhs
          whnf
          arg 1
          whnf
      case hq45W5 => exact fun _ _ _ h => h
      case ff45W5 => kernel_rfl
      case rr45W5 => kernel_rfl
      case hw45W5 => rfl
      case hy45W5 =>
        intro w hSw
        (try dsimp only at hSw)
        first
        | (go_simp; done)
        | (go_simp; with_reducible rfl)
      try simp only [Act.put, List.setIfInBounds_toArray, List.set_cons_zero, List.set_cons_succ]
      refine wpAnyH_done (by kernel_rfl) ?_ _
      go_wp2_with fail
      go_ret
      exact ⟨rfl, V.out⟩
    have d4 : decide (s.fr < y.to_) = false := decide_eq_false e4
    have HST := hide (show ∀ j, j < k + 1 → SpOk len xs j from fun j hj => by
      rcases Nat.lt_succ_iff_lt_or_eq.1 hj with h | rfl
      · exact hr.out j h
      · unfold SpOk SpIn; rw [HS.out]; simp only [Option.getD_some]; exact ⟨by omega, .inr (by rw [HY.out]; simp only [Option.getD_some]; omega)⟩)
    go_wp2_with fail
    refine wp_region_held_drew (S := (fun w' => w'.cell? ⟨b, o + k * 2, none⟩ = some (.int .i64 s.fr) ∧ w'.cell? ⟨b, o + k * 2 + 1, none⟩ = some (.int .i64 s.to_) ∧ w'.cell? ⟨b, o + q * 2 + 1, none⟩ = some (.int .i64 y.to_))) (by kernel_rfl) (by exact ⟨c0', c1', d1'⟩) (fun hHeld => ?_)
    refine wpAnyH_take (i := 0) (oi := ?oi0W6) (v := ?v0W6) ?oi0_0W6 (by kernel_rfl) ?ff0W6 ?rr0W6 ?hq0W6 (Or.inl ⟨?hw0W6, ?hy0W6⟩) (by assumption) ?rest0W6
    case oi0_0W6 =>
      conv =>
        lhs
        whnf
        arg 1
        whnf
    case hq0W6 => exact fun _ _ _ h => h
    case ff0W6 => kernel_rfl
    case rr0W6 => kernel_rfl
    case hw0W6 => rfl
    case hy0W6 =>
      intro w hSw
      (try dsimp only at hSw)
      first
      | (go_simp; done)
      | (go_simp; with_reducible rfl)
    try simp only [Act.put, List.setIfInBounds_toArray, List.set_cons_zero, List.set_cons_succ]
    refine wpAnyH_take (i := 1) (oi := ?oi1W6) (v := ?v1W6) ?oi0_1W6 (by kernel_rfl) ?ff1W6 ?rr1W6 ?hq1W6 (Or.inl ⟨?hw1W6, ?hy1W6⟩) (by assumption) ?rest1W6
    case oi0_1W6 =>
      conv =>
        lhs
        whnf
        arg 1
        whnf
    case hq1W6 => exact fun _ _ _ h => h
    case ff1W6 => kernel_rfl
    case rr1W6 => kernel_rfl
    case hw1W6 => rfl
    case hy1W6 =>
      intro w hSw
      (try dsimp only at hSw)
      first
      | (go_simp; done)
      | (go_simp; with_reducible rfl)
    try simp only [Act.put, List.setIfInBounds_toArray, List.set_cons_zero, List.set_cons_succ]
    refine wpAnyH_take (i := 2) (oi := ?oi2W6) (v := ?v2W6) ?oi0_2W6 (by kernel_rfl) ?ff2W6 ?rr2W6 ?hq2W6 (Or.inl ⟨?hw2W6, ?hy2W6⟩) (by assumption) ?rest2W6
    case oi0_2W6 =>
      conv =>
        lhs
        whnf
        arg 1
        whnf
    case hq2W6 => exact fun _ _ _ h => h
    case ff2W6 => kernel_rfl
    case rr2W6 => kernel_rfl
    case hw2W6 => rfl
    case hy2W6 =>
      intro w hSw
      (try dsimp only at hSw)
      first
      | (go_simp; done)
      | (go_simp; with_reducible rfl)
    try simp only [Act.put, List.setIfInBounds_toArray, List.set_cons_zero, List.set_cons_succ]
    refine wpAnyH_take (i := 3) (oi := ?oi3W6) (v := ?v3W6) ?oi0_3W6 (by kernel_rfl) ?ff3W6 ?rr3W6 ?hq3W6 (Or.inl ⟨?hw3W6, ?hy3W6⟩) (by assumption) ?rest3W6
    case oi0_3W6 =>
      conv =>
        lhs
        whnf
        arg 1
        whnf
    case hq3W6 => exact fun _ _ _ h => h
    case ff3W6 => kernel_rfl
    case rr3W6 => kernel_rfl
    case hw3W6 => rfl
    case hy3W6 =>
      intro w hSw
      (try dsimp only at hSw)
      first
      | (go_simp; done)
      | (go_simp; with_reducible rfl)
    try simp only [Act.put, List.setIfInBounds_toArray, List.set_cons_zero, List.set_cons_succ]
    refine wpAnyH_take (i := 4) (oi := ?oi4W6) (v := ?v4W6) ?oi0_4W6 (by kernel_rfl) ?ff4W6 ?rr4W6 ?hq4W6 (Or.inl ⟨?hw4W6, ?hy4W6⟩) (by assumption) ?rest4W6
    case oi0_4W6 =>
      conv =>
        lhs
        whnf
        arg 1
        whnf
    case hq4W6 => exact fun _ _ _ h => h
    case ff4W6 => kernel_rfl
    case rr4W6 => kernel_rfl
    case hw4W6 => rfl
    case hy4W6 =>
      intro w hSw
      (try dsimp only at hSw)
      first
      | (go_simp; done)
      | (go_simp; with_reducible rfl)
    try simp only [Act.put, List.setIfInBounds_toArray, List.set_cons_zero, List.set_cons_succ]
    refine wpAnyH_take (i := 5) (oi := ?oi5W6) (v := ?v5W6) ?oi0_5W6 (by kernel_rfl) ?ff5W6 ?rr5W6 ?hq5W6 (Or.inl ⟨?hw5W6, ?hy5W6⟩) (by assumption) ?rest5W6
    case oi0_5W6 =>
      conv =>
        lhs
        whnf
        arg 1
        whnf
    case hq5W6 => exact fun _ _ _ h => h
    case ff5W6 => kernel_rfl
    case rr5W6 => kernel_rfl
    case hw5W6 => rfl
    case hy5W6 =>
      intro w hSw
      (try dsimp only at hSw)
      first
      | (go_simp; done)
      | (go_simp; with_reducible rfl)
    try simp only [Act.put, List.setIfInBounds_toArray, List.set_cons_zero, List.set_cons_succ]
    refine wpAnyH_take (i := 6) (oi := ?oi6W6) (v := ?v6W6) ?oi0_6W6 (by kernel_rfl) ?ff6W6 ?rr6W6 ?hq6W6 (Or.inl ⟨?hw6W6, ?hy6W6⟩) (by assumption) ?rest6W6
    case oi0_6W6 =>
      conv =>
        lhs
        whnf
        arg 1
        whnf
    case hq6W6 => exact fun _ _ _ h => h
    case ff6W6 => kernel_rfl
    case rr6W6 => kernel_rfl
    case hw6W6 => rfl
    case hy6W6 =>
      intro w hSw
      (try dsimp only at hSw)
      first
      | (go_simp; done)
      | (go_simp; with_reducible rfl)
    try simp only [Act.put, List.setIfInBounds_toArray, List.set_cons_zero, List.set_cons_succ]
    refine wpAnyH_take (i := 7) (oi := ?oi7W6) (v := ?v7W6) ?oi0_7W6 (by kernel_rfl) ?ff7W6 ?rr7W6 ?hq7W6 (Or.inl ⟨?hw7W6, ?hy7W6⟩) (by assumption) ?rest7W6
    case oi0_7W6 =>
      conv =>
        lhs
        whnf
        arg 1
        whnf
    case hq7W6 => exact fun _ _ _ h => h
    case ff7W6 => kernel_rfl
    case rr7W6 => kernel_rfl
    case hw7W6 => rfl
    case hy7W6 =>
      intro w hSw
      (try dsimp only at hSw)
      first
      | (go_simp; done)
      | (go_simp; with_reducible rfl)
    try simp only [Act.put, List.setIfInBounds_toArray, List.set_cons_zero, List.set_cons_succ]
    refine wpAnyH_take (i := 8) (oi := ?oi8W6) (v := ?v8W6) ?oi0_8W6 (by kernel_rfl) ?ff8W6 ?rr8W6 ?hq8W6 (Or.inl ⟨?hw8W6, ?hy8W6⟩) (by assumption) ?rest8W6
    case oi0_8W6 =>
      conv =>
        lhs
        whnf
        arg 1
        whnf
    case hq8W6 => exact fun _ _ _ h => h
    case ff8W6 => kernel_rfl
    case rr8W6 => kernel_rfl
    case hw8W6 => rfl
    case hy8W6 =>
      intro w hSw
      (try dsimp only at hSw)
      first
      | (go_simp; done)
      | (go_simp; with_reducible rfl)
    try simp only [Act.put, List.setIfInBounds_toArray, List.set_cons_zero, List.set_cons_succ]
    refine wpAnyH_take (i := 9) (oi := ?oi9W6) (v := ?v9W6) ?oi0_9W6 (by kernel_rfl) ?ff9W6 ?rr9W6 ?hq9W6 (Or.inl ⟨?hw9W6, ?hy9W6⟩) (by assumption) ?rest9W6
    case oi0_9W6 =>
      conv =>
        lhs
        whnf
        arg 1
        whnf
    case hq9W6 => exact fun _ _ _ h => h
    case ff9W6 => kernel_rfl
    case rr9W6 => kernel_rfl
    case hw9W6 => rfl
    case hy9W6 =>
      intro w hSw
      (try dsimp only at hSw)
      first
      | (go_simp; done)
      | (go_simp; with_reducible rfl)
    try simp only [Act.put, List.setIfInBounds_toArray, List.set_cons_zero, List.set_cons_succ]
    refine wpAnyH_take (i := 10) (oi := ?oi10W6) (v := ?v10W6) ?oi0_10W6 (by kernel_rfl) ?ff10W6 ?rr10W6 ?hq10W6 (Or.inl ⟨?hw10W6, ?hy10W6⟩) (by assumption) ?rest10W6
    case oi0_10W6 =>
      conv =>
        lhs
        whnf
        arg 1
        whnf
    case hq10W6 => exact fun _ _ _ h => h
    case ff10W6 => kernel_rfl
    case rr10W6 => kernel_rfl
    case hw10W6 => rfl
    case hy10W6 =>
      intro w hSw
      (try dsimp only at hSw)
      first
      | (go_simp; done)
      | (go_simp; with_reducible rfl)
    try simp only [Act.put, List.setIfInBounds_toArray, List.set_cons_zero, List.set_cons_succ]
    refine wpAnyH_take (i := 11) (oi := ?oi11W6) (v := ?v11W6) ?oi0_11W6 (by kernel_rfl) ?ff11W6 ?rr11W6 ?hq11W6 (Or.inl ⟨?hw11W6, ?hy11W6⟩) (by assumption) ?rest11W6
    case oi0_11W6 =>
      conv =>
        lhs
        whnf
        arg 1
        whnf
    case hq11W6 => exact fun _ _ _ h => h
    case ff11W6 => kernel_rfl
    case rr11W6 => kernel_rfl
    case hw11W6 => rfl
    case hy11W6 =>
      intro w hSw
      (try dsimp only at hSw)
      first
      | (go_simp; done)
      | (go_simp; with_reducible rfl)
    try simp only [Act.put, List.setIfInBounds_toArray, List.set_cons_zero, List.set_cons_succ]
    refine wpAnyH_take (i := 12) (oi := ?oi12W6) (v := ?v12W6) ?oi0_12W6 (by kernel_rfl) ?ff12W6 ?rr12W6 ?hq12W6 (Or.inl ⟨?hw12W6, ?hy12W6⟩) (by assumption) ?rest12W6
    case oi0_12W6 =>
      conv =>
        lhs
        whnf
        arg 1
        whnf
    case hq12W6 => exact fun _ _ _ h => h
    case ff12W6 => kernel_rfl
    case rr12W6 => kernel_rfl
    case hw12W6 => rfl
    case hy12W6 =>
      intro w hSw
      (try dsimp only at hSw)
      first
      | (go_simp; done)
      | (go_simp; with_reducible rfl)
    try simp only [Act.put, List.setIfInBounds_toArray, List.set_cons_zero, List.set_cons_succ]
    refine wpAnyH_take (i := 13) (oi := ?oi13W6) (v := ?v13W6) ?oi0_13W6 (by kernel_rfl) ?ff13W6 ?rr13W6 ?hq13W6 (Or.inl ⟨?hw13W6, ?hy13W6⟩) (by assumption) ?rest13W6
    case oi0_13W6 =>
      conv =>
        lhs
        whnf
        arg 1
        whnf
    case hq13W6 => exact fun _ _ _ h => h
    case ff13W6 => kernel_rfl
    case rr13W6 => kernel_rfl
    case hw13W6 => rfl
    case hy13W6 =>
      intro w hSw
      (try dsimp only at hSw)
      first
      | (go_simp; done)
      | (go_simp; with_reducible rfl)
    try simp only [Act.put, List.setIfInBounds_toArray, List.set_cons_zero, List.set_cons_succ]
    refine wpAnyH_take (i := 14) (oi := ?oi14W6) (v := ?v14W6) ?oi0_14W6 (by kernel_rfl) ?ff14W6 ?rr14W6 ?hq14W6 (Or.inl ⟨?hw14W6, ?hy14W6⟩) (by assumption) ?rest14W6
    case oi0_14W6 =>
      conv =>
        lhs
        whnf
        arg 1
        whnf
    case hq14W6 => exact fun _ _ _ h => h
    case ff14W6 => kernel_rfl
    case rr14W6 => kernel_rfl
    case hw14W6 => rfl
    case hy14W6 =>
      intro w hSw
      (try dsimp only at hSw)
      first
      | (go_simp; done)
      | (go_simp; with_reducible rfl)
    try simp only [Act.put, List.setIfInBounds_toArray, List.set_cons_zero, List.set_cons_succ]
    refine wpAnyH_take (i := 15) (oi := ?oi15W6) (v := ?v15W6) ?oi0_15W6 (by kernel_rfl) ?ff15W6 ?rr15W6 ?hq15W6 (Or.inl ⟨?hw15W6, ?hy15W6⟩) (by assumption) ?rest15W6
    case oi0_15W6 =>
      conv =>
        lhs
        whnf
        arg 1
        whnf
    case hq15W6 => exact fun _ _ _ h => h
    case ff15W6 => kernel_rfl
    case rr15W6 => kernel_rfl
    case hw15W6 => rfl
    case hy15W6 =>
      intro w hSw
      (try dsimp only at hSw)
      first
      | (go_simp; done)
      | (go_simp; with_reducible rfl)
    try simp only [Act.put, List.setIfInBounds_toArray, List.set_cons_zero, List.set_cons_succ]
    refine wpAnyH_take (i := 16) (oi := ?oi16W6) (v := ?v16W6) ?oi0_16W6 (by kernel_rfl) ?ff16W6 ?rr16W6 ?hq16W6 (Or.inl ⟨?hw16W6, ?hy16W6⟩) (by assumption) ?rest16W6
    case oi0_16W6 =>
      conv =>
        lhs
        whnf
        arg 1
        whnf
    case hq16W6 => exact fun _ _ _ h => h
    case ff16W6 => kernel_rfl
    case rr16W6 => kernel_rfl
    case hw16W6 => rfl
    case hy16W6 =>
      intro w hSw
      (try dsimp only at hSw)
      first
      | (go_simp; done)
      | (go_simp; with_reducible rfl)
    try simp only [Act.put, List.setIfInBounds_toArray, List.set_cons_zero, List.set_cons_succ]
    refine wpAnyH_take (i := 17) (oi := ?oi17W6) (v := ?v17W6) ?oi0_17W6 (by kernel_rfl) ?ff17W6 ?rr17W6 ?hq17W6 (Or.inl ⟨?hw17W6, ?hy17W6⟩) (by assumption) ?rest17W6
    case oi0_17W6 =>
      conv =>
        lhs
        whnf
        arg 1
        whnf
    case hq17W6 => exact fun _ _ _ h => h
    case ff17W6 => kernel_rfl
    case rr17W6 => kernel_rfl
    case hw17W6 => rfl
    case hy17W6 =>
      intro w hSw
      (try dsimp only at hSw)
      first
      | (go_simp; done)
      | (go_simp; with_reducible rfl)
    try simp only [Act.put, List.setIfInBounds_toArray, List.set_cons_zero, List.set_cons_succ]
    refine wpAnyH_take (i := 18) (oi := ?oi18W6) (v := ?v18W6) ?oi0_18W6 (by kernel_rfl) ?ff18W6 ?rr18W6 ?hq18W6 (Or.inl ⟨?hw18W6, ?hy18W6⟩) (by assumption) ?rest18W6
    case oi0_18W6 =>
      conv =>
        lhs
        whnf
        arg 1
        whnf
    case hq18W6 => exact fun _ _ _ h => h
    case ff18W6 => kernel_rfl
    case rr18W6 => kernel_rfl
    case hw18W6 => rfl
    case hy18W6 =>
      intro w hSw
      (try dsimp only at hSw)
      first
      | (go_simp; done)
      | (go_simp; with_reducible rfl)
    try simp only [Act.put, List.setIfInBounds_toArray, List.set_cons_zero, List.set_cons_succ]
    refine wpAnyH_take (i := 19) (oi := ?oi19W6) (v := ?v19W6) ?oi0_19W6 (by kernel_rfl) ?ff19W6 ?rr19W6 ?hq19W6 (Or.inl ⟨?hw19W6, ?hy19W6⟩) (by assumption) ?rest19W6
    case oi0_19W6 =>
      conv =>
        lhs
        whnf
        arg 1
        whnf
    case hq19W6 => exact fun _ _ _ h => h
    case ff19W6 => kernel_rfl
    case rr19W6 => kernel_rfl
    case hw19W6 => rfl
    case hy19W6 =>
      intro w hSw
      (try dsimp only at hSw)
      first
      | (go_simp; done)
      | (go_simp; with_reducible rfl)
    try simp only [Act.put, List.setIfInBounds_toArray, List.set_cons_zero, List.set_cons_succ]
    refine wpAnyH_take (i := 20) (oi := ?oi20W6) (v := ?v20W6) ?oi0_20W6 (by kernel_rfl) ?ff20W6 ?rr20W6 ?hq20W6 (Or.inl ⟨?hw20W6, ?hy20W6⟩) (by assumption) ?rest20W6
    case oi0_20W6 =>
      conv =>
        lhs
        whnf
        arg 1
        whnf
    case hq20W6 => exact fun _ _ _ h => h
    case ff20W6 => kernel_rfl
    case rr20W6 => kernel_rfl
    case hw20W6 => rfl
    case hy20W6 =>
      intro w hSw
      (try dsimp only at hSw)
      first
      | (go_simp; done)
      | (go_simp; with_reducible rfl)
    try simp only [Act.put, List.setIfInBounds_toArray, List.set_cons_zero, List.set_cons_succ]
    refine wpAnyH_take (i := 21) (oi := ?oi21W6) (v := ?v21W6) ?oi0_21W6 (by kernel_rfl) ?ff21W6 ?rr21W6 ?hq21W6 (Or.inl ⟨?hw21W6, ?hy21W6⟩) (by assumption) ?rest21W6
    case oi0_21W6 =>
      conv =>
        lhs
        whnf
        arg 1
        whnf
    case hq21W6 => exact fun _ _ _ h => h
    case ff21W6 => kernel_rfl
    case rr21W6 => kernel_rfl
    case hw21W6 => rfl
    case hy21W6 =>
      intro w hSw
      (try dsimp only at hSw)
      first
      | (go_simp; done)
      | (go_simp; with_reducible rfl)
    try simp only [Act.put, List.setIfInBounds_toArray, List.set_cons_zero, List.set_cons_succ]
    refine wpAnyH_take (i := 22) (oi := ?oi22W6) (v := ?v22W6) ?oi0_22W6 (by kernel_rfl) ?ff22W6 ?rr22W6 ?hq22W6 (Or.inl ⟨?hw22W6, ?hy22W6⟩) (by assumption) ?rest22W6
    case oi0_22W6 =>
      conv =>
        lhs
        whnf
        arg 1
        whnf
    case hq22W6 => exact fun _ _ _ h => h
    case ff22W6 => kernel_rfl
    case rr22W6 => kernel_rfl
    case hw22W6 => rfl
    case hy22W6 =>
      intro w hSw
      (try dsimp only at hSw)
      first
      | (go_simp; done)
      | (go_simp; with_reducible rfl)
    try simp only [Act.put, List.setIfInBounds_toArray, List.set_cons_zero, List.set_cons_succ]
    refine wpAnyH_take (i := 23) (oi := ?oi23W6) (v := ?v23W6) ?oi0_23W6 (by kernel_rfl) ?ff23W6 ?rr23W6 ?hq23W6 (Or.inl ⟨?hw23W6, ?hy23W6⟩) (by assumption) ?rest23W6
    case oi0_23W6 =>
      conv =>
        lhs
        whnf
        arg 1
        whnf
    case hq23W6 => exact fun _ _ _ h => h
    case ff23W6 => kernel_rfl
    case rr23W6 => kernel_rfl
    case hw23W6 => rfl
    case hy23W6 =>
      intro w hSw
      (try dsimp only at hSw)
      first
      | (go_simp; done)
      | (go_simp; with_reducible rfl)
    try simp only [Act.put, List.setIfInBounds_toArray, List.set_cons_zero, List.set_cons_succ]
    refine wpAnyH_take (i := 24) (oi := ?oi24W6) (v := ?v24W6) ?oi0_24W6 (by kernel_rfl) ?ff24W6 ?rr24W6 ?hq24W6 (Or.inl ⟨?hw24W6, ?hy24W6⟩) (by assumption) ?rest24W6
    case oi0_24W6 =>
      conv =>
        lhs
        whnf
        arg 1
        whnf
    case hq24W6 => exact fun _ _ _ h => h
    case ff24W6 => kernel_rfl
    case rr24W6 => kernel_rfl
    case hw24W6 => rfl
    case hy24W6 =>
      intro w hSw
      (try dsimp only at hSw)
      first
      | (go_simp; done)
      | (go_simp; with_reducible rfl)
    try simp only [Act.put, List.setIfInBounds_toArray, List.set_cons_zero, List.set_cons_succ]
    refine wpAnyH_take (i := 25) (oi := ?oi25W6) (v := ?v25W6) ?oi0_25W6 (by kernel_rfl) ?ff25W6 ?rr25W6 ?hq25W6 (Or.inl ⟨?hw25W6, ?hy25W6⟩) (by assumption) ?rest25W6
    case oi0_25W6 =>
      conv =>
        lhs
        whnf
        arg 1
        whnf
    case hq25W6 => exact fun _ _ _ h => h
    case ff25W6 => kernel_rfl
    case rr25W6 => kernel_rfl
    case hw25W6 => rfl
    case hy25W6 =>
      intro w hSw
      (try dsimp only at hSw)
      first
      | (go_simp; done)
      | (go_simp; with_reducible rfl)
    try simp only [Act.put, List.setIfInBounds_toArray, List.set_cons_zero, List.set_cons_succ]
    refine wpAnyH_take (i := 26) (oi := ?oi26W6) (v := ?v26W6) ?oi0_26W6 (by kernel_rfl) ?ff26W6 ?rr26W6 ?hq26W6 (Or.inl ⟨?hw26W6, ?hy26W6⟩) (by assumption) ?rest26W6
    case oi0_26W6 =>
      conv =>
        lhs
        whnf
        arg 1
        whnf
    case hq26W6 => exact fun _ _ _ h => h
    case ff26W6 => kernel_rfl
    case rr26W6 => kernel_rfl
    case hw26W6 => rfl
    case hy26W6 =>
      intro w hSw
      (try dsimp only at hSw)
      first
      | (go_simp; done)
      | (go_simp; with_reducible rfl)
    try simp only [Act.put, List.setIfInBounds_toArray, List.set_cons_zero, List.set_cons_succ]
    refine wpAnyH_take (i := 27) (oi := ?oi27W6) (v := ?v27W6) ?oi0_27W6 (by kernel_rfl) ?ff27W6 ?rr27W6 ?hq27W6 (Or.inl ⟨?hw27W6, ?hy27W6⟩) (by assumption) ?rest27W6
    case oi0_27W6 =>
      conv =>
        lhs
        whnf
        arg 1
        whnf
    case hq27W6 => exact fun _ _ _ h => h
    case ff27W6 => kernel_rfl
    case rr27W6 => kernel_rfl
    case hw27W6 => rfl
    case hy27W6 =>
      intro w hSw
      (try dsimp only at hSw)
      first
      | (go_simp; done)
      | (go_simp; with_reducible rfl)
    try simp only [Act.put, List.setIfInBounds_toArray, List.set_cons_zero, List.set_cons_succ]
    refine wpAnyH_take (i := 28) (oi := ?oi28W6) (v := ?v28W6) ?oi0_28W6 (by kernel_rfl) ?ff28W6 ?rr28W6 ?hq28W6 (Or.inl ⟨?hw28W6, ?hy28W6⟩) (by assumption) ?rest28W6
    case oi0_28W6 =>
      conv =>
        lhs
        whnf
        arg 1
        whnf
    case hq28W6 => exact fun _ _ _ h => h
    case ff28W6 => kernel_rfl
    case rr28W6 => kernel_rfl
    case hw28W6 => rfl
    case hy28W6 =>
      intro w hSw
      (try dsimp only at hSw)
      first
      | (go_simp; done)
      | (go_simp; with_reducible rfl)
    try simp only [Act.put, List.setIfInBounds_toArray, List.set_cons_zero, List.set_cons_succ]
    refine wpAnyH_take (i := 29) (oi := ?oi29W6) (v := ?v29W6) ?oi0_29W6 (by kernel_rfl) ?ff29W6 ?rr29W6 ?hq29W6 (Or.inl ⟨?hw29W6, ?hy29W6⟩) (by assumption) ?rest29W6
    case oi0_29W6 =>
      conv =>
        lhs
        whnf
        arg 1
        whnf
    case hq29W6 => exact fun _ _ _ h => h
    case ff29W6 => kernel_rfl
    case rr29W6 => kernel_rfl
    case hw29W6 => rfl
    case hy29W6 =>
      intro w hSw
      (try dsimp only at hSw)
      first
      | (go_simp; done)
      | (go_simp; with_reducible rfl)
    try simp only [Act.put, List.setIfInBounds_toArray, List.set_cons_zero, List.set_cons_succ]
    refine wpAnyH_take (i := 30) (oi := ?oi30W6) (v := ?v30W6) ?oi0_30W6 (by kernel_rfl) ?ff30W6 ?rr30W6 ?hq30W6 (Or.inl ⟨?hw30W6, ?hy30W6⟩) (by assumption) ?rest30W6
    case oi0_30W6 =>
      conv =>
        lhs
        whnf
        arg 1
        whnf
    case hq30W6 => exact fun _ _ _ h => h
    case ff30W6 => kernel_rfl
    case rr30W6 => kernel_rfl
    case hw30W6 => rfl
    case hy30W6 =>
      intro w hSw
      (try dsimp only at hSw)
      first
      | (go_simp; done)
      | (go_simp; with_reducible rfl)
    try simp only [Act.put, List.setIfInBounds_toArray, List.set_cons_zero, List.set_cons_succ]
    refine wpAnyH_take (i := 31) (oi := ?oi31W6) (v := ?v31W6) ?oi0_31W6 (by kernel_rfl) ?ff31W6 ?rr31W6 ?hq31W6 (Or.inl ⟨?hw31W6, ?hy31W6⟩) (by assumption) ?rest31W6
    case oi0_31W6 =>
      conv =>
        lhs
        whnf
        arg 1
        whnf
    case hq31W6 => exact fun _ _ _ h => h
    case ff31W6 => kernel_rfl
    case rr31W6 => kernel_rfl
    case hw31W6 => rfl
    case hy31W6 =>
      intro w hSw
      (try dsimp only at hSw)
      first
      | (go_simp; done)
      | (go_simp; with_reducible rfl)
    try simp only [Act.put, List.setIfInBounds_toArray, List.set_cons_zero, List.set_cons_succ]
    refine wpAnyH_take (i := 32) (oi := ?oi32W6) (v := ?v32W6) ?oi0_32W6 (by kernel_rfl) ?ff32W6 ?rr32W6 ?hq32W6 (Or.inl ⟨?hw32W6, ?hy32W6⟩) (by assumption) ?rest32W6
    case oi0_32W6 =>
      conv =>
        lhs
        whnf
        arg 1
        whnf
    case hq32W6 => exact fun _ _ _ h => h
    case ff32W6 => kernel_rfl
    case rr32W6 => kernel_rfl
    case hw32W6 => rfl
    case hy32W6 =>
      intro w hSw
      (try dsimp only at hSw)
      first
      | (go_simp; done)
      | (go_simp; with_reducible rfl)
    try simp only [Act.put, List.setIfInBounds_toArray, List.set_cons_zero, List.set_cons_succ]
    refine wpAnyH_take (i := 33) (oi := ?oi33W6) (v := ?v33W6) ?oi0_33W6 (by kernel_rfl) ?ff33W6 ?rr33W6 ?hq33W6 (Or.inl ⟨?hw33W6, ?hy33W6⟩) (by assumption) ?rest33W6
    case oi0_33W6 =>
      conv =>
        lhs
        whnf
        arg 1
        whnf
    case hq33W6 => exact fun _ _ _ h => h
    case ff33W6 => kernel_rfl
    case rr33W6 => kernel_rfl
    case hw33W6 => rfl
    case hy33W6 =>
      intro w hSw
      (try dsimp only at hSw)
      first
      | (go_simp; done)
      | (go_simp; with_reducible rfl)
    try simp only [Act.put, List.setIfInBounds_toArray, List.set_cons_zero, List.set_cons_succ]
    refine wpAnyH_take (i := 34) (oi := ?oi34W6) (v := ?v34W6) ?oi0_34W6 (by kernel_rfl) ?ff34W6 ?rr34W6 ?hq34W6 (Or.inl ⟨?hw34W6, ?hy34W6⟩) (by assumption) ?rest34W6
    case oi0_34W6 =>
      conv =>
        lhs
        whnf
        arg 1
        whnf
    case hq34W6 => exact fun _ _ _ h => h
    case ff34W6 => kernel_rfl
    case rr34W6 => kernel_rfl
    case hw34W6 => rfl
    case hy34W6 =>
      intro w hSw
      (try dsimp only at hSw)
      first
      | (go_simp; done)
      | (go_simp; with_reducible rfl)
    try simp only [Act.put, List.setIfInBounds_toArray, List.set_cons_zero, List.set_cons_succ]
    refine wpAnyH_take (i := 35) (oi := ?oi35W6) (v := ?v35W6) ?oi0_35W6 (by kernel_rfl) ?ff35W6 ?rr35W6 ?hq35W6 (Or.inl ⟨?hw35W6, ?hy35W6⟩) (by assumption) ?rest35W6
    case oi0_35W6 =>
      conv =>
        lhs
        whnf
        arg 1
        whnf
    case hq35W6 => exact fun _ _ _ h => h
    case ff35W6 => kernel_rfl
    case rr35W6 => kernel_rfl
    case hw35W6 => rfl
    case hy35W6 =>
      intro w hSw
      (try dsimp only at hSw)
      first
      | (go_simp; done)
      | (go_simp; with_reducible rfl)
    try simp only [Act.put, List.setIfInBounds_toArray, List.set_cons_zero, List.set_cons_succ]
    refine wpAnyH_take (i := 36) (oi := ?oi36W6) (v := ?v36W6) ?oi0_36W6 (by kernel_rfl) ?ff36W6 ?rr36W6 ?hq36W6 (Or.inl ⟨?hw36W6, ?hy36W6⟩) (by assumption) ?rest36W6
    case oi0_36W6 =>
      conv =>
        lhs
        whnf
        arg 1
        whnf
    case hq36W6 => exact fun _ _ _ h => h
    case ff36W6 => kernel_rfl
    case rr36W6 => kernel_rfl
    case hw36W6 => rfl
    case hy36W6 =>
      intro w hSw
      (try dsimp only at hSw)
      first
      | (go_simp; done)
      | (go_simp; with_reducible rfl)
    try simp only [Act.put, List.setIfInBounds_toArray, List.set_cons_zero, List.set_cons_succ]
    refine wpAnyH_take (i := 37) (oi := ?oi37W6) (v := ?v37W6) ?oi0_37W6 (by kernel_rfl) ?ff37W6 ?rr37W6 ?hq37W6 (Or.inl ⟨?hw37W6, ?hy37W6⟩) (by assumption) ?rest37W6
    case oi0_37W6 =>
      conv =>
        lhs
        whnf
        arg 1
        whnf
    case hq37W6 => exact fun _ _ _ h => h
    case ff37W6 => kernel_rfl
    case rr37W6 => kernel_rfl
    case hw37W6 => rfl
    case hy37W6 =>
      intro w hSw
      (try dsimp only at hSw)
      first
      | (go_simp; done)
      | (go_simp; with_reducible rfl)
    try simp only [Act.put, List.setIfInBounds_toArray, List.set_cons_zero, List.set_cons_succ]
    refine wpAnyH_take (i := 38) (oi := ?oi38W6) (v := ?v38W6) ?oi0_38W6 (by kernel_rfl) ?ff38W6 ?rr38W6 ?hq38W6 (Or.inl ⟨?hw38W6, ?hy38W6⟩) (by assumption) ?rest38W6
    case oi0_38W6 =>
      conv =>
        lhs
        whnf
        arg 1
        whnf
    case hq38W6 => exact fun _ _ _ h => h
    case ff38W6 => kernel_rfl
    case rr38W6 => kernel_rfl
    case hw38W6 => rfl
    case hy38W6 =>
      intro w hSw
      (try dsimp only at hSw)
      first
      | (go_simp; done)
      | (go_simp; with_reducible rfl)
    try simp only [Act.put, List.setIfInBounds_toArray, List.set_cons_zero, List.set_cons_succ]
    refine wpAnyH_take (i := 39) (oi := ?oi39W6) (v := ?v39W6) ?oi0_39W6 (by kernel_rfl) ?ff39W6 ?rr39W6 ?hq39W6 (Or.inl ⟨?hw39W6, ?hy39W6⟩) (by assumption) ?rest39W6
    case oi0_39W6 =>
      conv =>
        lhs
        whnf
        arg 1
        whnf
    case hq39W6 => exact fun _ _ _ h => h
    case ff39W6 => kernel_rfl
    case rr39W6 => kernel_rfl
    case hw39W6 => rfl
    case hy39W6 =>
      intro w hSw
      (try dsimp only at hSw)
      first
      | (go_simp; done)
      | (go_simp; with_reducible rfl)
    try simp only [Act.put, List.setIfInBounds_toArray, List.set_cons_zero, List.set_cons_succ]
    refine wpAnyH_take (i := 40) (oi := ?oi40W6) (v := ?v40W6) ?oi0_40W6 (by kernel_rfl) ?ff40W6 ?rr40W6 ?hq40W6 (Or.inl ⟨?hw40W6, ?hy40W6⟩) (by assumption) ?rest40W6
    case oi0_40W6 =>
      conv =>
        lhs
        whnf
        arg 1
        whnf
    case hq40W6 => exact fun _ _ _ h => h
    case ff40W6 => kernel_rfl
    case rr40W6 => kernel_rfl
    case hw40W6 => rfl
    case hy40W6 =>
      intro w hSw
      (try dsimp only at hSw)
      first
      | (go_simp; done)
      | (go_simp; with_reducible rfl)
    try simp only [Act.put, List.setIfInBounds_toArray, List.set_cons_zero, List.set_cons_succ]
    refine wpAnyH_take (i := 41) (oi := ?oi41W6) (v := ?v41W6) ?oi0_41W6 (by kernel_rfl) ?ff41W6 ?rr41W6 ?hq41W6 (Or.inl ⟨?hw41W6, ?hy41W6⟩) (by assumption) ?rest41W6
    case oi0_41W6 =>
      conv =>
        lhs
        whnf
        arg 1
        whnf
    case hq41W6 => exact fun _ _ _ h => h
    case ff41W6 => kernel_rfl
    case rr41W6 => kernel_rfl
    case hw41W6 => rfl
    case hy41W6 =>
      intro w hSw
      (try dsimp only at hSw)
      first
      | (go_simp; done)
      | (go_simp; with_reducible rfl)
    try simp only [Act.put, List.setIfInBounds_toArray, List.set_cons_zero, List.set_cons_succ]
    refine wpAnyH_take (i := 42) (oi := ?oi42W6) (v := ?v42W6) ?oi0_42W6 (by kernel_rfl) ?ff42W6 ?rr42W6 ?hq42W6 (Or.inl ⟨?hw42W6, ?hy42W6⟩) (by assumption) ?rest42W6
    case oi0_42W6 =>
      conv =>
        lhs
        whnf
        arg 1
        whnf
    case hq42W6 => exact fun _ _ _ h => h
    case ff42W6 => kernel_rfl
    case rr42W6 => kernel_rfl
    case hw42W6 => rfl
    case hy42W6 =>
      intro w hSw
      (try dsimp only at hSw)
      first
      | (go_simp; done)
      | (go_simp; with_reducible rfl)
    try simp only [Act.put, List.setIfInBounds_toArray, List.set_cons_zero, List.set_cons_succ]
    refine wpAnyH_take (i := 43) (oi := ?oi43W6) (v := ?v43W6) ?oi0_43W6 (by kernel_rfl) ?ff43W6 ?rr43W6 ?hq43W6 (Or.inl ⟨?hw43W6, ?hy43W6⟩) (by assumption) ?rest43W6
    case oi0_43W6 =>
      conv =>
        lhs
        whnf
        arg 1
        whnf
    case hq43W6 => exact fun _ _ _ h => h
    case ff43W6 => kernel_rfl
    case rr43W6 => kernel_rfl
    case hw43W6 => rfl
    case hy43W6 =>
      intro w hSw
      (try dsimp only at hSw)
      first
      | (go_simp; done)
      | (go_simp; with_reducible rfl)
    try simp only [Act.put, List.setIfInBounds_toArray, List.set_cons_zero, List.set_cons_succ]
    refine wpAnyH_take (i := 44) (oi := ?oi44W6) (v := ?v44W6) ?oi0_44W6 (by kernel_rfl) ?ff44W6 ?rr44W6 ?hq44W6 (Or.inl ⟨?hw44W6, ?hy44W6⟩) (by assumption) ?rest44W6
    case oi0_44W6 =>
      conv =>
        lhs
        whnf
        arg 1
        whnf
    case hq44W6 => exact fun _ _ _ h => h
    case ff44W6 => kernel_rfl
    case rr44W6 => kernel_rfl
    case hw44W6 => rfl
    case hy44W6 =>
      intro w hSw
      (try dsimp only at hSw)
      first
      | (go_simp; done)
      | (go_simp; with_reducible rfl)
    try simp only [Act.put, List.setIfInBounds_toArray, List.set_cons_zero, List.set_cons_succ]
    refine wpAnyH_take (i := 45) (oi := ?oi45W6) (v := ?v45W6) ?oi0_45W6 (by kernel_rfl) ?ff45W6 ?rr45W6 ?hq45W6 (Or.inl ⟨?hw45W6, ?hy45W6⟩) (by assumption) ?rest45W6
    case oi0_45W6 =>
      conv =>
        lhs
        whnf
        arg 1
        whnf
    case hq45W6 => exact fun _ _ _ h => h
    case ff45W6 => kernel_rfl
    case rr45W6 => kernel_rfl
    case hw45W6 => rfl
    case hy45W6 =>
      intro w hSw
      (try dsimp only at hSw)
      first
      | (go_simp; done)
      | (go_simp; with_reducible rfl)
    try simp only [Act.put, List.setIfInBounds_toArray, List.set_cons_zero, List.set_cons_succ]
    refine wpAnyH_done (by kernel_rfl) ?_ _
    go_wp2_with fail
    go_roundw
    case rel => exact ⟨k + 1, by omega, by go_num, V, HST⟩
    case measure => simp [intOf] <;> omega
end Go.Proofs.Ytpkeimdlcafcnaa

namespace Go.Proofs.Ytpkeimdlcafcnaa
open Go.RowKit
set_option maxRecDepth 100000
set_option maxHeartbeats 20000000

def OwnsBits (w : World) (v : Value) (zs : List Int) : Prop := w.ownsRow 0 3 1 v zs.length (zs.map (Value.int .i64))
theorem refBits (i : It) (ta : Option Addr) (tn tc : Nat) (ka : Option Addr) (kn kc : Nat) (set : Nat) (w : World) (htn : tn ≤ 4) (hs : set < 4611686018427387904) :
    Calls Try.prog 49 #[.agg #[.int .i64 i.id, .int .i64 i.kind, .int .i64 i.len, .slice ta tn tc, .slice ka kn kc, .int .i64 i.artist, .int .i64 i.tempo, .int .i64 i.lang], .int .i64 set] w fun e w' => ∃ A c, e = .returned (.slice A (bitsS set tn).length c) ∧ OwnsBits w' (.slice A (bitsS set tn).length c) (bitsS set tn) ∧ Upd [] w w' := by
  have L1 := Blk.new w 24 [.int .i64 i.id, .int .i64 i.kind, .int .i64 i.len, .slice ta tn tc, .slice ka kn kc, .int .i64 i.artist, .int .i64 i.tempo, .int .i64 i.lang]
  have u1 := (Upd.refl [] w).alloc (.cells #[.int .i64 i.id, .int .i64 i.kind, .int .i64 i.len, .slice ta tn tc, .slice ka kn kc, .int .i64 i.artist, .int .i64 i.tempo, .int .i64 i.lang] 24)
  obtain ⟨wa, hwa⟩ : ∃ wa, w.alloc (.cells #[.int .i64 i.id, .int .i64 i.kind, .int .i64 i.len, .slice ta tn tc, .slice ka kn kc, .int .i64 i.artist, .int .i64 i.tempo, .int .i64 i.lang] 24) = wa := ⟨_, rfl⟩
  have hsz : wa.heap.size = w.heap.size + 1 := by rw [← hwa]; simp
  have u1' : Upd [] w wa := by rw [← hwa]; exact u1
  have L1' : Blk wa w.heap.size 24 [.int .i64 i.id, .int .i64 i.kind, .int .i64 i.len, .slice ta tn tc, .slice ka kn kc, .int .i64 i.artist, .int .i64 i.tempo, .int .i64 i.lang] := by rw [← hwa]; exact L1
  have BL := hide L1'
  have U1 := hide u1'
  have HZ := hide hsz
  have HWA := hide hwa
  clear L1 u1 u1' L1' hsz hwa
  go_enter Try.func49, Try.ntmps49
  go_wp2_with fail
  rw [HWA.out]
  go_loopw [5, 6] (fun s5 s6 wr => ∃ (k : Nat) (A : Option Addr) (n c : Nat) (zs : List Int), k ≤ tn ∧ s6 = .int .i64 k ∧ s5 = .slice A n c ∧ n ≤ k ∧ Hid (zs = bitsS set k) ∧ Hid (n = zs.length) ∧ Hid (wr.ownsRow wa.heap.size 3 1 (.slice A n c) n (zs.map (Value.int .i64))) ∧ Hid (Upd [] wa wr)) (fun _ k _ => tn - (intOf k).toNat)
  case atStart => exact ⟨0, none, 0, 0, [], Nat.zero_le _, rfl, rfl, Nat.le_refl _, rfl, rfl, World.ownsRow_nil _ _ _ _, Upd.refl _ _⟩
  case round =>
    obtain ⟨k, A, n, c, zs, hk, rfl, rfl, hnk, hzs, hnz, hown, hu⟩ := hrel
    obtain ⟨wo, rfl⟩ : ∃ wo : World, wo = wr := ⟨_, rfl⟩
    have d3 := (BL.out.upd hu.out (by simp)).cell 3
    by_cases hkl : k < tn
    · have hki : (k : Int) < tn := by omega
      have HST := hide (show bitsS set (k + 1) = if set.testBit k then zs ++ [(k : Int)] else zs by rw [hzs.out]; rfl)
      have hq0 : 0 ≤ (set : Int) / 2 ^ k := by
        have := Int.ediv_nonneg (a := (set : Int)) (b := 2 ^ k) (by omega) (Int.le_of_lt (Int.pow_pos (by omega)))
        exact this
      obtain ⟨z, hz⟩ : ∃ z, set / 2 ^ k = z := ⟨_, rfl⟩
      have hzi : (set : Int) / 2 ^ k = (z : Int) := by rw [← hz]; norm_cast
      have hzb : z ≤ set := by rw [← hz]; exact Nat.div_le_self _ _
      have HB := hide (show set.testBit k = decide (z % 2 = 1) by rw [Nat.testBit_eq_decide_div_mod_eq, hz])
      have hzt : ((z : Int).tmod 2) = (z : Int) % 2 := Int.tmod_eq_emod_of_nonneg (by omega)
      clear hq0 hz
      have O1 := hide (show ∀ u ∈ [Value.int .i64 (k : Int)], u.oneCell' = true by simp [Value.oneCell'])
      have O3 := hide (show n + 1 ≤ maxLen by unfold maxLen; omega)
      have O4 := hide (show (n + 1) * 8 ≤ 140737488355328 by omega)
      have OB := hide (hown.out.alloc (.cells #[.int .i64 (k : Int)] 3))
      have OS := hide (show wa.heap.size ≤ (wo.alloc (.cells #[.int .i64 (k : Int)] 3)).heap.size by have := hu.out.size; rw [World.size_alloc]; omega)
      by_cases hodd : z % 2 = 1
      · have hob : ((z : Int) % 2 == 1) = true := by simp; omega
        have HE := hide (show bitsS set (k + 1) = zs ++ [(k : Int)] by rw [HST.out, HB.out, decide_eq_true hodd]; rfl)
        clear hodd
        go_wp2_with (at_builtin; refine wpList_append_base rfl (.tmp 19) (.tmp 21) _ rfl wa.heap.size 3 _ 1 8 Try.underlying26 it_info_int rfl (by decide) A n c _ rfl OB.out ⟨wo.heap.size, 0, none⟩ 1 1 [.int .i64 (k : Int)] rfl rfl (cell_one_new _ _ _) O1.out O3.out O4.out OS.out ?_; intro A5 c5 w5 h5 u5 _; have H5 := hide h5; have V5 := hide ((hu.out.alloc _).trans u5 (fun z hz => .inr (it_own_block hown.out z (by rw [ownBlock_slice]; simpa using hz)))); clear h5 u5)
        go_roundw
        case rel => exact ⟨k + 1, A5, n + 1, c5, zs ++ [(k : Int)], by omega, by go_num, rfl, by omega, hide HE.out.symm, hide (by rw [List.length_append, ← hnz.out]; rfl), hide (by rw [List.map_append]; exact H5.out), V5⟩
        case measure => simp [intOf] <;> omega
      · have hob : ((z : Int) % 2 == 1) = false := by simp; omega
        have HE := hide (show bitsS set (k + 1) = zs by rw [HST.out, HB.out, decide_eq_false hodd]; rfl)
        clear hodd
        go_wp2_with fail
        go_roundw
        case rel => exact ⟨k + 1, A, n, c, zs, by omega, by go_num, rfl, by omega, hide HE.out.symm, hnz, hown, hu⟩
        case measure => simp [intOf] <;> omega
    · obtain rfl : k = tn := by omega
      have hki : ¬ (k : Int) < k := by omega
      have UF := hide (U1.out.trans hu.out (by simp))
      go_wp2_with fail
      go_ret
      have e := hzs.out
      rw [← e, ← hnz.out]
      refine ⟨A, c, rfl, ?_, UF.out⟩
      have := it_own_less hown.out (Nat.zero_le _)
      unfold OwnsBits
      rw [← hnz.out]
      exact this

/-- cutOf -/
theorem cutOf_any (i : It) (ta : Option Addr) (tn tc : Nat) (ka : Option Addr) (kn kc : Nat) (set : Int) (w : World) (htn : tn ≤ 4) (h1 : -9223372036854775808 ≤ set) (h2 : set ≤ 9223372036854775807) :
    Calls Try.prog 22 #[.agg #[.int .i64 i.id, .int .i64 i.kind, .int .i64 i.len, .slice ta tn tc, .slice ka kn kc, .int .i64 i.artist, .int .i64 i.tempo, .int .i64 i.lang], .int .i64 set] w fun e w' => ∃ A c, e = .returned (.slice A (bitsS (pickS set 16).toNat tn).length c) ∧ OwnsBits w' (.slice A (bitsS (pickS set 16).toNat tn).length c) (bitsS (pickS set 16).toNat tn) ∧ Upd [] w w' := by
  obtain ⟨s, hs⟩ : ∃ s : Nat, pickS set 16 = (s : Int) := ⟨(pickS set 16).toNat, by have := pickS_bounds set 16 (by omega); omega⟩
  have hsb : s < 16 := by have := pickS_bounds set 16 (by omega); omega
  have PK := fun W => lawPick set 16 W h1 h2 (by omega) (by omega)
  rw [hs] at PK ⊢
  rw [Int.toNat_natCast]
  obtain ⟨wa, hwa⟩ : ∃ wa, w.alloc (.cells #[.int .i64 i.id, .int .i64 i.kind, .int .i64 i.len, .slice ta tn tc, .slice ka kn kc, .int .i64 i.artist, .int .i64 i.tempo, .int .i64 i.lang] 24) = wa := ⟨_, rfl⟩
  have L1 : Blk wa w.heap.size 24 [.int .i64 i.id, .int .i64 i.kind, .int .i64 i.len, .slice ta tn tc, .slice ka kn kc, .int .i64 i.artist, .int .i64 i.tempo, .int .i64 i.lang] := by rw [← hwa]; exact Blk.new w _ _
  have u1 : Upd [] w wa := by rw [← hwa]; exact (Upd.refl [] w).alloc _
  have SX := hide (show ∀ W, Upd [] wa W → W.cell? ⟨w.heap.size, 0, none⟩ = some (.int .i64 i.id) ∧ W.cell? ⟨w.heap.size, 1, none⟩ = some (.int .i64 i.kind) ∧ W.cell? ⟨w.heap.size, 2, none⟩ = some (.int .i64 i.len) ∧ W.cell? ⟨w.heap.size, 3, none⟩ = some (.slice ta tn tc) ∧ W.cell? ⟨w.heap.size, 4, none⟩ = some (.slice ka kn kc) ∧ W.cell? ⟨w.heap.size, 5, none⟩ = some (.int .i64 i.artist) ∧ W.cell? ⟨w.heap.size, 6, none⟩ = some (.int .i64 i.tempo) ∧ W.cell? ⟨w.heap.size, 7, none⟩ = some (.int .i64 i.lang) from fun W hW => ⟨keepc _ _ _ _ hW (L1.cell 0), keepc _ _ _ _ hW (L1.cell 1), keepc _ _ _ _ hW (L1.cell 2), keepc _ _ _ _ hW (L1.cell 3), keepc _ _ _ _ hW (L1.cell 4), keepc _ _ _ _ hW (L1.cell 5), keepc _ _ _ _ hW (L1.cell 6), keepc _ _ _ _ hW (L1.cell 7)⟩)
  have PK' := hide PK
  have BT := hide (show ∀ W : World, Calls Try.prog 49 _ W _ from fun W => refBits i ta tn tc ka kn kc s W htn (by omega))
  have U1 := hide u1
  have HWA := hide hwa
  have U0 := hide ((Upd.refl [] wa).drew)
  clear PK L1 u1 hwa hs h1 h2
  go_enter Try.func22, Try.ntmps22
  go_wp2_with fail
  rw [HWA.out]
  refine wp_region_held_drew (S := (fun w' => w'.cell? ⟨w.heap.size, 0, none⟩ = some (.int .i64 i.id) ∧ w'.cell? ⟨w.heap.size, 1, none⟩ = some (.int .i64 i.kind) ∧ w'.cell? ⟨w.heap.size, 2, none⟩ = some (.int .i64 i.len) ∧ w'.cell? ⟨w.heap.size, 3, none⟩ = some (.slice ta tn tc) ∧ w'.cell? ⟨w.heap.size, 4, none⟩ = some (.slice ka kn kc) ∧ w'.cell? ⟨w.heap.size, 5, none⟩ = some (.int .i64 i.artist) ∧ w'.cell? ⟨w.heap.size, 6, none⟩ = some (.int .i64 i.tempo) ∧ w'.cell? ⟨w.heap.size, 7, none⟩ = some (.int .i64 i.lang))) (by kernel_rfl) (SX.out _ U0.out) (fun hHeld => ?_)
  refine wpAnyH_take (i := 0) (oi := ?oi0T1) (v := ?v0T1) ?oi0_0T1 (by kernel_rfl) ?ff0T1 ?rr0T1 ?hq0T1 (Or.inl ⟨?hw0T1, ?hy0T1⟩) (by assumption) ?rest0T1
  case oi0_0T1 =>
    conv =>
      lhs
      whnf
      arg 1
      whnf
  case hq0T1 => exact fun _ _ _ h => h
  case ff0T1 => kernel_rfl
  case rr0T1 => kernel_rfl
  case hw0T1 => rfl
  case hy0T1 =>
    intro w hSw
    (try dsimp only at hSw)
    first
    | (go_simp; done)
    | (go_simp; with_reducible rfl)
  try simp only [Act.put, List.setIfInBounds_toArray, List.set_cons_zero, List.set_cons_succ]
  refine wpAnyH_take (i := 1) (oi := ?oi1T1) (v := ?v1T1) ?oi0_1T1 (by kernel_rfl) ?ff1T1 ?rr1T1 ?hq1T1 (Or.inl ⟨?hw1T1, ?hy1T1⟩) (by assumption) ?rest1T1
  case oi0_1T1 =>
    conv =>
      lhs
      whnf
      arg 1
      whnf
  case hq1T1 => exact fun _ _ _ h => h
  case ff1T1 => kernel_rfl
  case rr1T1 => kernel_rfl
  case hw1T1 => rfl
  case hy1T1 =>
    intro w hSw
    (try dsimp only at hSw)
    first
    | (go_simp; done)
    | (go_simp; with_reducible rfl)
  try simp only [Act.put, List.setIfInBounds_toArray, List.set_cons_zero, List.set_cons_succ]
  refine wpAnyH_ready (rs := [2]) (by kernel_rfl) (by simp) (AllReadyH.cons (o := ?oi2T1) ?oi0_2T1 (fun K hK => ?_) AllReadyH.nil)
  case oi0_2T1 =>
    conv =>
      lhs
      whnf
      arg 1
      whnf
  go_simp
  go_at_call 19
  have TT := PK'.out wa.drew
  with_reducible (refine TT.mono ?_)
  clear TT
  rintro e w9 ⟨rfl, rfl⟩
  (try dsimp only)
  refine hK.out _ _ (SX.out _ U0.out) (fun hHeld => ?_)
  clear hK K
  try simp only [Act.put, List.setIfInBounds_toArray, List.set_cons_zero, List.set_cons_succ]
  refine wpAnyH_ready (rs := [3]) (by kernel_rfl) (by simp) (AllReadyH.cons (o := ?oi3T1) ?oi0_3T1 (fun K hK => ?_) AllReadyH.nil)
  case oi0_3T1 =>
    conv =>
      lhs
      whnf
      arg 1
      whnf
  go_simp
  go_at_call 49
  have TT := BT.out wa.drew
  with_reducible (refine TT.mono ?_)
  clear TT
  rintro e w9 ⟨A9, c9, rfl, h9, u9⟩
  have H9 := hide h9
  have V9 := hide u9
  clear h9 u9
  (try dsimp only)
  refine hK.out _ _ (SX.out _ (U0.out.trans V9.out (by simp))) (fun hHeld => ?_)
  clear hK K
  try simp only [Act.put, List.setIfInBounds_toArray, List.set_cons_zero, List.set_cons_succ]
  refine wpAnyH_take (i := 4) (oi := ?oi4T1) (v := ?v4T1) ?oi0_4T1 (by kernel_rfl) ?ff4T1 ?rr4T1 ?hq4T1 (Or.inl ⟨?hw4T1, ?hy4T1⟩) (by assumption) ?rest4T1
  case oi0_4T1 =>
    conv =>
      lhs
      whnf
      arg 1
      whnf
  case hq4T1 => exact fun _ _ _ h => h
  case ff4T1 => kernel_rfl
  case rr4T1 => kernel_rfl
  case hw4T1 => rfl
  case hy4T1 =>
    intro w hSw
    (try dsimp only at hSw)
    first
    | (go_simp; done)
    | (go_simp; with_reducible rfl)
  try simp only [Act.put, List.setIfInBounds_toArray, List.set_cons_zero, List.set_cons_succ]
  refine wpAnyH_done (by kernel_rfl) ?_ _
  go_wp2_with fail
  go_ret
  exact ⟨A9, c9, rfl, H9.out, U1.out.trans (U0.out.trans V9.out (by simp)) (by simp)⟩
end Go.Proofs.Ytpkeimdlcafcnaa

namespace Go.Proofs.Ytpkeimdlcafcnaa
open Go.RowKit
set_option maxRecDepth 100000
set_option maxHeartbeats 20000000

theorem refBits6 (i : It) (ta : Option Addr) (tn tc : Nat) (ka : Option Addr) (kn kc : Nat) (set : Nat) (w : World) (htn : tn ≤ 6) (hs : set < 4611686018427387904) :
    Calls Try.prog 49 #[.agg #[.int .i64 i.id, .int .i64 i.kind, .int .i64 i.len, .slice ta tn tc, .slice ka kn kc, .int .i64 i.artist, .int .i64 i.tempo, .int .i64 i.lang], .int .i64 set] w fun e w' => ∃ A c, e = .returned (.slice A (bitsS set tn).length c) ∧ OwnsBits w' (.slice A (bitsS set tn).length c) (bitsS set tn) ∧ Upd [] w w' := by
  have L1 := Blk.new w 24 [.int .i64 i.id, .int .i64 i.kind, .int .i64 i.len, .slice ta tn tc, .slice ka kn kc, .int .i64 i.artist, .int .i64 i.tempo, .int .i64 i.lang]
  have u1 := (Upd.refl [] w).alloc (.cells #[.int .i64 i.id, .int .i64 i.kind, .int .i64 i.len, .slice ta tn tc, .slice ka kn kc, .int .i64 i.artist, .int .i64 i.tempo, .int .i64 i.lang] 24)
  obtain ⟨wa, hwa⟩ : ∃ wa, w.alloc (.cells #[.int .i64 i.id, .int .i64 i.kind, .int .i64 i.len, .slice ta tn tc, .slice ka kn kc, .int .i64 i.artist, .int .i64 i.tempo, .int .i64 i.lang] 24) = wa := ⟨_, rfl⟩
  have hsz : wa.heap.size = w.heap.size + 1 := by rw [← hwa]; simp
  have u1' : Upd [] w wa := by rw [← hwa]; exact u1
  have L1' : Blk wa w.heap.size 24 [.int .i64 i.id, .int .i64 i.kind, .int .i64 i.len, .slice ta tn tc, .slice ka kn kc, .int .i64 i.artist, .int .i64 i.tempo, .int .i64 i.lang] := by rw [← hwa]; exact L1
  have BL := hide L1'
  have U1 := hide u1'
  have HZ := hide hsz
  have HWA := hide hwa
  clear L1 u1 u1' L1' hsz hwa
  go_enter Try.func49, Try.ntmps49
  go_wp2_with fail
  rw [HWA.out]
  go_loopw [5, 6] (fun s5 s6 wr => ∃ (k : Nat) (A : Option Addr) (n c : Nat) (zs : List Int), k ≤ tn ∧ s6 = .int .i64 k ∧ s5 = .slice A n c ∧ n ≤ k ∧ Hid (zs = bitsS set k) ∧ Hid (n = zs.length) ∧ Hid (wr.ownsRow wa.heap.size 3 1 (.slice A n c) n (zs.map (Value.int .i64))) ∧ Hid (Upd [] wa wr)) (fun _ k _ => tn - (intOf k).toNat)
  case atStart => exact ⟨0, none, 0, 0, [], Nat.zero_le _, rfl, rfl, Nat.le_refl _, rfl, rfl, World.ownsRow_nil _ _ _ _, Upd.refl _ _⟩
  case round =>
    obtain ⟨k, A, n, c, zs, hk, rfl, rfl, hnk, hzs, hnz, hown, hu⟩ := hrel
    obtain ⟨wo, rfl⟩ : ∃ wo : World, wo = wr := ⟨_, rfl⟩
    have d3 := (BL.out.upd hu.out (by simp)).cell 3
    by_cases hkl : k < tn
    · have hki : (k : Int) < tn := by omega
      have HST := hide (show bitsS set (k + 1) = if set.testBit k then zs ++ [(k : Int)] else zs by rw [hzs.out]; rfl)
      have hq0 : 0 ≤ (set : Int) / 2 ^ k := by
        have := Int.ediv_nonneg (a := (set : Int)) (b := 2 ^ k) (by omega) (Int.le_of_lt (Int.pow_pos (by omega)))
        exact this
      obtain ⟨z, hz⟩ : ∃ z, set / 2 ^ k = z := ⟨_, rfl⟩
      have hzi : (set : Int) / 2 ^ k = (z : Int) := by rw [← hz]; norm_cast
      have hzb : z ≤ set := by rw [← hz]; exact Nat.div_le_self _ _
      have HB := hide (show set.testBit k = decide (z % 2 = 1) by rw [Nat.testBit_eq_decide_div_mod_eq, hz])
      have hzt : ((z : Int).tmod 2) = (z : Int) % 2 := Int.tmod_eq_emod_of_nonneg (by omega)
      clear hq0 hz
      have O1 := hide (show ∀ u ∈ [Value.int .i64 (k : Int)], u.oneCell' = true by simp [Value.oneCell'])
      have O3 := hide (show n + 1 ≤ maxLen by unfold maxLen; omega)
      have O4 := hide (show (n + 1) * 8 ≤ 140737488355328 by omega)
      have OB := hide (hown.out.alloc (.cells #[.int .i64 (k : Int)] 3))
      have OS := hide (show wa.heap.size ≤ (wo.alloc (.cells #[.int .i64 (k : Int)] 3)).heap.size by have := hu.out.size; rw [World.size_alloc]; omega)
      by_cases hodd : z % 2 = 1
      · have hob : ((z : Int) % 2 == 1) = true := by simp; omega
        have HE := hide (show bitsS set (k + 1) = zs ++ [(k : Int)] by rw [HST.out, HB.out, decide_eq_true hodd]; rfl)
        clear hodd
        go_wp2_with (at_builtin; refine wpList_append_base rfl (.tmp 19) (.tmp 21) _ rfl wa.heap.size 3 _ 1 8 Try.underlying26 it_info_int rfl (by decide) A n c _ rfl OB.out ⟨wo.heap.size, 0, none⟩ 1 1 [.int .i64 (k : Int)] rfl rfl (cell_one_new _ _ _) O1.out O3.out O4.out OS.out ?_; intro A5 c5 w5 h5 u5 _; have H5 := hide h5; have V5 := hide ((hu.out.alloc _).trans u5 (fun z hz => .inr (it_own_block hown.out z (by rw [ownBlock_slice]; simpa using hz)))); clear h5 u5)
        go_roundw
        case rel => exact ⟨k + 1, A5, n + 1, c5, zs ++ [(k : Int)], by omega, by go_num, rfl, by omega, hide HE.out.symm, hide (by rw [List.length_append, ← hnz.out]; rfl), hide (by rw [List.map_append]; exact H5.out), V5⟩
        case measure => simp [intOf] <;> omega
      · have hob : ((z : Int) % 2 == 1) = false := by simp; omega
        have HE := hide (show bitsS set (k + 1) = zs by rw [HST.out, HB.out, decide_eq_false hodd]; rfl)
        clear hodd
        go_wp2_with fail
        go_roundw
        case rel => exact ⟨k + 1, A, n, c, zs, by omega, by go_num, rfl, by omega, hide HE.out.symm, hnz, hown, hu⟩
        case measure => simp [intOf] <;> omega
    · obtain rfl : k = tn := by omega
      have hki : ¬ (k : Int) < k := by omega
      have UF := hide (U1.out.trans hu.out (by simp))
      go_wp2_with fail
      go_ret
      have e := hzs.out
      rw [← e, ← hnz.out]
      refine ⟨A, c, rfl, ?_, UF.out⟩
      have := it_own_less hown.out (Nat.zero_le _)
      unfold OwnsBits
      rw [← hnz.out]
      exact this

/-- cutOf -/
theorem cutOf6 (i : It) (ta : Option Addr) (tn tc : Nat) (ka : Option Addr) (kn kc : Nat) (set : Int) (w : World) (htn : tn ≤ 6) (h1 : -9223372036854775808 ≤ set) (h2 : set ≤ 9223372036854775807) :
    Calls Try.prog 22 #[.agg #[.int .i64 i.id, .int .i64 i.kind, .int .i64 i.len, .slice ta tn tc, .slice ka kn kc, .int .i64 i.artist, .int .i64 i.tempo, .int .i64 i.lang], .int .i64 set] w fun e w' => ∃ A c, e = .returned (.slice A (bitsS (pickS set 16).toNat tn).length c) ∧ OwnsBits w' (.slice A (bitsS (pickS set 16).toNat tn).length c) (bitsS (pickS set 16).toNat tn) ∧ Upd [] w w' := by
  obtain ⟨s, hs⟩ : ∃ s : Nat, pickS set 16 = (s : Int) := ⟨(pickS set 16).toNat, by have := pickS_bounds set 16 (by omega); omega⟩
  have hsb : s < 16 := by have := pickS_bounds set 16 (by omega); omega
  have PK := fun W => lawPick set 16 W h1 h2 (by omega) (by omega)
  rw [hs] at PK ⊢
  rw [Int.toNat_natCast]
  obtain ⟨wa, hwa⟩ : ∃ wa, w.alloc (.cells #[.int .i64 i.id, .int .i64 i.kind, .int .i64 i.len, .slice ta tn tc, .slice ka kn kc, .int .i64 i.artist, .int .i64 i.tempo, .int .i64 i.lang] 24) = wa := ⟨_, rfl⟩
  have L1 : Blk wa w.heap.size 24 [.int .i64 i.id, .int .i64 i.kind, .int .i64 i.len, .slice ta tn tc, .slice ka kn kc, .int .i64 i.artist, .int .i64 i.tempo, .int .i64 i.lang] := by rw [← hwa]; exact Blk.new w _ _
  have u1 : Upd [] w wa := by rw [← hwa]; exact (Upd.refl [] w).alloc _
  have SX := hide (show ∀ W, Upd [] wa W → W.cell? ⟨w.heap.size, 0, none⟩ = some (.int .i64 i.id) ∧ W.cell? ⟨w.heap.size, 1, none⟩ = some (.int .i64 i.kind) ∧ W.cell? ⟨w.heap.size, 2, none⟩ = some (.int .i64 i.len) ∧ W.cell? ⟨w.heap.size, 3, none⟩ = some (.slice ta tn tc) ∧ W.cell? ⟨w.heap.size, 4, none⟩ = some (.slice ka kn kc) ∧ W.cell? ⟨w.heap.size, 5, none⟩ = some (.int .i64 i.artist) ∧ W.cell? ⟨w.heap.size, 6, none⟩ = some (.int .i64 i.tempo) ∧ W.cell? ⟨w.heap.size, 7, none⟩ = some (.int .i64 i.lang) from fun W hW => ⟨keepc _ _ _ _ hW (L1.cell 0), keepc _ _ _ _ hW (L1.cell 1), keepc _ _ _ _ hW (L1.cell 2), keepc _ _ _ _ hW (L1.cell 3), keepc _ _ _ _ hW (L1.cell 4), keepc _ _ _ _ hW (L1.cell 5), keepc _ _ _ _ hW (L1.cell 6), keepc _ _ _ _ hW (L1.cell 7)⟩)
  have PK' := hide PK
  have BT := hide (show ∀ W : World, Calls Try.prog 49 _ W _ from fun W => refBits6 i ta tn tc ka kn kc s W htn (by omega))
  have U1 := hide u1
  have HWA := hide hwa
  have U0 := hide ((Upd.refl [] wa).drew)
  clear PK L1 u1 hwa hs h1 h2
  go_enter Try.func22, Try.ntmps22
  go_wp2_with fail
  rw [HWA.out]
  refine wp_region_held_drew (S := (fun w' => w'.cell? ⟨w.heap.size, 0, none⟩ = some (.int .i64 i.id) ∧ w'.cell? ⟨w.heap.size, 1, none⟩ = some (.int .i64 i.kind) ∧ w'.cell? ⟨w.heap.size, 2, none⟩ = some (.int .i64 i.len) ∧ w'.cell? ⟨w.heap.size, 3, none⟩ = some (.slice ta tn tc) ∧ w'.cell? ⟨w.heap.size, 4, none⟩ = some (.slice ka kn kc) ∧ w'.cell? ⟨w.heap.size, 5, none⟩ = some (.int .i64 i.artist) ∧ w'.cell? ⟨w.heap.size, 6, none⟩ = some (.int .i64 i.tempo) ∧ w'.cell? ⟨w.heap.size, 7, none⟩ = some (.int .i64 i.lang))) (by kernel_rfl) (SX.out _ U0.out) (fun hHeld => ?_)
  refine wpAnyH_take (i := 0) (oi := ?oi0T1) (v := ?v0T1) ?oi0_0T1 (by kernel_rfl) ?ff0T1 ?rr0T1 ?hq0T1 (Or.inl ⟨?hw0T1, ?hy0T1⟩) (by assumption) ?rest0T1
  case oi0_0T1 =>
    conv =>
      lhs
      whnf
      arg 1
      whnf
  case hq0T1 => exact fun _ _ _ h => h
  case ff0T1 => kernel_rfl
  case rr0T1 => kernel_rfl
  case hw0T1 => rfl
  case hy0T1 =>
    intro w hSw
    (try dsimp only at hSw)
    first
    | (go_simp; done)
    | (go_simp; with_reducible rfl)
  try simp only [Act.put, List.setIfInBounds_toArray, List.set_cons_zero, List.set_cons_succ]
  refine wpAnyH_take (i := 1) (oi := ?oi1T1) (v := ?v1T1) ?oi0_1T1 (by kernel_rfl) ?ff1T1 ?rr1T1 ?hq1T1 (Or.inl ⟨?hw1T1, ?hy1T1⟩) (by assumption) ?rest1T1
  case oi0_1T1 =>
    conv =>
      lhs
      whnf
      arg 1
      whnf
  case hq1T1 => exact fun _ _ _ h => h
  case ff1T1 => kernel_rfl
  case rr1T1 => kernel_rfl
  case hw1T1 => rfl
  case hy1T1 =>
    intro w hSw
    (try dsimp only at hSw)
    first
    | (go_simp; done)
    | (go_simp; with_reducible rfl)
  try simp only [Act.put, List.setIfInBounds_toArray, List.set_cons_zero, List.set_cons_succ]
  refine wpAnyH_ready (rs := [2]) (by kernel_rfl) (by simp) (AllReadyH.cons (o := ?oi2T1) ?oi0_2T1 (fun K hK => ?_) AllReadyH.nil)
  case oi0_2T1 =>
    conv =>
      lhs
      whnf
      arg 1
      whnf
  go_simp
  go_at_call 19
  have TT := PK'.out wa.drew
  with_reducible (refine TT.mono ?_)
  clear TT
  rintro e w9 ⟨rfl, rfl⟩
  (try dsimp only)
  refine hK.out _ _ (SX.out _ U0.out) (fun hHeld => ?_)
  clear hK K
  try simp only [Act.put, List.setIfInBounds_toArray, List.set_cons_zero, List.set_cons_succ]
  refine wpAnyH_ready (rs := [3]) (by kernel_rfl) (by simp) (AllReadyH.cons (o := ?oi3T1) ?oi0_3T1 (fun K hK => ?_) AllReadyH.nil)
  case oi0_3T1 =>
    conv =>
      lhs
      whnf
      arg 1
      whnf
  go_simp
  go_at_call 49
  have TT := BT.out wa.drew
  with_reducible (refine TT.mono ?_)
  clear TT
  rintro e w9 ⟨A9, c9, rfl, h9, u9⟩
  have H9 := hide h9
  have V9 := hide u9
  clear h9 u9
  (try dsimp only)
  refine hK.out _ _ (SX.out _ (U0.out.trans V9.out (by simp))) (fun hHeld => ?_)
  clear hK K
  try simp only [Act.put, List.setIfInBounds_toArray, List.set_cons_zero, List.set_cons_succ]
  refine wpAnyH_take (i := 4) (oi := ?oi4T1) (v := ?v4T1) ?oi0_4T1 (by kernel_rfl) ?ff4T1 ?rr4T1 ?hq4T1 (Or.inl ⟨?hw4T1, ?hy4T1⟩) (by assumption) ?rest4T1
  case oi0_4T1 =>
    conv =>
      lhs
      whnf
      arg 1
      whnf
  case hq4T1 => exact fun _ _ _ h => h
  case ff4T1 => kernel_rfl
  case rr4T1 => kernel_rfl
  case hw4T1 => rfl
  case hy4T1 =>
    intro w hSw
    (try dsimp only at hSw)
    first
    | (go_simp; done)
    | (go_simp; with_reducible rfl)
  try simp only [Act.put, List.setIfInBounds_toArray, List.set_cons_zero, List.set_cons_succ]
  refine wpAnyH_done (by kernel_rfl) ?_ _
  go_wp2_with fail
  go_ret
  exact ⟨A9, c9, rfl, H9.out, U1.out.trans (U0.out.trans V9.out (by simp)) (by simp)⟩
end Go.Proofs.Ytpkeimdlcafcnaa
