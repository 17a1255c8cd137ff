/-
  The small functions of the reference and of the laws on items.
-/
import Derived.Test.YtpkeimdlcafcnaaICuts
import Derived.Test.YtpkeimdlcafcnaaITalk
namespace Go.Proofs.Ytpkeimdlcafcnaa
open Go.RowKit
set_option maxRecDepth 100000
set_option maxHeartbeats 20000000

def pickS (c n : Int) : Int := (if c < 0 then -(c + 1) else c) % n
theorem pickS_bounds (c n : Int) (h : 0 < n) : 0 ≤ pickS c n ∧ pickS c n < n := ⟨Int.emod_nonneg _ (by omega), Int.emod_lt_of_pos _ h⟩
theorem refPick (c n : Int) (w : World) (h1 : -9223372036854775808 ≤ c) (h2 : c ≤ 9223372036854775807) (hn : 0 < n) (hn2 : n ≤ 9223372036854775807) :
    Calls Try.prog 39 #[.int .i64 c, .int .i64 n] w fun e w' => e = .returned (.int .i64 (pickS c n)) ∧ w = w' := by
  unfold pickS
  by_cases h0 : c < 0
  · rw [if_pos h0]
    obtain ⟨d, hd⟩ : ∃ d, -(c + 1) = d := ⟨_, rfl⟩
    have hw1 : IntKind.i64.wrap (c + 1) = c + 1 := Go.IntWalk.i64_in _ (by omega)
    have hw2 : IntKind.i64.wrap (-(c + 1)) = d := by rw [Go.IntWalk.i64_in _ (by omega), hd]
    have ht : d.tmod n = d % n := Int.tmod_eq_emod_of_nonneg (by omega)
    have hd0 : 0 ≤ d := by omega
    have hm := Int.emod_lt_of_pos d hn
    have hm0 := Int.emod_nonneg d (show n ≠ 0 by omega)
    have hw3 : IntKind.i64.wrap (d % n) = d % n := Go.IntWalk.i64_in _ (by omega)
    have hn0 : (n == 0) = false := by simp; omega
    rw [hd]
    clear hd hm hm0
    go_enter Try.func39, Try.ntmps39
    go_wp2
    go_ret
    exact ⟨rfl, rfl⟩
  · rw [if_neg h0]
    have ht : c.tmod n = c % n := Int.tmod_eq_emod_of_nonneg (by omega)
    have hd0 : 0 ≤ c := by omega
    have hm := Int.emod_lt_of_pos c hn
    have hm0 := Int.emod_nonneg c (show n ≠ 0 by omega)
    have hw3 : IntKind.i64.wrap (c % n) = c % n := Go.IntWalk.i64_in _ (by omega)
    have hn0 : (n == 0) = false := by simp; omega
    clear hm hm0
    go_enter Try.func39, Try.ntmps39
    go_wp2
    go_ret
    exact ⟨rfl, rfl⟩
theorem lawPick (c n : Int) (w : World) (h1 : -9223372036854775808 ≤ c) (h2 : c ≤ 9223372036854775807) (hn : 0 < n) (hn2 : n ≤ 9223372036854775807) :
    Calls Try.prog 19 #[.int .i64 c, .int .i64 n] w fun e w' => e = .returned (.int .i64 (pickS c n)) ∧ w = w' := by
  unfold pickS
  by_cases h0 : c < 0
  · rw [if_pos h0]
    obtain ⟨d, hd⟩ : ∃ d, -(c + 1) = d := ⟨_, rfl⟩
    have hw1 : IntKind.i64.wrap (c + 1) = c + 1 := Go.IntWalk.i64_in _ (by omega)
    have hw2 : IntKind.i64.wrap (-(c + 1)) = d := by rw [Go.IntWalk.i64_in _ (by omega), hd]
    have ht : d.tmod n = d % n := Int.tmod_eq_emod_of_nonneg (by omega)
    have hd0 : 0 ≤ d := by omega
    have hm := Int.emod_lt_of_pos d hn
    have hm0 := Int.emod_nonneg d (show n ≠ 0 by omega)
    have hw3 : IntKind.i64.wrap (d % n) = d % n := Go.IntWalk.i64_in _ (by omega)
    have hn0 : (n == 0) = false := by simp; omega
    rw [hd]
    clear hd hm hm0
    go_enter Try.func19, Try.ntmps19
    go_wp2
    go_ret
    exact ⟨rfl, rfl⟩
  · rw [if_neg h0]
    have ht : c.tmod n = c % n := Int.tmod_eq_emod_of_nonneg (by omega)
    have hd0 : 0 ≤ c := by omega
    have hm := Int.emod_lt_of_pos c hn
    have hm0 := Int.emod_nonneg c (show n ≠ 0 by omega)
    have hw3 : IntKind.i64.wrap (c % n) = c % n := Go.IntWalk.i64_in _ (by omega)
    have hn0 : (n == 0) = false := by simp; omega
    clear hm hm0
    go_enter Try.func19, Try.ntmps19
    go_wp2
    go_ret
    exact ⟨rfl, rfl⟩

theorem refInts {n₀ n₁ : Nat} (a : Option Addr) (n c : Nat) (xs : List Int) (a2 : Option Addr) (n2 c2 : Nat) (ys : List Int) (w : World) (h1 : Ints n₀ w (.slice a n c) xs) (h2 : Ints n₁ w (.slice a2 n2 c2) ys) (hm : n ≤ maxLen) (hm2 : n2 ≤ maxLen) :
    Calls Try.prog 18 #[.slice a n c, .slice a2 n2 c2] w fun e w' => e = .returned (.bool (decide (xs = ys))) ∧ Upd [] w w' := by
  have HX := hide h1.form.2
  have HXN := hide h1.form.1
  have HY := hide h2.form.2
  have HYN := hide h2.form.1
  have hm' : n ≤ 9223372036854775807 := by unfold maxLen at hm; omega
  have hm2' : n2 ≤ 9223372036854775807 := by unfold maxLen at hm2; omega
  obtain ⟨r, HR⟩ : ∃ r, Hid (decide (xs = ys) = r) := ⟨_, rfl⟩
  rw [HR.out]
  clear h1 h2 hm hm2
  go_enter Try.func18, Try.ntmps18
  by_cases hnn : n = n2
  case neg =>
    have hnb : ((n : Int) != (n2 : Int)) = true := by simp; omega
    obtain rfl : r = false := by
      rw [← HR.out]
      exact decide_eq_false fun e => hnn (by have := HXN.out; have := HYN.out; rw [this, ‹n = _›, e])
    clear hnn
    go_wp2_with fail
    go_ret
    exact ⟨rfl, Upd.refl _ _⟩
  subst hnn
  go_wp2_with fail
  go_loopw [5] (fun s5 wr => ∃ k : Nat, k ≤ n ∧ s5 = .int .i64 k ∧ Hid (Upd [] w wr) ∧ Hid (xs.take k = ys.take k)) (fun k _ => n - (intOf k).toNat)
  case atStart => exact ⟨0, Nat.zero_le _, rfl, Upd.refl _ _, hide (by simp)⟩
  case round =>
    obtain ⟨k, hk, rfl, hu, hr⟩ := hrel
    obtain ⟨wo, rfl⟩ : ∃ wo : World, wo = wr := ⟨_, rfl⟩
    by_cases hkl : k < n
    · obtain ⟨x, hx⟩ : ∃ x, xs[k]? = some x := ⟨_, List.getElem?_eq_getElem (by have := HXN.out; omega)⟩
      obtain ⟨b, o, ea, _, c0⟩ := HX.out k x hx
      subst ea
      obtain ⟨y, hy⟩ : ∃ y, ys[k]? = some y := ⟨_, List.getElem?_eq_getElem (by have := HYN.out; omega)⟩
      obtain ⟨b2, o2, eb, _, d0⟩ := HY.out k y hy
      subst eb
      have hki : (k : Int) < n := by omega
      have c0' := keepc _ _ _ _ hu.out c0
      have d0' := keepc _ _ _ _ hu.out d0
      have V := hide (hu.out.drew)
      have HX2 := hide hx
      have HY2 := hide hy
      clear hx hy
      by_cases h0 : x = y
      · subst h0
        have HST := hide (show xs.take (k + 1) = ys.take (k + 1) by rw [List.take_add_one, List.take_add_one, hr.out, HX2.out, HY2.out])
        go_wp2_with fail
        refine wp_region_held_drew (S := (fun w' => w'.cell? ⟨b, o + k, none⟩ = some (.int .i64 x) ∧ w'.cell? ⟨b2, o2 + k, none⟩ = some (.int .i64 x))) (by kernel_rfl) (by exact ⟨c0', d0'⟩) (fun hHeld => ?_)
        refine wpAnyH_take (i := 0) (oi := ?oi0T1) (v := ?v0T1) ?oi0_0T1 (by kernel_rfl) ?ff0T1 ?rr0T1 ?hq0T1 (Or.inl ⟨?hw0T1, ?hy0T1⟩) (by assumption) ?rest0T1
        case oi0_0T1 =>
          conv =>
            lhs
            whnf
            arg 1
            whnf
        case hq0T1 => exact fun _ _ _ h => h
        case ff0T1 => kernel_rfl
        case rr0T1 => kernel_rfl
        case hw0T1 => rfl
        case hy0T1 =>
          intro w hSw
          (try dsimp only at hSw)
          first
          | (go_simp; done)
          | (go_simp; with_reducible rfl)
        try simp only [Act.put, List.setIfInBounds_toArray, List.set_cons_zero, List.set_cons_succ]
        refine wpAnyH_take (i := 1) (oi := ?oi1T1) (v := ?v1T1) ?oi0_1T1 (by kernel_rfl) ?ff1T1 ?rr1T1 ?hq1T1 (Or.inl ⟨?hw1T1, ?hy1T1⟩) (by assumption) ?rest1T1
        case oi0_1T1 =>
          conv =>
            lhs
            whnf
            arg 1
            whnf
        case hq1T1 => exact fun _ _ _ h => h
        case ff1T1 => kernel_rfl
        case rr1T1 => kernel_rfl
        case hw1T1 => rfl
        case hy1T1 =>
          intro w hSw
          (try dsimp only at hSw)
          first
          | (go_simp; done)
          | (go_simp; with_reducible rfl)
        try simp only [Act.put, List.setIfInBounds_toArray, List.set_cons_zero, List.set_cons_succ]
        refine wpAnyH_take (i := 2) (oi := ?oi2T1) (v := ?v2T1) ?oi0_2T1 (by kernel_rfl) ?ff2T1 ?rr2T1 ?hq2T1 (Or.inl ⟨?hw2T1, ?hy2T1⟩) (by assumption) ?rest2T1
        case oi0_2T1 =>
          conv =>
            lhs
            whnf
            arg 1
            whnf
        case hq2T1 => exact fun _ _ _ h => h
        case ff2T1 => kernel_rfl
        case rr2T1 => kernel_rfl
        case hw2T1 => rfl
        case hy2T1 =>
          intro w hSw
          (try dsimp only at hSw)
          first
          | (go_simp; done)
          | (go_simp; with_reducible rfl)
        try simp only [Act.put, List.setIfInBounds_toArray, List.set_cons_zero, List.set_cons_succ]
        refine wpAnyH_take (i := 3) (oi := ?oi3T1) (v := ?v3T1) ?oi0_3T1 (by kernel_rfl) ?ff3T1 ?rr3T1 ?hq3T1 (Or.inl ⟨?hw3T1, ?hy3T1⟩) (by assumption) ?rest3T1
        case oi0_3T1 =>
          conv =>
            lhs
            whnf
            arg 1
            whnf
        case hq3T1 => exact fun _ _ _ h => h
        case ff3T1 => kernel_rfl
        case rr3T1 => kernel_rfl
        case hw3T1 => rfl
        case hy3T1 =>
          intro w hSw
          (try dsimp only at hSw)
          first
          | (go_simp; done)
          | (go_simp; with_reducible rfl)
        try simp only [Act.put, List.setIfInBounds_toArray, List.set_cons_zero, List.set_cons_succ]
        refine wpAnyH_take (i := 4) (oi := ?oi4T1) (v := ?v4T1) ?oi0_4T1 (by kernel_rfl) ?ff4T1 ?rr4T1 ?hq4T1 (Or.inl ⟨?hw4T1, ?hy4T1⟩) (by assumption) ?rest4T1
        case oi0_4T1 =>
          conv =>
            lhs
            whnf
            arg 1
            whnf
        case hq4T1 => exact fun _ _ _ h => h
        case ff4T1 => kernel_rfl
        case rr4T1 => kernel_rfl
        case hw4T1 => rfl
        case hy4T1 =>
          intro w hSw
          (try dsimp only at hSw)
          first
          | (go_simp; done)
          | (go_simp; with_reducible rfl)
        try simp only [Act.put, List.setIfInBounds_toArray, List.set_cons_zero, List.set_cons_succ]
        refine wpAnyH_take (i := 5) (oi := ?oi5T1) (v := ?v5T1) ?oi0_5T1 (by kernel_rfl) ?ff5T1 ?rr5T1 ?hq5T1 (Or.inl ⟨?hw5T1, ?hy5T1⟩) (by assumption) ?rest5T1
        case oi0_5T1 =>
          conv =>
            lhs
            whnf
            arg 1
            whnf
        case hq5T1 => exact fun _ _ _ h => h
        case ff5T1 => kernel_rfl
        case rr5T1 => kernel_rfl
        case hw5T1 => rfl
        case hy5T1 =>
          intro w hSw
          (try dsimp only at hSw)
          first
          | (go_simp; done)
          | (go_simp; with_reducible rfl)
        try simp only [Act.put, List.setIfInBounds_toArray, List.set_cons_zero, List.set_cons_succ]
        refine wpAnyH_take (i := 6) (oi := ?oi6T1) (v := ?v6T1) ?oi0_6T1 (by kernel_rfl) ?ff6T1 ?rr6T1 ?hq6T1 (Or.inl ⟨?hw6T1, ?hy6T1⟩) (by assumption) ?rest6T1
        case oi0_6T1 =>
          conv =>
            lhs
            whnf
            arg 1
            whnf
        case hq6T1 => exact fun _ _ _ h => h
        case ff6T1 => kernel_rfl
        case rr6T1 => kernel_rfl
        case hw6T1 => rfl
        case hy6T1 =>
          intro w hSw
          (try dsimp only at hSw)
          first
          | (go_simp; done)
          | (go_simp; with_reducible rfl)
        try simp only [Act.put, List.setIfInBounds_toArray, List.set_cons_zero, List.set_cons_succ]
        refine wpAnyH_take (i := 7) (oi := ?oi7T1) (v := ?v7T1) ?oi0_7T1 (by kernel_rfl) ?ff7T1 ?rr7T1 ?hq7T1 (Or.inl ⟨?hw7T1, ?hy7T1⟩) (by assumption) ?rest7T1
        case oi0_7T1 =>
          conv =>
            lhs
            whnf
            arg 1
            whnf
        case hq7T1 => exact fun _ _ _ h => h
        case ff7T1 => kernel_rfl
        case rr7T1 => kernel_rfl
        case hw7T1 => rfl
        case hy7T1 =>
          intro w hSw
          (try dsimp only at hSw)
          first
          | (go_simp; done)
          | (go_simp; with_reducible rfl)
        try simp only [Act.put, List.setIfInBounds_toArray, List.set_cons_zero, List.set_cons_succ]
        refine wpAnyH_take (i := 8) (oi := ?oi8T1) (v := ?v8T1) ?oi0_8T1 (by kernel_rfl) ?ff8T1 ?rr8T1 ?hq8T1 (Or.inl ⟨?hw8T1, ?hy8T1⟩) (by assumption) ?rest8T1
        case oi0_8T1 =>
          conv =>
            lhs
            whnf
            arg 1
            whnf
        case hq8T1 => exact fun _ _ _ h => h
        case ff8T1 => kernel_rfl
        case rr8T1 => kernel_rfl
        case hw8T1 => rfl
        case hy8T1 =>
          intro w hSw
          (try dsimp only at hSw)
          first
          | (go_simp; done)
          | (go_simp; with_reducible rfl)
        try simp only [Act.put, List.setIfInBounds_toArray, List.set_cons_zero, List.set_cons_succ]
        refine wpAnyH_done (by kernel_rfl) ?_ _
        go_wp2_with fail
        go_roundw
        case rel => exact ⟨k + 1, by omega, by go_num, V, HST⟩
        case measure => simp [intOf] <;> omega
      · have h0b : (x != y) = true := by simpa using h0
        obtain rfl : r = false := by
          rw [← HR.out]
          refine decide_eq_false fun e => h0 ?_
          have h1 := HX2.out
          rw [e, HY2.out] at h1
          exact (Option.some.inj h1).symm
        clear h0
        go_wp2_with fail
        refine wp_region_held_drew (S := (fun w' => w'.cell? ⟨b, o + k, none⟩ = some (.int .i64 x) ∧ w'.cell? ⟨b2, o2 + k, none⟩ = some (.int .i64 y))) (by kernel_rfl) (by exact ⟨c0', d0'⟩) (fun hHeld => ?_)
        refine wpAnyH_take (i := 0) (oi := ?oi0T2) (v := ?v0T2) ?oi0_0T2 (by kernel_rfl) ?ff0T2 ?rr0T2 ?hq0T2 (Or.inl ⟨?hw0T2, ?hy0T2⟩) (by assumption) ?rest0T2
        case oi0_0T2 =>
          conv =>
            lhs
            whnf
            arg 1
            whnf
        case hq0T2 => exact fun _ _ _ h => h
        case ff0T2 => kernel_rfl
        case rr0T2 => kernel_rfl
        case hw0T2 => rfl
        case hy0T2 =>
          intro w hSw
          (try dsimp only at hSw)
          first
          | (go_simp; done)
          | (go_simp; with_reducible rfl)
        try simp only [Act.put, List.setIfInBounds_toArray, List.set_cons_zero, List.set_cons_succ]
        refine wpAnyH_take (i := 1) (oi := ?oi1T2) (v := ?v1T2) ?oi0_1T2 (by kernel_rfl) ?ff1T2 ?rr1T2 ?hq1T2 (Or.inl ⟨?hw1T2, ?hy1T2⟩) (by assumption) ?rest1T2
        case oi0_1T2 =>
          conv =>
            lhs
            whnf
            arg 1
            whnf
        case hq1T2 => exact fun _ _ _ h => h
        case ff1T2 => kernel_rfl
        case rr1T2 => kernel_rfl
        case hw1T2 => rfl
        case hy1T2 =>
          intro w hSw
          (try dsimp only at hSw)
          first
          | (go_simp; done)
          | (go_simp; with_reducible rfl)
        try simp only [Act.put, List.setIfInBounds_toArray, List.set_cons_zero, List.set_cons_succ]
        refine wpAnyH_take (i := 2) (oi := ?oi2T2) (v := ?v2T2) ?oi0_2T2 (by kernel_rfl) ?ff2T2 ?rr2T2 ?hq2T2 (Or.inl ⟨?hw2T2, ?hy2T2⟩) (by assumption) ?rest2T2
        case oi0_2T2 =>
          conv =>
            lhs
            whnf
            arg 1
            whnf
        case hq2T2 => exact fun _ _ _ h => h
        case ff2T2 => kernel_rfl
        case rr2T2 => kernel_rfl
        case hw2T2 => rfl
        case hy2T2 =>
          intro w hSw
          (try dsimp only at hSw)
          first
          | (go_simp; done)
          | (go_simp; with_reducible rfl)
        try simp only [Act.put, List.setIfInBounds_toArray, List.set_cons_zero, List.set_cons_succ]
        refine wpAnyH_take (i := 3) (oi := ?oi3T2) (v := ?v3T2) ?oi0_3T2 (by kernel_rfl) ?ff3T2 ?rr3T2 ?hq3T2 (Or.inl ⟨?hw3T2, ?hy3T2⟩) (by assumption) ?rest3T2
        case oi0_3T2 =>
          conv =>
            lhs
            whnf
            arg 1
            whnf
        case hq3T2 => exact fun _ _ _ h => h
        case ff3T2 => kernel_rfl
        case rr3T2 => kernel_rfl
        case hw3T2 => rfl
        case hy3T2 =>
          intro w hSw
          (try dsimp only at hSw)
          first
          | (go_simp; done)
          | (go_simp; with_reducible rfl)
        try simp only [Act.put, List.setIfInBounds_toArray, List.set_cons_zero, List.set_cons_succ]
        refine wpAnyH_take (i := 4) (oi := ?oi4T2) (v := ?v4T2) ?oi0_4T2 (by kernel_rfl) ?ff4T2 ?rr4T2 ?hq4T2 (Or.inl ⟨?hw4T2, ?hy4T2⟩) (by assumption) ?rest4T2
        case oi0_4T2 =>
          conv =>
            lhs
            whnf
            arg 1
            whnf
        case hq4T2 => exact fun _ _ _ h => h
        case ff4T2 => kernel_rfl
        case rr4T2 => kernel_rfl
        case hw4T2 => rfl
        case hy4T2 =>
          intro w hSw
          (try dsimp only at hSw)
          first
          | (go_simp; done)
          | (go_simp; with_reducible rfl)
        try simp only [Act.put, List.setIfInBounds_toArray, List.set_cons_zero, List.set_cons_succ]
        refine wpAnyH_take (i := 5) (oi := ?oi5T2) (v := ?v5T2) ?oi0_5T2 (by kernel_rfl) ?ff5T2 ?rr5T2 ?hq5T2 (Or.inl ⟨?hw5T2, ?hy5T2⟩) (by assumption) ?rest5T2
        case oi0_5T2 =>
          conv =>
            lhs
            whnf
            arg 1
            whnf
        case hq5T2 => exact fun _ _ _ h => h
        case ff5T2 => kernel_rfl
        case rr5T2 => kernel_rfl
        case hw5T2 => rfl
        case hy5T2 =>
          intro w hSw
          (try dsimp only at hSw)
          first
          | (go_simp; done)
          | (go_simp; with_reducible rfl)
        try simp only [Act.put, List.setIfInBounds_toArray, List.set_cons_zero, List.set_cons_succ]
        refine wpAnyH_take (i := 6) (oi := ?oi6T2) (v := ?v6T2) ?oi0_6T2 (by kernel_rfl) ?ff6T2 ?rr6T2 ?hq6T2 (Or.inl ⟨?hw6T2, ?hy6T2⟩) (by assumption) ?rest6T2
        case oi0_6T2 =>
          conv =>
            lhs
            whnf
            arg 1
            whnf
        case hq6T2 => exact fun _ _ _ h => h
        case ff6T2 => kernel_rfl
        case rr6T2 => kernel_rfl
        case hw6T2 => rfl
        case hy6T2 =>
          intro w hSw
          (try dsimp only at hSw)
          first
          | (go_simp; done)
          | (go_simp; with_reducible rfl)
        try simp only [Act.put, List.setIfInBounds_toArray, List.set_cons_zero, List.set_cons_succ]
        refine wpAnyH_take (i := 7) (oi := ?oi7T2) (v := ?v7T2) ?oi0_7T2 (by kernel_rfl) ?ff7T2 ?rr7T2 ?hq7T2 (Or.inl ⟨?hw7T2, ?hy7T2⟩) (by assumption) ?rest7T2
        case oi0_7T2 =>
          conv =>
            lhs
            whnf
            arg 1
            whnf
        case hq7T2 => exact fun _ _ _ h => h
        case ff7T2 => kernel_rfl
        case rr7T2 => kernel_rfl
        case hw7T2 => rfl
        case hy7T2 =>
          intro w hSw
          (try dsimp only at hSw)
          first
          | (go_simp; done)
          | (go_simp; with_reducible rfl)
        try simp only [Act.put, List.setIfInBounds_toArray, List.set_cons_zero, List.set_cons_succ]
        refine wpAnyH_take (i := 8) (oi := ?oi8T2) (v := ?v8T2) ?oi0_8T2 (by kernel_rfl) ?ff8T2 ?rr8T2 ?hq8T2 (Or.inl ⟨?hw8T2, ?hy8T2⟩) (by assumption) ?rest8T2
        case oi0_8T2 =>
          conv =>
            lhs
            whnf
            arg 1
            whnf
        case hq8T2 => exact fun _ _ _ h => h
        case ff8T2 => kernel_rfl
        case rr8T2 => kernel_rfl
        case hw8T2 => rfl
        case hy8T2 =>
          intro w hSw
          (try dsimp only at hSw)
          first
          | (go_simp; done)
          | (go_simp; with_reducible rfl)
        try simp only [Act.put, List.setIfInBounds_toArray, List.set_cons_zero, List.set_cons_succ]
        refine wpAnyH_done (by kernel_rfl) ?_ _
        go_wp2_with fail
        go_ret
        exact ⟨rfl, V.out⟩
    · obtain rfl : k = n := by omega
      have hki : ¬ (k : Int) < k := by omega
      obtain rfl : r = true := by
        rw [← HR.out]
        have h1 := hr.out
        rw [List.take_of_length_le (by have := HXN.out; omega), List.take_of_length_le (by have := HYN.out; omega)] at h1
        exact decide_eq_true h1
      go_wp2_with fail
      go_ret
      exact ⟨rfl, hu.out⟩

deriving instance DecidableEq for Sp
theorem refSameSpells {n₀ n₁ : Nat} (a : Option Addr) (n c : Nat) (xs : List Sp) (a2 : Option Addr) (n2 c2 : Nat) (ys : List Sp) (w : World) (h1 : SpsAt n₀ w a xs) (h2 : SpsAt n₁ w a2 ys) (hxn : n = xs.length) (hyn : n2 = ys.length) (hm : n ≤ maxLen) (hm2 : n2 ≤ maxLen) :
    Calls Try.prog 28 #[.slice a n c, .slice a2 n2 c2] w fun e w' => e = .returned (.bool (decide (xs = ys))) ∧ Upd [] w w' := by
  have HX := hide h1
  have HXN := hide hxn
  have HY := hide h2
  have HYN := hide hyn
  have hm' : n ≤ 9223372036854775807 := by unfold maxLen at hm; omega
  have hm2' : n2 ≤ 9223372036854775807 := by unfold maxLen at hm2; omega
  obtain ⟨r, HR⟩ : ∃ r, Hid (decide (xs = ys) = r) := ⟨_, rfl⟩
  rw [HR.out]
  clear h1 h2 hm hm2 hxn hyn
  go_enter Try.func28, Try.ntmps28
  by_cases hnn : n = n2
  case neg =>
    have hnb : ((n : Int) != (n2 : Int)) = true := by simp; omega
    obtain rfl : r = false := by
      rw [← HR.out]
      exact decide_eq_false fun e => hnn (by have := HXN.out; have := HYN.out; rw [this, ‹n = _›, e])
    clear hnn
    go_wp2_with fail
    go_ret
    exact ⟨rfl, Upd.refl _ _⟩
  subst hnn
  go_wp2_with fail
  go_loopw [5] (fun s5 wr => ∃ k : Nat, k ≤ n ∧ s5 = .int .i64 k ∧ Hid (Upd [] w wr) ∧ Hid (xs.take k = ys.take k)) (fun k _ => n - (intOf k).toNat)
  case atStart => exact ⟨0, Nat.zero_le _, rfl, Upd.refl _ _, hide (by simp)⟩
  case round =>
    obtain ⟨k, hk, rfl, hu, hr⟩ := hrel
    obtain ⟨wo, rfl⟩ : ∃ wo : World, wo = wr := ⟨_, rfl⟩
    by_cases hkl : k < n
    · obtain ⟨x, hx⟩ : ∃ x, xs[k]? = some x := ⟨_, List.getElem?_eq_getElem (by have := HXN.out; omega)⟩
      obtain ⟨b, o, ea, _, c0, c1⟩ := HX.out k x hx
      subst ea
      obtain ⟨y, hy⟩ : ∃ y, ys[k]? = some y := ⟨_, List.getElem?_eq_getElem (by have := HYN.out; omega)⟩
      obtain ⟨b2, o2, eb, _, d0, d1⟩ := HY.out k y hy
      subst eb
      obtain ⟨x1, x2⟩ := x
      obtain ⟨y1, y2⟩ := y
      dsimp only at c0 c1 d0 d1
      have hki : (k : Int) < n := by omega
      have c0' := keepc _ _ _ _ hu.out c0
      have d0' := keepc _ _ _ _ hu.out d0
      have c1' := keepc _ _ _ _ hu.out c1
      have d1' := keepc _ _ _ _ hu.out d1
      have V := hide (hu.out.drew)
      have HX2 := hide hx
      have HY2 := hide hy
      clear hx hy c0 c1 d0 d1
      by_cases h0 : x1 = y1 ∧ x2 = y2
      · obtain ⟨rfl, rfl⟩ := h0
        have HST := hide (show xs.take (k + 1) = ys.take (k + 1) by rw [List.take_add_one, List.take_add_one, hr.out, HX2.out, HY2.out])
        go_wp2_with fail
        refine wp_region_held_drew (S := (fun w' => w'.cell? ⟨b, o + k * 2, none⟩ = some (.int .i64 x1) ∧ w'.cell? ⟨b, o + k * 2 + 1, none⟩ = some (.int .i64 x2) ∧ w'.cell? ⟨b2, o2 + k * 2, none⟩ = some (.int .i64 x1) ∧ w'.cell? ⟨b2, o2 + k * 2 + 1, none⟩ = some (.int .i64 x2))) (by kernel_rfl) (by exact ⟨c0', c1', d0', d1'⟩) (fun hHeld => ?_)
        refine wpAnyH_take (i := 0) (oi := ?oi0T3) (v := ?v0T3) ?oi0_0T3 (by kernel_rfl) ?ff0T3 ?rr0T3 ?hq0T3 (Or.inl ⟨?hw0T3, ?hy0T3⟩) (by assumption) ?rest0T3
        case oi0_0T3 =>
          conv =>
            lhs
            whnf
            arg 1
            whnf
        case hq0T3 => exact fun _ _ _ h => h
        case ff0T3 => kernel_rfl
        case rr0T3 => kernel_rfl
        case hw0T3 => rfl
        case hy0T3 =>
          intro w hSw
          (try dsimp only at hSw)
          first
          | (go_simp; done)
          | (go_simp; with_reducible rfl)
        try simp only [Act.put, List.setIfInBounds_toArray, List.set_cons_zero, List.set_cons_succ]
        refine wpAnyH_take (i := 1) (oi := ?oi1T3) (v := ?v1T3) ?oi0_1T3 (by kernel_rfl) ?ff1T3 ?rr1T3 ?hq1T3 (Or.inl ⟨?hw1T3, ?hy1T3⟩) (by assumption) ?rest1T3
        case oi0_1T3 =>
          conv =>
            lhs
            whnf
            arg 1
            whnf
        case hq1T3 => exact fun _ _ _ h => h
        case ff1T3 => kernel_rfl
        case rr1T3 => kernel_rfl
        case hw1T3 => rfl
        case hy1T3 =>
          intro w hSw
          (try dsimp only at hSw)
          first
          | (go_simp; done)
          | (go_simp; with_reducible rfl)
        try simp only [Act.put, List.setIfInBounds_toArray, List.set_cons_zero, List.set_cons_succ]
        refine wpAnyH_take (i := 2) (oi := ?oi2T3) (v := ?v2T3) ?oi0_2T3 (by kernel_rfl) ?ff2T3 ?rr2T3 ?hq2T3 (Or.inl ⟨?hw2T3, ?hy2T3⟩) (by assumption) ?rest2T3
        case oi0_2T3 =>
          conv =>
            lhs
            whnf
            arg 1
            whnf
        case hq2T3 => exact fun _ _ _ h => h
        case ff2T3 => kernel_rfl
        case rr2T3 => kernel_rfl
        case hw2T3 => rfl
        case hy2T3 =>
          intro w hSw
          (try dsimp only at hSw)
          first
          | (go_simp; done)
          | (go_simp; with_reducible rfl)
        try simp only [Act.put, List.setIfInBounds_toArray, List.set_cons_zero, List.set_cons_succ]
        refine wpAnyH_take (i := 3) (oi := ?oi3T3) (v := ?v3T3) ?oi0_3T3 (by kernel_rfl) ?ff3T3 ?rr3T3 ?hq3T3 (Or.inl ⟨?hw3T3, ?hy3T3⟩) (by assumption) ?rest3T3
        case oi0_3T3 =>
          conv =>
            lhs
            whnf
            arg 1
            whnf
        case hq3T3 => exact fun _ _ _ h => h
        case ff3T3 => kernel_rfl
        case rr3T3 => kernel_rfl
        case hw3T3 => rfl
        case hy3T3 =>
          intro w hSw
          (try dsimp only at hSw)
          first
          | (go_simp; done)
          | (go_simp; with_reducible rfl)
        try simp only [Act.put, List.setIfInBounds_toArray, List.set_cons_zero, List.set_cons_succ]
        refine wpAnyH_take (i := 4) (oi := ?oi4T3) (v := ?v4T3) ?oi0_4T3 (by kernel_rfl) ?ff4T3 ?rr4T3 ?hq4T3 (Or.inl ⟨?hw4T3, ?hy4T3⟩) (by assumption) ?rest4T3
        case oi0_4T3 =>
          conv =>
            lhs
            whnf
            arg 1
            whnf
        case hq4T3 => exact fun _ _ _ h => h
        case ff4T3 => kernel_rfl
        case rr4T3 => kernel_rfl
        case hw4T3 => rfl
        case hy4T3 =>
          intro w hSw
          (try dsimp only at hSw)
          first
          | (go_simp; done)
          | (go_simp; with_reducible rfl)
        try simp only [Act.put, List.setIfInBounds_toArray, List.set_cons_zero, List.set_cons_succ]
        refine wpAnyH_take (i := 5) (oi := ?oi5T3) (v := ?v5T3) ?oi0_5T3 (by kernel_rfl) ?ff5T3 ?rr5T3 ?hq5T3 (Or.inl ⟨?hw5T3, ?hy5T3⟩) (by assumption) ?rest5T3
        case oi0_5T3 =>
          conv =>
            lhs
            whnf
            arg 1
            whnf
        case hq5T3 => exact fun _ _ _ h => h
        case ff5T3 => kernel_rfl
        case rr5T3 => kernel_rfl
        case hw5T3 => rfl
        case hy5T3 =>
          intro w hSw
          (try dsimp only at hSw)
          first
          | (go_simp; done)
          | (go_simp; with_reducible rfl)
        try simp only [Act.put, List.setIfInBounds_toArray, List.set_cons_zero, List.set_cons_succ]
        refine wpAnyH_take (i := 6) (oi := ?oi6T3) (v := ?v6T3) ?oi0_6T3 (by kernel_rfl) ?ff6T3 ?rr6T3 ?hq6T3 (Or.inl ⟨?hw6T3, ?hy6T3⟩) (by assumption) ?rest6T3
        case oi0_6T3 =>
          conv =>
            lhs
            whnf
            arg 1
            whnf
        case hq6T3 => exact fun _ _ _ h => h
        case ff6T3 => kernel_rfl
        case rr6T3 => kernel_rfl
        case hw6T3 => rfl
        case hy6T3 =>
          intro w hSw
          (try dsimp only at hSw)
          first
          | (go_simp; done)
          | (go_simp; with_reducible rfl)
        try simp only [Act.put, List.setIfInBounds_toArray, List.set_cons_zero, List.set_cons_succ]
        refine wpAnyH_take (i := 7) (oi := ?oi7T3) (v := ?v7T3) ?oi0_7T3 (by kernel_rfl) ?ff7T3 ?rr7T3 ?hq7T3 (Or.inl ⟨?hw7T3, ?hy7T3⟩) (by assumption) ?rest7T3
        case oi0_7T3 =>
          conv =>
            lhs
            whnf
            arg 1
            whnf
        case hq7T3 => exact fun _ _ _ h => h
        case ff7T3 => kernel_rfl
        case rr7T3 => kernel_rfl
        case hw7T3 => rfl
        case hy7T3 =>
          intro w hSw
          (try dsimp only at hSw)
          first
          | (go_simp; done)
          | (go_simp; with_reducible rfl)
        try simp only [Act.put, List.setIfInBounds_toArray, List.set_cons_zero, List.set_cons_succ]
        refine wpAnyH_take (i := 8) (oi := ?oi8T3) (v := ?v8T3) ?oi0_8T3 (by kernel_rfl) ?ff8T3 ?rr8T3 ?hq8T3 (Or.inl ⟨?hw8T3, ?hy8T3⟩) (by assumption) ?rest8T3
        case oi0_8T3 =>
          conv =>
            lhs
            whnf
            arg 1
            whnf
        case hq8T3 => exact fun _ _ _ h => h
        case ff8T3 => kernel_rfl
        case rr8T3 => kernel_rfl
        case hw8T3 => rfl
        case hy8T3 =>
          intro w hSw
          (try dsimp only at hSw)
          first
          | (go_simp; done)
          | (go_simp; with_reducible rfl)
        try simp only [Act.put, List.setIfInBounds_toArray, List.set_cons_zero, List.set_cons_succ]
        refine wpAnyH_done (by kernel_rfl) ?_ _
        go_wp2_with fail
        go_roundw
        case rel => exact ⟨k + 1, by omega, by go_num, V, HST⟩
        case measure => simp [intOf] <;> omega
      · obtain rfl : r = false := by
          rw [← HR.out]
          refine decide_eq_false fun e => h0 ?_
          have h1 := HX2.out
          rw [e, HY2.out] at h1
          have := Option.some.inj h1
          injection this with e1 e2
          exact ⟨e1.symm, e2.symm⟩
        by_cases e1 : x1 = y1
        · subst e1
          have e2 : ¬ x2 = y2 := fun e => h0 ⟨rfl, e⟩
          have e2b : (x2 != y2) = true := by simpa using e2
          have e2c : (x2 == y2) = false := by simpa using e2
          clear h0 e2
          go_wp2_with fail
          refine wp_region_held_drew (S := (fun w' => w'.cell? ⟨b, o + k * 2, none⟩ = some (.int .i64 x1) ∧ w'.cell? ⟨b, o + k * 2 + 1, none⟩ = some (.int .i64 x2) ∧ w'.cell? ⟨b2, o2 + k * 2, none⟩ = some (.int .i64 x1) ∧ w'.cell? ⟨b2, o2 + k * 2 + 1, none⟩ = some (.int .i64 y2))) (by kernel_rfl) (by exact ⟨c0', c1', d0', d1'⟩) (fun hHeld => ?_)
          refine wpAnyH_take (i := 0) (oi := ?oi0T4) (v := ?v0T4) ?oi0_0T4 (by kernel_rfl) ?ff0T4 ?rr0T4 ?hq0T4 (Or.inl ⟨?hw0T4, ?hy0T4⟩) (by assumption) ?rest0T4
          case oi0_0T4 =>
            conv =>
              lhs
              whnf
              arg 1
              whnf
          case hq0T4 => exact fun _ _ _ h => h
          case ff0T4 => kernel_rfl
          case rr0T4 => kernel_rfl
          case hw0T4 => rfl
          case hy0T4 =>
            intro w hSw
            (try dsimp only at hSw)
            first
            | (go_simp; done)
            | (go_simp; with_reducible rfl)
          try simp only [Act.put, List.setIfInBounds_toArray, List.set_cons_zero, List.set_cons_succ]
          refine wpAnyH_take (i := 1) (oi := ?oi1T4) (v := ?v1T4) ?oi0_1T4 (by kernel_rfl) ?ff1T4 ?rr1T4 ?hq1T4 (Or.inl ⟨?hw1T4, ?hy1T4⟩) (by assumption) ?rest1T4
          case oi0_1T4 =>
            conv =>
              lhs
              whnf
              arg 1
              whnf
          case hq1T4 => exact fun _ _ _ h => h
          case ff1T4 => kernel_rfl
          case rr1T4 => kernel_rfl
          case hw1T4 => rfl
          case hy1T4 =>
            intro w hSw
            (try dsimp only at hSw)
            first
            | (go_simp; done)
            | (go_simp; with_reducible rfl)
          try simp only [Act.put, List.setIfInBounds_toArray, List.set_cons_zero, List.set_cons_succ]
          refine wpAnyH_take (i := 2) (oi := ?oi2T4) (v := ?v2T4) ?oi0_2T4 (by kernel_rfl) ?ff2T4 ?rr2T4 ?hq2T4 (Or.inl ⟨?hw2T4, ?hy2T4⟩) (by assumption) ?rest2T4
          case oi0_2T4 =>
            conv =>
              lhs
              whnf
              arg 1
              whnf
          case hq2T4 => exact fun _ _ _ h => h
          case ff2T4 => kernel_rfl
          case rr2T4 => kernel_rfl
          case hw2T4 => rfl
          case hy2T4 =>
            intro w hSw
            (try dsimp only at hSw)
            first
            | (go_simp; done)
            | (go_simp; with_reducible rfl)
          try simp only [Act.put, List.setIfInBounds_toArray, List.set_cons_zero, List.set_cons_succ]
          refine wpAnyH_take (i := 3) (oi := ?oi3T4) (v := ?v3T4) ?oi0_3T4 (by kernel_rfl) ?ff3T4 ?rr3T4 ?hq3T4 (Or.inl ⟨?hw3T4, ?hy3T4⟩) (by assumption) ?rest3T4
          case oi0_3T4 =>
            conv =>
              lhs
              whnf
              arg 1
              whnf
          case hq3T4 => exact fun _ _ _ h => h
          case ff3T4 => kernel_rfl
          case rr3T4 => kernel_rfl
          case hw3T4 => rfl
          case hy3T4 =>
            intro w hSw
            (try dsimp only at hSw)
            first
            | (go_simp; done)
            | (go_simp; with_reducible rfl)
          try simp only [Act.put, List.setIfInBounds_toArray, List.set_cons_zero, List.set_cons_succ]
          refine wpAnyH_take (i := 4) (oi := ?oi4T4) (v := ?v4T4) ?oi0_4T4 (by kernel_rfl) ?ff4T4 ?rr4T4 ?hq4T4 (Or.inl ⟨?hw4T4, ?hy4T4⟩) (by assumption) ?rest4T4
          case oi0_4T4 =>
            conv =>
              lhs
              whnf
              arg 1
              whnf
          case hq4T4 => exact fun _ _ _ h => h
          case ff4T4 => kernel_rfl
          case rr4T4 => kernel_rfl
          case hw4T4 => rfl
          case hy4T4 =>
            intro w hSw
            (try dsimp only at hSw)
            first
            | (go_simp; done)
            | (go_simp; with_reducible rfl)
          try simp only [Act.put, List.setIfInBounds_toArray, List.set_cons_zero, List.set_cons_succ]
          refine wpAnyH_take (i := 5) (oi := ?oi5T4) (v := ?v5T4) ?oi0_5T4 (by kernel_rfl) ?ff5T4 ?rr5T4 ?hq5T4 (Or.inl ⟨?hw5T4, ?hy5T4⟩) (by assumption) ?rest5T4
          case oi0_5T4 =>
            conv =>
              lhs
              whnf
              arg 1
              whnf
          case hq5T4 => exact fun _ _ _ h => h
          case ff5T4 => kernel_rfl
          case rr5T4 => kernel_rfl
          case hw5T4 => rfl
          case hy5T4 =>
            intro w hSw
            (try dsimp only at hSw)
            first
            | (go_simp; done)
            | (go_simp; with_reducible rfl)
          try simp only [Act.put, List.setIfInBounds_toArray, List.set_cons_zero, List.set_cons_succ]
          refine wpAnyH_take (i := 6) (oi := ?oi6T4) (v := ?v6T4) ?oi0_6T4 (by kernel_rfl) ?ff6T4 ?rr6T4 ?hq6T4 (Or.inl ⟨?hw6T4, ?hy6T4⟩) (by assumption) ?rest6T4
          case oi0_6T4 =>
            conv =>
              lhs
              whnf
              arg 1
              whnf
          case hq6T4 => exact fun _ _ _ h => h
          case ff6T4 => kernel_rfl
          case rr6T4 => kernel_rfl
          case hw6T4 => rfl
          case hy6T4 =>
            intro w hSw
            (try dsimp only at hSw)
            first
            | (go_simp; done)
            | (go_simp; with_reducible rfl)
          try simp only [Act.put, List.setIfInBounds_toArray, List.set_cons_zero, List.set_cons_succ]
          refine wpAnyH_take (i := 7) (oi := ?oi7T4) (v := ?v7T4) ?oi0_7T4 (by kernel_rfl) ?ff7T4 ?rr7T4 ?hq7T4 (Or.inl ⟨?hw7T4, ?hy7T4⟩) (by assumption) ?rest7T4
          case oi0_7T4 =>
            conv =>
              lhs
              whnf
              arg 1
              whnf
          case hq7T4 => exact fun _ _ _ h => h
          case ff7T4 => kernel_rfl
          case rr7T4 => kernel_rfl
          case hw7T4 => rfl
          case hy7T4 =>
            intro w hSw
            (try dsimp only at hSw)
            first
            | (go_simp; done)
            | (go_simp; with_reducible rfl)
          try simp only [Act.put, List.setIfInBounds_toArray, List.set_cons_zero, List.set_cons_succ]
          refine wpAnyH_take (i := 8) (oi := ?oi8T4) (v := ?v8T4) ?oi0_8T4 (by kernel_rfl) ?ff8T4 ?rr8T4 ?hq8T4 (Or.inl ⟨?hw8T4, ?hy8T4⟩) (by assumption) ?rest8T4
          case oi0_8T4 =>
            conv =>
              lhs
              whnf
              arg 1
              whnf
          case hq8T4 => exact fun _ _ _ h => h
          case ff8T4 => kernel_rfl
          case rr8T4 => kernel_rfl
          case hw8T4 => rfl
          case hy8T4 =>
            intro w hSw
            (try dsimp only at hSw)
            first
            | (go_simp; done)
            | (go_simp; with_reducible rfl)
          try simp only [Act.put, List.setIfInBounds_toArray, List.set_cons_zero, List.set_cons_succ]
          refine wpAnyH_done (by kernel_rfl) ?_ _
          go_wp2_with fail
          go_ret
          exact ⟨rfl, V.out⟩
        · have e2b : (x1 != y1) = true := by simpa using e1
          have e2c : (x1 == y1) = false := by simpa using e1
          clear h0 e1
          go_wp2_with fail
          refine wp_region_held_drew (S := (fun w' => w'.cell? ⟨b, o + k * 2, none⟩ = some (.int .i64 x1) ∧ w'.cell? ⟨b, o + k * 2 + 1, none⟩ = some (.int .i64 x2) ∧ w'.cell? ⟨b2, o2 + k * 2, none⟩ = some (.int .i64 y1) ∧ w'.cell? ⟨b2, o2 + k * 2 + 1, none⟩ = some (.int .i64 y2))) (by kernel_rfl) (by exact ⟨c0', c1', d0', d1'⟩) (fun hHeld => ?_)
          refine wpAnyH_take (i := 0) (oi := ?oi0T5) (v := ?v0T5) ?oi0_0T5 (by kernel_rfl) ?ff0T5 ?rr0T5 ?hq0T5 (Or.inl ⟨?hw0T5, ?hy0T5⟩) (by assumption) ?rest0T5
          case oi0_0T5 =>
            conv =>
              lhs
              whnf
              arg 1
              whnf
          case hq0T5 => exact fun _ _ _ h => h
          case ff0T5 => kernel_rfl
          case rr0T5 => kernel_rfl
          case hw0T5 => rfl
          case hy0T5 =>
            intro w hSw
            (try dsimp only at hSw)
            first
            | (go_simp; done)
            | (go_simp; with_reducible rfl)
          try simp only [Act.put, List.setIfInBounds_toArray, List.set_cons_zero, List.set_cons_succ]
          refine wpAnyH_take (i := 1) (oi := ?oi1T5) (v := ?v1T5) ?oi0_1T5 (by kernel_rfl) ?ff1T5 ?rr1T5 ?hq1T5 (Or.inl ⟨?hw1T5, ?hy1T5⟩) (by assumption) ?rest1T5
          case oi0_1T5 =>
            conv =>
              lhs
              whnf
              arg 1
              whnf
          case hq1T5 => exact fun _ _ _ h => h
          case ff1T5 => kernel_rfl
          case rr1T5 => kernel_rfl
          case hw1T5 => rfl
          case hy1T5 =>
            intro w hSw
            (try dsimp only at hSw)
            first
            | (go_simp; done)
            | (go_simp; with_reducible rfl)
          try simp only [Act.put, List.setIfInBounds_toArray, List.set_cons_zero, List.set_cons_succ]
          refine wpAnyH_take (i := 2) (oi := ?oi2T5) (v := ?v2T5) ?oi0_2T5 (by kernel_rfl) ?ff2T5 ?rr2T5 ?hq2T5 (Or.inl ⟨?hw2T5, ?hy2T5⟩) (by assumption) ?rest2T5
          case oi0_2T5 =>
            conv =>
              lhs
              whnf
              arg 1
              whnf
          case hq2T5 => exact fun _ _ _ h => h
          case ff2T5 => kernel_rfl
          case rr2T5 => kernel_rfl
          case hw2T5 => rfl
          case hy2T5 =>
            intro w hSw
            (try dsimp only at hSw)
            first
            | (go_simp; done)
            | (go_simp; with_reducible rfl)
          try simp only [Act.put, List.setIfInBounds_toArray, List.set_cons_zero, List.set_cons_succ]
          refine wpAnyH_take (i := 3) (oi := ?oi3T5) (v := ?v3T5) ?oi0_3T5 (by kernel_rfl) ?ff3T5 ?rr3T5 ?hq3T5 (Or.inl ⟨?hw3T5, ?hy3T5⟩) (by assumption) ?rest3T5
          case oi0_3T5 =>
            conv =>
              lhs
              whnf
              arg 1
              whnf
          case hq3T5 => exact fun _ _ _ h => h
          case ff3T5 => kernel_rfl
          case rr3T5 => kernel_rfl
          case hw3T5 => rfl
          case hy3T5 =>
            intro w hSw
            (try dsimp only at hSw)
            first
            | (go_simp; done)
            | (go_simp; with_reducible rfl)
          try simp only [Act.put, List.setIfInBounds_toArray, List.set_cons_zero, List.set_cons_succ]
          refine wpAnyH_take (i := 4) (oi := ?oi4T5) (v := ?v4T5) ?oi0_4T5 (by kernel_rfl) ?ff4T5 ?rr4T5 ?hq4T5 (Or.inl ⟨?hw4T5, ?hy4T5⟩) (by assumption) ?rest4T5
          case oi0_4T5 =>
            conv =>
              lhs
              whnf
              arg 1
              whnf
          case hq4T5 => exact fun _ _ _ h => h
          case ff4T5 => kernel_rfl
          case rr4T5 => kernel_rfl
          case hw4T5 => rfl
          case hy4T5 =>
            intro w hSw
            (try dsimp only at hSw)
            first
            | (go_simp; done)
            | (go_simp; with_reducible rfl)
          try simp only [Act.put, List.setIfInBounds_toArray, List.set_cons_zero, List.set_cons_succ]
          refine wpAnyH_take (i := 5) (oi := ?oi5T5) (v := ?v5T5) ?oi0_5T5 (by kernel_rfl) ?ff5T5 ?rr5T5 ?hq5T5 (Or.inl ⟨?hw5T5, ?hy5T5⟩) (by assumption) ?rest5T5
          case oi0_5T5 =>
            conv =>
              lhs
              whnf
              arg 1
              whnf
          case hq5T5 => exact fun _ _ _ h => h
          case ff5T5 => kernel_rfl
          case rr5T5 => kernel_rfl
          case hw5T5 => rfl
          case hy5T5 =>
            intro w hSw
            (try dsimp only at hSw)
            first
            | (go_simp; done)
            | (go_simp; with_reducible rfl)
          try simp only [Act.put, List.setIfInBounds_toArray, List.set_cons_zero, List.set_cons_succ]
          refine wpAnyH_take (i := 6) (oi := ?oi6T5) (v := ?v6T5) ?oi0_6T5 (by kernel_rfl) ?ff6T5 ?rr6T5 ?hq6T5 (Or.inl ⟨?hw6T5, ?hy6T5⟩) (by assumption) ?rest6T5
          case oi0_6T5 =>
            conv =>
              lhs
              whnf
              arg 1
              whnf
          case hq6T5 => exact fun _ _ _ h => h
          case ff6T5 => kernel_rfl
          case rr6T5 => kernel_rfl
          case hw6T5 => rfl
          case hy6T5 =>
            intro w hSw
            (try dsimp only at hSw)
            first
            | (go_simp; done)
            | (go_simp; with_reducible rfl)
          try simp only [Act.put, List.setIfInBounds_toArray, List.set_cons_zero, List.set_cons_succ]
          refine wpAnyH_take (i := 7) (oi := ?oi7T5) (v := ?v7T5) ?oi0_7T5 (by kernel_rfl) ?ff7T5 ?rr7T5 ?hq7T5 (Or.inl ⟨?hw7T5, ?hy7T5⟩) (by assumption) ?rest7T5
          case oi0_7T5 =>
            conv =>
              lhs
              whnf
              arg 1
              whnf
          case hq7T5 => exact fun _ _ _ h => h
          case ff7T5 => kernel_rfl
          case rr7T5 => kernel_rfl
          case hw7T5 => rfl
          case hy7T5 =>
            intro w hSw
            (try dsimp only at hSw)
            first
            | (go_simp; done)
            | (go_simp; with_reducible rfl)
          try simp only [Act.put, List.setIfInBounds_toArray, List.set_cons_zero, List.set_cons_succ]
          refine wpAnyH_take (i := 8) (oi := ?oi8T5) (v := ?v8T5) ?oi0_8T5 (by kernel_rfl) ?ff8T5 ?rr8T5 ?hq8T5 (Or.inl ⟨?hw8T5, ?hy8T5⟩) (by assumption) ?rest8T5
          case oi0_8T5 =>
            conv =>
              lhs
              whnf
              arg 1
              whnf
          case hq8T5 => exact fun _ _ _ h => h
          case ff8T5 => kernel_rfl
          case rr8T5 => kernel_rfl
          case hw8T5 => rfl
          case hy8T5 =>
            intro w hSw
            (try dsimp only at hSw)
            first
            | (go_simp; done)
            | (go_simp; with_reducible rfl)
          try simp only [Act.put, List.setIfInBounds_toArray, List.set_cons_zero, List.set_cons_succ]
          refine wpAnyH_done (by kernel_rfl) ?_ _
          go_wp2_with fail
          go_ret
          exact ⟨rfl, V.out⟩
    · obtain rfl : k = n := by omega
      have hki : ¬ (k : Int) < k := by omega
      obtain rfl : r = true := by
        rw [← HR.out]
        have h1 := hr.out
        rw [List.take_of_length_le (by have := HXN.out; omega), List.take_of_length_le (by have := HYN.out; omega)] at h1
        exact decide_eq_true h1
      go_wp2_with fail
      go_ret
      exact ⟨rfl, hu.out⟩
end Go.Proofs.Ytpkeimdlcafcnaa
