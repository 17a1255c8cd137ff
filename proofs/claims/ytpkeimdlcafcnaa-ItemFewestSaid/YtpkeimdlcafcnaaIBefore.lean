/-
  aircheckref07.Before: the order of cuts.
-/
import Derived.Test.YtpkeimdlcafcnaaIPlainF
import Derived.Test.YtpkeimdlcafcnaaIRef
namespace Go.Proofs.Ytpkeimdlcafcnaa
open Go.RowKit
set_option maxRecDepth 100000
set_option maxHeartbeats 20000000

theorem bef_len {a b : List Int} (h : a.length ≠ b.length) : decide (cutCmp a b < 0) = decide ((a.length : Int) < b.length) := by
  refine decide_eq_decide.2 ?_
  unfold cutCmp
  rw [if_neg (fun e => h (by have := cmpI_eq.1 e; omega))]
  exact cmpI_lt
theorem cmpL_app (p s t : List Int) : cmpL (p ++ s) (p ++ t) = cmpL s t := by
  induction p with
  | nil => rfl
  | cons x p ih => rw [List.cons_append, List.cons_append, cmpL, if_pos (cmpI_eq.2 rfl), ih]
theorem bef_at {a b : List Int} {k : Nat} {x y : Int} (hl : a.length = b.length) (ht : a.take k = b.take k) (hx : a[k]? = some x) (hy : b[k]? = some y) (hne : x ≠ y) : decide (cutCmp a b < 0) = decide (x < y) := by
  refine decide_eq_decide.2 ?_
  unfold cutCmp
  rw [if_pos (cmpI_eq.2 (by rw [hl]))]
  obtain ⟨h1, rfl⟩ := List.getElem?_eq_some_iff.1 hx
  obtain ⟨h2, rfl⟩ := List.getElem?_eq_some_iff.1 hy
  have e1 : a = a.take k ++ a[k] :: a.drop (k + 1) := by rw [← List.drop_eq_getElem_cons h1, List.take_append_drop]
  have e2 : b = a.take k ++ b[k] :: b.drop (k + 1) := by rw [ht, ← List.drop_eq_getElem_cons h2, List.take_append_drop]
  obtain ⟨s, hs⟩ : ∃ s, a.drop (k + 1) = s := ⟨_, rfl⟩
  obtain ⟨t, htt⟩ : ∃ s, b.drop (k + 1) = s := ⟨_, rfl⟩
  obtain ⟨x, hxx⟩ : ∃ s, a[k] = s := ⟨_, rfl⟩
  obtain ⟨y, hyy⟩ : ∃ s, b[k] = s := ⟨_, rfl⟩
  obtain ⟨p, hp⟩ : ∃ s, a.take k = s := ⟨_, rfl⟩
  rw [hs, hxx, hp] at e1
  rw [htt, hyy, hp] at e2
  rw [hxx, hyy] at hne ⊢
  rw [e1, e2, cmpL_app, cmpL, if_neg (fun e => hne (cmpI_eq.1 e))]
  exact cmpI_lt
theorem refBefore {n₀ n₁ : Nat} (a : Option Addr) (n c : Nat) (xs : List Int) (a2 : Option Addr) (n2 c2 : Nat) (ys : List Int) (w : World) (h1 : Ints n₀ w (.slice a n c) xs) (h2 : Ints n₁ w (.slice a2 n2 c2) ys) (hm : n ≤ maxLen) (hm2 : n2 ≤ maxLen) :
    Calls Try.prog 33 #[.slice a n c, .slice a2 n2 c2] w fun e w' => e = .returned (.bool (decide (cutCmp xs ys < 0))) ∧ Upd [] w w' := by
  have HX := hide h1.form.2
  have HXN := hide h1.form.1
  have HY := hide h2.form.2
  have HYN := hide h2.form.1
  have hm' : n ≤ 9223372036854775807 := by unfold maxLen at hm; omega
  have hm2' : n2 ≤ 9223372036854775807 := by unfold maxLen at hm2; omega
  obtain ⟨r, HR⟩ : ∃ r, Hid (decide (cutCmp xs ys < 0) = r) := ⟨_, rfl⟩
  rw [HR.out]
  clear h1 h2 hm hm2
  go_enter Try.func33, Try.ntmps33
  by_cases hnn : n = n2
  case neg =>
    have hnb : ((n : Int) != (n2 : Int)) = true := by simp; omega
    obtain rfl : r = decide (n < n2) := by
      rw [← HR.out, bef_len (by have := HXN.out; have := HYN.out; omega), ← HXN.out, ← HYN.out]
      exact decide_eq_decide.2 (by omega)
    clear hnn
    go_wp2_with fail
    go_ret
    exact ⟨rfl, Upd.refl _ _⟩
  subst hnn
  go_wp2_with fail
  go_loopw [5] (fun s5 wr => ∃ k : Nat, k ≤ n ∧ s5 = .int .i64 k ∧ Hid (Upd [] w wr) ∧ Hid (xs.take k = ys.take k)) (fun k _ => n - (intOf k).toNat)
  case atStart => exact ⟨0, Nat.zero_le _, rfl, Upd.refl _ _, hide (by simp)⟩
  case round =>
    obtain ⟨k, hk, rfl, hu, hr⟩ := hrel
    obtain ⟨wo, rfl⟩ : ∃ wo : World, wo = wr := ⟨_, rfl⟩
    by_cases hkl : k < n
    · obtain ⟨x, hx⟩ : ∃ x, xs[k]? = some x := ⟨_, List.getElem?_eq_getElem (by have := HXN.out; omega)⟩
      obtain ⟨b, o, ea, _, c0⟩ := HX.out k x hx
      subst ea
      obtain ⟨y, hy⟩ : ∃ y, ys[k]? = some y := ⟨_, List.getElem?_eq_getElem (by have := HYN.out; omega)⟩
      obtain ⟨b2, o2, eb, _, d0⟩ := HY.out k y hy
      subst eb
      have hki : (k : Int) < n := by omega
      have c0' := keepc _ _ _ _ hu.out c0
      have d0' := keepc _ _ _ _ hu.out d0
      have V := hide (hu.out.drew)
      have V2 := hide (V.out.drew)
      have HX2 := hide hx
      have HY2 := hide hy
      clear hx hy
      by_cases h0 : x = y
      · subst h0
        have HST := hide (show xs.take (k + 1) = ys.take (k + 1) by rw [List.take_add_one, List.take_add_one, hr.out, HX2.out, HY2.out])
        go_wp2_with fail
        refine wp_region_held_drew (S := (fun w' => w'.cell? ⟨b, o + k, none⟩ = some (.int .i64 x) ∧ w'.cell? ⟨b2, o2 + k, none⟩ = some (.int .i64 x))) (by kernel_rfl) (by exact ⟨c0', d0'⟩) (fun hHeld => ?_)
        refine wpAnyH_take (i := 0) (oi := ?oi0T1) (v := ?v0T1) ?oi0_0T1 (by kernel_rfl) ?ff0T1 ?rr0T1 ?hq0T1 (Or.inl ⟨?hw0T1, ?hy0T1⟩) (by assumption) ?rest0T1
        case oi0_0T1 =>
          conv =>
            lhs
            whnf
            arg 1
            whnf
        case hq0T1 => exact fun _ _ _ h => h
        case ff0T1 => kernel_rfl
        case rr0T1 => kernel_rfl
        case hw0T1 => rfl
        case hy0T1 =>
          intro w hSw
          (try dsimp only at hSw)
          first
          | (go_simp; done)
          | (go_simp; with_reducible rfl)
        try simp only [Act.put, List.setIfInBounds_toArray, List.set_cons_zero, List.set_cons_succ]
        refine wpAnyH_take (i := 1) (oi := ?oi1T1) (v := ?v1T1) ?oi0_1T1 (by kernel_rfl) ?ff1T1 ?rr1T1 ?hq1T1 (Or.inl ⟨?hw1T1, ?hy1T1⟩) (by assumption) ?rest1T1
        case oi0_1T1 =>
          conv =>
            lhs
            whnf
            arg 1
            whnf
        case hq1T1 => exact fun _ _ _ h => h
        case ff1T1 => kernel_rfl
        case rr1T1 => kernel_rfl
        case hw1T1 => rfl
        case hy1T1 =>
          intro w hSw
          (try dsimp only at hSw)
          first
          | (go_simp; done)
          | (go_simp; with_reducible rfl)
        try simp only [Act.put, List.setIfInBounds_toArray, List.set_cons_zero, List.set_cons_succ]
        refine wpAnyH_take (i := 2) (oi := ?oi2T1) (v := ?v2T1) ?oi0_2T1 (by kernel_rfl) ?ff2T1 ?rr2T1 ?hq2T1 (Or.inl ⟨?hw2T1, ?hy2T1⟩) (by assumption) ?rest2T1
        case oi0_2T1 =>
          conv =>
            lhs
            whnf
            arg 1
            whnf
        case hq2T1 => exact fun _ _ _ h => h
        case ff2T1 => kernel_rfl
        case rr2T1 => kernel_rfl
        case hw2T1 => rfl
        case hy2T1 =>
          intro w hSw
          (try dsimp only at hSw)
          first
          | (go_simp; done)
          | (go_simp; with_reducible rfl)
        try simp only [Act.put, List.setIfInBounds_toArray, List.set_cons_zero, List.set_cons_succ]
        refine wpAnyH_take (i := 3) (oi := ?oi3T1) (v := ?v3T1) ?oi0_3T1 (by kernel_rfl) ?ff3T1 ?rr3T1 ?hq3T1 (Or.inl ⟨?hw3T1, ?hy3T1⟩) (by assumption) ?rest3T1
        case oi0_3T1 =>
          conv =>
            lhs
            whnf
            arg 1
            whnf
        case hq3T1 => exact fun _ _ _ h => h
        case ff3T1 => kernel_rfl
        case rr3T1 => kernel_rfl
        case hw3T1 => rfl
        case hy3T1 =>
          intro w hSw
          (try dsimp only at hSw)
          first
          | (go_simp; done)
          | (go_simp; with_reducible rfl)
        try simp only [Act.put, List.setIfInBounds_toArray, List.set_cons_zero, List.set_cons_succ]
        refine wpAnyH_take (i := 4) (oi := ?oi4T1) (v := ?v4T1) ?oi0_4T1 (by kernel_rfl) ?ff4T1 ?rr4T1 ?hq4T1 (Or.inl ⟨?hw4T1, ?hy4T1⟩) (by assumption) ?rest4T1
        case oi0_4T1 =>
          conv =>
            lhs
            whnf
            arg 1
            whnf
        case hq4T1 => exact fun _ _ _ h => h
        case ff4T1 => kernel_rfl
        case rr4T1 => kernel_rfl
        case hw4T1 => rfl
        case hy4T1 =>
          intro w hSw
          (try dsimp only at hSw)
          first
          | (go_simp; done)
          | (go_simp; with_reducible rfl)
        try simp only [Act.put, List.setIfInBounds_toArray, List.set_cons_zero, List.set_cons_succ]
        refine wpAnyH_take (i := 5) (oi := ?oi5T1) (v := ?v5T1) ?oi0_5T1 (by kernel_rfl) ?ff5T1 ?rr5T1 ?hq5T1 (Or.inl ⟨?hw5T1, ?hy5T1⟩) (by assumption) ?rest5T1
        case oi0_5T1 =>
          conv =>
            lhs
            whnf
            arg 1
            whnf
        case hq5T1 => exact fun _ _ _ h => h
        case ff5T1 => kernel_rfl
        case rr5T1 => kernel_rfl
        case hw5T1 => rfl
        case hy5T1 =>
          intro w hSw
          (try dsimp only at hSw)
          first
          | (go_simp; done)
          | (go_simp; with_reducible rfl)
        try simp only [Act.put, List.setIfInBounds_toArray, List.set_cons_zero, List.set_cons_succ]
        refine wpAnyH_take (i := 6) (oi := ?oi6T1) (v := ?v6T1) ?oi0_6T1 (by kernel_rfl) ?ff6T1 ?rr6T1 ?hq6T1 (Or.inl ⟨?hw6T1, ?hy6T1⟩) (by assumption) ?rest6T1
        case oi0_6T1 =>
          conv =>
            lhs
            whnf
            arg 1
            whnf
        case hq6T1 => exact fun _ _ _ h => h
        case ff6T1 => kernel_rfl
        case rr6T1 => kernel_rfl
        case hw6T1 => rfl
        case hy6T1 =>
          intro w hSw
          (try dsimp only at hSw)
          first
          | (go_simp; done)
          | (go_simp; with_reducible rfl)
        try simp only [Act.put, List.setIfInBounds_toArray, List.set_cons_zero, List.set_cons_succ]
        refine wpAnyH_take (i := 7) (oi := ?oi7T1) (v := ?v7T1) ?oi0_7T1 (by kernel_rfl) ?ff7T1 ?rr7T1 ?hq7T1 (Or.inl ⟨?hw7T1, ?hy7T1⟩) (by assumption) ?rest7T1
        case oi0_7T1 =>
          conv =>
            lhs
            whnf
            arg 1
            whnf
        case hq7T1 => exact fun _ _ _ h => h
        case ff7T1 => kernel_rfl
        case rr7T1 => kernel_rfl
        case hw7T1 => rfl
        case hy7T1 =>
          intro w hSw
          (try dsimp only at hSw)
          first
          | (go_simp; done)
          | (go_simp; with_reducible rfl)
        try simp only [Act.put, List.setIfInBounds_toArray, List.set_cons_zero, List.set_cons_succ]
        refine wpAnyH_take (i := 8) (oi := ?oi8T1) (v := ?v8T1) ?oi0_8T1 (by kernel_rfl) ?ff8T1 ?rr8T1 ?hq8T1 (Or.inl ⟨?hw8T1, ?hy8T1⟩) (by assumption) ?rest8T1
        case oi0_8T1 =>
          conv =>
            lhs
            whnf
            arg 1
            whnf
        case hq8T1 => exact fun _ _ _ h => h
        case ff8T1 => kernel_rfl
        case rr8T1 => kernel_rfl
        case hw8T1 => rfl
        case hy8T1 =>
          intro w hSw
          (try dsimp only at hSw)
          first
          | (go_simp; done)
          | (go_simp; with_reducible rfl)
        try simp only [Act.put, List.setIfInBounds_toArray, List.set_cons_zero, List.set_cons_succ]
        refine wpAnyH_done (by kernel_rfl) ?_ _
        go_wp2_with fail
        go_roundw
        case rel => exact ⟨k + 1, by omega, by go_num, V, HST⟩
        case measure => simp [intOf] <;> omega
      · have h0b : (x != y) = true := by simpa using h0
        obtain rfl : r = decide (x < y) := by
          rw [← HR.out]
          exact bef_at (by have := HXN.out; have := HYN.out; omega) hr.out HX2.out HY2.out h0
        clear h0
        go_wp2_with fail
        refine wp_region_held_drew (S := (fun w' => w'.cell? ⟨b, o + k, none⟩ = some (.int .i64 x) ∧ w'.cell? ⟨b2, o2 + k, none⟩ = some (.int .i64 y))) (by kernel_rfl) (by exact ⟨c0', d0'⟩) (fun hHeld => ?_)
        refine wpAnyH_take (i := 0) (oi := ?oi0T2) (v := ?v0T2) ?oi0_0T2 (by kernel_rfl) ?ff0T2 ?rr0T2 ?hq0T2 (Or.inl ⟨?hw0T2, ?hy0T2⟩) (by assumption) ?rest0T2
        case oi0_0T2 =>
          conv =>
            lhs
            whnf
            arg 1
            whnf
        case hq0T2 => exact fun _ _ _ h => h
        case ff0T2 => kernel_rfl
        case rr0T2 => kernel_rfl
        case hw0T2 => rfl
        case hy0T2 =>
          intro w hSw
          (try dsimp only at hSw)
          first
          | (go_simp; done)
          | (go_simp; with_reducible rfl)
        try simp only [Act.put, List.setIfInBounds_toArray, List.set_cons_zero, List.set_cons_succ]
        refine wpAnyH_take (i := 1) (oi := ?oi1T2) (v := ?v1T2) ?oi0_1T2 (by kernel_rfl) ?ff1T2 ?rr1T2 ?hq1T2 (Or.inl ⟨?hw1T2, ?hy1T2⟩) (by assumption) ?rest1T2
        case oi0_1T2 =>
          conv =>
            lhs
            whnf
            arg 1
            whnf
        case hq1T2 => exact fun _ _ _ h => h
        case ff1T2 => kernel_rfl
        case rr1T2 => kernel_rfl
        case hw1T2 => rfl
        case hy1T2 =>
          intro w hSw
          (try dsimp only at hSw)
          first
          | (go_simp; done)
          | (go_simp; with_reducible rfl)
        try simp only [Act.put, List.setIfInBounds_toArray, List.set_cons_zero, List.set_cons_succ]
        refine wpAnyH_take (i := 2) (oi := ?oi2T2) (v := ?v2T2) ?oi0_2T2 (by kernel_rfl) ?ff2T2 ?rr2T2 ?hq2T2 (Or.inl ⟨?hw2T2, ?hy2T2⟩) (by assumption) ?rest2T2
        case oi0_2T2 =>
          conv =>
            lhs
            whnf
            arg 1
            whnf
        case hq2T2 => exact fun _ _ _ h => h
        case ff2T2 => kernel_rfl
        case rr2T2 => kernel_rfl
        case hw2T2 => rfl
        case hy2T2 =>
          intro w hSw
          (try dsimp only at hSw)
          first
          | (go_simp; done)
          | (go_simp; with_reducible rfl)
        try simp only [Act.put, List.setIfInBounds_toArray, List.set_cons_zero, List.set_cons_succ]
        refine wpAnyH_take (i := 3) (oi := ?oi3T2) (v := ?v3T2) ?oi0_3T2 (by kernel_rfl) ?ff3T2 ?rr3T2 ?hq3T2 (Or.inl ⟨?hw3T2, ?hy3T2⟩) (by assumption) ?rest3T2
        case oi0_3T2 =>
          conv =>
            lhs
            whnf
            arg 1
            whnf
        case hq3T2 => exact fun _ _ _ h => h
        case ff3T2 => kernel_rfl
        case rr3T2 => kernel_rfl
        case hw3T2 => rfl
        case hy3T2 =>
          intro w hSw
          (try dsimp only at hSw)
          first
          | (go_simp; done)
          | (go_simp; with_reducible rfl)
        try simp only [Act.put, List.setIfInBounds_toArray, List.set_cons_zero, List.set_cons_succ]
        refine wpAnyH_take (i := 4) (oi := ?oi4T2) (v := ?v4T2) ?oi0_4T2 (by kernel_rfl) ?ff4T2 ?rr4T2 ?hq4T2 (Or.inl ⟨?hw4T2, ?hy4T2⟩) (by assumption) ?rest4T2
        case oi0_4T2 =>
          conv =>
            lhs
            whnf
            arg 1
            whnf
        case hq4T2 => exact fun _ _ _ h => h
        case ff4T2 => kernel_rfl
        case rr4T2 => kernel_rfl
        case hw4T2 => rfl
        case hy4T2 =>
          intro w hSw
          (try dsimp only at hSw)
          first
          | (go_simp; done)
          | (go_simp; with_reducible rfl)
        try simp only [Act.put, List.setIfInBounds_toArray, List.set_cons_zero, List.set_cons_succ]
        refine wpAnyH_take (i := 5) (oi := ?oi5T2) (v := ?v5T2) ?oi0_5T2 (by kernel_rfl) ?ff5T2 ?rr5T2 ?hq5T2 (Or.inl ⟨?hw5T2, ?hy5T2⟩) (by assumption) ?rest5T2
        case oi0_5T2 =>
          conv =>
            lhs
            whnf
            arg 1
            whnf
        case hq5T2 => exact fun _ _ _ h => h
        case ff5T2 => kernel_rfl
        case rr5T2 => kernel_rfl
        case hw5T2 => rfl
        case hy5T2 =>
          intro w hSw
          (try dsimp only at hSw)
          first
          | (go_simp; done)
          | (go_simp; with_reducible rfl)
        try simp only [Act.put, List.setIfInBounds_toArray, List.set_cons_zero, List.set_cons_succ]
        refine wpAnyH_take (i := 6) (oi := ?oi6T2) (v := ?v6T2) ?oi0_6T2 (by kernel_rfl) ?ff6T2 ?rr6T2 ?hq6T2 (Or.inl ⟨?hw6T2, ?hy6T2⟩) (by assumption) ?rest6T2
        case oi0_6T2 =>
          conv =>
            lhs
            whnf
            arg 1
            whnf
        case hq6T2 => exact fun _ _ _ h => h
        case ff6T2 => kernel_rfl
        case rr6T2 => kernel_rfl
        case hw6T2 => rfl
        case hy6T2 =>
          intro w hSw
          (try dsimp only at hSw)
          first
          | (go_simp; done)
          | (go_simp; with_reducible rfl)
        try simp only [Act.put, List.setIfInBounds_toArray, List.set_cons_zero, List.set_cons_succ]
        refine wpAnyH_take (i := 7) (oi := ?oi7T2) (v := ?v7T2) ?oi0_7T2 (by kernel_rfl) ?ff7T2 ?rr7T2 ?hq7T2 (Or.inl ⟨?hw7T2, ?hy7T2⟩) (by assumption) ?rest7T2
        case oi0_7T2 =>
          conv =>
            lhs
            whnf
            arg 1
            whnf
        case hq7T2 => exact fun _ _ _ h => h
        case ff7T2 => kernel_rfl
        case rr7T2 => kernel_rfl
        case hw7T2 => rfl
        case hy7T2 =>
          intro w hSw
          (try dsimp only at hSw)
          first
          | (go_simp; done)
          | (go_simp; with_reducible rfl)
        try simp only [Act.put, List.setIfInBounds_toArray, List.set_cons_zero, List.set_cons_succ]
        refine wpAnyH_take (i := 8) (oi := ?oi8T2) (v := ?v8T2) ?oi0_8T2 (by kernel_rfl) ?ff8T2 ?rr8T2 ?hq8T2 (Or.inl ⟨?hw8T2, ?hy8T2⟩) (by assumption) ?rest8T2
        case oi0_8T2 =>
          conv =>
            lhs
            whnf
            arg 1
            whnf
        case hq8T2 => exact fun _ _ _ h => h
        case ff8T2 => kernel_rfl
        case rr8T2 => kernel_rfl
        case hw8T2 => rfl
        case hy8T2 =>
          intro w hSw
          (try dsimp only at hSw)
          first
          | (go_simp; done)
          | (go_simp; with_reducible rfl)
        try simp only [Act.put, List.setIfInBounds_toArray, List.set_cons_zero, List.set_cons_succ]
        refine wpAnyH_done (by kernel_rfl) ?_ _
        go_upto_region 7 with fail
        refine wp_region_held_drew (S := (fun w' => w'.cell? ⟨b, o + k, none⟩ = some (.int .i64 x) ∧ w'.cell? ⟨b2, o2 + k, none⟩ = some (.int .i64 y))) (by kernel_rfl) (by exact ⟨c0', d0'⟩) (fun hHeld => ?_)
        refine wpAnyH_take (i := 0) (oi := ?oi0T3) (v := ?v0T3) ?oi0_0T3 (by kernel_rfl) ?ff0T3 ?rr0T3 ?hq0T3 (Or.inl ⟨?hw0T3, ?hy0T3⟩) (by assumption) ?rest0T3
        case oi0_0T3 =>
          conv =>
            lhs
            whnf
            arg 1
            whnf
        case hq0T3 => exact fun _ _ _ h => h
        case ff0T3 => kernel_rfl
        case rr0T3 => kernel_rfl
        case hw0T3 => rfl
        case hy0T3 =>
          intro w hSw
          (try dsimp only at hSw)
          first
          | (go_simp; done)
          | (go_simp; with_reducible rfl)
        try simp only [Act.put, List.setIfInBounds_toArray, List.set_cons_zero, List.set_cons_succ]
        refine wpAnyH_take (i := 1) (oi := ?oi1T3) (v := ?v1T3) ?oi0_1T3 (by kernel_rfl) ?ff1T3 ?rr1T3 ?hq1T3 (Or.inl ⟨?hw1T3, ?hy1T3⟩) (by assumption) ?rest1T3
        case oi0_1T3 =>
          conv =>
            lhs
            whnf
            arg 1
            whnf
        case hq1T3 => exact fun _ _ _ h => h
        case ff1T3 => kernel_rfl
        case rr1T3 => kernel_rfl
        case hw1T3 => rfl
        case hy1T3 =>
          intro w hSw
          (try dsimp only at hSw)
          first
          | (go_simp; done)
          | (go_simp; with_reducible rfl)
        try simp only [Act.put, List.setIfInBounds_toArray, List.set_cons_zero, List.set_cons_succ]
        refine wpAnyH_take (i := 2) (oi := ?oi2T3) (v := ?v2T3) ?oi0_2T3 (by kernel_rfl) ?ff2T3 ?rr2T3 ?hq2T3 (Or.inl ⟨?hw2T3, ?hy2T3⟩) (by assumption) ?rest2T3
        case oi0_2T3 =>
          conv =>
            lhs
            whnf
            arg 1
            whnf
        case hq2T3 => exact fun _ _ _ h => h
        case ff2T3 => kernel_rfl
        case rr2T3 => kernel_rfl
        case hw2T3 => rfl
        case hy2T3 =>
          intro w hSw
          (try dsimp only at hSw)
          first
          | (go_simp; done)
          | (go_simp; with_reducible rfl)
        try simp only [Act.put, List.setIfInBounds_toArray, List.set_cons_zero, List.set_cons_succ]
        refine wpAnyH_take (i := 3) (oi := ?oi3T3) (v := ?v3T3) ?oi0_3T3 (by kernel_rfl) ?ff3T3 ?rr3T3 ?hq3T3 (Or.inl ⟨?hw3T3, ?hy3T3⟩) (by assumption) ?rest3T3
        case oi0_3T3 =>
          conv =>
            lhs
            whnf
            arg 1
            whnf
        case hq3T3 => exact fun _ _ _ h => h
        case ff3T3 => kernel_rfl
        case rr3T3 => kernel_rfl
        case hw3T3 => rfl
        case hy3T3 =>
          intro w hSw
          (try dsimp only at hSw)
          first
          | (go_simp; done)
          | (go_simp; with_reducible rfl)
        try simp only [Act.put, List.setIfInBounds_toArray, List.set_cons_zero, List.set_cons_succ]
        refine wpAnyH_take (i := 4) (oi := ?oi4T3) (v := ?v4T3) ?oi0_4T3 (by kernel_rfl) ?ff4T3 ?rr4T3 ?hq4T3 (Or.inl ⟨?hw4T3, ?hy4T3⟩) (by assumption) ?rest4T3
        case oi0_4T3 =>
          conv =>
            lhs
            whnf
            arg 1
            whnf
        case hq4T3 => exact fun _ _ _ h => h
        case ff4T3 => kernel_rfl
        case rr4T3 => kernel_rfl
        case hw4T3 => rfl
        case hy4T3 =>
          intro w hSw
          (try dsimp only at hSw)
          first
          | (go_simp; done)
          | (go_simp; with_reducible rfl)
        try simp only [Act.put, List.setIfInBounds_toArray, List.set_cons_zero, List.set_cons_succ]
        refine wpAnyH_take (i := 5) (oi := ?oi5T3) (v := ?v5T3) ?oi0_5T3 (by kernel_rfl) ?ff5T3 ?rr5T3 ?hq5T3 (Or.inl ⟨?hw5T3, ?hy5T3⟩) (by assumption) ?rest5T3
        case oi0_5T3 =>
          conv =>
            lhs
            whnf
            arg 1
            whnf
        case hq5T3 => exact fun _ _ _ h => h
        case ff5T3 => kernel_rfl
        case rr5T3 => kernel_rfl
        case hw5T3 => rfl
        case hy5T3 =>
          intro w hSw
          (try dsimp only at hSw)
          first
          | (go_simp; done)
          | (go_simp; with_reducible rfl)
        try simp only [Act.put, List.setIfInBounds_toArray, List.set_cons_zero, List.set_cons_succ]
        refine wpAnyH_take (i := 6) (oi := ?oi6T3) (v := ?v6T3) ?oi0_6T3 (by kernel_rfl) ?ff6T3 ?rr6T3 ?hq6T3 (Or.inl ⟨?hw6T3, ?hy6T3⟩) (by assumption) ?rest6T3
        case oi0_6T3 =>
          conv =>
            lhs
            whnf
            arg 1
            whnf
        case hq6T3 => exact fun _ _ _ h => h
        case ff6T3 => kernel_rfl
        case rr6T3 => kernel_rfl
        case hw6T3 => rfl
        case hy6T3 =>
          intro w hSw
          (try dsimp only at hSw)
          first
          | (go_simp; done)
          | (go_simp; with_reducible rfl)
        try simp only [Act.put, List.setIfInBounds_toArray, List.set_cons_zero, List.set_cons_succ]
        refine wpAnyH_take (i := 7) (oi := ?oi7T3) (v := ?v7T3) ?oi0_7T3 (by kernel_rfl) ?ff7T3 ?rr7T3 ?hq7T3 (Or.inl ⟨?hw7T3, ?hy7T3⟩) (by assumption) ?rest7T3
        case oi0_7T3 =>
          conv =>
            lhs
            whnf
            arg 1
            whnf
        case hq7T3 => exact fun _ _ _ h => h
        case ff7T3 => kernel_rfl
        case rr7T3 => kernel_rfl
        case hw7T3 => rfl
        case hy7T3 =>
          intro w hSw
          (try dsimp only at hSw)
          first
          | (go_simp; done)
          | (go_simp; with_reducible rfl)
        try simp only [Act.put, List.setIfInBounds_toArray, List.set_cons_zero, List.set_cons_succ]
        refine wpAnyH_take (i := 8) (oi := ?oi8T3) (v := ?v8T3) ?oi0_8T3 (by kernel_rfl) ?ff8T3 ?rr8T3 ?hq8T3 (Or.inl ⟨?hw8T3, ?hy8T3⟩) (by assumption) ?rest8T3
        case oi0_8T3 =>
          conv =>
            lhs
            whnf
            arg 1
            whnf
        case hq8T3 => exact fun _ _ _ h => h
        case ff8T3 => kernel_rfl
        case rr8T3 => kernel_rfl
        case hw8T3 => rfl
        case hy8T3 =>
          intro w hSw
          (try dsimp only at hSw)
          first
          | (go_simp; done)
          | (go_simp; with_reducible rfl)
        try simp only [Act.put, List.setIfInBounds_toArray, List.set_cons_zero, List.set_cons_succ]
        refine wpAnyH_take (i := 9) (oi := ?oi9T3) (v := ?v9T3) ?oi0_9T3 (by kernel_rfl) ?ff9T3 ?rr9T3 ?hq9T3 (Or.inl ⟨?hw9T3, ?hy9T3⟩) (by assumption) ?rest9T3
        case oi0_9T3 =>
          conv =>
            lhs
            whnf
            arg 1
            whnf
        case hq9T3 => exact fun _ _ _ h => h
        case ff9T3 => kernel_rfl
        case rr9T3 => kernel_rfl
        case hw9T3 => rfl
        case hy9T3 =>
          intro w hSw
          (try dsimp only at hSw)
          first
          | (go_simp; done)
          | (go_simp; with_reducible rfl)
        try simp only [Act.put, List.setIfInBounds_toArray, List.set_cons_zero, List.set_cons_succ]
        refine wpAnyH_done (by kernel_rfl) ?_ _
        go_wp2_with fail
        go_ret
        exact ⟨rfl, V2.out⟩
    · obtain rfl : k = n := by omega
      have hki : ¬ (k : Int) < k := by omega
      obtain rfl : r = false := by
        rw [← HR.out]
        have h1 := hr.out
        rw [List.take_of_length_le (by have := HXN.out; omega), List.take_of_length_le (by have := HYN.out; omega)] at h1
        rw [h1, cutCmp_self]
        rfl
      go_wp2_with fail
      go_ret
      exact ⟨rfl, hu.out⟩
end Go.Proofs.Ytpkeimdlcafcnaa
