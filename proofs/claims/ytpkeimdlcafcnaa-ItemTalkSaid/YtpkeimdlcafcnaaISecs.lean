/-
  aircheckref07.In and airchecklaw07.seconds.
-/
import Derived.Test.YtpkeimdlcafcnaaIPlainT
import Derived.Test.YtpkeimdlcafcnaaIRef
namespace Go.Proofs.Ytpkeimdlcafcnaa
open Go.RowKit
set_option maxRecDepth 100000
set_option maxHeartbeats 20000000

theorem refIn {n₀ : Nat} (a : Option Addr) (n c : Nat) (xs : List Sp) (x : Int) (w : World) (h1 : SpsAt n₀ w a xs) (hn : n = xs.length) (hm : n ≤ maxLen) :
    Calls Try.prog 34 #[.slice a n c, .int .i64 x] w fun e w' => e = .returned (.bool (decide (Gone xs x))) ∧ Upd [] w w' := by
  have HX := hide h1
  have HXN := hide hn
  have hm' : n ≤ 9223372036854775807 := by unfold maxLen at hm; omega
  obtain ⟨r, HR⟩ : ∃ r, Hid (decide (Gone xs x) = r) := ⟨_, rfl⟩
  rw [HR.out]
  clear h1 hm hn
  go_enter Try.func34, Try.ntmps34
  go_wp2_with fail
  go_loopw [5] (fun s5 wr => ∃ k : Nat, k ≤ n ∧ s5 = .int .i64 k ∧ Hid (Upd [] w wr) ∧ Hid (¬ Gone (xs.take k) x)) (fun k _ => n - (intOf k).toNat)
  case atStart => exact ⟨0, Nat.zero_le _, rfl, Upd.refl _ _, hide (by rintro ⟨s, hs, _⟩; simp at hs)⟩
  case round =>
    obtain ⟨k, hk, rfl, hu, hr⟩ := hrel
    obtain ⟨wo, rfl⟩ : ∃ wo : World, wo = wr := ⟨_, rfl⟩
    by_cases hkl : k < n
    · obtain ⟨s, hs⟩ : ∃ s, xs[k]? = some s := ⟨_, List.getElem?_eq_getElem (by have := HXN.out; omega)⟩
      obtain ⟨b, o, ea, _, c0, c1⟩ := HX.out k s hs
      subst ea
      have hki : (k : Int) < n := by omega
      have c0' := keepc _ _ _ _ hu.out c0
      have c1' := keepc _ _ _ _ hu.out c1
      have HS := hide hs
      clear hs c0 c1
      by_cases e1 : s.fr ≤ x
      · have d1 : decide (s.fr ≤ x) = true := decide_eq_true e1
        by_cases e2 : x < s.to_
        · have d2 : decide (x < s.to_) = true := decide_eq_true e2
          obtain rfl : r = true := by rw [← HR.out]; exact decide_eq_true ⟨s, List.mem_of_getElem? HS.out, e1, e2⟩
          go_wp2_with fail
          go_ret
          exact ⟨rfl, hu.out⟩
        · have d2 : decide (x < s.to_) = false := decide_eq_false e2
          have HST := hide (show ¬ Gone (xs.take (k + 1)) x by rw [List.take_add_one, HS.out, Option.toList_some, gone_app]; exact fun h => h.elim hr.out fun h => e2 h.2)
          go_wp2_with fail
          go_roundw
          case rel => exact ⟨k + 1, by omega, by go_num, hu, HST⟩
          case measure => simp [intOf] <;> omega
      · have d1 : decide (s.fr ≤ x) = false := decide_eq_false e1
        have HST := hide (show ¬ Gone (xs.take (k + 1)) x by rw [List.take_add_one, HS.out, Option.toList_some, gone_app]; exact fun h => h.elim hr.out fun h => e1 h.1)
        go_wp2_with fail
        go_roundw
        case rel => exact ⟨k + 1, by omega, by go_num, hu, HST⟩
        case measure => simp [intOf] <;> omega
    · obtain rfl : k = n := by omega
      have hki : ¬ (k : Int) < k := by omega
      obtain rfl : r = false := by
        rw [← HR.out]
        have h1 := hr.out
        rw [List.take_of_length_le (by have := HXN.out; omega)] at h1
        exact decide_eq_false h1
      go_wp2_with fail
      go_ret
      exact ⟨rfl, hu.out⟩

theorem lawSecs {n₀ : Nat} (a : Option Addr) (n c : Nat) (xs : List Sp) (m : Int) (w : World) (h1 : SpsAt n₀ w a xs) (hn : n = xs.length) (hm : n ≤ maxLen) (hT : TInv xs m) (hm0 : 0 ≤ m) (hm1 : m ≤ 3600) :
    Calls Try.prog 35 #[.slice a n c] w fun e w' => e = .returned (.tuple #[.int .i64 (sumSp xs), .bool true]) ∧ Upd [] w w' := by
  have HX := hide h1
  have HXN := hide hn
  have HT := hide hT
  have hm' : n ≤ 9223372036854775807 := by unfold maxLen at hm; omega
  obtain ⟨r, HR⟩ : ∃ r, Hid (sumSp xs = r) := ⟨_, rfl⟩
  rw [HR.out]
  clear h1 hm hn hT
  go_enter Try.func35, Try.ntmps35
  go_wp2_with fail
  go_loopw [4, 5] (fun s4 s5 wr => ∃ (k : Nat) (t : Int), k ≤ n ∧ s5 = .int .i64 k ∧ s4 = .int .i64 t ∧ Hid (Upd [] w wr) ∧ Hid (t = sumSp (xs.take k))) (fun _ k _ => n - (intOf k).toNat)
  case atStart => exact ⟨0, 0, Nat.zero_le _, rfl, rfl, Upd.refl _ _, hide rfl⟩
  case round =>
    obtain ⟨k, t, hk, rfl, rfl, hu, hr⟩ := hrel
    obtain ⟨wo, rfl⟩ : ∃ wo : World, wo = wr := ⟨_, rfl⟩
    by_cases hkl : k < n
    · obtain ⟨s, hs⟩ : ∃ s, xs[k]? = some s := ⟨_, List.getElem?_eq_getElem (by have := HXN.out; omega)⟩
      obtain ⟨b, o, ea, _, c0, c1⟩ := HX.out k s hs
      subst ea
      have hki : (k : Int) < n := by omega
      have c0' := keepc _ _ _ _ hu.out c0
      have c1' := keepc _ _ _ _ hu.out c1
      have hsi := HT.out.1 s (List.mem_of_getElem? hs)
      have hb := tsum_bound (HT.out.take k).1 (HT.out.take k).2 hm0
      rw [← hr.out] at hb
      have HST := hide (show t + s.to_ - s.fr = sumSp (xs.take (k + 1)) by rw [List.take_add_one, hs, Option.toList_some, sumSp_snoc, hr.out]; omega)
      have g1 : ¬ s.to_ ≤ s.fr := by omega
      have g2 : decide (s.to_ ≤ s.fr) = false := decide_eq_false g1
      have hw1 : IntKind.i64.wrap (t + s.to_) = t + s.to_ := Go.IntWalk.i64_in _ (by omega)
      have hw2 : IntKind.i64.wrap (t + s.to_ - s.fr) = t + s.to_ - s.fr := Go.IntWalk.i64_in _ (by omega)
      have V2 := hide (hu.out.drew.drew)
      have HS := hide hs
      clear hs c0 c1 hb
      by_cases hk0 : 0 < k
      · have hk0i : (0 : Int) < k := by omega
        have hk0d : decide ((0 : Int) < k) = true := decide_eq_true hk0i
        obtain ⟨q, hq⟩ : ∃ q, q + 1 = k := ⟨k - 1, by omega⟩
        obtain ⟨y, hy⟩ : ∃ y, xs[q]? = some y := ⟨_, List.getElem?_eq_getElem (by have := HXN.out; omega)⟩
        obtain ⟨b', o', eb, _, d0, d1⟩ := HX.out q y hy
        injection eb with eb
        injection eb with e1 e2
        subst e1 e2
        have d1' := keepc _ _ _ _ hu.out d1
        have hqn : q < n := by omega
        have hqi : (q : Int) < n := by omega
        have hwq : IntKind.i64.wrap ((k : Int) - 1) = (q : Int) := (Go.IntWalk.i64_in _ (by omega)).trans (by omega)
        have g3 : ¬ s.fr ≤ y.to_ := by
          have h1 := List.getElem?_eq_some_iff.1 hy
          have h2 := List.getElem?_eq_some_iff.1 HS.out
          have := List.pairwise_iff_getElem.1 HT.out.2 q k h1.1 h2.1 (by omega)
          rw [h1.2, h2.2] at this
          omega
        have g4 : decide (s.fr ≤ y.to_) = false := decide_eq_false g3
        clear hy d0 d1
        go_wp2_with fail
        refine wp_region_held_drew (S := (fun w' => w'.cell? ⟨b, o + k * 2, none⟩ = some (.int .i64 s.fr) ∧ w'.cell? ⟨b, o + k * 2 + 1, none⟩ = some (.int .i64 s.to_) ∧ w'.cell? ⟨b, o + q * 2 + 1, none⟩ = some (.int .i64 y.to_))) (by kernel_rfl) (by exact ⟨c0', c1', d1'⟩) (fun hHeld => ?_)
        refine wpAnyH_take (i := 0) (oi := ?oi0T1) (v := ?v0T1) ?oi0_0T1 (by kernel_rfl) ?ff0T1 ?rr0T1 ?hq0T1 (Or.inl ⟨?hw0T1, ?hy0T1⟩) (by assumption) ?rest0T1
        case oi0_0T1 =>
          conv =>
            lhs
            whnf
            arg 1
            whnf
        case hq0T1 => exact fun _ _ _ h => h
        case ff0T1 => kernel_rfl
        case rr0T1 => kernel_rfl
        case hw0T1 => rfl
        case hy0T1 =>
          intro w hSw
          (try dsimp only at hSw)
          first
          | (go_simp; done)
          | (go_simp; with_reducible rfl)
        try simp only [Act.put, List.setIfInBounds_toArray, List.set_cons_zero, List.set_cons_succ]
        refine wpAnyH_take (i := 1) (oi := ?oi1T1) (v := ?v1T1) ?oi0_1T1 (by kernel_rfl) ?ff1T1 ?rr1T1 ?hq1T1 (Or.inl ⟨?hw1T1, ?hy1T1⟩) (by assumption) ?rest1T1
        case oi0_1T1 =>
          conv =>
            lhs
            whnf
            arg 1
            whnf
        case hq1T1 => exact fun _ _ _ h => h
        case ff1T1 => kernel_rfl
        case rr1T1 => kernel_rfl
        case hw1T1 => rfl
        case hy1T1 =>
          intro w hSw
          (try dsimp only at hSw)
          first
          | (go_simp; done)
          | (go_simp; with_reducible rfl)
        try simp only [Act.put, List.setIfInBounds_toArray, List.set_cons_zero, List.set_cons_succ]
        refine wpAnyH_take (i := 2) (oi := ?oi2T1) (v := ?v2T1) ?oi0_2T1 (by kernel_rfl) ?ff2T1 ?rr2T1 ?hq2T1 (Or.inl ⟨?hw2T1, ?hy2T1⟩) (by assumption) ?rest2T1
        case oi0_2T1 =>
          conv =>
            lhs
            whnf
            arg 1
            whnf
        case hq2T1 => exact fun _ _ _ h => h
        case ff2T1 => kernel_rfl
        case rr2T1 => kernel_rfl
        case hw2T1 => rfl
        case hy2T1 =>
          intro w hSw
          (try dsimp only at hSw)
          first
          | (go_simp; done)
          | (go_simp; with_reducible rfl)
        try simp only [Act.put, List.setIfInBounds_toArray, List.set_cons_zero, List.set_cons_succ]
        refine wpAnyH_take (i := 3) (oi := ?oi3T1) (v := ?v3T1) ?oi0_3T1 (by kernel_rfl) ?ff3T1 ?rr3T1 ?hq3T1 (Or.inl ⟨?hw3T1, ?hy3T1⟩) (by assumption) ?rest3T1
        case oi0_3T1 =>
          conv =>
            lhs
            whnf
            arg 1
            whnf
        case hq3T1 => exact fun _ _ _ h => h
        case ff3T1 => kernel_rfl
        case rr3T1 => kernel_rfl
        case hw3T1 => rfl
        case hy3T1 =>
          intro w hSw
          (try dsimp only at hSw)
          first
          | (go_simp; done)
          | (go_simp; with_reducible rfl)
        try simp only [Act.put, List.setIfInBounds_toArray, List.set_cons_zero, List.set_cons_succ]
        refine wpAnyH_take (i := 4) (oi := ?oi4T1) (v := ?v4T1) ?oi0_4T1 (by kernel_rfl) ?ff4T1 ?rr4T1 ?hq4T1 (Or.inl ⟨?hw4T1, ?hy4T1⟩) (by assumption) ?rest4T1
        case oi0_4T1 =>
          conv =>
            lhs
            whnf
            arg 1
            whnf
        case hq4T1 => exact fun _ _ _ h => h
        case ff4T1 => kernel_rfl
        case rr4T1 => kernel_rfl
        case hw4T1 => rfl
        case hy4T1 =>
          intro w hSw
          (try dsimp only at hSw)
          first
          | (go_simp; done)
          | (go_simp; with_reducible rfl)
        try simp only [Act.put, List.setIfInBounds_toArray, List.set_cons_zero, List.set_cons_succ]
        refine wpAnyH_take (i := 5) (oi := ?oi5T1) (v := ?v5T1) ?oi0_5T1 (by kernel_rfl) ?ff5T1 ?rr5T1 ?hq5T1 (Or.inl ⟨?hw5T1, ?hy5T1⟩) (by assumption) ?rest5T1
        case oi0_5T1 =>
          conv =>
            lhs
            whnf
            arg 1
            whnf
        case hq5T1 => exact fun _ _ _ h => h
        case ff5T1 => kernel_rfl
        case rr5T1 => kernel_rfl
        case hw5T1 => rfl
        case hy5T1 =>
          intro w hSw
          (try dsimp only at hSw)
          first
          | (go_simp; done)
          | (go_simp; with_reducible rfl)
        try simp only [Act.put, List.setIfInBounds_toArray, List.set_cons_zero, List.set_cons_succ]
        refine wpAnyH_take (i := 6) (oi := ?oi6T1) (v := ?v6T1) ?oi0_6T1 (by kernel_rfl) ?ff6T1 ?rr6T1 ?hq6T1 (Or.inl ⟨?hw6T1, ?hy6T1⟩) (by assumption) ?rest6T1
        case oi0_6T1 =>
          conv =>
            lhs
            whnf
            arg 1
            whnf
        case hq6T1 => exact fun _ _ _ h => h
        case ff6T1 => kernel_rfl
        case rr6T1 => kernel_rfl
        case hw6T1 => rfl
        case hy6T1 =>
          intro w hSw
          (try dsimp only at hSw)
          first
          | (go_simp; done)
          | (go_simp; with_reducible rfl)
        try simp only [Act.put, List.setIfInBounds_toArray, List.set_cons_zero, List.set_cons_succ]
        refine wpAnyH_take (i := 7) (oi := ?oi7T1) (v := ?v7T1) ?oi0_7T1 (by kernel_rfl) ?ff7T1 ?rr7T1 ?hq7T1 (Or.inl ⟨?hw7T1, ?hy7T1⟩) (by assumption) ?rest7T1
        case oi0_7T1 =>
          conv =>
            lhs
            whnf
            arg 1
            whnf
        case hq7T1 => exact fun _ _ _ h => h
        case ff7T1 => kernel_rfl
        case rr7T1 => kernel_rfl
        case hw7T1 => rfl
        case hy7T1 =>
          intro w hSw
          (try dsimp only at hSw)
          first
          | (go_simp; done)
          | (go_simp; with_reducible rfl)
        try simp only [Act.put, List.setIfInBounds_toArray, List.set_cons_zero, List.set_cons_succ]
        refine wpAnyH_take (i := 8) (oi := ?oi8T1) (v := ?v8T1) ?oi0_8T1 (by kernel_rfl) ?ff8T1 ?rr8T1 ?hq8T1 (Or.inl ⟨?hw8T1, ?hy8T1⟩) (by assumption) ?rest8T1
        case oi0_8T1 =>
          conv =>
            lhs
            whnf
            arg 1
            whnf
        case hq8T1 => exact fun _ _ _ h => h
        case ff8T1 => kernel_rfl
        case rr8T1 => kernel_rfl
        case hw8T1 => rfl
        case hy8T1 =>
          intro w hSw
          (try dsimp only at hSw)
          first
          | (go_simp; done)
          | (go_simp; with_reducible rfl)
        try simp only [Act.put, List.setIfInBounds_toArray, List.set_cons_zero, List.set_cons_succ]
        refine wpAnyH_take (i := 9) (oi := ?oi9T1) (v := ?v9T1) ?oi0_9T1 (by kernel_rfl) ?ff9T1 ?rr9T1 ?hq9T1 (Or.inl ⟨?hw9T1, ?hy9T1⟩) (by assumption) ?rest9T1
        case oi0_9T1 =>
          conv =>
            lhs
            whnf
            arg 1
            whnf
        case hq9T1 => exact fun _ _ _ h => h
        case ff9T1 => kernel_rfl
        case rr9T1 => kernel_rfl
        case hw9T1 => rfl
        case hy9T1 =>
          intro w hSw
          (try dsimp only at hSw)
          first
          | (go_simp; done)
          | (go_simp; with_reducible rfl)
        try simp only [Act.put, List.setIfInBounds_toArray, List.set_cons_zero, List.set_cons_succ]
        refine wpAnyH_take (i := 10) (oi := ?oi10T1) (v := ?v10T1) ?oi0_10T1 (by kernel_rfl) ?ff10T1 ?rr10T1 ?hq10T1 (Or.inl ⟨?hw10T1, ?hy10T1⟩) (by assumption) ?rest10T1
        case oi0_10T1 =>
          conv =>
            lhs
            whnf
            arg 1
            whnf
        case hq10T1 => exact fun _ _ _ h => h
        case ff10T1 => kernel_rfl
        case rr10T1 => kernel_rfl
        case hw10T1 => rfl
        case hy10T1 =>
          intro w hSw
          (try dsimp only at hSw)
          first
          | (go_simp; done)
          | (go_simp; with_reducible rfl)
        try simp only [Act.put, List.setIfInBounds_toArray, List.set_cons_zero, List.set_cons_succ]
        refine wpAnyH_take (i := 11) (oi := ?oi11T1) (v := ?v11T1) ?oi0_11T1 (by kernel_rfl) ?ff11T1 ?rr11T1 ?hq11T1 (Or.inl ⟨?hw11T1, ?hy11T1⟩) (by assumption) ?rest11T1
        case oi0_11T1 =>
          conv =>
            lhs
            whnf
            arg 1
            whnf
        case hq11T1 => exact fun _ _ _ h => h
        case ff11T1 => kernel_rfl
        case rr11T1 => kernel_rfl
        case hw11T1 => rfl
        case hy11T1 =>
          intro w hSw
          (try dsimp only at hSw)
          first
          | (go_simp; done)
          | (go_simp; with_reducible rfl)
        try simp only [Act.put, List.setIfInBounds_toArray, List.set_cons_zero, List.set_cons_succ]
        refine wpAnyH_take (i := 12) (oi := ?oi12T1) (v := ?v12T1) ?oi0_12T1 (by kernel_rfl) ?ff12T1 ?rr12T1 ?hq12T1 (Or.inl ⟨?hw12T1, ?hy12T1⟩) (by assumption) ?rest12T1
        case oi0_12T1 =>
          conv =>
            lhs
            whnf
            arg 1
            whnf
        case hq12T1 => exact fun _ _ _ h => h
        case ff12T1 => kernel_rfl
        case rr12T1 => kernel_rfl
        case hw12T1 => rfl
        case hy12T1 =>
          intro w hSw
          (try dsimp only at hSw)
          first
          | (go_simp; done)
          | (go_simp; with_reducible rfl)
        try simp only [Act.put, List.setIfInBounds_toArray, List.set_cons_zero, List.set_cons_succ]
        refine wpAnyH_take (i := 13) (oi := ?oi13T1) (v := ?v13T1) ?oi0_13T1 (by kernel_rfl) ?ff13T1 ?rr13T1 ?hq13T1 (Or.inl ⟨?hw13T1, ?hy13T1⟩) (by assumption) ?rest13T1
        case oi0_13T1 =>
          conv =>
            lhs
            whnf
            arg 1
            whnf
        case hq13T1 => exact fun _ _ _ h => h
        case ff13T1 => kernel_rfl
        case rr13T1 => kernel_rfl
        case hw13T1 => rfl
        case hy13T1 =>
          intro w hSw
          (try dsimp only at hSw)
          first
          | (go_simp; done)
          | (go_simp; with_reducible rfl)
        try simp only [Act.put, List.setIfInBounds_toArray, List.set_cons_zero, List.set_cons_succ]
        refine wpAnyH_take (i := 14) (oi := ?oi14T1) (v := ?v14T1) ?oi0_14T1 (by kernel_rfl) ?ff14T1 ?rr14T1 ?hq14T1 (Or.inl ⟨?hw14T1, ?hy14T1⟩) (by assumption) ?rest14T1
        case oi0_14T1 =>
          conv =>
            lhs
            whnf
            arg 1
            whnf
        case hq14T1 => exact fun _ _ _ h => h
        case ff14T1 => kernel_rfl
        case rr14T1 => kernel_rfl
        case hw14T1 => rfl
        case hy14T1 =>
          intro w hSw
          (try dsimp only at hSw)
          first
          | (go_simp; done)
          | (go_simp; with_reducible rfl)
        try simp only [Act.put, List.setIfInBounds_toArray, List.set_cons_zero, List.set_cons_succ]
        refine wpAnyH_take (i := 15) (oi := ?oi15T1) (v := ?v15T1) ?oi0_15T1 (by kernel_rfl) ?ff15T1 ?rr15T1 ?hq15T1 (Or.inl ⟨?hw15T1, ?hy15T1⟩) (by assumption) ?rest15T1
        case oi0_15T1 =>
          conv =>
            lhs
            whnf
            arg 1
            whnf
        case hq15T1 => exact fun _ _ _ h => h
        case ff15T1 => kernel_rfl
        case rr15T1 => kernel_rfl
        case hw15T1 => rfl
        case hy15T1 =>
          intro w hSw
          (try dsimp only at hSw)
          first
          | (go_simp; done)
          | (go_simp; with_reducible rfl)
        try simp only [Act.put, List.setIfInBounds_toArray, List.set_cons_zero, List.set_cons_succ]
        refine wpAnyH_take (i := 16) (oi := ?oi16T1) (v := ?v16T1) ?oi0_16T1 (by kernel_rfl) ?ff16T1 ?rr16T1 ?hq16T1 (Or.inl ⟨?hw16T1, ?hy16T1⟩) (by assumption) ?rest16T1
        case oi0_16T1 =>
          conv =>
            lhs
            whnf
            arg 1
            whnf
        case hq16T1 => exact fun _ _ _ h => h
        case ff16T1 => kernel_rfl
        case rr16T1 => kernel_rfl
        case hw16T1 => rfl
        case hy16T1 =>
          intro w hSw
          (try dsimp only at hSw)
          first
          | (go_simp; done)
          | (go_simp; with_reducible rfl)
        try simp only [Act.put, List.setIfInBounds_toArray, List.set_cons_zero, List.set_cons_succ]
        refine wpAnyH_take (i := 17) (oi := ?oi17T1) (v := ?v17T1) ?oi0_17T1 (by kernel_rfl) ?ff17T1 ?rr17T1 ?hq17T1 (Or.inl ⟨?hw17T1, ?hy17T1⟩) (by assumption) ?rest17T1
        case oi0_17T1 =>
          conv =>
            lhs
            whnf
            arg 1
            whnf
        case hq17T1 => exact fun _ _ _ h => h
        case ff17T1 => kernel_rfl
        case rr17T1 => kernel_rfl
        case hw17T1 => rfl
        case hy17T1 =>
          intro w hSw
          (try dsimp only at hSw)
          first
          | (go_simp; done)
          | (go_simp; with_reducible rfl)
        try simp only [Act.put, List.setIfInBounds_toArray, List.set_cons_zero, List.set_cons_succ]
        refine wpAnyH_take (i := 18) (oi := ?oi18T1) (v := ?v18T1) ?oi0_18T1 (by kernel_rfl) ?ff18T1 ?rr18T1 ?hq18T1 (Or.inl ⟨?hw18T1, ?hy18T1⟩) (by assumption) ?rest18T1
        case oi0_18T1 =>
          conv =>
            lhs
            whnf
            arg 1
            whnf
        case hq18T1 => exact fun _ _ _ h => h
        case ff18T1 => kernel_rfl
        case rr18T1 => kernel_rfl
        case hw18T1 => rfl
        case hy18T1 =>
          intro w hSw
          (try dsimp only at hSw)
          first
          | (go_simp; done)
          | (go_simp; with_reducible rfl)
        try simp only [Act.put, List.setIfInBounds_toArray, List.set_cons_zero, List.set_cons_succ]
        refine wpAnyH_take (i := 19) (oi := ?oi19T1) (v := ?v19T1) ?oi0_19T1 (by kernel_rfl) ?ff19T1 ?rr19T1 ?hq19T1 (Or.inl ⟨?hw19T1, ?hy19T1⟩) (by assumption) ?rest19T1
        case oi0_19T1 =>
          conv =>
            lhs
            whnf
            arg 1
            whnf
        case hq19T1 => exact fun _ _ _ h => h
        case ff19T1 => kernel_rfl
        case rr19T1 => kernel_rfl
        case hw19T1 => rfl
        case hy19T1 =>
          intro w hSw
          (try dsimp only at hSw)
          first
          | (go_simp; done)
          | (go_simp; with_reducible rfl)
        try simp only [Act.put, List.setIfInBounds_toArray, List.set_cons_zero, List.set_cons_succ]
        refine wpAnyH_take (i := 20) (oi := ?oi20T1) (v := ?v20T1) ?oi0_20T1 (by kernel_rfl) ?ff20T1 ?rr20T1 ?hq20T1 (Or.inl ⟨?hw20T1, ?hy20T1⟩) (by assumption) ?rest20T1
        case oi0_20T1 =>
          conv =>
            lhs
            whnf
            arg 1
            whnf
        case hq20T1 => exact fun _ _ _ h => h
        case ff20T1 => kernel_rfl
        case rr20T1 => kernel_rfl
        case hw20T1 => rfl
        case hy20T1 =>
          intro w hSw
          (try dsimp only at hSw)
          first
          | (go_simp; done)
          | (go_simp; with_reducible rfl)
        try simp only [Act.put, List.setIfInBounds_toArray, List.set_cons_zero, List.set_cons_succ]
        refine wpAnyH_take (i := 21) (oi := ?oi21T1) (v := ?v21T1) ?oi0_21T1 (by kernel_rfl) ?ff21T1 ?rr21T1 ?hq21T1 (Or.inl ⟨?hw21T1, ?hy21T1⟩) (by assumption) ?rest21T1
        case oi0_21T1 =>
          conv =>
            lhs
            whnf
            arg 1
            whnf
        case hq21T1 => exact fun _ _ _ h => h
        case ff21T1 => kernel_rfl
        case rr21T1 => kernel_rfl
        case hw21T1 => rfl
        case hy21T1 =>
          intro w hSw
          (try dsimp only at hSw)
          first
          | (go_simp; done)
          | (go_simp; with_reducible rfl)
        try simp only [Act.put, List.setIfInBounds_toArray, List.set_cons_zero, List.set_cons_succ]
        refine wpAnyH_take (i := 22) (oi := ?oi22T1) (v := ?v22T1) ?oi0_22T1 (by kernel_rfl) ?ff22T1 ?rr22T1 ?hq22T1 (Or.inl ⟨?hw22T1, ?hy22T1⟩) (by assumption) ?rest22T1
        case oi0_22T1 =>
          conv =>
            lhs
            whnf
            arg 1
            whnf
        case hq22T1 => exact fun _ _ _ h => h
        case ff22T1 => kernel_rfl
        case rr22T1 => kernel_rfl
        case hw22T1 => rfl
        case hy22T1 =>
          intro w hSw
          (try dsimp only at hSw)
          first
          | (go_simp; done)
          | (go_simp; with_reducible rfl)
        try simp only [Act.put, List.setIfInBounds_toArray, List.set_cons_zero, List.set_cons_succ]
        refine wpAnyH_take (i := 23) (oi := ?oi23T1) (v := ?v23T1) ?oi0_23T1 (by kernel_rfl) ?ff23T1 ?rr23T1 ?hq23T1 (Or.inl ⟨?hw23T1, ?hy23T1⟩) (by assumption) ?rest23T1
        case oi0_23T1 =>
          conv =>
            lhs
            whnf
            arg 1
            whnf
        case hq23T1 => exact fun _ _ _ h => h
        case ff23T1 => kernel_rfl
        case rr23T1 => kernel_rfl
        case hw23T1 => rfl
        case hy23T1 =>
          intro w hSw
          (try dsimp only at hSw)
          first
          | (go_simp; done)
          | (go_simp; with_reducible rfl)
        try simp only [Act.put, List.setIfInBounds_toArray, List.set_cons_zero, List.set_cons_succ]
        refine wpAnyH_take (i := 24) (oi := ?oi24T1) (v := ?v24T1) ?oi0_24T1 (by kernel_rfl) ?ff24T1 ?rr24T1 ?hq24T1 (Or.inl ⟨?hw24T1, ?hy24T1⟩) (by assumption) ?rest24T1
        case oi0_24T1 =>
          conv =>
            lhs
            whnf
            arg 1
            whnf
        case hq24T1 => exact fun _ _ _ h => h
        case ff24T1 => kernel_rfl
        case rr24T1 => kernel_rfl
        case hw24T1 => rfl
        case hy24T1 =>
          intro w hSw
          (try dsimp only at hSw)
          first
          | (go_simp; done)
          | (go_simp; with_reducible rfl)
        try simp only [Act.put, List.setIfInBounds_toArray, List.set_cons_zero, List.set_cons_succ]
        refine wpAnyH_take (i := 25) (oi := ?oi25T1) (v := ?v25T1) ?oi0_25T1 (by kernel_rfl) ?ff25T1 ?rr25T1 ?hq25T1 (Or.inl ⟨?hw25T1, ?hy25T1⟩) (by assumption) ?rest25T1
        case oi0_25T1 =>
          conv =>
            lhs
            whnf
            arg 1
            whnf
        case hq25T1 => exact fun _ _ _ h => h
        case ff25T1 => kernel_rfl
        case rr25T1 => kernel_rfl
        case hw25T1 => rfl
        case hy25T1 =>
          intro w hSw
          (try dsimp only at hSw)
          first
          | (go_simp; done)
          | (go_simp; with_reducible rfl)
        try simp only [Act.put, List.setIfInBounds_toArray, List.set_cons_zero, List.set_cons_succ]
        refine wpAnyH_take (i := 26) (oi := ?oi26T1) (v := ?v26T1) ?oi0_26T1 (by kernel_rfl) ?ff26T1 ?rr26T1 ?hq26T1 (Or.inl ⟨?hw26T1, ?hy26T1⟩) (by assumption) ?rest26T1
        case oi0_26T1 =>
          conv =>
            lhs
            whnf
            arg 1
            whnf
        case hq26T1 => exact fun _ _ _ h => h
        case ff26T1 => kernel_rfl
        case rr26T1 => kernel_rfl
        case hw26T1 => rfl
        case hy26T1 =>
          intro w hSw
          (try dsimp only at hSw)
          first
          | (go_simp; done)
          | (go_simp; with_reducible rfl)
        try simp only [Act.put, List.setIfInBounds_toArray, List.set_cons_zero, List.set_cons_succ]
        refine wpAnyH_take (i := 27) (oi := ?oi27T1) (v := ?v27T1) ?oi0_27T1 (by kernel_rfl) ?ff27T1 ?rr27T1 ?hq27T1 (Or.inl ⟨?hw27T1, ?hy27T1⟩) (by assumption) ?rest27T1
        case oi0_27T1 =>
          conv =>
            lhs
            whnf
            arg 1
            whnf
        case hq27T1 => exact fun _ _ _ h => h
        case ff27T1 => kernel_rfl
        case rr27T1 => kernel_rfl
        case hw27T1 => rfl
        case hy27T1 =>
          intro w hSw
          (try dsimp only at hSw)
          first
          | (go_simp; done)
          | (go_simp; with_reducible rfl)
        try simp only [Act.put, List.setIfInBounds_toArray, List.set_cons_zero, List.set_cons_succ]
        refine wpAnyH_take (i := 28) (oi := ?oi28T1) (v := ?v28T1) ?oi0_28T1 (by kernel_rfl) ?ff28T1 ?rr28T1 ?hq28T1 (Or.inl ⟨?hw28T1, ?hy28T1⟩) (by assumption) ?rest28T1
        case oi0_28T1 =>
          conv =>
            lhs
            whnf
            arg 1
            whnf
        case hq28T1 => exact fun _ _ _ h => h
        case ff28T1 => kernel_rfl
        case rr28T1 => kernel_rfl
        case hw28T1 => rfl
        case hy28T1 =>
          intro w hSw
          (try dsimp only at hSw)
          first
          | (go_simp; done)
          | (go_simp; with_reducible rfl)
        try simp only [Act.put, List.setIfInBounds_toArray, List.set_cons_zero, List.set_cons_succ]
        refine wpAnyH_done (by kernel_rfl) ?_ _
        go_upto_region 7 with fail
        refine wp_region_held_drew (S := (fun w' => w'.cell? ⟨b, o + k * 2, none⟩ = some (.int .i64 s.fr) ∧ w'.cell? ⟨b, o + k * 2 + 1, none⟩ = some (.int .i64 s.to_))) (by kernel_rfl) (by exact ⟨c0', c1'⟩) (fun hHeld => ?_)
        refine wpAnyH_take (i := 0) (oi := ?oi0T3) (v := ?v0T3) ?oi0_0T3 (by kernel_rfl) ?ff0T3 ?rr0T3 ?hq0T3 (Or.inl ⟨?hw0T3, ?hy0T3⟩) (by assumption) ?rest0T3
        case oi0_0T3 =>
          conv =>
            lhs
            whnf
            arg 1
            whnf
        case hq0T3 => exact fun _ _ _ h => h
        case ff0T3 => kernel_rfl
        case rr0T3 => kernel_rfl
        case hw0T3 => rfl
        case hy0T3 =>
          intro w hSw
          (try dsimp only at hSw)
          first
          | (go_simp; done)
          | (go_simp; with_reducible rfl)
        try simp only [Act.put, List.setIfInBounds_toArray, List.set_cons_zero, List.set_cons_succ]
        refine wpAnyH_take (i := 1) (oi := ?oi1T3) (v := ?v1T3) ?oi0_1T3 (by kernel_rfl) ?ff1T3 ?rr1T3 ?hq1T3 (Or.inl ⟨?hw1T3, ?hy1T3⟩) (by assumption) ?rest1T3
        case oi0_1T3 =>
          conv =>
            lhs
            whnf
            arg 1
            whnf
        case hq1T3 => exact fun _ _ _ h => h
        case ff1T3 => kernel_rfl
        case rr1T3 => kernel_rfl
        case hw1T3 => rfl
        case hy1T3 =>
          intro w hSw
          (try dsimp only at hSw)
          first
          | (go_simp; done)
          | (go_simp; with_reducible rfl)
        try simp only [Act.put, List.setIfInBounds_toArray, List.set_cons_zero, List.set_cons_succ]
        refine wpAnyH_take (i := 2) (oi := ?oi2T3) (v := ?v2T3) ?oi0_2T3 (by kernel_rfl) ?ff2T3 ?rr2T3 ?hq2T3 (Or.inl ⟨?hw2T3, ?hy2T3⟩) (by assumption) ?rest2T3
        case oi0_2T3 =>
          conv =>
            lhs
            whnf
            arg 1
            whnf
        case hq2T3 => exact fun _ _ _ h => h
        case ff2T3 => kernel_rfl
        case rr2T3 => kernel_rfl
        case hw2T3 => rfl
        case hy2T3 =>
          intro w hSw
          (try dsimp only at hSw)
          first
          | (go_simp; done)
          | (go_simp; with_reducible rfl)
        try simp only [Act.put, List.setIfInBounds_toArray, List.set_cons_zero, List.set_cons_succ]
        refine wpAnyH_take (i := 3) (oi := ?oi3T3) (v := ?v3T3) ?oi0_3T3 (by kernel_rfl) ?ff3T3 ?rr3T3 ?hq3T3 (Or.inl ⟨?hw3T3, ?hy3T3⟩) (by assumption) ?rest3T3
        case oi0_3T3 =>
          conv =>
            lhs
            whnf
            arg 1
            whnf
        case hq3T3 => exact fun _ _ _ h => h
        case ff3T3 => kernel_rfl
        case rr3T3 => kernel_rfl
        case hw3T3 => rfl
        case hy3T3 =>
          intro w hSw
          (try dsimp only at hSw)
          first
          | (go_simp; done)
          | (go_simp; with_reducible rfl)
        try simp only [Act.put, List.setIfInBounds_toArray, List.set_cons_zero, List.set_cons_succ]
        refine wpAnyH_take (i := 4) (oi := ?oi4T3) (v := ?v4T3) ?oi0_4T3 (by kernel_rfl) ?ff4T3 ?rr4T3 ?hq4T3 (Or.inl ⟨?hw4T3, ?hy4T3⟩) (by assumption) ?rest4T3
        case oi0_4T3 =>
          conv =>
            lhs
            whnf
            arg 1
            whnf
        case hq4T3 => exact fun _ _ _ h => h
        case ff4T3 => kernel_rfl
        case rr4T3 => kernel_rfl
        case hw4T3 => rfl
        case hy4T3 =>
          intro w hSw
          (try dsimp only at hSw)
          first
          | (go_simp; done)
          | (go_simp; with_reducible rfl)
        try simp only [Act.put, List.setIfInBounds_toArray, List.set_cons_zero, List.set_cons_succ]
        refine wpAnyH_take (i := 5) (oi := ?oi5T3) (v := ?v5T3) ?oi0_5T3 (by kernel_rfl) ?ff5T3 ?rr5T3 ?hq5T3 (Or.inl ⟨?hw5T3, ?hy5T3⟩) (by assumption) ?rest5T3
        case oi0_5T3 =>
          conv =>
            lhs
            whnf
            arg 1
            whnf
        case hq5T3 => exact fun _ _ _ h => h
        case ff5T3 => kernel_rfl
        case rr5T3 => kernel_rfl
        case hw5T3 => rfl
        case hy5T3 =>
          intro w hSw
          (try dsimp only at hSw)
          first
          | (go_simp; done)
          | (go_simp; with_reducible rfl)
        try simp only [Act.put, List.setIfInBounds_toArray, List.set_cons_zero, List.set_cons_succ]
        refine wpAnyH_take (i := 6) (oi := ?oi6T3) (v := ?v6T3) ?oi0_6T3 (by kernel_rfl) ?ff6T3 ?rr6T3 ?hq6T3 (Or.inl ⟨?hw6T3, ?hy6T3⟩) (by assumption) ?rest6T3
        case oi0_6T3 =>
          conv =>
            lhs
            whnf
            arg 1
            whnf
        case hq6T3 => exact fun _ _ _ h => h
        case ff6T3 => kernel_rfl
        case rr6T3 => kernel_rfl
        case hw6T3 => rfl
        case hy6T3 =>
          intro w hSw
          (try dsimp only at hSw)
          first
          | (go_simp; done)
          | (go_simp; with_reducible rfl)
        try simp only [Act.put, List.setIfInBounds_toArray, List.set_cons_zero, List.set_cons_succ]
        refine wpAnyH_take (i := 7) (oi := ?oi7T3) (v := ?v7T3) ?oi0_7T3 (by kernel_rfl) ?ff7T3 ?rr7T3 ?hq7T3 (Or.inl ⟨?hw7T3, ?hy7T3⟩) (by assumption) ?rest7T3
        case oi0_7T3 =>
          conv =>
            lhs
            whnf
            arg 1
            whnf
        case hq7T3 => exact fun _ _ _ h => h
        case ff7T3 => kernel_rfl
        case rr7T3 => kernel_rfl
        case hw7T3 => rfl
        case hy7T3 =>
          intro w hSw
          (try dsimp only at hSw)
          first
          | (go_simp; done)
          | (go_simp; with_reducible rfl)
        try simp only [Act.put, List.setIfInBounds_toArray, List.set_cons_zero, List.set_cons_succ]
        refine wpAnyH_take (i := 8) (oi := ?oi8T3) (v := ?v8T3) ?oi0_8T3 (by kernel_rfl) ?ff8T3 ?rr8T3 ?hq8T3 (Or.inl ⟨?hw8T3, ?hy8T3⟩) (by assumption) ?rest8T3
        case oi0_8T3 =>
          conv =>
            lhs
            whnf
            arg 1
            whnf
        case hq8T3 => exact fun _ _ _ h => h
        case ff8T3 => kernel_rfl
        case rr8T3 => kernel_rfl
        case hw8T3 => rfl
        case hy8T3 =>
          intro w hSw
          (try dsimp only at hSw)
          first
          | (go_simp; done)
          | (go_simp; with_reducible rfl)
        try simp only [Act.put, List.setIfInBounds_toArray, List.set_cons_zero, List.set_cons_succ]
        refine wpAnyH_take (i := 9) (oi := ?oi9T3) (v := ?v9T3) ?oi0_9T3 (by kernel_rfl) ?ff9T3 ?rr9T3 ?hq9T3 (Or.inl ⟨?hw9T3, ?hy9T3⟩) (by assumption) ?rest9T3
        case oi0_9T3 =>
          conv =>
            lhs
            whnf
            arg 1
            whnf
        case hq9T3 => exact fun _ _ _ h => h
        case ff9T3 => kernel_rfl
        case rr9T3 => kernel_rfl
        case hw9T3 => rfl
        case hy9T3 =>
          intro w hSw
          (try dsimp only at hSw)
          first
          | (go_simp; done)
          | (go_simp; with_reducible rfl)
        try simp only [Act.put, List.setIfInBounds_toArray, List.set_cons_zero, List.set_cons_succ]
        refine wpAnyH_take (i := 10) (oi := ?oi10T3) (v := ?v10T3) ?oi0_10T3 (by kernel_rfl) ?ff10T3 ?rr10T3 ?hq10T3 (Or.inl ⟨?hw10T3, ?hy10T3⟩) (by assumption) ?rest10T3
        case oi0_10T3 =>
          conv =>
            lhs
            whnf
            arg 1
            whnf
        case hq10T3 => exact fun _ _ _ h => h
        case ff10T3 => kernel_rfl
        case rr10T3 => kernel_rfl
        case hw10T3 => rfl
        case hy10T3 =>
          intro w hSw
          (try dsimp only at hSw)
          first
          | (go_simp; done)
          | (go_simp; with_reducible rfl)
        try simp only [Act.put, List.setIfInBounds_toArray, List.set_cons_zero, List.set_cons_succ]
        refine wpAnyH_take (i := 11) (oi := ?oi11T3) (v := ?v11T3) ?oi0_11T3 (by kernel_rfl) ?ff11T3 ?rr11T3 ?hq11T3 (Or.inl ⟨?hw11T3, ?hy11T3⟩) (by assumption) ?rest11T3
        case oi0_11T3 =>
          conv =>
            lhs
            whnf
            arg 1
            whnf
        case hq11T3 => exact fun _ _ _ h => h
        case ff11T3 => kernel_rfl
        case rr11T3 => kernel_rfl
        case hw11T3 => rfl
        case hy11T3 =>
          intro w hSw
          (try dsimp only at hSw)
          first
          | (go_simp; done)
          | (go_simp; with_reducible rfl)
        try simp only [Act.put, List.setIfInBounds_toArray, List.set_cons_zero, List.set_cons_succ]
        refine wpAnyH_take (i := 12) (oi := ?oi12T3) (v := ?v12T3) ?oi0_12T3 (by kernel_rfl) ?ff12T3 ?rr12T3 ?hq12T3 (Or.inl ⟨?hw12T3, ?hy12T3⟩) (by assumption) ?rest12T3
        case oi0_12T3 =>
          conv =>
            lhs
            whnf
            arg 1
            whnf
        case hq12T3 => exact fun _ _ _ h => h
        case ff12T3 => kernel_rfl
        case rr12T3 => kernel_rfl
        case hw12T3 => rfl
        case hy12T3 =>
          intro w hSw
          (try dsimp only at hSw)
          first
          | (go_simp; done)
          | (go_simp; with_reducible rfl)
        try simp only [Act.put, List.setIfInBounds_toArray, List.set_cons_zero, List.set_cons_succ]
        refine wpAnyH_take (i := 13) (oi := ?oi13T3) (v := ?v13T3) ?oi0_13T3 (by kernel_rfl) ?ff13T3 ?rr13T3 ?hq13T3 (Or.inl ⟨?hw13T3, ?hy13T3⟩) (by assumption) ?rest13T3
        case oi0_13T3 =>
          conv =>
            lhs
            whnf
            arg 1
            whnf
        case hq13T3 => exact fun _ _ _ h => h
        case ff13T3 => kernel_rfl
        case rr13T3 => kernel_rfl
        case hw13T3 => rfl
        case hy13T3 =>
          intro w hSw
          (try dsimp only at hSw)
          first
          | (go_simp; done)
          | (go_simp; with_reducible rfl)
        try simp only [Act.put, List.setIfInBounds_toArray, List.set_cons_zero, List.set_cons_succ]
        refine wpAnyH_done (by kernel_rfl) ?_ _
        go_wp2_with fail
        go_roundw
        case rel => exact ⟨k + 1, _, by omega, by go_num, rfl, V2, HST⟩
        case measure => simp [intOf] <;> omega
      · have hk0i : ¬ (0 : Int) < k := by omega
        have hk0d : decide ((0 : Int) < k) = false := decide_eq_false hk0i
        go_wp2_with fail
        refine wp_region_held_drew (S := (fun w' => w'.cell? ⟨b, o + k * 2, none⟩ = some (.int .i64 s.fr) ∧ w'.cell? ⟨b, o + k * 2 + 1, none⟩ = some (.int .i64 s.to_))) (by kernel_rfl) (by exact ⟨c0', c1'⟩) (fun hHeld => ?_)
        refine wpAnyH_take (i := 0) (oi := ?oi0T2) (v := ?v0T2) ?oi0_0T2 (by kernel_rfl) ?ff0T2 ?rr0T2 ?hq0T2 (Or.inl ⟨?hw0T2, ?hy0T2⟩) (by assumption) ?rest0T2
        case oi0_0T2 =>
          conv =>
            lhs
            whnf
            arg 1
            whnf
        case hq0T2 => exact fun _ _ _ h => h
        case ff0T2 => kernel_rfl
        case rr0T2 => kernel_rfl
        case hw0T2 => rfl
        case hy0T2 =>
          intro w hSw
          (try dsimp only at hSw)
          first
          | (go_simp; done)
          | (go_simp; with_reducible rfl)
        try simp only [Act.put, List.setIfInBounds_toArray, List.set_cons_zero, List.set_cons_succ]
        refine wpAnyH_take (i := 1) (oi := ?oi1T2) (v := ?v1T2) ?oi0_1T2 (by kernel_rfl) ?ff1T2 ?rr1T2 ?hq1T2 (Or.inl ⟨?hw1T2, ?hy1T2⟩) (by assumption) ?rest1T2
        case oi0_1T2 =>
          conv =>
            lhs
            whnf
            arg 1
            whnf
        case hq1T2 => exact fun _ _ _ h => h
        case ff1T2 => kernel_rfl
        case rr1T2 => kernel_rfl
        case hw1T2 => rfl
        case hy1T2 =>
          intro w hSw
          (try dsimp only at hSw)
          first
          | (go_simp; done)
          | (go_simp; with_reducible rfl)
        try simp only [Act.put, List.setIfInBounds_toArray, List.set_cons_zero, List.set_cons_succ]
        refine wpAnyH_take (i := 2) (oi := ?oi2T2) (v := ?v2T2) ?oi0_2T2 (by kernel_rfl) ?ff2T2 ?rr2T2 ?hq2T2 (Or.inl ⟨?hw2T2, ?hy2T2⟩) (by assumption) ?rest2T2
        case oi0_2T2 =>
          conv =>
            lhs
            whnf
            arg 1
            whnf
        case hq2T2 => exact fun _ _ _ h => h
        case ff2T2 => kernel_rfl
        case rr2T2 => kernel_rfl
        case hw2T2 => rfl
        case hy2T2 =>
          intro w hSw
          (try dsimp only at hSw)
          first
          | (go_simp; done)
          | (go_simp; with_reducible rfl)
        try simp only [Act.put, List.setIfInBounds_toArray, List.set_cons_zero, List.set_cons_succ]
        refine wpAnyH_take (i := 3) (oi := ?oi3T2) (v := ?v3T2) ?oi0_3T2 (by kernel_rfl) ?ff3T2 ?rr3T2 ?hq3T2 (Or.inl ⟨?hw3T2, ?hy3T2⟩) (by assumption) ?rest3T2
        case oi0_3T2 =>
          conv =>
            lhs
            whnf
            arg 1
            whnf
        case hq3T2 => exact fun _ _ _ h => h
        case ff3T2 => kernel_rfl
        case rr3T2 => kernel_rfl
        case hw3T2 => rfl
        case hy3T2 =>
          intro w hSw
          (try dsimp only at hSw)
          first
          | (go_simp; done)
          | (go_simp; with_reducible rfl)
        try simp only [Act.put, List.setIfInBounds_toArray, List.set_cons_zero, List.set_cons_succ]
        refine wpAnyH_take (i := 4) (oi := ?oi4T2) (v := ?v4T2) ?oi0_4T2 (by kernel_rfl) ?ff4T2 ?rr4T2 ?hq4T2 (Or.inl ⟨?hw4T2, ?hy4T2⟩) (by assumption) ?rest4T2
        case oi0_4T2 =>
          conv =>
            lhs
            whnf
            arg 1
            whnf
        case hq4T2 => exact fun _ _ _ h => h
        case ff4T2 => kernel_rfl
        case rr4T2 => kernel_rfl
        case hw4T2 => rfl
        case hy4T2 =>
          intro w hSw
          (try dsimp only at hSw)
          first
          | (go_simp; done)
          | (go_simp; with_reducible rfl)
        try simp only [Act.put, List.setIfInBounds_toArray, List.set_cons_zero, List.set_cons_succ]
        refine wpAnyH_take (i := 5) (oi := ?oi5T2) (v := ?v5T2) ?oi0_5T2 (by kernel_rfl) ?ff5T2 ?rr5T2 ?hq5T2 (Or.inl ⟨?hw5T2, ?hy5T2⟩) (by assumption) ?rest5T2
        case oi0_5T2 =>
          conv =>
            lhs
            whnf
            arg 1
            whnf
        case hq5T2 => exact fun _ _ _ h => h
        case ff5T2 => kernel_rfl
        case rr5T2 => kernel_rfl
        case hw5T2 => rfl
        case hy5T2 =>
          intro w hSw
          (try dsimp only at hSw)
          first
          | (go_simp; done)
          | (go_simp; with_reducible rfl)
        try simp only [Act.put, List.setIfInBounds_toArray, List.set_cons_zero, List.set_cons_succ]
        refine wpAnyH_take (i := 6) (oi := ?oi6T2) (v := ?v6T2) ?oi0_6T2 (by kernel_rfl) ?ff6T2 ?rr6T2 ?hq6T2 (Or.inl ⟨?hw6T2, ?hy6T2⟩) (by assumption) ?rest6T2
        case oi0_6T2 =>
          conv =>
            lhs
            whnf
            arg 1
            whnf
        case hq6T2 => exact fun _ _ _ h => h
        case ff6T2 => kernel_rfl
        case rr6T2 => kernel_rfl
        case hw6T2 => rfl
        case hy6T2 =>
          intro w hSw
          (try dsimp only at hSw)
          first
          | (go_simp; done)
          | (go_simp; with_reducible rfl)
        try simp only [Act.put, List.setIfInBounds_toArray, List.set_cons_zero, List.set_cons_succ]
        refine wpAnyH_take (i := 7) (oi := ?oi7T2) (v := ?v7T2) ?oi0_7T2 (by kernel_rfl) ?ff7T2 ?rr7T2 ?hq7T2 (Or.inl ⟨?hw7T2, ?hy7T2⟩) (by assumption) ?rest7T2
        case oi0_7T2 =>
          conv =>
            lhs
            whnf
            arg 1
            whnf
        case hq7T2 => exact fun _ _ _ h => h
        case ff7T2 => kernel_rfl
        case rr7T2 => kernel_rfl
        case hw7T2 => rfl
        case hy7T2 =>
          intro w hSw
          (try dsimp only at hSw)
          first
          | (go_simp; done)
          | (go_simp; with_reducible rfl)
        try simp only [Act.put, List.setIfInBounds_toArray, List.set_cons_zero, List.set_cons_succ]
        refine wpAnyH_take (i := 8) (oi := ?oi8T2) (v := ?v8T2) ?oi0_8T2 (by kernel_rfl) ?ff8T2 ?rr8T2 ?hq8T2 (Or.inl ⟨?hw8T2, ?hy8T2⟩) (by assumption) ?rest8T2
        case oi0_8T2 =>
          conv =>
            lhs
            whnf
            arg 1
            whnf
        case hq8T2 => exact fun _ _ _ h => h
        case ff8T2 => kernel_rfl
        case rr8T2 => kernel_rfl
        case hw8T2 => rfl
        case hy8T2 =>
          intro w hSw
          (try dsimp only at hSw)
          first
          | (go_simp; done)
          | (go_simp; with_reducible rfl)
        try simp only [Act.put, List.setIfInBounds_toArray, List.set_cons_zero, List.set_cons_succ]
        refine wpAnyH_take (i := 9) (oi := ?oi9T2) (v := ?v9T2) ?oi0_9T2 (by kernel_rfl) ?ff9T2 ?rr9T2 ?hq9T2 (Or.inl ⟨?hw9T2, ?hy9T2⟩) (by assumption) ?rest9T2
        case oi0_9T2 =>
          conv =>
            lhs
            whnf
            arg 1
            whnf
        case hq9T2 => exact fun _ _ _ h => h
        case ff9T2 => kernel_rfl
        case rr9T2 => kernel_rfl
        case hw9T2 => rfl
        case hy9T2 =>
          intro w hSw
          (try dsimp only at hSw)
          first
          | (go_simp; done)
          | (go_simp; with_reducible rfl)
        try simp only [Act.put, List.setIfInBounds_toArray, List.set_cons_zero, List.set_cons_succ]
        refine wpAnyH_take (i := 10) (oi := ?oi10T2) (v := ?v10T2) ?oi0_10T2 (by kernel_rfl) ?ff10T2 ?rr10T2 ?hq10T2 (Or.inl ⟨?hw10T2, ?hy10T2⟩) (by assumption) ?rest10T2
        case oi0_10T2 =>
          conv =>
            lhs
            whnf
            arg 1
            whnf
        case hq10T2 => exact fun _ _ _ h => h
        case ff10T2 => kernel_rfl
        case rr10T2 => kernel_rfl
        case hw10T2 => rfl
        case hy10T2 =>
          intro w hSw
          (try dsimp only at hSw)
          first
          | (go_simp; done)
          | (go_simp; with_reducible rfl)
        try simp only [Act.put, List.setIfInBounds_toArray, List.set_cons_zero, List.set_cons_succ]
        refine wpAnyH_take (i := 11) (oi := ?oi11T2) (v := ?v11T2) ?oi0_11T2 (by kernel_rfl) ?ff11T2 ?rr11T2 ?hq11T2 (Or.inl ⟨?hw11T2, ?hy11T2⟩) (by assumption) ?rest11T2
        case oi0_11T2 =>
          conv =>
            lhs
            whnf
            arg 1
            whnf
        case hq11T2 => exact fun _ _ _ h => h
        case ff11T2 => kernel_rfl
        case rr11T2 => kernel_rfl
        case hw11T2 => rfl
        case hy11T2 =>
          intro w hSw
          (try dsimp only at hSw)
          first
          | (go_simp; done)
          | (go_simp; with_reducible rfl)
        try simp only [Act.put, List.setIfInBounds_toArray, List.set_cons_zero, List.set_cons_succ]
        refine wpAnyH_take (i := 12) (oi := ?oi12T2) (v := ?v12T2) ?oi0_12T2 (by kernel_rfl) ?ff12T2 ?rr12T2 ?hq12T2 (Or.inl ⟨?hw12T2, ?hy12T2⟩) (by assumption) ?rest12T2
        case oi0_12T2 =>
          conv =>
            lhs
            whnf
            arg 1
            whnf
        case hq12T2 => exact fun _ _ _ h => h
        case ff12T2 => kernel_rfl
        case rr12T2 => kernel_rfl
        case hw12T2 => rfl
        case hy12T2 =>
          intro w hSw
          (try dsimp only at hSw)
          first
          | (go_simp; done)
          | (go_simp; with_reducible rfl)
        try simp only [Act.put, List.setIfInBounds_toArray, List.set_cons_zero, List.set_cons_succ]
        refine wpAnyH_take (i := 13) (oi := ?oi13T2) (v := ?v13T2) ?oi0_13T2 (by kernel_rfl) ?ff13T2 ?rr13T2 ?hq13T2 (Or.inl ⟨?hw13T2, ?hy13T2⟩) (by assumption) ?rest13T2
        case oi0_13T2 =>
          conv =>
            lhs
            whnf
            arg 1
            whnf
        case hq13T2 => exact fun _ _ _ h => h
        case ff13T2 => kernel_rfl
        case rr13T2 => kernel_rfl
        case hw13T2 => rfl
        case hy13T2 =>
          intro w hSw
          (try dsimp only at hSw)
          first
          | (go_simp; done)
          | (go_simp; with_reducible rfl)
        try simp only [Act.put, List.setIfInBounds_toArray, List.set_cons_zero, List.set_cons_succ]
        refine wpAnyH_take (i := 14) (oi := ?oi14T2) (v := ?v14T2) ?oi0_14T2 (by kernel_rfl) ?ff14T2 ?rr14T2 ?hq14T2 (Or.inl ⟨?hw14T2, ?hy14T2⟩) (by assumption) ?rest14T2
        case oi0_14T2 =>
          conv =>
            lhs
            whnf
            arg 1
            whnf
        case hq14T2 => exact fun _ _ _ h => h
        case ff14T2 => kernel_rfl
        case rr14T2 => kernel_rfl
        case hw14T2 => rfl
        case hy14T2 =>
          intro w hSw
          (try dsimp only at hSw)
          first
          | (go_simp; done)
          | (go_simp; with_reducible rfl)
        try simp only [Act.put, List.setIfInBounds_toArray, List.set_cons_zero, List.set_cons_succ]
        refine wpAnyH_take (i := 15) (oi := ?oi15T2) (v := undef) ?oi0_15T2 (by kernel_rfl) ?ff15T2 ?rr15T2 ?hq15T2 (Or.inr ⟨?hw15T2, rfl⟩) (by assumption) ?rest15T2
        case oi0_15T2 =>
          conv =>
            lhs
            whnf
            arg 1
            whnf
        case hq15T2 => exact fun _ _ _ h => h
        case ff15T2 => kernel_rfl
        case rr15T2 => kernel_rfl
        case hw15T2 => rfl
        try simp only [Act.put, List.setIfInBounds_toArray, List.set_cons_zero, List.set_cons_succ]
        refine wpAnyH_take (i := 16) (oi := ?oi16T2) (v := undef) ?oi0_16T2 (by kernel_rfl) ?ff16T2 ?rr16T2 ?hq16T2 (Or.inr ⟨?hw16T2, rfl⟩) (by assumption) ?rest16T2
        case oi0_16T2 =>
          conv =>
            lhs
            whnf
            arg 1
            whnf
        case hq16T2 => exact fun _ _ _ h => h
        case ff16T2 => kernel_rfl
        case rr16T2 => kernel_rfl
        case hw16T2 => rfl
        try simp only [Act.put, List.setIfInBounds_toArray, List.set_cons_zero, List.set_cons_succ]
        refine wpAnyH_take (i := 17) (oi := ?oi17T2) (v := undef) ?oi0_17T2 (by kernel_rfl) ?ff17T2 ?rr17T2 ?hq17T2 (Or.inr ⟨?hw17T2, rfl⟩) (by assumption) ?rest17T2
        case oi0_17T2 =>
          conv =>
            lhs
            whnf
            arg 1
            whnf
        case hq17T2 => exact fun _ _ _ h => h
        case ff17T2 => kernel_rfl
        case rr17T2 => kernel_rfl
        case hw17T2 => rfl
        try simp only [Act.put, List.setIfInBounds_toArray, List.set_cons_zero, List.set_cons_succ]
        refine wpAnyH_take (i := 18) (oi := ?oi18T2) (v := undef) ?oi0_18T2 (by kernel_rfl) ?ff18T2 ?rr18T2 ?hq18T2 (Or.inr ⟨?hw18T2, rfl⟩) (by assumption) ?rest18T2
        case oi0_18T2 =>
          conv =>
            lhs
            whnf
            arg 1
            whnf
        case hq18T2 => exact fun _ _ _ h => h
        case ff18T2 => kernel_rfl
        case rr18T2 => kernel_rfl
        case hw18T2 => rfl
        try simp only [Act.put, List.setIfInBounds_toArray, List.set_cons_zero, List.set_cons_succ]
        refine wpAnyH_take (i := 19) (oi := ?oi19T2) (v := undef) ?oi0_19T2 (by kernel_rfl) ?ff19T2 ?rr19T2 ?hq19T2 (Or.inr ⟨?hw19T2, rfl⟩) (by assumption) ?rest19T2
        case oi0_19T2 =>
          conv =>
            lhs
            whnf
            arg 1
            whnf
        case hq19T2 => exact fun _ _ _ h => h
        case ff19T2 => kernel_rfl
        case rr19T2 => kernel_rfl
        case hw19T2 => rfl
        try simp only [Act.put, List.setIfInBounds_toArray, List.set_cons_zero, List.set_cons_succ]
        refine wpAnyH_take (i := 20) (oi := ?oi20T2) (v := undef) ?oi0_20T2 (by kernel_rfl) ?ff20T2 ?rr20T2 ?hq20T2 (Or.inr ⟨?hw20T2, rfl⟩) (by assumption) ?rest20T2
        case oi0_20T2 =>
          conv =>
            lhs
            whnf
            arg 1
            whnf
        case hq20T2 => exact fun _ _ _ h => h
        case ff20T2 => kernel_rfl
        case rr20T2 => kernel_rfl
        case hw20T2 => rfl
        try simp only [Act.put, List.setIfInBounds_toArray, List.set_cons_zero, List.set_cons_succ]
        refine wpAnyH_take (i := 21) (oi := ?oi21T2) (v := undef) ?oi0_21T2 (by kernel_rfl) ?ff21T2 ?rr21T2 ?hq21T2 (Or.inr ⟨?hw21T2, rfl⟩) (by assumption) ?rest21T2
        case oi0_21T2 =>
          conv =>
            lhs
            whnf
            arg 1
            whnf
        case hq21T2 => exact fun _ _ _ h => h
        case ff21T2 => kernel_rfl
        case rr21T2 => kernel_rfl
        case hw21T2 => rfl
        try simp only [Act.put, List.setIfInBounds_toArray, List.set_cons_zero, List.set_cons_succ]
        refine wpAnyH_take (i := 22) (oi := ?oi22T2) (v := undef) ?oi0_22T2 (by kernel_rfl) ?ff22T2 ?rr22T2 ?hq22T2 (Or.inr ⟨?hw22T2, rfl⟩) (by assumption) ?rest22T2
        case oi0_22T2 =>
          conv =>
            lhs
            whnf
            arg 1
            whnf
        case hq22T2 => exact fun _ _ _ h => h
        case ff22T2 => kernel_rfl
        case rr22T2 => kernel_rfl
        case hw22T2 => rfl
        try simp only [Act.put, List.setIfInBounds_toArray, List.set_cons_zero, List.set_cons_succ]
        refine wpAnyH_take (i := 23) (oi := ?oi23T2) (v := undef) ?oi0_23T2 (by kernel_rfl) ?ff23T2 ?rr23T2 ?hq23T2 (Or.inr ⟨?hw23T2, rfl⟩) (by assumption) ?rest23T2
        case oi0_23T2 =>
          conv =>
            lhs
            whnf
            arg 1
            whnf
        case hq23T2 => exact fun _ _ _ h => h
        case ff23T2 => kernel_rfl
        case rr23T2 => kernel_rfl
        case hw23T2 => rfl
        try simp only [Act.put, List.setIfInBounds_toArray, List.set_cons_zero, List.set_cons_succ]
        refine wpAnyH_take (i := 24) (oi := ?oi24T2) (v := undef) ?oi0_24T2 (by kernel_rfl) ?ff24T2 ?rr24T2 ?hq24T2 (Or.inr ⟨?hw24T2, rfl⟩) (by assumption) ?rest24T2
        case oi0_24T2 =>
          conv =>
            lhs
            whnf
            arg 1
            whnf
        case hq24T2 => exact fun _ _ _ h => h
        case ff24T2 => kernel_rfl
        case rr24T2 => kernel_rfl
        case hw24T2 => rfl
        try simp only [Act.put, List.setIfInBounds_toArray, List.set_cons_zero, List.set_cons_succ]
        refine wpAnyH_take (i := 25) (oi := ?oi25T2) (v := undef) ?oi0_25T2 (by kernel_rfl) ?ff25T2 ?rr25T2 ?hq25T2 (Or.inr ⟨?hw25T2, rfl⟩) (by assumption) ?rest25T2
        case oi0_25T2 =>
          conv =>
            lhs
            whnf
            arg 1
            whnf
        case hq25T2 => exact fun _ _ _ h => h
        case ff25T2 => kernel_rfl
        case rr25T2 => kernel_rfl
        case hw25T2 => rfl
        try simp only [Act.put, List.setIfInBounds_toArray, List.set_cons_zero, List.set_cons_succ]
        refine wpAnyH_take (i := 26) (oi := ?oi26T2) (v := undef) ?oi0_26T2 (by kernel_rfl) ?ff26T2 ?rr26T2 ?hq26T2 (Or.inr ⟨?hw26T2, rfl⟩) (by assumption) ?rest26T2
        case oi0_26T2 =>
          conv =>
            lhs
            whnf
            arg 1
            whnf
        case hq26T2 => exact fun _ _ _ h => h
        case ff26T2 => kernel_rfl
        case rr26T2 => kernel_rfl
        case hw26T2 => rfl
        try simp only [Act.put, List.setIfInBounds_toArray, List.set_cons_zero, List.set_cons_succ]
        refine wpAnyH_take (i := 27) (oi := ?oi27T2) (v := ?v27T2) ?oi0_27T2 (by kernel_rfl) ?ff27T2 ?rr27T2 ?hq27T2 (Or.inl ⟨?hw27T2, ?hy27T2⟩) (by assumption) ?rest27T2
        case oi0_27T2 =>
          conv =>
            lhs
            whnf
            arg 1
            whnf
        case hq27T2 => exact fun _ _ _ h => h
        case ff27T2 => kernel_rfl
        case rr27T2 => kernel_rfl
        case hw27T2 => rfl
        case hy27T2 =>
          intro w hSw
          (try dsimp only at hSw)
          first
          | (go_simp; done)
          | (go_simp; with_reducible rfl)
        try simp only [Act.put, List.setIfInBounds_toArray, List.set_cons_zero, List.set_cons_succ]
        refine wpAnyH_take (i := 28) (oi := ?oi28T2) (v := ?v28T2) ?oi0_28T2 (by kernel_rfl) ?ff28T2 ?rr28T2 ?hq28T2 (Or.inl ⟨?hw28T2, ?hy28T2⟩) (by assumption) ?rest28T2
        case oi0_28T2 =>
          conv =>
            lhs
            whnf
            arg 1
            whnf
        case hq28T2 => exact fun _ _ _ h => h
        case ff28T2 => kernel_rfl
        case rr28T2 => kernel_rfl
        case hw28T2 => rfl
        case hy28T2 =>
          intro w hSw
          (try dsimp only at hSw)
          first
          | (go_simp; done)
          | (go_simp; with_reducible rfl)
        try simp only [Act.put, List.setIfInBounds_toArray, List.set_cons_zero, List.set_cons_succ]
        refine wpAnyH_done (by kernel_rfl) ?_ _
        go_upto_region 7 with fail
        refine wp_region_held_drew (S := (fun w' => w'.cell? ⟨b, o + k * 2, none⟩ = some (.int .i64 s.fr) ∧ w'.cell? ⟨b, o + k * 2 + 1, none⟩ = some (.int .i64 s.to_))) (by kernel_rfl) (by exact ⟨c0', c1'⟩) (fun hHeld => ?_)
        refine wpAnyH_take (i := 0) (oi := ?oi0T4) (v := ?v0T4) ?oi0_0T4 (by kernel_rfl) ?ff0T4 ?rr0T4 ?hq0T4 (Or.inl ⟨?hw0T4, ?hy0T4⟩) (by assumption) ?rest0T4
        case oi0_0T4 =>
          conv =>
            lhs
            whnf
            arg 1
            whnf
        case hq0T4 => exact fun _ _ _ h => h
        case ff0T4 => kernel_rfl
        case rr0T4 => kernel_rfl
        case hw0T4 => rfl
        case hy0T4 =>
          intro w hSw
          (try dsimp only at hSw)
          first
          | (go_simp; done)
          | (go_simp; with_reducible rfl)
        try simp only [Act.put, List.setIfInBounds_toArray, List.set_cons_zero, List.set_cons_succ]
        refine wpAnyH_take (i := 1) (oi := ?oi1T4) (v := ?v1T4) ?oi0_1T4 (by kernel_rfl) ?ff1T4 ?rr1T4 ?hq1T4 (Or.inl ⟨?hw1T4, ?hy1T4⟩) (by assumption) ?rest1T4
        case oi0_1T4 =>
          conv =>
            lhs
            whnf
            arg 1
            whnf
        case hq1T4 => exact fun _ _ _ h => h
        case ff1T4 => kernel_rfl
        case rr1T4 => kernel_rfl
        case hw1T4 => rfl
        case hy1T4 =>
          intro w hSw
          (try dsimp only at hSw)
          first
          | (go_simp; done)
          | (go_simp; with_reducible rfl)
        try simp only [Act.put, List.setIfInBounds_toArray, List.set_cons_zero, List.set_cons_succ]
        refine wpAnyH_take (i := 2) (oi := ?oi2T4) (v := ?v2T4) ?oi0_2T4 (by kernel_rfl) ?ff2T4 ?rr2T4 ?hq2T4 (Or.inl ⟨?hw2T4, ?hy2T4⟩) (by assumption) ?rest2T4
        case oi0_2T4 =>
          conv =>
            lhs
            whnf
            arg 1
            whnf
        case hq2T4 => exact fun _ _ _ h => h
        case ff2T4 => kernel_rfl
        case rr2T4 => kernel_rfl
        case hw2T4 => rfl
        case hy2T4 =>
          intro w hSw
          (try dsimp only at hSw)
          first
          | (go_simp; done)
          | (go_simp; with_reducible rfl)
        try simp only [Act.put, List.setIfInBounds_toArray, List.set_cons_zero, List.set_cons_succ]
        refine wpAnyH_take (i := 3) (oi := ?oi3T4) (v := ?v3T4) ?oi0_3T4 (by kernel_rfl) ?ff3T4 ?rr3T4 ?hq3T4 (Or.inl ⟨?hw3T4, ?hy3T4⟩) (by assumption) ?rest3T4
        case oi0_3T4 =>
          conv =>
            lhs
            whnf
            arg 1
            whnf
        case hq3T4 => exact fun _ _ _ h => h
        case ff3T4 => kernel_rfl
        case rr3T4 => kernel_rfl
        case hw3T4 => rfl
        case hy3T4 =>
          intro w hSw
          (try dsimp only at hSw)
          first
          | (go_simp; done)
          | (go_simp; with_reducible rfl)
        try simp only [Act.put, List.setIfInBounds_toArray, List.set_cons_zero, List.set_cons_succ]
        refine wpAnyH_take (i := 4) (oi := ?oi4T4) (v := ?v4T4) ?oi0_4T4 (by kernel_rfl) ?ff4T4 ?rr4T4 ?hq4T4 (Or.inl ⟨?hw4T4, ?hy4T4⟩) (by assumption) ?rest4T4
        case oi0_4T4 =>
          conv =>
            lhs
            whnf
            arg 1
            whnf
        case hq4T4 => exact fun _ _ _ h => h
        case ff4T4 => kernel_rfl
        case rr4T4 => kernel_rfl
        case hw4T4 => rfl
        case hy4T4 =>
          intro w hSw
          (try dsimp only at hSw)
          first
          | (go_simp; done)
          | (go_simp; with_reducible rfl)
        try simp only [Act.put, List.setIfInBounds_toArray, List.set_cons_zero, List.set_cons_succ]
        refine wpAnyH_take (i := 5) (oi := ?oi5T4) (v := ?v5T4) ?oi0_5T4 (by kernel_rfl) ?ff5T4 ?rr5T4 ?hq5T4 (Or.inl ⟨?hw5T4, ?hy5T4⟩) (by assumption) ?rest5T4
        case oi0_5T4 =>
          conv =>
            lhs
            whnf
            arg 1
            whnf
        case hq5T4 => exact fun _ _ _ h => h
        case ff5T4 => kernel_rfl
        case rr5T4 => kernel_rfl
        case hw5T4 => rfl
        case hy5T4 =>
          intro w hSw
          (try dsimp only at hSw)
          first
          | (go_simp; done)
          | (go_simp; with_reducible rfl)
        try simp only [Act.put, List.setIfInBounds_toArray, List.set_cons_zero, List.set_cons_succ]
        refine wpAnyH_take (i := 6) (oi := ?oi6T4) (v := ?v6T4) ?oi0_6T4 (by kernel_rfl) ?ff6T4 ?rr6T4 ?hq6T4 (Or.inl ⟨?hw6T4, ?hy6T4⟩) (by assumption) ?rest6T4
        case oi0_6T4 =>
          conv =>
            lhs
            whnf
            arg 1
            whnf
        case hq6T4 => exact fun _ _ _ h => h
        case ff6T4 => kernel_rfl
        case rr6T4 => kernel_rfl
        case hw6T4 => rfl
        case hy6T4 =>
          intro w hSw
          (try dsimp only at hSw)
          first
          | (go_simp; done)
          | (go_simp; with_reducible rfl)
        try simp only [Act.put, List.setIfInBounds_toArray, List.set_cons_zero, List.set_cons_succ]
        refine wpAnyH_take (i := 7) (oi := ?oi7T4) (v := ?v7T4) ?oi0_7T4 (by kernel_rfl) ?ff7T4 ?rr7T4 ?hq7T4 (Or.inl ⟨?hw7T4, ?hy7T4⟩) (by assumption) ?rest7T4
        case oi0_7T4 =>
          conv =>
            lhs
            whnf
            arg 1
            whnf
        case hq7T4 => exact fun _ _ _ h => h
        case ff7T4 => kernel_rfl
        case rr7T4 => kernel_rfl
        case hw7T4 => rfl
        case hy7T4 =>
          intro w hSw
          (try dsimp only at hSw)
          first
          | (go_simp; done)
          | (go_simp; with_reducible rfl)
        try simp only [Act.put, List.setIfInBounds_toArray, List.set_cons_zero, List.set_cons_succ]
        refine wpAnyH_take (i := 8) (oi := ?oi8T4) (v := ?v8T4) ?oi0_8T4 (by kernel_rfl) ?ff8T4 ?rr8T4 ?hq8T4 (Or.inl ⟨?hw8T4, ?hy8T4⟩) (by assumption) ?rest8T4
        case oi0_8T4 =>
          conv =>
            lhs
            whnf
            arg 1
            whnf
        case hq8T4 => exact fun _ _ _ h => h
        case ff8T4 => kernel_rfl
        case rr8T4 => kernel_rfl
        case hw8T4 => rfl
        case hy8T4 =>
          intro w hSw
          (try dsimp only at hSw)
          first
          | (go_simp; done)
          | (go_simp; with_reducible rfl)
        try simp only [Act.put, List.setIfInBounds_toArray, List.set_cons_zero, List.set_cons_succ]
        refine wpAnyH_take (i := 9) (oi := ?oi9T4) (v := ?v9T4) ?oi0_9T4 (by kernel_rfl) ?ff9T4 ?rr9T4 ?hq9T4 (Or.inl ⟨?hw9T4, ?hy9T4⟩) (by assumption) ?rest9T4
        case oi0_9T4 =>
          conv =>
            lhs
            whnf
            arg 1
            whnf
        case hq9T4 => exact fun _ _ _ h => h
        case ff9T4 => kernel_rfl
        case rr9T4 => kernel_rfl
        case hw9T4 => rfl
        case hy9T4 =>
          intro w hSw
          (try dsimp only at hSw)
          first
          | (go_simp; done)
          | (go_simp; with_reducible rfl)
        try simp only [Act.put, List.setIfInBounds_toArray, List.set_cons_zero, List.set_cons_succ]
        refine wpAnyH_take (i := 10) (oi := ?oi10T4) (v := ?v10T4) ?oi0_10T4 (by kernel_rfl) ?ff10T4 ?rr10T4 ?hq10T4 (Or.inl ⟨?hw10T4, ?hy10T4⟩) (by assumption) ?rest10T4
        case oi0_10T4 =>
          conv =>
            lhs
            whnf
            arg 1
            whnf
        case hq10T4 => exact fun _ _ _ h => h
        case ff10T4 => kernel_rfl
        case rr10T4 => kernel_rfl
        case hw10T4 => rfl
        case hy10T4 =>
          intro w hSw
          (try dsimp only at hSw)
          first
          | (go_simp; done)
          | (go_simp; with_reducible rfl)
        try simp only [Act.put, List.setIfInBounds_toArray, List.set_cons_zero, List.set_cons_succ]
        refine wpAnyH_take (i := 11) (oi := ?oi11T4) (v := ?v11T4) ?oi0_11T4 (by kernel_rfl) ?ff11T4 ?rr11T4 ?hq11T4 (Or.inl ⟨?hw11T4, ?hy11T4⟩) (by assumption) ?rest11T4
        case oi0_11T4 =>
          conv =>
            lhs
            whnf
            arg 1
            whnf
        case hq11T4 => exact fun _ _ _ h => h
        case ff11T4 => kernel_rfl
        case rr11T4 => kernel_rfl
        case hw11T4 => rfl
        case hy11T4 =>
          intro w hSw
          (try dsimp only at hSw)
          first
          | (go_simp; done)
          | (go_simp; with_reducible rfl)
        try simp only [Act.put, List.setIfInBounds_toArray, List.set_cons_zero, List.set_cons_succ]
        refine wpAnyH_take (i := 12) (oi := ?oi12T4) (v := ?v12T4) ?oi0_12T4 (by kernel_rfl) ?ff12T4 ?rr12T4 ?hq12T4 (Or.inl ⟨?hw12T4, ?hy12T4⟩) (by assumption) ?rest12T4
        case oi0_12T4 =>
          conv =>
            lhs
            whnf
            arg 1
            whnf
        case hq12T4 => exact fun _ _ _ h => h
        case ff12T4 => kernel_rfl
        case rr12T4 => kernel_rfl
        case hw12T4 => rfl
        case hy12T4 =>
          intro w hSw
          (try dsimp only at hSw)
          first
          | (go_simp; done)
          | (go_simp; with_reducible rfl)
        try simp only [Act.put, List.setIfInBounds_toArray, List.set_cons_zero, List.set_cons_succ]
        refine wpAnyH_take (i := 13) (oi := ?oi13T4) (v := ?v13T4) ?oi0_13T4 (by kernel_rfl) ?ff13T4 ?rr13T4 ?hq13T4 (Or.inl ⟨?hw13T4, ?hy13T4⟩) (by assumption) ?rest13T4
        case oi0_13T4 =>
          conv =>
            lhs
            whnf
            arg 1
            whnf
        case hq13T4 => exact fun _ _ _ h => h
        case ff13T4 => kernel_rfl
        case rr13T4 => kernel_rfl
        case hw13T4 => rfl
        case hy13T4 =>
          intro w hSw
          (try dsimp only at hSw)
          first
          | (go_simp; done)
          | (go_simp; with_reducible rfl)
        try simp only [Act.put, List.setIfInBounds_toArray, List.set_cons_zero, List.set_cons_succ]
        refine wpAnyH_done (by kernel_rfl) ?_ _
        go_wp2_with fail
        go_roundw
        case rel => exact ⟨k + 1, _, by omega, by go_num, rfl, V2, HST⟩
        case measure => simp [intOf] <;> omega
    · obtain rfl : k = n := by omega
      have hki : ¬ (k : Int) < k := by omega
      obtain rfl : t = r := by
        rw [← HR.out]
        have h1 := hr.out
        rwa [List.take_of_length_le (by have := HXN.out; omega)] at h1
      go_wp2_with fail
      go_ret2
      exact ⟨rfl, hu.out⟩
end Go.Proofs.Ytpkeimdlcafcnaa
