/-
  ordered, over spells and over indices.
-/
import Derived.Test.YteehjciepccomaaZ3FitItemsRow
import Derived.Deep.RegionHeld3

namespace Go.Proofs.Yteehjciepccomaa
open Go.RowKit
set_option maxRecDepth 100000
set_option maxHeartbeats 20000000

theorem spOk_zero {n : Int} {l : List Sp} {s : Sp} (hs : l[0]? = some s) : SpOk n l 0 ↔ SpIn n s := by
  unfold SpOk
  rw [hs]
  simp
theorem spOk_succ {n : Int} {l : List Sp} {k : Nat} {r s : Sp} (hr : l[k]? = some r) (hs : l[k + 1]? = some s) : SpOk n l (k + 1) ↔ SpIn n s ∧ r.to_ ≤ s.fr := by
  unfold SpOk
  rw [hs, show k + 1 - 1 = k from rfl, hr]
  simp

theorem ordered_sp {n₀ : Nat} (a : Option Addr) (c : Nat) (l : List Sp) (n : Int) (bi : Nat) (w : World) (hI : SpsAt n₀ w a l) (hm : l.length ≤ maxLen) (hb : w.cell? ⟨bi, 2, none⟩ = some (.int .i64 n)) :
    Calls Try.prog 78 #[.slice a l.length c, .int .i64 4, .func (.func 76) #[] #[.pointer (some ⟨bi, 0, none⟩)], .func (.func 77) #[] #[]] w fun e w' => e = .returned (.bool (decide (SpsOk n l))) ∧ Upd [] w w' := by
  have HI := hide hI
  have HB := hide hb
  have hm' : l.length ≤ 9223372036854775807 := by unfold maxLen at hm; omega
  obtain ⟨len, hz⟩ : ∃ n, l.length = n := ⟨_, rfl⟩
  obtain ⟨r, hr⟩ : ∃ r, decide (SpsOk n l) = r := ⟨_, rfl⟩
  rw [hr]
  rw [hz] at hm' ⊢
  have HZ := hide hz
  have HR := hide hr
  have NO := hide (show ∀ q : Prop, (SpsOk n l → q) → ¬ q → r = false from fun q h1 h2 => by
    rw [← hr]
    exact decide_eq_false fun h => h2 (h1 h))
  clear hI hm hr hz hb
  go_enter Try.func78, Try.ntmps78
  go_wp2_with fail
  go_loopw [13] (fun s13 wr => ∃ k : Nat, k ≤ len ∧ s13 = .int .i64 k ∧ Hid (Upd [] w wr) ∧ Hid (∀ j, j < k → SpOk n l j)) (fun k _ => len - (intOf k).toNat)
  case atStart => exact ⟨0, Nat.zero_le _, rfl, Upd.refl _ _, fun j hj => by omega⟩
  case round =>
    obtain ⟨k, hk, rfl, hu, hok⟩ := hrel
    obtain ⟨wo, rfl⟩ : ∃ wo : World, wo = wr := ⟨_, rfl⟩
    by_cases hkl : k < len
    · obtain ⟨s, hs⟩ : ∃ s, l[k]? = some s := ⟨_, List.getElem?_eq_getElem (by have := HZ.out; omega)⟩
      obtain ⟨b, o, ea, hbn, c0, c1⟩ := HI.out k s hs
      subst ea
      have HS := hide hs
      have HPC := hide (show ∀ j s, l[j]? = some s → ∀ W, Upd [] w W → W.cell? ⟨b, o + j * 2, none⟩ = some (.int .i64 s.fr) ∧ W.cell? ⟨b, o + j * 2 + 1, none⟩ = some (.int .i64 s.to_) from fun j s hs W hW => by
        obtain ⟨b2, o2, e2, _, d0, d1⟩ := HI.out j s hs
        obtain ⟨rfl, rfl⟩ : b = b2 ∧ o = o2 := by simpa using e2
        exact ⟨keepc _ _ _ _ hW d0, keepc _ _ _ _ hW d1⟩)
      have f0 := (HPC.out k s hs wo hu.out).1
      have f1 := (HPC.out k s hs wo hu.out).2
      have hki : (k : Int) < len := by omega
      have L1 := Blk.new wo 99 [.int .i64 s.fr, .int .i64 s.to_]
      have UB := hide (hu.out.alloc (.cells #[.int .i64 s.fr, .int .i64 s.to_] 99))
      have x0 := L1.cell 0
      have x1 := L1.cell 1
      have y2 := keepc _ _ _ _ UB.out HB.out
      clear hs hbn c0 c1 L1
      obtain ⟨q, hq⟩ : ∃ q, decide (SpIn n s) = q := ⟨_, rfl⟩
      have RS := fun W hW => right_sp s n bi W hW
      simp only [hq] at RS
      have HRS := hide RS
      have HQ := hide hq
      clear RS hq
      have hlk : ∀ h : SpsOk n l, SpOk n l k := fun h => h.1 k (by have := HZ.out; omega)
      cases q with
      | false =>
        obtain rfl : r = false := NO.out (SpIn n s) (fun h => by
          have := (hlk h).1
          rw [HS.out] at this
          exact this) (of_decide_eq_false HQ.out)
        clear hlk
        go_wp2_with fail
        refine wp_region_held_drew (S := (fun w' => w'.cell? ⟨wo.heap.size, 0, none⟩ = some (.int .i64 s.fr) ∧ w'.cell? ⟨wo.heap.size, 1, none⟩ = some (.int .i64 s.to_) ∧ w'.cell? ⟨bi, 2, none⟩ = some (.int .i64 n) ∧ Upd [] w w')) (by kernel_rfl) (by exact ⟨x0, x1, y2, UB.out.drew⟩) (fun hHeld => ?_)
        refine wpAnyH_take (i := 0) (oi := ?oi0T1) (v := ?v0T1) ?oi0_0T1 (by kernel_rfl) ?ff0T1 ?rr0T1 ?hq0T1 (Or.inl ⟨?hw0T1, ?hy0T1⟩) (by assumption) ?rest0T1
        case oi0_0T1 =>
          conv =>
            lhs
            whnf
            arg 1
            whnf
        case hq0T1 => exact fun _ _ _ h => h
        case ff0T1 => kernel_rfl
        case rr0T1 => kernel_rfl
        case hw0T1 => rfl
        case hy0T1 =>
          intro w hSw
          (try dsimp only at hSw)
          first
          | (go_simp; done)
          | (go_simp; with_reducible rfl)
        try simp only [Act.put, List.setIfInBounds_toArray, List.set_cons_zero, List.set_cons_succ]
        refine wpAnyH_take (i := 1) (oi := ?oi1T1) (v := ?v1T1) ?oi0_1T1 (by kernel_rfl) ?ff1T1 ?rr1T1 ?hq1T1 (Or.inl ⟨?hw1T1, ?hy1T1⟩) (by assumption) ?rest1T1
        case oi0_1T1 =>
          conv =>
            lhs
            whnf
            arg 1
            whnf
        case hq1T1 => exact fun _ _ _ h => h
        case ff1T1 => kernel_rfl
        case rr1T1 => kernel_rfl
        case hw1T1 => rfl
        case hy1T1 =>
          intro w hSw
          (try dsimp only at hSw)
          first
          | (go_simp; done)
          | (go_simp; with_reducible rfl)
        try simp only [Act.put, List.setIfInBounds_toArray, List.set_cons_zero, List.set_cons_succ]
        refine wpAnyH_ready (rs := [2]) (by kernel_rfl) (by simp) (AllReadyH.cons (o := ?oi2T1) ?oi0_2T1 (fun K hK => ?_) AllReadyH.nil)
        case oi0_2T1 =>
          conv =>
            lhs
            whnf
            arg 1
            whnf
        go_simp
        obtain ⟨g0, g1, g2, g3⟩ := hHeld
        refine (HRS.out _ g2).mono ?_
        rintro e w' ⟨rfl, u⟩
        (try dsimp only)
        refine hK.out _ _ (by exact ⟨keepc _ _ _ _ u g0, keepc _ _ _ _ u g1, keepc _ _ _ _ u g2, g3.trans u (by simp)⟩) (fun hHeld => ?_)
        clear hK K
        try simp only [Act.put, List.setIfInBounds_toArray, List.set_cons_zero, List.set_cons_succ]
        refine wpAnyH_take (i := 3) (oi := ?oi3T1) (v := ?v3T1) ?oi0_3T1 (by kernel_rfl) ?ff3T1 ?rr3T1 ?hq3T1 (Or.inl ⟨?hw3T1, ?hy3T1⟩) (by assumption) ?rest3T1
        case oi0_3T1 =>
          conv =>
            lhs
            whnf
            arg 1
            whnf
        case hq3T1 => exact fun _ _ _ h => h
        case ff3T1 => kernel_rfl
        case rr3T1 => kernel_rfl
        case hw3T1 => rfl
        case hy3T1 =>
          intro w hSw
          (try dsimp only at hSw)
          first
          | (go_simp; done)
          | (go_simp; with_reducible rfl)
        try simp only [Act.put, List.setIfInBounds_toArray, List.set_cons_zero, List.set_cons_succ]
        refine wpAnyH_take (i := 4) (oi := ?oi4T1) (v := ?v4T1) ?oi0_4T1 (by kernel_rfl) ?ff4T1 ?rr4T1 ?hq4T1 (Or.inl ⟨?hw4T1, ?hy4T1⟩) (by assumption) ?rest4T1
        case oi0_4T1 =>
          conv =>
            lhs
            whnf
            arg 1
            whnf
        case hq4T1 => exact fun _ _ _ h => h
        case ff4T1 => kernel_rfl
        case rr4T1 => kernel_rfl
        case hw4T1 => rfl
        case hy4T1 =>
          intro w hSw
          (try dsimp only at hSw)
          first
          | (go_simp; done)
          | (go_simp; with_reducible rfl)
        try simp only [Act.put, List.setIfInBounds_toArray, List.set_cons_zero, List.set_cons_succ]
        refine wpAnyH_take (i := 5) (oi := ?oi5T1) (v := undef) ?oi0_5T1 (by kernel_rfl) ?ff5T1 ?rr5T1 ?hq5T1 (Or.inr ⟨?hw5T1, rfl⟩) (by assumption) ?rest5T1
        case oi0_5T1 =>
          conv =>
            lhs
            whnf
            arg 1
            whnf
        case hq5T1 => exact fun _ _ _ h => h
        case ff5T1 => kernel_rfl
        case rr5T1 => kernel_rfl
        case hw5T1 => rfl
        try simp only [Act.put, List.setIfInBounds_toArray, List.set_cons_zero, List.set_cons_succ]
        refine wpAnyH_take (i := 6) (oi := ?oi6T1) (v := undef) ?oi0_6T1 (by kernel_rfl) ?ff6T1 ?rr6T1 ?hq6T1 (Or.inr ⟨?hw6T1, rfl⟩) (by assumption) ?rest6T1
        case oi0_6T1 =>
          conv =>
            lhs
            whnf
            arg 1
            whnf
        case hq6T1 => exact fun _ _ _ h => h
        case ff6T1 => kernel_rfl
        case rr6T1 => kernel_rfl
        case hw6T1 => rfl
        try simp only [Act.put, List.setIfInBounds_toArray, List.set_cons_zero, List.set_cons_succ]
        refine wpAnyH_take (i := 7) (oi := ?oi7T1) (v := undef) ?oi0_7T1 (by kernel_rfl) ?ff7T1 ?rr7T1 ?hq7T1 (Or.inr ⟨?hw7T1, rfl⟩) (by assumption) ?rest7T1
        case oi0_7T1 =>
          conv =>
            lhs
            whnf
            arg 1
            whnf
        case hq7T1 => exact fun _ _ _ h => h
        case ff7T1 => kernel_rfl
        case rr7T1 => kernel_rfl
        case hw7T1 => rfl
        try simp only [Act.put, List.setIfInBounds_toArray, List.set_cons_zero, List.set_cons_succ]
        refine wpAnyH_take (i := 8) (oi := ?oi8T1) (v := undef) ?oi0_8T1 (by kernel_rfl) ?ff8T1 ?rr8T1 ?hq8T1 (Or.inr ⟨?hw8T1, rfl⟩) (by assumption) ?rest8T1
        case oi0_8T1 =>
          conv =>
            lhs
            whnf
            arg 1
            whnf
        case hq8T1 => exact fun _ _ _ h => h
        case ff8T1 => kernel_rfl
        case rr8T1 => kernel_rfl
        case hw8T1 => rfl
        try simp only [Act.put, List.setIfInBounds_toArray, List.set_cons_zero, List.set_cons_succ]
        refine wpAnyH_take (i := 9) (oi := ?oi9T1) (v := undef) ?oi0_9T1 (by kernel_rfl) ?ff9T1 ?rr9T1 ?hq9T1 (Or.inr ⟨?hw9T1, rfl⟩) (by assumption) ?rest9T1
        case oi0_9T1 =>
          conv =>
            lhs
            whnf
            arg 1
            whnf
        case hq9T1 => exact fun _ _ _ h => h
        case ff9T1 => kernel_rfl
        case rr9T1 => kernel_rfl
        case hw9T1 => rfl
        try simp only [Act.put, List.setIfInBounds_toArray, List.set_cons_zero, List.set_cons_succ]
        refine wpAnyH_take (i := 10) (oi := ?oi10T1) (v := undef) ?oi0_10T1 (by kernel_rfl) ?ff10T1 ?rr10T1 ?hq10T1 (Or.inr ⟨?hw10T1, rfl⟩) (by assumption) ?rest10T1
        case oi0_10T1 =>
          conv =>
            lhs
            whnf
            arg 1
            whnf
        case hq10T1 => exact fun _ _ _ h => h
        case ff10T1 => kernel_rfl
        case rr10T1 => kernel_rfl
        case hw10T1 => rfl
        try simp only [Act.put, List.setIfInBounds_toArray, List.set_cons_zero, List.set_cons_succ]
        refine wpAnyH_take (i := 11) (oi := ?oi11T1) (v := undef) ?oi0_11T1 (by kernel_rfl) ?ff11T1 ?rr11T1 ?hq11T1 (Or.inr ⟨?hw11T1, rfl⟩) (by assumption) ?rest11T1
        case oi0_11T1 =>
          conv =>
            lhs
            whnf
            arg 1
            whnf
        case hq11T1 => exact fun _ _ _ h => h
        case ff11T1 => kernel_rfl
        case rr11T1 => kernel_rfl
        case hw11T1 => rfl
        try simp only [Act.put, List.setIfInBounds_toArray, List.set_cons_zero, List.set_cons_succ]
        refine wpAnyH_take (i := 12) (oi := ?oi12T1) (v := undef) ?oi0_12T1 (by kernel_rfl) ?ff12T1 ?rr12T1 ?hq12T1 (Or.inr ⟨?hw12T1, rfl⟩) (by assumption) ?rest12T1
        case oi0_12T1 =>
          conv =>
            lhs
            whnf
            arg 1
            whnf
        case hq12T1 => exact fun _ _ _ h => h
        case ff12T1 => kernel_rfl
        case rr12T1 => kernel_rfl
        case hw12T1 => rfl
        try simp only [Act.put, List.setIfInBounds_toArray, List.set_cons_zero, List.set_cons_succ]
        refine wpAnyH_take (i := 13) (oi := ?oi13T1) (v := undef) ?oi0_13T1 (by kernel_rfl) ?ff13T1 ?rr13T1 ?hq13T1 (Or.inr ⟨?hw13T1, rfl⟩) (by assumption) ?rest13T1
        case oi0_13T1 =>
          conv =>
            lhs
            whnf
            arg 1
            whnf
        case hq13T1 => exact fun _ _ _ h => h
        case ff13T1 => kernel_rfl
        case rr13T1 => kernel_rfl
        case hw13T1 => rfl
        try simp only [Act.put, List.setIfInBounds_toArray, List.set_cons_zero, List.set_cons_succ]
        refine wpAnyH_take (i := 14) (oi := ?oi14T1) (v := undef) ?oi0_14T1 (by kernel_rfl) ?ff14T1 ?rr14T1 ?hq14T1 (Or.inr ⟨?hw14T1, rfl⟩) (by assumption) ?rest14T1
        case oi0_14T1 =>
          conv =>
            lhs
            whnf
            arg 1
            whnf
        case hq14T1 => exact fun _ _ _ h => h
        case ff14T1 => kernel_rfl
        case rr14T1 => kernel_rfl
        case hw14T1 => rfl
        try simp only [Act.put, List.setIfInBounds_toArray, List.set_cons_zero, List.set_cons_succ]
        refine wpAnyH_ready (rs := [15]) (by kernel_rfl) (by simp) (AllReadyH.cons (o := ?oi15T1) ?oi0_15T1 (fun K hK => ?_) AllReadyH.nil)
        case oi0_15T1 =>
          conv =>
            lhs
            whnf
            arg 1
            whnf
        rw [if_neg (by first | (simp [Region.wanted, yielded]; done) | (simp [Region.wanted, yielded]; exact fun h => nomatch (show (none : Option Bool) = some true from h)))]
        refine hK.out _ _ (by assumption) (fun _ => ?_)
        clear hK K
        try simp only [Act.put, List.setIfInBounds_toArray, List.set_cons_zero, List.set_cons_succ]
        refine wpAnyH_take (i := 16) (oi := ?oi16T1) (v := undef) ?oi0_16T1 (by kernel_rfl) ?ff16T1 ?rr16T1 ?hq16T1 (Or.inr ⟨?hw16T1, rfl⟩) (by assumption) ?rest16T1
        case oi0_16T1 =>
          conv =>
            lhs
            whnf
            arg 1
            whnf
        case hq16T1 => exact fun _ _ _ h => h
        case ff16T1 => kernel_rfl
        case rr16T1 => kernel_rfl
        case hw16T1 => rfl
        try simp only [Act.put, List.setIfInBounds_toArray, List.set_cons_zero, List.set_cons_succ]
        refine wpAnyH_take (i := 17) (oi := ?oi17T1) (v := undef) ?oi0_17T1 (by kernel_rfl) ?ff17T1 ?rr17T1 ?hq17T1 (Or.inr ⟨?hw17T1, rfl⟩) (by assumption) ?rest17T1
        case oi0_17T1 =>
          conv =>
            lhs
            whnf
            arg 1
            whnf
        case hq17T1 => exact fun _ _ _ h => h
        case ff17T1 => kernel_rfl
        case rr17T1 => kernel_rfl
        case hw17T1 => rfl
        try simp only [Act.put, List.setIfInBounds_toArray, List.set_cons_zero, List.set_cons_succ]
        refine wpAnyH_take (i := 18) (oi := ?oi18T1) (v := ?v18T1) ?oi0_18T1 (by kernel_rfl) ?ff18T1 ?rr18T1 ?hq18T1 (Or.inl ⟨?hw18T1, ?hy18T1⟩) (by assumption) ?rest18T1
        case oi0_18T1 =>
          conv =>
            lhs
            whnf
            arg 1
            whnf
        case hq18T1 => exact fun _ _ _ h => h
        case ff18T1 => kernel_rfl
        case rr18T1 => kernel_rfl
        case hw18T1 => rfl
        case hy18T1 =>
          intro w hSw
          (try dsimp only at hSw)
          first
          | (go_simp; done)
          | (go_simp; with_reducible rfl)
        try simp only [Act.put, List.setIfInBounds_toArray, List.set_cons_zero, List.set_cons_succ]
        refine wpAnyH_done (by kernel_rfl) ?_ _
        go_wp2_with fail
        go_ret
        exact ⟨rfl, hHeld.2.2.2⟩
      | true =>
        rcases Nat.eq_zero_or_pos k with hk0 | hk0
        · subst hk0
          clear hlk
          simp only [Nat.zero_mul, Nat.add_zero] at f0 f1
          go_wp2_with fail
          refine wp_region_held_drew (S := (fun w' => w'.cell? ⟨wo.heap.size, 0, none⟩ = some (.int .i64 s.fr) ∧ w'.cell? ⟨wo.heap.size, 1, none⟩ = some (.int .i64 s.to_) ∧ w'.cell? ⟨bi, 2, none⟩ = some (.int .i64 n) ∧ Upd [] w w')) (by kernel_rfl) (by exact ⟨x0, x1, y2, UB.out.drew⟩) (fun hHeld => ?_)
          refine wpAnyH_take (i := 0) (oi := ?oi0T2) (v := ?v0T2) ?oi0_0T2 (by kernel_rfl) ?ff0T2 ?rr0T2 ?hq0T2 (Or.inl ⟨?hw0T2, ?hy0T2⟩) (by assumption) ?rest0T2
          case oi0_0T2 =>
            conv =>
              lhs
              whnf
              arg 1
              whnf
          case hq0T2 => exact fun _ _ _ h => h
          case ff0T2 => kernel_rfl
          case rr0T2 => kernel_rfl
          case hw0T2 => rfl
          case hy0T2 =>
            intro w hSw
            (try dsimp only at hSw)
            first
            | (go_simp; done)
            | (go_simp; with_reducible rfl)
          try simp only [Act.put, List.setIfInBounds_toArray, List.set_cons_zero, List.set_cons_succ]
          refine wpAnyH_take (i := 1) (oi := ?oi1T2) (v := ?v1T2) ?oi0_1T2 (by kernel_rfl) ?ff1T2 ?rr1T2 ?hq1T2 (Or.inl ⟨?hw1T2, ?hy1T2⟩) (by assumption) ?rest1T2
          case oi0_1T2 =>
            conv =>
              lhs
              whnf
              arg 1
              whnf
          case hq1T2 => exact fun _ _ _ h => h
          case ff1T2 => kernel_rfl
          case rr1T2 => kernel_rfl
          case hw1T2 => rfl
          case hy1T2 =>
            intro w hSw
            (try dsimp only at hSw)
            first
            | (go_simp; done)
            | (go_simp; with_reducible rfl)
          try simp only [Act.put, List.setIfInBounds_toArray, List.set_cons_zero, List.set_cons_succ]
          refine wpAnyH_ready (rs := [2]) (by kernel_rfl) (by simp) (AllReadyH.cons (o := ?oi2T2) ?oi0_2T2 (fun K hK => ?_) AllReadyH.nil)
          case oi0_2T2 =>
            conv =>
              lhs
              whnf
              arg 1
              whnf
          go_simp
          obtain ⟨g0, g1, g2, g3⟩ := hHeld
          refine (HRS.out _ g2).mono ?_
          rintro e w' ⟨rfl, u⟩
          (try dsimp only)
          refine hK.out _ _ (by exact ⟨keepc _ _ _ _ u g0, keepc _ _ _ _ u g1, keepc _ _ _ _ u g2, g3.trans u (by simp)⟩) (fun hHeld => ?_)
          clear hK K
          try simp only [Act.put, List.setIfInBounds_toArray, List.set_cons_zero, List.set_cons_succ]
          refine wpAnyH_take (i := 3) (oi := ?oi3T2) (v := ?v3T2) ?oi0_3T2 (by kernel_rfl) ?ff3T2 ?rr3T2 ?hq3T2 (Or.inl ⟨?hw3T2, ?hy3T2⟩) (by assumption) ?rest3T2
          case oi0_3T2 =>
            conv =>
              lhs
              whnf
              arg 1
              whnf
          case hq3T2 => exact fun _ _ _ h => h
          case ff3T2 => kernel_rfl
          case rr3T2 => kernel_rfl
          case hw3T2 => rfl
          case hy3T2 =>
            intro w hSw
            (try dsimp only at hSw)
            first
            | (go_simp; done)
            | (go_simp; with_reducible rfl)
          try simp only [Act.put, List.setIfInBounds_toArray, List.set_cons_zero, List.set_cons_succ]
          refine wpAnyH_take (i := 4) (oi := ?oi4T2) (v := ?v4T2) ?oi0_4T2 (by kernel_rfl) ?ff4T2 ?rr4T2 ?hq4T2 (Or.inl ⟨?hw4T2, ?hy4T2⟩) (by assumption) ?rest4T2
          case oi0_4T2 =>
            conv =>
              lhs
              whnf
              arg 1
              whnf
          case hq4T2 => exact fun _ _ _ h => h
          case ff4T2 => kernel_rfl
          case rr4T2 => kernel_rfl
          case hw4T2 => rfl
          case hy4T2 =>
            intro w hSw
            (try dsimp only at hSw)
            first
            | (go_simp; done)
            | (go_simp; with_reducible rfl)
          try simp only [Act.put, List.setIfInBounds_toArray, List.set_cons_zero, List.set_cons_succ]
          refine wpAnyH_take (i := 5) (oi := ?oi5T2) (v := ?v5T2) ?oi0_5T2 (by kernel_rfl) ?ff5T2 ?rr5T2 ?hq5T2 (Or.inl ⟨?hw5T2, ?hy5T2⟩) (by assumption) ?rest5T2
          case oi0_5T2 =>
            conv =>
              lhs
              whnf
              arg 1
              whnf
          case hq5T2 => exact fun _ _ _ h => h
          case ff5T2 => kernel_rfl
          case rr5T2 => kernel_rfl
          case hw5T2 => rfl
          case hy5T2 =>
            intro w hSw
            (try dsimp only at hSw)
            first
            | (go_simp; done)
            | (go_simp; with_reducible rfl)
          try simp only [Act.put, List.setIfInBounds_toArray, List.set_cons_zero, List.set_cons_succ]
          refine wpAnyH_take (i := 6) (oi := ?oi6T2) (v := ?v6T2) ?oi0_6T2 (by kernel_rfl) ?ff6T2 ?rr6T2 ?hq6T2 (Or.inl ⟨?hw6T2, ?hy6T2⟩) (by assumption) ?rest6T2
          case oi0_6T2 =>
            conv =>
              lhs
              whnf
              arg 1
              whnf
          case hq6T2 => exact fun _ _ _ h => h
          case ff6T2 => kernel_rfl
          case rr6T2 => kernel_rfl
          case hw6T2 => rfl
          case hy6T2 =>
            intro w hSw
            (try dsimp only at hSw)
            first
            | (go_simp; done)
            | (go_simp; with_reducible rfl)
          try simp only [Act.put, List.setIfInBounds_toArray, List.set_cons_zero, List.set_cons_succ]
          refine wpAnyH_take (i := 7) (oi := ?oi7T2) (v := ?v7T2) ?oi0_7T2 (by kernel_rfl) ?ff7T2 ?rr7T2 ?hq7T2 (Or.inl ⟨?hw7T2, ?hy7T2⟩) (by assumption) ?rest7T2
          case oi0_7T2 =>
            conv =>
              lhs
              whnf
              arg 1
              whnf
          case hq7T2 => exact fun _ _ _ h => h
          case ff7T2 => kernel_rfl
          case rr7T2 => kernel_rfl
          case hw7T2 => rfl
          case hy7T2 =>
            intro w hSw
            (try dsimp only at hSw)
            first
            | (go_simp; done)
            | (go_simp; with_reducible rfl)
          try simp only [Act.put, List.setIfInBounds_toArray, List.set_cons_zero, List.set_cons_succ]
          refine wpAnyH_take (i := 8) (oi := ?oi8T2) (v := undef) ?oi0_8T2 (by kernel_rfl) ?ff8T2 ?rr8T2 ?hq8T2 (Or.inr ⟨?hw8T2, rfl⟩) (by assumption) ?rest8T2
          case oi0_8T2 =>
            conv =>
              lhs
              whnf
              arg 1
              whnf
          case hq8T2 => exact fun _ _ _ h => h
          case ff8T2 => kernel_rfl
          case rr8T2 => kernel_rfl
          case hw8T2 => rfl
          try simp only [Act.put, List.setIfInBounds_toArray, List.set_cons_zero, List.set_cons_succ]
          refine wpAnyH_take (i := 9) (oi := ?oi9T2) (v := undef) ?oi0_9T2 (by kernel_rfl) ?ff9T2 ?rr9T2 ?hq9T2 (Or.inr ⟨?hw9T2, rfl⟩) (by assumption) ?rest9T2
          case oi0_9T2 =>
            conv =>
              lhs
              whnf
              arg 1
              whnf
          case hq9T2 => exact fun _ _ _ h => h
          case ff9T2 => kernel_rfl
          case rr9T2 => kernel_rfl
          case hw9T2 => rfl
          try simp only [Act.put, List.setIfInBounds_toArray, List.set_cons_zero, List.set_cons_succ]
          refine wpAnyH_take (i := 10) (oi := ?oi10T2) (v := undef) ?oi0_10T2 (by kernel_rfl) ?ff10T2 ?rr10T2 ?hq10T2 (Or.inr ⟨?hw10T2, rfl⟩) (by assumption) ?rest10T2
          case oi0_10T2 =>
            conv =>
              lhs
              whnf
              arg 1
              whnf
          case hq10T2 => exact fun _ _ _ h => h
          case ff10T2 => kernel_rfl
          case rr10T2 => kernel_rfl
          case hw10T2 => rfl
          try simp only [Act.put, List.setIfInBounds_toArray, List.set_cons_zero, List.set_cons_succ]
          refine wpAnyH_take (i := 11) (oi := ?oi11T2) (v := undef) ?oi0_11T2 (by kernel_rfl) ?ff11T2 ?rr11T2 ?hq11T2 (Or.inr ⟨?hw11T2, rfl⟩) (by assumption) ?rest11T2
          case oi0_11T2 =>
            conv =>
              lhs
              whnf
              arg 1
              whnf
          case hq11T2 => exact fun _ _ _ h => h
          case ff11T2 => kernel_rfl
          case rr11T2 => kernel_rfl
          case hw11T2 => rfl
          try simp only [Act.put, List.setIfInBounds_toArray, List.set_cons_zero, List.set_cons_succ]
          refine wpAnyH_take (i := 12) (oi := ?oi12T2) (v := undef) ?oi0_12T2 (by kernel_rfl) ?ff12T2 ?rr12T2 ?hq12T2 (Or.inr ⟨?hw12T2, rfl⟩) (by assumption) ?rest12T2
          case oi0_12T2 =>
            conv =>
              lhs
              whnf
              arg 1
              whnf
          case hq12T2 => exact fun _ _ _ h => h
          case ff12T2 => kernel_rfl
          case rr12T2 => kernel_rfl
          case hw12T2 => rfl
          try simp only [Act.put, List.setIfInBounds_toArray, List.set_cons_zero, List.set_cons_succ]
          refine wpAnyH_take (i := 13) (oi := ?oi13T2) (v := undef) ?oi0_13T2 (by kernel_rfl) ?ff13T2 ?rr13T2 ?hq13T2 (Or.inr ⟨?hw13T2, rfl⟩) (by assumption) ?rest13T2
          case oi0_13T2 =>
            conv =>
              lhs
              whnf
              arg 1
              whnf
          case hq13T2 => exact fun _ _ _ h => h
          case ff13T2 => kernel_rfl
          case rr13T2 => kernel_rfl
          case hw13T2 => rfl
          try simp only [Act.put, List.setIfInBounds_toArray, List.set_cons_zero, List.set_cons_succ]
          refine wpAnyH_take (i := 14) (oi := ?oi14T2) (v := undef) ?oi0_14T2 (by kernel_rfl) ?ff14T2 ?rr14T2 ?hq14T2 (Or.inr ⟨?hw14T2, rfl⟩) (by assumption) ?rest14T2
          case oi0_14T2 =>
            conv =>
              lhs
              whnf
              arg 1
              whnf
          case hq14T2 => exact fun _ _ _ h => h
          case ff14T2 => kernel_rfl
          case rr14T2 => kernel_rfl
          case hw14T2 => rfl
          try simp only [Act.put, List.setIfInBounds_toArray, List.set_cons_zero, List.set_cons_succ]
          refine wpAnyH_ready (rs := [15]) (by kernel_rfl) (by simp) (AllReadyH.cons (o := ?oi15T2) ?oi0_15T2 (fun K hK => ?_) AllReadyH.nil)
          case oi0_15T2 =>
            conv =>
              lhs
              whnf
              arg 1
              whnf
          rw [if_neg (by first | (simp [Region.wanted, yielded]; done) | (simp [Region.wanted, yielded]; exact fun h => nomatch (show (none : Option Bool) = some true from h)))]
          refine hK.out _ _ (by assumption) (fun _ => ?_)
          clear hK K
          try simp only [Act.put, List.setIfInBounds_toArray, List.set_cons_zero, List.set_cons_succ]
          refine wpAnyH_take (i := 16) (oi := ?oi16T2) (v := undef) ?oi0_16T2 (by kernel_rfl) ?ff16T2 ?rr16T2 ?hq16T2 (Or.inr ⟨?hw16T2, rfl⟩) (by assumption) ?rest16T2
          case oi0_16T2 =>
            conv =>
              lhs
              whnf
              arg 1
              whnf
          case hq16T2 => exact fun _ _ _ h => h
          case ff16T2 => kernel_rfl
          case rr16T2 => kernel_rfl
          case hw16T2 => rfl
          try simp only [Act.put, List.setIfInBounds_toArray, List.set_cons_zero, List.set_cons_succ]
          refine wpAnyH_take (i := 17) (oi := ?oi17T2) (v := ?v17T2) ?oi0_17T2 (by kernel_rfl) ?ff17T2 ?rr17T2 ?hq17T2 (Or.inl ⟨?hw17T2, ?hy17T2⟩) (by assumption) ?rest17T2
          case oi0_17T2 =>
            conv =>
              lhs
              whnf
              arg 1
              whnf
          case hq17T2 => exact fun _ _ _ h => h
          case ff17T2 => kernel_rfl
          case rr17T2 => kernel_rfl
          case hw17T2 => rfl
          case hy17T2 =>
            intro w hSw
            (try dsimp only at hSw)
            first
            | (go_simp; done)
            | (go_simp; with_reducible rfl)
          try simp only [Act.put, List.setIfInBounds_toArray, List.set_cons_zero, List.set_cons_succ]
          refine wpAnyH_take (i := 18) (oi := ?oi18T2) (v := ?v18T2) ?oi0_18T2 (by kernel_rfl) ?ff18T2 ?rr18T2 ?hq18T2 (Or.inl ⟨?hw18T2, ?hy18T2⟩) (by assumption) ?rest18T2
          case oi0_18T2 =>
            conv =>
              lhs
              whnf
              arg 1
              whnf
          case hq18T2 => exact fun _ _ _ h => h
          case ff18T2 => kernel_rfl
          case rr18T2 => kernel_rfl
          case hw18T2 => rfl
          case hy18T2 =>
            intro w hSw
            (try dsimp only at hSw)
            first
            | (go_simp; done)
            | (go_simp; with_reducible rfl)
          try simp only [Act.put, List.setIfInBounds_toArray, List.set_cons_zero, List.set_cons_succ]
          refine wpAnyH_done (by kernel_rfl) ?_ _
          have UX := hide hHeld.2.2.2
          clear hHeld
          go_wp2_with fail
          go_roundw
          case rel => exact ⟨1, by omega, by go_num, UX, fun j hj => by
            obtain rfl : j = 0 := by omega
            exact (spOk_zero HS.out).2 (of_decide_eq_true HQ.out)⟩
          case measure => simp [intOf] <;> omega
        · obtain ⟨m, hmk⟩ : ∃ m, m + 1 = k := ⟨k - 1, by omega⟩
          obtain ⟨p, hp⟩ : ∃ p, l[m]? = some p := ⟨_, List.getElem?_eq_getElem (by have := HZ.out; omega)⟩
          have HP := hide hp
          have HMK := hide hmk
          have z0 := (HPC.out m p hp _ UB.out).1
          have z1 := (HPC.out m p hp _ UB.out).2
          have hw1 : IntKind.i64.wrap ((k : Int) - 1) = (m : Int) := by rw [Go.IntWalk.i64_in _ (by omega)]; omega
          have hml : (m : Int) < len := by omega
          have hk0' : 0 < (k : Int) := by omega
          obtain ⟨q2, hq2⟩ : ∃ q, decide (p.to_ ≤ s.fr) = q := ⟨_, rfl⟩
          have FS := fun W => follows_sp p s W
          simp only [hq2] at FS
          have HFS := hide FS
          have HQ2 := hide hq2
          have hst : SpOk n l k ↔ SpIn n s ∧ p.to_ ≤ s.fr := by
            subst hmk
            exact spOk_succ hp HS.out
          have HST := hide hst
          have HLK := hide hlk
          clear hp hmk hq2 FS hst hlk
          cases q2 with
          | false =>
            obtain rfl : r = false := NO.out (p.to_ ≤ s.fr) (fun h => (HST.out.1 (HLK.out h)).2) (of_decide_eq_false HQ2.out)
            go_wp2_with fail
            refine wp_region_held_drew (S := (fun w' => w'.cell? ⟨wo.heap.size, 0, none⟩ = some (.int .i64 s.fr) ∧ w'.cell? ⟨wo.heap.size, 1, none⟩ = some (.int .i64 s.to_) ∧ w'.cell? ⟨bi, 2, none⟩ = some (.int .i64 n) ∧ w'.cell? ⟨b, o + m * 2, none⟩ = some (.int .i64 p.fr) ∧ w'.cell? ⟨b, o + m * 2 + 1, none⟩ = some (.int .i64 p.to_) ∧ Upd [] w w')) (by kernel_rfl) (by exact ⟨x0, x1, y2, z0, z1, UB.out.drew⟩) (fun hHeld => ?_)
            refine wpAnyH_take (i := 0) (oi := ?oi0T3) (v := ?v0T3) ?oi0_0T3 (by kernel_rfl) ?ff0T3 ?rr0T3 ?hq0T3 (Or.inl ⟨?hw0T3, ?hy0T3⟩) (by assumption) ?rest0T3
            case oi0_0T3 =>
              conv =>
                lhs
                whnf
                arg 1
                whnf
            case hq0T3 => exact fun _ _ _ h => h
            case ff0T3 => kernel_rfl
            case rr0T3 => kernel_rfl
            case hw0T3 => rfl
            case hy0T3 =>
              intro w hSw
              (try dsimp only at hSw)
              first
              | (go_simp; done)
              | (go_simp; with_reducible rfl)
            try simp only [Act.put, List.setIfInBounds_toArray, List.set_cons_zero, List.set_cons_succ]
            refine wpAnyH_take (i := 1) (oi := ?oi1T3) (v := ?v1T3) ?oi0_1T3 (by kernel_rfl) ?ff1T3 ?rr1T3 ?hq1T3 (Or.inl ⟨?hw1T3, ?hy1T3⟩) (by assumption) ?rest1T3
            case oi0_1T3 =>
              conv =>
                lhs
                whnf
                arg 1
                whnf
            case hq1T3 => exact fun _ _ _ h => h
            case ff1T3 => kernel_rfl
            case rr1T3 => kernel_rfl
            case hw1T3 => rfl
            case hy1T3 =>
              intro w hSw
              (try dsimp only at hSw)
              first
              | (go_simp; done)
              | (go_simp; with_reducible rfl)
            try simp only [Act.put, List.setIfInBounds_toArray, List.set_cons_zero, List.set_cons_succ]
            refine wpAnyH_ready (rs := [2]) (by kernel_rfl) (by simp) (AllReadyH.cons (o := ?oi2T3) ?oi0_2T3 (fun K hK => ?_) AllReadyH.nil)
            case oi0_2T3 =>
              conv =>
                lhs
                whnf
                arg 1
                whnf
            go_simp
            obtain ⟨g0, g1, g2, g3, g4, g5⟩ := hHeld
            refine (HRS.out _ g2).mono ?_
            rintro e w' ⟨rfl, u⟩
            (try dsimp only)
            refine hK.out _ _ (by exact ⟨keepc _ _ _ _ u g0, keepc _ _ _ _ u g1, keepc _ _ _ _ u g2, keepc _ _ _ _ u g3, keepc _ _ _ _ u g4, g5.trans u (by simp)⟩) (fun hHeld => ?_)
            clear hK K
            try simp only [Act.put, List.setIfInBounds_toArray, List.set_cons_zero, List.set_cons_succ]
            refine wpAnyH_take (i := 3) (oi := ?oi3T3) (v := ?v3T3) ?oi0_3T3 (by kernel_rfl) ?ff3T3 ?rr3T3 ?hq3T3 (Or.inl ⟨?hw3T3, ?hy3T3⟩) (by assumption) ?rest3T3
            case oi0_3T3 =>
              conv =>
                lhs
                whnf
                arg 1
                whnf
            case hq3T3 => exact fun _ _ _ h => h
            case ff3T3 => kernel_rfl
            case rr3T3 => kernel_rfl
            case hw3T3 => rfl
            case hy3T3 =>
              intro w hSw
              (try dsimp only at hSw)
              first
              | (go_simp; done)
              | (go_simp; with_reducible rfl)
            try simp only [Act.put, List.setIfInBounds_toArray, List.set_cons_zero, List.set_cons_succ]
            refine wpAnyH_take (i := 4) (oi := ?oi4T3) (v := ?v4T3) ?oi0_4T3 (by kernel_rfl) ?ff4T3 ?rr4T3 ?hq4T3 (Or.inl ⟨?hw4T3, ?hy4T3⟩) (by assumption) ?rest4T3
            case oi0_4T3 =>
              conv =>
                lhs
                whnf
                arg 1
                whnf
            case hq4T3 => exact fun _ _ _ h => h
            case ff4T3 => kernel_rfl
            case rr4T3 => kernel_rfl
            case hw4T3 => rfl
            case hy4T3 =>
              intro w hSw
              (try dsimp only at hSw)
              first
              | (go_simp; done)
              | (go_simp; with_reducible rfl)
            try simp only [Act.put, List.setIfInBounds_toArray, List.set_cons_zero, List.set_cons_succ]
            refine wpAnyH_take (i := 5) (oi := ?oi5T3) (v := ?v5T3) ?oi0_5T3 (by kernel_rfl) ?ff5T3 ?rr5T3 ?hq5T3 (Or.inl ⟨?hw5T3, ?hy5T3⟩) (by assumption) ?rest5T3
            case oi0_5T3 =>
              conv =>
                lhs
                whnf
                arg 1
                whnf
            case hq5T3 => exact fun _ _ _ h => h
            case ff5T3 => kernel_rfl
            case rr5T3 => kernel_rfl
            case hw5T3 => rfl
            case hy5T3 =>
              intro w hSw
              (try dsimp only at hSw)
              first
              | (go_simp; done)
              | (go_simp; with_reducible rfl)
            try simp only [Act.put, List.setIfInBounds_toArray, List.set_cons_zero, List.set_cons_succ]
            refine wpAnyH_take (i := 6) (oi := ?oi6T3) (v := ?v6T3) ?oi0_6T3 (by kernel_rfl) ?ff6T3 ?rr6T3 ?hq6T3 (Or.inl ⟨?hw6T3, ?hy6T3⟩) (by assumption) ?rest6T3
            case oi0_6T3 =>
              conv =>
                lhs
                whnf
                arg 1
                whnf
            case hq6T3 => exact fun _ _ _ h => h
            case ff6T3 => kernel_rfl
            case rr6T3 => kernel_rfl
            case hw6T3 => rfl
            case hy6T3 =>
              intro w hSw
              (try dsimp only at hSw)
              first
              | (go_simp; done)
              | (go_simp; with_reducible rfl)
            try simp only [Act.put, List.setIfInBounds_toArray, List.set_cons_zero, List.set_cons_succ]
            refine wpAnyH_take (i := 7) (oi := ?oi7T3) (v := ?v7T3) ?oi0_7T3 (by kernel_rfl) ?ff7T3 ?rr7T3 ?hq7T3 (Or.inl ⟨?hw7T3, ?hy7T3⟩) (by assumption) ?rest7T3
            case oi0_7T3 =>
              conv =>
                lhs
                whnf
                arg 1
                whnf
            case hq7T3 => exact fun _ _ _ h => h
            case ff7T3 => kernel_rfl
            case rr7T3 => kernel_rfl
            case hw7T3 => rfl
            case hy7T3 =>
              intro w hSw
              (try dsimp only at hSw)
              first
              | (go_simp; done)
              | (go_simp; with_reducible rfl)
            try simp only [Act.put, List.setIfInBounds_toArray, List.set_cons_zero, List.set_cons_succ]
            refine wpAnyH_take (i := 8) (oi := ?oi8T3) (v := ?v8T3) ?oi0_8T3 (by kernel_rfl) ?ff8T3 ?rr8T3 ?hq8T3 (Or.inl ⟨?hw8T3, ?hy8T3⟩) (by assumption) ?rest8T3
            case oi0_8T3 =>
              conv =>
                lhs
                whnf
                arg 1
                whnf
            case hq8T3 => exact fun _ _ _ h => h
            case ff8T3 => kernel_rfl
            case rr8T3 => kernel_rfl
            case hw8T3 => rfl
            case hy8T3 =>
              intro w hSw
              (try dsimp only at hSw)
              first
              | (go_simp; done)
              | (go_simp; with_reducible rfl)
            try simp only [Act.put, List.setIfInBounds_toArray, List.set_cons_zero, List.set_cons_succ]
            refine wpAnyH_take (i := 9) (oi := ?oi9T3) (v := ?v9T3) ?oi0_9T3 (by kernel_rfl) ?ff9T3 ?rr9T3 ?hq9T3 (Or.inl ⟨?hw9T3, ?hy9T3⟩) (by assumption) ?rest9T3
            case oi0_9T3 =>
              conv =>
                lhs
                whnf
                arg 1
                whnf
            case hq9T3 => exact fun _ _ _ h => h
            case ff9T3 => kernel_rfl
            case rr9T3 => kernel_rfl
            case hw9T3 => rfl
            case hy9T3 =>
              intro w hSw
              (try dsimp only at hSw)
              first
              | (go_simp; done)
              | (go_simp; with_reducible rfl)
            try simp only [Act.put, List.setIfInBounds_toArray, List.set_cons_zero, List.set_cons_succ]
            refine wpAnyH_take (i := 10) (oi := ?oi10T3) (v := ?v10T3) ?oi0_10T3 (by kernel_rfl) ?ff10T3 ?rr10T3 ?hq10T3 (Or.inl ⟨?hw10T3, ?hy10T3⟩) (by assumption) ?rest10T3
            case oi0_10T3 =>
              conv =>
                lhs
                whnf
                arg 1
                whnf
            case hq10T3 => exact fun _ _ _ h => h
            case ff10T3 => kernel_rfl
            case rr10T3 => kernel_rfl
            case hw10T3 => rfl
            case hy10T3 =>
              intro w hSw
              (try dsimp only at hSw)
              first
              | (go_simp; done)
              | (go_simp; with_reducible rfl)
            try simp only [Act.put, List.setIfInBounds_toArray, List.set_cons_zero, List.set_cons_succ]
            refine wpAnyH_take (i := 11) (oi := ?oi11T3) (v := ?v11T3) ?oi0_11T3 (by kernel_rfl) ?ff11T3 ?rr11T3 ?hq11T3 (Or.inl ⟨?hw11T3, ?hy11T3⟩) (by assumption) ?rest11T3
            case oi0_11T3 =>
              conv =>
                lhs
                whnf
                arg 1
                whnf
            case hq11T3 => exact fun _ _ _ h => h
            case ff11T3 => kernel_rfl
            case rr11T3 => kernel_rfl
            case hw11T3 => rfl
            case hy11T3 =>
              intro w hSw
              (try dsimp only at hSw)
              first
              | (go_simp; done)
              | (go_simp; with_reducible rfl)
            try simp only [Act.put, List.setIfInBounds_toArray, List.set_cons_zero, List.set_cons_succ]
            refine wpAnyH_take (i := 12) (oi := ?oi12T3) (v := ?v12T3) ?oi0_12T3 (by kernel_rfl) ?ff12T3 ?rr12T3 ?hq12T3 (Or.inl ⟨?hw12T3, ?hy12T3⟩) (by assumption) ?rest12T3
            case oi0_12T3 =>
              conv =>
                lhs
                whnf
                arg 1
                whnf
            case hq12T3 => exact fun _ _ _ h => h
            case ff12T3 => kernel_rfl
            case rr12T3 => kernel_rfl
            case hw12T3 => rfl
            case hy12T3 =>
              intro w hSw
              (try dsimp only at hSw)
              first
              | (go_simp; done)
              | (go_simp; with_reducible rfl)
            try simp only [Act.put, List.setIfInBounds_toArray, List.set_cons_zero, List.set_cons_succ]
            refine wpAnyH_take (i := 13) (oi := ?oi13T3) (v := ?v13T3) ?oi0_13T3 (by kernel_rfl) ?ff13T3 ?rr13T3 ?hq13T3 (Or.inl ⟨?hw13T3, ?hy13T3⟩) (by assumption) ?rest13T3
            case oi0_13T3 =>
              conv =>
                lhs
                whnf
                arg 1
                whnf
            case hq13T3 => exact fun _ _ _ h => h
            case ff13T3 => kernel_rfl
            case rr13T3 => kernel_rfl
            case hw13T3 => rfl
            case hy13T3 =>
              intro w hSw
              (try dsimp only at hSw)
              first
              | (go_simp; done)
              | (go_simp; with_reducible rfl)
            try simp only [Act.put, List.setIfInBounds_toArray, List.set_cons_zero, List.set_cons_succ]
            refine wpAnyH_take (i := 14) (oi := ?oi14T3) (v := ?v14T3) ?oi0_14T3 (by kernel_rfl) ?ff14T3 ?rr14T3 ?hq14T3 (Or.inl ⟨?hw14T3, ?hy14T3⟩) (by assumption) ?rest14T3
            case oi0_14T3 =>
              conv =>
                lhs
                whnf
                arg 1
                whnf
            case hq14T3 => exact fun _ _ _ h => h
            case ff14T3 => kernel_rfl
            case rr14T3 => kernel_rfl
            case hw14T3 => rfl
            case hy14T3 =>
              intro w hSw
              (try dsimp only at hSw)
              first
              | (go_simp; done)
              | (go_simp; with_reducible rfl)
            try simp only [Act.put, List.setIfInBounds_toArray, List.set_cons_zero, List.set_cons_succ]
            refine wpAnyH_ready (rs := [15]) (by kernel_rfl) (by simp) (AllReadyH.cons (o := ?oi15T3) ?oi0_15T3 (fun K hK => ?_) AllReadyH.nil)
            case oi0_15T3 =>
              conv =>
                lhs
                whnf
                arg 1
                whnf
            go_simp
            obtain ⟨g0, g1, g2, g3, g4, g5⟩ := hHeld
            refine (HFS.out _).mono ?_
            rintro e w' ⟨rfl, u⟩
            (try dsimp only)
            refine hK.out _ _ (by exact ⟨keepc _ _ _ _ u g0, keepc _ _ _ _ u g1, keepc _ _ _ _ u g2, keepc _ _ _ _ u g3, keepc _ _ _ _ u g4, g5.trans u (by simp)⟩) (fun hHeld => ?_)
            clear hK K
            try simp only [Act.put, List.setIfInBounds_toArray, List.set_cons_zero, List.set_cons_succ]
            refine wpAnyH_take (i := 16) (oi := ?oi16T3) (v := ?v16T3) ?oi0_16T3 (by kernel_rfl) ?ff16T3 ?rr16T3 ?hq16T3 (Or.inl ⟨?hw16T3, ?hy16T3⟩) (by assumption) ?rest16T3
            case oi0_16T3 =>
              conv =>
                lhs
                whnf
                arg 1
                whnf
            case hq16T3 => exact fun _ _ _ h => h
            case ff16T3 => kernel_rfl
            case rr16T3 => kernel_rfl
            case hw16T3 => rfl
            case hy16T3 =>
              intro w hSw
              (try dsimp only at hSw)
              first
              | (go_simp; done)
              | (go_simp; with_reducible rfl)
            try simp only [Act.put, List.setIfInBounds_toArray, List.set_cons_zero, List.set_cons_succ]
            refine wpAnyH_take (i := 17) (oi := ?oi17T3) (v := ?v17T3) ?oi0_17T3 (by kernel_rfl) ?ff17T3 ?rr17T3 ?hq17T3 (Or.inl ⟨?hw17T3, ?hy17T3⟩) (by assumption) ?rest17T3
            case oi0_17T3 =>
              conv =>
                lhs
                whnf
                arg 1
                whnf
            case hq17T3 => exact fun _ _ _ h => h
            case ff17T3 => kernel_rfl
            case rr17T3 => kernel_rfl
            case hw17T3 => rfl
            case hy17T3 =>
              intro w hSw
              (try dsimp only at hSw)
              first
              | (go_simp; done)
              | (go_simp; with_reducible rfl)
            try simp only [Act.put, List.setIfInBounds_toArray, List.set_cons_zero, List.set_cons_succ]
            refine wpAnyH_take (i := 18) (oi := ?oi18T3) (v := ?v18T3) ?oi0_18T3 (by kernel_rfl) ?ff18T3 ?rr18T3 ?hq18T3 (Or.inl ⟨?hw18T3, ?hy18T3⟩) (by assumption) ?rest18T3
            case oi0_18T3 =>
              conv =>
                lhs
                whnf
                arg 1
                whnf
            case hq18T3 => exact fun _ _ _ h => h
            case ff18T3 => kernel_rfl
            case rr18T3 => kernel_rfl
            case hw18T3 => rfl
            case hy18T3 =>
              intro w hSw
              (try dsimp only at hSw)
              first
              | (go_simp; done)
              | (go_simp; with_reducible rfl)
            try simp only [Act.put, List.setIfInBounds_toArray, List.set_cons_zero, List.set_cons_succ]
            refine wpAnyH_done (by kernel_rfl) ?_ _
            have UX := hide hHeld.2.2.2.2.2
            clear hHeld
            go_wp2_with fail
            go_ret
            exact ⟨rfl, UX.out⟩
          | true =>
            go_wp2_with fail
            refine wp_region_held_drew (S := (fun w' => w'.cell? ⟨wo.heap.size, 0, none⟩ = some (.int .i64 s.fr) ∧ w'.cell? ⟨wo.heap.size, 1, none⟩ = some (.int .i64 s.to_) ∧ w'.cell? ⟨bi, 2, none⟩ = some (.int .i64 n) ∧ w'.cell? ⟨b, o + m * 2, none⟩ = some (.int .i64 p.fr) ∧ w'.cell? ⟨b, o + m * 2 + 1, none⟩ = some (.int .i64 p.to_) ∧ Upd [] w w')) (by kernel_rfl) (by exact ⟨x0, x1, y2, z0, z1, UB.out.drew⟩) (fun hHeld => ?_)
            refine wpAnyH_take (i := 0) (oi := ?oi0T4) (v := ?v0T4) ?oi0_0T4 (by kernel_rfl) ?ff0T4 ?rr0T4 ?hq0T4 (Or.inl ⟨?hw0T4, ?hy0T4⟩) (by assumption) ?rest0T4
            case oi0_0T4 =>
              conv =>
                lhs
                whnf
                arg 1
                whnf
            case hq0T4 => exact fun _ _ _ h => h
            case ff0T4 => kernel_rfl
            case rr0T4 => kernel_rfl
            case hw0T4 => rfl
            case hy0T4 =>
              intro w hSw
              (try dsimp only at hSw)
              first
              | (go_simp; done)
              | (go_simp; with_reducible rfl)
            try simp only [Act.put, List.setIfInBounds_toArray, List.set_cons_zero, List.set_cons_succ]
            refine wpAnyH_take (i := 1) (oi := ?oi1T4) (v := ?v1T4) ?oi0_1T4 (by kernel_rfl) ?ff1T4 ?rr1T4 ?hq1T4 (Or.inl ⟨?hw1T4, ?hy1T4⟩) (by assumption) ?rest1T4
            case oi0_1T4 =>
              conv =>
                lhs
                whnf
                arg 1
                whnf
            case hq1T4 => exact fun _ _ _ h => h
            case ff1T4 => kernel_rfl
            case rr1T4 => kernel_rfl
            case hw1T4 => rfl
            case hy1T4 =>
              intro w hSw
              (try dsimp only at hSw)
              first
              | (go_simp; done)
              | (go_simp; with_reducible rfl)
            try simp only [Act.put, List.setIfInBounds_toArray, List.set_cons_zero, List.set_cons_succ]
            refine wpAnyH_ready (rs := [2]) (by kernel_rfl) (by simp) (AllReadyH.cons (o := ?oi2T4) ?oi0_2T4 (fun K hK => ?_) AllReadyH.nil)
            case oi0_2T4 =>
              conv =>
                lhs
                whnf
                arg 1
                whnf
            go_simp
            obtain ⟨g0, g1, g2, g3, g4, g5⟩ := hHeld
            refine (HRS.out _ g2).mono ?_
            rintro e w' ⟨rfl, u⟩
            (try dsimp only)
            refine hK.out _ _ (by exact ⟨keepc _ _ _ _ u g0, keepc _ _ _ _ u g1, keepc _ _ _ _ u g2, keepc _ _ _ _ u g3, keepc _ _ _ _ u g4, g5.trans u (by simp)⟩) (fun hHeld => ?_)
            clear hK K
            try simp only [Act.put, List.setIfInBounds_toArray, List.set_cons_zero, List.set_cons_succ]
            refine wpAnyH_take (i := 3) (oi := ?oi3T4) (v := ?v3T4) ?oi0_3T4 (by kernel_rfl) ?ff3T4 ?rr3T4 ?hq3T4 (Or.inl ⟨?hw3T4, ?hy3T4⟩) (by assumption) ?rest3T4
            case oi0_3T4 =>
              conv =>
                lhs
                whnf
                arg 1
                whnf
            case hq3T4 => exact fun _ _ _ h => h
            case ff3T4 => kernel_rfl
            case rr3T4 => kernel_rfl
            case hw3T4 => rfl
            case hy3T4 =>
              intro w hSw
              (try dsimp only at hSw)
              first
              | (go_simp; done)
              | (go_simp; with_reducible rfl)
            try simp only [Act.put, List.setIfInBounds_toArray, List.set_cons_zero, List.set_cons_succ]
            refine wpAnyH_take (i := 4) (oi := ?oi4T4) (v := ?v4T4) ?oi0_4T4 (by kernel_rfl) ?ff4T4 ?rr4T4 ?hq4T4 (Or.inl ⟨?hw4T4, ?hy4T4⟩) (by assumption) ?rest4T4
            case oi0_4T4 =>
              conv =>
                lhs
                whnf
                arg 1
                whnf
            case hq4T4 => exact fun _ _ _ h => h
            case ff4T4 => kernel_rfl
            case rr4T4 => kernel_rfl
            case hw4T4 => rfl
            case hy4T4 =>
              intro w hSw
              (try dsimp only at hSw)
              first
              | (go_simp; done)
              | (go_simp; with_reducible rfl)
            try simp only [Act.put, List.setIfInBounds_toArray, List.set_cons_zero, List.set_cons_succ]
            refine wpAnyH_take (i := 5) (oi := ?oi5T4) (v := ?v5T4) ?oi0_5T4 (by kernel_rfl) ?ff5T4 ?rr5T4 ?hq5T4 (Or.inl ⟨?hw5T4, ?hy5T4⟩) (by assumption) ?rest5T4
            case oi0_5T4 =>
              conv =>
                lhs
                whnf
                arg 1
                whnf
            case hq5T4 => exact fun _ _ _ h => h
            case ff5T4 => kernel_rfl
            case rr5T4 => kernel_rfl
            case hw5T4 => rfl
            case hy5T4 =>
              intro w hSw
              (try dsimp only at hSw)
              first
              | (go_simp; done)
              | (go_simp; with_reducible rfl)
            try simp only [Act.put, List.setIfInBounds_toArray, List.set_cons_zero, List.set_cons_succ]
            refine wpAnyH_take (i := 6) (oi := ?oi6T4) (v := ?v6T4) ?oi0_6T4 (by kernel_rfl) ?ff6T4 ?rr6T4 ?hq6T4 (Or.inl ⟨?hw6T4, ?hy6T4⟩) (by assumption) ?rest6T4
            case oi0_6T4 =>
              conv =>
                lhs
                whnf
                arg 1
                whnf
            case hq6T4 => exact fun _ _ _ h => h
            case ff6T4 => kernel_rfl
            case rr6T4 => kernel_rfl
            case hw6T4 => rfl
            case hy6T4 =>
              intro w hSw
              (try dsimp only at hSw)
              first
              | (go_simp; done)
              | (go_simp; with_reducible rfl)
            try simp only [Act.put, List.setIfInBounds_toArray, List.set_cons_zero, List.set_cons_succ]
            refine wpAnyH_take (i := 7) (oi := ?oi7T4) (v := ?v7T4) ?oi0_7T4 (by kernel_rfl) ?ff7T4 ?rr7T4 ?hq7T4 (Or.inl ⟨?hw7T4, ?hy7T4⟩) (by assumption) ?rest7T4
            case oi0_7T4 =>
              conv =>
                lhs
                whnf
                arg 1
                whnf
            case hq7T4 => exact fun _ _ _ h => h
            case ff7T4 => kernel_rfl
            case rr7T4 => kernel_rfl
            case hw7T4 => rfl
            case hy7T4 =>
              intro w hSw
              (try dsimp only at hSw)
              first
              | (go_simp; done)
              | (go_simp; with_reducible rfl)
            try simp only [Act.put, List.setIfInBounds_toArray, List.set_cons_zero, List.set_cons_succ]
            refine wpAnyH_take (i := 8) (oi := ?oi8T4) (v := ?v8T4) ?oi0_8T4 (by kernel_rfl) ?ff8T4 ?rr8T4 ?hq8T4 (Or.inl ⟨?hw8T4, ?hy8T4⟩) (by assumption) ?rest8T4
            case oi0_8T4 =>
              conv =>
                lhs
                whnf
                arg 1
                whnf
            case hq8T4 => exact fun _ _ _ h => h
            case ff8T4 => kernel_rfl
            case rr8T4 => kernel_rfl
            case hw8T4 => rfl
            case hy8T4 =>
              intro w hSw
              (try dsimp only at hSw)
              first
              | (go_simp; done)
              | (go_simp; with_reducible rfl)
            try simp only [Act.put, List.setIfInBounds_toArray, List.set_cons_zero, List.set_cons_succ]
            refine wpAnyH_take (i := 9) (oi := ?oi9T4) (v := ?v9T4) ?oi0_9T4 (by kernel_rfl) ?ff9T4 ?rr9T4 ?hq9T4 (Or.inl ⟨?hw9T4, ?hy9T4⟩) (by assumption) ?rest9T4
            case oi0_9T4 =>
              conv =>
                lhs
                whnf
                arg 1
                whnf
            case hq9T4 => exact fun _ _ _ h => h
            case ff9T4 => kernel_rfl
            case rr9T4 => kernel_rfl
            case hw9T4 => rfl
            case hy9T4 =>
              intro w hSw
              (try dsimp only at hSw)
              first
              | (go_simp; done)
              | (go_simp; with_reducible rfl)
            try simp only [Act.put, List.setIfInBounds_toArray, List.set_cons_zero, List.set_cons_succ]
            refine wpAnyH_take (i := 10) (oi := ?oi10T4) (v := ?v10T4) ?oi0_10T4 (by kernel_rfl) ?ff10T4 ?rr10T4 ?hq10T4 (Or.inl ⟨?hw10T4, ?hy10T4⟩) (by assumption) ?rest10T4
            case oi0_10T4 =>
              conv =>
                lhs
                whnf
                arg 1
                whnf
            case hq10T4 => exact fun _ _ _ h => h
            case ff10T4 => kernel_rfl
            case rr10T4 => kernel_rfl
            case hw10T4 => rfl
            case hy10T4 =>
              intro w hSw
              (try dsimp only at hSw)
              first
              | (go_simp; done)
              | (go_simp; with_reducible rfl)
            try simp only [Act.put, List.setIfInBounds_toArray, List.set_cons_zero, List.set_cons_succ]
            refine wpAnyH_take (i := 11) (oi := ?oi11T4) (v := ?v11T4) ?oi0_11T4 (by kernel_rfl) ?ff11T4 ?rr11T4 ?hq11T4 (Or.inl ⟨?hw11T4, ?hy11T4⟩) (by assumption) ?rest11T4
            case oi0_11T4 =>
              conv =>
                lhs
                whnf
                arg 1
                whnf
            case hq11T4 => exact fun _ _ _ h => h
            case ff11T4 => kernel_rfl
            case rr11T4 => kernel_rfl
            case hw11T4 => rfl
            case hy11T4 =>
              intro w hSw
              (try dsimp only at hSw)
              first
              | (go_simp; done)
              | (go_simp; with_reducible rfl)
            try simp only [Act.put, List.setIfInBounds_toArray, List.set_cons_zero, List.set_cons_succ]
            refine wpAnyH_take (i := 12) (oi := ?oi12T4) (v := ?v12T4) ?oi0_12T4 (by kernel_rfl) ?ff12T4 ?rr12T4 ?hq12T4 (Or.inl ⟨?hw12T4, ?hy12T4⟩) (by assumption) ?rest12T4
            case oi0_12T4 =>
              conv =>
                lhs
                whnf
                arg 1
                whnf
            case hq12T4 => exact fun _ _ _ h => h
            case ff12T4 => kernel_rfl
            case rr12T4 => kernel_rfl
            case hw12T4 => rfl
            case hy12T4 =>
              intro w hSw
              (try dsimp only at hSw)
              first
              | (go_simp; done)
              | (go_simp; with_reducible rfl)
            try simp only [Act.put, List.setIfInBounds_toArray, List.set_cons_zero, List.set_cons_succ]
            refine wpAnyH_take (i := 13) (oi := ?oi13T4) (v := ?v13T4) ?oi0_13T4 (by kernel_rfl) ?ff13T4 ?rr13T4 ?hq13T4 (Or.inl ⟨?hw13T4, ?hy13T4⟩) (by assumption) ?rest13T4
            case oi0_13T4 =>
              conv =>
                lhs
                whnf
                arg 1
                whnf
            case hq13T4 => exact fun _ _ _ h => h
            case ff13T4 => kernel_rfl
            case rr13T4 => kernel_rfl
            case hw13T4 => rfl
            case hy13T4 =>
              intro w hSw
              (try dsimp only at hSw)
              first
              | (go_simp; done)
              | (go_simp; with_reducible rfl)
            try simp only [Act.put, List.setIfInBounds_toArray, List.set_cons_zero, List.set_cons_succ]
            refine wpAnyH_take (i := 14) (oi := ?oi14T4) (v := ?v14T4) ?oi0_14T4 (by kernel_rfl) ?ff14T4 ?rr14T4 ?hq14T4 (Or.inl ⟨?hw14T4, ?hy14T4⟩) (by assumption) ?rest14T4
            case oi0_14T4 =>
              conv =>
                lhs
                whnf
                arg 1
                whnf
            case hq14T4 => exact fun _ _ _ h => h
            case ff14T4 => kernel_rfl
            case rr14T4 => kernel_rfl
            case hw14T4 => rfl
            case hy14T4 =>
              intro w hSw
              (try dsimp only at hSw)
              first
              | (go_simp; done)
              | (go_simp; with_reducible rfl)
            try simp only [Act.put, List.setIfInBounds_toArray, List.set_cons_zero, List.set_cons_succ]
            refine wpAnyH_ready (rs := [15]) (by kernel_rfl) (by simp) (AllReadyH.cons (o := ?oi15T4) ?oi0_15T4 (fun K hK => ?_) AllReadyH.nil)
            case oi0_15T4 =>
              conv =>
                lhs
                whnf
                arg 1
                whnf
            go_simp
            obtain ⟨g0, g1, g2, g3, g4, g5⟩ := hHeld
            refine (HFS.out _).mono ?_
            rintro e w' ⟨rfl, u⟩
            (try dsimp only)
            refine hK.out _ _ (by exact ⟨keepc _ _ _ _ u g0, keepc _ _ _ _ u g1, keepc _ _ _ _ u g2, keepc _ _ _ _ u g3, keepc _ _ _ _ u g4, g5.trans u (by simp)⟩) (fun hHeld => ?_)
            clear hK K
            try simp only [Act.put, List.setIfInBounds_toArray, List.set_cons_zero, List.set_cons_succ]
            refine wpAnyH_take (i := 16) (oi := ?oi16T4) (v := ?v16T4) ?oi0_16T4 (by kernel_rfl) ?ff16T4 ?rr16T4 ?hq16T4 (Or.inl ⟨?hw16T4, ?hy16T4⟩) (by assumption) ?rest16T4
            case oi0_16T4 =>
              conv =>
                lhs
                whnf
                arg 1
                whnf
            case hq16T4 => exact fun _ _ _ h => h
            case ff16T4 => kernel_rfl
            case rr16T4 => kernel_rfl
            case hw16T4 => rfl
            case hy16T4 =>
              intro w hSw
              (try dsimp only at hSw)
              first
              | (go_simp; done)
              | (go_simp; with_reducible rfl)
            try simp only [Act.put, List.setIfInBounds_toArray, List.set_cons_zero, List.set_cons_succ]
            refine wpAnyH_take (i := 17) (oi := ?oi17T4) (v := ?v17T4) ?oi0_17T4 (by kernel_rfl) ?ff17T4 ?rr17T4 ?hq17T4 (Or.inl ⟨?hw17T4, ?hy17T4⟩) (by assumption) ?rest17T4
            case oi0_17T4 =>
              conv =>
                lhs
                whnf
                arg 1
                whnf
            case hq17T4 => exact fun _ _ _ h => h
            case ff17T4 => kernel_rfl
            case rr17T4 => kernel_rfl
            case hw17T4 => rfl
            case hy17T4 =>
              intro w hSw
              (try dsimp only at hSw)
              first
              | (go_simp; done)
              | (go_simp; with_reducible rfl)
            try simp only [Act.put, List.setIfInBounds_toArray, List.set_cons_zero, List.set_cons_succ]
            refine wpAnyH_take (i := 18) (oi := ?oi18T4) (v := ?v18T4) ?oi0_18T4 (by kernel_rfl) ?ff18T4 ?rr18T4 ?hq18T4 (Or.inl ⟨?hw18T4, ?hy18T4⟩) (by assumption) ?rest18T4
            case oi0_18T4 =>
              conv =>
                lhs
                whnf
                arg 1
                whnf
            case hq18T4 => exact fun _ _ _ h => h
            case ff18T4 => kernel_rfl
            case rr18T4 => kernel_rfl
            case hw18T4 => rfl
            case hy18T4 =>
              intro w hSw
              (try dsimp only at hSw)
              first
              | (go_simp; done)
              | (go_simp; with_reducible rfl)
            try simp only [Act.put, List.setIfInBounds_toArray, List.set_cons_zero, List.set_cons_succ]
            refine wpAnyH_done (by kernel_rfl) ?_ _
            have UX := hide hHeld.2.2.2.2.2
            clear hHeld
            go_wp2_with fail
            go_roundw
            case rel => exact ⟨k + 1, by omega, by go_num, UX, fun j hj => by
              rcases Nat.lt_or_ge j k with h | h
              · exact hok.out j h
              · obtain rfl : j = k := by omega
                exact HST.out.2 ⟨of_decide_eq_true HQ.out, of_decide_eq_true HQ2.out⟩⟩
            case measure => simp [intOf] <;> omega
    · obtain rfl : k = len := by omega
      have hki : ¬ (k : Int) < k := by omega
      by_cases h4 : k ≤ 4
      · obtain rfl : r = true := by
          rw [← HR.out]
          exact decide_eq_true ⟨fun j hj => hok.out j (by have := HZ.out; omega), by have := HZ.out; omega⟩
        have h4' : (k : Int) ≤ 4 := by omega
        go_wp2_with fail
        go_ret
        exact ⟨rfl, hu.out⟩
      · obtain rfl : r = false := NO.out (l.length ≤ 4) (fun h => h.2) (by have := HZ.out; omega)
        have h4' : decide ((k : Int) ≤ 4) = false := decide_eq_false (by omega)
        have h4'' : (4 : Int) < k := by omega
        go_wp2_with fail
        go_ret
        exact ⟨rfl, hu.out⟩
end Go.Proofs.Yteehjciepccomaa
