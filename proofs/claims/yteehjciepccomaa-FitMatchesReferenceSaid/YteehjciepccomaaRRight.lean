/-
  The reference's check of pieces: right, Valid, away.
-/
import Derived.Test.YteehjciepccomaaFValid
import Derived.Deep.RegionHeld3
namespace Go.Proofs.Yteehjciepccomaa
open Go.RowKit
set_option maxRecDepth 100000
set_option maxHeartbeats 20000000

theorem keep_cell (w W : World) (ad : Addr) (v : Value) (hu : Upd [] w W) (hc : w.cell? ad = some v) : W.cell? ad = some v := (hu.cell (World.block_lt_of_cell? _ _ hc) (by simp)).trans hc

theorem right_any {n₀ : Nat} (a : Option Addr) (c : Nat) (l : List Pc) (w : World) (hI : PcsAt n₀ w a l) (hn : n₀ ≤ w.heap.size) (hm : l.length ≤ maxLen) :
    Calls Try.prog 47 #[.slice a l.length c] w fun e w' => e = .returned (.bool (decide (l.length ≤ 20 ∧ ∀ p ∈ l, PcOk p))) ∧ Upd [] w w' := by
  have HI := hide hI
  have hm' : l.length ≤ 9223372036854775807 := by unfold maxLen at hm; omega
  obtain ⟨n, hz⟩ : ∃ n, l.length = n := ⟨_, rfl⟩
  obtain ⟨r, hr⟩ : ∃ r, decide (l.length ≤ 20 ∧ ∀ p ∈ l, PcOk p) = r := ⟨_, rfl⟩
  rw [hr]
  rw [hz] at hm' ⊢
  have HZ := hide hz
  have HR := hide hr
  have NO := hide (show ∀ q : Prop, ((l.length ≤ 20 ∧ ∀ p ∈ l, PcOk p) → q) → ¬ q → r = false from fun q h1 h2 => by
    rw [← hr]
    exact decide_eq_false fun h => h2 (h1 h))
  clear hI hm hr hz
  go_enter Try.func47, Try.ntmps47
  by_cases h20 : n ≤ 20
  case neg =>
    obtain rfl : r = false := NO.out _ (fun h => h.1) (by rw [HZ.out]; exact h20)
    have h20' : (20 : Int) < n := by omega
    go_wp2_with fail
    go_ret
    exact ⟨rfl, Upd.refl _ _⟩
  have h20' : ¬ (20 : Int) < n := by omega
  go_wp2_with fail
  go_loopw [3] (fun s3 wr => ∃ i : Nat, i ≤ n ∧ s3 = .int .i64 i ∧ Hid (Upd [] w wr) ∧ Hid (∀ j p, j < i → l[j]? = some p → PcOk p)) (fun i _ => n - (intOf i).toNat)
  case atStart => exact ⟨0, Nat.zero_le _, rfl, Upd.refl _ _, fun j p hj => by omega⟩
  case round =>
    obtain ⟨i, hi, rfl, hu, hok⟩ := hrel
    obtain ⟨wo, rfl⟩ : ∃ wo : World, wo = wr := ⟨_, rfl⟩
    by_cases hlt : i < n
    · obtain ⟨p, hp⟩ : ∃ p, l[i]? = some p := ⟨_, List.getElem?_eq_getElem (by rw [HZ.out]; exact hlt)⟩
      obtain ⟨b, o, pa, pn, pc, ea, hb, hI1, hpm, c0, c1, c2⟩ := (HI.out.upd hu.out hn (by simp)) i p hp
      subst ea
      have HP := hide hp
      have HU1 := hide (hu.out.alloc (.cells #[.slice pa pn pc, .int .i64 p.want, .int .i64 p.join] 50))
      have L1 := Blk.new wo 50 [.slice pa pn pc, .int .i64 p.want, .int .i64 p.join]
      have k0 := L1.cell 0
      have k1 := L1.cell 1
      have k2 := L1.cell 2
      have HPN := hide hI1.form.1
      have HPC := hide (show ∀ j z, p.lens[j]? = some z → ∃ b o, pa = some ⟨b, o, none⟩ ∧ (wo.alloc (.cells #[.slice pa pn pc, .int .i64 p.want, .int .i64 p.join] 50)).cell? ⟨b, o + j, none⟩ = some (.int .i64 z) from fun j z hz => by
        obtain ⟨b2, o2, e2, h2, h3⟩ := hI1.form.2 j z hz
        exact ⟨b2, o2, e2, keep_cell _ _ _ _ ((Upd.refl [] wo).alloc _) h3⟩)
      have K0 := hide k0
      have NOP := hide (show ∀ q : Prop, (PcOk p → q) → ¬ q → r = false from fun q h1 h2 => NO.out _ (fun h => h1 (h.2 p (List.mem_of_getElem? HP.out))) h2)
      have hpm' : pn ≤ 9223372036854775807 := by have := HPN.out; unfold maxLen at hpm; omega
      clear hp hb hI1 hpm L1
      by_cases d1 : pn < 1
      · obtain rfl : r = false := NOP.out _ (fun h => h.1.1) (by have := HPN.out; omega)
        have d1' : (pn : Int) < 1 := by omega
        clear hpm'
        go_wp2_with fail
        go_ret
        exact ⟨rfl, HU1.out⟩
      have d1' : ¬ (pn : Int) < 1 := by omega
      by_cases d2 : 8 < pn
      · obtain rfl : r = false := NOP.out _ (fun h => h.1.2) (by have := HPN.out; omega)
        have d2' : (8 : Int) < pn := by omega
        go_wp2_with fail
        go_ret
        exact ⟨rfl, HU1.out⟩
      have d2' : ¬ (8 : Int) < pn := by omega
      by_cases d3 : p.want < 0
      · obtain rfl : r = false := NOP.out _ (fun h => h.2.1.1) (by omega)
        go_wp2_with fail
        go_ret
        exact ⟨rfl, HU1.out⟩
      by_cases d4 : 3600 < p.want
      · obtain rfl : r = false := NOP.out _ (fun h => h.2.1.2) (by omega)
        go_wp2_with fail
        go_ret
        exact ⟨rfl, HU1.out⟩
      by_cases d5 : p.join < -1
      · obtain rfl : r = false := NOP.out _ (fun h => h.2.2.1.1) (by omega)
        go_wp2_with fail
        go_ret
        exact ⟨rfl, HU1.out⟩
      by_cases d6 : 3600 < p.join
      · obtain rfl : r = false := NOP.out _ (fun h => h.2.2.1.2) (by omega)
        go_wp2_with fail
        go_ret
        exact ⟨rfl, HU1.out⟩
      have D := hide (show (1 ≤ p.lens.length ∧ p.lens.length ≤ 8) ∧ (0 ≤ p.want ∧ p.want ≤ 3600) ∧ (-1 ≤ p.join ∧ p.join ≤ 3600) by have := HPN.out; omega)
      go_wp2_with fail
      go_loopw [5] (fun s5 wr2 => ∃ k : Nat, k ≤ pn ∧ s5 = .int .i64 k ∧ Hid (Upd [] (wo.alloc (.cells #[.slice pa pn pc, .int .i64 p.want, .int .i64 p.join] 50)) wr2) ∧ Hid (∀ j, j < k → LenOk p.lens j)) (fun k _ => pn - (intOf k).toNat)
      case atStart => exact ⟨0, Nat.zero_le _, rfl, Upd.refl _ _, fun j hj => by omega⟩
      case round =>
        obtain ⟨k, hk, rfl, hv, hl⟩ := hrel
        have q0 := keep_cell _ _ _ _ hv.out K0.out
        by_cases hkl : k < pn
        · obtain ⟨z, hz⟩ : ∃ z, p.lens[k]? = some z := ⟨_, List.getElem?_eq_getElem (by have := HPN.out; omega)⟩
          obtain ⟨pb, po, eb, hzc⟩ := HPC.out k z hz
          subst eb
          have q1 := keep_cell _ _ _ _ hv.out hzc
          have HZK := hide hz
          have hki : (k : Int) < pn := by omega
          clear hz hzc
          have UD := hide (HU1.out.trans hv.out.drew (by simp))
          by_cases e1 : z < 0
          · obtain rfl : r = false := NOP.out _ (fun h => (h.2.2.2 k (by have := HPN.out; omega)).1.1) (by rw [HZK.out]; simp; omega)
            go_wp2_with fail
            refine wp_region_held_drew (S := (fun w' => w'.cell? ⟨wo.heap.size, 0, none⟩ = some (.slice (some ⟨pb, po, none⟩) pn pc) ∧ w'.cell? ⟨pb, po + k, none⟩ = some (.int .i64 z))) (by kernel_rfl) (by exact ⟨q0, q1⟩) (fun hHeld => ?_)
            refine wpAnyH_take (i := 0) (oi := ?oi0T1) (v := ?v0T1) ?oi0_0T1 (by kernel_rfl) ?ff0T1 ?rr0T1 ?hq0T1 (Or.inl ⟨?hw0T1, ?hy0T1⟩) (by assumption) ?rest0T1
            case oi0_0T1 =>
              conv =>
                lhs
                whnf
                arg 1
                whnf
            case hq0T1 => exact fun _ _ _ h => h
            case ff0T1 => kernel_rfl
            case rr0T1 => kernel_rfl
            case hw0T1 => rfl
            case hy0T1 =>
              intro w hSw
              (try dsimp only at hSw)
              first
              | (go_simp; done)
              | (go_simp; with_reducible rfl)
            try simp only [Act.put, List.setIfInBounds_toArray, List.set_cons_zero, List.set_cons_succ]
            refine wpAnyH_take (i := 1) (oi := ?oi1T1) (v := ?v1T1) ?oi0_1T1 (by kernel_rfl) ?ff1T1 ?rr1T1 ?hq1T1 (Or.inl ⟨?hw1T1, ?hy1T1⟩) (by assumption) ?rest1T1
            case oi0_1T1 =>
              conv =>
                lhs
                whnf
                arg 1
                whnf
            case hq1T1 => exact fun _ _ _ h => h
            case ff1T1 => kernel_rfl
            case rr1T1 => kernel_rfl
            case hw1T1 => rfl
            case hy1T1 =>
              intro w hSw
              (try dsimp only at hSw)
              first
              | (go_simp; done)
              | (go_simp; with_reducible rfl)
            try simp only [Act.put, List.setIfInBounds_toArray, List.set_cons_zero, List.set_cons_succ]
            refine wpAnyH_take (i := 2) (oi := ?oi2T1) (v := ?v2T1) ?oi0_2T1 (by kernel_rfl) ?ff2T1 ?rr2T1 ?hq2T1 (Or.inl ⟨?hw2T1, ?hy2T1⟩) (by assumption) ?rest2T1
            case oi0_2T1 =>
              conv =>
                lhs
                whnf
                arg 1
                whnf
            case hq2T1 => exact fun _ _ _ h => h
            case ff2T1 => kernel_rfl
            case rr2T1 => kernel_rfl
            case hw2T1 => rfl
            case hy2T1 =>
              intro w hSw
              (try dsimp only at hSw)
              first
              | (go_simp; done)
              | (go_simp; with_reducible rfl)
            try simp only [Act.put, List.setIfInBounds_toArray, List.set_cons_zero, List.set_cons_succ]
            refine wpAnyH_take (i := 3) (oi := ?oi3T1) (v := ?v3T1) ?oi0_3T1 (by kernel_rfl) ?ff3T1 ?rr3T1 ?hq3T1 (Or.inl ⟨?hw3T1, ?hy3T1⟩) (by assumption) ?rest3T1
            case oi0_3T1 =>
              conv =>
                lhs
                whnf
                arg 1
                whnf
            case hq3T1 => exact fun _ _ _ h => h
            case ff3T1 => kernel_rfl
            case rr3T1 => kernel_rfl
            case hw3T1 => rfl
            case hy3T1 =>
              intro w hSw
              (try dsimp only at hSw)
              first
              | (go_simp; done)
              | (go_simp; with_reducible rfl)
            try simp only [Act.put, List.setIfInBounds_toArray, List.set_cons_zero, List.set_cons_succ]
            refine wpAnyH_take (i := 4) (oi := ?oi4T1) (v := ?v4T1) ?oi0_4T1 (by kernel_rfl) ?ff4T1 ?rr4T1 ?hq4T1 (Or.inl ⟨?hw4T1, ?hy4T1⟩) (by assumption) ?rest4T1
            case oi0_4T1 =>
              conv =>
                lhs
                whnf
                arg 1
                whnf
            case hq4T1 => exact fun _ _ _ h => h
            case ff4T1 => kernel_rfl
            case rr4T1 => kernel_rfl
            case hw4T1 => rfl
            case hy4T1 =>
              intro w hSw
              (try dsimp only at hSw)
              first
              | (go_simp; done)
              | (go_simp; with_reducible rfl)
            try simp only [Act.put, List.setIfInBounds_toArray, List.set_cons_zero, List.set_cons_succ]
            refine wpAnyH_take (i := 5) (oi := ?oi5T1) (v := ?v5T1) ?oi0_5T1 (by kernel_rfl) ?ff5T1 ?rr5T1 ?hq5T1 (Or.inl ⟨?hw5T1, ?hy5T1⟩) (by assumption) ?rest5T1
            case oi0_5T1 =>
              conv =>
                lhs
                whnf
                arg 1
                whnf
            case hq5T1 => exact fun _ _ _ h => h
            case ff5T1 => kernel_rfl
            case rr5T1 => kernel_rfl
            case hw5T1 => rfl
            case hy5T1 =>
              intro w hSw
              (try dsimp only at hSw)
              first
              | (go_simp; done)
              | (go_simp; with_reducible rfl)
            try simp only [Act.put, List.setIfInBounds_toArray, List.set_cons_zero, List.set_cons_succ]
            refine wpAnyH_take (i := 6) (oi := ?oi6T1) (v := ?v6T1) ?oi0_6T1 (by kernel_rfl) ?ff6T1 ?rr6T1 ?hq6T1 (Or.inl ⟨?hw6T1, ?hy6T1⟩) (by assumption) ?rest6T1
            case oi0_6T1 =>
              conv =>
                lhs
                whnf
                arg 1
                whnf
            case hq6T1 => exact fun _ _ _ h => h
            case ff6T1 => kernel_rfl
            case rr6T1 => kernel_rfl
            case hw6T1 => rfl
            case hy6T1 =>
              intro w hSw
              (try dsimp only at hSw)
              first
              | (go_simp; done)
              | (go_simp; with_reducible rfl)
            try simp only [Act.put, List.setIfInBounds_toArray, List.set_cons_zero, List.set_cons_succ]
            refine wpAnyH_take (i := 7) (oi := ?oi7T1) (v := undef) ?oi0_7T1 (by kernel_rfl) ?ff7T1 ?rr7T1 ?hq7T1 (Or.inr ⟨?hw7T1, rfl⟩) (by assumption) ?rest7T1
            case oi0_7T1 =>
              conv =>
                lhs
                whnf
                arg 1
                whnf
            case hq7T1 => exact fun _ _ _ h => h
            case ff7T1 => kernel_rfl
            case rr7T1 => kernel_rfl
            case hw7T1 => rfl
            try simp only [Act.put, List.setIfInBounds_toArray, List.set_cons_zero, List.set_cons_succ]
            refine wpAnyH_take (i := 8) (oi := ?oi8T1) (v := undef) ?oi0_8T1 (by kernel_rfl) ?ff8T1 ?rr8T1 ?hq8T1 (Or.inr ⟨?hw8T1, rfl⟩) (by assumption) ?rest8T1
            case oi0_8T1 =>
              conv =>
                lhs
                whnf
                arg 1
                whnf
            case hq8T1 => exact fun _ _ _ h => h
            case ff8T1 => kernel_rfl
            case rr8T1 => kernel_rfl
            case hw8T1 => rfl
            try simp only [Act.put, List.setIfInBounds_toArray, List.set_cons_zero, List.set_cons_succ]
            refine wpAnyH_take (i := 9) (oi := ?oi9T1) (v := undef) ?oi0_9T1 (by kernel_rfl) ?ff9T1 ?rr9T1 ?hq9T1 (Or.inr ⟨?hw9T1, rfl⟩) (by assumption) ?rest9T1
            case oi0_9T1 =>
              conv =>
                lhs
                whnf
                arg 1
                whnf
            case hq9T1 => exact fun _ _ _ h => h
            case ff9T1 => kernel_rfl
            case rr9T1 => kernel_rfl
            case hw9T1 => rfl
            try simp only [Act.put, List.setIfInBounds_toArray, List.set_cons_zero, List.set_cons_succ]
            refine wpAnyH_take (i := 10) (oi := ?oi10T1) (v := undef) ?oi0_10T1 (by kernel_rfl) ?ff10T1 ?rr10T1 ?hq10T1 (Or.inr ⟨?hw10T1, rfl⟩) (by assumption) ?rest10T1
            case oi0_10T1 =>
              conv =>
                lhs
                whnf
                arg 1
                whnf
            case hq10T1 => exact fun _ _ _ h => h
            case ff10T1 => kernel_rfl
            case rr10T1 => kernel_rfl
            case hw10T1 => rfl
            try simp only [Act.put, List.setIfInBounds_toArray, List.set_cons_zero, List.set_cons_succ]
            refine wpAnyH_take (i := 11) (oi := ?oi11T1) (v := undef) ?oi0_11T1 (by kernel_rfl) ?ff11T1 ?rr11T1 ?hq11T1 (Or.inr ⟨?hw11T1, rfl⟩) (by assumption) ?rest11T1
            case oi0_11T1 =>
              conv =>
                lhs
                whnf
                arg 1
                whnf
            case hq11T1 => exact fun _ _ _ h => h
            case ff11T1 => kernel_rfl
            case rr11T1 => kernel_rfl
            case hw11T1 => rfl
            try simp only [Act.put, List.setIfInBounds_toArray, List.set_cons_zero, List.set_cons_succ]
            refine wpAnyH_take (i := 12) (oi := ?oi12T1) (v := undef) ?oi0_12T1 (by kernel_rfl) ?ff12T1 ?rr12T1 ?hq12T1 (Or.inr ⟨?hw12T1, rfl⟩) (by assumption) ?rest12T1
            case oi0_12T1 =>
              conv =>
                lhs
                whnf
                arg 1
                whnf
            case hq12T1 => exact fun _ _ _ h => h
            case ff12T1 => kernel_rfl
            case rr12T1 => kernel_rfl
            case hw12T1 => rfl
            try simp only [Act.put, List.setIfInBounds_toArray, List.set_cons_zero, List.set_cons_succ]
            refine wpAnyH_take (i := 13) (oi := ?oi13T1) (v := ?v13T1) ?oi0_13T1 (by kernel_rfl) ?ff13T1 ?rr13T1 ?hq13T1 (Or.inl ⟨?hw13T1, ?hy13T1⟩) (by assumption) ?rest13T1
            case oi0_13T1 =>
              conv =>
                lhs
                whnf
                arg 1
                whnf
            case hq13T1 => exact fun _ _ _ h => h
            case ff13T1 => kernel_rfl
            case rr13T1 => kernel_rfl
            case hw13T1 => rfl
            case hy13T1 =>
              intro w hSw
              (try dsimp only at hSw)
              first
              | (go_simp; done)
              | (go_simp; with_reducible rfl)
            try simp only [Act.put, List.setIfInBounds_toArray, List.set_cons_zero, List.set_cons_succ]
            refine wpAnyH_take (i := 14) (oi := ?oi14T1) (v := ?v14T1) ?oi0_14T1 (by kernel_rfl) ?ff14T1 ?rr14T1 ?hq14T1 (Or.inl ⟨?hw14T1, ?hy14T1⟩) (by assumption) ?rest14T1
            case oi0_14T1 =>
              conv =>
                lhs
                whnf
                arg 1
                whnf
            case hq14T1 => exact fun _ _ _ h => h
            case ff14T1 => kernel_rfl
            case rr14T1 => kernel_rfl
            case hw14T1 => rfl
            case hy14T1 =>
              intro w hSw
              (try dsimp only at hSw)
              first
              | (go_simp; done)
              | (go_simp; with_reducible rfl)
            try simp only [Act.put, List.setIfInBounds_toArray, List.set_cons_zero, List.set_cons_succ]
            refine wpAnyH_take (i := 15) (oi := ?oi15T1) (v := undef) ?oi0_15T1 (by kernel_rfl) ?ff15T1 ?rr15T1 ?hq15T1 (Or.inr ⟨?hw15T1, rfl⟩) (by assumption) ?rest15T1
            case oi0_15T1 =>
              conv =>
                lhs
                whnf
                arg 1
                whnf
            case hq15T1 => exact fun _ _ _ h => h
            case ff15T1 => kernel_rfl
            case rr15T1 => kernel_rfl
            case hw15T1 => rfl
            try simp only [Act.put, List.setIfInBounds_toArray, List.set_cons_zero, List.set_cons_succ]
            refine wpAnyH_take (i := 16) (oi := ?oi16T1) (v := undef) ?oi0_16T1 (by kernel_rfl) ?ff16T1 ?rr16T1 ?hq16T1 (Or.inr ⟨?hw16T1, rfl⟩) (by assumption) ?rest16T1
            case oi0_16T1 =>
              conv =>
                lhs
                whnf
                arg 1
                whnf
            case hq16T1 => exact fun _ _ _ h => h
            case ff16T1 => kernel_rfl
            case rr16T1 => kernel_rfl
            case hw16T1 => rfl
            try simp only [Act.put, List.setIfInBounds_toArray, List.set_cons_zero, List.set_cons_succ]
            refine wpAnyH_take (i := 17) (oi := ?oi17T1) (v := undef) ?oi0_17T1 (by kernel_rfl) ?ff17T1 ?rr17T1 ?hq17T1 (Or.inr ⟨?hw17T1, rfl⟩) (by assumption) ?rest17T1
            case oi0_17T1 =>
              conv =>
                lhs
                whnf
                arg 1
                whnf
            case hq17T1 => exact fun _ _ _ h => h
            case ff17T1 => kernel_rfl
            case rr17T1 => kernel_rfl
            case hw17T1 => rfl
            try simp only [Act.put, List.setIfInBounds_toArray, List.set_cons_zero, List.set_cons_succ]
            refine wpAnyH_take (i := 18) (oi := ?oi18T1) (v := undef) ?oi0_18T1 (by kernel_rfl) ?ff18T1 ?rr18T1 ?hq18T1 (Or.inr ⟨?hw18T1, rfl⟩) (by assumption) ?rest18T1
            case oi0_18T1 =>
              conv =>
                lhs
                whnf
                arg 1
                whnf
            case hq18T1 => exact fun _ _ _ h => h
            case ff18T1 => kernel_rfl
            case rr18T1 => kernel_rfl
            case hw18T1 => rfl
            try simp only [Act.put, List.setIfInBounds_toArray, List.set_cons_zero, List.set_cons_succ]
            refine wpAnyH_take (i := 19) (oi := ?oi19T1) (v := undef) ?oi0_19T1 (by kernel_rfl) ?ff19T1 ?rr19T1 ?hq19T1 (Or.inr ⟨?hw19T1, rfl⟩) (by assumption) ?rest19T1
            case oi0_19T1 =>
              conv =>
                lhs
                whnf
                arg 1
                whnf
            case hq19T1 => exact fun _ _ _ h => h
            case ff19T1 => kernel_rfl
            case rr19T1 => kernel_rfl
            case hw19T1 => rfl
            try simp only [Act.put, List.setIfInBounds_toArray, List.set_cons_zero, List.set_cons_succ]
            refine wpAnyH_take (i := 20) (oi := ?oi20T1) (v := undef) ?oi0_20T1 (by kernel_rfl) ?ff20T1 ?rr20T1 ?hq20T1 (Or.inr ⟨?hw20T1, rfl⟩) (by assumption) ?rest20T1
            case oi0_20T1 =>
              conv =>
                lhs
                whnf
                arg 1
                whnf
            case hq20T1 => exact fun _ _ _ h => h
            case ff20T1 => kernel_rfl
            case rr20T1 => kernel_rfl
            case hw20T1 => rfl
            try simp only [Act.put, List.setIfInBounds_toArray, List.set_cons_zero, List.set_cons_succ]
            refine wpAnyH_take (i := 21) (oi := ?oi21T1) (v := undef) ?oi0_21T1 (by kernel_rfl) ?ff21T1 ?rr21T1 ?hq21T1 (Or.inr ⟨?hw21T1, rfl⟩) (by assumption) ?rest21T1
            case oi0_21T1 =>
              conv =>
                lhs
                whnf
                arg 1
                whnf
            case hq21T1 => exact fun _ _ _ h => h
            case ff21T1 => kernel_rfl
            case rr21T1 => kernel_rfl
            case hw21T1 => rfl
            try simp only [Act.put, List.setIfInBounds_toArray, List.set_cons_zero, List.set_cons_succ]
            refine wpAnyH_take (i := 22) (oi := ?oi22T1) (v := undef) ?oi0_22T1 (by kernel_rfl) ?ff22T1 ?rr22T1 ?hq22T1 (Or.inr ⟨?hw22T1, rfl⟩) (by assumption) ?rest22T1
            case oi0_22T1 =>
              conv =>
                lhs
                whnf
                arg 1
                whnf
            case hq22T1 => exact fun _ _ _ h => h
            case ff22T1 => kernel_rfl
            case rr22T1 => kernel_rfl
            case hw22T1 => rfl
            try simp only [Act.put, List.setIfInBounds_toArray, List.set_cons_zero, List.set_cons_succ]
            refine wpAnyH_take (i := 23) (oi := ?oi23T1) (v := undef) ?oi0_23T1 (by kernel_rfl) ?ff23T1 ?rr23T1 ?hq23T1 (Or.inr ⟨?hw23T1, rfl⟩) (by assumption) ?rest23T1
            case oi0_23T1 =>
              conv =>
                lhs
                whnf
                arg 1
                whnf
            case hq23T1 => exact fun _ _ _ h => h
            case ff23T1 => kernel_rfl
            case rr23T1 => kernel_rfl
            case hw23T1 => rfl
            try simp only [Act.put, List.setIfInBounds_toArray, List.set_cons_zero, List.set_cons_succ]
            refine wpAnyH_take (i := 24) (oi := ?oi24T1) (v := undef) ?oi0_24T1 (by kernel_rfl) ?ff24T1 ?rr24T1 ?hq24T1 (Or.inr ⟨?hw24T1, rfl⟩) (by assumption) ?rest24T1
            case oi0_24T1 =>
              conv =>
                lhs
                whnf
                arg 1
                whnf
            case hq24T1 => exact fun _ _ _ h => h
            case ff24T1 => kernel_rfl
            case rr24T1 => kernel_rfl
            case hw24T1 => rfl
            try simp only [Act.put, List.setIfInBounds_toArray, List.set_cons_zero, List.set_cons_succ]
            refine wpAnyH_take (i := 25) (oi := ?oi25T1) (v := undef) ?oi0_25T1 (by kernel_rfl) ?ff25T1 ?rr25T1 ?hq25T1 (Or.inr ⟨?hw25T1, rfl⟩) (by assumption) ?rest25T1
            case oi0_25T1 =>
              conv =>
                lhs
                whnf
                arg 1
                whnf
            case hq25T1 => exact fun _ _ _ h => h
            case ff25T1 => kernel_rfl
            case rr25T1 => kernel_rfl
            case hw25T1 => rfl
            try simp only [Act.put, List.setIfInBounds_toArray, List.set_cons_zero, List.set_cons_succ]
            refine wpAnyH_take (i := 26) (oi := ?oi26T1) (v := undef) ?oi0_26T1 (by kernel_rfl) ?ff26T1 ?rr26T1 ?hq26T1 (Or.inr ⟨?hw26T1, rfl⟩) (by assumption) ?rest26T1
            case oi0_26T1 =>
              conv =>
                lhs
                whnf
                arg 1
                whnf
            case hq26T1 => exact fun _ _ _ h => h
            case ff26T1 => kernel_rfl
            case rr26T1 => kernel_rfl
            case hw26T1 => rfl
            try simp only [Act.put, List.setIfInBounds_toArray, List.set_cons_zero, List.set_cons_succ]
            refine wpAnyH_take (i := 27) (oi := ?oi27T1) (v := undef) ?oi0_27T1 (by kernel_rfl) ?ff27T1 ?rr27T1 ?hq27T1 (Or.inr ⟨?hw27T1, rfl⟩) (by assumption) ?rest27T1
            case oi0_27T1 =>
              conv =>
                lhs
                whnf
                arg 1
                whnf
            case hq27T1 => exact fun _ _ _ h => h
            case ff27T1 => kernel_rfl
            case rr27T1 => kernel_rfl
            case hw27T1 => rfl
            try simp only [Act.put, List.setIfInBounds_toArray, List.set_cons_zero, List.set_cons_succ]
            refine wpAnyH_take (i := 28) (oi := ?oi28T1) (v := undef) ?oi0_28T1 (by kernel_rfl) ?ff28T1 ?rr28T1 ?hq28T1 (Or.inr ⟨?hw28T1, rfl⟩) (by assumption) ?rest28T1
            case oi0_28T1 =>
              conv =>
                lhs
                whnf
                arg 1
                whnf
            case hq28T1 => exact fun _ _ _ h => h
            case ff28T1 => kernel_rfl
            case rr28T1 => kernel_rfl
            case hw28T1 => rfl
            try simp only [Act.put, List.setIfInBounds_toArray, List.set_cons_zero, List.set_cons_succ]
            refine wpAnyH_take (i := 29) (oi := ?oi29T1) (v := undef) ?oi0_29T1 (by kernel_rfl) ?ff29T1 ?rr29T1 ?hq29T1 (Or.inr ⟨?hw29T1, rfl⟩) (by assumption) ?rest29T1
            case oi0_29T1 =>
              conv =>
                lhs
                whnf
                arg 1
                whnf
            case hq29T1 => exact fun _ _ _ h => h
            case ff29T1 => kernel_rfl
            case rr29T1 => kernel_rfl
            case hw29T1 => rfl
            try simp only [Act.put, List.setIfInBounds_toArray, List.set_cons_zero, List.set_cons_succ]
            refine wpAnyH_take (i := 30) (oi := ?oi30T1) (v := undef) ?oi0_30T1 (by kernel_rfl) ?ff30T1 ?rr30T1 ?hq30T1 (Or.inr ⟨?hw30T1, rfl⟩) (by assumption) ?rest30T1
            case oi0_30T1 =>
              conv =>
                lhs
                whnf
                arg 1
                whnf
            case hq30T1 => exact fun _ _ _ h => h
            case ff30T1 => kernel_rfl
            case rr30T1 => kernel_rfl
            case hw30T1 => rfl
            try simp only [Act.put, List.setIfInBounds_toArray, List.set_cons_zero, List.set_cons_succ]
            refine wpAnyH_take (i := 31) (oi := ?oi31T1) (v := ?v31T1) ?oi0_31T1 (by kernel_rfl) ?ff31T1 ?rr31T1 ?hq31T1 (Or.inl ⟨?hw31T1, ?hy31T1⟩) (by assumption) ?rest31T1
            case oi0_31T1 =>
              conv =>
                lhs
                whnf
                arg 1
                whnf
            case hq31T1 => exact fun _ _ _ h => h
            case ff31T1 => kernel_rfl
            case rr31T1 => kernel_rfl
            case hw31T1 => rfl
            case hy31T1 =>
              intro w hSw
              (try dsimp only at hSw)
              first
              | (go_simp; done)
              | (go_simp; with_reducible rfl)
            try simp only [Act.put, List.setIfInBounds_toArray, List.set_cons_zero, List.set_cons_succ]
            refine wpAnyH_done (by kernel_rfl) ?_ _
            go_wp2_with fail
            go_ret
            exact ⟨rfl, UD.out⟩
          have e1' : decide (z < 0) = false := decide_eq_false e1
          have e1'' : 0 ≤ z := by omega
          by_cases e2 : 3600 < z
          · obtain rfl : r = false := NOP.out _ (fun h => (h.2.2.2 k (by have := HPN.out; omega)).1.2) (by rw [HZK.out]; simp; omega)
            go_wp2_with fail
            refine wp_region_held_drew (S := (fun w' => w'.cell? ⟨wo.heap.size, 0, none⟩ = some (.slice (some ⟨pb, po, none⟩) pn pc) ∧ w'.cell? ⟨pb, po + k, none⟩ = some (.int .i64 z))) (by kernel_rfl) (by exact ⟨q0, q1⟩) (fun hHeld => ?_)
            refine wpAnyH_take (i := 0) (oi := ?oi0T2) (v := ?v0T2) ?oi0_0T2 (by kernel_rfl) ?ff0T2 ?rr0T2 ?hq0T2 (Or.inl ⟨?hw0T2, ?hy0T2⟩) (by assumption) ?rest0T2
            case oi0_0T2 =>
              conv =>
                lhs
                whnf
                arg 1
                whnf
            case hq0T2 => exact fun _ _ _ h => h
            case ff0T2 => kernel_rfl
            case rr0T2 => kernel_rfl
            case hw0T2 => rfl
            case hy0T2 =>
              intro w hSw
              (try dsimp only at hSw)
              first
              | (go_simp; done)
              | (go_simp; with_reducible rfl)
            try simp only [Act.put, List.setIfInBounds_toArray, List.set_cons_zero, List.set_cons_succ]
            refine wpAnyH_take (i := 1) (oi := ?oi1T2) (v := ?v1T2) ?oi0_1T2 (by kernel_rfl) ?ff1T2 ?rr1T2 ?hq1T2 (Or.inl ⟨?hw1T2, ?hy1T2⟩) (by assumption) ?rest1T2
            case oi0_1T2 =>
              conv =>
                lhs
                whnf
                arg 1
                whnf
            case hq1T2 => exact fun _ _ _ h => h
            case ff1T2 => kernel_rfl
            case rr1T2 => kernel_rfl
            case hw1T2 => rfl
            case hy1T2 =>
              intro w hSw
              (try dsimp only at hSw)
              first
              | (go_simp; done)
              | (go_simp; with_reducible rfl)
            try simp only [Act.put, List.setIfInBounds_toArray, List.set_cons_zero, List.set_cons_succ]
            refine wpAnyH_take (i := 2) (oi := ?oi2T2) (v := ?v2T2) ?oi0_2T2 (by kernel_rfl) ?ff2T2 ?rr2T2 ?hq2T2 (Or.inl ⟨?hw2T2, ?hy2T2⟩) (by assumption) ?rest2T2
            case oi0_2T2 =>
              conv =>
                lhs
                whnf
                arg 1
                whnf
            case hq2T2 => exact fun _ _ _ h => h
            case ff2T2 => kernel_rfl
            case rr2T2 => kernel_rfl
            case hw2T2 => rfl
            case hy2T2 =>
              intro w hSw
              (try dsimp only at hSw)
              first
              | (go_simp; done)
              | (go_simp; with_reducible rfl)
            try simp only [Act.put, List.setIfInBounds_toArray, List.set_cons_zero, List.set_cons_succ]
            refine wpAnyH_take (i := 3) (oi := ?oi3T2) (v := ?v3T2) ?oi0_3T2 (by kernel_rfl) ?ff3T2 ?rr3T2 ?hq3T2 (Or.inl ⟨?hw3T2, ?hy3T2⟩) (by assumption) ?rest3T2
            case oi0_3T2 =>
              conv =>
                lhs
                whnf
                arg 1
                whnf
            case hq3T2 => exact fun _ _ _ h => h
            case ff3T2 => kernel_rfl
            case rr3T2 => kernel_rfl
            case hw3T2 => rfl
            case hy3T2 =>
              intro w hSw
              (try dsimp only at hSw)
              first
              | (go_simp; done)
              | (go_simp; with_reducible rfl)
            try simp only [Act.put, List.setIfInBounds_toArray, List.set_cons_zero, List.set_cons_succ]
            refine wpAnyH_take (i := 4) (oi := ?oi4T2) (v := ?v4T2) ?oi0_4T2 (by kernel_rfl) ?ff4T2 ?rr4T2 ?hq4T2 (Or.inl ⟨?hw4T2, ?hy4T2⟩) (by assumption) ?rest4T2
            case oi0_4T2 =>
              conv =>
                lhs
                whnf
                arg 1
                whnf
            case hq4T2 => exact fun _ _ _ h => h
            case ff4T2 => kernel_rfl
            case rr4T2 => kernel_rfl
            case hw4T2 => rfl
            case hy4T2 =>
              intro w hSw
              (try dsimp only at hSw)
              first
              | (go_simp; done)
              | (go_simp; with_reducible rfl)
            try simp only [Act.put, List.setIfInBounds_toArray, List.set_cons_zero, List.set_cons_succ]
            refine wpAnyH_take (i := 5) (oi := ?oi5T2) (v := ?v5T2) ?oi0_5T2 (by kernel_rfl) ?ff5T2 ?rr5T2 ?hq5T2 (Or.inl ⟨?hw5T2, ?hy5T2⟩) (by assumption) ?rest5T2
            case oi0_5T2 =>
              conv =>
                lhs
                whnf
                arg 1
                whnf
            case hq5T2 => exact fun _ _ _ h => h
            case ff5T2 => kernel_rfl
            case rr5T2 => kernel_rfl
            case hw5T2 => rfl
            case hy5T2 =>
              intro w hSw
              (try dsimp only at hSw)
              first
              | (go_simp; done)
              | (go_simp; with_reducible rfl)
            try simp only [Act.put, List.setIfInBounds_toArray, List.set_cons_zero, List.set_cons_succ]
            refine wpAnyH_take (i := 6) (oi := ?oi6T2) (v := ?v6T2) ?oi0_6T2 (by kernel_rfl) ?ff6T2 ?rr6T2 ?hq6T2 (Or.inl ⟨?hw6T2, ?hy6T2⟩) (by assumption) ?rest6T2
            case oi0_6T2 =>
              conv =>
                lhs
                whnf
                arg 1
                whnf
            case hq6T2 => exact fun _ _ _ h => h
            case ff6T2 => kernel_rfl
            case rr6T2 => kernel_rfl
            case hw6T2 => rfl
            case hy6T2 =>
              intro w hSw
              (try dsimp only at hSw)
              first
              | (go_simp; done)
              | (go_simp; with_reducible rfl)
            try simp only [Act.put, List.setIfInBounds_toArray, List.set_cons_zero, List.set_cons_succ]
            refine wpAnyH_take (i := 7) (oi := ?oi7T2) (v := ?v7T2) ?oi0_7T2 (by kernel_rfl) ?ff7T2 ?rr7T2 ?hq7T2 (Or.inl ⟨?hw7T2, ?hy7T2⟩) (by assumption) ?rest7T2
            case oi0_7T2 =>
              conv =>
                lhs
                whnf
                arg 1
                whnf
            case hq7T2 => exact fun _ _ _ h => h
            case ff7T2 => kernel_rfl
            case rr7T2 => kernel_rfl
            case hw7T2 => rfl
            case hy7T2 =>
              intro w hSw
              (try dsimp only at hSw)
              first
              | (go_simp; done)
              | (go_simp; with_reducible rfl)
            try simp only [Act.put, List.setIfInBounds_toArray, List.set_cons_zero, List.set_cons_succ]
            refine wpAnyH_take (i := 8) (oi := ?oi8T2) (v := ?v8T2) ?oi0_8T2 (by kernel_rfl) ?ff8T2 ?rr8T2 ?hq8T2 (Or.inl ⟨?hw8T2, ?hy8T2⟩) (by assumption) ?rest8T2
            case oi0_8T2 =>
              conv =>
                lhs
                whnf
                arg 1
                whnf
            case hq8T2 => exact fun _ _ _ h => h
            case ff8T2 => kernel_rfl
            case rr8T2 => kernel_rfl
            case hw8T2 => rfl
            case hy8T2 =>
              intro w hSw
              (try dsimp only at hSw)
              first
              | (go_simp; done)
              | (go_simp; with_reducible rfl)
            try simp only [Act.put, List.setIfInBounds_toArray, List.set_cons_zero, List.set_cons_succ]
            refine wpAnyH_take (i := 9) (oi := ?oi9T2) (v := ?v9T2) ?oi0_9T2 (by kernel_rfl) ?ff9T2 ?rr9T2 ?hq9T2 (Or.inl ⟨?hw9T2, ?hy9T2⟩) (by assumption) ?rest9T2
            case oi0_9T2 =>
              conv =>
                lhs
                whnf
                arg 1
                whnf
            case hq9T2 => exact fun _ _ _ h => h
            case ff9T2 => kernel_rfl
            case rr9T2 => kernel_rfl
            case hw9T2 => rfl
            case hy9T2 =>
              intro w hSw
              (try dsimp only at hSw)
              first
              | (go_simp; done)
              | (go_simp; with_reducible rfl)
            try simp only [Act.put, List.setIfInBounds_toArray, List.set_cons_zero, List.set_cons_succ]
            refine wpAnyH_take (i := 10) (oi := ?oi10T2) (v := ?v10T2) ?oi0_10T2 (by kernel_rfl) ?ff10T2 ?rr10T2 ?hq10T2 (Or.inl ⟨?hw10T2, ?hy10T2⟩) (by assumption) ?rest10T2
            case oi0_10T2 =>
              conv =>
                lhs
                whnf
                arg 1
                whnf
            case hq10T2 => exact fun _ _ _ h => h
            case ff10T2 => kernel_rfl
            case rr10T2 => kernel_rfl
            case hw10T2 => rfl
            case hy10T2 =>
              intro w hSw
              (try dsimp only at hSw)
              first
              | (go_simp; done)
              | (go_simp; with_reducible rfl)
            try simp only [Act.put, List.setIfInBounds_toArray, List.set_cons_zero, List.set_cons_succ]
            refine wpAnyH_take (i := 11) (oi := ?oi11T2) (v := ?v11T2) ?oi0_11T2 (by kernel_rfl) ?ff11T2 ?rr11T2 ?hq11T2 (Or.inl ⟨?hw11T2, ?hy11T2⟩) (by assumption) ?rest11T2
            case oi0_11T2 =>
              conv =>
                lhs
                whnf
                arg 1
                whnf
            case hq11T2 => exact fun _ _ _ h => h
            case ff11T2 => kernel_rfl
            case rr11T2 => kernel_rfl
            case hw11T2 => rfl
            case hy11T2 =>
              intro w hSw
              (try dsimp only at hSw)
              first
              | (go_simp; done)
              | (go_simp; with_reducible rfl)
            try simp only [Act.put, List.setIfInBounds_toArray, List.set_cons_zero, List.set_cons_succ]
            refine wpAnyH_take (i := 12) (oi := ?oi12T2) (v := ?v12T2) ?oi0_12T2 (by kernel_rfl) ?ff12T2 ?rr12T2 ?hq12T2 (Or.inl ⟨?hw12T2, ?hy12T2⟩) (by assumption) ?rest12T2
            case oi0_12T2 =>
              conv =>
                lhs
                whnf
                arg 1
                whnf
            case hq12T2 => exact fun _ _ _ h => h
            case ff12T2 => kernel_rfl
            case rr12T2 => kernel_rfl
            case hw12T2 => rfl
            case hy12T2 =>
              intro w hSw
              (try dsimp only at hSw)
              first
              | (go_simp; done)
              | (go_simp; with_reducible rfl)
            try simp only [Act.put, List.setIfInBounds_toArray, List.set_cons_zero, List.set_cons_succ]
            refine wpAnyH_take (i := 13) (oi := ?oi13T2) (v := ?v13T2) ?oi0_13T2 (by kernel_rfl) ?ff13T2 ?rr13T2 ?hq13T2 (Or.inl ⟨?hw13T2, ?hy13T2⟩) (by assumption) ?rest13T2
            case oi0_13T2 =>
              conv =>
                lhs
                whnf
                arg 1
                whnf
            case hq13T2 => exact fun _ _ _ h => h
            case ff13T2 => kernel_rfl
            case rr13T2 => kernel_rfl
            case hw13T2 => rfl
            case hy13T2 =>
              intro w hSw
              (try dsimp only at hSw)
              first
              | (go_simp; done)
              | (go_simp; with_reducible rfl)
            try simp only [Act.put, List.setIfInBounds_toArray, List.set_cons_zero, List.set_cons_succ]
            refine wpAnyH_take (i := 14) (oi := ?oi14T2) (v := ?v14T2) ?oi0_14T2 (by kernel_rfl) ?ff14T2 ?rr14T2 ?hq14T2 (Or.inl ⟨?hw14T2, ?hy14T2⟩) (by assumption) ?rest14T2
            case oi0_14T2 =>
              conv =>
                lhs
                whnf
                arg 1
                whnf
            case hq14T2 => exact fun _ _ _ h => h
            case ff14T2 => kernel_rfl
            case rr14T2 => kernel_rfl
            case hw14T2 => rfl
            case hy14T2 =>
              intro w hSw
              (try dsimp only at hSw)
              first
              | (go_simp; done)
              | (go_simp; with_reducible rfl)
            try simp only [Act.put, List.setIfInBounds_toArray, List.set_cons_zero, List.set_cons_succ]
            refine wpAnyH_take (i := 15) (oi := ?oi15T2) (v := undef) ?oi0_15T2 (by kernel_rfl) ?ff15T2 ?rr15T2 ?hq15T2 (Or.inr ⟨?hw15T2, rfl⟩) (by assumption) ?rest15T2
            case oi0_15T2 =>
              conv =>
                lhs
                whnf
                arg 1
                whnf
            case hq15T2 => exact fun _ _ _ h => h
            case ff15T2 => kernel_rfl
            case rr15T2 => kernel_rfl
            case hw15T2 => rfl
            try simp only [Act.put, List.setIfInBounds_toArray, List.set_cons_zero, List.set_cons_succ]
            refine wpAnyH_take (i := 16) (oi := ?oi16T2) (v := undef) ?oi0_16T2 (by kernel_rfl) ?ff16T2 ?rr16T2 ?hq16T2 (Or.inr ⟨?hw16T2, rfl⟩) (by assumption) ?rest16T2
            case oi0_16T2 =>
              conv =>
                lhs
                whnf
                arg 1
                whnf
            case hq16T2 => exact fun _ _ _ h => h
            case ff16T2 => kernel_rfl
            case rr16T2 => kernel_rfl
            case hw16T2 => rfl
            try simp only [Act.put, List.setIfInBounds_toArray, List.set_cons_zero, List.set_cons_succ]
            refine wpAnyH_take (i := 17) (oi := ?oi17T2) (v := undef) ?oi0_17T2 (by kernel_rfl) ?ff17T2 ?rr17T2 ?hq17T2 (Or.inr ⟨?hw17T2, rfl⟩) (by assumption) ?rest17T2
            case oi0_17T2 =>
              conv =>
                lhs
                whnf
                arg 1
                whnf
            case hq17T2 => exact fun _ _ _ h => h
            case ff17T2 => kernel_rfl
            case rr17T2 => kernel_rfl
            case hw17T2 => rfl
            try simp only [Act.put, List.setIfInBounds_toArray, List.set_cons_zero, List.set_cons_succ]
            refine wpAnyH_take (i := 18) (oi := ?oi18T2) (v := undef) ?oi0_18T2 (by kernel_rfl) ?ff18T2 ?rr18T2 ?hq18T2 (Or.inr ⟨?hw18T2, rfl⟩) (by assumption) ?rest18T2
            case oi0_18T2 =>
              conv =>
                lhs
                whnf
                arg 1
                whnf
            case hq18T2 => exact fun _ _ _ h => h
            case ff18T2 => kernel_rfl
            case rr18T2 => kernel_rfl
            case hw18T2 => rfl
            try simp only [Act.put, List.setIfInBounds_toArray, List.set_cons_zero, List.set_cons_succ]
            refine wpAnyH_take (i := 19) (oi := ?oi19T2) (v := undef) ?oi0_19T2 (by kernel_rfl) ?ff19T2 ?rr19T2 ?hq19T2 (Or.inr ⟨?hw19T2, rfl⟩) (by assumption) ?rest19T2
            case oi0_19T2 =>
              conv =>
                lhs
                whnf
                arg 1
                whnf
            case hq19T2 => exact fun _ _ _ h => h
            case ff19T2 => kernel_rfl
            case rr19T2 => kernel_rfl
            case hw19T2 => rfl
            try simp only [Act.put, List.setIfInBounds_toArray, List.set_cons_zero, List.set_cons_succ]
            refine wpAnyH_take (i := 20) (oi := ?oi20T2) (v := undef) ?oi0_20T2 (by kernel_rfl) ?ff20T2 ?rr20T2 ?hq20T2 (Or.inr ⟨?hw20T2, rfl⟩) (by assumption) ?rest20T2
            case oi0_20T2 =>
              conv =>
                lhs
                whnf
                arg 1
                whnf
            case hq20T2 => exact fun _ _ _ h => h
            case ff20T2 => kernel_rfl
            case rr20T2 => kernel_rfl
            case hw20T2 => rfl
            try simp only [Act.put, List.setIfInBounds_toArray, List.set_cons_zero, List.set_cons_succ]
            refine wpAnyH_take (i := 21) (oi := ?oi21T2) (v := undef) ?oi0_21T2 (by kernel_rfl) ?ff21T2 ?rr21T2 ?hq21T2 (Or.inr ⟨?hw21T2, rfl⟩) (by assumption) ?rest21T2
            case oi0_21T2 =>
              conv =>
                lhs
                whnf
                arg 1
                whnf
            case hq21T2 => exact fun _ _ _ h => h
            case ff21T2 => kernel_rfl
            case rr21T2 => kernel_rfl
            case hw21T2 => rfl
            try simp only [Act.put, List.setIfInBounds_toArray, List.set_cons_zero, List.set_cons_succ]
            refine wpAnyH_take (i := 22) (oi := ?oi22T2) (v := undef) ?oi0_22T2 (by kernel_rfl) ?ff22T2 ?rr22T2 ?hq22T2 (Or.inr ⟨?hw22T2, rfl⟩) (by assumption) ?rest22T2
            case oi0_22T2 =>
              conv =>
                lhs
                whnf
                arg 1
                whnf
            case hq22T2 => exact fun _ _ _ h => h
            case ff22T2 => kernel_rfl
            case rr22T2 => kernel_rfl
            case hw22T2 => rfl
            try simp only [Act.put, List.setIfInBounds_toArray, List.set_cons_zero, List.set_cons_succ]
            refine wpAnyH_take (i := 23) (oi := ?oi23T2) (v := undef) ?oi0_23T2 (by kernel_rfl) ?ff23T2 ?rr23T2 ?hq23T2 (Or.inr ⟨?hw23T2, rfl⟩) (by assumption) ?rest23T2
            case oi0_23T2 =>
              conv =>
                lhs
                whnf
                arg 1
                whnf
            case hq23T2 => exact fun _ _ _ h => h
            case ff23T2 => kernel_rfl
            case rr23T2 => kernel_rfl
            case hw23T2 => rfl
            try simp only [Act.put, List.setIfInBounds_toArray, List.set_cons_zero, List.set_cons_succ]
            refine wpAnyH_take (i := 24) (oi := ?oi24T2) (v := undef) ?oi0_24T2 (by kernel_rfl) ?ff24T2 ?rr24T2 ?hq24T2 (Or.inr ⟨?hw24T2, rfl⟩) (by assumption) ?rest24T2
            case oi0_24T2 =>
              conv =>
                lhs
                whnf
                arg 1
                whnf
            case hq24T2 => exact fun _ _ _ h => h
            case ff24T2 => kernel_rfl
            case rr24T2 => kernel_rfl
            case hw24T2 => rfl
            try simp only [Act.put, List.setIfInBounds_toArray, List.set_cons_zero, List.set_cons_succ]
            refine wpAnyH_take (i := 25) (oi := ?oi25T2) (v := undef) ?oi0_25T2 (by kernel_rfl) ?ff25T2 ?rr25T2 ?hq25T2 (Or.inr ⟨?hw25T2, rfl⟩) (by assumption) ?rest25T2
            case oi0_25T2 =>
              conv =>
                lhs
                whnf
                arg 1
                whnf
            case hq25T2 => exact fun _ _ _ h => h
            case ff25T2 => kernel_rfl
            case rr25T2 => kernel_rfl
            case hw25T2 => rfl
            try simp only [Act.put, List.setIfInBounds_toArray, List.set_cons_zero, List.set_cons_succ]
            refine wpAnyH_take (i := 26) (oi := ?oi26T2) (v := undef) ?oi0_26T2 (by kernel_rfl) ?ff26T2 ?rr26T2 ?hq26T2 (Or.inr ⟨?hw26T2, rfl⟩) (by assumption) ?rest26T2
            case oi0_26T2 =>
              conv =>
                lhs
                whnf
                arg 1
                whnf
            case hq26T2 => exact fun _ _ _ h => h
            case ff26T2 => kernel_rfl
            case rr26T2 => kernel_rfl
            case hw26T2 => rfl
            try simp only [Act.put, List.setIfInBounds_toArray, List.set_cons_zero, List.set_cons_succ]
            refine wpAnyH_take (i := 27) (oi := ?oi27T2) (v := undef) ?oi0_27T2 (by kernel_rfl) ?ff27T2 ?rr27T2 ?hq27T2 (Or.inr ⟨?hw27T2, rfl⟩) (by assumption) ?rest27T2
            case oi0_27T2 =>
              conv =>
                lhs
                whnf
                arg 1
                whnf
            case hq27T2 => exact fun _ _ _ h => h
            case ff27T2 => kernel_rfl
            case rr27T2 => kernel_rfl
            case hw27T2 => rfl
            try simp only [Act.put, List.setIfInBounds_toArray, List.set_cons_zero, List.set_cons_succ]
            refine wpAnyH_take (i := 28) (oi := ?oi28T2) (v := undef) ?oi0_28T2 (by kernel_rfl) ?ff28T2 ?rr28T2 ?hq28T2 (Or.inr ⟨?hw28T2, rfl⟩) (by assumption) ?rest28T2
            case oi0_28T2 =>
              conv =>
                lhs
                whnf
                arg 1
                whnf
            case hq28T2 => exact fun _ _ _ h => h
            case ff28T2 => kernel_rfl
            case rr28T2 => kernel_rfl
            case hw28T2 => rfl
            try simp only [Act.put, List.setIfInBounds_toArray, List.set_cons_zero, List.set_cons_succ]
            refine wpAnyH_take (i := 29) (oi := ?oi29T2) (v := undef) ?oi0_29T2 (by kernel_rfl) ?ff29T2 ?rr29T2 ?hq29T2 (Or.inr ⟨?hw29T2, rfl⟩) (by assumption) ?rest29T2
            case oi0_29T2 =>
              conv =>
                lhs
                whnf
                arg 1
                whnf
            case hq29T2 => exact fun _ _ _ h => h
            case ff29T2 => kernel_rfl
            case rr29T2 => kernel_rfl
            case hw29T2 => rfl
            try simp only [Act.put, List.setIfInBounds_toArray, List.set_cons_zero, List.set_cons_succ]
            refine wpAnyH_take (i := 30) (oi := ?oi30T2) (v := undef) ?oi0_30T2 (by kernel_rfl) ?ff30T2 ?rr30T2 ?hq30T2 (Or.inr ⟨?hw30T2, rfl⟩) (by assumption) ?rest30T2
            case oi0_30T2 =>
              conv =>
                lhs
                whnf
                arg 1
                whnf
            case hq30T2 => exact fun _ _ _ h => h
            case ff30T2 => kernel_rfl
            case rr30T2 => kernel_rfl
            case hw30T2 => rfl
            try simp only [Act.put, List.setIfInBounds_toArray, List.set_cons_zero, List.set_cons_succ]
            refine wpAnyH_take (i := 31) (oi := ?oi31T2) (v := ?v31T2) ?oi0_31T2 (by kernel_rfl) ?ff31T2 ?rr31T2 ?hq31T2 (Or.inl ⟨?hw31T2, ?hy31T2⟩) (by assumption) ?rest31T2
            case oi0_31T2 =>
              conv =>
                lhs
                whnf
                arg 1
                whnf
            case hq31T2 => exact fun _ _ _ h => h
            case ff31T2 => kernel_rfl
            case rr31T2 => kernel_rfl
            case hw31T2 => rfl
            case hy31T2 =>
              intro w hSw
              (try dsimp only at hSw)
              first
              | (go_simp; done)
              | (go_simp; with_reducible rfl)
            try simp only [Act.put, List.setIfInBounds_toArray, List.set_cons_zero, List.set_cons_succ]
            refine wpAnyH_done (by kernel_rfl) ?_ _
            go_wp2_with fail
            go_ret
            exact ⟨rfl, UD.out⟩
          have e2' : decide (3600 < z) = false := decide_eq_false e2
          have e2'' : z ≤ 3600 := by omega
          rcases Nat.eq_zero_or_pos k with hk0 | hk0
          · subst hk0
            go_wp2_with fail
            refine wp_region_held_drew (S := (fun w' => w'.cell? ⟨wo.heap.size, 0, none⟩ = some (.slice (some ⟨pb, po, none⟩) pn pc) ∧ w'.cell? ⟨pb, po, none⟩ = some (.int .i64 z))) (by kernel_rfl) (by exact ⟨q0, q1⟩) (fun hHeld => ?_)
            refine wpAnyH_take (i := 0) (oi := ?oi0T3) (v := ?v0T3) ?oi0_0T3 (by kernel_rfl) ?ff0T3 ?rr0T3 ?hq0T3 (Or.inl ⟨?hw0T3, ?hy0T3⟩) (by assumption) ?rest0T3
            case oi0_0T3 =>
              conv =>
                lhs
                whnf
                arg 1
                whnf
            case hq0T3 => exact fun _ _ _ h => h
            case ff0T3 => kernel_rfl
            case rr0T3 => kernel_rfl
            case hw0T3 => rfl
            case hy0T3 =>
              intro w hSw
              (try dsimp only at hSw)
              first
              | (go_simp; done)
              | (go_simp; with_reducible rfl)
            try simp only [Act.put, List.setIfInBounds_toArray, List.set_cons_zero, List.set_cons_succ]
            refine wpAnyH_take (i := 1) (oi := ?oi1T3) (v := ?v1T3) ?oi0_1T3 (by kernel_rfl) ?ff1T3 ?rr1T3 ?hq1T3 (Or.inl ⟨?hw1T3, ?hy1T3⟩) (by assumption) ?rest1T3
            case oi0_1T3 =>
              conv =>
                lhs
                whnf
                arg 1
                whnf
            case hq1T3 => exact fun _ _ _ h => h
            case ff1T3 => kernel_rfl
            case rr1T3 => kernel_rfl
            case hw1T3 => rfl
            case hy1T3 =>
              intro w hSw
              (try dsimp only at hSw)
              first
              | (go_simp; done)
              | (go_simp; with_reducible rfl)
            try simp only [Act.put, List.setIfInBounds_toArray, List.set_cons_zero, List.set_cons_succ]
            refine wpAnyH_take (i := 2) (oi := ?oi2T3) (v := ?v2T3) ?oi0_2T3 (by kernel_rfl) ?ff2T3 ?rr2T3 ?hq2T3 (Or.inl ⟨?hw2T3, ?hy2T3⟩) (by assumption) ?rest2T3
            case oi0_2T3 =>
              conv =>
                lhs
                whnf
                arg 1
                whnf
            case hq2T3 => exact fun _ _ _ h => h
            case ff2T3 => kernel_rfl
            case rr2T3 => kernel_rfl
            case hw2T3 => rfl
            case hy2T3 =>
              intro w hSw
              (try dsimp only at hSw)
              first
              | (go_simp; done)
              | (go_simp; with_reducible rfl)
            try simp only [Act.put, List.setIfInBounds_toArray, List.set_cons_zero, List.set_cons_succ]
            refine wpAnyH_take (i := 3) (oi := ?oi3T3) (v := ?v3T3) ?oi0_3T3 (by kernel_rfl) ?ff3T3 ?rr3T3 ?hq3T3 (Or.inl ⟨?hw3T3, ?hy3T3⟩) (by assumption) ?rest3T3
            case oi0_3T3 =>
              conv =>
                lhs
                whnf
                arg 1
                whnf
            case hq3T3 => exact fun _ _ _ h => h
            case ff3T3 => kernel_rfl
            case rr3T3 => kernel_rfl
            case hw3T3 => rfl
            case hy3T3 =>
              intro w hSw
              (try dsimp only at hSw)
              first
              | (go_simp; done)
              | (go_simp; with_reducible rfl)
            try simp only [Act.put, List.setIfInBounds_toArray, List.set_cons_zero, List.set_cons_succ]
            refine wpAnyH_take (i := 4) (oi := ?oi4T3) (v := ?v4T3) ?oi0_4T3 (by kernel_rfl) ?ff4T3 ?rr4T3 ?hq4T3 (Or.inl ⟨?hw4T3, ?hy4T3⟩) (by assumption) ?rest4T3
            case oi0_4T3 =>
              conv =>
                lhs
                whnf
                arg 1
                whnf
            case hq4T3 => exact fun _ _ _ h => h
            case ff4T3 => kernel_rfl
            case rr4T3 => kernel_rfl
            case hw4T3 => rfl
            case hy4T3 =>
              intro w hSw
              (try dsimp only at hSw)
              first
              | (go_simp; done)
              | (go_simp; with_reducible rfl)
            try simp only [Act.put, List.setIfInBounds_toArray, List.set_cons_zero, List.set_cons_succ]
            refine wpAnyH_take (i := 5) (oi := ?oi5T3) (v := ?v5T3) ?oi0_5T3 (by kernel_rfl) ?ff5T3 ?rr5T3 ?hq5T3 (Or.inl ⟨?hw5T3, ?hy5T3⟩) (by assumption) ?rest5T3
            case oi0_5T3 =>
              conv =>
                lhs
                whnf
                arg 1
                whnf
            case hq5T3 => exact fun _ _ _ h => h
            case ff5T3 => kernel_rfl
            case rr5T3 => kernel_rfl
            case hw5T3 => rfl
            case hy5T3 =>
              intro w hSw
              (try dsimp only at hSw)
              first
              | (go_simp; done)
              | (go_simp; with_reducible rfl)
            try simp only [Act.put, List.setIfInBounds_toArray, List.set_cons_zero, List.set_cons_succ]
            refine wpAnyH_take (i := 6) (oi := ?oi6T3) (v := ?v6T3) ?oi0_6T3 (by kernel_rfl) ?ff6T3 ?rr6T3 ?hq6T3 (Or.inl ⟨?hw6T3, ?hy6T3⟩) (by assumption) ?rest6T3
            case oi0_6T3 =>
              conv =>
                lhs
                whnf
                arg 1
                whnf
            case hq6T3 => exact fun _ _ _ h => h
            case ff6T3 => kernel_rfl
            case rr6T3 => kernel_rfl
            case hw6T3 => rfl
            case hy6T3 =>
              intro w hSw
              (try dsimp only at hSw)
              first
              | (go_simp; done)
              | (go_simp; with_reducible rfl)
            try simp only [Act.put, List.setIfInBounds_toArray, List.set_cons_zero, List.set_cons_succ]
            refine wpAnyH_take (i := 7) (oi := ?oi7T3) (v := ?v7T3) ?oi0_7T3 (by kernel_rfl) ?ff7T3 ?rr7T3 ?hq7T3 (Or.inl ⟨?hw7T3, ?hy7T3⟩) (by assumption) ?rest7T3
            case oi0_7T3 =>
              conv =>
                lhs
                whnf
                arg 1
                whnf
            case hq7T3 => exact fun _ _ _ h => h
            case ff7T3 => kernel_rfl
            case rr7T3 => kernel_rfl
            case hw7T3 => rfl
            case hy7T3 =>
              intro w hSw
              (try dsimp only at hSw)
              first
              | (go_simp; done)
              | (go_simp; with_reducible rfl)
            try simp only [Act.put, List.setIfInBounds_toArray, List.set_cons_zero, List.set_cons_succ]
            refine wpAnyH_take (i := 8) (oi := ?oi8T3) (v := ?v8T3) ?oi0_8T3 (by kernel_rfl) ?ff8T3 ?rr8T3 ?hq8T3 (Or.inl ⟨?hw8T3, ?hy8T3⟩) (by assumption) ?rest8T3
            case oi0_8T3 =>
              conv =>
                lhs
                whnf
                arg 1
                whnf
            case hq8T3 => exact fun _ _ _ h => h
            case ff8T3 => kernel_rfl
            case rr8T3 => kernel_rfl
            case hw8T3 => rfl
            case hy8T3 =>
              intro w hSw
              (try dsimp only at hSw)
              first
              | (go_simp; done)
              | (go_simp; with_reducible rfl)
            try simp only [Act.put, List.setIfInBounds_toArray, List.set_cons_zero, List.set_cons_succ]
            refine wpAnyH_take (i := 9) (oi := ?oi9T3) (v := ?v9T3) ?oi0_9T3 (by kernel_rfl) ?ff9T3 ?rr9T3 ?hq9T3 (Or.inl ⟨?hw9T3, ?hy9T3⟩) (by assumption) ?rest9T3
            case oi0_9T3 =>
              conv =>
                lhs
                whnf
                arg 1
                whnf
            case hq9T3 => exact fun _ _ _ h => h
            case ff9T3 => kernel_rfl
            case rr9T3 => kernel_rfl
            case hw9T3 => rfl
            case hy9T3 =>
              intro w hSw
              (try dsimp only at hSw)
              first
              | (go_simp; done)
              | (go_simp; with_reducible rfl)
            try simp only [Act.put, List.setIfInBounds_toArray, List.set_cons_zero, List.set_cons_succ]
            refine wpAnyH_take (i := 10) (oi := ?oi10T3) (v := ?v10T3) ?oi0_10T3 (by kernel_rfl) ?ff10T3 ?rr10T3 ?hq10T3 (Or.inl ⟨?hw10T3, ?hy10T3⟩) (by assumption) ?rest10T3
            case oi0_10T3 =>
              conv =>
                lhs
                whnf
                arg 1
                whnf
            case hq10T3 => exact fun _ _ _ h => h
            case ff10T3 => kernel_rfl
            case rr10T3 => kernel_rfl
            case hw10T3 => rfl
            case hy10T3 =>
              intro w hSw
              (try dsimp only at hSw)
              first
              | (go_simp; done)
              | (go_simp; with_reducible rfl)
            try simp only [Act.put, List.setIfInBounds_toArray, List.set_cons_zero, List.set_cons_succ]
            refine wpAnyH_take (i := 11) (oi := ?oi11T3) (v := ?v11T3) ?oi0_11T3 (by kernel_rfl) ?ff11T3 ?rr11T3 ?hq11T3 (Or.inl ⟨?hw11T3, ?hy11T3⟩) (by assumption) ?rest11T3
            case oi0_11T3 =>
              conv =>
                lhs
                whnf
                arg 1
                whnf
            case hq11T3 => exact fun _ _ _ h => h
            case ff11T3 => kernel_rfl
            case rr11T3 => kernel_rfl
            case hw11T3 => rfl
            case hy11T3 =>
              intro w hSw
              (try dsimp only at hSw)
              first
              | (go_simp; done)
              | (go_simp; with_reducible rfl)
            try simp only [Act.put, List.setIfInBounds_toArray, List.set_cons_zero, List.set_cons_succ]
            refine wpAnyH_take (i := 12) (oi := ?oi12T3) (v := ?v12T3) ?oi0_12T3 (by kernel_rfl) ?ff12T3 ?rr12T3 ?hq12T3 (Or.inl ⟨?hw12T3, ?hy12T3⟩) (by assumption) ?rest12T3
            case oi0_12T3 =>
              conv =>
                lhs
                whnf
                arg 1
                whnf
            case hq12T3 => exact fun _ _ _ h => h
            case ff12T3 => kernel_rfl
            case rr12T3 => kernel_rfl
            case hw12T3 => rfl
            case hy12T3 =>
              intro w hSw
              (try dsimp only at hSw)
              first
              | (go_simp; done)
              | (go_simp; with_reducible rfl)
            try simp only [Act.put, List.setIfInBounds_toArray, List.set_cons_zero, List.set_cons_succ]
            refine wpAnyH_take (i := 13) (oi := ?oi13T3) (v := ?v13T3) ?oi0_13T3 (by kernel_rfl) ?ff13T3 ?rr13T3 ?hq13T3 (Or.inl ⟨?hw13T3, ?hy13T3⟩) (by assumption) ?rest13T3
            case oi0_13T3 =>
              conv =>
                lhs
                whnf
                arg 1
                whnf
            case hq13T3 => exact fun _ _ _ h => h
            case ff13T3 => kernel_rfl
            case rr13T3 => kernel_rfl
            case hw13T3 => rfl
            case hy13T3 =>
              intro w hSw
              (try dsimp only at hSw)
              first
              | (go_simp; done)
              | (go_simp; with_reducible rfl)
            try simp only [Act.put, List.setIfInBounds_toArray, List.set_cons_zero, List.set_cons_succ]
            refine wpAnyH_take (i := 14) (oi := ?oi14T3) (v := ?v14T3) ?oi0_14T3 (by kernel_rfl) ?ff14T3 ?rr14T3 ?hq14T3 (Or.inl ⟨?hw14T3, ?hy14T3⟩) (by assumption) ?rest14T3
            case oi0_14T3 =>
              conv =>
                lhs
                whnf
                arg 1
                whnf
            case hq14T3 => exact fun _ _ _ h => h
            case ff14T3 => kernel_rfl
            case rr14T3 => kernel_rfl
            case hw14T3 => rfl
            case hy14T3 =>
              intro w hSw
              (try dsimp only at hSw)
              first
              | (go_simp; done)
              | (go_simp; with_reducible rfl)
            try simp only [Act.put, List.setIfInBounds_toArray, List.set_cons_zero, List.set_cons_succ]
            refine wpAnyH_take (i := 15) (oi := ?oi15T3) (v := ?v15T3) ?oi0_15T3 (by kernel_rfl) ?ff15T3 ?rr15T3 ?hq15T3 (Or.inl ⟨?hw15T3, ?hy15T3⟩) (by assumption) ?rest15T3
            case oi0_15T3 =>
              conv =>
                lhs
                whnf
                arg 1
                whnf
            case hq15T3 => exact fun _ _ _ h => h
            case ff15T3 => kernel_rfl
            case rr15T3 => kernel_rfl
            case hw15T3 => rfl
            case hy15T3 =>
              intro w hSw
              (try dsimp only at hSw)
              first
              | (go_simp; done)
              | (go_simp; with_reducible rfl)
            try simp only [Act.put, List.setIfInBounds_toArray, List.set_cons_zero, List.set_cons_succ]
            refine wpAnyH_take (i := 16) (oi := ?oi16T3) (v := ?v16T3) ?oi0_16T3 (by kernel_rfl) ?ff16T3 ?rr16T3 ?hq16T3 (Or.inl ⟨?hw16T3, ?hy16T3⟩) (by assumption) ?rest16T3
            case oi0_16T3 =>
              conv =>
                lhs
                whnf
                arg 1
                whnf
            case hq16T3 => exact fun _ _ _ h => h
            case ff16T3 => kernel_rfl
            case rr16T3 => kernel_rfl
            case hw16T3 => rfl
            case hy16T3 =>
              intro w hSw
              (try dsimp only at hSw)
              first
              | (go_simp; done)
              | (go_simp; with_reducible rfl)
            try simp only [Act.put, List.setIfInBounds_toArray, List.set_cons_zero, List.set_cons_succ]
            refine wpAnyH_take (i := 17) (oi := ?oi17T3) (v := ?v17T3) ?oi0_17T3 (by kernel_rfl) ?ff17T3 ?rr17T3 ?hq17T3 (Or.inl ⟨?hw17T3, ?hy17T3⟩) (by assumption) ?rest17T3
            case oi0_17T3 =>
              conv =>
                lhs
                whnf
                arg 1
                whnf
            case hq17T3 => exact fun _ _ _ h => h
            case ff17T3 => kernel_rfl
            case rr17T3 => kernel_rfl
            case hw17T3 => rfl
            case hy17T3 =>
              intro w hSw
              (try dsimp only at hSw)
              first
              | (go_simp; done)
              | (go_simp; with_reducible rfl)
            try simp only [Act.put, List.setIfInBounds_toArray, List.set_cons_zero, List.set_cons_succ]
            refine wpAnyH_take (i := 18) (oi := ?oi18T3) (v := undef) ?oi0_18T3 (by kernel_rfl) ?ff18T3 ?rr18T3 ?hq18T3 (Or.inr ⟨?hw18T3, rfl⟩) (by assumption) ?rest18T3
            case oi0_18T3 =>
              conv =>
                lhs
                whnf
                arg 1
                whnf
            case hq18T3 => exact fun _ _ _ h => h
            case ff18T3 => kernel_rfl
            case rr18T3 => kernel_rfl
            case hw18T3 => rfl
            try simp only [Act.put, List.setIfInBounds_toArray, List.set_cons_zero, List.set_cons_succ]
            refine wpAnyH_take (i := 19) (oi := ?oi19T3) (v := undef) ?oi0_19T3 (by kernel_rfl) ?ff19T3 ?rr19T3 ?hq19T3 (Or.inr ⟨?hw19T3, rfl⟩) (by assumption) ?rest19T3
            case oi0_19T3 =>
              conv =>
                lhs
                whnf
                arg 1
                whnf
            case hq19T3 => exact fun _ _ _ h => h
            case ff19T3 => kernel_rfl
            case rr19T3 => kernel_rfl
            case hw19T3 => rfl
            try simp only [Act.put, List.setIfInBounds_toArray, List.set_cons_zero, List.set_cons_succ]
            refine wpAnyH_take (i := 20) (oi := ?oi20T3) (v := undef) ?oi0_20T3 (by kernel_rfl) ?ff20T3 ?rr20T3 ?hq20T3 (Or.inr ⟨?hw20T3, rfl⟩) (by assumption) ?rest20T3
            case oi0_20T3 =>
              conv =>
                lhs
                whnf
                arg 1
                whnf
            case hq20T3 => exact fun _ _ _ h => h
            case ff20T3 => kernel_rfl
            case rr20T3 => kernel_rfl
            case hw20T3 => rfl
            try simp only [Act.put, List.setIfInBounds_toArray, List.set_cons_zero, List.set_cons_succ]
            refine wpAnyH_take (i := 21) (oi := ?oi21T3) (v := undef) ?oi0_21T3 (by kernel_rfl) ?ff21T3 ?rr21T3 ?hq21T3 (Or.inr ⟨?hw21T3, rfl⟩) (by assumption) ?rest21T3
            case oi0_21T3 =>
              conv =>
                lhs
                whnf
                arg 1
                whnf
            case hq21T3 => exact fun _ _ _ h => h
            case ff21T3 => kernel_rfl
            case rr21T3 => kernel_rfl
            case hw21T3 => rfl
            try simp only [Act.put, List.setIfInBounds_toArray, List.set_cons_zero, List.set_cons_succ]
            refine wpAnyH_take (i := 22) (oi := ?oi22T3) (v := undef) ?oi0_22T3 (by kernel_rfl) ?ff22T3 ?rr22T3 ?hq22T3 (Or.inr ⟨?hw22T3, rfl⟩) (by assumption) ?rest22T3
            case oi0_22T3 =>
              conv =>
                lhs
                whnf
                arg 1
                whnf
            case hq22T3 => exact fun _ _ _ h => h
            case ff22T3 => kernel_rfl
            case rr22T3 => kernel_rfl
            case hw22T3 => rfl
            try simp only [Act.put, List.setIfInBounds_toArray, List.set_cons_zero, List.set_cons_succ]
            refine wpAnyH_take (i := 23) (oi := ?oi23T3) (v := undef) ?oi0_23T3 (by kernel_rfl) ?ff23T3 ?rr23T3 ?hq23T3 (Or.inr ⟨?hw23T3, rfl⟩) (by assumption) ?rest23T3
            case oi0_23T3 =>
              conv =>
                lhs
                whnf
                arg 1
                whnf
            case hq23T3 => exact fun _ _ _ h => h
            case ff23T3 => kernel_rfl
            case rr23T3 => kernel_rfl
            case hw23T3 => rfl
            try simp only [Act.put, List.setIfInBounds_toArray, List.set_cons_zero, List.set_cons_succ]
            refine wpAnyH_take (i := 24) (oi := ?oi24T3) (v := undef) ?oi0_24T3 (by kernel_rfl) ?ff24T3 ?rr24T3 ?hq24T3 (Or.inr ⟨?hw24T3, rfl⟩) (by assumption) ?rest24T3
            case oi0_24T3 =>
              conv =>
                lhs
                whnf
                arg 1
                whnf
            case hq24T3 => exact fun _ _ _ h => h
            case ff24T3 => kernel_rfl
            case rr24T3 => kernel_rfl
            case hw24T3 => rfl
            try simp only [Act.put, List.setIfInBounds_toArray, List.set_cons_zero, List.set_cons_succ]
            refine wpAnyH_take (i := 25) (oi := ?oi25T3) (v := undef) ?oi0_25T3 (by kernel_rfl) ?ff25T3 ?rr25T3 ?hq25T3 (Or.inr ⟨?hw25T3, rfl⟩) (by assumption) ?rest25T3
            case oi0_25T3 =>
              conv =>
                lhs
                whnf
                arg 1
                whnf
            case hq25T3 => exact fun _ _ _ h => h
            case ff25T3 => kernel_rfl
            case rr25T3 => kernel_rfl
            case hw25T3 => rfl
            try simp only [Act.put, List.setIfInBounds_toArray, List.set_cons_zero, List.set_cons_succ]
            refine wpAnyH_take (i := 26) (oi := ?oi26T3) (v := undef) ?oi0_26T3 (by kernel_rfl) ?ff26T3 ?rr26T3 ?hq26T3 (Or.inr ⟨?hw26T3, rfl⟩) (by assumption) ?rest26T3
            case oi0_26T3 =>
              conv =>
                lhs
                whnf
                arg 1
                whnf
            case hq26T3 => exact fun _ _ _ h => h
            case ff26T3 => kernel_rfl
            case rr26T3 => kernel_rfl
            case hw26T3 => rfl
            try simp only [Act.put, List.setIfInBounds_toArray, List.set_cons_zero, List.set_cons_succ]
            refine wpAnyH_take (i := 27) (oi := ?oi27T3) (v := undef) ?oi0_27T3 (by kernel_rfl) ?ff27T3 ?rr27T3 ?hq27T3 (Or.inr ⟨?hw27T3, rfl⟩) (by assumption) ?rest27T3
            case oi0_27T3 =>
              conv =>
                lhs
                whnf
                arg 1
                whnf
            case hq27T3 => exact fun _ _ _ h => h
            case ff27T3 => kernel_rfl
            case rr27T3 => kernel_rfl
            case hw27T3 => rfl
            try simp only [Act.put, List.setIfInBounds_toArray, List.set_cons_zero, List.set_cons_succ]
            refine wpAnyH_take (i := 28) (oi := ?oi28T3) (v := undef) ?oi0_28T3 (by kernel_rfl) ?ff28T3 ?rr28T3 ?hq28T3 (Or.inr ⟨?hw28T3, rfl⟩) (by assumption) ?rest28T3
            case oi0_28T3 =>
              conv =>
                lhs
                whnf
                arg 1
                whnf
            case hq28T3 => exact fun _ _ _ h => h
            case ff28T3 => kernel_rfl
            case rr28T3 => kernel_rfl
            case hw28T3 => rfl
            try simp only [Act.put, List.setIfInBounds_toArray, List.set_cons_zero, List.set_cons_succ]
            refine wpAnyH_take (i := 29) (oi := ?oi29T3) (v := undef) ?oi0_29T3 (by kernel_rfl) ?ff29T3 ?rr29T3 ?hq29T3 (Or.inr ⟨?hw29T3, rfl⟩) (by assumption) ?rest29T3
            case oi0_29T3 =>
              conv =>
                lhs
                whnf
                arg 1
                whnf
            case hq29T3 => exact fun _ _ _ h => h
            case ff29T3 => kernel_rfl
            case rr29T3 => kernel_rfl
            case hw29T3 => rfl
            try simp only [Act.put, List.setIfInBounds_toArray, List.set_cons_zero, List.set_cons_succ]
            refine wpAnyH_take (i := 30) (oi := ?oi30T3) (v := ?v30T3) ?oi0_30T3 (by kernel_rfl) ?ff30T3 ?rr30T3 ?hq30T3 (Or.inl ⟨?hw30T3, ?hy30T3⟩) (by assumption) ?rest30T3
            case oi0_30T3 =>
              conv =>
                lhs
                whnf
                arg 1
                whnf
            case hq30T3 => exact fun _ _ _ h => h
            case ff30T3 => kernel_rfl
            case rr30T3 => kernel_rfl
            case hw30T3 => rfl
            case hy30T3 =>
              intro w hSw
              (try dsimp only at hSw)
              first
              | (go_simp; done)
              | (go_simp; with_reducible rfl)
            try simp only [Act.put, List.setIfInBounds_toArray, List.set_cons_zero, List.set_cons_succ]
            refine wpAnyH_take (i := 31) (oi := ?oi31T3) (v := ?v31T3) ?oi0_31T3 (by kernel_rfl) ?ff31T3 ?rr31T3 ?hq31T3 (Or.inl ⟨?hw31T3, ?hy31T3⟩) (by assumption) ?rest31T3
            case oi0_31T3 =>
              conv =>
                lhs
                whnf
                arg 1
                whnf
            case hq31T3 => exact fun _ _ _ h => h
            case ff31T3 => kernel_rfl
            case rr31T3 => kernel_rfl
            case hw31T3 => rfl
            case hy31T3 =>
              intro w hSw
              (try dsimp only at hSw)
              first
              | (go_simp; done)
              | (go_simp; with_reducible rfl)
            try simp only [Act.put, List.setIfInBounds_toArray, List.set_cons_zero, List.set_cons_succ]
            refine wpAnyH_done (by kernel_rfl) ?_ _
            go_wp2_with fail
            go_roundw
            case rel => exact ⟨1, by omega, by go_num, hv.out.drew, fun j hj => by
              obtain rfl : j = 0 := by omega
              unfold LenOk
              rw [HZK.out]
              exact ⟨⟨by simp; omega, by simp; omega⟩, .inl rfl⟩⟩
            case measure => simp [intOf] <;> omega
          · obtain ⟨m, hmk⟩ : ∃ m, m + 1 = k := ⟨k - 1, by omega⟩
            obtain ⟨y, hy⟩ : ∃ y, p.lens[m]? = some y := ⟨_, List.getElem?_eq_getElem (by have := HPN.out; omega)⟩
            obtain ⟨pb', po', eb, hyc⟩ := HPC.out m y hy
            obtain ⟨rfl, rfl⟩ : pb = pb' ∧ po = po' := by simpa using eb
            have q2 := keep_cell _ _ _ _ hv.out hyc
            have HY := hide hy
            have HMK := hide hmk
            have hw1 : IntKind.i64.wrap ((k : Int) - 1) = (m : Int) := by rw [Go.IntWalk.i64_in _ (by omega)]; omega
            have hml : (m : Int) < pn := by omega
            have hk0' : 0 < (k : Int) := by omega
            clear hy hyc eb hmk
            by_cases e3 : z ≤ y
            · obtain rfl : r = false := NOP.out _ (fun h => (h.2.2.2 k (by have := HPN.out; omega)).2) (by
                have := HMK.out
                obtain rfl : k = m + 1 := by omega
                rw [HZK.out, show m + 1 - 1 = m from rfl, HY.out]
                simp
                omega)
              have e3' : decide (z ≤ y) = true := decide_eq_true e3
              go_wp2_with fail
              refine wp_region_held_drew (S := (fun w' => w'.cell? ⟨wo.heap.size, 0, none⟩ = some (.slice (some ⟨pb, po, none⟩) pn pc) ∧ w'.cell? ⟨pb, po + k, none⟩ = some (.int .i64 z) ∧ w'.cell? ⟨pb, po + m, none⟩ = some (.int .i64 y))) (by kernel_rfl) (by exact ⟨q0, q1, q2⟩) (fun hHeld => ?_)
              refine wpAnyH_take (i := 0) (oi := ?oi0T4) (v := ?v0T4) ?oi0_0T4 (by kernel_rfl) ?ff0T4 ?rr0T4 ?hq0T4 (Or.inl ⟨?hw0T4, ?hy0T4⟩) (by assumption) ?rest0T4
              case oi0_0T4 =>
                conv =>
                  lhs
                  whnf
                  arg 1
                  whnf
              case hq0T4 => exact fun _ _ _ h => h
              case ff0T4 => kernel_rfl
              case rr0T4 => kernel_rfl
              case hw0T4 => rfl
              case hy0T4 =>
                intro w hSw
                (try dsimp only at hSw)
                first
                | (go_simp; done)
                | (go_simp; with_reducible rfl)
              try simp only [Act.put, List.setIfInBounds_toArray, List.set_cons_zero, List.set_cons_succ]
              refine wpAnyH_take (i := 1) (oi := ?oi1T4) (v := ?v1T4) ?oi0_1T4 (by kernel_rfl) ?ff1T4 ?rr1T4 ?hq1T4 (Or.inl ⟨?hw1T4, ?hy1T4⟩) (by assumption) ?rest1T4
              case oi0_1T4 =>
                conv =>
                  lhs
                  whnf
                  arg 1
                  whnf
              case hq1T4 => exact fun _ _ _ h => h
              case ff1T4 => kernel_rfl
              case rr1T4 => kernel_rfl
              case hw1T4 => rfl
              case hy1T4 =>
                intro w hSw
                (try dsimp only at hSw)
                first
                | (go_simp; done)
                | (go_simp; with_reducible rfl)
              try simp only [Act.put, List.setIfInBounds_toArray, List.set_cons_zero, List.set_cons_succ]
              refine wpAnyH_take (i := 2) (oi := ?oi2T4) (v := ?v2T4) ?oi0_2T4 (by kernel_rfl) ?ff2T4 ?rr2T4 ?hq2T4 (Or.inl ⟨?hw2T4, ?hy2T4⟩) (by assumption) ?rest2T4
              case oi0_2T4 =>
                conv =>
                  lhs
                  whnf
                  arg 1
                  whnf
              case hq2T4 => exact fun _ _ _ h => h
              case ff2T4 => kernel_rfl
              case rr2T4 => kernel_rfl
              case hw2T4 => rfl
              case hy2T4 =>
                intro w hSw
                (try dsimp only at hSw)
                first
                | (go_simp; done)
                | (go_simp; with_reducible rfl)
              try simp only [Act.put, List.setIfInBounds_toArray, List.set_cons_zero, List.set_cons_succ]
              refine wpAnyH_take (i := 3) (oi := ?oi3T4) (v := ?v3T4) ?oi0_3T4 (by kernel_rfl) ?ff3T4 ?rr3T4 ?hq3T4 (Or.inl ⟨?hw3T4, ?hy3T4⟩) (by assumption) ?rest3T4
              case oi0_3T4 =>
                conv =>
                  lhs
                  whnf
                  arg 1
                  whnf
              case hq3T4 => exact fun _ _ _ h => h
              case ff3T4 => kernel_rfl
              case rr3T4 => kernel_rfl
              case hw3T4 => rfl
              case hy3T4 =>
                intro w hSw
                (try dsimp only at hSw)
                first
                | (go_simp; done)
                | (go_simp; with_reducible rfl)
              try simp only [Act.put, List.setIfInBounds_toArray, List.set_cons_zero, List.set_cons_succ]
              refine wpAnyH_take (i := 4) (oi := ?oi4T4) (v := ?v4T4) ?oi0_4T4 (by kernel_rfl) ?ff4T4 ?rr4T4 ?hq4T4 (Or.inl ⟨?hw4T4, ?hy4T4⟩) (by assumption) ?rest4T4
              case oi0_4T4 =>
                conv =>
                  lhs
                  whnf
                  arg 1
                  whnf
              case hq4T4 => exact fun _ _ _ h => h
              case ff4T4 => kernel_rfl
              case rr4T4 => kernel_rfl
              case hw4T4 => rfl
              case hy4T4 =>
                intro w hSw
                (try dsimp only at hSw)
                first
                | (go_simp; done)
                | (go_simp; with_reducible rfl)
              try simp only [Act.put, List.setIfInBounds_toArray, List.set_cons_zero, List.set_cons_succ]
              refine wpAnyH_take (i := 5) (oi := ?oi5T4) (v := ?v5T4) ?oi0_5T4 (by kernel_rfl) ?ff5T4 ?rr5T4 ?hq5T4 (Or.inl ⟨?hw5T4, ?hy5T4⟩) (by assumption) ?rest5T4
              case oi0_5T4 =>
                conv =>
                  lhs
                  whnf
                  arg 1
                  whnf
              case hq5T4 => exact fun _ _ _ h => h
              case ff5T4 => kernel_rfl
              case rr5T4 => kernel_rfl
              case hw5T4 => rfl
              case hy5T4 =>
                intro w hSw
                (try dsimp only at hSw)
                first
                | (go_simp; done)
                | (go_simp; with_reducible rfl)
              try simp only [Act.put, List.setIfInBounds_toArray, List.set_cons_zero, List.set_cons_succ]
              refine wpAnyH_take (i := 6) (oi := ?oi6T4) (v := ?v6T4) ?oi0_6T4 (by kernel_rfl) ?ff6T4 ?rr6T4 ?hq6T4 (Or.inl ⟨?hw6T4, ?hy6T4⟩) (by assumption) ?rest6T4
              case oi0_6T4 =>
                conv =>
                  lhs
                  whnf
                  arg 1
                  whnf
              case hq6T4 => exact fun _ _ _ h => h
              case ff6T4 => kernel_rfl
              case rr6T4 => kernel_rfl
              case hw6T4 => rfl
              case hy6T4 =>
                intro w hSw
                (try dsimp only at hSw)
                first
                | (go_simp; done)
                | (go_simp; with_reducible rfl)
              try simp only [Act.put, List.setIfInBounds_toArray, List.set_cons_zero, List.set_cons_succ]
              refine wpAnyH_take (i := 7) (oi := ?oi7T4) (v := ?v7T4) ?oi0_7T4 (by kernel_rfl) ?ff7T4 ?rr7T4 ?hq7T4 (Or.inl ⟨?hw7T4, ?hy7T4⟩) (by assumption) ?rest7T4
              case oi0_7T4 =>
                conv =>
                  lhs
                  whnf
                  arg 1
                  whnf
              case hq7T4 => exact fun _ _ _ h => h
              case ff7T4 => kernel_rfl
              case rr7T4 => kernel_rfl
              case hw7T4 => rfl
              case hy7T4 =>
                intro w hSw
                (try dsimp only at hSw)
                first
                | (go_simp; done)
                | (go_simp; with_reducible rfl)
              try simp only [Act.put, List.setIfInBounds_toArray, List.set_cons_zero, List.set_cons_succ]
              refine wpAnyH_take (i := 8) (oi := ?oi8T4) (v := ?v8T4) ?oi0_8T4 (by kernel_rfl) ?ff8T4 ?rr8T4 ?hq8T4 (Or.inl ⟨?hw8T4, ?hy8T4⟩) (by assumption) ?rest8T4
              case oi0_8T4 =>
                conv =>
                  lhs
                  whnf
                  arg 1
                  whnf
              case hq8T4 => exact fun _ _ _ h => h
              case ff8T4 => kernel_rfl
              case rr8T4 => kernel_rfl
              case hw8T4 => rfl
              case hy8T4 =>
                intro w hSw
                (try dsimp only at hSw)
                first
                | (go_simp; done)
                | (go_simp; with_reducible rfl)
              try simp only [Act.put, List.setIfInBounds_toArray, List.set_cons_zero, List.set_cons_succ]
              refine wpAnyH_take (i := 9) (oi := ?oi9T4) (v := ?v9T4) ?oi0_9T4 (by kernel_rfl) ?ff9T4 ?rr9T4 ?hq9T4 (Or.inl ⟨?hw9T4, ?hy9T4⟩) (by assumption) ?rest9T4
              case oi0_9T4 =>
                conv =>
                  lhs
                  whnf
                  arg 1
                  whnf
              case hq9T4 => exact fun _ _ _ h => h
              case ff9T4 => kernel_rfl
              case rr9T4 => kernel_rfl
              case hw9T4 => rfl
              case hy9T4 =>
                intro w hSw
                (try dsimp only at hSw)
                first
                | (go_simp; done)
                | (go_simp; with_reducible rfl)
              try simp only [Act.put, List.setIfInBounds_toArray, List.set_cons_zero, List.set_cons_succ]
              refine wpAnyH_take (i := 10) (oi := ?oi10T4) (v := ?v10T4) ?oi0_10T4 (by kernel_rfl) ?ff10T4 ?rr10T4 ?hq10T4 (Or.inl ⟨?hw10T4, ?hy10T4⟩) (by assumption) ?rest10T4
              case oi0_10T4 =>
                conv =>
                  lhs
                  whnf
                  arg 1
                  whnf
              case hq10T4 => exact fun _ _ _ h => h
              case ff10T4 => kernel_rfl
              case rr10T4 => kernel_rfl
              case hw10T4 => rfl
              case hy10T4 =>
                intro w hSw
                (try dsimp only at hSw)
                first
                | (go_simp; done)
                | (go_simp; with_reducible rfl)
              try simp only [Act.put, List.setIfInBounds_toArray, List.set_cons_zero, List.set_cons_succ]
              refine wpAnyH_take (i := 11) (oi := ?oi11T4) (v := ?v11T4) ?oi0_11T4 (by kernel_rfl) ?ff11T4 ?rr11T4 ?hq11T4 (Or.inl ⟨?hw11T4, ?hy11T4⟩) (by assumption) ?rest11T4
              case oi0_11T4 =>
                conv =>
                  lhs
                  whnf
                  arg 1
                  whnf
              case hq11T4 => exact fun _ _ _ h => h
              case ff11T4 => kernel_rfl
              case rr11T4 => kernel_rfl
              case hw11T4 => rfl
              case hy11T4 =>
                intro w hSw
                (try dsimp only at hSw)
                first
                | (go_simp; done)
                | (go_simp; with_reducible rfl)
              try simp only [Act.put, List.setIfInBounds_toArray, List.set_cons_zero, List.set_cons_succ]
              refine wpAnyH_take (i := 12) (oi := ?oi12T4) (v := ?v12T4) ?oi0_12T4 (by kernel_rfl) ?ff12T4 ?rr12T4 ?hq12T4 (Or.inl ⟨?hw12T4, ?hy12T4⟩) (by assumption) ?rest12T4
              case oi0_12T4 =>
                conv =>
                  lhs
                  whnf
                  arg 1
                  whnf
              case hq12T4 => exact fun _ _ _ h => h
              case ff12T4 => kernel_rfl
              case rr12T4 => kernel_rfl
              case hw12T4 => rfl
              case hy12T4 =>
                intro w hSw
                (try dsimp only at hSw)
                first
                | (go_simp; done)
                | (go_simp; with_reducible rfl)
              try simp only [Act.put, List.setIfInBounds_toArray, List.set_cons_zero, List.set_cons_succ]
              refine wpAnyH_take (i := 13) (oi := ?oi13T4) (v := ?v13T4) ?oi0_13T4 (by kernel_rfl) ?ff13T4 ?rr13T4 ?hq13T4 (Or.inl ⟨?hw13T4, ?hy13T4⟩) (by assumption) ?rest13T4
              case oi0_13T4 =>
                conv =>
                  lhs
                  whnf
                  arg 1
                  whnf
              case hq13T4 => exact fun _ _ _ h => h
              case ff13T4 => kernel_rfl
              case rr13T4 => kernel_rfl
              case hw13T4 => rfl
              case hy13T4 =>
                intro w hSw
                (try dsimp only at hSw)
                first
                | (go_simp; done)
                | (go_simp; with_reducible rfl)
              try simp only [Act.put, List.setIfInBounds_toArray, List.set_cons_zero, List.set_cons_succ]
              refine wpAnyH_take (i := 14) (oi := ?oi14T4) (v := ?v14T4) ?oi0_14T4 (by kernel_rfl) ?ff14T4 ?rr14T4 ?hq14T4 (Or.inl ⟨?hw14T4, ?hy14T4⟩) (by assumption) ?rest14T4
              case oi0_14T4 =>
                conv =>
                  lhs
                  whnf
                  arg 1
                  whnf
              case hq14T4 => exact fun _ _ _ h => h
              case ff14T4 => kernel_rfl
              case rr14T4 => kernel_rfl
              case hw14T4 => rfl
              case hy14T4 =>
                intro w hSw
                (try dsimp only at hSw)
                first
                | (go_simp; done)
                | (go_simp; with_reducible rfl)
              try simp only [Act.put, List.setIfInBounds_toArray, List.set_cons_zero, List.set_cons_succ]
              refine wpAnyH_take (i := 15) (oi := ?oi15T4) (v := ?v15T4) ?oi0_15T4 (by kernel_rfl) ?ff15T4 ?rr15T4 ?hq15T4 (Or.inl ⟨?hw15T4, ?hy15T4⟩) (by assumption) ?rest15T4
              case oi0_15T4 =>
                conv =>
                  lhs
                  whnf
                  arg 1
                  whnf
              case hq15T4 => exact fun _ _ _ h => h
              case ff15T4 => kernel_rfl
              case rr15T4 => kernel_rfl
              case hw15T4 => rfl
              case hy15T4 =>
                intro w hSw
                (try dsimp only at hSw)
                first
                | (go_simp; done)
                | (go_simp; with_reducible rfl)
              try simp only [Act.put, List.setIfInBounds_toArray, List.set_cons_zero, List.set_cons_succ]
              refine wpAnyH_take (i := 16) (oi := ?oi16T4) (v := ?v16T4) ?oi0_16T4 (by kernel_rfl) ?ff16T4 ?rr16T4 ?hq16T4 (Or.inl ⟨?hw16T4, ?hy16T4⟩) (by assumption) ?rest16T4
              case oi0_16T4 =>
                conv =>
                  lhs
                  whnf
                  arg 1
                  whnf
              case hq16T4 => exact fun _ _ _ h => h
              case ff16T4 => kernel_rfl
              case rr16T4 => kernel_rfl
              case hw16T4 => rfl
              case hy16T4 =>
                intro w hSw
                (try dsimp only at hSw)
                first
                | (go_simp; done)
                | (go_simp; with_reducible rfl)
              try simp only [Act.put, List.setIfInBounds_toArray, List.set_cons_zero, List.set_cons_succ]
              refine wpAnyH_take (i := 17) (oi := ?oi17T4) (v := ?v17T4) ?oi0_17T4 (by kernel_rfl) ?ff17T4 ?rr17T4 ?hq17T4 (Or.inl ⟨?hw17T4, ?hy17T4⟩) (by assumption) ?rest17T4
              case oi0_17T4 =>
                conv =>
                  lhs
                  whnf
                  arg 1
                  whnf
              case hq17T4 => exact fun _ _ _ h => h
              case ff17T4 => kernel_rfl
              case rr17T4 => kernel_rfl
              case hw17T4 => rfl
              case hy17T4 =>
                intro w hSw
                (try dsimp only at hSw)
                first
                | (go_simp; done)
                | (go_simp; with_reducible rfl)
              try simp only [Act.put, List.setIfInBounds_toArray, List.set_cons_zero, List.set_cons_succ]
              refine wpAnyH_take (i := 18) (oi := ?oi18T4) (v := ?v18T4) ?oi0_18T4 (by kernel_rfl) ?ff18T4 ?rr18T4 ?hq18T4 (Or.inl ⟨?hw18T4, ?hy18T4⟩) (by assumption) ?rest18T4
              case oi0_18T4 =>
                conv =>
                  lhs
                  whnf
                  arg 1
                  whnf
              case hq18T4 => exact fun _ _ _ h => h
              case ff18T4 => kernel_rfl
              case rr18T4 => kernel_rfl
              case hw18T4 => rfl
              case hy18T4 =>
                intro w hSw
                (try dsimp only at hSw)
                first
                | (go_simp; done)
                | (go_simp; with_reducible rfl)
              try simp only [Act.put, List.setIfInBounds_toArray, List.set_cons_zero, List.set_cons_succ]
              refine wpAnyH_take (i := 19) (oi := ?oi19T4) (v := ?v19T4) ?oi0_19T4 (by kernel_rfl) ?ff19T4 ?rr19T4 ?hq19T4 (Or.inl ⟨?hw19T4, ?hy19T4⟩) (by assumption) ?rest19T4
              case oi0_19T4 =>
                conv =>
                  lhs
                  whnf
                  arg 1
                  whnf
              case hq19T4 => exact fun _ _ _ h => h
              case ff19T4 => kernel_rfl
              case rr19T4 => kernel_rfl
              case hw19T4 => rfl
              case hy19T4 =>
                intro w hSw
                (try dsimp only at hSw)
                first
                | (go_simp; done)
                | (go_simp; with_reducible rfl)
              try simp only [Act.put, List.setIfInBounds_toArray, List.set_cons_zero, List.set_cons_succ]
              refine wpAnyH_take (i := 20) (oi := ?oi20T4) (v := ?v20T4) ?oi0_20T4 (by kernel_rfl) ?ff20T4 ?rr20T4 ?hq20T4 (Or.inl ⟨?hw20T4, ?hy20T4⟩) (by assumption) ?rest20T4
              case oi0_20T4 =>
                conv =>
                  lhs
                  whnf
                  arg 1
                  whnf
              case hq20T4 => exact fun _ _ _ h => h
              case ff20T4 => kernel_rfl
              case rr20T4 => kernel_rfl
              case hw20T4 => rfl
              case hy20T4 =>
                intro w hSw
                (try dsimp only at hSw)
                first
                | (go_simp; done)
                | (go_simp; with_reducible rfl)
              try simp only [Act.put, List.setIfInBounds_toArray, List.set_cons_zero, List.set_cons_succ]
              refine wpAnyH_take (i := 21) (oi := ?oi21T4) (v := ?v21T4) ?oi0_21T4 (by kernel_rfl) ?ff21T4 ?rr21T4 ?hq21T4 (Or.inl ⟨?hw21T4, ?hy21T4⟩) (by assumption) ?rest21T4
              case oi0_21T4 =>
                conv =>
                  lhs
                  whnf
                  arg 1
                  whnf
              case hq21T4 => exact fun _ _ _ h => h
              case ff21T4 => kernel_rfl
              case rr21T4 => kernel_rfl
              case hw21T4 => rfl
              case hy21T4 =>
                intro w hSw
                (try dsimp only at hSw)
                first
                | (go_simp; done)
                | (go_simp; with_reducible rfl)
              try simp only [Act.put, List.setIfInBounds_toArray, List.set_cons_zero, List.set_cons_succ]
              refine wpAnyH_take (i := 22) (oi := ?oi22T4) (v := ?v22T4) ?oi0_22T4 (by kernel_rfl) ?ff22T4 ?rr22T4 ?hq22T4 (Or.inl ⟨?hw22T4, ?hy22T4⟩) (by assumption) ?rest22T4
              case oi0_22T4 =>
                conv =>
                  lhs
                  whnf
                  arg 1
                  whnf
              case hq22T4 => exact fun _ _ _ h => h
              case ff22T4 => kernel_rfl
              case rr22T4 => kernel_rfl
              case hw22T4 => rfl
              case hy22T4 =>
                intro w hSw
                (try dsimp only at hSw)
                first
                | (go_simp; done)
                | (go_simp; with_reducible rfl)
              try simp only [Act.put, List.setIfInBounds_toArray, List.set_cons_zero, List.set_cons_succ]
              refine wpAnyH_take (i := 23) (oi := ?oi23T4) (v := ?v23T4) ?oi0_23T4 (by kernel_rfl) ?ff23T4 ?rr23T4 ?hq23T4 (Or.inl ⟨?hw23T4, ?hy23T4⟩) (by assumption) ?rest23T4
              case oi0_23T4 =>
                conv =>
                  lhs
                  whnf
                  arg 1
                  whnf
              case hq23T4 => exact fun _ _ _ h => h
              case ff23T4 => kernel_rfl
              case rr23T4 => kernel_rfl
              case hw23T4 => rfl
              case hy23T4 =>
                intro w hSw
                (try dsimp only at hSw)
                first
                | (go_simp; done)
                | (go_simp; with_reducible rfl)
              try simp only [Act.put, List.setIfInBounds_toArray, List.set_cons_zero, List.set_cons_succ]
              refine wpAnyH_take (i := 24) (oi := ?oi24T4) (v := ?v24T4) ?oi0_24T4 (by kernel_rfl) ?ff24T4 ?rr24T4 ?hq24T4 (Or.inl ⟨?hw24T4, ?hy24T4⟩) (by assumption) ?rest24T4
              case oi0_24T4 =>
                conv =>
                  lhs
                  whnf
                  arg 1
                  whnf
              case hq24T4 => exact fun _ _ _ h => h
              case ff24T4 => kernel_rfl
              case rr24T4 => kernel_rfl
              case hw24T4 => rfl
              case hy24T4 =>
                intro w hSw
                (try dsimp only at hSw)
                first
                | (go_simp; done)
                | (go_simp; with_reducible rfl)
              try simp only [Act.put, List.setIfInBounds_toArray, List.set_cons_zero, List.set_cons_succ]
              refine wpAnyH_take (i := 25) (oi := ?oi25T4) (v := ?v25T4) ?oi0_25T4 (by kernel_rfl) ?ff25T4 ?rr25T4 ?hq25T4 (Or.inl ⟨?hw25T4, ?hy25T4⟩) (by assumption) ?rest25T4
              case oi0_25T4 =>
                conv =>
                  lhs
                  whnf
                  arg 1
                  whnf
              case hq25T4 => exact fun _ _ _ h => h
              case ff25T4 => kernel_rfl
              case rr25T4 => kernel_rfl
              case hw25T4 => rfl
              case hy25T4 =>
                intro w hSw
                (try dsimp only at hSw)
                first
                | (go_simp; done)
                | (go_simp; with_reducible rfl)
              try simp only [Act.put, List.setIfInBounds_toArray, List.set_cons_zero, List.set_cons_succ]
              refine wpAnyH_take (i := 26) (oi := ?oi26T4) (v := ?v26T4) ?oi0_26T4 (by kernel_rfl) ?ff26T4 ?rr26T4 ?hq26T4 (Or.inl ⟨?hw26T4, ?hy26T4⟩) (by assumption) ?rest26T4
              case oi0_26T4 =>
                conv =>
                  lhs
                  whnf
                  arg 1
                  whnf
              case hq26T4 => exact fun _ _ _ h => h
              case ff26T4 => kernel_rfl
              case rr26T4 => kernel_rfl
              case hw26T4 => rfl
              case hy26T4 =>
                intro w hSw
                (try dsimp only at hSw)
                first
                | (go_simp; done)
                | (go_simp; with_reducible rfl)
              try simp only [Act.put, List.setIfInBounds_toArray, List.set_cons_zero, List.set_cons_succ]
              refine wpAnyH_take (i := 27) (oi := ?oi27T4) (v := ?v27T4) ?oi0_27T4 (by kernel_rfl) ?ff27T4 ?rr27T4 ?hq27T4 (Or.inl ⟨?hw27T4, ?hy27T4⟩) (by assumption) ?rest27T4
              case oi0_27T4 =>
                conv =>
                  lhs
                  whnf
                  arg 1
                  whnf
              case hq27T4 => exact fun _ _ _ h => h
              case ff27T4 => kernel_rfl
              case rr27T4 => kernel_rfl
              case hw27T4 => rfl
              case hy27T4 =>
                intro w hSw
                (try dsimp only at hSw)
                first
                | (go_simp; done)
                | (go_simp; with_reducible rfl)
              try simp only [Act.put, List.setIfInBounds_toArray, List.set_cons_zero, List.set_cons_succ]
              refine wpAnyH_take (i := 28) (oi := ?oi28T4) (v := ?v28T4) ?oi0_28T4 (by kernel_rfl) ?ff28T4 ?rr28T4 ?hq28T4 (Or.inl ⟨?hw28T4, ?hy28T4⟩) (by assumption) ?rest28T4
              case oi0_28T4 =>
                conv =>
                  lhs
                  whnf
                  arg 1
                  whnf
              case hq28T4 => exact fun _ _ _ h => h
              case ff28T4 => kernel_rfl
              case rr28T4 => kernel_rfl
              case hw28T4 => rfl
              case hy28T4 =>
                intro w hSw
                (try dsimp only at hSw)
                first
                | (go_simp; done)
                | (go_simp; with_reducible rfl)
              try simp only [Act.put, List.setIfInBounds_toArray, List.set_cons_zero, List.set_cons_succ]
              refine wpAnyH_take (i := 29) (oi := ?oi29T4) (v := ?v29T4) ?oi0_29T4 (by kernel_rfl) ?ff29T4 ?rr29T4 ?hq29T4 (Or.inl ⟨?hw29T4, ?hy29T4⟩) (by assumption) ?rest29T4
              case oi0_29T4 =>
                conv =>
                  lhs
                  whnf
                  arg 1
                  whnf
              case hq29T4 => exact fun _ _ _ h => h
              case ff29T4 => kernel_rfl
              case rr29T4 => kernel_rfl
              case hw29T4 => rfl
              case hy29T4 =>
                intro w hSw
                (try dsimp only at hSw)
                first
                | (go_simp; done)
                | (go_simp; with_reducible rfl)
              try simp only [Act.put, List.setIfInBounds_toArray, List.set_cons_zero, List.set_cons_succ]
              refine wpAnyH_take (i := 30) (oi := ?oi30T4) (v := ?v30T4) ?oi0_30T4 (by kernel_rfl) ?ff30T4 ?rr30T4 ?hq30T4 (Or.inl ⟨?hw30T4, ?hy30T4⟩) (by assumption) ?rest30T4
              case oi0_30T4 =>
                conv =>
                  lhs
                  whnf
                  arg 1
                  whnf
              case hq30T4 => exact fun _ _ _ h => h
              case ff30T4 => kernel_rfl
              case rr30T4 => kernel_rfl
              case hw30T4 => rfl
              case hy30T4 =>
                intro w hSw
                (try dsimp only at hSw)
                first
                | (go_simp; done)
                | (go_simp; with_reducible rfl)
              try simp only [Act.put, List.setIfInBounds_toArray, List.set_cons_zero, List.set_cons_succ]
              refine wpAnyH_take (i := 31) (oi := ?oi31T4) (v := ?v31T4) ?oi0_31T4 (by kernel_rfl) ?ff31T4 ?rr31T4 ?hq31T4 (Or.inl ⟨?hw31T4, ?hy31T4⟩) (by assumption) ?rest31T4
              case oi0_31T4 =>
                conv =>
                  lhs
                  whnf
                  arg 1
                  whnf
              case hq31T4 => exact fun _ _ _ h => h
              case ff31T4 => kernel_rfl
              case rr31T4 => kernel_rfl
              case hw31T4 => rfl
              case hy31T4 =>
                intro w hSw
                (try dsimp only at hSw)
                first
                | (go_simp; done)
                | (go_simp; with_reducible rfl)
              try simp only [Act.put, List.setIfInBounds_toArray, List.set_cons_zero, List.set_cons_succ]
              refine wpAnyH_done (by kernel_rfl) ?_ _
              go_wp2_with fail
              go_ret
              exact ⟨rfl, UD.out⟩
            · have e3' : decide (z ≤ y) = false := decide_eq_false e3
              go_wp2_with fail
              refine wp_region_held_drew (S := (fun w' => w'.cell? ⟨wo.heap.size, 0, none⟩ = some (.slice (some ⟨pb, po, none⟩) pn pc) ∧ w'.cell? ⟨pb, po + k, none⟩ = some (.int .i64 z) ∧ w'.cell? ⟨pb, po + m, none⟩ = some (.int .i64 y))) (by kernel_rfl) (by exact ⟨q0, q1, q2⟩) (fun hHeld => ?_)
              refine wpAnyH_take (i := 0) (oi := ?oi0T5) (v := ?v0T5) ?oi0_0T5 (by kernel_rfl) ?ff0T5 ?rr0T5 ?hq0T5 (Or.inl ⟨?hw0T5, ?hy0T5⟩) (by assumption) ?rest0T5
              case oi0_0T5 =>
                conv =>
                  lhs
                  whnf
                  arg 1
                  whnf
              case hq0T5 => exact fun _ _ _ h => h
              case ff0T5 => kernel_rfl
              case rr0T5 => kernel_rfl
              case hw0T5 => rfl
              case hy0T5 =>
                intro w hSw
                (try dsimp only at hSw)
                first
                | (go_simp; done)
                | (go_simp; with_reducible rfl)
              try simp only [Act.put, List.setIfInBounds_toArray, List.set_cons_zero, List.set_cons_succ]
              refine wpAnyH_take (i := 1) (oi := ?oi1T5) (v := ?v1T5) ?oi0_1T5 (by kernel_rfl) ?ff1T5 ?rr1T5 ?hq1T5 (Or.inl ⟨?hw1T5, ?hy1T5⟩) (by assumption) ?rest1T5
              case oi0_1T5 =>
                conv =>
                  lhs
                  whnf
                  arg 1
                  whnf
              case hq1T5 => exact fun _ _ _ h => h
              case ff1T5 => kernel_rfl
              case rr1T5 => kernel_rfl
              case hw1T5 => rfl
              case hy1T5 =>
                intro w hSw
                (try dsimp only at hSw)
                first
                | (go_simp; done)
                | (go_simp; with_reducible rfl)
              try simp only [Act.put, List.setIfInBounds_toArray, List.set_cons_zero, List.set_cons_succ]
              refine wpAnyH_take (i := 2) (oi := ?oi2T5) (v := ?v2T5) ?oi0_2T5 (by kernel_rfl) ?ff2T5 ?rr2T5 ?hq2T5 (Or.inl ⟨?hw2T5, ?hy2T5⟩) (by assumption) ?rest2T5
              case oi0_2T5 =>
                conv =>
                  lhs
                  whnf
                  arg 1
                  whnf
              case hq2T5 => exact fun _ _ _ h => h
              case ff2T5 => kernel_rfl
              case rr2T5 => kernel_rfl
              case hw2T5 => rfl
              case hy2T5 =>
                intro w hSw
                (try dsimp only at hSw)
                first
                | (go_simp; done)
                | (go_simp; with_reducible rfl)
              try simp only [Act.put, List.setIfInBounds_toArray, List.set_cons_zero, List.set_cons_succ]
              refine wpAnyH_take (i := 3) (oi := ?oi3T5) (v := ?v3T5) ?oi0_3T5 (by kernel_rfl) ?ff3T5 ?rr3T5 ?hq3T5 (Or.inl ⟨?hw3T5, ?hy3T5⟩) (by assumption) ?rest3T5
              case oi0_3T5 =>
                conv =>
                  lhs
                  whnf
                  arg 1
                  whnf
              case hq3T5 => exact fun _ _ _ h => h
              case ff3T5 => kernel_rfl
              case rr3T5 => kernel_rfl
              case hw3T5 => rfl
              case hy3T5 =>
                intro w hSw
                (try dsimp only at hSw)
                first
                | (go_simp; done)
                | (go_simp; with_reducible rfl)
              try simp only [Act.put, List.setIfInBounds_toArray, List.set_cons_zero, List.set_cons_succ]
              refine wpAnyH_take (i := 4) (oi := ?oi4T5) (v := ?v4T5) ?oi0_4T5 (by kernel_rfl) ?ff4T5 ?rr4T5 ?hq4T5 (Or.inl ⟨?hw4T5, ?hy4T5⟩) (by assumption) ?rest4T5
              case oi0_4T5 =>
                conv =>
                  lhs
                  whnf
                  arg 1
                  whnf
              case hq4T5 => exact fun _ _ _ h => h
              case ff4T5 => kernel_rfl
              case rr4T5 => kernel_rfl
              case hw4T5 => rfl
              case hy4T5 =>
                intro w hSw
                (try dsimp only at hSw)
                first
                | (go_simp; done)
                | (go_simp; with_reducible rfl)
              try simp only [Act.put, List.setIfInBounds_toArray, List.set_cons_zero, List.set_cons_succ]
              refine wpAnyH_take (i := 5) (oi := ?oi5T5) (v := ?v5T5) ?oi0_5T5 (by kernel_rfl) ?ff5T5 ?rr5T5 ?hq5T5 (Or.inl ⟨?hw5T5, ?hy5T5⟩) (by assumption) ?rest5T5
              case oi0_5T5 =>
                conv =>
                  lhs
                  whnf
                  arg 1
                  whnf
              case hq5T5 => exact fun _ _ _ h => h
              case ff5T5 => kernel_rfl
              case rr5T5 => kernel_rfl
              case hw5T5 => rfl
              case hy5T5 =>
                intro w hSw
                (try dsimp only at hSw)
                first
                | (go_simp; done)
                | (go_simp; with_reducible rfl)
              try simp only [Act.put, List.setIfInBounds_toArray, List.set_cons_zero, List.set_cons_succ]
              refine wpAnyH_take (i := 6) (oi := ?oi6T5) (v := ?v6T5) ?oi0_6T5 (by kernel_rfl) ?ff6T5 ?rr6T5 ?hq6T5 (Or.inl ⟨?hw6T5, ?hy6T5⟩) (by assumption) ?rest6T5
              case oi0_6T5 =>
                conv =>
                  lhs
                  whnf
                  arg 1
                  whnf
              case hq6T5 => exact fun _ _ _ h => h
              case ff6T5 => kernel_rfl
              case rr6T5 => kernel_rfl
              case hw6T5 => rfl
              case hy6T5 =>
                intro w hSw
                (try dsimp only at hSw)
                first
                | (go_simp; done)
                | (go_simp; with_reducible rfl)
              try simp only [Act.put, List.setIfInBounds_toArray, List.set_cons_zero, List.set_cons_succ]
              refine wpAnyH_take (i := 7) (oi := ?oi7T5) (v := ?v7T5) ?oi0_7T5 (by kernel_rfl) ?ff7T5 ?rr7T5 ?hq7T5 (Or.inl ⟨?hw7T5, ?hy7T5⟩) (by assumption) ?rest7T5
              case oi0_7T5 =>
                conv =>
                  lhs
                  whnf
                  arg 1
                  whnf
              case hq7T5 => exact fun _ _ _ h => h
              case ff7T5 => kernel_rfl
              case rr7T5 => kernel_rfl
              case hw7T5 => rfl
              case hy7T5 =>
                intro w hSw
                (try dsimp only at hSw)
                first
                | (go_simp; done)
                | (go_simp; with_reducible rfl)
              try simp only [Act.put, List.setIfInBounds_toArray, List.set_cons_zero, List.set_cons_succ]
              refine wpAnyH_take (i := 8) (oi := ?oi8T5) (v := ?v8T5) ?oi0_8T5 (by kernel_rfl) ?ff8T5 ?rr8T5 ?hq8T5 (Or.inl ⟨?hw8T5, ?hy8T5⟩) (by assumption) ?rest8T5
              case oi0_8T5 =>
                conv =>
                  lhs
                  whnf
                  arg 1
                  whnf
              case hq8T5 => exact fun _ _ _ h => h
              case ff8T5 => kernel_rfl
              case rr8T5 => kernel_rfl
              case hw8T5 => rfl
              case hy8T5 =>
                intro w hSw
                (try dsimp only at hSw)
                first
                | (go_simp; done)
                | (go_simp; with_reducible rfl)
              try simp only [Act.put, List.setIfInBounds_toArray, List.set_cons_zero, List.set_cons_succ]
              refine wpAnyH_take (i := 9) (oi := ?oi9T5) (v := ?v9T5) ?oi0_9T5 (by kernel_rfl) ?ff9T5 ?rr9T5 ?hq9T5 (Or.inl ⟨?hw9T5, ?hy9T5⟩) (by assumption) ?rest9T5
              case oi0_9T5 =>
                conv =>
                  lhs
                  whnf
                  arg 1
                  whnf
              case hq9T5 => exact fun _ _ _ h => h
              case ff9T5 => kernel_rfl
              case rr9T5 => kernel_rfl
              case hw9T5 => rfl
              case hy9T5 =>
                intro w hSw
                (try dsimp only at hSw)
                first
                | (go_simp; done)
                | (go_simp; with_reducible rfl)
              try simp only [Act.put, List.setIfInBounds_toArray, List.set_cons_zero, List.set_cons_succ]
              refine wpAnyH_take (i := 10) (oi := ?oi10T5) (v := ?v10T5) ?oi0_10T5 (by kernel_rfl) ?ff10T5 ?rr10T5 ?hq10T5 (Or.inl ⟨?hw10T5, ?hy10T5⟩) (by assumption) ?rest10T5
              case oi0_10T5 =>
                conv =>
                  lhs
                  whnf
                  arg 1
                  whnf
              case hq10T5 => exact fun _ _ _ h => h
              case ff10T5 => kernel_rfl
              case rr10T5 => kernel_rfl
              case hw10T5 => rfl
              case hy10T5 =>
                intro w hSw
                (try dsimp only at hSw)
                first
                | (go_simp; done)
                | (go_simp; with_reducible rfl)
              try simp only [Act.put, List.setIfInBounds_toArray, List.set_cons_zero, List.set_cons_succ]
              refine wpAnyH_take (i := 11) (oi := ?oi11T5) (v := ?v11T5) ?oi0_11T5 (by kernel_rfl) ?ff11T5 ?rr11T5 ?hq11T5 (Or.inl ⟨?hw11T5, ?hy11T5⟩) (by assumption) ?rest11T5
              case oi0_11T5 =>
                conv =>
                  lhs
                  whnf
                  arg 1
                  whnf
              case hq11T5 => exact fun _ _ _ h => h
              case ff11T5 => kernel_rfl
              case rr11T5 => kernel_rfl
              case hw11T5 => rfl
              case hy11T5 =>
                intro w hSw
                (try dsimp only at hSw)
                first
                | (go_simp; done)
                | (go_simp; with_reducible rfl)
              try simp only [Act.put, List.setIfInBounds_toArray, List.set_cons_zero, List.set_cons_succ]
              refine wpAnyH_take (i := 12) (oi := ?oi12T5) (v := ?v12T5) ?oi0_12T5 (by kernel_rfl) ?ff12T5 ?rr12T5 ?hq12T5 (Or.inl ⟨?hw12T5, ?hy12T5⟩) (by assumption) ?rest12T5
              case oi0_12T5 =>
                conv =>
                  lhs
                  whnf
                  arg 1
                  whnf
              case hq12T5 => exact fun _ _ _ h => h
              case ff12T5 => kernel_rfl
              case rr12T5 => kernel_rfl
              case hw12T5 => rfl
              case hy12T5 =>
                intro w hSw
                (try dsimp only at hSw)
                first
                | (go_simp; done)
                | (go_simp; with_reducible rfl)
              try simp only [Act.put, List.setIfInBounds_toArray, List.set_cons_zero, List.set_cons_succ]
              refine wpAnyH_take (i := 13) (oi := ?oi13T5) (v := ?v13T5) ?oi0_13T5 (by kernel_rfl) ?ff13T5 ?rr13T5 ?hq13T5 (Or.inl ⟨?hw13T5, ?hy13T5⟩) (by assumption) ?rest13T5
              case oi0_13T5 =>
                conv =>
                  lhs
                  whnf
                  arg 1
                  whnf
              case hq13T5 => exact fun _ _ _ h => h
              case ff13T5 => kernel_rfl
              case rr13T5 => kernel_rfl
              case hw13T5 => rfl
              case hy13T5 =>
                intro w hSw
                (try dsimp only at hSw)
                first
                | (go_simp; done)
                | (go_simp; with_reducible rfl)
              try simp only [Act.put, List.setIfInBounds_toArray, List.set_cons_zero, List.set_cons_succ]
              refine wpAnyH_take (i := 14) (oi := ?oi14T5) (v := ?v14T5) ?oi0_14T5 (by kernel_rfl) ?ff14T5 ?rr14T5 ?hq14T5 (Or.inl ⟨?hw14T5, ?hy14T5⟩) (by assumption) ?rest14T5
              case oi0_14T5 =>
                conv =>
                  lhs
                  whnf
                  arg 1
                  whnf
              case hq14T5 => exact fun _ _ _ h => h
              case ff14T5 => kernel_rfl
              case rr14T5 => kernel_rfl
              case hw14T5 => rfl
              case hy14T5 =>
                intro w hSw
                (try dsimp only at hSw)
                first
                | (go_simp; done)
                | (go_simp; with_reducible rfl)
              try simp only [Act.put, List.setIfInBounds_toArray, List.set_cons_zero, List.set_cons_succ]
              refine wpAnyH_take (i := 15) (oi := ?oi15T5) (v := ?v15T5) ?oi0_15T5 (by kernel_rfl) ?ff15T5 ?rr15T5 ?hq15T5 (Or.inl ⟨?hw15T5, ?hy15T5⟩) (by assumption) ?rest15T5
              case oi0_15T5 =>
                conv =>
                  lhs
                  whnf
                  arg 1
                  whnf
              case hq15T5 => exact fun _ _ _ h => h
              case ff15T5 => kernel_rfl
              case rr15T5 => kernel_rfl
              case hw15T5 => rfl
              case hy15T5 =>
                intro w hSw
                (try dsimp only at hSw)
                first
                | (go_simp; done)
                | (go_simp; with_reducible rfl)
              try simp only [Act.put, List.setIfInBounds_toArray, List.set_cons_zero, List.set_cons_succ]
              refine wpAnyH_take (i := 16) (oi := ?oi16T5) (v := ?v16T5) ?oi0_16T5 (by kernel_rfl) ?ff16T5 ?rr16T5 ?hq16T5 (Or.inl ⟨?hw16T5, ?hy16T5⟩) (by assumption) ?rest16T5
              case oi0_16T5 =>
                conv =>
                  lhs
                  whnf
                  arg 1
                  whnf
              case hq16T5 => exact fun _ _ _ h => h
              case ff16T5 => kernel_rfl
              case rr16T5 => kernel_rfl
              case hw16T5 => rfl
              case hy16T5 =>
                intro w hSw
                (try dsimp only at hSw)
                first
                | (go_simp; done)
                | (go_simp; with_reducible rfl)
              try simp only [Act.put, List.setIfInBounds_toArray, List.set_cons_zero, List.set_cons_succ]
              refine wpAnyH_take (i := 17) (oi := ?oi17T5) (v := ?v17T5) ?oi0_17T5 (by kernel_rfl) ?ff17T5 ?rr17T5 ?hq17T5 (Or.inl ⟨?hw17T5, ?hy17T5⟩) (by assumption) ?rest17T5
              case oi0_17T5 =>
                conv =>
                  lhs
                  whnf
                  arg 1
                  whnf
              case hq17T5 => exact fun _ _ _ h => h
              case ff17T5 => kernel_rfl
              case rr17T5 => kernel_rfl
              case hw17T5 => rfl
              case hy17T5 =>
                intro w hSw
                (try dsimp only at hSw)
                first
                | (go_simp; done)
                | (go_simp; with_reducible rfl)
              try simp only [Act.put, List.setIfInBounds_toArray, List.set_cons_zero, List.set_cons_succ]
              refine wpAnyH_take (i := 18) (oi := ?oi18T5) (v := ?v18T5) ?oi0_18T5 (by kernel_rfl) ?ff18T5 ?rr18T5 ?hq18T5 (Or.inl ⟨?hw18T5, ?hy18T5⟩) (by assumption) ?rest18T5
              case oi0_18T5 =>
                conv =>
                  lhs
                  whnf
                  arg 1
                  whnf
              case hq18T5 => exact fun _ _ _ h => h
              case ff18T5 => kernel_rfl
              case rr18T5 => kernel_rfl
              case hw18T5 => rfl
              case hy18T5 =>
                intro w hSw
                (try dsimp only at hSw)
                first
                | (go_simp; done)
                | (go_simp; with_reducible rfl)
              try simp only [Act.put, List.setIfInBounds_toArray, List.set_cons_zero, List.set_cons_succ]
              refine wpAnyH_take (i := 19) (oi := ?oi19T5) (v := ?v19T5) ?oi0_19T5 (by kernel_rfl) ?ff19T5 ?rr19T5 ?hq19T5 (Or.inl ⟨?hw19T5, ?hy19T5⟩) (by assumption) ?rest19T5
              case oi0_19T5 =>
                conv =>
                  lhs
                  whnf
                  arg 1
                  whnf
              case hq19T5 => exact fun _ _ _ h => h
              case ff19T5 => kernel_rfl
              case rr19T5 => kernel_rfl
              case hw19T5 => rfl
              case hy19T5 =>
                intro w hSw
                (try dsimp only at hSw)
                first
                | (go_simp; done)
                | (go_simp; with_reducible rfl)
              try simp only [Act.put, List.setIfInBounds_toArray, List.set_cons_zero, List.set_cons_succ]
              refine wpAnyH_take (i := 20) (oi := ?oi20T5) (v := ?v20T5) ?oi0_20T5 (by kernel_rfl) ?ff20T5 ?rr20T5 ?hq20T5 (Or.inl ⟨?hw20T5, ?hy20T5⟩) (by assumption) ?rest20T5
              case oi0_20T5 =>
                conv =>
                  lhs
                  whnf
                  arg 1
                  whnf
              case hq20T5 => exact fun _ _ _ h => h
              case ff20T5 => kernel_rfl
              case rr20T5 => kernel_rfl
              case hw20T5 => rfl
              case hy20T5 =>
                intro w hSw
                (try dsimp only at hSw)
                first
                | (go_simp; done)
                | (go_simp; with_reducible rfl)
              try simp only [Act.put, List.setIfInBounds_toArray, List.set_cons_zero, List.set_cons_succ]
              refine wpAnyH_take (i := 21) (oi := ?oi21T5) (v := ?v21T5) ?oi0_21T5 (by kernel_rfl) ?ff21T5 ?rr21T5 ?hq21T5 (Or.inl ⟨?hw21T5, ?hy21T5⟩) (by assumption) ?rest21T5
              case oi0_21T5 =>
                conv =>
                  lhs
                  whnf
                  arg 1
                  whnf
              case hq21T5 => exact fun _ _ _ h => h
              case ff21T5 => kernel_rfl
              case rr21T5 => kernel_rfl
              case hw21T5 => rfl
              case hy21T5 =>
                intro w hSw
                (try dsimp only at hSw)
                first
                | (go_simp; done)
                | (go_simp; with_reducible rfl)
              try simp only [Act.put, List.setIfInBounds_toArray, List.set_cons_zero, List.set_cons_succ]
              refine wpAnyH_take (i := 22) (oi := ?oi22T5) (v := ?v22T5) ?oi0_22T5 (by kernel_rfl) ?ff22T5 ?rr22T5 ?hq22T5 (Or.inl ⟨?hw22T5, ?hy22T5⟩) (by assumption) ?rest22T5
              case oi0_22T5 =>
                conv =>
                  lhs
                  whnf
                  arg 1
                  whnf
              case hq22T5 => exact fun _ _ _ h => h
              case ff22T5 => kernel_rfl
              case rr22T5 => kernel_rfl
              case hw22T5 => rfl
              case hy22T5 =>
                intro w hSw
                (try dsimp only at hSw)
                first
                | (go_simp; done)
                | (go_simp; with_reducible rfl)
              try simp only [Act.put, List.setIfInBounds_toArray, List.set_cons_zero, List.set_cons_succ]
              refine wpAnyH_take (i := 23) (oi := ?oi23T5) (v := ?v23T5) ?oi0_23T5 (by kernel_rfl) ?ff23T5 ?rr23T5 ?hq23T5 (Or.inl ⟨?hw23T5, ?hy23T5⟩) (by assumption) ?rest23T5
              case oi0_23T5 =>
                conv =>
                  lhs
                  whnf
                  arg 1
                  whnf
              case hq23T5 => exact fun _ _ _ h => h
              case ff23T5 => kernel_rfl
              case rr23T5 => kernel_rfl
              case hw23T5 => rfl
              case hy23T5 =>
                intro w hSw
                (try dsimp only at hSw)
                first
                | (go_simp; done)
                | (go_simp; with_reducible rfl)
              try simp only [Act.put, List.setIfInBounds_toArray, List.set_cons_zero, List.set_cons_succ]
              refine wpAnyH_take (i := 24) (oi := ?oi24T5) (v := ?v24T5) ?oi0_24T5 (by kernel_rfl) ?ff24T5 ?rr24T5 ?hq24T5 (Or.inl ⟨?hw24T5, ?hy24T5⟩) (by assumption) ?rest24T5
              case oi0_24T5 =>
                conv =>
                  lhs
                  whnf
                  arg 1
                  whnf
              case hq24T5 => exact fun _ _ _ h => h
              case ff24T5 => kernel_rfl
              case rr24T5 => kernel_rfl
              case hw24T5 => rfl
              case hy24T5 =>
                intro w hSw
                (try dsimp only at hSw)
                first
                | (go_simp; done)
                | (go_simp; with_reducible rfl)
              try simp only [Act.put, List.setIfInBounds_toArray, List.set_cons_zero, List.set_cons_succ]
              refine wpAnyH_take (i := 25) (oi := ?oi25T5) (v := ?v25T5) ?oi0_25T5 (by kernel_rfl) ?ff25T5 ?rr25T5 ?hq25T5 (Or.inl ⟨?hw25T5, ?hy25T5⟩) (by assumption) ?rest25T5
              case oi0_25T5 =>
                conv =>
                  lhs
                  whnf
                  arg 1
                  whnf
              case hq25T5 => exact fun _ _ _ h => h
              case ff25T5 => kernel_rfl
              case rr25T5 => kernel_rfl
              case hw25T5 => rfl
              case hy25T5 =>
                intro w hSw
                (try dsimp only at hSw)
                first
                | (go_simp; done)
                | (go_simp; with_reducible rfl)
              try simp only [Act.put, List.setIfInBounds_toArray, List.set_cons_zero, List.set_cons_succ]
              refine wpAnyH_take (i := 26) (oi := ?oi26T5) (v := ?v26T5) ?oi0_26T5 (by kernel_rfl) ?ff26T5 ?rr26T5 ?hq26T5 (Or.inl ⟨?hw26T5, ?hy26T5⟩) (by assumption) ?rest26T5
              case oi0_26T5 =>
                conv =>
                  lhs
                  whnf
                  arg 1
                  whnf
              case hq26T5 => exact fun _ _ _ h => h
              case ff26T5 => kernel_rfl
              case rr26T5 => kernel_rfl
              case hw26T5 => rfl
              case hy26T5 =>
                intro w hSw
                (try dsimp only at hSw)
                first
                | (go_simp; done)
                | (go_simp; with_reducible rfl)
              try simp only [Act.put, List.setIfInBounds_toArray, List.set_cons_zero, List.set_cons_succ]
              refine wpAnyH_take (i := 27) (oi := ?oi27T5) (v := ?v27T5) ?oi0_27T5 (by kernel_rfl) ?ff27T5 ?rr27T5 ?hq27T5 (Or.inl ⟨?hw27T5, ?hy27T5⟩) (by assumption) ?rest27T5
              case oi0_27T5 =>
                conv =>
                  lhs
                  whnf
                  arg 1
                  whnf
              case hq27T5 => exact fun _ _ _ h => h
              case ff27T5 => kernel_rfl
              case rr27T5 => kernel_rfl
              case hw27T5 => rfl
              case hy27T5 =>
                intro w hSw
                (try dsimp only at hSw)
                first
                | (go_simp; done)
                | (go_simp; with_reducible rfl)
              try simp only [Act.put, List.setIfInBounds_toArray, List.set_cons_zero, List.set_cons_succ]
              refine wpAnyH_take (i := 28) (oi := ?oi28T5) (v := ?v28T5) ?oi0_28T5 (by kernel_rfl) ?ff28T5 ?rr28T5 ?hq28T5 (Or.inl ⟨?hw28T5, ?hy28T5⟩) (by assumption) ?rest28T5
              case oi0_28T5 =>
                conv =>
                  lhs
                  whnf
                  arg 1
                  whnf
              case hq28T5 => exact fun _ _ _ h => h
              case ff28T5 => kernel_rfl
              case rr28T5 => kernel_rfl
              case hw28T5 => rfl
              case hy28T5 =>
                intro w hSw
                (try dsimp only at hSw)
                first
                | (go_simp; done)
                | (go_simp; with_reducible rfl)
              try simp only [Act.put, List.setIfInBounds_toArray, List.set_cons_zero, List.set_cons_succ]
              refine wpAnyH_take (i := 29) (oi := ?oi29T5) (v := ?v29T5) ?oi0_29T5 (by kernel_rfl) ?ff29T5 ?rr29T5 ?hq29T5 (Or.inl ⟨?hw29T5, ?hy29T5⟩) (by assumption) ?rest29T5
              case oi0_29T5 =>
                conv =>
                  lhs
                  whnf
                  arg 1
                  whnf
              case hq29T5 => exact fun _ _ _ h => h
              case ff29T5 => kernel_rfl
              case rr29T5 => kernel_rfl
              case hw29T5 => rfl
              case hy29T5 =>
                intro w hSw
                (try dsimp only at hSw)
                first
                | (go_simp; done)
                | (go_simp; with_reducible rfl)
              try simp only [Act.put, List.setIfInBounds_toArray, List.set_cons_zero, List.set_cons_succ]
              refine wpAnyH_take (i := 30) (oi := ?oi30T5) (v := ?v30T5) ?oi0_30T5 (by kernel_rfl) ?ff30T5 ?rr30T5 ?hq30T5 (Or.inl ⟨?hw30T5, ?hy30T5⟩) (by assumption) ?rest30T5
              case oi0_30T5 =>
                conv =>
                  lhs
                  whnf
                  arg 1
                  whnf
              case hq30T5 => exact fun _ _ _ h => h
              case ff30T5 => kernel_rfl
              case rr30T5 => kernel_rfl
              case hw30T5 => rfl
              case hy30T5 =>
                intro w hSw
                (try dsimp only at hSw)
                first
                | (go_simp; done)
                | (go_simp; with_reducible rfl)
              try simp only [Act.put, List.setIfInBounds_toArray, List.set_cons_zero, List.set_cons_succ]
              refine wpAnyH_take (i := 31) (oi := ?oi31T5) (v := ?v31T5) ?oi0_31T5 (by kernel_rfl) ?ff31T5 ?rr31T5 ?hq31T5 (Or.inl ⟨?hw31T5, ?hy31T5⟩) (by assumption) ?rest31T5
              case oi0_31T5 =>
                conv =>
                  lhs
                  whnf
                  arg 1
                  whnf
              case hq31T5 => exact fun _ _ _ h => h
              case ff31T5 => kernel_rfl
              case rr31T5 => kernel_rfl
              case hw31T5 => rfl
              case hy31T5 =>
                intro w hSw
                (try dsimp only at hSw)
                first
                | (go_simp; done)
                | (go_simp; with_reducible rfl)
              try simp only [Act.put, List.setIfInBounds_toArray, List.set_cons_zero, List.set_cons_succ]
              refine wpAnyH_done (by kernel_rfl) ?_ _
              go_wp2_with fail
              go_roundw
              case rel => exact ⟨k + 1, by omega, by go_num, hv.out.drew, fun j hj => by
                rcases Nat.lt_or_ge j k with h | h
                · exact hl.out j h
                · have := HMK.out
                  obtain rfl : j = m + 1 := by omega
                  obtain rfl : k = m + 1 := by omega
                  unfold LenOk
                  rw [HZK.out, show m + 1 - 1 = m from rfl, HY.out]
                  exact ⟨⟨by simp; omega, by simp; omega⟩, .inr (by simp; omega)⟩⟩
              case measure => simp [intOf] <;> omega
        · have hki : ¬ (k : Int) < pn := by omega
          have PK := hide (show PcOk p from ⟨D.out.1, D.out.2.1, D.out.2.2, fun j hj => hl.out j (by have := HPN.out; omega)⟩)
          go_wp2_with fail
          go_roundw
          case rel => exact ⟨i + 1, by omega, by go_num, HU1.out.trans hv.out (by simp), fun j q hj hq => by
            rcases Nat.lt_or_ge j i with h | h
            · exact hok.out j q h hq
            · obtain rfl : j = i := by omega
              have := HP.out
              rw [this] at hq
              obtain rfl : p = q := by simpa using hq
              exact PK.out⟩
          case measure => simp [intOf] <;> omega
    · have hil : ¬ (i : Int) < n := by omega
      obtain rfl : r = true := by
        rw [← HR.out]
        refine decide_eq_true ⟨by rw [HZ.out]; exact h20, fun p hp => ?_⟩
        obtain ⟨j, hj, he⟩ := List.mem_iff_getElem.1 hp
        exact hok.out j p (by have := HZ.out; omega) (by rw [List.getElem?_eq_getElem hj, he])
      go_wp2_with fail
      go_ret
      exact ⟨rfl, hu.out⟩

theorem rvalid_any {n₀ : Nat} (a : Option Addr) (c : Nat) (l : List Pc) (t : Int) (w : World) (hI : PcsAt n₀ w a l) (hn : n₀ ≤ w.heap.size) (hm : l.length ≤ maxLen) :
    Calls Try.prog 26 #[.slice a l.length c, .int .i64 t] w fun e w' => e = .returned (.bool (decide (ValidS l t))) ∧ Upd [] w w' := by
  have C := hide (right_any a c l w hI hn hm)
  obtain ⟨r, hr⟩ : ∃ r, decide (l.length ≤ 20 ∧ ∀ p ∈ l, PcOk p) = r := ⟨_, rfl⟩
  obtain ⟨v, hv⟩ : ∃ r, decide (ValidS l t) = r := ⟨_, rfl⟩
  have e : v = (decide (0 ≤ t ∧ t ≤ 3600) && r) := by
    rw [← hv, ← hr, ← Bool.decide_and]
    refine decide_eq_decide.2 ?_
    unfold ValidS
    exact ⟨fun h => ⟨h.2.1, h.1, h.2.2⟩, fun h => ⟨h.2.1, h.1, h.2.2⟩⟩
  rw [hr] at C
  rw [hv]
  have E := hide e
  clear hI hm hr hv e
  obtain ⟨n, hz⟩ : ∃ n, l.length = n := ⟨_, rfl⟩
  rw [hz] at C ⊢
  clear hz
  go_enter Try.func26, Try.ntmps26
  by_cases h1 : 0 ≤ t
  · by_cases h2 : t ≤ 3600
    · obtain rfl : r = v := by have := E.out; rw [decide_eq_true ⟨h1, h2⟩, Bool.true_and] at this; exact this.symm
      go_wp2_with fail
      refine C.out.mono ?_
      rintro e w' ⟨rfl, u⟩
      have HU := hide u
      clear u
      go_wp2_with fail
      go_ret
      exact ⟨rfl, HU.out⟩
    · obtain rfl : v = false := by have := E.out; rw [decide_eq_false (fun h => h2 h.2), Bool.false_and] at this; exact this
      go_wp2_with fail
      go_ret
      exact ⟨rfl, Upd.refl _ _⟩
  · obtain rfl : v = false := by have := E.out; rw [decide_eq_false (fun h => h1 h.1), Bool.false_and] at this; exact this
    go_wp2_with fail
    go_ret
    exact ⟨rfl, Upd.refl _ _⟩

theorem raway_any (a b : Int) (w : World) (h1 : -1000000000000000000 ≤ a ∧ a ≤ 1000000000000000000) (h2 : -1000000000000000000 ≤ b ∧ b ≤ 1000000000000000000) : Calls Try.prog 58 #[.int .i64 a, .int .i64 b] w fun e w' => e = .returned (.int .i64 (awayS a b)) ∧ w = w' := by
  obtain ⟨a1, a2⟩ := h1
  obtain ⟨b1, b2⟩ := h2
  go_enter Try.func58, Try.ntmps58
  by_cases h : a < b
  · go_wp2_with fail
    go_ret
    exact ⟨by show Ending.returned (.int .i64 (b - a)) = _; rw [show awayS a b = b - a by unfold awayS; omega], rfl⟩
  · go_wp2_with fail
    go_ret
    exact ⟨by show Ending.returned (.int .i64 (a - b)) = _; rw [show awayS a b = a - b by unfold awayS; omega], rfl⟩
end Go.Proofs.Yteehjciepccomaa
