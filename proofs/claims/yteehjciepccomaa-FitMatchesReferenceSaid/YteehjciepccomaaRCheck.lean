/-
  The reference's Check.
-/
import Derived.Test.YteehjciepccomaaRRight
import Derived.Test.YteehjciepccomaaFNext
namespace Go.Proofs.Yteehjciepccomaa
open Go.RowKit
set_option maxRecDepth 100000
set_option maxHeartbeats 20000000

theorem rcheck_any {n₀ n₁ : Nat} (a : Option Addr) (c : Nat) (l : List Pc) (t : Int) (ca : Option Addr) (cc : Nat) (ch : List Int) (w : World) (hI : PcsAt n₀ w a l) (hJ : Ints n₁ w (.slice ca ch.length cc) ch) (hn : n₀ ≤ w.heap.size) (hm : l.length ≤ maxLen) (hm2 : ch.length ≤ maxLen) :
    Calls Try.prog 29 #[.slice a l.length c, .int .i64 t, .slice ca ch.length cc] w fun e w' => e = .returned (if ValidS l t ∧ ch.length = l.length ∧ fitsS t l 0 ch = true then .tuple #[.int .i64 (costS l ch), .bool true] else .tuple #[.int .i64 0, .bool false]) ∧ Upd [] w w' := by
  have V := rvalid_any a c l t w hI hn hm
  have HI := hide hI
  have HJ := hide hJ.form.2
  have hm' : l.length ≤ 9223372036854775807 := by unfold maxLen at hm; omega
  have hm2' : ch.length ≤ 9223372036854775807 := by unfold maxLen at hm2; omega
  obtain ⟨n, hz⟩ : ∃ n, l.length = n := ⟨_, rfl⟩
  obtain ⟨cn, hcz⟩ : ∃ n, ch.length = n := ⟨_, rfl⟩
  obtain ⟨x1, h1⟩ : ∃ r, decide (ValidS l t) = r := ⟨_, rfl⟩
  obtain ⟨r, hr⟩ : ∃ r, (if ValidS l t ∧ ch.length = l.length ∧ fitsS t l 0 ch = true then Value.tuple #[.int .i64 (costS l ch), .bool true] else .tuple #[.int .i64 0, .bool false]) = r := ⟨_, rfl⟩
  rw [hr]
  rw [h1] at V
  rw [hz] at hm' V ⊢
  rw [hcz] at hm2' ⊢
  have HV := hide V
  have H1 := hide h1
  have HR := hide hr
  have HZ := hide hz
  have HCZ := hide hcz
  clear hI hJ hm hm2 V h1 hr hz hcz
  go_enter Try.func29, Try.ntmps29
  go_wp2_with fail
  refine HV.out.mono ?_
  rintro e w1 ⟨rfl, u1⟩
  have U1 := hide u1
  clear u1
  cases x1 with
  | false =>
    obtain rfl := HR.out.symm.trans (if_neg (fun h => of_decide_eq_false H1.out h.1))
    go_wp2_with fail
    go_ret2
    exact ⟨rfl, U1.out⟩
  | true =>
  by_cases hcn : cn = n
  case neg =>
    obtain rfl := HR.out.symm.trans (if_neg (fun h => hcn (by rw [← HZ.out, ← HCZ.out]; exact h.2.1)))
    have hcn' : ((cn : Int) != (n : Int)) = true := by simp; omega
    clear hcn
    go_wp2_with fail
    go_ret2
    exact ⟨rfl, U1.out⟩
  subst hcn
  have hn20 : cn ≤ 20 := by have := (of_decide_eq_true H1.out).1; have := HZ.out; omega
  go_wp2_with fail
  go_loopw [8, 9, 10] (fun x y i wr => ∃ (k : Nat) (A C : Int), k ≤ cn ∧ i = .int .i64 k ∧ x = .int .i64 A ∧ y = .int .i64 C ∧ Hid (Upd [] w wr) ∧ (0 ≤ A ∧ A ≤ 3600 * k) ∧ (0 ≤ C ∧ C ≤ 3600 * k) ∧ Hid (fitsS t l 0 ch = fitsS t (l.drop k) A (ch.drop k) ∧ costS l ch = C + costS (l.drop k) (ch.drop k)))
    (fun _ _ i _ => cn - (intOf i).toNat)
  case atStart => exact ⟨0, 0, 0, Nat.zero_le _, rfl, rfl, rfl, U1, by omega, by omega, rfl, by simp⟩
  case round =>
    obtain ⟨k, A, C, hk, rfl, rfl, rfl, hu, ⟨hA1, hA2⟩, ⟨hC1, hC2⟩, hf⟩ := hrel
    obtain ⟨wo, rfl⟩ : ∃ wo : World, wo = wr := ⟨_, rfl⟩
    by_cases hlt : k < cn
    · obtain ⟨p, hp⟩ : ∃ p, l[k]? = some p := ⟨_, List.getElem?_eq_getElem (by rw [HZ.out]; exact hlt)⟩
      obtain ⟨b, o, pa, pn, pc, ea, hb, hi, hpm, c0, c1, c2⟩ := HI.out k p hp
      obtain ⟨z, hzz⟩ : ∃ z, ch[k]? = some z := ⟨_, List.getElem?_eq_getElem (by rw [HCZ.out]; exact hlt)⟩
      obtain ⟨cb, co, eb, hcb, hczc⟩ := HJ.out k z hzz
      subst ea eb
      have HC0 := hide (show ∀ W, Upd [] w W → W.cell? ⟨b, o + k * 3, none⟩ = some (.slice pa pn pc) ∧ W.cell? ⟨b, o + k * 3 + 1, none⟩ = some (.int .i64 p.want) ∧ W.cell? ⟨b, o + k * 3 + 2, none⟩ = some (.int .i64 p.join) ∧ W.cell? ⟨cb, co + k, none⟩ = some (.int .i64 z) from fun W hW => ⟨keep_cell _ _ _ _ hW c0, keep_cell _ _ _ _ hW c1, keep_cell _ _ _ _ hW c2, keep_cell _ _ _ _ hW hczc⟩)
      have HPC := hide (show ∀ j z, p.lens[j]? = some z → ∃ b o, pa = some ⟨b, o, none⟩ ∧ ∀ W, Upd [] w W → W.cell? ⟨b, o + j, none⟩ = some (.int .i64 z) from fun j z hz => by
        obtain ⟨b2, o2, e2, h2, h3⟩ := hi.form.2 j z hz
        exact ⟨b2, o2, e2, fun W hW => keep_cell _ _ _ _ hW h3⟩)
      have HPN := hide hi.form.1
      have hok := (of_decide_eq_true H1.out).2.2 p (List.mem_of_getElem? hp)
      have HOK := hide hok
      have hpn8 : pn ≤ 8 := by have := hok.1.2; have := hi.form.1; omega
      obtain ⟨hw1, hw2⟩ := hok.2.1
      have F0 := hf.out
      rw [List.drop_eq_getElem_cons (by rw [HZ.out]; exact hlt), List.drop_eq_getElem_cons (l := ch) (by rw [HCZ.out]; exact hlt), (List.getElem_eq_iff _).2 hp, (List.getElem_eq_iff _).2 hzz, fitsS, costS] at F0
      have HF := hide F0
      have hkl : (k : Int) < cn := by omega
      clear hp hi hpm hb hok hcb hczc hzz F0 c0 c1 c2
      go_wp2_with fail
      go_loopw [11, 12] (fun s11 s12 wr2 => ∃ (q : Nat) (F : Bool), q ≤ pn ∧ s11 = .bool F ∧ s12 = .int .i64 q ∧ Hid (F = decide (z ∈ p.lens.take q)) ∧ Hid (Upd [] w wr2)) (fun _ q _ => pn - (intOf q).toNat)
      case atStart => exact ⟨0, false, Nat.zero_le _, rfl, rfl, hide (by simp), hu⟩
      case round =>
        obtain ⟨q, F, hq, rfl, rfl, hF, hv⟩ := hrel
        obtain ⟨wq, rfl⟩ : ∃ wq : World, wq = wr := ⟨_, rfl⟩
        have f0 := (HC0.out wq hv.out).1
        by_cases hql : q < pn
        · obtain ⟨y, hy⟩ : ∃ y, p.lens[q]? = some y := ⟨_, List.getElem?_eq_getElem (by have := HPN.out; omega)⟩
          obtain ⟨pb, po, eb, hyc⟩ := HPC.out q y hy
          subst eb
          have f1 := hyc wq hv.out
          have f2 := (HC0.out wq hv.out).2.2.2
          have hqi : (q : Int) < pn := by omega
          have HTK := hide (show decide (z ∈ p.lens.take (q + 1)) = (decide (z ∈ p.lens.take q) || decide (y = z)) by
            rw [List.take_add_one, hy, ← Bool.decide_or]
            refine decide_eq_decide.2 ?_
            rw [List.mem_append]
            simp [eq_comm])
          clear hy hyc
          cases F with
          | true =>
            go_wp2_with fail
            refine wp_region_held_drew (S := (fun w' => w'.cell? ⟨b, o + k * 3, none⟩ = some (.slice (some ⟨pb, po, none⟩) pn pc) ∧ w'.cell? ⟨pb, po + q, none⟩ = some (.int .i64 y) ∧ w'.cell? ⟨cb, co + k, none⟩ = some (.int .i64 z))) (by kernel_rfl) (by exact ⟨f0, f1, f2⟩) (fun hHeld => ?_)
            refine wpAnyH_take (i := 0) (oi := ?oi0T1) (v := ?v0T1) ?oi0_0T1 (by kernel_rfl) ?ff0T1 ?rr0T1 ?hq0T1 (Or.inl ⟨?hw0T1, ?hy0T1⟩) (by assumption) ?rest0T1
            case oi0_0T1 =>
              conv =>
                lhs
                whnf
                arg 1
                whnf
            case hq0T1 => exact fun _ _ _ h => h
            case ff0T1 => kernel_rfl
            case rr0T1 => kernel_rfl
            case hw0T1 => rfl
            case hy0T1 =>
              intro w hSw
              (try dsimp only at hSw)
              first
              | (go_simp; done)
              | (go_simp; with_reducible rfl)
            try simp only [Act.put, List.setIfInBounds_toArray, List.set_cons_zero, List.set_cons_succ]
            refine wpAnyH_take (i := 1) (oi := ?oi1T1) (v := ?v1T1) ?oi0_1T1 (by kernel_rfl) ?ff1T1 ?rr1T1 ?hq1T1 (Or.inl ⟨?hw1T1, ?hy1T1⟩) (by assumption) ?rest1T1
            case oi0_1T1 =>
              conv =>
                lhs
                whnf
                arg 1
                whnf
            case hq1T1 => exact fun _ _ _ h => h
            case ff1T1 => kernel_rfl
            case rr1T1 => kernel_rfl
            case hw1T1 => rfl
            case hy1T1 =>
              intro w hSw
              (try dsimp only at hSw)
              first
              | (go_simp; done)
              | (go_simp; with_reducible rfl)
            try simp only [Act.put, List.setIfInBounds_toArray, List.set_cons_zero, List.set_cons_succ]
            refine wpAnyH_take (i := 2) (oi := ?oi2T1) (v := undef) ?oi0_2T1 (by kernel_rfl) ?ff2T1 ?rr2T1 ?hq2T1 (Or.inr ⟨?hw2T1, rfl⟩) (by assumption) ?rest2T1
            case oi0_2T1 =>
              conv =>
                lhs
                whnf
                arg 1
                whnf
            case hq2T1 => exact fun _ _ _ h => h
            case ff2T1 => kernel_rfl
            case rr2T1 => kernel_rfl
            case hw2T1 => rfl
            try simp only [Act.put, List.setIfInBounds_toArray, List.set_cons_zero, List.set_cons_succ]
            refine wpAnyH_take (i := 3) (oi := ?oi3T1) (v := undef) ?oi0_3T1 (by kernel_rfl) ?ff3T1 ?rr3T1 ?hq3T1 (Or.inr ⟨?hw3T1, rfl⟩) (by assumption) ?rest3T1
            case oi0_3T1 =>
              conv =>
                lhs
                whnf
                arg 1
                whnf
            case hq3T1 => exact fun _ _ _ h => h
            case ff3T1 => kernel_rfl
            case rr3T1 => kernel_rfl
            case hw3T1 => rfl
            try simp only [Act.put, List.setIfInBounds_toArray, List.set_cons_zero, List.set_cons_succ]
            refine wpAnyH_take (i := 4) (oi := ?oi4T1) (v := undef) ?oi0_4T1 (by kernel_rfl) ?ff4T1 ?rr4T1 ?hq4T1 (Or.inr ⟨?hw4T1, rfl⟩) (by assumption) ?rest4T1
            case oi0_4T1 =>
              conv =>
                lhs
                whnf
                arg 1
                whnf
            case hq4T1 => exact fun _ _ _ h => h
            case ff4T1 => kernel_rfl
            case rr4T1 => kernel_rfl
            case hw4T1 => rfl
            try simp only [Act.put, List.setIfInBounds_toArray, List.set_cons_zero, List.set_cons_succ]
            refine wpAnyH_take (i := 5) (oi := ?oi5T1) (v := undef) ?oi0_5T1 (by kernel_rfl) ?ff5T1 ?rr5T1 ?hq5T1 (Or.inr ⟨?hw5T1, rfl⟩) (by assumption) ?rest5T1
            case oi0_5T1 =>
              conv =>
                lhs
                whnf
                arg 1
                whnf
            case hq5T1 => exact fun _ _ _ h => h
            case ff5T1 => kernel_rfl
            case rr5T1 => kernel_rfl
            case hw5T1 => rfl
            try simp only [Act.put, List.setIfInBounds_toArray, List.set_cons_zero, List.set_cons_succ]
            refine wpAnyH_take (i := 6) (oi := ?oi6T1) (v := undef) ?oi0_6T1 (by kernel_rfl) ?ff6T1 ?rr6T1 ?hq6T1 (Or.inr ⟨?hw6T1, rfl⟩) (by assumption) ?rest6T1
            case oi0_6T1 =>
              conv =>
                lhs
                whnf
                arg 1
                whnf
            case hq6T1 => exact fun _ _ _ h => h
            case ff6T1 => kernel_rfl
            case rr6T1 => kernel_rfl
            case hw6T1 => rfl
            try simp only [Act.put, List.setIfInBounds_toArray, List.set_cons_zero, List.set_cons_succ]
            refine wpAnyH_take (i := 7) (oi := ?oi7T1) (v := undef) ?oi0_7T1 (by kernel_rfl) ?ff7T1 ?rr7T1 ?hq7T1 (Or.inr ⟨?hw7T1, rfl⟩) (by assumption) ?rest7T1
            case oi0_7T1 =>
              conv =>
                lhs
                whnf
                arg 1
                whnf
            case hq7T1 => exact fun _ _ _ h => h
            case ff7T1 => kernel_rfl
            case rr7T1 => kernel_rfl
            case hw7T1 => rfl
            try simp only [Act.put, List.setIfInBounds_toArray, List.set_cons_zero, List.set_cons_succ]
            refine wpAnyH_take (i := 8) (oi := ?oi8T1) (v := undef) ?oi0_8T1 (by kernel_rfl) ?ff8T1 ?rr8T1 ?hq8T1 (Or.inr ⟨?hw8T1, rfl⟩) (by assumption) ?rest8T1
            case oi0_8T1 =>
              conv =>
                lhs
                whnf
                arg 1
                whnf
            case hq8T1 => exact fun _ _ _ h => h
            case ff8T1 => kernel_rfl
            case rr8T1 => kernel_rfl
            case hw8T1 => rfl
            try simp only [Act.put, List.setIfInBounds_toArray, List.set_cons_zero, List.set_cons_succ]
            refine wpAnyH_take (i := 9) (oi := ?oi9T1) (v := undef) ?oi0_9T1 (by kernel_rfl) ?ff9T1 ?rr9T1 ?hq9T1 (Or.inr ⟨?hw9T1, rfl⟩) (by assumption) ?rest9T1
            case oi0_9T1 =>
              conv =>
                lhs
                whnf
                arg 1
                whnf
            case hq9T1 => exact fun _ _ _ h => h
            case ff9T1 => kernel_rfl
            case rr9T1 => kernel_rfl
            case hw9T1 => rfl
            try simp only [Act.put, List.setIfInBounds_toArray, List.set_cons_zero, List.set_cons_succ]
            refine wpAnyH_take (i := 10) (oi := ?oi10T1) (v := undef) ?oi0_10T1 (by kernel_rfl) ?ff10T1 ?rr10T1 ?hq10T1 (Or.inr ⟨?hw10T1, rfl⟩) (by assumption) ?rest10T1
            case oi0_10T1 =>
              conv =>
                lhs
                whnf
                arg 1
                whnf
            case hq10T1 => exact fun _ _ _ h => h
            case ff10T1 => kernel_rfl
            case rr10T1 => kernel_rfl
            case hw10T1 => rfl
            try simp only [Act.put, List.setIfInBounds_toArray, List.set_cons_zero, List.set_cons_succ]
            refine wpAnyH_take (i := 11) (oi := ?oi11T1) (v := undef) ?oi0_11T1 (by kernel_rfl) ?ff11T1 ?rr11T1 ?hq11T1 (Or.inr ⟨?hw11T1, rfl⟩) (by assumption) ?rest11T1
            case oi0_11T1 =>
              conv =>
                lhs
                whnf
                arg 1
                whnf
            case hq11T1 => exact fun _ _ _ h => h
            case ff11T1 => kernel_rfl
            case rr11T1 => kernel_rfl
            case hw11T1 => rfl
            try simp only [Act.put, List.setIfInBounds_toArray, List.set_cons_zero, List.set_cons_succ]
            refine wpAnyH_take (i := 12) (oi := ?oi12T1) (v := undef) ?oi0_12T1 (by kernel_rfl) ?ff12T1 ?rr12T1 ?hq12T1 (Or.inr ⟨?hw12T1, rfl⟩) (by assumption) ?rest12T1
            case oi0_12T1 =>
              conv =>
                lhs
                whnf
                arg 1
                whnf
            case hq12T1 => exact fun _ _ _ h => h
            case ff12T1 => kernel_rfl
            case rr12T1 => kernel_rfl
            case hw12T1 => rfl
            try simp only [Act.put, List.setIfInBounds_toArray, List.set_cons_zero, List.set_cons_succ]
            refine wpAnyH_take (i := 13) (oi := ?oi13T1) (v := undef) ?oi0_13T1 (by kernel_rfl) ?ff13T1 ?rr13T1 ?hq13T1 (Or.inr ⟨?hw13T1, rfl⟩) (by assumption) ?rest13T1
            case oi0_13T1 =>
              conv =>
                lhs
                whnf
                arg 1
                whnf
            case hq13T1 => exact fun _ _ _ h => h
            case ff13T1 => kernel_rfl
            case rr13T1 => kernel_rfl
            case hw13T1 => rfl
            try simp only [Act.put, List.setIfInBounds_toArray, List.set_cons_zero, List.set_cons_succ]
            refine wpAnyH_take (i := 14) (oi := ?oi14T1) (v := undef) ?oi0_14T1 (by kernel_rfl) ?ff14T1 ?rr14T1 ?hq14T1 (Or.inr ⟨?hw14T1, rfl⟩) (by assumption) ?rest14T1
            case oi0_14T1 =>
              conv =>
                lhs
                whnf
                arg 1
                whnf
            case hq14T1 => exact fun _ _ _ h => h
            case ff14T1 => kernel_rfl
            case rr14T1 => kernel_rfl
            case hw14T1 => rfl
            try simp only [Act.put, List.setIfInBounds_toArray, List.set_cons_zero, List.set_cons_succ]
            refine wpAnyH_take (i := 15) (oi := ?oi15T1) (v := ?v15T1) ?oi0_15T1 (by kernel_rfl) ?ff15T1 ?rr15T1 ?hq15T1 (Or.inl ⟨?hw15T1, ?hy15T1⟩) (by assumption) ?rest15T1
            case oi0_15T1 =>
              conv =>
                lhs
                whnf
                arg 1
                whnf
            case hq15T1 => exact fun _ _ _ h => h
            case ff15T1 => kernel_rfl
            case rr15T1 => kernel_rfl
            case hw15T1 => rfl
            case hy15T1 =>
              intro w hSw
              (try dsimp only at hSw)
              first
              | (go_simp; done)
              | (go_simp; with_reducible rfl)
            try simp only [Act.put, List.setIfInBounds_toArray, List.set_cons_zero, List.set_cons_succ]
            refine wpAnyH_take (i := 16) (oi := ?oi16T1) (v := ?v16T1) ?oi0_16T1 (by kernel_rfl) ?ff16T1 ?rr16T1 ?hq16T1 (Or.inl ⟨?hw16T1, ?hy16T1⟩) (by assumption) ?rest16T1
            case oi0_16T1 =>
              conv =>
                lhs
                whnf
                arg 1
                whnf
            case hq16T1 => exact fun _ _ _ h => h
            case ff16T1 => kernel_rfl
            case rr16T1 => kernel_rfl
            case hw16T1 => rfl
            case hy16T1 =>
              intro w hSw
              (try dsimp only at hSw)
              first
              | (go_simp; done)
              | (go_simp; with_reducible rfl)
            try simp only [Act.put, List.setIfInBounds_toArray, List.set_cons_zero, List.set_cons_succ]
            refine wpAnyH_done (by kernel_rfl) ?_ _
            go_wp2_with fail
            go_roundw
            case rel => exact ⟨q + 1, true, by omega, rfl, by go_num, hide (by rw [HTK.out, ← hF.out]; rfl), hv.out.drew⟩
            case measure => simp [intOf] <;> omega
          | false =>
            go_wp2_with fail
            refine wp_region_held_drew (S := (fun w' => w'.cell? ⟨b, o + k * 3, none⟩ = some (.slice (some ⟨pb, po, none⟩) pn pc) ∧ w'.cell? ⟨pb, po + q, none⟩ = some (.int .i64 y) ∧ w'.cell? ⟨cb, co + k, none⟩ = some (.int .i64 z))) (by kernel_rfl) (by exact ⟨f0, f1, f2⟩) (fun hHeld => ?_)
            refine wpAnyH_take (i := 0) (oi := ?oi0T2) (v := ?v0T2) ?oi0_0T2 (by kernel_rfl) ?ff0T2 ?rr0T2 ?hq0T2 (Or.inl ⟨?hw0T2, ?hy0T2⟩) (by assumption) ?rest0T2
            case oi0_0T2 =>
              conv =>
                lhs
                whnf
                arg 1
                whnf
            case hq0T2 => exact fun _ _ _ h => h
            case ff0T2 => kernel_rfl
            case rr0T2 => kernel_rfl
            case hw0T2 => rfl
            case hy0T2 =>
              intro w hSw
              (try dsimp only at hSw)
              first
              | (go_simp; done)
              | (go_simp; with_reducible rfl)
            try simp only [Act.put, List.setIfInBounds_toArray, List.set_cons_zero, List.set_cons_succ]
            refine wpAnyH_take (i := 1) (oi := ?oi1T2) (v := ?v1T2) ?oi0_1T2 (by kernel_rfl) ?ff1T2 ?rr1T2 ?hq1T2 (Or.inl ⟨?hw1T2, ?hy1T2⟩) (by assumption) ?rest1T2
            case oi0_1T2 =>
              conv =>
                lhs
                whnf
                arg 1
                whnf
            case hq1T2 => exact fun _ _ _ h => h
            case ff1T2 => kernel_rfl
            case rr1T2 => kernel_rfl
            case hw1T2 => rfl
            case hy1T2 =>
              intro w hSw
              (try dsimp only at hSw)
              first
              | (go_simp; done)
              | (go_simp; with_reducible rfl)
            try simp only [Act.put, List.setIfInBounds_toArray, List.set_cons_zero, List.set_cons_succ]
            refine wpAnyH_take (i := 2) (oi := ?oi2T2) (v := ?v2T2) ?oi0_2T2 (by kernel_rfl) ?ff2T2 ?rr2T2 ?hq2T2 (Or.inl ⟨?hw2T2, ?hy2T2⟩) (by assumption) ?rest2T2
            case oi0_2T2 =>
              conv =>
                lhs
                whnf
                arg 1
                whnf
            case hq2T2 => exact fun _ _ _ h => h
            case ff2T2 => kernel_rfl
            case rr2T2 => kernel_rfl
            case hw2T2 => rfl
            case hy2T2 =>
              intro w hSw
              (try dsimp only at hSw)
              first
              | (go_simp; done)
              | (go_simp; with_reducible rfl)
            try simp only [Act.put, List.setIfInBounds_toArray, List.set_cons_zero, List.set_cons_succ]
            refine wpAnyH_take (i := 3) (oi := ?oi3T2) (v := ?v3T2) ?oi0_3T2 (by kernel_rfl) ?ff3T2 ?rr3T2 ?hq3T2 (Or.inl ⟨?hw3T2, ?hy3T2⟩) (by assumption) ?rest3T2
            case oi0_3T2 =>
              conv =>
                lhs
                whnf
                arg 1
                whnf
            case hq3T2 => exact fun _ _ _ h => h
            case ff3T2 => kernel_rfl
            case rr3T2 => kernel_rfl
            case hw3T2 => rfl
            case hy3T2 =>
              intro w hSw
              (try dsimp only at hSw)
              first
              | (go_simp; done)
              | (go_simp; with_reducible rfl)
            try simp only [Act.put, List.setIfInBounds_toArray, List.set_cons_zero, List.set_cons_succ]
            refine wpAnyH_take (i := 4) (oi := ?oi4T2) (v := ?v4T2) ?oi0_4T2 (by kernel_rfl) ?ff4T2 ?rr4T2 ?hq4T2 (Or.inl ⟨?hw4T2, ?hy4T2⟩) (by assumption) ?rest4T2
            case oi0_4T2 =>
              conv =>
                lhs
                whnf
                arg 1
                whnf
            case hq4T2 => exact fun _ _ _ h => h
            case ff4T2 => kernel_rfl
            case rr4T2 => kernel_rfl
            case hw4T2 => rfl
            case hy4T2 =>
              intro w hSw
              (try dsimp only at hSw)
              first
              | (go_simp; done)
              | (go_simp; with_reducible rfl)
            try simp only [Act.put, List.setIfInBounds_toArray, List.set_cons_zero, List.set_cons_succ]
            refine wpAnyH_take (i := 5) (oi := ?oi5T2) (v := ?v5T2) ?oi0_5T2 (by kernel_rfl) ?ff5T2 ?rr5T2 ?hq5T2 (Or.inl ⟨?hw5T2, ?hy5T2⟩) (by assumption) ?rest5T2
            case oi0_5T2 =>
              conv =>
                lhs
                whnf
                arg 1
                whnf
            case hq5T2 => exact fun _ _ _ h => h
            case ff5T2 => kernel_rfl
            case rr5T2 => kernel_rfl
            case hw5T2 => rfl
            case hy5T2 =>
              intro w hSw
              (try dsimp only at hSw)
              first
              | (go_simp; done)
              | (go_simp; with_reducible rfl)
            try simp only [Act.put, List.setIfInBounds_toArray, List.set_cons_zero, List.set_cons_succ]
            refine wpAnyH_take (i := 6) (oi := ?oi6T2) (v := ?v6T2) ?oi0_6T2 (by kernel_rfl) ?ff6T2 ?rr6T2 ?hq6T2 (Or.inl ⟨?hw6T2, ?hy6T2⟩) (by assumption) ?rest6T2
            case oi0_6T2 =>
              conv =>
                lhs
                whnf
                arg 1
                whnf
            case hq6T2 => exact fun _ _ _ h => h
            case ff6T2 => kernel_rfl
            case rr6T2 => kernel_rfl
            case hw6T2 => rfl
            case hy6T2 =>
              intro w hSw
              (try dsimp only at hSw)
              first
              | (go_simp; done)
              | (go_simp; with_reducible rfl)
            try simp only [Act.put, List.setIfInBounds_toArray, List.set_cons_zero, List.set_cons_succ]
            refine wpAnyH_take (i := 7) (oi := ?oi7T2) (v := ?v7T2) ?oi0_7T2 (by kernel_rfl) ?ff7T2 ?rr7T2 ?hq7T2 (Or.inl ⟨?hw7T2, ?hy7T2⟩) (by assumption) ?rest7T2
            case oi0_7T2 =>
              conv =>
                lhs
                whnf
                arg 1
                whnf
            case hq7T2 => exact fun _ _ _ h => h
            case ff7T2 => kernel_rfl
            case rr7T2 => kernel_rfl
            case hw7T2 => rfl
            case hy7T2 =>
              intro w hSw
              (try dsimp only at hSw)
              first
              | (go_simp; done)
              | (go_simp; with_reducible rfl)
            try simp only [Act.put, List.setIfInBounds_toArray, List.set_cons_zero, List.set_cons_succ]
            refine wpAnyH_take (i := 8) (oi := ?oi8T2) (v := ?v8T2) ?oi0_8T2 (by kernel_rfl) ?ff8T2 ?rr8T2 ?hq8T2 (Or.inl ⟨?hw8T2, ?hy8T2⟩) (by assumption) ?rest8T2
            case oi0_8T2 =>
              conv =>
                lhs
                whnf
                arg 1
                whnf
            case hq8T2 => exact fun _ _ _ h => h
            case ff8T2 => kernel_rfl
            case rr8T2 => kernel_rfl
            case hw8T2 => rfl
            case hy8T2 =>
              intro w hSw
              (try dsimp only at hSw)
              first
              | (go_simp; done)
              | (go_simp; with_reducible rfl)
            try simp only [Act.put, List.setIfInBounds_toArray, List.set_cons_zero, List.set_cons_succ]
            refine wpAnyH_take (i := 9) (oi := ?oi9T2) (v := ?v9T2) ?oi0_9T2 (by kernel_rfl) ?ff9T2 ?rr9T2 ?hq9T2 (Or.inl ⟨?hw9T2, ?hy9T2⟩) (by assumption) ?rest9T2
            case oi0_9T2 =>
              conv =>
                lhs
                whnf
                arg 1
                whnf
            case hq9T2 => exact fun _ _ _ h => h
            case ff9T2 => kernel_rfl
            case rr9T2 => kernel_rfl
            case hw9T2 => rfl
            case hy9T2 =>
              intro w hSw
              (try dsimp only at hSw)
              first
              | (go_simp; done)
              | (go_simp; with_reducible rfl)
            try simp only [Act.put, List.setIfInBounds_toArray, List.set_cons_zero, List.set_cons_succ]
            refine wpAnyH_take (i := 10) (oi := ?oi10T2) (v := ?v10T2) ?oi0_10T2 (by kernel_rfl) ?ff10T2 ?rr10T2 ?hq10T2 (Or.inl ⟨?hw10T2, ?hy10T2⟩) (by assumption) ?rest10T2
            case oi0_10T2 =>
              conv =>
                lhs
                whnf
                arg 1
                whnf
            case hq10T2 => exact fun _ _ _ h => h
            case ff10T2 => kernel_rfl
            case rr10T2 => kernel_rfl
            case hw10T2 => rfl
            case hy10T2 =>
              intro w hSw
              (try dsimp only at hSw)
              first
              | (go_simp; done)
              | (go_simp; with_reducible rfl)
            try simp only [Act.put, List.setIfInBounds_toArray, List.set_cons_zero, List.set_cons_succ]
            refine wpAnyH_take (i := 11) (oi := ?oi11T2) (v := ?v11T2) ?oi0_11T2 (by kernel_rfl) ?ff11T2 ?rr11T2 ?hq11T2 (Or.inl ⟨?hw11T2, ?hy11T2⟩) (by assumption) ?rest11T2
            case oi0_11T2 =>
              conv =>
                lhs
                whnf
                arg 1
                whnf
            case hq11T2 => exact fun _ _ _ h => h
            case ff11T2 => kernel_rfl
            case rr11T2 => kernel_rfl
            case hw11T2 => rfl
            case hy11T2 =>
              intro w hSw
              (try dsimp only at hSw)
              first
              | (go_simp; done)
              | (go_simp; with_reducible rfl)
            try simp only [Act.put, List.setIfInBounds_toArray, List.set_cons_zero, List.set_cons_succ]
            refine wpAnyH_take (i := 12) (oi := ?oi12T2) (v := ?v12T2) ?oi0_12T2 (by kernel_rfl) ?ff12T2 ?rr12T2 ?hq12T2 (Or.inl ⟨?hw12T2, ?hy12T2⟩) (by assumption) ?rest12T2
            case oi0_12T2 =>
              conv =>
                lhs
                whnf
                arg 1
                whnf
            case hq12T2 => exact fun _ _ _ h => h
            case ff12T2 => kernel_rfl
            case rr12T2 => kernel_rfl
            case hw12T2 => rfl
            case hy12T2 =>
              intro w hSw
              (try dsimp only at hSw)
              first
              | (go_simp; done)
              | (go_simp; with_reducible rfl)
            try simp only [Act.put, List.setIfInBounds_toArray, List.set_cons_zero, List.set_cons_succ]
            refine wpAnyH_take (i := 13) (oi := ?oi13T2) (v := ?v13T2) ?oi0_13T2 (by kernel_rfl) ?ff13T2 ?rr13T2 ?hq13T2 (Or.inl ⟨?hw13T2, ?hy13T2⟩) (by assumption) ?rest13T2
            case oi0_13T2 =>
              conv =>
                lhs
                whnf
                arg 1
                whnf
            case hq13T2 => exact fun _ _ _ h => h
            case ff13T2 => kernel_rfl
            case rr13T2 => kernel_rfl
            case hw13T2 => rfl
            case hy13T2 =>
              intro w hSw
              (try dsimp only at hSw)
              first
              | (go_simp; done)
              | (go_simp; with_reducible rfl)
            try simp only [Act.put, List.setIfInBounds_toArray, List.set_cons_zero, List.set_cons_succ]
            refine wpAnyH_take (i := 14) (oi := ?oi14T2) (v := ?v14T2) ?oi0_14T2 (by kernel_rfl) ?ff14T2 ?rr14T2 ?hq14T2 (Or.inl ⟨?hw14T2, ?hy14T2⟩) (by assumption) ?rest14T2
            case oi0_14T2 =>
              conv =>
                lhs
                whnf
                arg 1
                whnf
            case hq14T2 => exact fun _ _ _ h => h
            case ff14T2 => kernel_rfl
            case rr14T2 => kernel_rfl
            case hw14T2 => rfl
            case hy14T2 =>
              intro w hSw
              (try dsimp only at hSw)
              first
              | (go_simp; done)
              | (go_simp; with_reducible rfl)
            try simp only [Act.put, List.setIfInBounds_toArray, List.set_cons_zero, List.set_cons_succ]
            refine wpAnyH_take (i := 15) (oi := ?oi15T2) (v := ?v15T2) ?oi0_15T2 (by kernel_rfl) ?ff15T2 ?rr15T2 ?hq15T2 (Or.inl ⟨?hw15T2, ?hy15T2⟩) (by assumption) ?rest15T2
            case oi0_15T2 =>
              conv =>
                lhs
                whnf
                arg 1
                whnf
            case hq15T2 => exact fun _ _ _ h => h
            case ff15T2 => kernel_rfl
            case rr15T2 => kernel_rfl
            case hw15T2 => rfl
            case hy15T2 =>
              intro w hSw
              (try dsimp only at hSw)
              first
              | (go_simp; done)
              | (go_simp; with_reducible rfl)
            try simp only [Act.put, List.setIfInBounds_toArray, List.set_cons_zero, List.set_cons_succ]
            refine wpAnyH_take (i := 16) (oi := ?oi16T2) (v := ?v16T2) ?oi0_16T2 (by kernel_rfl) ?ff16T2 ?rr16T2 ?hq16T2 (Or.inl ⟨?hw16T2, ?hy16T2⟩) (by assumption) ?rest16T2
            case oi0_16T2 =>
              conv =>
                lhs
                whnf
                arg 1
                whnf
            case hq16T2 => exact fun _ _ _ h => h
            case ff16T2 => kernel_rfl
            case rr16T2 => kernel_rfl
            case hw16T2 => rfl
            case hy16T2 =>
              intro w hSw
              (try dsimp only at hSw)
              first
              | (go_simp; done)
              | (go_simp; with_reducible rfl)
            try simp only [Act.put, List.setIfInBounds_toArray, List.set_cons_zero, List.set_cons_succ]
            refine wpAnyH_done (by kernel_rfl) ?_ _
            go_wp2_with fail
            go_roundw
            case rel => exact ⟨q + 1, decide (y = z), by omega, rfl, by go_num, hide (by rw [HTK.out, ← hF.out]; simp), hv.out.drew⟩
            case measure => simp [intOf] <;> omega
        · have hqi : ¬ (q : Int) < pn := by omega
          have hF2 := hF.out
          rw [List.take_of_length_le (by have := HPN.out; omega)] at hF2
          have HF2 := hide hF2
          have f3 := (HC0.out wq hv.out).2.2.1
          have f4 := (HC0.out wq hv.out).2.2.2
          have f5 := (HC0.out wq hv.out).2.1
          clear hF hF2
          cases F with
          | false =>
            obtain rfl := HR.out.symm.trans (if_neg (fun h => by have := h.2.2; rw [HF.out.1, ← HF2.out] at this; simp at this))
            go_wp2_with fail
            go_ret2
            exact ⟨rfl, hv.out⟩
          | true =>
          have hz9 := len_ok HOK.out (of_decide_eq_true HF2.out.symm)
          obtain ⟨hz1, hz2⟩ := hz9
          have haw : 0 ≤ awayS z p.want ∧ awayS z p.want ≤ 3600 := by unfold awayS; omega
          obtain ⟨aw, EW⟩ : ∃ aw, Hid (awayS z p.want = aw) := ⟨_, rfl⟩
          rw [EW.out] at haw
          obtain ⟨ha1, ha2⟩ := haw
          have hw3 : IntKind.i64.wrap (C + aw) = C + aw := Go.IntWalk.i64_in _ (by omega)
          have HAW := hide (show ∀ W, _ from fun W => raway_any z p.want W (by omega) (by omega))
          have HAW2 := HAW.out
          simp only [EW.out] at HAW2
          have HA := hide HAW2
          clear HAW HAW2
          by_cases hmt : meetsS p A = true
          · have G := HF.out
            rw [hmt, ← HF2.out] at G
            simp only [Bool.true_and] at G
            have HG := hide G
            have hpj : p.join < 0 ∨ p.join = A := by
              unfold meetsS at hmt
              simpa using hmt
            clear G hmt
            by_cases hj0 : p.join < 0
            · have hj1 : ¬ 0 ≤ p.join := by omega
              clear hpj
              go_wp2_with fail
              refine wp_region_held_drew (S := (fun w' => w'.cell? ⟨b, o + k * 3 + 1, none⟩ = some (.int .i64 p.want) ∧ w'.cell? ⟨cb, co + k, none⟩ = some (.int .i64 z))) (by kernel_rfl) (by exact ⟨f5, f4⟩) (fun hHeld => ?_)
              refine wpAnyH_take (i := 0) (oi := ?oi0T3) (v := ?v0T3) ?oi0_0T3 (by kernel_rfl) ?ff0T3 ?rr0T3 ?hq0T3 (Or.inl ⟨?hw0T3, ?hy0T3⟩) (by assumption) ?rest0T3
              case oi0_0T3 =>
                conv =>
                  lhs
                  whnf
                  arg 1
                  whnf
              case hq0T3 => exact fun _ _ _ h => h
              case ff0T3 => kernel_rfl
              case rr0T3 => kernel_rfl
              case hw0T3 => rfl
              case hy0T3 =>
                intro w hSw
                (try dsimp only at hSw)
                first
                | (go_simp; done)
                | (go_simp; with_reducible rfl)
              try simp only [Act.put, List.setIfInBounds_toArray, List.set_cons_zero, List.set_cons_succ]
              refine wpAnyH_take (i := 1) (oi := ?oi1T3) (v := ?v1T3) ?oi0_1T3 (by kernel_rfl) ?ff1T3 ?rr1T3 ?hq1T3 (Or.inl ⟨?hw1T3, ?hy1T3⟩) (by assumption) ?rest1T3
              case oi0_1T3 =>
                conv =>
                  lhs
                  whnf
                  arg 1
                  whnf
              case hq1T3 => exact fun _ _ _ h => h
              case ff1T3 => kernel_rfl
              case rr1T3 => kernel_rfl
              case hw1T3 => rfl
              case hy1T3 =>
                intro w hSw
                (try dsimp only at hSw)
                first
                | (go_simp; done)
                | (go_simp; with_reducible rfl)
              try simp only [Act.put, List.setIfInBounds_toArray, List.set_cons_zero, List.set_cons_succ]
              refine wpAnyH_take (i := 2) (oi := ?oi2T3) (v := ?v2T3) ?oi0_2T3 (by kernel_rfl) ?ff2T3 ?rr2T3 ?hq2T3 (Or.inl ⟨?hw2T3, ?hy2T3⟩) (by assumption) ?rest2T3
              case oi0_2T3 =>
                conv =>
                  lhs
                  whnf
                  arg 1
                  whnf
              case hq2T3 => exact fun _ _ _ h => h
              case ff2T3 => kernel_rfl
              case rr2T3 => kernel_rfl
              case hw2T3 => rfl
              case hy2T3 =>
                intro w hSw
                (try dsimp only at hSw)
                first
                | (go_simp; done)
                | (go_simp; with_reducible rfl)
              try simp only [Act.put, List.setIfInBounds_toArray, List.set_cons_zero, List.set_cons_succ]
              refine wpAnyH_take (i := 3) (oi := ?oi3T3) (v := ?v3T3) ?oi0_3T3 (by kernel_rfl) ?ff3T3 ?rr3T3 ?hq3T3 (Or.inl ⟨?hw3T3, ?hy3T3⟩) (by assumption) ?rest3T3
              case oi0_3T3 =>
                conv =>
                  lhs
                  whnf
                  arg 1
                  whnf
              case hq3T3 => exact fun _ _ _ h => h
              case ff3T3 => kernel_rfl
              case rr3T3 => kernel_rfl
              case hw3T3 => rfl
              case hy3T3 =>
                intro w hSw
                (try dsimp only at hSw)
                first
                | (go_simp; done)
                | (go_simp; with_reducible rfl)
              try simp only [Act.put, List.setIfInBounds_toArray, List.set_cons_zero, List.set_cons_succ]
              refine wpAnyH_take (i := 4) (oi := ?oi4T3) (v := ?v4T3) ?oi0_4T3 (by kernel_rfl) ?ff4T3 ?rr4T3 ?hq4T3 (Or.inl ⟨?hw4T3, ?hy4T3⟩) (by assumption) ?rest4T3
              case oi0_4T3 =>
                conv =>
                  lhs
                  whnf
                  arg 1
                  whnf
              case hq4T3 => exact fun _ _ _ h => h
              case ff4T3 => kernel_rfl
              case rr4T3 => kernel_rfl
              case hw4T3 => rfl
              case hy4T3 =>
                intro w hSw
                (try dsimp only at hSw)
                first
                | (go_simp; done)
                | (go_simp; with_reducible rfl)
              try simp only [Act.put, List.setIfInBounds_toArray, List.set_cons_zero, List.set_cons_succ]
              refine wpAnyH_take (i := 5) (oi := ?oi5T3) (v := ?v5T3) ?oi0_5T3 (by kernel_rfl) ?ff5T3 ?rr5T3 ?hq5T3 (Or.inl ⟨?hw5T3, ?hy5T3⟩) (by assumption) ?rest5T3
              case oi0_5T3 =>
                conv =>
                  lhs
                  whnf
                  arg 1
                  whnf
              case hq5T3 => exact fun _ _ _ h => h
              case ff5T3 => kernel_rfl
              case rr5T3 => kernel_rfl
              case hw5T3 => rfl
              case hy5T3 =>
                intro w hSw
                (try dsimp only at hSw)
                first
                | (go_simp; done)
                | (go_simp; with_reducible rfl)
              try simp only [Act.put, List.setIfInBounds_toArray, List.set_cons_zero, List.set_cons_succ]
              refine wpAnyH_take (i := 6) (oi := ?oi6T3) (v := ?v6T3) ?oi0_6T3 (by kernel_rfl) ?ff6T3 ?rr6T3 ?hq6T3 (Or.inl ⟨?hw6T3, ?hy6T3⟩) (by assumption) ?rest6T3
              case oi0_6T3 =>
                conv =>
                  lhs
                  whnf
                  arg 1
                  whnf
              case hq6T3 => exact fun _ _ _ h => h
              case ff6T3 => kernel_rfl
              case rr6T3 => kernel_rfl
              case hw6T3 => rfl
              case hy6T3 =>
                intro w hSw
                (try dsimp only at hSw)
                first
                | (go_simp; done)
                | (go_simp; with_reducible rfl)
              try simp only [Act.put, List.setIfInBounds_toArray, List.set_cons_zero, List.set_cons_succ]
              refine wpAnyH_take (i := 7) (oi := ?oi7T3) (v := ?v7T3) ?oi0_7T3 (by kernel_rfl) ?ff7T3 ?rr7T3 ?hq7T3 (Or.inl ⟨?hw7T3, ?hy7T3⟩) (by assumption) ?rest7T3
              case oi0_7T3 =>
                conv =>
                  lhs
                  whnf
                  arg 1
                  whnf
              case hq7T3 => exact fun _ _ _ h => h
              case ff7T3 => kernel_rfl
              case rr7T3 => kernel_rfl
              case hw7T3 => rfl
              case hy7T3 =>
                intro w hSw
                (try dsimp only at hSw)
                first
                | (go_simp; done)
                | (go_simp; with_reducible rfl)
              try simp only [Act.put, List.setIfInBounds_toArray, List.set_cons_zero, List.set_cons_succ]
              refine wpAnyH_take (i := 8) (oi := ?oi8T3) (v := ?v8T3) ?oi0_8T3 (by kernel_rfl) ?ff8T3 ?rr8T3 ?hq8T3 (Or.inl ⟨?hw8T3, ?hy8T3⟩) (by assumption) ?rest8T3
              case oi0_8T3 =>
                conv =>
                  lhs
                  whnf
                  arg 1
                  whnf
              case hq8T3 => exact fun _ _ _ h => h
              case ff8T3 => kernel_rfl
              case rr8T3 => kernel_rfl
              case hw8T3 => rfl
              case hy8T3 =>
                intro w hSw
                (try dsimp only at hSw)
                first
                | (go_simp; done)
                | (go_simp; with_reducible rfl)
              try simp only [Act.put, List.setIfInBounds_toArray, List.set_cons_zero, List.set_cons_succ]
              refine wpAnyH_take (i := 9) (oi := ?oi9T3) (v := ?v9T3) ?oi0_9T3 (by kernel_rfl) ?ff9T3 ?rr9T3 ?hq9T3 (Or.inl ⟨?hw9T3, ?hy9T3⟩) (by assumption) ?rest9T3
              case oi0_9T3 =>
                conv =>
                  lhs
                  whnf
                  arg 1
                  whnf
              case hq9T3 => exact fun _ _ _ h => h
              case ff9T3 => kernel_rfl
              case rr9T3 => kernel_rfl
              case hw9T3 => rfl
              case hy9T3 =>
                intro w hSw
                (try dsimp only at hSw)
                first
                | (go_simp; done)
                | (go_simp; with_reducible rfl)
              try simp only [Act.put, List.setIfInBounds_toArray, List.set_cons_zero, List.set_cons_succ]
              refine wpAnyH_ready (rs := [10]) (by kernel_rfl) (by simp) (AllReadyH.cons (o := ?oi10T3) ?oi0_10T3 (fun K hK => ?_) AllReadyH.nil)
              case oi0_10T3 =>
                conv =>
                  lhs
                  whnf
                  arg 1
                  whnf
              go_simp
              refine (HA.out _).mono ?_
              rintro e w' ⟨rfl, rfl⟩
              (try dsimp only)
              refine hK.out _ _ (by assumption) (fun hHeld => ?_)
              clear hK K
              try simp only [Act.put, List.setIfInBounds_toArray, List.set_cons_zero, List.set_cons_succ]
              refine wpAnyH_take (i := 11) (oi := ?oi11T3) (v := ?v11T3) ?oi0_11T3 (by kernel_rfl) ?ff11T3 ?rr11T3 ?hq11T3 (Or.inl ⟨?hw11T3, ?hy11T3⟩) (by assumption) ?rest11T3
              case oi0_11T3 =>
                conv =>
                  lhs
                  whnf
                  arg 1
                  whnf
              case hq11T3 => exact fun _ _ _ h => h
              case ff11T3 => kernel_rfl
              case rr11T3 => kernel_rfl
              case hw11T3 => rfl
              case hy11T3 =>
                intro w hSw
                (try dsimp only at hSw)
                first
                | (go_simp; done)
                | (go_simp; with_reducible rfl)
              try simp only [Act.put, List.setIfInBounds_toArray, List.set_cons_zero, List.set_cons_succ]
              refine wpAnyH_take (i := 12) (oi := ?oi12T3) (v := ?v12T3) ?oi0_12T3 (by kernel_rfl) ?ff12T3 ?rr12T3 ?hq12T3 (Or.inl ⟨?hw12T3, ?hy12T3⟩) (by assumption) ?rest12T3
              case oi0_12T3 =>
                conv =>
                  lhs
                  whnf
                  arg 1
                  whnf
              case hq12T3 => exact fun _ _ _ h => h
              case ff12T3 => kernel_rfl
              case rr12T3 => kernel_rfl
              case hw12T3 => rfl
              case hy12T3 =>
                intro w hSw
                (try dsimp only at hSw)
                first
                | (go_simp; done)
                | (go_simp; with_reducible rfl)
              try simp only [Act.put, List.setIfInBounds_toArray, List.set_cons_zero, List.set_cons_succ]
              refine wpAnyH_done (by kernel_rfl) ?_ _
              go_wp2_with fail
              go_roundw
              case rel => exact ⟨k + 1, A + z, C + aw, by omega, by go_num, by go_num, by go_num, hv.out.drew, by omega, by omega, HG.out.1, by rw [HG.out.2, EW.out]; omega⟩
              case measure => simp [intOf] <;> omega
            · have hj2 := hpj.resolve_left hj0
              rw [hj2] at f3
              have hj3 : 0 ≤ A := hA1
              clear hpj hj0 hj2
              go_wp2_with fail
              refine wp_region_held_drew (S := (fun w' => w'.cell? ⟨b, o + k * 3 + 1, none⟩ = some (.int .i64 p.want) ∧ w'.cell? ⟨cb, co + k, none⟩ = some (.int .i64 z))) (by kernel_rfl) (by exact ⟨f5, f4⟩) (fun hHeld => ?_)
              refine wpAnyH_take (i := 0) (oi := ?oi0T4) (v := ?v0T4) ?oi0_0T4 (by kernel_rfl) ?ff0T4 ?rr0T4 ?hq0T4 (Or.inl ⟨?hw0T4, ?hy0T4⟩) (by assumption) ?rest0T4
              case oi0_0T4 =>
                conv =>
                  lhs
                  whnf
                  arg 1
                  whnf
              case hq0T4 => exact fun _ _ _ h => h
              case ff0T4 => kernel_rfl
              case rr0T4 => kernel_rfl
              case hw0T4 => rfl
              case hy0T4 =>
                intro w hSw
                (try dsimp only at hSw)
                first
                | (go_simp; done)
                | (go_simp; with_reducible rfl)
              try simp only [Act.put, List.setIfInBounds_toArray, List.set_cons_zero, List.set_cons_succ]
              refine wpAnyH_take (i := 1) (oi := ?oi1T4) (v := ?v1T4) ?oi0_1T4 (by kernel_rfl) ?ff1T4 ?rr1T4 ?hq1T4 (Or.inl ⟨?hw1T4, ?hy1T4⟩) (by assumption) ?rest1T4
              case oi0_1T4 =>
                conv =>
                  lhs
                  whnf
                  arg 1
                  whnf
              case hq1T4 => exact fun _ _ _ h => h
              case ff1T4 => kernel_rfl
              case rr1T4 => kernel_rfl
              case hw1T4 => rfl
              case hy1T4 =>
                intro w hSw
                (try dsimp only at hSw)
                first
                | (go_simp; done)
                | (go_simp; with_reducible rfl)
              try simp only [Act.put, List.setIfInBounds_toArray, List.set_cons_zero, List.set_cons_succ]
              refine wpAnyH_take (i := 2) (oi := ?oi2T4) (v := ?v2T4) ?oi0_2T4 (by kernel_rfl) ?ff2T4 ?rr2T4 ?hq2T4 (Or.inl ⟨?hw2T4, ?hy2T4⟩) (by assumption) ?rest2T4
              case oi0_2T4 =>
                conv =>
                  lhs
                  whnf
                  arg 1
                  whnf
              case hq2T4 => exact fun _ _ _ h => h
              case ff2T4 => kernel_rfl
              case rr2T4 => kernel_rfl
              case hw2T4 => rfl
              case hy2T4 =>
                intro w hSw
                (try dsimp only at hSw)
                first
                | (go_simp; done)
                | (go_simp; with_reducible rfl)
              try simp only [Act.put, List.setIfInBounds_toArray, List.set_cons_zero, List.set_cons_succ]
              refine wpAnyH_take (i := 3) (oi := ?oi3T4) (v := ?v3T4) ?oi0_3T4 (by kernel_rfl) ?ff3T4 ?rr3T4 ?hq3T4 (Or.inl ⟨?hw3T4, ?hy3T4⟩) (by assumption) ?rest3T4
              case oi0_3T4 =>
                conv =>
                  lhs
                  whnf
                  arg 1
                  whnf
              case hq3T4 => exact fun _ _ _ h => h
              case ff3T4 => kernel_rfl
              case rr3T4 => kernel_rfl
              case hw3T4 => rfl
              case hy3T4 =>
                intro w hSw
                (try dsimp only at hSw)
                first
                | (go_simp; done)
                | (go_simp; with_reducible rfl)
              try simp only [Act.put, List.setIfInBounds_toArray, List.set_cons_zero, List.set_cons_succ]
              refine wpAnyH_take (i := 4) (oi := ?oi4T4) (v := ?v4T4) ?oi0_4T4 (by kernel_rfl) ?ff4T4 ?rr4T4 ?hq4T4 (Or.inl ⟨?hw4T4, ?hy4T4⟩) (by assumption) ?rest4T4
              case oi0_4T4 =>
                conv =>
                  lhs
                  whnf
                  arg 1
                  whnf
              case hq4T4 => exact fun _ _ _ h => h
              case ff4T4 => kernel_rfl
              case rr4T4 => kernel_rfl
              case hw4T4 => rfl
              case hy4T4 =>
                intro w hSw
                (try dsimp only at hSw)
                first
                | (go_simp; done)
                | (go_simp; with_reducible rfl)
              try simp only [Act.put, List.setIfInBounds_toArray, List.set_cons_zero, List.set_cons_succ]
              refine wpAnyH_take (i := 5) (oi := ?oi5T4) (v := ?v5T4) ?oi0_5T4 (by kernel_rfl) ?ff5T4 ?rr5T4 ?hq5T4 (Or.inl ⟨?hw5T4, ?hy5T4⟩) (by assumption) ?rest5T4
              case oi0_5T4 =>
                conv =>
                  lhs
                  whnf
                  arg 1
                  whnf
              case hq5T4 => exact fun _ _ _ h => h
              case ff5T4 => kernel_rfl
              case rr5T4 => kernel_rfl
              case hw5T4 => rfl
              case hy5T4 =>
                intro w hSw
                (try dsimp only at hSw)
                first
                | (go_simp; done)
                | (go_simp; with_reducible rfl)
              try simp only [Act.put, List.setIfInBounds_toArray, List.set_cons_zero, List.set_cons_succ]
              refine wpAnyH_take (i := 6) (oi := ?oi6T4) (v := ?v6T4) ?oi0_6T4 (by kernel_rfl) ?ff6T4 ?rr6T4 ?hq6T4 (Or.inl ⟨?hw6T4, ?hy6T4⟩) (by assumption) ?rest6T4
              case oi0_6T4 =>
                conv =>
                  lhs
                  whnf
                  arg 1
                  whnf
              case hq6T4 => exact fun _ _ _ h => h
              case ff6T4 => kernel_rfl
              case rr6T4 => kernel_rfl
              case hw6T4 => rfl
              case hy6T4 =>
                intro w hSw
                (try dsimp only at hSw)
                first
                | (go_simp; done)
                | (go_simp; with_reducible rfl)
              try simp only [Act.put, List.setIfInBounds_toArray, List.set_cons_zero, List.set_cons_succ]
              refine wpAnyH_take (i := 7) (oi := ?oi7T4) (v := ?v7T4) ?oi0_7T4 (by kernel_rfl) ?ff7T4 ?rr7T4 ?hq7T4 (Or.inl ⟨?hw7T4, ?hy7T4⟩) (by assumption) ?rest7T4
              case oi0_7T4 =>
                conv =>
                  lhs
                  whnf
                  arg 1
                  whnf
              case hq7T4 => exact fun _ _ _ h => h
              case ff7T4 => kernel_rfl
              case rr7T4 => kernel_rfl
              case hw7T4 => rfl
              case hy7T4 =>
                intro w hSw
                (try dsimp only at hSw)
                first
                | (go_simp; done)
                | (go_simp; with_reducible rfl)
              try simp only [Act.put, List.setIfInBounds_toArray, List.set_cons_zero, List.set_cons_succ]
              refine wpAnyH_take (i := 8) (oi := ?oi8T4) (v := ?v8T4) ?oi0_8T4 (by kernel_rfl) ?ff8T4 ?rr8T4 ?hq8T4 (Or.inl ⟨?hw8T4, ?hy8T4⟩) (by assumption) ?rest8T4
              case oi0_8T4 =>
                conv =>
                  lhs
                  whnf
                  arg 1
                  whnf
              case hq8T4 => exact fun _ _ _ h => h
              case ff8T4 => kernel_rfl
              case rr8T4 => kernel_rfl
              case hw8T4 => rfl
              case hy8T4 =>
                intro w hSw
                (try dsimp only at hSw)
                first
                | (go_simp; done)
                | (go_simp; with_reducible rfl)
              try simp only [Act.put, List.setIfInBounds_toArray, List.set_cons_zero, List.set_cons_succ]
              refine wpAnyH_take (i := 9) (oi := ?oi9T4) (v := ?v9T4) ?oi0_9T4 (by kernel_rfl) ?ff9T4 ?rr9T4 ?hq9T4 (Or.inl ⟨?hw9T4, ?hy9T4⟩) (by assumption) ?rest9T4
              case oi0_9T4 =>
                conv =>
                  lhs
                  whnf
                  arg 1
                  whnf
              case hq9T4 => exact fun _ _ _ h => h
              case ff9T4 => kernel_rfl
              case rr9T4 => kernel_rfl
              case hw9T4 => rfl
              case hy9T4 =>
                intro w hSw
                (try dsimp only at hSw)
                first
                | (go_simp; done)
                | (go_simp; with_reducible rfl)
              try simp only [Act.put, List.setIfInBounds_toArray, List.set_cons_zero, List.set_cons_succ]
              refine wpAnyH_ready (rs := [10]) (by kernel_rfl) (by simp) (AllReadyH.cons (o := ?oi10T4) ?oi0_10T4 (fun K hK => ?_) AllReadyH.nil)
              case oi0_10T4 =>
                conv =>
                  lhs
                  whnf
                  arg 1
                  whnf
              go_simp
              refine (HA.out _).mono ?_
              rintro e w' ⟨rfl, rfl⟩
              (try dsimp only)
              refine hK.out _ _ (by assumption) (fun hHeld => ?_)
              clear hK K
              try simp only [Act.put, List.setIfInBounds_toArray, List.set_cons_zero, List.set_cons_succ]
              refine wpAnyH_take (i := 11) (oi := ?oi11T4) (v := ?v11T4) ?oi0_11T4 (by kernel_rfl) ?ff11T4 ?rr11T4 ?hq11T4 (Or.inl ⟨?hw11T4, ?hy11T4⟩) (by assumption) ?rest11T4
              case oi0_11T4 =>
                conv =>
                  lhs
                  whnf
                  arg 1
                  whnf
              case hq11T4 => exact fun _ _ _ h => h
              case ff11T4 => kernel_rfl
              case rr11T4 => kernel_rfl
              case hw11T4 => rfl
              case hy11T4 =>
                intro w hSw
                (try dsimp only at hSw)
                first
                | (go_simp; done)
                | (go_simp; with_reducible rfl)
              try simp only [Act.put, List.setIfInBounds_toArray, List.set_cons_zero, List.set_cons_succ]
              refine wpAnyH_take (i := 12) (oi := ?oi12T4) (v := ?v12T4) ?oi0_12T4 (by kernel_rfl) ?ff12T4 ?rr12T4 ?hq12T4 (Or.inl ⟨?hw12T4, ?hy12T4⟩) (by assumption) ?rest12T4
              case oi0_12T4 =>
                conv =>
                  lhs
                  whnf
                  arg 1
                  whnf
              case hq12T4 => exact fun _ _ _ h => h
              case ff12T4 => kernel_rfl
              case rr12T4 => kernel_rfl
              case hw12T4 => rfl
              case hy12T4 =>
                intro w hSw
                (try dsimp only at hSw)
                first
                | (go_simp; done)
                | (go_simp; with_reducible rfl)
              try simp only [Act.put, List.setIfInBounds_toArray, List.set_cons_zero, List.set_cons_succ]
              refine wpAnyH_done (by kernel_rfl) ?_ _
              go_wp2_with fail
              go_roundw
              case rel => exact ⟨k + 1, A + z, C + aw, by omega, by go_num, by go_num, by go_num, hv.out.drew, by omega, by omega, HG.out.1, by rw [HG.out.2, EW.out]; omega⟩
              case measure => simp [intOf] <;> omega
          · obtain rfl := HR.out.symm.trans (if_neg (fun h => by have := h.2.2; rw [HF.out.1] at this; simp [hmt] at this))
            have hpj : 0 ≤ p.join ∧ ¬ p.join = A := by
              unfold meetsS at hmt
              simp at hmt
              omega
            obtain ⟨hpj1, hpj2⟩ := hpj
            obtain ⟨jn, hjn⟩ : ∃ jn, p.join = jn := ⟨_, rfl⟩
            rw [hjn] at f3 hpj1 hpj2
            have hjb : (jn != A) = true := by simpa using hpj2
            clear hmt hjn hpj2
            go_wp2_with fail
            go_ret2
            exact ⟨rfl, hv.out⟩
    · obtain rfl : k = cn := by omega
      have F0 := hf.out
      rw [List.drop_of_length_le (by have := HZ.out; omega), List.drop_of_length_le (by have := HCZ.out; omega)] at F0
      have HF := hide F0
      clear F0
      by_cases hAt : A = t
      · have HAT := hide hAt
        obtain rfl := HR.out.symm.trans (if_pos ⟨of_decide_eq_true H1.out, by rw [HZ.out, HCZ.out], by rw [HF.out.1]; simp [fitsS, HAT.out]⟩)
        subst hAt
        go_wp2_with fail
        go_ret2
        exact ⟨by rw [HF.out.2]; simp [costS], hu.out⟩
      · obtain rfl := HR.out.symm.trans (if_neg (fun h => by have := h.2.2; rw [HF.out.1] at this; simp [fitsS, hAt] at this))
        have hAb : (A != t) = true := by simpa using hAt
        clear hAt
        go_wp2_with fail
        go_ret2
        exact ⟨rfl, hu.out⟩
end Go.Proofs.Yteehjciepccomaa
