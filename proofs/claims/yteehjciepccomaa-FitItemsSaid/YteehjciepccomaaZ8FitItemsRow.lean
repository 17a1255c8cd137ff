/-
  fit.Check.
-/
import Derived.Test.YteehjciepccomaaZ4FitItemsRow
import Derived.Deep.RegionHeld3

namespace Go.Proofs.Yteehjciepccomaa
open Go.RowKit
set_option maxRecDepth 100000
set_option maxHeartbeats 1000000
theorem check_any {n₀ : Nat} (a : Option Addr) (c : Nat) (l : List Pc) (t : Int) (ca : Option Addr) (cc : Nat) (ch : List Int) (w : World) (hI : PcsAt n₀ w a l) (hJ : Ints n₀ w (.slice ca ch.length cc) ch) (hn : n₀ ≤ w.heap.size) (hm : l.length ≤ maxLen) (hm2 : ch.length ≤ maxLen) :
    Calls Try.prog 28 #[.slice a l.length c, .int .i64 t, .slice ca ch.length cc] w fun e w' => e = .returned (if ValidS l t ∧ ch.length = l.length ∧ fitsS t l 0 ch = true then .tuple #[.int .i64 (costS l ch), .bool true] else .tuple #[.int .i64 0, .bool false]) ∧ Upd [] w w' := by
  have V := valid_any a c l t w hI hn hm
  have HI := hide hI
  have HJ := hide hJ.form.2
  have hm' : l.length ≤ 9223372036854775807 := by unfold maxLen at hm; omega
  have hm2' : ch.length ≤ 9223372036854775807 := by unfold maxLen at hm2; omega
  obtain ⟨n, hz⟩ : ∃ n, l.length = n := ⟨_, rfl⟩
  obtain ⟨cn, hcz⟩ : ∃ n, ch.length = n := ⟨_, rfl⟩
  obtain ⟨x1, h1⟩ : ∃ r, decide (ValidS l t) = r := ⟨_, rfl⟩
  obtain ⟨r, hr⟩ : ∃ r, (if ValidS l t ∧ ch.length = l.length ∧ fitsS t l 0 ch = true then Value.tuple #[.int .i64 (costS l ch), .bool true] else .tuple #[.int .i64 0, .bool false]) = r := ⟨_, rfl⟩
  rw [hr]
  rw [h1] at V
  rw [hz] at hm' V ⊢
  rw [hcz] at hm2' ⊢
  have HV := hide V
  have H1 := hide h1
  have HR := hide hr
  have HZ := hide hz
  have HCZ := hide hcz
  clear hI hJ hm hm2 V h1 hr hz hcz
  go_enter Try.func28, Try.ntmps28
  go_wp2_with fail
  refine HV.out.mono ?_
  rintro e w1 ⟨rfl, u1⟩
  have U1 := hide u1
  clear u1
  cases x1 with
  | false =>
    obtain rfl := HR.out.symm.trans (if_neg (fun h => of_decide_eq_false H1.out h.1))
    go_wp2_with fail
    go_ret2
    exact ⟨rfl, U1.out⟩
  | true =>
  by_cases hcn : cn = n
  case neg =>
    obtain rfl := HR.out.symm.trans (if_neg (fun h => hcn (by rw [← HZ.out, ← HCZ.out]; exact h.2.1)))
    have hcn' : ¬ (cn : Int) = n := by omega
    go_wp2_with fail
    go_ret2
    exact ⟨rfl, U1.out⟩
  subst hcn
  go_wp2_with fail
  go_loopw [8, 9, 25] (fun x y i wr => ∃ (k : Nat) (A C : Int), k ≤ cn ∧ i = .int .i64 k ∧ x = .int .i64 A ∧ y = .int .i64 C ∧ Hid (Upd [] w wr) ∧ (0 ≤ A ∧ A ≤ 3600 * k) ∧ (0 ≤ C ∧ C ≤ 3600 * k) ∧ Hid (fitsS t l 0 ch = fitsS t (l.drop k) A (ch.drop k) ∧ costS l ch = C + costS (l.drop k) (ch.drop k)))
    (fun _ _ i _ => cn - (intOf i).toNat)
  case atStart => exact ⟨0, 0, 0, Nat.zero_le _, rfl, rfl, rfl, U1, by omega, by omega, rfl, by simp⟩
  case round =>
    obtain ⟨k, A, C, hk, rfl, rfl, rfl, hu, ⟨hA1, hA2⟩, ⟨hC1, hC2⟩, hf⟩ := hrel
    by_cases hlt : k < cn
    · obtain ⟨p, hp⟩ : ∃ p, l[k]? = some p := ⟨_, List.getElem?_eq_getElem (by rw [HZ.out]; exact hlt)⟩
      obtain ⟨b, o, pa, pn, pc, ea, hb, hi, hpm, c0, c1, c2⟩ := (HI.out.upd hu.out hn (by simp)) k p hp
      obtain ⟨z, hzz⟩ : ∃ z, ch[k]? = some z := ⟨_, List.getElem?_eq_getElem (by rw [HCZ.out]; exact hlt)⟩
      obtain ⟨cb, co, eb, hcb, hcz⟩ := HJ.out k z hzz
      subst ea eb
      have HP := hide hp
      have HZZ := hide hzz
      have hok := (of_decide_eq_true H1.out).2.2 p (List.mem_of_getElem? hp)
      have HOK := hide hok
      have HL := hide (show pn ≤ 1000000000 by have := hi.form.1; have := hok.1; omega)
      obtain ⟨hw1, hw2⟩ := hok.2.1
      have U2 := hu.out.alloc (.cells #[.slice pa pn pc, .int .i64 p.want, .int .i64 p.join] 50)
      have HU2 := hide U2.drew
      have HI0 := hide (show Ints n₀ w (.slice pa pn pc) p.lens from by
        obtain ⟨_, _, pa', pn', pc', e0, h1, h2, h3, d0, d1, d2⟩ := HI.out k p hp
        obtain ⟨rfl, rfl⟩ := by simpa using e0
        have e1 := (hu.out.cell (p := ⟨b, o + k * 3, none⟩) (Nat.lt_of_lt_of_le h1 hn) (by simp)).trans d0
        rw [c0] at e1
        simp at e1
        obtain ⟨rfl, rfl, rfl⟩ := e1
        exact h2)
      have HBW := hide (show cb < (wr.alloc (.cells #[.slice pa pn pc, .int .i64 p.want, .int .i64 p.join] 50)).drew.heap.size from Nat.lt_of_lt_of_le (Nat.lt_of_lt_of_le hcb hn) U2.size)
      have k3 : (wr.alloc (.cells #[.slice pa pn pc, .int .i64 p.want, .int .i64 p.join] 50)).cell? ⟨cb, co + k, none⟩ = some (.int .i64 z) := (U2.cell (p := ⟨cb, co + k, none⟩) (Nat.lt_of_lt_of_le hcb hn) (by simp)).trans hcz
      have L1 := hide ((Blk.new wr 50 [.slice pa pn pc, .int .i64 p.want, .int .i64 p.join]).drew)
      have k0 := L1.out.cell 0
      have k1 := L1.out.cell 1
      have k2 := L1.out.cell 2
      have M := meets_any p (.slice pa pn pc) A (wr.alloc (.cells #[.slice pa pn pc, .int .i64 p.want, .int .i64 p.join] 50)).drew rfl
      obtain ⟨m, hme⟩ : ∃ m, meetsS p A = m := ⟨_, rfl⟩
      rw [hme] at M
      have ME := hide M
      have HME := hide hme
      have ED := hide (List.drop_eq_getElem_cons (l := l) (i := k) (by rw [HZ.out]; exact hlt))
      have ED2 := hide (List.drop_eq_getElem_cons (l := ch) (i := k) (by rw [HCZ.out]; exact hlt))
      have EP := hide (show l[k]'(by rw [HZ.out]; exact hlt) = p by have := HP.out; rw [List.getElem?_eq_getElem (by rw [HZ.out]; exact hlt)] at this; simpa using this)
      have EZ := hide (show ch[k]'(by rw [HCZ.out]; exact hlt) = z by have := HZZ.out; rw [List.getElem?_eq_getElem (by rw [HCZ.out]; exact hlt)] at this; simpa using this)
      have F0 := hf.out
      rw [ED.out, ED2.out, EP.out, EZ.out, fitsS, costS] at F0
      have HF := hide F0
      clear hp hi hpm hb hme M hok hcb hcz hzz U2 F0
      go_wp2_with fail
      cases m with
      | false =>
        obtain rfl := HR.out.symm.trans (if_neg (fun h => by have := h.2.2; rw [HF.out.1, HME.out] at this; simp at this))
        refine wp_region_held_drew (S := (fun w' => w'.cell? ⟨wr.heap.size, 0, none⟩ = some (.slice pa pn pc) ∧ w'.cell? ⟨wr.heap.size, 1, none⟩ = some (.int .i64 p.want) ∧ w'.cell? ⟨wr.heap.size, 2, none⟩ = some (.int .i64 p.join) ∧ w'.cell? ⟨cb, co + k, none⟩ = some (.int .i64 z))) (by kernel_rfl) (by exact ⟨k0, k1, k2, k3⟩) (fun hHeld => ?_)
        refine wpAnyH_take (i := 0) (oi := ?oi0N) (v := ?v0N) ?oi0_0N (by kernel_rfl) ?ff0N ?rr0N ?hq0N (Or.inl ⟨?hw0N, ?hy0N⟩) (by assumption) ?rest0N
        case oi0_0N =>
          conv =>
            lhs
            whnf
            arg 1
            whnf
        case hq0N => exact fun _ _ _ h => h
        case ff0N => kernel_rfl
        case rr0N => kernel_rfl
        case hw0N => rfl
        case hy0N =>
          intro w hSw
          (try dsimp only at hSw)
          first
          | (go_simp; done)
          | (go_simp; with_reducible rfl)
        try simp only [Act.put, List.setIfInBounds_toArray, List.set_cons_zero, List.set_cons_succ]
        refine wpAnyH_take (i := 1) (oi := ?oi1N) (v := ?v1N) ?oi0_1N (by kernel_rfl) ?ff1N ?rr1N ?hq1N (Or.inl ⟨?hw1N, ?hy1N⟩) (by assumption) ?rest1N
        case oi0_1N =>
          conv =>
            lhs
            whnf
            arg 1
            whnf
        case hq1N => exact fun _ _ _ h => h
        case ff1N => kernel_rfl
        case rr1N => kernel_rfl
        case hw1N => rfl
        case hy1N =>
          intro w hSw
          (try dsimp only at hSw)
          first
          | (go_simp; done)
          | (go_simp; with_reducible rfl)
        try simp only [Act.put, List.setIfInBounds_toArray, List.set_cons_zero, List.set_cons_succ]
        refine wpAnyH_ready (rs := [2]) (by kernel_rfl) (by simp) (AllReadyH.cons (o := ?oi2N) ?oi0_2N (fun K hK => ?_) AllReadyH.nil)
        case oi0_2N =>
          conv =>
            lhs
            whnf
            arg 1
            whnf
        go_simp
        go_at_call 46
        have TT := ME.out
        with_reducible (refine TT.mono ?_)
        clear TT
        rintro e w3 ⟨rfl, u3⟩
        have L3 := L1.out.upd u3 (by simp)
        have j0 := L3.cell 0
        have j1 := L3.cell 1
        have j2 := L3.cell 2
        have j3 : w3.cell? ⟨cb, co + k, none⟩ = some (.int .i64 z) := (u3.cell (p := ⟨cb, co + k, none⟩) HBW.out (by simp)).trans k3
        have U3 := hide (HU2.out.trans u3 (by simp))
        clear u3
        (try dsimp only)
        refine hK.out _ _ (by exact ⟨j0, j1, j2, j3⟩) (fun hHeld => ?_)
        clear hK K
        try simp only [Act.put, List.setIfInBounds_toArray, List.set_cons_zero, List.set_cons_succ]
        refine wpAnyH_take (i := 3) (oi := ?oi3N) (v := ?v3N) ?oi0_3N (by kernel_rfl) ?ff3N ?rr3N ?hq3N (Or.inl ⟨?hw3N, ?hy3N⟩) (by assumption) ?rest3N
        case oi0_3N =>
          conv =>
            lhs
            whnf
            arg 1
            whnf
        case hq3N => exact fun _ _ _ h => h
        case ff3N => kernel_rfl
        case rr3N => kernel_rfl
        case hw3N => rfl
        case hy3N =>
          intro w hSw
          (try dsimp only at hSw)
          first
          | (go_simp; done)
          | (go_simp; with_reducible rfl)
        try simp only [Act.put, List.setIfInBounds_toArray, List.set_cons_zero, List.set_cons_succ]
        refine wpAnyH_take (i := 4) (oi := ?oi4N) (v := ?v4N) ?oi0_4N (by kernel_rfl) ?ff4N ?rr4N ?hq4N (Or.inl ⟨?hw4N, ?hy4N⟩) (by assumption) ?rest4N
        case oi0_4N =>
          conv =>
            lhs
            whnf
            arg 1
            whnf
        case hq4N => exact fun _ _ _ h => h
        case ff4N => kernel_rfl
        case rr4N => kernel_rfl
        case hw4N => rfl
        case hy4N =>
          intro w hSw
          (try dsimp only at hSw)
          first
          | (go_simp; done)
          | (go_simp; with_reducible rfl)
        try simp only [Act.put, List.setIfInBounds_toArray, List.set_cons_zero, List.set_cons_succ]
        refine wpAnyH_take (i := 5) (oi := ?oi5N) (v := undef) ?oi0_5N (by kernel_rfl) ?ff5N ?rr5N ?hq5N (Or.inr ⟨?hw5N, rfl⟩) (by assumption) ?rest5N
        case oi0_5N =>
          conv =>
            lhs
            whnf
            arg 1
            whnf
        case hq5N => exact fun _ _ _ h => h
        case ff5N => kernel_rfl
        case rr5N => kernel_rfl
        case hw5N => rfl
        try simp only [Act.put, List.setIfInBounds_toArray, List.set_cons_zero, List.set_cons_succ]
        refine wpAnyH_take (i := 6) (oi := ?oi6N) (v := undef) ?oi0_6N (by kernel_rfl) ?ff6N ?rr6N ?hq6N (Or.inr ⟨?hw6N, rfl⟩) (by assumption) ?rest6N
        case oi0_6N =>
          conv =>
            lhs
            whnf
            arg 1
            whnf
        case hq6N => exact fun _ _ _ h => h
        case ff6N => kernel_rfl
        case rr6N => kernel_rfl
        case hw6N => rfl
        try simp only [Act.put, List.setIfInBounds_toArray, List.set_cons_zero, List.set_cons_succ]
        refine wpAnyH_take (i := 7) (oi := ?oi7N) (v := undef) ?oi0_7N (by kernel_rfl) ?ff7N ?rr7N ?hq7N (Or.inr ⟨?hw7N, rfl⟩) (by assumption) ?rest7N
        case oi0_7N =>
          conv =>
            lhs
            whnf
            arg 1
            whnf
        case hq7N => exact fun _ _ _ h => h
        case ff7N => kernel_rfl
        case rr7N => kernel_rfl
        case hw7N => rfl
        try simp only [Act.put, List.setIfInBounds_toArray, List.set_cons_zero, List.set_cons_succ]
        refine wpAnyH_take (i := 8) (oi := ?oi8N) (v := undef) ?oi0_8N (by kernel_rfl) ?ff8N ?rr8N ?hq8N (Or.inr ⟨?hw8N, rfl⟩) (by assumption) ?rest8N
        case oi0_8N =>
          conv =>
            lhs
            whnf
            arg 1
            whnf
        case hq8N => exact fun _ _ _ h => h
        case ff8N => kernel_rfl
        case rr8N => kernel_rfl
        case hw8N => rfl
        try simp only [Act.put, List.setIfInBounds_toArray, List.set_cons_zero, List.set_cons_succ]
        refine wpAnyH_take (i := 9) (oi := ?oi9N) (v := undef) ?oi0_9N (by kernel_rfl) ?ff9N ?rr9N ?hq9N (Or.inr ⟨?hw9N, rfl⟩) (by assumption) ?rest9N
        case oi0_9N =>
          conv =>
            lhs
            whnf
            arg 1
            whnf
        case hq9N => exact fun _ _ _ h => h
        case ff9N => kernel_rfl
        case rr9N => kernel_rfl
        case hw9N => rfl
        try simp only [Act.put, List.setIfInBounds_toArray, List.set_cons_zero, List.set_cons_succ]
        refine wpAnyH_take (i := 10) (oi := ?oi10N) (v := undef) ?oi0_10N (by kernel_rfl) ?ff10N ?rr10N ?hq10N (Or.inr ⟨?hw10N, rfl⟩) (by assumption) ?rest10N
        case oi0_10N =>
          conv =>
            lhs
            whnf
            arg 1
            whnf
        case hq10N => exact fun _ _ _ h => h
        case ff10N => kernel_rfl
        case rr10N => kernel_rfl
        case hw10N => rfl
        try simp only [Act.put, List.setIfInBounds_toArray, List.set_cons_zero, List.set_cons_succ]
        refine wpAnyH_ready (rs := [11]) (by kernel_rfl) (by simp) (AllReadyH.cons (o := ?oi11N) ?oi0_11N (fun K hK => ?_) AllReadyH.nil)
        case oi0_11N =>
          conv =>
            lhs
            whnf
            arg 1
            whnf
        rw [if_neg (by simp [Region.wanted, yielded])]
        refine hK.out _ _ (by assumption) (fun _ => ?_)
        clear hK K
        try simp only [Act.put, List.setIfInBounds_toArray, List.set_cons_zero, List.set_cons_succ]
        refine wpAnyH_take (i := 12) (oi := ?oi12N) (v := undef) ?oi0_12N (by kernel_rfl) ?ff12N ?rr12N ?hq12N (Or.inr ⟨?hw12N, rfl⟩) (by assumption) ?rest12N
        case oi0_12N =>
          conv =>
            lhs
            whnf
            arg 1
            whnf
        case hq12N => exact fun _ _ _ h => h
        case ff12N => kernel_rfl
        case rr12N => kernel_rfl
        case hw12N => rfl
        try simp only [Act.put, List.setIfInBounds_toArray, List.set_cons_zero, List.set_cons_succ]
        refine wpAnyH_take (i := 13) (oi := ?oi13N) (v := ?v13N) ?oi0_13N (by kernel_rfl) ?ff13N ?rr13N ?hq13N (Or.inl ⟨?hw13N, ?hy13N⟩) (by assumption) ?rest13N
        case oi0_13N =>
          conv =>
            lhs
            whnf
            arg 1
            whnf
        case hq13N => exact fun _ _ _ h => h
        case ff13N => kernel_rfl
        case rr13N => kernel_rfl
        case hw13N => rfl
        case hy13N =>
          intro w hSw
          (try dsimp only at hSw)
          first
          | (go_simp; done)
          | (go_simp; with_reducible rfl)
        try simp only [Act.put, List.setIfInBounds_toArray, List.set_cons_zero, List.set_cons_succ]
        refine wpAnyH_done (by kernel_rfl) ?_ _
        go_wp2_with fail
        go_ret2
        exact ⟨rfl, U3.out⟩
      | true =>
      obtain ⟨q, hq⟩ : ∃ q, decide (z ∈ p.lens) = q := ⟨_, rfl⟩
      have HZIN := hide hq
      clear hq
      cases q with
      | false =>
        obtain rfl := HR.out.symm.trans (if_neg (fun h => by have := h.2.2; rw [HF.out.1, HZIN.out] at this; simp at this))
        refine wp_region_held_drew (S := (fun w' => w'.cell? ⟨wr.heap.size, 0, none⟩ = some (.slice pa pn pc) ∧ w'.cell? ⟨wr.heap.size, 1, none⟩ = some (.int .i64 p.want) ∧ w'.cell? ⟨wr.heap.size, 2, none⟩ = some (.int .i64 p.join) ∧ w'.cell? ⟨cb, co + k, none⟩ = some (.int .i64 z))) (by kernel_rfl) (by exact ⟨k0, k1, k2, k3⟩) (fun hHeld => ?_)
        refine wpAnyH_take (i := 0) (oi := ?oi0M) (v := ?v0M) ?oi0_0M (by kernel_rfl) ?ff0M ?rr0M ?hq0M (Or.inl ⟨?hw0M, ?hy0M⟩) (by assumption) ?rest0M
        case oi0_0M =>
          conv =>
            lhs
            whnf
            arg 1
            whnf
        case hq0M => exact fun _ _ _ h => h
        case ff0M => kernel_rfl
        case rr0M => kernel_rfl
        case hw0M => rfl
        case hy0M =>
          intro w hSw
          (try dsimp only at hSw)
          first
          | (go_simp; done)
          | (go_simp; with_reducible rfl)
        try simp only [Act.put, List.setIfInBounds_toArray, List.set_cons_zero, List.set_cons_succ]
        refine wpAnyH_take (i := 1) (oi := ?oi1M) (v := ?v1M) ?oi0_1M (by kernel_rfl) ?ff1M ?rr1M ?hq1M (Or.inl ⟨?hw1M, ?hy1M⟩) (by assumption) ?rest1M
        case oi0_1M =>
          conv =>
            lhs
            whnf
            arg 1
            whnf
        case hq1M => exact fun _ _ _ h => h
        case ff1M => kernel_rfl
        case rr1M => kernel_rfl
        case hw1M => rfl
        case hy1M =>
          intro w hSw
          (try dsimp only at hSw)
          first
          | (go_simp; done)
          | (go_simp; with_reducible rfl)
        try simp only [Act.put, List.setIfInBounds_toArray, List.set_cons_zero, List.set_cons_succ]
        refine wpAnyH_ready (rs := [2]) (by kernel_rfl) (by simp) (AllReadyH.cons (o := ?oi2M) ?oi0_2M (fun K hK => ?_) AllReadyH.nil)
        case oi0_2M =>
          conv =>
            lhs
            whnf
            arg 1
            whnf
        go_simp
        go_at_call 46
        have TT := ME.out
        with_reducible (refine TT.mono ?_)
        clear TT
        rintro e w3 ⟨rfl, u3⟩
        have L3 := L1.out.upd u3 (by simp)
        have j0 := L3.cell 0
        have j1 := L3.cell 1
        have j2 := L3.cell 2
        have j3 : w3.cell? ⟨cb, co + k, none⟩ = some (.int .i64 z) := (u3.cell (p := ⟨cb, co + k, none⟩) HBW.out (by simp)).trans k3
        have U3 := hide (HU2.out.trans u3 (by simp))
        clear u3
        (try dsimp only)
        refine hK.out _ _ (by exact ⟨j0, j1, j2, j3⟩) (fun hHeld => ?_)
        clear hK K
        try simp only [Act.put, List.setIfInBounds_toArray, List.set_cons_zero, List.set_cons_succ]
        refine wpAnyH_take (i := 3) (oi := ?oi3M) (v := ?v3M) ?oi0_3M (by kernel_rfl) ?ff3M ?rr3M ?hq3M (Or.inl ⟨?hw3M, ?hy3M⟩) (by assumption) ?rest3M
        case oi0_3M =>
          conv =>
            lhs
            whnf
            arg 1
            whnf
        case hq3M => exact fun _ _ _ h => h
        case ff3M => kernel_rfl
        case rr3M => kernel_rfl
        case hw3M => rfl
        case hy3M =>
          intro w hSw
          (try dsimp only at hSw)
          first
          | (go_simp; done)
          | (go_simp; with_reducible rfl)
        try simp only [Act.put, List.setIfInBounds_toArray, List.set_cons_zero, List.set_cons_succ]
        refine wpAnyH_take (i := 4) (oi := ?oi4M) (v := ?v4M) ?oi0_4M (by kernel_rfl) ?ff4M ?rr4M ?hq4M (Or.inl ⟨?hw4M, ?hy4M⟩) (by assumption) ?rest4M
        case oi0_4M =>
          conv =>
            lhs
            whnf
            arg 1
            whnf
        case hq4M => exact fun _ _ _ h => h
        case ff4M => kernel_rfl
        case rr4M => kernel_rfl
        case hw4M => rfl
        case hy4M =>
          intro w hSw
          (try dsimp only at hSw)
          first
          | (go_simp; done)
          | (go_simp; with_reducible rfl)
        try simp only [Act.put, List.setIfInBounds_toArray, List.set_cons_zero, List.set_cons_succ]
        refine wpAnyH_take (i := 5) (oi := ?oi5M) (v := ?v5M) ?oi0_5M (by kernel_rfl) ?ff5M ?rr5M ?hq5M (Or.inl ⟨?hw5M, ?hy5M⟩) (by assumption) ?rest5M
        case oi0_5M =>
          conv =>
            lhs
            whnf
            arg 1
            whnf
        case hq5M => exact fun _ _ _ h => h
        case ff5M => kernel_rfl
        case rr5M => kernel_rfl
        case hw5M => rfl
        case hy5M =>
          intro w hSw
          (try dsimp only at hSw)
          first
          | (go_simp; done)
          | (go_simp; with_reducible rfl)
        try simp only [Act.put, List.setIfInBounds_toArray, List.set_cons_zero, List.set_cons_succ]
        refine wpAnyH_take (i := 6) (oi := ?oi6M) (v := ?v6M) ?oi0_6M (by kernel_rfl) ?ff6M ?rr6M ?hq6M (Or.inl ⟨?hw6M, ?hy6M⟩) (by assumption) ?rest6M
        case oi0_6M =>
          conv =>
            lhs
            whnf
            arg 1
            whnf
        case hq6M => exact fun _ _ _ h => h
        case ff6M => kernel_rfl
        case rr6M => kernel_rfl
        case hw6M => rfl
        case hy6M =>
          intro w hSw
          (try dsimp only at hSw)
          first
          | (go_simp; done)
          | (go_simp; with_reducible rfl)
        try simp only [Act.put, List.setIfInBounds_toArray, List.set_cons_zero, List.set_cons_succ]
        refine wpAnyH_take (i := 7) (oi := ?oi7M) (v := ?v7M) ?oi0_7M (by kernel_rfl) ?ff7M ?rr7M ?hq7M (Or.inl ⟨?hw7M, ?hy7M⟩) (by assumption) ?rest7M
        case oi0_7M =>
          conv =>
            lhs
            whnf
            arg 1
            whnf
        case hq7M => exact fun _ _ _ h => h
        case ff7M => kernel_rfl
        case rr7M => kernel_rfl
        case hw7M => rfl
        case hy7M =>
          intro w hSw
          (try dsimp only at hSw)
          first
          | (go_simp; done)
          | (go_simp; with_reducible rfl)
        try simp only [Act.put, List.setIfInBounds_toArray, List.set_cons_zero, List.set_cons_succ]
        refine wpAnyH_take (i := 8) (oi := ?oi8M) (v := ?v8M) ?oi0_8M (by kernel_rfl) ?ff8M ?rr8M ?hq8M (Or.inl ⟨?hw8M, ?hy8M⟩) (by assumption) ?rest8M
        case oi0_8M =>
          conv =>
            lhs
            whnf
            arg 1
            whnf
        case hq8M => exact fun _ _ _ h => h
        case ff8M => kernel_rfl
        case rr8M => kernel_rfl
        case hw8M => rfl
        case hy8M =>
          intro w hSw
          (try dsimp only at hSw)
          first
          | (go_simp; done)
          | (go_simp; with_reducible rfl)
        try simp only [Act.put, List.setIfInBounds_toArray, List.set_cons_zero, List.set_cons_succ]
        refine wpAnyH_take (i := 9) (oi := ?oi9M) (v := ?v9M) ?oi0_9M (by kernel_rfl) ?ff9M ?rr9M ?hq9M (Or.inl ⟨?hw9M, ?hy9M⟩) (by assumption) ?rest9M
        case oi0_9M =>
          conv =>
            lhs
            whnf
            arg 1
            whnf
        case hq9M => exact fun _ _ _ h => h
        case ff9M => kernel_rfl
        case rr9M => kernel_rfl
        case hw9M => rfl
        case hy9M =>
          intro w hSw
          (try dsimp only at hSw)
          first
          | (go_simp; done)
          | (go_simp; with_reducible rfl)
        try simp only [Act.put, List.setIfInBounds_toArray, List.set_cons_zero, List.set_cons_succ]
        refine wpAnyH_take (i := 10) (oi := ?oi10M) (v := ?v10M) ?oi0_10M (by kernel_rfl) ?ff10M ?rr10M ?hq10M (Or.inl ⟨?hw10M, ?hy10M⟩) (by assumption) ?rest10M
        case oi0_10M =>
          conv =>
            lhs
            whnf
            arg 1
            whnf
        case hq10M => exact fun _ _ _ h => h
        case ff10M => kernel_rfl
        case rr10M => kernel_rfl
        case hw10M => rfl
        case hy10M =>
          intro w hSw
          (try dsimp only at hSw)
          first
          | (go_simp; done)
          | (go_simp; with_reducible rfl)
        try simp only [Act.put, List.setIfInBounds_toArray, List.set_cons_zero, List.set_cons_succ]
        refine wpAnyH_ready (rs := [11]) (by kernel_rfl) (by simp) (AllReadyH.cons (o := ?oi11M) ?oi0_11M (fun K hK => ?_) AllReadyH.nil)
        case oi0_11M =>
          conv =>
            lhs
            whnf
            arg 1
            whnf
        go_simp
        go_at_call 56
        have TT := contains_any (n₀ := n₀) pa pn pc p.lens z w3 (HI0.out.upd U3.out hn (by simp)) (by have := HL.out; omega)
        rw [HZIN.out] at TT
        with_reducible (refine TT.mono ?_)
        clear TT
        rintro e w' ⟨rfl, rfl⟩
        (try dsimp only)
        refine hK.out _ _ (by exact ⟨j0, j1, j2, j3⟩) (fun hHeld => ?_)
        clear hK K
        try simp only [Act.put, List.setIfInBounds_toArray, List.set_cons_zero, List.set_cons_succ]
        refine wpAnyH_take (i := 12) (oi := ?oi12M) (v := ?v12M) ?oi0_12M (by kernel_rfl) ?ff12M ?rr12M ?hq12M (Or.inl ⟨?hw12M, ?hy12M⟩) (by assumption) ?rest12M
        case oi0_12M =>
          conv =>
            lhs
            whnf
            arg 1
            whnf
        case hq12M => exact fun _ _ _ h => h
        case ff12M => kernel_rfl
        case rr12M => kernel_rfl
        case hw12M => rfl
        case hy12M =>
          intro w hSw
          (try dsimp only at hSw)
          first
          | (go_simp; done)
          | (go_simp; with_reducible rfl)
        try simp only [Act.put, List.setIfInBounds_toArray, List.set_cons_zero, List.set_cons_succ]
        refine wpAnyH_take (i := 13) (oi := ?oi13M) (v := ?v13M) ?oi0_13M (by kernel_rfl) ?ff13M ?rr13M ?hq13M (Or.inl ⟨?hw13M, ?hy13M⟩) (by assumption) ?rest13M
        case oi0_13M =>
          conv =>
            lhs
            whnf
            arg 1
            whnf
        case hq13M => exact fun _ _ _ h => h
        case ff13M => kernel_rfl
        case rr13M => kernel_rfl
        case hw13M => rfl
        case hy13M =>
          intro w hSw
          (try dsimp only at hSw)
          first
          | (go_simp; done)
          | (go_simp; with_reducible rfl)
        try simp only [Act.put, List.setIfInBounds_toArray, List.set_cons_zero, List.set_cons_succ]
        refine wpAnyH_done (by kernel_rfl) ?_ _
        go_wp2_with fail
        go_ret2
        exact ⟨rfl, U3.out⟩
      | true =>
        have hz9 : 0 ≤ z ∧ z ≤ 3600 := by
          obtain ⟨j, hj⟩ := List.getElem?_of_mem (of_decide_eq_true HZIN.out)
          have := (HOK.out.2.2.2 j (List.getElem?_eq_some_iff.1 hj).1).1
          rw [hj] at this
          exact this
        obtain ⟨hz1, hz2⟩ := hz9
        have hkb : k ≤ 20 := by have := (of_decide_eq_true H1.out).1; have := HZ.out; omega
        have haw : 0 ≤ awayS z p.want ∧ awayS z p.want ≤ 3600 := by unfold awayS; omega
        obtain ⟨aw, EW⟩ : ∃ aw, Hid (awayS z p.want = aw) := ⟨_, rfl⟩
        rw [EW.out] at haw
        obtain ⟨ha1, ha2⟩ := haw
        have G := HF.out
        rw [HME.out, HZIN.out] at G
        simp only [Bool.true_and] at G
        have HG := hide G
        clear G
        refine wp_region_held_drew (S := (fun w' => w'.cell? ⟨wr.heap.size, 0, none⟩ = some (.slice pa pn pc) ∧ w'.cell? ⟨wr.heap.size, 1, none⟩ = some (.int .i64 p.want) ∧ w'.cell? ⟨wr.heap.size, 2, none⟩ = some (.int .i64 p.join) ∧ w'.cell? ⟨cb, co + k, none⟩ = some (.int .i64 z))) (by kernel_rfl) (by exact ⟨k0, k1, k2, k3⟩) (fun hHeld => ?_)
        refine wpAnyH_take (i := 0) (oi := ?oi0K) (v := ?v0K) ?oi0_0K (by kernel_rfl) ?ff0K ?rr0K ?hq0K (Or.inl ⟨?hw0K, ?hy0K⟩) (by assumption) ?rest0K
        case oi0_0K =>
          conv =>
            lhs
            whnf
            arg 1
            whnf
        case hq0K => exact fun _ _ _ h => h
        case ff0K => kernel_rfl
        case rr0K => kernel_rfl
        case hw0K => rfl
        case hy0K =>
          intro w hSw
          (try dsimp only at hSw)
          first
          | (go_simp; done)
          | (go_simp; with_reducible rfl)
        try simp only [Act.put, List.setIfInBounds_toArray, List.set_cons_zero, List.set_cons_succ]
        refine wpAnyH_take (i := 1) (oi := ?oi1K) (v := ?v1K) ?oi0_1K (by kernel_rfl) ?ff1K ?rr1K ?hq1K (Or.inl ⟨?hw1K, ?hy1K⟩) (by assumption) ?rest1K
        case oi0_1K =>
          conv =>
            lhs
            whnf
            arg 1
            whnf
        case hq1K => exact fun _ _ _ h => h
        case ff1K => kernel_rfl
        case rr1K => kernel_rfl
        case hw1K => rfl
        case hy1K =>
          intro w hSw
          (try dsimp only at hSw)
          first
          | (go_simp; done)
          | (go_simp; with_reducible rfl)
        try simp only [Act.put, List.setIfInBounds_toArray, List.set_cons_zero, List.set_cons_succ]
        refine wpAnyH_ready (rs := [2]) (by kernel_rfl) (by simp) (AllReadyH.cons (o := ?oi2K) ?oi0_2K (fun K hK => ?_) AllReadyH.nil)
        case oi0_2K =>
          conv =>
            lhs
            whnf
            arg 1
            whnf
        go_simp
        go_at_call 46
        have TT := ME.out
        with_reducible (refine TT.mono ?_)
        clear TT
        rintro e w3 ⟨rfl, u3⟩
        have L3 := L1.out.upd u3 (by simp)
        have j0 := L3.cell 0
        have j1 := L3.cell 1
        have j2 := L3.cell 2
        have j3 : w3.cell? ⟨cb, co + k, none⟩ = some (.int .i64 z) := (u3.cell (p := ⟨cb, co + k, none⟩) HBW.out (by simp)).trans k3
        have U3 := hide (HU2.out.trans u3 (by simp))
        clear u3
        (try dsimp only)
        refine hK.out _ _ (by exact ⟨j0, j1, j2, j3⟩) (fun hHeld => ?_)
        clear hK K
        try simp only [Act.put, List.setIfInBounds_toArray, List.set_cons_zero, List.set_cons_succ]
        refine wpAnyH_take (i := 3) (oi := ?oi3K) (v := ?v3K) ?oi0_3K (by kernel_rfl) ?ff3K ?rr3K ?hq3K (Or.inl ⟨?hw3K, ?hy3K⟩) (by assumption) ?rest3K
        case oi0_3K =>
          conv =>
            lhs
            whnf
            arg 1
            whnf
        case hq3K => exact fun _ _ _ h => h
        case ff3K => kernel_rfl
        case rr3K => kernel_rfl
        case hw3K => rfl
        case hy3K =>
          intro w hSw
          (try dsimp only at hSw)
          first
          | (go_simp; done)
          | (go_simp; with_reducible rfl)
        try simp only [Act.put, List.setIfInBounds_toArray, List.set_cons_zero, List.set_cons_succ]
        refine wpAnyH_take (i := 4) (oi := ?oi4K) (v := ?v4K) ?oi0_4K (by kernel_rfl) ?ff4K ?rr4K ?hq4K (Or.inl ⟨?hw4K, ?hy4K⟩) (by assumption) ?rest4K
        case oi0_4K =>
          conv =>
            lhs
            whnf
            arg 1
            whnf
        case hq4K => exact fun _ _ _ h => h
        case ff4K => kernel_rfl
        case rr4K => kernel_rfl
        case hw4K => rfl
        case hy4K =>
          intro w hSw
          (try dsimp only at hSw)
          first
          | (go_simp; done)
          | (go_simp; with_reducible rfl)
        try simp only [Act.put, List.setIfInBounds_toArray, List.set_cons_zero, List.set_cons_succ]
        refine wpAnyH_take (i := 5) (oi := ?oi5K) (v := ?v5K) ?oi0_5K (by kernel_rfl) ?ff5K ?rr5K ?hq5K (Or.inl ⟨?hw5K, ?hy5K⟩) (by assumption) ?rest5K
        case oi0_5K =>
          conv =>
            lhs
            whnf
            arg 1
            whnf
        case hq5K => exact fun _ _ _ h => h
        case ff5K => kernel_rfl
        case rr5K => kernel_rfl
        case hw5K => rfl
        case hy5K =>
          intro w hSw
          (try dsimp only at hSw)
          first
          | (go_simp; done)
          | (go_simp; with_reducible rfl)
        try simp only [Act.put, List.setIfInBounds_toArray, List.set_cons_zero, List.set_cons_succ]
        refine wpAnyH_take (i := 6) (oi := ?oi6K) (v := ?v6K) ?oi0_6K (by kernel_rfl) ?ff6K ?rr6K ?hq6K (Or.inl ⟨?hw6K, ?hy6K⟩) (by assumption) ?rest6K
        case oi0_6K =>
          conv =>
            lhs
            whnf
            arg 1
            whnf
        case hq6K => exact fun _ _ _ h => h
        case ff6K => kernel_rfl
        case rr6K => kernel_rfl
        case hw6K => rfl
        case hy6K =>
          intro w hSw
          (try dsimp only at hSw)
          first
          | (go_simp; done)
          | (go_simp; with_reducible rfl)
        try simp only [Act.put, List.setIfInBounds_toArray, List.set_cons_zero, List.set_cons_succ]
        refine wpAnyH_take (i := 7) (oi := ?oi7K) (v := ?v7K) ?oi0_7K (by kernel_rfl) ?ff7K ?rr7K ?hq7K (Or.inl ⟨?hw7K, ?hy7K⟩) (by assumption) ?rest7K
        case oi0_7K =>
          conv =>
            lhs
            whnf
            arg 1
            whnf
        case hq7K => exact fun _ _ _ h => h
        case ff7K => kernel_rfl
        case rr7K => kernel_rfl
        case hw7K => rfl
        case hy7K =>
          intro w hSw
          (try dsimp only at hSw)
          first
          | (go_simp; done)
          | (go_simp; with_reducible rfl)
        try simp only [Act.put, List.setIfInBounds_toArray, List.set_cons_zero, List.set_cons_succ]
        refine wpAnyH_take (i := 8) (oi := ?oi8K) (v := ?v8K) ?oi0_8K (by kernel_rfl) ?ff8K ?rr8K ?hq8K (Or.inl ⟨?hw8K, ?hy8K⟩) (by assumption) ?rest8K
        case oi0_8K =>
          conv =>
            lhs
            whnf
            arg 1
            whnf
        case hq8K => exact fun _ _ _ h => h
        case ff8K => kernel_rfl
        case rr8K => kernel_rfl
        case hw8K => rfl
        case hy8K =>
          intro w hSw
          (try dsimp only at hSw)
          first
          | (go_simp; done)
          | (go_simp; with_reducible rfl)
        try simp only [Act.put, List.setIfInBounds_toArray, List.set_cons_zero, List.set_cons_succ]
        refine wpAnyH_take (i := 9) (oi := ?oi9K) (v := ?v9K) ?oi0_9K (by kernel_rfl) ?ff9K ?rr9K ?hq9K (Or.inl ⟨?hw9K, ?hy9K⟩) (by assumption) ?rest9K
        case oi0_9K =>
          conv =>
            lhs
            whnf
            arg 1
            whnf
        case hq9K => exact fun _ _ _ h => h
        case ff9K => kernel_rfl
        case rr9K => kernel_rfl
        case hw9K => rfl
        case hy9K =>
          intro w hSw
          (try dsimp only at hSw)
          first
          | (go_simp; done)
          | (go_simp; with_reducible rfl)
        try simp only [Act.put, List.setIfInBounds_toArray, List.set_cons_zero, List.set_cons_succ]
        refine wpAnyH_take (i := 10) (oi := ?oi10K) (v := ?v10K) ?oi0_10K (by kernel_rfl) ?ff10K ?rr10K ?hq10K (Or.inl ⟨?hw10K, ?hy10K⟩) (by assumption) ?rest10K
        case oi0_10K =>
          conv =>
            lhs
            whnf
            arg 1
            whnf
        case hq10K => exact fun _ _ _ h => h
        case ff10K => kernel_rfl
        case rr10K => kernel_rfl
        case hw10K => rfl
        case hy10K =>
          intro w hSw
          (try dsimp only at hSw)
          first
          | (go_simp; done)
          | (go_simp; with_reducible rfl)
        try simp only [Act.put, List.setIfInBounds_toArray, List.set_cons_zero, List.set_cons_succ]
        refine wpAnyH_ready (rs := [11]) (by kernel_rfl) (by simp) (AllReadyH.cons (o := ?oi11K) ?oi0_11K (fun K hK => ?_) AllReadyH.nil)
        case oi0_11K =>
          conv =>
            lhs
            whnf
            arg 1
            whnf
        go_simp
        go_at_call 56
        have TT := contains_any (n₀ := n₀) pa pn pc p.lens z w3 (HI0.out.upd U3.out hn (by simp)) (by have := HL.out; omega)
        rw [HZIN.out] at TT
        with_reducible (refine TT.mono ?_)
        clear TT
        rintro e w' ⟨rfl, rfl⟩
        (try dsimp only)
        refine hK.out _ _ (by exact ⟨j0, j1, j2, j3⟩) (fun hHeld => ?_)
        clear hK K
        try simp only [Act.put, List.setIfInBounds_toArray, List.set_cons_zero, List.set_cons_succ]
        refine wpAnyH_take (i := 12) (oi := ?oi12K) (v := ?v12K) ?oi0_12K (by kernel_rfl) ?ff12K ?rr12K ?hq12K (Or.inl ⟨?hw12K, ?hy12K⟩) (by assumption) ?rest12K
        case oi0_12K =>
          conv =>
            lhs
            whnf
            arg 1
            whnf
        case hq12K => exact fun _ _ _ h => h
        case ff12K => kernel_rfl
        case rr12K => kernel_rfl
        case hw12K => rfl
        case hy12K =>
          intro w hSw
          (try dsimp only at hSw)
          first
          | (go_simp; done)
          | (go_simp; with_reducible rfl)
        try simp only [Act.put, List.setIfInBounds_toArray, List.set_cons_zero, List.set_cons_succ]
        refine wpAnyH_take (i := 13) (oi := ?oi13K) (v := ?v13K) ?oi0_13K (by kernel_rfl) ?ff13K ?rr13K ?hq13K (Or.inl ⟨?hw13K, ?hy13K⟩) (by assumption) ?rest13K
        case oi0_13K =>
          conv =>
            lhs
            whnf
            arg 1
            whnf
        case hq13K => exact fun _ _ _ h => h
        case ff13K => kernel_rfl
        case rr13K => kernel_rfl
        case hw13K => rfl
        case hy13K =>
          intro w hSw
          (try dsimp only at hSw)
          first
          | (go_simp; done)
          | (go_simp; with_reducible rfl)
        try simp only [Act.put, List.setIfInBounds_toArray, List.set_cons_zero, List.set_cons_succ]
        refine wpAnyH_done (by kernel_rfl) ?_ _
        go_wp2_with fail
        refine wp_region_held_drew (S := (fun w' => w'.cell? ⟨wr.heap.size, 0, none⟩ = some (.slice pa pn pc) ∧ w'.cell? ⟨wr.heap.size, 1, none⟩ = some (.int .i64 p.want) ∧ w'.cell? ⟨wr.heap.size, 2, none⟩ = some (.int .i64 p.join) ∧ w'.cell? ⟨cb, co + k, none⟩ = some (.int .i64 z))) (by kernel_rfl) (by exact ⟨j0, j1, j2, j3⟩) (fun hHeld => ?_)
        refine wpAnyH_take (i := 0) (oi := ?oi0A) (v := ?v0A) ?oi0_0A (by kernel_rfl) ?ff0A ?rr0A ?hq0A (Or.inl ⟨?hw0A, ?hy0A⟩) (by assumption) ?rest0A
        case oi0_0A =>
          conv =>
            lhs
            whnf
            arg 1
            whnf
        case hq0A => exact fun _ _ _ h => h
        case ff0A => kernel_rfl
        case rr0A => kernel_rfl
        case hw0A => rfl
        case hy0A =>
          intro w hSw
          (try dsimp only at hSw)
          first
          | (go_simp; done)
          | (go_simp; with_reducible rfl)
        try simp only [Act.put, List.setIfInBounds_toArray, List.set_cons_zero, List.set_cons_succ]
        refine wpAnyH_take (i := 1) (oi := ?oi1A) (v := ?v1A) ?oi0_1A (by kernel_rfl) ?ff1A ?rr1A ?hq1A (Or.inl ⟨?hw1A, ?hy1A⟩) (by assumption) ?rest1A
        case oi0_1A =>
          conv =>
            lhs
            whnf
            arg 1
            whnf
        case hq1A => exact fun _ _ _ h => h
        case ff1A => kernel_rfl
        case rr1A => kernel_rfl
        case hw1A => rfl
        case hy1A =>
          intro w hSw
          (try dsimp only at hSw)
          first
          | (go_simp; done)
          | (go_simp; with_reducible rfl)
        try simp only [Act.put, List.setIfInBounds_toArray, List.set_cons_zero, List.set_cons_succ]
        refine wpAnyH_take (i := 2) (oi := ?oi2A) (v := ?v2A) ?oi0_2A (by kernel_rfl) ?ff2A ?rr2A ?hq2A (Or.inl ⟨?hw2A, ?hy2A⟩) (by assumption) ?rest2A
        case oi0_2A =>
          conv =>
            lhs
            whnf
            arg 1
            whnf
        case hq2A => exact fun _ _ _ h => h
        case ff2A => kernel_rfl
        case rr2A => kernel_rfl
        case hw2A => rfl
        case hy2A =>
          intro w hSw
          (try dsimp only at hSw)
          first
          | (go_simp; done)
          | (go_simp; with_reducible rfl)
        try simp only [Act.put, List.setIfInBounds_toArray, List.set_cons_zero, List.set_cons_succ]
        refine wpAnyH_take (i := 3) (oi := ?oi3A) (v := ?v3A) ?oi0_3A (by kernel_rfl) ?ff3A ?rr3A ?hq3A (Or.inl ⟨?hw3A, ?hy3A⟩) (by assumption) ?rest3A
        case oi0_3A =>
          conv =>
            lhs
            whnf
            arg 1
            whnf
        case hq3A => exact fun _ _ _ h => h
        case ff3A => kernel_rfl
        case rr3A => kernel_rfl
        case hw3A => rfl
        case hy3A =>
          intro w hSw
          (try dsimp only at hSw)
          first
          | (go_simp; done)
          | (go_simp; with_reducible rfl)
        try simp only [Act.put, List.setIfInBounds_toArray, List.set_cons_zero, List.set_cons_succ]
        refine wpAnyH_take (i := 4) (oi := ?oi4A) (v := ?v4A) ?oi0_4A (by kernel_rfl) ?ff4A ?rr4A ?hq4A (Or.inl ⟨?hw4A, ?hy4A⟩) (by assumption) ?rest4A
        case oi0_4A =>
          conv =>
            lhs
            whnf
            arg 1
            whnf
        case hq4A => exact fun _ _ _ h => h
        case ff4A => kernel_rfl
        case rr4A => kernel_rfl
        case hw4A => rfl
        case hy4A =>
          intro w hSw
          (try dsimp only at hSw)
          first
          | (go_simp; done)
          | (go_simp; with_reducible rfl)
        try simp only [Act.put, List.setIfInBounds_toArray, List.set_cons_zero, List.set_cons_succ]
        refine wpAnyH_take (i := 5) (oi := ?oi5A) (v := ?v5A) ?oi0_5A (by kernel_rfl) ?ff5A ?rr5A ?hq5A (Or.inl ⟨?hw5A, ?hy5A⟩) (by assumption) ?rest5A
        case oi0_5A =>
          conv =>
            lhs
            whnf
            arg 1
            whnf
        case hq5A => exact fun _ _ _ h => h
        case ff5A => kernel_rfl
        case rr5A => kernel_rfl
        case hw5A => rfl
        case hy5A =>
          intro w hSw
          (try dsimp only at hSw)
          first
          | (go_simp; done)
          | (go_simp; with_reducible rfl)
        try simp only [Act.put, List.setIfInBounds_toArray, List.set_cons_zero, List.set_cons_succ]
        refine wpAnyH_take (i := 6) (oi := ?oi6A) (v := ?v6A) ?oi0_6A (by kernel_rfl) ?ff6A ?rr6A ?hq6A (Or.inl ⟨?hw6A, ?hy6A⟩) (by assumption) ?rest6A
        case oi0_6A =>
          conv =>
            lhs
            whnf
            arg 1
            whnf
        case hq6A => exact fun _ _ _ h => h
        case ff6A => kernel_rfl
        case rr6A => kernel_rfl
        case hw6A => rfl
        case hy6A =>
          intro w hSw
          (try dsimp only at hSw)
          first
          | (go_simp; done)
          | (go_simp; with_reducible rfl)
        try simp only [Act.put, List.setIfInBounds_toArray, List.set_cons_zero, List.set_cons_succ]
        refine wpAnyH_ready (rs := [7]) (by kernel_rfl) (by simp) (AllReadyH.cons (o := ?oi7A) ?oi0_7A (fun K hK => ?_) AllReadyH.nil)
        case oi0_7A =>
          conv =>
            lhs
            whnf
            arg 1
            whnf
        go_simp
        go_at_call 57
        have TT := away_any z p.want w3.drew (by omega) (by omega)
        rw [EW.out] at TT
        with_reducible (refine TT.mono ?_)
        clear TT
        rintro e w' ⟨rfl, rfl⟩
        (try dsimp only)
        refine hK.out _ _ (by exact ⟨j0, j1, j2, j3⟩) (fun hHeld => ?_)
        clear hK K
        try simp only [Act.put, List.setIfInBounds_toArray, List.set_cons_zero, List.set_cons_succ]
        refine wpAnyH_take (i := 8) (oi := ?oi8A) (v := ?v8A) ?oi0_8A (by kernel_rfl) ?ff8A ?rr8A ?hq8A (Or.inl ⟨?hw8A, ?hy8A⟩) (by assumption) ?rest8A
        case oi0_8A =>
          conv =>
            lhs
            whnf
            arg 1
            whnf
        case hq8A => exact fun _ _ _ h => h
        case ff8A => kernel_rfl
        case rr8A => kernel_rfl
        case hw8A => rfl
        case hy8A =>
          intro w hSw
          (try dsimp only at hSw)
          first
          | (go_simp; done)
          | (go_simp; with_reducible rfl)
        try simp only [Act.put, List.setIfInBounds_toArray, List.set_cons_zero, List.set_cons_succ]
        refine wpAnyH_take (i := 9) (oi := ?oi9A) (v := ?v9A) ?oi0_9A (by kernel_rfl) ?ff9A ?rr9A ?hq9A (Or.inl ⟨?hw9A, ?hy9A⟩) (by assumption) ?rest9A
        case oi0_9A =>
          conv =>
            lhs
            whnf
            arg 1
            whnf
        case hq9A => exact fun _ _ _ h => h
        case ff9A => kernel_rfl
        case rr9A => kernel_rfl
        case hw9A => rfl
        case hy9A =>
          intro w hSw
          (try dsimp only at hSw)
          first
          | (go_simp; done)
          | (go_simp; with_reducible rfl)
        try simp only [Act.put, List.setIfInBounds_toArray, List.set_cons_zero, List.set_cons_succ]
        refine wpAnyH_done (by kernel_rfl) ?_ _
        rw [Go.IntWalk.i64_in (C + aw) (by omega)]
        go_wp2_with fail
        go_roundw
        case rel => exact ⟨k + 1, A + z, C + aw, by omega, by go_num, by go_num, by go_num, U3.out.drew, by omega, by omega, HG.out.1, by rw [HG.out.2, EW.out]; omega⟩
        case measure => simp [intOf] <;> omega
    · obtain rfl : k = cn := by omega
      obtain ⟨wo, rfl⟩ : ∃ wo : World, wo = wr := ⟨_, rfl⟩
      have F0 := hf.out
      rw [List.drop_of_length_le (by have := HZ.out; omega), List.drop_of_length_le (by have := HCZ.out; omega)] at F0
      have HF := hide F0
      clear F0
      by_cases hAt : A = t
      · have HAT := hide hAt
        obtain rfl := HR.out.symm.trans (if_pos ⟨of_decide_eq_true H1.out, by rw [HZ.out, HCZ.out], by rw [HF.out.1]; simp [fitsS, HAT.out]⟩)
        have hAn : ¬ A ≠ t := fun h => h HAT.out
        subst hAt
        go_wp2_with fail
        go_ret2
        exact ⟨by rw [HF.out.2]; simp [costS], hu.out⟩
      · obtain rfl := HR.out.symm.trans (if_neg (fun h => by have := h.2.2; rw [HF.out.1] at this; simp [fitsS, hAt] at this))
        go_wp2_with fail
        go_ret2
        exact ⟨rfl, hu.out⟩
end Go.Proofs.Yteehjciepccomaa
