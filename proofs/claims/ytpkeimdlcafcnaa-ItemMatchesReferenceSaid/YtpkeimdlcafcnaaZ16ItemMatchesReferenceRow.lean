/-
  aircheckref07.IsCut: ascending indices.
-/
import Derived.Test.YtpkeimdlcafcnaaZ13ItemMatchesReferenceRow
import Derived.Test.YtpkeimdlcafcnaaZ3ItemMatchesReferenceRow

namespace Go.Proofs.Ytpkeimdlcafcnaa
open Go.RowKit
set_option maxRecDepth 100000
set_option maxHeartbeats 20000000

def CutR (m : Nat) (l : List Int) : Prop := ∀ k, k < l.length → IdxOk m l k
instance (m : Nat) (l : List Int) : Decidable (CutR m l) := by unfold CutR; infer_instance
/-- Ascending indices below m are at most m. -/
theorem CutR.len {m : Nat} {l : List Int} (h : CutR m l) : l.length ≤ m := by
  have key : ∀ k, k < l.length → (k : Int) ≤ l[k]?.getD 0 := by
    intro k
    induction k with
    | zero => intro hk; exact (h 0 hk).1.1
    | succ k ih =>
      intro hk
      have h1 := ih (by omega)
      have h2 := (h (k + 1) hk).2.resolve_left (by omega)
      rw [show k + 1 - 1 = k by omega] at h2
      omega
  rcases Nat.eq_zero_or_pos l.length with h0 | h0
  · omega
  · have h1 := key (l.length - 1) (by omega)
    have h2 := (h (l.length - 1) (by omega)).1.2
    omega
theorem cutR_iff {m : Nat} (hm : m ≤ 4) {l : List Int} : CutR m l ↔ CutOk m l := ⟨fun h => ⟨h, Nat.le_trans h.len hm⟩, fun h => h.1⟩
theorem refIsCut {n₀ : Nat} (i : It) (ta : Option Addr) (tc : Nat) (ka : Option Addr) (kc : Nat) (a : Option Addr) (n c : Nat) (xs : List Int) (w : World) (hC : Ints n₀ w (.slice a n c) xs) (hm : n ≤ maxLen) :
    Calls Try.prog 58 #[.agg #[.int .i64 i.id, .int .i64 i.kind, .int .i64 i.len, .slice ta i.trims.length tc, .slice ka i.talks.length kc, .int .i64 i.artist, .int .i64 i.tempo, .int .i64 i.lang], .slice a n c] w fun e w' => e = .returned (.bool (decide (CutR i.trims.length xs))) ∧ Upd [] w w' := by
  have HX := hide hC.form.2
  have HXN := hide hC.form.1
  have hm' : n ≤ 9223372036854775807 := by unfold maxLen at hm; omega
  obtain ⟨r, HR⟩ : ∃ r, Hid (decide (CutR i.trims.length xs) = r) := ⟨_, rfl⟩
  rw [HR.out]
  clear hC hm
  go_enter Try.func58, Try.ntmps58
  go_upto_region 1 with fail
  obtain ⟨w1, hw1⟩ : ∃ x, w.alloc (.cells #[.int .i64 i.id, .int .i64 i.kind, .int .i64 i.len, .slice ta i.trims.length tc, .slice ka i.talks.length kc, .int .i64 i.artist, .int .i64 i.tempo, .int .i64 i.lang] 24) = x := ⟨_, rfl⟩
  have B1 := hide (show Blk w1 w.heap.size 24 [.int .i64 i.id, .int .i64 i.kind, .int .i64 i.len, .slice ta i.trims.length tc, .slice ka i.talks.length kc, .int .i64 i.artist, .int .i64 i.tempo, .int .i64 i.lang] by rw [← hw1]; exact Blk.new w _ _)
  have U1 := hide (show Upd [] w w1 by rw [← hw1]; exact (Upd.refl [] _).alloc _)
  rw [hw1]
  clear hw1
  go_wp2_with fail
  go_loopw [5] (fun s5 wr => ∃ k : Nat, k ≤ n ∧ s5 = .int .i64 k ∧ Hid (Upd [] w1 wr) ∧ Hid (∀ j, j < k → IdxOk i.trims.length xs j)) (fun k _ => n - (intOf k).toNat)
  case atStart => exact ⟨0, Nat.zero_le _, rfl, Upd.refl _ _, hide (fun j hj => by omega)⟩
  case round =>
    obtain ⟨k, hk, rfl, hu, hr⟩ := hrel
    obtain ⟨wo, rfl⟩ : ∃ wo : World, wo = wr := ⟨_, rfl⟩
    have V := hide (hu.out.drew)
    have m3 := (B1.out.upd hu.out (by simp)).cell 3
    by_cases hkl : k < n
    case neg =>
      obtain rfl : k = n := by omega
      have hki : ¬ (k : Int) < k := by omega
      obtain rfl : r = true := by rw [← HR.out]; exact decide_eq_true (fun j hj => hr.out j (by have := HXN.out; omega))
      go_wp2_with fail
      go_ret
      exact ⟨rfl, U1.out.trans hu.out (by simp)⟩
    obtain ⟨x, hs⟩ : ∃ s, xs[k]? = some s := ⟨_, List.getElem?_eq_getElem (by have := HXN.out; omega)⟩
    obtain ⟨b, o, ea, _, c0⟩ := HX.out k x hs
    subst ea
    have hki : (k : Int) < n := by omega
    have c0' := keepc _ _ _ _ (U1.out.trans hu.out (by simp)) c0
    have HS := hide hs
    clear hs c0
    by_cases e1 : x < 0
    case pos =>
      have d1 : decide (x < 0) = true := decide_eq_true e1
      obtain rfl : r = false := by rw [← HR.out]; exact decide_eq_false fun h => by have h1 := h k (by have := HXN.out; omega); unfold IdxOk at h1; rw [HS.out] at h1; simp only [Option.getD_some] at h1; omega
      go_wp2_with fail
      refine wp_region_held_drew (S := (fun w' => w'.cell? ⟨w.heap.size, 3, none⟩ = some (.slice ta i.trims.length tc) ∧ w'.cell? ⟨b, o + k, none⟩ = some (.int .i64 x))) (by kernel_rfl) (by exact ⟨m3, c0'⟩) (fun hHeld => ?_)
      refine wpAnyH_take (i := 0) (oi := ?oi0W1) (v := ?v0W1) ?oi0_0W1 (by kernel_rfl) ?ff0W1 ?rr0W1 ?hq0W1 (Or.inl ⟨?hw0W1, ?hy0W1⟩) (by assumption) ?rest0W1
      case oi0_0W1 =>
        conv =>
          lhs
          whnf
          arg 1
          whnf
      case hq0W1 => exact fun _ _ _ h => h
      case ff0W1 => kernel_rfl
      case rr0W1 => kernel_rfl
      case hw0W1 => rfl
      case hy0W1 =>
        intro w hSw
        (try dsimp only at hSw)
        first
        | (go_simp; done)
        | (go_simp; with_reducible rfl)
      try simp only [Act.put, List.setIfInBounds_toArray, List.set_cons_zero, List.set_cons_succ]
      refine wpAnyH_take (i := 1) (oi := ?oi1W1) (v := ?v1W1) ?oi0_1W1 (by kernel_rfl) ?ff1W1 ?rr1W1 ?hq1W1 (Or.inl ⟨?hw1W1, ?hy1W1⟩) (by assumption) ?rest1W1
      case oi0_1W1 =>
        conv =>
          lhs
          whnf
          arg 1
          whnf
      case hq1W1 => exact fun _ _ _ h => h
      case ff1W1 => kernel_rfl
      case rr1W1 => kernel_rfl
      case hw1W1 => rfl
      case hy1W1 =>
        intro w hSw
        (try dsimp only at hSw)
        first
        | (go_simp; done)
        | (go_simp; with_reducible rfl)
      try simp only [Act.put, List.setIfInBounds_toArray, List.set_cons_zero, List.set_cons_succ]
      refine wpAnyH_take (i := 2) (oi := ?oi2W1) (v := ?v2W1) ?oi0_2W1 (by kernel_rfl) ?ff2W1 ?rr2W1 ?hq2W1 (Or.inl ⟨?hw2W1, ?hy2W1⟩) (by assumption) ?rest2W1
      case oi0_2W1 =>
        conv =>
          lhs
          whnf
          arg 1
          whnf
      case hq2W1 => exact fun _ _ _ h => h
      case ff2W1 => kernel_rfl
      case rr2W1 => kernel_rfl
      case hw2W1 => rfl
      case hy2W1 =>
        intro w hSw
        (try dsimp only at hSw)
        first
        | (go_simp; done)
        | (go_simp; with_reducible rfl)
      try simp only [Act.put, List.setIfInBounds_toArray, List.set_cons_zero, List.set_cons_succ]
      refine wpAnyH_take (i := 3) (oi := ?oi3W1) (v := ?v3W1) ?oi0_3W1 (by kernel_rfl) ?ff3W1 ?rr3W1 ?hq3W1 (Or.inl ⟨?hw3W1, ?hy3W1⟩) (by assumption) ?rest3W1
      case oi0_3W1 =>
        conv =>
          lhs
          whnf
          arg 1
          whnf
      case hq3W1 => exact fun _ _ _ h => h
      case ff3W1 => kernel_rfl
      case rr3W1 => kernel_rfl
      case hw3W1 => rfl
      case hy3W1 =>
        intro w hSw
        (try dsimp only at hSw)
        first
        | (go_simp; done)
        | (go_simp; with_reducible rfl)
      try simp only [Act.put, List.setIfInBounds_toArray, List.set_cons_zero, List.set_cons_succ]
      refine wpAnyH_take (i := 4) (oi := ?oi4W1) (v := ?v4W1) ?oi0_4W1 (by kernel_rfl) ?ff4W1 ?rr4W1 ?hq4W1 (Or.inl ⟨?hw4W1, ?hy4W1⟩) (by assumption) ?rest4W1
      case oi0_4W1 =>
        conv =>
          lhs
          whnf
          arg 1
          whnf
      case hq4W1 => exact fun _ _ _ h => h
      case ff4W1 => kernel_rfl
      case rr4W1 => kernel_rfl
      case hw4W1 => rfl
      case hy4W1 =>
        intro w hSw
        (try dsimp only at hSw)
        first
        | (go_simp; done)
        | (go_simp; with_reducible rfl)
      try simp only [Act.put, List.setIfInBounds_toArray, List.set_cons_zero, List.set_cons_succ]
      refine wpAnyH_take (i := 5) (oi := ?oi5W1) (v := ?v5W1) ?oi0_5W1 (by kernel_rfl) ?ff5W1 ?rr5W1 ?hq5W1 (Or.inl ⟨?hw5W1, ?hy5W1⟩) (by assumption) ?rest5W1
      case oi0_5W1 =>
        conv =>
          lhs
          whnf
          arg 1
          whnf
      case hq5W1 => exact fun _ _ _ h => h
      case ff5W1 => kernel_rfl
      case rr5W1 => kernel_rfl
      case hw5W1 => rfl
      case hy5W1 =>
        intro w hSw
        (try dsimp only at hSw)
        first
        | (go_simp; done)
        | (go_simp; with_reducible rfl)
      try simp only [Act.put, List.setIfInBounds_toArray, List.set_cons_zero, List.set_cons_succ]
      refine wpAnyH_take (i := 6) (oi := ?oi6W1) (v := undef) ?oi0_6W1 (by kernel_rfl) ?ff6W1 ?rr6W1 ?hq6W1 (Or.inr ⟨?hw6W1, rfl⟩) (by assumption) ?rest6W1
      case oi0_6W1 =>
        conv =>
          lhs
          whnf
          arg 1
          whnf
      case hq6W1 => exact fun _ _ _ h => h
      case ff6W1 => kernel_rfl
      case rr6W1 => kernel_rfl
      case hw6W1 => rfl
      try simp only [Act.put, List.setIfInBounds_toArray, List.set_cons_zero, List.set_cons_succ]
      refine wpAnyH_take (i := 7) (oi := ?oi7W1) (v := undef) ?oi0_7W1 (by kernel_rfl) ?ff7W1 ?rr7W1 ?hq7W1 (Or.inr ⟨?hw7W1, rfl⟩) (by assumption) ?rest7W1
      case oi0_7W1 =>
        conv =>
          lhs
          whnf
          arg 1
          whnf
      case hq7W1 => exact fun _ _ _ h => h
      case ff7W1 => kernel_rfl
      case rr7W1 => kernel_rfl
      case hw7W1 => rfl
      try simp only [Act.put, List.setIfInBounds_toArray, List.set_cons_zero, List.set_cons_succ]
      refine wpAnyH_take (i := 8) (oi := ?oi8W1) (v := undef) ?oi0_8W1 (by kernel_rfl) ?ff8W1 ?rr8W1 ?hq8W1 (Or.inr ⟨?hw8W1, rfl⟩) (by assumption) ?rest8W1
      case oi0_8W1 =>
        conv =>
          lhs
          whnf
          arg 1
          whnf
      case hq8W1 => exact fun _ _ _ h => h
      case ff8W1 => kernel_rfl
      case rr8W1 => kernel_rfl
      case hw8W1 => rfl
      try simp only [Act.put, List.setIfInBounds_toArray, List.set_cons_zero, List.set_cons_succ]
      refine wpAnyH_take (i := 9) (oi := ?oi9W1) (v := undef) ?oi0_9W1 (by kernel_rfl) ?ff9W1 ?rr9W1 ?hq9W1 (Or.inr ⟨?hw9W1, rfl⟩) (by assumption) ?rest9W1
      case oi0_9W1 =>
        conv =>
          lhs
          whnf
          arg 1
          whnf
      case hq9W1 => exact fun _ _ _ h => h
      case ff9W1 => kernel_rfl
      case rr9W1 => kernel_rfl
      case hw9W1 => rfl
      try simp only [Act.put, List.setIfInBounds_toArray, List.set_cons_zero, List.set_cons_succ]
      refine wpAnyH_take (i := 10) (oi := ?oi10W1) (v := undef) ?oi0_10W1 (by kernel_rfl) ?ff10W1 ?rr10W1 ?hq10W1 (Or.inr ⟨?hw10W1, rfl⟩) (by assumption) ?rest10W1
      case oi0_10W1 =>
        conv =>
          lhs
          whnf
          arg 1
          whnf
      case hq10W1 => exact fun _ _ _ h => h
      case ff10W1 => kernel_rfl
      case rr10W1 => kernel_rfl
      case hw10W1 => rfl
      try simp only [Act.put, List.setIfInBounds_toArray, List.set_cons_zero, List.set_cons_succ]
      refine wpAnyH_take (i := 11) (oi := ?oi11W1) (v := undef) ?oi0_11W1 (by kernel_rfl) ?ff11W1 ?rr11W1 ?hq11W1 (Or.inr ⟨?hw11W1, rfl⟩) (by assumption) ?rest11W1
      case oi0_11W1 =>
        conv =>
          lhs
          whnf
          arg 1
          whnf
      case hq11W1 => exact fun _ _ _ h => h
      case ff11W1 => kernel_rfl
      case rr11W1 => kernel_rfl
      case hw11W1 => rfl
      try simp only [Act.put, List.setIfInBounds_toArray, List.set_cons_zero, List.set_cons_succ]
      refine wpAnyH_take (i := 12) (oi := ?oi12W1) (v := undef) ?oi0_12W1 (by kernel_rfl) ?ff12W1 ?rr12W1 ?hq12W1 (Or.inr ⟨?hw12W1, rfl⟩) (by assumption) ?rest12W1
      case oi0_12W1 =>
        conv =>
          lhs
          whnf
          arg 1
          whnf
      case hq12W1 => exact fun _ _ _ h => h
      case ff12W1 => kernel_rfl
      case rr12W1 => kernel_rfl
      case hw12W1 => rfl
      try simp only [Act.put, List.setIfInBounds_toArray, List.set_cons_zero, List.set_cons_succ]
      refine wpAnyH_take (i := 13) (oi := ?oi13W1) (v := undef) ?oi0_13W1 (by kernel_rfl) ?ff13W1 ?rr13W1 ?hq13W1 (Or.inr ⟨?hw13W1, rfl⟩) (by assumption) ?rest13W1
      case oi0_13W1 =>
        conv =>
          lhs
          whnf
          arg 1
          whnf
      case hq13W1 => exact fun _ _ _ h => h
      case ff13W1 => kernel_rfl
      case rr13W1 => kernel_rfl
      case hw13W1 => rfl
      try simp only [Act.put, List.setIfInBounds_toArray, List.set_cons_zero, List.set_cons_succ]
      refine wpAnyH_take (i := 14) (oi := ?oi14W1) (v := ?v14W1) ?oi0_14W1 (by kernel_rfl) ?ff14W1 ?rr14W1 ?hq14W1 (Or.inl ⟨?hw14W1, ?hy14W1⟩) (by assumption) ?rest14W1
      case oi0_14W1 =>
        conv =>
          lhs
          whnf
          arg 1
          whnf
      case hq14W1 => exact fun _ _ _ h => h
      case ff14W1 => kernel_rfl
      case rr14W1 => kernel_rfl
      case hw14W1 => rfl
      case hy14W1 =>
        intro w hSw
        (try dsimp only at hSw)
        first
        | (go_simp; done)
        | (go_simp; with_reducible rfl)
      try simp only [Act.put, List.setIfInBounds_toArray, List.set_cons_zero, List.set_cons_succ]
      refine wpAnyH_take (i := 15) (oi := ?oi15W1) (v := ?v15W1) ?oi0_15W1 (by kernel_rfl) ?ff15W1 ?rr15W1 ?hq15W1 (Or.inl ⟨?hw15W1, ?hy15W1⟩) (by assumption) ?rest15W1
      case oi0_15W1 =>
        conv =>
          lhs
          whnf
          arg 1
          whnf
      case hq15W1 => exact fun _ _ _ h => h
      case ff15W1 => kernel_rfl
      case rr15W1 => kernel_rfl
      case hw15W1 => rfl
      case hy15W1 =>
        intro w hSw
        (try dsimp only at hSw)
        first
        | (go_simp; done)
        | (go_simp; with_reducible rfl)
      try simp only [Act.put, List.setIfInBounds_toArray, List.set_cons_zero, List.set_cons_succ]
      refine wpAnyH_take (i := 16) (oi := ?oi16W1) (v := undef) ?oi0_16W1 (by kernel_rfl) ?ff16W1 ?rr16W1 ?hq16W1 (Or.inr ⟨?hw16W1, rfl⟩) (by assumption) ?rest16W1
      case oi0_16W1 =>
        conv =>
          lhs
          whnf
          arg 1
          whnf
      case hq16W1 => exact fun _ _ _ h => h
      case ff16W1 => kernel_rfl
      case rr16W1 => kernel_rfl
      case hw16W1 => rfl
      try simp only [Act.put, List.setIfInBounds_toArray, List.set_cons_zero, List.set_cons_succ]
      refine wpAnyH_take (i := 17) (oi := ?oi17W1) (v := undef) ?oi0_17W1 (by kernel_rfl) ?ff17W1 ?rr17W1 ?hq17W1 (Or.inr ⟨?hw17W1, rfl⟩) (by assumption) ?rest17W1
      case oi0_17W1 =>
        conv =>
          lhs
          whnf
          arg 1
          whnf
      case hq17W1 => exact fun _ _ _ h => h
      case ff17W1 => kernel_rfl
      case rr17W1 => kernel_rfl
      case hw17W1 => rfl
      try simp only [Act.put, List.setIfInBounds_toArray, List.set_cons_zero, List.set_cons_succ]
      refine wpAnyH_take (i := 18) (oi := ?oi18W1) (v := undef) ?oi0_18W1 (by kernel_rfl) ?ff18W1 ?rr18W1 ?hq18W1 (Or.inr ⟨?hw18W1, rfl⟩) (by assumption) ?rest18W1
      case oi0_18W1 =>
        conv =>
          lhs
          whnf
          arg 1
          whnf
      case hq18W1 => exact fun _ _ _ h => h
      case ff18W1 => kernel_rfl
      case rr18W1 => kernel_rfl
      case hw18W1 => rfl
      try simp only [Act.put, List.setIfInBounds_toArray, List.set_cons_zero, List.set_cons_succ]
      refine wpAnyH_take (i := 19) (oi := ?oi19W1) (v := undef) ?oi0_19W1 (by kernel_rfl) ?ff19W1 ?rr19W1 ?hq19W1 (Or.inr ⟨?hw19W1, rfl⟩) (by assumption) ?rest19W1
      case oi0_19W1 =>
        conv =>
          lhs
          whnf
          arg 1
          whnf
      case hq19W1 => exact fun _ _ _ h => h
      case ff19W1 => kernel_rfl
      case rr19W1 => kernel_rfl
      case hw19W1 => rfl
      try simp only [Act.put, List.setIfInBounds_toArray, List.set_cons_zero, List.set_cons_succ]
      refine wpAnyH_take (i := 20) (oi := ?oi20W1) (v := undef) ?oi0_20W1 (by kernel_rfl) ?ff20W1 ?rr20W1 ?hq20W1 (Or.inr ⟨?hw20W1, rfl⟩) (by assumption) ?rest20W1
      case oi0_20W1 =>
        conv =>
          lhs
          whnf
          arg 1
          whnf
      case hq20W1 => exact fun _ _ _ h => h
      case ff20W1 => kernel_rfl
      case rr20W1 => kernel_rfl
      case hw20W1 => rfl
      try simp only [Act.put, List.setIfInBounds_toArray, List.set_cons_zero, List.set_cons_succ]
      refine wpAnyH_take (i := 21) (oi := ?oi21W1) (v := undef) ?oi0_21W1 (by kernel_rfl) ?ff21W1 ?rr21W1 ?hq21W1 (Or.inr ⟨?hw21W1, rfl⟩) (by assumption) ?rest21W1
      case oi0_21W1 =>
        conv =>
          lhs
          whnf
          arg 1
          whnf
      case hq21W1 => exact fun _ _ _ h => h
      case ff21W1 => kernel_rfl
      case rr21W1 => kernel_rfl
      case hw21W1 => rfl
      try simp only [Act.put, List.setIfInBounds_toArray, List.set_cons_zero, List.set_cons_succ]
      refine wpAnyH_take (i := 22) (oi := ?oi22W1) (v := undef) ?oi0_22W1 (by kernel_rfl) ?ff22W1 ?rr22W1 ?hq22W1 (Or.inr ⟨?hw22W1, rfl⟩) (by assumption) ?rest22W1
      case oi0_22W1 =>
        conv =>
          lhs
          whnf
          arg 1
          whnf
      case hq22W1 => exact fun _ _ _ h => h
      case ff22W1 => kernel_rfl
      case rr22W1 => kernel_rfl
      case hw22W1 => rfl
      try simp only [Act.put, List.setIfInBounds_toArray, List.set_cons_zero, List.set_cons_succ]
      refine wpAnyH_take (i := 23) (oi := ?oi23W1) (v := undef) ?oi0_23W1 (by kernel_rfl) ?ff23W1 ?rr23W1 ?hq23W1 (Or.inr ⟨?hw23W1, rfl⟩) (by assumption) ?rest23W1
      case oi0_23W1 =>
        conv =>
          lhs
          whnf
          arg 1
          whnf
      case hq23W1 => exact fun _ _ _ h => h
      case ff23W1 => kernel_rfl
      case rr23W1 => kernel_rfl
      case hw23W1 => rfl
      try simp only [Act.put, List.setIfInBounds_toArray, List.set_cons_zero, List.set_cons_succ]
      refine wpAnyH_take (i := 24) (oi := ?oi24W1) (v := undef) ?oi0_24W1 (by kernel_rfl) ?ff24W1 ?rr24W1 ?hq24W1 (Or.inr ⟨?hw24W1, rfl⟩) (by assumption) ?rest24W1
      case oi0_24W1 =>
        conv =>
          lhs
          whnf
          arg 1
          whnf
      case hq24W1 => exact fun _ _ _ h => h
      case ff24W1 => kernel_rfl
      case rr24W1 => kernel_rfl
      case hw24W1 => rfl
      try simp only [Act.put, List.setIfInBounds_toArray, List.set_cons_zero, List.set_cons_succ]
      refine wpAnyH_take (i := 25) (oi := ?oi25W1) (v := undef) ?oi0_25W1 (by kernel_rfl) ?ff25W1 ?rr25W1 ?hq25W1 (Or.inr ⟨?hw25W1, rfl⟩) (by assumption) ?rest25W1
      case oi0_25W1 =>
        conv =>
          lhs
          whnf
          arg 1
          whnf
      case hq25W1 => exact fun _ _ _ h => h
      case ff25W1 => kernel_rfl
      case rr25W1 => kernel_rfl
      case hw25W1 => rfl
      try simp only [Act.put, List.setIfInBounds_toArray, List.set_cons_zero, List.set_cons_succ]
      refine wpAnyH_take (i := 26) (oi := ?oi26W1) (v := undef) ?oi0_26W1 (by kernel_rfl) ?ff26W1 ?rr26W1 ?hq26W1 (Or.inr ⟨?hw26W1, rfl⟩) (by assumption) ?rest26W1
      case oi0_26W1 =>
        conv =>
          lhs
          whnf
          arg 1
          whnf
      case hq26W1 => exact fun _ _ _ h => h
      case ff26W1 => kernel_rfl
      case rr26W1 => kernel_rfl
      case hw26W1 => rfl
      try simp only [Act.put, List.setIfInBounds_toArray, List.set_cons_zero, List.set_cons_succ]
      refine wpAnyH_take (i := 27) (oi := ?oi27W1) (v := undef) ?oi0_27W1 (by kernel_rfl) ?ff27W1 ?rr27W1 ?hq27W1 (Or.inr ⟨?hw27W1, rfl⟩) (by assumption) ?rest27W1
      case oi0_27W1 =>
        conv =>
          lhs
          whnf
          arg 1
          whnf
      case hq27W1 => exact fun _ _ _ h => h
      case ff27W1 => kernel_rfl
      case rr27W1 => kernel_rfl
      case hw27W1 => rfl
      try simp only [Act.put, List.setIfInBounds_toArray, List.set_cons_zero, List.set_cons_succ]
      refine wpAnyH_take (i := 28) (oi := ?oi28W1) (v := undef) ?oi0_28W1 (by kernel_rfl) ?ff28W1 ?rr28W1 ?hq28W1 (Or.inr ⟨?hw28W1, rfl⟩) (by assumption) ?rest28W1
      case oi0_28W1 =>
        conv =>
          lhs
          whnf
          arg 1
          whnf
      case hq28W1 => exact fun _ _ _ h => h
      case ff28W1 => kernel_rfl
      case rr28W1 => kernel_rfl
      case hw28W1 => rfl
      try simp only [Act.put, List.setIfInBounds_toArray, List.set_cons_zero, List.set_cons_succ]
      refine wpAnyH_take (i := 29) (oi := ?oi29W1) (v := undef) ?oi0_29W1 (by kernel_rfl) ?ff29W1 ?rr29W1 ?hq29W1 (Or.inr ⟨?hw29W1, rfl⟩) (by assumption) ?rest29W1
      case oi0_29W1 =>
        conv =>
          lhs
          whnf
          arg 1
          whnf
      case hq29W1 => exact fun _ _ _ h => h
      case ff29W1 => kernel_rfl
      case rr29W1 => kernel_rfl
      case hw29W1 => rfl
      try simp only [Act.put, List.setIfInBounds_toArray, List.set_cons_zero, List.set_cons_succ]
      refine wpAnyH_take (i := 30) (oi := ?oi30W1) (v := ?v30W1) ?oi0_30W1 (by kernel_rfl) ?ff30W1 ?rr30W1 ?hq30W1 (Or.inl ⟨?hw30W1, ?hy30W1⟩) (by assumption) ?rest30W1
      case oi0_30W1 =>
        conv =>
          lhs
          whnf
          arg 1
          whnf
      case hq30W1 => exact fun _ _ _ h => h
      case ff30W1 => kernel_rfl
      case rr30W1 => kernel_rfl
      case hw30W1 => rfl
      case hy30W1 =>
        intro w hSw
        (try dsimp only at hSw)
        first
        | (go_simp; done)
        | (go_simp; with_reducible rfl)
      try simp only [Act.put, List.setIfInBounds_toArray, List.set_cons_zero, List.set_cons_succ]
      refine wpAnyH_done (by kernel_rfl) ?_ _
      go_wp2_with fail
      go_ret
      exact ⟨rfl, U1.out.trans V.out (by simp)⟩
    have d1 : decide (x < 0) = false := decide_eq_false e1
    by_cases e2 : (i.trims.length : Int) ≤ x
    case pos =>
      have d2 : decide ((i.trims.length : Int) ≤ x) = true := decide_eq_true e2
      obtain rfl : r = false := by rw [← HR.out]; exact decide_eq_false fun h => by have h1 := h k (by have := HXN.out; omega); unfold IdxOk at h1; rw [HS.out] at h1; simp only [Option.getD_some] at h1; omega
      go_wp2_with fail
      refine wp_region_held_drew (S := (fun w' => w'.cell? ⟨w.heap.size, 3, none⟩ = some (.slice ta i.trims.length tc) ∧ w'.cell? ⟨b, o + k, none⟩ = some (.int .i64 x))) (by kernel_rfl) (by exact ⟨m3, c0'⟩) (fun hHeld => ?_)
      refine wpAnyH_take (i := 0) (oi := ?oi0W2) (v := ?v0W2) ?oi0_0W2 (by kernel_rfl) ?ff0W2 ?rr0W2 ?hq0W2 (Or.inl ⟨?hw0W2, ?hy0W2⟩) (by assumption) ?rest0W2
      case oi0_0W2 =>
        conv =>
          lhs
          whnf
          arg 1
          whnf
      case hq0W2 => exact fun _ _ _ h => h
      case ff0W2 => kernel_rfl
      case rr0W2 => kernel_rfl
      case hw0W2 => rfl
      case hy0W2 =>
        intro w hSw
        (try dsimp only at hSw)
        first
        | (go_simp; done)
        | (go_simp; with_reducible rfl)
      try simp only [Act.put, List.setIfInBounds_toArray, List.set_cons_zero, List.set_cons_succ]
      refine wpAnyH_take (i := 1) (oi := ?oi1W2) (v := ?v1W2) ?oi0_1W2 (by kernel_rfl) ?ff1W2 ?rr1W2 ?hq1W2 (Or.inl ⟨?hw1W2, ?hy1W2⟩) (by assumption) ?rest1W2
      case oi0_1W2 =>
        conv =>
          lhs
          whnf
          arg 1
          whnf
      case hq1W2 => exact fun _ _ _ h => h
      case ff1W2 => kernel_rfl
      case rr1W2 => kernel_rfl
      case hw1W2 => rfl
      case hy1W2 =>
        intro w hSw
        (try dsimp only at hSw)
        first
        | (go_simp; done)
        | (go_simp; with_reducible rfl)
      try simp only [Act.put, List.setIfInBounds_toArray, List.set_cons_zero, List.set_cons_succ]
      refine wpAnyH_take (i := 2) (oi := ?oi2W2) (v := ?v2W2) ?oi0_2W2 (by kernel_rfl) ?ff2W2 ?rr2W2 ?hq2W2 (Or.inl ⟨?hw2W2, ?hy2W2⟩) (by assumption) ?rest2W2
      case oi0_2W2 =>
        conv =>
          lhs
          whnf
          arg 1
          whnf
      case hq2W2 => exact fun _ _ _ h => h
      case ff2W2 => kernel_rfl
      case rr2W2 => kernel_rfl
      case hw2W2 => rfl
      case hy2W2 =>
        intro w hSw
        (try dsimp only at hSw)
        first
        | (go_simp; done)
        | (go_simp; with_reducible rfl)
      try simp only [Act.put, List.setIfInBounds_toArray, List.set_cons_zero, List.set_cons_succ]
      refine wpAnyH_take (i := 3) (oi := ?oi3W2) (v := ?v3W2) ?oi0_3W2 (by kernel_rfl) ?ff3W2 ?rr3W2 ?hq3W2 (Or.inl ⟨?hw3W2, ?hy3W2⟩) (by assumption) ?rest3W2
      case oi0_3W2 =>
        conv =>
          lhs
          whnf
          arg 1
          whnf
      case hq3W2 => exact fun _ _ _ h => h
      case ff3W2 => kernel_rfl
      case rr3W2 => kernel_rfl
      case hw3W2 => rfl
      case hy3W2 =>
        intro w hSw
        (try dsimp only at hSw)
        first
        | (go_simp; done)
        | (go_simp; with_reducible rfl)
      try simp only [Act.put, List.setIfInBounds_toArray, List.set_cons_zero, List.set_cons_succ]
      refine wpAnyH_take (i := 4) (oi := ?oi4W2) (v := ?v4W2) ?oi0_4W2 (by kernel_rfl) ?ff4W2 ?rr4W2 ?hq4W2 (Or.inl ⟨?hw4W2, ?hy4W2⟩) (by assumption) ?rest4W2
      case oi0_4W2 =>
        conv =>
          lhs
          whnf
          arg 1
          whnf
      case hq4W2 => exact fun _ _ _ h => h
      case ff4W2 => kernel_rfl
      case rr4W2 => kernel_rfl
      case hw4W2 => rfl
      case hy4W2 =>
        intro w hSw
        (try dsimp only at hSw)
        first
        | (go_simp; done)
        | (go_simp; with_reducible rfl)
      try simp only [Act.put, List.setIfInBounds_toArray, List.set_cons_zero, List.set_cons_succ]
      refine wpAnyH_take (i := 5) (oi := ?oi5W2) (v := ?v5W2) ?oi0_5W2 (by kernel_rfl) ?ff5W2 ?rr5W2 ?hq5W2 (Or.inl ⟨?hw5W2, ?hy5W2⟩) (by assumption) ?rest5W2
      case oi0_5W2 =>
        conv =>
          lhs
          whnf
          arg 1
          whnf
      case hq5W2 => exact fun _ _ _ h => h
      case ff5W2 => kernel_rfl
      case rr5W2 => kernel_rfl
      case hw5W2 => rfl
      case hy5W2 =>
        intro w hSw
        (try dsimp only at hSw)
        first
        | (go_simp; done)
        | (go_simp; with_reducible rfl)
      try simp only [Act.put, List.setIfInBounds_toArray, List.set_cons_zero, List.set_cons_succ]
      refine wpAnyH_take (i := 6) (oi := ?oi6W2) (v := ?v6W2) ?oi0_6W2 (by kernel_rfl) ?ff6W2 ?rr6W2 ?hq6W2 (Or.inl ⟨?hw6W2, ?hy6W2⟩) (by assumption) ?rest6W2
      case oi0_6W2 =>
        conv =>
          lhs
          whnf
          arg 1
          whnf
      case hq6W2 => exact fun _ _ _ h => h
      case ff6W2 => kernel_rfl
      case rr6W2 => kernel_rfl
      case hw6W2 => rfl
      case hy6W2 =>
        intro w hSw
        (try dsimp only at hSw)
        first
        | (go_simp; done)
        | (go_simp; with_reducible rfl)
      try simp only [Act.put, List.setIfInBounds_toArray, List.set_cons_zero, List.set_cons_succ]
      refine wpAnyH_take (i := 7) (oi := ?oi7W2) (v := ?v7W2) ?oi0_7W2 (by kernel_rfl) ?ff7W2 ?rr7W2 ?hq7W2 (Or.inl ⟨?hw7W2, ?hy7W2⟩) (by assumption) ?rest7W2
      case oi0_7W2 =>
        conv =>
          lhs
          whnf
          arg 1
          whnf
      case hq7W2 => exact fun _ _ _ h => h
      case ff7W2 => kernel_rfl
      case rr7W2 => kernel_rfl
      case hw7W2 => rfl
      case hy7W2 =>
        intro w hSw
        (try dsimp only at hSw)
        first
        | (go_simp; done)
        | (go_simp; with_reducible rfl)
      try simp only [Act.put, List.setIfInBounds_toArray, List.set_cons_zero, List.set_cons_succ]
      refine wpAnyH_take (i := 8) (oi := ?oi8W2) (v := ?v8W2) ?oi0_8W2 (by kernel_rfl) ?ff8W2 ?rr8W2 ?hq8W2 (Or.inl ⟨?hw8W2, ?hy8W2⟩) (by assumption) ?rest8W2
      case oi0_8W2 =>
        conv =>
          lhs
          whnf
          arg 1
          whnf
      case hq8W2 => exact fun _ _ _ h => h
      case ff8W2 => kernel_rfl
      case rr8W2 => kernel_rfl
      case hw8W2 => rfl
      case hy8W2 =>
        intro w hSw
        (try dsimp only at hSw)
        first
        | (go_simp; done)
        | (go_simp; with_reducible rfl)
      try simp only [Act.put, List.setIfInBounds_toArray, List.set_cons_zero, List.set_cons_succ]
      refine wpAnyH_take (i := 9) (oi := ?oi9W2) (v := ?v9W2) ?oi0_9W2 (by kernel_rfl) ?ff9W2 ?rr9W2 ?hq9W2 (Or.inl ⟨?hw9W2, ?hy9W2⟩) (by assumption) ?rest9W2
      case oi0_9W2 =>
        conv =>
          lhs
          whnf
          arg 1
          whnf
      case hq9W2 => exact fun _ _ _ h => h
      case ff9W2 => kernel_rfl
      case rr9W2 => kernel_rfl
      case hw9W2 => rfl
      case hy9W2 =>
        intro w hSw
        (try dsimp only at hSw)
        first
        | (go_simp; done)
        | (go_simp; with_reducible rfl)
      try simp only [Act.put, List.setIfInBounds_toArray, List.set_cons_zero, List.set_cons_succ]
      refine wpAnyH_take (i := 10) (oi := ?oi10W2) (v := ?v10W2) ?oi0_10W2 (by kernel_rfl) ?ff10W2 ?rr10W2 ?hq10W2 (Or.inl ⟨?hw10W2, ?hy10W2⟩) (by assumption) ?rest10W2
      case oi0_10W2 =>
        conv =>
          lhs
          whnf
          arg 1
          whnf
      case hq10W2 => exact fun _ _ _ h => h
      case ff10W2 => kernel_rfl
      case rr10W2 => kernel_rfl
      case hw10W2 => rfl
      case hy10W2 =>
        intro w hSw
        (try dsimp only at hSw)
        first
        | (go_simp; done)
        | (go_simp; with_reducible rfl)
      try simp only [Act.put, List.setIfInBounds_toArray, List.set_cons_zero, List.set_cons_succ]
      refine wpAnyH_take (i := 11) (oi := ?oi11W2) (v := ?v11W2) ?oi0_11W2 (by kernel_rfl) ?ff11W2 ?rr11W2 ?hq11W2 (Or.inl ⟨?hw11W2, ?hy11W2⟩) (by assumption) ?rest11W2
      case oi0_11W2 =>
        conv =>
          lhs
          whnf
          arg 1
          whnf
      case hq11W2 => exact fun _ _ _ h => h
      case ff11W2 => kernel_rfl
      case rr11W2 => kernel_rfl
      case hw11W2 => rfl
      case hy11W2 =>
        intro w hSw
        (try dsimp only at hSw)
        first
        | (go_simp; done)
        | (go_simp; with_reducible rfl)
      try simp only [Act.put, List.setIfInBounds_toArray, List.set_cons_zero, List.set_cons_succ]
      refine wpAnyH_take (i := 12) (oi := ?oi12W2) (v := ?v12W2) ?oi0_12W2 (by kernel_rfl) ?ff12W2 ?rr12W2 ?hq12W2 (Or.inl ⟨?hw12W2, ?hy12W2⟩) (by assumption) ?rest12W2
      case oi0_12W2 =>
        conv =>
          lhs
          whnf
          arg 1
          whnf
      case hq12W2 => exact fun _ _ _ h => h
      case ff12W2 => kernel_rfl
      case rr12W2 => kernel_rfl
      case hw12W2 => rfl
      case hy12W2 =>
        intro w hSw
        (try dsimp only at hSw)
        first
        | (go_simp; done)
        | (go_simp; with_reducible rfl)
      try simp only [Act.put, List.setIfInBounds_toArray, List.set_cons_zero, List.set_cons_succ]
      refine wpAnyH_take (i := 13) (oi := ?oi13W2) (v := ?v13W2) ?oi0_13W2 (by kernel_rfl) ?ff13W2 ?rr13W2 ?hq13W2 (Or.inl ⟨?hw13W2, ?hy13W2⟩) (by assumption) ?rest13W2
      case oi0_13W2 =>
        conv =>
          lhs
          whnf
          arg 1
          whnf
      case hq13W2 => exact fun _ _ _ h => h
      case ff13W2 => kernel_rfl
      case rr13W2 => kernel_rfl
      case hw13W2 => rfl
      case hy13W2 =>
        intro w hSw
        (try dsimp only at hSw)
        first
        | (go_simp; done)
        | (go_simp; with_reducible rfl)
      try simp only [Act.put, List.setIfInBounds_toArray, List.set_cons_zero, List.set_cons_succ]
      refine wpAnyH_take (i := 14) (oi := ?oi14W2) (v := ?v14W2) ?oi0_14W2 (by kernel_rfl) ?ff14W2 ?rr14W2 ?hq14W2 (Or.inl ⟨?hw14W2, ?hy14W2⟩) (by assumption) ?rest14W2
      case oi0_14W2 =>
        conv =>
          lhs
          whnf
          arg 1
          whnf
      case hq14W2 => exact fun _ _ _ h => h
      case ff14W2 => kernel_rfl
      case rr14W2 => kernel_rfl
      case hw14W2 => rfl
      case hy14W2 =>
        intro w hSw
        (try dsimp only at hSw)
        first
        | (go_simp; done)
        | (go_simp; with_reducible rfl)
      try simp only [Act.put, List.setIfInBounds_toArray, List.set_cons_zero, List.set_cons_succ]
      refine wpAnyH_take (i := 15) (oi := ?oi15W2) (v := ?v15W2) ?oi0_15W2 (by kernel_rfl) ?ff15W2 ?rr15W2 ?hq15W2 (Or.inl ⟨?hw15W2, ?hy15W2⟩) (by assumption) ?rest15W2
      case oi0_15W2 =>
        conv =>
          lhs
          whnf
          arg 1
          whnf
      case hq15W2 => exact fun _ _ _ h => h
      case ff15W2 => kernel_rfl
      case rr15W2 => kernel_rfl
      case hw15W2 => rfl
      case hy15W2 =>
        intro w hSw
        (try dsimp only at hSw)
        first
        | (go_simp; done)
        | (go_simp; with_reducible rfl)
      try simp only [Act.put, List.setIfInBounds_toArray, List.set_cons_zero, List.set_cons_succ]
      refine wpAnyH_take (i := 16) (oi := ?oi16W2) (v := undef) ?oi0_16W2 (by kernel_rfl) ?ff16W2 ?rr16W2 ?hq16W2 (Or.inr ⟨?hw16W2, rfl⟩) (by assumption) ?rest16W2
      case oi0_16W2 =>
        conv =>
          lhs
          whnf
          arg 1
          whnf
      case hq16W2 => exact fun _ _ _ h => h
      case ff16W2 => kernel_rfl
      case rr16W2 => kernel_rfl
      case hw16W2 => rfl
      try simp only [Act.put, List.setIfInBounds_toArray, List.set_cons_zero, List.set_cons_succ]
      refine wpAnyH_take (i := 17) (oi := ?oi17W2) (v := undef) ?oi0_17W2 (by kernel_rfl) ?ff17W2 ?rr17W2 ?hq17W2 (Or.inr ⟨?hw17W2, rfl⟩) (by assumption) ?rest17W2
      case oi0_17W2 =>
        conv =>
          lhs
          whnf
          arg 1
          whnf
      case hq17W2 => exact fun _ _ _ h => h
      case ff17W2 => kernel_rfl
      case rr17W2 => kernel_rfl
      case hw17W2 => rfl
      try simp only [Act.put, List.setIfInBounds_toArray, List.set_cons_zero, List.set_cons_succ]
      refine wpAnyH_take (i := 18) (oi := ?oi18W2) (v := undef) ?oi0_18W2 (by kernel_rfl) ?ff18W2 ?rr18W2 ?hq18W2 (Or.inr ⟨?hw18W2, rfl⟩) (by assumption) ?rest18W2
      case oi0_18W2 =>
        conv =>
          lhs
          whnf
          arg 1
          whnf
      case hq18W2 => exact fun _ _ _ h => h
      case ff18W2 => kernel_rfl
      case rr18W2 => kernel_rfl
      case hw18W2 => rfl
      try simp only [Act.put, List.setIfInBounds_toArray, List.set_cons_zero, List.set_cons_succ]
      refine wpAnyH_take (i := 19) (oi := ?oi19W2) (v := undef) ?oi0_19W2 (by kernel_rfl) ?ff19W2 ?rr19W2 ?hq19W2 (Or.inr ⟨?hw19W2, rfl⟩) (by assumption) ?rest19W2
      case oi0_19W2 =>
        conv =>
          lhs
          whnf
          arg 1
          whnf
      case hq19W2 => exact fun _ _ _ h => h
      case ff19W2 => kernel_rfl
      case rr19W2 => kernel_rfl
      case hw19W2 => rfl
      try simp only [Act.put, List.setIfInBounds_toArray, List.set_cons_zero, List.set_cons_succ]
      refine wpAnyH_take (i := 20) (oi := ?oi20W2) (v := undef) ?oi0_20W2 (by kernel_rfl) ?ff20W2 ?rr20W2 ?hq20W2 (Or.inr ⟨?hw20W2, rfl⟩) (by assumption) ?rest20W2
      case oi0_20W2 =>
        conv =>
          lhs
          whnf
          arg 1
          whnf
      case hq20W2 => exact fun _ _ _ h => h
      case ff20W2 => kernel_rfl
      case rr20W2 => kernel_rfl
      case hw20W2 => rfl
      try simp only [Act.put, List.setIfInBounds_toArray, List.set_cons_zero, List.set_cons_succ]
      refine wpAnyH_take (i := 21) (oi := ?oi21W2) (v := undef) ?oi0_21W2 (by kernel_rfl) ?ff21W2 ?rr21W2 ?hq21W2 (Or.inr ⟨?hw21W2, rfl⟩) (by assumption) ?rest21W2
      case oi0_21W2 =>
        conv =>
          lhs
          whnf
          arg 1
          whnf
      case hq21W2 => exact fun _ _ _ h => h
      case ff21W2 => kernel_rfl
      case rr21W2 => kernel_rfl
      case hw21W2 => rfl
      try simp only [Act.put, List.setIfInBounds_toArray, List.set_cons_zero, List.set_cons_succ]
      refine wpAnyH_take (i := 22) (oi := ?oi22W2) (v := undef) ?oi0_22W2 (by kernel_rfl) ?ff22W2 ?rr22W2 ?hq22W2 (Or.inr ⟨?hw22W2, rfl⟩) (by assumption) ?rest22W2
      case oi0_22W2 =>
        conv =>
          lhs
          whnf
          arg 1
          whnf
      case hq22W2 => exact fun _ _ _ h => h
      case ff22W2 => kernel_rfl
      case rr22W2 => kernel_rfl
      case hw22W2 => rfl
      try simp only [Act.put, List.setIfInBounds_toArray, List.set_cons_zero, List.set_cons_succ]
      refine wpAnyH_take (i := 23) (oi := ?oi23W2) (v := undef) ?oi0_23W2 (by kernel_rfl) ?ff23W2 ?rr23W2 ?hq23W2 (Or.inr ⟨?hw23W2, rfl⟩) (by assumption) ?rest23W2
      case oi0_23W2 =>
        conv =>
          lhs
          whnf
          arg 1
          whnf
      case hq23W2 => exact fun _ _ _ h => h
      case ff23W2 => kernel_rfl
      case rr23W2 => kernel_rfl
      case hw23W2 => rfl
      try simp only [Act.put, List.setIfInBounds_toArray, List.set_cons_zero, List.set_cons_succ]
      refine wpAnyH_take (i := 24) (oi := ?oi24W2) (v := undef) ?oi0_24W2 (by kernel_rfl) ?ff24W2 ?rr24W2 ?hq24W2 (Or.inr ⟨?hw24W2, rfl⟩) (by assumption) ?rest24W2
      case oi0_24W2 =>
        conv =>
          lhs
          whnf
          arg 1
          whnf
      case hq24W2 => exact fun _ _ _ h => h
      case ff24W2 => kernel_rfl
      case rr24W2 => kernel_rfl
      case hw24W2 => rfl
      try simp only [Act.put, List.setIfInBounds_toArray, List.set_cons_zero, List.set_cons_succ]
      refine wpAnyH_take (i := 25) (oi := ?oi25W2) (v := undef) ?oi0_25W2 (by kernel_rfl) ?ff25W2 ?rr25W2 ?hq25W2 (Or.inr ⟨?hw25W2, rfl⟩) (by assumption) ?rest25W2
      case oi0_25W2 =>
        conv =>
          lhs
          whnf
          arg 1
          whnf
      case hq25W2 => exact fun _ _ _ h => h
      case ff25W2 => kernel_rfl
      case rr25W2 => kernel_rfl
      case hw25W2 => rfl
      try simp only [Act.put, List.setIfInBounds_toArray, List.set_cons_zero, List.set_cons_succ]
      refine wpAnyH_take (i := 26) (oi := ?oi26W2) (v := undef) ?oi0_26W2 (by kernel_rfl) ?ff26W2 ?rr26W2 ?hq26W2 (Or.inr ⟨?hw26W2, rfl⟩) (by assumption) ?rest26W2
      case oi0_26W2 =>
        conv =>
          lhs
          whnf
          arg 1
          whnf
      case hq26W2 => exact fun _ _ _ h => h
      case ff26W2 => kernel_rfl
      case rr26W2 => kernel_rfl
      case hw26W2 => rfl
      try simp only [Act.put, List.setIfInBounds_toArray, List.set_cons_zero, List.set_cons_succ]
      refine wpAnyH_take (i := 27) (oi := ?oi27W2) (v := undef) ?oi0_27W2 (by kernel_rfl) ?ff27W2 ?rr27W2 ?hq27W2 (Or.inr ⟨?hw27W2, rfl⟩) (by assumption) ?rest27W2
      case oi0_27W2 =>
        conv =>
          lhs
          whnf
          arg 1
          whnf
      case hq27W2 => exact fun _ _ _ h => h
      case ff27W2 => kernel_rfl
      case rr27W2 => kernel_rfl
      case hw27W2 => rfl
      try simp only [Act.put, List.setIfInBounds_toArray, List.set_cons_zero, List.set_cons_succ]
      refine wpAnyH_take (i := 28) (oi := ?oi28W2) (v := undef) ?oi0_28W2 (by kernel_rfl) ?ff28W2 ?rr28W2 ?hq28W2 (Or.inr ⟨?hw28W2, rfl⟩) (by assumption) ?rest28W2
      case oi0_28W2 =>
        conv =>
          lhs
          whnf
          arg 1
          whnf
      case hq28W2 => exact fun _ _ _ h => h
      case ff28W2 => kernel_rfl
      case rr28W2 => kernel_rfl
      case hw28W2 => rfl
      try simp only [Act.put, List.setIfInBounds_toArray, List.set_cons_zero, List.set_cons_succ]
      refine wpAnyH_take (i := 29) (oi := ?oi29W2) (v := undef) ?oi0_29W2 (by kernel_rfl) ?ff29W2 ?rr29W2 ?hq29W2 (Or.inr ⟨?hw29W2, rfl⟩) (by assumption) ?rest29W2
      case oi0_29W2 =>
        conv =>
          lhs
          whnf
          arg 1
          whnf
      case hq29W2 => exact fun _ _ _ h => h
      case ff29W2 => kernel_rfl
      case rr29W2 => kernel_rfl
      case hw29W2 => rfl
      try simp only [Act.put, List.setIfInBounds_toArray, List.set_cons_zero, List.set_cons_succ]
      refine wpAnyH_take (i := 30) (oi := ?oi30W2) (v := ?v30W2) ?oi0_30W2 (by kernel_rfl) ?ff30W2 ?rr30W2 ?hq30W2 (Or.inl ⟨?hw30W2, ?hy30W2⟩) (by assumption) ?rest30W2
      case oi0_30W2 =>
        conv =>
          lhs
          whnf
          arg 1
          whnf
      case hq30W2 => exact fun _ _ _ h => h
      case ff30W2 => kernel_rfl
      case rr30W2 => kernel_rfl
      case hw30W2 => rfl
      case hy30W2 =>
        intro w hSw
        (try dsimp only at hSw)
        first
        | (go_simp; done)
        | (go_simp; with_reducible rfl)
      try simp only [Act.put, List.setIfInBounds_toArray, List.set_cons_zero, List.set_cons_succ]
      refine wpAnyH_done (by kernel_rfl) ?_ _
      go_wp2_with fail
      go_ret
      exact ⟨rfl, U1.out.trans V.out (by simp)⟩
    have d2 : decide ((i.trims.length : Int) ≤ x) = false := decide_eq_false e2
    by_cases hk0 : 0 < k
    case neg =>
      have hk0i : ¬ (0 : Int) < k := by omega
      have hk0d : decide ((0 : Int) < k) = false := decide_eq_false hk0i
      have HST := hide (show ∀ j, j < k + 1 → IdxOk i.trims.length xs j from fun j hj => by
        rcases Nat.lt_succ_iff_lt_or_eq.1 hj with h | rfl
        · exact hr.out j h
        · unfold IdxOk; rw [HS.out]; simp only [Option.getD_some]; exact ⟨by omega, .inl (by omega)⟩)
      go_wp2_with fail
      refine wp_region_held_drew (S := (fun w' => w'.cell? ⟨w.heap.size, 3, none⟩ = some (.slice ta i.trims.length tc) ∧ w'.cell? ⟨b, o + k, none⟩ = some (.int .i64 x))) (by kernel_rfl) (by exact ⟨m3, c0'⟩) (fun hHeld => ?_)
      refine wpAnyH_take (i := 0) (oi := ?oi0W3) (v := ?v0W3) ?oi0_0W3 (by kernel_rfl) ?ff0W3 ?rr0W3 ?hq0W3 (Or.inl ⟨?hw0W3, ?hy0W3⟩) (by assumption) ?rest0W3
      case oi0_0W3 =>
        conv =>
          lhs
          whnf
          arg 1
          whnf
      case hq0W3 => exact fun _ _ _ h => h
      case ff0W3 => kernel_rfl
      case rr0W3 => kernel_rfl
      case hw0W3 => rfl
      case hy0W3 =>
        intro w hSw
        (try dsimp only at hSw)
        first
        | (go_simp; done)
        | (go_simp; with_reducible rfl)
      try simp only [Act.put, List.setIfInBounds_toArray, List.set_cons_zero, List.set_cons_succ]
      refine wpAnyH_take (i := 1) (oi := ?oi1W3) (v := ?v1W3) ?oi0_1W3 (by kernel_rfl) ?ff1W3 ?rr1W3 ?hq1W3 (Or.inl ⟨?hw1W3, ?hy1W3⟩) (by assumption) ?rest1W3
      case oi0_1W3 =>
        conv =>
          lhs
          whnf
          arg 1
          whnf
      case hq1W3 => exact fun _ _ _ h => h
      case ff1W3 => kernel_rfl
      case rr1W3 => kernel_rfl
      case hw1W3 => rfl
      case hy1W3 =>
        intro w hSw
        (try dsimp only at hSw)
        first
        | (go_simp; done)
        | (go_simp; with_reducible rfl)
      try simp only [Act.put, List.setIfInBounds_toArray, List.set_cons_zero, List.set_cons_succ]
      refine wpAnyH_take (i := 2) (oi := ?oi2W3) (v := ?v2W3) ?oi0_2W3 (by kernel_rfl) ?ff2W3 ?rr2W3 ?hq2W3 (Or.inl ⟨?hw2W3, ?hy2W3⟩) (by assumption) ?rest2W3
      case oi0_2W3 =>
        conv =>
          lhs
          whnf
          arg 1
          whnf
      case hq2W3 => exact fun _ _ _ h => h
      case ff2W3 => kernel_rfl
      case rr2W3 => kernel_rfl
      case hw2W3 => rfl
      case hy2W3 =>
        intro w hSw
        (try dsimp only at hSw)
        first
        | (go_simp; done)
        | (go_simp; with_reducible rfl)
      try simp only [Act.put, List.setIfInBounds_toArray, List.set_cons_zero, List.set_cons_succ]
      refine wpAnyH_take (i := 3) (oi := ?oi3W3) (v := ?v3W3) ?oi0_3W3 (by kernel_rfl) ?ff3W3 ?rr3W3 ?hq3W3 (Or.inl ⟨?hw3W3, ?hy3W3⟩) (by assumption) ?rest3W3
      case oi0_3W3 =>
        conv =>
          lhs
          whnf
          arg 1
          whnf
      case hq3W3 => exact fun _ _ _ h => h
      case ff3W3 => kernel_rfl
      case rr3W3 => kernel_rfl
      case hw3W3 => rfl
      case hy3W3 =>
        intro w hSw
        (try dsimp only at hSw)
        first
        | (go_simp; done)
        | (go_simp; with_reducible rfl)
      try simp only [Act.put, List.setIfInBounds_toArray, List.set_cons_zero, List.set_cons_succ]
      refine wpAnyH_take (i := 4) (oi := ?oi4W3) (v := ?v4W3) ?oi0_4W3 (by kernel_rfl) ?ff4W3 ?rr4W3 ?hq4W3 (Or.inl ⟨?hw4W3, ?hy4W3⟩) (by assumption) ?rest4W3
      case oi0_4W3 =>
        conv =>
          lhs
          whnf
          arg 1
          whnf
      case hq4W3 => exact fun _ _ _ h => h
      case ff4W3 => kernel_rfl
      case rr4W3 => kernel_rfl
      case hw4W3 => rfl
      case hy4W3 =>
        intro w hSw
        (try dsimp only at hSw)
        first
        | (go_simp; done)
        | (go_simp; with_reducible rfl)
      try simp only [Act.put, List.setIfInBounds_toArray, List.set_cons_zero, List.set_cons_succ]
      refine wpAnyH_take (i := 5) (oi := ?oi5W3) (v := ?v5W3) ?oi0_5W3 (by kernel_rfl) ?ff5W3 ?rr5W3 ?hq5W3 (Or.inl ⟨?hw5W3, ?hy5W3⟩) (by assumption) ?rest5W3
      case oi0_5W3 =>
        conv =>
          lhs
          whnf
          arg 1
          whnf
      case hq5W3 => exact fun _ _ _ h => h
      case ff5W3 => kernel_rfl
      case rr5W3 => kernel_rfl
      case hw5W3 => rfl
      case hy5W3 =>
        intro w hSw
        (try dsimp only at hSw)
        first
        | (go_simp; done)
        | (go_simp; with_reducible rfl)
      try simp only [Act.put, List.setIfInBounds_toArray, List.set_cons_zero, List.set_cons_succ]
      refine wpAnyH_take (i := 6) (oi := ?oi6W3) (v := ?v6W3) ?oi0_6W3 (by kernel_rfl) ?ff6W3 ?rr6W3 ?hq6W3 (Or.inl ⟨?hw6W3, ?hy6W3⟩) (by assumption) ?rest6W3
      case oi0_6W3 =>
        conv =>
          lhs
          whnf
          arg 1
          whnf
      case hq6W3 => exact fun _ _ _ h => h
      case ff6W3 => kernel_rfl
      case rr6W3 => kernel_rfl
      case hw6W3 => rfl
      case hy6W3 =>
        intro w hSw
        (try dsimp only at hSw)
        first
        | (go_simp; done)
        | (go_simp; with_reducible rfl)
      try simp only [Act.put, List.setIfInBounds_toArray, List.set_cons_zero, List.set_cons_succ]
      refine wpAnyH_take (i := 7) (oi := ?oi7W3) (v := ?v7W3) ?oi0_7W3 (by kernel_rfl) ?ff7W3 ?rr7W3 ?hq7W3 (Or.inl ⟨?hw7W3, ?hy7W3⟩) (by assumption) ?rest7W3
      case oi0_7W3 =>
        conv =>
          lhs
          whnf
          arg 1
          whnf
      case hq7W3 => exact fun _ _ _ h => h
      case ff7W3 => kernel_rfl
      case rr7W3 => kernel_rfl
      case hw7W3 => rfl
      case hy7W3 =>
        intro w hSw
        (try dsimp only at hSw)
        first
        | (go_simp; done)
        | (go_simp; with_reducible rfl)
      try simp only [Act.put, List.setIfInBounds_toArray, List.set_cons_zero, List.set_cons_succ]
      refine wpAnyH_take (i := 8) (oi := ?oi8W3) (v := ?v8W3) ?oi0_8W3 (by kernel_rfl) ?ff8W3 ?rr8W3 ?hq8W3 (Or.inl ⟨?hw8W3, ?hy8W3⟩) (by assumption) ?rest8W3
      case oi0_8W3 =>
        conv =>
          lhs
          whnf
          arg 1
          whnf
      case hq8W3 => exact fun _ _ _ h => h
      case ff8W3 => kernel_rfl
      case rr8W3 => kernel_rfl
      case hw8W3 => rfl
      case hy8W3 =>
        intro w hSw
        (try dsimp only at hSw)
        first
        | (go_simp; done)
        | (go_simp; with_reducible rfl)
      try simp only [Act.put, List.setIfInBounds_toArray, List.set_cons_zero, List.set_cons_succ]
      refine wpAnyH_take (i := 9) (oi := ?oi9W3) (v := ?v9W3) ?oi0_9W3 (by kernel_rfl) ?ff9W3 ?rr9W3 ?hq9W3 (Or.inl ⟨?hw9W3, ?hy9W3⟩) (by assumption) ?rest9W3
      case oi0_9W3 =>
        conv =>
          lhs
          whnf
          arg 1
          whnf
      case hq9W3 => exact fun _ _ _ h => h
      case ff9W3 => kernel_rfl
      case rr9W3 => kernel_rfl
      case hw9W3 => rfl
      case hy9W3 =>
        intro w hSw
        (try dsimp only at hSw)
        first
        | (go_simp; done)
        | (go_simp; with_reducible rfl)
      try simp only [Act.put, List.setIfInBounds_toArray, List.set_cons_zero, List.set_cons_succ]
      refine wpAnyH_take (i := 10) (oi := ?oi10W3) (v := ?v10W3) ?oi0_10W3 (by kernel_rfl) ?ff10W3 ?rr10W3 ?hq10W3 (Or.inl ⟨?hw10W3, ?hy10W3⟩) (by assumption) ?rest10W3
      case oi0_10W3 =>
        conv =>
          lhs
          whnf
          arg 1
          whnf
      case hq10W3 => exact fun _ _ _ h => h
      case ff10W3 => kernel_rfl
      case rr10W3 => kernel_rfl
      case hw10W3 => rfl
      case hy10W3 =>
        intro w hSw
        (try dsimp only at hSw)
        first
        | (go_simp; done)
        | (go_simp; with_reducible rfl)
      try simp only [Act.put, List.setIfInBounds_toArray, List.set_cons_zero, List.set_cons_succ]
      refine wpAnyH_take (i := 11) (oi := ?oi11W3) (v := ?v11W3) ?oi0_11W3 (by kernel_rfl) ?ff11W3 ?rr11W3 ?hq11W3 (Or.inl ⟨?hw11W3, ?hy11W3⟩) (by assumption) ?rest11W3
      case oi0_11W3 =>
        conv =>
          lhs
          whnf
          arg 1
          whnf
      case hq11W3 => exact fun _ _ _ h => h
      case ff11W3 => kernel_rfl
      case rr11W3 => kernel_rfl
      case hw11W3 => rfl
      case hy11W3 =>
        intro w hSw
        (try dsimp only at hSw)
        first
        | (go_simp; done)
        | (go_simp; with_reducible rfl)
      try simp only [Act.put, List.setIfInBounds_toArray, List.set_cons_zero, List.set_cons_succ]
      refine wpAnyH_take (i := 12) (oi := ?oi12W3) (v := ?v12W3) ?oi0_12W3 (by kernel_rfl) ?ff12W3 ?rr12W3 ?hq12W3 (Or.inl ⟨?hw12W3, ?hy12W3⟩) (by assumption) ?rest12W3
      case oi0_12W3 =>
        conv =>
          lhs
          whnf
          arg 1
          whnf
      case hq12W3 => exact fun _ _ _ h => h
      case ff12W3 => kernel_rfl
      case rr12W3 => kernel_rfl
      case hw12W3 => rfl
      case hy12W3 =>
        intro w hSw
        (try dsimp only at hSw)
        first
        | (go_simp; done)
        | (go_simp; with_reducible rfl)
      try simp only [Act.put, List.setIfInBounds_toArray, List.set_cons_zero, List.set_cons_succ]
      refine wpAnyH_take (i := 13) (oi := ?oi13W3) (v := ?v13W3) ?oi0_13W3 (by kernel_rfl) ?ff13W3 ?rr13W3 ?hq13W3 (Or.inl ⟨?hw13W3, ?hy13W3⟩) (by assumption) ?rest13W3
      case oi0_13W3 =>
        conv =>
          lhs
          whnf
          arg 1
          whnf
      case hq13W3 => exact fun _ _ _ h => h
      case ff13W3 => kernel_rfl
      case rr13W3 => kernel_rfl
      case hw13W3 => rfl
      case hy13W3 =>
        intro w hSw
        (try dsimp only at hSw)
        first
        | (go_simp; done)
        | (go_simp; with_reducible rfl)
      try simp only [Act.put, List.setIfInBounds_toArray, List.set_cons_zero, List.set_cons_succ]
      refine wpAnyH_take (i := 14) (oi := ?oi14W3) (v := ?v14W3) ?oi0_14W3 (by kernel_rfl) ?ff14W3 ?rr14W3 ?hq14W3 (Or.inl ⟨?hw14W3, ?hy14W3⟩) (by assumption) ?rest14W3
      case oi0_14W3 =>
        conv =>
          lhs
          whnf
          arg 1
          whnf
      case hq14W3 => exact fun _ _ _ h => h
      case ff14W3 => kernel_rfl
      case rr14W3 => kernel_rfl
      case hw14W3 => rfl
      case hy14W3 =>
        intro w hSw
        (try dsimp only at hSw)
        first
        | (go_simp; done)
        | (go_simp; with_reducible rfl)
      try simp only [Act.put, List.setIfInBounds_toArray, List.set_cons_zero, List.set_cons_succ]
      refine wpAnyH_take (i := 15) (oi := ?oi15W3) (v := ?v15W3) ?oi0_15W3 (by kernel_rfl) ?ff15W3 ?rr15W3 ?hq15W3 (Or.inl ⟨?hw15W3, ?hy15W3⟩) (by assumption) ?rest15W3
      case oi0_15W3 =>
        conv =>
          lhs
          whnf
          arg 1
          whnf
      case hq15W3 => exact fun _ _ _ h => h
      case ff15W3 => kernel_rfl
      case rr15W3 => kernel_rfl
      case hw15W3 => rfl
      case hy15W3 =>
        intro w hSw
        (try dsimp only at hSw)
        first
        | (go_simp; done)
        | (go_simp; with_reducible rfl)
      try simp only [Act.put, List.setIfInBounds_toArray, List.set_cons_zero, List.set_cons_succ]
      refine wpAnyH_take (i := 16) (oi := ?oi16W3) (v := ?v16W3) ?oi0_16W3 (by kernel_rfl) ?ff16W3 ?rr16W3 ?hq16W3 (Or.inl ⟨?hw16W3, ?hy16W3⟩) (by assumption) ?rest16W3
      case oi0_16W3 =>
        conv =>
          lhs
          whnf
          arg 1
          whnf
      case hq16W3 => exact fun _ _ _ h => h
      case ff16W3 => kernel_rfl
      case rr16W3 => kernel_rfl
      case hw16W3 => rfl
      case hy16W3 =>
        intro w hSw
        (try dsimp only at hSw)
        first
        | (go_simp; done)
        | (go_simp; with_reducible rfl)
      try simp only [Act.put, List.setIfInBounds_toArray, List.set_cons_zero, List.set_cons_succ]
      refine wpAnyH_take (i := 17) (oi := ?oi17W3) (v := ?v17W3) ?oi0_17W3 (by kernel_rfl) ?ff17W3 ?rr17W3 ?hq17W3 (Or.inl ⟨?hw17W3, ?hy17W3⟩) (by assumption) ?rest17W3
      case oi0_17W3 =>
        conv =>
          lhs
          whnf
          arg 1
          whnf
      case hq17W3 => exact fun _ _ _ h => h
      case ff17W3 => kernel_rfl
      case rr17W3 => kernel_rfl
      case hw17W3 => rfl
      case hy17W3 =>
        intro w hSw
        (try dsimp only at hSw)
        first
        | (go_simp; done)
        | (go_simp; with_reducible rfl)
      try simp only [Act.put, List.setIfInBounds_toArray, List.set_cons_zero, List.set_cons_succ]
      refine wpAnyH_take (i := 18) (oi := ?oi18W3) (v := ?v18W3) ?oi0_18W3 (by kernel_rfl) ?ff18W3 ?rr18W3 ?hq18W3 (Or.inl ⟨?hw18W3, ?hy18W3⟩) (by assumption) ?rest18W3
      case oi0_18W3 =>
        conv =>
          lhs
          whnf
          arg 1
          whnf
      case hq18W3 => exact fun _ _ _ h => h
      case ff18W3 => kernel_rfl
      case rr18W3 => kernel_rfl
      case hw18W3 => rfl
      case hy18W3 =>
        intro w hSw
        (try dsimp only at hSw)
        first
        | (go_simp; done)
        | (go_simp; with_reducible rfl)
      try simp only [Act.put, List.setIfInBounds_toArray, List.set_cons_zero, List.set_cons_succ]
      refine wpAnyH_take (i := 19) (oi := ?oi19W3) (v := undef) ?oi0_19W3 (by kernel_rfl) ?ff19W3 ?rr19W3 ?hq19W3 (Or.inr ⟨?hw19W3, rfl⟩) (by assumption) ?rest19W3
      case oi0_19W3 =>
        conv =>
          lhs
          whnf
          arg 1
          whnf
      case hq19W3 => exact fun _ _ _ h => h
      case ff19W3 => kernel_rfl
      case rr19W3 => kernel_rfl
      case hw19W3 => rfl
      try simp only [Act.put, List.setIfInBounds_toArray, List.set_cons_zero, List.set_cons_succ]
      refine wpAnyH_take (i := 20) (oi := ?oi20W3) (v := undef) ?oi0_20W3 (by kernel_rfl) ?ff20W3 ?rr20W3 ?hq20W3 (Or.inr ⟨?hw20W3, rfl⟩) (by assumption) ?rest20W3
      case oi0_20W3 =>
        conv =>
          lhs
          whnf
          arg 1
          whnf
      case hq20W3 => exact fun _ _ _ h => h
      case ff20W3 => kernel_rfl
      case rr20W3 => kernel_rfl
      case hw20W3 => rfl
      try simp only [Act.put, List.setIfInBounds_toArray, List.set_cons_zero, List.set_cons_succ]
      refine wpAnyH_take (i := 21) (oi := ?oi21W3) (v := undef) ?oi0_21W3 (by kernel_rfl) ?ff21W3 ?rr21W3 ?hq21W3 (Or.inr ⟨?hw21W3, rfl⟩) (by assumption) ?rest21W3
      case oi0_21W3 =>
        conv =>
          lhs
          whnf
          arg 1
          whnf
      case hq21W3 => exact fun _ _ _ h => h
      case ff21W3 => kernel_rfl
      case rr21W3 => kernel_rfl
      case hw21W3 => rfl
      try simp only [Act.put, List.setIfInBounds_toArray, List.set_cons_zero, List.set_cons_succ]
      refine wpAnyH_take (i := 22) (oi := ?oi22W3) (v := undef) ?oi0_22W3 (by kernel_rfl) ?ff22W3 ?rr22W3 ?hq22W3 (Or.inr ⟨?hw22W3, rfl⟩) (by assumption) ?rest22W3
      case oi0_22W3 =>
        conv =>
          lhs
          whnf
          arg 1
          whnf
      case hq22W3 => exact fun _ _ _ h => h
      case ff22W3 => kernel_rfl
      case rr22W3 => kernel_rfl
      case hw22W3 => rfl
      try simp only [Act.put, List.setIfInBounds_toArray, List.set_cons_zero, List.set_cons_succ]
      refine wpAnyH_take (i := 23) (oi := ?oi23W3) (v := undef) ?oi0_23W3 (by kernel_rfl) ?ff23W3 ?rr23W3 ?hq23W3 (Or.inr ⟨?hw23W3, rfl⟩) (by assumption) ?rest23W3
      case oi0_23W3 =>
        conv =>
          lhs
          whnf
          arg 1
          whnf
      case hq23W3 => exact fun _ _ _ h => h
      case ff23W3 => kernel_rfl
      case rr23W3 => kernel_rfl
      case hw23W3 => rfl
      try simp only [Act.put, List.setIfInBounds_toArray, List.set_cons_zero, List.set_cons_succ]
      refine wpAnyH_take (i := 24) (oi := ?oi24W3) (v := undef) ?oi0_24W3 (by kernel_rfl) ?ff24W3 ?rr24W3 ?hq24W3 (Or.inr ⟨?hw24W3, rfl⟩) (by assumption) ?rest24W3
      case oi0_24W3 =>
        conv =>
          lhs
          whnf
          arg 1
          whnf
      case hq24W3 => exact fun _ _ _ h => h
      case ff24W3 => kernel_rfl
      case rr24W3 => kernel_rfl
      case hw24W3 => rfl
      try simp only [Act.put, List.setIfInBounds_toArray, List.set_cons_zero, List.set_cons_succ]
      refine wpAnyH_take (i := 25) (oi := ?oi25W3) (v := undef) ?oi0_25W3 (by kernel_rfl) ?ff25W3 ?rr25W3 ?hq25W3 (Or.inr ⟨?hw25W3, rfl⟩) (by assumption) ?rest25W3
      case oi0_25W3 =>
        conv =>
          lhs
          whnf
          arg 1
          whnf
      case hq25W3 => exact fun _ _ _ h => h
      case ff25W3 => kernel_rfl
      case rr25W3 => kernel_rfl
      case hw25W3 => rfl
      try simp only [Act.put, List.setIfInBounds_toArray, List.set_cons_zero, List.set_cons_succ]
      refine wpAnyH_take (i := 26) (oi := ?oi26W3) (v := undef) ?oi0_26W3 (by kernel_rfl) ?ff26W3 ?rr26W3 ?hq26W3 (Or.inr ⟨?hw26W3, rfl⟩) (by assumption) ?rest26W3
      case oi0_26W3 =>
        conv =>
          lhs
          whnf
          arg 1
          whnf
      case hq26W3 => exact fun _ _ _ h => h
      case ff26W3 => kernel_rfl
      case rr26W3 => kernel_rfl
      case hw26W3 => rfl
      try simp only [Act.put, List.setIfInBounds_toArray, List.set_cons_zero, List.set_cons_succ]
      refine wpAnyH_take (i := 27) (oi := ?oi27W3) (v := undef) ?oi0_27W3 (by kernel_rfl) ?ff27W3 ?rr27W3 ?hq27W3 (Or.inr ⟨?hw27W3, rfl⟩) (by assumption) ?rest27W3
      case oi0_27W3 =>
        conv =>
          lhs
          whnf
          arg 1
          whnf
      case hq27W3 => exact fun _ _ _ h => h
      case ff27W3 => kernel_rfl
      case rr27W3 => kernel_rfl
      case hw27W3 => rfl
      try simp only [Act.put, List.setIfInBounds_toArray, List.set_cons_zero, List.set_cons_succ]
      refine wpAnyH_take (i := 28) (oi := ?oi28W3) (v := undef) ?oi0_28W3 (by kernel_rfl) ?ff28W3 ?rr28W3 ?hq28W3 (Or.inr ⟨?hw28W3, rfl⟩) (by assumption) ?rest28W3
      case oi0_28W3 =>
        conv =>
          lhs
          whnf
          arg 1
          whnf
      case hq28W3 => exact fun _ _ _ h => h
      case ff28W3 => kernel_rfl
      case rr28W3 => kernel_rfl
      case hw28W3 => rfl
      try simp only [Act.put, List.setIfInBounds_toArray, List.set_cons_zero, List.set_cons_succ]
      refine wpAnyH_take (i := 29) (oi := ?oi29W3) (v := ?v29W3) ?oi0_29W3 (by kernel_rfl) ?ff29W3 ?rr29W3 ?hq29W3 (Or.inl ⟨?hw29W3, ?hy29W3⟩) (by assumption) ?rest29W3
      case oi0_29W3 =>
        conv =>
          lhs
          whnf
          arg 1
          whnf
      case hq29W3 => exact fun _ _ _ h => h
      case ff29W3 => kernel_rfl
      case rr29W3 => kernel_rfl
      case hw29W3 => rfl
      case hy29W3 =>
        intro w hSw
        (try dsimp only at hSw)
        first
        | (go_simp; done)
        | (go_simp; with_reducible rfl)
      try simp only [Act.put, List.setIfInBounds_toArray, List.set_cons_zero, List.set_cons_succ]
      refine wpAnyH_take (i := 30) (oi := ?oi30W3) (v := ?v30W3) ?oi0_30W3 (by kernel_rfl) ?ff30W3 ?rr30W3 ?hq30W3 (Or.inl ⟨?hw30W3, ?hy30W3⟩) (by assumption) ?rest30W3
      case oi0_30W3 =>
        conv =>
          lhs
          whnf
          arg 1
          whnf
      case hq30W3 => exact fun _ _ _ h => h
      case ff30W3 => kernel_rfl
      case rr30W3 => kernel_rfl
      case hw30W3 => rfl
      case hy30W3 =>
        intro w hSw
        (try dsimp only at hSw)
        first
        | (go_simp; done)
        | (go_simp; with_reducible rfl)
      try simp only [Act.put, List.setIfInBounds_toArray, List.set_cons_zero, List.set_cons_succ]
      refine wpAnyH_done (by kernel_rfl) ?_ _
      go_wp2_with fail
      go_roundw
      case rel => exact ⟨k + 1, by omega, by go_num, V, HST⟩
      case measure => simp [intOf] <;> omega
    have hk0i : (0 : Int) < k := by omega
    have hk0d : decide ((0 : Int) < k) = true := decide_eq_true hk0i
    obtain ⟨q, hq⟩ : ∃ q, q + 1 = k := ⟨k - 1, by omega⟩
    obtain ⟨y, hy⟩ : ∃ y, xs[q]? = some y := ⟨_, List.getElem?_eq_getElem (by have := HXN.out; omega)⟩
    obtain ⟨b', o', eb, _, d0x⟩ := HX.out q y hy
    injection eb with eb
    injection eb with e1x e2x
    subst e1x e2x
    have d0' := keepc _ _ _ _ (U1.out.trans hu.out (by simp)) d0x
    have hqn : q < n := by omega
    have hqi : (q : Int) < n := by omega
    have hwq : IntKind.i64.wrap ((k : Int) - 1) = (q : Int) := (Go.IntWalk.i64_in _ (by omega)).trans (by omega)
    have HY := hide (show xs[k - 1]? = some y by rw [show k - 1 = q by omega]; exact hy)
    clear hy d0x
    by_cases e4 : x ≤ y
    case pos =>
      have d4 : decide (x ≤ y) = true := decide_eq_true e4
      obtain rfl : r = false := by rw [← HR.out]; exact decide_eq_false fun h => by have h1 := h k (by have := HXN.out; omega); unfold IdxOk at h1; rw [HS.out] at h1; simp only [Option.getD_some] at h1; rw [HY.out] at h1; simp only [Option.getD_some] at h1; omega
      go_wp2_with fail
      refine wp_region_held_drew (S := (fun w' => w'.cell? ⟨w.heap.size, 3, none⟩ = some (.slice ta i.trims.length tc) ∧ w'.cell? ⟨b, o + k, none⟩ = some (.int .i64 x) ∧ w'.cell? ⟨b, o + q, none⟩ = some (.int .i64 y))) (by kernel_rfl) (by exact ⟨m3, c0', d0'⟩) (fun hHeld => ?_)
      refine wpAnyH_take (i := 0) (oi := ?oi0W4) (v := ?v0W4) ?oi0_0W4 (by kernel_rfl) ?ff0W4 ?rr0W4 ?hq0W4 (Or.inl ⟨?hw0W4, ?hy0W4⟩) (by assumption) ?rest0W4
      case oi0_0W4 =>
        conv =>
          lhs
          whnf
          arg 1
          whnf
      case hq0W4 => exact fun _ _ _ h => h
      case ff0W4 => kernel_rfl
      case rr0W4 => kernel_rfl
      case hw0W4 => rfl
      case hy0W4 =>
        intro w hSw
        (try dsimp only at hSw)
        first
        | (go_simp; done)
        | (go_simp; with_reducible rfl)
      try simp only [Act.put, List.setIfInBounds_toArray, List.set_cons_zero, List.set_cons_succ]
      refine wpAnyH_take (i := 1) (oi := ?oi1W4) (v := ?v1W4) ?oi0_1W4 (by kernel_rfl) ?ff1W4 ?rr1W4 ?hq1W4 (Or.inl ⟨?hw1W4, ?hy1W4⟩) (by assumption) ?rest1W4
      case oi0_1W4 =>
        conv =>
          lhs
          whnf
          arg 1
          whnf
      case hq1W4 => exact fun _ _ _ h => h
      case ff1W4 => kernel_rfl
      case rr1W4 => kernel_rfl
      case hw1W4 => rfl
      case hy1W4 =>
        intro w hSw
        (try dsimp only at hSw)
        first
        | (go_simp; done)
        | (go_simp; with_reducible rfl)
      try simp only [Act.put, List.setIfInBounds_toArray, List.set_cons_zero, List.set_cons_succ]
      refine wpAnyH_take (i := 2) (oi := ?oi2W4) (v := ?v2W4) ?oi0_2W4 (by kernel_rfl) ?ff2W4 ?rr2W4 ?hq2W4 (Or.inl ⟨?hw2W4, ?hy2W4⟩) (by assumption) ?rest2W4
      case oi0_2W4 =>
        conv =>
          lhs
          whnf
          arg 1
          whnf
      case hq2W4 => exact fun _ _ _ h => h
      case ff2W4 => kernel_rfl
      case rr2W4 => kernel_rfl
      case hw2W4 => rfl
      case hy2W4 =>
        intro w hSw
        (try dsimp only at hSw)
        first
        | (go_simp; done)
        | (go_simp; with_reducible rfl)
      try simp only [Act.put, List.setIfInBounds_toArray, List.set_cons_zero, List.set_cons_succ]
      refine wpAnyH_take (i := 3) (oi := ?oi3W4) (v := ?v3W4) ?oi0_3W4 (by kernel_rfl) ?ff3W4 ?rr3W4 ?hq3W4 (Or.inl ⟨?hw3W4, ?hy3W4⟩) (by assumption) ?rest3W4
      case oi0_3W4 =>
        conv =>
          lhs
          whnf
          arg 1
          whnf
      case hq3W4 => exact fun _ _ _ h => h
      case ff3W4 => kernel_rfl
      case rr3W4 => kernel_rfl
      case hw3W4 => rfl
      case hy3W4 =>
        intro w hSw
        (try dsimp only at hSw)
        first
        | (go_simp; done)
        | (go_simp; with_reducible rfl)
      try simp only [Act.put, List.setIfInBounds_toArray, List.set_cons_zero, List.set_cons_succ]
      refine wpAnyH_take (i := 4) (oi := ?oi4W4) (v := ?v4W4) ?oi0_4W4 (by kernel_rfl) ?ff4W4 ?rr4W4 ?hq4W4 (Or.inl ⟨?hw4W4, ?hy4W4⟩) (by assumption) ?rest4W4
      case oi0_4W4 =>
        conv =>
          lhs
          whnf
          arg 1
          whnf
      case hq4W4 => exact fun _ _ _ h => h
      case ff4W4 => kernel_rfl
      case rr4W4 => kernel_rfl
      case hw4W4 => rfl
      case hy4W4 =>
        intro w hSw
        (try dsimp only at hSw)
        first
        | (go_simp; done)
        | (go_simp; with_reducible rfl)
      try simp only [Act.put, List.setIfInBounds_toArray, List.set_cons_zero, List.set_cons_succ]
      refine wpAnyH_take (i := 5) (oi := ?oi5W4) (v := ?v5W4) ?oi0_5W4 (by kernel_rfl) ?ff5W4 ?rr5W4 ?hq5W4 (Or.inl ⟨?hw5W4, ?hy5W4⟩) (by assumption) ?rest5W4
      case oi0_5W4 =>
        conv =>
          lhs
          whnf
          arg 1
          whnf
      case hq5W4 => exact fun _ _ _ h => h
      case ff5W4 => kernel_rfl
      case rr5W4 => kernel_rfl
      case hw5W4 => rfl
      case hy5W4 =>
        intro w hSw
        (try dsimp only at hSw)
        first
        | (go_simp; done)
        | (go_simp; with_reducible rfl)
      try simp only [Act.put, List.setIfInBounds_toArray, List.set_cons_zero, List.set_cons_succ]
      refine wpAnyH_take (i := 6) (oi := ?oi6W4) (v := ?v6W4) ?oi0_6W4 (by kernel_rfl) ?ff6W4 ?rr6W4 ?hq6W4 (Or.inl ⟨?hw6W4, ?hy6W4⟩) (by assumption) ?rest6W4
      case oi0_6W4 =>
        conv =>
          lhs
          whnf
          arg 1
          whnf
      case hq6W4 => exact fun _ _ _ h => h
      case ff6W4 => kernel_rfl
      case rr6W4 => kernel_rfl
      case hw6W4 => rfl
      case hy6W4 =>
        intro w hSw
        (try dsimp only at hSw)
        first
        | (go_simp; done)
        | (go_simp; with_reducible rfl)
      try simp only [Act.put, List.setIfInBounds_toArray, List.set_cons_zero, List.set_cons_succ]
      refine wpAnyH_take (i := 7) (oi := ?oi7W4) (v := ?v7W4) ?oi0_7W4 (by kernel_rfl) ?ff7W4 ?rr7W4 ?hq7W4 (Or.inl ⟨?hw7W4, ?hy7W4⟩) (by assumption) ?rest7W4
      case oi0_7W4 =>
        conv =>
          lhs
          whnf
          arg 1
          whnf
      case hq7W4 => exact fun _ _ _ h => h
      case ff7W4 => kernel_rfl
      case rr7W4 => kernel_rfl
      case hw7W4 => rfl
      case hy7W4 =>
        intro w hSw
        (try dsimp only at hSw)
        first
        | (go_simp; done)
        | (go_simp; with_reducible rfl)
      try simp only [Act.put, List.setIfInBounds_toArray, List.set_cons_zero, List.set_cons_succ]
      refine wpAnyH_take (i := 8) (oi := ?oi8W4) (v := ?v8W4) ?oi0_8W4 (by kernel_rfl) ?ff8W4 ?rr8W4 ?hq8W4 (Or.inl ⟨?hw8W4, ?hy8W4⟩) (by assumption) ?rest8W4
      case oi0_8W4 =>
        conv =>
          lhs
          whnf
          arg 1
          whnf
      case hq8W4 => exact fun _ _ _ h => h
      case ff8W4 => kernel_rfl
      case rr8W4 => kernel_rfl
      case hw8W4 => rfl
      case hy8W4 =>
        intro w hSw
        (try dsimp only at hSw)
        first
        | (go_simp; done)
        | (go_simp; with_reducible rfl)
      try simp only [Act.put, List.setIfInBounds_toArray, List.set_cons_zero, List.set_cons_succ]
      refine wpAnyH_take (i := 9) (oi := ?oi9W4) (v := ?v9W4) ?oi0_9W4 (by kernel_rfl) ?ff9W4 ?rr9W4 ?hq9W4 (Or.inl ⟨?hw9W4, ?hy9W4⟩) (by assumption) ?rest9W4
      case oi0_9W4 =>
        conv =>
          lhs
          whnf
          arg 1
          whnf
      case hq9W4 => exact fun _ _ _ h => h
      case ff9W4 => kernel_rfl
      case rr9W4 => kernel_rfl
      case hw9W4 => rfl
      case hy9W4 =>
        intro w hSw
        (try dsimp only at hSw)
        first
        | (go_simp; done)
        | (go_simp; with_reducible rfl)
      try simp only [Act.put, List.setIfInBounds_toArray, List.set_cons_zero, List.set_cons_succ]
      refine wpAnyH_take (i := 10) (oi := ?oi10W4) (v := ?v10W4) ?oi0_10W4 (by kernel_rfl) ?ff10W4 ?rr10W4 ?hq10W4 (Or.inl ⟨?hw10W4, ?hy10W4⟩) (by assumption) ?rest10W4
      case oi0_10W4 =>
        conv =>
          lhs
          whnf
          arg 1
          whnf
      case hq10W4 => exact fun _ _ _ h => h
      case ff10W4 => kernel_rfl
      case rr10W4 => kernel_rfl
      case hw10W4 => rfl
      case hy10W4 =>
        intro w hSw
        (try dsimp only at hSw)
        first
        | (go_simp; done)
        | (go_simp; with_reducible rfl)
      try simp only [Act.put, List.setIfInBounds_toArray, List.set_cons_zero, List.set_cons_succ]
      refine wpAnyH_take (i := 11) (oi := ?oi11W4) (v := ?v11W4) ?oi0_11W4 (by kernel_rfl) ?ff11W4 ?rr11W4 ?hq11W4 (Or.inl ⟨?hw11W4, ?hy11W4⟩) (by assumption) ?rest11W4
      case oi0_11W4 =>
        conv =>
          lhs
          whnf
          arg 1
          whnf
      case hq11W4 => exact fun _ _ _ h => h
      case ff11W4 => kernel_rfl
      case rr11W4 => kernel_rfl
      case hw11W4 => rfl
      case hy11W4 =>
        intro w hSw
        (try dsimp only at hSw)
        first
        | (go_simp; done)
        | (go_simp; with_reducible rfl)
      try simp only [Act.put, List.setIfInBounds_toArray, List.set_cons_zero, List.set_cons_succ]
      refine wpAnyH_take (i := 12) (oi := ?oi12W4) (v := ?v12W4) ?oi0_12W4 (by kernel_rfl) ?ff12W4 ?rr12W4 ?hq12W4 (Or.inl ⟨?hw12W4, ?hy12W4⟩) (by assumption) ?rest12W4
      case oi0_12W4 =>
        conv =>
          lhs
          whnf
          arg 1
          whnf
      case hq12W4 => exact fun _ _ _ h => h
      case ff12W4 => kernel_rfl
      case rr12W4 => kernel_rfl
      case hw12W4 => rfl
      case hy12W4 =>
        intro w hSw
        (try dsimp only at hSw)
        first
        | (go_simp; done)
        | (go_simp; with_reducible rfl)
      try simp only [Act.put, List.setIfInBounds_toArray, List.set_cons_zero, List.set_cons_succ]
      refine wpAnyH_take (i := 13) (oi := ?oi13W4) (v := ?v13W4) ?oi0_13W4 (by kernel_rfl) ?ff13W4 ?rr13W4 ?hq13W4 (Or.inl ⟨?hw13W4, ?hy13W4⟩) (by assumption) ?rest13W4
      case oi0_13W4 =>
        conv =>
          lhs
          whnf
          arg 1
          whnf
      case hq13W4 => exact fun _ _ _ h => h
      case ff13W4 => kernel_rfl
      case rr13W4 => kernel_rfl
      case hw13W4 => rfl
      case hy13W4 =>
        intro w hSw
        (try dsimp only at hSw)
        first
        | (go_simp; done)
        | (go_simp; with_reducible rfl)
      try simp only [Act.put, List.setIfInBounds_toArray, List.set_cons_zero, List.set_cons_succ]
      refine wpAnyH_take (i := 14) (oi := ?oi14W4) (v := ?v14W4) ?oi0_14W4 (by kernel_rfl) ?ff14W4 ?rr14W4 ?hq14W4 (Or.inl ⟨?hw14W4, ?hy14W4⟩) (by assumption) ?rest14W4
      case oi0_14W4 =>
        conv =>
          lhs
          whnf
          arg 1
          whnf
      case hq14W4 => exact fun _ _ _ h => h
      case ff14W4 => kernel_rfl
      case rr14W4 => kernel_rfl
      case hw14W4 => rfl
      case hy14W4 =>
        intro w hSw
        (try dsimp only at hSw)
        first
        | (go_simp; done)
        | (go_simp; with_reducible rfl)
      try simp only [Act.put, List.setIfInBounds_toArray, List.set_cons_zero, List.set_cons_succ]
      refine wpAnyH_take (i := 15) (oi := ?oi15W4) (v := ?v15W4) ?oi0_15W4 (by kernel_rfl) ?ff15W4 ?rr15W4 ?hq15W4 (Or.inl ⟨?hw15W4, ?hy15W4⟩) (by assumption) ?rest15W4
      case oi0_15W4 =>
        conv =>
          lhs
          whnf
          arg 1
          whnf
      case hq15W4 => exact fun _ _ _ h => h
      case ff15W4 => kernel_rfl
      case rr15W4 => kernel_rfl
      case hw15W4 => rfl
      case hy15W4 =>
        intro w hSw
        (try dsimp only at hSw)
        first
        | (go_simp; done)
        | (go_simp; with_reducible rfl)
      try simp only [Act.put, List.setIfInBounds_toArray, List.set_cons_zero, List.set_cons_succ]
      refine wpAnyH_take (i := 16) (oi := ?oi16W4) (v := ?v16W4) ?oi0_16W4 (by kernel_rfl) ?ff16W4 ?rr16W4 ?hq16W4 (Or.inl ⟨?hw16W4, ?hy16W4⟩) (by assumption) ?rest16W4
      case oi0_16W4 =>
        conv =>
          lhs
          whnf
          arg 1
          whnf
      case hq16W4 => exact fun _ _ _ h => h
      case ff16W4 => kernel_rfl
      case rr16W4 => kernel_rfl
      case hw16W4 => rfl
      case hy16W4 =>
        intro w hSw
        (try dsimp only at hSw)
        first
        | (go_simp; done)
        | (go_simp; with_reducible rfl)
      try simp only [Act.put, List.setIfInBounds_toArray, List.set_cons_zero, List.set_cons_succ]
      refine wpAnyH_take (i := 17) (oi := ?oi17W4) (v := ?v17W4) ?oi0_17W4 (by kernel_rfl) ?ff17W4 ?rr17W4 ?hq17W4 (Or.inl ⟨?hw17W4, ?hy17W4⟩) (by assumption) ?rest17W4
      case oi0_17W4 =>
        conv =>
          lhs
          whnf
          arg 1
          whnf
      case hq17W4 => exact fun _ _ _ h => h
      case ff17W4 => kernel_rfl
      case rr17W4 => kernel_rfl
      case hw17W4 => rfl
      case hy17W4 =>
        intro w hSw
        (try dsimp only at hSw)
        first
        | (go_simp; done)
        | (go_simp; with_reducible rfl)
      try simp only [Act.put, List.setIfInBounds_toArray, List.set_cons_zero, List.set_cons_succ]
      refine wpAnyH_take (i := 18) (oi := ?oi18W4) (v := ?v18W4) ?oi0_18W4 (by kernel_rfl) ?ff18W4 ?rr18W4 ?hq18W4 (Or.inl ⟨?hw18W4, ?hy18W4⟩) (by assumption) ?rest18W4
      case oi0_18W4 =>
        conv =>
          lhs
          whnf
          arg 1
          whnf
      case hq18W4 => exact fun _ _ _ h => h
      case ff18W4 => kernel_rfl
      case rr18W4 => kernel_rfl
      case hw18W4 => rfl
      case hy18W4 =>
        intro w hSw
        (try dsimp only at hSw)
        first
        | (go_simp; done)
        | (go_simp; with_reducible rfl)
      try simp only [Act.put, List.setIfInBounds_toArray, List.set_cons_zero, List.set_cons_succ]
      refine wpAnyH_take (i := 19) (oi := ?oi19W4) (v := ?v19W4) ?oi0_19W4 (by kernel_rfl) ?ff19W4 ?rr19W4 ?hq19W4 (Or.inl ⟨?hw19W4, ?hy19W4⟩) (by assumption) ?rest19W4
      case oi0_19W4 =>
        conv =>
          lhs
          whnf
          arg 1
          whnf
      case hq19W4 => exact fun _ _ _ h => h
      case ff19W4 => kernel_rfl
      case rr19W4 => kernel_rfl
      case hw19W4 => rfl
      case hy19W4 =>
        intro w hSw
        (try dsimp only at hSw)
        first
        | (go_simp; done)
        | (go_simp; with_reducible rfl)
      try simp only [Act.put, List.setIfInBounds_toArray, List.set_cons_zero, List.set_cons_succ]
      refine wpAnyH_take (i := 20) (oi := ?oi20W4) (v := ?v20W4) ?oi0_20W4 (by kernel_rfl) ?ff20W4 ?rr20W4 ?hq20W4 (Or.inl ⟨?hw20W4, ?hy20W4⟩) (by assumption) ?rest20W4
      case oi0_20W4 =>
        conv =>
          lhs
          whnf
          arg 1
          whnf
      case hq20W4 => exact fun _ _ _ h => h
      case ff20W4 => kernel_rfl
      case rr20W4 => kernel_rfl
      case hw20W4 => rfl
      case hy20W4 =>
        intro w hSw
        (try dsimp only at hSw)
        first
        | (go_simp; done)
        | (go_simp; with_reducible rfl)
      try simp only [Act.put, List.setIfInBounds_toArray, List.set_cons_zero, List.set_cons_succ]
      refine wpAnyH_take (i := 21) (oi := ?oi21W4) (v := ?v21W4) ?oi0_21W4 (by kernel_rfl) ?ff21W4 ?rr21W4 ?hq21W4 (Or.inl ⟨?hw21W4, ?hy21W4⟩) (by assumption) ?rest21W4
      case oi0_21W4 =>
        conv =>
          lhs
          whnf
          arg 1
          whnf
      case hq21W4 => exact fun _ _ _ h => h
      case ff21W4 => kernel_rfl
      case rr21W4 => kernel_rfl
      case hw21W4 => rfl
      case hy21W4 =>
        intro w hSw
        (try dsimp only at hSw)
        first
        | (go_simp; done)
        | (go_simp; with_reducible rfl)
      try simp only [Act.put, List.setIfInBounds_toArray, List.set_cons_zero, List.set_cons_succ]
      refine wpAnyH_take (i := 22) (oi := ?oi22W4) (v := ?v22W4) ?oi0_22W4 (by kernel_rfl) ?ff22W4 ?rr22W4 ?hq22W4 (Or.inl ⟨?hw22W4, ?hy22W4⟩) (by assumption) ?rest22W4
      case oi0_22W4 =>
        conv =>
          lhs
          whnf
          arg 1
          whnf
      case hq22W4 => exact fun _ _ _ h => h
      case ff22W4 => kernel_rfl
      case rr22W4 => kernel_rfl
      case hw22W4 => rfl
      case hy22W4 =>
        intro w hSw
        (try dsimp only at hSw)
        first
        | (go_simp; done)
        | (go_simp; with_reducible rfl)
      try simp only [Act.put, List.setIfInBounds_toArray, List.set_cons_zero, List.set_cons_succ]
      refine wpAnyH_take (i := 23) (oi := ?oi23W4) (v := ?v23W4) ?oi0_23W4 (by kernel_rfl) ?ff23W4 ?rr23W4 ?hq23W4 (Or.inl ⟨?hw23W4, ?hy23W4⟩) (by assumption) ?rest23W4
      case oi0_23W4 =>
        conv =>
          lhs
          whnf
          arg 1
          whnf
      case hq23W4 => exact fun _ _ _ h => h
      case ff23W4 => kernel_rfl
      case rr23W4 => kernel_rfl
      case hw23W4 => rfl
      case hy23W4 =>
        intro w hSw
        (try dsimp only at hSw)
        first
        | (go_simp; done)
        | (go_simp; with_reducible rfl)
      try simp only [Act.put, List.setIfInBounds_toArray, List.set_cons_zero, List.set_cons_succ]
      refine wpAnyH_take (i := 24) (oi := ?oi24W4) (v := ?v24W4) ?oi0_24W4 (by kernel_rfl) ?ff24W4 ?rr24W4 ?hq24W4 (Or.inl ⟨?hw24W4, ?hy24W4⟩) (by assumption) ?rest24W4
      case oi0_24W4 =>
        conv =>
          lhs
          whnf
          arg 1
          whnf
      case hq24W4 => exact fun _ _ _ h => h
      case ff24W4 => kernel_rfl
      case rr24W4 => kernel_rfl
      case hw24W4 => rfl
      case hy24W4 =>
        intro w hSw
        (try dsimp only at hSw)
        first
        | (go_simp; done)
        | (go_simp; with_reducible rfl)
      try simp only [Act.put, List.setIfInBounds_toArray, List.set_cons_zero, List.set_cons_succ]
      refine wpAnyH_take (i := 25) (oi := ?oi25W4) (v := ?v25W4) ?oi0_25W4 (by kernel_rfl) ?ff25W4 ?rr25W4 ?hq25W4 (Or.inl ⟨?hw25W4, ?hy25W4⟩) (by assumption) ?rest25W4
      case oi0_25W4 =>
        conv =>
          lhs
          whnf
          arg 1
          whnf
      case hq25W4 => exact fun _ _ _ h => h
      case ff25W4 => kernel_rfl
      case rr25W4 => kernel_rfl
      case hw25W4 => rfl
      case hy25W4 =>
        intro w hSw
        (try dsimp only at hSw)
        first
        | (go_simp; done)
        | (go_simp; with_reducible rfl)
      try simp only [Act.put, List.setIfInBounds_toArray, List.set_cons_zero, List.set_cons_succ]
      refine wpAnyH_take (i := 26) (oi := ?oi26W4) (v := ?v26W4) ?oi0_26W4 (by kernel_rfl) ?ff26W4 ?rr26W4 ?hq26W4 (Or.inl ⟨?hw26W4, ?hy26W4⟩) (by assumption) ?rest26W4
      case oi0_26W4 =>
        conv =>
          lhs
          whnf
          arg 1
          whnf
      case hq26W4 => exact fun _ _ _ h => h
      case ff26W4 => kernel_rfl
      case rr26W4 => kernel_rfl
      case hw26W4 => rfl
      case hy26W4 =>
        intro w hSw
        (try dsimp only at hSw)
        first
        | (go_simp; done)
        | (go_simp; with_reducible rfl)
      try simp only [Act.put, List.setIfInBounds_toArray, List.set_cons_zero, List.set_cons_succ]
      refine wpAnyH_take (i := 27) (oi := ?oi27W4) (v := ?v27W4) ?oi0_27W4 (by kernel_rfl) ?ff27W4 ?rr27W4 ?hq27W4 (Or.inl ⟨?hw27W4, ?hy27W4⟩) (by assumption) ?rest27W4
      case oi0_27W4 =>
        conv =>
          lhs
          whnf
          arg 1
          whnf
      case hq27W4 => exact fun _ _ _ h => h
      case ff27W4 => kernel_rfl
      case rr27W4 => kernel_rfl
      case hw27W4 => rfl
      case hy27W4 =>
        intro w hSw
        (try dsimp only at hSw)
        first
        | (go_simp; done)
        | (go_simp; with_reducible rfl)
      try simp only [Act.put, List.setIfInBounds_toArray, List.set_cons_zero, List.set_cons_succ]
      refine wpAnyH_take (i := 28) (oi := ?oi28W4) (v := ?v28W4) ?oi0_28W4 (by kernel_rfl) ?ff28W4 ?rr28W4 ?hq28W4 (Or.inl ⟨?hw28W4, ?hy28W4⟩) (by assumption) ?rest28W4
      case oi0_28W4 =>
        conv =>
          lhs
          whnf
          arg 1
          whnf
      case hq28W4 => exact fun _ _ _ h => h
      case ff28W4 => kernel_rfl
      case rr28W4 => kernel_rfl
      case hw28W4 => rfl
      case hy28W4 =>
        intro w hSw
        (try dsimp only at hSw)
        first
        | (go_simp; done)
        | (go_simp; with_reducible rfl)
      try simp only [Act.put, List.setIfInBounds_toArray, List.set_cons_zero, List.set_cons_succ]
      refine wpAnyH_take (i := 29) (oi := ?oi29W4) (v := ?v29W4) ?oi0_29W4 (by kernel_rfl) ?ff29W4 ?rr29W4 ?hq29W4 (Or.inl ⟨?hw29W4, ?hy29W4⟩) (by assumption) ?rest29W4
      case oi0_29W4 =>
        conv =>
          lhs
          whnf
          arg 1
          whnf
      case hq29W4 => exact fun _ _ _ h => h
      case ff29W4 => kernel_rfl
      case rr29W4 => kernel_rfl
      case hw29W4 => rfl
      case hy29W4 =>
        intro w hSw
        (try dsimp only at hSw)
        first
        | (go_simp; done)
        | (go_simp; with_reducible rfl)
      try simp only [Act.put, List.setIfInBounds_toArray, List.set_cons_zero, List.set_cons_succ]
      refine wpAnyH_take (i := 30) (oi := ?oi30W4) (v := ?v30W4) ?oi0_30W4 (by kernel_rfl) ?ff30W4 ?rr30W4 ?hq30W4 (Or.inl ⟨?hw30W4, ?hy30W4⟩) (by assumption) ?rest30W4
      case oi0_30W4 =>
        conv =>
          lhs
          whnf
          arg 1
          whnf
      case hq30W4 => exact fun _ _ _ h => h
      case ff30W4 => kernel_rfl
      case rr30W4 => kernel_rfl
      case hw30W4 => rfl
      case hy30W4 =>
        intro w hSw
        (try dsimp only at hSw)
        first
        | (go_simp; done)
        | (go_simp; with_reducible rfl)
      try simp only [Act.put, List.setIfInBounds_toArray, List.set_cons_zero, List.set_cons_succ]
      refine wpAnyH_done (by kernel_rfl) ?_ _
      go_wp2_with fail
      go_ret
      exact ⟨rfl, U1.out.trans V.out (by simp)⟩
    have d4 : decide (x ≤ y) = false := decide_eq_false e4
    have HST := hide (show ∀ j, j < k + 1 → IdxOk i.trims.length xs j from fun j hj => by
      rcases Nat.lt_succ_iff_lt_or_eq.1 hj with h | rfl
      · exact hr.out j h
      · unfold IdxOk; rw [HS.out]; simp only [Option.getD_some]; exact ⟨by omega, .inr (by rw [HY.out]; simp only [Option.getD_some]; omega)⟩)
    go_wp2_with fail
    refine wp_region_held_drew (S := (fun w' => w'.cell? ⟨w.heap.size, 3, none⟩ = some (.slice ta i.trims.length tc) ∧ w'.cell? ⟨b, o + k, none⟩ = some (.int .i64 x) ∧ w'.cell? ⟨b, o + q, none⟩ = some (.int .i64 y))) (by kernel_rfl) (by exact ⟨m3, c0', d0'⟩) (fun hHeld => ?_)
    refine wpAnyH_take (i := 0) (oi := ?oi0W5) (v := ?v0W5) ?oi0_0W5 (by kernel_rfl) ?ff0W5 ?rr0W5 ?hq0W5 (Or.inl ⟨?hw0W5, ?hy0W5⟩) (by assumption) ?rest0W5
    case oi0_0W5 =>
      conv =>
        lhs
        whnf
        arg 1
        whnf
    case hq0W5 => exact fun _ _ _ h => h
    case ff0W5 => kernel_rfl
    case rr0W5 => kernel_rfl
    case hw0W5 => rfl
    case hy0W5 =>
      intro w hSw
      (try dsimp only at hSw)
      first
      | (go_simp; done)
      | (go_simp; with_reducible rfl)
    try simp only [Act.put, List.setIfInBounds_toArray, List.set_cons_zero, List.set_cons_succ]
    refine wpAnyH_take (i := 1) (oi := ?oi1W5) (v := ?v1W5) ?oi0_1W5 (by kernel_rfl) ?ff1W5 ?rr1W5 ?hq1W5 (Or.inl ⟨?hw1W5, ?hy1W5⟩) (by assumption) ?rest1W5
    case oi0_1W5 =>
      conv =>
        lhs
        whnf
        arg 1
        whnf
    case hq1W5 => exact fun _ _ _ h => h
    case ff1W5 => kernel_rfl
    case rr1W5 => kernel_rfl
    case hw1W5 => rfl
    case hy1W5 =>
      intro w hSw
      (try dsimp only at hSw)
      first
      | (go_simp; done)
      | (go_simp; with_reducible rfl)
    try simp only [Act.put, List.setIfInBounds_toArray, List.set_cons_zero, List.set_cons_succ]
    refine wpAnyH_take (i := 2) (oi := ?oi2W5) (v := ?v2W5) ?oi0_2W5 (by kernel_rfl) ?ff2W5 ?rr2W5 ?hq2W5 (Or.inl ⟨?hw2W5, ?hy2W5⟩) (by assumption) ?rest2W5
    case oi0_2W5 =>
      conv =>
        lhs
        whnf
        arg 1
        whnf
    case hq2W5 => exact fun _ _ _ h => h
    case ff2W5 => kernel_rfl
    case rr2W5 => kernel_rfl
    case hw2W5 => rfl
    case hy2W5 =>
      intro w hSw
      (try dsimp only at hSw)
      first
      | (go_simp; done)
      | (go_simp; with_reducible rfl)
    try simp only [Act.put, List.setIfInBounds_toArray, List.set_cons_zero, List.set_cons_succ]
    refine wpAnyH_take (i := 3) (oi := ?oi3W5) (v := ?v3W5) ?oi0_3W5 (by kernel_rfl) ?ff3W5 ?rr3W5 ?hq3W5 (Or.inl ⟨?hw3W5, ?hy3W5⟩) (by assumption) ?rest3W5
    case oi0_3W5 =>
      conv =>
        lhs
        whnf
        arg 1
        whnf
    case hq3W5 => exact fun _ _ _ h => h
    case ff3W5 => kernel_rfl
    case rr3W5 => kernel_rfl
    case hw3W5 => rfl
    case hy3W5 =>
      intro w hSw
      (try dsimp only at hSw)
      first
      | (go_simp; done)
      | (go_simp; with_reducible rfl)
    try simp only [Act.put, List.setIfInBounds_toArray, List.set_cons_zero, List.set_cons_succ]
    refine wpAnyH_take (i := 4) (oi := ?oi4W5) (v := ?v4W5) ?oi0_4W5 (by kernel_rfl) ?ff4W5 ?rr4W5 ?hq4W5 (Or.inl ⟨?hw4W5, ?hy4W5⟩) (by assumption) ?rest4W5
    case oi0_4W5 =>
      conv =>
        lhs
        whnf
        arg 1
        whnf
    case hq4W5 => exact fun _ _ _ h => h
    case ff4W5 => kernel_rfl
    case rr4W5 => kernel_rfl
    case hw4W5 => rfl
    case hy4W5 =>
      intro w hSw
      (try dsimp only at hSw)
      first
      | (go_simp; done)
      | (go_simp; with_reducible rfl)
    try simp only [Act.put, List.setIfInBounds_toArray, List.set_cons_zero, List.set_cons_succ]
    refine wpAnyH_take (i := 5) (oi := ?oi5W5) (v := ?v5W5) ?oi0_5W5 (by kernel_rfl) ?ff5W5 ?rr5W5 ?hq5W5 (Or.inl ⟨?hw5W5, ?hy5W5⟩) (by assumption) ?rest5W5
    case oi0_5W5 =>
      conv =>
        lhs
        whnf
        arg 1
        whnf
    case hq5W5 => exact fun _ _ _ h => h
    case ff5W5 => kernel_rfl
    case rr5W5 => kernel_rfl
    case hw5W5 => rfl
    case hy5W5 =>
      intro w hSw
      (try dsimp only at hSw)
      first
      | (go_simp; done)
      | (go_simp; with_reducible rfl)
    try simp only [Act.put, List.setIfInBounds_toArray, List.set_cons_zero, List.set_cons_succ]
    refine wpAnyH_take (i := 6) (oi := ?oi6W5) (v := ?v6W5) ?oi0_6W5 (by kernel_rfl) ?ff6W5 ?rr6W5 ?hq6W5 (Or.inl ⟨?hw6W5, ?hy6W5⟩) (by assumption) ?rest6W5
    case oi0_6W5 =>
      conv =>
        lhs
        whnf
        arg 1
        whnf
    case hq6W5 => exact fun _ _ _ h => h
    case ff6W5 => kernel_rfl
    case rr6W5 => kernel_rfl
    case hw6W5 => rfl
    case hy6W5 =>
      intro w hSw
      (try dsimp only at hSw)
      first
      | (go_simp; done)
      | (go_simp; with_reducible rfl)
    try simp only [Act.put, List.setIfInBounds_toArray, List.set_cons_zero, List.set_cons_succ]
    refine wpAnyH_take (i := 7) (oi := ?oi7W5) (v := ?v7W5) ?oi0_7W5 (by kernel_rfl) ?ff7W5 ?rr7W5 ?hq7W5 (Or.inl ⟨?hw7W5, ?hy7W5⟩) (by assumption) ?rest7W5
    case oi0_7W5 =>
      conv =>
        lhs
        whnf
        arg 1
        whnf
    case hq7W5 => exact fun _ _ _ h => h
    case ff7W5 => kernel_rfl
    case rr7W5 => kernel_rfl
    case hw7W5 => rfl
    case hy7W5 =>
      intro w hSw
      (try dsimp only at hSw)
      first
      | (go_simp; done)
      | (go_simp; with_reducible rfl)
    try simp only [Act.put, List.setIfInBounds_toArray, List.set_cons_zero, List.set_cons_succ]
    refine wpAnyH_take (i := 8) (oi := ?oi8W5) (v := ?v8W5) ?oi0_8W5 (by kernel_rfl) ?ff8W5 ?rr8W5 ?hq8W5 (Or.inl ⟨?hw8W5, ?hy8W5⟩) (by assumption) ?rest8W5
    case oi0_8W5 =>
      conv =>
        lhs
        whnf
        arg 1
        whnf
    case hq8W5 => exact fun _ _ _ h => h
    case ff8W5 => kernel_rfl
    case rr8W5 => kernel_rfl
    case hw8W5 => rfl
    case hy8W5 =>
      intro w hSw
      (try dsimp only at hSw)
      first
      | (go_simp; done)
      | (go_simp; with_reducible rfl)
    try simp only [Act.put, List.setIfInBounds_toArray, List.set_cons_zero, List.set_cons_succ]
    refine wpAnyH_take (i := 9) (oi := ?oi9W5) (v := ?v9W5) ?oi0_9W5 (by kernel_rfl) ?ff9W5 ?rr9W5 ?hq9W5 (Or.inl ⟨?hw9W5, ?hy9W5⟩) (by assumption) ?rest9W5
    case oi0_9W5 =>
      conv =>
        lhs
        whnf
        arg 1
        whnf
    case hq9W5 => exact fun _ _ _ h => h
    case ff9W5 => kernel_rfl
    case rr9W5 => kernel_rfl
    case hw9W5 => rfl
    case hy9W5 =>
      intro w hSw
      (try dsimp only at hSw)
      first
      | (go_simp; done)
      | (go_simp; with_reducible rfl)
    try simp only [Act.put, List.setIfInBounds_toArray, List.set_cons_zero, List.set_cons_succ]
    refine wpAnyH_take (i := 10) (oi := ?oi10W5) (v := ?v10W5) ?oi0_10W5 (by kernel_rfl) ?ff10W5 ?rr10W5 ?hq10W5 (Or.inl ⟨?hw10W5, ?hy10W5⟩) (by assumption) ?rest10W5
    case oi0_10W5 =>
      conv =>
        lhs
        whnf
        arg 1
        whnf
    case hq10W5 => exact fun _ _ _ h => h
    case ff10W5 => kernel_rfl
    case rr10W5 => kernel_rfl
    case hw10W5 => rfl
    case hy10W5 =>
      intro w hSw
      (try dsimp only at hSw)
      first
      | (go_simp; done)
      | (go_simp; with_reducible rfl)
    try simp only [Act.put, List.setIfInBounds_toArray, List.set_cons_zero, List.set_cons_succ]
    refine wpAnyH_take (i := 11) (oi := ?oi11W5) (v := ?v11W5) ?oi0_11W5 (by kernel_rfl) ?ff11W5 ?rr11W5 ?hq11W5 (Or.inl ⟨?hw11W5, ?hy11W5⟩) (by assumption) ?rest11W5
    case oi0_11W5 =>
      conv =>
        lhs
        whnf
        arg 1
        whnf
    case hq11W5 => exact fun _ _ _ h => h
    case ff11W5 => kernel_rfl
    case rr11W5 => kernel_rfl
    case hw11W5 => rfl
    case hy11W5 =>
      intro w hSw
      (try dsimp only at hSw)
      first
      | (go_simp; done)
      | (go_simp; with_reducible rfl)
    try simp only [Act.put, List.setIfInBounds_toArray, List.set_cons_zero, List.set_cons_succ]
    refine wpAnyH_take (i := 12) (oi := ?oi12W5) (v := ?v12W5) ?oi0_12W5 (by kernel_rfl) ?ff12W5 ?rr12W5 ?hq12W5 (Or.inl ⟨?hw12W5, ?hy12W5⟩) (by assumption) ?rest12W5
    case oi0_12W5 =>
      conv =>
        lhs
        whnf
        arg 1
        whnf
    case hq12W5 => exact fun _ _ _ h => h
    case ff12W5 => kernel_rfl
    case rr12W5 => kernel_rfl
    case hw12W5 => rfl
    case hy12W5 =>
      intro w hSw
      (try dsimp only at hSw)
      first
      | (go_simp; done)
      | (go_simp; with_reducible rfl)
    try simp only [Act.put, List.setIfInBounds_toArray, List.set_cons_zero, List.set_cons_succ]
    refine wpAnyH_take (i := 13) (oi := ?oi13W5) (v := ?v13W5) ?oi0_13W5 (by kernel_rfl) ?ff13W5 ?rr13W5 ?hq13W5 (Or.inl ⟨?hw13W5, ?hy13W5⟩) (by assumption) ?rest13W5
    case oi0_13W5 =>
      conv =>
        lhs
        whnf
        arg 1
        whnf
    case hq13W5 => exact fun _ _ _ h => h
    case ff13W5 => kernel_rfl
    case rr13W5 => kernel_rfl
    case hw13W5 => rfl
    case hy13W5 =>
      intro w hSw
      (try dsimp only at hSw)
      first
      | (go_simp; done)
      | (go_simp; with_reducible rfl)
    try simp only [Act.put, List.setIfInBounds_toArray, List.set_cons_zero, List.set_cons_succ]
    refine wpAnyH_take (i := 14) (oi := ?oi14W5) (v := ?v14W5) ?oi0_14W5 (by kernel_rfl) ?ff14W5 ?rr14W5 ?hq14W5 (Or.inl ⟨?hw14W5, ?hy14W5⟩) (by assumption) ?rest14W5
    case oi0_14W5 =>
      conv =>
        lhs
        whnf
        arg 1
        whnf
    case hq14W5 => exact fun _ _ _ h => h
    case ff14W5 => kernel_rfl
    case rr14W5 => kernel_rfl
    case hw14W5 => rfl
    case hy14W5 =>
      intro w hSw
      (try dsimp only at hSw)
      first
      | (go_simp; done)
      | (go_simp; with_reducible rfl)
    try simp only [Act.put, List.setIfInBounds_toArray, List.set_cons_zero, List.set_cons_succ]
    refine wpAnyH_take (i := 15) (oi := ?oi15W5) (v := ?v15W5) ?oi0_15W5 (by kernel_rfl) ?ff15W5 ?rr15W5 ?hq15W5 (Or.inl ⟨?hw15W5, ?hy15W5⟩) (by assumption) ?rest15W5
    case oi0_15W5 =>
      conv =>
        lhs
        whnf
        arg 1
        whnf
    case hq15W5 => exact fun _ _ _ h => h
    case ff15W5 => kernel_rfl
    case rr15W5 => kernel_rfl
    case hw15W5 => rfl
    case hy15W5 =>
      intro w hSw
      (try dsimp only at hSw)
      first
      | (go_simp; done)
      | (go_simp; with_reducible rfl)
    try simp only [Act.put, List.setIfInBounds_toArray, List.set_cons_zero, List.set_cons_succ]
    refine wpAnyH_take (i := 16) (oi := ?oi16W5) (v := ?v16W5) ?oi0_16W5 (by kernel_rfl) ?ff16W5 ?rr16W5 ?hq16W5 (Or.inl ⟨?hw16W5, ?hy16W5⟩) (by assumption) ?rest16W5
    case oi0_16W5 =>
      conv =>
        lhs
        whnf
        arg 1
        whnf
    case hq16W5 => exact fun _ _ _ h => h
    case ff16W5 => kernel_rfl
    case rr16W5 => kernel_rfl
    case hw16W5 => rfl
    case hy16W5 =>
      intro w hSw
      (try dsimp only at hSw)
      first
      | (go_simp; done)
      | (go_simp; with_reducible rfl)
    try simp only [Act.put, List.setIfInBounds_toArray, List.set_cons_zero, List.set_cons_succ]
    refine wpAnyH_take (i := 17) (oi := ?oi17W5) (v := ?v17W5) ?oi0_17W5 (by kernel_rfl) ?ff17W5 ?rr17W5 ?hq17W5 (Or.inl ⟨?hw17W5, ?hy17W5⟩) (by assumption) ?rest17W5
    case oi0_17W5 =>
      conv =>
        lhs
        whnf
        arg 1
        whnf
    case hq17W5 => exact fun _ _ _ h => h
    case ff17W5 => kernel_rfl
    case rr17W5 => kernel_rfl
    case hw17W5 => rfl
    case hy17W5 =>
      intro w hSw
      (try dsimp only at hSw)
      first
      | (go_simp; done)
      | (go_simp; with_reducible rfl)
    try simp only [Act.put, List.setIfInBounds_toArray, List.set_cons_zero, List.set_cons_succ]
    refine wpAnyH_take (i := 18) (oi := ?oi18W5) (v := ?v18W5) ?oi0_18W5 (by kernel_rfl) ?ff18W5 ?rr18W5 ?hq18W5 (Or.inl ⟨?hw18W5, ?hy18W5⟩) (by assumption) ?rest18W5
    case oi0_18W5 =>
      conv =>
        lhs
        whnf
        arg 1
        whnf
    case hq18W5 => exact fun _ _ _ h => h
    case ff18W5 => kernel_rfl
    case rr18W5 => kernel_rfl
    case hw18W5 => rfl
    case hy18W5 =>
      intro w hSw
      (try dsimp only at hSw)
      first
      | (go_simp; done)
      | (go_simp; with_reducible rfl)
    try simp only [Act.put, List.setIfInBounds_toArray, List.set_cons_zero, List.set_cons_succ]
    refine wpAnyH_take (i := 19) (oi := ?oi19W5) (v := ?v19W5) ?oi0_19W5 (by kernel_rfl) ?ff19W5 ?rr19W5 ?hq19W5 (Or.inl ⟨?hw19W5, ?hy19W5⟩) (by assumption) ?rest19W5
    case oi0_19W5 =>
      conv =>
        lhs
        whnf
        arg 1
        whnf
    case hq19W5 => exact fun _ _ _ h => h
    case ff19W5 => kernel_rfl
    case rr19W5 => kernel_rfl
    case hw19W5 => rfl
    case hy19W5 =>
      intro w hSw
      (try dsimp only at hSw)
      first
      | (go_simp; done)
      | (go_simp; with_reducible rfl)
    try simp only [Act.put, List.setIfInBounds_toArray, List.set_cons_zero, List.set_cons_succ]
    refine wpAnyH_take (i := 20) (oi := ?oi20W5) (v := ?v20W5) ?oi0_20W5 (by kernel_rfl) ?ff20W5 ?rr20W5 ?hq20W5 (Or.inl ⟨?hw20W5, ?hy20W5⟩) (by assumption) ?rest20W5
    case oi0_20W5 =>
      conv =>
        lhs
        whnf
        arg 1
        whnf
    case hq20W5 => exact fun _ _ _ h => h
    case ff20W5 => kernel_rfl
    case rr20W5 => kernel_rfl
    case hw20W5 => rfl
    case hy20W5 =>
      intro w hSw
      (try dsimp only at hSw)
      first
      | (go_simp; done)
      | (go_simp; with_reducible rfl)
    try simp only [Act.put, List.setIfInBounds_toArray, List.set_cons_zero, List.set_cons_succ]
    refine wpAnyH_take (i := 21) (oi := ?oi21W5) (v := ?v21W5) ?oi0_21W5 (by kernel_rfl) ?ff21W5 ?rr21W5 ?hq21W5 (Or.inl ⟨?hw21W5, ?hy21W5⟩) (by assumption) ?rest21W5
    case oi0_21W5 =>
      conv =>
        lhs
        whnf
        arg 1
        whnf
    case hq21W5 => exact fun _ _ _ h => h
    case ff21W5 => kernel_rfl
    case rr21W5 => kernel_rfl
    case hw21W5 => rfl
    case hy21W5 =>
      intro w hSw
      (try dsimp only at hSw)
      first
      | (go_simp; done)
      | (go_simp; with_reducible rfl)
    try simp only [Act.put, List.setIfInBounds_toArray, List.set_cons_zero, List.set_cons_succ]
    refine wpAnyH_take (i := 22) (oi := ?oi22W5) (v := ?v22W5) ?oi0_22W5 (by kernel_rfl) ?ff22W5 ?rr22W5 ?hq22W5 (Or.inl ⟨?hw22W5, ?hy22W5⟩) (by assumption) ?rest22W5
    case oi0_22W5 =>
      conv =>
        lhs
        whnf
        arg 1
        whnf
    case hq22W5 => exact fun _ _ _ h => h
    case ff22W5 => kernel_rfl
    case rr22W5 => kernel_rfl
    case hw22W5 => rfl
    case hy22W5 =>
      intro w hSw
      (try dsimp only at hSw)
      first
      | (go_simp; done)
      | (go_simp; with_reducible rfl)
    try simp only [Act.put, List.setIfInBounds_toArray, List.set_cons_zero, List.set_cons_succ]
    refine wpAnyH_take (i := 23) (oi := ?oi23W5) (v := ?v23W5) ?oi0_23W5 (by kernel_rfl) ?ff23W5 ?rr23W5 ?hq23W5 (Or.inl ⟨?hw23W5, ?hy23W5⟩) (by assumption) ?rest23W5
    case oi0_23W5 =>
      conv =>
        lhs
        whnf
        arg 1
        whnf
    case hq23W5 => exact fun _ _ _ h => h
    case ff23W5 => kernel_rfl
    case rr23W5 => kernel_rfl
    case hw23W5 => rfl
    case hy23W5 =>
      intro w hSw
      (try dsimp only at hSw)
      first
      | (go_simp; done)
      | (go_simp; with_reducible rfl)
    try simp only [Act.put, List.setIfInBounds_toArray, List.set_cons_zero, List.set_cons_succ]
    refine wpAnyH_take (i := 24) (oi := ?oi24W5) (v := ?v24W5) ?oi0_24W5 (by kernel_rfl) ?ff24W5 ?rr24W5 ?hq24W5 (Or.inl ⟨?hw24W5, ?hy24W5⟩) (by assumption) ?rest24W5
    case oi0_24W5 =>
      conv =>
        lhs
        whnf
        arg 1
        whnf
    case hq24W5 => exact fun _ _ _ h => h
    case ff24W5 => kernel_rfl
    case rr24W5 => kernel_rfl
    case hw24W5 => rfl
    case hy24W5 =>
      intro w hSw
      (try dsimp only at hSw)
      first
      | (go_simp; done)
      | (go_simp; with_reducible rfl)
    try simp only [Act.put, List.setIfInBounds_toArray, List.set_cons_zero, List.set_cons_succ]
    refine wpAnyH_take (i := 25) (oi := ?oi25W5) (v := ?v25W5) ?oi0_25W5 (by kernel_rfl) ?ff25W5 ?rr25W5 ?hq25W5 (Or.inl ⟨?hw25W5, ?hy25W5⟩) (by assumption) ?rest25W5
    case oi0_25W5 =>
      conv =>
        lhs
        whnf
        arg 1
        whnf
    case hq25W5 => exact fun _ _ _ h => h
    case ff25W5 => kernel_rfl
    case rr25W5 => kernel_rfl
    case hw25W5 => rfl
    case hy25W5 =>
      intro w hSw
      (try dsimp only at hSw)
      first
      | (go_simp; done)
      | (go_simp; with_reducible rfl)
    try simp only [Act.put, List.setIfInBounds_toArray, List.set_cons_zero, List.set_cons_succ]
    refine wpAnyH_take (i := 26) (oi := ?oi26W5) (v := ?v26W5) ?oi0_26W5 (by kernel_rfl) ?ff26W5 ?rr26W5 ?hq26W5 (Or.inl ⟨?hw26W5, ?hy26W5⟩) (by assumption) ?rest26W5
    case oi0_26W5 =>
      conv =>
        lhs
        whnf
        arg 1
        whnf
    case hq26W5 => exact fun _ _ _ h => h
    case ff26W5 => kernel_rfl
    case rr26W5 => kernel_rfl
    case hw26W5 => rfl
    case hy26W5 =>
      intro w hSw
      (try dsimp only at hSw)
      first
      | (go_simp; done)
      | (go_simp; with_reducible rfl)
    try simp only [Act.put, List.setIfInBounds_toArray, List.set_cons_zero, List.set_cons_succ]
    refine wpAnyH_take (i := 27) (oi := ?oi27W5) (v := ?v27W5) ?oi0_27W5 (by kernel_rfl) ?ff27W5 ?rr27W5 ?hq27W5 (Or.inl ⟨?hw27W5, ?hy27W5⟩) (by assumption) ?rest27W5
    case oi0_27W5 =>
      conv =>
        lhs
        whnf
        arg 1
        whnf
    case hq27W5 => exact fun _ _ _ h => h
    case ff27W5 => kernel_rfl
    case rr27W5 => kernel_rfl
    case hw27W5 => rfl
    case hy27W5 =>
      intro w hSw
      (try dsimp only at hSw)
      first
      | (go_simp; done)
      | (go_simp; with_reducible rfl)
    try simp only [Act.put, List.setIfInBounds_toArray, List.set_cons_zero, List.set_cons_succ]
    refine wpAnyH_take (i := 28) (oi := ?oi28W5) (v := ?v28W5) ?oi0_28W5 (by kernel_rfl) ?ff28W5 ?rr28W5 ?hq28W5 (Or.inl ⟨?hw28W5, ?hy28W5⟩) (by assumption) ?rest28W5
    case oi0_28W5 =>
      conv =>
        lhs
        whnf
        arg 1
        whnf
    case hq28W5 => exact fun _ _ _ h => h
    case ff28W5 => kernel_rfl
    case rr28W5 => kernel_rfl
    case hw28W5 => rfl
    case hy28W5 =>
      intro w hSw
      (try dsimp only at hSw)
      first
      | (go_simp; done)
      | (go_simp; with_reducible rfl)
    try simp only [Act.put, List.setIfInBounds_toArray, List.set_cons_zero, List.set_cons_succ]
    refine wpAnyH_take (i := 29) (oi := ?oi29W5) (v := ?v29W5) ?oi0_29W5 (by kernel_rfl) ?ff29W5 ?rr29W5 ?hq29W5 (Or.inl ⟨?hw29W5, ?hy29W5⟩) (by assumption) ?rest29W5
    case oi0_29W5 =>
      conv =>
        lhs
        whnf
        arg 1
        whnf
    case hq29W5 => exact fun _ _ _ h => h
    case ff29W5 => kernel_rfl
    case rr29W5 => kernel_rfl
    case hw29W5 => rfl
    case hy29W5 =>
      intro w hSw
      (try dsimp only at hSw)
      first
      | (go_simp; done)
      | (go_simp; with_reducible rfl)
    try simp only [Act.put, List.setIfInBounds_toArray, List.set_cons_zero, List.set_cons_succ]
    refine wpAnyH_take (i := 30) (oi := ?oi30W5) (v := ?v30W5) ?oi0_30W5 (by kernel_rfl) ?ff30W5 ?rr30W5 ?hq30W5 (Or.inl ⟨?hw30W5, ?hy30W5⟩) (by assumption) ?rest30W5
    case oi0_30W5 =>
      conv =>
        lhs
        whnf
        arg 1
        whnf
    case hq30W5 => exact fun _ _ _ h => h
    case ff30W5 => kernel_rfl
    case rr30W5 => kernel_rfl
    case hw30W5 => rfl
    case hy30W5 =>
      intro w hSw
      (try dsimp only at hSw)
      first
      | (go_simp; done)
      | (go_simp; with_reducible rfl)
    try simp only [Act.put, List.setIfInBounds_toArray, List.set_cons_zero, List.set_cons_succ]
    refine wpAnyH_done (by kernel_rfl) ?_ _
    go_wp2_with fail
    go_roundw
    case rel => exact ⟨k + 1, by omega, by go_num, V, HST⟩
    case measure => simp [intOf] <;> omega
end Go.Proofs.Ytpkeimdlcafcnaa
