/-
  aircheckref07.Length.
-/
import Derived.Test.YtpkeimdlcafcnaaZ16ItemMatchesReferenceRow
import Derived.Test.YtpkeimdlcafcnaaZ14ItemMatchesReferenceRow

namespace Go.Proofs.Ytpkeimdlcafcnaa
open Go.RowKit
set_option maxRecDepth 100000
set_option maxHeartbeats 40000000

theorem refLength (i : It) (ta : Option Addr) (tc : Nat) (ka : Option Addr) (kc : Nat) (a : Option Addr) (n c : Nat) (xs : List Int) (w : World) (it : ItAt w i ta ka) (h1 : i.trims.length ≤ maxLen) (h2 : i.talks.length ≤ maxLen) (hC : Ints w.heap.size w (.slice a n c) xs) (hm : n ≤ maxLen) :
    Calls Try.prog 25 #[.agg #[.int .i64 i.id, .int .i64 i.kind, .int .i64 i.len, .slice ta i.trims.length tc, .slice ka i.talks.length kc, .int .i64 i.artist, .int .i64 i.tempo, .int .i64 i.lang], .slice a n c] w fun e w' => e = .returned (if ItOk i ∧ CutOk i.trims.length xs then .tuple #[.int .i64 (cutLen i xs), .int .i64 0] else .tuple #[.int .i64 0, .int .i64 70]) ∧ Upd [] w w' := by
  obtain ⟨r, HR⟩ : ∃ r, Hid ((if ItOk i ∧ CutOk i.trims.length xs then (.tuple #[.int .i64 (cutLen i xs), .int .i64 0] : Value) else .tuple #[.int .i64 0, .int .i64 70]) = r) := ⟨_, rfl⟩
  rw [HR.out]
  have HI := hide it
  have HCI := hide hC
  have HX := hide hC.form.2
  have HXN := hide hC.form.1
  have hm' : n ≤ 9223372036854775807 := by unfold maxLen at hm; omega
  clear it hC
  go_enter Try.func25, Try.ntmps25
  go_upto_region 1 with fail
  obtain ⟨w1, hw1⟩ : ∃ x, w.alloc (.cells #[.int .i64 i.id, .int .i64 i.kind, .int .i64 i.len, .slice ta i.trims.length tc, .slice ka i.talks.length kc, .int .i64 i.artist, .int .i64 i.tempo, .int .i64 i.lang] 24) = x := ⟨_, rfl⟩
  have B1 := hide (show Blk w1 w.heap.size 24 [.int .i64 i.id, .int .i64 i.kind, .int .i64 i.len, .slice ta i.trims.length tc, .slice ka i.talks.length kc, .int .i64 i.artist, .int .i64 i.tempo, .int .i64 i.lang] by rw [← hw1]; exact Blk.new w _ _)
  have U1 := hide (show Upd [] w w1 by rw [← hw1]; exact (Upd.refl [] _).alloc _)
  rw [hw1]
  clear hw1
  have I1 := hide (HI.out.upd U1.out)
  have m0 := B1.out.cell 0
  have m1 := B1.out.cell 1
  have m2 := B1.out.cell 2
  have m3 := B1.out.cell 3
  have m4 := B1.out.cell 4
  have m5 := B1.out.cell 5
  have m6 := B1.out.cell 6
  have m7 := B1.out.cell 7
  go_wp2_with fail
  refine (refValid i ta tc ka kc w1 I1.out h1 h2).mono ?_
  rintro e w2 ⟨rfl, u⟩
  have B2 := hide (B1.out.upd u (by simp))
  have U2 := hide (U1.out.trans u (by simp))
  clear u m0 m1 m2 m3 m4 m5 m6 m7
  by_cases hv : ItOk i
  case neg =>
    rw [decide_eq_false hv]
    obtain rfl := HR.out.symm.trans (if_neg (fun h => hv h.1))
    clear hv
    go_wp2_with fail
    go_ret2
    exact ⟨rfl, U2.out⟩
  rw [decide_eq_true hv]
  have HV := hide hv
  clear hv
  have m0 := B2.out.cell 0
  have m1 := B2.out.cell 1
  have m2 := B2.out.cell 2
  have m3 := B2.out.cell 3
  have m4 := B2.out.cell 4
  have m5 := B2.out.cell 5
  have m6 := B2.out.cell 6
  have m7 := B2.out.cell 7
  go_wp2_with fail
  refine (refIsCut i ta tc ka kc a n c xs w2 (ints_upd HCI.out U2.out (Nat.le_refl _) (by simp)) hm).mono ?_
  rintro e w3 ⟨rfl, u⟩
  have B3 := hide (B2.out.upd u (by simp))
  have U3 := hide (U2.out.trans u (by simp))
  clear u m0 m1 m2 m3 m4 m5 m6 m7
  have ht4 := HV.out.2.1.1.2
  by_cases hc : CutR i.trims.length xs
  case neg =>
    rw [decide_eq_false hc]
    obtain rfl := HR.out.symm.trans (if_neg (fun h => hc ((cutR_iff ht4).2 h.2)))
    clear hc
    go_wp2_with fail
    go_ret2
    exact ⟨rfl, U3.out⟩
  rw [decide_eq_true hc]
  have HCO := hide ((cutR_iff ht4).1 hc)
  clear hc
  obtain rfl := HR.out.symm.trans (if_pos ⟨HV.out, HCO.out⟩)
  have hn4 : n ≤ 4 := by have := HCO.out.2; have := HXN.out; omega
  have hlen := HV.out.1.2.2
  have m2 := B3.out.cell 2
  go_wp2_with fail
  go_loopw [6, 7] (fun s6 s7 wr => ∃ (k : Nat) (t : Int), k ≤ n ∧ s7 = .int .i64 k ∧ s6 = .int .i64 t ∧ (t ≤ 3600 ∧ -3600 * k ≤ t) ∧ Hid (t = cutLen i (xs.take k)) ∧ Hid (Upd [] w3 wr)) (fun _ k _ => n - (intOf k).toNat)
  case atStart => exact ⟨0, i.len, Nat.zero_le _, rfl, rfl, by omega, hide rfl, Upd.refl _ _⟩
  case round =>
    obtain ⟨k, t, hk, rfl, rfl, ⟨ht0, ht1⟩, ht, hu⟩ := hrel
    obtain ⟨wo, rfl⟩ : ∃ wo : World, wo = wr := ⟨_, rfl⟩
    have UO := hide (U3.out.trans hu.out (by simp))
    have V := hide (hu.out.drew)
    clear m2
    have m3 := (B3.out.upd hu.out (by simp)).cell 3
    by_cases hkl : k < n
    case neg =>
      obtain rfl : k = n := by omega
      have hki : ¬ (k : Int) < k := by omega
      have e := ht.out
      rw [List.take_of_length_le (by have := HXN.out; omega)] at e
      subst e
      clear ht
      go_wp2_with fail
      go_ret2
      exact ⟨rfl, UO.out⟩
    have hki : (k : Int) < n := by omega
    obtain ⟨x, hx⟩ : ∃ x, xs[k]? = some x := ⟨_, List.getElem?_eq_getElem (by have := HXN.out; omega)⟩
    have hxi := (HCO.out.1 k (by have := HXN.out; omega)).1
    rw [hx] at hxi
    obtain ⟨xn, rfl⟩ : ∃ xn : Nat, x = (xn : Int) := ⟨x.toNat, by have := hxi.1; simp at this; omega⟩
    have hxt : xn < i.trims.length := by have := hxi.2; simp at this; omega
    obtain ⟨s, hs⟩ : ∃ s, i.trims[xn]? = some s := ⟨_, List.getElem?_eq_getElem hxt⟩
    have hsi := (HV.out.2.1.1.1 xn hxt).1
    rw [hs] at hsi
    have q1 : 0 ≤ s.fr := hsi.1
    have q2 : s.fr < s.to_ := hsi.2.1
    have q3 : s.to_ ≤ i.len := hsi.2.2
    obtain ⟨sb, so, ea, _, s0, s1⟩ := (HI.out.upd UO.out).trims xn s hs
    subst ea
    obtain ⟨b, o, eb, _, c0⟩ := HX.out k _ hx
    subst eb
    have c0' := keepc _ _ _ _ UO.out c0
    have hxi2 : (xn : Int) < i.trims.length := by omega
    have hw1 : IntKind.i64.wrap (s.to_ - s.fr) = s.to_ - s.fr := Go.IntWalk.i64_in _ (by omega)
    have hw2 : IntKind.i64.wrap (t - (s.to_ - s.fr)) = t - (s.to_ - s.fr) := Go.IntWalk.i64_in _ (by omega)
    have HST := hide (show t - (s.to_ - s.fr) = cutLen i (xs.take (k + 1)) by
      have e : spOf i.trims (xn : Int) = s := by unfold spOf; rw [Int.toNat_natCast, hs]; rfl
      rw [List.take_add_one, hx, Option.toList_some, cutLen_snoc, ht.out, e])
    clear hx hs hxi hsi c0
    go_upto_region 7 with fail
    refine wp_region_held_drew (S := (fun w' => w'.cell? ⟨w.heap.size, 3, none⟩ = some (.slice (some ⟨sb, so, none⟩) i.trims.length tc) ∧ w'.cell? ⟨b, o + k, none⟩ = some (.int .i64 xn) ∧ w'.cell? ⟨sb, so + xn * 2, none⟩ = some (.int .i64 s.fr) ∧ w'.cell? ⟨sb, so + xn * 2 + 1, none⟩ = some (.int .i64 s.to_))) (by kernel_rfl) (by exact ⟨m3, c0', s0, s1⟩) (fun hHeld => ?_)
    refine wpAnyH_take (i := 0) (oi := ?oi0L1) (v := ?v0L1) ?oi0_0L1 (by kernel_rfl) ?ff0L1 ?rr0L1 ?hq0L1 (Or.inl ⟨?hw0L1, ?hy0L1⟩) (by assumption) ?rest0L1
    case oi0_0L1 =>
      conv =>
        lhs
        whnf
        arg 1
        whnf
    case hq0L1 => exact fun _ _ _ h => h
    case ff0L1 => kernel_rfl
    case rr0L1 => kernel_rfl
    case hw0L1 => rfl
    case hy0L1 =>
      intro w hSw
      (try dsimp only at hSw)
      first
      | (go_simp; done)
      | (go_simp; with_reducible rfl)
    try simp only [Act.put, List.setIfInBounds_toArray, List.set_cons_zero, List.set_cons_succ]
    refine wpAnyH_take (i := 1) (oi := ?oi1L1) (v := ?v1L1) ?oi0_1L1 (by kernel_rfl) ?ff1L1 ?rr1L1 ?hq1L1 (Or.inl ⟨?hw1L1, ?hy1L1⟩) (by assumption) ?rest1L1
    case oi0_1L1 =>
      conv =>
        lhs
        whnf
        arg 1
        whnf
    case hq1L1 => exact fun _ _ _ h => h
    case ff1L1 => kernel_rfl
    case rr1L1 => kernel_rfl
    case hw1L1 => rfl
    case hy1L1 =>
      intro w hSw
      (try dsimp only at hSw)
      first
      | (go_simp; done)
      | (go_simp; with_reducible rfl)
    try simp only [Act.put, List.setIfInBounds_toArray, List.set_cons_zero, List.set_cons_succ]
    refine wpAnyH_take (i := 2) (oi := ?oi2L1) (v := ?v2L1) ?oi0_2L1 (by kernel_rfl) ?ff2L1 ?rr2L1 ?hq2L1 (Or.inl ⟨?hw2L1, ?hy2L1⟩) (by assumption) ?rest2L1
    case oi0_2L1 =>
      conv =>
        lhs
        whnf
        arg 1
        whnf
    case hq2L1 => exact fun _ _ _ h => h
    case ff2L1 => kernel_rfl
    case rr2L1 => kernel_rfl
    case hw2L1 => rfl
    case hy2L1 =>
      intro w hSw
      (try dsimp only at hSw)
      first
      | (go_simp; done)
      | (go_simp; with_reducible rfl)
    try simp only [Act.put, List.setIfInBounds_toArray, List.set_cons_zero, List.set_cons_succ]
    refine wpAnyH_take (i := 3) (oi := ?oi3L1) (v := ?v3L1) ?oi0_3L1 (by kernel_rfl) ?ff3L1 ?rr3L1 ?hq3L1 (Or.inl ⟨?hw3L1, ?hy3L1⟩) (by assumption) ?rest3L1
    case oi0_3L1 =>
      conv =>
        lhs
        whnf
        arg 1
        whnf
    case hq3L1 => exact fun _ _ _ h => h
    case ff3L1 => kernel_rfl
    case rr3L1 => kernel_rfl
    case hw3L1 => rfl
    case hy3L1 =>
      intro w hSw
      (try dsimp only at hSw)
      first
      | (go_simp; done)
      | (go_simp; with_reducible rfl)
    try simp only [Act.put, List.setIfInBounds_toArray, List.set_cons_zero, List.set_cons_succ]
    refine wpAnyH_take (i := 4) (oi := ?oi4L1) (v := ?v4L1) ?oi0_4L1 (by kernel_rfl) ?ff4L1 ?rr4L1 ?hq4L1 (Or.inl ⟨?hw4L1, ?hy4L1⟩) (by assumption) ?rest4L1
    case oi0_4L1 =>
      conv =>
        lhs
        whnf
        arg 1
        whnf
    case hq4L1 => exact fun _ _ _ h => h
    case ff4L1 => kernel_rfl
    case rr4L1 => kernel_rfl
    case hw4L1 => rfl
    case hy4L1 =>
      intro w hSw
      (try dsimp only at hSw)
      first
      | (go_simp; done)
      | (go_simp; with_reducible rfl)
    try simp only [Act.put, List.setIfInBounds_toArray, List.set_cons_zero, List.set_cons_succ]
    refine wpAnyH_take (i := 5) (oi := ?oi5L1) (v := ?v5L1) ?oi0_5L1 (by kernel_rfl) ?ff5L1 ?rr5L1 ?hq5L1 (Or.inl ⟨?hw5L1, ?hy5L1⟩) (by assumption) ?rest5L1
    case oi0_5L1 =>
      conv =>
        lhs
        whnf
        arg 1
        whnf
    case hq5L1 => exact fun _ _ _ h => h
    case ff5L1 => kernel_rfl
    case rr5L1 => kernel_rfl
    case hw5L1 => rfl
    case hy5L1 =>
      intro w hSw
      (try dsimp only at hSw)
      first
      | (go_simp; done)
      | (go_simp; with_reducible rfl)
    try simp only [Act.put, List.setIfInBounds_toArray, List.set_cons_zero, List.set_cons_succ]
    refine wpAnyH_take (i := 6) (oi := ?oi6L1) (v := ?v6L1) ?oi0_6L1 (by kernel_rfl) ?ff6L1 ?rr6L1 ?hq6L1 (Or.inl ⟨?hw6L1, ?hy6L1⟩) (by assumption) ?rest6L1
    case oi0_6L1 =>
      conv =>
        lhs
        whnf
        arg 1
        whnf
    case hq6L1 => exact fun _ _ _ h => h
    case ff6L1 => kernel_rfl
    case rr6L1 => kernel_rfl
    case hw6L1 => rfl
    case hy6L1 =>
      intro w hSw
      (try dsimp only at hSw)
      first
      | (go_simp; done)
      | (go_simp; with_reducible rfl)
    try simp only [Act.put, List.setIfInBounds_toArray, List.set_cons_zero, List.set_cons_succ]
    refine wpAnyH_take (i := 7) (oi := ?oi7L1) (v := ?v7L1) ?oi0_7L1 (by kernel_rfl) ?ff7L1 ?rr7L1 ?hq7L1 (Or.inl ⟨?hw7L1, ?hy7L1⟩) (by assumption) ?rest7L1
    case oi0_7L1 =>
      conv =>
        lhs
        whnf
        arg 1
        whnf
    case hq7L1 => exact fun _ _ _ h => h
    case ff7L1 => kernel_rfl
    case rr7L1 => kernel_rfl
    case hw7L1 => rfl
    case hy7L1 =>
      intro w hSw
      (try dsimp only at hSw)
      first
      | (go_simp; done)
      | (go_simp; with_reducible rfl)
    try simp only [Act.put, List.setIfInBounds_toArray, List.set_cons_zero, List.set_cons_succ]
    refine wpAnyH_take (i := 8) (oi := ?oi8L1) (v := ?v8L1) ?oi0_8L1 (by kernel_rfl) ?ff8L1 ?rr8L1 ?hq8L1 (Or.inl ⟨?hw8L1, ?hy8L1⟩) (by assumption) ?rest8L1
    case oi0_8L1 =>
      conv =>
        lhs
        whnf
        arg 1
        whnf
    case hq8L1 => exact fun _ _ _ h => h
    case ff8L1 => kernel_rfl
    case rr8L1 => kernel_rfl
    case hw8L1 => rfl
    case hy8L1 =>
      intro w hSw
      (try dsimp only at hSw)
      first
      | (go_simp; done)
      | (go_simp; with_reducible rfl)
    try simp only [Act.put, List.setIfInBounds_toArray, List.set_cons_zero, List.set_cons_succ]
    refine wpAnyH_take (i := 9) (oi := ?oi9L1) (v := ?v9L1) ?oi0_9L1 (by kernel_rfl) ?ff9L1 ?rr9L1 ?hq9L1 (Or.inl ⟨?hw9L1, ?hy9L1⟩) (by assumption) ?rest9L1
    case oi0_9L1 =>
      conv =>
        lhs
        whnf
        arg 1
        whnf
    case hq9L1 => exact fun _ _ _ h => h
    case ff9L1 => kernel_rfl
    case rr9L1 => kernel_rfl
    case hw9L1 => rfl
    case hy9L1 =>
      intro w hSw
      (try dsimp only at hSw)
      first
      | (go_simp; done)
      | (go_simp; with_reducible rfl)
    try simp only [Act.put, List.setIfInBounds_toArray, List.set_cons_zero, List.set_cons_succ]
    refine wpAnyH_take (i := 10) (oi := ?oi10L1) (v := ?v10L1) ?oi0_10L1 (by kernel_rfl) ?ff10L1 ?rr10L1 ?hq10L1 (Or.inl ⟨?hw10L1, ?hy10L1⟩) (by assumption) ?rest10L1
    case oi0_10L1 =>
      conv =>
        lhs
        whnf
        arg 1
        whnf
    case hq10L1 => exact fun _ _ _ h => h
    case ff10L1 => kernel_rfl
    case rr10L1 => kernel_rfl
    case hw10L1 => rfl
    case hy10L1 =>
      intro w hSw
      (try dsimp only at hSw)
      first
      | (go_simp; done)
      | (go_simp; with_reducible rfl)
    try simp only [Act.put, List.setIfInBounds_toArray, List.set_cons_zero, List.set_cons_succ]
    refine wpAnyH_take (i := 11) (oi := ?oi11L1) (v := ?v11L1) ?oi0_11L1 (by kernel_rfl) ?ff11L1 ?rr11L1 ?hq11L1 (Or.inl ⟨?hw11L1, ?hy11L1⟩) (by assumption) ?rest11L1
    case oi0_11L1 =>
      conv =>
        lhs
        whnf
        arg 1
        whnf
    case hq11L1 => exact fun _ _ _ h => h
    case ff11L1 => kernel_rfl
    case rr11L1 => kernel_rfl
    case hw11L1 => rfl
    case hy11L1 =>
      intro w hSw
      (try dsimp only at hSw)
      first
      | (go_simp; done)
      | (go_simp; with_reducible rfl)
    try simp only [Act.put, List.setIfInBounds_toArray, List.set_cons_zero, List.set_cons_succ]
    refine wpAnyH_take (i := 12) (oi := ?oi12L1) (v := ?v12L1) ?oi0_12L1 (by kernel_rfl) ?ff12L1 ?rr12L1 ?hq12L1 (Or.inl ⟨?hw12L1, ?hy12L1⟩) (by assumption) ?rest12L1
    case oi0_12L1 =>
      conv =>
        lhs
        whnf
        arg 1
        whnf
    case hq12L1 => exact fun _ _ _ h => h
    case ff12L1 => kernel_rfl
    case rr12L1 => kernel_rfl
    case hw12L1 => rfl
    case hy12L1 =>
      intro w hSw
      (try dsimp only at hSw)
      first
      | (go_simp; done)
      | (go_simp; with_reducible rfl)
    try simp only [Act.put, List.setIfInBounds_toArray, List.set_cons_zero, List.set_cons_succ]
    refine wpAnyH_take (i := 13) (oi := ?oi13L1) (v := ?v13L1) ?oi0_13L1 (by kernel_rfl) ?ff13L1 ?rr13L1 ?hq13L1 (Or.inl ⟨?hw13L1, ?hy13L1⟩) (by assumption) ?rest13L1
    case oi0_13L1 =>
      conv =>
        lhs
        whnf
        arg 1
        whnf
    case hq13L1 => exact fun _ _ _ h => h
    case ff13L1 => kernel_rfl
    case rr13L1 => kernel_rfl
    case hw13L1 => rfl
    case hy13L1 =>
      intro w hSw
      (try dsimp only at hSw)
      first
      | (go_simp; done)
      | (go_simp; with_reducible rfl)
    try simp only [Act.put, List.setIfInBounds_toArray, List.set_cons_zero, List.set_cons_succ]
    refine wpAnyH_take (i := 14) (oi := ?oi14L1) (v := ?v14L1) ?oi0_14L1 (by kernel_rfl) ?ff14L1 ?rr14L1 ?hq14L1 (Or.inl ⟨?hw14L1, ?hy14L1⟩) (by assumption) ?rest14L1
    case oi0_14L1 =>
      conv =>
        lhs
        whnf
        arg 1
        whnf
    case hq14L1 => exact fun _ _ _ h => h
    case ff14L1 => kernel_rfl
    case rr14L1 => kernel_rfl
    case hw14L1 => rfl
    case hy14L1 =>
      intro w hSw
      (try dsimp only at hSw)
      first
      | (go_simp; done)
      | (go_simp; with_reducible rfl)
    try simp only [Act.put, List.setIfInBounds_toArray, List.set_cons_zero, List.set_cons_succ]
    refine wpAnyH_take (i := 15) (oi := ?oi15L1) (v := ?v15L1) ?oi0_15L1 (by kernel_rfl) ?ff15L1 ?rr15L1 ?hq15L1 (Or.inl ⟨?hw15L1, ?hy15L1⟩) (by assumption) ?rest15L1
    case oi0_15L1 =>
      conv =>
        lhs
        whnf
        arg 1
        whnf
    case hq15L1 => exact fun _ _ _ h => h
    case ff15L1 => kernel_rfl
    case rr15L1 => kernel_rfl
    case hw15L1 => rfl
    case hy15L1 =>
      intro w hSw
      (try dsimp only at hSw)
      first
      | (go_simp; done)
      | (go_simp; with_reducible rfl)
    try simp only [Act.put, List.setIfInBounds_toArray, List.set_cons_zero, List.set_cons_succ]
    refine wpAnyH_take (i := 16) (oi := ?oi16L1) (v := ?v16L1) ?oi0_16L1 (by kernel_rfl) ?ff16L1 ?rr16L1 ?hq16L1 (Or.inl ⟨?hw16L1, ?hy16L1⟩) (by assumption) ?rest16L1
    case oi0_16L1 =>
      conv =>
        lhs
        whnf
        arg 1
        whnf
    case hq16L1 => exact fun _ _ _ h => h
    case ff16L1 => kernel_rfl
    case rr16L1 => kernel_rfl
    case hw16L1 => rfl
    case hy16L1 =>
      intro w hSw
      (try dsimp only at hSw)
      first
      | (go_simp; done)
      | (go_simp; with_reducible rfl)
    try simp only [Act.put, List.setIfInBounds_toArray, List.set_cons_zero, List.set_cons_succ]
    refine wpAnyH_take (i := 17) (oi := ?oi17L1) (v := ?v17L1) ?oi0_17L1 (by kernel_rfl) ?ff17L1 ?rr17L1 ?hq17L1 (Or.inl ⟨?hw17L1, ?hy17L1⟩) (by assumption) ?rest17L1
    case oi0_17L1 =>
      conv =>
        lhs
        whnf
        arg 1
        whnf
    case hq17L1 => exact fun _ _ _ h => h
    case ff17L1 => kernel_rfl
    case rr17L1 => kernel_rfl
    case hw17L1 => rfl
    case hy17L1 =>
      intro w hSw
      (try dsimp only at hSw)
      first
      | (go_simp; done)
      | (go_simp; with_reducible rfl)
    try simp only [Act.put, List.setIfInBounds_toArray, List.set_cons_zero, List.set_cons_succ]
    refine wpAnyH_take (i := 18) (oi := ?oi18L1) (v := ?v18L1) ?oi0_18L1 (by kernel_rfl) ?ff18L1 ?rr18L1 ?hq18L1 (Or.inl ⟨?hw18L1, ?hy18L1⟩) (by assumption) ?rest18L1
    case oi0_18L1 =>
      conv =>
        lhs
        whnf
        arg 1
        whnf
    case hq18L1 => exact fun _ _ _ h => h
    case ff18L1 => kernel_rfl
    case rr18L1 => kernel_rfl
    case hw18L1 => rfl
    case hy18L1 =>
      intro w hSw
      (try dsimp only at hSw)
      first
      | (go_simp; done)
      | (go_simp; with_reducible rfl)
    try simp only [Act.put, List.setIfInBounds_toArray, List.set_cons_zero, List.set_cons_succ]
    refine wpAnyH_take (i := 19) (oi := ?oi19L1) (v := ?v19L1) ?oi0_19L1 (by kernel_rfl) ?ff19L1 ?rr19L1 ?hq19L1 (Or.inl ⟨?hw19L1, ?hy19L1⟩) (by assumption) ?rest19L1
    case oi0_19L1 =>
      conv =>
        lhs
        whnf
        arg 1
        whnf
    case hq19L1 => exact fun _ _ _ h => h
    case ff19L1 => kernel_rfl
    case rr19L1 => kernel_rfl
    case hw19L1 => rfl
    case hy19L1 =>
      intro w hSw
      (try dsimp only at hSw)
      first
      | (go_simp; done)
      | (go_simp; with_reducible rfl)
    try simp only [Act.put, List.setIfInBounds_toArray, List.set_cons_zero, List.set_cons_succ]
    refine wpAnyH_take (i := 20) (oi := ?oi20L1) (v := ?v20L1) ?oi0_20L1 (by kernel_rfl) ?ff20L1 ?rr20L1 ?hq20L1 (Or.inl ⟨?hw20L1, ?hy20L1⟩) (by assumption) ?rest20L1
    case oi0_20L1 =>
      conv =>
        lhs
        whnf
        arg 1
        whnf
    case hq20L1 => exact fun _ _ _ h => h
    case ff20L1 => kernel_rfl
    case rr20L1 => kernel_rfl
    case hw20L1 => rfl
    case hy20L1 =>
      intro w hSw
      (try dsimp only at hSw)
      first
      | (go_simp; done)
      | (go_simp; with_reducible rfl)
    try simp only [Act.put, List.setIfInBounds_toArray, List.set_cons_zero, List.set_cons_succ]
    refine wpAnyH_take (i := 21) (oi := ?oi21L1) (v := ?v21L1) ?oi0_21L1 (by kernel_rfl) ?ff21L1 ?rr21L1 ?hq21L1 (Or.inl ⟨?hw21L1, ?hy21L1⟩) (by assumption) ?rest21L1
    case oi0_21L1 =>
      conv =>
        lhs
        whnf
        arg 1
        whnf
    case hq21L1 => exact fun _ _ _ h => h
    case ff21L1 => kernel_rfl
    case rr21L1 => kernel_rfl
    case hw21L1 => rfl
    case hy21L1 =>
      intro w hSw
      (try dsimp only at hSw)
      first
      | (go_simp; done)
      | (go_simp; with_reducible rfl)
    try simp only [Act.put, List.setIfInBounds_toArray, List.set_cons_zero, List.set_cons_succ]
    refine wpAnyH_done (by kernel_rfl) ?_ _
    go_wp2_with fail
    go_roundw
    case rel => exact ⟨k + 1, _, by omega, by go_num, rfl, by omega, HST, V⟩
    case measure => simp [intOf] <;> omega
end Go.Proofs.Ytpkeimdlcafcnaa
