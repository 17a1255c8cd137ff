/-
  aircheckref07.Lengths.
  Each of item's functions and the reference's give the same answers.
-/
import Derived.Test.YtpkeimdlcafcnaaZ27ItemMatchesReferenceRow
import Derived.Test.YtpkeimdlcafcnaaZ17ItemMatchesReferenceRow
import Derived.Test.YtpkeimdlcafcnaaZ13ItemMatchesReferenceRow
import Derived.Test.YtpkeimdlcafcnaaZ26ItemMatchesReferenceRow
import Derived.Test.YtpkeimdlcafcnaaZ21ItemMatchesReferenceRow

namespace Go.Proofs.Ytpkeimdlcafcnaa
open Go.RowKit
set_option maxRecDepth 100000
set_option maxHeartbeats 40000000

/-- A row of the call's own, told cell by cell, or nothing. -/
def LenAt (W : World) (A : Option Addr) (n c : Nat) (L : List Int) : Prop := (A = none ∧ n = 0 ∧ c = 0 ∧ L = []) ∨ ∃ g, A = some ⟨g, 0, none⟩ ∧ 0 < n ∧ n ≤ c ∧ c ≤ maxLen ∧ n = L.length ∧ g < W.heap.size ∧ ∀ j z, L[j]? = some z → W.cell? ⟨g, j, none⟩ = some (.int .i64 z)
theorem LenAt.upd {W W' : World} {A : Option Addr} {n c : Nat} {L : List Int} (h : LenAt W A n c L) (hu : Upd [] W W') : LenAt W' A n c L := by
  rcases h with h | ⟨g, h0, h1, h2, h3, h4, h5, h6⟩
  · exact .inl h
  · exact .inr ⟨g, h0, h1, h2, h3, h4, Nat.lt_of_lt_of_le h5 hu.size, fun j z hz => keepc _ _ _ _ hu (h6 j z hz)⟩
theorem LenAt.ints {W : World} {A : Option Addr} {n c : Nat} {L : List Int} (h : LenAt W A n c L) : n = L.length ∧ Ints W.heap.size W (.slice A n c) L := by
  rcases h with ⟨h0, h1, h2, h3⟩ | ⟨g, h0, h1, h2, h3, h4, h5, h6⟩
  · subst h0 h1 h2 h3; exact ⟨rfl, .inl ⟨none, 0, rfl, rfl⟩⟩
  · exact ⟨h4, Ints.of h4 fun j z hz => ⟨g, 0, h0, h5, by rw [Nat.zero_add]; exact h6 j z hz⟩⟩
def SrcOf (W : World) (A : Option Addr) (m : Nat) (news : List Value) : Prop := (A = none ∧ m = 0) ∨ ∃ ad, A = some ad ∧ ∀ j u, news[j]? = some u → W.cell? (ad.add j) = some u
theorem int_ones (l : List Int) : ∀ u ∈ l.map (Value.int .i64), u.oneCell' = true := by
  intro u hu
  obtain ⟨x, _, rfl⟩ := List.mem_map.1 hu
  rfl
def RLensPost (i : It) (w : World) (e : Ending) (w' : World) : Prop :=
  if ItOk i then ∃ A n c, e = .returned (.tuple #[.slice A n c, .int .i64 0]) ∧ n = (lengthsS i).length ∧ Ints w'.heap.size w' (.slice A n c) (lengthsS i) ∧ Upd [] w w'
  else e = .returned (.tuple #[.slice none 0 0, .int .i64 70]) ∧ Upd [] w w'
theorem refLengths (i : It) (ta : Option Addr) (tc : Nat) (ka : Option Addr) (kc : Nat) (w : World) (it : ItAt w i ta ka) (h1 : i.trims.length ≤ maxLen) (h2 : i.talks.length ≤ maxLen) :
    Calls Try.prog 15 #[.agg #[.int .i64 i.id, .int .i64 i.kind, .int .i64 i.len, .slice ta i.trims.length tc, .slice ka i.talks.length kc, .int .i64 i.artist, .int .i64 i.tempo, .int .i64 i.lang]] w (RLensPost i w) := by
  have HI := hide it
  clear it
  go_enter Try.func15, Try.ntmps15
  go_upto_region 1 with fail
  obtain ⟨w1, hw1⟩ : ∃ x, w.alloc (.cells #[.int .i64 i.id, .int .i64 i.kind, .int .i64 i.len, .slice ta i.trims.length tc, .slice ka i.talks.length kc, .int .i64 i.artist, .int .i64 i.tempo, .int .i64 i.lang] 24) = x := ⟨_, rfl⟩
  have B1 := hide (show Blk w1 w.heap.size 24 [.int .i64 i.id, .int .i64 i.kind, .int .i64 i.len, .slice ta i.trims.length tc, .slice ka i.talks.length kc, .int .i64 i.artist, .int .i64 i.tempo, .int .i64 i.lang] by rw [← hw1]; exact Blk.new w _ _)
  have U1 := hide (show Upd [] w w1 by rw [← hw1]; exact (Upd.refl [] _).alloc _)
  rw [hw1]
  clear hw1
  have I1 := hide (HI.out.upd U1.out)
  have m0 := B1.out.cell 0
  have m1 := B1.out.cell 1
  have m2 := B1.out.cell 2
  have m3 := B1.out.cell 3
  have m4 := B1.out.cell 4
  have m5 := B1.out.cell 5
  have m6 := B1.out.cell 6
  have m7 := B1.out.cell 7
  go_wp2_with fail
  refine (refValid i ta tc ka kc w1 I1.out h1 h2).mono ?_
  rintro e w2 ⟨rfl, u⟩
  have B2 := hide (B1.out.upd u (by simp))
  have U2 := hide (U1.out.trans u (by simp))
  clear u
  clear m0 m1 m2 m3 m4 m5 m6 m7
  by_cases hv : ItOk i
  case neg =>
    rw [decide_eq_false hv]
    have HP := hide (show ∀ w', Upd [] w w' → RLensPost i w (.returned (.tuple #[.slice none 0 0, .int .i64 70])) w' from fun w' h => by
      unfold RLensPost
      rw [if_neg hv]
      exact ⟨rfl, h⟩)
    clear hv
    go_wp2_with fail
    go_ret2
    exact HP.out _ U2.out
  rw [decide_eq_true hv]
  have HV := hide hv
  have HPOST := hide (show ∀ A n c w', LenAt w' A n c (lengthsS i) → Upd [] w w' → RLensPost i w (.returned (.tuple #[.slice A n c, .int .i64 0])) w' from fun A n c w' h hu => by
    unfold RLensPost
    rw [if_pos hv]
    exact ⟨A, n, c, rfl, h.ints.1, h.ints.2, hu⟩)
  clear hv
  have ht4 := HV.out.2.1.1.2
  obtain ⟨P, hP⟩ : ∃ P : Nat, 2 ^ i.trims.length = P := ⟨_, rfl⟩
  have hP16 : P ≤ 16 := by rw [← hP]; exact Nat.pow_le_pow_right (n := 2) (by omega) ht4
  have hPi : (2 : Int) ^ i.trims.length = (P : Int) := by rw [← hP]; simp
  have hPw : IntKind.i64.wrap (P : Int) = P := Go.IntWalk.i64_in _ (by omega)
  have HP := hide hP
  clear hP
  go_wp2_with fail
  go_loopw [4, 5] (fun s4 s5 wr => ∃ (A : Option Addr) (n c k : Nat) (L : List Int), k ≤ P ∧ s4 = .slice A n c ∧ s5 = .int .i64 k ∧ n ≤ k ∧ Hid (LenAt wr A n c L) ∧ Hid (LensInv i k L) ∧ Hid (Upd [] w2 wr)) (fun _ k _ => P - (intOf k).toNat)
  case atStart => exact ⟨none, 0, 0, 0, [], Nat.zero_le _, rfl, rfl, Nat.le_refl _, hide (.inl ⟨rfl, rfl, rfl, rfl⟩), hide (lens_start i), Upd.refl _ _⟩
  case round =>
    obtain ⟨A, n, c, k, L, hk, rfl, rfl, hnk, hat, hinv, hu⟩ := hrel
    obtain ⟨wo, rfl⟩ : ∃ wo : World, wo = wr := ⟨_, rfl⟩
    have UO := hide (U2.out.trans hu.out (by simp))
    have BO := hide (B2.out.upd hu.out (by simp))
    have IO := hide (HI.out.upd UO.out)
    have m3 := BO.out.cell 3
    by_cases hkl : k < P
    case neg =>
      obtain rfl : k = P := by omega
      have hki : ¬ (k : Int) < k := by omega
      have HE := hide (show L = lengthsS i from lens_end (by rw [HP.out]; exact hinv.out))
      go_wp2_with fail
      go_ret2
      exact HPOST.out _ _ _ _ (by rw [← HE.out]; exact hat.out) UO.out
    have hki : (k : Int) < P := by omega
    have hk4611 : k < 4611686018427387904 := by omega
    have hwk : IntKind.i64.wrap ((k : Int) + 1) = (k : Int) + 1 := Go.IntWalk.i64_in _ (by omega)
    have hbl : (bitsS k i.trims.length).length ≤ maxLen := by have := bitsS_length k i.trims.length; unfold maxLen; omega
    go_wp2_with fail
    clear m3
    refine wp_region_held_drew (S := (fun w' => w'.cell? ⟨w.heap.size, 0, none⟩ = some (.int .i64 i.id) ∧ w'.cell? ⟨w.heap.size, 1, none⟩ = some (.int .i64 i.kind) ∧ w'.cell? ⟨w.heap.size, 2, none⟩ = some (.int .i64 i.len) ∧ w'.cell? ⟨w.heap.size, 3, none⟩ = some (.slice ta i.trims.length tc) ∧ w'.cell? ⟨w.heap.size, 4, none⟩ = some (.slice ka i.talks.length kc) ∧ w'.cell? ⟨w.heap.size, 5, none⟩ = some (.int .i64 i.artist) ∧ w'.cell? ⟨w.heap.size, 6, none⟩ = some (.int .i64 i.tempo) ∧ w'.cell? ⟨w.heap.size, 7, none⟩ = some (.int .i64 i.lang))) (by kernel_rfl) (by exact ⟨BO.out.cell 0, BO.out.cell 1, BO.out.cell 2, BO.out.cell 3, BO.out.cell 4, BO.out.cell 5, BO.out.cell 6, BO.out.cell 7⟩) (fun hHeld => ?_)
    obtain ⟨wD, hwD⟩ : ∃ wD, wo.drew = wD := ⟨_, rfl⟩
    have VD := hide (show Upd [] wo wD by rw [← hwD]; exact (Upd.refl _ _).drew)
    rw [hwD] at hHeld ⊢
    clear hwD
    have BD := hide (BO.out.upd VD.out (by simp))
    refine wpAnyH_take (i := 0) (oi := ?oi0Q1) (v := ?v0Q1) ?oi0_0Q1 (by kernel_rfl) ?ff0Q1 ?rr0Q1 ?hq0Q1 (Or.inl ⟨?hw0Q1, ?hy0Q1⟩) (by assumption) ?rest0Q1
    case oi0_0Q1 =>
      conv =>
        lhs
        whnf
        arg 1
        whnf
    case hq0Q1 => exact fun _ _ _ h => h
    case ff0Q1 => kernel_rfl
    case rr0Q1 => kernel_rfl
    case hw0Q1 => rfl
    case hy0Q1 =>
      intro w hSw
      (try dsimp only at hSw)
      first
      | (go_simp; done)
      | (go_simp; with_reducible rfl)
    try simp only [Act.put, List.setIfInBounds_toArray, List.set_cons_zero, List.set_cons_succ]
    refine wpAnyH_take (i := 1) (oi := ?oi1Q1) (v := ?v1Q1) ?oi0_1Q1 (by kernel_rfl) ?ff1Q1 ?rr1Q1 ?hq1Q1 (Or.inl ⟨?hw1Q1, ?hy1Q1⟩) (by assumption) ?rest1Q1
    case oi0_1Q1 =>
      conv =>
        lhs
        whnf
        arg 1
        whnf
    case hq1Q1 => exact fun _ _ _ h => h
    case ff1Q1 => kernel_rfl
    case rr1Q1 => kernel_rfl
    case hw1Q1 => rfl
    case hy1Q1 =>
      intro w hSw
      (try dsimp only at hSw)
      first
      | (go_simp; done)
      | (go_simp; with_reducible rfl)
    try simp only [Act.put, List.setIfInBounds_toArray, List.set_cons_zero, List.set_cons_succ]
    refine wpAnyH_take (i := 2) (oi := ?oi2Q1) (v := ?v2Q1) ?oi0_2Q1 (by kernel_rfl) ?ff2Q1 ?rr2Q1 ?hq2Q1 (Or.inl ⟨?hw2Q1, ?hy2Q1⟩) (by assumption) ?rest2Q1
    case oi0_2Q1 =>
      conv =>
        lhs
        whnf
        arg 1
        whnf
    case hq2Q1 => exact fun _ _ _ h => h
    case ff2Q1 => kernel_rfl
    case rr2Q1 => kernel_rfl
    case hw2Q1 => rfl
    case hy2Q1 =>
      intro w hSw
      (try dsimp only at hSw)
      first
      | (go_simp; done)
      | (go_simp; with_reducible rfl)
    try simp only [Act.put, List.setIfInBounds_toArray, List.set_cons_zero, List.set_cons_succ]
    refine wpAnyH_ready (rs := [3]) (by kernel_rfl) (by simp) (AllReadyH.cons (o := ?oi3Q1) ?oi0_3Q1 (fun K hK => ?_) AllReadyH.nil)
    case oi0_3Q1 =>
      conv =>
        lhs
        whnf
        arg 1
        whnf
    go_simp
    go_at_call 49
    with_reducible (refine (refBits i ta i.trims.length tc ka i.talks.length kc k wD ht4 hk4611).mono ?_)
    rintro e wp ⟨D, d, rfl, ob, u⟩
    have OB := hide (it_own_ints ob)
    have BP := hide (BD.out.upd u (by simp))
    have VP := hide (VD.out.trans u (by simp))
    clear u ob
    (try dsimp only)
    refine hK.out _ _ (by exact ⟨BP.out.cell 0, BP.out.cell 1, BP.out.cell 2, BP.out.cell 3, BP.out.cell 4, BP.out.cell 5, BP.out.cell 6, BP.out.cell 7⟩) (fun hHeld => ?_)
    clear hK K
    try simp only [Act.put, List.setIfInBounds_toArray, List.set_cons_zero, List.set_cons_succ]
    refine wpAnyH_ready (rs := [4]) (by kernel_rfl) (by simp) (AllReadyH.cons (o := ?oi4Q1) ?oi0_4Q1 (fun K hK => ?_) AllReadyH.nil)
    case oi0_4Q1 =>
      conv =>
        lhs
        whnf
        arg 1
        whnf
    go_simp
    go_at_call 25
    have IP := hide (IO.out.upd VP.out)
    with_reducible (refine (refLength i ta tc ka kc D (bitsS k i.trims.length).length d (bitsS k i.trims.length) wp IP.out h1 h2 OB.out hbl).mono ?_)
    rintro e wq ⟨rfl, u⟩
    have BQ := hide (BP.out.upd u (by simp))
    have VQ0 := hide (VP.out.trans u (by simp))
    clear u
    rw [if_pos ⟨HV.out, bitsS_cutOk k _ ht4⟩]
    (try dsimp only)
    refine hK.out _ _ (by exact ⟨BQ.out.cell 0, BQ.out.cell 1, BQ.out.cell 2, BQ.out.cell 3, BQ.out.cell 4, BQ.out.cell 5, BQ.out.cell 6, BQ.out.cell 7⟩) (fun hHeld => ?_)
    clear hK K
    try simp only [Act.put, List.setIfInBounds_toArray, List.set_cons_zero, List.set_cons_succ]
    refine wpAnyH_take (i := 5) (oi := ?oi5Q1) (v := ?v5Q1) ?oi0_5Q1 (by kernel_rfl) ?ff5Q1 ?rr5Q1 ?hq5Q1 (Or.inl ⟨?hw5Q1, ?hy5Q1⟩) (by assumption) ?rest5Q1
    case oi0_5Q1 =>
      conv =>
        lhs
        whnf
        arg 1
        whnf
    case hq5Q1 => exact fun _ _ _ h => h
    case ff5Q1 => kernel_rfl
    case rr5Q1 => kernel_rfl
    case hw5Q1 => rfl
    case hy5Q1 =>
      intro w hSw
      (try dsimp only at hSw)
      first
      | (go_simp; done)
      | (go_simp; with_reducible rfl)
    try simp only [Act.put, List.setIfInBounds_toArray, List.set_cons_zero, List.set_cons_succ]
    refine wpAnyH_take (i := 6) (oi := ?oi6Q1) (v := ?v6Q1) ?oi0_6Q1 (by kernel_rfl) ?ff6Q1 ?rr6Q1 ?hq6Q1 (Or.inl ⟨?hw6Q1, ?hy6Q1⟩) (by assumption) ?rest6Q1
    case oi0_6Q1 =>
      conv =>
        lhs
        whnf
        arg 1
        whnf
    case hq6Q1 => exact fun _ _ _ h => h
    case ff6Q1 => kernel_rfl
    case rr6Q1 => kernel_rfl
    case hw6Q1 => rfl
    case hy6Q1 =>
      intro w hSw
      (try dsimp only at hSw)
      first
      | (go_simp; done)
      | (go_simp; with_reducible rfl)
    try simp only [Act.put, List.setIfInBounds_toArray, List.set_cons_zero, List.set_cons_succ]
    refine wpAnyH_take (i := 7) (oi := ?oi7Q1) (v := ?v7Q1) ?oi0_7Q1 (by kernel_rfl) ?ff7Q1 ?rr7Q1 ?hq7Q1 (Or.inl ⟨?hw7Q1, ?hy7Q1⟩) (by assumption) ?rest7Q1
    case oi0_7Q1 =>
      conv =>
        lhs
        whnf
        arg 1
        whnf
    case hq7Q1 => exact fun _ _ _ h => h
    case ff7Q1 => kernel_rfl
    case rr7Q1 => kernel_rfl
    case hw7Q1 => rfl
    case hy7Q1 =>
      intro w hSw
      (try dsimp only at hSw)
      first
      | (go_simp; done)
      | (go_simp; with_reducible rfl)
    try simp only [Act.put, List.setIfInBounds_toArray, List.set_cons_zero, List.set_cons_succ]
    refine wpAnyH_take (i := 8) (oi := ?oi8Q1) (v := ?v8Q1) ?oi0_8Q1 (by kernel_rfl) ?ff8Q1 ?rr8Q1 ?hq8Q1 (Or.inl ⟨?hw8Q1, ?hy8Q1⟩) (by assumption) ?rest8Q1
    case oi0_8Q1 =>
      conv =>
        lhs
        whnf
        arg 1
        whnf
    case hq8Q1 => exact fun _ _ _ h => h
    case ff8Q1 => kernel_rfl
    case rr8Q1 => kernel_rfl
    case hw8Q1 => rfl
    case hy8Q1 =>
      intro w hSw
      (try dsimp only at hSw)
      first
      | (go_simp; done)
      | (go_simp; with_reducible rfl)
    try simp only [Act.put, List.setIfInBounds_toArray, List.set_cons_zero, List.set_cons_succ]
    refine wpAnyH_take (i := 9) (oi := ?oi9Q1) (v := ?v9Q1) ?oi0_9Q1 (by kernel_rfl) ?ff9Q1 ?rr9Q1 ?hq9Q1 (Or.inl ⟨?hw9Q1, ?hy9Q1⟩) (by assumption) ?rest9Q1
    case oi0_9Q1 =>
      conv =>
        lhs
        whnf
        arg 1
        whnf
    case hq9Q1 => exact fun _ _ _ h => h
    case ff9Q1 => kernel_rfl
    case rr9Q1 => kernel_rfl
    case hw9Q1 => rfl
    case hy9Q1 =>
      intro w hSw
      (try dsimp only at hSw)
      first
      | (go_simp; done)
      | (go_simp; with_reducible rfl)
    try simp only [Act.put, List.setIfInBounds_toArray, List.set_cons_zero, List.set_cons_succ]
    refine wpAnyH_done (by kernel_rfl) ?_ _
    obtain ⟨z, hz⟩ : ∃ z, cutLen i (bitsS k i.trims.length) = z := ⟨_, rfl⟩
    rw [hz]
    have HZ := hide hz
    clear hz hbl
    have VQ := hide (hu.out.trans VQ0.out (by simp))
    have AQ := hide (hat.out.upd VQ0.out)
    rcases AQ.out with ⟨rfl, rfl, rfl, rfl⟩ | ⟨g, rfl, hn0, hnc, hcm, hnL, hg, hcell⟩
    · have HINS := hide (lens_ins hinv.out (at_ := 0) (fun j x hj _ => absurd hj (Nat.not_lt_zero j)) (fun x hx => by simp at hx) HZ.out)
      go_wp2_with fail
      go_loop [8] (fun s8 => s8 = .int .i64 0) (fun _ => 0)
      case atStart => exact rfl
      case round =>
        obtain rfl := hrel
        have hatm : 0 + 1 ≤ maxLen := by unfold maxLen; omega
        have HSRC := hide (show ∀ W, Upd [] wq W → SrcOf W none 0 ([] : List Value) from fun W hW => .inl ⟨rfl, rfl⟩)
        have HOLD := hide (show ∀ W, Upd [] wq W → SrcOf W none 0 ([] : List Value) from fun W hW => .inl ⟨rfl, rfl⟩)
        have HXL := hide (show ([] : List Value).length = 0 by rfl)
        have HNW := hide (show ([] : List Value).length = 0 * 1 by rfl)
        have HN1 := hide (show ∀ u ∈ ([] : List Value), u.oneCell' = true by simp)
        have HCAT := hide (show ([] : List Value) ++ ([Value.int .i64 z] ++ ([] : List Value)) = (insAt [] 0 z).map (Value.int .i64) by unfold insAt; rfl)
        have HLEN := hide (show 0 + (1 + 0) = (insAt [] 0 z).length by rw [insAt_length _ _ _ (by simp)]; rfl)
        have AP9 := hide (show ∀ (W : World) (c9 : Nat) (w9 : World), 0 + (1 + 0) ≤ c9 → c9 ≤ maxLen → W.heap.size < w9.heap.size → (∀ j u, (([] : List Value) ++ ([Value.int .i64 z] ++ ([] : List Value)))[j]? = some u → w9.cell? ⟨W.heap.size, j, none⟩ = some u) → LenAt w9 (some ⟨W.heap.size, 0, none⟩) (0 + (1 + 0)) c9 (insAt [] 0 z) from fun W c9 w9 h9 h9m h9s h9c =>
          .inr ⟨_, rfl, by omega, h9, h9m, HLEN.out, h9s, fun j y hj => h9c j _ (by rw [HCAT.out, List.getElem?_map, hj]; rfl)⟩)
        have O1 := hide (show (1 + 0) ≤ maxLen by unfold maxLen at hatm ⊢; omega)
        have O2 := hide (show (1 + 0) * 8 ≤ 140737488355328 by omega)
        have O3 := hide (show 0 + (1 + 0) ≤ maxLen by unfold maxLen at hatm ⊢; omega)
        have O4 := hide (show (0 + (1 + 0)) * 8 ≤ 140737488355328 by omega)
        have O5 := hide (show 0 < 1 + 0 by omega)
        go_wp2_with fail
        refine wp_region_held_drew (S := (fun w' => Upd [] wq w')) (by kernel_rfl) ((Upd.refl _ _).drew) (fun hHeld => ?_)
        obtain ⟨wE, hwE⟩ : ∃ wE, wq.drew = wE := ⟨_, rfl⟩
        have VE := hide (show Upd [] wq wE by rw [← hwE]; exact (Upd.refl _ _).drew)
        rw [hwE] at hHeld ⊢
        clear hwE
        refine wpAnyH_take (i := 0) (oi := ?oi0Q2) (v := ?v0Q2) ?oi0_0Q2 (by kernel_rfl) ?ff0Q2 ?rr0Q2 ?hq0Q2 (Or.inl ⟨?hw0Q2, ?hy0Q2⟩) (by assumption) ?rest0Q2
        case oi0_0Q2 =>
          conv =>
            lhs
            whnf
            arg 1
            whnf
        case hq0Q2 => exact fun _ _ _ h => h
        case ff0Q2 => kernel_rfl
        case rr0Q2 => kernel_rfl
        case hw0Q2 => rfl
        case hy0Q2 =>
          intro w hSw
          (try dsimp only at hSw)
          first
          | (go_simp; done)
          | (go_simp; with_reducible rfl)
        try simp only [Act.put, List.setIfInBounds_toArray, List.set_cons_zero, List.set_cons_succ]
        refine wpAnyH_take (i := 1) (oi := ?oi1Q2) (v := ?v1Q2) ?oi0_1Q2 (by kernel_rfl) ?ff1Q2 ?rr1Q2 ?hq1Q2 (Or.inl ⟨?hw1Q2, ?hy1Q2⟩) (by assumption) ?rest1Q2
        case oi0_1Q2 =>
          conv =>
            lhs
            whnf
            arg 1
            whnf
        case hq1Q2 => exact fun _ _ _ h => h
        case ff1Q2 => kernel_rfl
        case rr1Q2 => kernel_rfl
        case hw1Q2 => rfl
        case hy1Q2 =>
          intro w hSw
          (try dsimp only at hSw)
          first
          | (go_simp; done)
          | (go_simp; with_reducible rfl)
        try simp only [Act.put, List.setIfInBounds_toArray, List.set_cons_zero, List.set_cons_succ]
        refine wpAnyH_take (i := 2) (oi := ?oi2Q2) (v := ?v2Q2) ?oi0_2Q2 (by kernel_rfl) ?ff2Q2 ?rr2Q2 ?hq2Q2 (Or.inl ⟨?hw2Q2, ?hy2Q2⟩) (by assumption) ?rest2Q2
        case oi0_2Q2 =>
          conv =>
            lhs
            whnf
            arg 1
            whnf
        case hq2Q2 => exact fun _ _ _ h => h
        case ff2Q2 => kernel_rfl
        case rr2Q2 => kernel_rfl
        case hw2Q2 => rfl
        case hy2Q2 =>
          intro w hSw
          (try dsimp only at hSw)
          first
          | (go_simp; done)
          | (go_simp; with_reducible rfl)
        try simp only [Act.put, List.setIfInBounds_toArray, List.set_cons_zero, List.set_cons_succ]
        refine wpAnyH_take (i := 3) (oi := ?oi3Q2) (v := ?v3Q2) ?oi0_3Q2 (by kernel_rfl) ?ff3Q2 ?rr3Q2 ?hq3Q2 (Or.inl ⟨?hw3Q2, ?hy3Q2⟩) (by assumption) ?rest3Q2
        case oi0_3Q2 =>
          conv =>
            lhs
            whnf
            arg 1
            whnf
        case hq3Q2 => exact fun _ _ _ h => h
        case ff3Q2 => kernel_rfl
        case rr3Q2 => kernel_rfl
        case hw3Q2 => rfl
        case hy3Q2 =>
          intro w hSw
          (try dsimp only at hSw)
          first
          | (go_simp; done)
          | (go_simp; with_reducible rfl)
        try simp only [Act.put, List.setIfInBounds_toArray, List.set_cons_zero, List.set_cons_succ]
        refine wpAnyH_take (i := 4) (oi := ?oi4Q2) (v := ?v4Q2) ?oi0_4Q2 (by kernel_rfl) ?ff4Q2 ?rr4Q2 ?hq4Q2 (Or.inl ⟨?hw4Q2, ?hy4Q2⟩) (by assumption) ?rest4Q2
        case oi0_4Q2 =>
          conv =>
            lhs
            whnf
            arg 1
            whnf
        case hq4Q2 => exact fun _ _ _ h => h
        case ff4Q2 => kernel_rfl
        case rr4Q2 => kernel_rfl
        case hw4Q2 => rfl
        case hy4Q2 =>
          intro w hSw
          (try dsimp only at hSw)
          first
          | (go_simp; done)
          | (go_simp; with_reducible rfl)
        try simp only [Act.put, List.setIfInBounds_toArray, List.set_cons_zero, List.set_cons_succ]
        refine wpAnyH_take (i := 6) (oi := ?oi6Q2) (v := ?v6Q2) ?oi0_6Q2 (by kernel_rfl) ?ff6Q2 ?rr6Q2 ?hq6Q2 (Or.inl ⟨?hw6Q2, ?hy6Q2⟩) (by assumption) ?rest6Q2
        case oi0_6Q2 =>
          conv =>
            lhs
            whnf
            arg 1
            whnf
        case hq6Q2 => exact fun _ _ _ h => h
        case ff6Q2 => kernel_rfl
        case rr6Q2 => kernel_rfl
        case hw6Q2 => rfl
        case hy6Q2 =>
          intro w hSw
          (try dsimp only at hSw)
          first
          | (go_simp; done)
          | (go_simp; with_reducible rfl)
        try simp only [Act.put, List.setIfInBounds_toArray, List.set_cons_zero, List.set_cons_succ]
        refine wpAnyH_take (i := 7) (oi := ?oi7Q2) (v := ?v7Q2) ?oi0_7Q2 (by kernel_rfl) ?ff7Q2 ?rr7Q2 ?hq7Q2 (Or.inl ⟨?hw7Q2, ?hy7Q2⟩) (by assumption) ?rest7Q2
        case oi0_7Q2 =>
          conv =>
            lhs
            whnf
            arg 1
            whnf
        case hq7Q2 => exact fun _ _ _ h => h
        case ff7Q2 => kernel_rfl
        case rr7Q2 => kernel_rfl
        case hw7Q2 => rfl
        case hy7Q2 =>
          intro w hSw
          (try dsimp only at hSw)
          first
          | (go_simp; done)
          | (go_simp; with_reducible rfl)
        try simp only [Act.put, List.setIfInBounds_toArray, List.set_cons_zero, List.set_cons_succ]
        refine wpAnyH_take (i := 8) (oi := ?oi8Q2) (v := ?v8Q2) ?oi0_8Q2 (by kernel_rfl) ?ff8Q2 ?rr8Q2 ?hq8Q2 (Or.inl ⟨?hw8Q2, ?hy8Q2⟩) (by assumption) ?rest8Q2
        case oi0_8Q2 =>
          conv =>
            lhs
            whnf
            arg 1
            whnf
        case hq8Q2 => exact fun _ _ _ h => h
        case ff8Q2 => kernel_rfl
        case rr8Q2 => kernel_rfl
        case hw8Q2 => rfl
        case hy8Q2 =>
          intro w hSw
          (try dsimp only at hSw)
          first
          | (go_simp; done)
          | (go_simp; with_reducible rfl)
        try simp only [Act.put, List.setIfInBounds_toArray, List.set_cons_zero, List.set_cons_succ]
        refine wpAnyH_ready (rs := [5]) (by kernel_rfl) (by simp) (AllReadyH.cons (o := ?oi5Q2) ?oi0_5Q2 (fun K hK => ?_) AllReadyH.nil)
        case oi0_5Q2 =>
          conv =>
            lhs
            whnf
            arg 1
            whnf
        go_simp
        (try dsimp only)
        refine hK.out _ _ (VE.out.alloc _) (fun hHeld => ?_)
        clear hK K
        try simp only [Act.put, List.setIfInBounds_toArray, List.set_cons_zero, List.set_cons_succ]
        refine wpAnyH_ready (rs := [9]) (by kernel_rfl) (by simp) (AllReadyH.cons (o := ?oi9Q2) ?oi0_9Q2 (fun K hK => ?_) AllReadyH.nil)
        case oi0_9Q2 =>
          conv =>
            lhs
            whnf
            arg 1
            whnf
        refine step_append_src rfl (.tmp 59) (.tmp 62) _ rfl wE.heap.size 3 _ 1 8 Try.underlying26 it_info_int rfl (by decide) (some ⟨wE.heap.size, 0, none⟩) 1 1 [.int .i64 z] rfl (own_new _ _ _ _ (Nat.le_refl _)) none 0 _ ([] : List Value) rfl HNW.out (HSRC.out _ (VE.out.alloc _)) HN1.out O1.out O2.out (by rw [World.size_alloc]; omega) ?_
        intro A5 c5 w5 h5 u5
        obtain ⟨g5, cur5, hA5, hg5, hb5⟩ := it_own_some h5 O5.out
        subst hA5
        have V5 := hide ((VE.out.alloc _).trans u5 (fun y hy => .inr (by
          have : y = wE.heap.size := by simpa using hy
          have := VE.out.size
          omega)))
        have H5 := hide h5
        clear h5 u5 hg5 hb5
        (try dsimp only)
        refine hK.out _ _ (V5.out) (fun hHeld => ?_)
        clear hK K
        try simp only [Act.put, List.setIfInBounds_toArray, List.set_cons_zero, List.set_cons_succ]
        refine wpAnyH_ready (rs := [10]) (by kernel_rfl) (by simp) (AllReadyH.cons (o := ?oi10Q2) ?oi0_10Q2 (fun K hK => ?_) AllReadyH.nil)
        case oi0_10Q2 =>
          conv =>
            lhs
            whnf
            arg 1
            whnf
        refine step_append_fresh rfl (.tmp 57) (.tmp 63) _ rfl 3 _ 8 Try.underlying26 it_info_int none 0 ([] : List Value) rfl HXL.out (HOLD.out _ V5.out) ⟨g5, 0, none⟩ (1 + 0) c5 ([Value.int .i64 z] ++ ([] : List Value)) rfl (by rw [H5.out.1, Nat.mul_one]) O5.out (World.ownsRow.cells H5.out (g := g5) rfl) O3.out O4.out ?_
        intro c9 w9 h9 h9m h9s h9c u9
        have V9 := hide (V5.out.trans u9 (by simp))
        have A9 := hide (AP9.out w5 c9 w9 h9 h9m h9s h9c)
        clear h9 h9m h9s h9c u9
        (try dsimp only)
        refine hK.out _ _ (V9.out) (fun hHeld => ?_)
        clear hK K
        try simp only [Act.put, List.setIfInBounds_toArray, List.set_cons_zero, List.set_cons_succ]
        refine wpAnyH_take (i := 11) (oi := ?oi11Q2) (v := ?v11Q2) ?oi0_11Q2 (by kernel_rfl) ?ff11Q2 ?rr11Q2 ?hq11Q2 (Or.inl ⟨?hw11Q2, ?hy11Q2⟩) (by assumption) ?rest11Q2
        case oi0_11Q2 =>
          conv =>
            lhs
            whnf
            arg 1
            whnf
        case hq11Q2 => exact fun _ _ _ h => h
        case ff11Q2 => kernel_rfl
        case rr11Q2 => kernel_rfl
        case hw11Q2 => rfl
        case hy11Q2 =>
          intro w hSw
          (try dsimp only at hSw)
          first
          | (go_simp; done)
          | (go_simp; with_reducible rfl)
        try simp only [Act.put, List.setIfInBounds_toArray, List.set_cons_zero, List.set_cons_succ]
        refine wpAnyH_done (by kernel_rfl) ?_ _
        go_wp2_with fail
        go_roundw
        case rel => exact ⟨some ⟨w5.heap.size, 0, none⟩, 0 + (1 + 0), c9, k + 1, insAt [] 0 z, by omega, rfl, by go_num, by omega, A9, HINS, hide (VQ.out.trans V9.out (by simp))⟩
        case measure => simp [intOf] <;> omega
    · have HCELL := hide hcell
      have HNL := hide hnL
      clear hcell hnL
      go_wp2_with fail
      go_loop [8] (fun s8 => ∃ at_ : Nat, at_ ≤ n ∧ s8 = .int .i64 at_ ∧ Hid (∀ j x, j < at_ → L[j]? = some x → x < z)) (fun s => n - (intOf s).toNat)
      case atStart => exact ⟨0, Nat.zero_le _, rfl, hide (fun j x hj _ => absurd hj (Nat.not_lt_zero j))⟩
      case round =>
        obtain ⟨at_, ha, rfl, hb⟩ := hrel
        by_cases hlt : at_ < n
        case neg =>
          obtain rfl : at_ = n := by omega
          have HINS := hide (lens_ins hinv.out hb.out (fun x hx => by have := (List.getElem?_eq_some_iff.1 hx).1; have := HNL.out; omega) HZ.out)
          by_cases hac : c = at_
          case pos =>
            obtain rfl : at_ = c := hac.symm
            have hatm : at_ + 1 ≤ maxLen := by unfold maxLen; omega
            have HSRC := hide (show ∀ W, Upd [] wq W → SrcOf W (some ⟨g, 0, none⟩) 0 ([] : List Value) from fun W hW => .inr ⟨_, rfl, fun j u hj => by simp at hj⟩)
            have HOLD := hide (show ∀ W, Upd [] wq W → SrcOf W (some ⟨g, 0, none⟩) at_ (L.map (Value.int .i64)) from fun W hW => .inr ⟨_, rfl, fun j u hj => by
                rw [List.getElem?_map] at hj
                obtain ⟨x, hx, rfl⟩ := Option.map_eq_some_iff.1 hj
                have e : (⟨g, 0, none⟩ : Addr).add j = ⟨g, j, none⟩ := by unfold Addr.add; split <;> simp_all
                rw [e]
                exact keepc _ _ _ _ hW (HCELL.out _ _ hx)⟩)
            have HXL := hide (show (L.map (Value.int .i64)).length = at_ by rw [List.length_map]; exact HNL.out.symm)
            have HNW := hide (show ([] : List Value).length = 0 * 1 by rfl)
            have HN1 := hide (show ∀ u ∈ ([] : List Value), u.oneCell' = true by simp)
            have HCAT := hide (show (L.map (Value.int .i64)) ++ ([Value.int .i64 z] ++ ([] : List Value)) = (insAt L at_ z).map (Value.int .i64) by unfold insAt; rw [List.take_of_length_le (by have := HNL.out; omega), List.drop_eq_nil_of_le (by have := HNL.out; omega), List.map_append]; rfl)
            have HLEN := hide (show at_ + (1 + 0) = (insAt L at_ z).length by rw [insAt_length _ _ _ (by have := HNL.out; omega)]; have := HNL.out; omega)
            have AP9 := hide (show ∀ (W : World) (c9 : Nat) (w9 : World), at_ + (1 + 0) ≤ c9 → c9 ≤ maxLen → W.heap.size < w9.heap.size → (∀ j u, ((L.map (Value.int .i64)) ++ ([Value.int .i64 z] ++ ([] : List Value)))[j]? = some u → w9.cell? ⟨W.heap.size, j, none⟩ = some u) → LenAt w9 (some ⟨W.heap.size, 0, none⟩) (at_ + (1 + 0)) c9 (insAt L at_ z) from fun W c9 w9 h9 h9m h9s h9c =>
              .inr ⟨_, rfl, by omega, h9, h9m, HLEN.out, h9s, fun j y hj => h9c j _ (by rw [HCAT.out, List.getElem?_map, hj]; rfl)⟩)
            have O1 := hide (show (1 + 0) ≤ maxLen by unfold maxLen at hatm ⊢; omega)
            have O2 := hide (show (1 + 0) * 8 ≤ 140737488355328 by omega)
            have O3 := hide (show at_ + (1 + 0) ≤ maxLen by unfold maxLen at hatm ⊢; omega)
            have O4 := hide (show (at_ + (1 + 0)) * 8 ≤ 140737488355328 by omega)
            have O5 := hide (show 0 < 1 + 0 by omega)
            go_wp2_with fail
            refine wp_region_held_drew (S := (fun w' => Upd [] wq w')) (by kernel_rfl) ((Upd.refl _ _).drew) (fun hHeld => ?_)
            obtain ⟨wE, hwE⟩ : ∃ wE, wq.drew = wE := ⟨_, rfl⟩
            have VE := hide (show Upd [] wq wE by rw [← hwE]; exact (Upd.refl _ _).drew)
            rw [hwE] at hHeld ⊢
            clear hwE
            refine wpAnyH_take (i := 0) (oi := ?oi0Q3) (v := ?v0Q3) ?oi0_0Q3 (by kernel_rfl) ?ff0Q3 ?rr0Q3 ?hq0Q3 (Or.inl ⟨?hw0Q3, ?hy0Q3⟩) (by assumption) ?rest0Q3
            case oi0_0Q3 =>
              conv =>
                lhs
                whnf
                arg 1
                whnf
            case hq0Q3 => exact fun _ _ _ h => h
            case ff0Q3 => kernel_rfl
            case rr0Q3 => kernel_rfl
            case hw0Q3 => rfl
            case hy0Q3 =>
              intro w hSw
              (try dsimp only at hSw)
              first
              | (go_simp; done)
              | (go_simp; with_reducible rfl)
            try simp only [Act.put, List.setIfInBounds_toArray, List.set_cons_zero, List.set_cons_succ]
            refine wpAnyH_take (i := 1) (oi := ?oi1Q3) (v := ?v1Q3) ?oi0_1Q3 (by kernel_rfl) ?ff1Q3 ?rr1Q3 ?hq1Q3 (Or.inl ⟨?hw1Q3, ?hy1Q3⟩) (by assumption) ?rest1Q3
            case oi0_1Q3 =>
              conv =>
                lhs
                whnf
                arg 1
                whnf
            case hq1Q3 => exact fun _ _ _ h => h
            case ff1Q3 => kernel_rfl
            case rr1Q3 => kernel_rfl
            case hw1Q3 => rfl
            case hy1Q3 =>
              intro w hSw
              (try dsimp only at hSw)
              first
              | (go_simp; done)
              | (go_simp; with_reducible rfl)
            try simp only [Act.put, List.setIfInBounds_toArray, List.set_cons_zero, List.set_cons_succ]
            refine wpAnyH_take (i := 2) (oi := ?oi2Q3) (v := ?v2Q3) ?oi0_2Q3 (by kernel_rfl) ?ff2Q3 ?rr2Q3 ?hq2Q3 (Or.inl ⟨?hw2Q3, ?hy2Q3⟩) (by assumption) ?rest2Q3
            case oi0_2Q3 =>
              conv =>
                lhs
                whnf
                arg 1
                whnf
            case hq2Q3 => exact fun _ _ _ h => h
            case ff2Q3 => kernel_rfl
            case rr2Q3 => kernel_rfl
            case hw2Q3 => rfl
            case hy2Q3 =>
              intro w hSw
              (try dsimp only at hSw)
              first
              | (go_simp; done)
              | (go_simp; with_reducible rfl)
            try simp only [Act.put, List.setIfInBounds_toArray, List.set_cons_zero, List.set_cons_succ]
            refine wpAnyH_take (i := 3) (oi := ?oi3Q3) (v := ?v3Q3) ?oi0_3Q3 (by kernel_rfl) ?ff3Q3 ?rr3Q3 ?hq3Q3 (Or.inl ⟨?hw3Q3, ?hy3Q3⟩) (by assumption) ?rest3Q3
            case oi0_3Q3 =>
              conv =>
                lhs
                whnf
                arg 1
                whnf
            case hq3Q3 => exact fun _ _ _ h => h
            case ff3Q3 => kernel_rfl
            case rr3Q3 => kernel_rfl
            case hw3Q3 => rfl
            case hy3Q3 =>
              intro w hSw
              (try dsimp only at hSw)
              first
              | (go_simp; done)
              | (go_simp; with_reducible rfl)
            try simp only [Act.put, List.setIfInBounds_toArray, List.set_cons_zero, List.set_cons_succ]
            refine wpAnyH_take (i := 4) (oi := ?oi4Q3) (v := ?v4Q3) ?oi0_4Q3 (by kernel_rfl) ?ff4Q3 ?rr4Q3 ?hq4Q3 (Or.inl ⟨?hw4Q3, ?hy4Q3⟩) (by assumption) ?rest4Q3
            case oi0_4Q3 =>
              conv =>
                lhs
                whnf
                arg 1
                whnf
            case hq4Q3 => exact fun _ _ _ h => h
            case ff4Q3 => kernel_rfl
            case rr4Q3 => kernel_rfl
            case hw4Q3 => rfl
            case hy4Q3 =>
              intro w hSw
              (try dsimp only at hSw)
              first
              | (go_simp; done)
              | (go_simp; with_reducible rfl)
            try simp only [Act.put, List.setIfInBounds_toArray, List.set_cons_zero, List.set_cons_succ]
            refine wpAnyH_take (i := 6) (oi := ?oi6Q3) (v := ?v6Q3) ?oi0_6Q3 (by kernel_rfl) ?ff6Q3 ?rr6Q3 ?hq6Q3 (Or.inl ⟨?hw6Q3, ?hy6Q3⟩) (by assumption) ?rest6Q3
            case oi0_6Q3 =>
              conv =>
                lhs
                whnf
                arg 1
                whnf
            case hq6Q3 => exact fun _ _ _ h => h
            case ff6Q3 => kernel_rfl
            case rr6Q3 => kernel_rfl
            case hw6Q3 => rfl
            case hy6Q3 =>
              intro w hSw
              (try dsimp only at hSw)
              first
              | (go_simp; done)
              | (go_simp; with_reducible rfl)
            try simp only [Act.put, List.setIfInBounds_toArray, List.set_cons_zero, List.set_cons_succ]
            refine wpAnyH_take (i := 7) (oi := ?oi7Q3) (v := ?v7Q3) ?oi0_7Q3 (by kernel_rfl) ?ff7Q3 ?rr7Q3 ?hq7Q3 (Or.inl ⟨?hw7Q3, ?hy7Q3⟩) (by assumption) ?rest7Q3
            case oi0_7Q3 =>
              conv =>
                lhs
                whnf
                arg 1
                whnf
            case hq7Q3 => exact fun _ _ _ h => h
            case ff7Q3 => kernel_rfl
            case rr7Q3 => kernel_rfl
            case hw7Q3 => rfl
            case hy7Q3 =>
              intro w hSw
              (try dsimp only at hSw)
              first
              | (go_simp; done)
              | (go_simp; with_reducible rfl)
            try simp only [Act.put, List.setIfInBounds_toArray, List.set_cons_zero, List.set_cons_succ]
            refine wpAnyH_take (i := 8) (oi := ?oi8Q3) (v := ?v8Q3) ?oi0_8Q3 (by kernel_rfl) ?ff8Q3 ?rr8Q3 ?hq8Q3 (Or.inl ⟨?hw8Q3, ?hy8Q3⟩) (by assumption) ?rest8Q3
            case oi0_8Q3 =>
              conv =>
                lhs
                whnf
                arg 1
                whnf
            case hq8Q3 => exact fun _ _ _ h => h
            case ff8Q3 => kernel_rfl
            case rr8Q3 => kernel_rfl
            case hw8Q3 => rfl
            case hy8Q3 =>
              intro w hSw
              (try dsimp only at hSw)
              first
              | (go_simp; done)
              | (go_simp; with_reducible rfl)
            try simp only [Act.put, List.setIfInBounds_toArray, List.set_cons_zero, List.set_cons_succ]
            refine wpAnyH_ready (rs := [5]) (by kernel_rfl) (by simp) (AllReadyH.cons (o := ?oi5Q3) ?oi0_5Q3 (fun K hK => ?_) AllReadyH.nil)
            case oi0_5Q3 =>
              conv =>
                lhs
                whnf
                arg 1
                whnf
            go_simp
            (try dsimp only)
            refine hK.out _ _ (VE.out.alloc _) (fun hHeld => ?_)
            clear hK K
            try simp only [Act.put, List.setIfInBounds_toArray, List.set_cons_zero, List.set_cons_succ]
            refine wpAnyH_ready (rs := [9]) (by kernel_rfl) (by simp) (AllReadyH.cons (o := ?oi9Q3) ?oi0_9Q3 (fun K hK => ?_) AllReadyH.nil)
            case oi0_9Q3 =>
              conv =>
                lhs
                whnf
                arg 1
                whnf
            refine step_append_src rfl (.tmp 59) (.tmp 62) _ rfl wE.heap.size 3 _ 1 8 Try.underlying26 it_info_int rfl (by decide) (some ⟨wE.heap.size, 0, none⟩) 1 1 [.int .i64 z] rfl (own_new _ _ _ _ (Nat.le_refl _)) (some ⟨g, 0, none⟩) 0 _ ([] : List Value) rfl HNW.out (HSRC.out _ (VE.out.alloc _)) HN1.out O1.out O2.out (by rw [World.size_alloc]; omega) ?_
            intro A5 c5 w5 h5 u5
            obtain ⟨g5, cur5, hA5, hg5, hb5⟩ := it_own_some h5 O5.out
            subst hA5
            have V5 := hide ((VE.out.alloc _).trans u5 (fun y hy => .inr (by
              have : y = wE.heap.size := by simpa using hy
              have := VE.out.size
              omega)))
            have H5 := hide h5
            clear h5 u5 hg5 hb5
            (try dsimp only)
            refine hK.out _ _ (V5.out) (fun hHeld => ?_)
            clear hK K
            try simp only [Act.put, List.setIfInBounds_toArray, List.set_cons_zero, List.set_cons_succ]
            refine wpAnyH_ready (rs := [10]) (by kernel_rfl) (by simp) (AllReadyH.cons (o := ?oi10Q3) ?oi0_10Q3 (fun K hK => ?_) AllReadyH.nil)
            case oi0_10Q3 =>
              conv =>
                lhs
                whnf
                arg 1
                whnf
            refine step_append_fresh rfl (.tmp 57) (.tmp 63) _ rfl 3 _ 8 Try.underlying26 it_info_int (some ⟨g, 0, none⟩) at_ (L.map (Value.int .i64)) rfl HXL.out (HOLD.out _ V5.out) ⟨g5, 0, none⟩ (1 + 0) c5 ([Value.int .i64 z] ++ ([] : List Value)) rfl (by rw [H5.out.1, Nat.mul_one]) O5.out (World.ownsRow.cells H5.out (g := g5) rfl) O3.out O4.out ?_
            intro c9 w9 h9 h9m h9s h9c u9
            have V9 := hide (V5.out.trans u9 (by simp))
            have A9 := hide (AP9.out w5 c9 w9 h9 h9m h9s h9c)
            clear h9 h9m h9s h9c u9
            (try dsimp only)
            refine hK.out _ _ (V9.out) (fun hHeld => ?_)
            clear hK K
            try simp only [Act.put, List.setIfInBounds_toArray, List.set_cons_zero, List.set_cons_succ]
            refine wpAnyH_take (i := 11) (oi := ?oi11Q3) (v := ?v11Q3) ?oi0_11Q3 (by kernel_rfl) ?ff11Q3 ?rr11Q3 ?hq11Q3 (Or.inl ⟨?hw11Q3, ?hy11Q3⟩) (by assumption) ?rest11Q3
            case oi0_11Q3 =>
              conv =>
                lhs
                whnf
                arg 1
                whnf
            case hq11Q3 => exact fun _ _ _ h => h
            case ff11Q3 => kernel_rfl
            case rr11Q3 => kernel_rfl
            case hw11Q3 => rfl
            case hy11Q3 =>
              intro w hSw
              (try dsimp only at hSw)
              first
              | (go_simp; done)
              | (go_simp; with_reducible rfl)
            try simp only [Act.put, List.setIfInBounds_toArray, List.set_cons_zero, List.set_cons_succ]
            refine wpAnyH_done (by kernel_rfl) ?_ _
            go_wp2_with fail
            go_roundw
            case rel => exact ⟨some ⟨w5.heap.size, 0, none⟩, at_ + (1 + 0), c9, k + 1, insAt L at_ z, by omega, rfl, by go_num, by omega, A9, HINS, hide (VQ.out.trans V9.out (by simp))⟩
            case measure => simp [intOf] <;> omega
          have hac : ¬ c = at_ := by omega
          have hatm : at_ + 1 ≤ maxLen := by unfold maxLen; omega
          have HSRC := hide (show ∀ W, Upd [] wq W → SrcOf W (some ⟨g, at_, none⟩) 0 ([] : List Value) from fun W hW => .inr ⟨_, rfl, fun j u hj => by simp at hj⟩)
          have HOLD := hide (show ∀ W, Upd [] wq W → SrcOf W (some ⟨g, 0, none⟩) at_ (L.map (Value.int .i64)) from fun W hW => .inr ⟨_, rfl, fun j u hj => by
              rw [List.getElem?_map] at hj
              obtain ⟨x, hx, rfl⟩ := Option.map_eq_some_iff.1 hj
              have e : (⟨g, 0, none⟩ : Addr).add j = ⟨g, j, none⟩ := by unfold Addr.add; split <;> simp_all
              rw [e]
              exact keepc _ _ _ _ hW (HCELL.out _ _ hx)⟩)
          have HXL := hide (show (L.map (Value.int .i64)).length = at_ by rw [List.length_map]; exact HNL.out.symm)
          have HNW := hide (show ([] : List Value).length = 0 * 1 by rfl)
          have HN1 := hide (show ∀ u ∈ ([] : List Value), u.oneCell' = true by simp)
          have HCAT := hide (show (L.map (Value.int .i64)) ++ ([Value.int .i64 z] ++ ([] : List Value)) = (insAt L at_ z).map (Value.int .i64) by unfold insAt; rw [List.take_of_length_le (by have := HNL.out; omega), List.drop_eq_nil_of_le (by have := HNL.out; omega), List.map_append]; rfl)
          have HLEN := hide (show at_ + (1 + 0) = (insAt L at_ z).length by rw [insAt_length _ _ _ (by have := HNL.out; omega)]; have := HNL.out; omega)
          have AP9 := hide (show ∀ (W : World) (c9 : Nat) (w9 : World), at_ + (1 + 0) ≤ c9 → c9 ≤ maxLen → W.heap.size < w9.heap.size → (∀ j u, ((L.map (Value.int .i64)) ++ ([Value.int .i64 z] ++ ([] : List Value)))[j]? = some u → w9.cell? ⟨W.heap.size, j, none⟩ = some u) → LenAt w9 (some ⟨W.heap.size, 0, none⟩) (at_ + (1 + 0)) c9 (insAt L at_ z) from fun W c9 w9 h9 h9m h9s h9c =>
            .inr ⟨_, rfl, by omega, h9, h9m, HLEN.out, h9s, fun j y hj => h9c j _ (by rw [HCAT.out, List.getElem?_map, hj]; rfl)⟩)
          have O1 := hide (show (1 + 0) ≤ maxLen by unfold maxLen at hatm ⊢; omega)
          have O2 := hide (show (1 + 0) * 8 ≤ 140737488355328 by omega)
          have O3 := hide (show at_ + (1 + 0) ≤ maxLen by unfold maxLen at hatm ⊢; omega)
          have O4 := hide (show (at_ + (1 + 0)) * 8 ≤ 140737488355328 by omega)
          have O5 := hide (show 0 < 1 + 0 by omega)
          go_wp2_with fail
          refine wp_region_held_drew (S := (fun w' => Upd [] wq w')) (by kernel_rfl) ((Upd.refl _ _).drew) (fun hHeld => ?_)
          obtain ⟨wE, hwE⟩ : ∃ wE, wq.drew = wE := ⟨_, rfl⟩
          have VE := hide (show Upd [] wq wE by rw [← hwE]; exact (Upd.refl _ _).drew)
          rw [hwE] at hHeld ⊢
          clear hwE
          refine wpAnyH_take (i := 0) (oi := ?oi0Q4) (v := ?v0Q4) ?oi0_0Q4 (by kernel_rfl) ?ff0Q4 ?rr0Q4 ?hq0Q4 (Or.inl ⟨?hw0Q4, ?hy0Q4⟩) (by assumption) ?rest0Q4
          case oi0_0Q4 =>
            conv =>
              lhs
              whnf
              arg 1
              whnf
          case hq0Q4 => exact fun _ _ _ h => h
          case ff0Q4 => kernel_rfl
          case rr0Q4 => kernel_rfl
          case hw0Q4 => rfl
          case hy0Q4 =>
            intro w hSw
            (try dsimp only at hSw)
            first
            | (go_simp; done)
            | (go_simp; with_reducible rfl)
          try simp only [Act.put, List.setIfInBounds_toArray, List.set_cons_zero, List.set_cons_succ]
          refine wpAnyH_take (i := 1) (oi := ?oi1Q4) (v := ?v1Q4) ?oi0_1Q4 (by kernel_rfl) ?ff1Q4 ?rr1Q4 ?hq1Q4 (Or.inl ⟨?hw1Q4, ?hy1Q4⟩) (by assumption) ?rest1Q4
          case oi0_1Q4 =>
            conv =>
              lhs
              whnf
              arg 1
              whnf
          case hq1Q4 => exact fun _ _ _ h => h
          case ff1Q4 => kernel_rfl
          case rr1Q4 => kernel_rfl
          case hw1Q4 => rfl
          case hy1Q4 =>
            intro w hSw
            (try dsimp only at hSw)
            first
            | (go_simp; done)
            | (go_simp; with_reducible rfl)
          try simp only [Act.put, List.setIfInBounds_toArray, List.set_cons_zero, List.set_cons_succ]
          refine wpAnyH_take (i := 2) (oi := ?oi2Q4) (v := ?v2Q4) ?oi0_2Q4 (by kernel_rfl) ?ff2Q4 ?rr2Q4 ?hq2Q4 (Or.inl ⟨?hw2Q4, ?hy2Q4⟩) (by assumption) ?rest2Q4
          case oi0_2Q4 =>
            conv =>
              lhs
              whnf
              arg 1
              whnf
          case hq2Q4 => exact fun _ _ _ h => h
          case ff2Q4 => kernel_rfl
          case rr2Q4 => kernel_rfl
          case hw2Q4 => rfl
          case hy2Q4 =>
            intro w hSw
            (try dsimp only at hSw)
            first
            | (go_simp; done)
            | (go_simp; with_reducible rfl)
          try simp only [Act.put, List.setIfInBounds_toArray, List.set_cons_zero, List.set_cons_succ]
          refine wpAnyH_take (i := 3) (oi := ?oi3Q4) (v := ?v3Q4) ?oi0_3Q4 (by kernel_rfl) ?ff3Q4 ?rr3Q4 ?hq3Q4 (Or.inl ⟨?hw3Q4, ?hy3Q4⟩) (by assumption) ?rest3Q4
          case oi0_3Q4 =>
            conv =>
              lhs
              whnf
              arg 1
              whnf
          case hq3Q4 => exact fun _ _ _ h => h
          case ff3Q4 => kernel_rfl
          case rr3Q4 => kernel_rfl
          case hw3Q4 => rfl
          case hy3Q4 =>
            intro w hSw
            (try dsimp only at hSw)
            first
            | (go_simp; done)
            | (go_simp; with_reducible rfl)
          try simp only [Act.put, List.setIfInBounds_toArray, List.set_cons_zero, List.set_cons_succ]
          refine wpAnyH_take (i := 4) (oi := ?oi4Q4) (v := ?v4Q4) ?oi0_4Q4 (by kernel_rfl) ?ff4Q4 ?rr4Q4 ?hq4Q4 (Or.inl ⟨?hw4Q4, ?hy4Q4⟩) (by assumption) ?rest4Q4
          case oi0_4Q4 =>
            conv =>
              lhs
              whnf
              arg 1
              whnf
          case hq4Q4 => exact fun _ _ _ h => h
          case ff4Q4 => kernel_rfl
          case rr4Q4 => kernel_rfl
          case hw4Q4 => rfl
          case hy4Q4 =>
            intro w hSw
            (try dsimp only at hSw)
            first
            | (go_simp; done)
            | (go_simp; with_reducible rfl)
          try simp only [Act.put, List.setIfInBounds_toArray, List.set_cons_zero, List.set_cons_succ]
          refine wpAnyH_take (i := 6) (oi := ?oi6Q4) (v := ?v6Q4) ?oi0_6Q4 (by kernel_rfl) ?ff6Q4 ?rr6Q4 ?hq6Q4 (Or.inl ⟨?hw6Q4, ?hy6Q4⟩) (by assumption) ?rest6Q4
          case oi0_6Q4 =>
            conv =>
              lhs
              whnf
              arg 1
              whnf
          case hq6Q4 => exact fun _ _ _ h => h
          case ff6Q4 => kernel_rfl
          case rr6Q4 => kernel_rfl
          case hw6Q4 => rfl
          case hy6Q4 =>
            intro w hSw
            (try dsimp only at hSw)
            first
            | (go_simp; done)
            | (go_simp; with_reducible rfl)
          try simp only [Act.put, List.setIfInBounds_toArray, List.set_cons_zero, List.set_cons_succ]
          refine wpAnyH_take (i := 7) (oi := ?oi7Q4) (v := ?v7Q4) ?oi0_7Q4 (by kernel_rfl) ?ff7Q4 ?rr7Q4 ?hq7Q4 (Or.inl ⟨?hw7Q4, ?hy7Q4⟩) (by assumption) ?rest7Q4
          case oi0_7Q4 =>
            conv =>
              lhs
              whnf
              arg 1
              whnf
          case hq7Q4 => exact fun _ _ _ h => h
          case ff7Q4 => kernel_rfl
          case rr7Q4 => kernel_rfl
          case hw7Q4 => rfl
          case hy7Q4 =>
            intro w hSw
            (try dsimp only at hSw)
            first
            | (go_simp; done)
            | (go_simp; with_reducible rfl)
          try simp only [Act.put, List.setIfInBounds_toArray, List.set_cons_zero, List.set_cons_succ]
          refine wpAnyH_take (i := 8) (oi := ?oi8Q4) (v := ?v8Q4) ?oi0_8Q4 (by kernel_rfl) ?ff8Q4 ?rr8Q4 ?hq8Q4 (Or.inl ⟨?hw8Q4, ?hy8Q4⟩) (by assumption) ?rest8Q4
          case oi0_8Q4 =>
            conv =>
              lhs
              whnf
              arg 1
              whnf
          case hq8Q4 => exact fun _ _ _ h => h
          case ff8Q4 => kernel_rfl
          case rr8Q4 => kernel_rfl
          case hw8Q4 => rfl
          case hy8Q4 =>
            intro w hSw
            (try dsimp only at hSw)
            first
            | (go_simp; done)
            | (go_simp; with_reducible rfl)
          try simp only [Act.put, List.setIfInBounds_toArray, List.set_cons_zero, List.set_cons_succ]
          refine wpAnyH_ready (rs := [5]) (by kernel_rfl) (by simp) (AllReadyH.cons (o := ?oi5Q4) ?oi0_5Q4 (fun K hK => ?_) AllReadyH.nil)
          case oi0_5Q4 =>
            conv =>
              lhs
              whnf
              arg 1
              whnf
          go_simp
          (try dsimp only)
          refine hK.out _ _ (VE.out.alloc _) (fun hHeld => ?_)
          clear hK K
          try simp only [Act.put, List.setIfInBounds_toArray, List.set_cons_zero, List.set_cons_succ]
          refine wpAnyH_ready (rs := [9]) (by kernel_rfl) (by simp) (AllReadyH.cons (o := ?oi9Q4) ?oi0_9Q4 (fun K hK => ?_) AllReadyH.nil)
          case oi0_9Q4 =>
            conv =>
              lhs
              whnf
              arg 1
              whnf
          refine step_append_src rfl (.tmp 59) (.tmp 62) _ rfl wE.heap.size 3 _ 1 8 Try.underlying26 it_info_int rfl (by decide) (some ⟨wE.heap.size, 0, none⟩) 1 1 [.int .i64 z] rfl (own_new _ _ _ _ (Nat.le_refl _)) (some ⟨g, at_, none⟩) 0 _ ([] : List Value) rfl HNW.out (HSRC.out _ (VE.out.alloc _)) HN1.out O1.out O2.out (by rw [World.size_alloc]; omega) ?_
          intro A5 c5 w5 h5 u5
          obtain ⟨g5, cur5, hA5, hg5, hb5⟩ := it_own_some h5 O5.out
          subst hA5
          have V5 := hide ((VE.out.alloc _).trans u5 (fun y hy => .inr (by
            have : y = wE.heap.size := by simpa using hy
            have := VE.out.size
            omega)))
          have H5 := hide h5
          clear h5 u5 hg5 hb5
          (try dsimp only)
          refine hK.out _ _ (V5.out) (fun hHeld => ?_)
          clear hK K
          try simp only [Act.put, List.setIfInBounds_toArray, List.set_cons_zero, List.set_cons_succ]
          refine wpAnyH_ready (rs := [10]) (by kernel_rfl) (by simp) (AllReadyH.cons (o := ?oi10Q4) ?oi0_10Q4 (fun K hK => ?_) AllReadyH.nil)
          case oi0_10Q4 =>
            conv =>
              lhs
              whnf
              arg 1
              whnf
          refine step_append_fresh rfl (.tmp 57) (.tmp 63) _ rfl 3 _ 8 Try.underlying26 it_info_int (some ⟨g, 0, none⟩) at_ (L.map (Value.int .i64)) rfl HXL.out (HOLD.out _ V5.out) ⟨g5, 0, none⟩ (1 + 0) c5 ([Value.int .i64 z] ++ ([] : List Value)) rfl (by rw [H5.out.1, Nat.mul_one]) O5.out (World.ownsRow.cells H5.out (g := g5) rfl) O3.out O4.out ?_
          intro c9 w9 h9 h9m h9s h9c u9
          have V9 := hide (V5.out.trans u9 (by simp))
          have A9 := hide (AP9.out w5 c9 w9 h9 h9m h9s h9c)
          clear h9 h9m h9s h9c u9
          (try dsimp only)
          refine hK.out _ _ (V9.out) (fun hHeld => ?_)
          clear hK K
          try simp only [Act.put, List.setIfInBounds_toArray, List.set_cons_zero, List.set_cons_succ]
          refine wpAnyH_take (i := 11) (oi := ?oi11Q4) (v := ?v11Q4) ?oi0_11Q4 (by kernel_rfl) ?ff11Q4 ?rr11Q4 ?hq11Q4 (Or.inl ⟨?hw11Q4, ?hy11Q4⟩) (by assumption) ?rest11Q4
          case oi0_11Q4 =>
            conv =>
              lhs
              whnf
              arg 1
              whnf
          case hq11Q4 => exact fun _ _ _ h => h
          case ff11Q4 => kernel_rfl
          case rr11Q4 => kernel_rfl
          case hw11Q4 => rfl
          case hy11Q4 =>
            intro w hSw
            (try dsimp only at hSw)
            first
            | (go_simp; done)
            | (go_simp; with_reducible rfl)
          try simp only [Act.put, List.setIfInBounds_toArray, List.set_cons_zero, List.set_cons_succ]
          refine wpAnyH_done (by kernel_rfl) ?_ _
          go_wp2_with fail
          go_roundw
          case rel => exact ⟨some ⟨w5.heap.size, 0, none⟩, at_ + (1 + 0), c9, k + 1, insAt L at_ z, by omega, rfl, by go_num, by omega, A9, HINS, hide (VQ.out.trans V9.out (by simp))⟩
          case measure => simp [intOf] <;> omega
        obtain ⟨y, hy⟩ : ∃ y, L[at_]? = some y := ⟨_, List.getElem?_eq_getElem (by have := HNL.out; omega)⟩
        have cy := HCELL.out at_ y hy
        have hai : (at_ : Int) < n := by omega
        have hwa : IntKind.i64.wrap ((at_ : Int) + 1) = (at_ : Int) + 1 := Go.IntWalk.i64_in _ (by unfold maxLen at hcm; omega)
        by_cases hyz : y < z
        · have HB := hide (show ∀ j x, j < at_ + 1 → L[j]? = some x → x < z from fun j x hj hx => by
            by_cases e : j = at_
            · subst e; rw [hy] at hx; cases hx; exact hyz
            · exact hb.out j x (by omega) hx)
          clear hy
          go_wp2_with fail
          go_round
          case rel => exact ⟨at_ + 1, by omega, by go_num, HB⟩
          case measure => simp [intOf] <;> omega
        have hyzd : decide (y < z) = false := decide_eq_false hyz
        by_cases hye : y = z
        · have hyb : (y != z) = false := by simpa using hye
          have HSAME := hide (lens_same hinv.out hy (HZ.out.trans hye.symm))
          clear hy hye
          go_wp2_with fail
          go_roundw
          case rel => exact ⟨some ⟨g, 0, none⟩, n, c, k + 1, L, by omega, rfl, by go_num, by omega, AQ, HSAME, VQ⟩
          case measure => simp [intOf] <;> omega
        · have hyb : (y != z) = true := by simpa using hye
          have HINS := hide (lens_ins hinv.out hb.out (fun x hx => by rw [hy] at hx; cases hx; omega) HZ.out)
          clear hy hye
          have hac0 : at_ ≤ c := by omega
          have hac : ¬ c = at_ := by omega
          have hatm : n + 1 ≤ maxLen := by unfold maxLen; omega
          have HSRC := hide (show ∀ W, Upd [] wq W → SrcOf W (some ⟨g, at_, none⟩) (n - at_) ((L.drop at_).map (Value.int .i64)) from fun W hW => .inr ⟨_, rfl, fun j u hj => by
              rw [List.getElem?_map, List.getElem?_drop] at hj
              obtain ⟨x, hx, rfl⟩ := Option.map_eq_some_iff.1 hj
              have e : (⟨g, at_, none⟩ : Addr).add j = ⟨g, at_ + j, none⟩ := by unfold Addr.add; split <;> simp_all
              rw [e]
              exact keepc _ _ _ _ hW (HCELL.out _ _ hx)⟩)
          have HOLD := hide (show ∀ W, Upd [] wq W → SrcOf W (some ⟨g, 0, none⟩) at_ ((L.take at_).map (Value.int .i64)) from fun W hW => .inr ⟨_, rfl, fun j u hj => by
              have hjl := (List.getElem?_eq_some_iff.1 hj).1
              rw [List.length_map, List.length_take] at hjl
              rw [List.getElem?_map, List.getElem?_take_of_lt (by omega)] at hj
              obtain ⟨x, hx, rfl⟩ := Option.map_eq_some_iff.1 hj
              have e : (⟨g, 0, none⟩ : Addr).add j = ⟨g, j, none⟩ := by unfold Addr.add; split <;> simp_all
              rw [e]
              exact keepc _ _ _ _ hW (HCELL.out _ _ hx)⟩)
          have HXL := hide (show ((L.take at_).map (Value.int .i64)).length = at_ by rw [List.length_map, List.length_take]; have := HNL.out; omega)
          have HNW := hide (show ((L.drop at_).map (Value.int .i64)).length = (n - at_) * 1 by rw [List.length_map, List.length_drop]; have := HNL.out; omega)
          have HN1 := hide (show ∀ u ∈ ((L.drop at_).map (Value.int .i64)), u.oneCell' = true by exact int_ones _)
          have HCAT := hide (show ((L.take at_).map (Value.int .i64)) ++ ([Value.int .i64 z] ++ ((L.drop at_).map (Value.int .i64))) = (insAt L at_ z).map (Value.int .i64) by unfold insAt; rw [List.map_append]; rfl)
          have HLEN := hide (show at_ + (1 + (n - at_)) = (insAt L at_ z).length by rw [insAt_length _ _ _ (by have := HNL.out; omega)]; have := HNL.out; omega)
          have AP9 := hide (show ∀ (W : World) (c9 : Nat) (w9 : World), at_ + (1 + (n - at_)) ≤ c9 → c9 ≤ maxLen → W.heap.size < w9.heap.size → (∀ j u, (((L.take at_).map (Value.int .i64)) ++ ([Value.int .i64 z] ++ ((L.drop at_).map (Value.int .i64))))[j]? = some u → w9.cell? ⟨W.heap.size, j, none⟩ = some u) → LenAt w9 (some ⟨W.heap.size, 0, none⟩) (at_ + (1 + (n - at_))) c9 (insAt L at_ z) from fun W c9 w9 h9 h9m h9s h9c =>
            .inr ⟨_, rfl, by omega, h9, h9m, HLEN.out, h9s, fun j y hj => h9c j _ (by rw [HCAT.out, List.getElem?_map, hj]; rfl)⟩)
          have O1 := hide (show (1 + (n - at_)) ≤ maxLen by unfold maxLen at hatm ⊢; omega)
          have O2 := hide (show (1 + (n - at_)) * 8 ≤ 140737488355328 by omega)
          have O3 := hide (show at_ + (1 + (n - at_)) ≤ maxLen by unfold maxLen at hatm ⊢; omega)
          have O4 := hide (show (at_ + (1 + (n - at_))) * 8 ≤ 140737488355328 by omega)
          have O5 := hide (show 0 < 1 + (n - at_) by omega)
          go_wp2_with fail
          refine wp_region_held_drew (S := (fun w' => Upd [] wq w')) (by kernel_rfl) ((Upd.refl _ _).drew) (fun hHeld => ?_)
          obtain ⟨wE, hwE⟩ : ∃ wE, wq.drew = wE := ⟨_, rfl⟩
          have VE := hide (show Upd [] wq wE by rw [← hwE]; exact (Upd.refl _ _).drew)
          rw [hwE] at hHeld ⊢
          clear hwE
          refine wpAnyH_take (i := 0) (oi := ?oi0Q5) (v := ?v0Q5) ?oi0_0Q5 (by kernel_rfl) ?ff0Q5 ?rr0Q5 ?hq0Q5 (Or.inl ⟨?hw0Q5, ?hy0Q5⟩) (by assumption) ?rest0Q5
          case oi0_0Q5 =>
            conv =>
              lhs
              whnf
              arg 1
              whnf
          case hq0Q5 => exact fun _ _ _ h => h
          case ff0Q5 => kernel_rfl
          case rr0Q5 => kernel_rfl
          case hw0Q5 => rfl
          case hy0Q5 =>
            intro w hSw
            (try dsimp only at hSw)
            first
            | (go_simp; done)
            | (go_simp; with_reducible rfl)
          try simp only [Act.put, List.setIfInBounds_toArray, List.set_cons_zero, List.set_cons_succ]
          refine wpAnyH_take (i := 1) (oi := ?oi1Q5) (v := ?v1Q5) ?oi0_1Q5 (by kernel_rfl) ?ff1Q5 ?rr1Q5 ?hq1Q5 (Or.inl ⟨?hw1Q5, ?hy1Q5⟩) (by assumption) ?rest1Q5
          case oi0_1Q5 =>
            conv =>
              lhs
              whnf
              arg 1
              whnf
          case hq1Q5 => exact fun _ _ _ h => h
          case ff1Q5 => kernel_rfl
          case rr1Q5 => kernel_rfl
          case hw1Q5 => rfl
          case hy1Q5 =>
            intro w hSw
            (try dsimp only at hSw)
            first
            | (go_simp; done)
            | (go_simp; with_reducible rfl)
          try simp only [Act.put, List.setIfInBounds_toArray, List.set_cons_zero, List.set_cons_succ]
          refine wpAnyH_take (i := 2) (oi := ?oi2Q5) (v := ?v2Q5) ?oi0_2Q5 (by kernel_rfl) ?ff2Q5 ?rr2Q5 ?hq2Q5 (Or.inl ⟨?hw2Q5, ?hy2Q5⟩) (by assumption) ?rest2Q5
          case oi0_2Q5 =>
            conv =>
              lhs
              whnf
              arg 1
              whnf
          case hq2Q5 => exact fun _ _ _ h => h
          case ff2Q5 => kernel_rfl
          case rr2Q5 => kernel_rfl
          case hw2Q5 => rfl
          case hy2Q5 =>
            intro w hSw
            (try dsimp only at hSw)
            first
            | (go_simp; done)
            | (go_simp; with_reducible rfl)
          try simp only [Act.put, List.setIfInBounds_toArray, List.set_cons_zero, List.set_cons_succ]
          refine wpAnyH_take (i := 3) (oi := ?oi3Q5) (v := ?v3Q5) ?oi0_3Q5 (by kernel_rfl) ?ff3Q5 ?rr3Q5 ?hq3Q5 (Or.inl ⟨?hw3Q5, ?hy3Q5⟩) (by assumption) ?rest3Q5
          case oi0_3Q5 =>
            conv =>
              lhs
              whnf
              arg 1
              whnf
          case hq3Q5 => exact fun _ _ _ h => h
          case ff3Q5 => kernel_rfl
          case rr3Q5 => kernel_rfl
          case hw3Q5 => rfl
          case hy3Q5 =>
            intro w hSw
            (try dsimp only at hSw)
            first
            | (go_simp; done)
            | (go_simp; with_reducible rfl)
          try simp only [Act.put, List.setIfInBounds_toArray, List.set_cons_zero, List.set_cons_succ]
          refine wpAnyH_take (i := 4) (oi := ?oi4Q5) (v := ?v4Q5) ?oi0_4Q5 (by kernel_rfl) ?ff4Q5 ?rr4Q5 ?hq4Q5 (Or.inl ⟨?hw4Q5, ?hy4Q5⟩) (by assumption) ?rest4Q5
          case oi0_4Q5 =>
            conv =>
              lhs
              whnf
              arg 1
              whnf
          case hq4Q5 => exact fun _ _ _ h => h
          case ff4Q5 => kernel_rfl
          case rr4Q5 => kernel_rfl
          case hw4Q5 => rfl
          case hy4Q5 =>
            intro w hSw
            (try dsimp only at hSw)
            first
            | (go_simp; done)
            | (go_simp; with_reducible rfl)
          try simp only [Act.put, List.setIfInBounds_toArray, List.set_cons_zero, List.set_cons_succ]
          refine wpAnyH_take (i := 6) (oi := ?oi6Q5) (v := ?v6Q5) ?oi0_6Q5 (by kernel_rfl) ?ff6Q5 ?rr6Q5 ?hq6Q5 (Or.inl ⟨?hw6Q5, ?hy6Q5⟩) (by assumption) ?rest6Q5
          case oi0_6Q5 =>
            conv =>
              lhs
              whnf
              arg 1
              whnf
          case hq6Q5 => exact fun _ _ _ h => h
          case ff6Q5 => kernel_rfl
          case rr6Q5 => kernel_rfl
          case hw6Q5 => rfl
          case hy6Q5 =>
            intro w hSw
            (try dsimp only at hSw)
            first
            | (go_simp; done)
            | (go_simp; with_reducible rfl)
          try simp only [Act.put, List.setIfInBounds_toArray, List.set_cons_zero, List.set_cons_succ]
          refine wpAnyH_take (i := 7) (oi := ?oi7Q5) (v := ?v7Q5) ?oi0_7Q5 (by kernel_rfl) ?ff7Q5 ?rr7Q5 ?hq7Q5 (Or.inl ⟨?hw7Q5, ?hy7Q5⟩) (by assumption) ?rest7Q5
          case oi0_7Q5 =>
            conv =>
              lhs
              whnf
              arg 1
              whnf
          case hq7Q5 => exact fun _ _ _ h => h
          case ff7Q5 => kernel_rfl
          case rr7Q5 => kernel_rfl
          case hw7Q5 => rfl
          case hy7Q5 =>
            intro w hSw
            (try dsimp only at hSw)
            first
            | (go_simp; done)
            | (go_simp; with_reducible rfl)
          try simp only [Act.put, List.setIfInBounds_toArray, List.set_cons_zero, List.set_cons_succ]
          refine wpAnyH_take (i := 8) (oi := ?oi8Q5) (v := ?v8Q5) ?oi0_8Q5 (by kernel_rfl) ?ff8Q5 ?rr8Q5 ?hq8Q5 (Or.inl ⟨?hw8Q5, ?hy8Q5⟩) (by assumption) ?rest8Q5
          case oi0_8Q5 =>
            conv =>
              lhs
              whnf
              arg 1
              whnf
          case hq8Q5 => exact fun _ _ _ h => h
          case ff8Q5 => kernel_rfl
          case rr8Q5 => kernel_rfl
          case hw8Q5 => rfl
          case hy8Q5 =>
            intro w hSw
            (try dsimp only at hSw)
            first
            | (go_simp; done)
            | (go_simp; with_reducible rfl)
          try simp only [Act.put, List.setIfInBounds_toArray, List.set_cons_zero, List.set_cons_succ]
          refine wpAnyH_ready (rs := [5]) (by kernel_rfl) (by simp) (AllReadyH.cons (o := ?oi5Q5) ?oi0_5Q5 (fun K hK => ?_) AllReadyH.nil)
          case oi0_5Q5 =>
            conv =>
              lhs
              whnf
              arg 1
              whnf
          go_simp
          (try dsimp only)
          refine hK.out _ _ (VE.out.alloc _) (fun hHeld => ?_)
          clear hK K
          try simp only [Act.put, List.setIfInBounds_toArray, List.set_cons_zero, List.set_cons_succ]
          refine wpAnyH_ready (rs := [9]) (by kernel_rfl) (by simp) (AllReadyH.cons (o := ?oi9Q5) ?oi0_9Q5 (fun K hK => ?_) AllReadyH.nil)
          case oi0_9Q5 =>
            conv =>
              lhs
              whnf
              arg 1
              whnf
          refine step_append_src rfl (.tmp 59) (.tmp 62) _ rfl wE.heap.size 3 _ 1 8 Try.underlying26 it_info_int rfl (by decide) (some ⟨wE.heap.size, 0, none⟩) 1 1 [.int .i64 z] rfl (own_new _ _ _ _ (Nat.le_refl _)) (some ⟨g, at_, none⟩) (n - at_) _ ((L.drop at_).map (Value.int .i64)) rfl HNW.out (HSRC.out _ (VE.out.alloc _)) HN1.out O1.out O2.out (by rw [World.size_alloc]; omega) ?_
          intro A5 c5 w5 h5 u5
          obtain ⟨g5, cur5, hA5, hg5, hb5⟩ := it_own_some h5 O5.out
          subst hA5
          have V5 := hide ((VE.out.alloc _).trans u5 (fun y hy => .inr (by
            have : y = wE.heap.size := by simpa using hy
            have := VE.out.size
            omega)))
          have H5 := hide h5
          clear h5 u5 hg5 hb5
          (try dsimp only)
          refine hK.out _ _ (V5.out) (fun hHeld => ?_)
          clear hK K
          try simp only [Act.put, List.setIfInBounds_toArray, List.set_cons_zero, List.set_cons_succ]
          refine wpAnyH_ready (rs := [10]) (by kernel_rfl) (by simp) (AllReadyH.cons (o := ?oi10Q5) ?oi0_10Q5 (fun K hK => ?_) AllReadyH.nil)
          case oi0_10Q5 =>
            conv =>
              lhs
              whnf
              arg 1
              whnf
          refine step_append_fresh rfl (.tmp 57) (.tmp 63) _ rfl 3 _ 8 Try.underlying26 it_info_int (some ⟨g, 0, none⟩) at_ ((L.take at_).map (Value.int .i64)) rfl HXL.out (HOLD.out _ V5.out) ⟨g5, 0, none⟩ (1 + (n - at_)) c5 ([Value.int .i64 z] ++ ((L.drop at_).map (Value.int .i64))) rfl (by rw [H5.out.1, Nat.mul_one]) O5.out (World.ownsRow.cells H5.out (g := g5) rfl) O3.out O4.out ?_
          intro c9 w9 h9 h9m h9s h9c u9
          have V9 := hide (V5.out.trans u9 (by simp))
          have A9 := hide (AP9.out w5 c9 w9 h9 h9m h9s h9c)
          clear h9 h9m h9s h9c u9
          (try dsimp only)
          refine hK.out _ _ (V9.out) (fun hHeld => ?_)
          clear hK K
          try simp only [Act.put, List.setIfInBounds_toArray, List.set_cons_zero, List.set_cons_succ]
          refine wpAnyH_take (i := 11) (oi := ?oi11Q5) (v := ?v11Q5) ?oi0_11Q5 (by kernel_rfl) ?ff11Q5 ?rr11Q5 ?hq11Q5 (Or.inl ⟨?hw11Q5, ?hy11Q5⟩) (by assumption) ?rest11Q5
          case oi0_11Q5 =>
            conv =>
              lhs
              whnf
              arg 1
              whnf
          case hq11Q5 => exact fun _ _ _ h => h
          case ff11Q5 => kernel_rfl
          case rr11Q5 => kernel_rfl
          case hw11Q5 => rfl
          case hy11Q5 =>
            intro w hSw
            (try dsimp only at hSw)
            first
            | (go_simp; done)
            | (go_simp; with_reducible rfl)
          try simp only [Act.put, List.setIfInBounds_toArray, List.set_cons_zero, List.set_cons_succ]
          refine wpAnyH_done (by kernel_rfl) ?_ _
          go_wp2_with fail
          go_roundw
          case rel => exact ⟨some ⟨w5.heap.size, 0, none⟩, at_ + (1 + (n - at_)), c9, k + 1, insAt L at_ z, by omega, rfl, by go_num, by omega, A9, HINS, hide (VQ.out.trans V9.out (by simp))⟩
          case measure => simp [intOf] <;> omega
end Go.Proofs.Ytpkeimdlcafcnaa

namespace Go.Proofs.Ytpkeimdlcafcnaa
open Go.RowKit
set_option maxRecDepth 100000
set_option maxHeartbeats 1000000

theorem asc_len2 : ∀ {l : List Int} {a b : Int}, l.Pairwise (· < ·) → (∀ x ∈ l, a ≤ x ∧ x ≤ b) → l.length ≤ (b - a + 1).toNat
  | [], _, _, _, _ => Nat.zero_le _
  | x :: l, a, b, h, hb => by
    obtain ⟨h1, h2⟩ := List.pairwise_cons.1 h
    have hx := hb x (by simp)
    have := asc_len2 (l := l) (a := x + 1) (b := b) h2 fun y hy => ⟨by have := h1 y hy; omega, (hb y (by simp [hy])).2⟩
    rw [List.length_cons]
    omega
theorem lens_len {i : It} (h : ItOk i) : (lengthsS i).length ≤ 3600 := by
  have := asc_len2 (lengthsS_asc i) (a := 1) (b := 3600) fun x hx => by
    rw [mem_lengthsS] at hx
    unfold allLens at hx
    obtain ⟨s, _, rfl⟩ := List.mem_map.1 hx
    have h1 := cutLen_pos h s
    have h2 := cutLen_le h (bitsS s i.trims.length)
    have h3 := h.1.2.2.2
    exact ⟨h1, by omega⟩
  simpa using this
theorem best_len {i : It} (h : ItOk i) {wanted : Int} {c : List Int} (hc : bestOf i wanted (List.range (2 ^ i.trims.length)) = some c) : c.length ≤ 4 := by
  by_cases hs : ∃ s, cutLen i (bitsS s i.trims.length) = wanted
  · obtain ⟨s, hs⟩ := hs
    obtain ⟨b, r, h1, h2, _⟩ := best_yes wanted s hs
    rw [h1] at hc
    cases hc
    rw [← h2]
    exact Nat.le_trans (bitsS_length _ _) h.2.1.1.2
  · rw [best_no wanted fun s e => hs ⟨s, e⟩] at hc
    cases hc
theorem own_at {w' : World} {base e n : Nat} {v : Value} {l : List Int} (h : w'.ownsRow base e 1 v n (l.map (Value.int .i64))) (hn : n = l.length) : ∃ A c, v = .slice A l.length c ∧ Ints w'.heap.size w' (.slice A l.length c) l := by
  subst hn
  obtain ⟨A, c, rfl⟩ := own_form h
  exact ⟨A, c, rfl, it_own_ints h⟩

section
variable (i : It) (ta : Option Addr) (tc : Nat) (ka : Option Addr) (kc : Nat) (W0 : World) (it : ItAt W0 i ta ka) (h1 : i.trims.length ≤ 6) (h2 : i.talks.length ≤ 6)
include it h1 h2
theorem valid_pair : ∃ v : Bool, (∀ W, Upd [] W0 W → Calls Try.prog 12 #[.agg #[.int .i64 i.id, .int .i64 i.kind, .int .i64 i.len, .slice ta i.trims.length tc, .slice ka i.talks.length kc, .int .i64 i.artist, .int .i64 i.tempo, .int .i64 i.lang]] W fun e w' => e = .returned (.bool v) ∧ Upd [] W w') ∧
    (∀ W, Upd [] W0 W → Calls Try.prog 13 #[.agg #[.int .i64 i.id, .int .i64 i.kind, .int .i64 i.len, .slice ta i.trims.length tc, .slice ka i.talks.length kc, .int .i64 i.artist, .int .i64 i.tempo, .int .i64 i.lang]] W fun e w' => e = .returned (.bool v) ∧ Upd [] W w') :=
  ⟨decide (ItOk i), fun W hW => valid_it i ta tc ka kc W (it.upd hW).trims (it.upd hW).talks (Nat.le_refl _) (by unfold maxLen; omega) (by unfold maxLen; omega), fun W hW => refValid i ta tc ka kc W (it.upd hW) (by unfold maxLen; omega) (by unfold maxLen; omega)⟩
theorem lengths_pair : ∃ (L : List Int) (E : Int), L.length ≤ 3600 ∧ (∀ W, Upd [] W0 W → Calls Try.prog 14 #[.agg #[.int .i64 i.id, .int .i64 i.kind, .int .i64 i.len, .slice ta i.trims.length tc, .slice ka i.talks.length kc, .int .i64 i.artist, .int .i64 i.tempo, .int .i64 i.lang]] W fun e w' => ∃ A c, e = .returned (.tuple #[.slice A L.length c, .int .i64 E]) ∧ Ints w'.heap.size w' (.slice A L.length c) L ∧ Upd [] W w') ∧
    (∀ W, Upd [] W0 W → Calls Try.prog 15 #[.agg #[.int .i64 i.id, .int .i64 i.kind, .int .i64 i.len, .slice ta i.trims.length tc, .slice ka i.talks.length kc, .int .i64 i.artist, .int .i64 i.tempo, .int .i64 i.lang]] W fun e w' => ∃ A c, e = .returned (.tuple #[.slice A L.length c, .int .i64 E]) ∧ Ints w'.heap.size w' (.slice A L.length c) L ∧ Upd [] W w') := by
  by_cases h : ItOk i
  · refine ⟨lengthsS i, 0, lens_len h, fun W hW => ?_, fun W hW => ?_⟩
    · refine (itemLengths i ta tc ka kc W (it.upd hW).trims (it.upd hW).talks (Nat.le_refl _) (by unfold maxLen; omega) (by unfold maxLen; omega)).mono fun e w' h9 => ?_
      unfold LengthsPost at h9
      rw [if_pos h] at h9
      obtain ⟨v, rfl, ho, hu⟩ := h9
      obtain ⟨A, c, rfl, hi⟩ := own_at ho rfl
      exact ⟨A, c, rfl, hi, hu⟩
    · refine (refLengths i ta tc ka kc W (it.upd hW) (by unfold maxLen; omega) (by unfold maxLen; omega)).mono fun e w' h9 => ?_
      unfold RLensPost at h9
      rw [if_pos h] at h9
      obtain ⟨A, n, c, rfl, rfl, hi, hu⟩ := h9
      exact ⟨A, c, rfl, hi, hu⟩
  · refine ⟨[], 70, Nat.zero_le _, fun W hW => ?_, fun W hW => ?_⟩
    · refine (itemLengths i ta tc ka kc W (it.upd hW).trims (it.upd hW).talks (Nat.le_refl _) (by unfold maxLen; omega) (by unfold maxLen; omega)).mono fun e w' h9 => ?_
      unfold LengthsPost at h9
      rw [if_neg h] at h9
      exact ⟨none, 0, h9.1, .inl ⟨none, 0, rfl, rfl⟩, h9.2⟩
    · refine (refLengths i ta tc ka kc W (it.upd hW) (by unfold maxLen; omega) (by unfold maxLen; omega)).mono fun e w' h9 => ?_
      unfold RLensPost at h9
      rw [if_neg h] at h9
      exact ⟨none, 0, h9.1, .inl ⟨none, 0, rfl, rfl⟩, h9.2⟩
theorem encode_pair : ∃ (s : ByteArray) (E : Int), (∀ W, Upd [] W0 W → Calls Try.prog 16 #[.agg #[.int .i64 i.id, .int .i64 i.kind, .int .i64 i.len, .slice ta i.trims.length tc, .slice ka i.talks.length kc, .int .i64 i.artist, .int .i64 i.tempo, .int .i64 i.lang]] W fun e w' => e = .returned (.tuple #[.string s, .int .i64 E]) ∧ Upd [] W w') ∧
    (∀ W, Upd [] W0 W → Calls Try.prog 17 #[.agg #[.int .i64 i.id, .int .i64 i.kind, .int .i64 i.len, .slice ta i.trims.length tc, .slice ka i.talks.length kc, .int .i64 i.artist, .int .i64 i.tempo, .int .i64 i.lang]] W fun e w' => e = .returned (.tuple #[.string s, .int .i64 E]) ∧ Upd [] W w') := by
  by_cases h : ItOk i
  · refine ⟨⟨(encS i).toArray⟩, 0, fun W hW => ?_, fun W hW => ?_⟩
    · refine (itemEncode i ta tc ka kc W (it.upd hW).trims (it.upd hW).talks (Nat.le_refl _) (by unfold maxLen; omega) (by unfold maxLen; omega)).mono fun e w' h9 => ?_
      unfold EncodePost at h9
      rwa [if_pos h] at h9
    · refine (refEncode i ta tc ka kc W (it.upd hW) (by unfold maxLen; omega) (by unfold maxLen; omega)).mono fun e w' h9 => ?_
      unfold EncodePost at h9
      rwa [if_pos h] at h9
  · refine ⟨⟨#[]⟩, 70, fun W hW => ?_, fun W hW => ?_⟩
    · refine (itemEncode i ta tc ka kc W (it.upd hW).trims (it.upd hW).talks (Nat.le_refl _) (by unfold maxLen; omega) (by unfold maxLen; omega)).mono fun e w' h9 => ?_
      unfold EncodePost at h9
      rwa [if_neg h] at h9
    · refine (refEncode i ta tc ka kc W (it.upd hW) (by unfold maxLen; omega) (by unfold maxLen; omega)).mono fun e w' h9 => ?_
      unfold EncodePost at h9
      rwa [if_neg h] at h9
theorem cut_pair (k : Int) : ∃ (L : List Int) (E : Int), L.length ≤ 4 ∧ (∀ W, Upd [] W0 W → Calls Try.prog 20 #[.agg #[.int .i64 i.id, .int .i64 i.kind, .int .i64 i.len, .slice ta i.trims.length tc, .slice ka i.talks.length kc, .int .i64 i.artist, .int .i64 i.tempo, .int .i64 i.lang], .int .i64 k] W fun e w' => ∃ A c, e = .returned (.tuple #[.slice A L.length c, .int .i64 E]) ∧ Ints w'.heap.size w' (.slice A L.length c) L ∧ Upd [] W w') ∧
    (∀ W, Upd [] W0 W → Calls Try.prog 21 #[.agg #[.int .i64 i.id, .int .i64 i.kind, .int .i64 i.len, .slice ta i.trims.length tc, .slice ka i.talks.length kc, .int .i64 i.artist, .int .i64 i.tempo, .int .i64 i.lang], .int .i64 k] W fun e w' => ∃ A c, e = .returned (.tuple #[.slice A L.length c, .int .i64 E]) ∧ Ints w'.heap.size w' (.slice A L.length c) L ∧ Upd [] W w') := by
  cases hb : (if ItOk i then bestOf i k (List.range (2 ^ i.trims.length)) else none) with
  | none =>
    refine ⟨[], 70, Nat.zero_le _, fun W hW => ?_, fun W hW => ?_⟩
    · refine (itemCut i ta tc ka kc k W (it.upd hW).trims (it.upd hW).talks (Nat.le_refl _) (by unfold maxLen; omega) (by unfold maxLen; omega)).mono fun e w' h9 => ?_
      unfold CutPost at h9
      rw [hb] at h9
      exact ⟨none, 0, h9.2, .inl ⟨none, 0, rfl, rfl⟩, h9.1⟩
    · refine (refCut i ta tc ka kc k W (it.upd hW) (by unfold maxLen; omega) (by unfold maxLen; omega)).mono fun e w' h9 => ?_
      obtain ⟨⟨_, rfl⟩ | ⟨h, A, n, c, f, hbest, rfl⟩, hu⟩ := h9
      · exact ⟨none, 0, rfl, .inl ⟨none, 0, rfl, rfl⟩, hu⟩
      · rw [if_pos h] at hb
        rcases hbest with ⟨rfl, _⟩ | ⟨rfl, b, h8, _⟩
        · exact ⟨none, 0, rfl, .inl ⟨none, 0, rfl, rfl⟩, hu⟩
        · rw [hb] at h8; cases h8
  | some b =>
    have h : ItOk i := by
      by_cases h : ItOk i
      · exact h
      · rw [if_neg h] at hb; cases hb
    have hb' := hb
    rw [if_pos h] at hb'
    refine ⟨b, 0, best_len h hb', fun W hW => ?_, fun W hW => ?_⟩
    · refine (itemCut i ta tc ka kc k W (it.upd hW).trims (it.upd hW).talks (Nat.le_refl _) (by unfold maxLen; omega) (by unfold maxLen; omega)).mono fun e w' h9 => ?_
      unfold CutPost at h9
      rw [hb] at h9
      obtain ⟨hu, v, rfl, ho⟩ := h9
      obtain ⟨A, c, rfl, hi⟩ := own_at ho rfl
      exact ⟨A, c, rfl, hi, hu⟩
    · refine (refCut i ta tc ka kc k W (it.upd hW) (by unfold maxLen; omega) (by unfold maxLen; omega)).mono fun e w' h9 => ?_
      obtain ⟨⟨h0, _⟩ | ⟨_, A, n, c, f, hbest, rfl⟩, hu⟩ := h9
      · exact absurd h h0
      · rcases hbest with ⟨_, h8, _⟩ | ⟨rfl, b2, h8, rfl, _, hi⟩
        · rw [hb'] at h8; cases h8
        · rw [hb'] at h8
          cases h8
          exact ⟨A, c, rfl, hi, hu⟩

section
variable (a : Option Addr) (n c : Nat) (xs : List Int) (hC : Ints W0.heap.size W0 (.slice a n c) xs) (hm : n ≤ maxLen)
include hC hm
theorem length_pair : ∃ (r E : Int), (0 ≤ r ∧ r ≤ 3600) ∧ (∀ W, Upd [] W0 W → Calls Try.prog 24 #[.agg #[.int .i64 i.id, .int .i64 i.kind, .int .i64 i.len, .slice ta i.trims.length tc, .slice ka i.talks.length kc, .int .i64 i.artist, .int .i64 i.tempo, .int .i64 i.lang], .slice a n c] W fun e w' => e = .returned (.tuple #[.int .i64 r, .int .i64 E]) ∧ Upd [] W w') ∧
    (∀ W, Upd [] W0 W → Calls Try.prog 25 #[.agg #[.int .i64 i.id, .int .i64 i.kind, .int .i64 i.len, .slice ta i.trims.length tc, .slice ka i.talks.length kc, .int .i64 i.artist, .int .i64 i.tempo, .int .i64 i.lang], .slice a n c] W fun e w' => e = .returned (.tuple #[.int .i64 r, .int .i64 E]) ∧ Upd [] W w') := by
  by_cases h : ItOk i ∧ CutOk i.trims.length xs
  · have hp : 0 ≤ cutLen i xs := by
      have := cutLen_por h.1 h.2
      have := (porL_mono (cutOk_row h.1 h.2) 0 i.len (by have := h.1.1.2.2.1; omega)).2
      rw [porL_low (cutOk_row h.1 h.2) 0 (Int.le_refl _)] at this
      have := h.1.1.2.2
      omega
    have hl := cutLen_le h.1 xs
    have h36 := h.1.1.2.2.2
    refine ⟨cutLen i xs, 0, ⟨hp, by omega⟩, fun W hW => ?_, fun W hW => ?_⟩
    · refine (itemLength i ta tc ka kc a n c xs W (it.upd hW).trims (it.upd hW).talks (Nat.le_refl _) (by unfold maxLen; omega) (by unfold maxLen; omega) (keepI hC hW) (Nat.le_refl _) hm).mono fun e w' h9 => ?_
      rwa [if_pos h] at h9
    · refine (refLength i ta tc ka kc a n c xs W (it.upd hW) (by unfold maxLen; omega) (by unfold maxLen; omega) (keepI hC hW) hm).mono fun e w' h9 => ?_
      rwa [if_pos h] at h9
  · refine ⟨0, 70, by omega, fun W hW => ?_, fun W hW => ?_⟩
    · refine (itemLength i ta tc ka kc a n c xs W (it.upd hW).trims (it.upd hW).talks (Nat.le_refl _) (by unfold maxLen; omega) (by unfold maxLen; omega) (keepI hC hW) (Nat.le_refl _) hm).mono fun e w' h9 => ?_
      rwa [if_neg h] at h9
    · refine (refLength i ta tc ka kc a n c xs W (it.upd hW) (by unfold maxLen; omega) (by unfold maxLen; omega) (keepI hC hW) hm).mono fun e w' h9 => ?_
      rwa [if_neg h] at h9
theorem talk_pair : ∃ (L : List Sp) (E : Int), L.length ≤ 3600 ∧ (∀ W, Upd [] W0 W → Calls Try.prog 26 #[.agg #[.int .i64 i.id, .int .i64 i.kind, .int .i64 i.len, .slice ta i.trims.length tc, .slice ka i.talks.length kc, .int .i64 i.artist, .int .i64 i.tempo, .int .i64 i.lang], .slice a n c] W fun e w' => ∃ A c', e = .returned (.tuple #[.slice A L.length c', .int .i64 E]) ∧ SpsAt w'.heap.size w' A L ∧ Upd [] W w') ∧
    (∀ W, Upd [] W0 W → Calls Try.prog 27 #[.agg #[.int .i64 i.id, .int .i64 i.kind, .int .i64 i.len, .slice ta i.trims.length tc, .slice ka i.talks.length kc, .int .i64 i.artist, .int .i64 i.tempo, .int .i64 i.lang], .slice a n c] W fun e w' => ∃ A c', e = .returned (.tuple #[.slice A L.length c', .int .i64 E]) ∧ SpsAt w'.heap.size w' A L ∧ Upd [] W w') := by
  by_cases h : ItOk i ∧ CutOk i.trims.length xs
  · have hl := cutLen_le h.1 xs
    have h36 := h.1.1.2.2.2
    have key : ∀ W e w', TalkPost i xs W e w' → ∃ A c', e = .returned (.tuple #[.slice A (talkS (beforeS i.trims xs) i.talks).length c', .int .i64 0]) ∧ SpsAt w'.heap.size w' A (talkS (beforeS i.trims xs) i.talks) ∧ Upd [] W w' := fun W e w' h9 => by
      unfold TalkPost at h9
      rw [if_pos h] at h9
      obtain ⟨v, rfl, ho, hu⟩ := h9
      obtain ⟨A, c', rfl⟩ := own_form ho
      exact ⟨A, c', rfl, own_sps ho, hu⟩
    refine ⟨talkS (beforeS i.trims xs) i.talks, 0, by have := sep_len (talk_any h.1 h.2).1; omega, fun W hW => ?_, fun W hW => ?_⟩
    · exact (itemTalk i ta tc ka kc a n c xs W (it.upd hW).trims (it.upd hW).talks (Nat.le_refl _) (by unfold maxLen; omega) (by unfold maxLen; omega) (keepI hC hW) (Nat.le_refl _) hm).mono fun e w' h9 => key W e w' h9
    · exact (refTalk i ta tc ka kc a n c xs W (it.upd hW) (by unfold maxLen; omega) (by unfold maxLen; omega) (keepI hC hW) hm).mono fun e w' h9 => key W e w' h9
  · have key : ∀ W e w', TalkPost i xs W e w' → ∃ A c', e = .returned (.tuple #[.slice A ([] : List Sp).length c', .int .i64 70]) ∧ SpsAt w'.heap.size w' A ([] : List Sp) ∧ Upd [] W w' := fun W e w' h9 => by
      unfold TalkPost at h9
      rw [if_neg h] at h9
      exact ⟨none, 0, h9.1, fun i s hs => by simp at hs, h9.2⟩
    refine ⟨[], 70, Nat.zero_le _, fun W hW => ?_, fun W hW => ?_⟩
    · exact (itemTalk i ta tc ka kc a n c xs W (it.upd hW).trims (it.upd hW).talks (Nat.le_refl _) (by unfold maxLen; omega) (by unfold maxLen; omega) (keepI hC hW) (Nat.le_refl _) hm).mono fun e w' h9 => key W e w' h9
    · exact (refTalk i ta tc ka kc a n c xs W (it.upd hW) (by unfold maxLen; omega) (by unfold maxLen; omega) (keepI hC hW) hm).mono fun e w' h9 => key W e w' h9
theorem place_pair (k : Int) : ∃ (r E : Int), (∀ W, Upd [] W0 W → Calls Try.prog 29 #[.agg #[.int .i64 i.id, .int .i64 i.kind, .int .i64 i.len, .slice ta i.trims.length tc, .slice ka i.talks.length kc, .int .i64 i.artist, .int .i64 i.tempo, .int .i64 i.lang], .slice a n c, .int .i64 k] W fun e w' => e = .returned (.tuple #[.int .i64 r, .int .i64 E]) ∧ Upd [] W w') ∧
    (∀ W, Upd [] W0 W → Calls Try.prog 30 #[.agg #[.int .i64 i.id, .int .i64 i.kind, .int .i64 i.len, .slice ta i.trims.length tc, .slice ka i.talks.length kc, .int .i64 i.artist, .int .i64 i.tempo, .int .i64 i.lang], .slice a n c, .int .i64 k] W fun e w' => e = .returned (.tuple #[.int .i64 r, .int .i64 E]) ∧ Upd [] W w') := by
  by_cases h : (ItOk i ∧ CutOk i.trims.length xs) ∧ 0 ≤ k ∧ k < cutLen i xs
  · refine ⟨placeS i.trims xs k, 0, fun W hW => ?_, fun W hW => ?_⟩
    · refine (itemPlace i ta tc ka kc a n c xs k W (it.upd hW).trims (it.upd hW).talks (Nat.le_refl _) (by unfold maxLen; omega) (by unfold maxLen; omega) (keepI hC hW) (Nat.le_refl _) hm).mono fun e w' h9 => ?_
      rwa [if_pos h] at h9
    · refine (refPlace i ta tc ka kc a n c xs k W (it.upd hW) (by unfold maxLen; omega) (by unfold maxLen; omega) (keepI hC hW) hm).mono fun e w' h9 => ?_
      rwa [if_pos h] at h9
  · refine ⟨0, 70, fun W hW => ?_, fun W hW => ?_⟩
    · refine (itemPlace i ta tc ka kc a n c xs k W (it.upd hW).trims (it.upd hW).talks (Nat.le_refl _) (by unfold maxLen; omega) (by unfold maxLen; omega) (keepI hC hW) (Nat.le_refl _) hm).mono fun e w' h9 => ?_
      rwa [if_neg h] at h9
    · refine (refPlace i ta tc ka kc a n c xs k W (it.upd hW) (by unfold maxLen; omega) (by unfold maxLen; omega) (keepI hC hW) hm).mono fun e w' h9 => ?_
      rwa [if_neg h] at h9
theorem heard_pair (k : Int) : ∃ (r E : Int), (∀ W, Upd [] W0 W → Calls Try.prog 31 #[.agg #[.int .i64 i.id, .int .i64 i.kind, .int .i64 i.len, .slice ta i.trims.length tc, .slice ka i.talks.length kc, .int .i64 i.artist, .int .i64 i.tempo, .int .i64 i.lang], .slice a n c, .int .i64 k] W fun e w' => e = .returned (.tuple #[.int .i64 r, .int .i64 E]) ∧ Upd [] W w') ∧
    (∀ W, Upd [] W0 W → Calls Try.prog 32 #[.agg #[.int .i64 i.id, .int .i64 i.kind, .int .i64 i.len, .slice ta i.trims.length tc, .slice ka i.talks.length kc, .int .i64 i.artist, .int .i64 i.tempo, .int .i64 i.lang], .slice a n c, .int .i64 k] W fun e w' => e = .returned (.tuple #[.int .i64 r, .int .i64 E]) ∧ Upd [] W w') := by
  by_cases h : (ItOk i ∧ CutOk i.trims.length xs) ∧ 0 ≤ k ∧ k < i.len
  · refine ⟨heardS i.trims xs k k, 0, fun W hW => ?_, fun W hW => ?_⟩
    · refine (itemHeard i ta tc ka kc a n c xs k W (it.upd hW).trims (it.upd hW).talks (Nat.le_refl _) (by unfold maxLen; omega) (by unfold maxLen; omega) (keepI hC hW) (Nat.le_refl _) hm).mono fun e w' h9 => ?_
      rwa [if_pos h] at h9
    · refine (refHeard i ta tc ka kc a n c xs k W (it.upd hW) (by unfold maxLen; omega) (by unfold maxLen; omega) (keepI hC hW) hm).mono fun e w' h9 => ?_
      rwa [if_pos h] at h9
  · refine ⟨0, 70, fun W hW => ?_, fun W hW => ?_⟩
    · refine (itemHeard i ta tc ka kc a n c xs k W (it.upd hW).trims (it.upd hW).talks (Nat.le_refl _) (by unfold maxLen; omega) (by unfold maxLen; omega) (keepI hC hW) (Nat.le_refl _) hm).mono fun e w' h9 => ?_
      rwa [if_neg h] at h9
    · refine (refHeard i ta tc ka kc a n c xs k W (it.upd hW) (by unfold maxLen; omega) (by unfold maxLen; omega) (keepI hC hW) hm).mono fun e w' h9 => ?_
      rwa [if_neg h] at h9
end
end
end Go.Proofs.Ytpkeimdlcafcnaa
