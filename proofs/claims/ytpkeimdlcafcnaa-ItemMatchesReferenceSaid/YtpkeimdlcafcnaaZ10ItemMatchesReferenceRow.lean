/-
  item.Talk.
-/
import Derived.Test.YtpkeimdlcafcnaaZ9ItemMatchesReferenceRow
import Derived.Deep.CutBlock
import Derived.Deep.RegionHeld3
import Derived.Deep.QuietTactic
import Derived.BigQuiet

namespace Go.Proofs.Ytpkeimdlcafcnaa
open Go.RowKit
set_option maxRecDepth 100000
set_option maxHeartbeats 20000000

/-- One spell more, as Talk lays it. -/
def talkStep (f : Int → Int) (l : List Sp) (t : Sp) : List Sp :=
  if f t.fr = f t.to_ then l else
  match l.getLast? with
  | some r => if r.to_ = f t.fr then l.dropLast ++ [⟨r.fr, f t.to_⟩] else l ++ [⟨f t.fr, f t.to_⟩]
  | none => l ++ [⟨f t.fr, f t.to_⟩]
def talkS (f : Int → Int) (l : List Sp) : List Sp := l.foldl (talkStep f) []
theorem talkS_snoc (f : Int → Int) (l : List Sp) (t : Sp) : talkS f (l ++ [t]) = talkStep f (talkS f l) t := by
  unfold talkS
  rw [List.foldl_append]
  rfl
def spCells (l : List Sp) : List Value := l.flatMap fun s => [.int .i64 s.fr, .int .i64 s.to_]
theorem spCells_length (l : List Sp) : (spCells l).length = l.length * 2 := by
  unfold spCells
  induction l with
  | nil => rfl
  | cons s l ih => rw [List.flatMap_cons, List.length_append, ih, List.length_cons]; simp; omega
theorem spCells_append (l m : List Sp) : spCells (l ++ m) = spCells l ++ spCells m := by simp [spCells]
theorem spCells_at {l : List Sp} {k : Nat} {s : Sp} (h : l[k]? = some s) : (spCells l)[k * 2]? = some (.int .i64 s.fr) ∧ (spCells l)[k * 2 + 1]? = some (.int .i64 s.to_) := by
  induction l generalizing k with
  | nil => simp at h
  | cons x l ih =>
    have e : spCells (x :: l) = .int .i64 x.fr :: .int .i64 x.to_ :: spCells l := rfl
    rw [e]
    cases k with
    | zero =>
      obtain rfl : x = s := by simpa using h
      exact ⟨rfl, rfl⟩
    | succ k =>
      have := ih (k := k) (by simpa using h)
      rw [show (k + 1) * 2 = k * 2 + 1 + 1 by omega]
      simpa using this
theorem it_own_set {w : World} {base e size n g cap : Nat} {xs : List Value} (h : w.ownsRow base e size (.slice (some ⟨g, 0, none⟩) n cap) n xs) (k : Nat) (u : Value) :
    (w.setCell ⟨g, k, none⟩ u).ownsRow base e size (.slice (some ⟨g, 0, none⟩) n cap) n (xs.set k u) := by
  refine ⟨by rw [List.length_set]; exact h.1, ?_⟩
  rcases h.2 with ⟨hv, _⟩ | ⟨g', cap', cur, hv, hb, hg, h1, h2, h3, h4⟩
  · cases hv
  · obtain ⟨rfl, rfl⟩ : g = g' ∧ cap = cap' := by simpa using hv
    refine .inr ⟨g, cap, cur.setIfInBounds k u, rfl, hb, ?_, h1, h2, by simpa using h3, ?_⟩
    · simp [World.setCell, Array.getElem?_modify, hg]
    · rw [← h4, Array.toList_setIfInBounds, List.take_set]
theorem it_info_spell : (Try.prog.info? 53).map (fun i => (i.zero, i.size, i.bytes)) = some (some (.agg #[.int .i64 0, .int .i64 0]), 2, 16) := by kernel_rfl

theorem spCells_setLast (L : List Sp) (r : Sp) (m : Nat) (y : Int) (hm : L.length = m) : (spCells (L ++ [r])).set (m * 2 + 1) (.int .i64 y) = spCells (L ++ [⟨r.fr, y⟩]) := by
  rw [spCells_append, spCells_append, List.set_append_right _ _ (by rw [spCells_length]; omega), spCells_length, hm, show m * 2 + 1 - m * 2 = 1 by omega]
  rfl
theorem it_own_some {w : World} {base e size n c : Nat} {A : Option Addr} {xs : List Value} (h : w.ownsRow base e size (.slice A n c) n xs) (hn : 0 < n) : ∃ g cur, A = some ⟨g, 0, none⟩ ∧ base ≤ g ∧ w.heap[g]? = some (.cells cur e (0, 0)) := by
  rcases h.2 with ⟨_, h0⟩ | ⟨g, cap, cur, hv, hb, hg, _⟩
  · omega
  · obtain ⟨rfl, rfl⟩ : A = some ⟨g, 0, none⟩ ∧ c = cap := by simpa using hv
    exact ⟨g, cur, rfl, hb, hg⟩
def TalkPost (i : It) (cut : List Int) (w : World) (e : Ending) (w' : World) : Prop :=
  if ItOk i ∧ CutOk i.trims.length cut then ∃ v, e = .returned (.tuple #[v, .int .i64 0]) ∧ w'.ownsRow w.heap.size 53 2 v (talkS (beforeS i.trims cut) i.talks).length (spCells (talkS (beforeS i.trims cut) i.talks)) ∧ Upd [] w w'
  else e = .returned (.tuple #[.slice none 0 0, .int .i64 70]) ∧ Upd [] w w'

theorem itemTalk {n₀ n₁ : Nat} (i : It) (ta : Option Addr) (tc : Nat) (ka : Option Addr) (kc : Nat) (ca : Option Addr) (cn cc : Nat) (cut : List Int) (w : World) (hT : SpsAt n₀ w ta i.trims) (hK : SpsAt n₀ w ka i.talks) (hn : n₀ ≤ w.heap.size) (hm : i.trims.length ≤ maxLen) (hm2 : i.talks.length ≤ maxLen)
    (hC : Ints n₁ w (.slice ca cn cc) cut) (hn1 : n₁ ≤ w.heap.size) (hm3 : cn ≤ maxLen) :
    Calls Try.prog 26 #[.agg #[.int .i64 i.id, .int .i64 i.kind, .int .i64 i.len, .slice ta i.trims.length tc, .slice ka i.talks.length kc, .int .i64 i.artist, .int .i64 i.tempo, .int .i64 i.lang], .slice ca cn cc] w (TalkPost i cut w) := by
  obtain ⟨tn, htn⟩ : ∃ n, i.trims.length = n := ⟨_, rfl⟩
  obtain ⟨kn, hkn⟩ : ∃ n, i.talks.length = n := ⟨_, rfl⟩
  have L1 := Blk.new w 24 [.int .i64 i.id, .int .i64 i.kind, .int .i64 i.len, .slice ta i.trims.length tc, .slice ka i.talks.length kc, .int .i64 i.artist, .int .i64 i.tempo, .int .i64 i.lang]
  have L2 := Blk.new (w.alloc (.cells #[.int .i64 i.id, .int .i64 i.kind, .int .i64 i.len, .slice ta i.trims.length tc, .slice ka i.talks.length kc, .int .i64 i.artist, .int .i64 i.tempo, .int .i64 i.lang] 24)) 26 [.slice ca cn cc]
  have L3 := L1.alloc (.cells #[.slice ca cn cc] 26)
  have u1 := ((Upd.refl [] w).alloc (.cells #[.int .i64 i.id, .int .i64 i.kind, .int .i64 i.len, .slice ta i.trims.length tc, .slice ka i.talks.length kc, .int .i64 i.artist, .int .i64 i.tempo, .int .i64 i.lang] 24)).alloc (.cells #[.slice ca cn cc] 26)
  have VA := isCut_it i ta tc ka kc ca cn cc cut _ (hT.upd u1 hn (by simp)) (hK.upd u1 hn (by simp)) (Nat.le_trans hn u1.size) hm hm2 (ints_upd hC u1 hn1 (by simp)) (Nat.le_trans hn1 u1.size) hm3
  obtain ⟨q, hq⟩ : ∃ q, decide (ItOk i ∧ CutOk i.trims.length cut) = q := ⟨_, rfl⟩
  rw [hq] at VA
  rw [htn, hkn] at VA u1 L1 L2 L3 ⊢
  have HQ := hide hq
  have HTN := hide htn
  have HKN := hide hkn
  have HT := hide hT
  have HK := hide hK
  have HC := hide hC
  have k0 := L3.cell 0
  have k1 := L3.cell 1
  have k2 := L3.cell 2
  have k3 := L3.cell 3
  have k4 := L3.cell 4
  have k5 := L3.cell 5
  have k6 := L3.cell 6
  have k7 := L3.cell 7
  have kc0 := L2.cell 0
  rw [World.size_alloc] at kc0
  have HV := hide VA
  have U1 := hide u1
  have hcm : cn ≤ 9223372036854775807 := by unfold maxLen at hm3; omega
  have hmf : ∀ (fn : Fn) (first cap : Array Value) (w : World), (Instr.makeFunc fn first cap).run Try.prog w = .ok (.func fn first cap) w := fun _ _ _ _ => rfl
  clear hT hK hm hm2 hC VA u1 L1 L2 L3 htn hkn hq
  go_enter Try.func26, Try.ntmps26
  go_wp2_with fail
  refine HV.out.mono ?_
  rintro e w1 ⟨rfl, u⟩
  have U2 := hide (U1.out.trans u (by simp))
  have m3 := keepc _ _ _ _ u k3
  have m4 := keepc _ _ _ _ u k4
  have mc0 := keepc _ _ _ _ u kc0
  have M3 := hide m3
  have MC0 := hide mc0
  clear u k0 k1 k2 k3 k4 k5 k6 k7 kc0
  cases q with
  | false =>
    have HP := hide (show ∀ w', Upd [] w w' → TalkPost i cut w (.returned (.tuple #[.slice none 0 0, .int .i64 70])) w' from fun w' h => by
      unfold TalkPost
      rw [if_neg (of_decide_eq_false HQ.out)]
      exact ⟨rfl, h⟩)
    go_wp2_with fail
    go_ret2
    exact HP.out _ U2.out
  | true =>
  have HIT := hide (of_decide_eq_true HQ.out)
  have hkn4 : kn ≤ 4 := by have := HIT.out.1.2.1.2.2; have := HKN.out; omega
  have hlen2 := HIT.out.1.1.2.2.2
  have HP := hide (show ∀ v w', w'.ownsRow w.heap.size 53 2 v (talkS (beforeS i.trims cut) i.talks).length (spCells (talkS (beforeS i.trims cut) i.talks)) → Upd [] w w' → TalkPost i cut w (.returned (.tuple #[v, .int .i64 0])) w' from fun v w' h1 h2 => by
    unfold TalkPost
    rw [if_pos HIT.out]
    exact ⟨v, rfl, h1, h2⟩)
  go_wp2_with fail
  go_loopw [7, 20] (fun s7 s20 wr => ∃ (k : Nat) (A : Option Addr) (n c : Nat) (L : List Sp), k ≤ kn ∧ s20 = .int .i64 k ∧ s7 = .slice A n c ∧ n ≤ k ∧ Hid (L = talkS (beforeS i.trims cut) (i.talks.take k)) ∧ Hid (n = L.length) ∧ Hid (wr.ownsRow w1.heap.size 53 2 (.slice A n c) n (spCells L)) ∧ Hid (Upd [] w1 wr)) (fun _ k _ => kn - (intOf k).toNat)
  case atStart => exact ⟨0, none, 0, 0, [], Nat.zero_le _, rfl, rfl, Nat.le_refl _, hide (by rw [List.take_zero]; rfl), rfl, World.ownsRow_nil _ _ _ _, Upd.refl _ _⟩
  case round =>
    obtain ⟨k, A, n, c, L, hk, rfl, rfl, hnk, hL, hnL, hown, hu⟩ := hrel
    obtain ⟨wo, rfl⟩ : ∃ wo : World, wo = wr := ⟨_, rfl⟩
    by_cases hkl : k < kn
    · obtain ⟨t, ht⟩ : ∃ t, i.talks[k]? = some t := ⟨_, List.getElem?_eq_getElem (by have := HKN.out; omega)⟩
      obtain ⟨b, o, ea, hb, c0, c1⟩ := (HK.out.upd (U2.out.trans hu.out (by simp)) hn (by simp)) k t ht
      subst ea
      have d4 := keepc _ _ _ _ hu.out m4
      obtain ⟨hi1, hi2, hi3⟩ := sp_in HIT.out.1.2.1.2 (List.mem_of_getElem? ht)
      have hki : (k : Int) < kn := by omega
      obtain ⟨f, hf⟩ : ∃ f, beforeS i.trims cut = f := ⟨_, rfl⟩
      have TB := hide (show ∀ x : Int, 0 ≤ x → x ≤ 3600 → ∀ W, Upd [] wo W → Calls Try.prog 59 #[.int .i64 x, .pointer (some ⟨w.heap.size + 1, 0, none⟩), .pointer (some ⟨w.heap.size, 0, none⟩)] W fun e w' => e = .returned (.int .i64 (f x)) ∧ Upd [] W w' from fun x h0 h1 W hW => by
        have hW1 := hu.out.trans hW (by simp)
        have hW0 := (U2.out.trans hu.out (by simp)).trans hW (by simp)
        rw [← hf]
        exact talkBefore i HIT.out.1 ta tc ca cn cc cut HIT.out.2 x h0 h1 (w.heap.size + 1) w.heap.size W (keepc _ _ _ _ hW1 MC0.out) (by rw [HTN.out]; exact keepc _ _ _ _ hW1 M3.out) (HT.out.upd hW0 hn (by simp)) (Nat.le_trans hn hW0.size) (ints_upd HC.out hW0 hn1 (by simp)))
      have HST := hide (show talkS f (i.talks.take (k + 1)) = talkStep f L t by
        rw [List.take_add_one, ht, Option.toList_some, talkS_snoc, hL.out, hf])
      have HF := hide hf
      obtain ⟨x, hx⟩ : ∃ x, f t.fr = x := ⟨_, rfl⟩
      obtain ⟨y, hy⟩ : ∃ y, f t.to_ = y := ⟨_, rfl⟩
      have TB1 := hide (show ∀ W, Upd [] wo W → Calls Try.prog 59 #[.int .i64 t.fr, .pointer (some ⟨w.heap.size + 1, 0, none⟩), .pointer (some ⟨w.heap.size, 0, none⟩)] W fun e w' => e = .returned (.int .i64 x) ∧ Upd [] W w' from fun W hW => by rw [← hx]; exact TB.out _ (by omega) (by omega) W hW)
      have TB2 := hide (show ∀ W, Upd [] wo W → Calls Try.prog 59 #[.int .i64 t.to_, .pointer (some ⟨w.heap.size + 1, 0, none⟩), .pointer (some ⟨w.heap.size, 0, none⟩)] W fun e w' => e = .returned (.int .i64 y) ∧ Upd [] W w' from fun W hW => by rw [← hy]; exact TB.out _ (by omega) (by omega) W hW)
      have HX := hide hx
      have HY := hide hy
      have B1 := Blk.new wo 53 [.int .i64 t.fr, .int .i64 t.to_]
      have u2 := (Upd.refl [] wo).alloc (.cells #[.int .i64 t.fr, .int .i64 t.to_] 53)
      have j0 := B1.cell 0
      have j1 := B1.cell 1
      have HB1 := hide B1
      have V2 := hide u2
      clear ht hb B1 u2 hf hx hy TB
      go_wp2_with fail
      obtain ⟨wA, hwA⟩ : ∃ wA, wo.alloc (.cells #[.int .i64 t.fr, .int .i64 t.to_] 53) = wA := ⟨_, rfl⟩
      rw [hwA] at HB1 V2 j0 j1 ⊢
      have hzA : wo.heap.size + 1 = wA.heap.size := by rw [← hwA]; simp
      have HZ := hide hzA
      clear hwA hzA
      have SX := hide (show ∀ W', Upd [] wA W' → W'.cell? ⟨wo.heap.size, 0, none⟩ = some (.int .i64 t.fr) ∧ W'.cell? ⟨wo.heap.size, 1, none⟩ = some (.int .i64 t.to_) ∧ Upd [] wA W' from fun W' h => ⟨keepc _ _ _ _ h j0, keepc _ _ _ _ h j1, h⟩)
      go_upto_region 9 with fail
      go_cut [10] from 24 to 32 (fun s10 wx => ∃ b2, s10 = .pointer (some ⟨b2, 0, none⟩) ∧ Hid (wA.heap.size ≤ b2) ∧ Hid (Blk wx b2 53 [.int .i64 x, .int .i64 y]) ∧ Hid (Upd [] wA wx))
      case first =>
        have U0 := hide ((Upd.refl [] wA).drew)
        refine wp_region_held_drew (S := (fun w' => w'.cell? ⟨wo.heap.size, 0, none⟩ = some (.int .i64 t.fr) ∧ w'.cell? ⟨wo.heap.size, 1, none⟩ = some (.int .i64 t.to_) ∧ Upd [] wA w')) (by kernel_rfl) (SX.out _ U0.out) (fun hHeld => ?_)
        obtain ⟨wD, hwD⟩ : ∃ wD, wA.drew = wD := ⟨_, rfl⟩
        rw [hwD] at U0 hHeld ⊢
        clear hwD
        refine wpAnyH_take (i := 0) (oi := ?oi0R1) (v := ?v0R1) ?oi0_0R1 (by kernel_rfl) ?ff0R1 ?rr0R1 ?hq0R1 (Or.inl ⟨?hw0R1, ?hy0R1⟩) (by assumption) ?rest0R1
        case oi0_0R1 =>
          conv =>
            lhs
            whnf
            arg 1
            whnf
        case hq0R1 => exact fun _ _ _ h => h
        case ff0R1 => kernel_rfl
        case rr0R1 => kernel_rfl
        case hw0R1 => rfl
        case hy0R1 =>
          intro w hSw
          (try dsimp only at hSw)
          first
          | (go_simp; done)
          | (go_simp; with_reducible rfl)
        try simp only [Act.put, List.setIfInBounds_toArray, List.set_cons_zero, List.set_cons_succ]
        refine wpAnyH_take (i := 1) (oi := ?oi1R1) (v := ?v1R1) ?oi0_1R1 (by kernel_rfl) ?ff1R1 ?rr1R1 ?hq1R1 (Or.inl ⟨?hw1R1, ?hy1R1⟩) (by assumption) ?rest1R1
        case oi0_1R1 =>
          conv =>
            lhs
            whnf
            arg 1
            whnf
        case hq1R1 => exact fun _ _ _ h => h
        case ff1R1 => kernel_rfl
        case rr1R1 => kernel_rfl
        case hw1R1 => rfl
        case hy1R1 =>
          intro w hSw
          (try dsimp only at hSw)
          first
          | (go_simp; done)
          | (go_simp; with_reducible rfl)
        try simp only [Act.put, List.setIfInBounds_toArray, List.set_cons_zero, List.set_cons_succ]
        refine wpAnyH_take (i := 2) (oi := ?oi2R1) (v := ?v2R1) ?oi0_2R1 (by kernel_rfl) ?ff2R1 ?rr2R1 ?hq2R1 (Or.inl ⟨?hw2R1, ?hy2R1⟩) (by assumption) ?rest2R1
        case oi0_2R1 =>
          conv =>
            lhs
            whnf
            arg 1
            whnf
        case hq2R1 => exact fun _ _ _ h => h
        case ff2R1 => kernel_rfl
        case rr2R1 => kernel_rfl
        case hw2R1 => rfl
        case hy2R1 =>
          intro w hSw
          (try dsimp only at hSw)
          first
          | (go_simp; done)
          | (go_simp; with_reducible rfl)
        try simp only [Act.put, List.setIfInBounds_toArray, List.set_cons_zero, List.set_cons_succ]
        refine wpAnyH_take (i := 4) (oi := ?oi4R1) (v := ?v4R1) ?oi0_4R1 (by kernel_rfl) ?ff4R1 ?rr4R1 ?hq4R1 (Or.inl ⟨?hw4R1, ?hy4R1⟩) (by assumption) ?rest4R1
        case oi0_4R1 =>
          conv =>
            lhs
            whnf
            arg 1
            whnf
        case hq4R1 => exact fun _ _ _ h => h
        case ff4R1 => kernel_rfl
        case rr4R1 => kernel_rfl
        case hw4R1 => rfl
        case hy4R1 =>
          intro w hSw
          (try dsimp only at hSw)
          first
          | (go_simp; done)
          | (go_simp; with_reducible rfl)
        try simp only [Act.put, List.setIfInBounds_toArray, List.set_cons_zero, List.set_cons_succ]
        refine wpAnyH_take (i := 5) (oi := ?oi5R1) (v := ?v5R1) ?oi0_5R1 (by kernel_rfl) ?ff5R1 ?rr5R1 ?hq5R1 (Or.inl ⟨?hw5R1, ?hy5R1⟩) (by assumption) ?rest5R1
        case oi0_5R1 =>
          conv =>
            lhs
            whnf
            arg 1
            whnf
        case hq5R1 => exact fun _ _ _ h => h
        case ff5R1 => kernel_rfl
        case rr5R1 => kernel_rfl
        case hw5R1 => rfl
        case hy5R1 =>
          intro w hSw
          (try dsimp only at hSw)
          first
          | (go_simp; done)
          | (go_simp; with_reducible rfl)
        try simp only [Act.put, List.setIfInBounds_toArray, List.set_cons_zero, List.set_cons_succ]
        refine wpAnyH_take (i := 6) (oi := ?oi6R1) (v := ?v6R1) ?oi0_6R1 (by kernel_rfl) ?ff6R1 ?rr6R1 ?hq6R1 (Or.inl ⟨?hw6R1, ?hy6R1⟩) (by assumption) ?rest6R1
        case oi0_6R1 =>
          conv =>
            lhs
            whnf
            arg 1
            whnf
        case hq6R1 => exact fun _ _ _ h => h
        case ff6R1 => kernel_rfl
        case rr6R1 => kernel_rfl
        case hw6R1 => rfl
        case hy6R1 =>
          intro w hSw
          (try dsimp only at hSw)
          first
          | (go_simp; done)
          | (go_simp; with_reducible rfl)
        try simp only [Act.put, List.setIfInBounds_toArray, List.set_cons_zero, List.set_cons_succ]
        refine wpAnyH_ready (rs := [3, 9]) (by kernel_rfl) (by simp) (AllReadyH.cons (o := ?oi3R13) ?oi0_3R13 (fun K hK => ?k3R13) (AllReadyH.cons (o := ?oi9R13) ?oi0_9R13 (fun K hK => ?k9R13) (AllReadyH.nil)))
        case oi0_3R13 =>
          conv =>
            lhs
            whnf
            arg 1
            whnf
        case oi0_9R13 =>
          conv =>
            lhs
            whnf
            arg 1
            whnf
        case k3R13 =>
          go_simp
          go_at_call 59
          have TT := TB1.out _ (V2.out.trans U0.out (by simp))
          with_reducible (refine TT.mono ?_)
          clear TT
          rintro e v1 ⟨rfl, uu⟩
          have U1 := hide (U0.out.trans uu (by simp))
          clear uu
          (try dsimp only)
          refine hK.out _ _ (SX.out _ U1.out) (fun hHeld => ?_)
          clear hK K
          try simp only [Act.put, List.setIfInBounds_toArray, List.set_cons_zero, List.set_cons_succ]
          refine wpAnyH_ready (rs := [7, 9]) (by kernel_rfl) (by simp) (AllReadyH.cons (o := ?oi7R8R13) ?oi0_7R8R13 (fun K hK => ?k7R8R13) (AllReadyH.cons (o := ?oi9R8R13) ?oi0_9R8R13 (fun K hK => ?k9R8R13) (AllReadyH.nil)))
          case oi0_7R8R13 =>
            conv =>
              lhs
              whnf
              arg 1
              whnf
          case oi0_9R8R13 =>
            conv =>
              lhs
              whnf
              arg 1
              whnf
          case k7R8R13 =>
            go_simp
            go_at_call 59
            have TT := TB2.out _ (V2.out.trans U1.out (by simp))
            with_reducible (refine TT.mono ?_)
            clear TT
            rintro e v2 ⟨rfl, uu⟩
            have U2 := hide (U1.out.trans uu (by simp))
            clear uu
            (try dsimp only)
            refine hK.out _ _ (SX.out _ U2.out) (fun hHeld => ?_)
            clear hK K
            try simp only [Act.put, List.setIfInBounds_toArray, List.set_cons_zero, List.set_cons_succ]
            refine wpAnyH_take (i := 8) (oi := ?oi8R2R8R13) (v := ?v8R2R8R13) ?oi0_8R2R8R13 (by kernel_rfl) ?ff8R2R8R13 ?rr8R2R8R13 ?hq8R2R8R13 (Or.inl ⟨?hw8R2R8R13, ?hy8R2R8R13⟩) (by assumption) ?rest8R2R8R13
            case oi0_8R2R8R13 =>
              conv =>
                lhs
                whnf
                arg 1
                whnf
            case hq8R2R8R13 => exact fun _ _ _ h => h
            case ff8R2R8R13 => kernel_rfl
            case rr8R2R8R13 => kernel_rfl
            case hw8R2R8R13 => rfl
            case hy8R2R8R13 =>
              intro w hSw
              (try dsimp only at hSw)
              first
              | (go_simp; done)
              | (go_simp; with_reducible rfl)
            try simp only [Act.put, List.setIfInBounds_toArray, List.set_cons_zero, List.set_cons_succ]
            refine wpAnyH_ready (rs := [9]) (by kernel_rfl) (by simp) (AllReadyH.cons (o := ?oi9R4R8R13) ?oi0_9R4R8R13 (fun K hK => ?k9R4R8R13) (AllReadyH.nil))
            case oi0_9R4R8R13 =>
              conv =>
                lhs
                whnf
                arg 1
                whnf
            case k9R4R8R13 =>
              go_simp
              have U3 := hide (U2.out.alloc (.cells #[.int .i64 0, .int .i64 0] 53))
              have B3 := hide (Blk.new v2 53 [.int .i64 0, .int .i64 0])
              have Z9 := hide (show wA.heap.size ≤ v2.heap.size from U2.out.size)
              have ga3 := B3.out.cell 0
              have gb3 := B3.out.cell 1
              have fa3 := B3.out.frozen 0
              have fb3 := B3.out.frozen 1
              (try dsimp only)
              refine hK.out _ _ (SX.out _ U3.out) (fun hHeld => ?_)
              clear hK K
              try simp only [Act.put, List.setIfInBounds_toArray, List.set_cons_zero, List.set_cons_succ]
              refine wpAnyH_ready (rs := [10]) (by kernel_rfl) (by simp) (AllReadyH.cons (o := ?oi10R3R4R8R13) ?oi0_10R3R4R8R13 (fun K hK => ?_) AllReadyH.nil)
              case oi0_10R3R4R8R13 =>
                conv =>
                  lhs
                  whnf
                  arg 1
                  whnf
              go_simp
              (try dsimp only)
              refine hK.out _ _ (SX.out _ (U2.out.alloc _)) (fun hHeld => ?_)
              clear hK K
              try simp only [Act.put, List.setIfInBounds_toArray, List.set_cons_zero, List.set_cons_succ]
              refine wpAnyH_done (by kernel_rfl) ?_ _
              go_wp2_with fail
              go_meet
              exact ⟨v2.heap.size, rfl, U2.out.size, Blk.new v2 53 [.int .i64 x, .int .i64 y], U2.out.alloc _⟩
          case k9R8R13 =>
            go_simp
            have U4 := hide (U1.out.alloc (.cells #[.int .i64 0, .int .i64 0] 53))
            have B4 := hide (Blk.new v1 53 [.int .i64 0, .int .i64 0])
            have Z9 := hide (show wA.heap.size ≤ v1.heap.size from U1.out.size)
            have ga4 := B4.out.cell 0
            have gb4 := B4.out.cell 1
            have fa4 := B4.out.frozen 0
            have fb4 := B4.out.frozen 1
            (try dsimp only)
            refine hK.out _ _ (SX.out _ U4.out) (fun hHeld => ?_)
            clear hK K
            try simp only [Act.put, List.setIfInBounds_toArray, List.set_cons_zero, List.set_cons_succ]
            refine wpAnyH_ready (rs := [7]) (by kernel_rfl) (by simp) (AllReadyH.cons (o := ?oi7R7R8R13) ?oi0_7R7R8R13 (fun K hK => ?k7R7R8R13) (AllReadyH.nil))
            case oi0_7R7R8R13 =>
              conv =>
                lhs
                whnf
                arg 1
                whnf
            case k7R7R8R13 =>
              go_simp
              go_at_call 59
              have TT := TB2.out _ (V2.out.trans U4.out (by simp))
              with_reducible (refine TT.mono ?_)
              clear TT
              rintro e v5 ⟨rfl, uu⟩
              have U5 := hide (U4.out.trans uu (by simp))
              have B5 := hide (B4.out.upd uu (by simp))
              have ga5 := B5.out.cell 0
              have gb5 := B5.out.cell 1
              have fa5 := B5.out.frozen 0
              have fb5 := B5.out.frozen 1
              clear uu
              (try dsimp only)
              refine hK.out _ _ (SX.out _ U5.out) (fun hHeld => ?_)
              clear hK K
              try simp only [Act.put, List.setIfInBounds_toArray, List.set_cons_zero, List.set_cons_succ]
              refine wpAnyH_take (i := 8) (oi := ?oi8R5R7R8R13) (v := ?v8R5R7R8R13) ?oi0_8R5R7R8R13 (by kernel_rfl) ?ff8R5R7R8R13 ?rr8R5R7R8R13 ?hq8R5R7R8R13 (Or.inl ⟨?hw8R5R7R8R13, ?hy8R5R7R8R13⟩) (by assumption) ?rest8R5R7R8R13
              case oi0_8R5R7R8R13 =>
                conv =>
                  lhs
                  whnf
                  arg 1
                  whnf
              case hq8R5R7R8R13 => exact fun _ _ _ h => h
              case ff8R5R7R8R13 => kernel_rfl
              case rr8R5R7R8R13 => kernel_rfl
              case hw8R5R7R8R13 => rfl
              case hy8R5R7R8R13 =>
                intro w hSw
                (try dsimp only at hSw)
                first
                | (go_simp; done)
                | (go_simp; with_reducible rfl)
              try simp only [Act.put, List.setIfInBounds_toArray, List.set_cons_zero, List.set_cons_succ]
              refine wpAnyH_ready (rs := [10]) (by kernel_rfl) (by simp) (AllReadyH.cons (o := ?oi10R6R7R8R13) ?oi0_10R6R7R8R13 (fun K hK => ?_) AllReadyH.nil)
              case oi0_10R6R7R8R13 =>
                conv =>
                  lhs
                  whnf
                  arg 1
                  whnf
              go_simp
              (try dsimp only)
              refine hK.out _ _ (SX.out _ ((U5.out.setCell (.inr Z9.out) _).setCell (.inr Z9.out) _)) (fun hHeld => ?_)
              clear hK K
              try simp only [Act.put, List.setIfInBounds_toArray, List.set_cons_zero, List.set_cons_succ]
              refine wpAnyH_done (by kernel_rfl) ?_ _
              go_wp2_with fail
              go_meet
              exact ⟨v1.heap.size, rfl, Z9.out, (B5.out.set_ 0 (.int .i64 x)).set_ 1 (.int .i64 y), (U5.out.setCell (.inr Z9.out) _).setCell (.inr Z9.out) _⟩
        case k9R13 =>
          go_simp
          have U6 := hide (U0.out.alloc (.cells #[.int .i64 0, .int .i64 0] 53))
          have B6 := hide (Blk.new wD 53 [.int .i64 0, .int .i64 0])
          have Z9 := hide (show wA.heap.size ≤ wD.heap.size from U0.out.size)
          have ga6 := B6.out.cell 0
          have gb6 := B6.out.cell 1
          have fa6 := B6.out.frozen 0
          have fb6 := B6.out.frozen 1
          (try dsimp only)
          refine hK.out _ _ (SX.out _ U6.out) (fun hHeld => ?_)
          clear hK K
          try simp only [Act.put, List.setIfInBounds_toArray, List.set_cons_zero, List.set_cons_succ]
          refine wpAnyH_ready (rs := [3]) (by kernel_rfl) (by simp) (AllReadyH.cons (o := ?oi3R12R13) ?oi0_3R12R13 (fun K hK => ?k3R12R13) (AllReadyH.nil))
          case oi0_3R12R13 =>
            conv =>
              lhs
              whnf
              arg 1
              whnf
          case k3R12R13 =>
            go_simp
            go_at_call 59
            have TT := TB1.out _ (V2.out.trans U6.out (by simp))
            with_reducible (refine TT.mono ?_)
            clear TT
            rintro e v7 ⟨rfl, uu⟩
            have U7 := hide (U6.out.trans uu (by simp))
            have B7 := hide (B6.out.upd uu (by simp))
            have ga7 := B7.out.cell 0
            have gb7 := B7.out.cell 1
            have fa7 := B7.out.frozen 0
            have fb7 := B7.out.frozen 1
            clear uu
            (try dsimp only)
            refine hK.out _ _ (SX.out _ U7.out) (fun hHeld => ?_)
            clear hK K
            try simp only [Act.put, List.setIfInBounds_toArray, List.set_cons_zero, List.set_cons_succ]
            refine wpAnyH_ready (rs := [7]) (by kernel_rfl) (by simp) (AllReadyH.cons (o := ?oi7R11R12R13) ?oi0_7R11R12R13 (fun K hK => ?k7R11R12R13) (AllReadyH.nil))
            case oi0_7R11R12R13 =>
              conv =>
                lhs
                whnf
                arg 1
                whnf
            case k7R11R12R13 =>
              go_simp
              go_at_call 59
              have TT := TB2.out _ (V2.out.trans U7.out (by simp))
              with_reducible (refine TT.mono ?_)
              clear TT
              rintro e v8 ⟨rfl, uu⟩
              have U8 := hide (U7.out.trans uu (by simp))
              have B8 := hide (B7.out.upd uu (by simp))
              have ga8 := B8.out.cell 0
              have gb8 := B8.out.cell 1
              have fa8 := B8.out.frozen 0
              have fb8 := B8.out.frozen 1
              clear uu
              (try dsimp only)
              refine hK.out _ _ (SX.out _ U8.out) (fun hHeld => ?_)
              clear hK K
              try simp only [Act.put, List.setIfInBounds_toArray, List.set_cons_zero, List.set_cons_succ]
              refine wpAnyH_take (i := 8) (oi := ?oi8R9R11R12R13) (v := ?v8R9R11R12R13) ?oi0_8R9R11R12R13 (by kernel_rfl) ?ff8R9R11R12R13 ?rr8R9R11R12R13 ?hq8R9R11R12R13 (Or.inl ⟨?hw8R9R11R12R13, ?hy8R9R11R12R13⟩) (by assumption) ?rest8R9R11R12R13
              case oi0_8R9R11R12R13 =>
                conv =>
                  lhs
                  whnf
                  arg 1
                  whnf
              case hq8R9R11R12R13 => exact fun _ _ _ h => h
              case ff8R9R11R12R13 => kernel_rfl
              case rr8R9R11R12R13 => kernel_rfl
              case hw8R9R11R12R13 => rfl
              case hy8R9R11R12R13 =>
                intro w hSw
                (try dsimp only at hSw)
                first
                | (go_simp; done)
                | (go_simp; with_reducible rfl)
              try simp only [Act.put, List.setIfInBounds_toArray, List.set_cons_zero, List.set_cons_succ]
              refine wpAnyH_ready (rs := [10]) (by kernel_rfl) (by simp) (AllReadyH.cons (o := ?oi10R10R11R12R13) ?oi0_10R10R11R12R13 (fun K hK => ?_) AllReadyH.nil)
              case oi0_10R10R11R12R13 =>
                conv =>
                  lhs
                  whnf
                  arg 1
                  whnf
              go_simp
              (try dsimp only)
              refine hK.out _ _ (SX.out _ ((U8.out.setCell (.inr Z9.out) _).setCell (.inr Z9.out) _)) (fun hHeld => ?_)
              clear hK K
              try simp only [Act.put, List.setIfInBounds_toArray, List.set_cons_zero, List.set_cons_succ]
              refine wpAnyH_done (by kernel_rfl) ?_ _
              go_wp2_with fail
              go_meet
              exact ⟨wD.heap.size, rfl, Z9.out, (B8.out.set_ 0 (.int .i64 x)).set_ 1 (.int .i64 y), (U8.out.setCell (.inr Z9.out) _).setCell (.inr Z9.out) _⟩
      case rest =>
        obtain ⟨b2, rfl, hb2, hB2, hU2⟩ := hcut
        have HR := hide (own_kept hown.out (V2.out.trans hU2.out (by simp)) (by simp))
        have UC := hide (hu.out.trans (V2.out.trans hU2.out (by simp)) (by simp))
        have e0 := hB2.out.cell 0
        have e1 := hB2.out.cell 1
        by_cases hxy : x = y
        · subst hxy
          have HE := hide (show talkS (beforeS i.trims cut) (i.talks.take (k + 1)) = L by
            rw [HF.out, HST.out]
            unfold talkStep
            rw [HX.out, HY.out, if_pos rfl])
          go_wp2_with fail
          go_roundw
          case rel => exact ⟨k + 1, A, n, c, L, by omega, by go_num, rfl, by omega, hide HE.out.symm, hnL, HR, UC⟩
          case measure => simp [intOf] <;> omega
        · have hxyb : (x == y) = false := by simpa using hxy
          have HST2 := hide (show talkS (beforeS i.trims cut) (i.talks.take (k + 1)) = match L.getLast? with | some r => if r.to_ = x then L.dropLast ++ [⟨r.fr, y⟩] else L ++ [⟨x, y⟩] | none => L ++ [⟨x, y⟩] by
            rw [HF.out, HST.out]
            unfold talkStep
            rw [HX.out, HY.out, if_neg hxy])
          have O1 := hide (show ∀ u ∈ [Value.int .i64 x, Value.int .i64 y], u.oneCell' = true by simp [Value.oneCell'])
          have O3 := hide (show n + 1 ≤ maxLen by unfold maxLen; omega)
          have O4 := hide (show (n + 1) * 16 ≤ 140737488355328 by omega)
          have OB := hide (show ∀ W, Upd [] wc W → (W.alloc (.cells #[.int .i64 x, .int .i64 y] 53)).ownsRow w1.heap.size 53 2 (.slice A n c) n (spCells L) from fun W hW => (own_kept HR.out hW (by simp)).alloc _)
          have OS := hide (show ∀ W, Upd [] wc W → w1.heap.size ≤ (W.alloc (.cells #[.int .i64 x, .int .i64 y] 53)).heap.size from fun W hW => by have := UC.out.size; have := hW.size; rw [World.size_alloc]; omega)
          have AP := hide (show ∀ W, Upd [] wc W → ∀ A5 c5 w5, w5.ownsRow w1.heap.size 53 2 (.slice A5 (n + 1) c5) (n + 1) (spCells L ++ [.int .i64 x, .int .i64 y]) → Upd (A.map (·.block)).toList (W.alloc (.cells #[.int .i64 x, .int .i64 y] 53)) w5 → (n + 1 = (L ++ [(⟨x, y⟩ : Sp)]).length ∧ w5.ownsRow w1.heap.size 53 2 (.slice A5 (n + 1) c5) (n + 1) (spCells (L ++ [(⟨x, y⟩ : Sp)])) ∧ Upd [] w1 w5) from fun W hW A5 c5 w5 h5 u5 => ⟨by rw [List.length_append, hnL.out]; rfl, by rw [spCells_append]; exact h5, ((UC.out.trans hW (by simp)).alloc _).trans u5 (fun z hz => .inr (it_own_block HR.out z (by rw [ownBlock_slice]; simpa using hz)))⟩)
          clear hxy
          rcases Nat.eq_zero_or_pos n with hn0 | hn0
          · subst hn0
            have HE := hide (show talkS (beforeS i.trims cut) (i.talks.take (k + 1)) = L ++ [⟨x, y⟩] by
              rw [HST2.out, List.eq_nil_of_length_eq_zero hnL.out.symm]
              rfl)
            go_wp2_with fail
            go_quiet (fail)
            obtain ⟨wd, hwd⟩ : ∃ wd, wc.drewN nq = wd := ⟨_, rfl⟩
            have UD := hide (show Upd [] wc wd by rw [← hwd]; exact (Upd.refl _ _).drewN _)
            have j2 := keepc _ _ _ _ UD.out e0
            have j3 := keepc _ _ _ _ UD.out e1
            rw [hwd]
            clear hwd
            go_wp2_with (at_builtin; refine wpList_append_base rfl (.tmp 35) (.tmp 37) _ rfl w1.heap.size 53 _ 2 16 Try.underlying22 it_info_spell rfl (by decide) A 0 c _ rfl (OB.out _ UD.out) ⟨_, 0, none⟩ 1 1 [.int .i64 x, .int .i64 y] rfl rfl (cell_two_new _ _ _ _) O1.out O3.out O4.out (OS.out _ UD.out) ?_; intro A5 c5 w5 h5 u5 _; have H5 := hide (AP.out _ UD.out A5 c5 w5 h5 u5); clear h5 u5)
            go_roundw
            case rel => exact ⟨k + 1, A5, 1, c5, L ++ [⟨x, y⟩], by omega, by go_num, rfl, by omega, hide HE.out.symm, hide H5.out.1, hide H5.out.2.1, hide H5.out.2.2⟩
            case measure => simp [intOf] <;> omega
          · obtain ⟨g, cur, hA, hgb, hgc⟩ := it_own_some HR.out hn0
            subst hA
            obtain ⟨m, hm⟩ : ∃ m, m + 1 = n := ⟨n - 1, by omega⟩
            subst hm
            have hLne : L ≠ [] := fun h => by have := hnL.out; rw [h] at this; cases this
            obtain ⟨L', r, hLL⟩ : ∃ L' r, L' ++ [r] = L := ⟨L.dropLast, L.getLast hLne, List.dropLast_concat_getLast hLne⟩
            subst hLL
            have hL'm : L'.length = m := by have := hnL.out; simp at this; omega
            have HLM := hide hL'm
            have hcell : wc.cell? ⟨g, m * 2 + 1, none⟩ = some (.int .i64 r.to_) := by
              have h1 := World.ownsRow.cells HR.out (g := g) rfl (m * 2 + 1) (.int .i64 r.to_) (by
                have := (spCells_at (l := L' ++ [r]) (k := m) (s := r) (by simp [hL'm])).2
                simpa using this)
              have e : (⟨g, 0, none⟩ : Addr).add (m * 2 + 1) = ⟨g, m * 2 + 1, none⟩ := by unfold Addr.add; split <;> simp_all
              rwa [e] at h1
            have hfro : ∀ W, Upd [] wc W → W.frozen? ⟨g, m * 2 + 1, none⟩ = false := fun W hW => by
              have h1 := (hW.block g (Array.getElem?_eq_some_iff.1 hgc).1 (by simp)).trans hgc
              simp [World.frozen?, h1]
            have HC1 := hide hcell
            have HFR := hide hfro
            have HGB := hide hgb
            have hwm : IntKind.i64.wrap ((m : Int) + 1 - 1) = (m : Int) := by rw [Go.IntWalk.i64_in _ (by omega)]; omega
            have hwm2 : IntKind.i64.wrap (m : Int) = (m : Int) := Go.IntWalk.i64_in _ (by omega)
            have hm0 : 0 < (m : Int) + 1 := by omega
            have hm1 : (m : Int) < (m : Int) + 1 := by omega
            clear hLne hL'm hcell hfro hgc hgb
            by_cases hrx : r.to_ = x
            · have hrxb : (r.to_ == x) = true := by simpa using hrx
              have HE := hide (show talkS (beforeS i.trims cut) (i.talks.take (k + 1)) = L' ++ [⟨r.fr, y⟩] by
                rw [HST2.out]
                simp [hrx])
              clear hrx
              go_wp2_with fail
              refine wp_region_held_drew (S := (fun w' => w'.cell? ⟨g, m * 2 + 1, none⟩ = some (.int .i64 r.to_) ∧ w'.cell? ⟨b2, 0, none⟩ = some (.int .i64 x))) (by kernel_rfl) (by exact ⟨HC1.out, e0⟩) (fun hHeld => ?_)
              refine wpAnyH_take (i := 0) (oi := ?oi0R14) (v := ?v0R14) ?oi0_0R14 (by kernel_rfl) ?ff0R14 ?rr0R14 ?hq0R14 (Or.inl ⟨?hw0R14, ?hy0R14⟩) (by assumption) ?rest0R14
              case oi0_0R14 =>
                conv =>
                  lhs
                  whnf
                  arg 1
                  whnf
              case hq0R14 => exact fun _ _ _ h => h
              case ff0R14 => kernel_rfl
              case rr0R14 => kernel_rfl
              case hw0R14 => rfl
              case hy0R14 =>
                intro w hSw
                (try dsimp only at hSw)
                first
                | (go_simp; done)
                | (go_simp; with_reducible rfl)
              try simp only [Act.put, List.setIfInBounds_toArray, List.set_cons_zero, List.set_cons_succ]
              refine wpAnyH_take (i := 1) (oi := ?oi1R14) (v := ?v1R14) ?oi0_1R14 (by kernel_rfl) ?ff1R14 ?rr1R14 ?hq1R14 (Or.inl ⟨?hw1R14, ?hy1R14⟩) (by assumption) ?rest1R14
              case oi0_1R14 =>
                conv =>
                  lhs
                  whnf
                  arg 1
                  whnf
              case hq1R14 => exact fun _ _ _ h => h
              case ff1R14 => kernel_rfl
              case rr1R14 => kernel_rfl
              case hw1R14 => rfl
              case hy1R14 =>
                intro w hSw
                (try dsimp only at hSw)
                first
                | (go_simp; done)
                | (go_simp; with_reducible rfl)
              try simp only [Act.put, List.setIfInBounds_toArray, List.set_cons_zero, List.set_cons_succ]
              refine wpAnyH_take (i := 2) (oi := ?oi2R14) (v := ?v2R14) ?oi0_2R14 (by kernel_rfl) ?ff2R14 ?rr2R14 ?hq2R14 (Or.inl ⟨?hw2R14, ?hy2R14⟩) (by assumption) ?rest2R14
              case oi0_2R14 =>
                conv =>
                  lhs
                  whnf
                  arg 1
                  whnf
              case hq2R14 => exact fun _ _ _ h => h
              case ff2R14 => kernel_rfl
              case rr2R14 => kernel_rfl
              case hw2R14 => rfl
              case hy2R14 =>
                intro w hSw
                (try dsimp only at hSw)
                first
                | (go_simp; done)
                | (go_simp; with_reducible rfl)
              try simp only [Act.put, List.setIfInBounds_toArray, List.set_cons_zero, List.set_cons_succ]
              refine wpAnyH_take (i := 3) (oi := ?oi3R14) (v := ?v3R14) ?oi0_3R14 (by kernel_rfl) ?ff3R14 ?rr3R14 ?hq3R14 (Or.inl ⟨?hw3R14, ?hy3R14⟩) (by assumption) ?rest3R14
              case oi0_3R14 =>
                conv =>
                  lhs
                  whnf
                  arg 1
                  whnf
              case hq3R14 => exact fun _ _ _ h => h
              case ff3R14 => kernel_rfl
              case rr3R14 => kernel_rfl
              case hw3R14 => rfl
              case hy3R14 =>
                intro w hSw
                (try dsimp only at hSw)
                first
                | (go_simp; done)
                | (go_simp; with_reducible rfl)
              try simp only [Act.put, List.setIfInBounds_toArray, List.set_cons_zero, List.set_cons_succ]
              refine wpAnyH_take (i := 4) (oi := ?oi4R14) (v := ?v4R14) ?oi0_4R14 (by kernel_rfl) ?ff4R14 ?rr4R14 ?hq4R14 (Or.inl ⟨?hw4R14, ?hy4R14⟩) (by assumption) ?rest4R14
              case oi0_4R14 =>
                conv =>
                  lhs
                  whnf
                  arg 1
                  whnf
              case hq4R14 => exact fun _ _ _ h => h
              case ff4R14 => kernel_rfl
              case rr4R14 => kernel_rfl
              case hw4R14 => rfl
              case hy4R14 =>
                intro w hSw
                (try dsimp only at hSw)
                first
                | (go_simp; done)
                | (go_simp; with_reducible rfl)
              try simp only [Act.put, List.setIfInBounds_toArray, List.set_cons_zero, List.set_cons_succ]
              refine wpAnyH_take (i := 5) (oi := ?oi5R14) (v := ?v5R14) ?oi0_5R14 (by kernel_rfl) ?ff5R14 ?rr5R14 ?hq5R14 (Or.inl ⟨?hw5R14, ?hy5R14⟩) (by assumption) ?rest5R14
              case oi0_5R14 =>
                conv =>
                  lhs
                  whnf
                  arg 1
                  whnf
              case hq5R14 => exact fun _ _ _ h => h
              case ff5R14 => kernel_rfl
              case rr5R14 => kernel_rfl
              case hw5R14 => rfl
              case hy5R14 =>
                intro w hSw
                (try dsimp only at hSw)
                first
                | (go_simp; done)
                | (go_simp; with_reducible rfl)
              try simp only [Act.put, List.setIfInBounds_toArray, List.set_cons_zero, List.set_cons_succ]
              refine wpAnyH_take (i := 6) (oi := ?oi6R14) (v := ?v6R14) ?oi0_6R14 (by kernel_rfl) ?ff6R14 ?rr6R14 ?hq6R14 (Or.inl ⟨?hw6R14, ?hy6R14⟩) (by assumption) ?rest6R14
              case oi0_6R14 =>
                conv =>
                  lhs
                  whnf
                  arg 1
                  whnf
              case hq6R14 => exact fun _ _ _ h => h
              case ff6R14 => kernel_rfl
              case rr6R14 => kernel_rfl
              case hw6R14 => rfl
              case hy6R14 =>
                intro w hSw
                (try dsimp only at hSw)
                first
                | (go_simp; done)
                | (go_simp; with_reducible rfl)
              try simp only [Act.put, List.setIfInBounds_toArray, List.set_cons_zero, List.set_cons_succ]
              refine wpAnyH_take (i := 7) (oi := ?oi7R14) (v := ?v7R14) ?oi0_7R14 (by kernel_rfl) ?ff7R14 ?rr7R14 ?hq7R14 (Or.inl ⟨?hw7R14, ?hy7R14⟩) (by assumption) ?rest7R14
              case oi0_7R14 =>
                conv =>
                  lhs
                  whnf
                  arg 1
                  whnf
              case hq7R14 => exact fun _ _ _ h => h
              case ff7R14 => kernel_rfl
              case rr7R14 => kernel_rfl
              case hw7R14 => rfl
              case hy7R14 =>
                intro w hSw
                (try dsimp only at hSw)
                first
                | (go_simp; done)
                | (go_simp; with_reducible rfl)
              try simp only [Act.put, List.setIfInBounds_toArray, List.set_cons_zero, List.set_cons_succ]
              refine wpAnyH_take (i := 8) (oi := ?oi8R14) (v := ?v8R14) ?oi0_8R14 (by kernel_rfl) ?ff8R14 ?rr8R14 ?hq8R14 (Or.inl ⟨?hw8R14, ?hy8R14⟩) (by assumption) ?rest8R14
              case oi0_8R14 =>
                conv =>
                  lhs
                  whnf
                  arg 1
                  whnf
              case hq8R14 => exact fun _ _ _ h => h
              case ff8R14 => kernel_rfl
              case rr8R14 => kernel_rfl
              case hw8R14 => rfl
              case hy8R14 =>
                intro w hSw
                (try dsimp only at hSw)
                first
                | (go_simp; done)
                | (go_simp; with_reducible rfl)
              try simp only [Act.put, List.setIfInBounds_toArray, List.set_cons_zero, List.set_cons_succ]
              refine wpAnyH_take (i := 9) (oi := ?oi9R14) (v := ?v9R14) ?oi0_9R14 (by kernel_rfl) ?ff9R14 ?rr9R14 ?hq9R14 (Or.inl ⟨?hw9R14, ?hy9R14⟩) (by assumption) ?rest9R14
              case oi0_9R14 =>
                conv =>
                  lhs
                  whnf
                  arg 1
                  whnf
              case hq9R14 => exact fun _ _ _ h => h
              case ff9R14 => kernel_rfl
              case rr9R14 => kernel_rfl
              case hw9R14 => rfl
              case hy9R14 =>
                intro w hSw
                (try dsimp only at hSw)
                first
                | (go_simp; done)
                | (go_simp; with_reducible rfl)
              try simp only [Act.put, List.setIfInBounds_toArray, List.set_cons_zero, List.set_cons_succ]
              refine wpAnyH_take (i := 10) (oi := ?oi10R14) (v := ?v10R14) ?oi0_10R14 (by kernel_rfl) ?ff10R14 ?rr10R14 ?hq10R14 (Or.inl ⟨?hw10R14, ?hy10R14⟩) (by assumption) ?rest10R14
              case oi0_10R14 =>
                conv =>
                  lhs
                  whnf
                  arg 1
                  whnf
              case hq10R14 => exact fun _ _ _ h => h
              case ff10R14 => kernel_rfl
              case rr10R14 => kernel_rfl
              case hw10R14 => rfl
              case hy10R14 =>
                intro w hSw
                (try dsimp only at hSw)
                first
                | (go_simp; done)
                | (go_simp; with_reducible rfl)
              try simp only [Act.put, List.setIfInBounds_toArray, List.set_cons_zero, List.set_cons_succ]
              refine wpAnyH_take (i := 11) (oi := ?oi11R14) (v := ?v11R14) ?oi0_11R14 (by kernel_rfl) ?ff11R14 ?rr11R14 ?hq11R14 (Or.inl ⟨?hw11R14, ?hy11R14⟩) (by assumption) ?rest11R14
              case oi0_11R14 =>
                conv =>
                  lhs
                  whnf
                  arg 1
                  whnf
              case hq11R14 => exact fun _ _ _ h => h
              case ff11R14 => kernel_rfl
              case rr11R14 => kernel_rfl
              case hw11R14 => rfl
              case hy11R14 =>
                intro w hSw
                (try dsimp only at hSw)
                first
                | (go_simp; done)
                | (go_simp; with_reducible rfl)
              try simp only [Act.put, List.setIfInBounds_toArray, List.set_cons_zero, List.set_cons_succ]
              refine wpAnyH_take (i := 12) (oi := ?oi12R14) (v := ?v12R14) ?oi0_12R14 (by kernel_rfl) ?ff12R14 ?rr12R14 ?hq12R14 (Or.inl ⟨?hw12R14, ?hy12R14⟩) (by assumption) ?rest12R14
              case oi0_12R14 =>
                conv =>
                  lhs
                  whnf
                  arg 1
                  whnf
              case hq12R14 => exact fun _ _ _ h => h
              case ff12R14 => kernel_rfl
              case rr12R14 => kernel_rfl
              case hw12R14 => rfl
              case hy12R14 =>
                intro w hSw
                (try dsimp only at hSw)
                first
                | (go_simp; done)
                | (go_simp; with_reducible rfl)
              try simp only [Act.put, List.setIfInBounds_toArray, List.set_cons_zero, List.set_cons_succ]
              refine wpAnyH_take (i := 13) (oi := ?oi13R14) (v := ?v13R14) ?oi0_13R14 (by kernel_rfl) ?ff13R14 ?rr13R14 ?hq13R14 (Or.inl ⟨?hw13R14, ?hy13R14⟩) (by assumption) ?rest13R14
              case oi0_13R14 =>
                conv =>
                  lhs
                  whnf
                  arg 1
                  whnf
              case hq13R14 => exact fun _ _ _ h => h
              case ff13R14 => kernel_rfl
              case rr13R14 => kernel_rfl
              case hw13R14 => rfl
              case hy13R14 =>
                intro w hSw
                (try dsimp only at hSw)
                first
                | (go_simp; done)
                | (go_simp; with_reducible rfl)
              try simp only [Act.put, List.setIfInBounds_toArray, List.set_cons_zero, List.set_cons_succ]
              refine wpAnyH_done (by kernel_rfl) ?_ _
              obtain ⟨wd, hwd⟩ : ∃ wd, wc.drew = wd := ⟨_, rfl⟩
              have UD := hide (show Upd [] wc wd by rw [← hwd]; exact (Upd.refl _ _).drew)
              have j2 := keepc _ _ _ _ UD.out e0
              have j3 := keepc _ _ _ _ UD.out e1
              have j4 := keepc _ _ _ _ UD.out HC1.out
              have j5 := HFR.out _ UD.out
              rw [hwd]
              clear hwd
              have HS := hide (spCells_setLast L' r m y HLM.out)
              go_wp2_with fail
              go_roundw
              case rel => exact ⟨k + 1, some ⟨g, 0, none⟩, m + 1, c, L' ++ [⟨r.fr, y⟩], by omega, by go_num, rfl, by omega, hide HE.out.symm, hide (by have := hnL.out; simpa using this), hide (by
                rw [← HS.out]
                exact it_own_set (own_kept HR.out UD.out (by simp)) _ _), hide ((UC.out.trans UD.out (by simp)).setCell (.inr HGB.out) _)⟩
              case measure => simp [intOf] <;> omega
            · have hrxb : (r.to_ == x) = false := by simpa using hrx
              have HE := hide (show talkS (beforeS i.trims cut) (i.talks.take (k + 1)) = (L' ++ [r]) ++ [⟨x, y⟩] by
                rw [HST2.out]
                simp [hrx])
              clear hrx
              go_wp2_with fail
              refine wp_region_held_drew (S := (fun w' => w'.cell? ⟨g, m * 2 + 1, none⟩ = some (.int .i64 r.to_) ∧ w'.cell? ⟨b2, 0, none⟩ = some (.int .i64 x))) (by kernel_rfl) (by exact ⟨HC1.out, e0⟩) (fun hHeld => ?_)
              refine wpAnyH_take (i := 0) (oi := ?oi0R15) (v := ?v0R15) ?oi0_0R15 (by kernel_rfl) ?ff0R15 ?rr0R15 ?hq0R15 (Or.inl ⟨?hw0R15, ?hy0R15⟩) (by assumption) ?rest0R15
              case oi0_0R15 =>
                conv =>
                  lhs
                  whnf
                  arg 1
                  whnf
              case hq0R15 => exact fun _ _ _ h => h
              case ff0R15 => kernel_rfl
              case rr0R15 => kernel_rfl
              case hw0R15 => rfl
              case hy0R15 =>
                intro w hSw
                (try dsimp only at hSw)
                first
                | (go_simp; done)
                | (go_simp; with_reducible rfl)
              try simp only [Act.put, List.setIfInBounds_toArray, List.set_cons_zero, List.set_cons_succ]
              refine wpAnyH_take (i := 1) (oi := ?oi1R15) (v := ?v1R15) ?oi0_1R15 (by kernel_rfl) ?ff1R15 ?rr1R15 ?hq1R15 (Or.inl ⟨?hw1R15, ?hy1R15⟩) (by assumption) ?rest1R15
              case oi0_1R15 =>
                conv =>
                  lhs
                  whnf
                  arg 1
                  whnf
              case hq1R15 => exact fun _ _ _ h => h
              case ff1R15 => kernel_rfl
              case rr1R15 => kernel_rfl
              case hw1R15 => rfl
              case hy1R15 =>
                intro w hSw
                (try dsimp only at hSw)
                first
                | (go_simp; done)
                | (go_simp; with_reducible rfl)
              try simp only [Act.put, List.setIfInBounds_toArray, List.set_cons_zero, List.set_cons_succ]
              refine wpAnyH_take (i := 2) (oi := ?oi2R15) (v := ?v2R15) ?oi0_2R15 (by kernel_rfl) ?ff2R15 ?rr2R15 ?hq2R15 (Or.inl ⟨?hw2R15, ?hy2R15⟩) (by assumption) ?rest2R15
              case oi0_2R15 =>
                conv =>
                  lhs
                  whnf
                  arg 1
                  whnf
              case hq2R15 => exact fun _ _ _ h => h
              case ff2R15 => kernel_rfl
              case rr2R15 => kernel_rfl
              case hw2R15 => rfl
              case hy2R15 =>
                intro w hSw
                (try dsimp only at hSw)
                first
                | (go_simp; done)
                | (go_simp; with_reducible rfl)
              try simp only [Act.put, List.setIfInBounds_toArray, List.set_cons_zero, List.set_cons_succ]
              refine wpAnyH_take (i := 3) (oi := ?oi3R15) (v := ?v3R15) ?oi0_3R15 (by kernel_rfl) ?ff3R15 ?rr3R15 ?hq3R15 (Or.inl ⟨?hw3R15, ?hy3R15⟩) (by assumption) ?rest3R15
              case oi0_3R15 =>
                conv =>
                  lhs
                  whnf
                  arg 1
                  whnf
              case hq3R15 => exact fun _ _ _ h => h
              case ff3R15 => kernel_rfl
              case rr3R15 => kernel_rfl
              case hw3R15 => rfl
              case hy3R15 =>
                intro w hSw
                (try dsimp only at hSw)
                first
                | (go_simp; done)
                | (go_simp; with_reducible rfl)
              try simp only [Act.put, List.setIfInBounds_toArray, List.set_cons_zero, List.set_cons_succ]
              refine wpAnyH_take (i := 4) (oi := ?oi4R15) (v := ?v4R15) ?oi0_4R15 (by kernel_rfl) ?ff4R15 ?rr4R15 ?hq4R15 (Or.inl ⟨?hw4R15, ?hy4R15⟩) (by assumption) ?rest4R15
              case oi0_4R15 =>
                conv =>
                  lhs
                  whnf
                  arg 1
                  whnf
              case hq4R15 => exact fun _ _ _ h => h
              case ff4R15 => kernel_rfl
              case rr4R15 => kernel_rfl
              case hw4R15 => rfl
              case hy4R15 =>
                intro w hSw
                (try dsimp only at hSw)
                first
                | (go_simp; done)
                | (go_simp; with_reducible rfl)
              try simp only [Act.put, List.setIfInBounds_toArray, List.set_cons_zero, List.set_cons_succ]
              refine wpAnyH_take (i := 5) (oi := ?oi5R15) (v := ?v5R15) ?oi0_5R15 (by kernel_rfl) ?ff5R15 ?rr5R15 ?hq5R15 (Or.inl ⟨?hw5R15, ?hy5R15⟩) (by assumption) ?rest5R15
              case oi0_5R15 =>
                conv =>
                  lhs
                  whnf
                  arg 1
                  whnf
              case hq5R15 => exact fun _ _ _ h => h
              case ff5R15 => kernel_rfl
              case rr5R15 => kernel_rfl
              case hw5R15 => rfl
              case hy5R15 =>
                intro w hSw
                (try dsimp only at hSw)
                first
                | (go_simp; done)
                | (go_simp; with_reducible rfl)
              try simp only [Act.put, List.setIfInBounds_toArray, List.set_cons_zero, List.set_cons_succ]
              refine wpAnyH_take (i := 6) (oi := ?oi6R15) (v := ?v6R15) ?oi0_6R15 (by kernel_rfl) ?ff6R15 ?rr6R15 ?hq6R15 (Or.inl ⟨?hw6R15, ?hy6R15⟩) (by assumption) ?rest6R15
              case oi0_6R15 =>
                conv =>
                  lhs
                  whnf
                  arg 1
                  whnf
              case hq6R15 => exact fun _ _ _ h => h
              case ff6R15 => kernel_rfl
              case rr6R15 => kernel_rfl
              case hw6R15 => rfl
              case hy6R15 =>
                intro w hSw
                (try dsimp only at hSw)
                first
                | (go_simp; done)
                | (go_simp; with_reducible rfl)
              try simp only [Act.put, List.setIfInBounds_toArray, List.set_cons_zero, List.set_cons_succ]
              refine wpAnyH_take (i := 7) (oi := ?oi7R15) (v := ?v7R15) ?oi0_7R15 (by kernel_rfl) ?ff7R15 ?rr7R15 ?hq7R15 (Or.inl ⟨?hw7R15, ?hy7R15⟩) (by assumption) ?rest7R15
              case oi0_7R15 =>
                conv =>
                  lhs
                  whnf
                  arg 1
                  whnf
              case hq7R15 => exact fun _ _ _ h => h
              case ff7R15 => kernel_rfl
              case rr7R15 => kernel_rfl
              case hw7R15 => rfl
              case hy7R15 =>
                intro w hSw
                (try dsimp only at hSw)
                first
                | (go_simp; done)
                | (go_simp; with_reducible rfl)
              try simp only [Act.put, List.setIfInBounds_toArray, List.set_cons_zero, List.set_cons_succ]
              refine wpAnyH_take (i := 8) (oi := ?oi8R15) (v := ?v8R15) ?oi0_8R15 (by kernel_rfl) ?ff8R15 ?rr8R15 ?hq8R15 (Or.inl ⟨?hw8R15, ?hy8R15⟩) (by assumption) ?rest8R15
              case oi0_8R15 =>
                conv =>
                  lhs
                  whnf
                  arg 1
                  whnf
              case hq8R15 => exact fun _ _ _ h => h
              case ff8R15 => kernel_rfl
              case rr8R15 => kernel_rfl
              case hw8R15 => rfl
              case hy8R15 =>
                intro w hSw
                (try dsimp only at hSw)
                first
                | (go_simp; done)
                | (go_simp; with_reducible rfl)
              try simp only [Act.put, List.setIfInBounds_toArray, List.set_cons_zero, List.set_cons_succ]
              refine wpAnyH_take (i := 9) (oi := ?oi9R15) (v := ?v9R15) ?oi0_9R15 (by kernel_rfl) ?ff9R15 ?rr9R15 ?hq9R15 (Or.inl ⟨?hw9R15, ?hy9R15⟩) (by assumption) ?rest9R15
              case oi0_9R15 =>
                conv =>
                  lhs
                  whnf
                  arg 1
                  whnf
              case hq9R15 => exact fun _ _ _ h => h
              case ff9R15 => kernel_rfl
              case rr9R15 => kernel_rfl
              case hw9R15 => rfl
              case hy9R15 =>
                intro w hSw
                (try dsimp only at hSw)
                first
                | (go_simp; done)
                | (go_simp; with_reducible rfl)
              try simp only [Act.put, List.setIfInBounds_toArray, List.set_cons_zero, List.set_cons_succ]
              refine wpAnyH_take (i := 10) (oi := ?oi10R15) (v := ?v10R15) ?oi0_10R15 (by kernel_rfl) ?ff10R15 ?rr10R15 ?hq10R15 (Or.inl ⟨?hw10R15, ?hy10R15⟩) (by assumption) ?rest10R15
              case oi0_10R15 =>
                conv =>
                  lhs
                  whnf
                  arg 1
                  whnf
              case hq10R15 => exact fun _ _ _ h => h
              case ff10R15 => kernel_rfl
              case rr10R15 => kernel_rfl
              case hw10R15 => rfl
              case hy10R15 =>
                intro w hSw
                (try dsimp only at hSw)
                first
                | (go_simp; done)
                | (go_simp; with_reducible rfl)
              try simp only [Act.put, List.setIfInBounds_toArray, List.set_cons_zero, List.set_cons_succ]
              refine wpAnyH_take (i := 11) (oi := ?oi11R15) (v := ?v11R15) ?oi0_11R15 (by kernel_rfl) ?ff11R15 ?rr11R15 ?hq11R15 (Or.inl ⟨?hw11R15, ?hy11R15⟩) (by assumption) ?rest11R15
              case oi0_11R15 =>
                conv =>
                  lhs
                  whnf
                  arg 1
                  whnf
              case hq11R15 => exact fun _ _ _ h => h
              case ff11R15 => kernel_rfl
              case rr11R15 => kernel_rfl
              case hw11R15 => rfl
              case hy11R15 =>
                intro w hSw
                (try dsimp only at hSw)
                first
                | (go_simp; done)
                | (go_simp; with_reducible rfl)
              try simp only [Act.put, List.setIfInBounds_toArray, List.set_cons_zero, List.set_cons_succ]
              refine wpAnyH_take (i := 12) (oi := ?oi12R15) (v := ?v12R15) ?oi0_12R15 (by kernel_rfl) ?ff12R15 ?rr12R15 ?hq12R15 (Or.inl ⟨?hw12R15, ?hy12R15⟩) (by assumption) ?rest12R15
              case oi0_12R15 =>
                conv =>
                  lhs
                  whnf
                  arg 1
                  whnf
              case hq12R15 => exact fun _ _ _ h => h
              case ff12R15 => kernel_rfl
              case rr12R15 => kernel_rfl
              case hw12R15 => rfl
              case hy12R15 =>
                intro w hSw
                (try dsimp only at hSw)
                first
                | (go_simp; done)
                | (go_simp; with_reducible rfl)
              try simp only [Act.put, List.setIfInBounds_toArray, List.set_cons_zero, List.set_cons_succ]
              refine wpAnyH_take (i := 13) (oi := ?oi13R15) (v := ?v13R15) ?oi0_13R15 (by kernel_rfl) ?ff13R15 ?rr13R15 ?hq13R15 (Or.inl ⟨?hw13R15, ?hy13R15⟩) (by assumption) ?rest13R15
              case oi0_13R15 =>
                conv =>
                  lhs
                  whnf
                  arg 1
                  whnf
              case hq13R15 => exact fun _ _ _ h => h
              case ff13R15 => kernel_rfl
              case rr13R15 => kernel_rfl
              case hw13R15 => rfl
              case hy13R15 =>
                intro w hSw
                (try dsimp only at hSw)
                first
                | (go_simp; done)
                | (go_simp; with_reducible rfl)
              try simp only [Act.put, List.setIfInBounds_toArray, List.set_cons_zero, List.set_cons_succ]
              refine wpAnyH_done (by kernel_rfl) ?_ _
              obtain ⟨wd, hwd⟩ : ∃ wd, wc.drew = wd := ⟨_, rfl⟩
              have UD := hide (show Upd [] wc wd by rw [← hwd]; exact (Upd.refl _ _).drew)
              have j2 := keepc _ _ _ _ UD.out e0
              have j3 := keepc _ _ _ _ UD.out e1
              have j4 := keepc _ _ _ _ UD.out HC1.out
              have j5 := HFR.out _ UD.out
              rw [hwd]
              clear hwd
              go_wp2_with (at_builtin; refine wpList_append_base rfl (.tmp 35) (.tmp 37) _ rfl w1.heap.size 53 _ 2 16 Try.underlying22 it_info_spell rfl (by decide) (some ⟨g, 0, none⟩) (m + 1) c _ rfl (OB.out _ UD.out) ⟨_, 0, none⟩ 1 1 [.int .i64 x, .int .i64 y] rfl rfl (cell_two_new _ _ _ _) O1.out O3.out O4.out (OS.out _ UD.out) ?_; intro A5 c5 w5 h5 u5 _; have H5 := hide (AP.out _ UD.out A5 c5 w5 h5 u5); clear h5 u5)
              go_roundw
              case rel => exact ⟨k + 1, A5, m + 1 + 1, c5, (L' ++ [r]) ++ [⟨x, y⟩], by omega, by go_num, rfl, by omega, hide HE.out.symm, hide H5.out.1, hide H5.out.2.1, hide H5.out.2.2⟩
              case measure => simp [intOf] <;> omega
    · obtain rfl : k = kn := by omega
      have hki : ¬ (k : Int) < k := by omega
      have HE := hide (show L = talkS (beforeS i.trims cut) i.talks by rw [hL.out, List.take_of_length_le (by have := HKN.out; omega)])
      go_wp2_with fail
      go_ret2
      refine HP.out _ _ ?_ (U2.out.trans hu.out (by simp))
      rw [← HE.out, ← hnL.out]
      exact it_own_less hown.out U2.out.size
end Go.Proofs.Ytpkeimdlcafcnaa
