/-
  The walk of the statement on what is left of a best choice.
-/
import Derived.Test.YteehjciepccomaaFRestP
import Derived.Deep.RegionHeld3
import Derived.Deep.CutBlock
namespace Go.Proofs.Yteehjciepccomaa
open Go.RowKit
set_option maxRecDepth 100000
set_option maxHeartbeats 3000000

theorem row_cap {w : World} {base e size n c : Nat} {A : Option Addr} {xs : List Value} (h : w.ownsRow base e size (.slice A n c) n xs) : n ≤ c := by
  rcases h.2 with ⟨hv, h0⟩ | ⟨g, cap, cur, hv, _, _, hc, _⟩
  · omega
  · injection hv with _ _ e3
    omega
theorem solve_use2 {n₀ : Nat} (a : Option Addr) (c : Nat) (l : List Pc) (total : Int) (w : World) (hI : PcsAt n₀ w a l) (hn : n₀ ≤ w.heap.size) (hm : l.length ≤ maxLen) {ri : List Int} {rc re : Int} (hr : resumeS l total [] = (ri, rc, re)) :
    Calls Try.prog 19 #[.slice a l.length c, .int .i64 total] w fun e w' => ∃ A c', e = .returned (.tuple #[.slice A ri.length c', .int .i64 rc, .int .i64 re]) ∧ Ints w'.heap.size w' (.slice A ri.length c') ri ∧ ri.length ≤ c' ∧ Upd [] w w' := by
  refine (solve_any a c l total w hI hn hm).mono ?_
  rintro e w' ⟨v, rfl, h1, h2⟩
  rw [hr] at h1 ⊢
  obtain ⟨A, c', rfl⟩ := own_form h1
  exact ⟨A, c', rfl, own_ints h1, row_cap h1, (Upd.refl [] w).below h2⟩
/-- A list in memory from its element k on. -/
theorem Ints.drop {n₀ : Nat} {w : World} {b o n c c' : Nat} {zs : List Int} (h : Ints n₀ w (.slice (some ⟨b, o, none⟩) n c) zs) (k : Nat) (hk : k ≤ n) : Ints n₀ w (.slice (some ⟨b, o + k, none⟩) (n - k) c') (zs.drop k) := by
  obtain ⟨hl, hc⟩ := h.form
  refine Ints.of (by rw [List.length_drop]; omega) fun j z hz => ?_
  rw [List.getElem?_drop] at hz
  obtain ⟨b', o', e, h1, h2⟩ := hc (k + j) z hz
  obtain ⟨rfl, rfl⟩ : b = b' ∧ o = o' := by simpa using e
  exact ⟨b, o + k, rfl, h1, by rw [Nat.add_assoc]; exact h2⟩
theorem Ints.dropAny {n₀ : Nat} {w : World} {A : Option Addr} {n c c' : Nat} {zs : List Int} (h : Ints n₀ w (.slice A n c) zs) (k : Nat) (hk : k ≤ n) : Ints n₀ w (.slice (A.map (·.add k)) (n - k) c') (zs.drop k) := by
  obtain ⟨hl, hc⟩ := h.form
  refine Ints.of (by rw [List.length_drop]; omega) fun j z hz => ?_
  rw [List.getElem?_drop] at hz
  obtain ⟨b', o', e, h1, h2⟩ := hc (k + j) z hz
  subst e
  exact ⟨b', o' + k, by simp [plain_add], h1, by rw [Nat.add_assoc]; exact h2⟩
theorem drop_pc {l : List Pc} {k : Nat} {z : Pc} (h : l[k]? = some z) : l.drop k = z :: l.drop (k + 1) := by
  have hlk := (List.getElem?_eq_some_iff.1 h).1
  rw [List.drop_eq_getElem_cons hlk]
  congr 1
  rw [List.getElem?_eq_getElem hlk] at h
  simpa using h
theorem own_at {w : World} {base g n c k : Nat} {xs : List Value} {u : Value} (h : w.ownsRow base 3 1 (.slice (some ⟨g, 0, none⟩) n c) n xs) (hz : xs[k]? = some u) : w.cell? ⟨g, k, none⟩ = some u := by
  have := World.ownsRow.cells h (g := g) rfl k u hz
  have e : (⟨g, 0, none⟩ : Addr).add k = ⟨g, k, none⟩ := by unfold Addr.add; split <;> simp_all
  rwa [e] at this
theorem own_some {w : World} {base e size n c : Nat} {A : Option Addr} {xs : List Value} (h : w.ownsRow base e size (.slice A n c) n xs) (hn : 0 < n) : ∃ g, A = some ⟨g, 0, none⟩ := by
  rcases h.2 with ⟨hv, h0⟩ | ⟨g, cap, cur, hv, _⟩
  · omega
  · injection hv with e1 _ _
    exact ⟨g, e1⟩

theorem fitRest_walk (a0 : Option Addr) (len0 cap0 : Nat) (z0 : List X4) (a1 a2 : Int) (a3 : Option Addr) (len3 cap3 : Nat) (z3 : List Int) (w : World) (w0 : X4Arg w a0 len0 cap0 z0) (w1 : (Lit.int .i64 a1).wf = true) (w2 : (Lit.int .i64 a2).wf = true) (w3 : IntsArg w a3 len3 cap3 z3) :
    Calls Try.prog 7 #[.slice a0 len0 cap0, .int .i64 a1, .int .i64 a2, .slice a3 len3 cap3] w fun e w' => e = .returned (.bool true) ∧ Below w.heap.size w w' := by
  have X0 := hide w0
  have W1 := hide w1
  have W2 := hide w2
  have J3 := hide (show Ints w.heap.size w (.slice a3 len3 cap3) z3 by have := w3.ints len3 (Nat.le_refl _) cap3; rwa [List.take_of_length_le (by rw [w3.1]; exact Nat.le_refl _)] at this)
  have HL3 := hide (show len3 ≤ 9223372036854775807 by have := w3.2.1; have := w3.2.2.1; unfold maxLen at this; omega)
  have HW3 := hide w3.2.2.2.1
  clear w0 w1 w2 w3
  go_enter Try.func7, Try.ntmps7
  go_wp2_with fail
  refine (sane_any w).mono ?_
  rintro e w1 ⟨rfl, u⟩
  have U0 := hide u
  clear u
  go_wp2_with fail
  refine (made_any a0 len0 cap0 z0 a1 w1 (X0.out.2.2.2.below (U0.out.toBelow (Nat.le_refl _) (by simp))) X0.out.1 (Nat.le_trans X0.out.2.1 X0.out.2.2.1) U0.out.size W1.out).mono ?_
  rintro e w2 ⟨b, len, cap, l, t, rfl, hl, hl10, hcap, hp, hV, _, u⟩
  have U1 := hide u
  have HP := hide hp
  have HV := hide hV
  have HM := hide (show l.length ≤ maxLen by unfold maxLen; omega)
  have HLEN := hide hl
  obtain ⟨ri, rc, re, hr⟩ : ∃ ri rc re, resumeS l t [] = (ri, rc, re) := ⟨_, _, _, rfl⟩
  have HR := hide hr
  have SO := solve_use2 b cap l t w2 HP.out (Nat.le_refl _) HM.out HR.out
  rw [HLEN.out] at SO
  obtain ⟨lr, hlr⟩ : ∃ lr, ri.length = lr := ⟨_, rfl⟩
  rw [hlr] at SO
  have HLR := hide hlr
  have HSO := hide SO
  clear u hp hV hr hl hcap SO hlr
  go_wp2_with fail
  refine HSO.out.mono ?_
  rintro e w3 ⟨A1, c1, rfl, i1, hc1, u⟩
  have U3 := hide (((U0.out.trans U1.out (by simp)).trans u (by simp)))
  have U23 := hide u
  have I1 := hide i1
  clear u i1
  go_upto_if 43 with fail
  go_cut [14, 15, 16, 17, 18] from 42 to 95 (fun _ _ _ _ _ wx => Hid (Upd [] w wx ∧ Upd [] w2 wx))
  case first =>
    rcases solve_cases HV.out with ⟨ns, hs, hlt, hfit, hcost, hbest⟩ | ⟨hs, hno⟩
    · -- solved
      have hs' := HR.out.symm.trans hs
      simp only [Prod.mk.injEq] at hs'
      obtain ⟨rfl, hrc, rfl⟩ := hs'
      have hcc : leastS t l 0 = rc := hrc.symm
      obtain rfl : len = lr := by rw [← HLR.out, fits_len hfit]; exact HLEN.out.symm
      have HFIT := hide hfit
      have hrl : ri.length = len := by rw [fits_len hfit]; exact HLEN.out
      have HRL := hide hrl
      obtain ⟨k, hk⟩ : ∃ k : Nat, pickN a2 ((len : Int) + 1) = (k : Int) := ⟨(pickN a2 ((len : Int) + 1)).toNat, by have := pickN_lt a2 (n := (len : Int) + 1) (by omega); omega⟩
      have hkl : k ≤ len := by have := pickN_lt a2 (n := (len : Int) + 1) (by omega); omega
      have PK := fun W => pick_any a2 ((len : Int) + 1) W W2.out (by omega) (by omega)
      simp only [hk] at PK
      have HPK := hide PK
      have HRB := hide (resume_best HV.out hlt hbest k (by have := HLEN.out; omega))
      have HSPL := hide (show rc = costS (l.take k) (ri.take k) + costS (l.drop k) (ri.drop k) by rw [← hcc, ← hcost]; exact cost_split l ri k)
      obtain ⟨lo, hlo⟩ : ∃ lo, costS (l.drop k) (ri.drop k) = lo := ⟨_, rfl⟩
      rw [hlo] at HRB HSPL
      have hcb : 0 ≤ costS l ri ∧ costS l ri ≤ 3600 * l.length := cost_bound HV.out.2.2 hfit
      have hcb2 : 0 ≤ rc ∧ rc ≤ 36000 := by rw [hcost, hcc] at hcb; have := HLEN.out; omega
      have hpos : ∀ (m : List Pc) (ks : List Int), 0 ≤ costS m ks := by
        intro m
        induction m with
        | nil => intro ks; cases ks <;> simp [costS]
        | cons p m ih =>
          intro ks
          cases ks with
          | nil => simp [costS]
          | cons n ks => rw [costS]; have := ih ks; have := awayS_nonneg n p.want; omega
      have HPOS := hide hpos
      have hlo0 : 0 ≤ lo ∧ lo ≤ 36000 := by have h1 := hpos (l.drop k) (ri.drop k); have h2 := hpos (l.take k) (ri.take k); have := HSPL.out; rw [hlo] at h1; omega
      obtain ⟨hlo1, hlo2⟩ := hlo0
      obtain ⟨hcb3, hcb4⟩ := hcb2
      have hkc : (k : Int) ≤ c1 := by omega
      have RS := resume_use b cap l t w3 (HP.out.upd U23.out (Nat.le_refl _) (by simp)) U23.out.size HM.out A1 k c1 (ri.take k) (I1.out.take k (by omega)) (Nat.le_refl _) (by rw [List.length_take]; unfold maxLen; omega) HRB.out
      rw [HLEN.out, List.length_drop, HRL.out] at RS
      have HRS := hide RS
      have HNB := hide (show ∀ z ∈ ri, 0 ≤ z ∧ z ≤ 3600 from fun z hz => by
        have h4 := best_rest HV.out.2.2 l.length (Nat.le_refl _) hlt hbest
        have := h4.2.2.1
        rw [List.take_of_length_le (by rw [HRL.out, HLEN.out]; exact Nat.le_refl _)] at this
        exact this z hz)
      clear hs hrc hrl hlt hfit hcost hbest hcc hk PK hlo hcb hpos RS
      go_wp2_with fail
      refine (HPK.out _).mono ?_
      rintro e w' ⟨rfl, rfl⟩
      go_wp2_with fail
      refine HRS.out.mono ?_
      rintro e w4 ⟨A4, c4, rfl, i4, u⟩
      have U4 := hide u
      have I4 := hide i4
      clear u i4
      go_wp2_with fail
      go_loopw [16, 18] (fun x y wr => ∃ (i : Nat) (L : Int), i ≤ k ∧ y = .int .i64 i ∧ x = .int .i64 L ∧ Hid (Upd [] w4 wr) ∧ (0 ≤ L ∧ L ≤ 36000 + 3600 * i) ∧ Hid (L = lo + costS (l.take i) (ri.take i)))
        (fun _ y _ => k - (intOf y).toNat)
      case atStart => exact ⟨0, lo, Nat.zero_le _, rfl, rfl, Upd.refl _ _, by omega, by simp [costS, Hid]⟩
      case round =>
        obtain ⟨i, L, hik, rfl, rfl, hu, ⟨hL1, hL2⟩, hL⟩ := hrel
        by_cases hlt : i < k
        · obtain ⟨p, hp⟩ : ∃ p, l[i]? = some p := ⟨_, List.getElem?_eq_getElem (by have := HLEN.out; omega)⟩
          obtain ⟨z, hz⟩ : ∃ z, ri[i]? = some z := ⟨_, List.getElem?_eq_getElem (by have := HRL.out; omega)⟩
          obtain ⟨nb, no, ea, hnb, x0⟩ := ((I1.out.upd (U4.out.trans hu.out (by simp)) (Nat.le_refl _) (by simp)).form.2) i z hz
          obtain ⟨pb, po, pa, pn, pc, eb, hb, hi, hpm, y0, x1, y2⟩ := (HP.out.upd ((U23.out.trans U4.out (by simp)).trans hu.out (by simp)) (Nat.le_refl _) (by simp)) i p hp
          have hz9 := HNB.out z (List.mem_of_getElem? hz)
          have hw9 := (HV.out.2.2 p (List.mem_of_getElem? hp)).2.1
          have AW := hide (fun W => laway_any z p.want W (by omega) (by omega))
          have haw : 0 ≤ awayS z p.want ∧ awayS z p.want ≤ 3600 := by unfold awayS; omega
          obtain ⟨aw, hawe⟩ : ∃ aw, awayS z p.want = aw := ⟨_, rfl⟩
          have AW2 := AW.out
          rw [hawe] at haw
          simp only [hawe] at AW2
          have AW := hide AW2
          obtain ⟨ha1, ha2⟩ := haw
          have HCT := hide (show costS (l.take (i + 1)) (ri.take (i + 1)) = costS (l.take i) (ri.take i) + aw by rw [cost_take hp hz, hawe])
          have hil : (i : Int) < len := by omega
          have hi10 : i ≤ 10 := by omega
          have WR := hide (rfl : wr = wr)
          subst ea eb
          clear hp hz hb hi hpm y0 y2 hz9 hw9 hawe AW2 hnb
          go_wp2_with fail
          refine wp_region_held_drew (S := (fun w' => w'.cell? ⟨nb, no + i, none⟩ = some (.int .i64 z) ∧ w'.cell? ⟨pb, po + i * 3 + 1, none⟩ = some (.int .i64 p.want))) (by kernel_rfl) (by exact ⟨x0, x1⟩) (fun hHeld => ?_)
          refine wpAnyH_take (i := 0) (oi := ?oi0A) (v := ?v0A) ?oi0_0A (by kernel_rfl) ?ff0A ?rr0A ?hq0A (Or.inl ⟨?hw0A, ?hy0A⟩) (by assumption) ?rest0A
          case oi0_0A =>
            conv =>
              lhs
              whnf
              arg 1
              whnf
          case hq0A => exact fun _ _ _ h => h
          case ff0A => kernel_rfl
          case rr0A => kernel_rfl
          case hw0A => rfl
          case hy0A =>
            intro w hSw
            (try dsimp only at hSw)
            first
            | (go_simp; done)
            | (go_simp; with_reducible rfl)
          try simp only [Act.put, List.setIfInBounds_toArray, List.set_cons_zero, List.set_cons_succ]
          refine wpAnyH_take (i := 1) (oi := ?oi1A) (v := ?v1A) ?oi0_1A (by kernel_rfl) ?ff1A ?rr1A ?hq1A (Or.inl ⟨?hw1A, ?hy1A⟩) (by assumption) ?rest1A
          case oi0_1A =>
            conv =>
              lhs
              whnf
              arg 1
              whnf
          case hq1A => exact fun _ _ _ h => h
          case ff1A => kernel_rfl
          case rr1A => kernel_rfl
          case hw1A => rfl
          case hy1A =>
            intro w hSw
            (try dsimp only at hSw)
            first
            | (go_simp; done)
            | (go_simp; with_reducible rfl)
          try simp only [Act.put, List.setIfInBounds_toArray, List.set_cons_zero, List.set_cons_succ]
          refine wpAnyH_take (i := 2) (oi := ?oi2A) (v := ?v2A) ?oi0_2A (by kernel_rfl) ?ff2A ?rr2A ?hq2A (Or.inl ⟨?hw2A, ?hy2A⟩) (by assumption) ?rest2A
          case oi0_2A =>
            conv =>
              lhs
              whnf
              arg 1
              whnf
          case hq2A => exact fun _ _ _ h => h
          case ff2A => kernel_rfl
          case rr2A => kernel_rfl
          case hw2A => rfl
          case hy2A =>
            intro w hSw
            (try dsimp only at hSw)
            first
            | (go_simp; done)
            | (go_simp; with_reducible rfl)
          try simp only [Act.put, List.setIfInBounds_toArray, List.set_cons_zero, List.set_cons_succ]
          refine wpAnyH_take (i := 3) (oi := ?oi3A) (v := ?v3A) ?oi0_3A (by kernel_rfl) ?ff3A ?rr3A ?hq3A (Or.inl ⟨?hw3A, ?hy3A⟩) (by assumption) ?rest3A
          case oi0_3A =>
            conv =>
              lhs
              whnf
              arg 1
              whnf
          case hq3A => exact fun _ _ _ h => h
          case ff3A => kernel_rfl
          case rr3A => kernel_rfl
          case hw3A => rfl
          case hy3A =>
            intro w hSw
            (try dsimp only at hSw)
            first
            | (go_simp; done)
            | (go_simp; with_reducible rfl)
          try simp only [Act.put, List.setIfInBounds_toArray, List.set_cons_zero, List.set_cons_succ]
          refine wpAnyH_take (i := 4) (oi := ?oi4A) (v := ?v4A) ?oi0_4A (by kernel_rfl) ?ff4A ?rr4A ?hq4A (Or.inl ⟨?hw4A, ?hy4A⟩) (by assumption) ?rest4A
          case oi0_4A =>
            conv =>
              lhs
              whnf
              arg 1
              whnf
          case hq4A => exact fun _ _ _ h => h
          case ff4A => kernel_rfl
          case rr4A => kernel_rfl
          case hw4A => rfl
          case hy4A =>
            intro w hSw
            (try dsimp only at hSw)
            first
            | (go_simp; done)
            | (go_simp; with_reducible rfl)
          try simp only [Act.put, List.setIfInBounds_toArray, List.set_cons_zero, List.set_cons_succ]
          refine wpAnyH_take (i := 5) (oi := ?oi5A) (v := ?v5A) ?oi0_5A (by kernel_rfl) ?ff5A ?rr5A ?hq5A (Or.inl ⟨?hw5A, ?hy5A⟩) (by assumption) ?rest5A
          case oi0_5A =>
            conv =>
              lhs
              whnf
              arg 1
              whnf
          case hq5A => exact fun _ _ _ h => h
          case ff5A => kernel_rfl
          case rr5A => kernel_rfl
          case hw5A => rfl
          case hy5A =>
            intro w hSw
            (try dsimp only at hSw)
            first
            | (go_simp; done)
            | (go_simp; with_reducible rfl)
          try simp only [Act.put, List.setIfInBounds_toArray, List.set_cons_zero, List.set_cons_succ]
          refine wpAnyH_take (i := 6) (oi := ?oi6A) (v := ?v6A) ?oi0_6A (by kernel_rfl) ?ff6A ?rr6A ?hq6A (Or.inl ⟨?hw6A, ?hy6A⟩) (by assumption) ?rest6A
          case oi0_6A =>
            conv =>
              lhs
              whnf
              arg 1
              whnf
          case hq6A => exact fun _ _ _ h => h
          case ff6A => kernel_rfl
          case rr6A => kernel_rfl
          case hw6A => rfl
          case hy6A =>
            intro w hSw
            (try dsimp only at hSw)
            first
            | (go_simp; done)
            | (go_simp; with_reducible rfl)
          try simp only [Act.put, List.setIfInBounds_toArray, List.set_cons_zero, List.set_cons_succ]
          refine wpAnyH_take (i := 7) (oi := ?oi7A) (v := ?v7A) ?oi0_7A (by kernel_rfl) ?ff7A ?rr7A ?hq7A (Or.inl ⟨?hw7A, ?hy7A⟩) (by assumption) ?rest7A
          case oi0_7A =>
            conv =>
              lhs
              whnf
              arg 1
              whnf
          case hq7A => exact fun _ _ _ h => h
          case ff7A => kernel_rfl
          case rr7A => kernel_rfl
          case hw7A => rfl
          case hy7A =>
            intro w hSw
            (try dsimp only at hSw)
            first
            | (go_simp; done)
            | (go_simp; with_reducible rfl)
          try simp only [Act.put, List.setIfInBounds_toArray, List.set_cons_zero, List.set_cons_succ]
          refine wpAnyH_take (i := 8) (oi := ?oi8A) (v := ?v8A) ?oi0_8A (by kernel_rfl) ?ff8A ?rr8A ?hq8A (Or.inl ⟨?hw8A, ?hy8A⟩) (by assumption) ?rest8A
          case oi0_8A =>
            conv =>
              lhs
              whnf
              arg 1
              whnf
          case hq8A => exact fun _ _ _ h => h
          case ff8A => kernel_rfl
          case rr8A => kernel_rfl
          case hw8A => rfl
          case hy8A =>
            intro w hSw
            (try dsimp only at hSw)
            first
            | (go_simp; done)
            | (go_simp; with_reducible rfl)
          try simp only [Act.put, List.setIfInBounds_toArray, List.set_cons_zero, List.set_cons_succ]
          refine wpAnyH_take (i := 9) (oi := ?oi9A) (v := ?v9A) ?oi0_9A (by kernel_rfl) ?ff9A ?rr9A ?hq9A (Or.inl ⟨?hw9A, ?hy9A⟩) (by assumption) ?rest9A
          case oi0_9A =>
            conv =>
              lhs
              whnf
              arg 1
              whnf
          case hq9A => exact fun _ _ _ h => h
          case ff9A => kernel_rfl
          case rr9A => kernel_rfl
          case hw9A => rfl
          case hy9A =>
            intro w hSw
            (try dsimp only at hSw)
            first
            | (go_simp; done)
            | (go_simp; with_reducible rfl)
          try simp only [Act.put, List.setIfInBounds_toArray, List.set_cons_zero, List.set_cons_succ]
          refine wpAnyH_ready (rs := [10]) (by kernel_rfl) (by simp) (AllReadyH.cons (o := ?oi10A) ?oi0_10A (fun K hK => ?_) AllReadyH.nil)
          case oi0_10A =>
            conv =>
              lhs
              whnf
              arg 1
              whnf
          go_simp
          go_at_call 32
          with_reducible (refine (AW.out _).mono ?_)
          rintro e w' ⟨rfl, rfl⟩
          (try dsimp only)
          refine hK.out _ _ (by exact ⟨x0, x1⟩) (fun hHeld => ?_)
          clear hK K
          try simp only [Act.put, List.setIfInBounds_toArray, List.set_cons_zero, List.set_cons_succ]
          refine wpAnyH_take (i := 11) (oi := ?oi11A) (v := ?v11A) ?oi0_11A (by kernel_rfl) ?ff11A ?rr11A ?hq11A (Or.inl ⟨?hw11A, ?hy11A⟩) (by assumption) ?rest11A
          case oi0_11A =>
            conv =>
              lhs
              whnf
              arg 1
              whnf
          case hq11A => exact fun _ _ _ h => h
          case ff11A => kernel_rfl
          case rr11A => kernel_rfl
          case hw11A => rfl
          case hy11A =>
            intro w hSw
            (try dsimp only at hSw)
            first
            | (go_simp; done)
            | (go_simp; with_reducible rfl)
          try simp only [Act.put, List.setIfInBounds_toArray, List.set_cons_zero, List.set_cons_succ]
          refine wpAnyH_take (i := 12) (oi := ?oi12A) (v := ?v12A) ?oi0_12A (by kernel_rfl) ?ff12A ?rr12A ?hq12A (Or.inl ⟨?hw12A, ?hy12A⟩) (by assumption) ?rest12A
          case oi0_12A =>
            conv =>
              lhs
              whnf
              arg 1
              whnf
          case hq12A => exact fun _ _ _ h => h
          case ff12A => kernel_rfl
          case rr12A => kernel_rfl
          case hw12A => rfl
          case hy12A =>
            intro w hSw
            (try dsimp only at hSw)
            first
            | (go_simp; done)
            | (go_simp; with_reducible rfl)
          try simp only [Act.put, List.setIfInBounds_toArray, List.set_cons_zero, List.set_cons_succ]
          refine wpAnyH_done (by kernel_rfl) ?_ _
          rw [Go.IntWalk.i64_in (L + aw) (by omega)]
          go_wp2_with fail
          go_roundw
          case rel => exact ⟨i + 1, L + aw, by omega, by go_num, by go_num, hu.out.drew, by omega, by have := hL.out; have := HCT.out; unfold Hid; omega⟩
          case measure => simp [intOf] <;> omega
        · obtain rfl : i = k := by omega
          have HC1 := hide hc1
          have HIL := hide hkl
          obtain rfl : L = rc := by have := hL.out; have := HSPL.out; omega
          obtain ⟨wo, rfl⟩ : ∃ wo : World, wo = wr := ⟨_, rfl⟩
          have U5 := hide (U4.out.trans hu.out (by simp))
          have HKK := hide hkc
          clear hL hkc hkl
          have hil : i ≤ len := by have := HIL.out; exact this
          go_wp2_with fail
          · obtain rfl : i = c1 := by omega
            have E0 : len - i = 0 := by have := HC1.out; omega
            have J1 : Ints w3.heap.size w3 (.slice A1 (len - i) 0) (ri.drop i) := Ints.of (by rw [List.length_drop]; have := HRL.out; omega) (fun j z hz => by
              have := (List.getElem?_eq_some_iff.1 hz).1
              rw [List.length_drop] at this
              have := HRL.out
              omega)
            have J2 := hide J1
            clear E0 J1
            refine (ints_yes A4 (len - i) c4 (ri.drop i) A1 (len - i) 0 wo (I4.out.upd hu.out (Nat.le_refl _) (by simp)) (J2.out.upd U5.out (Nat.le_refl _) (by simp)) hu.out.size U5.out.size (by omega)).mono ?_
            rintro e w5 ⟨rfl, u⟩
            have U6 := hide ((U3.out.trans U5.out (by simp)).trans u (by simp))
            have V6 := hide ((U23.out.trans U5.out (by simp)).trans u (by simp))
            clear u
            go_wp2_with fail
            go_meet
            exact ⟨U6.out, V6.out⟩
          · have J2 := hide (I1.out.dropAny (c' := c1 - i) i (by have := HRL.out; omega))
            have J4 := J2
            refine (ints_yes A4 (len - i) c4 (ri.drop i) (A1.map (·.add i)) (len - i) (c1 - i) wo (I4.out.upd hu.out (Nat.le_refl _) (by simp)) (J4.out.upd U5.out (Nat.le_refl _) (by simp)) hu.out.size U5.out.size (by omega)).mono ?_
            rintro e w5 ⟨rfl, u⟩
            have U6 := hide ((U3.out.trans U5.out (by simp)).trans u (by simp))
            have V6 := hide ((U23.out.trans U5.out (by simp)).trans u (by simp))
            clear u
            go_wp2_with fail
            go_meet
            exact ⟨U6.out, V6.out⟩
    · -- not solved
      have hs' := HR.out.symm.trans hs
      simp only [Prod.mk.injEq] at hs'
      obtain ⟨rfl, rfl, rfl⟩ := hs'
      clear hs hno
      go_wp2_with fail
      go_meet
      exact ⟨U3.out, U23.out⟩
  case rest =>
    obtain ⟨wb, rfl⟩ : ∃ wb : World, wb = wc := ⟨_, rfl⟩
    have UW := hide hcut.out.1
    have VW := hide hcut.out.2
    clear hcut
    have HC3 := hide hc1
    clear hc1
    go_upto_block 2 with fail
    go_cut [19, 20, 21] from 96 to 121 (fun s19 s20 _ wx => ∃ (k : Nat) (A : Option Addr) (c' : Nat) (ts : List Int) (S : Int), k ≤ len ∧ s19 = .slice A k c' ∧ s20 = .int .i64 S ∧ (0 ≤ S ∧ S ≤ 2000) ∧ Hid (Upd [] wb wx) ∧ Hid (Ints wx.heap.size wx (.slice A k c') ts) ∧ Hid (ts.length = k) ∧ Hid (sumS ts = S))
    case first =>
      go_wp2_with fail
      go_loopw [19, 20, 21] (fun x y i wr => ∃ (k : Nat) (A : Option Addr) (c' : Nat) (ts : List Int) (S : Int), k ≤ len3 ∧ k ≤ len ∧ i = .int .i64 k ∧ x = .slice A k c' ∧ y = .int .i64 S ∧ (0 ≤ S ∧ S ≤ 200 * k) ∧ Hid (Upd [] wb wr) ∧ Hid (wr.ownsRow wb.heap.size 3 1 (.slice A k c') k (ts.map (Value.int .i64))) ∧ Hid (ts.length = k) ∧ Hid (sumS ts = S))
        (fun _ _ i _ => len - (intOf i).toNat)
      case atStart => exact ⟨0, none, 0, [], 0, Nat.zero_le _, Nat.zero_le _, rfl, rfl, rfl, by omega, Upd.refl _ _, World.ownsRow_nil _ _ _ _, rfl, rfl⟩
      case round =>
        obtain ⟨k, A, c', ts, S, hk3, hk, rfl, rfl, rfl, ⟨hS1, hS2⟩, hu, hrow, htl, hsum⟩ := hrel
        by_cases h3 : k < len3
        · by_cases hl : k < len
          · obtain ⟨x, hx⟩ : ∃ x, z3[k]? = some x := ⟨_, List.getElem?_eq_getElem (by have := J3.out.form.1; omega)⟩
            obtain ⟨xb, xo, ex, hxb, hxc⟩ := (J3.out.upd (UW.out.trans hu.out (by simp)) (Nat.le_refl _) (by simp)).form.2 k x hx
            have hxw := HW3.out x (List.mem_of_getElem? hx)
            have hzb := pickN_lt x (n := 200) (by omega)
            have PK := fun W => pick_any x 200 W hxw (by omega) (by omega)
            obtain ⟨z, hz⟩ : ∃ z, pickN x 200 = z := ⟨_, rfl⟩
            simp only [hz] at PK
            rw [hz] at hzb
            obtain ⟨hz1, hz2⟩ := hzb
            have QK := hide PK
            have hwsum : IntKind.i64.wrap (S + z) = S + z := Go.IntWalk.i64_in _ (by omega)
            have O1 := hide (show ∀ u ∈ [Value.int .i64 z], u.oneCell' = true by simp [Value.oneCell'])
            have O3 := hide (show k + 1 ≤ maxLen by unfold maxLen; omega)
            have O4 := hide (show (k + 1) * 8 ≤ 140737488355328 by omega)
            have O5 : Hid ((ts.map (Value.int .i64) ++ [.int .i64 z])[k]? = some (.int .i64 z)) := by
              show _ = _
              rw [List.getElem?_append_right (by rw [List.length_map, htl.out]; exact Nat.le_refl _), List.length_map, htl.out]
              simp
            have O6 := hide (Nat.succ_pos k)
            have OB := hide (hrow.out.alloc (.cells #[.int .i64 z] 3))
            have HRA := hide (show ∀ q ∈ (A.map (·.block)).toList, wb.heap.size ≤ q from fun q hq => (row_lt hrow.out q (by rw [ownBlock_slice]; simpa using hq)).1)
            have HSZ := hide hu.out.size
            subst ex
            clear hx hxb hxw hz PK
            go_wp2_with fail
            refine (QK.out _).mono ?_
            rintro e w' ⟨rfl, rfl⟩
            go_wp2_with (at_builtin; refine wpList_append_base rfl (.tmp 108) (.tmp 114) _ rfl wb.heap.size 3 _ 1 8 Try.underlying24 info_int rfl (by decide) A k c' _ rfl OB.out ⟨wr.heap.size, 0, none⟩ 1 1 [.int .i64 z] rfl rfl (cell_one_new _ _ _) O1.out O3.out O4.out (by have := HSZ.out; simp; omega) ?_; intro A' c2 w10 h10 u10 a10; obtain ⟨g, rfl⟩ := own_some h10 O6.out; have q0 := own_at h10 O5.out; have H10 := hide h10; have U10 := hide u10; clear h10 u10 a10)
            have V1 := hide (show Upd [] wb w10 from ((hu.out.alloc (.cells #[.int .i64 z] 3)).trans U10.out (fun q hq => .inr (HRA.out q hq))))
            go_roundw
            case rel => exact ⟨k + 1, some ⟨g, 0, none⟩, c2, ts ++ [z], S + z, by omega, by omega, by go_num, rfl, by go_num, by omega, V1, by have := H10.out; rw [List.map_append]; exact this, by show _ = _; rw [List.length_append, htl.out]; rfl, by show _ = _; rw [sumS_snoc, hsum.out]⟩
            case measure => simp [intOf] <;> omega
          · go_wp2_with fail
            go_meet
            have h := hrow.out
            rw [← htl.out] at h
            have h2 := own_ints h
            rw [htl.out] at h2
            exact ⟨k, A, c', ts, S, hk, rfl, rfl, by omega, hu, h2, htl, hsum⟩
        · go_wp2_with fail
          go_meet
          have h := hrow.out
          rw [← htl.out] at h
          have h2 := own_ints h
          rw [htl.out] at h2
          exact ⟨k, A, c', ts, S, hk, rfl, rfl, by omega, hu, h2, htl, hsum⟩
    case rest =>
      obtain ⟨k, A, c', ts, S, hk, rfl, rfl, ⟨hS1, hS2⟩, hu, hI, htl, hsum⟩ := hcut
      have HTL := hide htl.out
      have U2 := hide (VW.out.trans hu.out (by simp))
      have UX := hide (UW.out.trans hu.out (by simp))
      obtain ⟨r2, m2, e2, hr2⟩ : ∃ r2 m2 e2, resumeS l t ts = (r2, m2, e2) := ⟨_, _, _, rfl⟩
      have RS := resume_use b cap l t wc (HP.out.upd U2.out (Nat.le_refl _) (by simp)) U2.out.size HM.out A k c' ts hI.out (Nat.le_refl _) (by rw [HTL.out]; unfold maxLen; omega) hr2
      rw [HLEN.out] at RS
      rcases resume_cases HV.out hr2 with ⟨rfl, rfl, rfl⟩ | ⟨rfl, hle, hfit, hcost⟩
      · have HRS := hide RS
        clear RS hr2
        go_wp2_with fail
        refine HRS.out.mono ?_
        rintro e w6 ⟨A6, c6, rfl, i6, u⟩
        have U6 := hide (UX.out.trans u (by simp))
        clear u i6
        go_wp2_with fail
        go_ret
        exact ⟨rfl, U6.out.toBelow (Nat.le_refl _) (by simp)⟩
      · rw [HTL.out, hsum.out] at hfit
        rw [HTL.out] at hcost
        obtain ⟨m, hm⟩ : ∃ m, r2.length = m := ⟨_, rfl⟩
        have hmk : (len : Int) - k = m := by
          have h1 := fits_len hfit
          rw [List.length_drop] at h1
          have := HLEN.out
          omega
        rw [hm] at RS
        have HRS := hide RS
        have HMM := hide hm
        have HFIT := hide hfit
        have HCOST := hide hcost
        clear RS hr2 hm hle hfit hcost
        go_wp2_with fail
        refine HRS.out.mono ?_
        rintro e w6 ⟨A6, c6, rfl, i6, u⟩
        have U6 := hide (UX.out.trans u (by simp))
        have U26 := hide (U2.out.trans u (by simp))
        have I6 := hide i6
        clear u i6
        go_wp2_with fail
        have HMK := hide hmk
        clear hmk
        go_loopw [20, 23, 25] (fun x y i wr => ∃ (q : Nat) (B M : Int), q ≤ m ∧ i = .int .i64 q ∧ x = .int .i64 B ∧ y = .int .i64 M ∧ (0 ≤ B ∧ B ≤ 2000 + 3600 * q) ∧ Hid (Upd [] w6 wr) ∧ Hid (fitsS t (l.drop (k + q)) B (r2.drop q) = true) ∧ Hid (costS (l.drop (k + q)) (r2.drop q) = M))
          (fun _ _ i _ => m - (intOf i).toNat)
        case atStart => exact ⟨0, S, m2, Nat.zero_le _, rfl, rfl, rfl, by omega, Upd.refl _ _, HFIT, HCOST⟩
        case round =>
          obtain ⟨q, B, M, hq, rfl, rfl, rfl, ⟨hB1, hB2⟩, hu, hf, hc⟩ := hrel
          by_cases hlt : q < m
          · have hkq : k + q < len := by have := HMK.out; omega
            obtain ⟨p, hp⟩ : ∃ p, l[k + q]? = some p := ⟨_, List.getElem?_eq_getElem (by have := HLEN.out; omega)⟩
            obtain ⟨z, hz⟩ : ∃ z, r2[q]? = some z := ⟨_, List.getElem?_eq_getElem (by have := HMM.out; omega)⟩
            obtain ⟨nb, no, ea, hnb, hzc⟩ := ((I6.out.upd hu.out (Nat.le_refl _) (by simp)).form.2) q z hz
            obtain ⟨pb, po, pa, pn, pc, eb, hb, hi, hpm, c0, c1', c2⟩ := (HP.out.upd (U26.out.trans hu.out (by simp)) (Nat.le_refl _) (by simp)) (k + q) p hp
            have hok := HV.out.2.2 p (List.mem_of_getElem? hp)
            have F := hf.out
            have C := hc.out
            rw [drop_pc hp, drop_at hz, fitsS] at F
            rw [drop_pc hp, drop_at hz, costS] at C
            simp only [Bool.and_eq_true] at F
            obtain ⟨⟨F1, F2⟩, F3⟩ := F
            have hzin := of_decide_eq_true F2
            obtain ⟨hz1, hz2⟩ := len_ok hok hzin
            obtain ⟨hw1, hw2⟩ := hok.2.1
            have hokd : ∀ p ∈ l.drop (k + q + 1), PcOk p := fun p hp => HV.out.2.2 p (List.mem_of_mem_drop hp)
            obtain ⟨hb1, hb2⟩ := cost_bound hokd F3
            have hb3 : (l.drop (k + q + 1)).length ≤ 10 := by rw [List.length_drop]; have := HLEN.out; omega
            have AW0 := fun W => laway_any z p.want W (by omega) (by omega)
            have haw : 0 ≤ awayS z p.want ∧ awayS z p.want ≤ 3600 := by unfold awayS; omega
            obtain ⟨aw, hawe⟩ : ∃ aw, awayS z p.want = aw := ⟨_, rfl⟩
            rw [hawe] at haw C
            simp only [hawe] at AW0
            have AW := hide AW0
            obtain ⟨ha1, ha2⟩ := haw
            have hM : 0 ≤ M - aw ∧ M - aw ≤ 36000 := by omega
            obtain ⟨hM1, hM2⟩ := hM
            have hqm : (q : Int) < m := by omega
            have hki : (k : Int) + q < len := by omega
            have U2 := hu.out.alloc (.cells #[.slice pa pn pc, .int .i64 p.want, .int .i64 p.join] 50)
            have HU2 := hide U2.drew
            have k3 : (wr.alloc (.cells #[.slice pa pn pc, .int .i64 p.want, .int .i64 p.join] 50)).drew.cell? ⟨nb, no + q, none⟩ = some (.int .i64 z) := ((Upd.refl [] wr).alloc _ |>.cell (p := ⟨nb, no + q, none⟩) (World.block_lt_of_cell? _ _ hzc) (by simp)).trans hzc
            have L1 := hide ((Blk.new wr 50 [.slice pa pn pc, .int .i64 p.want, .int .i64 p.join]).drew)
            have k0 := L1.out.cell 0
            have k1 := L1.out.cell 1
            have k2 := L1.out.cell 2
            have HAS : Hid (Calls Try.prog 31 #[.slice pa pn pc, .int .i64 z] (wr.alloc (.cells #[.slice pa pn pc, .int .i64 p.want, .int .i64 p.join] 50)).drew fun e w' => e = .returned (.bool true) ∧ (wr.alloc (.cells #[.slice pa pn pc, .int .i64 p.want, .int .i64 p.join] 50)).drew = w') := by
              have h := lhas_any pa pn pc p.lens z (wr.alloc (.cells #[.slice pa pn pc, .int .i64 p.want, .int .i64 p.join] 50)).drew (hi.upd ((Upd.refl [] wr).alloc (.cells #[.slice pa pn pc, .int .i64 p.want, .int .i64 p.join] 50)).drew (U26.out.trans hu.out (by simp)).size (by simp)) (by have := hi.form.1; have := hok.1; omega)
              rwa [F2] at h
            have HF3 := hide F3
            have HC3' := hide (show costS (l.drop (k + q + 1)) (r2.drop (q + 1)) = M - aw by omega)
            have HF1 := hide F1
            obtain ⟨jn, hjn⟩ : ∃ jn, p.join = jn := ⟨_, rfl⟩
            have HJN := hide hjn
            rw [hjn] at c2 k2 HAS HU2 k0 k1 k3
            subst ea eb
            by_cases hj : 0 ≤ jn
            · have hjB : jn = B := by
                have := HF1.out
                unfold meetsS at this
                rw [HJN.out] at this
                simp at this
                omega
              subst hjB
              clear hp hz hb hi hpm hok F1 F2 F3 C hzin hokd hb1 hb2 hb3 hawe AW0 U2 hnb hjn
              go_wp2_with fail
              refine wp_region_held_drew (S := (fun w' => w'.cell? ⟨wr.heap.size, 0, none⟩ = some (.slice pa pn pc) ∧ w'.cell? ⟨wr.heap.size, 1, none⟩ = some (.int .i64 p.want) ∧ w'.cell? ⟨wr.heap.size, 2, none⟩ = some (.int .i64 jn) ∧ w'.cell? ⟨nb, no + q, none⟩ = some (.int .i64 z))) (by kernel_rfl) (by exact ⟨k0, k1, k2, k3⟩) (fun hHeld => ?_)
              refine wpAnyH_take (i := 0) (oi := ?oi0B) (v := ?v0B) ?oi0_0B (by kernel_rfl) ?ff0B ?rr0B ?hq0B (Or.inl ⟨?hw0B, ?hy0B⟩) (by assumption) ?rest0B
              case oi0_0B =>
                conv =>
                  lhs
                  whnf
                  arg 1
                  whnf
              case hq0B => exact fun _ _ _ h => h
              case ff0B => kernel_rfl
              case rr0B => kernel_rfl
              case hw0B => rfl
              case hy0B =>
                intro w hSw
                (try dsimp only at hSw)
                first
                | (go_simp; done)
                | (go_simp; with_reducible rfl)
              try simp only [Act.put, List.setIfInBounds_toArray, List.set_cons_zero, List.set_cons_succ]
              refine wpAnyH_take (i := 1) (oi := ?oi1B) (v := ?v1B) ?oi0_1B (by kernel_rfl) ?ff1B ?rr1B ?hq1B (Or.inl ⟨?hw1B, ?hy1B⟩) (by assumption) ?rest1B
              case oi0_1B =>
                conv =>
                  lhs
                  whnf
                  arg 1
                  whnf
              case hq1B => exact fun _ _ _ h => h
              case ff1B => kernel_rfl
              case rr1B => kernel_rfl
              case hw1B => rfl
              case hy1B =>
                intro w hSw
                (try dsimp only at hSw)
                first
                | (go_simp; done)
                | (go_simp; with_reducible rfl)
              try simp only [Act.put, List.setIfInBounds_toArray, List.set_cons_zero, List.set_cons_succ]
              refine wpAnyH_take (i := 2) (oi := ?oi2B) (v := ?v2B) ?oi0_2B (by kernel_rfl) ?ff2B ?rr2B ?hq2B (Or.inl ⟨?hw2B, ?hy2B⟩) (by assumption) ?rest2B
              case oi0_2B =>
                conv =>
                  lhs
                  whnf
                  arg 1
                  whnf
              case hq2B => exact fun _ _ _ h => h
              case ff2B => kernel_rfl
              case rr2B => kernel_rfl
              case hw2B => rfl
              case hy2B =>
                intro w hSw
                (try dsimp only at hSw)
                first
                | (go_simp; done)
                | (go_simp; with_reducible rfl)
              try simp only [Act.put, List.setIfInBounds_toArray, List.set_cons_zero, List.set_cons_succ]
              refine wpAnyH_take (i := 3) (oi := ?oi3B) (v := ?v3B) ?oi0_3B (by kernel_rfl) ?ff3B ?rr3B ?hq3B (Or.inl ⟨?hw3B, ?hy3B⟩) (by assumption) ?rest3B
              case oi0_3B =>
                conv =>
                  lhs
                  whnf
                  arg 1
                  whnf
              case hq3B => exact fun _ _ _ h => h
              case ff3B => kernel_rfl
              case rr3B => kernel_rfl
              case hw3B => rfl
              case hy3B =>
                intro w hSw
                (try dsimp only at hSw)
                first
                | (go_simp; done)
                | (go_simp; with_reducible rfl)
              try simp only [Act.put, List.setIfInBounds_toArray, List.set_cons_zero, List.set_cons_succ]
              refine wpAnyH_take (i := 4) (oi := ?oi4B) (v := ?v4B) ?oi0_4B (by kernel_rfl) ?ff4B ?rr4B ?hq4B (Or.inl ⟨?hw4B, ?hy4B⟩) (by assumption) ?rest4B
              case oi0_4B =>
                conv =>
                  lhs
                  whnf
                  arg 1
                  whnf
              case hq4B => exact fun _ _ _ h => h
              case ff4B => kernel_rfl
              case rr4B => kernel_rfl
              case hw4B => rfl
              case hy4B =>
                intro w hSw
                (try dsimp only at hSw)
                first
                | (go_simp; done)
                | (go_simp; with_reducible rfl)
              try simp only [Act.put, List.setIfInBounds_toArray, List.set_cons_zero, List.set_cons_succ]
              refine wpAnyH_take (i := 5) (oi := ?oi5B) (v := ?v5B) ?oi0_5B (by kernel_rfl) ?ff5B ?rr5B ?hq5B (Or.inl ⟨?hw5B, ?hy5B⟩) (by assumption) ?rest5B
              case oi0_5B =>
                conv =>
                  lhs
                  whnf
                  arg 1
                  whnf
              case hq5B => exact fun _ _ _ h => h
              case ff5B => kernel_rfl
              case rr5B => kernel_rfl
              case hw5B => rfl
              case hy5B =>
                intro w hSw
                (try dsimp only at hSw)
                first
                | (go_simp; done)
                | (go_simp; with_reducible rfl)
              try simp only [Act.put, List.setIfInBounds_toArray, List.set_cons_zero, List.set_cons_succ]
              refine wpAnyH_take (i := 6) (oi := ?oi6B) (v := ?v6B) ?oi0_6B (by kernel_rfl) ?ff6B ?rr6B ?hq6B (Or.inl ⟨?hw6B, ?hy6B⟩) (by assumption) ?rest6B
              case oi0_6B =>
                conv =>
                  lhs
                  whnf
                  arg 1
                  whnf
              case hq6B => exact fun _ _ _ h => h
              case ff6B => kernel_rfl
              case rr6B => kernel_rfl
              case hw6B => rfl
              case hy6B =>
                intro w hSw
                (try dsimp only at hSw)
                first
                | (go_simp; done)
                | (go_simp; with_reducible rfl)
              try simp only [Act.put, List.setIfInBounds_toArray, List.set_cons_zero, List.set_cons_succ]
              refine wpAnyH_take (i := 7) (oi := ?oi7B) (v := ?v7B) ?oi0_7B (by kernel_rfl) ?ff7B ?rr7B ?hq7B (Or.inl ⟨?hw7B, ?hy7B⟩) (by assumption) ?rest7B
              case oi0_7B =>
                conv =>
                  lhs
                  whnf
                  arg 1
                  whnf
              case hq7B => exact fun _ _ _ h => h
              case ff7B => kernel_rfl
              case rr7B => kernel_rfl
              case hw7B => rfl
              case hy7B =>
                intro w hSw
                (try dsimp only at hSw)
                first
                | (go_simp; done)
                | (go_simp; with_reducible rfl)
              try simp only [Act.put, List.setIfInBounds_toArray, List.set_cons_zero, List.set_cons_succ]
              refine wpAnyH_take (i := 8) (oi := ?oi8B) (v := ?v8B) ?oi0_8B (by kernel_rfl) ?ff8B ?rr8B ?hq8B (Or.inl ⟨?hw8B, ?hy8B⟩) (by assumption) ?rest8B
              case oi0_8B =>
                conv =>
                  lhs
                  whnf
                  arg 1
                  whnf
              case hq8B => exact fun _ _ _ h => h
              case ff8B => kernel_rfl
              case rr8B => kernel_rfl
              case hw8B => rfl
              case hy8B =>
                intro w hSw
                (try dsimp only at hSw)
                first
                | (go_simp; done)
                | (go_simp; with_reducible rfl)
              try simp only [Act.put, List.setIfInBounds_toArray, List.set_cons_zero, List.set_cons_succ]
              refine wpAnyH_take (i := 9) (oi := ?oi9B) (v := ?v9B) ?oi0_9B (by kernel_rfl) ?ff9B ?rr9B ?hq9B (Or.inl ⟨?hw9B, ?hy9B⟩) (by assumption) ?rest9B
              case oi0_9B =>
                conv =>
                  lhs
                  whnf
                  arg 1
                  whnf
              case hq9B => exact fun _ _ _ h => h
              case ff9B => kernel_rfl
              case rr9B => kernel_rfl
              case hw9B => rfl
              case hy9B =>
                intro w hSw
                (try dsimp only at hSw)
                first
                | (go_simp; done)
                | (go_simp; with_reducible rfl)
              try simp only [Act.put, List.setIfInBounds_toArray, List.set_cons_zero, List.set_cons_succ]
              refine wpAnyH_take (i := 10) (oi := ?oi10B) (v := ?v10B) ?oi0_10B (by kernel_rfl) ?ff10B ?rr10B ?hq10B (Or.inl ⟨?hw10B, ?hy10B⟩) (by assumption) ?rest10B
              case oi0_10B =>
                conv =>
                  lhs
                  whnf
                  arg 1
                  whnf
              case hq10B => exact fun _ _ _ h => h
              case ff10B => kernel_rfl
              case rr10B => kernel_rfl
              case hw10B => rfl
              case hy10B =>
                intro w hSw
                (try dsimp only at hSw)
                first
                | (go_simp; done)
                | (go_simp; with_reducible rfl)
              try simp only [Act.put, List.setIfInBounds_toArray, List.set_cons_zero, List.set_cons_succ]
              refine wpAnyH_take (i := 11) (oi := ?oi11B) (v := ?v11B) ?oi0_11B (by kernel_rfl) ?ff11B ?rr11B ?hq11B (Or.inl ⟨?hw11B, ?hy11B⟩) (by assumption) ?rest11B
              case oi0_11B =>
                conv =>
                  lhs
                  whnf
                  arg 1
                  whnf
              case hq11B => exact fun _ _ _ h => h
              case ff11B => kernel_rfl
              case rr11B => kernel_rfl
              case hw11B => rfl
              case hy11B =>
                intro w hSw
                (try dsimp only at hSw)
                first
                | (go_simp; done)
                | (go_simp; with_reducible rfl)
              try simp only [Act.put, List.setIfInBounds_toArray, List.set_cons_zero, List.set_cons_succ]
              refine wpAnyH_take (i := 12) (oi := ?oi12B) (v := ?v12B) ?oi0_12B (by kernel_rfl) ?ff12B ?rr12B ?hq12B (Or.inl ⟨?hw12B, ?hy12B⟩) (by assumption) ?rest12B
              case oi0_12B =>
                conv =>
                  lhs
                  whnf
                  arg 1
                  whnf
              case hq12B => exact fun _ _ _ h => h
              case ff12B => kernel_rfl
              case rr12B => kernel_rfl
              case hw12B => rfl
              case hy12B =>
                intro w hSw
                (try dsimp only at hSw)
                first
                | (go_simp; done)
                | (go_simp; with_reducible rfl)
              try simp only [Act.put, List.setIfInBounds_toArray, List.set_cons_zero, List.set_cons_succ]
              refine wpAnyH_take (i := 13) (oi := ?oi13B) (v := ?v13B) ?oi0_13B (by kernel_rfl) ?ff13B ?rr13B ?hq13B (Or.inl ⟨?hw13B, ?hy13B⟩) (by assumption) ?rest13B
              case oi0_13B =>
                conv =>
                  lhs
                  whnf
                  arg 1
                  whnf
              case hq13B => exact fun _ _ _ h => h
              case ff13B => kernel_rfl
              case rr13B => kernel_rfl
              case hw13B => rfl
              case hy13B =>
                intro w hSw
                (try dsimp only at hSw)
                first
                | (go_simp; done)
                | (go_simp; with_reducible rfl)
              try simp only [Act.put, List.setIfInBounds_toArray, List.set_cons_zero, List.set_cons_succ]
              refine wpAnyH_take (i := 14) (oi := ?oi14B) (v := ?v14B) ?oi0_14B (by kernel_rfl) ?ff14B ?rr14B ?hq14B (Or.inl ⟨?hw14B, ?hy14B⟩) (by assumption) ?rest14B
              case oi0_14B =>
                conv =>
                  lhs
                  whnf
                  arg 1
                  whnf
              case hq14B => exact fun _ _ _ h => h
              case ff14B => kernel_rfl
              case rr14B => kernel_rfl
              case hw14B => rfl
              case hy14B =>
                intro w hSw
                (try dsimp only at hSw)
                first
                | (go_simp; done)
                | (go_simp; with_reducible rfl)
              try simp only [Act.put, List.setIfInBounds_toArray, List.set_cons_zero, List.set_cons_succ]
              refine wpAnyH_take (i := 15) (oi := ?oi15B) (v := ?v15B) ?oi0_15B (by kernel_rfl) ?ff15B ?rr15B ?hq15B (Or.inl ⟨?hw15B, ?hy15B⟩) (by assumption) ?rest15B
              case oi0_15B =>
                conv =>
                  lhs
                  whnf
                  arg 1
                  whnf
              case hq15B => exact fun _ _ _ h => h
              case ff15B => kernel_rfl
              case rr15B => kernel_rfl
              case hw15B => rfl
              case hy15B =>
                intro w hSw
                (try dsimp only at hSw)
                first
                | (go_simp; done)
                | (go_simp; with_reducible rfl)
              try simp only [Act.put, List.setIfInBounds_toArray, List.set_cons_zero, List.set_cons_succ]
              refine wpAnyH_ready (rs := [16]) (by kernel_rfl) (by simp) (AllReadyH.cons (o := ?oi16B) ?oi0_16B (fun K hK => ?_) AllReadyH.nil)
              case oi0_16B =>
                conv =>
                  lhs
                  whnf
                  arg 1
                  whnf
              go_simp
              go_at_call 31
              have TT := HAS.out
              with_reducible (refine TT.mono ?_)
              clear TT
              rintro e w' ⟨rfl, rfl⟩
              (try dsimp only)
              refine hK.out _ _ (by exact ⟨k0, k1, k2, k3⟩) (fun hHeld => ?_)
              clear hK K
              try simp only [Act.put, List.setIfInBounds_toArray, List.set_cons_zero, List.set_cons_succ]
              refine wpAnyH_take (i := 17) (oi := ?oi17B) (v := ?v17B) ?oi0_17B (by kernel_rfl) ?ff17B ?rr17B ?hq17B (Or.inl ⟨?hw17B, ?hy17B⟩) (by assumption) ?rest17B
              case oi0_17B =>
                conv =>
                  lhs
                  whnf
                  arg 1
                  whnf
              case hq17B => exact fun _ _ _ h => h
              case ff17B => kernel_rfl
              case rr17B => kernel_rfl
              case hw17B => rfl
              case hy17B =>
                intro w hSw
                (try dsimp only at hSw)
                first
                | (go_simp; done)
                | (go_simp; with_reducible rfl)
              try simp only [Act.put, List.setIfInBounds_toArray, List.set_cons_zero, List.set_cons_succ]
              refine wpAnyH_take (i := 18) (oi := ?oi18B) (v := ?v18B) ?oi0_18B (by kernel_rfl) ?ff18B ?rr18B ?hq18B (Or.inl ⟨?hw18B, ?hy18B⟩) (by assumption) ?rest18B
              case oi0_18B =>
                conv =>
                  lhs
                  whnf
                  arg 1
                  whnf
              case hq18B => exact fun _ _ _ h => h
              case ff18B => kernel_rfl
              case rr18B => kernel_rfl
              case hw18B => rfl
              case hy18B =>
                intro w hSw
                (try dsimp only at hSw)
                first
                | (go_simp; done)
                | (go_simp; with_reducible rfl)
              try simp only [Act.put, List.setIfInBounds_toArray, List.set_cons_zero, List.set_cons_succ]
              refine wpAnyH_done (by kernel_rfl) ?_ _
              go_wp2_with fail
              refine wp_region_held_drew (S := (fun w' => w'.cell? ⟨wr.heap.size, 0, none⟩ = some (.slice pa pn pc) ∧ w'.cell? ⟨wr.heap.size, 1, none⟩ = some (.int .i64 p.want) ∧ w'.cell? ⟨wr.heap.size, 2, none⟩ = some (.int .i64 jn) ∧ w'.cell? ⟨nb, no + q, none⟩ = some (.int .i64 z))) (by kernel_rfl) (by exact ⟨k0, k1, k2, k3⟩) (fun hHeld => ?_)
              refine wpAnyH_take (i := 0) (oi := ?oi0D) (v := ?v0D) ?oi0_0D (by kernel_rfl) ?ff0D ?rr0D ?hq0D (Or.inl ⟨?hw0D, ?hy0D⟩) (by assumption) ?rest0D
              case oi0_0D =>
                conv =>
                  lhs
                  whnf
                  arg 1
                  whnf
              case hq0D => exact fun _ _ _ h => h
              case ff0D => kernel_rfl
              case rr0D => kernel_rfl
              case hw0D => rfl
              case hy0D =>
                intro w hSw
                (try dsimp only at hSw)
                first
                | (go_simp; done)
                | (go_simp; with_reducible rfl)
              try simp only [Act.put, List.setIfInBounds_toArray, List.set_cons_zero, List.set_cons_succ]
              refine wpAnyH_take (i := 1) (oi := ?oi1D) (v := ?v1D) ?oi0_1D (by kernel_rfl) ?ff1D ?rr1D ?hq1D (Or.inl ⟨?hw1D, ?hy1D⟩) (by assumption) ?rest1D
              case oi0_1D =>
                conv =>
                  lhs
                  whnf
                  arg 1
                  whnf
              case hq1D => exact fun _ _ _ h => h
              case ff1D => kernel_rfl
              case rr1D => kernel_rfl
              case hw1D => rfl
              case hy1D =>
                intro w hSw
                (try dsimp only at hSw)
                first
                | (go_simp; done)
                | (go_simp; with_reducible rfl)
              try simp only [Act.put, List.setIfInBounds_toArray, List.set_cons_zero, List.set_cons_succ]
              refine wpAnyH_take (i := 2) (oi := ?oi2D) (v := ?v2D) ?oi0_2D (by kernel_rfl) ?ff2D ?rr2D ?hq2D (Or.inl ⟨?hw2D, ?hy2D⟩) (by assumption) ?rest2D
              case oi0_2D =>
                conv =>
                  lhs
                  whnf
                  arg 1
                  whnf
              case hq2D => exact fun _ _ _ h => h
              case ff2D => kernel_rfl
              case rr2D => kernel_rfl
              case hw2D => rfl
              case hy2D =>
                intro w hSw
                (try dsimp only at hSw)
                first
                | (go_simp; done)
                | (go_simp; with_reducible rfl)
              try simp only [Act.put, List.setIfInBounds_toArray, List.set_cons_zero, List.set_cons_succ]
              refine wpAnyH_take (i := 3) (oi := ?oi3D) (v := ?v3D) ?oi0_3D (by kernel_rfl) ?ff3D ?rr3D ?hq3D (Or.inl ⟨?hw3D, ?hy3D⟩) (by assumption) ?rest3D
              case oi0_3D =>
                conv =>
                  lhs
                  whnf
                  arg 1
                  whnf
              case hq3D => exact fun _ _ _ h => h
              case ff3D => kernel_rfl
              case rr3D => kernel_rfl
              case hw3D => rfl
              case hy3D =>
                intro w hSw
                (try dsimp only at hSw)
                first
                | (go_simp; done)
                | (go_simp; with_reducible rfl)
              try simp only [Act.put, List.setIfInBounds_toArray, List.set_cons_zero, List.set_cons_succ]
              refine wpAnyH_take (i := 4) (oi := ?oi4D) (v := ?v4D) ?oi0_4D (by kernel_rfl) ?ff4D ?rr4D ?hq4D (Or.inl ⟨?hw4D, ?hy4D⟩) (by assumption) ?rest4D
              case oi0_4D =>
                conv =>
                  lhs
                  whnf
                  arg 1
                  whnf
              case hq4D => exact fun _ _ _ h => h
              case ff4D => kernel_rfl
              case rr4D => kernel_rfl
              case hw4D => rfl
              case hy4D =>
                intro w hSw
                (try dsimp only at hSw)
                first
                | (go_simp; done)
                | (go_simp; with_reducible rfl)
              try simp only [Act.put, List.setIfInBounds_toArray, List.set_cons_zero, List.set_cons_succ]
              refine wpAnyH_take (i := 5) (oi := ?oi5D) (v := ?v5D) ?oi0_5D (by kernel_rfl) ?ff5D ?rr5D ?hq5D (Or.inl ⟨?hw5D, ?hy5D⟩) (by assumption) ?rest5D
              case oi0_5D =>
                conv =>
                  lhs
                  whnf
                  arg 1
                  whnf
              case hq5D => exact fun _ _ _ h => h
              case ff5D => kernel_rfl
              case rr5D => kernel_rfl
              case hw5D => rfl
              case hy5D =>
                intro w hSw
                (try dsimp only at hSw)
                first
                | (go_simp; done)
                | (go_simp; with_reducible rfl)
              try simp only [Act.put, List.setIfInBounds_toArray, List.set_cons_zero, List.set_cons_succ]
              refine wpAnyH_take (i := 6) (oi := ?oi6D) (v := ?v6D) ?oi0_6D (by kernel_rfl) ?ff6D ?rr6D ?hq6D (Or.inl ⟨?hw6D, ?hy6D⟩) (by assumption) ?rest6D
              case oi0_6D =>
                conv =>
                  lhs
                  whnf
                  arg 1
                  whnf
              case hq6D => exact fun _ _ _ h => h
              case ff6D => kernel_rfl
              case rr6D => kernel_rfl
              case hw6D => rfl
              case hy6D =>
                intro w hSw
                (try dsimp only at hSw)
                first
                | (go_simp; done)
                | (go_simp; with_reducible rfl)
              try simp only [Act.put, List.setIfInBounds_toArray, List.set_cons_zero, List.set_cons_succ]
              refine wpAnyH_ready (rs := [7]) (by kernel_rfl) (by simp) (AllReadyH.cons (o := ?oi7D) ?oi0_7D (fun K hK => ?_) AllReadyH.nil)
              case oi0_7D =>
                conv =>
                  lhs
                  whnf
                  arg 1
                  whnf
              go_simp
              go_at_call 32
              with_reducible (refine (AW.out _).mono ?_)
              rintro e w' ⟨rfl, rfl⟩
              (try dsimp only)
              refine hK.out _ _ (by exact ⟨k0, k1, k2, k3⟩) (fun hHeld => ?_)
              clear hK K
              try simp only [Act.put, List.setIfInBounds_toArray, List.set_cons_zero, List.set_cons_succ]
              refine wpAnyH_take (i := 8) (oi := ?oi8D) (v := ?v8D) ?oi0_8D (by kernel_rfl) ?ff8D ?rr8D ?hq8D (Or.inl ⟨?hw8D, ?hy8D⟩) (by assumption) ?rest8D
              case oi0_8D =>
                conv =>
                  lhs
                  whnf
                  arg 1
                  whnf
              case hq8D => exact fun _ _ _ h => h
              case ff8D => kernel_rfl
              case rr8D => kernel_rfl
              case hw8D => rfl
              case hy8D =>
                intro w hSw
                (try dsimp only at hSw)
                first
                | (go_simp; done)
                | (go_simp; with_reducible rfl)
              try simp only [Act.put, List.setIfInBounds_toArray, List.set_cons_zero, List.set_cons_succ]
              refine wpAnyH_take (i := 9) (oi := ?oi9D) (v := ?v9D) ?oi0_9D (by kernel_rfl) ?ff9D ?rr9D ?hq9D (Or.inl ⟨?hw9D, ?hy9D⟩) (by assumption) ?rest9D
              case oi0_9D =>
                conv =>
                  lhs
                  whnf
                  arg 1
                  whnf
              case hq9D => exact fun _ _ _ h => h
              case ff9D => kernel_rfl
              case rr9D => kernel_rfl
              case hw9D => rfl
              case hy9D =>
                intro w hSw
                (try dsimp only at hSw)
                first
                | (go_simp; done)
                | (go_simp; with_reducible rfl)
              try simp only [Act.put, List.setIfInBounds_toArray, List.set_cons_zero, List.set_cons_succ]
              refine wpAnyH_done (by kernel_rfl) ?_ _
              rw [Go.IntWalk.i64_in (M - aw) (by omega)]
              go_wp2_with fail
              go_roundw
              case rel => exact ⟨q + 1, jn + z, M - aw, by omega, by go_num, by go_num, by go_num, by omega, HU2.out.drew, HF3.out, HC3'.out⟩
              case measure => simp [intOf] <;> omega
            · have hjd : decide (0 ≤ jn) = false := decide_eq_false hj
              have hjl : jn < 0 := by omega
              clear hp hz hb hi hpm hok F1 F2 F3 C hzin hokd hb1 hb2 hb3 hawe AW0 U2 hnb hjn
              go_wp2_with fail
              refine wp_region_held_drew (S := (fun w' => w'.cell? ⟨wr.heap.size, 0, none⟩ = some (.slice pa pn pc) ∧ w'.cell? ⟨wr.heap.size, 1, none⟩ = some (.int .i64 p.want) ∧ w'.cell? ⟨wr.heap.size, 2, none⟩ = some (.int .i64 jn) ∧ w'.cell? ⟨nb, no + q, none⟩ = some (.int .i64 z))) (by kernel_rfl) (by exact ⟨k0, k1, k2, k3⟩) (fun hHeld => ?_)
              refine wpAnyH_take (i := 0) (oi := ?oi0C) (v := ?v0C) ?oi0_0C (by kernel_rfl) ?ff0C ?rr0C ?hq0C (Or.inl ⟨?hw0C, ?hy0C⟩) (by assumption) ?rest0C
              case oi0_0C =>
                conv =>
                  lhs
                  whnf
                  arg 1
                  whnf
              case hq0C => exact fun _ _ _ h => h
              case ff0C => kernel_rfl
              case rr0C => kernel_rfl
              case hw0C => rfl
              case hy0C =>
                intro w hSw
                (try dsimp only at hSw)
                first
                | (go_simp; done)
                | (go_simp; with_reducible rfl)
              try simp only [Act.put, List.setIfInBounds_toArray, List.set_cons_zero, List.set_cons_succ]
              refine wpAnyH_take (i := 1) (oi := ?oi1C) (v := ?v1C) ?oi0_1C (by kernel_rfl) ?ff1C ?rr1C ?hq1C (Or.inl ⟨?hw1C, ?hy1C⟩) (by assumption) ?rest1C
              case oi0_1C =>
                conv =>
                  lhs
                  whnf
                  arg 1
                  whnf
              case hq1C => exact fun _ _ _ h => h
              case ff1C => kernel_rfl
              case rr1C => kernel_rfl
              case hw1C => rfl
              case hy1C =>
                intro w hSw
                (try dsimp only at hSw)
                first
                | (go_simp; done)
                | (go_simp; with_reducible rfl)
              try simp only [Act.put, List.setIfInBounds_toArray, List.set_cons_zero, List.set_cons_succ]
              refine wpAnyH_take (i := 2) (oi := ?oi2C) (v := ?v2C) ?oi0_2C (by kernel_rfl) ?ff2C ?rr2C ?hq2C (Or.inl ⟨?hw2C, ?hy2C⟩) (by assumption) ?rest2C
              case oi0_2C =>
                conv =>
                  lhs
                  whnf
                  arg 1
                  whnf
              case hq2C => exact fun _ _ _ h => h
              case ff2C => kernel_rfl
              case rr2C => kernel_rfl
              case hw2C => rfl
              case hy2C =>
                intro w hSw
                (try dsimp only at hSw)
                first
                | (go_simp; done)
                | (go_simp; with_reducible rfl)
              try simp only [Act.put, List.setIfInBounds_toArray, List.set_cons_zero, List.set_cons_succ]
              refine wpAnyH_take (i := 3) (oi := ?oi3C) (v := ?v3C) ?oi0_3C (by kernel_rfl) ?ff3C ?rr3C ?hq3C (Or.inl ⟨?hw3C, ?hy3C⟩) (by assumption) ?rest3C
              case oi0_3C =>
                conv =>
                  lhs
                  whnf
                  arg 1
                  whnf
              case hq3C => exact fun _ _ _ h => h
              case ff3C => kernel_rfl
              case rr3C => kernel_rfl
              case hw3C => rfl
              case hy3C =>
                intro w hSw
                (try dsimp only at hSw)
                first
                | (go_simp; done)
                | (go_simp; with_reducible rfl)
              try simp only [Act.put, List.setIfInBounds_toArray, List.set_cons_zero, List.set_cons_succ]
              refine wpAnyH_take (i := 4) (oi := ?oi4C) (v := undef) ?oi0_4C (by kernel_rfl) ?ff4C ?rr4C ?hq4C (Or.inr ⟨?hw4C, rfl⟩) (by assumption) ?rest4C
              case oi0_4C =>
                conv =>
                  lhs
                  whnf
                  arg 1
                  whnf
              case hq4C => exact fun _ _ _ h => h
              case ff4C => kernel_rfl
              case rr4C => kernel_rfl
              case hw4C => rfl
              try simp only [Act.put, List.setIfInBounds_toArray, List.set_cons_zero, List.set_cons_succ]
              refine wpAnyH_take (i := 5) (oi := ?oi5C) (v := undef) ?oi0_5C (by kernel_rfl) ?ff5C ?rr5C ?hq5C (Or.inr ⟨?hw5C, rfl⟩) (by assumption) ?rest5C
              case oi0_5C =>
                conv =>
                  lhs
                  whnf
                  arg 1
                  whnf
              case hq5C => exact fun _ _ _ h => h
              case ff5C => kernel_rfl
              case rr5C => kernel_rfl
              case hw5C => rfl
              try simp only [Act.put, List.setIfInBounds_toArray, List.set_cons_zero, List.set_cons_succ]
              refine wpAnyH_take (i := 6) (oi := ?oi6C) (v := undef) ?oi0_6C (by kernel_rfl) ?ff6C ?rr6C ?hq6C (Or.inr ⟨?hw6C, rfl⟩) (by assumption) ?rest6C
              case oi0_6C =>
                conv =>
                  lhs
                  whnf
                  arg 1
                  whnf
              case hq6C => exact fun _ _ _ h => h
              case ff6C => kernel_rfl
              case rr6C => kernel_rfl
              case hw6C => rfl
              try simp only [Act.put, List.setIfInBounds_toArray, List.set_cons_zero, List.set_cons_succ]
              refine wpAnyH_take (i := 7) (oi := ?oi7C) (v := undef) ?oi0_7C (by kernel_rfl) ?ff7C ?rr7C ?hq7C (Or.inr ⟨?hw7C, rfl⟩) (by assumption) ?rest7C
              case oi0_7C =>
                conv =>
                  lhs
                  whnf
                  arg 1
                  whnf
              case hq7C => exact fun _ _ _ h => h
              case ff7C => kernel_rfl
              case rr7C => kernel_rfl
              case hw7C => rfl
              try simp only [Act.put, List.setIfInBounds_toArray, List.set_cons_zero, List.set_cons_succ]
              refine wpAnyH_take (i := 8) (oi := ?oi8C) (v := ?v8C) ?oi0_8C (by kernel_rfl) ?ff8C ?rr8C ?hq8C (Or.inl ⟨?hw8C, ?hy8C⟩) (by assumption) ?rest8C
              case oi0_8C =>
                conv =>
                  lhs
                  whnf
                  arg 1
                  whnf
              case hq8C => exact fun _ _ _ h => h
              case ff8C => kernel_rfl
              case rr8C => kernel_rfl
              case hw8C => rfl
              case hy8C =>
                intro w hSw
                (try dsimp only at hSw)
                first
                | (go_simp; done)
                | (go_simp; with_reducible rfl)
              try simp only [Act.put, List.setIfInBounds_toArray, List.set_cons_zero, List.set_cons_succ]
              refine wpAnyH_take (i := 9) (oi := ?oi9C) (v := ?v9C) ?oi0_9C (by kernel_rfl) ?ff9C ?rr9C ?hq9C (Or.inl ⟨?hw9C, ?hy9C⟩) (by assumption) ?rest9C
              case oi0_9C =>
                conv =>
                  lhs
                  whnf
                  arg 1
                  whnf
              case hq9C => exact fun _ _ _ h => h
              case ff9C => kernel_rfl
              case rr9C => kernel_rfl
              case hw9C => rfl
              case hy9C =>
                intro w hSw
                (try dsimp only at hSw)
                first
                | (go_simp; done)
                | (go_simp; with_reducible rfl)
              try simp only [Act.put, List.setIfInBounds_toArray, List.set_cons_zero, List.set_cons_succ]
              refine wpAnyH_take (i := 10) (oi := ?oi10C) (v := ?v10C) ?oi0_10C (by kernel_rfl) ?ff10C ?rr10C ?hq10C (Or.inl ⟨?hw10C, ?hy10C⟩) (by assumption) ?rest10C
              case oi0_10C =>
                conv =>
                  lhs
                  whnf
                  arg 1
                  whnf
              case hq10C => exact fun _ _ _ h => h
              case ff10C => kernel_rfl
              case rr10C => kernel_rfl
              case hw10C => rfl
              case hy10C =>
                intro w hSw
                (try dsimp only at hSw)
                first
                | (go_simp; done)
                | (go_simp; with_reducible rfl)
              try simp only [Act.put, List.setIfInBounds_toArray, List.set_cons_zero, List.set_cons_succ]
              refine wpAnyH_take (i := 11) (oi := ?oi11C) (v := ?v11C) ?oi0_11C (by kernel_rfl) ?ff11C ?rr11C ?hq11C (Or.inl ⟨?hw11C, ?hy11C⟩) (by assumption) ?rest11C
              case oi0_11C =>
                conv =>
                  lhs
                  whnf
                  arg 1
                  whnf
              case hq11C => exact fun _ _ _ h => h
              case ff11C => kernel_rfl
              case rr11C => kernel_rfl
              case hw11C => rfl
              case hy11C =>
                intro w hSw
                (try dsimp only at hSw)
                first
                | (go_simp; done)
                | (go_simp; with_reducible rfl)
              try simp only [Act.put, List.setIfInBounds_toArray, List.set_cons_zero, List.set_cons_succ]
              refine wpAnyH_take (i := 12) (oi := ?oi12C) (v := ?v12C) ?oi0_12C (by kernel_rfl) ?ff12C ?rr12C ?hq12C (Or.inl ⟨?hw12C, ?hy12C⟩) (by assumption) ?rest12C
              case oi0_12C =>
                conv =>
                  lhs
                  whnf
                  arg 1
                  whnf
              case hq12C => exact fun _ _ _ h => h
              case ff12C => kernel_rfl
              case rr12C => kernel_rfl
              case hw12C => rfl
              case hy12C =>
                intro w hSw
                (try dsimp only at hSw)
                first
                | (go_simp; done)
                | (go_simp; with_reducible rfl)
              try simp only [Act.put, List.setIfInBounds_toArray, List.set_cons_zero, List.set_cons_succ]
              refine wpAnyH_take (i := 13) (oi := ?oi13C) (v := ?v13C) ?oi0_13C (by kernel_rfl) ?ff13C ?rr13C ?hq13C (Or.inl ⟨?hw13C, ?hy13C⟩) (by assumption) ?rest13C
              case oi0_13C =>
                conv =>
                  lhs
                  whnf
                  arg 1
                  whnf
              case hq13C => exact fun _ _ _ h => h
              case ff13C => kernel_rfl
              case rr13C => kernel_rfl
              case hw13C => rfl
              case hy13C =>
                intro w hSw
                (try dsimp only at hSw)
                first
                | (go_simp; done)
                | (go_simp; with_reducible rfl)
              try simp only [Act.put, List.setIfInBounds_toArray, List.set_cons_zero, List.set_cons_succ]
              refine wpAnyH_take (i := 14) (oi := ?oi14C) (v := ?v14C) ?oi0_14C (by kernel_rfl) ?ff14C ?rr14C ?hq14C (Or.inl ⟨?hw14C, ?hy14C⟩) (by assumption) ?rest14C
              case oi0_14C =>
                conv =>
                  lhs
                  whnf
                  arg 1
                  whnf
              case hq14C => exact fun _ _ _ h => h
              case ff14C => kernel_rfl
              case rr14C => kernel_rfl
              case hw14C => rfl
              case hy14C =>
                intro w hSw
                (try dsimp only at hSw)
                first
                | (go_simp; done)
                | (go_simp; with_reducible rfl)
              try simp only [Act.put, List.setIfInBounds_toArray, List.set_cons_zero, List.set_cons_succ]
              refine wpAnyH_take (i := 15) (oi := ?oi15C) (v := ?v15C) ?oi0_15C (by kernel_rfl) ?ff15C ?rr15C ?hq15C (Or.inl ⟨?hw15C, ?hy15C⟩) (by assumption) ?rest15C
              case oi0_15C =>
                conv =>
                  lhs
                  whnf
                  arg 1
                  whnf
              case hq15C => exact fun _ _ _ h => h
              case ff15C => kernel_rfl
              case rr15C => kernel_rfl
              case hw15C => rfl
              case hy15C =>
                intro w hSw
                (try dsimp only at hSw)
                first
                | (go_simp; done)
                | (go_simp; with_reducible rfl)
              try simp only [Act.put, List.setIfInBounds_toArray, List.set_cons_zero, List.set_cons_succ]
              refine wpAnyH_ready (rs := [16]) (by kernel_rfl) (by simp) (AllReadyH.cons (o := ?oi16C) ?oi0_16C (fun K hK => ?_) AllReadyH.nil)
              case oi0_16C =>
                conv =>
                  lhs
                  whnf
                  arg 1
                  whnf
              go_simp
              go_at_call 31
              have TT := HAS.out
              with_reducible (refine TT.mono ?_)
              clear TT
              rintro e w' ⟨rfl, rfl⟩
              (try dsimp only)
              refine hK.out _ _ (by exact ⟨k0, k1, k2, k3⟩) (fun hHeld => ?_)
              clear hK K
              try simp only [Act.put, List.setIfInBounds_toArray, List.set_cons_zero, List.set_cons_succ]
              refine wpAnyH_take (i := 17) (oi := ?oi17C) (v := ?v17C) ?oi0_17C (by kernel_rfl) ?ff17C ?rr17C ?hq17C (Or.inl ⟨?hw17C, ?hy17C⟩) (by assumption) ?rest17C
              case oi0_17C =>
                conv =>
                  lhs
                  whnf
                  arg 1
                  whnf
              case hq17C => exact fun _ _ _ h => h
              case ff17C => kernel_rfl
              case rr17C => kernel_rfl
              case hw17C => rfl
              case hy17C =>
                intro w hSw
                (try dsimp only at hSw)
                first
                | (go_simp; done)
                | (go_simp; with_reducible rfl)
              try simp only [Act.put, List.setIfInBounds_toArray, List.set_cons_zero, List.set_cons_succ]
              refine wpAnyH_take (i := 18) (oi := ?oi18C) (v := ?v18C) ?oi0_18C (by kernel_rfl) ?ff18C ?rr18C ?hq18C (Or.inl ⟨?hw18C, ?hy18C⟩) (by assumption) ?rest18C
              case oi0_18C =>
                conv =>
                  lhs
                  whnf
                  arg 1
                  whnf
              case hq18C => exact fun _ _ _ h => h
              case ff18C => kernel_rfl
              case rr18C => kernel_rfl
              case hw18C => rfl
              case hy18C =>
                intro w hSw
                (try dsimp only at hSw)
                first
                | (go_simp; done)
                | (go_simp; with_reducible rfl)
              try simp only [Act.put, List.setIfInBounds_toArray, List.set_cons_zero, List.set_cons_succ]
              refine wpAnyH_done (by kernel_rfl) ?_ _
              go_wp2_with fail
              refine wp_region_held_drew (S := (fun w' => w'.cell? ⟨wr.heap.size, 0, none⟩ = some (.slice pa pn pc) ∧ w'.cell? ⟨wr.heap.size, 1, none⟩ = some (.int .i64 p.want) ∧ w'.cell? ⟨wr.heap.size, 2, none⟩ = some (.int .i64 jn) ∧ w'.cell? ⟨nb, no + q, none⟩ = some (.int .i64 z))) (by kernel_rfl) (by exact ⟨k0, k1, k2, k3⟩) (fun hHeld => ?_)
              refine wpAnyH_take (i := 0) (oi := ?oi0D1) (v := ?v0D1) ?oi0_0D1 (by kernel_rfl) ?ff0D1 ?rr0D1 ?hq0D1 (Or.inl ⟨?hw0D1, ?hy0D1⟩) (by assumption) ?rest0D1
              case oi0_0D1 =>
                conv =>
                  lhs
                  whnf
                  arg 1
                  whnf
              case hq0D1 => exact fun _ _ _ h => h
              case ff0D1 => kernel_rfl
              case rr0D1 => kernel_rfl
              case hw0D1 => rfl
              case hy0D1 =>
                intro w hSw
                (try dsimp only at hSw)
                first
                | (go_simp; done)
                | (go_simp; with_reducible rfl)
              try simp only [Act.put, List.setIfInBounds_toArray, List.set_cons_zero, List.set_cons_succ]
              refine wpAnyH_take (i := 1) (oi := ?oi1D1) (v := ?v1D1) ?oi0_1D1 (by kernel_rfl) ?ff1D1 ?rr1D1 ?hq1D1 (Or.inl ⟨?hw1D1, ?hy1D1⟩) (by assumption) ?rest1D1
              case oi0_1D1 =>
                conv =>
                  lhs
                  whnf
                  arg 1
                  whnf
              case hq1D1 => exact fun _ _ _ h => h
              case ff1D1 => kernel_rfl
              case rr1D1 => kernel_rfl
              case hw1D1 => rfl
              case hy1D1 =>
                intro w hSw
                (try dsimp only at hSw)
                first
                | (go_simp; done)
                | (go_simp; with_reducible rfl)
              try simp only [Act.put, List.setIfInBounds_toArray, List.set_cons_zero, List.set_cons_succ]
              refine wpAnyH_take (i := 2) (oi := ?oi2D1) (v := ?v2D1) ?oi0_2D1 (by kernel_rfl) ?ff2D1 ?rr2D1 ?hq2D1 (Or.inl ⟨?hw2D1, ?hy2D1⟩) (by assumption) ?rest2D1
              case oi0_2D1 =>
                conv =>
                  lhs
                  whnf
                  arg 1
                  whnf
              case hq2D1 => exact fun _ _ _ h => h
              case ff2D1 => kernel_rfl
              case rr2D1 => kernel_rfl
              case hw2D1 => rfl
              case hy2D1 =>
                intro w hSw
                (try dsimp only at hSw)
                first
                | (go_simp; done)
                | (go_simp; with_reducible rfl)
              try simp only [Act.put, List.setIfInBounds_toArray, List.set_cons_zero, List.set_cons_succ]
              refine wpAnyH_take (i := 3) (oi := ?oi3D1) (v := ?v3D1) ?oi0_3D1 (by kernel_rfl) ?ff3D1 ?rr3D1 ?hq3D1 (Or.inl ⟨?hw3D1, ?hy3D1⟩) (by assumption) ?rest3D1
              case oi0_3D1 =>
                conv =>
                  lhs
                  whnf
                  arg 1
                  whnf
              case hq3D1 => exact fun _ _ _ h => h
              case ff3D1 => kernel_rfl
              case rr3D1 => kernel_rfl
              case hw3D1 => rfl
              case hy3D1 =>
                intro w hSw
                (try dsimp only at hSw)
                first
                | (go_simp; done)
                | (go_simp; with_reducible rfl)
              try simp only [Act.put, List.setIfInBounds_toArray, List.set_cons_zero, List.set_cons_succ]
              refine wpAnyH_take (i := 4) (oi := ?oi4D1) (v := ?v4D1) ?oi0_4D1 (by kernel_rfl) ?ff4D1 ?rr4D1 ?hq4D1 (Or.inl ⟨?hw4D1, ?hy4D1⟩) (by assumption) ?rest4D1
              case oi0_4D1 =>
                conv =>
                  lhs
                  whnf
                  arg 1
                  whnf
              case hq4D1 => exact fun _ _ _ h => h
              case ff4D1 => kernel_rfl
              case rr4D1 => kernel_rfl
              case hw4D1 => rfl
              case hy4D1 =>
                intro w hSw
                (try dsimp only at hSw)
                first
                | (go_simp; done)
                | (go_simp; with_reducible rfl)
              try simp only [Act.put, List.setIfInBounds_toArray, List.set_cons_zero, List.set_cons_succ]
              refine wpAnyH_take (i := 5) (oi := ?oi5D1) (v := ?v5D1) ?oi0_5D1 (by kernel_rfl) ?ff5D1 ?rr5D1 ?hq5D1 (Or.inl ⟨?hw5D1, ?hy5D1⟩) (by assumption) ?rest5D1
              case oi0_5D1 =>
                conv =>
                  lhs
                  whnf
                  arg 1
                  whnf
              case hq5D1 => exact fun _ _ _ h => h
              case ff5D1 => kernel_rfl
              case rr5D1 => kernel_rfl
              case hw5D1 => rfl
              case hy5D1 =>
                intro w hSw
                (try dsimp only at hSw)
                first
                | (go_simp; done)
                | (go_simp; with_reducible rfl)
              try simp only [Act.put, List.setIfInBounds_toArray, List.set_cons_zero, List.set_cons_succ]
              refine wpAnyH_take (i := 6) (oi := ?oi6D1) (v := ?v6D1) ?oi0_6D1 (by kernel_rfl) ?ff6D1 ?rr6D1 ?hq6D1 (Or.inl ⟨?hw6D1, ?hy6D1⟩) (by assumption) ?rest6D1
              case oi0_6D1 =>
                conv =>
                  lhs
                  whnf
                  arg 1
                  whnf
              case hq6D1 => exact fun _ _ _ h => h
              case ff6D1 => kernel_rfl
              case rr6D1 => kernel_rfl
              case hw6D1 => rfl
              case hy6D1 =>
                intro w hSw
                (try dsimp only at hSw)
                first
                | (go_simp; done)
                | (go_simp; with_reducible rfl)
              try simp only [Act.put, List.setIfInBounds_toArray, List.set_cons_zero, List.set_cons_succ]
              refine wpAnyH_ready (rs := [7]) (by kernel_rfl) (by simp) (AllReadyH.cons (o := ?oi7D1) ?oi0_7D1 (fun K hK => ?_) AllReadyH.nil)
              case oi0_7D1 =>
                conv =>
                  lhs
                  whnf
                  arg 1
                  whnf
              go_simp
              go_at_call 32
              with_reducible (refine (AW.out _).mono ?_)
              rintro e w' ⟨rfl, rfl⟩
              (try dsimp only)
              refine hK.out _ _ (by exact ⟨k0, k1, k2, k3⟩) (fun hHeld => ?_)
              clear hK K
              try simp only [Act.put, List.setIfInBounds_toArray, List.set_cons_zero, List.set_cons_succ]
              refine wpAnyH_take (i := 8) (oi := ?oi8D1) (v := ?v8D1) ?oi0_8D1 (by kernel_rfl) ?ff8D1 ?rr8D1 ?hq8D1 (Or.inl ⟨?hw8D1, ?hy8D1⟩) (by assumption) ?rest8D1
              case oi0_8D1 =>
                conv =>
                  lhs
                  whnf
                  arg 1
                  whnf
              case hq8D1 => exact fun _ _ _ h => h
              case ff8D1 => kernel_rfl
              case rr8D1 => kernel_rfl
              case hw8D1 => rfl
              case hy8D1 =>
                intro w hSw
                (try dsimp only at hSw)
                first
                | (go_simp; done)
                | (go_simp; with_reducible rfl)
              try simp only [Act.put, List.setIfInBounds_toArray, List.set_cons_zero, List.set_cons_succ]
              refine wpAnyH_take (i := 9) (oi := ?oi9D1) (v := ?v9D1) ?oi0_9D1 (by kernel_rfl) ?ff9D1 ?rr9D1 ?hq9D1 (Or.inl ⟨?hw9D1, ?hy9D1⟩) (by assumption) ?rest9D1
              case oi0_9D1 =>
                conv =>
                  lhs
                  whnf
                  arg 1
                  whnf
              case hq9D1 => exact fun _ _ _ h => h
              case ff9D1 => kernel_rfl
              case rr9D1 => kernel_rfl
              case hw9D1 => rfl
              case hy9D1 =>
                intro w hSw
                (try dsimp only at hSw)
                first
                | (go_simp; done)
                | (go_simp; with_reducible rfl)
              try simp only [Act.put, List.setIfInBounds_toArray, List.set_cons_zero, List.set_cons_succ]
              refine wpAnyH_done (by kernel_rfl) ?_ _
              rw [Go.IntWalk.i64_in (M - aw) (by omega)]
              go_wp2_with fail
              go_roundw
              case rel => exact ⟨q + 1, B + z, M - aw, by omega, by go_num, by go_num, by go_num, by omega, HU2.out.drew, HF3.out, HC3'.out⟩
              case measure => simp [intOf] <;> omega
          · obtain rfl : q = m := by omega
            obtain ⟨wo, rfl⟩ : ∃ wo : World, wo = wr := ⟨_, rfl⟩
            have F := hf.out
            have C := hc.out
            have h1 : l.drop (k + q) = [] := List.drop_of_length_le (by have := HLEN.out; have := HMK.out; omega)
            have h2 : r2.drop q = [] := List.drop_of_length_le (by have := HMM.out; omega)
            rw [h1, h2] at F C
            simp only [fitsS, decide_eq_true_eq] at F
            simp only [costS] at C
            subst F C
            clear h1 h2
            go_wp2_with fail
            go_ret
            exact ⟨rfl, (U6.out.trans hu.out (by simp)).toBelow (Nat.le_refl _) (by simp)⟩
end Go.Proofs.Yteehjciepccomaa
