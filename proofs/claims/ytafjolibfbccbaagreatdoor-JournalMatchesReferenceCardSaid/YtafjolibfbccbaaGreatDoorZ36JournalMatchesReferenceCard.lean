/-
  airchecklaw34.JournalMatchesReference.
-/
import Derived.Test.YtafjolibfbccbaaGreatDoorZ34JournalMatchesReferenceCard
import Derived.Test.YtafjolibfbccbaaGreatDoorZ35JournalMatchesReferenceCard

namespace Go.Proofs.YtafjolibfbccbaaGreatDoor
open Go.RowKit
set_option maxRecDepth 100000
set_option maxHeartbeats 8000000

theorem match_walk0 {a0 : Addr} (n : Int) (la : Option Addr) (ln lc : Nat) (xs : List OpP) (w : World) (hl : Laid w.heap.size refK a0 w) (hn : (Lit.int .i64 n).wf = true) (hg : OpsArg w la ln lc xs) :
    Calls Tryz.prog 7 #[.int .i64 n, .slice la ln lc] w fun e w' => e = .returned (.bool true) ∧ Below w.heap.size w w' := by
  have HL := hide hl
  have HG := hide hg
  clear hl hg
  have HBG := hide (fun (W : World) (hb : Below w.heap.size w W) => begin_any (ks := refK) rfl n w W HL.out hn hb)
  have HNB := hide (sizeS_in n)
  clear hn
  go_enter Tryz.func7, Tryz.ntmps7
  go_wp2_with fail
  refine (sane_any w HL.out).mono ?_
  rintro e w1 ⟨rfl, hb1⟩
  have HB1 := hide hb1
  clear hb1
  go_wp2_with fail
  refine (HBG.out w1 HB1.out).mono ?_
  rintro e w2 ⟨wb, g, x, P, R, T, rfl, hwb, rfl, ho, hw, hp⟩
  have HWB := hide hwb
  have HI2 := hide (show WInv 0 P R (DiskS.fresh (sizeS n)) from ⟨DInv.fresh _, by obtain ⟨a, b, h1, h2⟩ := ho; exact .inr ⟨a, b, tape0, false, h1, h2, TInv.start, Nat.zero_le _⟩⟩)
  have HW2 := hide hw
  have HP2 := hide hp
  clear hwb ho hw hp HB1 HBG
  go_wp2_with fail
  go_loopw [8] (fun s8 wr => ∃ (k : Nat) (P R : JSt) (D : DiskS), k ≤ ln ∧ k ≤ 25 ∧ s8 = .int .i64 k ∧ Hid (WBlk wr wb g x (jptr P) (jptr R)) ∧ Hid (PJ w.heap.size [wb] w wr g P D x R D) ∧ Hid (WInv (4 * k) P R D)) (fun s _ => 25 - (intOf s).toNat)
  case atStart => exact ⟨0, P, R, _, Nat.zero_le _, Nat.zero_le _, rfl, HW2, HP2, HI2⟩
  case round =>
    clear HW2 HP2 HI2
    obtain ⟨k, P, R, D, hk, hk25, rfl, hW, hP, hI⟩ := hrel
    obtain ⟨wo, rfl⟩ : ∃ y : World, y = wr := ⟨_, rfl⟩
    have hlm : (ln : Int) ≤ 9223372036854775807 := by have h1 := HG.out.2.1; have h2 := HG.out.2.2.1; unfold maxLen at h2; omega
    by_cases hin : k < ln ∧ k < 25
    case neg =>
      have hend : (¬ (k : Int) < ln) ∨ ((k : Int) < ln ∧ ¬ (k : Int) < 25) := by omega
      clear hin hk
      rcases hend with hki | ⟨hki, hk8i⟩
      case inr => go_wp2_with fail; go_ret; exact ⟨rfl, hP.out.below⟩
      case inl => go_wp2_with fail; go_ret; exact ⟨rfl, hP.out.below⟩
    have hki : (k : Int) < ln := by omega
    have hk8i : (k : Int) < 25 := by omega
    have hkw : IntKind.i64.wrap ((k : Int) + 1) = (k : Int) + 1 := Go.IntWalk.i64_in _ (by omega)
    obtain ⟨y, hy⟩ : ∃ r, xs[k]? = some r := ⟨_, List.getElem?_eq_getElem (by have := HG.out.1; omega)⟩
    obtain ⟨gb, go, rfl, hgl, hat⟩ := HG.out.2.2.2 (by omega)
    obtain ⟨vs, hvs, hcs⟩ := hat k y hy
    have hvs0 := hvs.1
    have HV := hide hvs
    have hq : ∀ j v, vs[j]? = some v → wo.cell? ⟨gb, go + k * 4 + j, none⟩ = some v := fun j v hv => (hP.out.below.cell (p := ⟨gb, go + k * 4 + j, none⟩) hgl).trans (hcs j v hv)
    rw [hvs0] at hq
    have q0 := hq 0 _ rfl
    have q1 := hq 1 _ rfl
    have q2 := hq 2 _ rfl
    have q3 := hq 3 _ rfl
    simp only [Nat.add_zero] at q0
    clear hq hcs hat hvs hy
    have HDO := hide (does_any y vs wo HL.out HWB.out hW.out hP.out hI.out (by omega) HV.out)
    rw [hvs0] at HDO
    clear hvs0
    go_wp2_with fail
    refine HDO.out.mono ?_
    rintro e w3 ⟨rfl, P', R', D', hw, hp, hi⟩
    have HW3 := hide hw
    have HP3 := hide hp
    have HI3 := hide hi
    clear hw hp hi HDO hW hP hI q0 q1 q2 q3
    go_upto_region 9 with fail
    obtain ⟨LA, lc, hl1, hl2⟩ := pj_head HP3.out
    obtain ⟨pn, hpn⟩ : ∃ y, D'.pend.length = y := ⟨_, rfl⟩
    rw [hpn] at hl1
    have HPN := hide hpn
    clear hpn
    obtain ⟨off, hoff⟩ : ∃ y, D'.off = y := ⟨_, rfl⟩
    rw [hoff] at hl2
    have HOF := hide hoff
    clear hoff
    skip
    refine wp_region_held_drew (S := (fun w' => w'.cell? ⟨wb, 0, none⟩ = some (.pointer (some ⟨g, 0, none⟩)) ∧ w'.cell? ⟨wb, 2, none⟩ = some (.pointer (some ⟨x, 0, none⟩)) ∧ w'.cell? ⟨x, 1, none⟩ = some (.slice LA pn lc) ∧ w'.cell? ⟨x, 2, none⟩ = some (.bool off))) (by kernel_rfl) (by exact ⟨HW3.out.cell 0, HW3.out.cell 2, hl1, hl2⟩) (fun hHeld => ?_)
    obtain ⟨w4, hw⟩ : ∃ y, w3.drew = y := ⟨_, rfl⟩
    have u : Upd [] w3 w4 := by rw [← hw]; exact (Upd.refl [] _).drew
    rw [hw] at hHeld ⊢
    clear hw
    have hm1 := keepc _ _ _ _ u hl1
    have hm2 := keepc _ _ _ _ u hl2
    clear hl1 hl2
    have HW4 := hide (show WBlk w4 wb g x (jptr P') (jptr R') from keepB HW3.out u)
    have HP4 := hide (HP3.out.step u (by simp))
    clear u HW3 HP3
    have HPE := hide (pj_pending HP4.out)
    rw [HPN.out] at HPE
    have hpm : ¬ ((pn : Int) != (pn : Int)) = true := by simp
    cases off with
    | true =>
      refine wpAnyH_take (i := 0) (oi := ?oi0M2) (v := ?v0M2) ?oi0_0M2 (by kernel_rfl) ?ff0M2 ?rr0M2 ?hq0M2 (Or.inl ⟨?hw0M2, ?hy0M2⟩) (by assumption) ?rest0M2
      case oi0_0M2 => conv => lhs; whnf; arg 1; whnf
      case hq0M2 => exact fun _ _ _ h => h
      case ff0M2 => kernel_rfl
      case rr0M2 => kernel_rfl
      case hw0M2 => rfl
      case hy0M2 => intro w hSw; (try dsimp only at hSw); first | (go_simp; done) | (go_simp; with_reducible rfl)
      try simp only [Act.put, List.setIfInBounds_toArray, List.set_cons_zero, List.set_cons_succ]
      refine wpAnyH_take (i := 1) (oi := ?oi1M2) (v := ?v1M2) ?oi0_1M2 (by kernel_rfl) ?ff1M2 ?rr1M2 ?hq1M2 (Or.inl ⟨?hw1M2, ?hy1M2⟩) (by assumption) ?rest1M2
      case oi0_1M2 => conv => lhs; whnf; arg 1; whnf
      case hq1M2 => exact fun _ _ _ h => h
      case ff1M2 => kernel_rfl
      case rr1M2 => kernel_rfl
      case hw1M2 => rfl
      case hy1M2 => intro w hSw; (try dsimp only at hSw); first | (go_simp; done) | (go_simp; with_reducible rfl)
      try simp only [Act.put, List.setIfInBounds_toArray, List.set_cons_zero, List.set_cons_succ]
      refine wpAnyH_take (i := 2) (oi := ?oi2M2) (v := ?v2M2) ?oi0_2M2 (by kernel_rfl) ?ff2M2 ?rr2M2 ?hq2M2 (Or.inl ⟨?hw2M2, ?hy2M2⟩) (by assumption) ?rest2M2
      case oi0_2M2 => conv => lhs; whnf; arg 1; whnf
      case hq2M2 => exact fun _ _ _ h => h
      case ff2M2 => kernel_rfl
      case rr2M2 => kernel_rfl
      case hw2M2 => rfl
      case hy2M2 => intro w hSw; (try dsimp only at hSw); first | (go_simp; done) | (go_simp; with_reducible rfl)
      try simp only [Act.put, List.setIfInBounds_toArray, List.set_cons_zero, List.set_cons_succ]
      refine wpAnyH_take (i := 3) (oi := ?oi3M2) (v := ?v3M2) ?oi0_3M2 (by kernel_rfl) ?ff3M2 ?rr3M2 ?hq3M2 (Or.inl ⟨?hw3M2, ?hy3M2⟩) (by assumption) ?rest3M2
      case oi0_3M2 => conv => lhs; whnf; arg 1; whnf
      case hq3M2 => exact fun _ _ _ h => h
      case ff3M2 => kernel_rfl
      case rr3M2 => kernel_rfl
      case hw3M2 => rfl
      case hy3M2 => intro w hSw; (try dsimp only at hSw); first | (go_simp; done) | (go_simp; with_reducible rfl)
      try simp only [Act.put, List.setIfInBounds_toArray, List.set_cons_zero, List.set_cons_succ]
      refine wpAnyH_take (i := 4) (oi := ?oi4M2) (v := ?v4M2) ?oi0_4M2 (by kernel_rfl) ?ff4M2 ?rr4M2 ?hq4M2 (Or.inl ⟨?hw4M2, ?hy4M2⟩) (by assumption) ?rest4M2
      case oi0_4M2 => conv => lhs; whnf; arg 1; whnf
      case hq4M2 => exact fun _ _ _ h => h
      case ff4M2 => kernel_rfl
      case rr4M2 => kernel_rfl
      case hw4M2 => rfl
      case hy4M2 => intro w hSw; (try dsimp only at hSw); first | (go_simp; done) | (go_simp; with_reducible rfl)
      try simp only [Act.put, List.setIfInBounds_toArray, List.set_cons_zero, List.set_cons_succ]
      refine wpAnyH_take (i := 5) (oi := ?oi5M2) (v := ?v5M2) ?oi0_5M2 (by kernel_rfl) ?ff5M2 ?rr5M2 ?hq5M2 (Or.inl ⟨?hw5M2, ?hy5M2⟩) (by assumption) ?rest5M2
      case oi0_5M2 => conv => lhs; whnf; arg 1; whnf
      case hq5M2 => exact fun _ _ _ h => h
      case ff5M2 => kernel_rfl
      case rr5M2 => kernel_rfl
      case hw5M2 => rfl
      case hy5M2 => intro w hSw; (try dsimp only at hSw); first | (go_simp; done) | (go_simp; with_reducible rfl)
      try simp only [Act.put, List.setIfInBounds_toArray, List.set_cons_zero, List.set_cons_succ]
      refine wpAnyH_take (i := 6) (oi := ?oi6M2) (v := ?v6M2) ?oi0_6M2 (by kernel_rfl) ?ff6M2 ?rr6M2 ?hq6M2 (Or.inl ⟨?hw6M2, ?hy6M2⟩) (by assumption) ?rest6M2
      case oi0_6M2 => conv => lhs; whnf; arg 1; whnf
      case hq6M2 => exact fun _ _ _ h => h
      case ff6M2 => kernel_rfl
      case rr6M2 => kernel_rfl
      case hw6M2 => rfl
      case hy6M2 => intro w hSw; (try dsimp only at hSw); first | (go_simp; done) | (go_simp; with_reducible rfl)
      try simp only [Act.put, List.setIfInBounds_toArray, List.set_cons_zero, List.set_cons_succ]
      refine wpAnyH_take (i := 8) (oi := ?oi8M3) (v := ?v8M3) ?oi0_8M3 (by kernel_rfl) ?ff8M3 ?rr8M3 ?hq8M3 (Or.inl ⟨?hw8M3, ?hy8M3⟩) (by assumption) ?rest8M3
      case oi0_8M3 => conv => lhs; whnf; arg 1; whnf
      case hq8M3 => exact fun _ _ _ h => h
      case ff8M3 => kernel_rfl
      case rr8M3 => kernel_rfl
      case hw8M3 => rfl
      case hy8M3 => intro w hSw; (try dsimp only at hSw); first | (go_simp; done) | (go_simp; with_reducible rfl)
      try simp only [Act.put, List.setIfInBounds_toArray, List.set_cons_zero, List.set_cons_succ]
      refine wpAnyH_take (i := 9) (oi := ?oi9M3) (v := ?v9M3) ?oi0_9M3 (by kernel_rfl) ?ff9M3 ?rr9M3 ?hq9M3 (Or.inl ⟨?hw9M3, ?hy9M3⟩) (by assumption) ?rest9M3
      case oi0_9M3 => conv => lhs; whnf; arg 1; whnf
      case hq9M3 => exact fun _ _ _ h => h
      case ff9M3 => kernel_rfl
      case rr9M3 => kernel_rfl
      case hw9M3 => rfl
      case hy9M3 => intro w hSw; (try dsimp only at hSw); first | (go_simp; done) | (go_simp; with_reducible rfl)
      try simp only [Act.put, List.setIfInBounds_toArray, List.set_cons_zero, List.set_cons_succ]
      refine wpAnyH_take (i := 10) (oi := ?oi10M3) (v := ?v10M3) ?oi0_10M3 (by kernel_rfl) ?ff10M3 ?rr10M3 ?hq10M3 (Or.inl ⟨?hw10M3, ?hy10M3⟩) (by assumption) ?rest10M3
      case oi0_10M3 => conv => lhs; whnf; arg 1; whnf
      case hq10M3 => exact fun _ _ _ h => h
      case ff10M3 => kernel_rfl
      case rr10M3 => kernel_rfl
      case hw10M3 => rfl
      case hy10M3 => intro w hSw; (try dsimp only at hSw); first | (go_simp; done) | (go_simp; with_reducible rfl)
      try simp only [Act.put, List.setIfInBounds_toArray, List.set_cons_zero, List.set_cons_succ]
      refine wpAnyH_take (i := 11) (oi := ?oi11M3) (v := ?v11M3) ?oi0_11M3 (by kernel_rfl) ?ff11M3 ?rr11M3 ?hq11M3 (Or.inl ⟨?hw11M3, ?hy11M3⟩) (by assumption) ?rest11M3
      case oi0_11M3 => conv => lhs; whnf; arg 1; whnf
      case hq11M3 => exact fun _ _ _ h => h
      case ff11M3 => kernel_rfl
      case rr11M3 => kernel_rfl
      case hw11M3 => rfl
      case hy11M3 => intro w hSw; (try dsimp only at hSw); first | (go_simp; done) | (go_simp; with_reducible rfl)
      try simp only [Act.put, List.setIfInBounds_toArray, List.set_cons_zero, List.set_cons_succ]
      refine wpAnyH_take (i := 12) (oi := ?oi12M3) (v := ?v12M3) ?oi0_12M3 (by kernel_rfl) ?ff12M3 ?rr12M3 ?hq12M3 (Or.inl ⟨?hw12M3, ?hy12M3⟩) (by assumption) ?rest12M3
      case oi0_12M3 => conv => lhs; whnf; arg 1; whnf
      case hq12M3 => exact fun _ _ _ h => h
      case ff12M3 => kernel_rfl
      case rr12M3 => kernel_rfl
      case hw12M3 => rfl
      case hy12M3 => intro w hSw; (try dsimp only at hSw); first | (go_simp; done) | (go_simp; with_reducible rfl)
      try simp only [Act.put, List.setIfInBounds_toArray, List.set_cons_zero, List.set_cons_succ]
      refine wpAnyH_take (i := 13) (oi := ?oi13M3) (v := ?v13M3) ?oi0_13M3 (by kernel_rfl) ?ff13M3 ?rr13M3 ?hq13M3 (Or.inl ⟨?hw13M3, ?hy13M3⟩) (by assumption) ?rest13M3
      case oi0_13M3 => conv => lhs; whnf; arg 1; whnf
      case hq13M3 => exact fun _ _ _ h => h
      case ff13M3 => kernel_rfl
      case rr13M3 => kernel_rfl
      case hw13M3 => rfl
      case hy13M3 => intro w hSw; (try dsimp only at hSw); first | (go_simp; done) | (go_simp; with_reducible rfl)
      try simp only [Act.put, List.setIfInBounds_toArray, List.set_cons_zero, List.set_cons_succ]
      refine wpAnyH_take (i := 14) (oi := ?oi14M3) (v := ?v14M3) ?oi0_14M3 (by kernel_rfl) ?ff14M3 ?rr14M3 ?hq14M3 (Or.inl ⟨?hw14M3, ?hy14M3⟩) (by assumption) ?rest14M3
      case oi0_14M3 => conv => lhs; whnf; arg 1; whnf
      case hq14M3 => exact fun _ _ _ h => h
      case ff14M3 => kernel_rfl
      case rr14M3 => kernel_rfl
      case hw14M3 => rfl
      case hy14M3 => intro w hSw; (try dsimp only at hSw); first | (go_simp; done) | (go_simp; with_reducible rfl)
      try simp only [Act.put, List.setIfInBounds_toArray, List.set_cons_zero, List.set_cons_succ]
      refine wpAnyH_take (i := 15) (oi := ?oi15M3) (v := ?v15M3) ?oi0_15M3 (by kernel_rfl) ?ff15M3 ?rr15M3 ?hq15M3 (Or.inl ⟨?hw15M3, ?hy15M3⟩) (by assumption) ?rest15M3
      case oi0_15M3 => conv => lhs; whnf; arg 1; whnf
      case hq15M3 => exact fun _ _ _ h => h
      case ff15M3 => kernel_rfl
      case rr15M3 => kernel_rfl
      case hw15M3 => rfl
      case hy15M3 => intro w hSw; (try dsimp only at hSw); first | (go_simp; done) | (go_simp; with_reducible rfl)
      try simp only [Act.put, List.setIfInBounds_toArray, List.set_cons_zero, List.set_cons_succ]
      refine wpAnyH_ready (rs := [7]) (by kernel_rfl) (by simp) (AllReadyH.cons (o := ?oiM4) ?oi0_M4 (fun K hK => ?_) AllReadyH.nil)
      case oi0_M4 => conv => lhs; whnf; arg 1; whnf
      go_simp
      refine HPE.out.mono ?_
      rintro e w' ⟨rfl, rfl⟩
      try simp only
      (try dsimp only)
      refine hK.out _ _ (by exact hHeld) (fun hHeld => ?_)
      clear hK K
      try simp only [Act.put, List.setIfInBounds_toArray, List.set_cons_zero, List.set_cons_succ]
      refine wpAnyH_take (i := 16) (oi := ?oi16M5) (v := ?v16M5) ?oi0_16M5 (by kernel_rfl) ?ff16M5 ?rr16M5 ?hq16M5 (Or.inl ⟨?hw16M5, ?hy16M5⟩) (by assumption) ?rest16M5
      case oi0_16M5 => conv => lhs; whnf; arg 1; whnf
      case hq16M5 => exact fun _ _ _ h => h
      case ff16M5 => kernel_rfl
      case rr16M5 => kernel_rfl
      case hw16M5 => rfl
      case hy16M5 => intro w hSw; (try dsimp only at hSw); first | (go_simp; done) | (go_simp; with_reducible rfl)
      try simp only [Act.put, List.setIfInBounds_toArray, List.set_cons_zero, List.set_cons_succ]
      refine wpAnyH_take (i := 17) (oi := ?oi17M5) (v := ?v17M5) ?oi0_17M5 (by kernel_rfl) ?ff17M5 ?rr17M5 ?hq17M5 (Or.inl ⟨?hw17M5, ?hy17M5⟩) (by assumption) ?rest17M5
      case oi0_17M5 => conv => lhs; whnf; arg 1; whnf
      case hq17M5 => exact fun _ _ _ h => h
      case ff17M5 => kernel_rfl
      case rr17M5 => kernel_rfl
      case hw17M5 => rfl
      case hy17M5 => intro w hSw; (try dsimp only at hSw); first | (go_simp; done) | (go_simp; with_reducible rfl)
      try simp only [Act.put, List.setIfInBounds_toArray, List.set_cons_zero, List.set_cons_succ]
      refine wpAnyH_take (i := 18) (oi := ?oi18M5) (v := ?v18M5) ?oi0_18M5 (by kernel_rfl) ?ff18M5 ?rr18M5 ?hq18M5 (Or.inl ⟨?hw18M5, ?hy18M5⟩) (by assumption) ?rest18M5
      case oi0_18M5 => conv => lhs; whnf; arg 1; whnf
      case hq18M5 => exact fun _ _ _ h => h
      case ff18M5 => kernel_rfl
      case rr18M5 => kernel_rfl
      case hw18M5 => rfl
      case hy18M5 => intro w hSw; (try dsimp only at hSw); first | (go_simp; done) | (go_simp; with_reducible rfl)
      try simp only [Act.put, List.setIfInBounds_toArray, List.set_cons_zero, List.set_cons_succ]
      refine wpAnyH_take (i := 19) (oi := ?oi19M5) (v := ?v19M5) ?oi0_19M5 (by kernel_rfl) ?ff19M5 ?rr19M5 ?hq19M5 (Or.inl ⟨?hw19M5, ?hy19M5⟩) (by assumption) ?rest19M5
      case oi0_19M5 => conv => lhs; whnf; arg 1; whnf
      case hq19M5 => exact fun _ _ _ h => h
      case ff19M5 => kernel_rfl
      case rr19M5 => kernel_rfl
      case hw19M5 => rfl
      case hy19M5 => intro w hSw; (try dsimp only at hSw); first | (go_simp; done) | (go_simp; with_reducible rfl)
      try simp only [Act.put, List.setIfInBounds_toArray, List.set_cons_zero, List.set_cons_succ]
      refine wpAnyH_take (i := 20) (oi := ?oi20M5) (v := ?v20M5) ?oi0_20M5 (by kernel_rfl) ?ff20M5 ?rr20M5 ?hq20M5 (Or.inl ⟨?hw20M5, ?hy20M5⟩) (by assumption) ?rest20M5
      case oi0_20M5 => conv => lhs; whnf; arg 1; whnf
      case hq20M5 => exact fun _ _ _ h => h
      case ff20M5 => kernel_rfl
      case rr20M5 => kernel_rfl
      case hw20M5 => rfl
      case hy20M5 => intro w hSw; (try dsimp only at hSw); first | (go_simp; done) | (go_simp; with_reducible rfl)
      try simp only [Act.put, List.setIfInBounds_toArray, List.set_cons_zero, List.set_cons_succ]
      refine wpAnyH_take (i := 21) (oi := ?oi21M5) (v := ?v21M5) ?oi0_21M5 (by kernel_rfl) ?ff21M5 ?rr21M5 ?hq21M5 (Or.inl ⟨?hw21M5, ?hy21M5⟩) (by assumption) ?rest21M5
      case oi0_21M5 => conv => lhs; whnf; arg 1; whnf
      case hq21M5 => exact fun _ _ _ h => h
      case ff21M5 => kernel_rfl
      case rr21M5 => kernel_rfl
      case hw21M5 => rfl
      case hy21M5 => intro w hSw; (try dsimp only at hSw); first | (go_simp; done) | (go_simp; with_reducible rfl)
      try simp only [Act.put, List.setIfInBounds_toArray, List.set_cons_zero, List.set_cons_succ]
      refine wpAnyH_take (i := 22) (oi := ?oi22M5) (v := ?v22M5) ?oi0_22M5 (by kernel_rfl) ?ff22M5 ?rr22M5 ?hq22M5 (Or.inl ⟨?hw22M5, ?hy22M5⟩) (by assumption) ?rest22M5
      case oi0_22M5 => conv => lhs; whnf; arg 1; whnf
      case hq22M5 => exact fun _ _ _ h => h
      case ff22M5 => kernel_rfl
      case rr22M5 => kernel_rfl
      case hw22M5 => rfl
      case hy22M5 => intro w hSw; (try dsimp only at hSw); first | (go_simp; done) | (go_simp; with_reducible rfl)
      try simp only [Act.put, List.setIfInBounds_toArray, List.set_cons_zero, List.set_cons_succ]
      refine wpAnyH_take (i := 23) (oi := ?oi23M5) (v := ?v23M5) ?oi0_23M5 (by kernel_rfl) ?ff23M5 ?rr23M5 ?hq23M5 (Or.inl ⟨?hw23M5, ?hy23M5⟩) (by assumption) ?rest23M5
      case oi0_23M5 => conv => lhs; whnf; arg 1; whnf
      case hq23M5 => exact fun _ _ _ h => h
      case ff23M5 => kernel_rfl
      case rr23M5 => kernel_rfl
      case hw23M5 => rfl
      case hy23M5 => intro w hSw; (try dsimp only at hSw); first | (go_simp; done) | (go_simp; with_reducible rfl)
      try simp only [Act.put, List.setIfInBounds_toArray, List.set_cons_zero, List.set_cons_succ]
      refine wpAnyH_take (i := 24) (oi := ?oi24M5) (v := ?v24M5) ?oi0_24M5 (by kernel_rfl) ?ff24M5 ?rr24M5 ?hq24M5 (Or.inl ⟨?hw24M5, ?hy24M5⟩) (by assumption) ?rest24M5
      case oi0_24M5 => conv => lhs; whnf; arg 1; whnf
      case hq24M5 => exact fun _ _ _ h => h
      case ff24M5 => kernel_rfl
      case rr24M5 => kernel_rfl
      case hw24M5 => rfl
      case hy24M5 => intro w hSw; (try dsimp only at hSw); first | (go_simp; done) | (go_simp; with_reducible rfl)
      try simp only [Act.put, List.setIfInBounds_toArray, List.set_cons_zero, List.set_cons_succ]
      refine wpAnyH_take (i := 25) (oi := ?oi25M5) (v := ?v25M5) ?oi0_25M5 (by kernel_rfl) ?ff25M5 ?rr25M5 ?hq25M5 (Or.inl ⟨?hw25M5, ?hy25M5⟩) (by assumption) ?rest25M5
      case oi0_25M5 => conv => lhs; whnf; arg 1; whnf
      case hq25M5 => exact fun _ _ _ h => h
      case ff25M5 => kernel_rfl
      case rr25M5 => kernel_rfl
      case hw25M5 => rfl
      case hy25M5 => intro w hSw; (try dsimp only at hSw); first | (go_simp; done) | (go_simp; with_reducible rfl)
      try simp only [Act.put, List.setIfInBounds_toArray, List.set_cons_zero, List.set_cons_succ]
      refine wpAnyH_take (i := 26) (oi := ?oi26M5) (v := ?v26M5) ?oi0_26M5 (by kernel_rfl) ?ff26M5 ?rr26M5 ?hq26M5 (Or.inl ⟨?hw26M5, ?hy26M5⟩) (by assumption) ?rest26M5
      case oi0_26M5 => conv => lhs; whnf; arg 1; whnf
      case hq26M5 => exact fun _ _ _ h => h
      case ff26M5 => kernel_rfl
      case rr26M5 => kernel_rfl
      case hw26M5 => rfl
      case hy26M5 => intro w hSw; (try dsimp only at hSw); first | (go_simp; done) | (go_simp; with_reducible rfl)
      try simp only [Act.put, List.setIfInBounds_toArray, List.set_cons_zero, List.set_cons_succ]
      refine wpAnyH_take (i := 27) (oi := ?oi27M5) (v := ?v27M5) ?oi0_27M5 (by kernel_rfl) ?ff27M5 ?rr27M5 ?hq27M5 (Or.inl ⟨?hw27M5, ?hy27M5⟩) (by assumption) ?rest27M5
      case oi0_27M5 => conv => lhs; whnf; arg 1; whnf
      case hq27M5 => exact fun _ _ _ h => h
      case ff27M5 => kernel_rfl
      case rr27M5 => kernel_rfl
      case hw27M5 => rfl
      case hy27M5 => intro w hSw; (try dsimp only at hSw); first | (go_simp; done) | (go_simp; with_reducible rfl)
      try simp only [Act.put, List.setIfInBounds_toArray, List.set_cons_zero, List.set_cons_succ]
      refine wpAnyH_take (i := 28) (oi := ?oi28M6) (v := undef) ?oi0_28M6 (by kernel_rfl) ?ff28M6 ?rr28M6 ?hq28M6 (Or.inr ⟨?hw28M6, rfl⟩) (by assumption) ?rest28M6
      case oi0_28M6 => conv => lhs; whnf; arg 1; whnf
      case hq28M6 => exact fun _ _ _ h => h
      case ff28M6 => kernel_rfl
      case rr28M6 => kernel_rfl
      case hw28M6 => rfl
      try simp only [Act.put, List.setIfInBounds_toArray, List.set_cons_zero, List.set_cons_succ]
      refine wpAnyH_take (i := 29) (oi := ?oi29M6) (v := undef) ?oi0_29M6 (by kernel_rfl) ?ff29M6 ?rr29M6 ?hq29M6 (Or.inr ⟨?hw29M6, rfl⟩) (by assumption) ?rest29M6
      case oi0_29M6 => conv => lhs; whnf; arg 1; whnf
      case hq29M6 => exact fun _ _ _ h => h
      case ff29M6 => kernel_rfl
      case rr29M6 => kernel_rfl
      case hw29M6 => rfl
      try simp only [Act.put, List.setIfInBounds_toArray, List.set_cons_zero, List.set_cons_succ]
      refine wpAnyH_take (i := 30) (oi := ?oi30M6) (v := undef) ?oi0_30M6 (by kernel_rfl) ?ff30M6 ?rr30M6 ?hq30M6 (Or.inr ⟨?hw30M6, rfl⟩) (by assumption) ?rest30M6
      case oi0_30M6 => conv => lhs; whnf; arg 1; whnf
      case hq30M6 => exact fun _ _ _ h => h
      case ff30M6 => kernel_rfl
      case rr30M6 => kernel_rfl
      case hw30M6 => rfl
      try simp only [Act.put, List.setIfInBounds_toArray, List.set_cons_zero, List.set_cons_succ]
      refine wpAnyH_take (i := 31) (oi := ?oi31M6) (v := undef) ?oi0_31M6 (by kernel_rfl) ?ff31M6 ?rr31M6 ?hq31M6 (Or.inr ⟨?hw31M6, rfl⟩) (by assumption) ?rest31M6
      case oi0_31M6 => conv => lhs; whnf; arg 1; whnf
      case hq31M6 => exact fun _ _ _ h => h
      case ff31M6 => kernel_rfl
      case rr31M6 => kernel_rfl
      case hw31M6 => rfl
      try simp only [Act.put, List.setIfInBounds_toArray, List.set_cons_zero, List.set_cons_succ]
      refine wpAnyH_take (i := 33) (oi := ?oi33M6) (v := undef) ?oi0_33M6 (by kernel_rfl) ?ff33M6 ?rr33M6 ?hq33M6 (Or.inr ⟨?hw33M6, rfl⟩) (by assumption) ?rest33M6
      case oi0_33M6 => conv => lhs; whnf; arg 1; whnf
      case hq33M6 => exact fun _ _ _ h => h
      case ff33M6 => kernel_rfl
      case rr33M6 => kernel_rfl
      case hw33M6 => rfl
      try simp only [Act.put, List.setIfInBounds_toArray, List.set_cons_zero, List.set_cons_succ]
      refine wpAnyH_take (i := 34) (oi := ?oi34M6) (v := undef) ?oi0_34M6 (by kernel_rfl) ?ff34M6 ?rr34M6 ?hq34M6 (Or.inr ⟨?hw34M6, rfl⟩) (by assumption) ?rest34M6
      case oi0_34M6 => conv => lhs; whnf; arg 1; whnf
      case hq34M6 => exact fun _ _ _ h => h
      case ff34M6 => kernel_rfl
      case rr34M6 => kernel_rfl
      case hw34M6 => rfl
      try simp only [Act.put, List.setIfInBounds_toArray, List.set_cons_zero, List.set_cons_succ]
      refine wpAnyH_take (i := 35) (oi := ?oi35M6) (v := undef) ?oi0_35M6 (by kernel_rfl) ?ff35M6 ?rr35M6 ?hq35M6 (Or.inr ⟨?hw35M6, rfl⟩) (by assumption) ?rest35M6
      case oi0_35M6 => conv => lhs; whnf; arg 1; whnf
      case hq35M6 => exact fun _ _ _ h => h
      case ff35M6 => kernel_rfl
      case rr35M6 => kernel_rfl
      case hw35M6 => rfl
      try simp only [Act.put, List.setIfInBounds_toArray, List.set_cons_zero, List.set_cons_succ]
      refine wpAnyH_take (i := 36) (oi := ?oi36M6) (v := undef) ?oi0_36M6 (by kernel_rfl) ?ff36M6 ?rr36M6 ?hq36M6 (Or.inr ⟨?hw36M6, rfl⟩) (by assumption) ?rest36M6
      case oi0_36M6 => conv => lhs; whnf; arg 1; whnf
      case hq36M6 => exact fun _ _ _ h => h
      case ff36M6 => kernel_rfl
      case rr36M6 => kernel_rfl
      case hw36M6 => rfl
      try simp only [Act.put, List.setIfInBounds_toArray, List.set_cons_zero, List.set_cons_succ]
      refine wpAnyH_ready (rs := [32]) (by kernel_rfl) (by simp) (AllReadyH.cons (o := ?oi32M7) ?oi0_32M7 (fun K hK => ?_) AllReadyH.nil)
      case oi0_32M7 => conv => lhs; whnf; arg 1; whnf
      rw [if_neg (by first | (simp [Region.wanted, yielded]; done) | (simp [Region.wanted, yielded]; exact fun h => nomatch (show (none : Option Bool) = some true from h)) | (simp [Region.wanted, yielded]; exact fun h => nomatch (show (none : Option Bool) = some false from h)))]
      refine hK.out _ _ (by assumption) (fun _ => ?_)
      clear hK K
      try simp only [Act.put, List.setIfInBounds_toArray, List.set_cons_zero, List.set_cons_succ]
      refine wpAnyH_ready (rs := [37]) (by kernel_rfl) (by simp) (AllReadyH.cons (o := ?oi37M8) ?oi0_37M8 (fun K hK => ?_) AllReadyH.nil)
      case oi0_37M8 => conv => lhs; whnf; arg 1; whnf
      rw [if_neg (by first | (simp [Region.wanted, yielded]; done) | (simp [Region.wanted, yielded]; exact fun h => nomatch (show (none : Option Bool) = some true from h)) | (simp [Region.wanted, yielded]; exact fun h => nomatch (show (none : Option Bool) = some false from h)))]
      refine hK.out _ _ (by assumption) (fun _ => ?_)
      clear hK K
      try simp only [Act.put, List.setIfInBounds_toArray, List.set_cons_zero, List.set_cons_succ]
      refine wpAnyH_take (i := 38) (oi := ?oi38M9) (v := undef) ?oi0_38M9 (by kernel_rfl) ?ff38M9 ?rr38M9 ?hq38M9 (Or.inr ⟨?hw38M9, rfl⟩) (by assumption) ?rest38M9
      case oi0_38M9 => conv => lhs; whnf; arg 1; whnf
      case hq38M9 => exact fun _ _ _ h => h
      case ff38M9 => kernel_rfl
      case rr38M9 => kernel_rfl
      case hw38M9 => rfl
      try simp only [Act.put, List.setIfInBounds_toArray, List.set_cons_zero, List.set_cons_succ]
      refine wpAnyH_take (i := 39) (oi := ?oi39M9) (v := undef) ?oi0_39M9 (by kernel_rfl) ?ff39M9 ?rr39M9 ?hq39M9 (Or.inr ⟨?hw39M9, rfl⟩) (by assumption) ?rest39M9
      case oi0_39M9 => conv => lhs; whnf; arg 1; whnf
      case hq39M9 => exact fun _ _ _ h => h
      case ff39M9 => kernel_rfl
      case rr39M9 => kernel_rfl
      case hw39M9 => rfl
      try simp only [Act.put, List.setIfInBounds_toArray, List.set_cons_zero, List.set_cons_succ]
      refine wpAnyH_take (i := 40) (oi := ?oi40M10) (v := ?v40M10) ?oi0_40M10 (by kernel_rfl) ?ff40M10 ?rr40M10 ?hq40M10 (Or.inl ⟨?hw40M10, ?hy40M10⟩) (by assumption) ?rest40M10
      case oi0_40M10 => conv => lhs; whnf; arg 1; whnf
      case hq40M10 => exact fun _ _ _ h => h
      case ff40M10 => kernel_rfl
      case rr40M10 => kernel_rfl
      case hw40M10 => rfl
      case hy40M10 => intro w hSw; (try dsimp only at hSw); first | (go_simp; done) | (go_simp; with_reducible rfl)
      try simp only [Act.put, List.setIfInBounds_toArray, List.set_cons_zero, List.set_cons_succ]
      refine wpAnyH_take (i := 41) (oi := ?oi41M10) (v := ?v41M10) ?oi0_41M10 (by kernel_rfl) ?ff41M10 ?rr41M10 ?hq41M10 (Or.inl ⟨?hw41M10, ?hy41M10⟩) (by assumption) ?rest41M10
      case oi0_41M10 => conv => lhs; whnf; arg 1; whnf
      case hq41M10 => exact fun _ _ _ h => h
      case ff41M10 => kernel_rfl
      case rr41M10 => kernel_rfl
      case hw41M10 => rfl
      case hy41M10 => intro w hSw; (try dsimp only at hSw); first | (go_simp; done) | (go_simp; with_reducible rfl)
      try simp only [Act.put, List.setIfInBounds_toArray, List.set_cons_zero, List.set_cons_succ]
      refine wpAnyH_done (by kernel_rfl) ?_ _
      clear hHeld hm1 hm2
      go_upto_region 11 with fail
      rcases HI3.out.2 with ⟨rfl, rfl⟩ | ⟨jb, xb, T, br, rfl, rfl, hT, hts⟩
      case inl =>
        refine wp_region_held_drew (S := (fun w' => w'.cell? ⟨wb, 1, none⟩ = some (.pointer none))) (by kernel_rfl) (by exact HW4.out.cell 1) (fun hHeld => ?_)
        obtain ⟨w8, hw⟩ : ∃ y, w4.drew = y := ⟨_, rfl⟩
        have u : Upd [] w4 w8 := by rw [← hw]; exact (Upd.refl [] _).drew
        rw [hw] at hHeld ⊢
        clear hw
        have HW8 := hide (show WBlk w8 wb g x (jptr none) (jptr none) from keepB HW4.out u)
        have HP8 := hide (HP4.out.step u (by simp))
        clear u HW4 HP4
        refine wpAnyH_take (i := 0) (oi := ?oi0M13) (v := ?v0M13) ?oi0_0M13 (by kernel_rfl) ?ff0M13 ?rr0M13 ?hq0M13 (Or.inl ⟨?hw0M13, ?hy0M13⟩) (by assumption) ?rest0M13
        case oi0_0M13 => conv => lhs; whnf; arg 1; whnf
        case hq0M13 => exact fun _ _ _ h => h
        case ff0M13 => kernel_rfl
        case rr0M13 => kernel_rfl
        case hw0M13 => rfl
        case hy0M13 => intro w hSw; (try dsimp only at hSw); first | (go_simp; done) | (go_simp; with_reducible rfl)
        try simp only [Act.put, List.setIfInBounds_toArray, List.set_cons_zero, List.set_cons_succ]
        refine wpAnyH_take (i := 1) (oi := ?oi1M13) (v := ?v1M13) ?oi0_1M13 (by kernel_rfl) ?ff1M13 ?rr1M13 ?hq1M13 (Or.inl ⟨?hw1M13, ?hy1M13⟩) (by assumption) ?rest1M13
        case oi0_1M13 => conv => lhs; whnf; arg 1; whnf
        case hq1M13 => exact fun _ _ _ h => h
        case ff1M13 => kernel_rfl
        case rr1M13 => kernel_rfl
        case hw1M13 => rfl
        case hy1M13 => intro w hSw; (try dsimp only at hSw); first | (go_simp; done) | (go_simp; with_reducible rfl)
        try simp only [Act.put, List.setIfInBounds_toArray, List.set_cons_zero, List.set_cons_succ]
        refine wpAnyH_take (i := 2) (oi := ?oi2M13) (v := ?v2M13) ?oi0_2M13 (by kernel_rfl) ?ff2M13 ?rr2M13 ?hq2M13 (Or.inl ⟨?hw2M13, ?hy2M13⟩) (by assumption) ?rest2M13
        case oi0_2M13 => conv => lhs; whnf; arg 1; whnf
        case hq2M13 => exact fun _ _ _ h => h
        case ff2M13 => kernel_rfl
        case rr2M13 => kernel_rfl
        case hw2M13 => rfl
        case hy2M13 => intro w hSw; (try dsimp only at hSw); first | (go_simp; done) | (go_simp; with_reducible rfl)
        try simp only [Act.put, List.setIfInBounds_toArray, List.set_cons_zero, List.set_cons_succ]
        refine wpAnyH_take (i := 3) (oi := ?oi3M13) (v := ?v3M13) ?oi0_3M13 (by kernel_rfl) ?ff3M13 ?rr3M13 ?hq3M13 (Or.inl ⟨?hw3M13, ?hy3M13⟩) (by assumption) ?rest3M13
        case oi0_3M13 => conv => lhs; whnf; arg 1; whnf
        case hq3M13 => exact fun _ _ _ h => h
        case ff3M13 => kernel_rfl
        case rr3M13 => kernel_rfl
        case hw3M13 => rfl
        case hy3M13 => intro w hSw; (try dsimp only at hSw); first | (go_simp; done) | (go_simp; with_reducible rfl)
        try simp only [Act.put, List.setIfInBounds_toArray, List.set_cons_zero, List.set_cons_succ]
        refine wpAnyH_take (i := 4) (oi := ?oi4M13) (v := ?v4M13) ?oi0_4M13 (by kernel_rfl) ?ff4M13 ?rr4M13 ?hq4M13 (Or.inl ⟨?hw4M13, ?hy4M13⟩) (by assumption) ?rest4M13
        case oi0_4M13 => conv => lhs; whnf; arg 1; whnf
        case hq4M13 => exact fun _ _ _ h => h
        case ff4M13 => kernel_rfl
        case rr4M13 => kernel_rfl
        case hw4M13 => rfl
        case hy4M13 => intro w hSw; (try dsimp only at hSw); first | (go_simp; done) | (go_simp; with_reducible rfl)
        try simp only [Act.put, List.setIfInBounds_toArray, List.set_cons_zero, List.set_cons_succ]
        refine wpAnyH_take (i := 5) (oi := ?oi5M13) (v := ?v5M13) ?oi0_5M13 (by kernel_rfl) ?ff5M13 ?rr5M13 ?hq5M13 (Or.inl ⟨?hw5M13, ?hy5M13⟩) (by assumption) ?rest5M13
        case oi0_5M13 => conv => lhs; whnf; arg 1; whnf
        case hq5M13 => exact fun _ _ _ h => h
        case ff5M13 => kernel_rfl
        case rr5M13 => kernel_rfl
        case hw5M13 => rfl
        case hy5M13 => intro w hSw; (try dsimp only at hSw); first | (go_simp; done) | (go_simp; with_reducible rfl)
        try simp only [Act.put, List.setIfInBounds_toArray, List.set_cons_zero, List.set_cons_succ]
        refine wpAnyH_take (i := 6) (oi := ?oi6M14) (v := undef) ?oi0_6M14 (by kernel_rfl) ?ff6M14 ?rr6M14 ?hq6M14 (Or.inr ⟨?hw6M14, rfl⟩) (by assumption) ?rest6M14
        case oi0_6M14 => conv => lhs; whnf; arg 1; whnf
        case hq6M14 => exact fun _ _ _ h => h
        case ff6M14 => kernel_rfl
        case rr6M14 => kernel_rfl
        case hw6M14 => rfl
        try simp only [Act.put, List.setIfInBounds_toArray, List.set_cons_zero, List.set_cons_succ]
        refine wpAnyH_take (i := 7) (oi := ?oi7M14) (v := undef) ?oi0_7M14 (by kernel_rfl) ?ff7M14 ?rr7M14 ?hq7M14 (Or.inr ⟨?hw7M14, rfl⟩) (by assumption) ?rest7M14
        case oi0_7M14 => conv => lhs; whnf; arg 1; whnf
        case hq7M14 => exact fun _ _ _ h => h
        case ff7M14 => kernel_rfl
        case rr7M14 => kernel_rfl
        case hw7M14 => rfl
        try simp only [Act.put, List.setIfInBounds_toArray, List.set_cons_zero, List.set_cons_succ]
        refine wpAnyH_take (i := 8) (oi := ?oi8M14) (v := undef) ?oi0_8M14 (by kernel_rfl) ?ff8M14 ?rr8M14 ?hq8M14 (Or.inr ⟨?hw8M14, rfl⟩) (by assumption) ?rest8M14
        case oi0_8M14 => conv => lhs; whnf; arg 1; whnf
        case hq8M14 => exact fun _ _ _ h => h
        case ff8M14 => kernel_rfl
        case rr8M14 => kernel_rfl
        case hw8M14 => rfl
        try simp only [Act.put, List.setIfInBounds_toArray, List.set_cons_zero, List.set_cons_succ]
        refine wpAnyH_take (i := 9) (oi := ?oi9M14) (v := undef) ?oi0_9M14 (by kernel_rfl) ?ff9M14 ?rr9M14 ?hq9M14 (Or.inr ⟨?hw9M14, rfl⟩) (by assumption) ?rest9M14
        case oi0_9M14 => conv => lhs; whnf; arg 1; whnf
        case hq9M14 => exact fun _ _ _ h => h
        case ff9M14 => kernel_rfl
        case rr9M14 => kernel_rfl
        case hw9M14 => rfl
        try simp only [Act.put, List.setIfInBounds_toArray, List.set_cons_zero, List.set_cons_succ]
        refine wpAnyH_take (i := 11) (oi := ?oi11M14) (v := undef) ?oi0_11M14 (by kernel_rfl) ?ff11M14 ?rr11M14 ?hq11M14 (Or.inr ⟨?hw11M14, rfl⟩) (by assumption) ?rest11M14
        case oi0_11M14 => conv => lhs; whnf; arg 1; whnf
        case hq11M14 => exact fun _ _ _ h => h
        case ff11M14 => kernel_rfl
        case rr11M14 => kernel_rfl
        case hw11M14 => rfl
        try simp only [Act.put, List.setIfInBounds_toArray, List.set_cons_zero, List.set_cons_succ]
        refine wpAnyH_take (i := 12) (oi := ?oi12M14) (v := undef) ?oi0_12M14 (by kernel_rfl) ?ff12M14 ?rr12M14 ?hq12M14 (Or.inr ⟨?hw12M14, rfl⟩) (by assumption) ?rest12M14
        case oi0_12M14 => conv => lhs; whnf; arg 1; whnf
        case hq12M14 => exact fun _ _ _ h => h
        case ff12M14 => kernel_rfl
        case rr12M14 => kernel_rfl
        case hw12M14 => rfl
        try simp only [Act.put, List.setIfInBounds_toArray, List.set_cons_zero, List.set_cons_succ]
        refine wpAnyH_take (i := 13) (oi := ?oi13M14) (v := undef) ?oi0_13M14 (by kernel_rfl) ?ff13M14 ?rr13M14 ?hq13M14 (Or.inr ⟨?hw13M14, rfl⟩) (by assumption) ?rest13M14
        case oi0_13M14 => conv => lhs; whnf; arg 1; whnf
        case hq13M14 => exact fun _ _ _ h => h
        case ff13M14 => kernel_rfl
        case rr13M14 => kernel_rfl
        case hw13M14 => rfl
        try simp only [Act.put, List.setIfInBounds_toArray, List.set_cons_zero, List.set_cons_succ]
        refine wpAnyH_take (i := 14) (oi := ?oi14M14) (v := undef) ?oi0_14M14 (by kernel_rfl) ?ff14M14 ?rr14M14 ?hq14M14 (Or.inr ⟨?hw14M14, rfl⟩) (by assumption) ?rest14M14
        case oi0_14M14 => conv => lhs; whnf; arg 1; whnf
        case hq14M14 => exact fun _ _ _ h => h
        case ff14M14 => kernel_rfl
        case rr14M14 => kernel_rfl
        case hw14M14 => rfl
        try simp only [Act.put, List.setIfInBounds_toArray, List.set_cons_zero, List.set_cons_succ]
        refine wpAnyH_take (i := 15) (oi := ?oi15M14) (v := undef) ?oi0_15M14 (by kernel_rfl) ?ff15M14 ?rr15M14 ?hq15M14 (Or.inr ⟨?hw15M14, rfl⟩) (by assumption) ?rest15M14
        case oi0_15M14 => conv => lhs; whnf; arg 1; whnf
        case hq15M14 => exact fun _ _ _ h => h
        case ff15M14 => kernel_rfl
        case rr15M14 => kernel_rfl
        case hw15M14 => rfl
        try simp only [Act.put, List.setIfInBounds_toArray, List.set_cons_zero, List.set_cons_succ]
        refine wpAnyH_take (i := 16) (oi := ?oi16M14) (v := undef) ?oi0_16M14 (by kernel_rfl) ?ff16M14 ?rr16M14 ?hq16M14 (Or.inr ⟨?hw16M14, rfl⟩) (by assumption) ?rest16M14
        case oi0_16M14 => conv => lhs; whnf; arg 1; whnf
        case hq16M14 => exact fun _ _ _ h => h
        case ff16M14 => kernel_rfl
        case rr16M14 => kernel_rfl
        case hw16M14 => rfl
        try simp only [Act.put, List.setIfInBounds_toArray, List.set_cons_zero, List.set_cons_succ]
        refine wpAnyH_take (i := 17) (oi := ?oi17M14) (v := undef) ?oi0_17M14 (by kernel_rfl) ?ff17M14 ?rr17M14 ?hq17M14 (Or.inr ⟨?hw17M14, rfl⟩) (by assumption) ?rest17M14
        case oi0_17M14 => conv => lhs; whnf; arg 1; whnf
        case hq17M14 => exact fun _ _ _ h => h
        case ff17M14 => kernel_rfl
        case rr17M14 => kernel_rfl
        case hw17M14 => rfl
        try simp only [Act.put, List.setIfInBounds_toArray, List.set_cons_zero, List.set_cons_succ]
        refine wpAnyH_ready (rs := [10]) (by kernel_rfl) (by simp) (AllReadyH.cons (o := ?oi10M15) ?oi0_10M15 (fun K hK => ?_) AllReadyH.nil)
        case oi0_10M15 => conv => lhs; whnf; arg 1; whnf
        rw [if_neg (by first | (simp [Region.wanted, yielded]; done) | (simp [Region.wanted, yielded]; exact fun h => nomatch (show (none : Option Bool) = some true from h)) | (simp [Region.wanted, yielded]; exact fun h => nomatch (show (none : Option Bool) = some false from h)))]
        refine hK.out _ _ (by assumption) (fun _ => ?_)
        clear hK K
        try simp only [Act.put, List.setIfInBounds_toArray, List.set_cons_zero, List.set_cons_succ]
        refine wpAnyH_ready (rs := [18]) (by kernel_rfl) (by simp) (AllReadyH.cons (o := ?oi18M16) ?oi0_18M16 (fun K hK => ?_) AllReadyH.nil)
        case oi0_18M16 => conv => lhs; whnf; arg 1; whnf
        rw [if_neg (by first | (simp [Region.wanted, yielded]; done) | (simp [Region.wanted, yielded]; exact fun h => nomatch (show (none : Option Bool) = some true from h)) | (simp [Region.wanted, yielded]; exact fun h => nomatch (show (none : Option Bool) = some false from h)))]
        refine hK.out _ _ (by assumption) (fun _ => ?_)
        clear hK K
        try simp only [Act.put, List.setIfInBounds_toArray, List.set_cons_zero, List.set_cons_succ]
        refine wpAnyH_take (i := 19) (oi := ?oi19M17) (v := undef) ?oi0_19M17 (by kernel_rfl) ?ff19M17 ?rr19M17 ?hq19M17 (Or.inr ⟨?hw19M17, rfl⟩) (by assumption) ?rest19M17
        case oi0_19M17 => conv => lhs; whnf; arg 1; whnf
        case hq19M17 => exact fun _ _ _ h => h
        case ff19M17 => kernel_rfl
        case rr19M17 => kernel_rfl
        case hw19M17 => rfl
        try simp only [Act.put, List.setIfInBounds_toArray, List.set_cons_zero, List.set_cons_succ]
        refine wpAnyH_take (i := 20) (oi := ?oi20M17) (v := undef) ?oi0_20M17 (by kernel_rfl) ?ff20M17 ?rr20M17 ?hq20M17 (Or.inr ⟨?hw20M17, rfl⟩) (by assumption) ?rest20M17
        case oi0_20M17 => conv => lhs; whnf; arg 1; whnf
        case hq20M17 => exact fun _ _ _ h => h
        case ff20M17 => kernel_rfl
        case rr20M17 => kernel_rfl
        case hw20M17 => rfl
        try simp only [Act.put, List.setIfInBounds_toArray, List.set_cons_zero, List.set_cons_succ]
        refine wpAnyH_take (i := 21) (oi := ?oi21M17) (v := undef) ?oi0_21M17 (by kernel_rfl) ?ff21M17 ?rr21M17 ?hq21M17 (Or.inr ⟨?hw21M17, rfl⟩) (by assumption) ?rest21M17
        case oi0_21M17 => conv => lhs; whnf; arg 1; whnf
        case hq21M17 => exact fun _ _ _ h => h
        case ff21M17 => kernel_rfl
        case rr21M17 => kernel_rfl
        case hw21M17 => rfl
        try simp only [Act.put, List.setIfInBounds_toArray, List.set_cons_zero, List.set_cons_succ]
        refine wpAnyH_take (i := 22) (oi := ?oi22M17) (v := undef) ?oi0_22M17 (by kernel_rfl) ?ff22M17 ?rr22M17 ?hq22M17 (Or.inr ⟨?hw22M17, rfl⟩) (by assumption) ?rest22M17
        case oi0_22M17 => conv => lhs; whnf; arg 1; whnf
        case hq22M17 => exact fun _ _ _ h => h
        case ff22M17 => kernel_rfl
        case rr22M17 => kernel_rfl
        case hw22M17 => rfl
        try simp only [Act.put, List.setIfInBounds_toArray, List.set_cons_zero, List.set_cons_succ]
        refine wpAnyH_take (i := 23) (oi := ?oi23M17) (v := undef) ?oi0_23M17 (by kernel_rfl) ?ff23M17 ?rr23M17 ?hq23M17 (Or.inr ⟨?hw23M17, rfl⟩) (by assumption) ?rest23M17
        case oi0_23M17 => conv => lhs; whnf; arg 1; whnf
        case hq23M17 => exact fun _ _ _ h => h
        case ff23M17 => kernel_rfl
        case rr23M17 => kernel_rfl
        case hw23M17 => rfl
        try simp only [Act.put, List.setIfInBounds_toArray, List.set_cons_zero, List.set_cons_succ]
        refine wpAnyH_take (i := 24) (oi := ?oi24M17) (v := undef) ?oi0_24M17 (by kernel_rfl) ?ff24M17 ?rr24M17 ?hq24M17 (Or.inr ⟨?hw24M17, rfl⟩) (by assumption) ?rest24M17
        case oi0_24M17 => conv => lhs; whnf; arg 1; whnf
        case hq24M17 => exact fun _ _ _ h => h
        case ff24M17 => kernel_rfl
        case rr24M17 => kernel_rfl
        case hw24M17 => rfl
        try simp only [Act.put, List.setIfInBounds_toArray, List.set_cons_zero, List.set_cons_succ]
        refine wpAnyH_take (i := 26) (oi := ?oi26M17) (v := undef) ?oi0_26M17 (by kernel_rfl) ?ff26M17 ?rr26M17 ?hq26M17 (Or.inr ⟨?hw26M17, rfl⟩) (by assumption) ?rest26M17
        case oi0_26M17 => conv => lhs; whnf; arg 1; whnf
        case hq26M17 => exact fun _ _ _ h => h
        case ff26M17 => kernel_rfl
        case rr26M17 => kernel_rfl
        case hw26M17 => rfl
        try simp only [Act.put, List.setIfInBounds_toArray, List.set_cons_zero, List.set_cons_succ]
        refine wpAnyH_take (i := 27) (oi := ?oi27M17) (v := undef) ?oi0_27M17 (by kernel_rfl) ?ff27M17 ?rr27M17 ?hq27M17 (Or.inr ⟨?hw27M17, rfl⟩) (by assumption) ?rest27M17
        case oi0_27M17 => conv => lhs; whnf; arg 1; whnf
        case hq27M17 => exact fun _ _ _ h => h
        case ff27M17 => kernel_rfl
        case rr27M17 => kernel_rfl
        case hw27M17 => rfl
        try simp only [Act.put, List.setIfInBounds_toArray, List.set_cons_zero, List.set_cons_succ]
        refine wpAnyH_take (i := 28) (oi := ?oi28M17) (v := undef) ?oi0_28M17 (by kernel_rfl) ?ff28M17 ?rr28M17 ?hq28M17 (Or.inr ⟨?hw28M17, rfl⟩) (by assumption) ?rest28M17
        case oi0_28M17 => conv => lhs; whnf; arg 1; whnf
        case hq28M17 => exact fun _ _ _ h => h
        case ff28M17 => kernel_rfl
        case rr28M17 => kernel_rfl
        case hw28M17 => rfl
        try simp only [Act.put, List.setIfInBounds_toArray, List.set_cons_zero, List.set_cons_succ]
        refine wpAnyH_take (i := 29) (oi := ?oi29M17) (v := undef) ?oi0_29M17 (by kernel_rfl) ?ff29M17 ?rr29M17 ?hq29M17 (Or.inr ⟨?hw29M17, rfl⟩) (by assumption) ?rest29M17
        case oi0_29M17 => conv => lhs; whnf; arg 1; whnf
        case hq29M17 => exact fun _ _ _ h => h
        case ff29M17 => kernel_rfl
        case rr29M17 => kernel_rfl
        case hw29M17 => rfl
        try simp only [Act.put, List.setIfInBounds_toArray, List.set_cons_zero, List.set_cons_succ]
        refine wpAnyH_ready (rs := [25]) (by kernel_rfl) (by simp) (AllReadyH.cons (o := ?oi25M18) ?oi0_25M18 (fun K hK => ?_) AllReadyH.nil)
        case oi0_25M18 => conv => lhs; whnf; arg 1; whnf
        rw [if_neg (by first | (simp [Region.wanted, yielded]; done) | (simp [Region.wanted, yielded]; exact fun h => nomatch (show (none : Option Bool) = some true from h)) | (simp [Region.wanted, yielded]; exact fun h => nomatch (show (none : Option Bool) = some false from h)))]
        refine hK.out _ _ (by assumption) (fun _ => ?_)
        clear hK K
        try simp only [Act.put, List.setIfInBounds_toArray, List.set_cons_zero, List.set_cons_succ]
        refine wpAnyH_ready (rs := [30]) (by kernel_rfl) (by simp) (AllReadyH.cons (o := ?oi30M19) ?oi0_30M19 (fun K hK => ?_) AllReadyH.nil)
        case oi0_30M19 => conv => lhs; whnf; arg 1; whnf
        rw [if_neg (by first | (simp [Region.wanted, yielded]; done) | (simp [Region.wanted, yielded]; exact fun h => nomatch (show (none : Option Bool) = some true from h)) | (simp [Region.wanted, yielded]; exact fun h => nomatch (show (none : Option Bool) = some false from h)))]
        refine hK.out _ _ (by assumption) (fun _ => ?_)
        clear hK K
        try simp only [Act.put, List.setIfInBounds_toArray, List.set_cons_zero, List.set_cons_succ]
        refine wpAnyH_take (i := 31) (oi := ?oi31M20) (v := undef) ?oi0_31M20 (by kernel_rfl) ?ff31M20 ?rr31M20 ?hq31M20 (Or.inr ⟨?hw31M20, rfl⟩) (by assumption) ?rest31M20
        case oi0_31M20 => conv => lhs; whnf; arg 1; whnf
        case hq31M20 => exact fun _ _ _ h => h
        case ff31M20 => kernel_rfl
        case rr31M20 => kernel_rfl
        case hw31M20 => rfl
        try simp only [Act.put, List.setIfInBounds_toArray, List.set_cons_zero, List.set_cons_succ]
        refine wpAnyH_take (i := 32) (oi := ?oi32M20) (v := undef) ?oi0_32M20 (by kernel_rfl) ?ff32M20 ?rr32M20 ?hq32M20 (Or.inr ⟨?hw32M20, rfl⟩) (by assumption) ?rest32M20
        case oi0_32M20 => conv => lhs; whnf; arg 1; whnf
        case hq32M20 => exact fun _ _ _ h => h
        case ff32M20 => kernel_rfl
        case rr32M20 => kernel_rfl
        case hw32M20 => rfl
        try simp only [Act.put, List.setIfInBounds_toArray, List.set_cons_zero, List.set_cons_succ]
        refine wpAnyH_take (i := 33) (oi := ?oi33M21) (v := ?v33M21) ?oi0_33M21 (by kernel_rfl) ?ff33M21 ?rr33M21 ?hq33M21 (Or.inl ⟨?hw33M21, ?hy33M21⟩) (by assumption) ?rest33M21
        case oi0_33M21 => conv => lhs; whnf; arg 1; whnf
        case hq33M21 => exact fun _ _ _ h => h
        case ff33M21 => kernel_rfl
        case rr33M21 => kernel_rfl
        case hw33M21 => rfl
        case hy33M21 => intro w hSw; (try dsimp only at hSw); first | (go_simp; done) | (go_simp; with_reducible rfl)
        try simp only [Act.put, List.setIfInBounds_toArray, List.set_cons_zero, List.set_cons_succ]
        refine wpAnyH_done (by kernel_rfl) ?_ _
        clear hHeld
        go_wp2_with fail
        go_roundw
        case rel => exact ⟨k + 1, none, none, D', by omega, by omega, by go_num, HW8, HP8, hide ⟨HI3.out.1.mono (by omega), .inl ⟨rfl, rfl⟩⟩⟩
        case measure => simp [intOf] <;> omega
      case inr =>
        obtain ⟨A, c, hx1, hx2⟩ := pj_list HP4.out
        obtain ⟨rn, hrn⟩ : ∃ y, T.recs.length = y := ⟨_, rfl⟩
        have hrm : rn ≤ 4194304 := by have := hT.2.2; have := HP4.out.ok.max; omega
        rw [hrn] at hx1 hx2
        have HRN := hide hrn
        have HTS := hide hts
        clear hrn hts hT
        refine wp_region_held_drew (S := (fun w' => w'.cell? ⟨wb, 1, none⟩ = some (.pointer (some ⟨jb, 0, none⟩)) ∧ w'.cell? ⟨wb, 3, none⟩ = some (.pointer (some ⟨xb, 0, none⟩)) ∧ w'.cell? ⟨xb, 1, none⟩ = some (.slice A rn c))) (by kernel_rfl) (by exact ⟨HW4.out.cell 1, HW4.out.cell 3, hx1⟩) (fun hHeld => ?_)
        obtain ⟨w8, hw⟩ : ∃ y, w4.drew = y := ⟨_, rfl⟩
        have u : Upd [] w4 w8 := by rw [← hw]; exact (Upd.refl [] _).drew
        rw [hw] at hHeld ⊢
        clear hw
        have HX8 := hide (keepc _ _ _ _ u hx1)
        have HO8 := hide (own_kept hx2 u (by simp))
        have HW8 := hide (show WBlk w8 wb g x (jptr (some (jb, T, br))) (jptr (some (xb, T, br))) from keepB HW4.out u)
        have HP8 := hide (HP4.out.step u (by simp))
        clear u HW4 HP4 hx1 hx2
        refine wpAnyH_take (i := 0) (oi := ?oi0M24) (v := ?v0M24) ?oi0_0M24 (by kernel_rfl) ?ff0M24 ?rr0M24 ?hq0M24 (Or.inl ⟨?hw0M24, ?hy0M24⟩) (by assumption) ?rest0M24
        case oi0_0M24 => conv => lhs; whnf; arg 1; whnf
        case hq0M24 => exact fun _ _ _ h => h
        case ff0M24 => kernel_rfl
        case rr0M24 => kernel_rfl
        case hw0M24 => rfl
        case hy0M24 => intro w hSw; (try dsimp only at hSw); first | (go_simp; done) | (go_simp; with_reducible rfl)
        try simp only [Act.put, List.setIfInBounds_toArray, List.set_cons_zero, List.set_cons_succ]
        refine wpAnyH_take (i := 1) (oi := ?oi1M24) (v := ?v1M24) ?oi0_1M24 (by kernel_rfl) ?ff1M24 ?rr1M24 ?hq1M24 (Or.inl ⟨?hw1M24, ?hy1M24⟩) (by assumption) ?rest1M24
        case oi0_1M24 => conv => lhs; whnf; arg 1; whnf
        case hq1M24 => exact fun _ _ _ h => h
        case ff1M24 => kernel_rfl
        case rr1M24 => kernel_rfl
        case hw1M24 => rfl
        case hy1M24 => intro w hSw; (try dsimp only at hSw); first | (go_simp; done) | (go_simp; with_reducible rfl)
        try simp only [Act.put, List.setIfInBounds_toArray, List.set_cons_zero, List.set_cons_succ]
        refine wpAnyH_take (i := 2) (oi := ?oi2M24) (v := ?v2M24) ?oi0_2M24 (by kernel_rfl) ?ff2M24 ?rr2M24 ?hq2M24 (Or.inl ⟨?hw2M24, ?hy2M24⟩) (by assumption) ?rest2M24
        case oi0_2M24 => conv => lhs; whnf; arg 1; whnf
        case hq2M24 => exact fun _ _ _ h => h
        case ff2M24 => kernel_rfl
        case rr2M24 => kernel_rfl
        case hw2M24 => rfl
        case hy2M24 => intro w hSw; (try dsimp only at hSw); first | (go_simp; done) | (go_simp; with_reducible rfl)
        try simp only [Act.put, List.setIfInBounds_toArray, List.set_cons_zero, List.set_cons_succ]
        refine wpAnyH_take (i := 3) (oi := ?oi3M24) (v := ?v3M24) ?oi0_3M24 (by kernel_rfl) ?ff3M24 ?rr3M24 ?hq3M24 (Or.inl ⟨?hw3M24, ?hy3M24⟩) (by assumption) ?rest3M24
        case oi0_3M24 => conv => lhs; whnf; arg 1; whnf
        case hq3M24 => exact fun _ _ _ h => h
        case ff3M24 => kernel_rfl
        case rr3M24 => kernel_rfl
        case hw3M24 => rfl
        case hy3M24 => intro w hSw; (try dsimp only at hSw); first | (go_simp; done) | (go_simp; with_reducible rfl)
        try simp only [Act.put, List.setIfInBounds_toArray, List.set_cons_zero, List.set_cons_succ]
        refine wpAnyH_take (i := 4) (oi := ?oi4M24) (v := ?v4M24) ?oi0_4M24 (by kernel_rfl) ?ff4M24 ?rr4M24 ?hq4M24 (Or.inl ⟨?hw4M24, ?hy4M24⟩) (by assumption) ?rest4M24
        case oi0_4M24 => conv => lhs; whnf; arg 1; whnf
        case hq4M24 => exact fun _ _ _ h => h
        case ff4M24 => kernel_rfl
        case rr4M24 => kernel_rfl
        case hw4M24 => rfl
        case hy4M24 => intro w hSw; (try dsimp only at hSw); first | (go_simp; done) | (go_simp; with_reducible rfl)
        try simp only [Act.put, List.setIfInBounds_toArray, List.set_cons_zero, List.set_cons_succ]
        refine wpAnyH_take (i := 5) (oi := ?oi5M24) (v := ?v5M24) ?oi0_5M24 (by kernel_rfl) ?ff5M24 ?rr5M24 ?hq5M24 (Or.inl ⟨?hw5M24, ?hy5M24⟩) (by assumption) ?rest5M24
        case oi0_5M24 => conv => lhs; whnf; arg 1; whnf
        case hq5M24 => exact fun _ _ _ h => h
        case ff5M24 => kernel_rfl
        case rr5M24 => kernel_rfl
        case hw5M24 => rfl
        case hy5M24 => intro w hSw; (try dsimp only at hSw); first | (go_simp; done) | (go_simp; with_reducible rfl)
        try simp only [Act.put, List.setIfInBounds_toArray, List.set_cons_zero, List.set_cons_succ]
        refine wpAnyH_take (i := 6) (oi := ?oi6M24) (v := ?v6M24) ?oi0_6M24 (by kernel_rfl) ?ff6M24 ?rr6M24 ?hq6M24 (Or.inl ⟨?hw6M24, ?hy6M24⟩) (by assumption) ?rest6M24
        case oi0_6M24 => conv => lhs; whnf; arg 1; whnf
        case hq6M24 => exact fun _ _ _ h => h
        case ff6M24 => kernel_rfl
        case rr6M24 => kernel_rfl
        case hw6M24 => rfl
        case hy6M24 => intro w hSw; (try dsimp only at hSw); first | (go_simp; done) | (go_simp; with_reducible rfl)
        try simp only [Act.put, List.setIfInBounds_toArray, List.set_cons_zero, List.set_cons_succ]
        refine wpAnyH_take (i := 7) (oi := ?oi7M24) (v := ?v7M24) ?oi0_7M24 (by kernel_rfl) ?ff7M24 ?rr7M24 ?hq7M24 (Or.inl ⟨?hw7M24, ?hy7M24⟩) (by assumption) ?rest7M24
        case oi0_7M24 => conv => lhs; whnf; arg 1; whnf
        case hq7M24 => exact fun _ _ _ h => h
        case ff7M24 => kernel_rfl
        case rr7M24 => kernel_rfl
        case hw7M24 => rfl
        case hy7M24 => intro w hSw; (try dsimp only at hSw); first | (go_simp; done) | (go_simp; with_reducible rfl)
        try simp only [Act.put, List.setIfInBounds_toArray, List.set_cons_zero, List.set_cons_succ]
        refine wpAnyH_take (i := 8) (oi := ?oi8M24) (v := ?v8M24) ?oi0_8M24 (by kernel_rfl) ?ff8M24 ?rr8M24 ?hq8M24 (Or.inl ⟨?hw8M24, ?hy8M24⟩) (by assumption) ?rest8M24
        case oi0_8M24 => conv => lhs; whnf; arg 1; whnf
        case hq8M24 => exact fun _ _ _ h => h
        case ff8M24 => kernel_rfl
        case rr8M24 => kernel_rfl
        case hw8M24 => rfl
        case hy8M24 => intro w hSw; (try dsimp only at hSw); first | (go_simp; done) | (go_simp; with_reducible rfl)
        try simp only [Act.put, List.setIfInBounds_toArray, List.set_cons_zero, List.set_cons_succ]
        refine wpAnyH_take (i := 9) (oi := ?oi9M24) (v := ?v9M24) ?oi0_9M24 (by kernel_rfl) ?ff9M24 ?rr9M24 ?hq9M24 (Or.inl ⟨?hw9M24, ?hy9M24⟩) (by assumption) ?rest9M24
        case oi0_9M24 => conv => lhs; whnf; arg 1; whnf
        case hq9M24 => exact fun _ _ _ h => h
        case ff9M24 => kernel_rfl
        case rr9M24 => kernel_rfl
        case hw9M24 => rfl
        case hy9M24 => intro w hSw; (try dsimp only at hSw); first | (go_simp; done) | (go_simp; with_reducible rfl)
        try simp only [Act.put, List.setIfInBounds_toArray, List.set_cons_zero, List.set_cons_succ]
        refine wpAnyH_take (i := 11) (oi := ?oi11M25) (v := ?v11M25) ?oi0_11M25 (by kernel_rfl) ?ff11M25 ?rr11M25 ?hq11M25 (Or.inl ⟨?hw11M25, ?hy11M25⟩) (by assumption) ?rest11M25
        case oi0_11M25 => conv => lhs; whnf; arg 1; whnf
        case hq11M25 => exact fun _ _ _ h => h
        case ff11M25 => kernel_rfl
        case rr11M25 => kernel_rfl
        case hw11M25 => rfl
        case hy11M25 => intro w hSw; (try dsimp only at hSw); first | (go_simp; done) | (go_simp; with_reducible rfl)
        try simp only [Act.put, List.setIfInBounds_toArray, List.set_cons_zero, List.set_cons_succ]
        refine wpAnyH_take (i := 12) (oi := ?oi12M25) (v := ?v12M25) ?oi0_12M25 (by kernel_rfl) ?ff12M25 ?rr12M25 ?hq12M25 (Or.inl ⟨?hw12M25, ?hy12M25⟩) (by assumption) ?rest12M25
        case oi0_12M25 => conv => lhs; whnf; arg 1; whnf
        case hq12M25 => exact fun _ _ _ h => h
        case ff12M25 => kernel_rfl
        case rr12M25 => kernel_rfl
        case hw12M25 => rfl
        case hy12M25 => intro w hSw; (try dsimp only at hSw); first | (go_simp; done) | (go_simp; with_reducible rfl)
        try simp only [Act.put, List.setIfInBounds_toArray, List.set_cons_zero, List.set_cons_succ]
        refine wpAnyH_take (i := 13) (oi := ?oi13M25) (v := ?v13M25) ?oi0_13M25 (by kernel_rfl) ?ff13M25 ?rr13M25 ?hq13M25 (Or.inl ⟨?hw13M25, ?hy13M25⟩) (by assumption) ?rest13M25
        case oi0_13M25 => conv => lhs; whnf; arg 1; whnf
        case hq13M25 => exact fun _ _ _ h => h
        case ff13M25 => kernel_rfl
        case rr13M25 => kernel_rfl
        case hw13M25 => rfl
        case hy13M25 => intro w hSw; (try dsimp only at hSw); first | (go_simp; done) | (go_simp; with_reducible rfl)
        try simp only [Act.put, List.setIfInBounds_toArray, List.set_cons_zero, List.set_cons_succ]
        refine wpAnyH_take (i := 14) (oi := ?oi14M25) (v := ?v14M25) ?oi0_14M25 (by kernel_rfl) ?ff14M25 ?rr14M25 ?hq14M25 (Or.inl ⟨?hw14M25, ?hy14M25⟩) (by assumption) ?rest14M25
        case oi0_14M25 => conv => lhs; whnf; arg 1; whnf
        case hq14M25 => exact fun _ _ _ h => h
        case ff14M25 => kernel_rfl
        case rr14M25 => kernel_rfl
        case hw14M25 => rfl
        case hy14M25 => intro w hSw; (try dsimp only at hSw); first | (go_simp; done) | (go_simp; with_reducible rfl)
        try simp only [Act.put, List.setIfInBounds_toArray, List.set_cons_zero, List.set_cons_succ]
        refine wpAnyH_take (i := 15) (oi := ?oi15M25) (v := ?v15M25) ?oi0_15M25 (by kernel_rfl) ?ff15M25 ?rr15M25 ?hq15M25 (Or.inl ⟨?hw15M25, ?hy15M25⟩) (by assumption) ?rest15M25
        case oi0_15M25 => conv => lhs; whnf; arg 1; whnf
        case hq15M25 => exact fun _ _ _ h => h
        case ff15M25 => kernel_rfl
        case rr15M25 => kernel_rfl
        case hw15M25 => rfl
        case hy15M25 => intro w hSw; (try dsimp only at hSw); first | (go_simp; done) | (go_simp; with_reducible rfl)
        try simp only [Act.put, List.setIfInBounds_toArray, List.set_cons_zero, List.set_cons_succ]
        refine wpAnyH_take (i := 16) (oi := ?oi16M25) (v := ?v16M25) ?oi0_16M25 (by kernel_rfl) ?ff16M25 ?rr16M25 ?hq16M25 (Or.inl ⟨?hw16M25, ?hy16M25⟩) (by assumption) ?rest16M25
        case oi0_16M25 => conv => lhs; whnf; arg 1; whnf
        case hq16M25 => exact fun _ _ _ h => h
        case ff16M25 => kernel_rfl
        case rr16M25 => kernel_rfl
        case hw16M25 => rfl
        case hy16M25 => intro w hSw; (try dsimp only at hSw); first | (go_simp; done) | (go_simp; with_reducible rfl)
        try simp only [Act.put, List.setIfInBounds_toArray, List.set_cons_zero, List.set_cons_succ]
        refine wpAnyH_take (i := 17) (oi := ?oi17M25) (v := ?v17M25) ?oi0_17M25 (by kernel_rfl) ?ff17M25 ?rr17M25 ?hq17M25 (Or.inl ⟨?hw17M25, ?hy17M25⟩) (by assumption) ?rest17M25
        case oi0_17M25 => conv => lhs; whnf; arg 1; whnf
        case hq17M25 => exact fun _ _ _ h => h
        case ff17M25 => kernel_rfl
        case rr17M25 => kernel_rfl
        case hw17M25 => rfl
        case hy17M25 => intro w hSw; (try dsimp only at hSw); first | (go_simp; done) | (go_simp; with_reducible rfl)
        try simp only [Act.put, List.setIfInBounds_toArray, List.set_cons_zero, List.set_cons_succ]
        refine wpAnyH_ready (rs := [10]) (by kernel_rfl) (by simp) (AllReadyH.cons (o := ?oiM26) ?oi0_M26 (fun K hK => ?_) AllReadyH.nil)
        case oi0_M26 => conv => lhs; whnf; arg 1; whnf
        go_simp
        have HR := hide (pj_records HP8.out (by rw [HRN.out]; omega))
        rw [HRN.out] at HR
        refine HR.out.mono ?_
        rintro e w9 ⟨ra, rc, rfl, ho, u⟩
        try simp only
        have HS9 := hide ho
        have HX9 := hide (keepc _ _ _ _ u HX8.out)
        have HO9 := hide (own_kept HO8.out u (by simp))
        have HW9 := hide (show WBlk w9 wb g x (jptr (some (jb, T, br))) (jptr (some (xb, T, br))) from keepB HW8.out u)
        have HP9 := hide (HP8.out.step u (by simp))
        clear u HX8 HO8 HW8 HP8
        have hc2 : w9.cell? ⟨wb, 1, none⟩ = some (.pointer (some ⟨jb, 0, none⟩)) ∧ w9.cell? ⟨wb, 3, none⟩ = some (.pointer (some ⟨xb, 0, none⟩)) ∧ w9.cell? ⟨xb, 1, none⟩ = some (.slice A rn c) := ⟨HW9.out.cell 1, HW9.out.cell 3, HX9.out⟩
        clear ho HR
        (try dsimp only)
        refine hK.out _ _ (by exact hc2) (fun hHeld => ?_)
        clear hK K hc2
        try simp only [Act.put, List.setIfInBounds_toArray, List.set_cons_zero, List.set_cons_succ]
        refine wpAnyH_ready (rs := [18]) (by kernel_rfl) (by simp) (AllReadyH.cons (o := ?oiM27) ?oi0_M27 (fun K hK => ?_) AllReadyH.nil)
        case oi0_M27 => conv => lhs; whnf; arg 1; whnf
        go_simp
        have HE := hide (same_any ra rn rc _ A rn c _ w9 (by rw [List.length_map]; exact HRN.out) (by rw [List.length_map]; exact HRN.out) (by omega) (by omega) (strs_own HS9.out) (strs_own HO9.out))
        rw [show decide ((T.recs.map fun r => (⟨r.toArray⟩ : ByteArray)) = (T.recs.map fun r => (⟨r.toArray⟩ : ByteArray))) = true from decide_eq_true rfl] at HE
        refine HE.out.mono ?_
        rintro e w10 ⟨rfl, u⟩
        try simp only
        have HX10 := hide (keepc _ _ _ _ u HX9.out)
        have HO10 := hide (own_kept HO9.out u (by simp))
        have HW10 := hide (show WBlk w10 wb g x (jptr (some (jb, T, br))) (jptr (some (xb, T, br))) from keepB HW9.out u)
        have HP10 := hide (HP9.out.step u (by simp))
        clear u HX9 HO9 HW9 HP9
        have hc2 : w10.cell? ⟨wb, 1, none⟩ = some (.pointer (some ⟨jb, 0, none⟩)) ∧ w10.cell? ⟨wb, 3, none⟩ = some (.pointer (some ⟨xb, 0, none⟩)) ∧ w10.cell? ⟨xb, 1, none⟩ = some (.slice A rn c) := ⟨HW10.out.cell 1, HW10.out.cell 3, HX10.out⟩
        clear HE HS9
        (try dsimp only)
        refine hK.out _ _ (by exact hc2) (fun hHeld => ?_)
        clear hK K hc2
        try simp only [Act.put, List.setIfInBounds_toArray, List.set_cons_zero, List.set_cons_succ]
        refine wpAnyH_take (i := 19) (oi := ?oi19M28) (v := ?v19M28) ?oi0_19M28 (by kernel_rfl) ?ff19M28 ?rr19M28 ?hq19M28 (Or.inl ⟨?hw19M28, ?hy19M28⟩) (by assumption) ?rest19M28
        case oi0_19M28 => conv => lhs; whnf; arg 1; whnf
        case hq19M28 => exact fun _ _ _ h => h
        case ff19M28 => kernel_rfl
        case rr19M28 => kernel_rfl
        case hw19M28 => rfl
        case hy19M28 => intro w hSw; (try dsimp only at hSw); first | (go_simp; done) | (go_simp; with_reducible rfl)
        try simp only [Act.put, List.setIfInBounds_toArray, List.set_cons_zero, List.set_cons_succ]
        refine wpAnyH_take (i := 20) (oi := ?oi20M28) (v := ?v20M28) ?oi0_20M28 (by kernel_rfl) ?ff20M28 ?rr20M28 ?hq20M28 (Or.inl ⟨?hw20M28, ?hy20M28⟩) (by assumption) ?rest20M28
        case oi0_20M28 => conv => lhs; whnf; arg 1; whnf
        case hq20M28 => exact fun _ _ _ h => h
        case ff20M28 => kernel_rfl
        case rr20M28 => kernel_rfl
        case hw20M28 => rfl
        case hy20M28 => intro w hSw; (try dsimp only at hSw); first | (go_simp; done) | (go_simp; with_reducible rfl)
        try simp only [Act.put, List.setIfInBounds_toArray, List.set_cons_zero, List.set_cons_succ]
        refine wpAnyH_take (i := 21) (oi := ?oi21M28) (v := ?v21M28) ?oi0_21M28 (by kernel_rfl) ?ff21M28 ?rr21M28 ?hq21M28 (Or.inl ⟨?hw21M28, ?hy21M28⟩) (by assumption) ?rest21M28
        case oi0_21M28 => conv => lhs; whnf; arg 1; whnf
        case hq21M28 => exact fun _ _ _ h => h
        case ff21M28 => kernel_rfl
        case rr21M28 => kernel_rfl
        case hw21M28 => rfl
        case hy21M28 => intro w hSw; (try dsimp only at hSw); first | (go_simp; done) | (go_simp; with_reducible rfl)
        try simp only [Act.put, List.setIfInBounds_toArray, List.set_cons_zero, List.set_cons_succ]
        refine wpAnyH_take (i := 22) (oi := ?oi22M28) (v := ?v22M28) ?oi0_22M28 (by kernel_rfl) ?ff22M28 ?rr22M28 ?hq22M28 (Or.inl ⟨?hw22M28, ?hy22M28⟩) (by assumption) ?rest22M28
        case oi0_22M28 => conv => lhs; whnf; arg 1; whnf
        case hq22M28 => exact fun _ _ _ h => h
        case ff22M28 => kernel_rfl
        case rr22M28 => kernel_rfl
        case hw22M28 => rfl
        case hy22M28 => intro w hSw; (try dsimp only at hSw); first | (go_simp; done) | (go_simp; with_reducible rfl)
        try simp only [Act.put, List.setIfInBounds_toArray, List.set_cons_zero, List.set_cons_succ]
        refine wpAnyH_take (i := 23) (oi := ?oi23M28) (v := ?v23M28) ?oi0_23M28 (by kernel_rfl) ?ff23M28 ?rr23M28 ?hq23M28 (Or.inl ⟨?hw23M28, ?hy23M28⟩) (by assumption) ?rest23M28
        case oi0_23M28 => conv => lhs; whnf; arg 1; whnf
        case hq23M28 => exact fun _ _ _ h => h
        case ff23M28 => kernel_rfl
        case rr23M28 => kernel_rfl
        case hw23M28 => rfl
        case hy23M28 => intro w hSw; (try dsimp only at hSw); first | (go_simp; done) | (go_simp; with_reducible rfl)
        try simp only [Act.put, List.setIfInBounds_toArray, List.set_cons_zero, List.set_cons_succ]
        refine wpAnyH_take (i := 24) (oi := ?oi24M28) (v := ?v24M28) ?oi0_24M28 (by kernel_rfl) ?ff24M28 ?rr24M28 ?hq24M28 (Or.inl ⟨?hw24M28, ?hy24M28⟩) (by assumption) ?rest24M28
        case oi0_24M28 => conv => lhs; whnf; arg 1; whnf
        case hq24M28 => exact fun _ _ _ h => h
        case ff24M28 => kernel_rfl
        case rr24M28 => kernel_rfl
        case hw24M28 => rfl
        case hy24M28 => intro w hSw; (try dsimp only at hSw); first | (go_simp; done) | (go_simp; with_reducible rfl)
        try simp only [Act.put, List.setIfInBounds_toArray, List.set_cons_zero, List.set_cons_succ]
        refine wpAnyH_take (i := 26) (oi := ?oi26M29) (v := ?v26M29) ?oi0_26M29 (by kernel_rfl) ?ff26M29 ?rr26M29 ?hq26M29 (Or.inl ⟨?hw26M29, ?hy26M29⟩) (by assumption) ?rest26M29
        case oi0_26M29 => conv => lhs; whnf; arg 1; whnf
        case hq26M29 => exact fun _ _ _ h => h
        case ff26M29 => kernel_rfl
        case rr26M29 => kernel_rfl
        case hw26M29 => rfl
        case hy26M29 => intro w hSw; (try dsimp only at hSw); first | (go_simp; done) | (go_simp; with_reducible rfl)
        try simp only [Act.put, List.setIfInBounds_toArray, List.set_cons_zero, List.set_cons_succ]
        refine wpAnyH_take (i := 27) (oi := ?oi27M29) (v := ?v27M29) ?oi0_27M29 (by kernel_rfl) ?ff27M29 ?rr27M29 ?hq27M29 (Or.inl ⟨?hw27M29, ?hy27M29⟩) (by assumption) ?rest27M29
        case oi0_27M29 => conv => lhs; whnf; arg 1; whnf
        case hq27M29 => exact fun _ _ _ h => h
        case ff27M29 => kernel_rfl
        case rr27M29 => kernel_rfl
        case hw27M29 => rfl
        case hy27M29 => intro w hSw; (try dsimp only at hSw); first | (go_simp; done) | (go_simp; with_reducible rfl)
        try simp only [Act.put, List.setIfInBounds_toArray, List.set_cons_zero, List.set_cons_succ]
        refine wpAnyH_take (i := 28) (oi := ?oi28M29) (v := ?v28M29) ?oi0_28M29 (by kernel_rfl) ?ff28M29 ?rr28M29 ?hq28M29 (Or.inl ⟨?hw28M29, ?hy28M29⟩) (by assumption) ?rest28M29
        case oi0_28M29 => conv => lhs; whnf; arg 1; whnf
        case hq28M29 => exact fun _ _ _ h => h
        case ff28M29 => kernel_rfl
        case rr28M29 => kernel_rfl
        case hw28M29 => rfl
        case hy28M29 => intro w hSw; (try dsimp only at hSw); first | (go_simp; done) | (go_simp; with_reducible rfl)
        try simp only [Act.put, List.setIfInBounds_toArray, List.set_cons_zero, List.set_cons_succ]
        refine wpAnyH_take (i := 29) (oi := ?oi29M29) (v := ?v29M29) ?oi0_29M29 (by kernel_rfl) ?ff29M29 ?rr29M29 ?hq29M29 (Or.inl ⟨?hw29M29, ?hy29M29⟩) (by assumption) ?rest29M29
        case oi0_29M29 => conv => lhs; whnf; arg 1; whnf
        case hq29M29 => exact fun _ _ _ h => h
        case ff29M29 => kernel_rfl
        case rr29M29 => kernel_rfl
        case hw29M29 => rfl
        case hy29M29 => intro w hSw; (try dsimp only at hSw); first | (go_simp; done) | (go_simp; with_reducible rfl)
        try simp only [Act.put, List.setIfInBounds_toArray, List.set_cons_zero, List.set_cons_succ]
        refine wpAnyH_ready (rs := [25]) (by kernel_rfl) (by simp) (AllReadyH.cons (o := ?oiM30) ?oi0_M30 (fun K hK => ?_) AllReadyH.nil)
        case oi0_M30 => conv => lhs; whnf; arg 1; whnf
        go_simp
        have HM := hide (pj_room HP10.out HTS.out)
        obtain ⟨rm, hrm2⟩ : ∃ y, D'.sure.length - T.size = y := ⟨_, rfl⟩
        rw [hrm2] at HM
        have HRM := hide hrm2
        clear hrm2
        refine HM.out.mono ?_
        rintro e w11 ⟨rfl, u⟩
        try simp only
        have HX11 := hide (keepc _ _ _ _ u HX10.out)
        have HO11 := hide (own_kept HO10.out u (by simp))
        have HW11 := hide (show WBlk w11 wb g x (jptr (some (jb, T, br))) (jptr (some (xb, T, br))) from keepB HW10.out u)
        have HP11 := hide (HP10.out.step u (by simp))
        clear u HX10 HO10 HW10 HP10
        have hc2 : w11.cell? ⟨wb, 1, none⟩ = some (.pointer (some ⟨jb, 0, none⟩)) ∧ w11.cell? ⟨wb, 3, none⟩ = some (.pointer (some ⟨xb, 0, none⟩)) ∧ w11.cell? ⟨xb, 1, none⟩ = some (.slice A rn c) := ⟨HW11.out.cell 1, HW11.out.cell 3, HX11.out⟩
        clear HM
        (try dsimp only)
        refine hK.out _ _ (by exact hc2) (fun hHeld => ?_)
        clear hK K hc2
        try simp only [Act.put, List.setIfInBounds_toArray, List.set_cons_zero, List.set_cons_succ]
        refine wpAnyH_ready (rs := [30]) (by kernel_rfl) (by simp) (AllReadyH.cons (o := ?oiM31) ?oi0_M31 (fun K hK => ?_) AllReadyH.nil)
        case oi0_M31 => conv => lhs; whnf; arg 1; whnf
        go_simp
        have HM := hide (pj_rroom HP11.out HTS.out)
        rw [HRM.out] at HM
        refine HM.out.mono ?_
        rintro e w12 ⟨rfl, u⟩
        try simp only
        have HX12 := hide (keepc _ _ _ _ u HX11.out)
        have HO12 := hide (own_kept HO11.out u (by simp))
        have HW12 := hide (show WBlk w12 wb g x (jptr (some (jb, T, br))) (jptr (some (xb, T, br))) from keepB HW11.out u)
        have HP12 := hide (HP11.out.step u (by simp))
        clear u HX11 HO11 HW11 HP11
        have hc2 : w12.cell? ⟨wb, 1, none⟩ = some (.pointer (some ⟨jb, 0, none⟩)) ∧ w12.cell? ⟨wb, 3, none⟩ = some (.pointer (some ⟨xb, 0, none⟩)) ∧ w12.cell? ⟨xb, 1, none⟩ = some (.slice A rn c) := ⟨HW12.out.cell 1, HW12.out.cell 3, HX12.out⟩
        clear HM
        (try dsimp only)
        refine hK.out _ _ (by exact hc2) (fun hHeld => ?_)
        clear hK K hc2
        try simp only [Act.put, List.setIfInBounds_toArray, List.set_cons_zero, List.set_cons_succ]
        have hmm : ¬ ((rm : Int) != (rm : Int)) = true := by simp
        refine wpAnyH_take (i := 31) (oi := ?oi31M32) (v := ?v31M32) ?oi0_31M32 (by kernel_rfl) ?ff31M32 ?rr31M32 ?hq31M32 (Or.inl ⟨?hw31M32, ?hy31M32⟩) (by assumption) ?rest31M32
        case oi0_31M32 => conv => lhs; whnf; arg 1; whnf
        case hq31M32 => exact fun _ _ _ h => h
        case ff31M32 => kernel_rfl
        case rr31M32 => kernel_rfl
        case hw31M32 => rfl
        case hy31M32 => intro w hSw; (try dsimp only at hSw); first | (go_simp; done) | (go_simp; with_reducible rfl)
        try simp only [Act.put, List.setIfInBounds_toArray, List.set_cons_zero, List.set_cons_succ]
        refine wpAnyH_take (i := 32) (oi := ?oi32M32) (v := ?v32M32) ?oi0_32M32 (by kernel_rfl) ?ff32M32 ?rr32M32 ?hq32M32 (Or.inl ⟨?hw32M32, ?hy32M32⟩) (by assumption) ?rest32M32
        case oi0_32M32 => conv => lhs; whnf; arg 1; whnf
        case hq32M32 => exact fun _ _ _ h => h
        case ff32M32 => kernel_rfl
        case rr32M32 => kernel_rfl
        case hw32M32 => rfl
        case hy32M32 => intro w hSw; (try dsimp only at hSw); first | (go_simp; done) | (go_simp; with_reducible rfl)
        try simp only [Act.put, List.setIfInBounds_toArray, List.set_cons_zero, List.set_cons_succ]
        refine wpAnyH_take (i := 33) (oi := ?oi33M32) (v := ?v33M32) ?oi0_33M32 (by kernel_rfl) ?ff33M32 ?rr33M32 ?hq33M32 (Or.inl ⟨?hw33M32, ?hy33M32⟩) (by assumption) ?rest33M32
        case oi0_33M32 => conv => lhs; whnf; arg 1; whnf
        case hq33M32 => exact fun _ _ _ h => h
        case ff33M32 => kernel_rfl
        case rr33M32 => kernel_rfl
        case hw33M32 => rfl
        case hy33M32 => intro w hSw; (try dsimp only at hSw); first | (go_simp; done) | (go_simp; with_reducible rfl)
        try simp only [Act.put, List.setIfInBounds_toArray, List.set_cons_zero, List.set_cons_succ]
        refine wpAnyH_done (by kernel_rfl) ?_ _
        clear hHeld
        go_wp2_with fail
        go_roundw
        case rel => exact ⟨k + 1, some (jb, T, br), some (xb, T, br), D', by omega, by omega, by go_num, HW12, HP12, hide ⟨HI3.out.1.mono (by omega), HI3.out.2⟩⟩
        case measure => simp [intOf] <;> omega
    | false =>
      refine wpAnyH_take (i := 0) (oi := ?oi0M34) (v := ?v0M34) ?oi0_0M34 (by kernel_rfl) ?ff0M34 ?rr0M34 ?hq0M34 (Or.inl ⟨?hw0M34, ?hy0M34⟩) (by assumption) ?rest0M34
      case oi0_0M34 => conv => lhs; whnf; arg 1; whnf
      case hq0M34 => exact fun _ _ _ h => h
      case ff0M34 => kernel_rfl
      case rr0M34 => kernel_rfl
      case hw0M34 => rfl
      case hy0M34 => intro w hSw; (try dsimp only at hSw); first | (go_simp; done) | (go_simp; with_reducible rfl)
      try simp only [Act.put, List.setIfInBounds_toArray, List.set_cons_zero, List.set_cons_succ]
      refine wpAnyH_take (i := 1) (oi := ?oi1M34) (v := ?v1M34) ?oi0_1M34 (by kernel_rfl) ?ff1M34 ?rr1M34 ?hq1M34 (Or.inl ⟨?hw1M34, ?hy1M34⟩) (by assumption) ?rest1M34
      case oi0_1M34 => conv => lhs; whnf; arg 1; whnf
      case hq1M34 => exact fun _ _ _ h => h
      case ff1M34 => kernel_rfl
      case rr1M34 => kernel_rfl
      case hw1M34 => rfl
      case hy1M34 => intro w hSw; (try dsimp only at hSw); first | (go_simp; done) | (go_simp; with_reducible rfl)
      try simp only [Act.put, List.setIfInBounds_toArray, List.set_cons_zero, List.set_cons_succ]
      refine wpAnyH_take (i := 2) (oi := ?oi2M34) (v := ?v2M34) ?oi0_2M34 (by kernel_rfl) ?ff2M34 ?rr2M34 ?hq2M34 (Or.inl ⟨?hw2M34, ?hy2M34⟩) (by assumption) ?rest2M34
      case oi0_2M34 => conv => lhs; whnf; arg 1; whnf
      case hq2M34 => exact fun _ _ _ h => h
      case ff2M34 => kernel_rfl
      case rr2M34 => kernel_rfl
      case hw2M34 => rfl
      case hy2M34 => intro w hSw; (try dsimp only at hSw); first | (go_simp; done) | (go_simp; with_reducible rfl)
      try simp only [Act.put, List.setIfInBounds_toArray, List.set_cons_zero, List.set_cons_succ]
      refine wpAnyH_take (i := 3) (oi := ?oi3M34) (v := ?v3M34) ?oi0_3M34 (by kernel_rfl) ?ff3M34 ?rr3M34 ?hq3M34 (Or.inl ⟨?hw3M34, ?hy3M34⟩) (by assumption) ?rest3M34
      case oi0_3M34 => conv => lhs; whnf; arg 1; whnf
      case hq3M34 => exact fun _ _ _ h => h
      case ff3M34 => kernel_rfl
      case rr3M34 => kernel_rfl
      case hw3M34 => rfl
      case hy3M34 => intro w hSw; (try dsimp only at hSw); first | (go_simp; done) | (go_simp; with_reducible rfl)
      try simp only [Act.put, List.setIfInBounds_toArray, List.set_cons_zero, List.set_cons_succ]
      refine wpAnyH_take (i := 4) (oi := ?oi4M34) (v := ?v4M34) ?oi0_4M34 (by kernel_rfl) ?ff4M34 ?rr4M34 ?hq4M34 (Or.inl ⟨?hw4M34, ?hy4M34⟩) (by assumption) ?rest4M34
      case oi0_4M34 => conv => lhs; whnf; arg 1; whnf
      case hq4M34 => exact fun _ _ _ h => h
      case ff4M34 => kernel_rfl
      case rr4M34 => kernel_rfl
      case hw4M34 => rfl
      case hy4M34 => intro w hSw; (try dsimp only at hSw); first | (go_simp; done) | (go_simp; with_reducible rfl)
      try simp only [Act.put, List.setIfInBounds_toArray, List.set_cons_zero, List.set_cons_succ]
      refine wpAnyH_take (i := 5) (oi := ?oi5M34) (v := ?v5M34) ?oi0_5M34 (by kernel_rfl) ?ff5M34 ?rr5M34 ?hq5M34 (Or.inl ⟨?hw5M34, ?hy5M34⟩) (by assumption) ?rest5M34
      case oi0_5M34 => conv => lhs; whnf; arg 1; whnf
      case hq5M34 => exact fun _ _ _ h => h
      case ff5M34 => kernel_rfl
      case rr5M34 => kernel_rfl
      case hw5M34 => rfl
      case hy5M34 => intro w hSw; (try dsimp only at hSw); first | (go_simp; done) | (go_simp; with_reducible rfl)
      try simp only [Act.put, List.setIfInBounds_toArray, List.set_cons_zero, List.set_cons_succ]
      refine wpAnyH_take (i := 6) (oi := ?oi6M34) (v := ?v6M34) ?oi0_6M34 (by kernel_rfl) ?ff6M34 ?rr6M34 ?hq6M34 (Or.inl ⟨?hw6M34, ?hy6M34⟩) (by assumption) ?rest6M34
      case oi0_6M34 => conv => lhs; whnf; arg 1; whnf
      case hq6M34 => exact fun _ _ _ h => h
      case ff6M34 => kernel_rfl
      case rr6M34 => kernel_rfl
      case hw6M34 => rfl
      case hy6M34 => intro w hSw; (try dsimp only at hSw); first | (go_simp; done) | (go_simp; with_reducible rfl)
      try simp only [Act.put, List.setIfInBounds_toArray, List.set_cons_zero, List.set_cons_succ]
      refine wpAnyH_take (i := 8) (oi := ?oi8M35) (v := ?v8M35) ?oi0_8M35 (by kernel_rfl) ?ff8M35 ?rr8M35 ?hq8M35 (Or.inl ⟨?hw8M35, ?hy8M35⟩) (by assumption) ?rest8M35
      case oi0_8M35 => conv => lhs; whnf; arg 1; whnf
      case hq8M35 => exact fun _ _ _ h => h
      case ff8M35 => kernel_rfl
      case rr8M35 => kernel_rfl
      case hw8M35 => rfl
      case hy8M35 => intro w hSw; (try dsimp only at hSw); first | (go_simp; done) | (go_simp; with_reducible rfl)
      try simp only [Act.put, List.setIfInBounds_toArray, List.set_cons_zero, List.set_cons_succ]
      refine wpAnyH_take (i := 9) (oi := ?oi9M35) (v := ?v9M35) ?oi0_9M35 (by kernel_rfl) ?ff9M35 ?rr9M35 ?hq9M35 (Or.inl ⟨?hw9M35, ?hy9M35⟩) (by assumption) ?rest9M35
      case oi0_9M35 => conv => lhs; whnf; arg 1; whnf
      case hq9M35 => exact fun _ _ _ h => h
      case ff9M35 => kernel_rfl
      case rr9M35 => kernel_rfl
      case hw9M35 => rfl
      case hy9M35 => intro w hSw; (try dsimp only at hSw); first | (go_simp; done) | (go_simp; with_reducible rfl)
      try simp only [Act.put, List.setIfInBounds_toArray, List.set_cons_zero, List.set_cons_succ]
      refine wpAnyH_take (i := 10) (oi := ?oi10M35) (v := ?v10M35) ?oi0_10M35 (by kernel_rfl) ?ff10M35 ?rr10M35 ?hq10M35 (Or.inl ⟨?hw10M35, ?hy10M35⟩) (by assumption) ?rest10M35
      case oi0_10M35 => conv => lhs; whnf; arg 1; whnf
      case hq10M35 => exact fun _ _ _ h => h
      case ff10M35 => kernel_rfl
      case rr10M35 => kernel_rfl
      case hw10M35 => rfl
      case hy10M35 => intro w hSw; (try dsimp only at hSw); first | (go_simp; done) | (go_simp; with_reducible rfl)
      try simp only [Act.put, List.setIfInBounds_toArray, List.set_cons_zero, List.set_cons_succ]
      refine wpAnyH_take (i := 11) (oi := ?oi11M35) (v := ?v11M35) ?oi0_11M35 (by kernel_rfl) ?ff11M35 ?rr11M35 ?hq11M35 (Or.inl ⟨?hw11M35, ?hy11M35⟩) (by assumption) ?rest11M35
      case oi0_11M35 => conv => lhs; whnf; arg 1; whnf
      case hq11M35 => exact fun _ _ _ h => h
      case ff11M35 => kernel_rfl
      case rr11M35 => kernel_rfl
      case hw11M35 => rfl
      case hy11M35 => intro w hSw; (try dsimp only at hSw); first | (go_simp; done) | (go_simp; with_reducible rfl)
      try simp only [Act.put, List.setIfInBounds_toArray, List.set_cons_zero, List.set_cons_succ]
      refine wpAnyH_take (i := 12) (oi := ?oi12M35) (v := ?v12M35) ?oi0_12M35 (by kernel_rfl) ?ff12M35 ?rr12M35 ?hq12M35 (Or.inl ⟨?hw12M35, ?hy12M35⟩) (by assumption) ?rest12M35
      case oi0_12M35 => conv => lhs; whnf; arg 1; whnf
      case hq12M35 => exact fun _ _ _ h => h
      case ff12M35 => kernel_rfl
      case rr12M35 => kernel_rfl
      case hw12M35 => rfl
      case hy12M35 => intro w hSw; (try dsimp only at hSw); first | (go_simp; done) | (go_simp; with_reducible rfl)
      try simp only [Act.put, List.setIfInBounds_toArray, List.set_cons_zero, List.set_cons_succ]
      refine wpAnyH_take (i := 13) (oi := ?oi13M35) (v := ?v13M35) ?oi0_13M35 (by kernel_rfl) ?ff13M35 ?rr13M35 ?hq13M35 (Or.inl ⟨?hw13M35, ?hy13M35⟩) (by assumption) ?rest13M35
      case oi0_13M35 => conv => lhs; whnf; arg 1; whnf
      case hq13M35 => exact fun _ _ _ h => h
      case ff13M35 => kernel_rfl
      case rr13M35 => kernel_rfl
      case hw13M35 => rfl
      case hy13M35 => intro w hSw; (try dsimp only at hSw); first | (go_simp; done) | (go_simp; with_reducible rfl)
      try simp only [Act.put, List.setIfInBounds_toArray, List.set_cons_zero, List.set_cons_succ]
      refine wpAnyH_take (i := 14) (oi := ?oi14M35) (v := ?v14M35) ?oi0_14M35 (by kernel_rfl) ?ff14M35 ?rr14M35 ?hq14M35 (Or.inl ⟨?hw14M35, ?hy14M35⟩) (by assumption) ?rest14M35
      case oi0_14M35 => conv => lhs; whnf; arg 1; whnf
      case hq14M35 => exact fun _ _ _ h => h
      case ff14M35 => kernel_rfl
      case rr14M35 => kernel_rfl
      case hw14M35 => rfl
      case hy14M35 => intro w hSw; (try dsimp only at hSw); first | (go_simp; done) | (go_simp; with_reducible rfl)
      try simp only [Act.put, List.setIfInBounds_toArray, List.set_cons_zero, List.set_cons_succ]
      refine wpAnyH_take (i := 15) (oi := ?oi15M35) (v := ?v15M35) ?oi0_15M35 (by kernel_rfl) ?ff15M35 ?rr15M35 ?hq15M35 (Or.inl ⟨?hw15M35, ?hy15M35⟩) (by assumption) ?rest15M35
      case oi0_15M35 => conv => lhs; whnf; arg 1; whnf
      case hq15M35 => exact fun _ _ _ h => h
      case ff15M35 => kernel_rfl
      case rr15M35 => kernel_rfl
      case hw15M35 => rfl
      case hy15M35 => intro w hSw; (try dsimp only at hSw); first | (go_simp; done) | (go_simp; with_reducible rfl)
      try simp only [Act.put, List.setIfInBounds_toArray, List.set_cons_zero, List.set_cons_succ]
      refine wpAnyH_ready (rs := [7]) (by kernel_rfl) (by simp) (AllReadyH.cons (o := ?oiM36) ?oi0_M36 (fun K hK => ?_) AllReadyH.nil)
      case oi0_M36 => conv => lhs; whnf; arg 1; whnf
      go_simp
      refine HPE.out.mono ?_
      rintro e w' ⟨rfl, rfl⟩
      try simp only
      (try dsimp only)
      refine hK.out _ _ (by exact hHeld) (fun hHeld => ?_)
      clear hK K
      try simp only [Act.put, List.setIfInBounds_toArray, List.set_cons_zero, List.set_cons_succ]
      refine wpAnyH_take (i := 16) (oi := ?oi16M37) (v := ?v16M37) ?oi0_16M37 (by kernel_rfl) ?ff16M37 ?rr16M37 ?hq16M37 (Or.inl ⟨?hw16M37, ?hy16M37⟩) (by assumption) ?rest16M37
      case oi0_16M37 => conv => lhs; whnf; arg 1; whnf
      case hq16M37 => exact fun _ _ _ h => h
      case ff16M37 => kernel_rfl
      case rr16M37 => kernel_rfl
      case hw16M37 => rfl
      case hy16M37 => intro w hSw; (try dsimp only at hSw); first | (go_simp; done) | (go_simp; with_reducible rfl)
      try simp only [Act.put, List.setIfInBounds_toArray, List.set_cons_zero, List.set_cons_succ]
      refine wpAnyH_take (i := 17) (oi := ?oi17M37) (v := ?v17M37) ?oi0_17M37 (by kernel_rfl) ?ff17M37 ?rr17M37 ?hq17M37 (Or.inl ⟨?hw17M37, ?hy17M37⟩) (by assumption) ?rest17M37
      case oi0_17M37 => conv => lhs; whnf; arg 1; whnf
      case hq17M37 => exact fun _ _ _ h => h
      case ff17M37 => kernel_rfl
      case rr17M37 => kernel_rfl
      case hw17M37 => rfl
      case hy17M37 => intro w hSw; (try dsimp only at hSw); first | (go_simp; done) | (go_simp; with_reducible rfl)
      try simp only [Act.put, List.setIfInBounds_toArray, List.set_cons_zero, List.set_cons_succ]
      refine wpAnyH_take (i := 18) (oi := ?oi18M37) (v := ?v18M37) ?oi0_18M37 (by kernel_rfl) ?ff18M37 ?rr18M37 ?hq18M37 (Or.inl ⟨?hw18M37, ?hy18M37⟩) (by assumption) ?rest18M37
      case oi0_18M37 => conv => lhs; whnf; arg 1; whnf
      case hq18M37 => exact fun _ _ _ h => h
      case ff18M37 => kernel_rfl
      case rr18M37 => kernel_rfl
      case hw18M37 => rfl
      case hy18M37 => intro w hSw; (try dsimp only at hSw); first | (go_simp; done) | (go_simp; with_reducible rfl)
      try simp only [Act.put, List.setIfInBounds_toArray, List.set_cons_zero, List.set_cons_succ]
      refine wpAnyH_take (i := 19) (oi := ?oi19M37) (v := ?v19M37) ?oi0_19M37 (by kernel_rfl) ?ff19M37 ?rr19M37 ?hq19M37 (Or.inl ⟨?hw19M37, ?hy19M37⟩) (by assumption) ?rest19M37
      case oi0_19M37 => conv => lhs; whnf; arg 1; whnf
      case hq19M37 => exact fun _ _ _ h => h
      case ff19M37 => kernel_rfl
      case rr19M37 => kernel_rfl
      case hw19M37 => rfl
      case hy19M37 => intro w hSw; (try dsimp only at hSw); first | (go_simp; done) | (go_simp; with_reducible rfl)
      try simp only [Act.put, List.setIfInBounds_toArray, List.set_cons_zero, List.set_cons_succ]
      refine wpAnyH_take (i := 20) (oi := ?oi20M37) (v := ?v20M37) ?oi0_20M37 (by kernel_rfl) ?ff20M37 ?rr20M37 ?hq20M37 (Or.inl ⟨?hw20M37, ?hy20M37⟩) (by assumption) ?rest20M37
      case oi0_20M37 => conv => lhs; whnf; arg 1; whnf
      case hq20M37 => exact fun _ _ _ h => h
      case ff20M37 => kernel_rfl
      case rr20M37 => kernel_rfl
      case hw20M37 => rfl
      case hy20M37 => intro w hSw; (try dsimp only at hSw); first | (go_simp; done) | (go_simp; with_reducible rfl)
      try simp only [Act.put, List.setIfInBounds_toArray, List.set_cons_zero, List.set_cons_succ]
      refine wpAnyH_take (i := 21) (oi := ?oi21M37) (v := ?v21M37) ?oi0_21M37 (by kernel_rfl) ?ff21M37 ?rr21M37 ?hq21M37 (Or.inl ⟨?hw21M37, ?hy21M37⟩) (by assumption) ?rest21M37
      case oi0_21M37 => conv => lhs; whnf; arg 1; whnf
      case hq21M37 => exact fun _ _ _ h => h
      case ff21M37 => kernel_rfl
      case rr21M37 => kernel_rfl
      case hw21M37 => rfl
      case hy21M37 => intro w hSw; (try dsimp only at hSw); first | (go_simp; done) | (go_simp; with_reducible rfl)
      try simp only [Act.put, List.setIfInBounds_toArray, List.set_cons_zero, List.set_cons_succ]
      refine wpAnyH_take (i := 22) (oi := ?oi22M37) (v := ?v22M37) ?oi0_22M37 (by kernel_rfl) ?ff22M37 ?rr22M37 ?hq22M37 (Or.inl ⟨?hw22M37, ?hy22M37⟩) (by assumption) ?rest22M37
      case oi0_22M37 => conv => lhs; whnf; arg 1; whnf
      case hq22M37 => exact fun _ _ _ h => h
      case ff22M37 => kernel_rfl
      case rr22M37 => kernel_rfl
      case hw22M37 => rfl
      case hy22M37 => intro w hSw; (try dsimp only at hSw); first | (go_simp; done) | (go_simp; with_reducible rfl)
      try simp only [Act.put, List.setIfInBounds_toArray, List.set_cons_zero, List.set_cons_succ]
      refine wpAnyH_take (i := 23) (oi := ?oi23M37) (v := ?v23M37) ?oi0_23M37 (by kernel_rfl) ?ff23M37 ?rr23M37 ?hq23M37 (Or.inl ⟨?hw23M37, ?hy23M37⟩) (by assumption) ?rest23M37
      case oi0_23M37 => conv => lhs; whnf; arg 1; whnf
      case hq23M37 => exact fun _ _ _ h => h
      case ff23M37 => kernel_rfl
      case rr23M37 => kernel_rfl
      case hw23M37 => rfl
      case hy23M37 => intro w hSw; (try dsimp only at hSw); first | (go_simp; done) | (go_simp; with_reducible rfl)
      try simp only [Act.put, List.setIfInBounds_toArray, List.set_cons_zero, List.set_cons_succ]
      refine wpAnyH_take (i := 24) (oi := ?oi24M37) (v := ?v24M37) ?oi0_24M37 (by kernel_rfl) ?ff24M37 ?rr24M37 ?hq24M37 (Or.inl ⟨?hw24M37, ?hy24M37⟩) (by assumption) ?rest24M37
      case oi0_24M37 => conv => lhs; whnf; arg 1; whnf
      case hq24M37 => exact fun _ _ _ h => h
      case ff24M37 => kernel_rfl
      case rr24M37 => kernel_rfl
      case hw24M37 => rfl
      case hy24M37 => intro w hSw; (try dsimp only at hSw); first | (go_simp; done) | (go_simp; with_reducible rfl)
      try simp only [Act.put, List.setIfInBounds_toArray, List.set_cons_zero, List.set_cons_succ]
      refine wpAnyH_take (i := 25) (oi := ?oi25M37) (v := ?v25M37) ?oi0_25M37 (by kernel_rfl) ?ff25M37 ?rr25M37 ?hq25M37 (Or.inl ⟨?hw25M37, ?hy25M37⟩) (by assumption) ?rest25M37
      case oi0_25M37 => conv => lhs; whnf; arg 1; whnf
      case hq25M37 => exact fun _ _ _ h => h
      case ff25M37 => kernel_rfl
      case rr25M37 => kernel_rfl
      case hw25M37 => rfl
      case hy25M37 => intro w hSw; (try dsimp only at hSw); first | (go_simp; done) | (go_simp; with_reducible rfl)
      try simp only [Act.put, List.setIfInBounds_toArray, List.set_cons_zero, List.set_cons_succ]
      refine wpAnyH_take (i := 26) (oi := ?oi26M37) (v := ?v26M37) ?oi0_26M37 (by kernel_rfl) ?ff26M37 ?rr26M37 ?hq26M37 (Or.inl ⟨?hw26M37, ?hy26M37⟩) (by assumption) ?rest26M37
      case oi0_26M37 => conv => lhs; whnf; arg 1; whnf
      case hq26M37 => exact fun _ _ _ h => h
      case ff26M37 => kernel_rfl
      case rr26M37 => kernel_rfl
      case hw26M37 => rfl
      case hy26M37 => intro w hSw; (try dsimp only at hSw); first | (go_simp; done) | (go_simp; with_reducible rfl)
      try simp only [Act.put, List.setIfInBounds_toArray, List.set_cons_zero, List.set_cons_succ]
      refine wpAnyH_take (i := 27) (oi := ?oi27M37) (v := ?v27M37) ?oi0_27M37 (by kernel_rfl) ?ff27M37 ?rr27M37 ?hq27M37 (Or.inl ⟨?hw27M37, ?hy27M37⟩) (by assumption) ?rest27M37
      case oi0_27M37 => conv => lhs; whnf; arg 1; whnf
      case hq27M37 => exact fun _ _ _ h => h
      case ff27M37 => kernel_rfl
      case rr27M37 => kernel_rfl
      case hw27M37 => rfl
      case hy27M37 => intro w hSw; (try dsimp only at hSw); first | (go_simp; done) | (go_simp; with_reducible rfl)
      try simp only [Act.put, List.setIfInBounds_toArray, List.set_cons_zero, List.set_cons_succ]
      refine wpAnyH_take (i := 28) (oi := ?oi28M37) (v := ?v28M37) ?oi0_28M37 (by kernel_rfl) ?ff28M37 ?rr28M37 ?hq28M37 (Or.inl ⟨?hw28M37, ?hy28M37⟩) (by assumption) ?rest28M37
      case oi0_28M37 => conv => lhs; whnf; arg 1; whnf
      case hq28M37 => exact fun _ _ _ h => h
      case ff28M37 => kernel_rfl
      case rr28M37 => kernel_rfl
      case hw28M37 => rfl
      case hy28M37 => intro w hSw; (try dsimp only at hSw); first | (go_simp; done) | (go_simp; with_reducible rfl)
      try simp only [Act.put, List.setIfInBounds_toArray, List.set_cons_zero, List.set_cons_succ]
      refine wpAnyH_take (i := 29) (oi := ?oi29M37) (v := ?v29M37) ?oi0_29M37 (by kernel_rfl) ?ff29M37 ?rr29M37 ?hq29M37 (Or.inl ⟨?hw29M37, ?hy29M37⟩) (by assumption) ?rest29M37
      case oi0_29M37 => conv => lhs; whnf; arg 1; whnf
      case hq29M37 => exact fun _ _ _ h => h
      case ff29M37 => kernel_rfl
      case rr29M37 => kernel_rfl
      case hw29M37 => rfl
      case hy29M37 => intro w hSw; (try dsimp only at hSw); first | (go_simp; done) | (go_simp; with_reducible rfl)
      try simp only [Act.put, List.setIfInBounds_toArray, List.set_cons_zero, List.set_cons_succ]
      refine wpAnyH_take (i := 30) (oi := ?oi30M37) (v := ?v30M37) ?oi0_30M37 (by kernel_rfl) ?ff30M37 ?rr30M37 ?hq30M37 (Or.inl ⟨?hw30M37, ?hy30M37⟩) (by assumption) ?rest30M37
      case oi0_30M37 => conv => lhs; whnf; arg 1; whnf
      case hq30M37 => exact fun _ _ _ h => h
      case ff30M37 => kernel_rfl
      case rr30M37 => kernel_rfl
      case hw30M37 => rfl
      case hy30M37 => intro w hSw; (try dsimp only at hSw); first | (go_simp; done) | (go_simp; with_reducible rfl)
      try simp only [Act.put, List.setIfInBounds_toArray, List.set_cons_zero, List.set_cons_succ]
      refine wpAnyH_take (i := 31) (oi := ?oi31M37) (v := ?v31M37) ?oi0_31M37 (by kernel_rfl) ?ff31M37 ?rr31M37 ?hq31M37 (Or.inl ⟨?hw31M37, ?hy31M37⟩) (by assumption) ?rest31M37
      case oi0_31M37 => conv => lhs; whnf; arg 1; whnf
      case hq31M37 => exact fun _ _ _ h => h
      case ff31M37 => kernel_rfl
      case rr31M37 => kernel_rfl
      case hw31M37 => rfl
      case hy31M37 => intro w hSw; (try dsimp only at hSw); first | (go_simp; done) | (go_simp; with_reducible rfl)
      try simp only [Act.put, List.setIfInBounds_toArray, List.set_cons_zero, List.set_cons_succ]
      refine wpAnyH_take (i := 33) (oi := ?oi33M38) (v := ?v33M38) ?oi0_33M38 (by kernel_rfl) ?ff33M38 ?rr33M38 ?hq33M38 (Or.inl ⟨?hw33M38, ?hy33M38⟩) (by assumption) ?rest33M38
      case oi0_33M38 => conv => lhs; whnf; arg 1; whnf
      case hq33M38 => exact fun _ _ _ h => h
      case ff33M38 => kernel_rfl
      case rr33M38 => kernel_rfl
      case hw33M38 => rfl
      case hy33M38 => intro w hSw; (try dsimp only at hSw); first | (go_simp; done) | (go_simp; with_reducible rfl)
      try simp only [Act.put, List.setIfInBounds_toArray, List.set_cons_zero, List.set_cons_succ]
      refine wpAnyH_take (i := 34) (oi := ?oi34M38) (v := ?v34M38) ?oi0_34M38 (by kernel_rfl) ?ff34M38 ?rr34M38 ?hq34M38 (Or.inl ⟨?hw34M38, ?hy34M38⟩) (by assumption) ?rest34M38
      case oi0_34M38 => conv => lhs; whnf; arg 1; whnf
      case hq34M38 => exact fun _ _ _ h => h
      case ff34M38 => kernel_rfl
      case rr34M38 => kernel_rfl
      case hw34M38 => rfl
      case hy34M38 => intro w hSw; (try dsimp only at hSw); first | (go_simp; done) | (go_simp; with_reducible rfl)
      try simp only [Act.put, List.setIfInBounds_toArray, List.set_cons_zero, List.set_cons_succ]
      refine wpAnyH_take (i := 35) (oi := ?oi35M38) (v := ?v35M38) ?oi0_35M38 (by kernel_rfl) ?ff35M38 ?rr35M38 ?hq35M38 (Or.inl ⟨?hw35M38, ?hy35M38⟩) (by assumption) ?rest35M38
      case oi0_35M38 => conv => lhs; whnf; arg 1; whnf
      case hq35M38 => exact fun _ _ _ h => h
      case ff35M38 => kernel_rfl
      case rr35M38 => kernel_rfl
      case hw35M38 => rfl
      case hy35M38 => intro w hSw; (try dsimp only at hSw); first | (go_simp; done) | (go_simp; with_reducible rfl)
      try simp only [Act.put, List.setIfInBounds_toArray, List.set_cons_zero, List.set_cons_succ]
      refine wpAnyH_take (i := 36) (oi := ?oi36M38) (v := ?v36M38) ?oi0_36M38 (by kernel_rfl) ?ff36M38 ?rr36M38 ?hq36M38 (Or.inl ⟨?hw36M38, ?hy36M38⟩) (by assumption) ?rest36M38
      case oi0_36M38 => conv => lhs; whnf; arg 1; whnf
      case hq36M38 => exact fun _ _ _ h => h
      case ff36M38 => kernel_rfl
      case rr36M38 => kernel_rfl
      case hw36M38 => rfl
      case hy36M38 => intro w hSw; (try dsimp only at hSw); first | (go_simp; done) | (go_simp; with_reducible rfl)
      try simp only [Act.put, List.setIfInBounds_toArray, List.set_cons_zero, List.set_cons_succ]
      refine wpAnyH_ready (rs := [32]) (by kernel_rfl) (by simp) (AllReadyH.cons (o := ?oiM39) ?oi0_M39 (fun K hK => ?_) AllReadyH.nil)
      case oi0_M39 => conv => lhs; whnf; arg 1; whnf
      go_simp
      refine (pj_content HP4.out HOF.out).mono ?_
      rintro e w' ⟨rfl, rfl⟩
      try simp only
      (try dsimp only)
      refine hK.out _ _ (by exact hHeld) (fun hHeld => ?_)
      clear hK K
      try simp only [Act.put, List.setIfInBounds_toArray, List.set_cons_zero, List.set_cons_succ]
      refine wpAnyH_ready (rs := [37]) (by kernel_rfl) (by simp) (AllReadyH.cons (o := ?oiM40) ?oi0_M40 (fun K hK => ?_) AllReadyH.nil)
      case oi0_M40 => conv => lhs; whnf; arg 1; whnf
      go_simp
      refine (pj_visible HP4.out (HI3.out.1.mono (by omega))).mono ?_
      rintro e w5 ⟨vb, vc, vr, rfl, hvb, u⟩
      try simp only
      have hn1 := keepc _ _ _ _ u hm1
      have hn2 := keepc _ _ _ _ u hm2
      clear hm1 hm2
      obtain ⟨vl, hvl⟩ : ∃ y, D'.vis.length = y := ⟨_, rfl⟩
      rw [hvl]
      have hcv := run_conv_row hvb 39 5 9 Tryz.underlying39 Tryz.underlying5 Tryz.underlying9 0 vl vc (by omega)
      rw [show (D'.vis.drop 0).take vl = D'.vis by rw [List.drop_zero, List.take_of_length_le (by omega)]] at hcv
      obtain ⟨vz, hvz⟩ : ∃ y : ByteArray, (⟨D'.vis.toArray⟩ : ByteArray) = y := ⟨_, rfl⟩
      rw [hvz] at hcv ⊢
      clear hvb hvl hvz
      have HW5 := hide (show WBlk w5 wb g x (jptr P') (jptr R') from keepB HW4.out u)
      have HP5 := hide (HP4.out.step u (by simp))
      clear u HW4 HP4
      have hc2 : w5.cell? ⟨wb, 0, none⟩ = some (.pointer (some ⟨g, 0, none⟩)) ∧ w5.cell? ⟨wb, 2, none⟩ = some (.pointer (some ⟨x, 0, none⟩)) ∧ w5.cell? ⟨x, 1, none⟩ = some (.slice LA pn lc) ∧ w5.cell? ⟨x, 2, none⟩ = some (.bool false) := ⟨HW5.out.cell 0, HW5.out.cell 2, hn1, hn2⟩
      (try dsimp only)
      refine hK.out _ _ (by exact hc2) (fun hHeld => ?_)
      clear hK K hc2
      try simp only [Act.put, List.setIfInBounds_toArray, List.set_cons_zero, List.set_cons_succ]
      have hvv : ¬ (vz.toList != vz.toList) = true := by simp
      refine wpAnyH_narrow (S' := (fun w' => (w'.cell? ⟨wb, 0, none⟩ = some (.pointer (some ⟨g, 0, none⟩)) ∧ w'.cell? ⟨wb, 2, none⟩ = some (.pointer (some ⟨x, 0, none⟩)) ∧ w'.cell? ⟨x, 1, none⟩ = some (.slice LA pn lc) ∧ w'.cell? ⟨x, 2, none⟩ = some (.bool false)) ∧ (convert 39 9 (.slice (some ⟨vb, 0, none⟩) vl vc)).run Tryz.prog w' = .ok (.string vz) w')) (fun _ h => h.1) ?_
      have hH2 : (fun w' => (w'.cell? ⟨wb, 0, none⟩ = some (.pointer (some ⟨g, 0, none⟩)) ∧ w'.cell? ⟨wb, 2, none⟩ = some (.pointer (some ⟨x, 0, none⟩)) ∧ w'.cell? ⟨x, 1, none⟩ = some (.slice LA pn lc) ∧ w'.cell? ⟨x, 2, none⟩ = some (.bool false)) ∧ (convert 39 9 (.slice (some ⟨vb, 0, none⟩) vl vc)).run Tryz.prog w' = .ok (.string vz) w') w5 := ⟨hHeld, hcv⟩
      refine wpAnyH_take (i := 38) (oi := ?oi38M41) (v := ?v38M41) ?oi0_38M41 (by kernel_rfl) ?ff38M41 ?rr38M41 ?hq38M41 (Or.inl ⟨?hw38M41, ?hy38M41⟩) (by assumption) ?rest38M41
      case oi0_38M41 => conv => lhs; whnf; arg 1; whnf
      case hq38M41 => exact fun _ _ _ h => h
      case ff38M41 => kernel_rfl
      case rr38M41 => kernel_rfl
      case hw38M41 => rfl
      case hy38M41 => intro w hSw; (try dsimp only at hSw); first | (go_simp; done) | (go_simp; with_reducible rfl)
      try simp only [Act.put, List.setIfInBounds_toArray, List.set_cons_zero, List.set_cons_succ]
      refine wpAnyH_take (i := 39) (oi := ?oi39M41) (v := ?v39M41) ?oi0_39M41 (by kernel_rfl) ?ff39M41 ?rr39M41 ?hq39M41 (Or.inl ⟨?hw39M41, ?hy39M41⟩) (by assumption) ?rest39M41
      case oi0_39M41 => conv => lhs; whnf; arg 1; whnf
      case hq39M41 => exact fun _ _ _ h => h
      case ff39M41 => kernel_rfl
      case rr39M41 => kernel_rfl
      case hw39M41 => rfl
      case hy39M41 => intro w hSw; (try dsimp only at hSw); first | (go_simp; done) | (go_simp; with_reducible rfl)
      try simp only [Act.put, List.setIfInBounds_toArray, List.set_cons_zero, List.set_cons_succ]
      refine wpAnyH_take (i := 40) (oi := ?oi40M41) (v := ?v40M41) ?oi0_40M41 (by kernel_rfl) ?ff40M41 ?rr40M41 ?hq40M41 (Or.inl ⟨?hw40M41, ?hy40M41⟩) (by assumption) ?rest40M41
      case oi0_40M41 => conv => lhs; whnf; arg 1; whnf
      case hq40M41 => exact fun _ _ _ h => h
      case ff40M41 => kernel_rfl
      case rr40M41 => kernel_rfl
      case hw40M41 => rfl
      case hy40M41 => intro w hSw; (try dsimp only at hSw); first | (go_simp; done) | (go_simp; with_reducible rfl)
      try simp only [Act.put, List.setIfInBounds_toArray, List.set_cons_zero, List.set_cons_succ]
      refine wpAnyH_take (i := 41) (oi := ?oi41M41) (v := ?v41M41) ?oi0_41M41 (by kernel_rfl) ?ff41M41 ?rr41M41 ?hq41M41 (Or.inl ⟨?hw41M41, ?hy41M41⟩) (by assumption) ?rest41M41
      case oi0_41M41 => conv => lhs; whnf; arg 1; whnf
      case hq41M41 => exact fun _ _ _ h => h
      case ff41M41 => kernel_rfl
      case rr41M41 => kernel_rfl
      case hw41M41 => rfl
      case hy41M41 => intro w hSw; (try dsimp only at hSw); first | (go_simp; done) | (go_simp; with_reducible rfl)
      try simp only [Act.put, List.setIfInBounds_toArray, List.set_cons_zero, List.set_cons_succ]
      refine wpAnyH_done (by kernel_rfl) ?_ _
      clear hHeld hH2 hn1 hn2 hcv
      go_upto_region 11 with fail
      rcases HI3.out.2 with ⟨rfl, rfl⟩ | ⟨jb, xb, T, br, rfl, rfl, hT, hts⟩
      case inl =>
        refine wp_region_held_drew (S := (fun w' => w'.cell? ⟨wb, 1, none⟩ = some (.pointer none))) (by kernel_rfl) (by exact HW5.out.cell 1) (fun hHeld => ?_)
        obtain ⟨w8, hw⟩ : ∃ y, w5.drew = y := ⟨_, rfl⟩
        have u : Upd [] w5 w8 := by rw [← hw]; exact (Upd.refl [] _).drew
        rw [hw] at hHeld ⊢
        clear hw
        have HW8 := hide (show WBlk w8 wb g x (jptr none) (jptr none) from keepB HW5.out u)
        have HP8 := hide (HP5.out.step u (by simp))
        clear u HW5 HP5
        refine wpAnyH_take (i := 0) (oi := ?oi0M44) (v := ?v0M44) ?oi0_0M44 (by kernel_rfl) ?ff0M44 ?rr0M44 ?hq0M44 (Or.inl ⟨?hw0M44, ?hy0M44⟩) (by assumption) ?rest0M44
        case oi0_0M44 => conv => lhs; whnf; arg 1; whnf
        case hq0M44 => exact fun _ _ _ h => h
        case ff0M44 => kernel_rfl
        case rr0M44 => kernel_rfl
        case hw0M44 => rfl
        case hy0M44 => intro w hSw; (try dsimp only at hSw); first | (go_simp; done) | (go_simp; with_reducible rfl)
        try simp only [Act.put, List.setIfInBounds_toArray, List.set_cons_zero, List.set_cons_succ]
        refine wpAnyH_take (i := 1) (oi := ?oi1M44) (v := ?v1M44) ?oi0_1M44 (by kernel_rfl) ?ff1M44 ?rr1M44 ?hq1M44 (Or.inl ⟨?hw1M44, ?hy1M44⟩) (by assumption) ?rest1M44
        case oi0_1M44 => conv => lhs; whnf; arg 1; whnf
        case hq1M44 => exact fun _ _ _ h => h
        case ff1M44 => kernel_rfl
        case rr1M44 => kernel_rfl
        case hw1M44 => rfl
        case hy1M44 => intro w hSw; (try dsimp only at hSw); first | (go_simp; done) | (go_simp; with_reducible rfl)
        try simp only [Act.put, List.setIfInBounds_toArray, List.set_cons_zero, List.set_cons_succ]
        refine wpAnyH_take (i := 2) (oi := ?oi2M44) (v := ?v2M44) ?oi0_2M44 (by kernel_rfl) ?ff2M44 ?rr2M44 ?hq2M44 (Or.inl ⟨?hw2M44, ?hy2M44⟩) (by assumption) ?rest2M44
        case oi0_2M44 => conv => lhs; whnf; arg 1; whnf
        case hq2M44 => exact fun _ _ _ h => h
        case ff2M44 => kernel_rfl
        case rr2M44 => kernel_rfl
        case hw2M44 => rfl
        case hy2M44 => intro w hSw; (try dsimp only at hSw); first | (go_simp; done) | (go_simp; with_reducible rfl)
        try simp only [Act.put, List.setIfInBounds_toArray, List.set_cons_zero, List.set_cons_succ]
        refine wpAnyH_take (i := 3) (oi := ?oi3M44) (v := ?v3M44) ?oi0_3M44 (by kernel_rfl) ?ff3M44 ?rr3M44 ?hq3M44 (Or.inl ⟨?hw3M44, ?hy3M44⟩) (by assumption) ?rest3M44
        case oi0_3M44 => conv => lhs; whnf; arg 1; whnf
        case hq3M44 => exact fun _ _ _ h => h
        case ff3M44 => kernel_rfl
        case rr3M44 => kernel_rfl
        case hw3M44 => rfl
        case hy3M44 => intro w hSw; (try dsimp only at hSw); first | (go_simp; done) | (go_simp; with_reducible rfl)
        try simp only [Act.put, List.setIfInBounds_toArray, List.set_cons_zero, List.set_cons_succ]
        refine wpAnyH_take (i := 4) (oi := ?oi4M44) (v := ?v4M44) ?oi0_4M44 (by kernel_rfl) ?ff4M44 ?rr4M44 ?hq4M44 (Or.inl ⟨?hw4M44, ?hy4M44⟩) (by assumption) ?rest4M44
        case oi0_4M44 => conv => lhs; whnf; arg 1; whnf
        case hq4M44 => exact fun _ _ _ h => h
        case ff4M44 => kernel_rfl
        case rr4M44 => kernel_rfl
        case hw4M44 => rfl
        case hy4M44 => intro w hSw; (try dsimp only at hSw); first | (go_simp; done) | (go_simp; with_reducible rfl)
        try simp only [Act.put, List.setIfInBounds_toArray, List.set_cons_zero, List.set_cons_succ]
        refine wpAnyH_take (i := 5) (oi := ?oi5M44) (v := ?v5M44) ?oi0_5M44 (by kernel_rfl) ?ff5M44 ?rr5M44 ?hq5M44 (Or.inl ⟨?hw5M44, ?hy5M44⟩) (by assumption) ?rest5M44
        case oi0_5M44 => conv => lhs; whnf; arg 1; whnf
        case hq5M44 => exact fun _ _ _ h => h
        case ff5M44 => kernel_rfl
        case rr5M44 => kernel_rfl
        case hw5M44 => rfl
        case hy5M44 => intro w hSw; (try dsimp only at hSw); first | (go_simp; done) | (go_simp; with_reducible rfl)
        try simp only [Act.put, List.setIfInBounds_toArray, List.set_cons_zero, List.set_cons_succ]
        refine wpAnyH_take (i := 6) (oi := ?oi6M45) (v := undef) ?oi0_6M45 (by kernel_rfl) ?ff6M45 ?rr6M45 ?hq6M45 (Or.inr ⟨?hw6M45, rfl⟩) (by assumption) ?rest6M45
        case oi0_6M45 => conv => lhs; whnf; arg 1; whnf
        case hq6M45 => exact fun _ _ _ h => h
        case ff6M45 => kernel_rfl
        case rr6M45 => kernel_rfl
        case hw6M45 => rfl
        try simp only [Act.put, List.setIfInBounds_toArray, List.set_cons_zero, List.set_cons_succ]
        refine wpAnyH_take (i := 7) (oi := ?oi7M45) (v := undef) ?oi0_7M45 (by kernel_rfl) ?ff7M45 ?rr7M45 ?hq7M45 (Or.inr ⟨?hw7M45, rfl⟩) (by assumption) ?rest7M45
        case oi0_7M45 => conv => lhs; whnf; arg 1; whnf
        case hq7M45 => exact fun _ _ _ h => h
        case ff7M45 => kernel_rfl
        case rr7M45 => kernel_rfl
        case hw7M45 => rfl
        try simp only [Act.put, List.setIfInBounds_toArray, List.set_cons_zero, List.set_cons_succ]
        refine wpAnyH_take (i := 8) (oi := ?oi8M45) (v := undef) ?oi0_8M45 (by kernel_rfl) ?ff8M45 ?rr8M45 ?hq8M45 (Or.inr ⟨?hw8M45, rfl⟩) (by assumption) ?rest8M45
        case oi0_8M45 => conv => lhs; whnf; arg 1; whnf
        case hq8M45 => exact fun _ _ _ h => h
        case ff8M45 => kernel_rfl
        case rr8M45 => kernel_rfl
        case hw8M45 => rfl
        try simp only [Act.put, List.setIfInBounds_toArray, List.set_cons_zero, List.set_cons_succ]
        refine wpAnyH_take (i := 9) (oi := ?oi9M45) (v := undef) ?oi0_9M45 (by kernel_rfl) ?ff9M45 ?rr9M45 ?hq9M45 (Or.inr ⟨?hw9M45, rfl⟩) (by assumption) ?rest9M45
        case oi0_9M45 => conv => lhs; whnf; arg 1; whnf
        case hq9M45 => exact fun _ _ _ h => h
        case ff9M45 => kernel_rfl
        case rr9M45 => kernel_rfl
        case hw9M45 => rfl
        try simp only [Act.put, List.setIfInBounds_toArray, List.set_cons_zero, List.set_cons_succ]
        refine wpAnyH_take (i := 11) (oi := ?oi11M45) (v := undef) ?oi0_11M45 (by kernel_rfl) ?ff11M45 ?rr11M45 ?hq11M45 (Or.inr ⟨?hw11M45, rfl⟩) (by assumption) ?rest11M45
        case oi0_11M45 => conv => lhs; whnf; arg 1; whnf
        case hq11M45 => exact fun _ _ _ h => h
        case ff11M45 => kernel_rfl
        case rr11M45 => kernel_rfl
        case hw11M45 => rfl
        try simp only [Act.put, List.setIfInBounds_toArray, List.set_cons_zero, List.set_cons_succ]
        refine wpAnyH_take (i := 12) (oi := ?oi12M45) (v := undef) ?oi0_12M45 (by kernel_rfl) ?ff12M45 ?rr12M45 ?hq12M45 (Or.inr ⟨?hw12M45, rfl⟩) (by assumption) ?rest12M45
        case oi0_12M45 => conv => lhs; whnf; arg 1; whnf
        case hq12M45 => exact fun _ _ _ h => h
        case ff12M45 => kernel_rfl
        case rr12M45 => kernel_rfl
        case hw12M45 => rfl
        try simp only [Act.put, List.setIfInBounds_toArray, List.set_cons_zero, List.set_cons_succ]
        refine wpAnyH_take (i := 13) (oi := ?oi13M45) (v := undef) ?oi0_13M45 (by kernel_rfl) ?ff13M45 ?rr13M45 ?hq13M45 (Or.inr ⟨?hw13M45, rfl⟩) (by assumption) ?rest13M45
        case oi0_13M45 => conv => lhs; whnf; arg 1; whnf
        case hq13M45 => exact fun _ _ _ h => h
        case ff13M45 => kernel_rfl
        case rr13M45 => kernel_rfl
        case hw13M45 => rfl
        try simp only [Act.put, List.setIfInBounds_toArray, List.set_cons_zero, List.set_cons_succ]
        refine wpAnyH_take (i := 14) (oi := ?oi14M45) (v := undef) ?oi0_14M45 (by kernel_rfl) ?ff14M45 ?rr14M45 ?hq14M45 (Or.inr ⟨?hw14M45, rfl⟩) (by assumption) ?rest14M45
        case oi0_14M45 => conv => lhs; whnf; arg 1; whnf
        case hq14M45 => exact fun _ _ _ h => h
        case ff14M45 => kernel_rfl
        case rr14M45 => kernel_rfl
        case hw14M45 => rfl
        try simp only [Act.put, List.setIfInBounds_toArray, List.set_cons_zero, List.set_cons_succ]
        refine wpAnyH_take (i := 15) (oi := ?oi15M45) (v := undef) ?oi0_15M45 (by kernel_rfl) ?ff15M45 ?rr15M45 ?hq15M45 (Or.inr ⟨?hw15M45, rfl⟩) (by assumption) ?rest15M45
        case oi0_15M45 => conv => lhs; whnf; arg 1; whnf
        case hq15M45 => exact fun _ _ _ h => h
        case ff15M45 => kernel_rfl
        case rr15M45 => kernel_rfl
        case hw15M45 => rfl
        try simp only [Act.put, List.setIfInBounds_toArray, List.set_cons_zero, List.set_cons_succ]
        refine wpAnyH_take (i := 16) (oi := ?oi16M45) (v := undef) ?oi0_16M45 (by kernel_rfl) ?ff16M45 ?rr16M45 ?hq16M45 (Or.inr ⟨?hw16M45, rfl⟩) (by assumption) ?rest16M45
        case oi0_16M45 => conv => lhs; whnf; arg 1; whnf
        case hq16M45 => exact fun _ _ _ h => h
        case ff16M45 => kernel_rfl
        case rr16M45 => kernel_rfl
        case hw16M45 => rfl
        try simp only [Act.put, List.setIfInBounds_toArray, List.set_cons_zero, List.set_cons_succ]
        refine wpAnyH_take (i := 17) (oi := ?oi17M45) (v := undef) ?oi0_17M45 (by kernel_rfl) ?ff17M45 ?rr17M45 ?hq17M45 (Or.inr ⟨?hw17M45, rfl⟩) (by assumption) ?rest17M45
        case oi0_17M45 => conv => lhs; whnf; arg 1; whnf
        case hq17M45 => exact fun _ _ _ h => h
        case ff17M45 => kernel_rfl
        case rr17M45 => kernel_rfl
        case hw17M45 => rfl
        try simp only [Act.put, List.setIfInBounds_toArray, List.set_cons_zero, List.set_cons_succ]
        refine wpAnyH_ready (rs := [10]) (by kernel_rfl) (by simp) (AllReadyH.cons (o := ?oi10M46) ?oi0_10M46 (fun K hK => ?_) AllReadyH.nil)
        case oi0_10M46 => conv => lhs; whnf; arg 1; whnf
        rw [if_neg (by first | (simp [Region.wanted, yielded]; done) | (simp [Region.wanted, yielded]; exact fun h => nomatch (show (none : Option Bool) = some true from h)) | (simp [Region.wanted, yielded]; exact fun h => nomatch (show (none : Option Bool) = some false from h)))]
        refine hK.out _ _ (by assumption) (fun _ => ?_)
        clear hK K
        try simp only [Act.put, List.setIfInBounds_toArray, List.set_cons_zero, List.set_cons_succ]
        refine wpAnyH_ready (rs := [18]) (by kernel_rfl) (by simp) (AllReadyH.cons (o := ?oi18M47) ?oi0_18M47 (fun K hK => ?_) AllReadyH.nil)
        case oi0_18M47 => conv => lhs; whnf; arg 1; whnf
        rw [if_neg (by first | (simp [Region.wanted, yielded]; done) | (simp [Region.wanted, yielded]; exact fun h => nomatch (show (none : Option Bool) = some true from h)) | (simp [Region.wanted, yielded]; exact fun h => nomatch (show (none : Option Bool) = some false from h)))]
        refine hK.out _ _ (by assumption) (fun _ => ?_)
        clear hK K
        try simp only [Act.put, List.setIfInBounds_toArray, List.set_cons_zero, List.set_cons_succ]
        refine wpAnyH_take (i := 19) (oi := ?oi19M48) (v := undef) ?oi0_19M48 (by kernel_rfl) ?ff19M48 ?rr19M48 ?hq19M48 (Or.inr ⟨?hw19M48, rfl⟩) (by assumption) ?rest19M48
        case oi0_19M48 => conv => lhs; whnf; arg 1; whnf
        case hq19M48 => exact fun _ _ _ h => h
        case ff19M48 => kernel_rfl
        case rr19M48 => kernel_rfl
        case hw19M48 => rfl
        try simp only [Act.put, List.setIfInBounds_toArray, List.set_cons_zero, List.set_cons_succ]
        refine wpAnyH_take (i := 20) (oi := ?oi20M48) (v := undef) ?oi0_20M48 (by kernel_rfl) ?ff20M48 ?rr20M48 ?hq20M48 (Or.inr ⟨?hw20M48, rfl⟩) (by assumption) ?rest20M48
        case oi0_20M48 => conv => lhs; whnf; arg 1; whnf
        case hq20M48 => exact fun _ _ _ h => h
        case ff20M48 => kernel_rfl
        case rr20M48 => kernel_rfl
        case hw20M48 => rfl
        try simp only [Act.put, List.setIfInBounds_toArray, List.set_cons_zero, List.set_cons_succ]
        refine wpAnyH_take (i := 21) (oi := ?oi21M48) (v := undef) ?oi0_21M48 (by kernel_rfl) ?ff21M48 ?rr21M48 ?hq21M48 (Or.inr ⟨?hw21M48, rfl⟩) (by assumption) ?rest21M48
        case oi0_21M48 => conv => lhs; whnf; arg 1; whnf
        case hq21M48 => exact fun _ _ _ h => h
        case ff21M48 => kernel_rfl
        case rr21M48 => kernel_rfl
        case hw21M48 => rfl
        try simp only [Act.put, List.setIfInBounds_toArray, List.set_cons_zero, List.set_cons_succ]
        refine wpAnyH_take (i := 22) (oi := ?oi22M48) (v := undef) ?oi0_22M48 (by kernel_rfl) ?ff22M48 ?rr22M48 ?hq22M48 (Or.inr ⟨?hw22M48, rfl⟩) (by assumption) ?rest22M48
        case oi0_22M48 => conv => lhs; whnf; arg 1; whnf
        case hq22M48 => exact fun _ _ _ h => h
        case ff22M48 => kernel_rfl
        case rr22M48 => kernel_rfl
        case hw22M48 => rfl
        try simp only [Act.put, List.setIfInBounds_toArray, List.set_cons_zero, List.set_cons_succ]
        refine wpAnyH_take (i := 23) (oi := ?oi23M48) (v := undef) ?oi0_23M48 (by kernel_rfl) ?ff23M48 ?rr23M48 ?hq23M48 (Or.inr ⟨?hw23M48, rfl⟩) (by assumption) ?rest23M48
        case oi0_23M48 => conv => lhs; whnf; arg 1; whnf
        case hq23M48 => exact fun _ _ _ h => h
        case ff23M48 => kernel_rfl
        case rr23M48 => kernel_rfl
        case hw23M48 => rfl
        try simp only [Act.put, List.setIfInBounds_toArray, List.set_cons_zero, List.set_cons_succ]
        refine wpAnyH_take (i := 24) (oi := ?oi24M48) (v := undef) ?oi0_24M48 (by kernel_rfl) ?ff24M48 ?rr24M48 ?hq24M48 (Or.inr ⟨?hw24M48, rfl⟩) (by assumption) ?rest24M48
        case oi0_24M48 => conv => lhs; whnf; arg 1; whnf
        case hq24M48 => exact fun _ _ _ h => h
        case ff24M48 => kernel_rfl
        case rr24M48 => kernel_rfl
        case hw24M48 => rfl
        try simp only [Act.put, List.setIfInBounds_toArray, List.set_cons_zero, List.set_cons_succ]
        refine wpAnyH_take (i := 26) (oi := ?oi26M48) (v := undef) ?oi0_26M48 (by kernel_rfl) ?ff26M48 ?rr26M48 ?hq26M48 (Or.inr ⟨?hw26M48, rfl⟩) (by assumption) ?rest26M48
        case oi0_26M48 => conv => lhs; whnf; arg 1; whnf
        case hq26M48 => exact fun _ _ _ h => h
        case ff26M48 => kernel_rfl
        case rr26M48 => kernel_rfl
        case hw26M48 => rfl
        try simp only [Act.put, List.setIfInBounds_toArray, List.set_cons_zero, List.set_cons_succ]
        refine wpAnyH_take (i := 27) (oi := ?oi27M48) (v := undef) ?oi0_27M48 (by kernel_rfl) ?ff27M48 ?rr27M48 ?hq27M48 (Or.inr ⟨?hw27M48, rfl⟩) (by assumption) ?rest27M48
        case oi0_27M48 => conv => lhs; whnf; arg 1; whnf
        case hq27M48 => exact fun _ _ _ h => h
        case ff27M48 => kernel_rfl
        case rr27M48 => kernel_rfl
        case hw27M48 => rfl
        try simp only [Act.put, List.setIfInBounds_toArray, List.set_cons_zero, List.set_cons_succ]
        refine wpAnyH_take (i := 28) (oi := ?oi28M48) (v := undef) ?oi0_28M48 (by kernel_rfl) ?ff28M48 ?rr28M48 ?hq28M48 (Or.inr ⟨?hw28M48, rfl⟩) (by assumption) ?rest28M48
        case oi0_28M48 => conv => lhs; whnf; arg 1; whnf
        case hq28M48 => exact fun _ _ _ h => h
        case ff28M48 => kernel_rfl
        case rr28M48 => kernel_rfl
        case hw28M48 => rfl
        try simp only [Act.put, List.setIfInBounds_toArray, List.set_cons_zero, List.set_cons_succ]
        refine wpAnyH_take (i := 29) (oi := ?oi29M48) (v := undef) ?oi0_29M48 (by kernel_rfl) ?ff29M48 ?rr29M48 ?hq29M48 (Or.inr ⟨?hw29M48, rfl⟩) (by assumption) ?rest29M48
        case oi0_29M48 => conv => lhs; whnf; arg 1; whnf
        case hq29M48 => exact fun _ _ _ h => h
        case ff29M48 => kernel_rfl
        case rr29M48 => kernel_rfl
        case hw29M48 => rfl
        try simp only [Act.put, List.setIfInBounds_toArray, List.set_cons_zero, List.set_cons_succ]
        refine wpAnyH_ready (rs := [25]) (by kernel_rfl) (by simp) (AllReadyH.cons (o := ?oi25M49) ?oi0_25M49 (fun K hK => ?_) AllReadyH.nil)
        case oi0_25M49 => conv => lhs; whnf; arg 1; whnf
        rw [if_neg (by first | (simp [Region.wanted, yielded]; done) | (simp [Region.wanted, yielded]; exact fun h => nomatch (show (none : Option Bool) = some true from h)) | (simp [Region.wanted, yielded]; exact fun h => nomatch (show (none : Option Bool) = some false from h)))]
        refine hK.out _ _ (by assumption) (fun _ => ?_)
        clear hK K
        try simp only [Act.put, List.setIfInBounds_toArray, List.set_cons_zero, List.set_cons_succ]
        refine wpAnyH_ready (rs := [30]) (by kernel_rfl) (by simp) (AllReadyH.cons (o := ?oi30M50) ?oi0_30M50 (fun K hK => ?_) AllReadyH.nil)
        case oi0_30M50 => conv => lhs; whnf; arg 1; whnf
        rw [if_neg (by first | (simp [Region.wanted, yielded]; done) | (simp [Region.wanted, yielded]; exact fun h => nomatch (show (none : Option Bool) = some true from h)) | (simp [Region.wanted, yielded]; exact fun h => nomatch (show (none : Option Bool) = some false from h)))]
        refine hK.out _ _ (by assumption) (fun _ => ?_)
        clear hK K
        try simp only [Act.put, List.setIfInBounds_toArray, List.set_cons_zero, List.set_cons_succ]
        refine wpAnyH_take (i := 31) (oi := ?oi31M51) (v := undef) ?oi0_31M51 (by kernel_rfl) ?ff31M51 ?rr31M51 ?hq31M51 (Or.inr ⟨?hw31M51, rfl⟩) (by assumption) ?rest31M51
        case oi0_31M51 => conv => lhs; whnf; arg 1; whnf
        case hq31M51 => exact fun _ _ _ h => h
        case ff31M51 => kernel_rfl
        case rr31M51 => kernel_rfl
        case hw31M51 => rfl
        try simp only [Act.put, List.setIfInBounds_toArray, List.set_cons_zero, List.set_cons_succ]
        refine wpAnyH_take (i := 32) (oi := ?oi32M51) (v := undef) ?oi0_32M51 (by kernel_rfl) ?ff32M51 ?rr32M51 ?hq32M51 (Or.inr ⟨?hw32M51, rfl⟩) (by assumption) ?rest32M51
        case oi0_32M51 => conv => lhs; whnf; arg 1; whnf
        case hq32M51 => exact fun _ _ _ h => h
        case ff32M51 => kernel_rfl
        case rr32M51 => kernel_rfl
        case hw32M51 => rfl
        try simp only [Act.put, List.setIfInBounds_toArray, List.set_cons_zero, List.set_cons_succ]
        refine wpAnyH_take (i := 33) (oi := ?oi33M52) (v := ?v33M52) ?oi0_33M52 (by kernel_rfl) ?ff33M52 ?rr33M52 ?hq33M52 (Or.inl ⟨?hw33M52, ?hy33M52⟩) (by assumption) ?rest33M52
        case oi0_33M52 => conv => lhs; whnf; arg 1; whnf
        case hq33M52 => exact fun _ _ _ h => h
        case ff33M52 => kernel_rfl
        case rr33M52 => kernel_rfl
        case hw33M52 => rfl
        case hy33M52 => intro w hSw; (try dsimp only at hSw); first | (go_simp; done) | (go_simp; with_reducible rfl)
        try simp only [Act.put, List.setIfInBounds_toArray, List.set_cons_zero, List.set_cons_succ]
        refine wpAnyH_done (by kernel_rfl) ?_ _
        clear hHeld
        go_wp2_with fail
        go_roundw
        case rel => exact ⟨k + 1, none, none, D', by omega, by omega, by go_num, HW8, HP8, hide ⟨HI3.out.1.mono (by omega), .inl ⟨rfl, rfl⟩⟩⟩
        case measure => simp [intOf] <;> omega
      case inr =>
        obtain ⟨A, c, hx1, hx2⟩ := pj_list HP5.out
        obtain ⟨rn, hrn⟩ : ∃ y, T.recs.length = y := ⟨_, rfl⟩
        have hrm : rn ≤ 4194304 := by have := hT.2.2; have := HP5.out.ok.max; omega
        rw [hrn] at hx1 hx2
        have HRN := hide hrn
        have HTS := hide hts
        clear hrn hts hT
        refine wp_region_held_drew (S := (fun w' => w'.cell? ⟨wb, 1, none⟩ = some (.pointer (some ⟨jb, 0, none⟩)) ∧ w'.cell? ⟨wb, 3, none⟩ = some (.pointer (some ⟨xb, 0, none⟩)) ∧ w'.cell? ⟨xb, 1, none⟩ = some (.slice A rn c))) (by kernel_rfl) (by exact ⟨HW5.out.cell 1, HW5.out.cell 3, hx1⟩) (fun hHeld => ?_)
        obtain ⟨w8, hw⟩ : ∃ y, w5.drew = y := ⟨_, rfl⟩
        have u : Upd [] w5 w8 := by rw [← hw]; exact (Upd.refl [] _).drew
        rw [hw] at hHeld ⊢
        clear hw
        have HX8 := hide (keepc _ _ _ _ u hx1)
        have HO8 := hide (own_kept hx2 u (by simp))
        have HW8 := hide (show WBlk w8 wb g x (jptr (some (jb, T, br))) (jptr (some (xb, T, br))) from keepB HW5.out u)
        have HP8 := hide (HP5.out.step u (by simp))
        clear u HW5 HP5 hx1 hx2
        refine wpAnyH_take (i := 0) (oi := ?oi0M55) (v := ?v0M55) ?oi0_0M55 (by kernel_rfl) ?ff0M55 ?rr0M55 ?hq0M55 (Or.inl ⟨?hw0M55, ?hy0M55⟩) (by assumption) ?rest0M55
        case oi0_0M55 => conv => lhs; whnf; arg 1; whnf
        case hq0M55 => exact fun _ _ _ h => h
        case ff0M55 => kernel_rfl
        case rr0M55 => kernel_rfl
        case hw0M55 => rfl
        case hy0M55 => intro w hSw; (try dsimp only at hSw); first | (go_simp; done) | (go_simp; with_reducible rfl)
        try simp only [Act.put, List.setIfInBounds_toArray, List.set_cons_zero, List.set_cons_succ]
        refine wpAnyH_take (i := 1) (oi := ?oi1M55) (v := ?v1M55) ?oi0_1M55 (by kernel_rfl) ?ff1M55 ?rr1M55 ?hq1M55 (Or.inl ⟨?hw1M55, ?hy1M55⟩) (by assumption) ?rest1M55
        case oi0_1M55 => conv => lhs; whnf; arg 1; whnf
        case hq1M55 => exact fun _ _ _ h => h
        case ff1M55 => kernel_rfl
        case rr1M55 => kernel_rfl
        case hw1M55 => rfl
        case hy1M55 => intro w hSw; (try dsimp only at hSw); first | (go_simp; done) | (go_simp; with_reducible rfl)
        try simp only [Act.put, List.setIfInBounds_toArray, List.set_cons_zero, List.set_cons_succ]
        refine wpAnyH_take (i := 2) (oi := ?oi2M55) (v := ?v2M55) ?oi0_2M55 (by kernel_rfl) ?ff2M55 ?rr2M55 ?hq2M55 (Or.inl ⟨?hw2M55, ?hy2M55⟩) (by assumption) ?rest2M55
        case oi0_2M55 => conv => lhs; whnf; arg 1; whnf
        case hq2M55 => exact fun _ _ _ h => h
        case ff2M55 => kernel_rfl
        case rr2M55 => kernel_rfl
        case hw2M55 => rfl
        case hy2M55 => intro w hSw; (try dsimp only at hSw); first | (go_simp; done) | (go_simp; with_reducible rfl)
        try simp only [Act.put, List.setIfInBounds_toArray, List.set_cons_zero, List.set_cons_succ]
        refine wpAnyH_take (i := 3) (oi := ?oi3M55) (v := ?v3M55) ?oi0_3M55 (by kernel_rfl) ?ff3M55 ?rr3M55 ?hq3M55 (Or.inl ⟨?hw3M55, ?hy3M55⟩) (by assumption) ?rest3M55
        case oi0_3M55 => conv => lhs; whnf; arg 1; whnf
        case hq3M55 => exact fun _ _ _ h => h
        case ff3M55 => kernel_rfl
        case rr3M55 => kernel_rfl
        case hw3M55 => rfl
        case hy3M55 => intro w hSw; (try dsimp only at hSw); first | (go_simp; done) | (go_simp; with_reducible rfl)
        try simp only [Act.put, List.setIfInBounds_toArray, List.set_cons_zero, List.set_cons_succ]
        refine wpAnyH_take (i := 4) (oi := ?oi4M55) (v := ?v4M55) ?oi0_4M55 (by kernel_rfl) ?ff4M55 ?rr4M55 ?hq4M55 (Or.inl ⟨?hw4M55, ?hy4M55⟩) (by assumption) ?rest4M55
        case oi0_4M55 => conv => lhs; whnf; arg 1; whnf
        case hq4M55 => exact fun _ _ _ h => h
        case ff4M55 => kernel_rfl
        case rr4M55 => kernel_rfl
        case hw4M55 => rfl
        case hy4M55 => intro w hSw; (try dsimp only at hSw); first | (go_simp; done) | (go_simp; with_reducible rfl)
        try simp only [Act.put, List.setIfInBounds_toArray, List.set_cons_zero, List.set_cons_succ]
        refine wpAnyH_take (i := 5) (oi := ?oi5M55) (v := ?v5M55) ?oi0_5M55 (by kernel_rfl) ?ff5M55 ?rr5M55 ?hq5M55 (Or.inl ⟨?hw5M55, ?hy5M55⟩) (by assumption) ?rest5M55
        case oi0_5M55 => conv => lhs; whnf; arg 1; whnf
        case hq5M55 => exact fun _ _ _ h => h
        case ff5M55 => kernel_rfl
        case rr5M55 => kernel_rfl
        case hw5M55 => rfl
        case hy5M55 => intro w hSw; (try dsimp only at hSw); first | (go_simp; done) | (go_simp; with_reducible rfl)
        try simp only [Act.put, List.setIfInBounds_toArray, List.set_cons_zero, List.set_cons_succ]
        refine wpAnyH_take (i := 6) (oi := ?oi6M55) (v := ?v6M55) ?oi0_6M55 (by kernel_rfl) ?ff6M55 ?rr6M55 ?hq6M55 (Or.inl ⟨?hw6M55, ?hy6M55⟩) (by assumption) ?rest6M55
        case oi0_6M55 => conv => lhs; whnf; arg 1; whnf
        case hq6M55 => exact fun _ _ _ h => h
        case ff6M55 => kernel_rfl
        case rr6M55 => kernel_rfl
        case hw6M55 => rfl
        case hy6M55 => intro w hSw; (try dsimp only at hSw); first | (go_simp; done) | (go_simp; with_reducible rfl)
        try simp only [Act.put, List.setIfInBounds_toArray, List.set_cons_zero, List.set_cons_succ]
        refine wpAnyH_take (i := 7) (oi := ?oi7M55) (v := ?v7M55) ?oi0_7M55 (by kernel_rfl) ?ff7M55 ?rr7M55 ?hq7M55 (Or.inl ⟨?hw7M55, ?hy7M55⟩) (by assumption) ?rest7M55
        case oi0_7M55 => conv => lhs; whnf; arg 1; whnf
        case hq7M55 => exact fun _ _ _ h => h
        case ff7M55 => kernel_rfl
        case rr7M55 => kernel_rfl
        case hw7M55 => rfl
        case hy7M55 => intro w hSw; (try dsimp only at hSw); first | (go_simp; done) | (go_simp; with_reducible rfl)
        try simp only [Act.put, List.setIfInBounds_toArray, List.set_cons_zero, List.set_cons_succ]
        refine wpAnyH_take (i := 8) (oi := ?oi8M55) (v := ?v8M55) ?oi0_8M55 (by kernel_rfl) ?ff8M55 ?rr8M55 ?hq8M55 (Or.inl ⟨?hw8M55, ?hy8M55⟩) (by assumption) ?rest8M55
        case oi0_8M55 => conv => lhs; whnf; arg 1; whnf
        case hq8M55 => exact fun _ _ _ h => h
        case ff8M55 => kernel_rfl
        case rr8M55 => kernel_rfl
        case hw8M55 => rfl
        case hy8M55 => intro w hSw; (try dsimp only at hSw); first | (go_simp; done) | (go_simp; with_reducible rfl)
        try simp only [Act.put, List.setIfInBounds_toArray, List.set_cons_zero, List.set_cons_succ]
        refine wpAnyH_take (i := 9) (oi := ?oi9M55) (v := ?v9M55) ?oi0_9M55 (by kernel_rfl) ?ff9M55 ?rr9M55 ?hq9M55 (Or.inl ⟨?hw9M55, ?hy9M55⟩) (by assumption) ?rest9M55
        case oi0_9M55 => conv => lhs; whnf; arg 1; whnf
        case hq9M55 => exact fun _ _ _ h => h
        case ff9M55 => kernel_rfl
        case rr9M55 => kernel_rfl
        case hw9M55 => rfl
        case hy9M55 => intro w hSw; (try dsimp only at hSw); first | (go_simp; done) | (go_simp; with_reducible rfl)
        try simp only [Act.put, List.setIfInBounds_toArray, List.set_cons_zero, List.set_cons_succ]
        refine wpAnyH_take (i := 11) (oi := ?oi11M56) (v := ?v11M56) ?oi0_11M56 (by kernel_rfl) ?ff11M56 ?rr11M56 ?hq11M56 (Or.inl ⟨?hw11M56, ?hy11M56⟩) (by assumption) ?rest11M56
        case oi0_11M56 => conv => lhs; whnf; arg 1; whnf
        case hq11M56 => exact fun _ _ _ h => h
        case ff11M56 => kernel_rfl
        case rr11M56 => kernel_rfl
        case hw11M56 => rfl
        case hy11M56 => intro w hSw; (try dsimp only at hSw); first | (go_simp; done) | (go_simp; with_reducible rfl)
        try simp only [Act.put, List.setIfInBounds_toArray, List.set_cons_zero, List.set_cons_succ]
        refine wpAnyH_take (i := 12) (oi := ?oi12M56) (v := ?v12M56) ?oi0_12M56 (by kernel_rfl) ?ff12M56 ?rr12M56 ?hq12M56 (Or.inl ⟨?hw12M56, ?hy12M56⟩) (by assumption) ?rest12M56
        case oi0_12M56 => conv => lhs; whnf; arg 1; whnf
        case hq12M56 => exact fun _ _ _ h => h
        case ff12M56 => kernel_rfl
        case rr12M56 => kernel_rfl
        case hw12M56 => rfl
        case hy12M56 => intro w hSw; (try dsimp only at hSw); first | (go_simp; done) | (go_simp; with_reducible rfl)
        try simp only [Act.put, List.setIfInBounds_toArray, List.set_cons_zero, List.set_cons_succ]
        refine wpAnyH_take (i := 13) (oi := ?oi13M56) (v := ?v13M56) ?oi0_13M56 (by kernel_rfl) ?ff13M56 ?rr13M56 ?hq13M56 (Or.inl ⟨?hw13M56, ?hy13M56⟩) (by assumption) ?rest13M56
        case oi0_13M56 => conv => lhs; whnf; arg 1; whnf
        case hq13M56 => exact fun _ _ _ h => h
        case ff13M56 => kernel_rfl
        case rr13M56 => kernel_rfl
        case hw13M56 => rfl
        case hy13M56 => intro w hSw; (try dsimp only at hSw); first | (go_simp; done) | (go_simp; with_reducible rfl)
        try simp only [Act.put, List.setIfInBounds_toArray, List.set_cons_zero, List.set_cons_succ]
        refine wpAnyH_take (i := 14) (oi := ?oi14M56) (v := ?v14M56) ?oi0_14M56 (by kernel_rfl) ?ff14M56 ?rr14M56 ?hq14M56 (Or.inl ⟨?hw14M56, ?hy14M56⟩) (by assumption) ?rest14M56
        case oi0_14M56 => conv => lhs; whnf; arg 1; whnf
        case hq14M56 => exact fun _ _ _ h => h
        case ff14M56 => kernel_rfl
        case rr14M56 => kernel_rfl
        case hw14M56 => rfl
        case hy14M56 => intro w hSw; (try dsimp only at hSw); first | (go_simp; done) | (go_simp; with_reducible rfl)
        try simp only [Act.put, List.setIfInBounds_toArray, List.set_cons_zero, List.set_cons_succ]
        refine wpAnyH_take (i := 15) (oi := ?oi15M56) (v := ?v15M56) ?oi0_15M56 (by kernel_rfl) ?ff15M56 ?rr15M56 ?hq15M56 (Or.inl ⟨?hw15M56, ?hy15M56⟩) (by assumption) ?rest15M56
        case oi0_15M56 => conv => lhs; whnf; arg 1; whnf
        case hq15M56 => exact fun _ _ _ h => h
        case ff15M56 => kernel_rfl
        case rr15M56 => kernel_rfl
        case hw15M56 => rfl
        case hy15M56 => intro w hSw; (try dsimp only at hSw); first | (go_simp; done) | (go_simp; with_reducible rfl)
        try simp only [Act.put, List.setIfInBounds_toArray, List.set_cons_zero, List.set_cons_succ]
        refine wpAnyH_take (i := 16) (oi := ?oi16M56) (v := ?v16M56) ?oi0_16M56 (by kernel_rfl) ?ff16M56 ?rr16M56 ?hq16M56 (Or.inl ⟨?hw16M56, ?hy16M56⟩) (by assumption) ?rest16M56
        case oi0_16M56 => conv => lhs; whnf; arg 1; whnf
        case hq16M56 => exact fun _ _ _ h => h
        case ff16M56 => kernel_rfl
        case rr16M56 => kernel_rfl
        case hw16M56 => rfl
        case hy16M56 => intro w hSw; (try dsimp only at hSw); first | (go_simp; done) | (go_simp; with_reducible rfl)
        try simp only [Act.put, List.setIfInBounds_toArray, List.set_cons_zero, List.set_cons_succ]
        refine wpAnyH_take (i := 17) (oi := ?oi17M56) (v := ?v17M56) ?oi0_17M56 (by kernel_rfl) ?ff17M56 ?rr17M56 ?hq17M56 (Or.inl ⟨?hw17M56, ?hy17M56⟩) (by assumption) ?rest17M56
        case oi0_17M56 => conv => lhs; whnf; arg 1; whnf
        case hq17M56 => exact fun _ _ _ h => h
        case ff17M56 => kernel_rfl
        case rr17M56 => kernel_rfl
        case hw17M56 => rfl
        case hy17M56 => intro w hSw; (try dsimp only at hSw); first | (go_simp; done) | (go_simp; with_reducible rfl)
        try simp only [Act.put, List.setIfInBounds_toArray, List.set_cons_zero, List.set_cons_succ]
        refine wpAnyH_ready (rs := [10]) (by kernel_rfl) (by simp) (AllReadyH.cons (o := ?oiM57) ?oi0_M57 (fun K hK => ?_) AllReadyH.nil)
        case oi0_M57 => conv => lhs; whnf; arg 1; whnf
        go_simp
        have HR := hide (pj_records HP8.out (by rw [HRN.out]; omega))
        rw [HRN.out] at HR
        refine HR.out.mono ?_
        rintro e w9 ⟨ra, rc, rfl, ho, u⟩
        try simp only
        have HS9 := hide ho
        have HX9 := hide (keepc _ _ _ _ u HX8.out)
        have HO9 := hide (own_kept HO8.out u (by simp))
        have HW9 := hide (show WBlk w9 wb g x (jptr (some (jb, T, br))) (jptr (some (xb, T, br))) from keepB HW8.out u)
        have HP9 := hide (HP8.out.step u (by simp))
        clear u HX8 HO8 HW8 HP8
        have hc2 : w9.cell? ⟨wb, 1, none⟩ = some (.pointer (some ⟨jb, 0, none⟩)) ∧ w9.cell? ⟨wb, 3, none⟩ = some (.pointer (some ⟨xb, 0, none⟩)) ∧ w9.cell? ⟨xb, 1, none⟩ = some (.slice A rn c) := ⟨HW9.out.cell 1, HW9.out.cell 3, HX9.out⟩
        clear ho HR
        (try dsimp only)
        refine hK.out _ _ (by exact hc2) (fun hHeld => ?_)
        clear hK K hc2
        try simp only [Act.put, List.setIfInBounds_toArray, List.set_cons_zero, List.set_cons_succ]
        refine wpAnyH_ready (rs := [18]) (by kernel_rfl) (by simp) (AllReadyH.cons (o := ?oiM58) ?oi0_M58 (fun K hK => ?_) AllReadyH.nil)
        case oi0_M58 => conv => lhs; whnf; arg 1; whnf
        go_simp
        have HE := hide (same_any ra rn rc _ A rn c _ w9 (by rw [List.length_map]; exact HRN.out) (by rw [List.length_map]; exact HRN.out) (by omega) (by omega) (strs_own HS9.out) (strs_own HO9.out))
        rw [show decide ((T.recs.map fun r => (⟨r.toArray⟩ : ByteArray)) = (T.recs.map fun r => (⟨r.toArray⟩ : ByteArray))) = true from decide_eq_true rfl] at HE
        refine HE.out.mono ?_
        rintro e w10 ⟨rfl, u⟩
        try simp only
        have HX10 := hide (keepc _ _ _ _ u HX9.out)
        have HO10 := hide (own_kept HO9.out u (by simp))
        have HW10 := hide (show WBlk w10 wb g x (jptr (some (jb, T, br))) (jptr (some (xb, T, br))) from keepB HW9.out u)
        have HP10 := hide (HP9.out.step u (by simp))
        clear u HX9 HO9 HW9 HP9
        have hc2 : w10.cell? ⟨wb, 1, none⟩ = some (.pointer (some ⟨jb, 0, none⟩)) ∧ w10.cell? ⟨wb, 3, none⟩ = some (.pointer (some ⟨xb, 0, none⟩)) ∧ w10.cell? ⟨xb, 1, none⟩ = some (.slice A rn c) := ⟨HW10.out.cell 1, HW10.out.cell 3, HX10.out⟩
        clear HE HS9
        (try dsimp only)
        refine hK.out _ _ (by exact hc2) (fun hHeld => ?_)
        clear hK K hc2
        try simp only [Act.put, List.setIfInBounds_toArray, List.set_cons_zero, List.set_cons_succ]
        refine wpAnyH_take (i := 19) (oi := ?oi19M59) (v := ?v19M59) ?oi0_19M59 (by kernel_rfl) ?ff19M59 ?rr19M59 ?hq19M59 (Or.inl ⟨?hw19M59, ?hy19M59⟩) (by assumption) ?rest19M59
        case oi0_19M59 => conv => lhs; whnf; arg 1; whnf
        case hq19M59 => exact fun _ _ _ h => h
        case ff19M59 => kernel_rfl
        case rr19M59 => kernel_rfl
        case hw19M59 => rfl
        case hy19M59 => intro w hSw; (try dsimp only at hSw); first | (go_simp; done) | (go_simp; with_reducible rfl)
        try simp only [Act.put, List.setIfInBounds_toArray, List.set_cons_zero, List.set_cons_succ]
        refine wpAnyH_take (i := 20) (oi := ?oi20M59) (v := ?v20M59) ?oi0_20M59 (by kernel_rfl) ?ff20M59 ?rr20M59 ?hq20M59 (Or.inl ⟨?hw20M59, ?hy20M59⟩) (by assumption) ?rest20M59
        case oi0_20M59 => conv => lhs; whnf; arg 1; whnf
        case hq20M59 => exact fun _ _ _ h => h
        case ff20M59 => kernel_rfl
        case rr20M59 => kernel_rfl
        case hw20M59 => rfl
        case hy20M59 => intro w hSw; (try dsimp only at hSw); first | (go_simp; done) | (go_simp; with_reducible rfl)
        try simp only [Act.put, List.setIfInBounds_toArray, List.set_cons_zero, List.set_cons_succ]
        refine wpAnyH_take (i := 21) (oi := ?oi21M59) (v := ?v21M59) ?oi0_21M59 (by kernel_rfl) ?ff21M59 ?rr21M59 ?hq21M59 (Or.inl ⟨?hw21M59, ?hy21M59⟩) (by assumption) ?rest21M59
        case oi0_21M59 => conv => lhs; whnf; arg 1; whnf
        case hq21M59 => exact fun _ _ _ h => h
        case ff21M59 => kernel_rfl
        case rr21M59 => kernel_rfl
        case hw21M59 => rfl
        case hy21M59 => intro w hSw; (try dsimp only at hSw); first | (go_simp; done) | (go_simp; with_reducible rfl)
        try simp only [Act.put, List.setIfInBounds_toArray, List.set_cons_zero, List.set_cons_succ]
        refine wpAnyH_take (i := 22) (oi := ?oi22M59) (v := ?v22M59) ?oi0_22M59 (by kernel_rfl) ?ff22M59 ?rr22M59 ?hq22M59 (Or.inl ⟨?hw22M59, ?hy22M59⟩) (by assumption) ?rest22M59
        case oi0_22M59 => conv => lhs; whnf; arg 1; whnf
        case hq22M59 => exact fun _ _ _ h => h
        case ff22M59 => kernel_rfl
        case rr22M59 => kernel_rfl
        case hw22M59 => rfl
        case hy22M59 => intro w hSw; (try dsimp only at hSw); first | (go_simp; done) | (go_simp; with_reducible rfl)
        try simp only [Act.put, List.setIfInBounds_toArray, List.set_cons_zero, List.set_cons_succ]
        refine wpAnyH_take (i := 23) (oi := ?oi23M59) (v := ?v23M59) ?oi0_23M59 (by kernel_rfl) ?ff23M59 ?rr23M59 ?hq23M59 (Or.inl ⟨?hw23M59, ?hy23M59⟩) (by assumption) ?rest23M59
        case oi0_23M59 => conv => lhs; whnf; arg 1; whnf
        case hq23M59 => exact fun _ _ _ h => h
        case ff23M59 => kernel_rfl
        case rr23M59 => kernel_rfl
        case hw23M59 => rfl
        case hy23M59 => intro w hSw; (try dsimp only at hSw); first | (go_simp; done) | (go_simp; with_reducible rfl)
        try simp only [Act.put, List.setIfInBounds_toArray, List.set_cons_zero, List.set_cons_succ]
        refine wpAnyH_take (i := 24) (oi := ?oi24M59) (v := ?v24M59) ?oi0_24M59 (by kernel_rfl) ?ff24M59 ?rr24M59 ?hq24M59 (Or.inl ⟨?hw24M59, ?hy24M59⟩) (by assumption) ?rest24M59
        case oi0_24M59 => conv => lhs; whnf; arg 1; whnf
        case hq24M59 => exact fun _ _ _ h => h
        case ff24M59 => kernel_rfl
        case rr24M59 => kernel_rfl
        case hw24M59 => rfl
        case hy24M59 => intro w hSw; (try dsimp only at hSw); first | (go_simp; done) | (go_simp; with_reducible rfl)
        try simp only [Act.put, List.setIfInBounds_toArray, List.set_cons_zero, List.set_cons_succ]
        refine wpAnyH_take (i := 26) (oi := ?oi26M60) (v := ?v26M60) ?oi0_26M60 (by kernel_rfl) ?ff26M60 ?rr26M60 ?hq26M60 (Or.inl ⟨?hw26M60, ?hy26M60⟩) (by assumption) ?rest26M60
        case oi0_26M60 => conv => lhs; whnf; arg 1; whnf
        case hq26M60 => exact fun _ _ _ h => h
        case ff26M60 => kernel_rfl
        case rr26M60 => kernel_rfl
        case hw26M60 => rfl
        case hy26M60 => intro w hSw; (try dsimp only at hSw); first | (go_simp; done) | (go_simp; with_reducible rfl)
        try simp only [Act.put, List.setIfInBounds_toArray, List.set_cons_zero, List.set_cons_succ]
        refine wpAnyH_take (i := 27) (oi := ?oi27M60) (v := ?v27M60) ?oi0_27M60 (by kernel_rfl) ?ff27M60 ?rr27M60 ?hq27M60 (Or.inl ⟨?hw27M60, ?hy27M60⟩) (by assumption) ?rest27M60
        case oi0_27M60 => conv => lhs; whnf; arg 1; whnf
        case hq27M60 => exact fun _ _ _ h => h
        case ff27M60 => kernel_rfl
        case rr27M60 => kernel_rfl
        case hw27M60 => rfl
        case hy27M60 => intro w hSw; (try dsimp only at hSw); first | (go_simp; done) | (go_simp; with_reducible rfl)
        try simp only [Act.put, List.setIfInBounds_toArray, List.set_cons_zero, List.set_cons_succ]
        refine wpAnyH_take (i := 28) (oi := ?oi28M60) (v := ?v28M60) ?oi0_28M60 (by kernel_rfl) ?ff28M60 ?rr28M60 ?hq28M60 (Or.inl ⟨?hw28M60, ?hy28M60⟩) (by assumption) ?rest28M60
        case oi0_28M60 => conv => lhs; whnf; arg 1; whnf
        case hq28M60 => exact fun _ _ _ h => h
        case ff28M60 => kernel_rfl
        case rr28M60 => kernel_rfl
        case hw28M60 => rfl
        case hy28M60 => intro w hSw; (try dsimp only at hSw); first | (go_simp; done) | (go_simp; with_reducible rfl)
        try simp only [Act.put, List.setIfInBounds_toArray, List.set_cons_zero, List.set_cons_succ]
        refine wpAnyH_take (i := 29) (oi := ?oi29M60) (v := ?v29M60) ?oi0_29M60 (by kernel_rfl) ?ff29M60 ?rr29M60 ?hq29M60 (Or.inl ⟨?hw29M60, ?hy29M60⟩) (by assumption) ?rest29M60
        case oi0_29M60 => conv => lhs; whnf; arg 1; whnf
        case hq29M60 => exact fun _ _ _ h => h
        case ff29M60 => kernel_rfl
        case rr29M60 => kernel_rfl
        case hw29M60 => rfl
        case hy29M60 => intro w hSw; (try dsimp only at hSw); first | (go_simp; done) | (go_simp; with_reducible rfl)
        try simp only [Act.put, List.setIfInBounds_toArray, List.set_cons_zero, List.set_cons_succ]
        refine wpAnyH_ready (rs := [25]) (by kernel_rfl) (by simp) (AllReadyH.cons (o := ?oiM61) ?oi0_M61 (fun K hK => ?_) AllReadyH.nil)
        case oi0_M61 => conv => lhs; whnf; arg 1; whnf
        go_simp
        have HM := hide (pj_room HP10.out HTS.out)
        obtain ⟨rm, hrm2⟩ : ∃ y, D'.sure.length - T.size = y := ⟨_, rfl⟩
        rw [hrm2] at HM
        have HRM := hide hrm2
        clear hrm2
        refine HM.out.mono ?_
        rintro e w11 ⟨rfl, u⟩
        try simp only
        have HX11 := hide (keepc _ _ _ _ u HX10.out)
        have HO11 := hide (own_kept HO10.out u (by simp))
        have HW11 := hide (show WBlk w11 wb g x (jptr (some (jb, T, br))) (jptr (some (xb, T, br))) from keepB HW10.out u)
        have HP11 := hide (HP10.out.step u (by simp))
        clear u HX10 HO10 HW10 HP10
        have hc2 : w11.cell? ⟨wb, 1, none⟩ = some (.pointer (some ⟨jb, 0, none⟩)) ∧ w11.cell? ⟨wb, 3, none⟩ = some (.pointer (some ⟨xb, 0, none⟩)) ∧ w11.cell? ⟨xb, 1, none⟩ = some (.slice A rn c) := ⟨HW11.out.cell 1, HW11.out.cell 3, HX11.out⟩
        clear HM
        (try dsimp only)
        refine hK.out _ _ (by exact hc2) (fun hHeld => ?_)
        clear hK K hc2
        try simp only [Act.put, List.setIfInBounds_toArray, List.set_cons_zero, List.set_cons_succ]
        refine wpAnyH_ready (rs := [30]) (by kernel_rfl) (by simp) (AllReadyH.cons (o := ?oiM62) ?oi0_M62 (fun K hK => ?_) AllReadyH.nil)
        case oi0_M62 => conv => lhs; whnf; arg 1; whnf
        go_simp
        have HM := hide (pj_rroom HP11.out HTS.out)
        rw [HRM.out] at HM
        refine HM.out.mono ?_
        rintro e w12 ⟨rfl, u⟩
        try simp only
        have HX12 := hide (keepc _ _ _ _ u HX11.out)
        have HO12 := hide (own_kept HO11.out u (by simp))
        have HW12 := hide (show WBlk w12 wb g x (jptr (some (jb, T, br))) (jptr (some (xb, T, br))) from keepB HW11.out u)
        have HP12 := hide (HP11.out.step u (by simp))
        clear u HX11 HO11 HW11 HP11
        have hc2 : w12.cell? ⟨wb, 1, none⟩ = some (.pointer (some ⟨jb, 0, none⟩)) ∧ w12.cell? ⟨wb, 3, none⟩ = some (.pointer (some ⟨xb, 0, none⟩)) ∧ w12.cell? ⟨xb, 1, none⟩ = some (.slice A rn c) := ⟨HW12.out.cell 1, HW12.out.cell 3, HX12.out⟩
        clear HM
        (try dsimp only)
        refine hK.out _ _ (by exact hc2) (fun hHeld => ?_)
        clear hK K hc2
        try simp only [Act.put, List.setIfInBounds_toArray, List.set_cons_zero, List.set_cons_succ]
        have hmm : ¬ ((rm : Int) != (rm : Int)) = true := by simp
        refine wpAnyH_take (i := 31) (oi := ?oi31M63) (v := ?v31M63) ?oi0_31M63 (by kernel_rfl) ?ff31M63 ?rr31M63 ?hq31M63 (Or.inl ⟨?hw31M63, ?hy31M63⟩) (by assumption) ?rest31M63
        case oi0_31M63 => conv => lhs; whnf; arg 1; whnf
        case hq31M63 => exact fun _ _ _ h => h
        case ff31M63 => kernel_rfl
        case rr31M63 => kernel_rfl
        case hw31M63 => rfl
        case hy31M63 => intro w hSw; (try dsimp only at hSw); first | (go_simp; done) | (go_simp; with_reducible rfl)
        try simp only [Act.put, List.setIfInBounds_toArray, List.set_cons_zero, List.set_cons_succ]
        refine wpAnyH_take (i := 32) (oi := ?oi32M63) (v := ?v32M63) ?oi0_32M63 (by kernel_rfl) ?ff32M63 ?rr32M63 ?hq32M63 (Or.inl ⟨?hw32M63, ?hy32M63⟩) (by assumption) ?rest32M63
        case oi0_32M63 => conv => lhs; whnf; arg 1; whnf
        case hq32M63 => exact fun _ _ _ h => h
        case ff32M63 => kernel_rfl
        case rr32M63 => kernel_rfl
        case hw32M63 => rfl
        case hy32M63 => intro w hSw; (try dsimp only at hSw); first | (go_simp; done) | (go_simp; with_reducible rfl)
        try simp only [Act.put, List.setIfInBounds_toArray, List.set_cons_zero, List.set_cons_succ]
        refine wpAnyH_take (i := 33) (oi := ?oi33M63) (v := ?v33M63) ?oi0_33M63 (by kernel_rfl) ?ff33M63 ?rr33M63 ?hq33M63 (Or.inl ⟨?hw33M63, ?hy33M63⟩) (by assumption) ?rest33M63
        case oi0_33M63 => conv => lhs; whnf; arg 1; whnf
        case hq33M63 => exact fun _ _ _ h => h
        case ff33M63 => kernel_rfl
        case rr33M63 => kernel_rfl
        case hw33M63 => rfl
        case hy33M63 => intro w hSw; (try dsimp only at hSw); first | (go_simp; done) | (go_simp; with_reducible rfl)
        try simp only [Act.put, List.setIfInBounds_toArray, List.set_cons_zero, List.set_cons_succ]
        refine wpAnyH_done (by kernel_rfl) ?_ _
        clear hHeld
        go_wp2_with fail
        go_roundw
        case rel => exact ⟨k + 1, some (jb, T, br), some (xb, T, br), D', by omega, by omega, by go_num, HW12, HP12, hide ⟨HI3.out.1.mono (by omega), HI3.out.2⟩⟩
        case measure => simp [intOf] <;> omega
theorem matchesreference_walk {a0 : Addr} (n : Int) (la : Option Addr) (ln lc : Nat) (xs : List OpP) (w : World) (hl : Laid w.heap.size keysL a0 w) (hn : (Lit.int .i64 n).wf = true) (hg : OpsArg w la ln lc xs) :
    Calls Tryz.prog 7 #[.int .i64 n, .slice la ln lc] w fun e w' => e = .returned (.bool true) ∧ Below w.heap.size w w' := by
  have hk : keysL = refK := by kernel_rfl
  rw [hk] at hl
  exact match_walk0 n la ln lc xs w hl hn hg
end Go.Proofs.YtafjolibfbccbaaGreatDoor
