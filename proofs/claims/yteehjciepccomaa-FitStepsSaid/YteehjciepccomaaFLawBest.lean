/-
  The walk of the statement on the best choice.
-/
import Derived.Test.YteehjciepccomaaFChoice
namespace Go.Proofs.Yteehjciepccomaa
open Go.RowKit
set_option maxRecDepth 100000
set_option maxHeartbeats 1000000

theorem fits_len {total : Int} : ∀ {l : List Pc} {at_ : Int} {ns : List Int}, fitsS total l at_ ns = true → ns.length = l.length
  | [], _, [], _ => rfl
  | [], _, _ :: _, h => by simp [fitsS] at h
  | _ :: _, _, [], h => by simp [fitsS] at h
  | p :: l, at_, n :: ns, h => by
    simp only [fitsS, Bool.and_eq_true] at h
    rw [List.length_cons, List.length_cons, fits_len h.2]
/-- What Resume answers with nothing taken. -/
theorem solve_cases {l : List Pc} {t : Int} (hV : ValidS l t) : (∃ ns, resumeS l t [] = (ns, leastS t l 0, 0) ∧ leastS t l 0 < never ∧ fitsS t l 0 ns = true ∧ costS l ns = leastS t l 0 ∧ bestS t l 0 = some ns) ∨
    (resumeS l t [] = ([], 0, 100) ∧ ∀ h, fitsS t l 0 h = false) := by
  have hb := leastS_bounds t l 0
  by_cases hlt : leastS t l 0 < never
  · obtain ⟨ns, h1, h2, h3⟩ := best_fits hV.2.2 hlt
    refine .inl ⟨ns, ?_, hlt, h2, h3, h1⟩
    unfold resumeS
    rw [if_pos ⟨hV, Nat.zero_le _, fun n hn => by simp at hn⟩]
    have e : restS l t ([] : List Int).length (sumS []) = (ns, leastS t l 0, true) := by
      show restS l t 0 0 = _
      unfold restS
      rw [List.drop_zero, if_neg (by omega), h1]
    rw [e]
    rfl
  · refine .inr ⟨?_, fun h => ?_⟩
    · unfold resumeS
      rw [if_pos ⟨hV, Nat.zero_le _, fun n hn => by simp at hn⟩]
      have e : restS l t ([] : List Int).length (sumS []) = ([], 0, false) := by
        show restS l t 0 0 = _
        unfold restS
        rw [List.drop_zero, if_pos (by omega)]
      rw [e]
      rfl
    · cases hf : fitsS t l 0 h with
      | false => rfl
      | true =>
        have h1 := least_le hV.2.2 (Int.le_refl 0) hf
        have h2 := cost_bound hV.2.2 hf
        have h3 := hV.1
        unfold never at hlt
        omega

theorem fitBest_walk (a0 : Option Addr) (len0 cap0 : Nat) (z0 : List X4) (a1 : Int) (a2 : Option Addr) (len2 cap2 : Nat) (z2 : List Int) (w : World) (w0 : X4Arg w a0 len0 cap0 z0) (w1 : (Lit.int .i64 a1).wf = true) (w2 : IntsArg w a2 len2 cap2 z2) :
    Calls Try.prog 4 #[.slice a0 len0 cap0, .int .i64 a1, .slice a2 len2 cap2] w fun e w' => e = .returned (.bool true) ∧ Below w.heap.size w w' := by
  have X0 := hide w0
  have W1 := hide w1
  have J2 := hide (show Ints w.heap.size w (.slice a2 len2 cap2) z2 by have := w2.ints len2 (Nat.le_refl _) cap2; rwa [List.take_of_length_le (by rw [w2.1]; exact Nat.le_refl _)] at this)
  have HL2 := hide (show len2 ≤ maxLen from Nat.le_trans w2.2.1 w2.2.2.1)
  have HW2 := hide w2.2.2.2.1
  clear w0 w1 w2
  go_enter Try.func4, Try.ntmps4
  go_wp2_with fail
  refine (sane_any w).mono ?_
  rintro e w1 ⟨rfl, u⟩
  have U0 := hide u
  clear u
  go_wp2_with fail
  refine (made_any a0 len0 cap0 z0 a1 w1 (X0.out.2.2.2.below (U0.out.toBelow (Nat.le_refl _) (by simp))) X0.out.1 (Nat.le_trans X0.out.2.1 X0.out.2.2.1) U0.out.size W1.out).mono ?_
  rintro e w2 ⟨b, len, cap, l, t, rfl, hl, hl10, hcap, hp, hV, hh, u⟩
  have U1 := hide u
  have HP := hide hp
  have HV := hide hV
  have HH := hide hh
  subst hl
  have hm : l.length ≤ maxLen := by unfold maxLen; omega
  have HM := hide hm
  have HC := hide hcap
  clear u hp hV hh hm hcap
  obtain ⟨ri, rc, re, hr⟩ : ∃ ri rc re, resumeS l t [] = (ri, rc, re) := ⟨_, _, _, rfl⟩
  have HR := hide hr
  clear hr
  go_wp2_with fail
  refine (solve_use b cap l t w2 HP.out (Nat.le_refl _) HM.out HR.out).mono ?_
  rintro e w3 ⟨A1, c1, rfl, i1, u⟩
  have U2 := hide u
  have I1 := hide i1
  clear u i1
  go_wp2_with fail
  refine (choice_any b cap l a2 len2 cap2 z2 w3 (HP.out.upd U2.out (Nat.le_refl _) (by simp)) U2.out.size (by omega) HV.out.2.2 (J2.out.upd ((U0.out.trans U1.out (by simp)).trans U2.out (by simp)) (Nat.le_refl _) (by simp)) ((U0.out.trans U1.out (by simp)).trans U2.out (by simp)).size HL2.out HW2.out).mono ?_
  rintro e w4 ⟨A2, c2, ch, rfl, i2, hch, u⟩
  have U3 := hide u
  have I2 := hide i2
  have HCH := hide hch
  clear u i2 hch
  have U23 := hide (U2.out.trans U3.out (by simp))
  have hch2 : ch.length ≤ maxLen := by have := HCH.out; unfold maxLen; omega
  have CK := check_use b cap l t w4 (HP.out.upd U23.out (Nat.le_refl _) (by simp)) U23.out.size HM.out A2 ch.length c2 ch I2.out (Nat.le_refl _) hch2
  obtain ⟨f, hf⟩ : ∃ f, fitsS t l 0 ch = f := ⟨_, rfl⟩
  have HF := hide hf
  rcases solve_cases HV.out with ⟨ns, hs, hlt, hfit, hcost, hbest⟩ | ⟨hs, hno⟩
  · -- solved
    rw [HR.out] at hs
    obtain ⟨rfl, hs2⟩ := Prod.mk.inj hs
    obtain ⟨rfl, rfl⟩ := Prod.mk.inj hs2
    have hb := leastS_bounds t l 0
    obtain ⟨cost, hcc⟩ : ∃ cost, leastS t l 0 = cost := ⟨_, rfl⟩
    have HFIT := hide hfit
    have HCOST := hide hcost
    have HBEST := hide hbest
    have HCC := hide hcc
    have CK2 : Hid (∀ W, Upd [] w4 W → Calls Try.prog 28 #[.slice b l.length cap, .int .i64 t, .slice A1 ri.length c1] W fun e w' => e = .returned (.tuple #[.int .i64 cost, .bool true]) ∧ Upd [] W w') := fun W hW => by
      have h := check_use b cap l t W (HP.out.upd (U23.out.trans hW (by simp)) (Nat.le_refl _) (by simp)) (U23.out.trans hW (by simp)).size HM.out A1 ri.length c1 ri (I1.out.upd (U3.out.trans hW (by simp)) (Nat.le_refl _) (by simp)) (U3.out.trans hW (by simp)).size (by rw [fits_len HFIT.out]; exact HM.out)
      rwa [if_pos ⟨HV.out, fits_len HFIT.out, HFIT.out⟩, HCOST.out, HCC.out] at h
    rw [HCC.out] at hb
    rw [HCC.out]
    clear hs hs2 hlt hfit hcost hbest hcc hch2
    cases f with
    | false =>
      rw [if_neg (fun h => by rw [HF.out] at h; simp at h)] at CK
      have CK' := hide CK
      clear CK hf hb
      go_wp2_with fail
      refine CK'.out.mono ?_
      rintro e w5 ⟨rfl, u⟩
      have U4 := hide u
      clear u
      go_wp2_with fail
      refine (CK2.out _ U4.out).mono ?_
      rintro e w6 ⟨rfl, u⟩
      have U5 := hide u
      clear u
      go_wp2_with fail
      go_ret
      exact ⟨rfl, ((((U0.out.trans U1.out (by simp)).trans U23.out (by simp)).trans U4.out (by simp)).trans U5.out (by simp)).toBelow (Nat.le_refl _) (by simp)⟩
    | true =>
      rw [if_pos ⟨HV.out, HCH.out, HF.out⟩] at CK
      obtain ⟨oc, hoc⟩ : ∃ oc, costS l ch = oc := ⟨_, rfl⟩
      rw [hoc] at CK
      have hle : cost ≤ oc := by rw [← hoc, ← HCC.out]; exact least_le HV.out.2.2 (Int.le_refl 0) HF.out
      have HOC := hide hoc
      have CK' := hide CK
      clear CK hf hb hoc
      by_cases hlt : cost < oc
      · go_wp2_with fail
        refine CK'.out.mono ?_
        rintro e w5 ⟨rfl, u⟩
        have U4 := hide u
        clear u
        go_wp2_with fail
        refine (CK2.out _ U4.out).mono ?_
        rintro e w6 ⟨rfl, u⟩
        have U5 := hide u
        clear u
        go_wp2_with fail
        go_ret
        exact ⟨rfl, ((((U0.out.trans U1.out (by simp)).trans U23.out (by simp)).trans U4.out (by simp)).trans U5.out (by simp)).toBelow (Nat.le_refl _) (by simp)⟩
      · obtain rfl : oc = cost := by omega
        have hfs : firstS ch ri = false := best_first HV.out.2.2 (Int.le_refl 0) HBEST.out HF.out (by rw [HOC.out, HCC.out])
        have HFS := hide hfs
        have FI : Hid (∀ W, Upd [] w4 W → Calls Try.prog 30 #[.slice A2 ch.length c2, .slice A1 ri.length c1] W fun e w' => e = .returned (.bool false) ∧ Upd [] W w') := fun W hW => by
          have h := first_any A2 ch.length c2 ch A1 ri.length c1 ri W (I2.out.upd hW (Nat.le_refl _) (by simp)) (I1.out.upd (U3.out.trans hW (by simp)) (Nat.le_refl _) (by simp)) hW.size (U3.out.trans hW (by simp)).size (by have := HCH.out; omega) (by have := fits_len HFIT.out; omega)
          rwa [HFS.out] at h
        clear hfs hle
        go_wp2_with fail
        refine CK'.out.mono ?_
        rintro e w5 ⟨rfl, u⟩
        have U4 := hide u
        clear u
        go_wp2_with fail
        refine (CK2.out _ U4.out).mono ?_
        rintro e w6 ⟨rfl, u⟩
        have U5 := hide u
        clear u
        go_wp2_with fail
        refine (FI.out _ (U4.out.trans U5.out (by simp))).mono ?_
        rintro e w7 ⟨rfl, u⟩
        have U6 := hide u
        clear u
        go_wp2_with fail
        go_ret
        exact ⟨rfl, (((((U0.out.trans U1.out (by simp)).trans U23.out (by simp)).trans U4.out (by simp)).trans U5.out (by simp)).trans U6.out (by simp)).toBelow (Nat.le_refl _) (by simp)⟩
  · -- not solved
    rw [HR.out] at hs
    obtain ⟨rfl, hs2⟩ := Prod.mk.inj hs
    obtain ⟨rfl, rfl⟩ := Prod.mk.inj hs2
    have hpk : ¬ pickN a1 40 ≤ 20 := fun h => by
      obtain ⟨hid, hh⟩ := HH.out h
      rw [hno hid] at hh
      cases hh
    rw [if_neg (fun h => by rw [hno] at h; simp at h)] at CK
    have CK' := hide CK
    have PK := hide (fun W => pick_any a1 40 W W1.out (by omega) (by omega))
    clear CK hf hno hs hs2 hch2
    go_wp2_with fail
    refine CK'.out.mono ?_
    rintro e w5 ⟨rfl, u⟩
    have U4 := hide u
    clear u
    go_wp2_with fail
    refine (PK.out _).mono ?_
    rintro e w' ⟨rfl, rfl⟩
    go_wp2_with fail
    go_ret
    exact ⟨rfl, (((U0.out.trans U1.out (by simp)).trans U23.out (by simp)).trans U4.out (by simp)).toBelow (Nat.le_refl _) (by simp)⟩
end Go.Proofs.Yteehjciepccomaa
