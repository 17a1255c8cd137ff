/-
  The walk of the statement on Blame.
-/
import Derived.Test.YteehjciepccomaaFBlameP
import Derived.Test.YteehjciepccomaaFApp
namespace Go.Proofs.Yteehjciepccomaa
open Go.RowKit
set_option maxRecDepth 100000
set_option maxHeartbeats 1000000

theorem beginsL_end (l : List Pc) : beginsL l l.length = memb (reachS l [0]) 72001 := by
  unfold beginsL
  rw [List.getElem?_eq_none (Nat.le_refl _), List.take_of_length_le (Nat.le_refl _)]
  exact List.filter_eq_self.2 (fun _ _ => rfl)
theorem beginsL_free {l : List Pc} {j : Nat} {p : Pc} (hp : l[j]? = some p) : beginsL (l.set j (p.at_ (-1))) j = memb (reachS (l.take j) [0]) 72001 := by
  have hjl := (List.getElem?_eq_some_iff.1 hp).1
  unfold beginsL
  rw [List.getElem?_set, if_pos rfl, if_pos hjl, List.take_set_of_le (Nat.le_refl _)]
  exact List.filter_eq_self.2 (fun _ _ => rfl)
theorem valid_free {l : List Pc} {t : Int} (h : ValidS l t) {j : Nat} {p : Pc} (hp : l[j]? = some p) : ValidS (l.set j (p.at_ (-1))) t := by
  refine ⟨by rw [List.length_set]; exact h.1, h.2.1, fun q hq => ?_⟩
  rcases List.mem_or_eq_of_mem_set hq with hq | rfl
  · exact h.2.2 q hq
  · have := h.2.2 p (List.mem_of_getElem? hp)
    exact ⟨this.1, this.2.1, ⟨by show (-1 : Int) ≤ -1; omega, by show (-1 : Int) ≤ 3600; omega⟩, this.2.2.2⟩
theorem valid_any0 {l : List Pc} {t : Int} (h : ValidS l t) : ValidS l 0 := ⟨h.1, by omega, h.2.2⟩
theorem ne_len {S : List Int} (h : S ≠ []) : 0 < S.length := List.length_pos_iff.2 h

theorem fitBlame_walk (a0 : Option Addr) (len0 cap0 : Nat) (z0 : List X4) (a1 : Int) (w : World) (w0 : X4Arg w a0 len0 cap0 z0) (w1 : (Lit.int .i64 a1).wf = true) :
    Calls Try.prog 5 #[.slice a0 len0 cap0, .int .i64 a1] w fun e w' => e = .returned (.bool true) ∧ Below w.heap.size w w' := by
  have X0 := hide w0
  have W1 := hide w1
  clear w0 w1
  go_enter Try.func5, Try.ntmps5
  go_wp2_with fail
  refine (sane_any w).mono ?_
  rintro e w1 ⟨rfl, u⟩
  have U0 := hide u
  clear u
  go_wp2_with fail
  refine (made_any a0 len0 cap0 z0 a1 w1 (X0.out.2.2.2.below (U0.out.toBelow (Nat.le_refl _) (by simp))) X0.out.1 (Nat.le_trans X0.out.2.1 X0.out.2.2.1) U0.out.size W1.out).mono ?_
  rintro e w2 ⟨b, len, cap, l, t, rfl, hl, hl10, hcap, hp, hV, _, u⟩
  have U1 := hide u
  have HP := hide hp
  have HV := hide hV
  have hm : l.length ≤ maxLen := by unfold maxLen; omega
  have HM := hide hm
  have HC := hide (show l.length ≤ cap by omega)
  obtain ⟨rn, rs, hr⟩ : ∃ rn rs, blameS l t = (rn, rs) := ⟨_, _, rfl⟩
  have HR := hide hr
  obtain ⟨ri, rc, re, hr2⟩ : ∃ ri rc re, resumeS l t [] = (ri, rc, re) := ⟨_, _, _, rfl⟩
  have HR2 := hide hr2
  have HLEN := hide hl
  have BL := blame_use b cap l t w2 HP.out (Nat.le_refl _) HM.out HV.out HR.out
  rw [HLEN.out] at BL
  have HBL := hide BL
  have SO : Hid (∀ W, Upd [] w2 W → Calls Try.prog 19 #[.slice b len cap, .int .i64 t] W fun e w' => ∃ A c', e = .returned (.tuple #[.slice A ri.length c', .int .i64 rc, .int .i64 re]) ∧ Ints w'.heap.size w' (.slice A ri.length c') ri ∧ Upd [] W w') := fun W hW => by
    have h := solve_use b cap l t W (HP.out.upd hW (Nat.le_refl _) (by simp)) hW.size HM.out HR2.out
    rwa [HLEN.out] at h
  obtain ⟨j, hj, hall, hcase⟩ := blameFrom_cases (total := t) l 0 [0]
  have hbs : blameFrom t l 0 [0] = (rn, rs) := HR.out
  have HALL := hide hall
  have hjl : j ≤ len := by omega
  clear u hp hV hm hcap hr hr2 BL hl hall
  rcases hcase with ⟨h1, h2, h3⟩ | ⟨h1, h2⟩
  · -- nothing is missed
    rw [hbs] at h1
    obtain ⟨rfl, rfl⟩ := Prod.mk.inj h1
    have hre : re = 0 := by
      rcases solve_cases HV.out with ⟨ns, hs, _⟩ | ⟨_, hno⟩
      · have := HR2.out.symm.trans hs
        simp only [Prod.mk.injEq] at this
        exact this.2.2
      · obtain ⟨a, ha, ns, hf⟩ := reach_fits.1 h3
        simp only [List.mem_singleton] at ha
        subst ha
        rw [hno] at hf
        cases hf
    subst hre
    clear h1 h2 h3 hbs
    go_wp2_with fail
    refine HBL.out.mono ?_
    rintro e w3 ⟨A1, c1, rfl, i1, u⟩
    have U2 := hide u
    clear u i1
    go_wp2_with fail
    refine (SO.out _ U2.out).mono ?_
    rintro e w4 ⟨A2, c2, rfl, i2, u⟩
    have U3 := hide u
    clear u i2
    go_wp2_with fail
    go_ret
    exact ⟨rfl, (((U0.out.trans U1.out (by simp)).trans U2.out (by simp)).trans U3.out (by simp)).toBelow (Nat.le_refl _) (by simp)⟩
  · -- something is missed
    rw [hbs] at h1
    obtain ⟨rfl, rfl⟩ := Prod.mk.inj h1
    have hnot : t ∉ reachS l [0] := by
      rcases h2 with ⟨_, h3⟩ | ⟨p, hp, h0, hno⟩
      · exact h3
      · rw [reach_none hp h0 hno]; simp
    have hre : re = 100 := by
      rcases solve_cases HV.out with ⟨ns, _, _, hf, _⟩ | ⟨hs, _⟩
      · exact absurd (reach_fits.2 ⟨0, by simp, ns, hf⟩) hnot
      · have := HR2.out.symm.trans hs
        simp only [Prod.mk.injEq] at this
        exact this.2.2
    subst hre
    have hR := reach_some HV.out.2.2 j hj (by simp) HALL.out
    have hbd := reachS_bound HV.out.2.2 j hj
    have hbd2 : ∀ x ∈ reachS (l.take j) [0], 0 ≤ x ∧ x ≤ 72000 := fun x hx => by have := hbd x hx; have := HLEN.out; omega
    have hS : memb (reachS (l.take j) [0]) 72001 ≠ [] := by
      obtain ⟨x, hx⟩ := List.exists_mem_of_ne_nil _ hR
      intro h
      have := (memb_mem hbd2 x).2 hx
      rw [h] at this
      simp at this
    have hmemb := hide (memb_mem hbd2)
    obtain ⟨S, hSS⟩ : ∃ S, memb (reachS (l.take j) [0]) 72001 = S := ⟨_, rfl⟩
    rw [hSS] at hS hmemb HBL
    have HSS := hide hSS
    have hsl := ne_len hS
    have hsl2 : ¬ (S.length : Int) = 0 := by omega
    have hsm : S.length ≤ 1000000000 := by have := memb_length (reachS (l.take j) [0]) 72001; rw [hSS] at this; omega
    have H2 := hide h2
    have HNOT := hide hnot
    have hRk := hide hR
    have hjn : ¬ ((0 + j : Nat) : Int) = -1 := by omega
    have hj0 : ((0 + j : Nat) : Int) = (j : Int) := by omega
    rw [hj0] at HBL hjn
    have hj1 : ¬ (j : Int) < 0 := by omega
    have hd1 : decide (len < j) = false := decide_eq_false (by omega)
    have hd2 : decide ((j : Int) < 0) = false := decide_eq_false hj1
    have hsb : ((S.length : Int) == 0) = false := beq_false_of_ne hsl2
    have hjb : ((j : Int) == -1) = false := beq_false_of_ne hjn
    have hj2 : ¬ (len : Int) < j := by omega
    clear h1 h2 hnot hR hbd hbd2 hS hSS hbs
    go_wp2_with fail
    refine HBL.out.mono ?_
    rintro e w3 ⟨A1, c1, rfl, i1, u⟩
    have U2 := hide u
    have I1 := hide i1
    clear u i1
    go_wp2_with fail
    refine (SO.out _ U2.out).mono ?_
    rintro e w4 ⟨A2, c2, rfl, i2, u⟩
    have U24 := hide (U2.out.trans u (by simp))
    have U3 := hide u
    clear u i2
    go_wp2_with fail
    go_loopw [13] (fun i wr => ∃ k : Nat, k ≤ j ∧ i = .int .i64 k ∧ Hid (Upd [] w4 wr)) (fun i _ => j - (intOf i).toNat)
    case atStart => exact ⟨0, Nat.zero_le _, rfl, Upd.refl _ _⟩
    case round =>
      obtain ⟨k, hk, rfl, hu⟩ := hrel
      by_cases hlt : k < j
      · obtain ⟨p, hp⟩ : ∃ p, l[k]? = some p := ⟨_, List.getElem?_eq_getElem (by omega)⟩
        have hne := begins_some HV.out.2.2 HV.out.1 hp (reach_some HV.out.2.2 k (by omega) (by simp) (fun i hi => HALL.out i (by omega))) (HALL.out k hlt p hp)
        obtain ⟨rl, hrl⟩ : ∃ rl, beginsL l k = rl := ⟨_, rfl⟩
        rw [hrl] at hne
        have BG := begins_use b cap l wr (HP.out.upd (U24.out.trans hu.out (by simp)) (Nat.le_refl _) (by simp)) (U24.out.trans hu.out (by simp)).size HM.out (valid_any0 HV.out) k (by omega) HC.out hrl
        rw [HLEN.out] at BG
        have HBG := hide BG
        have hrl0 : ((rl.length : Int) == 0) = false := beq_false_of_ne (by have := ne_len hne; omega)
        clear hp hne hrl BG
        go_wp2_with fail
        refine HBG.out.mono ?_
        rintro e w5 ⟨A5, c5, rfl, i5, u⟩
        have U5 := hide (hu.out.trans u (by simp))
        clear u i5
        go_wp2_with fail
        go_roundw
        case rel => first | exact ⟨k + 1, by omega, by go_num, U5⟩ | ((repeat apply Exists.intro); exact ⟨⟨k + 1, by omega, by go_num, U5⟩, rfl⟩)
        case measure => simp [intOf] <;> omega
      · obtain rfl : k = j := by omega
        obtain ⟨wo, rfl⟩ : ∃ wo : World, wo = wr := ⟨_, rfl⟩
        have U6 := hide (U24.out.trans hu.out (by simp))
        have U06 := hide ((U0.out.trans U1.out (by simp)).trans U6.out (by simp))
        have HPW := hide (HP.out.upd U6.out (Nat.le_refl _) (by simp))
        have ua := (Upd.refl [] wo).alloc (.cells #[] 50)
        have O1 := hide (own_empty3 wo.heap.size wo (Nat.le_refl _))
        have O3 := hide (show 0 + len ≤ maxLen by unfold maxLen; omega)
        have O4 := hide (show (0 + len) * 40 ≤ 140737488355328 by omega)
        obtain ⟨news, hnl, hnews, hone, hcopy⟩ : ∃ news : List Value, news.length = len * 3 ∧ ((b = none ∧ len = 0) ∨ ∃ ad, b = some ad ∧ ∀ j u, news[j]? = some u → (wo.alloc (.cells #[] 50)).cell? (ad.add j) = some u) ∧ (∀ u ∈ news, u.oneCell' = true) ∧
            (∀ (g : Nat) (r : List Value) (w' : World), Upd [] wo w' → wo.heap.size ≤ g → 0 < len → Blk w' g 50 (news ++ r) → PcsIn w2.heap.size w' g l) := by
          rcases Nat.eq_zero_or_pos len with h0 | h0
          · exact ⟨[], by simp [h0], by
              cases hb : b with
              | none => exact .inl ⟨rfl, h0⟩
              | some ad => exact .inr ⟨ad, rfl, fun j u hj => by simp at hj⟩, by simp, fun g r w' _ _ h => by omega⟩
          · obtain ⟨b', o', _, _, _, rfl, _⟩ := HPW.out 0 _ (List.getElem?_eq_getElem (by have := HLEN.out; omega))
            refine ⟨newsOf wo (some ⟨b', o', none⟩) len, news_length, .inr ⟨_, rfl, fun j u hj => ?_⟩, fun u hu => ?_, fun g r w' hw hg _ hb => ?_⟩
            · obtain ⟨u', q1, q2, q3⟩ := news_at HPW.out j (by have := (List.getElem?_eq_some_iff.1 hj).1; rw [news_length] at this; have := HLEN.out; omega)
              rw [HLEN.out, hj] at q1
              obtain rfl : u = u' := by simpa using q1
              have e : (⟨b', o', none⟩ : Addr).add j = ⟨b', o' + j, none⟩ := by unfold Addr.add; split <;> simp_all
              rw [e]
              exact (ua.cell (p := ⟨b', o' + j, none⟩) (World.block_lt_of_cell? _ _ q2) (by simp)).trans q2
            · obtain ⟨j, hj⟩ := List.getElem?_of_mem hu
              obtain ⟨u', q1, q2, q3⟩ := news_at HPW.out j (by have := (List.getElem?_eq_some_iff.1 hj).1; rw [news_length] at this; have := HLEN.out; omega)
              rw [HLEN.out, hj] at q1
              obtain rfl : u = u' := by simpa using q1
              exact q3
            · exact copy_pcs HPW.out hw U6.out.size hg (by rw [HLEN.out]; exact hb)
        have O5 := hide hnl
        have O2 := hide hnews
        have O6 := hide hone
        have HCOPY := hide hcopy
        clear hnl hnews hone hcopy ua
        have UA := hide ((Upd.refl [] wo).alloc (.cells #[] 50))
        rcases H2.out with ⟨hje, _⟩ | ⟨p, hp, hp0, hpno⟩
        · -- the total is missed
          have hkl : ¬ (k : Int) < len := by have := HLEN.out; omega
          have hkl2 : k = len := by have := HLEN.out; omega
          have HKL := hide hkl2
          have HBE := hide (beginsL_end l)
          have HTS : Hid (decide (t ∈ S) = false) := decide_eq_false (fun h => HNOT.out (by
            have h1 := (hmemb.out t).1 h
            rw [List.take_of_length_le (by have := HLEN.out; omega)] at h1
            exact h1))
          clear hkl2 hje
          go_wp2_with (at_builtin; refine wpList_append_src rfl (.tmp 89) (.tmp 90) _ rfl wo.heap.size 50 _ 3 40 Try.underlying22 info_piece rfl (by decide) (some ⟨wo.heap.size, 0, none⟩) 0 0 [] rfl O1.out b len cap news rfl O5.out O2.out O6.out O3.out O4.out (by simp) ?_; intro A7 c7 w7 h7 u7 a7; have H7 := hide h7; have U7 := hide u7; clear h7 u7 a7)
          have h1 := H7.out
          simp only [Nat.zero_add, List.nil_append] at h1
          have UV := hide (show Upd [] wo w7 from UA.out.trans (U7.out.mono (l' := [wo.heap.size]) (by simp)) (by simp) |>.mono (by simp))
          have PF : PcsAt w7.heap.size w7 A7 l ∧ len ≤ c7 := by
            rcases Nat.eq_zero_or_pos len with h0 | h0
            · refine ⟨fun i q hq => ?_, by omega⟩
              have := (List.getElem?_eq_some_iff.1 hq).1
              have := HLEN.out
              omega
            · obtain ⟨g, r, rfl, hg, hb, hc⟩ := own_open3 h1 h0
              exact ⟨(HCOPY.out g r w7 UV.out hg h0 hb).pcs, hc⟩
          have BG := begins_use A7 c7 l w7 PF.1 (Nat.le_refl _) HM.out (valid_any0 HV.out) k (by have := HLEN.out; omega) (by have := HLEN.out; have := PF.2; omega) (rl := S) (by
            have e : k = l.length := by rw [HLEN.out]; exact HKL.out
            rw [e, HBE.out, ← HSS.out, e, List.take_of_length_le (Nat.le_refl _)])
          rw [HLEN.out] at BG
          have HBG := hide BG
          clear PF BG h1
          (try simp only [Nat.zero_add])
          go_wp2_with fail
          refine HBG.out.mono ?_
          rintro e w8 ⟨A8, c8, rfl, i8, u⟩
          have U8 := hide u
          have I8 := hide i8
          clear u i8
          go_wp2_with fail
          refine (ints_yes A8 S.length c8 S A1 S.length c1 w8 I8.out (I1.out.upd (((U3.out.trans hu.out (by simp)).trans UV.out (by simp)).trans U8.out (by simp)) (Nat.le_refl _) (by simp)) (Nat.le_refl _) (((U3.out.trans hu.out (by simp)).trans UV.out (by simp)).trans U8.out (by simp)).size hsm).mono ?_
          rintro e w9 ⟨rfl, u⟩
          have U9 := hide u
          clear u
          go_wp2_with fail
          have HA := lhas_any A1 S.length c1 S t w9 (I1.out.upd ((((U3.out.trans hu.out (by simp)).trans UV.out (by simp)).trans U8.out (by simp)).trans U9.out (by simp)) (Nat.le_refl _) (by simp)) hsm
          rw [HTS.out] at HA
          refine HA.mono ?_
          rintro e w' ⟨rfl, rfl⟩
          go_wp2_with fail
          go_ret
          exact ⟨rfl, (((U06.out.trans UV.out (by simp)).trans U8.out (by simp)).trans U9.out (by simp)).toBelow (Nat.le_refl _) (by simp)⟩
        · -- a join is missed
          have hjlt := (List.getElem?_eq_some_iff.1 hp).1
          have hkl : (k : Int) < len := by have := HLEN.out; omega
          have hlen0 : 0 < len := by omega
          have HPP := hide hp
          have HNOP := hide hpno
          have HBN := hide (begins_none HV.out.2.2 HV.out.1 hp hp0 hpno)
          have HBF := hide (beginsL_free hp)
          have HVF := hide (valid_free (valid_any0 HV.out) hp)
          obtain ⟨jn, hjn⟩ : ∃ jn, p.join = jn := ⟨_, rfl⟩
          have HJN := hide hjn
          have hjn0 : 0 ≤ jn := by rw [← hjn]; exact hp0
          have HTS : Hid (decide (jn ∈ S) = false) := decide_eq_false (fun h => HNOP.out (by rw [HJN.out]; exact (hmemb.out jn).1 h))
          clear hp hpno hp0 hjn hjlt
          go_wp2_with (at_builtin; refine wpList_append_src rfl (.tmp 89) (.tmp 90) _ rfl wo.heap.size 50 _ 3 40 Try.underlying22 info_piece rfl (by decide) (some ⟨wo.heap.size, 0, none⟩) 0 0 [] rfl O1.out b len cap news rfl O5.out O2.out O6.out O3.out O4.out (by simp) ?_; intro A7 c7 w7 h7 u7 a7; have H7 := hide h7; have U7 := hide u7; clear h7 u7 a7)
          have h1 := H7.out
          simp only [Nat.zero_add, List.nil_append] at h1
          have UV := hide (show Upd [] wo w7 from UA.out.trans (U7.out.mono (l' := [wo.heap.size]) (by simp)) (by simp) |>.mono (by simp))
          obtain ⟨g, r, rfl, hg, hb, hcc⟩ := own_open3 h1 hlen0
          have PI := hide (HCOPY.out g r w7 UV.out hg hlen0 hb)
          have U67 := hide (U6.out.trans UV.out (by simp))
          have HPV := HP.out.upd U67.out (Nat.le_refl _) (by simp)
          obtain ⟨b', o', pa', pn', pc', eb, _, _, _, x0, x1, x2⟩ := HPV k p HPP.out
          rw [HJN.out] at x2
          have BG := begins_use b cap l w7 HPV U67.out.size HM.out (valid_any0 HV.out) k (by have := HLEN.out; omega) HC.out (rl := []) HBN.out
          rw [HLEN.out] at BG
          have HBG := hide BG
          have HG := hide hg
          have HGC := hide hcc
          subst eb
          clear BG h1 HPV hg hb hcc x0 x1
          (try simp only [Nat.zero_add])
          go_wp2_with fail
          refine HBG.out.mono ?_
          rintro e w8 ⟨A8, c8, rfl, i8, u⟩
          have U8 := hide u
          have y2 := (u.cell (p := ⟨b', o' + k * 3 + 2, none⟩) (World.block_lt_of_cell? _ _ x2) (by simp)).trans x2
          have PI8 := hide (PI.out.upd u (by have := U67.out.size; exact this) (by simp))
          obtain ⟨cs, hcb, _, hca⟩ := PI8.out
          obtain ⟨_, _, _, _, _, _, _, hcj⟩ := hca k p HPP.out
          have z0 := (hcb.cell (k * 3 + 2)).trans hcj
          have z1 := hcb.frozen (k * 3 + 2)
          have PS := hide (PI8.out.set (by have := U67.out.size; have := u.size; omega) HPP.out (-1))
          have us := (Upd.refl [g] w8).setCell (p := ⟨g, k * 3 + 2, none⟩) (.inl (by simp)) (.int .i64 (-1))
          have U9 := hide (show Upd [] wo (w8.setCell ⟨g, k * 3 + 2, none⟩ (.int .i64 (-1))) from ((UV.out.trans u (by simp)).trans us (fun x hx => by right; simp at hx; have := HG.out; omega)))
          have BF := begins_use (some ⟨g, 0, none⟩) c7 (l.set k (p.at_ (-1))) _ PS.out.pcs (Nat.le_refl _) (by rw [List.length_set]; exact HM.out) HVF.out k (by rw [List.length_set]; have := HLEN.out; omega) (by rw [List.length_set]; have := HLEN.out; have := HGC.out; omega) (rl := S) (by rw [HBF.out, HSS.out])
          rw [List.length_set, HLEN.out] at BF
          have HBFF := hide BF
          clear u i8 x2 hcb hca hcj us BF
          go_wp2_with fail
          refine HBFF.out.mono ?_
          rintro e w9 ⟨A9, c9, rfl, i9, u⟩
          have U10 := hide (U9.out.trans u (by simp))
          have I9 := hide i9
          clear u i9
          go_wp2_with fail
          refine (ints_yes A9 S.length c9 S A1 S.length c1 w9 I9.out (I1.out.upd ((U3.out.trans hu.out (by simp)).trans U10.out (by simp)) (Nat.le_refl _) (by simp)) (Nat.le_refl _) ((U3.out.trans hu.out (by simp)).trans U10.out (by simp)).size hsm).mono ?_
          rintro e w10 ⟨rfl, u⟩
          have U11 := hide (U10.out.trans u (by simp))
          clear u
          go_wp2_with fail
          have HA := lhas_any A1 S.length c1 S jn w10 (I1.out.upd ((U3.out.trans hu.out (by simp)).trans U11.out (by simp)) (Nat.le_refl _) (by simp)) hsm
          rw [HTS.out] at HA
          refine HA.mono ?_
          rintro e w' ⟨rfl, rfl⟩
          go_wp2_with fail
          go_ret
          exact ⟨rfl, (U06.out.trans U11.out (by simp)).toBelow (Nat.le_refl _) (by simp)⟩
end Go.Proofs.Yteehjciepccomaa
