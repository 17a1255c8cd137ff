/-
  ItemFewest: the walk.
-/
import Derived.Test.YtpkeimdlcafcnaaIBefore
import Derived.Test.YtpkeimdlcafcnaaILawLe
namespace Go.Proofs.Ytpkeimdlcafcnaa
open Go.RowKit
set_option maxRecDepth 100000
set_option maxHeartbeats 40000000

theorem itemFewest_walk (id x0 x1 x2 x3 x4 x5 set odd : Int) (w0 : World) (hid : Fits64 id) (h0 : Fits64 x0) (h1 : Fits64 x1) (h2 : Fits64 x2) (h3 : Fits64 x3) (h4 : Fits64 x4) (h5 : Fits64 x5) (hset : Fits64 set) (_hodd : Fits64 odd) :
    Calls Try.prog 5 #[.int .i64 id, .agg #[.int .i64 x0, .int .i64 x1, .int .i64 x2, .int .i64 x3, .int .i64 x4, .int .i64 x5], .int .i64 set, .int .i64 odd] w0 fun e w' => e = .returned (.bool true) ∧ Upd [] w0 w' := by
  have hok := madeS_ok id x0 x1 x2 x3 x4 x5
  obtain ⟨i, hi⟩ : ∃ i, madeS id x0 x1 x2 x3 x4 x5 = i := ⟨_, rfl⟩
  rw [hi] at hok
  have HI := hide hi
  have HOK := hide hok
  clear hi hok
  go_enter Try.func5, Try.ntmps5
  obtain ⟨w1, hw⟩ : ∃ x, w0.alloc (.cells #[.int .i64 x0, .int .i64 x1, .int .i64 x2, .int .i64 x3, .int .i64 x4, .int .i64 x5] 25) = x := ⟨_, rfl⟩
  have UU1 := hide (show Upd [] w0 w1 by rw [← hw]; exact (Upd.refl [] _).alloc _)
  have BX1 := hide (show Blk w1 w0.heap.size 25 [.int .i64 x0, .int .i64 x1, .int .i64 x2, .int .i64 x3, .int .i64 x4, .int .i64 x5] by rw [← hw]; exact Blk.new w0 _ _)
  have HW := hide hw
  clear hw
  go_wp2_with fail
  rw [HW.out]
  have BX := hide BX1.out
  refine (sane_any _).mono ?_
  rintro e w2 ⟨rfl, u⟩
  have UU2 := hide (UU1.out.trans u (by simp))
  have BX := hide (keepX BX.out u)
  clear u
  have y0 := BX.out.cell 0
  have y1 := BX.out.cell 1
  have y2 := BX.out.cell 2
  have y3 := BX.out.cell 3
  have y4 := BX.out.cell 4
  have y5 := BX.out.cell 5
  go_wp2_with fail
  refine (made_any id x0 x1 x2 x3 x4 x5 _ hid h0 h1 h2 h3 h4 h5 i HI.out).mono ?_
  rintro e w3 ⟨ta, tc, ka, kc, rfl, it, u⟩
  have UU3 := hide (UU2.out.trans u (by simp))
  have BX := hide (keepX BX.out u)
  have IT := hide it
  clear it u y0 y1 y2 y3 y4 y5
  obtain ⟨w4, hw⟩ : ∃ x, w3.alloc (.cells #[.int .i64 i.id, .int .i64 i.kind, .int .i64 i.len, .slice ta i.trims.length tc, .slice ka i.talks.length kc, .int .i64 i.artist, .int .i64 i.tempo, .int .i64 i.lang] 24) = x := ⟨_, rfl⟩
  have u : Upd [] w3 w4 := by rw [← hw]; exact (Upd.refl [] _).alloc _
  have BL4 := hide (show Blk w4 w3.heap.size 24 [.int .i64 i.id, .int .i64 i.kind, .int .i64 i.len, .slice ta i.trims.length tc, .slice ka i.talks.length kc, .int .i64 i.artist, .int .i64 i.tempo, .int .i64 i.lang] by rw [← hw]; exact Blk.new w3 _ _)
  have IT4 := hide (IT.out.upd u)
  have UU4 := hide (UU3.out.trans u (by simp))
  have BX := hide (keepX BX.out u)
  have HW := hide hw
  clear hw u
  go_upto_region 4 with fail
  rw [HW.out]
  have k0 := BL4.out.cell 0
  have k1 := BL4.out.cell 1
  have k2 := BL4.out.cell 2
  have k3 := BL4.out.cell 3
  have k4 := BL4.out.cell 4
  have k5 := BL4.out.cell 5
  have k6 := BL4.out.cell 6
  have k7 := BL4.out.cell 7
  have hlt := BL4.out.lt
  go_wp2_with fail
  obtain ⟨s, hs⟩ : ∃ s, (pickS set 16).toNat = s := ⟨_, rfl⟩
  have HS := hide hs
  clear hs
  have hok4 := HOK.out.2.1.1.2
  have hset0 := hset.1
  have hset1 := hset.2
  refine (cutOf_any i ta i.trims.length tc ka i.talks.length kc set _ hok4 hset0 hset1).mono ?_
  rintro e w5 ⟨ca, cc, rfl, ic, u⟩
  have BL5 := hide (BL4.out.upd u (by simp))
  have IT5 := hide (IT4.out.upd u)
  have UU5 := hide (UU4.out.trans u (by simp))
  have BX := hide (keepX BX.out u)
  have CI := hide (it_own_ints ic)
  clear ic
  clear u
  clear k0 k1 k2 k3 k4 k5 k6 k7 hlt
  have k0 := BL5.out.cell 0
  have k1 := BL5.out.cell 1
  have k2 := BL5.out.cell 2
  have k3 := BL5.out.cell 3
  have k4 := BL5.out.cell 4
  have k5 := BL5.out.cell 5
  have k6 := BL5.out.cell 6
  have k7 := BL5.out.cell 7
  have hlt := BL5.out.lt
  rw [HS.out] at CI ⊢
  obtain ⟨cut, hcut⟩ : ∃ c, bitsS s i.trims.length = c := ⟨_, rfl⟩
  rw [hcut] at CI ⊢
  have HCUT := hide hcut
  have HCO := hide (show CutOk i.trims.length cut by rw [← hcut]; exact bitsS_cutOk _ _ hok4)
  obtain ⟨n, hn⟩ : ∃ n, cutLen i cut = n := ⟨_, rfl⟩
  have HN := hide hn
  clear hcut hn
  go_wp2_with fail
  refine (use_length IT5.out HOK.out tc kc ca cut.length cc cut CI.out HCO.out n HN.out).mono ?_
  rintro e w6 ⟨rfl, u⟩
  have BL6 := hide (BL5.out.upd u (by simp))
  have IT6 := hide (IT5.out.upd u)
  have UU6 := hide (UU5.out.trans u (by simp))
  have BX := hide (keepX BX.out u)
  have CI := hide (keepI CI.out u)
  clear u
  clear k0 k1 k2 k3 k4 k5 k6 k7 hlt
  have k0 := BL6.out.cell 0
  have k1 := BL6.out.cell 1
  have k2 := BL6.out.cell 2
  have k3 := BL6.out.cell 3
  have k4 := BL6.out.cell 4
  have k5 := BL6.out.cell 5
  have k6 := BL6.out.cell 6
  have k7 := BL6.out.cell 7
  have hlt := BL6.out.lt
  obtain ⟨best, r, hb1, hb2, hb3, hb4⟩ := best_yes (i := i) n s (by rw [HCUT.out]; exact HN.out)
  have HB1 := hide hb1
  have HB2 := hide hb2
  have HB3 := hide hb3
  have HB4 := hide hb4
  clear hb1 hb2 hb3 hb4
  go_wp2_with fail
  refine (use_cut IT6.out HOK.out tc kc n best HB1.out).mono ?_
  rintro e w7 ⟨ba, bc, rfl, il, u⟩
  have BL7 := hide (BL6.out.upd u (by simp))
  have IT7 := hide (IT6.out.upd u)
  have UU7 := hide (UU6.out.trans u (by simp))
  have BX := hide (keepX BX.out u)
  have CI := hide (keepI CI.out u)
  have BI := hide il
  clear il
  clear u
  clear k0 k1 k2 k3 k4 k5 k6 k7 hlt
  have k0 := BL7.out.cell 0
  have k1 := BL7.out.cell 1
  have k2 := BL7.out.cell 2
  have k3 := BL7.out.cell 3
  have k4 := BL7.out.cell 4
  have k5 := BL7.out.cell 5
  have k6 := BL7.out.cell 6
  have k7 := BL7.out.cell 7
  have hlt := BL7.out.lt
  have HBO := hide (show CutOk i.trims.length best by rw [← HB2.out]; exact bitsS_cutOk _ _ hok4)
  go_wp2_with fail
  refine (use_length IT7.out HOK.out tc kc ba best.length bc best BI.out HBO.out n HB3.out).mono ?_
  rintro e w8 ⟨rfl, u⟩
  have BL8 := hide (BL7.out.upd u (by simp))
  have IT8 := hide (IT7.out.upd u)
  have UU8 := hide (UU7.out.trans u (by simp))
  have BX := hide (keepX BX.out u)
  have CI := hide (keepI CI.out u)
  have BI := hide (keepI BI.out u)
  clear u
  clear k0 k1 k2 k3 k4 k5 k6 k7 hlt
  have k0 := BL8.out.cell 0
  have k1 := BL8.out.cell 1
  have k2 := BL8.out.cell 2
  have k3 := BL8.out.cell 3
  have k4 := BL8.out.cell 4
  have k5 := BL8.out.cell 5
  have k6 := BL8.out.cell 6
  have k7 := BL8.out.cell 7
  have hlt := BL8.out.lt
  have hml : cut.length ≤ maxLen := by have := HCO.out.2; unfold maxLen; omega
  have hml2 : best.length ≤ maxLen := by have := HBO.out.2; unfold maxLen; omega
  have HBF := hide (show decide (cutCmp cut best < 0) = false from by have := HB4.out s (by rw [HCUT.out]; exact HN.out); rw [HCUT.out] at this; exact decide_eq_false (by omega))
  go_wp2_with fail
  refine (refBefore ca cut.length cc cut ba best.length bc best w8 CI.out BI.out hml hml2).mono ?_
  rintro e w9 ⟨rfl, u⟩
  have BL9 := hide (BL8.out.upd u (by simp))
  have IT9 := hide (IT8.out.upd u)
  have UU9 := hide (UU8.out.trans u (by simp))
  have BX := hide (keepX BX.out u)
  have CI := hide (keepI CI.out u)
  have BI := hide (keepI BI.out u)
  clear u
  clear k0 k1 k2 k3 k4 k5 k6 k7 hlt
  have k0 := BL9.out.cell 0
  have k1 := BL9.out.cell 1
  have k2 := BL9.out.cell 2
  have k3 := BL9.out.cell 3
  have k4 := BL9.out.cell 4
  have k5 := BL9.out.cell 5
  have k6 := BL9.out.cell 6
  have k7 := BL9.out.cell 7
  have hlt := BL9.out.lt
  rw [HBF.out]
  clear BI CI
  obtain ⟨L, hL⟩ : ∃ l, lengthsS i = l := ⟨_, rfl⟩
  have HL := hide hL
  clear hL
  go_wp2_with fail
  refine (use_lengths IT9.out HOK.out tc kc L HL.out).mono ?_
  rintro e w10 ⟨la, lc, rfl, il, u⟩
  have BL10 := hide (BL9.out.upd u (by simp))
  have IT10 := hide (IT9.out.upd u)
  have UU10 := hide (UU9.out.trans u (by simp))
  have BX := hide (keepX BX.out u)
  have LI := hide il
  clear il
  clear u
  clear k0 k1 k2 k3 k4 k5 k6 k7 hlt
  have k0 := BL10.out.cell 0
  have k1 := BL10.out.cell 1
  have k2 := BL10.out.cell 2
  have k3 := BL10.out.cell 3
  have k4 := BL10.out.cell 4
  have k5 := BL10.out.cell 5
  have k6 := BL10.out.cell 6
  have k7 := BL10.out.cell 7
  have hlt := BL10.out.lt
  have hne : L ≠ [] := by rw [← HL.out]; exact lens_ne i
  obtain ⟨lb, lo, rfl, hrow⟩ := ints_row LI.out hne
  have ROW := hide hrow
  clear hrow
  clear LI
  have hll : (L.length : Int) ≤ i.len + 1 - cutLen i (bitsS 15 i.trims.length) := by
    refine asc_len (by rw [← HL.out]; exact lengthsS_asc i) (fun x hx => lens_bounds HOK.out (by rw [HL.out]; exact hx)) ?_
    have := lens_bounds HOK.out (x := i.len) (mem_lens.2 ⟨0, cutLen_full i⟩)
    omega
  have hlp := cutLen_pos HOK.out 15
  have hlen2 := HOK.out.1.2.2.2
  have hl9 : (L.length : Int) ≤ 9000000000 := by omega
  clear hll hlp
  go_wp2_with fail
  go_loopw [19, 20] (fun s19 s20 wr => ∃ (k : Nat) (lf : Bool), k ≤ L.length ∧ s20 = .int .i64 k ∧ s19 = .bool lf ∧ Hid (lf = decide (odd ∈ L.take k)) ∧ Hid (Upd [] w10 wr)) (fun _ k _ => L.length - (intOf k).toNat)
  case atStart => exact ⟨0, false, Nat.zero_le _, rfl, rfl, hide rfl, Upd.refl _ _⟩
  case round =>
      obtain ⟨k, lf, hk, rfl, rfl, hlf, hu⟩ := hrel
      obtain ⟨wo, rfl⟩ : ∃ wo : World, wo = wr := ⟨_, rfl⟩
      by_cases hkl : k < L.length
      case neg =>
        obtain rfl : k = L.length := by omega
        have hki : ¬ (L.length : Int) < L.length := by omega
        have HLF := hide (show lf = decide (odd ∈ L) by rw [hlf.out, List.take_of_length_le (Nat.le_refl _)])
        have UO := hide (UU10.out.trans hu.out (by simp))
        have ITo := hide (IT10.out.upd hu.out)
        have BLo := BL10.out.upd hu.out (by simp)
        clear k0 k1 k2 k3 k4 k5 k6 k7 hlt
        have k0 := BLo.cell 0
        have k1 := BLo.cell 1
        have k2 := BLo.cell 2
        have k3 := BLo.cell 3
        have k4 := BLo.cell 4
        have k5 := BLo.cell 5
        have k6 := BLo.cell 6
        have k7 := BLo.cell 7
        clear BLo
        by_cases hin : odd ∈ L
        case pos =>
          obtain ⟨t, ht⟩ := mem_lens.1 (by rw [HL.out]; exact hin : odd ∈ lengthsS i)
          obtain ⟨b2, r2, hc1, _, _, _⟩ := best_yes odd t ht
          have HC1 := hide hc1
          clear hc1 ht
          obtain rfl : lf = true := by rw [HLF.out]; exact decide_eq_true hin
          go_wp2_with fail
          refine (use_cut ITo.out HOK.out tc kc odd b2 HC1.out).mono ?_
          rintro e wq ⟨qa, qc, rfl, il, u⟩
          have UQ := hide (UO.out.trans u (by simp))
          clear u il
          go_wp2_with fail
          go_ret
          exact ⟨rfl, UQ.out⟩
        have HC1 := hide (best_no (i := i) odd (fun t ht => hin (by rw [← HL.out]; exact mem_lens.2 ⟨t, ht⟩)))
        obtain rfl : lf = false := by rw [HLF.out]; exact decide_eq_false hin
        go_wp2_with fail
        refine (use_nocut ITo.out HOK.out tc kc odd HC1.out).mono ?_
        rintro e wq ⟨rfl, u⟩
        have UQ := hide (UO.out.trans u (by simp))
        clear u
        go_wp2_with fail
        go_ret
        exact ⟨rfl, UQ.out⟩
      clear k0 k1 k2 k3 k4 k5 k6 k7 hlt
      have hki : (k : Int) < L.length := by omega
      obtain ⟨x, hx⟩ : ∃ x, L[k]? = some x := ⟨_, List.getElem?_eq_getElem hkl⟩
      have hwk : IntKind.i64.wrap ((k : Int) + 1) = (k : Int) + 1 := Go.IntWalk.i64_in _ (by omega)
      have cx := (keepR ROW.out hu.out).2 k x hx
      have HST := hide (show decide (odd ∈ L.take (k + 1)) = (lf || decide (x = odd)) by
        rw [hlf.out, ← Bool.decide_or]
        refine decide_eq_decide.2 ?_
        rw [List.take_add_one, hx, Option.toList_some, List.mem_append, List.mem_singleton]
        exact or_congr_right ⟨Eq.symm, Eq.symm⟩)
      clear hx
      cases lf with
      | true =>
        go_wp2_with fail
        go_roundw
        case rel => exact ⟨k + 1, true, by omega, by go_num, rfl, hide (by rw [HST.out]; rfl), hu⟩
        case measure => simp [intOf] <;> omega
      | false =>
        by_cases e1 : x = odd
        case pos =>
          have d1 : (x == odd) = true := by simp [e1]
          go_wp2_with fail
          go_roundw
          case rel => exact ⟨k + 1, true, by omega, by go_num, rfl, hide (by rw [HST.out, decide_eq_true e1]; rfl), hu⟩
          case measure => simp [intOf] <;> omega
        case neg =>
          have d1 : (x == odd) = false := by simp [e1]
          go_wp2_with fail
          go_roundw
          case rel => exact ⟨k + 1, false, by omega, by go_num, rfl, hide (by rw [HST.out, decide_eq_false e1]; rfl), hu⟩
          case measure => simp [intOf] <;> omega
end Go.Proofs.Ytpkeimdlcafcnaa
