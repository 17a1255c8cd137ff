/-
  ItemPlaces: the walk.
-/
import Derived.Test.YtpkeimdlcafcnaaIPlaceP
import Derived.Test.YtpkeimdlcafcnaaISane
namespace Go.Proofs.Ytpkeimdlcafcnaa
open Go.RowKit
set_option maxRecDepth 100000
set_option maxHeartbeats 40000000

theorem keepX {W W' : World} {g t : Nat} {cs : List Value} (h : Blk W g t cs) (hu : Upd [] W W') : Blk W' g t cs := h.upd hu (by simp)
theorem itemPlaces_walk (id x0 x1 x2 x3 x4 x5 set second : Int) (w0 : World) (hid : Fits64 id) (h0 : Fits64 x0) (h1 : Fits64 x1) (h2 : Fits64 x2) (h3 : Fits64 x3) (h4 : Fits64 x4) (h5 : Fits64 x5) (hset : Fits64 set) (hsec : Fits64 second) :
    Calls Try.prog 6 #[.int .i64 id, .agg #[.int .i64 x0, .int .i64 x1, .int .i64 x2, .int .i64 x3, .int .i64 x4, .int .i64 x5], .int .i64 set, .int .i64 second] w0 fun e w' => e = .returned (.bool true) ∧ Upd [] w0 w' := by
  have hok := madeS_ok id x0 x1 x2 x3 x4 x5
  obtain ⟨i, hi⟩ : ∃ i, madeS id x0 x1 x2 x3 x4 x5 = i := ⟨_, rfl⟩
  rw [hi] at hok
  have HI := hide hi
  have HOK := hide hok
  clear hi hok
  go_enter Try.func6, Try.ntmps6
  obtain ⟨w1, hw⟩ : ∃ x, w0.alloc (.cells #[.int .i64 x0, .int .i64 x1, .int .i64 x2, .int .i64 x3, .int .i64 x4, .int .i64 x5] 25) = x := ⟨_, rfl⟩
  have UU1 := hide (show Upd [] w0 w1 by rw [← hw]; exact (Upd.refl [] _).alloc _)
  have BX1 := hide (show Blk w1 w0.heap.size 25 [.int .i64 x0, .int .i64 x1, .int .i64 x2, .int .i64 x3, .int .i64 x4, .int .i64 x5] by rw [← hw]; exact Blk.new w0 _ _)
  have HW := hide hw
  clear hw
  go_wp2_with fail
  rw [HW.out]
  have BX := hide BX1.out
  refine (sane_any _).mono ?_
  rintro e w2 ⟨rfl, u⟩
  have UU2 := hide (UU1.out.trans u (by simp))
  have BX := hide (keepX BX.out u)
  clear u
  have y0 := BX.out.cell 0
  have y1 := BX.out.cell 1
  have y2 := BX.out.cell 2
  have y3 := BX.out.cell 3
  have y4 := BX.out.cell 4
  have y5 := BX.out.cell 5
  go_wp2_with fail
  refine (made_any id x0 x1 x2 x3 x4 x5 _ hid h0 h1 h2 h3 h4 h5 i HI.out).mono ?_
  rintro e w3 ⟨ta, tc, ka, kc, rfl, it, u⟩
  have UU3 := hide (UU2.out.trans u (by simp))
  have BX := hide (keepX BX.out u)
  have IT := hide it
  clear it u y0 y1 y2 y3 y4 y5
  obtain ⟨w4, hw⟩ : ∃ x, w3.alloc (.cells #[.int .i64 i.id, .int .i64 i.kind, .int .i64 i.len, .slice ta i.trims.length tc, .slice ka i.talks.length kc, .int .i64 i.artist, .int .i64 i.tempo, .int .i64 i.lang] 24) = x := ⟨_, rfl⟩
  have u : Upd [] w3 w4 := by rw [← hw]; exact (Upd.refl [] _).alloc _
  have BL4 := hide (show Blk w4 w3.heap.size 24 [.int .i64 i.id, .int .i64 i.kind, .int .i64 i.len, .slice ta i.trims.length tc, .slice ka i.talks.length kc, .int .i64 i.artist, .int .i64 i.tempo, .int .i64 i.lang] by rw [← hw]; exact Blk.new w3 _ _)
  have IT4 := hide (IT.out.upd u)
  have UU4 := hide (UU3.out.trans u (by simp))
  have BX := hide (keepX BX.out u)
  have HW := hide hw
  clear hw u
  go_upto_region 4 with fail
  rw [HW.out]
  have k0 := BL4.out.cell 0
  have k1 := BL4.out.cell 1
  have k2 := BL4.out.cell 2
  have k3 := BL4.out.cell 3
  have k4 := BL4.out.cell 4
  have k5 := BL4.out.cell 5
  have k6 := BL4.out.cell 6
  have k7 := BL4.out.cell 7
  have hlt := BL4.out.lt
  go_wp2_with fail
  refine (cutOf_any i ta i.trims.length tc ka i.talks.length kc set _ HOK.out.2.1.1.2 hset.1 hset.2).mono ?_
  rintro e w5 ⟨ca, cc, rfl, ic, u⟩
  have BL5 := hide (BL4.out.upd u (by simp))
  have IT5 := hide (IT4.out.upd u)
  have UU5 := hide (UU4.out.trans u (by simp))
  have BX := hide (keepX BX.out u)
  have CI := hide (it_own_ints ic)
  clear ic
  clear u
  clear k0 k1 k2 k3 k4 k5 k6 k7 hlt
  have k0 := BL5.out.cell 0
  have k1 := BL5.out.cell 1
  have k2 := BL5.out.cell 2
  have k3 := BL5.out.cell 3
  have k4 := BL5.out.cell 4
  have k5 := BL5.out.cell 5
  have k6 := BL5.out.cell 6
  have k7 := BL5.out.cell 7
  have hlt := BL5.out.lt
  obtain ⟨cut, hcut⟩ : ∃ c, bitsS (pickS set 16).toNat i.trims.length = c := ⟨_, rfl⟩
  rw [hcut] at CI ⊢
  have HCO := hide (show CutOk i.trims.length cut by rw [← hcut]; exact bitsS_cutOk _ _ HOK.out.2.1.1.2)
  have HROW := hide (show Row 0 (cutSps i.trims cut) by rw [← hcut]; exact bits_row HOK.out _)
  have HTO := hide (show ∀ s ∈ cutSps i.trims cut, s.to_ ≤ i.len by rw [← hcut]; exact bits_to HOK.out _)
  obtain ⟨n, hn⟩ : ∃ n, cutLen i cut = n := ⟨_, rfl⟩
  have hn1 : 1 ≤ n := by rw [← hn, ← hcut]; exact cutLen_pos HOK.out _
  have hnl : n ≤ i.len := by rw [← hn]; exact cutLen_le HOK.out cut
  have hlen2 := HOK.out.1.2.2.2
  have HN := hide hn
  clear hcut hn
  go_wp2_with fail
  refine (use_length IT5.out HOK.out tc kc ca cut.length cc cut CI.out HCO.out n HN.out).mono ?_
  rintro e w6 ⟨rfl, u⟩
  have BL6 := hide (BL5.out.upd u (by simp))
  have IT6 := hide (IT5.out.upd u)
  have UU6 := hide (UU5.out.trans u (by simp))
  have BX := hide (keepX BX.out u)
  have CI := hide (keepI CI.out u)
  clear u
  clear k0 k1 k2 k3 k4 k5 k6 k7 hlt
  have k0 := BL6.out.cell 0
  have k1 := BL6.out.cell 1
  have k2 := BL6.out.cell 2
  have k3 := BL6.out.cell 3
  have k4 := BL6.out.cell 4
  have k5 := BL6.out.cell 5
  have k6 := BL6.out.cell 6
  have k7 := BL6.out.cell 7
  have hlt := BL6.out.lt
  go_wp2_with fail
  obtain ⟨a, ha⟩ : ∃ a, pickS second n = a := ⟨_, rfl⟩
  have hab := pickS_bounds second n (by omega)
  rw [ha] at hab
  obtain ⟨ha0, han⟩ := hab
  have PK := hide (lawPick second n w6 hsec.1 hsec.2 (by omega) (by omega))
  rw [ha] at PK
  clear ha
  refine (PK.out).mono ?_
  rintro e w' ⟨rfl, rfl⟩
  obtain ⟨q, hq⟩ : ∃ q, placeS i.trims cut a = q := ⟨_, rfl⟩
  have hsp := placeL_spec HROW.out a
  rw [← placeS_eq, hq] at hsp
  have hql : q < i.len := by rw [← hq, placeS_eq]; exact placeL_lt HROW.out a i.len (by have := HN.out; rw [cutLen_eq] at this; omega) HTO.out
  have haq : a ≤ q := hsp.1
  have HH := hide (show heardS i.trims cut q q = a by rw [heardS_eq i.trims q cut q 0 HROW.out, if_neg hsp.2.1]; exact hsp.2.2)
  have HQ := hide hq
  clear hq hsp
  go_wp2_with fail
  refine (use_place IT6.out HOK.out tc kc ca cut.length cc cut CI.out HCO.out a q ha0 (by rw [HN.out]; exact han) HQ.out).mono ?_
  rintro e w7 ⟨rfl, u⟩
  have BL7 := hide (BL6.out.upd u (by simp))
  have IT7 := hide (IT6.out.upd u)
  have UU7 := hide (UU6.out.trans u (by simp))
  have BX := hide (keepX BX.out u)
  have CI := hide (keepI CI.out u)
  clear u
  clear k0 k1 k2 k3 k4 k5 k6 k7 hlt
  have k0 := BL7.out.cell 0
  have k1 := BL7.out.cell 1
  have k2 := BL7.out.cell 2
  have k3 := BL7.out.cell 3
  have k4 := BL7.out.cell 4
  have k5 := BL7.out.cell 5
  have k6 := BL7.out.cell 6
  have k7 := BL7.out.cell 7
  have hlt := BL7.out.lt
  go_wp2_with fail
  refine (use_heard IT7.out HOK.out tc kc ca cut.length cc cut CI.out HCO.out q a (by omega) hql HH.out).mono ?_
  rintro e w8 ⟨rfl, u⟩
  have BL8 := hide (BL7.out.upd u (by simp))
  have IT8 := hide (IT7.out.upd u)
  have UU8 := hide (UU7.out.trans u (by simp))
  have BX := hide (keepX BX.out u)
  have CI := hide (keepI CI.out u)
  clear u
  clear k0 k1 k2 k3 k4 k5 k6 k7 hlt
  have k0 := BL8.out.cell 0
  have k1 := BL8.out.cell 1
  have k2 := BL8.out.cell 2
  have k3 := BL8.out.cell 3
  have k4 := BL8.out.cell 4
  have k5 := BL8.out.cell 5
  have k6 := BL8.out.cell 6
  have k7 := BL8.out.cell 7
  have hlt := BL8.out.lt
  have hwa : IntKind.i64.wrap (a + 1) = a + 1 := Go.IntWalk.i64_in _ (by omega)
  have hwq : IntKind.i64.wrap (q + 1) = q + 1 := Go.IntWalk.i64_in _ (by omega)
  go_upto_if 92 with fail
  go_cut [18, 19, 20, 21, 22] from 92 to 133 (fun _ _ _ _ _ wx => Hid (Upd [] w8 wx))
  case first =>
    by_cases h1 : a + 1 < n
    case neg =>
      go_wp2_with fail
      go_meet
      exact Upd.refl _ _
    obtain ⟨q2, hq2⟩ : ∃ q2, placeS i.trims cut (a + 1) = q2 := ⟨_, rfl⟩
    have hnx := placeL_next HROW.out a
    rw [← placeS_eq, HQ.out, ← placeS_eq, hq2] at hnx
    have hq2l : q2 < i.len := by rw [← hq2, placeS_eq]; exact placeL_lt HROW.out (a + 1) i.len (by have := HN.out; rw [cutLen_eq] at this; omega) HTO.out
    have hqq : q < q2 := hnx.1
    have HNX := hide hnx.2
    have HQ2 := hide hq2
    clear hq2 hnx
    go_wp2_with fail
    refine (use_place IT8.out HOK.out tc kc ca cut.length cc cut CI.out HCO.out (a + 1) q2 (by omega) (by rw [HN.out]; exact h1) HQ2.out).mono ?_
    rintro e w9 ⟨rfl, u⟩
    have BL9 := hide (BL8.out.upd u (by simp))
    have IT9 := hide (IT8.out.upd u)
    have UU9 := hide (UU8.out.trans u (by simp))
    have BX := hide (keepX BX.out u)
    have CI := hide (keepI CI.out u)
    have UM := hide u
    clear u
    clear k0 k1 k2 k3 k4 k5 k6 k7 hlt
    have k0 := BL9.out.cell 0
    have k1 := BL9.out.cell 1
    have k2 := BL9.out.cell 2
    have k3 := BL9.out.cell 3
    have k4 := BL9.out.cell 4
    have k5 := BL9.out.cell 5
    have k6 := BL9.out.cell 6
    have k7 := BL9.out.cell 7
    have hlt := BL9.out.lt
    go_wp2_with fail
    go_loopw [20] (fun s20 wr => ∃ k : Int, s20 = .int .i64 k ∧ q + 1 ≤ k ∧ k ≤ q2 ∧ Hid (Upd [] w9 wr)) (fun k _ => (q2 - intOf k).toNat)
    case atStart => exact ⟨q + 1, rfl, by omega, by omega, Upd.refl _ _⟩
    case round =>
      obtain ⟨k, rfl, hk1, hk2, hu⟩ := hrel
      obtain ⟨wo, rfl⟩ : ∃ wo : World, wo = wr := ⟨_, rfl⟩
      have BLo := BL9.out.upd hu.out (by simp)
      clear k0 k1 k2 k3 k4 k5 k6 k7 hlt
      have k0 := BLo.cell 0
      have k1 := BLo.cell 1
      have k2 := BLo.cell 2
      have k3 := BLo.cell 3
      have k4 := BLo.cell 4
      have k5 := BLo.cell 5
      have k6 := BLo.cell 6
      have k7 := BLo.cell 7
      by_cases hkq : k < q2
      · have hkl : k < i.len := by omega
        have hwk : IntKind.i64.wrap (k + 1) = k + 1 := Go.IntWalk.i64_in _ (by omega)
        have CO := hide (keepI CI.out hu.out)
        have ITo := hide (IT9.out.upd hu.out)
        have HG := hide (show heardS i.trims cut k k = -1 by rw [heardS_eq i.trims k cut k 0 HROW.out, if_pos (HNX.out k (by omega) hkq)])
        clear BLo
        go_wp2_with fail
        refine (use_heard ITo.out HOK.out tc kc ca cut.length cc cut CO.out HCO.out k (-1) (by omega) hkl HG.out).mono ?_
        rintro e wp ⟨rfl, u⟩
        have UP := hide (hu.out.trans u (by simp))
        have BLp := BL9.out.upd UP.out (by simp)
        clear u k0 k1 k2 k3 k4 k5 k6 k7
        have k0 := BLp.cell 0
        have k1 := BLp.cell 1
        have k2 := BLp.cell 2
        have k3 := BLp.cell 3
        have k4 := BLp.cell 4
        have k5 := BLp.cell 5
        have k6 := BLp.cell 6
        have k7 := BLp.cell 7
        clear BLp
        go_wp2_with fail
        go_roundw
        case rel => exact ⟨k + 1, rfl, by omega, by omega, UP⟩
        case measure => simp [intOf] <;> omega
      · clear BLo
        go_wp2_with fail
        go_meet
        exact UM.out.trans hu.out (by simp)
  case rest =>
    obtain ⟨w9, rfl⟩ : ∃ x : World, x = wc := ⟨_, rfl⟩
    have u := hcut.out
    have BL9 := hide (BL8.out.upd u (by simp))
    have IT9 := hide (IT8.out.upd u)
    have UU9 := hide (UU8.out.trans u (by simp))
    have BX := hide (keepX BX.out u)
    have CI := hide (keepI CI.out u)
    clear u hcut
    clear k0 k1 k2 k3 k4 k5 k6 k7 hlt
    have k0 := BL9.out.cell 0
    have k1 := BL9.out.cell 1
    have k2 := BL9.out.cell 2
    have k3 := BL9.out.cell 3
    have k4 := BL9.out.cell 4
    have k5 := BL9.out.cell 5
    have k6 := BL9.out.cell 6
    have k7 := BL9.out.cell 7
    have hlt := BL9.out.lt
    go_wp2_with fail
    obtain ⟨s, hs⟩ : ∃ s, pickS second i.len = s := ⟨_, rfl⟩
    have hsb := pickS_bounds second i.len (by omega)
    rw [hs] at hsb
    obtain ⟨hs0, hs1⟩ := hsb
    have PK2 := hide (lawPick second i.len w9 hsec.1 hsec.2 (by omega) (by omega))
    rw [hs] at PK2
    clear hs
    refine (PK2.out).mono ?_
    rintro e w' ⟨rfl, rfl⟩
    have HCL := hide (show cut.length ≤ 4 from HCO.out.2)
    have hcl9 : cut.length ≤ 9223372036854775807 := by have := HCL.out; omega
    go_wp2_with fail
    go_loopw [24, 25] (fun s24 s25 wr => ∃ (k : Nat) (lf : Bool), k ≤ cut.length ∧ s25 = .int .i64 k ∧ s24 = .bool lf ∧ Hid (lf = decide (Gone (cutSps i.trims (cut.take k)) s)) ∧ Hid (Upd [] w9 wr)) (fun _ k _ => cut.length - (intOf k).toNat)
    case atStart => exact ⟨0, false, Nat.zero_le _, rfl, rfl, hide (by rw [List.take_zero]; exact (decide_eq_false (fun ⟨_, h, _⟩ => by simp [cutSps] at h)).symm), Upd.refl _ _⟩
    case round =>
      obtain ⟨k, lf, hk, rfl, rfl, hlf, hu⟩ := hrel
      obtain ⟨wo, rfl⟩ : ∃ wo : World, wo = wr := ⟨_, rfl⟩
      have BLo := BL9.out.upd hu.out (by simp)
      have o3 := BLo.cell 3
      have HBL := hide BLo
      clear BLo
      by_cases hkl : k < cut.length
      case neg =>
        clear k0 k1 k2 k3 k4 k5 k6 k7 hlt
        have k0 := HBL.out.cell 0
        have k1 := HBL.out.cell 1
        have k2 := HBL.out.cell 2
        have k3 := HBL.out.cell 3
        have k4 := HBL.out.cell 4
        have k5 := HBL.out.cell 5
        have k6 := HBL.out.cell 6
        have k7 := HBL.out.cell 7
        have hlt := HBL.out.lt
        clear o3
        obtain rfl : k = cut.length := by omega
        have hki : ¬ (cut.length : Int) < cut.length := by omega
        have HLF := hide (show lf = decide (Gone (cutSps i.trims cut) s) by rw [hlf.out, List.take_of_length_le (Nat.le_refl _)])
        have ITo := hide (IT9.out.upd hu.out)
        have CO := hide (keepI CI.out hu.out)
        have UO := hide (UU9.out.trans hu.out (by simp))
        obtain ⟨hv, hhv⟩ : ∃ v, heardS i.trims cut s s = v := ⟨_, rfl⟩
        have hhe := heardS_eq i.trims s cut s 0 HROW.out
        rw [hhv] at hhe
        have hmon := porL_mono HROW.out (s + 1) i.len (by omega)
        have hall := porL_all HROW.out HTO.out
        have hmon0 := porL_mono HROW.out 0 s hs0
        have hlow := porL_low HROW.out 0 (Int.le_refl _)
        have hnn := HN.out
        rw [cutLen_eq] at hnn
        have hfin : (lf = true ∧ hv = -1) ∨ (lf = false ∧ 0 ≤ hv ∧ hv < n) := by
          by_cases hg : Gone (cutSps i.trims cut) s
          · exact .inl ⟨by rw [HLF.out]; exact decide_eq_true hg, by rw [hhe, if_pos hg]⟩
          · have hst := porL_step HROW.out s hg
            rw [if_neg hg] at hhe
            exact .inr ⟨by rw [HLF.out]; exact decide_eq_false hg, by omega, by omega⟩
        have HHV := hide hhv
        clear hhv hhe hmon hall hmon0 hlow hnn
        go_wp2_with fail
        refine (use_heard ITo.out HOK.out tc kc ca cut.length cc cut CO.out HCO.out s hv hs0 hs1 HHV.out).mono ?_
        rintro e wp ⟨rfl, u⟩
        have UP := hide (UO.out.trans u (by simp))
        have ITp := hide (ITo.out.upd u)
        have CP := hide (keepI CO.out u)
        have BLp := HBL.out.upd u (by simp)
        clear u k0 k1 k2 k3 k4 k5 k6 k7 hlt
        have k0 := BLp.cell 0
        have k1 := BLp.cell 1
        have k2 := BLp.cell 2
        have k3 := BLp.cell 3
        have k4 := BLp.cell 4
        have k5 := BLp.cell 5
        have k6 := BLp.cell 6
        have k7 := BLp.cell 7
        clear BLp
        go_wp2_with fail
        refine (use_noplace ITp.out HOK.out tc kc ca cut.length cc cut CP.out HCL.out n (by rw [HN.out]; exact Int.le_refl _)).mono ?_
        rintro e wq ⟨rfl, u⟩
        have UQ := hide (UP.out.trans u (by simp))
        clear u k0 k1 k2 k3 k4 k5 k6 k7
        rcases hfin with ⟨rfl, rfl⟩ | ⟨rfl, hv0, hv1⟩
        · have hm1 : (-1 : Int) < n := by omega
          go_wp2_with fail
          go_ret
          exact ⟨rfl, UQ.out⟩
        · have hvb : (hv == -1) = false := by simp; omega
          go_wp2_with fail
          go_ret
          exact ⟨rfl, UQ.out⟩
      clear k0 k1 k2 k3 k4 k5 k6 k7 hlt
      obtain ⟨x, hx⟩ : ∃ x, cut[k]? = some x := ⟨_, List.getElem?_eq_getElem hkl⟩
      have hxi := (HCO.out.1 k hkl).1
      rw [hx] at hxi
      obtain ⟨xn, rfl⟩ : ∃ xn : Nat, x = (xn : Int) := ⟨x.toNat, by have := hxi.1; simp at this; omega⟩
      have hxt : xn < i.trims.length := by have := hxi.2; simp at this; omega
      obtain ⟨sp, hsp⟩ : ∃ sp, i.trims[xn]? = some sp := ⟨_, List.getElem?_eq_getElem hxt⟩
      obtain ⟨b, o, ea, hb, c0, c1⟩ := (IT9.out.upd hu.out).trims xn sp hsp
      subst ea
      obtain ⟨cb, co, eb, hcb, hxc⟩ := (keepI CI.out hu.out).form.2 k _ hx
      subst eb
      have hki : (k : Int) < cut.length := by omega
      have hxi2 : (xn : Int) < i.trims.length := by omega
      have HST := hide (show decide (Gone (cutSps i.trims (cut.take (k + 1))) s) = (lf || decide (sp.fr ≤ s ∧ s < sp.to_)) by
        rw [List.take_add_one, hx, Option.toList_some, hlf.out, ← Bool.decide_or]
        refine decide_eq_decide.2 ?_
        have e : spOf i.trims (xn : Int) = sp := by unfold spOf; rw [Int.toNat_natCast, hsp]; rfl
        unfold cutSps
        rw [List.map_append, List.map_cons, List.map_nil, e]
        constructor
        · rintro ⟨t, ht, h⟩
          rcases List.mem_append.1 ht with ht | ht
          · exact .inl ⟨t, ht, h⟩
          · obtain rfl := List.mem_singleton.1 ht; exact .inr h
        · rintro (⟨t, ht, h⟩ | h)
          · exact ⟨t, List.mem_append_left _ ht, h⟩
          · exact ⟨sp, by simp, h⟩)
      have UD := hide (hu.out.drew)
      clear hx hxi hb hcb hsp
      cases lf with
      | true =>
        have HE := hide (show decide (Gone (cutSps i.trims (cut.take (k + 1))) s) = true by rw [HST.out]; rfl)
        go_wp2_with fail
        refine wp_region_held_drew (S := (fun w' => w'.cell? ⟨w3.heap.size, 3, none⟩ = some (.slice (some ⟨b, o, none⟩) i.trims.length tc) ∧ w'.cell? ⟨cb, co + k, none⟩ = some (.int .i64 xn) ∧ w'.cell? ⟨b, o + xn * 2, none⟩ = some (.int .i64 sp.fr) ∧ w'.cell? ⟨b, o + xn * 2 + 1, none⟩ = some (.int .i64 sp.to_))) (by kernel_rfl) (by exact ⟨o3, hxc, c0, c1⟩) (fun hHeld => ?_)
        refine wpAnyH_take (i := 0) (oi := ?oi0H1) (v := ?v0H1) ?oi0_0H1 (by kernel_rfl) ?ff0H1 ?rr0H1 ?hq0H1 (Or.inl ⟨?hw0H1, ?hy0H1⟩) (by assumption) ?rest0H1
        case oi0_0H1 =>
          conv =>
            lhs
            whnf
            arg 1
            whnf
        case hq0H1 => exact fun _ _ _ h => h
        case ff0H1 => kernel_rfl
        case rr0H1 => kernel_rfl
        case hw0H1 => rfl
        case hy0H1 =>
          intro w hSw
          (try dsimp only at hSw)
          first
          | (go_simp; done)
          | (go_simp; with_reducible rfl)
        try simp only [Act.put, List.setIfInBounds_toArray, List.set_cons_zero, List.set_cons_succ]
        refine wpAnyH_take (i := 1) (oi := ?oi1H1) (v := ?v1H1) ?oi0_1H1 (by kernel_rfl) ?ff1H1 ?rr1H1 ?hq1H1 (Or.inl ⟨?hw1H1, ?hy1H1⟩) (by assumption) ?rest1H1
        case oi0_1H1 =>
          conv =>
            lhs
            whnf
            arg 1
            whnf
        case hq1H1 => exact fun _ _ _ h => h
        case ff1H1 => kernel_rfl
        case rr1H1 => kernel_rfl
        case hw1H1 => rfl
        case hy1H1 =>
          intro w hSw
          (try dsimp only at hSw)
          first
          | (go_simp; done)
          | (go_simp; with_reducible rfl)
        try simp only [Act.put, List.setIfInBounds_toArray, List.set_cons_zero, List.set_cons_succ]
        refine wpAnyH_take (i := 2) (oi := ?oi2H1) (v := undef) ?oi0_2H1 (by kernel_rfl) ?ff2H1 ?rr2H1 ?hq2H1 (Or.inr ⟨?hw2H1, rfl⟩) (by assumption) ?rest2H1
        case oi0_2H1 =>
          conv =>
            lhs
            whnf
            arg 1
            whnf
        case hq2H1 => exact fun _ _ _ h => h
        case ff2H1 => kernel_rfl
        case rr2H1 => kernel_rfl
        case hw2H1 => rfl
        try simp only [Act.put, List.setIfInBounds_toArray, List.set_cons_zero, List.set_cons_succ]
        refine wpAnyH_take (i := 3) (oi := ?oi3H1) (v := undef) ?oi0_3H1 (by kernel_rfl) ?ff3H1 ?rr3H1 ?hq3H1 (Or.inr ⟨?hw3H1, rfl⟩) (by assumption) ?rest3H1
        case oi0_3H1 =>
          conv =>
            lhs
            whnf
            arg 1
            whnf
        case hq3H1 => exact fun _ _ _ h => h
        case ff3H1 => kernel_rfl
        case rr3H1 => kernel_rfl
        case hw3H1 => rfl
        try simp only [Act.put, List.setIfInBounds_toArray, List.set_cons_zero, List.set_cons_succ]
        refine wpAnyH_take (i := 4) (oi := ?oi4H1) (v := undef) ?oi0_4H1 (by kernel_rfl) ?ff4H1 ?rr4H1 ?hq4H1 (Or.inr ⟨?hw4H1, rfl⟩) (by assumption) ?rest4H1
        case oi0_4H1 =>
          conv =>
            lhs
            whnf
            arg 1
            whnf
        case hq4H1 => exact fun _ _ _ h => h
        case ff4H1 => kernel_rfl
        case rr4H1 => kernel_rfl
        case hw4H1 => rfl
        try simp only [Act.put, List.setIfInBounds_toArray, List.set_cons_zero, List.set_cons_succ]
        refine wpAnyH_take (i := 5) (oi := ?oi5H1) (v := undef) ?oi0_5H1 (by kernel_rfl) ?ff5H1 ?rr5H1 ?hq5H1 (Or.inr ⟨?hw5H1, rfl⟩) (by assumption) ?rest5H1
        case oi0_5H1 =>
          conv =>
            lhs
            whnf
            arg 1
            whnf
        case hq5H1 => exact fun _ _ _ h => h
        case ff5H1 => kernel_rfl
        case rr5H1 => kernel_rfl
        case hw5H1 => rfl
        try simp only [Act.put, List.setIfInBounds_toArray, List.set_cons_zero, List.set_cons_succ]
        refine wpAnyH_take (i := 6) (oi := ?oi6H1) (v := undef) ?oi0_6H1 (by kernel_rfl) ?ff6H1 ?rr6H1 ?hq6H1 (Or.inr ⟨?hw6H1, rfl⟩) (by assumption) ?rest6H1
        case oi0_6H1 =>
          conv =>
            lhs
            whnf
            arg 1
            whnf
        case hq6H1 => exact fun _ _ _ h => h
        case ff6H1 => kernel_rfl
        case rr6H1 => kernel_rfl
        case hw6H1 => rfl
        try simp only [Act.put, List.setIfInBounds_toArray, List.set_cons_zero, List.set_cons_succ]
        refine wpAnyH_take (i := 7) (oi := ?oi7H1) (v := undef) ?oi0_7H1 (by kernel_rfl) ?ff7H1 ?rr7H1 ?hq7H1 (Or.inr ⟨?hw7H1, rfl⟩) (by assumption) ?rest7H1
        case oi0_7H1 =>
          conv =>
            lhs
            whnf
            arg 1
            whnf
        case hq7H1 => exact fun _ _ _ h => h
        case ff7H1 => kernel_rfl
        case rr7H1 => kernel_rfl
        case hw7H1 => rfl
        try simp only [Act.put, List.setIfInBounds_toArray, List.set_cons_zero, List.set_cons_succ]
        refine wpAnyH_take (i := 8) (oi := ?oi8H1) (v := undef) ?oi0_8H1 (by kernel_rfl) ?ff8H1 ?rr8H1 ?hq8H1 (Or.inr ⟨?hw8H1, rfl⟩) (by assumption) ?rest8H1
        case oi0_8H1 =>
          conv =>
            lhs
            whnf
            arg 1
            whnf
        case hq8H1 => exact fun _ _ _ h => h
        case ff8H1 => kernel_rfl
        case rr8H1 => kernel_rfl
        case hw8H1 => rfl
        try simp only [Act.put, List.setIfInBounds_toArray, List.set_cons_zero, List.set_cons_succ]
        refine wpAnyH_take (i := 9) (oi := ?oi9H1) (v := undef) ?oi0_9H1 (by kernel_rfl) ?ff9H1 ?rr9H1 ?hq9H1 (Or.inr ⟨?hw9H1, rfl⟩) (by assumption) ?rest9H1
        case oi0_9H1 =>
          conv =>
            lhs
            whnf
            arg 1
            whnf
        case hq9H1 => exact fun _ _ _ h => h
        case ff9H1 => kernel_rfl
        case rr9H1 => kernel_rfl
        case hw9H1 => rfl
        try simp only [Act.put, List.setIfInBounds_toArray, List.set_cons_zero, List.set_cons_succ]
        refine wpAnyH_take (i := 10) (oi := ?oi10H1) (v := undef) ?oi0_10H1 (by kernel_rfl) ?ff10H1 ?rr10H1 ?hq10H1 (Or.inr ⟨?hw10H1, rfl⟩) (by assumption) ?rest10H1
        case oi0_10H1 =>
          conv =>
            lhs
            whnf
            arg 1
            whnf
        case hq10H1 => exact fun _ _ _ h => h
        case ff10H1 => kernel_rfl
        case rr10H1 => kernel_rfl
        case hw10H1 => rfl
        try simp only [Act.put, List.setIfInBounds_toArray, List.set_cons_zero, List.set_cons_succ]
        refine wpAnyH_take (i := 11) (oi := ?oi11H1) (v := undef) ?oi0_11H1 (by kernel_rfl) ?ff11H1 ?rr11H1 ?hq11H1 (Or.inr ⟨?hw11H1, rfl⟩) (by assumption) ?rest11H1
        case oi0_11H1 =>
          conv =>
            lhs
            whnf
            arg 1
            whnf
        case hq11H1 => exact fun _ _ _ h => h
        case ff11H1 => kernel_rfl
        case rr11H1 => kernel_rfl
        case hw11H1 => rfl
        try simp only [Act.put, List.setIfInBounds_toArray, List.set_cons_zero, List.set_cons_succ]
        refine wpAnyH_take (i := 12) (oi := ?oi12H1) (v := undef) ?oi0_12H1 (by kernel_rfl) ?ff12H1 ?rr12H1 ?hq12H1 (Or.inr ⟨?hw12H1, rfl⟩) (by assumption) ?rest12H1
        case oi0_12H1 =>
          conv =>
            lhs
            whnf
            arg 1
            whnf
        case hq12H1 => exact fun _ _ _ h => h
        case ff12H1 => kernel_rfl
        case rr12H1 => kernel_rfl
        case hw12H1 => rfl
        try simp only [Act.put, List.setIfInBounds_toArray, List.set_cons_zero, List.set_cons_succ]
        refine wpAnyH_take (i := 13) (oi := ?oi13H1) (v := undef) ?oi0_13H1 (by kernel_rfl) ?ff13H1 ?rr13H1 ?hq13H1 (Or.inr ⟨?hw13H1, rfl⟩) (by assumption) ?rest13H1
        case oi0_13H1 =>
          conv =>
            lhs
            whnf
            arg 1
            whnf
        case hq13H1 => exact fun _ _ _ h => h
        case ff13H1 => kernel_rfl
        case rr13H1 => kernel_rfl
        case hw13H1 => rfl
        try simp only [Act.put, List.setIfInBounds_toArray, List.set_cons_zero, List.set_cons_succ]
        refine wpAnyH_take (i := 14) (oi := ?oi14H1) (v := undef) ?oi0_14H1 (by kernel_rfl) ?ff14H1 ?rr14H1 ?hq14H1 (Or.inr ⟨?hw14H1, rfl⟩) (by assumption) ?rest14H1
        case oi0_14H1 =>
          conv =>
            lhs
            whnf
            arg 1
            whnf
        case hq14H1 => exact fun _ _ _ h => h
        case ff14H1 => kernel_rfl
        case rr14H1 => kernel_rfl
        case hw14H1 => rfl
        try simp only [Act.put, List.setIfInBounds_toArray, List.set_cons_zero, List.set_cons_succ]
        refine wpAnyH_take (i := 15) (oi := ?oi15H1) (v := undef) ?oi0_15H1 (by kernel_rfl) ?ff15H1 ?rr15H1 ?hq15H1 (Or.inr ⟨?hw15H1, rfl⟩) (by assumption) ?rest15H1
        case oi0_15H1 =>
          conv =>
            lhs
            whnf
            arg 1
            whnf
        case hq15H1 => exact fun _ _ _ h => h
        case ff15H1 => kernel_rfl
        case rr15H1 => kernel_rfl
        case hw15H1 => rfl
        try simp only [Act.put, List.setIfInBounds_toArray, List.set_cons_zero, List.set_cons_succ]
        refine wpAnyH_take (i := 16) (oi := ?oi16H1) (v := undef) ?oi0_16H1 (by kernel_rfl) ?ff16H1 ?rr16H1 ?hq16H1 (Or.inr ⟨?hw16H1, rfl⟩) (by assumption) ?rest16H1
        case oi0_16H1 =>
          conv =>
            lhs
            whnf
            arg 1
            whnf
        case hq16H1 => exact fun _ _ _ h => h
        case ff16H1 => kernel_rfl
        case rr16H1 => kernel_rfl
        case hw16H1 => rfl
        try simp only [Act.put, List.setIfInBounds_toArray, List.set_cons_zero, List.set_cons_succ]
        refine wpAnyH_take (i := 17) (oi := ?oi17H1) (v := undef) ?oi0_17H1 (by kernel_rfl) ?ff17H1 ?rr17H1 ?hq17H1 (Or.inr ⟨?hw17H1, rfl⟩) (by assumption) ?rest17H1
        case oi0_17H1 =>
          conv =>
            lhs
            whnf
            arg 1
            whnf
        case hq17H1 => exact fun _ _ _ h => h
        case ff17H1 => kernel_rfl
        case rr17H1 => kernel_rfl
        case hw17H1 => rfl
        try simp only [Act.put, List.setIfInBounds_toArray, List.set_cons_zero, List.set_cons_succ]
        refine wpAnyH_take (i := 18) (oi := ?oi18H1) (v := undef) ?oi0_18H1 (by kernel_rfl) ?ff18H1 ?rr18H1 ?hq18H1 (Or.inr ⟨?hw18H1, rfl⟩) (by assumption) ?rest18H1
        case oi0_18H1 =>
          conv =>
            lhs
            whnf
            arg 1
            whnf
        case hq18H1 => exact fun _ _ _ h => h
        case ff18H1 => kernel_rfl
        case rr18H1 => kernel_rfl
        case hw18H1 => rfl
        try simp only [Act.put, List.setIfInBounds_toArray, List.set_cons_zero, List.set_cons_succ]
        refine wpAnyH_take (i := 19) (oi := ?oi19H1) (v := undef) ?oi0_19H1 (by kernel_rfl) ?ff19H1 ?rr19H1 ?hq19H1 (Or.inr ⟨?hw19H1, rfl⟩) (by assumption) ?rest19H1
        case oi0_19H1 =>
          conv =>
            lhs
            whnf
            arg 1
            whnf
        case hq19H1 => exact fun _ _ _ h => h
        case ff19H1 => kernel_rfl
        case rr19H1 => kernel_rfl
        case hw19H1 => rfl
        try simp only [Act.put, List.setIfInBounds_toArray, List.set_cons_zero, List.set_cons_succ]
        refine wpAnyH_take (i := 20) (oi := ?oi20H1) (v := undef) ?oi0_20H1 (by kernel_rfl) ?ff20H1 ?rr20H1 ?hq20H1 (Or.inr ⟨?hw20H1, rfl⟩) (by assumption) ?rest20H1
        case oi0_20H1 =>
          conv =>
            lhs
            whnf
            arg 1
            whnf
        case hq20H1 => exact fun _ _ _ h => h
        case ff20H1 => kernel_rfl
        case rr20H1 => kernel_rfl
        case hw20H1 => rfl
        try simp only [Act.put, List.setIfInBounds_toArray, List.set_cons_zero, List.set_cons_succ]
        refine wpAnyH_take (i := 21) (oi := ?oi21H1) (v := undef) ?oi0_21H1 (by kernel_rfl) ?ff21H1 ?rr21H1 ?hq21H1 (Or.inr ⟨?hw21H1, rfl⟩) (by assumption) ?rest21H1
        case oi0_21H1 =>
          conv =>
            lhs
            whnf
            arg 1
            whnf
        case hq21H1 => exact fun _ _ _ h => h
        case ff21H1 => kernel_rfl
        case rr21H1 => kernel_rfl
        case hw21H1 => rfl
        try simp only [Act.put, List.setIfInBounds_toArray, List.set_cons_zero, List.set_cons_succ]
        refine wpAnyH_take (i := 22) (oi := ?oi22H1) (v := undef) ?oi0_22H1 (by kernel_rfl) ?ff22H1 ?rr22H1 ?hq22H1 (Or.inr ⟨?hw22H1, rfl⟩) (by assumption) ?rest22H1
        case oi0_22H1 =>
          conv =>
            lhs
            whnf
            arg 1
            whnf
        case hq22H1 => exact fun _ _ _ h => h
        case ff22H1 => kernel_rfl
        case rr22H1 => kernel_rfl
        case hw22H1 => rfl
        try simp only [Act.put, List.setIfInBounds_toArray, List.set_cons_zero, List.set_cons_succ]
        refine wpAnyH_take (i := 23) (oi := ?oi23H1) (v := undef) ?oi0_23H1 (by kernel_rfl) ?ff23H1 ?rr23H1 ?hq23H1 (Or.inr ⟨?hw23H1, rfl⟩) (by assumption) ?rest23H1
        case oi0_23H1 =>
          conv =>
            lhs
            whnf
            arg 1
            whnf
        case hq23H1 => exact fun _ _ _ h => h
        case ff23H1 => kernel_rfl
        case rr23H1 => kernel_rfl
        case hw23H1 => rfl
        try simp only [Act.put, List.setIfInBounds_toArray, List.set_cons_zero, List.set_cons_succ]
        refine wpAnyH_take (i := 24) (oi := ?oi24H1) (v := undef) ?oi0_24H1 (by kernel_rfl) ?ff24H1 ?rr24H1 ?hq24H1 (Or.inr ⟨?hw24H1, rfl⟩) (by assumption) ?rest24H1
        case oi0_24H1 =>
          conv =>
            lhs
            whnf
            arg 1
            whnf
        case hq24H1 => exact fun _ _ _ h => h
        case ff24H1 => kernel_rfl
        case rr24H1 => kernel_rfl
        case hw24H1 => rfl
        try simp only [Act.put, List.setIfInBounds_toArray, List.set_cons_zero, List.set_cons_succ]
        refine wpAnyH_take (i := 25) (oi := ?oi25H1) (v := undef) ?oi0_25H1 (by kernel_rfl) ?ff25H1 ?rr25H1 ?hq25H1 (Or.inr ⟨?hw25H1, rfl⟩) (by assumption) ?rest25H1
        case oi0_25H1 =>
          conv =>
            lhs
            whnf
            arg 1
            whnf
        case hq25H1 => exact fun _ _ _ h => h
        case ff25H1 => kernel_rfl
        case rr25H1 => kernel_rfl
        case hw25H1 => rfl
        try simp only [Act.put, List.setIfInBounds_toArray, List.set_cons_zero, List.set_cons_succ]
        refine wpAnyH_take (i := 26) (oi := ?oi26H1) (v := ?v26H1) ?oi0_26H1 (by kernel_rfl) ?ff26H1 ?rr26H1 ?hq26H1 (Or.inl ⟨?hw26H1, ?hy26H1⟩) (by assumption) ?rest26H1
        case oi0_26H1 =>
          conv =>
            lhs
            whnf
            arg 1
            whnf
        case hq26H1 => exact fun _ _ _ h => h
        case ff26H1 => kernel_rfl
        case rr26H1 => kernel_rfl
        case hw26H1 => rfl
        case hy26H1 =>
          intro w hSw
          (try dsimp only at hSw)
          first
          | (go_simp; done)
          | (go_simp; with_reducible rfl)
        try simp only [Act.put, List.setIfInBounds_toArray, List.set_cons_zero, List.set_cons_succ]
        refine wpAnyH_take (i := 27) (oi := ?oi27H1) (v := ?v27H1) ?oi0_27H1 (by kernel_rfl) ?ff27H1 ?rr27H1 ?hq27H1 (Or.inl ⟨?hw27H1, ?hy27H1⟩) (by assumption) ?rest27H1
        case oi0_27H1 =>
          conv =>
            lhs
            whnf
            arg 1
            whnf
        case hq27H1 => exact fun _ _ _ h => h
        case ff27H1 => kernel_rfl
        case rr27H1 => kernel_rfl
        case hw27H1 => rfl
        case hy27H1 =>
          intro w hSw
          (try dsimp only at hSw)
          first
          | (go_simp; done)
          | (go_simp; with_reducible rfl)
        try simp only [Act.put, List.setIfInBounds_toArray, List.set_cons_zero, List.set_cons_succ]
        refine wpAnyH_done (by kernel_rfl) ?_ _
        go_wp2_with fail
        go_roundw
        case rel => exact ⟨k + 1, true, by omega, by go_num, rfl, hide HE.out.symm, UD⟩
        case measure => simp [intOf] <;> omega
      | false =>
        by_cases e1 : sp.fr ≤ s
        case neg =>
          have e1' : s < sp.fr := by omega
          have d1 : decide (sp.fr ≤ s) = false := decide_eq_false e1
          go_wp2_with fail
          refine wp_region_held_drew (S := (fun w' => w'.cell? ⟨w3.heap.size, 3, none⟩ = some (.slice (some ⟨b, o, none⟩) i.trims.length tc) ∧ w'.cell? ⟨cb, co + k, none⟩ = some (.int .i64 xn) ∧ w'.cell? ⟨b, o + xn * 2, none⟩ = some (.int .i64 sp.fr) ∧ w'.cell? ⟨b, o + xn * 2 + 1, none⟩ = some (.int .i64 sp.to_))) (by kernel_rfl) (by exact ⟨o3, hxc, c0, c1⟩) (fun hHeld => ?_)
          refine wpAnyH_take (i := 0) (oi := ?oi0H2) (v := ?v0H2) ?oi0_0H2 (by kernel_rfl) ?ff0H2 ?rr0H2 ?hq0H2 (Or.inl ⟨?hw0H2, ?hy0H2⟩) (by assumption) ?rest0H2
          case oi0_0H2 =>
            conv =>
              lhs
              whnf
              arg 1
              whnf
          case hq0H2 => exact fun _ _ _ h => h
          case ff0H2 => kernel_rfl
          case rr0H2 => kernel_rfl
          case hw0H2 => rfl
          case hy0H2 =>
            intro w hSw
            (try dsimp only at hSw)
            first
            | (go_simp; done)
            | (go_simp; with_reducible rfl)
          try simp only [Act.put, List.setIfInBounds_toArray, List.set_cons_zero, List.set_cons_succ]
          refine wpAnyH_take (i := 1) (oi := ?oi1H2) (v := ?v1H2) ?oi0_1H2 (by kernel_rfl) ?ff1H2 ?rr1H2 ?hq1H2 (Or.inl ⟨?hw1H2, ?hy1H2⟩) (by assumption) ?rest1H2
          case oi0_1H2 =>
            conv =>
              lhs
              whnf
              arg 1
              whnf
          case hq1H2 => exact fun _ _ _ h => h
          case ff1H2 => kernel_rfl
          case rr1H2 => kernel_rfl
          case hw1H2 => rfl
          case hy1H2 =>
            intro w hSw
            (try dsimp only at hSw)
            first
            | (go_simp; done)
            | (go_simp; with_reducible rfl)
          try simp only [Act.put, List.setIfInBounds_toArray, List.set_cons_zero, List.set_cons_succ]
          refine wpAnyH_take (i := 2) (oi := ?oi2H2) (v := ?v2H2) ?oi0_2H2 (by kernel_rfl) ?ff2H2 ?rr2H2 ?hq2H2 (Or.inl ⟨?hw2H2, ?hy2H2⟩) (by assumption) ?rest2H2
          case oi0_2H2 =>
            conv =>
              lhs
              whnf
              arg 1
              whnf
          case hq2H2 => exact fun _ _ _ h => h
          case ff2H2 => kernel_rfl
          case rr2H2 => kernel_rfl
          case hw2H2 => rfl
          case hy2H2 =>
            intro w hSw
            (try dsimp only at hSw)
            first
            | (go_simp; done)
            | (go_simp; with_reducible rfl)
          try simp only [Act.put, List.setIfInBounds_toArray, List.set_cons_zero, List.set_cons_succ]
          refine wpAnyH_take (i := 3) (oi := ?oi3H2) (v := ?v3H2) ?oi0_3H2 (by kernel_rfl) ?ff3H2 ?rr3H2 ?hq3H2 (Or.inl ⟨?hw3H2, ?hy3H2⟩) (by assumption) ?rest3H2
          case oi0_3H2 =>
            conv =>
              lhs
              whnf
              arg 1
              whnf
          case hq3H2 => exact fun _ _ _ h => h
          case ff3H2 => kernel_rfl
          case rr3H2 => kernel_rfl
          case hw3H2 => rfl
          case hy3H2 =>
            intro w hSw
            (try dsimp only at hSw)
            first
            | (go_simp; done)
            | (go_simp; with_reducible rfl)
          try simp only [Act.put, List.setIfInBounds_toArray, List.set_cons_zero, List.set_cons_succ]
          refine wpAnyH_take (i := 4) (oi := ?oi4H2) (v := ?v4H2) ?oi0_4H2 (by kernel_rfl) ?ff4H2 ?rr4H2 ?hq4H2 (Or.inl ⟨?hw4H2, ?hy4H2⟩) (by assumption) ?rest4H2
          case oi0_4H2 =>
            conv =>
              lhs
              whnf
              arg 1
              whnf
          case hq4H2 => exact fun _ _ _ h => h
          case ff4H2 => kernel_rfl
          case rr4H2 => kernel_rfl
          case hw4H2 => rfl
          case hy4H2 =>
            intro w hSw
            (try dsimp only at hSw)
            first
            | (go_simp; done)
            | (go_simp; with_reducible rfl)
          try simp only [Act.put, List.setIfInBounds_toArray, List.set_cons_zero, List.set_cons_succ]
          refine wpAnyH_take (i := 5) (oi := ?oi5H2) (v := ?v5H2) ?oi0_5H2 (by kernel_rfl) ?ff5H2 ?rr5H2 ?hq5H2 (Or.inl ⟨?hw5H2, ?hy5H2⟩) (by assumption) ?rest5H2
          case oi0_5H2 =>
            conv =>
              lhs
              whnf
              arg 1
              whnf
          case hq5H2 => exact fun _ _ _ h => h
          case ff5H2 => kernel_rfl
          case rr5H2 => kernel_rfl
          case hw5H2 => rfl
          case hy5H2 =>
            intro w hSw
            (try dsimp only at hSw)
            first
            | (go_simp; done)
            | (go_simp; with_reducible rfl)
          try simp only [Act.put, List.setIfInBounds_toArray, List.set_cons_zero, List.set_cons_succ]
          refine wpAnyH_take (i := 6) (oi := ?oi6H2) (v := ?v6H2) ?oi0_6H2 (by kernel_rfl) ?ff6H2 ?rr6H2 ?hq6H2 (Or.inl ⟨?hw6H2, ?hy6H2⟩) (by assumption) ?rest6H2
          case oi0_6H2 =>
            conv =>
              lhs
              whnf
              arg 1
              whnf
          case hq6H2 => exact fun _ _ _ h => h
          case ff6H2 => kernel_rfl
          case rr6H2 => kernel_rfl
          case hw6H2 => rfl
          case hy6H2 =>
            intro w hSw
            (try dsimp only at hSw)
            first
            | (go_simp; done)
            | (go_simp; with_reducible rfl)
          try simp only [Act.put, List.setIfInBounds_toArray, List.set_cons_zero, List.set_cons_succ]
          refine wpAnyH_take (i := 7) (oi := ?oi7H2) (v := ?v7H2) ?oi0_7H2 (by kernel_rfl) ?ff7H2 ?rr7H2 ?hq7H2 (Or.inl ⟨?hw7H2, ?hy7H2⟩) (by assumption) ?rest7H2
          case oi0_7H2 =>
            conv =>
              lhs
              whnf
              arg 1
              whnf
          case hq7H2 => exact fun _ _ _ h => h
          case ff7H2 => kernel_rfl
          case rr7H2 => kernel_rfl
          case hw7H2 => rfl
          case hy7H2 =>
            intro w hSw
            (try dsimp only at hSw)
            first
            | (go_simp; done)
            | (go_simp; with_reducible rfl)
          try simp only [Act.put, List.setIfInBounds_toArray, List.set_cons_zero, List.set_cons_succ]
          refine wpAnyH_take (i := 8) (oi := ?oi8H2) (v := ?v8H2) ?oi0_8H2 (by kernel_rfl) ?ff8H2 ?rr8H2 ?hq8H2 (Or.inl ⟨?hw8H2, ?hy8H2⟩) (by assumption) ?rest8H2
          case oi0_8H2 =>
            conv =>
              lhs
              whnf
              arg 1
              whnf
          case hq8H2 => exact fun _ _ _ h => h
          case ff8H2 => kernel_rfl
          case rr8H2 => kernel_rfl
          case hw8H2 => rfl
          case hy8H2 =>
            intro w hSw
            (try dsimp only at hSw)
            first
            | (go_simp; done)
            | (go_simp; with_reducible rfl)
          try simp only [Act.put, List.setIfInBounds_toArray, List.set_cons_zero, List.set_cons_succ]
          refine wpAnyH_take (i := 9) (oi := ?oi9H2) (v := ?v9H2) ?oi0_9H2 (by kernel_rfl) ?ff9H2 ?rr9H2 ?hq9H2 (Or.inl ⟨?hw9H2, ?hy9H2⟩) (by assumption) ?rest9H2
          case oi0_9H2 =>
            conv =>
              lhs
              whnf
              arg 1
              whnf
          case hq9H2 => exact fun _ _ _ h => h
          case ff9H2 => kernel_rfl
          case rr9H2 => kernel_rfl
          case hw9H2 => rfl
          case hy9H2 =>
            intro w hSw
            (try dsimp only at hSw)
            first
            | (go_simp; done)
            | (go_simp; with_reducible rfl)
          try simp only [Act.put, List.setIfInBounds_toArray, List.set_cons_zero, List.set_cons_succ]
          refine wpAnyH_take (i := 10) (oi := ?oi10H2) (v := ?v10H2) ?oi0_10H2 (by kernel_rfl) ?ff10H2 ?rr10H2 ?hq10H2 (Or.inl ⟨?hw10H2, ?hy10H2⟩) (by assumption) ?rest10H2
          case oi0_10H2 =>
            conv =>
              lhs
              whnf
              arg 1
              whnf
          case hq10H2 => exact fun _ _ _ h => h
          case ff10H2 => kernel_rfl
          case rr10H2 => kernel_rfl
          case hw10H2 => rfl
          case hy10H2 =>
            intro w hSw
            (try dsimp only at hSw)
            first
            | (go_simp; done)
            | (go_simp; with_reducible rfl)
          try simp only [Act.put, List.setIfInBounds_toArray, List.set_cons_zero, List.set_cons_succ]
          refine wpAnyH_take (i := 11) (oi := ?oi11H2) (v := ?v11H2) ?oi0_11H2 (by kernel_rfl) ?ff11H2 ?rr11H2 ?hq11H2 (Or.inl ⟨?hw11H2, ?hy11H2⟩) (by assumption) ?rest11H2
          case oi0_11H2 =>
            conv =>
              lhs
              whnf
              arg 1
              whnf
          case hq11H2 => exact fun _ _ _ h => h
          case ff11H2 => kernel_rfl
          case rr11H2 => kernel_rfl
          case hw11H2 => rfl
          case hy11H2 =>
            intro w hSw
            (try dsimp only at hSw)
            first
            | (go_simp; done)
            | (go_simp; with_reducible rfl)
          try simp only [Act.put, List.setIfInBounds_toArray, List.set_cons_zero, List.set_cons_succ]
          refine wpAnyH_take (i := 12) (oi := ?oi12H2) (v := ?v12H2) ?oi0_12H2 (by kernel_rfl) ?ff12H2 ?rr12H2 ?hq12H2 (Or.inl ⟨?hw12H2, ?hy12H2⟩) (by assumption) ?rest12H2
          case oi0_12H2 =>
            conv =>
              lhs
              whnf
              arg 1
              whnf
          case hq12H2 => exact fun _ _ _ h => h
          case ff12H2 => kernel_rfl
          case rr12H2 => kernel_rfl
          case hw12H2 => rfl
          case hy12H2 =>
            intro w hSw
            (try dsimp only at hSw)
            first
            | (go_simp; done)
            | (go_simp; with_reducible rfl)
          try simp only [Act.put, List.setIfInBounds_toArray, List.set_cons_zero, List.set_cons_succ]
          refine wpAnyH_take (i := 13) (oi := ?oi13H2) (v := ?v13H2) ?oi0_13H2 (by kernel_rfl) ?ff13H2 ?rr13H2 ?hq13H2 (Or.inl ⟨?hw13H2, ?hy13H2⟩) (by assumption) ?rest13H2
          case oi0_13H2 =>
            conv =>
              lhs
              whnf
              arg 1
              whnf
          case hq13H2 => exact fun _ _ _ h => h
          case ff13H2 => kernel_rfl
          case rr13H2 => kernel_rfl
          case hw13H2 => rfl
          case hy13H2 =>
            intro w hSw
            (try dsimp only at hSw)
            first
            | (go_simp; done)
            | (go_simp; with_reducible rfl)
          try simp only [Act.put, List.setIfInBounds_toArray, List.set_cons_zero, List.set_cons_succ]
          refine wpAnyH_take (i := 14) (oi := ?oi14H2) (v := undef) ?oi0_14H2 (by kernel_rfl) ?ff14H2 ?rr14H2 ?hq14H2 (Or.inr ⟨?hw14H2, rfl⟩) (by assumption) ?rest14H2
          case oi0_14H2 =>
            conv =>
              lhs
              whnf
              arg 1
              whnf
          case hq14H2 => exact fun _ _ _ h => h
          case ff14H2 => kernel_rfl
          case rr14H2 => kernel_rfl
          case hw14H2 => rfl
          try simp only [Act.put, List.setIfInBounds_toArray, List.set_cons_zero, List.set_cons_succ]
          refine wpAnyH_take (i := 15) (oi := ?oi15H2) (v := undef) ?oi0_15H2 (by kernel_rfl) ?ff15H2 ?rr15H2 ?hq15H2 (Or.inr ⟨?hw15H2, rfl⟩) (by assumption) ?rest15H2
          case oi0_15H2 =>
            conv =>
              lhs
              whnf
              arg 1
              whnf
          case hq15H2 => exact fun _ _ _ h => h
          case ff15H2 => kernel_rfl
          case rr15H2 => kernel_rfl
          case hw15H2 => rfl
          try simp only [Act.put, List.setIfInBounds_toArray, List.set_cons_zero, List.set_cons_succ]
          refine wpAnyH_take (i := 16) (oi := ?oi16H2) (v := undef) ?oi0_16H2 (by kernel_rfl) ?ff16H2 ?rr16H2 ?hq16H2 (Or.inr ⟨?hw16H2, rfl⟩) (by assumption) ?rest16H2
          case oi0_16H2 =>
            conv =>
              lhs
              whnf
              arg 1
              whnf
          case hq16H2 => exact fun _ _ _ h => h
          case ff16H2 => kernel_rfl
          case rr16H2 => kernel_rfl
          case hw16H2 => rfl
          try simp only [Act.put, List.setIfInBounds_toArray, List.set_cons_zero, List.set_cons_succ]
          refine wpAnyH_take (i := 17) (oi := ?oi17H2) (v := undef) ?oi0_17H2 (by kernel_rfl) ?ff17H2 ?rr17H2 ?hq17H2 (Or.inr ⟨?hw17H2, rfl⟩) (by assumption) ?rest17H2
          case oi0_17H2 =>
            conv =>
              lhs
              whnf
              arg 1
              whnf
          case hq17H2 => exact fun _ _ _ h => h
          case ff17H2 => kernel_rfl
          case rr17H2 => kernel_rfl
          case hw17H2 => rfl
          try simp only [Act.put, List.setIfInBounds_toArray, List.set_cons_zero, List.set_cons_succ]
          refine wpAnyH_take (i := 18) (oi := ?oi18H2) (v := undef) ?oi0_18H2 (by kernel_rfl) ?ff18H2 ?rr18H2 ?hq18H2 (Or.inr ⟨?hw18H2, rfl⟩) (by assumption) ?rest18H2
          case oi0_18H2 =>
            conv =>
              lhs
              whnf
              arg 1
              whnf
          case hq18H2 => exact fun _ _ _ h => h
          case ff18H2 => kernel_rfl
          case rr18H2 => kernel_rfl
          case hw18H2 => rfl
          try simp only [Act.put, List.setIfInBounds_toArray, List.set_cons_zero, List.set_cons_succ]
          refine wpAnyH_take (i := 19) (oi := ?oi19H2) (v := undef) ?oi0_19H2 (by kernel_rfl) ?ff19H2 ?rr19H2 ?hq19H2 (Or.inr ⟨?hw19H2, rfl⟩) (by assumption) ?rest19H2
          case oi0_19H2 =>
            conv =>
              lhs
              whnf
              arg 1
              whnf
          case hq19H2 => exact fun _ _ _ h => h
          case ff19H2 => kernel_rfl
          case rr19H2 => kernel_rfl
          case hw19H2 => rfl
          try simp only [Act.put, List.setIfInBounds_toArray, List.set_cons_zero, List.set_cons_succ]
          refine wpAnyH_take (i := 20) (oi := ?oi20H2) (v := undef) ?oi0_20H2 (by kernel_rfl) ?ff20H2 ?rr20H2 ?hq20H2 (Or.inr ⟨?hw20H2, rfl⟩) (by assumption) ?rest20H2
          case oi0_20H2 =>
            conv =>
              lhs
              whnf
              arg 1
              whnf
          case hq20H2 => exact fun _ _ _ h => h
          case ff20H2 => kernel_rfl
          case rr20H2 => kernel_rfl
          case hw20H2 => rfl
          try simp only [Act.put, List.setIfInBounds_toArray, List.set_cons_zero, List.set_cons_succ]
          refine wpAnyH_take (i := 21) (oi := ?oi21H2) (v := undef) ?oi0_21H2 (by kernel_rfl) ?ff21H2 ?rr21H2 ?hq21H2 (Or.inr ⟨?hw21H2, rfl⟩) (by assumption) ?rest21H2
          case oi0_21H2 =>
            conv =>
              lhs
              whnf
              arg 1
              whnf
          case hq21H2 => exact fun _ _ _ h => h
          case ff21H2 => kernel_rfl
          case rr21H2 => kernel_rfl
          case hw21H2 => rfl
          try simp only [Act.put, List.setIfInBounds_toArray, List.set_cons_zero, List.set_cons_succ]
          refine wpAnyH_take (i := 22) (oi := ?oi22H2) (v := undef) ?oi0_22H2 (by kernel_rfl) ?ff22H2 ?rr22H2 ?hq22H2 (Or.inr ⟨?hw22H2, rfl⟩) (by assumption) ?rest22H2
          case oi0_22H2 =>
            conv =>
              lhs
              whnf
              arg 1
              whnf
          case hq22H2 => exact fun _ _ _ h => h
          case ff22H2 => kernel_rfl
          case rr22H2 => kernel_rfl
          case hw22H2 => rfl
          try simp only [Act.put, List.setIfInBounds_toArray, List.set_cons_zero, List.set_cons_succ]
          refine wpAnyH_take (i := 23) (oi := ?oi23H2) (v := undef) ?oi0_23H2 (by kernel_rfl) ?ff23H2 ?rr23H2 ?hq23H2 (Or.inr ⟨?hw23H2, rfl⟩) (by assumption) ?rest23H2
          case oi0_23H2 =>
            conv =>
              lhs
              whnf
              arg 1
              whnf
          case hq23H2 => exact fun _ _ _ h => h
          case ff23H2 => kernel_rfl
          case rr23H2 => kernel_rfl
          case hw23H2 => rfl
          try simp only [Act.put, List.setIfInBounds_toArray, List.set_cons_zero, List.set_cons_succ]
          refine wpAnyH_take (i := 24) (oi := ?oi24H2) (v := undef) ?oi0_24H2 (by kernel_rfl) ?ff24H2 ?rr24H2 ?hq24H2 (Or.inr ⟨?hw24H2, rfl⟩) (by assumption) ?rest24H2
          case oi0_24H2 =>
            conv =>
              lhs
              whnf
              arg 1
              whnf
          case hq24H2 => exact fun _ _ _ h => h
          case ff24H2 => kernel_rfl
          case rr24H2 => kernel_rfl
          case hw24H2 => rfl
          try simp only [Act.put, List.setIfInBounds_toArray, List.set_cons_zero, List.set_cons_succ]
          refine wpAnyH_take (i := 25) (oi := ?oi25H2) (v := ?v25H2) ?oi0_25H2 (by kernel_rfl) ?ff25H2 ?rr25H2 ?hq25H2 (Or.inl ⟨?hw25H2, ?hy25H2⟩) (by assumption) ?rest25H2
          case oi0_25H2 =>
            conv =>
              lhs
              whnf
              arg 1
              whnf
          case hq25H2 => exact fun _ _ _ h => h
          case ff25H2 => kernel_rfl
          case rr25H2 => kernel_rfl
          case hw25H2 => rfl
          case hy25H2 =>
            intro w hSw
            (try dsimp only at hSw)
            first
            | (go_simp; done)
            | (go_simp; with_reducible rfl)
          try simp only [Act.put, List.setIfInBounds_toArray, List.set_cons_zero, List.set_cons_succ]
          refine wpAnyH_take (i := 26) (oi := ?oi26H2) (v := ?v26H2) ?oi0_26H2 (by kernel_rfl) ?ff26H2 ?rr26H2 ?hq26H2 (Or.inl ⟨?hw26H2, ?hy26H2⟩) (by assumption) ?rest26H2
          case oi0_26H2 =>
            conv =>
              lhs
              whnf
              arg 1
              whnf
          case hq26H2 => exact fun _ _ _ h => h
          case ff26H2 => kernel_rfl
          case rr26H2 => kernel_rfl
          case hw26H2 => rfl
          case hy26H2 =>
            intro w hSw
            (try dsimp only at hSw)
            first
            | (go_simp; done)
            | (go_simp; with_reducible rfl)
          try simp only [Act.put, List.setIfInBounds_toArray, List.set_cons_zero, List.set_cons_succ]
          refine wpAnyH_take (i := 27) (oi := ?oi27H2) (v := ?v27H2) ?oi0_27H2 (by kernel_rfl) ?ff27H2 ?rr27H2 ?hq27H2 (Or.inl ⟨?hw27H2, ?hy27H2⟩) (by assumption) ?rest27H2
          case oi0_27H2 =>
            conv =>
              lhs
              whnf
              arg 1
              whnf
          case hq27H2 => exact fun _ _ _ h => h
          case ff27H2 => kernel_rfl
          case rr27H2 => kernel_rfl
          case hw27H2 => rfl
          case hy27H2 =>
            intro w hSw
            (try dsimp only at hSw)
            first
            | (go_simp; done)
            | (go_simp; with_reducible rfl)
          try simp only [Act.put, List.setIfInBounds_toArray, List.set_cons_zero, List.set_cons_succ]
          refine wpAnyH_done (by kernel_rfl) ?_ _
          go_wp2_with fail
          go_roundw
          case rel => exact ⟨k + 1, false, by omega, by go_num, rfl, hide (by rw [HST.out, decide_eq_false (fun h => by omega)]; rfl), UD⟩
          case measure => simp [intOf] <;> omega
        by_cases e2 : s < sp.to_
        case neg =>
          have e2' : sp.to_ ≤ s := by omega
          have d2 : decide (s < sp.to_) = false := decide_eq_false e2
          go_wp2_with fail
          refine wp_region_held_drew (S := (fun w' => w'.cell? ⟨w3.heap.size, 3, none⟩ = some (.slice (some ⟨b, o, none⟩) i.trims.length tc) ∧ w'.cell? ⟨cb, co + k, none⟩ = some (.int .i64 xn) ∧ w'.cell? ⟨b, o + xn * 2, none⟩ = some (.int .i64 sp.fr) ∧ w'.cell? ⟨b, o + xn * 2 + 1, none⟩ = some (.int .i64 sp.to_))) (by kernel_rfl) (by exact ⟨o3, hxc, c0, c1⟩) (fun hHeld => ?_)
          refine wpAnyH_take (i := 0) (oi := ?oi0H3) (v := ?v0H3) ?oi0_0H3 (by kernel_rfl) ?ff0H3 ?rr0H3 ?hq0H3 (Or.inl ⟨?hw0H3, ?hy0H3⟩) (by assumption) ?rest0H3
          case oi0_0H3 =>
            conv =>
              lhs
              whnf
              arg 1
              whnf
          case hq0H3 => exact fun _ _ _ h => h
          case ff0H3 => kernel_rfl
          case rr0H3 => kernel_rfl
          case hw0H3 => rfl
          case hy0H3 =>
            intro w hSw
            (try dsimp only at hSw)
            first
            | (go_simp; done)
            | (go_simp; with_reducible rfl)
          try simp only [Act.put, List.setIfInBounds_toArray, List.set_cons_zero, List.set_cons_succ]
          refine wpAnyH_take (i := 1) (oi := ?oi1H3) (v := ?v1H3) ?oi0_1H3 (by kernel_rfl) ?ff1H3 ?rr1H3 ?hq1H3 (Or.inl ⟨?hw1H3, ?hy1H3⟩) (by assumption) ?rest1H3
          case oi0_1H3 =>
            conv =>
              lhs
              whnf
              arg 1
              whnf
          case hq1H3 => exact fun _ _ _ h => h
          case ff1H3 => kernel_rfl
          case rr1H3 => kernel_rfl
          case hw1H3 => rfl
          case hy1H3 =>
            intro w hSw
            (try dsimp only at hSw)
            first
            | (go_simp; done)
            | (go_simp; with_reducible rfl)
          try simp only [Act.put, List.setIfInBounds_toArray, List.set_cons_zero, List.set_cons_succ]
          refine wpAnyH_take (i := 2) (oi := ?oi2H3) (v := ?v2H3) ?oi0_2H3 (by kernel_rfl) ?ff2H3 ?rr2H3 ?hq2H3 (Or.inl ⟨?hw2H3, ?hy2H3⟩) (by assumption) ?rest2H3
          case oi0_2H3 =>
            conv =>
              lhs
              whnf
              arg 1
              whnf
          case hq2H3 => exact fun _ _ _ h => h
          case ff2H3 => kernel_rfl
          case rr2H3 => kernel_rfl
          case hw2H3 => rfl
          case hy2H3 =>
            intro w hSw
            (try dsimp only at hSw)
            first
            | (go_simp; done)
            | (go_simp; with_reducible rfl)
          try simp only [Act.put, List.setIfInBounds_toArray, List.set_cons_zero, List.set_cons_succ]
          refine wpAnyH_take (i := 3) (oi := ?oi3H3) (v := ?v3H3) ?oi0_3H3 (by kernel_rfl) ?ff3H3 ?rr3H3 ?hq3H3 (Or.inl ⟨?hw3H3, ?hy3H3⟩) (by assumption) ?rest3H3
          case oi0_3H3 =>
            conv =>
              lhs
              whnf
              arg 1
              whnf
          case hq3H3 => exact fun _ _ _ h => h
          case ff3H3 => kernel_rfl
          case rr3H3 => kernel_rfl
          case hw3H3 => rfl
          case hy3H3 =>
            intro w hSw
            (try dsimp only at hSw)
            first
            | (go_simp; done)
            | (go_simp; with_reducible rfl)
          try simp only [Act.put, List.setIfInBounds_toArray, List.set_cons_zero, List.set_cons_succ]
          refine wpAnyH_take (i := 4) (oi := ?oi4H3) (v := ?v4H3) ?oi0_4H3 (by kernel_rfl) ?ff4H3 ?rr4H3 ?hq4H3 (Or.inl ⟨?hw4H3, ?hy4H3⟩) (by assumption) ?rest4H3
          case oi0_4H3 =>
            conv =>
              lhs
              whnf
              arg 1
              whnf
          case hq4H3 => exact fun _ _ _ h => h
          case ff4H3 => kernel_rfl
          case rr4H3 => kernel_rfl
          case hw4H3 => rfl
          case hy4H3 =>
            intro w hSw
            (try dsimp only at hSw)
            first
            | (go_simp; done)
            | (go_simp; with_reducible rfl)
          try simp only [Act.put, List.setIfInBounds_toArray, List.set_cons_zero, List.set_cons_succ]
          refine wpAnyH_take (i := 5) (oi := ?oi5H3) (v := ?v5H3) ?oi0_5H3 (by kernel_rfl) ?ff5H3 ?rr5H3 ?hq5H3 (Or.inl ⟨?hw5H3, ?hy5H3⟩) (by assumption) ?rest5H3
          case oi0_5H3 =>
            conv =>
              lhs
              whnf
              arg 1
              whnf
          case hq5H3 => exact fun _ _ _ h => h
          case ff5H3 => kernel_rfl
          case rr5H3 => kernel_rfl
          case hw5H3 => rfl
          case hy5H3 =>
            intro w hSw
            (try dsimp only at hSw)
            first
            | (go_simp; done)
            | (go_simp; with_reducible rfl)
          try simp only [Act.put, List.setIfInBounds_toArray, List.set_cons_zero, List.set_cons_succ]
          refine wpAnyH_take (i := 6) (oi := ?oi6H3) (v := ?v6H3) ?oi0_6H3 (by kernel_rfl) ?ff6H3 ?rr6H3 ?hq6H3 (Or.inl ⟨?hw6H3, ?hy6H3⟩) (by assumption) ?rest6H3
          case oi0_6H3 =>
            conv =>
              lhs
              whnf
              arg 1
              whnf
          case hq6H3 => exact fun _ _ _ h => h
          case ff6H3 => kernel_rfl
          case rr6H3 => kernel_rfl
          case hw6H3 => rfl
          case hy6H3 =>
            intro w hSw
            (try dsimp only at hSw)
            first
            | (go_simp; done)
            | (go_simp; with_reducible rfl)
          try simp only [Act.put, List.setIfInBounds_toArray, List.set_cons_zero, List.set_cons_succ]
          refine wpAnyH_take (i := 7) (oi := ?oi7H3) (v := ?v7H3) ?oi0_7H3 (by kernel_rfl) ?ff7H3 ?rr7H3 ?hq7H3 (Or.inl ⟨?hw7H3, ?hy7H3⟩) (by assumption) ?rest7H3
          case oi0_7H3 =>
            conv =>
              lhs
              whnf
              arg 1
              whnf
          case hq7H3 => exact fun _ _ _ h => h
          case ff7H3 => kernel_rfl
          case rr7H3 => kernel_rfl
          case hw7H3 => rfl
          case hy7H3 =>
            intro w hSw
            (try dsimp only at hSw)
            first
            | (go_simp; done)
            | (go_simp; with_reducible rfl)
          try simp only [Act.put, List.setIfInBounds_toArray, List.set_cons_zero, List.set_cons_succ]
          refine wpAnyH_take (i := 8) (oi := ?oi8H3) (v := ?v8H3) ?oi0_8H3 (by kernel_rfl) ?ff8H3 ?rr8H3 ?hq8H3 (Or.inl ⟨?hw8H3, ?hy8H3⟩) (by assumption) ?rest8H3
          case oi0_8H3 =>
            conv =>
              lhs
              whnf
              arg 1
              whnf
          case hq8H3 => exact fun _ _ _ h => h
          case ff8H3 => kernel_rfl
          case rr8H3 => kernel_rfl
          case hw8H3 => rfl
          case hy8H3 =>
            intro w hSw
            (try dsimp only at hSw)
            first
            | (go_simp; done)
            | (go_simp; with_reducible rfl)
          try simp only [Act.put, List.setIfInBounds_toArray, List.set_cons_zero, List.set_cons_succ]
          refine wpAnyH_take (i := 9) (oi := ?oi9H3) (v := ?v9H3) ?oi0_9H3 (by kernel_rfl) ?ff9H3 ?rr9H3 ?hq9H3 (Or.inl ⟨?hw9H3, ?hy9H3⟩) (by assumption) ?rest9H3
          case oi0_9H3 =>
            conv =>
              lhs
              whnf
              arg 1
              whnf
          case hq9H3 => exact fun _ _ _ h => h
          case ff9H3 => kernel_rfl
          case rr9H3 => kernel_rfl
          case hw9H3 => rfl
          case hy9H3 =>
            intro w hSw
            (try dsimp only at hSw)
            first
            | (go_simp; done)
            | (go_simp; with_reducible rfl)
          try simp only [Act.put, List.setIfInBounds_toArray, List.set_cons_zero, List.set_cons_succ]
          refine wpAnyH_take (i := 10) (oi := ?oi10H3) (v := ?v10H3) ?oi0_10H3 (by kernel_rfl) ?ff10H3 ?rr10H3 ?hq10H3 (Or.inl ⟨?hw10H3, ?hy10H3⟩) (by assumption) ?rest10H3
          case oi0_10H3 =>
            conv =>
              lhs
              whnf
              arg 1
              whnf
          case hq10H3 => exact fun _ _ _ h => h
          case ff10H3 => kernel_rfl
          case rr10H3 => kernel_rfl
          case hw10H3 => rfl
          case hy10H3 =>
            intro w hSw
            (try dsimp only at hSw)
            first
            | (go_simp; done)
            | (go_simp; with_reducible rfl)
          try simp only [Act.put, List.setIfInBounds_toArray, List.set_cons_zero, List.set_cons_succ]
          refine wpAnyH_take (i := 11) (oi := ?oi11H3) (v := ?v11H3) ?oi0_11H3 (by kernel_rfl) ?ff11H3 ?rr11H3 ?hq11H3 (Or.inl ⟨?hw11H3, ?hy11H3⟩) (by assumption) ?rest11H3
          case oi0_11H3 =>
            conv =>
              lhs
              whnf
              arg 1
              whnf
          case hq11H3 => exact fun _ _ _ h => h
          case ff11H3 => kernel_rfl
          case rr11H3 => kernel_rfl
          case hw11H3 => rfl
          case hy11H3 =>
            intro w hSw
            (try dsimp only at hSw)
            first
            | (go_simp; done)
            | (go_simp; with_reducible rfl)
          try simp only [Act.put, List.setIfInBounds_toArray, List.set_cons_zero, List.set_cons_succ]
          refine wpAnyH_take (i := 12) (oi := ?oi12H3) (v := ?v12H3) ?oi0_12H3 (by kernel_rfl) ?ff12H3 ?rr12H3 ?hq12H3 (Or.inl ⟨?hw12H3, ?hy12H3⟩) (by assumption) ?rest12H3
          case oi0_12H3 =>
            conv =>
              lhs
              whnf
              arg 1
              whnf
          case hq12H3 => exact fun _ _ _ h => h
          case ff12H3 => kernel_rfl
          case rr12H3 => kernel_rfl
          case hw12H3 => rfl
          case hy12H3 =>
            intro w hSw
            (try dsimp only at hSw)
            first
            | (go_simp; done)
            | (go_simp; with_reducible rfl)
          try simp only [Act.put, List.setIfInBounds_toArray, List.set_cons_zero, List.set_cons_succ]
          refine wpAnyH_take (i := 13) (oi := ?oi13H3) (v := ?v13H3) ?oi0_13H3 (by kernel_rfl) ?ff13H3 ?rr13H3 ?hq13H3 (Or.inl ⟨?hw13H3, ?hy13H3⟩) (by assumption) ?rest13H3
          case oi0_13H3 =>
            conv =>
              lhs
              whnf
              arg 1
              whnf
          case hq13H3 => exact fun _ _ _ h => h
          case ff13H3 => kernel_rfl
          case rr13H3 => kernel_rfl
          case hw13H3 => rfl
          case hy13H3 =>
            intro w hSw
            (try dsimp only at hSw)
            first
            | (go_simp; done)
            | (go_simp; with_reducible rfl)
          try simp only [Act.put, List.setIfInBounds_toArray, List.set_cons_zero, List.set_cons_succ]
          refine wpAnyH_take (i := 14) (oi := ?oi14H3) (v := ?v14H3) ?oi0_14H3 (by kernel_rfl) ?ff14H3 ?rr14H3 ?hq14H3 (Or.inl ⟨?hw14H3, ?hy14H3⟩) (by assumption) ?rest14H3
          case oi0_14H3 =>
            conv =>
              lhs
              whnf
              arg 1
              whnf
          case hq14H3 => exact fun _ _ _ h => h
          case ff14H3 => kernel_rfl
          case rr14H3 => kernel_rfl
          case hw14H3 => rfl
          case hy14H3 =>
            intro w hSw
            (try dsimp only at hSw)
            first
            | (go_simp; done)
            | (go_simp; with_reducible rfl)
          try simp only [Act.put, List.setIfInBounds_toArray, List.set_cons_zero, List.set_cons_succ]
          refine wpAnyH_take (i := 15) (oi := ?oi15H3) (v := ?v15H3) ?oi0_15H3 (by kernel_rfl) ?ff15H3 ?rr15H3 ?hq15H3 (Or.inl ⟨?hw15H3, ?hy15H3⟩) (by assumption) ?rest15H3
          case oi0_15H3 =>
            conv =>
              lhs
              whnf
              arg 1
              whnf
          case hq15H3 => exact fun _ _ _ h => h
          case ff15H3 => kernel_rfl
          case rr15H3 => kernel_rfl
          case hw15H3 => rfl
          case hy15H3 =>
            intro w hSw
            (try dsimp only at hSw)
            first
            | (go_simp; done)
            | (go_simp; with_reducible rfl)
          try simp only [Act.put, List.setIfInBounds_toArray, List.set_cons_zero, List.set_cons_succ]
          refine wpAnyH_take (i := 16) (oi := ?oi16H3) (v := ?v16H3) ?oi0_16H3 (by kernel_rfl) ?ff16H3 ?rr16H3 ?hq16H3 (Or.inl ⟨?hw16H3, ?hy16H3⟩) (by assumption) ?rest16H3
          case oi0_16H3 =>
            conv =>
              lhs
              whnf
              arg 1
              whnf
          case hq16H3 => exact fun _ _ _ h => h
          case ff16H3 => kernel_rfl
          case rr16H3 => kernel_rfl
          case hw16H3 => rfl
          case hy16H3 =>
            intro w hSw
            (try dsimp only at hSw)
            first
            | (go_simp; done)
            | (go_simp; with_reducible rfl)
          try simp only [Act.put, List.setIfInBounds_toArray, List.set_cons_zero, List.set_cons_succ]
          refine wpAnyH_take (i := 17) (oi := ?oi17H3) (v := ?v17H3) ?oi0_17H3 (by kernel_rfl) ?ff17H3 ?rr17H3 ?hq17H3 (Or.inl ⟨?hw17H3, ?hy17H3⟩) (by assumption) ?rest17H3
          case oi0_17H3 =>
            conv =>
              lhs
              whnf
              arg 1
              whnf
          case hq17H3 => exact fun _ _ _ h => h
          case ff17H3 => kernel_rfl
          case rr17H3 => kernel_rfl
          case hw17H3 => rfl
          case hy17H3 =>
            intro w hSw
            (try dsimp only at hSw)
            first
            | (go_simp; done)
            | (go_simp; with_reducible rfl)
          try simp only [Act.put, List.setIfInBounds_toArray, List.set_cons_zero, List.set_cons_succ]
          refine wpAnyH_take (i := 18) (oi := ?oi18H3) (v := ?v18H3) ?oi0_18H3 (by kernel_rfl) ?ff18H3 ?rr18H3 ?hq18H3 (Or.inl ⟨?hw18H3, ?hy18H3⟩) (by assumption) ?rest18H3
          case oi0_18H3 =>
            conv =>
              lhs
              whnf
              arg 1
              whnf
          case hq18H3 => exact fun _ _ _ h => h
          case ff18H3 => kernel_rfl
          case rr18H3 => kernel_rfl
          case hw18H3 => rfl
          case hy18H3 =>
            intro w hSw
            (try dsimp only at hSw)
            first
            | (go_simp; done)
            | (go_simp; with_reducible rfl)
          try simp only [Act.put, List.setIfInBounds_toArray, List.set_cons_zero, List.set_cons_succ]
          refine wpAnyH_take (i := 19) (oi := ?oi19H3) (v := ?v19H3) ?oi0_19H3 (by kernel_rfl) ?ff19H3 ?rr19H3 ?hq19H3 (Or.inl ⟨?hw19H3, ?hy19H3⟩) (by assumption) ?rest19H3
          case oi0_19H3 =>
            conv =>
              lhs
              whnf
              arg 1
              whnf
          case hq19H3 => exact fun _ _ _ h => h
          case ff19H3 => kernel_rfl
          case rr19H3 => kernel_rfl
          case hw19H3 => rfl
          case hy19H3 =>
            intro w hSw
            (try dsimp only at hSw)
            first
            | (go_simp; done)
            | (go_simp; with_reducible rfl)
          try simp only [Act.put, List.setIfInBounds_toArray, List.set_cons_zero, List.set_cons_succ]
          refine wpAnyH_take (i := 20) (oi := ?oi20H3) (v := ?v20H3) ?oi0_20H3 (by kernel_rfl) ?ff20H3 ?rr20H3 ?hq20H3 (Or.inl ⟨?hw20H3, ?hy20H3⟩) (by assumption) ?rest20H3
          case oi0_20H3 =>
            conv =>
              lhs
              whnf
              arg 1
              whnf
          case hq20H3 => exact fun _ _ _ h => h
          case ff20H3 => kernel_rfl
          case rr20H3 => kernel_rfl
          case hw20H3 => rfl
          case hy20H3 =>
            intro w hSw
            (try dsimp only at hSw)
            first
            | (go_simp; done)
            | (go_simp; with_reducible rfl)
          try simp only [Act.put, List.setIfInBounds_toArray, List.set_cons_zero, List.set_cons_succ]
          refine wpAnyH_take (i := 21) (oi := ?oi21H3) (v := ?v21H3) ?oi0_21H3 (by kernel_rfl) ?ff21H3 ?rr21H3 ?hq21H3 (Or.inl ⟨?hw21H3, ?hy21H3⟩) (by assumption) ?rest21H3
          case oi0_21H3 =>
            conv =>
              lhs
              whnf
              arg 1
              whnf
          case hq21H3 => exact fun _ _ _ h => h
          case ff21H3 => kernel_rfl
          case rr21H3 => kernel_rfl
          case hw21H3 => rfl
          case hy21H3 =>
            intro w hSw
            (try dsimp only at hSw)
            first
            | (go_simp; done)
            | (go_simp; with_reducible rfl)
          try simp only [Act.put, List.setIfInBounds_toArray, List.set_cons_zero, List.set_cons_succ]
          refine wpAnyH_take (i := 22) (oi := ?oi22H3) (v := ?v22H3) ?oi0_22H3 (by kernel_rfl) ?ff22H3 ?rr22H3 ?hq22H3 (Or.inl ⟨?hw22H3, ?hy22H3⟩) (by assumption) ?rest22H3
          case oi0_22H3 =>
            conv =>
              lhs
              whnf
              arg 1
              whnf
          case hq22H3 => exact fun _ _ _ h => h
          case ff22H3 => kernel_rfl
          case rr22H3 => kernel_rfl
          case hw22H3 => rfl
          case hy22H3 =>
            intro w hSw
            (try dsimp only at hSw)
            first
            | (go_simp; done)
            | (go_simp; with_reducible rfl)
          try simp only [Act.put, List.setIfInBounds_toArray, List.set_cons_zero, List.set_cons_succ]
          refine wpAnyH_take (i := 23) (oi := ?oi23H3) (v := ?v23H3) ?oi0_23H3 (by kernel_rfl) ?ff23H3 ?rr23H3 ?hq23H3 (Or.inl ⟨?hw23H3, ?hy23H3⟩) (by assumption) ?rest23H3
          case oi0_23H3 =>
            conv =>
              lhs
              whnf
              arg 1
              whnf
          case hq23H3 => exact fun _ _ _ h => h
          case ff23H3 => kernel_rfl
          case rr23H3 => kernel_rfl
          case hw23H3 => rfl
          case hy23H3 =>
            intro w hSw
            (try dsimp only at hSw)
            first
            | (go_simp; done)
            | (go_simp; with_reducible rfl)
          try simp only [Act.put, List.setIfInBounds_toArray, List.set_cons_zero, List.set_cons_succ]
          refine wpAnyH_take (i := 24) (oi := ?oi24H3) (v := ?v24H3) ?oi0_24H3 (by kernel_rfl) ?ff24H3 ?rr24H3 ?hq24H3 (Or.inl ⟨?hw24H3, ?hy24H3⟩) (by assumption) ?rest24H3
          case oi0_24H3 =>
            conv =>
              lhs
              whnf
              arg 1
              whnf
          case hq24H3 => exact fun _ _ _ h => h
          case ff24H3 => kernel_rfl
          case rr24H3 => kernel_rfl
          case hw24H3 => rfl
          case hy24H3 =>
            intro w hSw
            (try dsimp only at hSw)
            first
            | (go_simp; done)
            | (go_simp; with_reducible rfl)
          try simp only [Act.put, List.setIfInBounds_toArray, List.set_cons_zero, List.set_cons_succ]
          refine wpAnyH_take (i := 25) (oi := ?oi25H3) (v := ?v25H3) ?oi0_25H3 (by kernel_rfl) ?ff25H3 ?rr25H3 ?hq25H3 (Or.inl ⟨?hw25H3, ?hy25H3⟩) (by assumption) ?rest25H3
          case oi0_25H3 =>
            conv =>
              lhs
              whnf
              arg 1
              whnf
          case hq25H3 => exact fun _ _ _ h => h
          case ff25H3 => kernel_rfl
          case rr25H3 => kernel_rfl
          case hw25H3 => rfl
          case hy25H3 =>
            intro w hSw
            (try dsimp only at hSw)
            first
            | (go_simp; done)
            | (go_simp; with_reducible rfl)
          try simp only [Act.put, List.setIfInBounds_toArray, List.set_cons_zero, List.set_cons_succ]
          refine wpAnyH_take (i := 26) (oi := ?oi26H3) (v := ?v26H3) ?oi0_26H3 (by kernel_rfl) ?ff26H3 ?rr26H3 ?hq26H3 (Or.inl ⟨?hw26H3, ?hy26H3⟩) (by assumption) ?rest26H3
          case oi0_26H3 =>
            conv =>
              lhs
              whnf
              arg 1
              whnf
          case hq26H3 => exact fun _ _ _ h => h
          case ff26H3 => kernel_rfl
          case rr26H3 => kernel_rfl
          case hw26H3 => rfl
          case hy26H3 =>
            intro w hSw
            (try dsimp only at hSw)
            first
            | (go_simp; done)
            | (go_simp; with_reducible rfl)
          try simp only [Act.put, List.setIfInBounds_toArray, List.set_cons_zero, List.set_cons_succ]
          refine wpAnyH_take (i := 27) (oi := ?oi27H3) (v := ?v27H3) ?oi0_27H3 (by kernel_rfl) ?ff27H3 ?rr27H3 ?hq27H3 (Or.inl ⟨?hw27H3, ?hy27H3⟩) (by assumption) ?rest27H3
          case oi0_27H3 =>
            conv =>
              lhs
              whnf
              arg 1
              whnf
          case hq27H3 => exact fun _ _ _ h => h
          case ff27H3 => kernel_rfl
          case rr27H3 => kernel_rfl
          case hw27H3 => rfl
          case hy27H3 =>
            intro w hSw
            (try dsimp only at hSw)
            first
            | (go_simp; done)
            | (go_simp; with_reducible rfl)
          try simp only [Act.put, List.setIfInBounds_toArray, List.set_cons_zero, List.set_cons_succ]
          refine wpAnyH_done (by kernel_rfl) ?_ _
          go_wp2_with fail
          go_roundw
          case rel => exact ⟨k + 1, false, by omega, by go_num, rfl, hide (by rw [HST.out, decide_eq_false (fun h => by omega)]; rfl), UD⟩
          case measure => simp [intOf] <;> omega
        go_wp2_with fail
        refine wp_region_held_drew (S := (fun w' => w'.cell? ⟨w3.heap.size, 3, none⟩ = some (.slice (some ⟨b, o, none⟩) i.trims.length tc) ∧ w'.cell? ⟨cb, co + k, none⟩ = some (.int .i64 xn) ∧ w'.cell? ⟨b, o + xn * 2, none⟩ = some (.int .i64 sp.fr) ∧ w'.cell? ⟨b, o + xn * 2 + 1, none⟩ = some (.int .i64 sp.to_))) (by kernel_rfl) (by exact ⟨o3, hxc, c0, c1⟩) (fun hHeld => ?_)
        refine wpAnyH_take (i := 0) (oi := ?oi0H4) (v := ?v0H4) ?oi0_0H4 (by kernel_rfl) ?ff0H4 ?rr0H4 ?hq0H4 (Or.inl ⟨?hw0H4, ?hy0H4⟩) (by assumption) ?rest0H4
        case oi0_0H4 =>
          conv =>
            lhs
            whnf
            arg 1
            whnf
        case hq0H4 => exact fun _ _ _ h => h
        case ff0H4 => kernel_rfl
        case rr0H4 => kernel_rfl
        case hw0H4 => rfl
        case hy0H4 =>
          intro w hSw
          (try dsimp only at hSw)
          first
          | (go_simp; done)
          | (go_simp; with_reducible rfl)
        try simp only [Act.put, List.setIfInBounds_toArray, List.set_cons_zero, List.set_cons_succ]
        refine wpAnyH_take (i := 1) (oi := ?oi1H4) (v := ?v1H4) ?oi0_1H4 (by kernel_rfl) ?ff1H4 ?rr1H4 ?hq1H4 (Or.inl ⟨?hw1H4, ?hy1H4⟩) (by assumption) ?rest1H4
        case oi0_1H4 =>
          conv =>
            lhs
            whnf
            arg 1
            whnf
        case hq1H4 => exact fun _ _ _ h => h
        case ff1H4 => kernel_rfl
        case rr1H4 => kernel_rfl
        case hw1H4 => rfl
        case hy1H4 =>
          intro w hSw
          (try dsimp only at hSw)
          first
          | (go_simp; done)
          | (go_simp; with_reducible rfl)
        try simp only [Act.put, List.setIfInBounds_toArray, List.set_cons_zero, List.set_cons_succ]
        refine wpAnyH_take (i := 2) (oi := ?oi2H4) (v := ?v2H4) ?oi0_2H4 (by kernel_rfl) ?ff2H4 ?rr2H4 ?hq2H4 (Or.inl ⟨?hw2H4, ?hy2H4⟩) (by assumption) ?rest2H4
        case oi0_2H4 =>
          conv =>
            lhs
            whnf
            arg 1
            whnf
        case hq2H4 => exact fun _ _ _ h => h
        case ff2H4 => kernel_rfl
        case rr2H4 => kernel_rfl
        case hw2H4 => rfl
        case hy2H4 =>
          intro w hSw
          (try dsimp only at hSw)
          first
          | (go_simp; done)
          | (go_simp; with_reducible rfl)
        try simp only [Act.put, List.setIfInBounds_toArray, List.set_cons_zero, List.set_cons_succ]
        refine wpAnyH_take (i := 3) (oi := ?oi3H4) (v := ?v3H4) ?oi0_3H4 (by kernel_rfl) ?ff3H4 ?rr3H4 ?hq3H4 (Or.inl ⟨?hw3H4, ?hy3H4⟩) (by assumption) ?rest3H4
        case oi0_3H4 =>
          conv =>
            lhs
            whnf
            arg 1
            whnf
        case hq3H4 => exact fun _ _ _ h => h
        case ff3H4 => kernel_rfl
        case rr3H4 => kernel_rfl
        case hw3H4 => rfl
        case hy3H4 =>
          intro w hSw
          (try dsimp only at hSw)
          first
          | (go_simp; done)
          | (go_simp; with_reducible rfl)
        try simp only [Act.put, List.setIfInBounds_toArray, List.set_cons_zero, List.set_cons_succ]
        refine wpAnyH_take (i := 4) (oi := ?oi4H4) (v := ?v4H4) ?oi0_4H4 (by kernel_rfl) ?ff4H4 ?rr4H4 ?hq4H4 (Or.inl ⟨?hw4H4, ?hy4H4⟩) (by assumption) ?rest4H4
        case oi0_4H4 =>
          conv =>
            lhs
            whnf
            arg 1
            whnf
        case hq4H4 => exact fun _ _ _ h => h
        case ff4H4 => kernel_rfl
        case rr4H4 => kernel_rfl
        case hw4H4 => rfl
        case hy4H4 =>
          intro w hSw
          (try dsimp only at hSw)
          first
          | (go_simp; done)
          | (go_simp; with_reducible rfl)
        try simp only [Act.put, List.setIfInBounds_toArray, List.set_cons_zero, List.set_cons_succ]
        refine wpAnyH_take (i := 5) (oi := ?oi5H4) (v := ?v5H4) ?oi0_5H4 (by kernel_rfl) ?ff5H4 ?rr5H4 ?hq5H4 (Or.inl ⟨?hw5H4, ?hy5H4⟩) (by assumption) ?rest5H4
        case oi0_5H4 =>
          conv =>
            lhs
            whnf
            arg 1
            whnf
        case hq5H4 => exact fun _ _ _ h => h
        case ff5H4 => kernel_rfl
        case rr5H4 => kernel_rfl
        case hw5H4 => rfl
        case hy5H4 =>
          intro w hSw
          (try dsimp only at hSw)
          first
          | (go_simp; done)
          | (go_simp; with_reducible rfl)
        try simp only [Act.put, List.setIfInBounds_toArray, List.set_cons_zero, List.set_cons_succ]
        refine wpAnyH_take (i := 6) (oi := ?oi6H4) (v := ?v6H4) ?oi0_6H4 (by kernel_rfl) ?ff6H4 ?rr6H4 ?hq6H4 (Or.inl ⟨?hw6H4, ?hy6H4⟩) (by assumption) ?rest6H4
        case oi0_6H4 =>
          conv =>
            lhs
            whnf
            arg 1
            whnf
        case hq6H4 => exact fun _ _ _ h => h
        case ff6H4 => kernel_rfl
        case rr6H4 => kernel_rfl
        case hw6H4 => rfl
        case hy6H4 =>
          intro w hSw
          (try dsimp only at hSw)
          first
          | (go_simp; done)
          | (go_simp; with_reducible rfl)
        try simp only [Act.put, List.setIfInBounds_toArray, List.set_cons_zero, List.set_cons_succ]
        refine wpAnyH_take (i := 7) (oi := ?oi7H4) (v := ?v7H4) ?oi0_7H4 (by kernel_rfl) ?ff7H4 ?rr7H4 ?hq7H4 (Or.inl ⟨?hw7H4, ?hy7H4⟩) (by assumption) ?rest7H4
        case oi0_7H4 =>
          conv =>
            lhs
            whnf
            arg 1
            whnf
        case hq7H4 => exact fun _ _ _ h => h
        case ff7H4 => kernel_rfl
        case rr7H4 => kernel_rfl
        case hw7H4 => rfl
        case hy7H4 =>
          intro w hSw
          (try dsimp only at hSw)
          first
          | (go_simp; done)
          | (go_simp; with_reducible rfl)
        try simp only [Act.put, List.setIfInBounds_toArray, List.set_cons_zero, List.set_cons_succ]
        refine wpAnyH_take (i := 8) (oi := ?oi8H4) (v := ?v8H4) ?oi0_8H4 (by kernel_rfl) ?ff8H4 ?rr8H4 ?hq8H4 (Or.inl ⟨?hw8H4, ?hy8H4⟩) (by assumption) ?rest8H4
        case oi0_8H4 =>
          conv =>
            lhs
            whnf
            arg 1
            whnf
        case hq8H4 => exact fun _ _ _ h => h
        case ff8H4 => kernel_rfl
        case rr8H4 => kernel_rfl
        case hw8H4 => rfl
        case hy8H4 =>
          intro w hSw
          (try dsimp only at hSw)
          first
          | (go_simp; done)
          | (go_simp; with_reducible rfl)
        try simp only [Act.put, List.setIfInBounds_toArray, List.set_cons_zero, List.set_cons_succ]
        refine wpAnyH_take (i := 9) (oi := ?oi9H4) (v := ?v9H4) ?oi0_9H4 (by kernel_rfl) ?ff9H4 ?rr9H4 ?hq9H4 (Or.inl ⟨?hw9H4, ?hy9H4⟩) (by assumption) ?rest9H4
        case oi0_9H4 =>
          conv =>
            lhs
            whnf
            arg 1
            whnf
        case hq9H4 => exact fun _ _ _ h => h
        case ff9H4 => kernel_rfl
        case rr9H4 => kernel_rfl
        case hw9H4 => rfl
        case hy9H4 =>
          intro w hSw
          (try dsimp only at hSw)
          first
          | (go_simp; done)
          | (go_simp; with_reducible rfl)
        try simp only [Act.put, List.setIfInBounds_toArray, List.set_cons_zero, List.set_cons_succ]
        refine wpAnyH_take (i := 10) (oi := ?oi10H4) (v := ?v10H4) ?oi0_10H4 (by kernel_rfl) ?ff10H4 ?rr10H4 ?hq10H4 (Or.inl ⟨?hw10H4, ?hy10H4⟩) (by assumption) ?rest10H4
        case oi0_10H4 =>
          conv =>
            lhs
            whnf
            arg 1
            whnf
        case hq10H4 => exact fun _ _ _ h => h
        case ff10H4 => kernel_rfl
        case rr10H4 => kernel_rfl
        case hw10H4 => rfl
        case hy10H4 =>
          intro w hSw
          (try dsimp only at hSw)
          first
          | (go_simp; done)
          | (go_simp; with_reducible rfl)
        try simp only [Act.put, List.setIfInBounds_toArray, List.set_cons_zero, List.set_cons_succ]
        refine wpAnyH_take (i := 11) (oi := ?oi11H4) (v := ?v11H4) ?oi0_11H4 (by kernel_rfl) ?ff11H4 ?rr11H4 ?hq11H4 (Or.inl ⟨?hw11H4, ?hy11H4⟩) (by assumption) ?rest11H4
        case oi0_11H4 =>
          conv =>
            lhs
            whnf
            arg 1
            whnf
        case hq11H4 => exact fun _ _ _ h => h
        case ff11H4 => kernel_rfl
        case rr11H4 => kernel_rfl
        case hw11H4 => rfl
        case hy11H4 =>
          intro w hSw
          (try dsimp only at hSw)
          first
          | (go_simp; done)
          | (go_simp; with_reducible rfl)
        try simp only [Act.put, List.setIfInBounds_toArray, List.set_cons_zero, List.set_cons_succ]
        refine wpAnyH_take (i := 12) (oi := ?oi12H4) (v := ?v12H4) ?oi0_12H4 (by kernel_rfl) ?ff12H4 ?rr12H4 ?hq12H4 (Or.inl ⟨?hw12H4, ?hy12H4⟩) (by assumption) ?rest12H4
        case oi0_12H4 =>
          conv =>
            lhs
            whnf
            arg 1
            whnf
        case hq12H4 => exact fun _ _ _ h => h
        case ff12H4 => kernel_rfl
        case rr12H4 => kernel_rfl
        case hw12H4 => rfl
        case hy12H4 =>
          intro w hSw
          (try dsimp only at hSw)
          first
          | (go_simp; done)
          | (go_simp; with_reducible rfl)
        try simp only [Act.put, List.setIfInBounds_toArray, List.set_cons_zero, List.set_cons_succ]
        refine wpAnyH_take (i := 13) (oi := ?oi13H4) (v := ?v13H4) ?oi0_13H4 (by kernel_rfl) ?ff13H4 ?rr13H4 ?hq13H4 (Or.inl ⟨?hw13H4, ?hy13H4⟩) (by assumption) ?rest13H4
        case oi0_13H4 =>
          conv =>
            lhs
            whnf
            arg 1
            whnf
        case hq13H4 => exact fun _ _ _ h => h
        case ff13H4 => kernel_rfl
        case rr13H4 => kernel_rfl
        case hw13H4 => rfl
        case hy13H4 =>
          intro w hSw
          (try dsimp only at hSw)
          first
          | (go_simp; done)
          | (go_simp; with_reducible rfl)
        try simp only [Act.put, List.setIfInBounds_toArray, List.set_cons_zero, List.set_cons_succ]
        refine wpAnyH_take (i := 14) (oi := ?oi14H4) (v := ?v14H4) ?oi0_14H4 (by kernel_rfl) ?ff14H4 ?rr14H4 ?hq14H4 (Or.inl ⟨?hw14H4, ?hy14H4⟩) (by assumption) ?rest14H4
        case oi0_14H4 =>
          conv =>
            lhs
            whnf
            arg 1
            whnf
        case hq14H4 => exact fun _ _ _ h => h
        case ff14H4 => kernel_rfl
        case rr14H4 => kernel_rfl
        case hw14H4 => rfl
        case hy14H4 =>
          intro w hSw
          (try dsimp only at hSw)
          first
          | (go_simp; done)
          | (go_simp; with_reducible rfl)
        try simp only [Act.put, List.setIfInBounds_toArray, List.set_cons_zero, List.set_cons_succ]
        refine wpAnyH_take (i := 15) (oi := ?oi15H4) (v := ?v15H4) ?oi0_15H4 (by kernel_rfl) ?ff15H4 ?rr15H4 ?hq15H4 (Or.inl ⟨?hw15H4, ?hy15H4⟩) (by assumption) ?rest15H4
        case oi0_15H4 =>
          conv =>
            lhs
            whnf
            arg 1
            whnf
        case hq15H4 => exact fun _ _ _ h => h
        case ff15H4 => kernel_rfl
        case rr15H4 => kernel_rfl
        case hw15H4 => rfl
        case hy15H4 =>
          intro w hSw
          (try dsimp only at hSw)
          first
          | (go_simp; done)
          | (go_simp; with_reducible rfl)
        try simp only [Act.put, List.setIfInBounds_toArray, List.set_cons_zero, List.set_cons_succ]
        refine wpAnyH_take (i := 16) (oi := ?oi16H4) (v := ?v16H4) ?oi0_16H4 (by kernel_rfl) ?ff16H4 ?rr16H4 ?hq16H4 (Or.inl ⟨?hw16H4, ?hy16H4⟩) (by assumption) ?rest16H4
        case oi0_16H4 =>
          conv =>
            lhs
            whnf
            arg 1
            whnf
        case hq16H4 => exact fun _ _ _ h => h
        case ff16H4 => kernel_rfl
        case rr16H4 => kernel_rfl
        case hw16H4 => rfl
        case hy16H4 =>
          intro w hSw
          (try dsimp only at hSw)
          first
          | (go_simp; done)
          | (go_simp; with_reducible rfl)
        try simp only [Act.put, List.setIfInBounds_toArray, List.set_cons_zero, List.set_cons_succ]
        refine wpAnyH_take (i := 17) (oi := ?oi17H4) (v := ?v17H4) ?oi0_17H4 (by kernel_rfl) ?ff17H4 ?rr17H4 ?hq17H4 (Or.inl ⟨?hw17H4, ?hy17H4⟩) (by assumption) ?rest17H4
        case oi0_17H4 =>
          conv =>
            lhs
            whnf
            arg 1
            whnf
        case hq17H4 => exact fun _ _ _ h => h
        case ff17H4 => kernel_rfl
        case rr17H4 => kernel_rfl
        case hw17H4 => rfl
        case hy17H4 =>
          intro w hSw
          (try dsimp only at hSw)
          first
          | (go_simp; done)
          | (go_simp; with_reducible rfl)
        try simp only [Act.put, List.setIfInBounds_toArray, List.set_cons_zero, List.set_cons_succ]
        refine wpAnyH_take (i := 18) (oi := ?oi18H4) (v := ?v18H4) ?oi0_18H4 (by kernel_rfl) ?ff18H4 ?rr18H4 ?hq18H4 (Or.inl ⟨?hw18H4, ?hy18H4⟩) (by assumption) ?rest18H4
        case oi0_18H4 =>
          conv =>
            lhs
            whnf
            arg 1
            whnf
        case hq18H4 => exact fun _ _ _ h => h
        case ff18H4 => kernel_rfl
        case rr18H4 => kernel_rfl
        case hw18H4 => rfl
        case hy18H4 =>
          intro w hSw
          (try dsimp only at hSw)
          first
          | (go_simp; done)
          | (go_simp; with_reducible rfl)
        try simp only [Act.put, List.setIfInBounds_toArray, List.set_cons_zero, List.set_cons_succ]
        refine wpAnyH_take (i := 19) (oi := ?oi19H4) (v := ?v19H4) ?oi0_19H4 (by kernel_rfl) ?ff19H4 ?rr19H4 ?hq19H4 (Or.inl ⟨?hw19H4, ?hy19H4⟩) (by assumption) ?rest19H4
        case oi0_19H4 =>
          conv =>
            lhs
            whnf
            arg 1
            whnf
        case hq19H4 => exact fun _ _ _ h => h
        case ff19H4 => kernel_rfl
        case rr19H4 => kernel_rfl
        case hw19H4 => rfl
        case hy19H4 =>
          intro w hSw
          (try dsimp only at hSw)
          first
          | (go_simp; done)
          | (go_simp; with_reducible rfl)
        try simp only [Act.put, List.setIfInBounds_toArray, List.set_cons_zero, List.set_cons_succ]
        refine wpAnyH_take (i := 20) (oi := ?oi20H4) (v := ?v20H4) ?oi0_20H4 (by kernel_rfl) ?ff20H4 ?rr20H4 ?hq20H4 (Or.inl ⟨?hw20H4, ?hy20H4⟩) (by assumption) ?rest20H4
        case oi0_20H4 =>
          conv =>
            lhs
            whnf
            arg 1
            whnf
        case hq20H4 => exact fun _ _ _ h => h
        case ff20H4 => kernel_rfl
        case rr20H4 => kernel_rfl
        case hw20H4 => rfl
        case hy20H4 =>
          intro w hSw
          (try dsimp only at hSw)
          first
          | (go_simp; done)
          | (go_simp; with_reducible rfl)
        try simp only [Act.put, List.setIfInBounds_toArray, List.set_cons_zero, List.set_cons_succ]
        refine wpAnyH_take (i := 21) (oi := ?oi21H4) (v := ?v21H4) ?oi0_21H4 (by kernel_rfl) ?ff21H4 ?rr21H4 ?hq21H4 (Or.inl ⟨?hw21H4, ?hy21H4⟩) (by assumption) ?rest21H4
        case oi0_21H4 =>
          conv =>
            lhs
            whnf
            arg 1
            whnf
        case hq21H4 => exact fun _ _ _ h => h
        case ff21H4 => kernel_rfl
        case rr21H4 => kernel_rfl
        case hw21H4 => rfl
        case hy21H4 =>
          intro w hSw
          (try dsimp only at hSw)
          first
          | (go_simp; done)
          | (go_simp; with_reducible rfl)
        try simp only [Act.put, List.setIfInBounds_toArray, List.set_cons_zero, List.set_cons_succ]
        refine wpAnyH_take (i := 22) (oi := ?oi22H4) (v := ?v22H4) ?oi0_22H4 (by kernel_rfl) ?ff22H4 ?rr22H4 ?hq22H4 (Or.inl ⟨?hw22H4, ?hy22H4⟩) (by assumption) ?rest22H4
        case oi0_22H4 =>
          conv =>
            lhs
            whnf
            arg 1
            whnf
        case hq22H4 => exact fun _ _ _ h => h
        case ff22H4 => kernel_rfl
        case rr22H4 => kernel_rfl
        case hw22H4 => rfl
        case hy22H4 =>
          intro w hSw
          (try dsimp only at hSw)
          first
          | (go_simp; done)
          | (go_simp; with_reducible rfl)
        try simp only [Act.put, List.setIfInBounds_toArray, List.set_cons_zero, List.set_cons_succ]
        refine wpAnyH_take (i := 23) (oi := ?oi23H4) (v := ?v23H4) ?oi0_23H4 (by kernel_rfl) ?ff23H4 ?rr23H4 ?hq23H4 (Or.inl ⟨?hw23H4, ?hy23H4⟩) (by assumption) ?rest23H4
        case oi0_23H4 =>
          conv =>
            lhs
            whnf
            arg 1
            whnf
        case hq23H4 => exact fun _ _ _ h => h
        case ff23H4 => kernel_rfl
        case rr23H4 => kernel_rfl
        case hw23H4 => rfl
        case hy23H4 =>
          intro w hSw
          (try dsimp only at hSw)
          first
          | (go_simp; done)
          | (go_simp; with_reducible rfl)
        try simp only [Act.put, List.setIfInBounds_toArray, List.set_cons_zero, List.set_cons_succ]
        refine wpAnyH_take (i := 24) (oi := ?oi24H4) (v := ?v24H4) ?oi0_24H4 (by kernel_rfl) ?ff24H4 ?rr24H4 ?hq24H4 (Or.inl ⟨?hw24H4, ?hy24H4⟩) (by assumption) ?rest24H4
        case oi0_24H4 =>
          conv =>
            lhs
            whnf
            arg 1
            whnf
        case hq24H4 => exact fun _ _ _ h => h
        case ff24H4 => kernel_rfl
        case rr24H4 => kernel_rfl
        case hw24H4 => rfl
        case hy24H4 =>
          intro w hSw
          (try dsimp only at hSw)
          first
          | (go_simp; done)
          | (go_simp; with_reducible rfl)
        try simp only [Act.put, List.setIfInBounds_toArray, List.set_cons_zero, List.set_cons_succ]
        refine wpAnyH_take (i := 25) (oi := ?oi25H4) (v := ?v25H4) ?oi0_25H4 (by kernel_rfl) ?ff25H4 ?rr25H4 ?hq25H4 (Or.inl ⟨?hw25H4, ?hy25H4⟩) (by assumption) ?rest25H4
        case oi0_25H4 =>
          conv =>
            lhs
            whnf
            arg 1
            whnf
        case hq25H4 => exact fun _ _ _ h => h
        case ff25H4 => kernel_rfl
        case rr25H4 => kernel_rfl
        case hw25H4 => rfl
        case hy25H4 =>
          intro w hSw
          (try dsimp only at hSw)
          first
          | (go_simp; done)
          | (go_simp; with_reducible rfl)
        try simp only [Act.put, List.setIfInBounds_toArray, List.set_cons_zero, List.set_cons_succ]
        refine wpAnyH_take (i := 26) (oi := ?oi26H4) (v := ?v26H4) ?oi0_26H4 (by kernel_rfl) ?ff26H4 ?rr26H4 ?hq26H4 (Or.inl ⟨?hw26H4, ?hy26H4⟩) (by assumption) ?rest26H4
        case oi0_26H4 =>
          conv =>
            lhs
            whnf
            arg 1
            whnf
        case hq26H4 => exact fun _ _ _ h => h
        case ff26H4 => kernel_rfl
        case rr26H4 => kernel_rfl
        case hw26H4 => rfl
        case hy26H4 =>
          intro w hSw
          (try dsimp only at hSw)
          first
          | (go_simp; done)
          | (go_simp; with_reducible rfl)
        try simp only [Act.put, List.setIfInBounds_toArray, List.set_cons_zero, List.set_cons_succ]
        refine wpAnyH_take (i := 27) (oi := ?oi27H4) (v := ?v27H4) ?oi0_27H4 (by kernel_rfl) ?ff27H4 ?rr27H4 ?hq27H4 (Or.inl ⟨?hw27H4, ?hy27H4⟩) (by assumption) ?rest27H4
        case oi0_27H4 =>
          conv =>
            lhs
            whnf
            arg 1
            whnf
        case hq27H4 => exact fun _ _ _ h => h
        case ff27H4 => kernel_rfl
        case rr27H4 => kernel_rfl
        case hw27H4 => rfl
        case hy27H4 =>
          intro w hSw
          (try dsimp only at hSw)
          first
          | (go_simp; done)
          | (go_simp; with_reducible rfl)
        try simp only [Act.put, List.setIfInBounds_toArray, List.set_cons_zero, List.set_cons_succ]
        refine wpAnyH_done (by kernel_rfl) ?_ _
        go_wp2_with fail
        go_roundw
        case rel => exact ⟨k + 1, true, by omega, by go_num, rfl, hide (by rw [HST.out, decide_eq_true ⟨e1, e2⟩]; rfl), UD⟩
        case measure => simp [intOf] <;> omega
end Go.Proofs.Ytpkeimdlcafcnaa
