/-
  The walk of the statement that all functions agree with the reference implementation.
-/
import Derived.Test.YteehjciepccomaaRPairs
import Derived.Test.YteehjciepccomaaROpen
import Derived.Test.YteehjciepccomaaFChoice
import Derived.Test.YteehjciepccomaaFSane
namespace Go.Proofs.Yteehjciepccomaa
open Go.RowKit
set_option maxRecDepth 100000
set_option maxHeartbeats 20000000

theorem fitMatchesReference_walk (a0 : Option Addr) (len0 cap0 : Nat) (z0 : List Pc) (a1 : Option Addr) (len1 cap1 : Nat) (z1 : List X4) (a2 a3 a4 a5 a6 : Int) (a7 : Option Addr) (len7 cap7 : Nat) (z7 : List Int) (a8 : Option Addr) (len8 cap8 : Nat) (z8 : List Int) (w : World)
    (w0 : PcArg w a0 len0 cap0 z0) (w1 : X4Arg w a1 len1 cap1 z1) (w2 : (Lit.int .i64 a2).wf = true) (w3 : (Lit.int .i64 a3).wf = true) (w4 : (Lit.int .i64 a4).wf = true) (w5 : (Lit.int .i64 a5).wf = true) (_w6 : (Lit.int .i64 a6).wf = true) (w7 : IntsArg w a7 len7 cap7 z7) (w8 : IntsArg w a8 len8 cap8 z8) :
    Calls Try.prog 3 #[.slice a0 len0 cap0, .slice a1 len1 cap1, .int .i64 a2, .int .i64 a3, .int .i64 a4, .int .i64 a5, .int .i64 a6, .slice a7 len7 cap7, .slice a8 len8 cap8] w fun e w' => e = .returned (.bool true) ∧ Below w.heap.size w w' := by
  have P0 := hide w0
  have X0 := hide w1
  have W2 := hide w2
  have W3 := hide w3
  have W4 := hide w4
  have W5 := hide w5
  have J7 := hide w7
  have J8 := hide w8
  clear w0 w1 w2 w3 w4 w5 _w6 w7 w8
  go_enter Try.func3, Try.ntmps3
  go_wp2_with fail
  refine (sane_any w).mono ?_
  rintro e w1 ⟨rfl, u⟩
  have U0 := hide u
  clear u
  go_wp2_with fail
  refine (made_any a1 len1 cap1 z1 a2 w1 (X0.out.2.2.2.below (U0.out.toBelow (Nat.le_refl _) (by simp))) X0.out.1 (Nat.le_trans X0.out.2.1 X0.out.2.2.1) U0.out.size W2.out).mono ?_
  rintro e w2 ⟨b, len, cap, l, t, rfl, hl, hl10, hcap, hp, hV, _, u⟩
  have U1 := hide (U0.out.trans u (by simp))
  have HP := hide hp
  have HLEN := hide hl
  have HOK := hide hV.2.2
  have I7 := hide (show Ints w.heap.size w (.slice a7 len7 cap7) z7 from by
    have := J7.out.ints len7 (Nat.le_refl _) cap7
    rwa [List.take_of_length_le (by have := J7.out.1; omega)] at this)
  have I8 := hide (show Ints w.heap.size w (.slice a8 len8 cap8) z8 from by
    have := J8.out.ints len8 (Nat.le_refl _) cap8
    rwa [List.take_of_length_le (by have := J8.out.1; omega)] at this)
  have HCAP := hide hcap
  clear u hp hV hl
  go_wp2_with fail
  refine (few_any (n₀ := w.heap.size) a8 len8 cap8 6 z8 w2 (I8.out.upd U1.out (Nat.le_refl _) (by simp)) J8.out.2.1 J8.out.2.2.1 (by omega)).mono ?_
  rintro e w' ⟨k8, c8, rfl, hk6, _, _, _, i8, rfl⟩
  have I9 := hide i8
  clear i8
  go_wp2_with fail
  have BT := bent_any b cap l a3 a4 a5 w2 HP.out (Nat.le_refl _) (by have := HLEN.out; omega) HOK.out W3.out W5.out
  rw [HLEN.out] at BT
  refine BT.mono ?_
  clear BT
  rintro e w3 ⟨A1, n1, c1, l1, rfl, hl1, hn1, hc1, hp1, u⟩
  have U2 := hide u
  have HP1 := hide hp1
  have HL1 := hide hl1
  clear u hp1 hl1
  go_wp2_with fail
  refine (cut_any w a0 len0 cap0 z0 w3 P0.out.2.2.2 (U1.out.trans U2.out (by simp)) P0.out.1).mono ?_
  rintro e w4 ⟨A2, n2, c2, l2, rfl, hl2, hn2, hc2, hp2, u⟩
  have U3 := hide u
  have HP2 := hide hp2
  have HL2 := hide hl2
  have L1 := hide (Blk.new w4 22 [.slice b len cap, .slice A1 n1 c1, .slice A2 n2 c2])
  have UA := hide ((Upd.refl [] w4).alloc (.cells #[.slice b len cap, .slice A1 n1 c1, .slice A2 n2 c2] 22))
  obtain ⟨wd, hwd⟩ : ∃ wd, w4.alloc (.cells #[.slice b len cap, .slice A1 n1 c1, .slice A2 n2 c2] 22) = wd := ⟨_, rfl⟩
  have HWD := hide hwd
  have hall : ∀ i : Nat, i < 3 → ∃ A ln cp ll, (∀ W, Upd [] wd W → W.cell? ⟨w4.heap.size, i, none⟩ = some (.slice A ln cp)) ∧ PcsAt wd.heap.size wd A ll ∧ ll.length = ln ∧ ln ≤ cp ∧ ln ≤ 10 := fun i hi => by
    have hc : ∀ v, [Value.slice b len cap, .slice A1 n1 c1, .slice A2 n2 c2][i]? = some v → ∀ W, Upd [] wd W → W.cell? ⟨w4.heap.size, i, none⟩ = some v := fun v hv W hW => keep_cell wd W _ _ hW (by rw [← hwd]; exact (L1.out.cell i).trans hv)
    have hsz := UA.out.size
    rw [hwd] at hsz
    rcases (show i = 0 ∨ i = 1 ∨ i = 2 by omega) with rfl | rfl | rfl
    · exact ⟨b, len, cap, l, hc _ rfl, (HP.out.upd ((U2.out.trans U3.out (by simp)).trans (hwd ▸ UA.out) (by simp)) (Nat.le_refl _) (by simp)).mono (Nat.le_trans (U2.out.trans U3.out (by simp)).size hsz), HLEN.out, HCAP.out, hl10⟩
    · exact ⟨A1, n1, c1, l1, hc _ rfl, (HP1.out.upd (U3.out.trans (hwd ▸ UA.out) (by simp)) (Nat.le_refl _) (by simp)).mono (Nat.le_trans U3.out.size hsz), HL1.out, hc1, hn1⟩
    · exact ⟨A2, n2, c2, l2, hc _ rfl, (HP2.out.upd (hwd ▸ UA.out) (Nat.le_refl _) (by simp)).mono hsz, HL2.out, hc2, by omega⟩
  have HALL := hide hall
  have UD := hide (show Upd [] w wd from hwd ▸ (((U1.out.trans U2.out (by simp)).trans U3.out (by simp)).trans UA.out (by simp)))
  have U2D := hide (show Upd [] w2 wd from hwd ▸ ((U2.out.trans U3.out (by simp)).trans UA.out (by simp)))
  clear u hp2 hl2 hall hwd
  go_wp2_with fail
  rw [HWD.out]
  obtain ⟨G, hG⟩ : ∃ G, w4.heap.size = G := ⟨_, rfl⟩
  rw [hG] at HALL ⊢
  clear hG
  go_loopw [75] (fun s75 wr => ∃ i : Nat, i ≤ 3 ∧ s75 = .int .i64 i ∧ Hid (Upd [] wd wr)) (fun i _ => 3 - (intOf i).toNat)
  case atStart => exact ⟨0, Nat.zero_le _, rfl, Upd.refl _ _⟩
  case round =>
    obtain ⟨i, hi, rfl, hu⟩ := hrel
    obtain ⟨wo, rfl⟩ : ∃ wo : World, wo = wr := ⟨_, rfl⟩
    by_cases hi3 : i < 3
    · obtain ⟨A, ln, cp, ll, hcell, hpcs, hll, hlc, hl9⟩ := HALL.out i hi3
      have f0 := hcell wo hu.out
      have HPL := hide hpcs
      have HLL := hide hll
      have HLC := hide hlc
      have hii : (i : Int) < 3 := by omega
      obtain ⟨v, hv⟩ : ∃ v, pickN a4 ((ln : Int) + 1) = v := ⟨_, rfl⟩
      have PK := fun W => pick_any a4 ((ln : Int) + 1) W W4.out (by omega) (by omega)
      simp only [hv] at PK
      have HPK := hide PK
      clear hcell hpcs hll hlc PK hv
      go_wp2_with fail
      refine (HPK.out _).mono ?_
      rintro e w' ⟨rfl, rfl⟩
      have L2 := Blk.new wo 3 [.int .i64 a4, .int .i64 v]
      have UE := (Upd.refl [] wo).alloc (.cells #[.int .i64 a4, .int .i64 v] 3)
      have UDE := hide (hu.out.alloc (.cells #[.int .i64 a4, .int .i64 v] 3))
      obtain ⟨we, hwe⟩ : ∃ we, wo.alloc (.cells #[.int .i64 a4, .int .i64 v] 3) = we := ⟨_, rfl⟩
      have HWE := hide hwe
      rw [hwe] at L2 UDE
      have HK := hide (show ∀ j : Nat, j < 2 → ∃ q : Int, ∀ W, Upd [] we W → W.cell? ⟨wo.heap.size, j, none⟩ = some (.int .i64 q) from fun j hj => by
        rcases (show j = 0 ∨ j = 1 by omega) with rfl | rfl
        · exact ⟨a4, fun W hW => keep_cell we W _ _ hW (L2.cell 0)⟩
        · exact ⟨v, fun W hW => keep_cell we W _ _ hW (L2.cell 1)⟩)
      clear L2 UE hwe
      go_wp2_with fail
      rw [HWE.out]
      obtain ⟨G2, hG2⟩ : ∃ G2, wo.heap.size = G2 := ⟨_, rfl⟩
      rw [hG2] at HK ⊢
      clear hG2
      go_loopw [87] (fun s87 wr2 => ∃ j : Nat, j ≤ 2 ∧ s87 = .int .i64 j ∧ Hid (Upd [] we wr2)) (fun j _ => 2 - (intOf j).toNat)
      case atStart => exact ⟨0, Nat.zero_le _, rfl, Upd.refl _ _⟩
      case round =>
        obtain ⟨j, hj, rfl, hv2⟩ := hrel
        obtain ⟨wp, rfl⟩ : ∃ wp : World, wp = wr := ⟨_, rfl⟩
        have UDP := hide (UDE.out.trans hv2.out (by simp))
        by_cases hj2 : j < 2
        · obtain ⟨q, hq⟩ := HK.out j hj2
          have f1 := hq wp hv2.out
          obtain ⟨rl, re, hrl, k1, k2⟩ := begins_pair A cp ll wd HPL.out (Nat.le_refl _) (by have := HLL.out; omega) (by have := HLL.out; have := HLC.out; omega) q
          obtain ⟨m, hm⟩ : ∃ m, rl.length = m := ⟨_, rfl⟩
          simp only [hm, HLL.out] at k1 k2 hrl
          have K1 := hide k1
          have K2 := hide k2
          have hji : (j : Int) < 2 := by omega
          clear hq k1 k2 hm
          go_wp2_with fail
          refine (K1.out _ UDP.out).mono ?_
          rintro e wx ⟨A3, c3, rfl, i3, u⟩
          have I3 := hide i3
          have UX := hide (UDP.out.trans u (by simp))
          have VX := hide (hv2.out.trans u (by simp))
          clear i3 u
          go_wp2_with fail
          refine (K2.out _ UX.out).mono ?_
          rintro e wy ⟨A4, c4, rfl, i4, u⟩
          have I4 := hide i4
          have UY := hide u
          have VY := hide (VX.out.trans u (by simp))
          clear i4 u
          go_wp2_with fail
          refine (ints_yes A3 m c3 rl A4 m c4 wy (I3.out.upd UY.out (Nat.le_refl _) (by simp)) I4.out UY.out.size (Nat.le_refl _) (by omega)).mono ?_
          rintro e wz ⟨rfl, u⟩
          have VZ := hide (VY.out.trans u (by simp))
          clear u
          go_wp2_with fail
          go_roundw
          case rel => exact ⟨j + 1, by omega, by go_num, VZ⟩
          case measure => simp [intOf] <;> omega
        · have hji : ¬ (j : Int) < 2 := by omega
          have L3 := Blk.new wp 3 [.int .i64 t, .int .i64 a6]
          have UDF := hide (UDP.out.alloc (.cells #[.int .i64 t, .int .i64 a6] 3))
          obtain ⟨wf, hwf⟩ : ∃ wf, wp.alloc (.cells #[.int .i64 t, .int .i64 a6] 3) = wf := ⟨_, rfl⟩
          have HWF := hide hwf
          rw [hwf] at L3 UDF
          have HT := hide (show ∀ j : Nat, j < 2 → ∃ q : Int, ∀ W, Upd [] wf W → W.cell? ⟨wp.heap.size, j, none⟩ = some (.int .i64 q) from fun j hj => by
            rcases (show j = 0 ∨ j = 1 by omega) with rfl | rfl
            · exact ⟨t, fun W hW => keep_cell wf W _ _ hW (L3.cell 0)⟩
            · exact ⟨a6, fun W hW => keep_cell wf W _ _ hW (L3.cell 1)⟩)
          clear L3 hwf
          go_wp2_with fail
          rw [HWF.out]
          obtain ⟨G3, hG3⟩ : ∃ G3, wp.heap.size = G3 := ⟨_, rfl⟩
          rw [hG3] at HT ⊢
          clear hG3
          go_loopw [117] (fun s117 wr3 => ∃ j : Nat, j ≤ 2 ∧ s117 = .int .i64 j ∧ Hid (Upd [] wf wr3)) (fun j _ => 2 - (intOf j).toNat)
          case atStart => exact ⟨0, Nat.zero_le _, rfl, Upd.refl _ _⟩
          case round =>
            obtain ⟨h, hh, rfl, hv3⟩ := hrel
            obtain ⟨wq, rfl⟩ : ∃ wq : World, wq = wr := ⟨_, rfl⟩
            have UDQ := hide (UDF.out.trans hv3.out (by simp))
            by_cases hh2 : h < 2
            · obtain ⟨q, hq⟩ := HT.out h hh2
              have f1 := hq wq hv3.out
              have hhi : (h : Int) < 2 := by omega
              have JT := hide (I9.out.upd U2D.out U1.out.size (by simp))
              obtain ⟨r1, s1, e1, hr1, k1, k2⟩ := solve_pair A cp ll wd HPL.out (Nat.le_refl _) (by have := HLL.out; omega) q
              obtain ⟨b1, r2, e2, hr2, k3, k4⟩ := blame_pair A cp ll wd HPL.out (Nat.le_refl _) (by have := HLL.out; omega) q
              obtain ⟨r3, s3, e3, hr3, k5, k6⟩ := resume_pair A cp ll wd HPL.out (Nat.le_refl _) (by have := HLL.out; omega) q a8 k8 c8 (z8.take k8) JT.out UD.out.size (by have := JT.out.form.1; unfold maxLen; omega)
              obtain ⟨vv, k7, k9⟩ := valid_pair A cp ll wd HPL.out (Nat.le_refl _) (by have := HLL.out; omega) q
              obtain ⟨m1, hm1⟩ : ∃ m, r1.length = m := ⟨_, rfl⟩
              obtain ⟨m2, hm2⟩ : ∃ m, r2.length = m := ⟨_, rfl⟩
              obtain ⟨m3, hm3⟩ : ∃ m, r3.length = m := ⟨_, rfl⟩
              simp only [hm1, HLL.out] at k1 k2 hr1
              simp only [hm2, HLL.out] at k3 k4 hr2
              simp only [hm3, HLL.out] at k5 k6 hr3
              simp only [HLL.out] at k7 k9
              have K1 := hide k1
              have K2 := hide k2
              have K3 := hide k3
              have K4 := hide k4
              have K5 := hide k5
              have K6 := hide k6
              have K7 := hide k7
              have K9 := hide k9
              have HM1 := hide hm1
              clear hq k1 k2 k3 k4 k5 k6 k7 k9 hm1 hm2 hm3
              go_wp2_with fail
              have VFQ := hv3
              refine (K1.out _ UDQ.out).mono ?_
              rintro e q1 ⟨B1, d1, rfl, i, u⟩
              have I1 := hide i
              have SI1 := hide u
              have UDq1 := hide (UDQ.out.trans u (by simp))
              have VFq1 := hide (VFQ.out.trans u (by simp))
              clear i u
              go_wp2_with fail
              refine (K2.out _ UDq1.out).mono ?_
              rintro e q2 ⟨B2, d2, rfl, i, u⟩
              have I2 := hide i
              have SI2 := hide u
              have UDq2 := hide (UDq1.out.trans u (by simp))
              have VFq2 := hide (VFq1.out.trans u (by simp))
              clear i u
              go_wp2_with fail
              refine (K3.out _ UDq2.out).mono ?_
              rintro e q3 ⟨B3, d3, rfl, i, u⟩
              have I3 := hide i
              have SI3 := hide u
              have UDq3 := hide (UDq2.out.trans u (by simp))
              have VFq3 := hide (VFq2.out.trans u (by simp))
              clear i u
              go_wp2_with fail
              refine (K4.out _ UDq3.out).mono ?_
              rintro e q4 ⟨B4, d4, rfl, i, u⟩
              have I4 := hide i
              have SI4 := hide u
              have UDq4 := hide (UDq3.out.trans u (by simp))
              have VFq4 := hide (VFq3.out.trans u (by simp))
              clear i u
              go_wp2_with fail
              refine (K5.out _ UDq4.out).mono ?_
              rintro e q5 ⟨B5, d5, rfl, i, u⟩
              have I5 := hide i
              have SI5 := hide u
              have UDq5 := hide (UDq4.out.trans u (by simp))
              have VFq5 := hide (VFq4.out.trans u (by simp))
              clear i u
              go_wp2_with fail
              refine (K6.out _ UDq5.out).mono ?_
              rintro e q6 ⟨B6, d6, rfl, i, u⟩
              have I6 := hide i
              have SI6 := hide u
              have UDq6 := hide (UDq5.out.trans u (by simp))
              have VFq6 := hide (VFq5.out.trans u (by simp))
              clear i u
              go_wp2_with fail
              refine (K7.out _ UDq6.out).mono ?_
              rintro e q7 ⟨rfl, u⟩
              have UDq7 := hide (UDq6.out.trans u (by simp))
              have VFq7 := hide (VFq6.out.trans u (by simp))
              have S7 := hide u
              clear u
              go_wp2_with fail
              refine (K9.out _ UDq7.out).mono ?_
              rintro e q8 ⟨rfl, u⟩
              have UDq8 := hide (UDq7.out.trans u (by simp))
              have VFq8 := hide (VFq7.out.trans u (by simp))
              have S8 := hide (S7.out.trans u (by simp))
              clear u
              have T6 := hide (I6.out.upd S8.out (Nat.le_refl _) (by simp))
              have T5 := hide (I5.out.upd (SI6.out.trans S8.out (by simp)) (Nat.le_refl _) (by simp))
              have C5 := hide (SI6.out.trans S8.out (by simp))
              have C4 := hide (SI5.out.trans C5.out (by simp))
              have T4 := hide (I4.out.upd C4.out (Nat.le_refl _) (by simp))
              have C3 := hide (SI4.out.trans C4.out (by simp))
              have T3 := hide (I3.out.upd C3.out (Nat.le_refl _) (by simp))
              have C2 := hide (SI3.out.trans C3.out (by simp))
              have T2 := hide (I2.out.upd C2.out (Nat.le_refl _) (by simp))
              have C1 := hide (SI2.out.trans C2.out (by simp))
              have T1 := hide (I1.out.upd C1.out (Nat.le_refl _) (by simp))
              go_wp2_with fail
              refine (ints_yes B1 m1 d1 r1 B2 m1 d2 q8 T1.out T2.out C1.out.size C2.out.size (by omega)).mono ?_
              rintro e q9 ⟨rfl, u⟩
              have X9 := hide u
              clear u
              go_wp2_with fail
              refine (ints_yes B3 m2 d3 r2 B4 m2 d4 q9 (T3.out.upd X9.out C3.out.size (by simp)) (T4.out.upd X9.out C4.out.size (by simp)) (Nat.le_trans C3.out.size X9.out.size) (Nat.le_trans C4.out.size X9.out.size) (by omega)).mono ?_
              rintro e q10 ⟨rfl, u⟩
              have X10 := hide (X9.out.trans u (by simp))
              clear u
              go_wp2_with fail
              refine (ints_yes B5 m3 d5 r3 B6 m3 d6 q10 (T5.out.upd X10.out C5.out.size (by simp)) (T6.out.upd X10.out S8.out.size (by simp)) (Nat.le_trans C5.out.size X10.out.size) (Nat.le_trans S8.out.size X10.out.size) (by omega)).mono ?_
              rintro e q11 ⟨rfl, u⟩
              have X11 := hide (X10.out.trans u (by simp))
              clear u
              have UD11 := hide (UDq8.out.trans X11.out (by simp))
              have VF11 := hide (VFq8.out.trans X11.out (by simp))
              go_wp2_with fail
              have CH := choice_any (n₁ := w.heap.size) b cap l a7 len7 cap7 z7 q11 (HP.out.upd (U2D.out.trans UD11.out (by simp)) (Nat.le_refl _) (by simp)) (U2D.out.trans UD11.out (by simp)).size (by have := HLEN.out; omega) HOK.out (I7.out.upd (UD.out.trans UD11.out (by simp)) (Nat.le_refl _) (by simp)) (UD.out.trans UD11.out (by simp)).size (Nat.le_trans J7.out.2.1 J7.out.2.2.1) J7.out.2.2.2.1
              rw [HLEN.out] at CH
              refine CH.mono ?_
              clear CH
              rintro e q12 ⟨A9, c9, ch, rfl, i9, hch, u⟩
              have hch2 : ch.length = len := hch
              rw [hch2] at i9 ⊢
              have HCH := hide hch2
              have I12 := hide i9
              have X12 := hide (X11.out.trans u (by simp))
              have UD12 := hide (UD11.out.trans u (by simp))
              have VF12 := hide (VF11.out.trans u (by simp))
              clear i9 hch hch2 u
              have L4 := Blk.new q12 24 [.slice B2 m1 d2, .slice a8 k8 c8, .slice A9 len c9]
              have UG0 := hide ((Upd.refl [] q12).alloc (.cells #[.slice B2 m1 d2, .slice a8 k8 c8, .slice A9 len c9] 24))
              obtain ⟨wg, hwg⟩ : ∃ wg, q12.alloc (.cells #[.slice B2 m1 d2, .slice a8 k8 c8, .slice A9 len c9] 24) = wg := ⟨_, rfl⟩
              have HWG := hide hwg
              rw [hwg] at L4 UG0
              have hzz : ∀ j : Nat, j < 3 → ∃ Z zm zc zs, (∀ W, Upd [] wg W → W.cell? ⟨q12.heap.size, j, none⟩ = some (.slice Z zm zc)) ∧ Ints wg.heap.size wg (.slice Z zm zc) zs ∧ zs.length ≤ maxLen := fun j hj => by
                rcases (show j = 0 ∨ j = 1 ∨ j = 2 by omega) with rfl | rfl | rfl
                · have hT := X12.out.trans UG0.out (by simp)
                  exact ⟨B2, m1, d2, r1, fun W hW => keep_cell wg W _ _ hW (L4.cell 0), (T2.out.upd hT C2.out.size (by simp)).mono (Nat.le_trans C2.out.size hT.size), by have := T2.out.form.1; unfold maxLen; omega⟩
                · have hT := UD12.out.trans UG0.out (by simp)
                  exact ⟨a8, k8, c8, z8.take k8, fun W hW => keep_cell wg W _ _ hW (L4.cell 1), (JT.out.upd hT UD.out.size (by simp)).mono (Nat.le_trans UD.out.size hT.size), by have := JT.out.form.1; unfold maxLen; omega⟩
                · exact ⟨A9, len, c9, ch, fun W hW => keep_cell wg W _ _ hW (L4.cell 2), (I12.out.upd UG0.out (Nat.le_refl _) (by simp)).mono UG0.out.size, by have := HCH.out; unfold maxLen; omega⟩
              have HZZ := hide hzz
              have UDG := hide (UD12.out.trans UG0.out (by simp))
              have VFG := hide (VF12.out.trans UG0.out (by simp))
              clear hzz L4 hwg
              go_wp2_with fail
              rw [HWG.out]
              obtain ⟨G4, hG4⟩ : ∃ G4, q12.heap.size = G4 := ⟨_, rfl⟩
              rw [hG4] at HZZ ⊢
              clear hG4
              go_loopw [227] (fun s227 wr4 => ∃ j : Nat, j ≤ 3 ∧ s227 = .int .i64 j ∧ Hid (Upd [] wg wr4)) (fun j _ => 3 - (intOf j).toNat)
              case atStart => exact ⟨0, Nat.zero_le _, rfl, Upd.refl _ _⟩
              case round =>
                obtain ⟨j9, hj9, rfl, hv4⟩ := hrel
                obtain ⟨wk, rfl⟩ : ∃ wk : World, wk = wr := ⟨_, rfl⟩
                by_cases hj3 : j9 < 3
                · obtain ⟨Z, zm, zc, zs, hzc, hzi, hzl⟩ := HZZ.out j9 hj3
                  have f2 := hzc wk hv4.out
                  obtain ⟨cv, cb, k1, k2⟩ := check_pair A cp ll wg (HPL.out.upd UDG.out (Nat.le_refl _) (by simp)) UDG.out.size (by have := HLL.out; omega) q Z zm zc zs hzi (Nat.le_refl _) hzl
                  simp only [HLL.out] at k1 k2
                  have KA := hide k1
                  have KB := hide k2
                  have hji9 : (j9 : Int) < 3 := by omega
                  clear hzc hzi hzl k1 k2
                  go_wp2_with fail
                  refine (KA.out _ hv4.out).mono ?_
                  rintro e wx ⟨rfl, u⟩
                  have VX := hide (hv4.out.trans u (by simp))
                  clear u
                  go_wp2_with fail
                  refine (KB.out _ VX.out).mono ?_
                  rintro e wy ⟨rfl, u⟩
                  have VY := hide (VX.out.trans u (by simp))
                  clear u
                  go_wp2_with fail
                  go_roundw
                  case rel => exact ⟨j9 + 1, by omega, by go_num, VY⟩
                  case measure => simp [intOf] <;> omega
                · have hji9 : ¬ (j9 : Int) < 3 := by omega
                  go_wp2_with fail
                  go_roundw
                  case rel => exact ⟨h + 1, by omega, by go_num, VFG.out.trans hv4.out (by simp)⟩
                  case measure => simp [intOf] <;> omega
            · have hhi : ¬ (h : Int) < 2 := by omega
              go_wp2_with fail
              go_roundw
              case rel => exact ⟨i + 1, by omega, by go_num, UDQ⟩
              case measure => simp [intOf] <;> omega
    · have hii : ¬ (i : Int) < 3 := by omega
      go_wp2_with fail
      go_ret
      exact ⟨rfl, (UD.out.trans hu.out (by simp)).toBelow (Nat.le_refl _) (by simp)⟩
end Go.Proofs.Yteehjciepccomaa
