/-
  The reference's rest: the table of least costs, and the lengths that are taken.
-/
import Derived.Test.YteehjciepccomaaRRestP
import Derived.Test.YteehjciepccomaaFMade2
import Derived.Deep.RegionHeld3
import Derived.Deep.CutBlock
namespace Go.Proofs.Yteehjciepccomaa
open Go.RowKit
set_option maxRecDepth 100000
set_option maxHeartbeats 20000000

theorem info_ints : (Try.prog.info? 24).map (fun i => (i.zero, i.size, i.bytes)) = some (some (.slice none 0 0), 1, 24) := by kernel_rfl
theorem make_rows (n : Nat) (hn : n ≤ 100) (w : World) : (Instr.makeSlice 44 (.int .i64 ((n : Int) + 1)) (.int .i64 ((n : Int) + 1))).run Try.prog w = .ok (.slice (some ⟨w.heap.size, 0, none⟩) (n + 1) (n + 1)) (w.alloc (.cells (madeCells #[.slice none 0 0] (n + 1)) 24)) := by
  obtain ⟨i, hi, hz, hs, hb⟩ := info_parts info_ints
  have hr := run_make (P := Try.prog) w 44 24 i (.slice none 0 0) Try.underlying44 hi hz .i64 .i64 ((n : Int) + 1) ((n : Int) + 1) (by omega) (Int.le_refl _) (by rw [hb]; omega) (by omega)
  rw [hr, hs, show ((n : Int) + 1).toNat = n + 1 by omega, Nat.mul_one]
  rfl
theorem make_row (w : World) : (Instr.makeSlice 24 (.int .i64 3601) (.int .i64 3601)).run Try.prog w = .ok (.slice (some ⟨w.heap.size, 0, none⟩) 3601 3601) (w.alloc (.cells (madeCells #[.int .i64 0] 3601) 3)) := by
  obtain ⟨i, hi, hz, hs, hb⟩ := info_parts info_int
  have hr := run_make (P := Try.prog) w 24 3 i (.int .i64 0) Try.underlying24 hi hz .i64 .i64 3601 3601 (by omega) (Int.le_refl _) (by rw [hb]; omega) (by omega)
  rw [hr, hs]
  rfl
theorem made_size (v : Value) (n : Nat) : (madeCells (#[v]) n).toList.length = n := by
  rw [Array.length_toList]
  unfold madeCells
  rw [Array.size_map, Array.size_range]
theorem blk_made (w : World) (t : TypeId) (v : Value) (n : Nat) : Blk (w.alloc (.cells (madeCells #[v] n) t)) w.heap.size t (madeCells #[v] n).toList := by
  have := Blk.new w t (madeCells #[v] n).toList
  rwa [Array.toArray_toList] at this
theorem tab_new (w : World) (total : Int) (l : List Pc) (n : Nat) (hn : l.length = n) (G : Nat) : TabTo (w.alloc (.cells (madeCells #[.slice none 0 0] (n + 1)) 24)) w.heap.size G total l (n + 1) :=
  ⟨⟨_, blk_made w _ _ _, by rw [made_size, hn]⟩, fun j h1 h2 => by omega⟩
theorem row_new (w : World) (total : Int) (ls : List Pc) : RowTo (w.alloc (.cells (madeCells #[.int .i64 0] 3601) 3)) w.heap.size total ls 0 :=
  ⟨_, blk_made w _ _ _, made_size _ _, fun x hx => by omega⟩

theorem find_at {P : Int → Bool} : ∀ {l : List Int} {q : Nat} {z : Int}, l[q]? = some z → P z = true → (∀ x, x < q → ∀ y, l[x]? = some y → P y = false) → l.find? P = some z
  | [], _, _, h, _, _ => by simp at h
  | y :: l, 0, z, h, hz, _ => by
    obtain rfl : y = z := by simpa using h
    rw [List.find?_cons_of_pos hz]
  | y :: l, q + 1, z, h, hz, hn => by
    have h0 := hn 0 (by omega) y rfl
    rw [List.find?_cons_of_neg (by rw [h0]; simp)]
    exact find_at (q := q) (by simpa using h) hz fun x hx w hw => hn (x + 1) (by omega) w (by simpa using hw)
theorem rest_yes {l : List Pc} {total : Int} {k : Nat} {s : Int} (hok : ∀ p ∈ l, PcOk p) (h : leastS total (l.drop k) s < never) : ∃ ns, bestS total (l.drop k) s = some ns ∧ restS l total k s = (ns, leastS total (l.drop k) s, true) := by
  obtain ⟨ns, h1, _⟩ := best_fits (fun p hp => hok p (List.mem_of_mem_drop hp)) h
  refine ⟨ns, h1, ?_⟩
  unfold restS
  rw [if_neg (by omega), h1]
theorem rest_none {l : List Pc} {total : Int} {k : Nat} {s : Int} (h : ¬ leastS total (l.drop k) s < never) : restS l total k s = ([], 0, false) := by
  unfold restS
  rw [if_pos (by omega)]

theorem rrest_any {n₀ : Nat} (a : Option Addr) (c : Nat) (l : List Pc) (total : Int) (k s : Nat) (w : World) (hI : PcsAt n₀ w a l) (_hn : n₀ ≤ w.heap.size) (hV : ValidS l total) (hk : k ≤ l.length) (hs : s ≤ 500000) :
    Calls Try.prog 50 #[.slice a l.length c, .int .i64 total, .int .i64 (k : Int), .int .i64 (s : Int)] w fun e w' => ∃ v, e = .returned (.tuple #[v, .int .i64 (restS l total k s).2.1, .bool (restS l total k s).2.2]) ∧ w'.ownsRow w.heap.size 3 1 v (restS l total k s).1.length ((restS l total k s).1.map (Value.int .i64)) ∧ Upd [] w w' := by
  obtain ⟨ri, hri⟩ : ∃ ri, (restS l total k s).1 = ri := ⟨_, rfl⟩
  obtain ⟨rc, hrc⟩ : ∃ rc, (restS l total k s).2.1 = rc := ⟨_, rfl⟩
  obtain ⟨rb, hrb⟩ : ∃ rb, (restS l total k s).2.2 = rb := ⟨_, rfl⟩
  have HR := hide (show restS l total k s = (ri, rc, rb) by rw [← hri, ← hrc, ← hrb])
  rw [hri, hrc, hrb]
  have HV := hide hV
  have HI := hide hI
  obtain ⟨len, hlen⟩ : ∃ len, l.length = len := ⟨_, rfl⟩
  have hl20 := hV.1
  rw [hlen] at hl20 hk ⊢
  have HZ := hide hlen
  obtain ⟨tn, htn⟩ : ∃ tn : Nat, total = (tn : Int) := ⟨total.toNat, by have := hV.2.1; omega⟩
  subst htn
  have htn3 : tn ≤ 3600 := by have := hV.2.1; omega
  have hmk1 := fun W => make_rows len (by omega) W
  have hmk2 := make_row
  have htab := fun (W : World) G => tab_new W (tn : Int) l len hlen G
  have hrow := fun (W : World) ls => row_new W (tn : Int) ls
  obtain ⟨K1, hK1⟩ : ∃ K, madeCells (#[Value.slice none 0 0]) (len + 1) = K := ⟨_, rfl⟩
  obtain ⟨K2, hK2⟩ : ∃ K, madeCells (#[Value.int .i64 0]) 3601 = K := ⟨_, rfl⟩
  rw [hK1] at hmk1
  simp only [hK1] at htab
  rw [hK2] at hmk2
  simp only [hK2] at hrow
  have HTAB := hide htab
  have HROW := hide hrow
  clear hri hrc hrb hI hV hlen htab hrow hK1 hK2
  go_enter Try.func50, Try.ntmps50
  go_wp2_with fail
  have TA := hide (HTAB.out w)
  have U1 := hide ((Upd.refl [] w).alloc (.cells K1 24))
  have hT9 : w.heap.size < (w.alloc (.cells K1 24)).heap.size := by rw [World.size_alloc]; omega
  obtain ⟨T, hT⟩ : ∃ T, w.heap.size = T := ⟨_, rfl⟩
  have HT := hide hT
  rw [hT] at TA hT9 ⊢
  have TA2 := hide (TA.out (w.alloc (.cells K1 24)).heap.size)
  clear hT TA hT9
  go_loopw [12] (fun s12 wr => ∃ (v : Int) (j : Nat), k ≤ j ∧ j ≤ len + 1 ∧ s12 = .int .i64 v ∧ Hid (v + 1 = (j : Int)) ∧ Hid (Upd [] w wr) ∧ Hid (TabTo wr T wr.heap.size (tn : Int) l j)) (fun i _ => (intOf i + 1).toNat)
  case atStart => exact ⟨(len : Int), len + 1, by omega, by omega, rfl, hide (by omega), U1.out, TA2.out⟩
  case round =>
    obtain ⟨v, j, hkj, hjl, rfl, hv, hu, htab⟩ := hrel
    obtain ⟨wo, rfl⟩ : ∃ wo : World, wo = wr := ⟨_, rfl⟩
    by_cases hjk : k < j
    · obtain ⟨i, hi⟩ : ∃ i : Nat, i + 1 = j := ⟨j - 1, by omega⟩
      subst hi
      obtain rfl : v = (i : Int) := by have := hv.out; omega
      have hil : i ≤ len := by omega
      have hki : (k : Int) ≤ (i : Int) := by omega
      have hil2 : (i : Int) < (len : Int) + 1 := by omega
      have ha := htab.out.upd ((Upd.refl [] wo).alloc (.cells K2 3)) (by simp) (by simp)
      have a0 := (ha.any (j := i) (by have := HZ.out; omega)).1
      obtain ⟨v0, a1⟩ := (ha.any (j := i) (by have := HZ.out; omega)).2
      have HA := hide (ha.put (x := i) (by omega) (.slice (some ⟨wo.heap.size, 0, none⟩) 3601 3601) (by have := HZ.out; omega))
      have HGT := hide (show wo.heap.size ≠ T from by have := htab.out.lt; omega)
      have HRW := hide ((HROW.out wo (l.drop i)).far (G := T) (x := i) HGT.out (.slice (some ⟨wo.heap.size, 0, none⟩) 3601 3601))
      have HU2 := hide ((hu.out.alloc (.cells K2 3)).setCell (p := ⟨T, i, none⟩) (.inr (by rw [← HT.out]; exact Nat.le_refl _)) (.slice (some ⟨wo.heap.size, 0, none⟩) 3601 3601))
      have HGW := hide (show w.heap.size ≤ wo.heap.size from hu.out.size)
      clear ha hv
      go_wp2_with fail
      obtain ⟨G, hG⟩ : ∃ G, wo.heap.size = G := ⟨_, rfl⟩
      have CU := hide (show Cur ((wo.alloc (.cells K2 3)).setCell ⟨T, i, none⟩ (.slice (some ⟨wo.heap.size, 0, none⟩) 3601 3601)) T wo.heap.size (tn : Int) l i 0 from ⟨HA.out.1, HA.out.2, HRW.out, HGT.out⟩)
      rw [hG] at CU HU2 HGW
      rw [hG]
      clear hG HA HRW HGT a0 a1 htab hu
      go_loopw [13] (fun s13 wr2 => ∃ s : Nat, s ≤ 3601 ∧ s13 = .int .i64 s ∧ Hid (Upd [] w wr2) ∧ Hid (Cur wr2 T G (tn : Int) l i s)) (fun s _ => 3601 - (intOf s).toNat)
      case atStart => exact ⟨0, Nat.zero_le _, rfl, HU2.out, CU.out⟩
      case round =>
        obtain ⟨s, hs, rfl, hu, hc⟩ := hrel
        obtain ⟨wm, rfl⟩ : ∃ wm : World, wm = wr := ⟨_, rfl⟩
        by_cases hsl : s < 3601
        · have hsi : (s : Int) ≤ 3600 := by omega
          have hsi' : (s : Int) < 3601 := by omega
          have b0 := hc.out.at_
          have b1 := (hc.out.row.any hsl).1
          obtain ⟨v1, b2⟩ := (hc.out.row.any hsl).2
          have hc1 := hc.out.set hsl (.int .i64 (-1))
          have b3 := hc1.1.at_
          have b4 := hc1.2
          have b5 := (hc1.1.row.any hsl).1
          have HC1 := hide hc1
          have HU3 := hide (hu.out.setCell (p := ⟨G, s, none⟩) (.inr HGW.out) (.int .i64 (-1)))
          clear hc1
          by_cases hlast : i = len
          · subst hlast
            have HNIL := hide (show l.drop i = [] from List.drop_of_length_le (by have := HZ.out; omega))
            by_cases hst : s = tn
            · subst hst
              have hc2 := HC1.out.1.set hsl (.int .i64 0)
              have HC2 := hide (hc2.1.step (by
                rw [hc2.2, HNIL.out, leastS_nil, if_pos rfl]
                rfl))
              have HU4 := hide (HU3.out.setCell (p := ⟨G, s, none⟩) (.inr HGW.out) (.int .i64 0))
              clear hc2
              go_wp2_with fail
              go_roundw
              case rel => exact ⟨s + 1, by omega, by go_num, HU4, HC2⟩
              case measure => simp [intOf] <;> omega
            · have hst' : ((s : Int) == (tn : Int)) = false := by simp; omega
              have HC2 := hide (HC1.out.1.step (by
                rw [HC1.out.2, HNIL.out, leastS_nil, if_neg (by omega)]
                rfl))
              go_wp2_with fail
              go_roundw
              case rel => exact ⟨s + 1, by omega, by go_num, HU3, HC2⟩
              case measure => simp [intOf] <;> omega
          · have hlast' : ((i : Int) == (len : Int)) = false := by simp; omega
            obtain ⟨p, hp⟩ : ∃ p, l[i]? = some p := ⟨_, List.getElem?_eq_getElem (by have := HZ.out; omega)⟩
            obtain ⟨b, o, pa, pn, pc, ea, hb, hI1, hpm, c0, c1, c2⟩ := HI.out i p hp
            subst ea
            have hok := HV.out.2.2 p (List.mem_of_getElem? hp)
            have HDR := hide (show l.drop i = p :: l.drop (i + 1) by rw [List.drop_eq_getElem_cons (by have := HZ.out; omega), (List.getElem_eq_iff _).2 hp])
            have HC0 := hide (show ∀ W, Upd [] w W → W.cell? ⟨b, o + i * 3, none⟩ = some (.slice pa pn pc) ∧ W.cell? ⟨b, o + i * 3 + 1, none⟩ = some (.int .i64 p.want) ∧ W.cell? ⟨b, o + i * 3 + 2, none⟩ = some (.int .i64 p.join) from fun W hW => ⟨keep_cell _ _ _ _ hW c0, keep_cell _ _ _ _ hW c1, keep_cell _ _ _ _ hW c2⟩)
            have HPN := hide hI1.form.1
            have HPC := hide (show ∀ j z, p.lens[j]? = some z → ∃ b o, pa = some ⟨b, o, none⟩ ∧ ∀ W, Upd [] w W → W.cell? ⟨b, o + j, none⟩ = some (.int .i64 z) from fun j z hz => by
              obtain ⟨b2, o2, e2, h2, h3⟩ := hI1.form.2 j z hz
              exact ⟨b2, o2, e2, fun W hW => keep_cell _ _ _ _ hW h3⟩)
            have HOK := hide hok
            have hpn8 : pn ≤ 8 := by have := hok.1.2; have := hI1.form.1; omega
            have HAL := hide (fun q (hq : p.lens.length ≤ q) => foldC_all (total := (tn : Int)) (p := p) (ps := l.drop (i + 1)) (s := (s : Int)) (fun n hn => (len_ok hok hn).1) hq)
            have f0 := (HC0.out _ HU3.out).2.2
            have hil3 : (i : Int) < (len : Int) := by omega
            clear hp hb hI1 hpm c0 c1 c2 hok
            by_cases hmt : meetsS p (s : Int) = true
            · have hpj : p.join < 0 ∨ p.join = (s : Int) := by
                unfold meetsS at hmt
                simpa using hmt
              have HMT := hide hmt
              clear hmt
              go_upto_region 13 with fail
              go_cut [75] from 61 to 75 (fun s75 wx => s75 = .bool false ∧ wm.setCell ⟨G, s, none⟩ (.int .i64 (-1)) = wx)
              case first =>
                by_cases hj0 : p.join < 0
                · have hj1 : ¬ 0 ≤ p.join := by omega
                  clear hpj
                  go_wp2_with fail
                  go_meet
                  exact ⟨rfl, rfl⟩
                · have hj1 : 0 ≤ p.join := by omega
                  have hj2 : p.join = (s : Int) := hpj.resolve_left hj0
                  rw [hj2] at f0
                  have hj3 : 0 ≤ (s : Int) := by omega
                  clear hpj hj2 hj0 hj1
                  go_wp2_with fail
                  go_meet
                  exact ⟨rfl, rfl⟩
              case rest =>
                obtain ⟨rfl, rfl⟩ := hcut
                clear hpj f0
                as_aux_lemma =>
                  go_wp2_with fail
                  go_loopw [14] (fun s14 wr3 => ∃ q : Nat, q ≤ pn ∧ s14 = .int .i64 q ∧ Hid (Upd [] w wr3) ∧ Hid (Cur wr3 T G (tn : Int) l i s) ∧ Hid (wr3.cell? ⟨G, s, none⟩ = some (.int .i64 (encL (foldC (tn : Int) p (l.drop (i + 1)) (s : Int) q))))) (fun q _ => pn - (intOf q).toNat)
                  case atStart => exact ⟨0, Nat.zero_le _, rfl, HU3, HC1.out.1, by rw [foldC_zero]; exact HC1.out.2⟩
                  case round =>
                    obtain ⟨q, hq, rfl, hu, hc, hcell⟩ := hrel
                    obtain ⟨wi, rfl⟩ : ∃ wi : World, wi = wr := ⟨_, rfl⟩
                    obtain ⟨C, hC⟩ : ∃ C, foldC (tn : Int) p (l.drop (i + 1)) (s : Int) q = C := ⟨_, rfl⟩
                    rw [hC] at hcell
                    have HFC := hide hC
                    have g0 := (HC0.out wi hu.out).1
                    have g1 := (HC0.out wi hu.out).2.1
                    clear hC
                    by_cases hql : q < pn
                    · obtain ⟨z, hz⟩ : ∃ z, p.lens[q]? = some z := ⟨_, List.getElem?_eq_getElem (by have := HPN.out; omega)⟩
                      obtain ⟨pb, po, eb, hzc⟩ := HPC.out q z hz
                      subst eb
                      have g2 := hzc wi hu.out
                      have hzb := len_ok HOK.out (List.mem_of_getElem? hz)
                      obtain ⟨hz1, hz2⟩ := hzb
                      have hw1 := HOK.out.2.1
                      obtain ⟨hw1, hw2⟩ := hw1
                      obtain ⟨y, hy⟩ : ∃ y : Nat, (s : Int) + z = (y : Int) := ⟨((s : Int) + z).toNat, by omega⟩
                      have hw : IntKind.i64.wrap ((s : Int) + z) = (y : Int) := by rw [Go.IntWalk.i64_in _ (by omega)]; exact hy
                      have hqi : (q : Int) < pn := by omega
                      have HST := hide (show foldC (tn : Int) p (l.drop (i + 1)) (s : Int) (q + 1) = min C (awayS z p.want + leastS (tn : Int) (l.drop (i + 1)) (y : Int)) by rw [foldC_succ hz, HFC.out, hy])
                      have haw9 : 0 ≤ awayS z p.want ∧ awayS z p.want ≤ 3600 := by unfold awayS; omega
                      obtain ⟨aw, EW⟩ : ∃ aw, Hid (awayS z p.want = aw) := ⟨_, rfl⟩
                      rw [EW.out] at haw9
                      obtain ⟨ha1, ha2⟩ := haw9
                      have HAW := fun W => raway_any z p.want W (by omega) (by omega)
                      simp only [EW.out] at HAW
                      have HA := hide HAW
                      clear hz hzc HAW hy
                      by_cases hyl : 3600 < y
                      · have hyl' : (3600 : Int) < y := by omega
                        have HN := hide (show wi.cell? ⟨G, s, none⟩ = some (.int .i64 (encL (foldC (tn : Int) p (l.drop (i + 1)) (s : Int) (q + 1)))) by
                          rw [HST.out, leastS_far _ (by omega : (tn : Int) < (y : Int)), enc_far (by have := awayS_nonneg z p.want; omega)]
                          exact hcell.out)
                        go_wp2_with fail
                        go_roundw
                        case rel => exact ⟨q + 1, by omega, by go_num, hu, hc, HN⟩
                        case measure => simp [intOf] <;> omega
                      · have hyl' : ¬ (3600 : Int) < y := by omega
                        have hyl2 : (y : Int) < 3601 := by omega
                        obtain ⟨B, hBG, hBT, hBc, hBr⟩ := hc.out.tab.2 (i + 1) (Nat.le_refl _) (by have := HZ.out; omega)
                        have g3 := hBr.cell (x := y) (by omega)
                        obtain ⟨i1, hi1⟩ : ∃ i1, i + 1 = i1 := ⟨_, rfl⟩
                        have hwi : IntKind.i64.wrap ((i : Int) + 1) = (i1 : Int) := by rw [Go.IntWalk.i64_in _ (by omega)]; omega
                        have hi1' : (i : Int) + 1 = (i1 : Int) := by omega
                        have hi1l : (i1 : Int) < (len : Int) + 1 := by omega
                        have HI1 := hide hi1
                        have HI1' := hide hi1'
                        have HBR := hide hBr
                        have HBG := hide hBG
                        rw [hi1] at hBc
                        have g4 := hc.out.at_
                        have hc9 := hcell.out
                        clear hi1 hi1' hBG hBT hBr
                        by_cases hlv : leastS (tn : Int) (l.drop (i + 1)) (y : Int) < never
                        · have hlb := least_small (fun p hp => HV.out.2.2 p (List.mem_of_mem_drop hp)) (by have := HV.out.1; rw [List.length_drop]; omega) hlv
                          rw [show encL (leastS (tn : Int) (l.drop (i + 1)) (y : Int)) = leastS (tn : Int) (l.drop (i + 1)) (y : Int) from if_pos hlv] at g3
                          obtain ⟨lv, hlve⟩ : ∃ lv, leastS (tn : Int) (l.drop (i + 1)) (y : Int) = lv := ⟨_, rfl⟩
                          rw [hlve] at g3 hlb
                          have HST2 := HST.out
                          rw [hlve, EW.out] at HST2
                          obtain ⟨hl1, hl2⟩ := hlb
                          obtain ⟨cv, hcv⟩ : ∃ cv, aw + lv = cv := ⟨_, rfl⟩
                          have hwc : IntKind.i64.wrap (aw + lv) = cv := by rw [Go.IntWalk.i64_in _ (by omega)]; exact hcv
                          rw [hcv] at HST2
                          have HST3 := hide HST2
                          have hcv1 : 0 ≤ cv ∧ cv ≤ 80000 := by omega
                          obtain ⟨hcv1, hcv2⟩ := hcv1
                          have hlv0 : decide (lv < 0) = false := decide_eq_false (by omega)
                          have hcvn : cv < never := by unfold never; omega
                          have HCVN := hide hcvn
                          have hc2 := hc.out.set hsl (.int .i64 cv)
                          have HC2 := hide hc2
                          have HU4 := hide (hu.out.setCell (p := ⟨G, s, none⟩) (.inr HGW.out) (.int .i64 cv))
                          have g5 := (hc.out.row.any hsl).1
                          clear hlv hlve HST2 hcv hcvn hc2
                          go_wp2_with fail
                          refine wp_region_held_drew (S := (fun w' => w'.cell? ⟨b, o + i * 3 + 1, none⟩ = some (.int .i64 p.want) ∧ w'.cell? ⟨T, i1, none⟩ = some (.slice (some ⟨B, 0, none⟩) 3601 3601) ∧ w'.cell? ⟨B, y, none⟩ = some (.int .i64 lv))) (by as_aux_lemma => kernel_rfl) (by exact ⟨g1, hBc, g3⟩) (fun hHeld => ?_)
                          refine wpAnyH_take (i := 0) (oi := ?oi0T2) (v := ?v0T2) ?oi0_0T2 (by as_aux_lemma => kernel_rfl) ?ff0T2 ?rr0T2 ?hq0T2 (Or.inl ⟨?hw0T2, ?hy0T2⟩) (by assumption) ?rest0T2
                          case oi0_0T2 =>
                            conv =>
                              lhs
                              whnf
                              arg 1
                              whnf
                          case hq0T2 => exact fun _ _ _ h => h
                          case ff0T2 => as_aux_lemma => kernel_rfl
                          case rr0T2 => as_aux_lemma => kernel_rfl
                          case hw0T2 => rfl
                          case hy0T2 =>
                            intro w hSw
                            (try dsimp only at hSw)
                            first
                            | (go_simp; done)
                            | (go_simp; with_reducible rfl)
                          try simp only [Act.put, List.setIfInBounds_toArray, List.set_cons_zero, List.set_cons_succ]
                          refine wpAnyH_take (i := 1) (oi := ?oi1T2) (v := ?v1T2) ?oi0_1T2 (by as_aux_lemma => kernel_rfl) ?ff1T2 ?rr1T2 ?hq1T2 (Or.inl ⟨?hw1T2, ?hy1T2⟩) (by assumption) ?rest1T2
                          case oi0_1T2 =>
                            conv =>
                              lhs
                              whnf
                              arg 1
                              whnf
                          case hq1T2 => exact fun _ _ _ h => h
                          case ff1T2 => as_aux_lemma => kernel_rfl
                          case rr1T2 => as_aux_lemma => kernel_rfl
                          case hw1T2 => rfl
                          case hy1T2 =>
                            intro w hSw
                            (try dsimp only at hSw)
                            first
                            | (go_simp; done)
                            | (go_simp; with_reducible rfl)
                          try simp only [Act.put, List.setIfInBounds_toArray, List.set_cons_zero, List.set_cons_succ]
                          refine wpAnyH_take (i := 2) (oi := ?oi2T2) (v := ?v2T2) ?oi0_2T2 (by as_aux_lemma => kernel_rfl) ?ff2T2 ?rr2T2 ?hq2T2 (Or.inl ⟨?hw2T2, ?hy2T2⟩) (by assumption) ?rest2T2
                          case oi0_2T2 =>
                            conv =>
                              lhs
                              whnf
                              arg 1
                              whnf
                          case hq2T2 => exact fun _ _ _ h => h
                          case ff2T2 => as_aux_lemma => kernel_rfl
                          case rr2T2 => as_aux_lemma => kernel_rfl
                          case hw2T2 => rfl
                          case hy2T2 =>
                            intro w hSw
                            (try dsimp only at hSw)
                            first
                            | (go_simp; done)
                            | (go_simp; with_reducible rfl)
                          try simp only [Act.put, List.setIfInBounds_toArray, List.set_cons_zero, List.set_cons_succ]
                          refine wpAnyH_take (i := 3) (oi := ?oi3T2) (v := ?v3T2) ?oi0_3T2 (by as_aux_lemma => kernel_rfl) ?ff3T2 ?rr3T2 ?hq3T2 (Or.inl ⟨?hw3T2, ?hy3T2⟩) (by assumption) ?rest3T2
                          case oi0_3T2 =>
                            conv =>
                              lhs
                              whnf
                              arg 1
                              whnf
                          case hq3T2 => exact fun _ _ _ h => h
                          case ff3T2 => as_aux_lemma => kernel_rfl
                          case rr3T2 => as_aux_lemma => kernel_rfl
                          case hw3T2 => rfl
                          case hy3T2 =>
                            intro w hSw
                            (try dsimp only at hSw)
                            first
                            | (go_simp; done)
                            | (go_simp; with_reducible rfl)
                          try simp only [Act.put, List.setIfInBounds_toArray, List.set_cons_zero, List.set_cons_succ]
                          refine wpAnyH_take (i := 4) (oi := ?oi4T2) (v := ?v4T2) ?oi0_4T2 (by as_aux_lemma => kernel_rfl) ?ff4T2 ?rr4T2 ?hq4T2 (Or.inl ⟨?hw4T2, ?hy4T2⟩) (by assumption) ?rest4T2
                          case oi0_4T2 =>
                            conv =>
                              lhs
                              whnf
                              arg 1
                              whnf
                          case hq4T2 => exact fun _ _ _ h => h
                          case ff4T2 => as_aux_lemma => kernel_rfl
                          case rr4T2 => as_aux_lemma => kernel_rfl
                          case hw4T2 => rfl
                          case hy4T2 =>
                            intro w hSw
                            (try dsimp only at hSw)
                            first
                            | (go_simp; done)
                            | (go_simp; with_reducible rfl)
                          try simp only [Act.put, List.setIfInBounds_toArray, List.set_cons_zero, List.set_cons_succ]
                          refine wpAnyH_take (i := 5) (oi := ?oi5T2) (v := ?v5T2) ?oi0_5T2 (by as_aux_lemma => kernel_rfl) ?ff5T2 ?rr5T2 ?hq5T2 (Or.inl ⟨?hw5T2, ?hy5T2⟩) (by assumption) ?rest5T2
                          case oi0_5T2 =>
                            conv =>
                              lhs
                              whnf
                              arg 1
                              whnf
                          case hq5T2 => exact fun _ _ _ h => h
                          case ff5T2 => as_aux_lemma => kernel_rfl
                          case rr5T2 => as_aux_lemma => kernel_rfl
                          case hw5T2 => rfl
                          case hy5T2 =>
                            intro w hSw
                            (try dsimp only at hSw)
                            first
                            | (go_simp; done)
                            | (go_simp; with_reducible rfl)
                          try simp only [Act.put, List.setIfInBounds_toArray, List.set_cons_zero, List.set_cons_succ]
                          refine wpAnyH_take (i := 7) (oi := ?oi7T2) (v := ?v7T2) ?oi0_7T2 (by as_aux_lemma => kernel_rfl) ?ff7T2 ?rr7T2 ?hq7T2 (Or.inl ⟨?hw7T2, ?hy7T2⟩) (by assumption) ?rest7T2
                          case oi0_7T2 =>
                            conv =>
                              lhs
                              whnf
                              arg 1
                              whnf
                          case hq7T2 => exact fun _ _ _ h => h
                          case ff7T2 => as_aux_lemma => kernel_rfl
                          case rr7T2 => as_aux_lemma => kernel_rfl
                          case hw7T2 => rfl
                          case hy7T2 =>
                            intro w hSw
                            (try dsimp only at hSw)
                            first
                            | (go_simp; done)
                            | (go_simp; with_reducible rfl)
                          try simp only [Act.put, List.setIfInBounds_toArray, List.set_cons_zero, List.set_cons_succ]
                          refine wpAnyH_take (i := 8) (oi := ?oi8T2) (v := ?v8T2) ?oi0_8T2 (by as_aux_lemma => kernel_rfl) ?ff8T2 ?rr8T2 ?hq8T2 (Or.inl ⟨?hw8T2, ?hy8T2⟩) (by assumption) ?rest8T2
                          case oi0_8T2 =>
                            conv =>
                              lhs
                              whnf
                              arg 1
                              whnf
                          case hq8T2 => exact fun _ _ _ h => h
                          case ff8T2 => as_aux_lemma => kernel_rfl
                          case rr8T2 => as_aux_lemma => kernel_rfl
                          case hw8T2 => rfl
                          case hy8T2 =>
                            intro w hSw
                            (try dsimp only at hSw)
                            first
                            | (go_simp; done)
                            | (go_simp; with_reducible rfl)
                          try simp only [Act.put, List.setIfInBounds_toArray, List.set_cons_zero, List.set_cons_succ]
                          refine wpAnyH_take (i := 9) (oi := ?oi9T2) (v := ?v9T2) ?oi0_9T2 (by as_aux_lemma => kernel_rfl) ?ff9T2 ?rr9T2 ?hq9T2 (Or.inl ⟨?hw9T2, ?hy9T2⟩) (by assumption) ?rest9T2
                          case oi0_9T2 =>
                            conv =>
                              lhs
                              whnf
                              arg 1
                              whnf
                          case hq9T2 => exact fun _ _ _ h => h
                          case ff9T2 => as_aux_lemma => kernel_rfl
                          case rr9T2 => as_aux_lemma => kernel_rfl
                          case hw9T2 => rfl
                          case hy9T2 =>
                            intro w hSw
                            (try dsimp only at hSw)
                            first
                            | (go_simp; done)
                            | (go_simp; with_reducible rfl)
                          try simp only [Act.put, List.setIfInBounds_toArray, List.set_cons_zero, List.set_cons_succ]
                          refine wpAnyH_take (i := 10) (oi := ?oi10T2) (v := ?v10T2) ?oi0_10T2 (by as_aux_lemma => kernel_rfl) ?ff10T2 ?rr10T2 ?hq10T2 (Or.inl ⟨?hw10T2, ?hy10T2⟩) (by assumption) ?rest10T2
                          case oi0_10T2 =>
                            conv =>
                              lhs
                              whnf
                              arg 1
                              whnf
                          case hq10T2 => exact fun _ _ _ h => h
                          case ff10T2 => as_aux_lemma => kernel_rfl
                          case rr10T2 => as_aux_lemma => kernel_rfl
                          case hw10T2 => rfl
                          case hy10T2 =>
                            intro w hSw
                            (try dsimp only at hSw)
                            first
                            | (go_simp; done)
                            | (go_simp; with_reducible rfl)
                          try simp only [Act.put, List.setIfInBounds_toArray, List.set_cons_zero, List.set_cons_succ]
                          refine wpAnyH_take (i := 11) (oi := ?oi11T2) (v := ?v11T2) ?oi0_11T2 (by as_aux_lemma => kernel_rfl) ?ff11T2 ?rr11T2 ?hq11T2 (Or.inl ⟨?hw11T2, ?hy11T2⟩) (by assumption) ?rest11T2
                          case oi0_11T2 =>
                            conv =>
                              lhs
                              whnf
                              arg 1
                              whnf
                          case hq11T2 => exact fun _ _ _ h => h
                          case ff11T2 => as_aux_lemma => kernel_rfl
                          case rr11T2 => as_aux_lemma => kernel_rfl
                          case hw11T2 => rfl
                          case hy11T2 =>
                            intro w hSw
                            (try dsimp only at hSw)
                            first
                            | (go_simp; done)
                            | (go_simp; with_reducible rfl)
                          try simp only [Act.put, List.setIfInBounds_toArray, List.set_cons_zero, List.set_cons_succ]
                          refine wpAnyH_take (i := 12) (oi := ?oi12T2) (v := ?v12T2) ?oi0_12T2 (by as_aux_lemma => kernel_rfl) ?ff12T2 ?rr12T2 ?hq12T2 (Or.inl ⟨?hw12T2, ?hy12T2⟩) (by assumption) ?rest12T2
                          case oi0_12T2 =>
                            conv =>
                              lhs
                              whnf
                              arg 1
                              whnf
                          case hq12T2 => exact fun _ _ _ h => h
                          case ff12T2 => as_aux_lemma => kernel_rfl
                          case rr12T2 => as_aux_lemma => kernel_rfl
                          case hw12T2 => rfl
                          case hy12T2 =>
                            intro w hSw
                            (try dsimp only at hSw)
                            first
                            | (go_simp; done)
                            | (go_simp; with_reducible rfl)
                          try simp only [Act.put, List.setIfInBounds_toArray, List.set_cons_zero, List.set_cons_succ]
                          refine wpAnyH_take (i := 13) (oi := ?oi13T2) (v := ?v13T2) ?oi0_13T2 (by as_aux_lemma => kernel_rfl) ?ff13T2 ?rr13T2 ?hq13T2 (Or.inl ⟨?hw13T2, ?hy13T2⟩) (by assumption) ?rest13T2
                          case oi0_13T2 =>
                            conv =>
                              lhs
                              whnf
                              arg 1
                              whnf
                          case hq13T2 => exact fun _ _ _ h => h
                          case ff13T2 => as_aux_lemma => kernel_rfl
                          case rr13T2 => as_aux_lemma => kernel_rfl
                          case hw13T2 => rfl
                          case hy13T2 =>
                            intro w hSw
                            (try dsimp only at hSw)
                            first
                            | (go_simp; done)
                            | (go_simp; with_reducible rfl)
                          try simp only [Act.put, List.setIfInBounds_toArray, List.set_cons_zero, List.set_cons_succ]
                          refine wpAnyH_take (i := 14) (oi := ?oi14T2) (v := ?v14T2) ?oi0_14T2 (by as_aux_lemma => kernel_rfl) ?ff14T2 ?rr14T2 ?hq14T2 (Or.inl ⟨?hw14T2, ?hy14T2⟩) (by assumption) ?rest14T2
                          case oi0_14T2 =>
                            conv =>
                              lhs
                              whnf
                              arg 1
                              whnf
                          case hq14T2 => exact fun _ _ _ h => h
                          case ff14T2 => as_aux_lemma => kernel_rfl
                          case rr14T2 => as_aux_lemma => kernel_rfl
                          case hw14T2 => rfl
                          case hy14T2 =>
                            intro w hSw
                            (try dsimp only at hSw)
                            first
                            | (go_simp; done)
                            | (go_simp; with_reducible rfl)
                          try simp only [Act.put, List.setIfInBounds_toArray, List.set_cons_zero, List.set_cons_succ]
                          refine wpAnyH_take (i := 15) (oi := ?oi15T2) (v := ?v15T2) ?oi0_15T2 (by as_aux_lemma => kernel_rfl) ?ff15T2 ?rr15T2 ?hq15T2 (Or.inl ⟨?hw15T2, ?hy15T2⟩) (by assumption) ?rest15T2
                          case oi0_15T2 =>
                            conv =>
                              lhs
                              whnf
                              arg 1
                              whnf
                          case hq15T2 => exact fun _ _ _ h => h
                          case ff15T2 => as_aux_lemma => kernel_rfl
                          case rr15T2 => as_aux_lemma => kernel_rfl
                          case hw15T2 => rfl
                          case hy15T2 =>
                            intro w hSw
                            (try dsimp only at hSw)
                            first
                            | (go_simp; done)
                            | (go_simp; with_reducible rfl)
                          try simp only [Act.put, List.setIfInBounds_toArray, List.set_cons_zero, List.set_cons_succ]
                          refine wpAnyH_take (i := 16) (oi := ?oi16T2) (v := ?v16T2) ?oi0_16T2 (by as_aux_lemma => kernel_rfl) ?ff16T2 ?rr16T2 ?hq16T2 (Or.inl ⟨?hw16T2, ?hy16T2⟩) (by assumption) ?rest16T2
                          case oi0_16T2 =>
                            conv =>
                              lhs
                              whnf
                              arg 1
                              whnf
                          case hq16T2 => exact fun _ _ _ h => h
                          case ff16T2 => as_aux_lemma => kernel_rfl
                          case rr16T2 => as_aux_lemma => kernel_rfl
                          case hw16T2 => rfl
                          case hy16T2 =>
                            intro w hSw
                            (try dsimp only at hSw)
                            first
                            | (go_simp; done)
                            | (go_simp; with_reducible rfl)
                          try simp only [Act.put, List.setIfInBounds_toArray, List.set_cons_zero, List.set_cons_succ]
                          refine wpAnyH_ready (rs := [6]) (by as_aux_lemma => kernel_rfl) (by simp) (AllReadyH.cons (o := ?oi6T2) ?oi0_6T2 (fun K hK => ?_) AllReadyH.nil)
                          case oi0_6T2 =>
                            conv =>
                              lhs
                              whnf
                              arg 1
                              whnf
                          go_simp
                          refine (HA.out _).mono ?_
                          rintro e w' ⟨rfl, rfl⟩
                          (try dsimp only)
                          refine hK.out _ _ (by assumption) (fun hHeld => ?_)
                          clear hK K
                          try simp only [Act.put, List.setIfInBounds_toArray, List.set_cons_zero, List.set_cons_succ]
                          refine wpAnyH_take (i := 17) (oi := ?oi17T2) (v := ?v17T2) ?oi0_17T2 (by as_aux_lemma => kernel_rfl) ?ff17T2 ?rr17T2 ?hq17T2 (Or.inl ⟨?hw17T2, ?hy17T2⟩) (by assumption) ?rest17T2
                          case oi0_17T2 =>
                            conv =>
                              lhs
                              whnf
                              arg 1
                              whnf
                          case hq17T2 => exact fun _ _ _ h => h
                          case ff17T2 => as_aux_lemma => kernel_rfl
                          case rr17T2 => as_aux_lemma => kernel_rfl
                          case hw17T2 => rfl
                          case hy17T2 =>
                            intro w hSw
                            (try dsimp only at hSw)
                            first
                            | (go_simp; done)
                            | (go_simp; with_reducible rfl)
                          try simp only [Act.put, List.setIfInBounds_toArray, List.set_cons_zero, List.set_cons_succ]
                          refine wpAnyH_take (i := 18) (oi := ?oi18T2) (v := ?v18T2) ?oi0_18T2 (by as_aux_lemma => kernel_rfl) ?ff18T2 ?rr18T2 ?hq18T2 (Or.inl ⟨?hw18T2, ?hy18T2⟩) (by assumption) ?rest18T2
                          case oi0_18T2 =>
                            conv =>
                              lhs
                              whnf
                              arg 1
                              whnf
                          case hq18T2 => exact fun _ _ _ h => h
                          case ff18T2 => as_aux_lemma => kernel_rfl
                          case rr18T2 => as_aux_lemma => kernel_rfl
                          case hw18T2 => rfl
                          case hy18T2 =>
                            intro w hSw
                            (try dsimp only at hSw)
                            first
                            | (go_simp; done)
                            | (go_simp; with_reducible rfl)
                          try simp only [Act.put, List.setIfInBounds_toArray, List.set_cons_zero, List.set_cons_succ]
                          refine wpAnyH_done (by as_aux_lemma => kernel_rfl) ?_ _
                          by_cases hCn : C < never
                          · have hC0 : 0 ≤ C := by
                              rw [← HFC.out]
                              exact foldl_min_nonneg _ (fun n => by have := awayS_nonneg n p.want; have := (leastS_bounds (tn : Int) (l.drop (i + 1)) ((s : Int) + n)).1; omega) _ _ (by unfold never; omega)
                            rw [show encL C = C from if_pos hCn] at hc9
                            have hC0' : decide (C < 0) = false := decide_eq_false (by omega)
                            by_cases hlt : cv < C
                            · have HN := hide (show (wi.setCell ⟨G, s, none⟩ (.int .i64 cv)).cell? ⟨G, s, none⟩ = some (.int .i64 (encL (foldC (tn : Int) p (l.drop (i + 1)) (s : Int) (q + 1)))) by
                                rw [HC2.out.2, HST3.out, show min C cv = cv by omega, show encL cv = cv from if_pos HCVN.out])
                              clear hCn
                              go_wp2_with fail
                              go_roundw
                              case rel => exact ⟨q + 1, by omega, by go_num, HU4.out.drew, HC2.out.1.upd ((Upd.refl [] _).drew), HN⟩
                              case measure => simp [intOf] <;> omega
                            · have HN := hide (show wi.cell? ⟨G, s, none⟩ = some (.int .i64 (encL (foldC (tn : Int) p (l.drop (i + 1)) (s : Int) (q + 1)))) by
                                rw [HST3.out, show min C cv = C by omega]
                                exact hcell.out)
                              have hlt' : decide (cv < C) = false := decide_eq_false hlt
                              clear hCn
                              go_wp2_with fail
                              go_roundw
                              case rel => exact ⟨q + 1, by omega, by go_num, hu.out.drew, hc.out.upd ((Upd.refl [] wi).drew), HN⟩
                              case measure => simp [intOf] <;> omega
                          · rw [show encL C = -1 from if_neg hCn] at hc9
                            have HN := hide (show (wi.setCell ⟨G, s, none⟩ (.int .i64 cv)).cell? ⟨G, s, none⟩ = some (.int .i64 (encL (foldC (tn : Int) p (l.drop (i + 1)) (s : Int) (q + 1)))) by
                              rw [HC2.out.2, HST3.out, show min C cv = cv by have := HCVN.out; omega, show encL cv = cv from if_pos HCVN.out])
                            clear hCn
                            go_wp2_with fail
                            go_roundw
                            case rel => exact ⟨q + 1, by omega, by go_num, HU4.out.drew, HC2.out.1.upd ((Upd.refl [] _).drew), HN⟩
                            case measure => simp [intOf] <;> omega
                        · rw [show encL (leastS (tn : Int) (l.drop (i + 1)) (y : Int)) = -1 from if_neg hlv] at g3
                          have HN := hide (show wi.cell? ⟨G, s, none⟩ = some (.int .i64 (encL (foldC (tn : Int) p (l.drop (i + 1)) (s : Int) (q + 1)))) by
                            rw [HST.out, enc_far (by have := awayS_nonneg z p.want; omega)]
                            exact hcell.out)
                          clear hlv
                          go_wp2_with fail
                          go_roundw
                          case rel => exact ⟨q + 1, by omega, by go_num, hu, hc, HN⟩
                          case measure => simp [intOf] <;> omega
                    · have hqi : ¬ (q : Int) < pn := by omega
                      have HC2 := hide (hc.out.step (by
                        rw [HDR.out, HAL.out q (by have := HPN.out; omega), if_pos HMT.out, HFC.out]
                        exact hcell.out))
                      go_wp2_with fail
                      go_roundw
                      case rel => exact ⟨s + 1, by omega, by go_num, hu, HC2⟩
                      case measure => simp [intOf] <;> omega
            · have hpj : 0 ≤ p.join ∧ ¬ p.join = (s : Int) := by
                unfold meetsS at hmt
                simp at hmt
                omega
              obtain ⟨hpj1, hpj2⟩ := hpj
              have HC2 := hide (HC1.out.1.step (by
                rw [HC1.out.2, HDR.out, HAL.out _ (Nat.le_refl _), if_neg hmt]))
              obtain ⟨jn, hjn⟩ : ∃ jn, p.join = jn := ⟨_, rfl⟩
              rw [hjn] at f0 hpj1 hpj2
              have hjb : (jn != (s : Int)) = true := by simpa using hpj2
              clear hmt hjn hpj2
              go_wp2_with fail
              go_roundw
              case rel => exact ⟨s + 1, by omega, by go_num, HU3, HC2⟩
              case measure => simp [intOf] <;> omega
        · have hsi : ¬ (s : Int) ≤ 3600 := by omega
          have hs36 : s = 3601 := by omega
          have h1 := hc.out
          rw [hs36] at h1
          have h2 := h1.tab.step (G' := wm.heap.size) h1.row.lt h1.ne h1.at_ h1.row
          have H2 := hide h2
          have hw1 : IntKind.i64.wrap ((i : Int) - 1) = (i : Int) - 1 := Go.IntWalk.i64_in _ (by omega)
          clear hs36 h1 h2
          go_wp2_with fail
          go_roundw
          case rel => exact ⟨(i : Int) - 1, i, by omega, by omega, by go_num, hide (by omega), hu, H2⟩
          case measure => simp [intOf] <;> omega
    · obtain rfl : j = k := by omega
      have hkv : ¬ (j : Int) ≤ v := by have := hv.out; omega
      clear hjk hkj hjl hv
      as_aux_lemma =>
        have TB := hide (show ∀ x, j ≤ x → x ≤ len → ∃ B, ∀ W, Upd [] wo W → W.cell? ⟨T, x, none⟩ = some (.slice (some ⟨B, 0, none⟩) 3601 3601) ∧ ∀ y, y < 3601 → W.cell? ⟨B, y, none⟩ = some (.int .i64 (encL (leastS (tn : Int) (l.drop x) (y : Int)))) from fun x h1 h2 => by
          obtain ⟨B, _, _, h3, h4⟩ := htab.out.2 x h1 (by have := HZ.out; omega)
          exact ⟨B, fun W hW => ⟨keep_cell _ _ _ _ hW h3, fun y hy => keep_cell _ _ _ _ hW (h4.cell hy)⟩⟩)
        have HU := hu
        have HG0 := hide (show w.heap.size ≤ wo.heap.size from hu.out.size)
        clear htab hu
        have hjl' : (j : Int) < (len : Int) + 1 := by omega
        by_cases hs3 : 3600 < s
        · have hs3' : (3600 : Int) < s := by omega
          have HRE := HR.out
          rw [rest_none (by rw [leastS_far _ (by omega : (tn : Int) < (s : Int))]; omega)] at HRE
          obtain ⟨rfl, rfl, rfl⟩ : [] = ri ∧ 0 = rc ∧ false = rb := by simpa using HRE
          clear HRE
          go_wp2_with fail
          go_ret3
          exact ⟨_, rfl, World.ownsRow_nil _ _ _ _, HU.out⟩
        have hs3' : ¬ (3600 : Int) < s := by omega
        have hs4 : (s : Int) < 3601 := by omega
        obtain ⟨B0, hB0⟩ := TB.out j (Nat.le_refl _) hk
        have e0 := (hB0 wo (Upd.refl _ _)).1
        have e1 := (hB0 wo (Upd.refl _ _)).2 s (by omega)
        clear hB0
        by_cases hlv : leastS (tn : Int) (l.drop j) (s : Int) < never
        case neg =>
          rw [show encL (leastS (tn : Int) (l.drop j) (s : Int)) = -1 from if_neg hlv] at e1
          have HRE := HR.out
          rw [rest_none hlv] at HRE
          obtain ⟨rfl, rfl, rfl⟩ : [] = ri ∧ 0 = rc ∧ false = rb := by simpa using HRE
          clear HRE hlv
          go_wp2_with fail
          go_ret3
          exact ⟨_, rfl, World.ownsRow_nil _ _ _ _, HU.out⟩
        have hlb := least_small (fun p hp => HV.out.2.2 p (List.mem_of_mem_drop hp)) (by have := HV.out.1; rw [List.length_drop]; omega) hlv
        rw [show encL (leastS (tn : Int) (l.drop j) (s : Int)) = leastS (tn : Int) (l.drop j) (s : Int) from if_pos hlv] at e1
        obtain ⟨ns, hns, hre⟩ := rest_yes (total := (tn : Int)) HV.out.2.2 hlv
        have HRE := HR.out
        rw [hre] at HRE
        obtain ⟨rfl, hrc, rfl⟩ : ns = ri ∧ leastS (tn : Int) (l.drop j) (s : Int) = rc ∧ true = rb := by simpa using HRE
        rw [hrc] at e1 hlb
        obtain ⟨hl1, hl2⟩ := hlb
        have HNS := hide hns
        have HLV := hide hlv
        have hrc0 : decide (rc < 0) = false := decide_eq_false (by omega)
        clear HRE hre hns hlv hrc
        go_wp2_with fail
        go_loopw [3, 18, 19] (fun s3 s18 s19 wr => ∃ (i sn : Nat) (A : Option Addr) (m c : Nat) (done : List Int), j ≤ i ∧ i ≤ len ∧ sn ≤ 3600 ∧ m + j = i ∧ s3 = .int .i64 sn ∧ s18 = .slice A m c ∧ s19 = .int .i64 i ∧ Hid (leastS (tn : Int) (l.drop i) (sn : Int) < never) ∧ Hid ((bestS (tn : Int) (l.drop i) (sn : Int)).map (done ++ ·) = some ns) ∧ Hid (m = done.length) ∧ Hid (wr.ownsRow wo.heap.size 3 1 (.slice A m c) m (done.map (Value.int .i64))) ∧ Hid (Upd [] wo wr)) (fun _ _ i _ => len - (intOf i).toNat)
        case atStart => exact ⟨j, s, none, 0, 0, [], Nat.le_refl _, hk, by omega, by omega, rfl, rfl, rfl, HLV.out, hide (by rw [HNS.out]; simp), rfl, World.ownsRow_nil _ _ _ _, Upd.refl _ _⟩
        case round =>
          obtain ⟨i, sn, A, m, cc, done, hji, hil, hsn, hmj, rfl, rfl, rfl, hlv, hbs, hm, hrow, hu⟩ := hrel
          obtain ⟨wp, rfl⟩ : ∃ wp : World, wp = wr := ⟨_, rfl⟩
          by_cases hlt : i < len
          · obtain ⟨p, hp⟩ : ∃ p, l[i]? = some p := ⟨_, List.getElem?_eq_getElem (by have := HZ.out; omega)⟩
            obtain ⟨b, o, pa, pn, pc, ea, hb, hI1, hpm, c0, c1, c2⟩ := HI.out i p hp
            subst ea
            have hok := HV.out.2.2 p (List.mem_of_getElem? hp)
            have HDR := hide (show l.drop i = p :: l.drop (i + 1) by rw [List.drop_eq_getElem_cons (by have := HZ.out; omega), (List.getElem_eq_iff _).2 hp])
            have HC0 := hide (show ∀ W, Upd [] wo W → W.cell? ⟨b, o + i * 3, none⟩ = some (.slice pa pn pc) ∧ W.cell? ⟨b, o + i * 3 + 1, none⟩ = some (.int .i64 p.want) from fun W hW => ⟨keep_cell _ _ _ _ (HU.out.trans hW (by simp)) c0, keep_cell _ _ _ _ (HU.out.trans hW (by simp)) c1⟩)
            have HPN := hide hI1.form.1
            have HPC := hide (show ∀ j z, p.lens[j]? = some z → ∃ b o, pa = some ⟨b, o, none⟩ ∧ ∀ W, Upd [] wo W → W.cell? ⟨b, o + j, none⟩ = some (.int .i64 z) from fun j z hz => by
              obtain ⟨b2, o2, e2, h2, h3⟩ := hI1.form.2 j z hz
              exact ⟨b2, o2, e2, fun W hW => keep_cell _ _ _ _ (HU.out.trans hW (by simp)) h3⟩)
            have HOK := hide hok
            have hpn8 : pn ≤ 8 := by have := hok.1.2; have := hI1.form.1; omega
            have hlv2 := hlv.out
            rw [HDR.out] at hlv2
            obtain ⟨nn, hf, hmem, hlt2, hbst⟩ := best_step (fun q hq => HV.out.2.2 q (List.mem_of_mem_drop (HDR.out ▸ hq))) hlv2
            have hnn := len_ok hok hmem
            obtain ⟨lvi, hlvi⟩ : ∃ lvi, leastS (tn : Int) (p :: l.drop (i + 1)) (sn : Int) = lvi := ⟨_, rfl⟩
            have hb2 := least_small (fun q hq => HV.out.2.2 q (List.mem_of_mem_drop (HDR.out ▸ hq))) (by have := HV.out.1; rw [← HDR.out, List.length_drop]; omega) hlv2
            obtain ⟨Bi, hBi⟩ := TB.out i hji hil
            have HBI := hide (show ∀ W, Upd [] wo W → W.cell? ⟨T, i, none⟩ = some (.slice (some ⟨Bi, 0, none⟩) 3601 3601) ∧ W.cell? ⟨Bi, sn, none⟩ = some (.int .i64 lvi) from fun W hW => ⟨(hBi W hW).1, by
              rw [(hBi W hW).2 sn (by omega), HDR.out, hlvi]
              rw [hlvi] at hlv2
              rw [show encL lvi = lvi from if_pos hlv2]⟩)
            rw [hlvi] at hf hb2
            obtain ⟨hlvi0, hlvi1⟩ := hb2
            obtain ⟨hnn0, hnn1⟩ := hnn
            have HF := hide hf
            have HMEM := hide hmem
            have HLT2 := hide hlt2
            have HBST := hide hbst
            obtain ⟨i1, hi1⟩ : ∃ i1, i + 1 = i1 := ⟨_, rfl⟩
            rw [hi1] at HF HLT2 HBST
            obtain ⟨B1, hB1⟩ := TB.out i1 (by omega) (by omega)
            have HB1 := hide hB1
            have hwi : IntKind.i64.wrap ((i : Int) + 1) = (i1 : Int) := by rw [Go.IntWalk.i64_in _ (by omega)]; omega
            have hi1l : (i1 : Int) < (len : Int) + 1 := by omega
            have HI1 := hide hi1
            have hil3 : (i : Int) < (len : Int) := by omega
            have hil4 : (i : Int) < (len : Int) + 1 := by omega
            have hsn3 : (sn : Int) < 3601 := by omega
            clear hp hb hI1 hpm c0 c1 c2 hok hlv2 hf hmem hlt2 hbst hBi hlvi hB1 hi1
            go_wp2_with fail
            go_loopw [20, 21] (fun s20 s21 wr2 => ∃ (q : Nat) (tk : Int), q ≤ pn ∧ s20 = .int .i64 tk ∧ s21 = .int .i64 q ∧ Hid ((tk = -1 ∧ ∀ x, x < q → ∀ z, p.lens[x]? = some z → decide (awayS z p.want + leastS (tn : Int) (l.drop i1) ((sn : Int) + z) = lvi) = false) ∨ tk = nn) ∧ Hid (wr2.ownsRow wo.heap.size 3 1 (.slice A m cc) m (done.map (Value.int .i64))) ∧ Hid (Upd [] wo wr2)) (fun _ q _ => pn - (intOf q).toNat)
            case atStart => exact ⟨0, -1, Nat.zero_le _, rfl, rfl, .inl ⟨rfl, fun x hx => by omega⟩, hrow, hu⟩
            case round =>
              obtain ⟨q, tk, hq, rfl, rfl, hinv, hrow, hv⟩ := hrel
              obtain ⟨wq, rfl⟩ : ∃ wq : World, wq = wr := ⟨_, rfl⟩
              have g0 := (HC0.out wq hv.out).1
              by_cases hgo : q < pn ∧ tk < 0
              · obtain ⟨hql, htk⟩ := hgo
                have hno := hinv.out.resolve_right (by omega)
                have HNO := hide hno.2
                obtain rfl : tk = -1 := hno.1
                obtain ⟨z, hz⟩ : ∃ z, p.lens[q]? = some z := ⟨_, List.getElem?_eq_getElem (by have := HPN.out; omega)⟩
                obtain ⟨pb, po, eb, hzc⟩ := HPC.out q z hz
                subst eb
                have g1 := hzc wq hv.out
                have g2 := (HC0.out wq hv.out).2
                have hzb := len_ok HOK.out (List.mem_of_getElem? hz)
                obtain ⟨hz1, hz2⟩ := hzb
                obtain ⟨hw1, hw2⟩ := HOK.out.2.1
                obtain ⟨y, hy⟩ : ∃ y : Nat, (sn : Int) + z = (y : Int) := ⟨((sn : Int) + z).toNat, by omega⟩
                have hw : IntKind.i64.wrap ((sn : Int) + z) = (y : Int) := by rw [Go.IntWalk.i64_in _ (by omega)]; exact hy
                have hqi : (q : Int) < pn := by omega
                have HY := hide hy
                have HZQ := hide hz
                have haw9 : 0 ≤ awayS z p.want ∧ awayS z p.want ≤ 3600 := by unfold awayS; omega
                obtain ⟨aw, EW⟩ : ∃ aw, Hid (awayS z p.want = aw) := ⟨_, rfl⟩
                rw [EW.out] at haw9
                obtain ⟨ha1, ha2⟩ := haw9
                have HAW := fun W => raway_any z p.want W (by omega) (by omega)
                simp only [EW.out] at HAW
                have HA := hide HAW
                have HSTEP := hide (show decide (awayS z p.want + leastS (tn : Int) (l.drop i1) (y : Int) = lvi) = false → ∀ x, x < q + 1 → ∀ z, p.lens[x]? = some z → decide (awayS z p.want + leastS (tn : Int) (l.drop i1) ((sn : Int) + z) = lvi) = false from fun h x hx u hu => by
                  rcases Nat.lt_succ_iff_lt_or_eq.1 hx with h1 | rfl
                  · exact HNO.out x h1 u hu
                  · rw [hz] at hu
                    obtain rfl : z = u := by simpa using hu
                    rw [hy]
                    exact h)
                clear hz hzc HAW hy hno htk hql hinv
                by_cases hyl : 3600 < y
                · have hyl' : (3600 : Int) < y := by omega
                  have HN := hide (HSTEP.out (decide_eq_false (by rw [leastS_far _ (by omega : (tn : Int) < (y : Int))]; have := awayS_nonneg z p.want; unfold never; omega)))
                  have hyb : decide ((y : Int) ≤ 3600) = false := decide_eq_false (by omega)
                  have g3 := (HBI.out wq hv.out).1
                  as_aux_lemma =>
                    go_wp2_with fail
                    refine wp_region_held_drew (S := (fun w' => w'.cell? ⟨b, o + i * 3 + 1, none⟩ = some (.int .i64 p.want))) (by as_aux_lemma => kernel_rfl) (by exact g2) (fun hHeld => ?_)
                    refine wpAnyH_take (i := 0) (oi := ?oi0T6) (v := ?v0T6) ?oi0_0T6 (by as_aux_lemma => kernel_rfl) ?ff0T6 ?rr0T6 ?hq0T6 (Or.inl ⟨?hw0T6, ?hy0T6⟩) (by assumption) ?rest0T6
                    case oi0_0T6 =>
                      conv =>
                        lhs
                        whnf
                        arg 1
                        whnf
                    case hq0T6 => exact fun _ _ _ h => h
                    case ff0T6 => as_aux_lemma => kernel_rfl
                    case rr0T6 => as_aux_lemma => kernel_rfl
                    case hw0T6 => rfl
                    case hy0T6 =>
                      intro w hSw
                      (try dsimp only at hSw)
                      first
                      | (go_simp; done)
                      | (go_simp; with_reducible rfl)
                    try simp only [Act.put, List.setIfInBounds_toArray, List.set_cons_zero, List.set_cons_succ]
                    refine wpAnyH_take (i := 1) (oi := ?oi1T6) (v := ?v1T6) ?oi0_1T6 (by as_aux_lemma => kernel_rfl) ?ff1T6 ?rr1T6 ?hq1T6 (Or.inl ⟨?hw1T6, ?hy1T6⟩) (by assumption) ?rest1T6
                    case oi0_1T6 =>
                      conv =>
                        lhs
                        whnf
                        arg 1
                        whnf
                    case hq1T6 => exact fun _ _ _ h => h
                    case ff1T6 => as_aux_lemma => kernel_rfl
                    case rr1T6 => as_aux_lemma => kernel_rfl
                    case hw1T6 => rfl
                    case hy1T6 =>
                      intro w hSw
                      (try dsimp only at hSw)
                      first
                      | (go_simp; done)
                      | (go_simp; with_reducible rfl)
                    try simp only [Act.put, List.setIfInBounds_toArray, List.set_cons_zero, List.set_cons_succ]
                    refine wpAnyH_take (i := 2) (oi := ?oi2T6) (v := ?v2T6) ?oi0_2T6 (by as_aux_lemma => kernel_rfl) ?ff2T6 ?rr2T6 ?hq2T6 (Or.inl ⟨?hw2T6, ?hy2T6⟩) (by assumption) ?rest2T6
                    case oi0_2T6 =>
                      conv =>
                        lhs
                        whnf
                        arg 1
                        whnf
                    case hq2T6 => exact fun _ _ _ h => h
                    case ff2T6 => as_aux_lemma => kernel_rfl
                    case rr2T6 => as_aux_lemma => kernel_rfl
                    case hw2T6 => rfl
                    case hy2T6 =>
                      intro w hSw
                      (try dsimp only at hSw)
                      first
                      | (go_simp; done)
                      | (go_simp; with_reducible rfl)
                    try simp only [Act.put, List.setIfInBounds_toArray, List.set_cons_zero, List.set_cons_succ]
                    refine wpAnyH_take (i := 3) (oi := ?oi3T6) (v := ?v3T6) ?oi0_3T6 (by as_aux_lemma => kernel_rfl) ?ff3T6 ?rr3T6 ?hq3T6 (Or.inl ⟨?hw3T6, ?hy3T6⟩) (by assumption) ?rest3T6
                    case oi0_3T6 =>
                      conv =>
                        lhs
                        whnf
                        arg 1
                        whnf
                    case hq3T6 => exact fun _ _ _ h => h
                    case ff3T6 => as_aux_lemma => kernel_rfl
                    case rr3T6 => as_aux_lemma => kernel_rfl
                    case hw3T6 => rfl
                    case hy3T6 =>
                      intro w hSw
                      (try dsimp only at hSw)
                      first
                      | (go_simp; done)
                      | (go_simp; with_reducible rfl)
                    try simp only [Act.put, List.setIfInBounds_toArray, List.set_cons_zero, List.set_cons_succ]
                    refine wpAnyH_take (i := 4) (oi := ?oi4T6) (v := ?v4T6) ?oi0_4T6 (by as_aux_lemma => kernel_rfl) ?ff4T6 ?rr4T6 ?hq4T6 (Or.inl ⟨?hw4T6, ?hy4T6⟩) (by assumption) ?rest4T6
                    case oi0_4T6 =>
                      conv =>
                        lhs
                        whnf
                        arg 1
                        whnf
                    case hq4T6 => exact fun _ _ _ h => h
                    case ff4T6 => as_aux_lemma => kernel_rfl
                    case rr4T6 => as_aux_lemma => kernel_rfl
                    case hw4T6 => rfl
                    case hy4T6 =>
                      intro w hSw
                      (try dsimp only at hSw)
                      first
                      | (go_simp; done)
                      | (go_simp; with_reducible rfl)
                    try simp only [Act.put, List.setIfInBounds_toArray, List.set_cons_zero, List.set_cons_succ]
                    refine wpAnyH_take (i := 5) (oi := ?oi5T6) (v := undef) ?oi0_5T6 (by as_aux_lemma => kernel_rfl) ?ff5T6 ?rr5T6 ?hq5T6 (Or.inr ⟨?hw5T6, rfl⟩) (by assumption) ?rest5T6
                    case oi0_5T6 =>
                      conv =>
                        lhs
                        whnf
                        arg 1
                        whnf
                    case hq5T6 => exact fun _ _ _ h => h
                    case ff5T6 => as_aux_lemma => kernel_rfl
                    case rr5T6 => as_aux_lemma => kernel_rfl
                    case hw5T6 => rfl
                    try simp only [Act.put, List.setIfInBounds_toArray, List.set_cons_zero, List.set_cons_succ]
                    refine wpAnyH_take (i := 6) (oi := ?oi6T6) (v := undef) ?oi0_6T6 (by as_aux_lemma => kernel_rfl) ?ff6T6 ?rr6T6 ?hq6T6 (Or.inr ⟨?hw6T6, rfl⟩) (by assumption) ?rest6T6
                    case oi0_6T6 =>
                      conv =>
                        lhs
                        whnf
                        arg 1
                        whnf
                    case hq6T6 => exact fun _ _ _ h => h
                    case ff6T6 => as_aux_lemma => kernel_rfl
                    case rr6T6 => as_aux_lemma => kernel_rfl
                    case hw6T6 => rfl
                    try simp only [Act.put, List.setIfInBounds_toArray, List.set_cons_zero, List.set_cons_succ]
                    refine wpAnyH_take (i := 7) (oi := ?oi7T6) (v := undef) ?oi0_7T6 (by as_aux_lemma => kernel_rfl) ?ff7T6 ?rr7T6 ?hq7T6 (Or.inr ⟨?hw7T6, rfl⟩) (by assumption) ?rest7T6
                    case oi0_7T6 =>
                      conv =>
                        lhs
                        whnf
                        arg 1
                        whnf
                    case hq7T6 => exact fun _ _ _ h => h
                    case ff7T6 => as_aux_lemma => kernel_rfl
                    case rr7T6 => as_aux_lemma => kernel_rfl
                    case hw7T6 => rfl
                    try simp only [Act.put, List.setIfInBounds_toArray, List.set_cons_zero, List.set_cons_succ]
                    refine wpAnyH_take (i := 8) (oi := ?oi8T6) (v := undef) ?oi0_8T6 (by as_aux_lemma => kernel_rfl) ?ff8T6 ?rr8T6 ?hq8T6 (Or.inr ⟨?hw8T6, rfl⟩) (by assumption) ?rest8T6
                    case oi0_8T6 =>
                      conv =>
                        lhs
                        whnf
                        arg 1
                        whnf
                    case hq8T6 => exact fun _ _ _ h => h
                    case ff8T6 => as_aux_lemma => kernel_rfl
                    case rr8T6 => as_aux_lemma => kernel_rfl
                    case hw8T6 => rfl
                    try simp only [Act.put, List.setIfInBounds_toArray, List.set_cons_zero, List.set_cons_succ]
                    refine wpAnyH_take (i := 9) (oi := ?oi9T6) (v := undef) ?oi0_9T6 (by as_aux_lemma => kernel_rfl) ?ff9T6 ?rr9T6 ?hq9T6 (Or.inr ⟨?hw9T6, rfl⟩) (by assumption) ?rest9T6
                    case oi0_9T6 =>
                      conv =>
                        lhs
                        whnf
                        arg 1
                        whnf
                    case hq9T6 => exact fun _ _ _ h => h
                    case ff9T6 => as_aux_lemma => kernel_rfl
                    case rr9T6 => as_aux_lemma => kernel_rfl
                    case hw9T6 => rfl
                    try simp only [Act.put, List.setIfInBounds_toArray, List.set_cons_zero, List.set_cons_succ]
                    refine wpAnyH_take (i := 10) (oi := ?oi10T6) (v := undef) ?oi0_10T6 (by as_aux_lemma => kernel_rfl) ?ff10T6 ?rr10T6 ?hq10T6 (Or.inr ⟨?hw10T6, rfl⟩) (by assumption) ?rest10T6
                    case oi0_10T6 =>
                      conv =>
                        lhs
                        whnf
                        arg 1
                        whnf
                    case hq10T6 => exact fun _ _ _ h => h
                    case ff10T6 => as_aux_lemma => kernel_rfl
                    case rr10T6 => as_aux_lemma => kernel_rfl
                    case hw10T6 => rfl
                    try simp only [Act.put, List.setIfInBounds_toArray, List.set_cons_zero, List.set_cons_succ]
                    refine wpAnyH_take (i := 11) (oi := ?oi11T6) (v := undef) ?oi0_11T6 (by as_aux_lemma => kernel_rfl) ?ff11T6 ?rr11T6 ?hq11T6 (Or.inr ⟨?hw11T6, rfl⟩) (by assumption) ?rest11T6
                    case oi0_11T6 =>
                      conv =>
                        lhs
                        whnf
                        arg 1
                        whnf
                    case hq11T6 => exact fun _ _ _ h => h
                    case ff11T6 => as_aux_lemma => kernel_rfl
                    case rr11T6 => as_aux_lemma => kernel_rfl
                    case hw11T6 => rfl
                    try simp only [Act.put, List.setIfInBounds_toArray, List.set_cons_zero, List.set_cons_succ]
                    refine wpAnyH_take (i := 12) (oi := ?oi12T6) (v := undef) ?oi0_12T6 (by as_aux_lemma => kernel_rfl) ?ff12T6 ?rr12T6 ?hq12T6 (Or.inr ⟨?hw12T6, rfl⟩) (by assumption) ?rest12T6
                    case oi0_12T6 =>
                      conv =>
                        lhs
                        whnf
                        arg 1
                        whnf
                    case hq12T6 => exact fun _ _ _ h => h
                    case ff12T6 => as_aux_lemma => kernel_rfl
                    case rr12T6 => as_aux_lemma => kernel_rfl
                    case hw12T6 => rfl
                    try simp only [Act.put, List.setIfInBounds_toArray, List.set_cons_zero, List.set_cons_succ]
                    refine wpAnyH_take (i := 13) (oi := ?oi13T6) (v := undef) ?oi0_13T6 (by as_aux_lemma => kernel_rfl) ?ff13T6 ?rr13T6 ?hq13T6 (Or.inr ⟨?hw13T6, rfl⟩) (by assumption) ?rest13T6
                    case oi0_13T6 =>
                      conv =>
                        lhs
                        whnf
                        arg 1
                        whnf
                    case hq13T6 => exact fun _ _ _ h => h
                    case ff13T6 => as_aux_lemma => kernel_rfl
                    case rr13T6 => as_aux_lemma => kernel_rfl
                    case hw13T6 => rfl
                    try simp only [Act.put, List.setIfInBounds_toArray, List.set_cons_zero, List.set_cons_succ]
                    refine wpAnyH_take (i := 14) (oi := ?oi14T6) (v := undef) ?oi0_14T6 (by as_aux_lemma => kernel_rfl) ?ff14T6 ?rr14T6 ?hq14T6 (Or.inr ⟨?hw14T6, rfl⟩) (by assumption) ?rest14T6
                    case oi0_14T6 =>
                      conv =>
                        lhs
                        whnf
                        arg 1
                        whnf
                    case hq14T6 => exact fun _ _ _ h => h
                    case ff14T6 => as_aux_lemma => kernel_rfl
                    case rr14T6 => as_aux_lemma => kernel_rfl
                    case hw14T6 => rfl
                    try simp only [Act.put, List.setIfInBounds_toArray, List.set_cons_zero, List.set_cons_succ]
                    refine wpAnyH_take (i := 15) (oi := ?oi15T6) (v := undef) ?oi0_15T6 (by as_aux_lemma => kernel_rfl) ?ff15T6 ?rr15T6 ?hq15T6 (Or.inr ⟨?hw15T6, rfl⟩) (by assumption) ?rest15T6
                    case oi0_15T6 =>
                      conv =>
                        lhs
                        whnf
                        arg 1
                        whnf
                    case hq15T6 => exact fun _ _ _ h => h
                    case ff15T6 => as_aux_lemma => kernel_rfl
                    case rr15T6 => as_aux_lemma => kernel_rfl
                    case hw15T6 => rfl
                    try simp only [Act.put, List.setIfInBounds_toArray, List.set_cons_zero, List.set_cons_succ]
                    refine wpAnyH_take (i := 16) (oi := ?oi16T6) (v := ?v16T6) ?oi0_16T6 (by as_aux_lemma => kernel_rfl) ?ff16T6 ?rr16T6 ?hq16T6 (Or.inl ⟨?hw16T6, ?hy16T6⟩) (by assumption) ?rest16T6
                    case oi0_16T6 =>
                      conv =>
                        lhs
                        whnf
                        arg 1
                        whnf
                    case hq16T6 => exact fun _ _ _ h => h
                    case ff16T6 => as_aux_lemma => kernel_rfl
                    case rr16T6 => as_aux_lemma => kernel_rfl
                    case hw16T6 => rfl
                    case hy16T6 =>
                      intro w hSw
                      (try dsimp only at hSw)
                      first
                      | (go_simp; done)
                      | (go_simp; with_reducible rfl)
                    try simp only [Act.put, List.setIfInBounds_toArray, List.set_cons_zero, List.set_cons_succ]
                    refine wpAnyH_take (i := 17) (oi := ?oi17T6) (v := ?v17T6) ?oi0_17T6 (by as_aux_lemma => kernel_rfl) ?ff17T6 ?rr17T6 ?hq17T6 (Or.inl ⟨?hw17T6, ?hy17T6⟩) (by assumption) ?rest17T6
                    case oi0_17T6 =>
                      conv =>
                        lhs
                        whnf
                        arg 1
                        whnf
                    case hq17T6 => exact fun _ _ _ h => h
                    case ff17T6 => as_aux_lemma => kernel_rfl
                    case rr17T6 => as_aux_lemma => kernel_rfl
                    case hw17T6 => rfl
                    case hy17T6 =>
                      intro w hSw
                      (try dsimp only at hSw)
                      first
                      | (go_simp; done)
                      | (go_simp; with_reducible rfl)
                    try simp only [Act.put, List.setIfInBounds_toArray, List.set_cons_zero, List.set_cons_succ]
                    refine wpAnyH_take (i := 18) (oi := ?oi18T6) (v := undef) ?oi0_18T6 (by as_aux_lemma => kernel_rfl) ?ff18T6 ?rr18T6 ?hq18T6 (Or.inr ⟨?hw18T6, rfl⟩) (by assumption) ?rest18T6
                    case oi0_18T6 =>
                      conv =>
                        lhs
                        whnf
                        arg 1
                        whnf
                    case hq18T6 => exact fun _ _ _ h => h
                    case ff18T6 => as_aux_lemma => kernel_rfl
                    case rr18T6 => as_aux_lemma => kernel_rfl
                    case hw18T6 => rfl
                    try simp only [Act.put, List.setIfInBounds_toArray, List.set_cons_zero, List.set_cons_succ]
                    refine wpAnyH_take (i := 19) (oi := ?oi19T6) (v := undef) ?oi0_19T6 (by as_aux_lemma => kernel_rfl) ?ff19T6 ?rr19T6 ?hq19T6 (Or.inr ⟨?hw19T6, rfl⟩) (by assumption) ?rest19T6
                    case oi0_19T6 =>
                      conv =>
                        lhs
                        whnf
                        arg 1
                        whnf
                    case hq19T6 => exact fun _ _ _ h => h
                    case ff19T6 => as_aux_lemma => kernel_rfl
                    case rr19T6 => as_aux_lemma => kernel_rfl
                    case hw19T6 => rfl
                    try simp only [Act.put, List.setIfInBounds_toArray, List.set_cons_zero, List.set_cons_succ]
                    refine wpAnyH_take (i := 20) (oi := ?oi20T6) (v := undef) ?oi0_20T6 (by as_aux_lemma => kernel_rfl) ?ff20T6 ?rr20T6 ?hq20T6 (Or.inr ⟨?hw20T6, rfl⟩) (by assumption) ?rest20T6
                    case oi0_20T6 =>
                      conv =>
                        lhs
                        whnf
                        arg 1
                        whnf
                    case hq20T6 => exact fun _ _ _ h => h
                    case ff20T6 => as_aux_lemma => kernel_rfl
                    case rr20T6 => as_aux_lemma => kernel_rfl
                    case hw20T6 => rfl
                    try simp only [Act.put, List.setIfInBounds_toArray, List.set_cons_zero, List.set_cons_succ]
                    refine wpAnyH_take (i := 21) (oi := ?oi21T6) (v := undef) ?oi0_21T6 (by as_aux_lemma => kernel_rfl) ?ff21T6 ?rr21T6 ?hq21T6 (Or.inr ⟨?hw21T6, rfl⟩) (by assumption) ?rest21T6
                    case oi0_21T6 =>
                      conv =>
                        lhs
                        whnf
                        arg 1
                        whnf
                    case hq21T6 => exact fun _ _ _ h => h
                    case ff21T6 => as_aux_lemma => kernel_rfl
                    case rr21T6 => as_aux_lemma => kernel_rfl
                    case hw21T6 => rfl
                    try simp only [Act.put, List.setIfInBounds_toArray, List.set_cons_zero, List.set_cons_succ]
                    refine wpAnyH_take (i := 22) (oi := ?oi22T6) (v := undef) ?oi0_22T6 (by as_aux_lemma => kernel_rfl) ?ff22T6 ?rr22T6 ?hq22T6 (Or.inr ⟨?hw22T6, rfl⟩) (by assumption) ?rest22T6
                    case oi0_22T6 =>
                      conv =>
                        lhs
                        whnf
                        arg 1
                        whnf
                    case hq22T6 => exact fun _ _ _ h => h
                    case ff22T6 => as_aux_lemma => kernel_rfl
                    case rr22T6 => as_aux_lemma => kernel_rfl
                    case hw22T6 => rfl
                    try simp only [Act.put, List.setIfInBounds_toArray, List.set_cons_zero, List.set_cons_succ]
                    refine wpAnyH_take (i := 23) (oi := ?oi23T6) (v := undef) ?oi0_23T6 (by as_aux_lemma => kernel_rfl) ?ff23T6 ?rr23T6 ?hq23T6 (Or.inr ⟨?hw23T6, rfl⟩) (by assumption) ?rest23T6
                    case oi0_23T6 =>
                      conv =>
                        lhs
                        whnf
                        arg 1
                        whnf
                    case hq23T6 => exact fun _ _ _ h => h
                    case ff23T6 => as_aux_lemma => kernel_rfl
                    case rr23T6 => as_aux_lemma => kernel_rfl
                    case hw23T6 => rfl
                    try simp only [Act.put, List.setIfInBounds_toArray, List.set_cons_zero, List.set_cons_succ]
                    refine wpAnyH_take (i := 25) (oi := ?oi25T6) (v := undef) ?oi0_25T6 (by as_aux_lemma => kernel_rfl) ?ff25T6 ?rr25T6 ?hq25T6 (Or.inr ⟨?hw25T6, rfl⟩) (by assumption) ?rest25T6
                    case oi0_25T6 =>
                      conv =>
                        lhs
                        whnf
                        arg 1
                        whnf
                    case hq25T6 => exact fun _ _ _ h => h
                    case ff25T6 => as_aux_lemma => kernel_rfl
                    case rr25T6 => as_aux_lemma => kernel_rfl
                    case hw25T6 => rfl
                    try simp only [Act.put, List.setIfInBounds_toArray, List.set_cons_zero, List.set_cons_succ]
                    refine wpAnyH_take (i := 26) (oi := ?oi26T6) (v := undef) ?oi0_26T6 (by as_aux_lemma => kernel_rfl) ?ff26T6 ?rr26T6 ?hq26T6 (Or.inr ⟨?hw26T6, rfl⟩) (by assumption) ?rest26T6
                    case oi0_26T6 =>
                      conv =>
                        lhs
                        whnf
                        arg 1
                        whnf
                    case hq26T6 => exact fun _ _ _ h => h
                    case ff26T6 => as_aux_lemma => kernel_rfl
                    case rr26T6 => as_aux_lemma => kernel_rfl
                    case hw26T6 => rfl
                    try simp only [Act.put, List.setIfInBounds_toArray, List.set_cons_zero, List.set_cons_succ]
                    refine wpAnyH_take (i := 27) (oi := ?oi27T6) (v := undef) ?oi0_27T6 (by as_aux_lemma => kernel_rfl) ?ff27T6 ?rr27T6 ?hq27T6 (Or.inr ⟨?hw27T6, rfl⟩) (by assumption) ?rest27T6
                    case oi0_27T6 =>
                      conv =>
                        lhs
                        whnf
                        arg 1
                        whnf
                    case hq27T6 => exact fun _ _ _ h => h
                    case ff27T6 => as_aux_lemma => kernel_rfl
                    case rr27T6 => as_aux_lemma => kernel_rfl
                    case hw27T6 => rfl
                    try simp only [Act.put, List.setIfInBounds_toArray, List.set_cons_zero, List.set_cons_succ]
                    refine wpAnyH_take (i := 28) (oi := ?oi28T6) (v := undef) ?oi0_28T6 (by as_aux_lemma => kernel_rfl) ?ff28T6 ?rr28T6 ?hq28T6 (Or.inr ⟨?hw28T6, rfl⟩) (by assumption) ?rest28T6
                    case oi0_28T6 =>
                      conv =>
                        lhs
                        whnf
                        arg 1
                        whnf
                    case hq28T6 => exact fun _ _ _ h => h
                    case ff28T6 => as_aux_lemma => kernel_rfl
                    case rr28T6 => as_aux_lemma => kernel_rfl
                    case hw28T6 => rfl
                    try simp only [Act.put, List.setIfInBounds_toArray, List.set_cons_zero, List.set_cons_succ]
                    refine wpAnyH_take (i := 29) (oi := ?oi29T6) (v := undef) ?oi0_29T6 (by as_aux_lemma => kernel_rfl) ?ff29T6 ?rr29T6 ?hq29T6 (Or.inr ⟨?hw29T6, rfl⟩) (by assumption) ?rest29T6
                    case oi0_29T6 =>
                      conv =>
                        lhs
                        whnf
                        arg 1
                        whnf
                    case hq29T6 => exact fun _ _ _ h => h
                    case ff29T6 => as_aux_lemma => kernel_rfl
                    case rr29T6 => as_aux_lemma => kernel_rfl
                    case hw29T6 => rfl
                    try simp only [Act.put, List.setIfInBounds_toArray, List.set_cons_zero, List.set_cons_succ]
                    refine wpAnyH_take (i := 30) (oi := ?oi30T6) (v := undef) ?oi0_30T6 (by as_aux_lemma => kernel_rfl) ?ff30T6 ?rr30T6 ?hq30T6 (Or.inr ⟨?hw30T6, rfl⟩) (by assumption) ?rest30T6
                    case oi0_30T6 =>
                      conv =>
                        lhs
                        whnf
                        arg 1
                        whnf
                    case hq30T6 => exact fun _ _ _ h => h
                    case ff30T6 => as_aux_lemma => kernel_rfl
                    case rr30T6 => as_aux_lemma => kernel_rfl
                    case hw30T6 => rfl
                    try simp only [Act.put, List.setIfInBounds_toArray, List.set_cons_zero, List.set_cons_succ]
                    refine wpAnyH_take (i := 31) (oi := ?oi31T6) (v := undef) ?oi0_31T6 (by as_aux_lemma => kernel_rfl) ?ff31T6 ?rr31T6 ?hq31T6 (Or.inr ⟨?hw31T6, rfl⟩) (by assumption) ?rest31T6
                    case oi0_31T6 =>
                      conv =>
                        lhs
                        whnf
                        arg 1
                        whnf
                    case hq31T6 => exact fun _ _ _ h => h
                    case ff31T6 => as_aux_lemma => kernel_rfl
                    case rr31T6 => as_aux_lemma => kernel_rfl
                    case hw31T6 => rfl
                    try simp only [Act.put, List.setIfInBounds_toArray, List.set_cons_zero, List.set_cons_succ]
                    refine wpAnyH_take (i := 32) (oi := ?oi32T6) (v := undef) ?oi0_32T6 (by as_aux_lemma => kernel_rfl) ?ff32T6 ?rr32T6 ?hq32T6 (Or.inr ⟨?hw32T6, rfl⟩) (by assumption) ?rest32T6
                    case oi0_32T6 =>
                      conv =>
                        lhs
                        whnf
                        arg 1
                        whnf
                    case hq32T6 => exact fun _ _ _ h => h
                    case ff32T6 => as_aux_lemma => kernel_rfl
                    case rr32T6 => as_aux_lemma => kernel_rfl
                    case hw32T6 => rfl
                    try simp only [Act.put, List.setIfInBounds_toArray, List.set_cons_zero, List.set_cons_succ]
                    refine wpAnyH_take (i := 33) (oi := ?oi33T6) (v := undef) ?oi0_33T6 (by as_aux_lemma => kernel_rfl) ?ff33T6 ?rr33T6 ?hq33T6 (Or.inr ⟨?hw33T6, rfl⟩) (by assumption) ?rest33T6
                    case oi0_33T6 =>
                      conv =>
                        lhs
                        whnf
                        arg 1
                        whnf
                    case hq33T6 => exact fun _ _ _ h => h
                    case ff33T6 => as_aux_lemma => kernel_rfl
                    case rr33T6 => as_aux_lemma => kernel_rfl
                    case hw33T6 => rfl
                    try simp only [Act.put, List.setIfInBounds_toArray, List.set_cons_zero, List.set_cons_succ]
                    refine wpAnyH_take (i := 34) (oi := ?oi34T6) (v := undef) ?oi0_34T6 (by as_aux_lemma => kernel_rfl) ?ff34T6 ?rr34T6 ?hq34T6 (Or.inr ⟨?hw34T6, rfl⟩) (by assumption) ?rest34T6
                    case oi0_34T6 =>
                      conv =>
                        lhs
                        whnf
                        arg 1
                        whnf
                    case hq34T6 => exact fun _ _ _ h => h
                    case ff34T6 => as_aux_lemma => kernel_rfl
                    case rr34T6 => as_aux_lemma => kernel_rfl
                    case hw34T6 => rfl
                    try simp only [Act.put, List.setIfInBounds_toArray, List.set_cons_zero, List.set_cons_succ]
                    refine wpAnyH_take (i := 36) (oi := ?oi36T6) (v := undef) ?oi0_36T6 (by as_aux_lemma => kernel_rfl) ?ff36T6 ?rr36T6 ?hq36T6 (Or.inr ⟨?hw36T6, rfl⟩) (by assumption) ?rest36T6
                    case oi0_36T6 =>
                      conv =>
                        lhs
                        whnf
                        arg 1
                        whnf
                    case hq36T6 => exact fun _ _ _ h => h
                    case ff36T6 => as_aux_lemma => kernel_rfl
                    case rr36T6 => as_aux_lemma => kernel_rfl
                    case hw36T6 => rfl
                    try simp only [Act.put, List.setIfInBounds_toArray, List.set_cons_zero, List.set_cons_succ]
                    refine wpAnyH_take (i := 37) (oi := ?oi37T6) (v := undef) ?oi0_37T6 (by as_aux_lemma => kernel_rfl) ?ff37T6 ?rr37T6 ?hq37T6 (Or.inr ⟨?hw37T6, rfl⟩) (by assumption) ?rest37T6
                    case oi0_37T6 =>
                      conv =>
                        lhs
                        whnf
                        arg 1
                        whnf
                    case hq37T6 => exact fun _ _ _ h => h
                    case ff37T6 => as_aux_lemma => kernel_rfl
                    case rr37T6 => as_aux_lemma => kernel_rfl
                    case hw37T6 => rfl
                    try simp only [Act.put, List.setIfInBounds_toArray, List.set_cons_zero, List.set_cons_succ]
                    refine wpAnyH_take (i := 38) (oi := ?oi38T6) (v := undef) ?oi0_38T6 (by as_aux_lemma => kernel_rfl) ?ff38T6 ?rr38T6 ?hq38T6 (Or.inr ⟨?hw38T6, rfl⟩) (by assumption) ?rest38T6
                    case oi0_38T6 =>
                      conv =>
                        lhs
                        whnf
                        arg 1
                        whnf
                    case hq38T6 => exact fun _ _ _ h => h
                    case ff38T6 => as_aux_lemma => kernel_rfl
                    case rr38T6 => as_aux_lemma => kernel_rfl
                    case hw38T6 => rfl
                    try simp only [Act.put, List.setIfInBounds_toArray, List.set_cons_zero, List.set_cons_succ]
                    refine wpAnyH_take (i := 39) (oi := ?oi39T6) (v := undef) ?oi0_39T6 (by as_aux_lemma => kernel_rfl) ?ff39T6 ?rr39T6 ?hq39T6 (Or.inr ⟨?hw39T6, rfl⟩) (by assumption) ?rest39T6
                    case oi0_39T6 =>
                      conv =>
                        lhs
                        whnf
                        arg 1
                        whnf
                    case hq39T6 => exact fun _ _ _ h => h
                    case ff39T6 => as_aux_lemma => kernel_rfl
                    case rr39T6 => as_aux_lemma => kernel_rfl
                    case hw39T6 => rfl
                    try simp only [Act.put, List.setIfInBounds_toArray, List.set_cons_zero, List.set_cons_succ]
                    refine wpAnyH_take (i := 40) (oi := ?oi40T6) (v := undef) ?oi0_40T6 (by as_aux_lemma => kernel_rfl) ?ff40T6 ?rr40T6 ?hq40T6 (Or.inr ⟨?hw40T6, rfl⟩) (by assumption) ?rest40T6
                    case oi0_40T6 =>
                      conv =>
                        lhs
                        whnf
                        arg 1
                        whnf
                    case hq40T6 => exact fun _ _ _ h => h
                    case ff40T6 => as_aux_lemma => kernel_rfl
                    case rr40T6 => as_aux_lemma => kernel_rfl
                    case hw40T6 => rfl
                    try simp only [Act.put, List.setIfInBounds_toArray, List.set_cons_zero, List.set_cons_succ]
                    refine wpAnyH_take (i := 41) (oi := ?oi41T6) (v := undef) ?oi0_41T6 (by as_aux_lemma => kernel_rfl) ?ff41T6 ?rr41T6 ?hq41T6 (Or.inr ⟨?hw41T6, rfl⟩) (by assumption) ?rest41T6
                    case oi0_41T6 =>
                      conv =>
                        lhs
                        whnf
                        arg 1
                        whnf
                    case hq41T6 => exact fun _ _ _ h => h
                    case ff41T6 => as_aux_lemma => kernel_rfl
                    case rr41T6 => as_aux_lemma => kernel_rfl
                    case hw41T6 => rfl
                    try simp only [Act.put, List.setIfInBounds_toArray, List.set_cons_zero, List.set_cons_succ]
                    refine wpAnyH_take (i := 42) (oi := ?oi42T6) (v := undef) ?oi0_42T6 (by as_aux_lemma => kernel_rfl) ?ff42T6 ?rr42T6 ?hq42T6 (Or.inr ⟨?hw42T6, rfl⟩) (by assumption) ?rest42T6
                    case oi0_42T6 =>
                      conv =>
                        lhs
                        whnf
                        arg 1
                        whnf
                    case hq42T6 => exact fun _ _ _ h => h
                    case ff42T6 => as_aux_lemma => kernel_rfl
                    case rr42T6 => as_aux_lemma => kernel_rfl
                    case hw42T6 => rfl
                    try simp only [Act.put, List.setIfInBounds_toArray, List.set_cons_zero, List.set_cons_succ]
                    refine wpAnyH_ready (rs := [24]) (by as_aux_lemma => kernel_rfl) (by simp) (AllReadyH.cons (o := ?oi24T6) ?oi0_24T6 (fun K hK => ?_) AllReadyH.nil)
                    case oi0_24T6 =>
                      conv =>
                        lhs
                        whnf
                        arg 1
                        whnf
                    rw [if_neg (by first | (simp [Region.wanted, yielded]; done) | (simp [Region.wanted, yielded]; exact fun h => nomatch (show (none : Option Bool) = some true from h)))]
                    refine hK.out _ _ (by assumption) (fun _ => ?_)
                    clear hK K
                    try simp only [Act.put, List.setIfInBounds_toArray, List.set_cons_zero, List.set_cons_succ]
                    refine wpAnyH_take (i := 35) (oi := ?oi35T6) (v := undef) ?oi0_35T6 (by as_aux_lemma => kernel_rfl) ?ff35T6 ?rr35T6 ?hq35T6 (Or.inr ⟨?hw35T6, rfl⟩) (by assumption) ?rest35T6
                    case oi0_35T6 =>
                      conv =>
                        lhs
                        whnf
                        arg 1
                        whnf
                    case hq35T6 => exact fun _ _ _ h => h
                    case ff35T6 => as_aux_lemma => kernel_rfl
                    case rr35T6 => as_aux_lemma => kernel_rfl
                    case hw35T6 => rfl
                    try simp only [Act.put, List.setIfInBounds_toArray, List.set_cons_zero, List.set_cons_succ]
                    refine wpAnyH_take (i := 43) (oi := ?oi43T6) (v := undef) ?oi0_43T6 (by as_aux_lemma => kernel_rfl) ?ff43T6 ?rr43T6 ?hq43T6 (Or.inr ⟨?hw43T6, rfl⟩) (by assumption) ?rest43T6
                    case oi0_43T6 =>
                      conv =>
                        lhs
                        whnf
                        arg 1
                        whnf
                    case hq43T6 => exact fun _ _ _ h => h
                    case ff43T6 => as_aux_lemma => kernel_rfl
                    case rr43T6 => as_aux_lemma => kernel_rfl
                    case hw43T6 => rfl
                    try simp only [Act.put, List.setIfInBounds_toArray, List.set_cons_zero, List.set_cons_succ]
                    refine wpAnyH_take (i := 44) (oi := ?oi44T6) (v := ?v44T6) ?oi0_44T6 (by as_aux_lemma => kernel_rfl) ?ff44T6 ?rr44T6 ?hq44T6 (Or.inl ⟨?hw44T6, ?hy44T6⟩) (by assumption) ?rest44T6
                    case oi0_44T6 =>
                      conv =>
                        lhs
                        whnf
                        arg 1
                        whnf
                    case hq44T6 => exact fun _ _ _ h => h
                    case ff44T6 => as_aux_lemma => kernel_rfl
                    case rr44T6 => as_aux_lemma => kernel_rfl
                    case hw44T6 => rfl
                    case hy44T6 =>
                      intro w hSw
                      (try dsimp only at hSw)
                      first
                      | (go_simp; done)
                      | (go_simp; with_reducible rfl)
                    try simp only [Act.put, List.setIfInBounds_toArray, List.set_cons_zero, List.set_cons_succ]
                    refine wpAnyH_done (by as_aux_lemma => kernel_rfl) ?_ _
                    go_wp2_with fail
                    go_roundw
                    case rel => exact ⟨q + 1, -1, by omega, by go_num, by go_num, .inl ⟨rfl, HN.out⟩, own_kept hrow.out ((Upd.refl [] wq).drew) (by simp), hv.out.drew⟩
                    case measure => simp [intOf] <;> omega
                · have hyl2 : (y : Int) < 3601 := by omega
                  have hyl3 : (y : Int) ≤ 3600 := by omega
                  have g3 := (HBI.out wq hv.out).1
                  have g4 := (HBI.out wq hv.out).2
                  have g5 := (HB1.out wq hv.out).1
                  have g6 := (HB1.out wq hv.out).2 y (by omega)
                  by_cases hl2 : leastS (tn : Int) (l.drop i1) (y : Int) < never
                  · rw [show encL (leastS (tn : Int) (l.drop i1) (y : Int)) = leastS (tn : Int) (l.drop i1) (y : Int) from if_pos hl2] at g6
                    have hlb := least_small (fun p hp => HV.out.2.2 p (List.mem_of_mem_drop hp)) (by have := HV.out.1; rw [List.length_drop]; omega) hl2
                    obtain ⟨lv, hlve⟩ : ∃ lv, leastS (tn : Int) (l.drop i1) (y : Int) = lv := ⟨_, rfl⟩
                    rw [hlve] at g6 hlb
                    have HST := hide (show decide (aw + lv = lvi) = false → _ from fun h => HSTEP.out (by rw [hlve, EW.out]; exact h))
                    obtain ⟨hl3, hl4⟩ := hlb
                    obtain ⟨cv, hcv⟩ : ∃ cv, aw + lv = cv := ⟨_, rfl⟩
                    have hwc : IntKind.i64.wrap (aw + lv) = cv := by rw [Go.IntWalk.i64_in _ (by omega)]; exact hcv
                    have HCV := hide hcv
                    have HLVE := hide hlve
                    have hlv0 : decide (0 ≤ lv) = true := decide_eq_true hl3
                    clear hl2 hlve hcv
                    by_cases hcl : cv = lvi
                    · have HZN := hide (show nn = z by
                        have h1 := find_at (P := fun n => decide (awayS n p.want + leastS (tn : Int) (l.drop i1) ((sn : Int) + n) = lvi)) HZQ.out (by rw [HY.out]; exact decide_eq_true (by rw [HLVE.out, EW.out, HCV.out]; exact hcl)) HNO.out
                        have h2 := HF.out
                        rw [h1] at h2
                        simpa using h2.symm)
                      obtain rfl : lvi = cv := hcl.symm
                      as_aux_lemma =>
                        go_wp2_with fail
                        refine wp_region_held_drew (S := (fun w' => w'.cell? ⟨b, o + i * 3 + 1, none⟩ = some (.int .i64 p.want) ∧ w'.cell? ⟨T, i1, none⟩ = some (.slice (some ⟨B1, 0, none⟩) 3601 3601) ∧ w'.cell? ⟨B1, y, none⟩ = some (.int .i64 lv) ∧ w'.cell? ⟨T, i, none⟩ = some (.slice (some ⟨Bi, 0, none⟩) 3601 3601) ∧ w'.cell? ⟨Bi, sn, none⟩ = some (.int .i64 lvi))) (by as_aux_lemma => kernel_rfl) (by exact ⟨g2, g5, g6, g3, g4⟩) (fun hHeld => ?_)
                        refine wpAnyH_take (i := 0) (oi := ?oi0T8) (v := ?v0T8) ?oi0_0T8 (by as_aux_lemma => kernel_rfl) ?ff0T8 ?rr0T8 ?hq0T8 (Or.inl ⟨?hw0T8, ?hy0T8⟩) (by assumption) ?rest0T8
                        case oi0_0T8 =>
                          conv =>
                            lhs
                            whnf
                            arg 1
                            whnf
                        case hq0T8 => exact fun _ _ _ h => h
                        case ff0T8 => as_aux_lemma => kernel_rfl
                        case rr0T8 => as_aux_lemma => kernel_rfl
                        case hw0T8 => rfl
                        case hy0T8 =>
                          intro w hSw
                          (try dsimp only at hSw)
                          first
                          | (go_simp; done)
                          | (go_simp; with_reducible rfl)
                        try simp only [Act.put, List.setIfInBounds_toArray, List.set_cons_zero, List.set_cons_succ]
                        refine wpAnyH_take (i := 1) (oi := ?oi1T8) (v := ?v1T8) ?oi0_1T8 (by as_aux_lemma => kernel_rfl) ?ff1T8 ?rr1T8 ?hq1T8 (Or.inl ⟨?hw1T8, ?hy1T8⟩) (by assumption) ?rest1T8
                        case oi0_1T8 =>
                          conv =>
                            lhs
                            whnf
                            arg 1
                            whnf
                        case hq1T8 => exact fun _ _ _ h => h
                        case ff1T8 => as_aux_lemma => kernel_rfl
                        case rr1T8 => as_aux_lemma => kernel_rfl
                        case hw1T8 => rfl
                        case hy1T8 =>
                          intro w hSw
                          (try dsimp only at hSw)
                          first
                          | (go_simp; done)
                          | (go_simp; with_reducible rfl)
                        try simp only [Act.put, List.setIfInBounds_toArray, List.set_cons_zero, List.set_cons_succ]
                        refine wpAnyH_take (i := 2) (oi := ?oi2T8) (v := ?v2T8) ?oi0_2T8 (by as_aux_lemma => kernel_rfl) ?ff2T8 ?rr2T8 ?hq2T8 (Or.inl ⟨?hw2T8, ?hy2T8⟩) (by assumption) ?rest2T8
                        case oi0_2T8 =>
                          conv =>
                            lhs
                            whnf
                            arg 1
                            whnf
                        case hq2T8 => exact fun _ _ _ h => h
                        case ff2T8 => as_aux_lemma => kernel_rfl
                        case rr2T8 => as_aux_lemma => kernel_rfl
                        case hw2T8 => rfl
                        case hy2T8 =>
                          intro w hSw
                          (try dsimp only at hSw)
                          first
                          | (go_simp; done)
                          | (go_simp; with_reducible rfl)
                        try simp only [Act.put, List.setIfInBounds_toArray, List.set_cons_zero, List.set_cons_succ]
                        refine wpAnyH_take (i := 3) (oi := ?oi3T8) (v := ?v3T8) ?oi0_3T8 (by as_aux_lemma => kernel_rfl) ?ff3T8 ?rr3T8 ?hq3T8 (Or.inl ⟨?hw3T8, ?hy3T8⟩) (by assumption) ?rest3T8
                        case oi0_3T8 =>
                          conv =>
                            lhs
                            whnf
                            arg 1
                            whnf
                        case hq3T8 => exact fun _ _ _ h => h
                        case ff3T8 => as_aux_lemma => kernel_rfl
                        case rr3T8 => as_aux_lemma => kernel_rfl
                        case hw3T8 => rfl
                        case hy3T8 =>
                          intro w hSw
                          (try dsimp only at hSw)
                          first
                          | (go_simp; done)
                          | (go_simp; with_reducible rfl)
                        try simp only [Act.put, List.setIfInBounds_toArray, List.set_cons_zero, List.set_cons_succ]
                        refine wpAnyH_take (i := 4) (oi := ?oi4T8) (v := ?v4T8) ?oi0_4T8 (by as_aux_lemma => kernel_rfl) ?ff4T8 ?rr4T8 ?hq4T8 (Or.inl ⟨?hw4T8, ?hy4T8⟩) (by assumption) ?rest4T8
                        case oi0_4T8 =>
                          conv =>
                            lhs
                            whnf
                            arg 1
                            whnf
                        case hq4T8 => exact fun _ _ _ h => h
                        case ff4T8 => as_aux_lemma => kernel_rfl
                        case rr4T8 => as_aux_lemma => kernel_rfl
                        case hw4T8 => rfl
                        case hy4T8 =>
                          intro w hSw
                          (try dsimp only at hSw)
                          first
                          | (go_simp; done)
                          | (go_simp; with_reducible rfl)
                        try simp only [Act.put, List.setIfInBounds_toArray, List.set_cons_zero, List.set_cons_succ]
                        refine wpAnyH_take (i := 5) (oi := ?oi5T8) (v := ?v5T8) ?oi0_5T8 (by as_aux_lemma => kernel_rfl) ?ff5T8 ?rr5T8 ?hq5T8 (Or.inl ⟨?hw5T8, ?hy5T8⟩) (by assumption) ?rest5T8
                        case oi0_5T8 =>
                          conv =>
                            lhs
                            whnf
                            arg 1
                            whnf
                        case hq5T8 => exact fun _ _ _ h => h
                        case ff5T8 => as_aux_lemma => kernel_rfl
                        case rr5T8 => as_aux_lemma => kernel_rfl
                        case hw5T8 => rfl
                        case hy5T8 =>
                          intro w hSw
                          (try dsimp only at hSw)
                          first
                          | (go_simp; done)
                          | (go_simp; with_reducible rfl)
                        try simp only [Act.put, List.setIfInBounds_toArray, List.set_cons_zero, List.set_cons_succ]
                        refine wpAnyH_take (i := 6) (oi := ?oi6T8) (v := ?v6T8) ?oi0_6T8 (by as_aux_lemma => kernel_rfl) ?ff6T8 ?rr6T8 ?hq6T8 (Or.inl ⟨?hw6T8, ?hy6T8⟩) (by assumption) ?rest6T8
                        case oi0_6T8 =>
                          conv =>
                            lhs
                            whnf
                            arg 1
                            whnf
                        case hq6T8 => exact fun _ _ _ h => h
                        case ff6T8 => as_aux_lemma => kernel_rfl
                        case rr6T8 => as_aux_lemma => kernel_rfl
                        case hw6T8 => rfl
                        case hy6T8 =>
                          intro w hSw
                          (try dsimp only at hSw)
                          first
                          | (go_simp; done)
                          | (go_simp; with_reducible rfl)
                        try simp only [Act.put, List.setIfInBounds_toArray, List.set_cons_zero, List.set_cons_succ]
                        refine wpAnyH_take (i := 7) (oi := ?oi7T8) (v := ?v7T8) ?oi0_7T8 (by as_aux_lemma => kernel_rfl) ?ff7T8 ?rr7T8 ?hq7T8 (Or.inl ⟨?hw7T8, ?hy7T8⟩) (by assumption) ?rest7T8
                        case oi0_7T8 =>
                          conv =>
                            lhs
                            whnf
                            arg 1
                            whnf
                        case hq7T8 => exact fun _ _ _ h => h
                        case ff7T8 => as_aux_lemma => kernel_rfl
                        case rr7T8 => as_aux_lemma => kernel_rfl
                        case hw7T8 => rfl
                        case hy7T8 =>
                          intro w hSw
                          (try dsimp only at hSw)
                          first
                          | (go_simp; done)
                          | (go_simp; with_reducible rfl)
                        try simp only [Act.put, List.setIfInBounds_toArray, List.set_cons_zero, List.set_cons_succ]
                        refine wpAnyH_take (i := 8) (oi := ?oi8T8) (v := ?v8T8) ?oi0_8T8 (by as_aux_lemma => kernel_rfl) ?ff8T8 ?rr8T8 ?hq8T8 (Or.inl ⟨?hw8T8, ?hy8T8⟩) (by assumption) ?rest8T8
                        case oi0_8T8 =>
                          conv =>
                            lhs
                            whnf
                            arg 1
                            whnf
                        case hq8T8 => exact fun _ _ _ h => h
                        case ff8T8 => as_aux_lemma => kernel_rfl
                        case rr8T8 => as_aux_lemma => kernel_rfl
                        case hw8T8 => rfl
                        case hy8T8 =>
                          intro w hSw
                          (try dsimp only at hSw)
                          first
                          | (go_simp; done)
                          | (go_simp; with_reducible rfl)
                        try simp only [Act.put, List.setIfInBounds_toArray, List.set_cons_zero, List.set_cons_succ]
                        refine wpAnyH_take (i := 9) (oi := ?oi9T8) (v := ?v9T8) ?oi0_9T8 (by as_aux_lemma => kernel_rfl) ?ff9T8 ?rr9T8 ?hq9T8 (Or.inl ⟨?hw9T8, ?hy9T8⟩) (by assumption) ?rest9T8
                        case oi0_9T8 =>
                          conv =>
                            lhs
                            whnf
                            arg 1
                            whnf
                        case hq9T8 => exact fun _ _ _ h => h
                        case ff9T8 => as_aux_lemma => kernel_rfl
                        case rr9T8 => as_aux_lemma => kernel_rfl
                        case hw9T8 => rfl
                        case hy9T8 =>
                          intro w hSw
                          (try dsimp only at hSw)
                          first
                          | (go_simp; done)
                          | (go_simp; with_reducible rfl)
                        try simp only [Act.put, List.setIfInBounds_toArray, List.set_cons_zero, List.set_cons_succ]
                        refine wpAnyH_take (i := 10) (oi := ?oi10T8) (v := ?v10T8) ?oi0_10T8 (by as_aux_lemma => kernel_rfl) ?ff10T8 ?rr10T8 ?hq10T8 (Or.inl ⟨?hw10T8, ?hy10T8⟩) (by assumption) ?rest10T8
                        case oi0_10T8 =>
                          conv =>
                            lhs
                            whnf
                            arg 1
                            whnf
                        case hq10T8 => exact fun _ _ _ h => h
                        case ff10T8 => as_aux_lemma => kernel_rfl
                        case rr10T8 => as_aux_lemma => kernel_rfl
                        case hw10T8 => rfl
                        case hy10T8 =>
                          intro w hSw
                          (try dsimp only at hSw)
                          first
                          | (go_simp; done)
                          | (go_simp; with_reducible rfl)
                        try simp only [Act.put, List.setIfInBounds_toArray, List.set_cons_zero, List.set_cons_succ]
                        refine wpAnyH_take (i := 11) (oi := ?oi11T8) (v := ?v11T8) ?oi0_11T8 (by as_aux_lemma => kernel_rfl) ?ff11T8 ?rr11T8 ?hq11T8 (Or.inl ⟨?hw11T8, ?hy11T8⟩) (by assumption) ?rest11T8
                        case oi0_11T8 =>
                          conv =>
                            lhs
                            whnf
                            arg 1
                            whnf
                        case hq11T8 => exact fun _ _ _ h => h
                        case ff11T8 => as_aux_lemma => kernel_rfl
                        case rr11T8 => as_aux_lemma => kernel_rfl
                        case hw11T8 => rfl
                        case hy11T8 =>
                          intro w hSw
                          (try dsimp only at hSw)
                          first
                          | (go_simp; done)
                          | (go_simp; with_reducible rfl)
                        try simp only [Act.put, List.setIfInBounds_toArray, List.set_cons_zero, List.set_cons_succ]
                        refine wpAnyH_take (i := 12) (oi := ?oi12T8) (v := ?v12T8) ?oi0_12T8 (by as_aux_lemma => kernel_rfl) ?ff12T8 ?rr12T8 ?hq12T8 (Or.inl ⟨?hw12T8, ?hy12T8⟩) (by assumption) ?rest12T8
                        case oi0_12T8 =>
                          conv =>
                            lhs
                            whnf
                            arg 1
                            whnf
                        case hq12T8 => exact fun _ _ _ h => h
                        case ff12T8 => as_aux_lemma => kernel_rfl
                        case rr12T8 => as_aux_lemma => kernel_rfl
                        case hw12T8 => rfl
                        case hy12T8 =>
                          intro w hSw
                          (try dsimp only at hSw)
                          first
                          | (go_simp; done)
                          | (go_simp; with_reducible rfl)
                        try simp only [Act.put, List.setIfInBounds_toArray, List.set_cons_zero, List.set_cons_succ]
                        refine wpAnyH_take (i := 13) (oi := ?oi13T8) (v := ?v13T8) ?oi0_13T8 (by as_aux_lemma => kernel_rfl) ?ff13T8 ?rr13T8 ?hq13T8 (Or.inl ⟨?hw13T8, ?hy13T8⟩) (by assumption) ?rest13T8
                        case oi0_13T8 =>
                          conv =>
                            lhs
                            whnf
                            arg 1
                            whnf
                        case hq13T8 => exact fun _ _ _ h => h
                        case ff13T8 => as_aux_lemma => kernel_rfl
                        case rr13T8 => as_aux_lemma => kernel_rfl
                        case hw13T8 => rfl
                        case hy13T8 =>
                          intro w hSw
                          (try dsimp only at hSw)
                          first
                          | (go_simp; done)
                          | (go_simp; with_reducible rfl)
                        try simp only [Act.put, List.setIfInBounds_toArray, List.set_cons_zero, List.set_cons_succ]
                        refine wpAnyH_take (i := 14) (oi := ?oi14T8) (v := ?v14T8) ?oi0_14T8 (by as_aux_lemma => kernel_rfl) ?ff14T8 ?rr14T8 ?hq14T8 (Or.inl ⟨?hw14T8, ?hy14T8⟩) (by assumption) ?rest14T8
                        case oi0_14T8 =>
                          conv =>
                            lhs
                            whnf
                            arg 1
                            whnf
                        case hq14T8 => exact fun _ _ _ h => h
                        case ff14T8 => as_aux_lemma => kernel_rfl
                        case rr14T8 => as_aux_lemma => kernel_rfl
                        case hw14T8 => rfl
                        case hy14T8 =>
                          intro w hSw
                          (try dsimp only at hSw)
                          first
                          | (go_simp; done)
                          | (go_simp; with_reducible rfl)
                        try simp only [Act.put, List.setIfInBounds_toArray, List.set_cons_zero, List.set_cons_succ]
                        refine wpAnyH_take (i := 15) (oi := ?oi15T8) (v := ?v15T8) ?oi0_15T8 (by as_aux_lemma => kernel_rfl) ?ff15T8 ?rr15T8 ?hq15T8 (Or.inl ⟨?hw15T8, ?hy15T8⟩) (by assumption) ?rest15T8
                        case oi0_15T8 =>
                          conv =>
                            lhs
                            whnf
                            arg 1
                            whnf
                        case hq15T8 => exact fun _ _ _ h => h
                        case ff15T8 => as_aux_lemma => kernel_rfl
                        case rr15T8 => as_aux_lemma => kernel_rfl
                        case hw15T8 => rfl
                        case hy15T8 =>
                          intro w hSw
                          (try dsimp only at hSw)
                          first
                          | (go_simp; done)
                          | (go_simp; with_reducible rfl)
                        try simp only [Act.put, List.setIfInBounds_toArray, List.set_cons_zero, List.set_cons_succ]
                        refine wpAnyH_take (i := 16) (oi := ?oi16T8) (v := ?v16T8) ?oi0_16T8 (by as_aux_lemma => kernel_rfl) ?ff16T8 ?rr16T8 ?hq16T8 (Or.inl ⟨?hw16T8, ?hy16T8⟩) (by assumption) ?rest16T8
                        case oi0_16T8 =>
                          conv =>
                            lhs
                            whnf
                            arg 1
                            whnf
                        case hq16T8 => exact fun _ _ _ h => h
                        case ff16T8 => as_aux_lemma => kernel_rfl
                        case rr16T8 => as_aux_lemma => kernel_rfl
                        case hw16T8 => rfl
                        case hy16T8 =>
                          intro w hSw
                          (try dsimp only at hSw)
                          first
                          | (go_simp; done)
                          | (go_simp; with_reducible rfl)
                        try simp only [Act.put, List.setIfInBounds_toArray, List.set_cons_zero, List.set_cons_succ]
                        refine wpAnyH_take (i := 17) (oi := ?oi17T8) (v := ?v17T8) ?oi0_17T8 (by as_aux_lemma => kernel_rfl) ?ff17T8 ?rr17T8 ?hq17T8 (Or.inl ⟨?hw17T8, ?hy17T8⟩) (by assumption) ?rest17T8
                        case oi0_17T8 =>
                          conv =>
                            lhs
                            whnf
                            arg 1
                            whnf
                        case hq17T8 => exact fun _ _ _ h => h
                        case ff17T8 => as_aux_lemma => kernel_rfl
                        case rr17T8 => as_aux_lemma => kernel_rfl
                        case hw17T8 => rfl
                        case hy17T8 =>
                          intro w hSw
                          (try dsimp only at hSw)
                          first
                          | (go_simp; done)
                          | (go_simp; with_reducible rfl)
                        try simp only [Act.put, List.setIfInBounds_toArray, List.set_cons_zero, List.set_cons_succ]
                        refine wpAnyH_take (i := 18) (oi := ?oi18T8) (v := ?v18T8) ?oi0_18T8 (by as_aux_lemma => kernel_rfl) ?ff18T8 ?rr18T8 ?hq18T8 (Or.inl ⟨?hw18T8, ?hy18T8⟩) (by assumption) ?rest18T8
                        case oi0_18T8 =>
                          conv =>
                            lhs
                            whnf
                            arg 1
                            whnf
                        case hq18T8 => exact fun _ _ _ h => h
                        case ff18T8 => as_aux_lemma => kernel_rfl
                        case rr18T8 => as_aux_lemma => kernel_rfl
                        case hw18T8 => rfl
                        case hy18T8 =>
                          intro w hSw
                          (try dsimp only at hSw)
                          first
                          | (go_simp; done)
                          | (go_simp; with_reducible rfl)
                        try simp only [Act.put, List.setIfInBounds_toArray, List.set_cons_zero, List.set_cons_succ]
                        refine wpAnyH_take (i := 19) (oi := ?oi19T8) (v := ?v19T8) ?oi0_19T8 (by as_aux_lemma => kernel_rfl) ?ff19T8 ?rr19T8 ?hq19T8 (Or.inl ⟨?hw19T8, ?hy19T8⟩) (by assumption) ?rest19T8
                        case oi0_19T8 =>
                          conv =>
                            lhs
                            whnf
                            arg 1
                            whnf
                        case hq19T8 => exact fun _ _ _ h => h
                        case ff19T8 => as_aux_lemma => kernel_rfl
                        case rr19T8 => as_aux_lemma => kernel_rfl
                        case hw19T8 => rfl
                        case hy19T8 =>
                          intro w hSw
                          (try dsimp only at hSw)
                          first
                          | (go_simp; done)
                          | (go_simp; with_reducible rfl)
                        try simp only [Act.put, List.setIfInBounds_toArray, List.set_cons_zero, List.set_cons_succ]
                        refine wpAnyH_take (i := 20) (oi := ?oi20T8) (v := ?v20T8) ?oi0_20T8 (by as_aux_lemma => kernel_rfl) ?ff20T8 ?rr20T8 ?hq20T8 (Or.inl ⟨?hw20T8, ?hy20T8⟩) (by assumption) ?rest20T8
                        case oi0_20T8 =>
                          conv =>
                            lhs
                            whnf
                            arg 1
                            whnf
                        case hq20T8 => exact fun _ _ _ h => h
                        case ff20T8 => as_aux_lemma => kernel_rfl
                        case rr20T8 => as_aux_lemma => kernel_rfl
                        case hw20T8 => rfl
                        case hy20T8 =>
                          intro w hSw
                          (try dsimp only at hSw)
                          first
                          | (go_simp; done)
                          | (go_simp; with_reducible rfl)
                        try simp only [Act.put, List.setIfInBounds_toArray, List.set_cons_zero, List.set_cons_succ]
                        refine wpAnyH_take (i := 21) (oi := ?oi21T8) (v := ?v21T8) ?oi0_21T8 (by as_aux_lemma => kernel_rfl) ?ff21T8 ?rr21T8 ?hq21T8 (Or.inl ⟨?hw21T8, ?hy21T8⟩) (by assumption) ?rest21T8
                        case oi0_21T8 =>
                          conv =>
                            lhs
                            whnf
                            arg 1
                            whnf
                        case hq21T8 => exact fun _ _ _ h => h
                        case ff21T8 => as_aux_lemma => kernel_rfl
                        case rr21T8 => as_aux_lemma => kernel_rfl
                        case hw21T8 => rfl
                        case hy21T8 =>
                          intro w hSw
                          (try dsimp only at hSw)
                          first
                          | (go_simp; done)
                          | (go_simp; with_reducible rfl)
                        try simp only [Act.put, List.setIfInBounds_toArray, List.set_cons_zero, List.set_cons_succ]
                        refine wpAnyH_take (i := 22) (oi := ?oi22T8) (v := ?v22T8) ?oi0_22T8 (by as_aux_lemma => kernel_rfl) ?ff22T8 ?rr22T8 ?hq22T8 (Or.inl ⟨?hw22T8, ?hy22T8⟩) (by assumption) ?rest22T8
                        case oi0_22T8 =>
                          conv =>
                            lhs
                            whnf
                            arg 1
                            whnf
                        case hq22T8 => exact fun _ _ _ h => h
                        case ff22T8 => as_aux_lemma => kernel_rfl
                        case rr22T8 => as_aux_lemma => kernel_rfl
                        case hw22T8 => rfl
                        case hy22T8 =>
                          intro w hSw
                          (try dsimp only at hSw)
                          first
                          | (go_simp; done)
                          | (go_simp; with_reducible rfl)
                        try simp only [Act.put, List.setIfInBounds_toArray, List.set_cons_zero, List.set_cons_succ]
                        refine wpAnyH_take (i := 23) (oi := ?oi23T8) (v := ?v23T8) ?oi0_23T8 (by as_aux_lemma => kernel_rfl) ?ff23T8 ?rr23T8 ?hq23T8 (Or.inl ⟨?hw23T8, ?hy23T8⟩) (by assumption) ?rest23T8
                        case oi0_23T8 =>
                          conv =>
                            lhs
                            whnf
                            arg 1
                            whnf
                        case hq23T8 => exact fun _ _ _ h => h
                        case ff23T8 => as_aux_lemma => kernel_rfl
                        case rr23T8 => as_aux_lemma => kernel_rfl
                        case hw23T8 => rfl
                        case hy23T8 =>
                          intro w hSw
                          (try dsimp only at hSw)
                          first
                          | (go_simp; done)
                          | (go_simp; with_reducible rfl)
                        try simp only [Act.put, List.setIfInBounds_toArray, List.set_cons_zero, List.set_cons_succ]
                        refine wpAnyH_take (i := 25) (oi := ?oi25T8) (v := ?v25T8) ?oi0_25T8 (by as_aux_lemma => kernel_rfl) ?ff25T8 ?rr25T8 ?hq25T8 (Or.inl ⟨?hw25T8, ?hy25T8⟩) (by assumption) ?rest25T8
                        case oi0_25T8 =>
                          conv =>
                            lhs
                            whnf
                            arg 1
                            whnf
                        case hq25T8 => exact fun _ _ _ h => h
                        case ff25T8 => as_aux_lemma => kernel_rfl
                        case rr25T8 => as_aux_lemma => kernel_rfl
                        case hw25T8 => rfl
                        case hy25T8 =>
                          intro w hSw
                          (try dsimp only at hSw)
                          first
                          | (go_simp; done)
                          | (go_simp; with_reducible rfl)
                        try simp only [Act.put, List.setIfInBounds_toArray, List.set_cons_zero, List.set_cons_succ]
                        refine wpAnyH_take (i := 26) (oi := ?oi26T8) (v := ?v26T8) ?oi0_26T8 (by as_aux_lemma => kernel_rfl) ?ff26T8 ?rr26T8 ?hq26T8 (Or.inl ⟨?hw26T8, ?hy26T8⟩) (by assumption) ?rest26T8
                        case oi0_26T8 =>
                          conv =>
                            lhs
                            whnf
                            arg 1
                            whnf
                        case hq26T8 => exact fun _ _ _ h => h
                        case ff26T8 => as_aux_lemma => kernel_rfl
                        case rr26T8 => as_aux_lemma => kernel_rfl
                        case hw26T8 => rfl
                        case hy26T8 =>
                          intro w hSw
                          (try dsimp only at hSw)
                          first
                          | (go_simp; done)
                          | (go_simp; with_reducible rfl)
                        try simp only [Act.put, List.setIfInBounds_toArray, List.set_cons_zero, List.set_cons_succ]
                        refine wpAnyH_take (i := 27) (oi := ?oi27T8) (v := ?v27T8) ?oi0_27T8 (by as_aux_lemma => kernel_rfl) ?ff27T8 ?rr27T8 ?hq27T8 (Or.inl ⟨?hw27T8, ?hy27T8⟩) (by assumption) ?rest27T8
                        case oi0_27T8 =>
                          conv =>
                            lhs
                            whnf
                            arg 1
                            whnf
                        case hq27T8 => exact fun _ _ _ h => h
                        case ff27T8 => as_aux_lemma => kernel_rfl
                        case rr27T8 => as_aux_lemma => kernel_rfl
                        case hw27T8 => rfl
                        case hy27T8 =>
                          intro w hSw
                          (try dsimp only at hSw)
                          first
                          | (go_simp; done)
                          | (go_simp; with_reducible rfl)
                        try simp only [Act.put, List.setIfInBounds_toArray, List.set_cons_zero, List.set_cons_succ]
                        refine wpAnyH_take (i := 28) (oi := ?oi28T8) (v := ?v28T8) ?oi0_28T8 (by as_aux_lemma => kernel_rfl) ?ff28T8 ?rr28T8 ?hq28T8 (Or.inl ⟨?hw28T8, ?hy28T8⟩) (by assumption) ?rest28T8
                        case oi0_28T8 =>
                          conv =>
                            lhs
                            whnf
                            arg 1
                            whnf
                        case hq28T8 => exact fun _ _ _ h => h
                        case ff28T8 => as_aux_lemma => kernel_rfl
                        case rr28T8 => as_aux_lemma => kernel_rfl
                        case hw28T8 => rfl
                        case hy28T8 =>
                          intro w hSw
                          (try dsimp only at hSw)
                          first
                          | (go_simp; done)
                          | (go_simp; with_reducible rfl)
                        try simp only [Act.put, List.setIfInBounds_toArray, List.set_cons_zero, List.set_cons_succ]
                        refine wpAnyH_take (i := 29) (oi := ?oi29T8) (v := ?v29T8) ?oi0_29T8 (by as_aux_lemma => kernel_rfl) ?ff29T8 ?rr29T8 ?hq29T8 (Or.inl ⟨?hw29T8, ?hy29T8⟩) (by assumption) ?rest29T8
                        case oi0_29T8 =>
                          conv =>
                            lhs
                            whnf
                            arg 1
                            whnf
                        case hq29T8 => exact fun _ _ _ h => h
                        case ff29T8 => as_aux_lemma => kernel_rfl
                        case rr29T8 => as_aux_lemma => kernel_rfl
                        case hw29T8 => rfl
                        case hy29T8 =>
                          intro w hSw
                          (try dsimp only at hSw)
                          first
                          | (go_simp; done)
                          | (go_simp; with_reducible rfl)
                        try simp only [Act.put, List.setIfInBounds_toArray, List.set_cons_zero, List.set_cons_succ]
                        refine wpAnyH_take (i := 30) (oi := ?oi30T8) (v := ?v30T8) ?oi0_30T8 (by as_aux_lemma => kernel_rfl) ?ff30T8 ?rr30T8 ?hq30T8 (Or.inl ⟨?hw30T8, ?hy30T8⟩) (by assumption) ?rest30T8
                        case oi0_30T8 =>
                          conv =>
                            lhs
                            whnf
                            arg 1
                            whnf
                        case hq30T8 => exact fun _ _ _ h => h
                        case ff30T8 => as_aux_lemma => kernel_rfl
                        case rr30T8 => as_aux_lemma => kernel_rfl
                        case hw30T8 => rfl
                        case hy30T8 =>
                          intro w hSw
                          (try dsimp only at hSw)
                          first
                          | (go_simp; done)
                          | (go_simp; with_reducible rfl)
                        try simp only [Act.put, List.setIfInBounds_toArray, List.set_cons_zero, List.set_cons_succ]
                        refine wpAnyH_take (i := 31) (oi := ?oi31T8) (v := ?v31T8) ?oi0_31T8 (by as_aux_lemma => kernel_rfl) ?ff31T8 ?rr31T8 ?hq31T8 (Or.inl ⟨?hw31T8, ?hy31T8⟩) (by assumption) ?rest31T8
                        case oi0_31T8 =>
                          conv =>
                            lhs
                            whnf
                            arg 1
                            whnf
                        case hq31T8 => exact fun _ _ _ h => h
                        case ff31T8 => as_aux_lemma => kernel_rfl
                        case rr31T8 => as_aux_lemma => kernel_rfl
                        case hw31T8 => rfl
                        case hy31T8 =>
                          intro w hSw
                          (try dsimp only at hSw)
                          first
                          | (go_simp; done)
                          | (go_simp; with_reducible rfl)
                        try simp only [Act.put, List.setIfInBounds_toArray, List.set_cons_zero, List.set_cons_succ]
                        refine wpAnyH_take (i := 32) (oi := ?oi32T8) (v := ?v32T8) ?oi0_32T8 (by as_aux_lemma => kernel_rfl) ?ff32T8 ?rr32T8 ?hq32T8 (Or.inl ⟨?hw32T8, ?hy32T8⟩) (by assumption) ?rest32T8
                        case oi0_32T8 =>
                          conv =>
                            lhs
                            whnf
                            arg 1
                            whnf
                        case hq32T8 => exact fun _ _ _ h => h
                        case ff32T8 => as_aux_lemma => kernel_rfl
                        case rr32T8 => as_aux_lemma => kernel_rfl
                        case hw32T8 => rfl
                        case hy32T8 =>
                          intro w hSw
                          (try dsimp only at hSw)
                          first
                          | (go_simp; done)
                          | (go_simp; with_reducible rfl)
                        try simp only [Act.put, List.setIfInBounds_toArray, List.set_cons_zero, List.set_cons_succ]
                        refine wpAnyH_take (i := 33) (oi := ?oi33T8) (v := ?v33T8) ?oi0_33T8 (by as_aux_lemma => kernel_rfl) ?ff33T8 ?rr33T8 ?hq33T8 (Or.inl ⟨?hw33T8, ?hy33T8⟩) (by assumption) ?rest33T8
                        case oi0_33T8 =>
                          conv =>
                            lhs
                            whnf
                            arg 1
                            whnf
                        case hq33T8 => exact fun _ _ _ h => h
                        case ff33T8 => as_aux_lemma => kernel_rfl
                        case rr33T8 => as_aux_lemma => kernel_rfl
                        case hw33T8 => rfl
                        case hy33T8 =>
                          intro w hSw
                          (try dsimp only at hSw)
                          first
                          | (go_simp; done)
                          | (go_simp; with_reducible rfl)
                        try simp only [Act.put, List.setIfInBounds_toArray, List.set_cons_zero, List.set_cons_succ]
                        refine wpAnyH_take (i := 34) (oi := ?oi34T8) (v := ?v34T8) ?oi0_34T8 (by as_aux_lemma => kernel_rfl) ?ff34T8 ?rr34T8 ?hq34T8 (Or.inl ⟨?hw34T8, ?hy34T8⟩) (by assumption) ?rest34T8
                        case oi0_34T8 =>
                          conv =>
                            lhs
                            whnf
                            arg 1
                            whnf
                        case hq34T8 => exact fun _ _ _ h => h
                        case ff34T8 => as_aux_lemma => kernel_rfl
                        case rr34T8 => as_aux_lemma => kernel_rfl
                        case hw34T8 => rfl
                        case hy34T8 =>
                          intro w hSw
                          (try dsimp only at hSw)
                          first
                          | (go_simp; done)
                          | (go_simp; with_reducible rfl)
                        try simp only [Act.put, List.setIfInBounds_toArray, List.set_cons_zero, List.set_cons_succ]
                        refine wpAnyH_take (i := 36) (oi := ?oi36T8) (v := ?v36T8) ?oi0_36T8 (by as_aux_lemma => kernel_rfl) ?ff36T8 ?rr36T8 ?hq36T8 (Or.inl ⟨?hw36T8, ?hy36T8⟩) (by assumption) ?rest36T8
                        case oi0_36T8 =>
                          conv =>
                            lhs
                            whnf
                            arg 1
                            whnf
                        case hq36T8 => exact fun _ _ _ h => h
                        case ff36T8 => as_aux_lemma => kernel_rfl
                        case rr36T8 => as_aux_lemma => kernel_rfl
                        case hw36T8 => rfl
                        case hy36T8 =>
                          intro w hSw
                          (try dsimp only at hSw)
                          first
                          | (go_simp; done)
                          | (go_simp; with_reducible rfl)
                        try simp only [Act.put, List.setIfInBounds_toArray, List.set_cons_zero, List.set_cons_succ]
                        refine wpAnyH_take (i := 37) (oi := ?oi37T8) (v := ?v37T8) ?oi0_37T8 (by as_aux_lemma => kernel_rfl) ?ff37T8 ?rr37T8 ?hq37T8 (Or.inl ⟨?hw37T8, ?hy37T8⟩) (by assumption) ?rest37T8
                        case oi0_37T8 =>
                          conv =>
                            lhs
                            whnf
                            arg 1
                            whnf
                        case hq37T8 => exact fun _ _ _ h => h
                        case ff37T8 => as_aux_lemma => kernel_rfl
                        case rr37T8 => as_aux_lemma => kernel_rfl
                        case hw37T8 => rfl
                        case hy37T8 =>
                          intro w hSw
                          (try dsimp only at hSw)
                          first
                          | (go_simp; done)
                          | (go_simp; with_reducible rfl)
                        try simp only [Act.put, List.setIfInBounds_toArray, List.set_cons_zero, List.set_cons_succ]
                        refine wpAnyH_take (i := 38) (oi := ?oi38T8) (v := ?v38T8) ?oi0_38T8 (by as_aux_lemma => kernel_rfl) ?ff38T8 ?rr38T8 ?hq38T8 (Or.inl ⟨?hw38T8, ?hy38T8⟩) (by assumption) ?rest38T8
                        case oi0_38T8 =>
                          conv =>
                            lhs
                            whnf
                            arg 1
                            whnf
                        case hq38T8 => exact fun _ _ _ h => h
                        case ff38T8 => as_aux_lemma => kernel_rfl
                        case rr38T8 => as_aux_lemma => kernel_rfl
                        case hw38T8 => rfl
                        case hy38T8 =>
                          intro w hSw
                          (try dsimp only at hSw)
                          first
                          | (go_simp; done)
                          | (go_simp; with_reducible rfl)
                        try simp only [Act.put, List.setIfInBounds_toArray, List.set_cons_zero, List.set_cons_succ]
                        refine wpAnyH_take (i := 39) (oi := ?oi39T8) (v := ?v39T8) ?oi0_39T8 (by as_aux_lemma => kernel_rfl) ?ff39T8 ?rr39T8 ?hq39T8 (Or.inl ⟨?hw39T8, ?hy39T8⟩) (by assumption) ?rest39T8
                        case oi0_39T8 =>
                          conv =>
                            lhs
                            whnf
                            arg 1
                            whnf
                        case hq39T8 => exact fun _ _ _ h => h
                        case ff39T8 => as_aux_lemma => kernel_rfl
                        case rr39T8 => as_aux_lemma => kernel_rfl
                        case hw39T8 => rfl
                        case hy39T8 =>
                          intro w hSw
                          (try dsimp only at hSw)
                          first
                          | (go_simp; done)
                          | (go_simp; with_reducible rfl)
                        try simp only [Act.put, List.setIfInBounds_toArray, List.set_cons_zero, List.set_cons_succ]
                        refine wpAnyH_take (i := 40) (oi := ?oi40T8) (v := ?v40T8) ?oi0_40T8 (by as_aux_lemma => kernel_rfl) ?ff40T8 ?rr40T8 ?hq40T8 (Or.inl ⟨?hw40T8, ?hy40T8⟩) (by assumption) ?rest40T8
                        case oi0_40T8 =>
                          conv =>
                            lhs
                            whnf
                            arg 1
                            whnf
                        case hq40T8 => exact fun _ _ _ h => h
                        case ff40T8 => as_aux_lemma => kernel_rfl
                        case rr40T8 => as_aux_lemma => kernel_rfl
                        case hw40T8 => rfl
                        case hy40T8 =>
                          intro w hSw
                          (try dsimp only at hSw)
                          first
                          | (go_simp; done)
                          | (go_simp; with_reducible rfl)
                        try simp only [Act.put, List.setIfInBounds_toArray, List.set_cons_zero, List.set_cons_succ]
                        refine wpAnyH_take (i := 41) (oi := ?oi41T8) (v := ?v41T8) ?oi0_41T8 (by as_aux_lemma => kernel_rfl) ?ff41T8 ?rr41T8 ?hq41T8 (Or.inl ⟨?hw41T8, ?hy41T8⟩) (by assumption) ?rest41T8
                        case oi0_41T8 =>
                          conv =>
                            lhs
                            whnf
                            arg 1
                            whnf
                        case hq41T8 => exact fun _ _ _ h => h
                        case ff41T8 => as_aux_lemma => kernel_rfl
                        case rr41T8 => as_aux_lemma => kernel_rfl
                        case hw41T8 => rfl
                        case hy41T8 =>
                          intro w hSw
                          (try dsimp only at hSw)
                          first
                          | (go_simp; done)
                          | (go_simp; with_reducible rfl)
                        try simp only [Act.put, List.setIfInBounds_toArray, List.set_cons_zero, List.set_cons_succ]
                        refine wpAnyH_take (i := 42) (oi := ?oi42T8) (v := ?v42T8) ?oi0_42T8 (by as_aux_lemma => kernel_rfl) ?ff42T8 ?rr42T8 ?hq42T8 (Or.inl ⟨?hw42T8, ?hy42T8⟩) (by assumption) ?rest42T8
                        case oi0_42T8 =>
                          conv =>
                            lhs
                            whnf
                            arg 1
                            whnf
                        case hq42T8 => exact fun _ _ _ h => h
                        case ff42T8 => as_aux_lemma => kernel_rfl
                        case rr42T8 => as_aux_lemma => kernel_rfl
                        case hw42T8 => rfl
                        case hy42T8 =>
                          intro w hSw
                          (try dsimp only at hSw)
                          first
                          | (go_simp; done)
                          | (go_simp; with_reducible rfl)
                        try simp only [Act.put, List.setIfInBounds_toArray, List.set_cons_zero, List.set_cons_succ]
                        refine wpAnyH_ready (rs := [24]) (by as_aux_lemma => kernel_rfl) (by simp) (AllReadyH.cons (o := ?oi24T8) ?oi0_24T8 (fun K hK => ?_) AllReadyH.nil)
                        case oi0_24T8 =>
                          conv =>
                            lhs
                            whnf
                            arg 1
                            whnf
                        go_simp
                        refine (HA.out _).mono ?_
                        rintro e w' ⟨rfl, rfl⟩
                        (try dsimp only)
                        refine hK.out _ _ (by assumption) (fun hHeld => ?_)
                        clear hK K
                        try simp only [Act.put, List.setIfInBounds_toArray, List.set_cons_zero, List.set_cons_succ]
                        refine wpAnyH_take (i := 35) (oi := ?oi35T8) (v := ?v35T8) ?oi0_35T8 (by as_aux_lemma => kernel_rfl) ?ff35T8 ?rr35T8 ?hq35T8 (Or.inl ⟨?hw35T8, ?hy35T8⟩) (by assumption) ?rest35T8
                        case oi0_35T8 =>
                          conv =>
                            lhs
                            whnf
                            arg 1
                            whnf
                        case hq35T8 => exact fun _ _ _ h => h
                        case ff35T8 => as_aux_lemma => kernel_rfl
                        case rr35T8 => as_aux_lemma => kernel_rfl
                        case hw35T8 => rfl
                        case hy35T8 =>
                          intro w hSw
                          (try dsimp only at hSw)
                          first
                          | (go_simp; done)
                          | (go_simp; with_reducible rfl)
                        try simp only [Act.put, List.setIfInBounds_toArray, List.set_cons_zero, List.set_cons_succ]
                        refine wpAnyH_take (i := 43) (oi := ?oi43T8) (v := ?v43T8) ?oi0_43T8 (by as_aux_lemma => kernel_rfl) ?ff43T8 ?rr43T8 ?hq43T8 (Or.inl ⟨?hw43T8, ?hy43T8⟩) (by assumption) ?rest43T8
                        case oi0_43T8 =>
                          conv =>
                            lhs
                            whnf
                            arg 1
                            whnf
                        case hq43T8 => exact fun _ _ _ h => h
                        case ff43T8 => as_aux_lemma => kernel_rfl
                        case rr43T8 => as_aux_lemma => kernel_rfl
                        case hw43T8 => rfl
                        case hy43T8 =>
                          intro w hSw
                          (try dsimp only at hSw)
                          first
                          | (go_simp; done)
                          | (go_simp; with_reducible rfl)
                        try simp only [Act.put, List.setIfInBounds_toArray, List.set_cons_zero, List.set_cons_succ]
                        refine wpAnyH_take (i := 44) (oi := ?oi44T8) (v := ?v44T8) ?oi0_44T8 (by as_aux_lemma => kernel_rfl) ?ff44T8 ?rr44T8 ?hq44T8 (Or.inl ⟨?hw44T8, ?hy44T8⟩) (by assumption) ?rest44T8
                        case oi0_44T8 =>
                          conv =>
                            lhs
                            whnf
                            arg 1
                            whnf
                        case hq44T8 => exact fun _ _ _ h => h
                        case ff44T8 => as_aux_lemma => kernel_rfl
                        case rr44T8 => as_aux_lemma => kernel_rfl
                        case hw44T8 => rfl
                        case hy44T8 =>
                          intro w hSw
                          (try dsimp only at hSw)
                          first
                          | (go_simp; done)
                          | (go_simp; with_reducible rfl)
                        try simp only [Act.put, List.setIfInBounds_toArray, List.set_cons_zero, List.set_cons_succ]
                        refine wpAnyH_done (by as_aux_lemma => kernel_rfl) ?_ _
                        go_wp2_with fail
                        go_roundw
                        case rel => exact ⟨q + 1, z, by omega, by go_num, by go_num, .inr HZN.out.symm, own_kept hrow.out ((Upd.refl [] wq).drew) (by simp), hv.out.drew⟩
                        case measure => simp [intOf] <;> omega
                    · have HN := hide (HST.out (decide_eq_false (by rw [HCV.out]; exact hcl)))
                      have hcb : (cv == lvi) = false := by simpa using hcl
                      clear hcl
                      as_aux_lemma =>
                        go_wp2_with fail
                        refine wp_region_held_drew (S := (fun w' => w'.cell? ⟨b, o + i * 3 + 1, none⟩ = some (.int .i64 p.want) ∧ w'.cell? ⟨T, i1, none⟩ = some (.slice (some ⟨B1, 0, none⟩) 3601 3601) ∧ w'.cell? ⟨B1, y, none⟩ = some (.int .i64 lv) ∧ w'.cell? ⟨T, i, none⟩ = some (.slice (some ⟨Bi, 0, none⟩) 3601 3601) ∧ w'.cell? ⟨Bi, sn, none⟩ = some (.int .i64 lvi))) (by as_aux_lemma => kernel_rfl) (by exact ⟨g2, g5, g6, g3, g4⟩) (fun hHeld => ?_)
                        refine wpAnyH_take (i := 0) (oi := ?oi0T9) (v := ?v0T9) ?oi0_0T9 (by as_aux_lemma => kernel_rfl) ?ff0T9 ?rr0T9 ?hq0T9 (Or.inl ⟨?hw0T9, ?hy0T9⟩) (by assumption) ?rest0T9
                        case oi0_0T9 =>
                          conv =>
                            lhs
                            whnf
                            arg 1
                            whnf
                        case hq0T9 => exact fun _ _ _ h => h
                        case ff0T9 => as_aux_lemma => kernel_rfl
                        case rr0T9 => as_aux_lemma => kernel_rfl
                        case hw0T9 => rfl
                        case hy0T9 =>
                          intro w hSw
                          (try dsimp only at hSw)
                          first
                          | (go_simp; done)
                          | (go_simp; with_reducible rfl)
                        try simp only [Act.put, List.setIfInBounds_toArray, List.set_cons_zero, List.set_cons_succ]
                        refine wpAnyH_take (i := 1) (oi := ?oi1T9) (v := ?v1T9) ?oi0_1T9 (by as_aux_lemma => kernel_rfl) ?ff1T9 ?rr1T9 ?hq1T9 (Or.inl ⟨?hw1T9, ?hy1T9⟩) (by assumption) ?rest1T9
                        case oi0_1T9 =>
                          conv =>
                            lhs
                            whnf
                            arg 1
                            whnf
                        case hq1T9 => exact fun _ _ _ h => h
                        case ff1T9 => as_aux_lemma => kernel_rfl
                        case rr1T9 => as_aux_lemma => kernel_rfl
                        case hw1T9 => rfl
                        case hy1T9 =>
                          intro w hSw
                          (try dsimp only at hSw)
                          first
                          | (go_simp; done)
                          | (go_simp; with_reducible rfl)
                        try simp only [Act.put, List.setIfInBounds_toArray, List.set_cons_zero, List.set_cons_succ]
                        refine wpAnyH_take (i := 2) (oi := ?oi2T9) (v := ?v2T9) ?oi0_2T9 (by as_aux_lemma => kernel_rfl) ?ff2T9 ?rr2T9 ?hq2T9 (Or.inl ⟨?hw2T9, ?hy2T9⟩) (by assumption) ?rest2T9
                        case oi0_2T9 =>
                          conv =>
                            lhs
                            whnf
                            arg 1
                            whnf
                        case hq2T9 => exact fun _ _ _ h => h
                        case ff2T9 => as_aux_lemma => kernel_rfl
                        case rr2T9 => as_aux_lemma => kernel_rfl
                        case hw2T9 => rfl
                        case hy2T9 =>
                          intro w hSw
                          (try dsimp only at hSw)
                          first
                          | (go_simp; done)
                          | (go_simp; with_reducible rfl)
                        try simp only [Act.put, List.setIfInBounds_toArray, List.set_cons_zero, List.set_cons_succ]
                        refine wpAnyH_take (i := 3) (oi := ?oi3T9) (v := ?v3T9) ?oi0_3T9 (by as_aux_lemma => kernel_rfl) ?ff3T9 ?rr3T9 ?hq3T9 (Or.inl ⟨?hw3T9, ?hy3T9⟩) (by assumption) ?rest3T9
                        case oi0_3T9 =>
                          conv =>
                            lhs
                            whnf
                            arg 1
                            whnf
                        case hq3T9 => exact fun _ _ _ h => h
                        case ff3T9 => as_aux_lemma => kernel_rfl
                        case rr3T9 => as_aux_lemma => kernel_rfl
                        case hw3T9 => rfl
                        case hy3T9 =>
                          intro w hSw
                          (try dsimp only at hSw)
                          first
                          | (go_simp; done)
                          | (go_simp; with_reducible rfl)
                        try simp only [Act.put, List.setIfInBounds_toArray, List.set_cons_zero, List.set_cons_succ]
                        refine wpAnyH_take (i := 4) (oi := ?oi4T9) (v := ?v4T9) ?oi0_4T9 (by as_aux_lemma => kernel_rfl) ?ff4T9 ?rr4T9 ?hq4T9 (Or.inl ⟨?hw4T9, ?hy4T9⟩) (by assumption) ?rest4T9
                        case oi0_4T9 =>
                          conv =>
                            lhs
                            whnf
                            arg 1
                            whnf
                        case hq4T9 => exact fun _ _ _ h => h
                        case ff4T9 => as_aux_lemma => kernel_rfl
                        case rr4T9 => as_aux_lemma => kernel_rfl
                        case hw4T9 => rfl
                        case hy4T9 =>
                          intro w hSw
                          (try dsimp only at hSw)
                          first
                          | (go_simp; done)
                          | (go_simp; with_reducible rfl)
                        try simp only [Act.put, List.setIfInBounds_toArray, List.set_cons_zero, List.set_cons_succ]
                        refine wpAnyH_take (i := 5) (oi := ?oi5T9) (v := ?v5T9) ?oi0_5T9 (by as_aux_lemma => kernel_rfl) ?ff5T9 ?rr5T9 ?hq5T9 (Or.inl ⟨?hw5T9, ?hy5T9⟩) (by assumption) ?rest5T9
                        case oi0_5T9 =>
                          conv =>
                            lhs
                            whnf
                            arg 1
                            whnf
                        case hq5T9 => exact fun _ _ _ h => h
                        case ff5T9 => as_aux_lemma => kernel_rfl
                        case rr5T9 => as_aux_lemma => kernel_rfl
                        case hw5T9 => rfl
                        case hy5T9 =>
                          intro w hSw
                          (try dsimp only at hSw)
                          first
                          | (go_simp; done)
                          | (go_simp; with_reducible rfl)
                        try simp only [Act.put, List.setIfInBounds_toArray, List.set_cons_zero, List.set_cons_succ]
                        refine wpAnyH_take (i := 6) (oi := ?oi6T9) (v := ?v6T9) ?oi0_6T9 (by as_aux_lemma => kernel_rfl) ?ff6T9 ?rr6T9 ?hq6T9 (Or.inl ⟨?hw6T9, ?hy6T9⟩) (by assumption) ?rest6T9
                        case oi0_6T9 =>
                          conv =>
                            lhs
                            whnf
                            arg 1
                            whnf
                        case hq6T9 => exact fun _ _ _ h => h
                        case ff6T9 => as_aux_lemma => kernel_rfl
                        case rr6T9 => as_aux_lemma => kernel_rfl
                        case hw6T9 => rfl
                        case hy6T9 =>
                          intro w hSw
                          (try dsimp only at hSw)
                          first
                          | (go_simp; done)
                          | (go_simp; with_reducible rfl)
                        try simp only [Act.put, List.setIfInBounds_toArray, List.set_cons_zero, List.set_cons_succ]
                        refine wpAnyH_take (i := 7) (oi := ?oi7T9) (v := ?v7T9) ?oi0_7T9 (by as_aux_lemma => kernel_rfl) ?ff7T9 ?rr7T9 ?hq7T9 (Or.inl ⟨?hw7T9, ?hy7T9⟩) (by assumption) ?rest7T9
                        case oi0_7T9 =>
                          conv =>
                            lhs
                            whnf
                            arg 1
                            whnf
                        case hq7T9 => exact fun _ _ _ h => h
                        case ff7T9 => as_aux_lemma => kernel_rfl
                        case rr7T9 => as_aux_lemma => kernel_rfl
                        case hw7T9 => rfl
                        case hy7T9 =>
                          intro w hSw
                          (try dsimp only at hSw)
                          first
                          | (go_simp; done)
                          | (go_simp; with_reducible rfl)
                        try simp only [Act.put, List.setIfInBounds_toArray, List.set_cons_zero, List.set_cons_succ]
                        refine wpAnyH_take (i := 8) (oi := ?oi8T9) (v := ?v8T9) ?oi0_8T9 (by as_aux_lemma => kernel_rfl) ?ff8T9 ?rr8T9 ?hq8T9 (Or.inl ⟨?hw8T9, ?hy8T9⟩) (by assumption) ?rest8T9
                        case oi0_8T9 =>
                          conv =>
                            lhs
                            whnf
                            arg 1
                            whnf
                        case hq8T9 => exact fun _ _ _ h => h
                        case ff8T9 => as_aux_lemma => kernel_rfl
                        case rr8T9 => as_aux_lemma => kernel_rfl
                        case hw8T9 => rfl
                        case hy8T9 =>
                          intro w hSw
                          (try dsimp only at hSw)
                          first
                          | (go_simp; done)
                          | (go_simp; with_reducible rfl)
                        try simp only [Act.put, List.setIfInBounds_toArray, List.set_cons_zero, List.set_cons_succ]
                        refine wpAnyH_take (i := 9) (oi := ?oi9T9) (v := ?v9T9) ?oi0_9T9 (by as_aux_lemma => kernel_rfl) ?ff9T9 ?rr9T9 ?hq9T9 (Or.inl ⟨?hw9T9, ?hy9T9⟩) (by assumption) ?rest9T9
                        case oi0_9T9 =>
                          conv =>
                            lhs
                            whnf
                            arg 1
                            whnf
                        case hq9T9 => exact fun _ _ _ h => h
                        case ff9T9 => as_aux_lemma => kernel_rfl
                        case rr9T9 => as_aux_lemma => kernel_rfl
                        case hw9T9 => rfl
                        case hy9T9 =>
                          intro w hSw
                          (try dsimp only at hSw)
                          first
                          | (go_simp; done)
                          | (go_simp; with_reducible rfl)
                        try simp only [Act.put, List.setIfInBounds_toArray, List.set_cons_zero, List.set_cons_succ]
                        refine wpAnyH_take (i := 10) (oi := ?oi10T9) (v := ?v10T9) ?oi0_10T9 (by as_aux_lemma => kernel_rfl) ?ff10T9 ?rr10T9 ?hq10T9 (Or.inl ⟨?hw10T9, ?hy10T9⟩) (by assumption) ?rest10T9
                        case oi0_10T9 =>
                          conv =>
                            lhs
                            whnf
                            arg 1
                            whnf
                        case hq10T9 => exact fun _ _ _ h => h
                        case ff10T9 => as_aux_lemma => kernel_rfl
                        case rr10T9 => as_aux_lemma => kernel_rfl
                        case hw10T9 => rfl
                        case hy10T9 =>
                          intro w hSw
                          (try dsimp only at hSw)
                          first
                          | (go_simp; done)
                          | (go_simp; with_reducible rfl)
                        try simp only [Act.put, List.setIfInBounds_toArray, List.set_cons_zero, List.set_cons_succ]
                        refine wpAnyH_take (i := 11) (oi := ?oi11T9) (v := ?v11T9) ?oi0_11T9 (by as_aux_lemma => kernel_rfl) ?ff11T9 ?rr11T9 ?hq11T9 (Or.inl ⟨?hw11T9, ?hy11T9⟩) (by assumption) ?rest11T9
                        case oi0_11T9 =>
                          conv =>
                            lhs
                            whnf
                            arg 1
                            whnf
                        case hq11T9 => exact fun _ _ _ h => h
                        case ff11T9 => as_aux_lemma => kernel_rfl
                        case rr11T9 => as_aux_lemma => kernel_rfl
                        case hw11T9 => rfl
                        case hy11T9 =>
                          intro w hSw
                          (try dsimp only at hSw)
                          first
                          | (go_simp; done)
                          | (go_simp; with_reducible rfl)
                        try simp only [Act.put, List.setIfInBounds_toArray, List.set_cons_zero, List.set_cons_succ]
                        refine wpAnyH_take (i := 12) (oi := ?oi12T9) (v := ?v12T9) ?oi0_12T9 (by as_aux_lemma => kernel_rfl) ?ff12T9 ?rr12T9 ?hq12T9 (Or.inl ⟨?hw12T9, ?hy12T9⟩) (by assumption) ?rest12T9
                        case oi0_12T9 =>
                          conv =>
                            lhs
                            whnf
                            arg 1
                            whnf
                        case hq12T9 => exact fun _ _ _ h => h
                        case ff12T9 => as_aux_lemma => kernel_rfl
                        case rr12T9 => as_aux_lemma => kernel_rfl
                        case hw12T9 => rfl
                        case hy12T9 =>
                          intro w hSw
                          (try dsimp only at hSw)
                          first
                          | (go_simp; done)
                          | (go_simp; with_reducible rfl)
                        try simp only [Act.put, List.setIfInBounds_toArray, List.set_cons_zero, List.set_cons_succ]
                        refine wpAnyH_take (i := 13) (oi := ?oi13T9) (v := ?v13T9) ?oi0_13T9 (by as_aux_lemma => kernel_rfl) ?ff13T9 ?rr13T9 ?hq13T9 (Or.inl ⟨?hw13T9, ?hy13T9⟩) (by assumption) ?rest13T9
                        case oi0_13T9 =>
                          conv =>
                            lhs
                            whnf
                            arg 1
                            whnf
                        case hq13T9 => exact fun _ _ _ h => h
                        case ff13T9 => as_aux_lemma => kernel_rfl
                        case rr13T9 => as_aux_lemma => kernel_rfl
                        case hw13T9 => rfl
                        case hy13T9 =>
                          intro w hSw
                          (try dsimp only at hSw)
                          first
                          | (go_simp; done)
                          | (go_simp; with_reducible rfl)
                        try simp only [Act.put, List.setIfInBounds_toArray, List.set_cons_zero, List.set_cons_succ]
                        refine wpAnyH_take (i := 14) (oi := ?oi14T9) (v := ?v14T9) ?oi0_14T9 (by as_aux_lemma => kernel_rfl) ?ff14T9 ?rr14T9 ?hq14T9 (Or.inl ⟨?hw14T9, ?hy14T9⟩) (by assumption) ?rest14T9
                        case oi0_14T9 =>
                          conv =>
                            lhs
                            whnf
                            arg 1
                            whnf
                        case hq14T9 => exact fun _ _ _ h => h
                        case ff14T9 => as_aux_lemma => kernel_rfl
                        case rr14T9 => as_aux_lemma => kernel_rfl
                        case hw14T9 => rfl
                        case hy14T9 =>
                          intro w hSw
                          (try dsimp only at hSw)
                          first
                          | (go_simp; done)
                          | (go_simp; with_reducible rfl)
                        try simp only [Act.put, List.setIfInBounds_toArray, List.set_cons_zero, List.set_cons_succ]
                        refine wpAnyH_take (i := 15) (oi := ?oi15T9) (v := ?v15T9) ?oi0_15T9 (by as_aux_lemma => kernel_rfl) ?ff15T9 ?rr15T9 ?hq15T9 (Or.inl ⟨?hw15T9, ?hy15T9⟩) (by assumption) ?rest15T9
                        case oi0_15T9 =>
                          conv =>
                            lhs
                            whnf
                            arg 1
                            whnf
                        case hq15T9 => exact fun _ _ _ h => h
                        case ff15T9 => as_aux_lemma => kernel_rfl
                        case rr15T9 => as_aux_lemma => kernel_rfl
                        case hw15T9 => rfl
                        case hy15T9 =>
                          intro w hSw
                          (try dsimp only at hSw)
                          first
                          | (go_simp; done)
                          | (go_simp; with_reducible rfl)
                        try simp only [Act.put, List.setIfInBounds_toArray, List.set_cons_zero, List.set_cons_succ]
                        refine wpAnyH_take (i := 16) (oi := ?oi16T9) (v := ?v16T9) ?oi0_16T9 (by as_aux_lemma => kernel_rfl) ?ff16T9 ?rr16T9 ?hq16T9 (Or.inl ⟨?hw16T9, ?hy16T9⟩) (by assumption) ?rest16T9
                        case oi0_16T9 =>
                          conv =>
                            lhs
                            whnf
                            arg 1
                            whnf
                        case hq16T9 => exact fun _ _ _ h => h
                        case ff16T9 => as_aux_lemma => kernel_rfl
                        case rr16T9 => as_aux_lemma => kernel_rfl
                        case hw16T9 => rfl
                        case hy16T9 =>
                          intro w hSw
                          (try dsimp only at hSw)
                          first
                          | (go_simp; done)
                          | (go_simp; with_reducible rfl)
                        try simp only [Act.put, List.setIfInBounds_toArray, List.set_cons_zero, List.set_cons_succ]
                        refine wpAnyH_take (i := 17) (oi := ?oi17T9) (v := ?v17T9) ?oi0_17T9 (by as_aux_lemma => kernel_rfl) ?ff17T9 ?rr17T9 ?hq17T9 (Or.inl ⟨?hw17T9, ?hy17T9⟩) (by assumption) ?rest17T9
                        case oi0_17T9 =>
                          conv =>
                            lhs
                            whnf
                            arg 1
                            whnf
                        case hq17T9 => exact fun _ _ _ h => h
                        case ff17T9 => as_aux_lemma => kernel_rfl
                        case rr17T9 => as_aux_lemma => kernel_rfl
                        case hw17T9 => rfl
                        case hy17T9 =>
                          intro w hSw
                          (try dsimp only at hSw)
                          first
                          | (go_simp; done)
                          | (go_simp; with_reducible rfl)
                        try simp only [Act.put, List.setIfInBounds_toArray, List.set_cons_zero, List.set_cons_succ]
                        refine wpAnyH_take (i := 18) (oi := ?oi18T9) (v := ?v18T9) ?oi0_18T9 (by as_aux_lemma => kernel_rfl) ?ff18T9 ?rr18T9 ?hq18T9 (Or.inl ⟨?hw18T9, ?hy18T9⟩) (by assumption) ?rest18T9
                        case oi0_18T9 =>
                          conv =>
                            lhs
                            whnf
                            arg 1
                            whnf
                        case hq18T9 => exact fun _ _ _ h => h
                        case ff18T9 => as_aux_lemma => kernel_rfl
                        case rr18T9 => as_aux_lemma => kernel_rfl
                        case hw18T9 => rfl
                        case hy18T9 =>
                          intro w hSw
                          (try dsimp only at hSw)
                          first
                          | (go_simp; done)
                          | (go_simp; with_reducible rfl)
                        try simp only [Act.put, List.setIfInBounds_toArray, List.set_cons_zero, List.set_cons_succ]
                        refine wpAnyH_take (i := 19) (oi := ?oi19T9) (v := ?v19T9) ?oi0_19T9 (by as_aux_lemma => kernel_rfl) ?ff19T9 ?rr19T9 ?hq19T9 (Or.inl ⟨?hw19T9, ?hy19T9⟩) (by assumption) ?rest19T9
                        case oi0_19T9 =>
                          conv =>
                            lhs
                            whnf
                            arg 1
                            whnf
                        case hq19T9 => exact fun _ _ _ h => h
                        case ff19T9 => as_aux_lemma => kernel_rfl
                        case rr19T9 => as_aux_lemma => kernel_rfl
                        case hw19T9 => rfl
                        case hy19T9 =>
                          intro w hSw
                          (try dsimp only at hSw)
                          first
                          | (go_simp; done)
                          | (go_simp; with_reducible rfl)
                        try simp only [Act.put, List.setIfInBounds_toArray, List.set_cons_zero, List.set_cons_succ]
                        refine wpAnyH_take (i := 20) (oi := ?oi20T9) (v := ?v20T9) ?oi0_20T9 (by as_aux_lemma => kernel_rfl) ?ff20T9 ?rr20T9 ?hq20T9 (Or.inl ⟨?hw20T9, ?hy20T9⟩) (by assumption) ?rest20T9
                        case oi0_20T9 =>
                          conv =>
                            lhs
                            whnf
                            arg 1
                            whnf
                        case hq20T9 => exact fun _ _ _ h => h
                        case ff20T9 => as_aux_lemma => kernel_rfl
                        case rr20T9 => as_aux_lemma => kernel_rfl
                        case hw20T9 => rfl
                        case hy20T9 =>
                          intro w hSw
                          (try dsimp only at hSw)
                          first
                          | (go_simp; done)
                          | (go_simp; with_reducible rfl)
                        try simp only [Act.put, List.setIfInBounds_toArray, List.set_cons_zero, List.set_cons_succ]
                        refine wpAnyH_take (i := 21) (oi := ?oi21T9) (v := ?v21T9) ?oi0_21T9 (by as_aux_lemma => kernel_rfl) ?ff21T9 ?rr21T9 ?hq21T9 (Or.inl ⟨?hw21T9, ?hy21T9⟩) (by assumption) ?rest21T9
                        case oi0_21T9 =>
                          conv =>
                            lhs
                            whnf
                            arg 1
                            whnf
                        case hq21T9 => exact fun _ _ _ h => h
                        case ff21T9 => as_aux_lemma => kernel_rfl
                        case rr21T9 => as_aux_lemma => kernel_rfl
                        case hw21T9 => rfl
                        case hy21T9 =>
                          intro w hSw
                          (try dsimp only at hSw)
                          first
                          | (go_simp; done)
                          | (go_simp; with_reducible rfl)
                        try simp only [Act.put, List.setIfInBounds_toArray, List.set_cons_zero, List.set_cons_succ]
                        refine wpAnyH_take (i := 22) (oi := ?oi22T9) (v := ?v22T9) ?oi0_22T9 (by as_aux_lemma => kernel_rfl) ?ff22T9 ?rr22T9 ?hq22T9 (Or.inl ⟨?hw22T9, ?hy22T9⟩) (by assumption) ?rest22T9
                        case oi0_22T9 =>
                          conv =>
                            lhs
                            whnf
                            arg 1
                            whnf
                        case hq22T9 => exact fun _ _ _ h => h
                        case ff22T9 => as_aux_lemma => kernel_rfl
                        case rr22T9 => as_aux_lemma => kernel_rfl
                        case hw22T9 => rfl
                        case hy22T9 =>
                          intro w hSw
                          (try dsimp only at hSw)
                          first
                          | (go_simp; done)
                          | (go_simp; with_reducible rfl)
                        try simp only [Act.put, List.setIfInBounds_toArray, List.set_cons_zero, List.set_cons_succ]
                        refine wpAnyH_take (i := 23) (oi := ?oi23T9) (v := ?v23T9) ?oi0_23T9 (by as_aux_lemma => kernel_rfl) ?ff23T9 ?rr23T9 ?hq23T9 (Or.inl ⟨?hw23T9, ?hy23T9⟩) (by assumption) ?rest23T9
                        case oi0_23T9 =>
                          conv =>
                            lhs
                            whnf
                            arg 1
                            whnf
                        case hq23T9 => exact fun _ _ _ h => h
                        case ff23T9 => as_aux_lemma => kernel_rfl
                        case rr23T9 => as_aux_lemma => kernel_rfl
                        case hw23T9 => rfl
                        case hy23T9 =>
                          intro w hSw
                          (try dsimp only at hSw)
                          first
                          | (go_simp; done)
                          | (go_simp; with_reducible rfl)
                        try simp only [Act.put, List.setIfInBounds_toArray, List.set_cons_zero, List.set_cons_succ]
                        refine wpAnyH_take (i := 25) (oi := ?oi25T9) (v := ?v25T9) ?oi0_25T9 (by as_aux_lemma => kernel_rfl) ?ff25T9 ?rr25T9 ?hq25T9 (Or.inl ⟨?hw25T9, ?hy25T9⟩) (by assumption) ?rest25T9
                        case oi0_25T9 =>
                          conv =>
                            lhs
                            whnf
                            arg 1
                            whnf
                        case hq25T9 => exact fun _ _ _ h => h
                        case ff25T9 => as_aux_lemma => kernel_rfl
                        case rr25T9 => as_aux_lemma => kernel_rfl
                        case hw25T9 => rfl
                        case hy25T9 =>
                          intro w hSw
                          (try dsimp only at hSw)
                          first
                          | (go_simp; done)
                          | (go_simp; with_reducible rfl)
                        try simp only [Act.put, List.setIfInBounds_toArray, List.set_cons_zero, List.set_cons_succ]
                        refine wpAnyH_take (i := 26) (oi := ?oi26T9) (v := ?v26T9) ?oi0_26T9 (by as_aux_lemma => kernel_rfl) ?ff26T9 ?rr26T9 ?hq26T9 (Or.inl ⟨?hw26T9, ?hy26T9⟩) (by assumption) ?rest26T9
                        case oi0_26T9 =>
                          conv =>
                            lhs
                            whnf
                            arg 1
                            whnf
                        case hq26T9 => exact fun _ _ _ h => h
                        case ff26T9 => as_aux_lemma => kernel_rfl
                        case rr26T9 => as_aux_lemma => kernel_rfl
                        case hw26T9 => rfl
                        case hy26T9 =>
                          intro w hSw
                          (try dsimp only at hSw)
                          first
                          | (go_simp; done)
                          | (go_simp; with_reducible rfl)
                        try simp only [Act.put, List.setIfInBounds_toArray, List.set_cons_zero, List.set_cons_succ]
                        refine wpAnyH_take (i := 27) (oi := ?oi27T9) (v := ?v27T9) ?oi0_27T9 (by as_aux_lemma => kernel_rfl) ?ff27T9 ?rr27T9 ?hq27T9 (Or.inl ⟨?hw27T9, ?hy27T9⟩) (by assumption) ?rest27T9
                        case oi0_27T9 =>
                          conv =>
                            lhs
                            whnf
                            arg 1
                            whnf
                        case hq27T9 => exact fun _ _ _ h => h
                        case ff27T9 => as_aux_lemma => kernel_rfl
                        case rr27T9 => as_aux_lemma => kernel_rfl
                        case hw27T9 => rfl
                        case hy27T9 =>
                          intro w hSw
                          (try dsimp only at hSw)
                          first
                          | (go_simp; done)
                          | (go_simp; with_reducible rfl)
                        try simp only [Act.put, List.setIfInBounds_toArray, List.set_cons_zero, List.set_cons_succ]
                        refine wpAnyH_take (i := 28) (oi := ?oi28T9) (v := ?v28T9) ?oi0_28T9 (by as_aux_lemma => kernel_rfl) ?ff28T9 ?rr28T9 ?hq28T9 (Or.inl ⟨?hw28T9, ?hy28T9⟩) (by assumption) ?rest28T9
                        case oi0_28T9 =>
                          conv =>
                            lhs
                            whnf
                            arg 1
                            whnf
                        case hq28T9 => exact fun _ _ _ h => h
                        case ff28T9 => as_aux_lemma => kernel_rfl
                        case rr28T9 => as_aux_lemma => kernel_rfl
                        case hw28T9 => rfl
                        case hy28T9 =>
                          intro w hSw
                          (try dsimp only at hSw)
                          first
                          | (go_simp; done)
                          | (go_simp; with_reducible rfl)
                        try simp only [Act.put, List.setIfInBounds_toArray, List.set_cons_zero, List.set_cons_succ]
                        refine wpAnyH_take (i := 29) (oi := ?oi29T9) (v := ?v29T9) ?oi0_29T9 (by as_aux_lemma => kernel_rfl) ?ff29T9 ?rr29T9 ?hq29T9 (Or.inl ⟨?hw29T9, ?hy29T9⟩) (by assumption) ?rest29T9
                        case oi0_29T9 =>
                          conv =>
                            lhs
                            whnf
                            arg 1
                            whnf
                        case hq29T9 => exact fun _ _ _ h => h
                        case ff29T9 => as_aux_lemma => kernel_rfl
                        case rr29T9 => as_aux_lemma => kernel_rfl
                        case hw29T9 => rfl
                        case hy29T9 =>
                          intro w hSw
                          (try dsimp only at hSw)
                          first
                          | (go_simp; done)
                          | (go_simp; with_reducible rfl)
                        try simp only [Act.put, List.setIfInBounds_toArray, List.set_cons_zero, List.set_cons_succ]
                        refine wpAnyH_take (i := 30) (oi := ?oi30T9) (v := ?v30T9) ?oi0_30T9 (by as_aux_lemma => kernel_rfl) ?ff30T9 ?rr30T9 ?hq30T9 (Or.inl ⟨?hw30T9, ?hy30T9⟩) (by assumption) ?rest30T9
                        case oi0_30T9 =>
                          conv =>
                            lhs
                            whnf
                            arg 1
                            whnf
                        case hq30T9 => exact fun _ _ _ h => h
                        case ff30T9 => as_aux_lemma => kernel_rfl
                        case rr30T9 => as_aux_lemma => kernel_rfl
                        case hw30T9 => rfl
                        case hy30T9 =>
                          intro w hSw
                          (try dsimp only at hSw)
                          first
                          | (go_simp; done)
                          | (go_simp; with_reducible rfl)
                        try simp only [Act.put, List.setIfInBounds_toArray, List.set_cons_zero, List.set_cons_succ]
                        refine wpAnyH_take (i := 31) (oi := ?oi31T9) (v := ?v31T9) ?oi0_31T9 (by as_aux_lemma => kernel_rfl) ?ff31T9 ?rr31T9 ?hq31T9 (Or.inl ⟨?hw31T9, ?hy31T9⟩) (by assumption) ?rest31T9
                        case oi0_31T9 =>
                          conv =>
                            lhs
                            whnf
                            arg 1
                            whnf
                        case hq31T9 => exact fun _ _ _ h => h
                        case ff31T9 => as_aux_lemma => kernel_rfl
                        case rr31T9 => as_aux_lemma => kernel_rfl
                        case hw31T9 => rfl
                        case hy31T9 =>
                          intro w hSw
                          (try dsimp only at hSw)
                          first
                          | (go_simp; done)
                          | (go_simp; with_reducible rfl)
                        try simp only [Act.put, List.setIfInBounds_toArray, List.set_cons_zero, List.set_cons_succ]
                        refine wpAnyH_take (i := 32) (oi := ?oi32T9) (v := ?v32T9) ?oi0_32T9 (by as_aux_lemma => kernel_rfl) ?ff32T9 ?rr32T9 ?hq32T9 (Or.inl ⟨?hw32T9, ?hy32T9⟩) (by assumption) ?rest32T9
                        case oi0_32T9 =>
                          conv =>
                            lhs
                            whnf
                            arg 1
                            whnf
                        case hq32T9 => exact fun _ _ _ h => h
                        case ff32T9 => as_aux_lemma => kernel_rfl
                        case rr32T9 => as_aux_lemma => kernel_rfl
                        case hw32T9 => rfl
                        case hy32T9 =>
                          intro w hSw
                          (try dsimp only at hSw)
                          first
                          | (go_simp; done)
                          | (go_simp; with_reducible rfl)
                        try simp only [Act.put, List.setIfInBounds_toArray, List.set_cons_zero, List.set_cons_succ]
                        refine wpAnyH_take (i := 33) (oi := ?oi33T9) (v := ?v33T9) ?oi0_33T9 (by as_aux_lemma => kernel_rfl) ?ff33T9 ?rr33T9 ?hq33T9 (Or.inl ⟨?hw33T9, ?hy33T9⟩) (by assumption) ?rest33T9
                        case oi0_33T9 =>
                          conv =>
                            lhs
                            whnf
                            arg 1
                            whnf
                        case hq33T9 => exact fun _ _ _ h => h
                        case ff33T9 => as_aux_lemma => kernel_rfl
                        case rr33T9 => as_aux_lemma => kernel_rfl
                        case hw33T9 => rfl
                        case hy33T9 =>
                          intro w hSw
                          (try dsimp only at hSw)
                          first
                          | (go_simp; done)
                          | (go_simp; with_reducible rfl)
                        try simp only [Act.put, List.setIfInBounds_toArray, List.set_cons_zero, List.set_cons_succ]
                        refine wpAnyH_take (i := 34) (oi := ?oi34T9) (v := ?v34T9) ?oi0_34T9 (by as_aux_lemma => kernel_rfl) ?ff34T9 ?rr34T9 ?hq34T9 (Or.inl ⟨?hw34T9, ?hy34T9⟩) (by assumption) ?rest34T9
                        case oi0_34T9 =>
                          conv =>
                            lhs
                            whnf
                            arg 1
                            whnf
                        case hq34T9 => exact fun _ _ _ h => h
                        case ff34T9 => as_aux_lemma => kernel_rfl
                        case rr34T9 => as_aux_lemma => kernel_rfl
                        case hw34T9 => rfl
                        case hy34T9 =>
                          intro w hSw
                          (try dsimp only at hSw)
                          first
                          | (go_simp; done)
                          | (go_simp; with_reducible rfl)
                        try simp only [Act.put, List.setIfInBounds_toArray, List.set_cons_zero, List.set_cons_succ]
                        refine wpAnyH_take (i := 36) (oi := ?oi36T9) (v := ?v36T9) ?oi0_36T9 (by as_aux_lemma => kernel_rfl) ?ff36T9 ?rr36T9 ?hq36T9 (Or.inl ⟨?hw36T9, ?hy36T9⟩) (by assumption) ?rest36T9
                        case oi0_36T9 =>
                          conv =>
                            lhs
                            whnf
                            arg 1
                            whnf
                        case hq36T9 => exact fun _ _ _ h => h
                        case ff36T9 => as_aux_lemma => kernel_rfl
                        case rr36T9 => as_aux_lemma => kernel_rfl
                        case hw36T9 => rfl
                        case hy36T9 =>
                          intro w hSw
                          (try dsimp only at hSw)
                          first
                          | (go_simp; done)
                          | (go_simp; with_reducible rfl)
                        try simp only [Act.put, List.setIfInBounds_toArray, List.set_cons_zero, List.set_cons_succ]
                        refine wpAnyH_take (i := 37) (oi := ?oi37T9) (v := ?v37T9) ?oi0_37T9 (by as_aux_lemma => kernel_rfl) ?ff37T9 ?rr37T9 ?hq37T9 (Or.inl ⟨?hw37T9, ?hy37T9⟩) (by assumption) ?rest37T9
                        case oi0_37T9 =>
                          conv =>
                            lhs
                            whnf
                            arg 1
                            whnf
                        case hq37T9 => exact fun _ _ _ h => h
                        case ff37T9 => as_aux_lemma => kernel_rfl
                        case rr37T9 => as_aux_lemma => kernel_rfl
                        case hw37T9 => rfl
                        case hy37T9 =>
                          intro w hSw
                          (try dsimp only at hSw)
                          first
                          | (go_simp; done)
                          | (go_simp; with_reducible rfl)
                        try simp only [Act.put, List.setIfInBounds_toArray, List.set_cons_zero, List.set_cons_succ]
                        refine wpAnyH_take (i := 38) (oi := ?oi38T9) (v := ?v38T9) ?oi0_38T9 (by as_aux_lemma => kernel_rfl) ?ff38T9 ?rr38T9 ?hq38T9 (Or.inl ⟨?hw38T9, ?hy38T9⟩) (by assumption) ?rest38T9
                        case oi0_38T9 =>
                          conv =>
                            lhs
                            whnf
                            arg 1
                            whnf
                        case hq38T9 => exact fun _ _ _ h => h
                        case ff38T9 => as_aux_lemma => kernel_rfl
                        case rr38T9 => as_aux_lemma => kernel_rfl
                        case hw38T9 => rfl
                        case hy38T9 =>
                          intro w hSw
                          (try dsimp only at hSw)
                          first
                          | (go_simp; done)
                          | (go_simp; with_reducible rfl)
                        try simp only [Act.put, List.setIfInBounds_toArray, List.set_cons_zero, List.set_cons_succ]
                        refine wpAnyH_take (i := 39) (oi := ?oi39T9) (v := ?v39T9) ?oi0_39T9 (by as_aux_lemma => kernel_rfl) ?ff39T9 ?rr39T9 ?hq39T9 (Or.inl ⟨?hw39T9, ?hy39T9⟩) (by assumption) ?rest39T9
                        case oi0_39T9 =>
                          conv =>
                            lhs
                            whnf
                            arg 1
                            whnf
                        case hq39T9 => exact fun _ _ _ h => h
                        case ff39T9 => as_aux_lemma => kernel_rfl
                        case rr39T9 => as_aux_lemma => kernel_rfl
                        case hw39T9 => rfl
                        case hy39T9 =>
                          intro w hSw
                          (try dsimp only at hSw)
                          first
                          | (go_simp; done)
                          | (go_simp; with_reducible rfl)
                        try simp only [Act.put, List.setIfInBounds_toArray, List.set_cons_zero, List.set_cons_succ]
                        refine wpAnyH_take (i := 40) (oi := ?oi40T9) (v := ?v40T9) ?oi0_40T9 (by as_aux_lemma => kernel_rfl) ?ff40T9 ?rr40T9 ?hq40T9 (Or.inl ⟨?hw40T9, ?hy40T9⟩) (by assumption) ?rest40T9
                        case oi0_40T9 =>
                          conv =>
                            lhs
                            whnf
                            arg 1
                            whnf
                        case hq40T9 => exact fun _ _ _ h => h
                        case ff40T9 => as_aux_lemma => kernel_rfl
                        case rr40T9 => as_aux_lemma => kernel_rfl
                        case hw40T9 => rfl
                        case hy40T9 =>
                          intro w hSw
                          (try dsimp only at hSw)
                          first
                          | (go_simp; done)
                          | (go_simp; with_reducible rfl)
                        try simp only [Act.put, List.setIfInBounds_toArray, List.set_cons_zero, List.set_cons_succ]
                        refine wpAnyH_take (i := 41) (oi := ?oi41T9) (v := ?v41T9) ?oi0_41T9 (by as_aux_lemma => kernel_rfl) ?ff41T9 ?rr41T9 ?hq41T9 (Or.inl ⟨?hw41T9, ?hy41T9⟩) (by assumption) ?rest41T9
                        case oi0_41T9 =>
                          conv =>
                            lhs
                            whnf
                            arg 1
                            whnf
                        case hq41T9 => exact fun _ _ _ h => h
                        case ff41T9 => as_aux_lemma => kernel_rfl
                        case rr41T9 => as_aux_lemma => kernel_rfl
                        case hw41T9 => rfl
                        case hy41T9 =>
                          intro w hSw
                          (try dsimp only at hSw)
                          first
                          | (go_simp; done)
                          | (go_simp; with_reducible rfl)
                        try simp only [Act.put, List.setIfInBounds_toArray, List.set_cons_zero, List.set_cons_succ]
                        refine wpAnyH_take (i := 42) (oi := ?oi42T9) (v := ?v42T9) ?oi0_42T9 (by as_aux_lemma => kernel_rfl) ?ff42T9 ?rr42T9 ?hq42T9 (Or.inl ⟨?hw42T9, ?hy42T9⟩) (by assumption) ?rest42T9
                        case oi0_42T9 =>
                          conv =>
                            lhs
                            whnf
                            arg 1
                            whnf
                        case hq42T9 => exact fun _ _ _ h => h
                        case ff42T9 => as_aux_lemma => kernel_rfl
                        case rr42T9 => as_aux_lemma => kernel_rfl
                        case hw42T9 => rfl
                        case hy42T9 =>
                          intro w hSw
                          (try dsimp only at hSw)
                          first
                          | (go_simp; done)
                          | (go_simp; with_reducible rfl)
                        try simp only [Act.put, List.setIfInBounds_toArray, List.set_cons_zero, List.set_cons_succ]
                        refine wpAnyH_ready (rs := [24]) (by as_aux_lemma => kernel_rfl) (by simp) (AllReadyH.cons (o := ?oi24T9) ?oi0_24T9 (fun K hK => ?_) AllReadyH.nil)
                        case oi0_24T9 =>
                          conv =>
                            lhs
                            whnf
                            arg 1
                            whnf
                        go_simp
                        refine (HA.out _).mono ?_
                        rintro e w' ⟨rfl, rfl⟩
                        (try dsimp only)
                        refine hK.out _ _ (by assumption) (fun hHeld => ?_)
                        clear hK K
                        try simp only [Act.put, List.setIfInBounds_toArray, List.set_cons_zero, List.set_cons_succ]
                        refine wpAnyH_take (i := 35) (oi := ?oi35T9) (v := ?v35T9) ?oi0_35T9 (by as_aux_lemma => kernel_rfl) ?ff35T9 ?rr35T9 ?hq35T9 (Or.inl ⟨?hw35T9, ?hy35T9⟩) (by assumption) ?rest35T9
                        case oi0_35T9 =>
                          conv =>
                            lhs
                            whnf
                            arg 1
                            whnf
                        case hq35T9 => exact fun _ _ _ h => h
                        case ff35T9 => as_aux_lemma => kernel_rfl
                        case rr35T9 => as_aux_lemma => kernel_rfl
                        case hw35T9 => rfl
                        case hy35T9 =>
                          intro w hSw
                          (try dsimp only at hSw)
                          first
                          | (go_simp; done)
                          | (go_simp; with_reducible rfl)
                        try simp only [Act.put, List.setIfInBounds_toArray, List.set_cons_zero, List.set_cons_succ]
                        refine wpAnyH_take (i := 43) (oi := ?oi43T9) (v := ?v43T9) ?oi0_43T9 (by as_aux_lemma => kernel_rfl) ?ff43T9 ?rr43T9 ?hq43T9 (Or.inl ⟨?hw43T9, ?hy43T9⟩) (by assumption) ?rest43T9
                        case oi0_43T9 =>
                          conv =>
                            lhs
                            whnf
                            arg 1
                            whnf
                        case hq43T9 => exact fun _ _ _ h => h
                        case ff43T9 => as_aux_lemma => kernel_rfl
                        case rr43T9 => as_aux_lemma => kernel_rfl
                        case hw43T9 => rfl
                        case hy43T9 =>
                          intro w hSw
                          (try dsimp only at hSw)
                          first
                          | (go_simp; done)
                          | (go_simp; with_reducible rfl)
                        try simp only [Act.put, List.setIfInBounds_toArray, List.set_cons_zero, List.set_cons_succ]
                        refine wpAnyH_take (i := 44) (oi := ?oi44T9) (v := ?v44T9) ?oi0_44T9 (by as_aux_lemma => kernel_rfl) ?ff44T9 ?rr44T9 ?hq44T9 (Or.inl ⟨?hw44T9, ?hy44T9⟩) (by assumption) ?rest44T9
                        case oi0_44T9 =>
                          conv =>
                            lhs
                            whnf
                            arg 1
                            whnf
                        case hq44T9 => exact fun _ _ _ h => h
                        case ff44T9 => as_aux_lemma => kernel_rfl
                        case rr44T9 => as_aux_lemma => kernel_rfl
                        case hw44T9 => rfl
                        case hy44T9 =>
                          intro w hSw
                          (try dsimp only at hSw)
                          first
                          | (go_simp; done)
                          | (go_simp; with_reducible rfl)
                        try simp only [Act.put, List.setIfInBounds_toArray, List.set_cons_zero, List.set_cons_succ]
                        refine wpAnyH_done (by as_aux_lemma => kernel_rfl) ?_ _
                        go_wp2_with fail
                        go_roundw
                        case rel => exact ⟨q + 1, -1, by omega, by go_num, by go_num, .inl ⟨rfl, HN.out⟩, own_kept hrow.out ((Upd.refl [] wq).drew) (by simp), hv.out.drew⟩
                        case measure => simp [intOf] <;> omega
                  · rw [show encL (leastS (tn : Int) (l.drop i1) (y : Int)) = -1 from if_neg hl2] at g6
                    have HN := hide (HSTEP.out (decide_eq_false (by have := awayS_nonneg z p.want; have : lvi < never := (by unfold never; omega); omega)))
                    clear hl2
                    as_aux_lemma =>
                      go_wp2_with fail
                      refine wp_region_held_drew (S := (fun w' => w'.cell? ⟨b, o + i * 3 + 1, none⟩ = some (.int .i64 p.want) ∧ w'.cell? ⟨T, i1, none⟩ = some (.slice (some ⟨B1, 0, none⟩) 3601 3601) ∧ w'.cell? ⟨B1, y, none⟩ = some (.int .i64 (-1)) ∧ w'.cell? ⟨T, i, none⟩ = some (.slice (some ⟨Bi, 0, none⟩) 3601 3601) ∧ w'.cell? ⟨Bi, sn, none⟩ = some (.int .i64 lvi))) (by as_aux_lemma => kernel_rfl) (by exact ⟨g2, g5, g6, g3, g4⟩) (fun hHeld => ?_)
                      refine wpAnyH_take (i := 0) (oi := ?oi0T7) (v := ?v0T7) ?oi0_0T7 (by as_aux_lemma => kernel_rfl) ?ff0T7 ?rr0T7 ?hq0T7 (Or.inl ⟨?hw0T7, ?hy0T7⟩) (by assumption) ?rest0T7
                      case oi0_0T7 =>
                        conv =>
                          lhs
                          whnf
                          arg 1
                          whnf
                      case hq0T7 => exact fun _ _ _ h => h
                      case ff0T7 => as_aux_lemma => kernel_rfl
                      case rr0T7 => as_aux_lemma => kernel_rfl
                      case hw0T7 => rfl
                      case hy0T7 =>
                        intro w hSw
                        (try dsimp only at hSw)
                        first
                        | (go_simp; done)
                        | (go_simp; with_reducible rfl)
                      try simp only [Act.put, List.setIfInBounds_toArray, List.set_cons_zero, List.set_cons_succ]
                      refine wpAnyH_take (i := 1) (oi := ?oi1T7) (v := ?v1T7) ?oi0_1T7 (by as_aux_lemma => kernel_rfl) ?ff1T7 ?rr1T7 ?hq1T7 (Or.inl ⟨?hw1T7, ?hy1T7⟩) (by assumption) ?rest1T7
                      case oi0_1T7 =>
                        conv =>
                          lhs
                          whnf
                          arg 1
                          whnf
                      case hq1T7 => exact fun _ _ _ h => h
                      case ff1T7 => as_aux_lemma => kernel_rfl
                      case rr1T7 => as_aux_lemma => kernel_rfl
                      case hw1T7 => rfl
                      case hy1T7 =>
                        intro w hSw
                        (try dsimp only at hSw)
                        first
                        | (go_simp; done)
                        | (go_simp; with_reducible rfl)
                      try simp only [Act.put, List.setIfInBounds_toArray, List.set_cons_zero, List.set_cons_succ]
                      refine wpAnyH_take (i := 2) (oi := ?oi2T7) (v := ?v2T7) ?oi0_2T7 (by as_aux_lemma => kernel_rfl) ?ff2T7 ?rr2T7 ?hq2T7 (Or.inl ⟨?hw2T7, ?hy2T7⟩) (by assumption) ?rest2T7
                      case oi0_2T7 =>
                        conv =>
                          lhs
                          whnf
                          arg 1
                          whnf
                      case hq2T7 => exact fun _ _ _ h => h
                      case ff2T7 => as_aux_lemma => kernel_rfl
                      case rr2T7 => as_aux_lemma => kernel_rfl
                      case hw2T7 => rfl
                      case hy2T7 =>
                        intro w hSw
                        (try dsimp only at hSw)
                        first
                        | (go_simp; done)
                        | (go_simp; with_reducible rfl)
                      try simp only [Act.put, List.setIfInBounds_toArray, List.set_cons_zero, List.set_cons_succ]
                      refine wpAnyH_take (i := 3) (oi := ?oi3T7) (v := ?v3T7) ?oi0_3T7 (by as_aux_lemma => kernel_rfl) ?ff3T7 ?rr3T7 ?hq3T7 (Or.inl ⟨?hw3T7, ?hy3T7⟩) (by assumption) ?rest3T7
                      case oi0_3T7 =>
                        conv =>
                          lhs
                          whnf
                          arg 1
                          whnf
                      case hq3T7 => exact fun _ _ _ h => h
                      case ff3T7 => as_aux_lemma => kernel_rfl
                      case rr3T7 => as_aux_lemma => kernel_rfl
                      case hw3T7 => rfl
                      case hy3T7 =>
                        intro w hSw
                        (try dsimp only at hSw)
                        first
                        | (go_simp; done)
                        | (go_simp; with_reducible rfl)
                      try simp only [Act.put, List.setIfInBounds_toArray, List.set_cons_zero, List.set_cons_succ]
                      refine wpAnyH_take (i := 4) (oi := ?oi4T7) (v := ?v4T7) ?oi0_4T7 (by as_aux_lemma => kernel_rfl) ?ff4T7 ?rr4T7 ?hq4T7 (Or.inl ⟨?hw4T7, ?hy4T7⟩) (by assumption) ?rest4T7
                      case oi0_4T7 =>
                        conv =>
                          lhs
                          whnf
                          arg 1
                          whnf
                      case hq4T7 => exact fun _ _ _ h => h
                      case ff4T7 => as_aux_lemma => kernel_rfl
                      case rr4T7 => as_aux_lemma => kernel_rfl
                      case hw4T7 => rfl
                      case hy4T7 =>
                        intro w hSw
                        (try dsimp only at hSw)
                        first
                        | (go_simp; done)
                        | (go_simp; with_reducible rfl)
                      try simp only [Act.put, List.setIfInBounds_toArray, List.set_cons_zero, List.set_cons_succ]
                      refine wpAnyH_take (i := 5) (oi := ?oi5T7) (v := ?v5T7) ?oi0_5T7 (by as_aux_lemma => kernel_rfl) ?ff5T7 ?rr5T7 ?hq5T7 (Or.inl ⟨?hw5T7, ?hy5T7⟩) (by assumption) ?rest5T7
                      case oi0_5T7 =>
                        conv =>
                          lhs
                          whnf
                          arg 1
                          whnf
                      case hq5T7 => exact fun _ _ _ h => h
                      case ff5T7 => as_aux_lemma => kernel_rfl
                      case rr5T7 => as_aux_lemma => kernel_rfl
                      case hw5T7 => rfl
                      case hy5T7 =>
                        intro w hSw
                        (try dsimp only at hSw)
                        first
                        | (go_simp; done)
                        | (go_simp; with_reducible rfl)
                      try simp only [Act.put, List.setIfInBounds_toArray, List.set_cons_zero, List.set_cons_succ]
                      refine wpAnyH_take (i := 6) (oi := ?oi6T7) (v := ?v6T7) ?oi0_6T7 (by as_aux_lemma => kernel_rfl) ?ff6T7 ?rr6T7 ?hq6T7 (Or.inl ⟨?hw6T7, ?hy6T7⟩) (by assumption) ?rest6T7
                      case oi0_6T7 =>
                        conv =>
                          lhs
                          whnf
                          arg 1
                          whnf
                      case hq6T7 => exact fun _ _ _ h => h
                      case ff6T7 => as_aux_lemma => kernel_rfl
                      case rr6T7 => as_aux_lemma => kernel_rfl
                      case hw6T7 => rfl
                      case hy6T7 =>
                        intro w hSw
                        (try dsimp only at hSw)
                        first
                        | (go_simp; done)
                        | (go_simp; with_reducible rfl)
                      try simp only [Act.put, List.setIfInBounds_toArray, List.set_cons_zero, List.set_cons_succ]
                      refine wpAnyH_take (i := 7) (oi := ?oi7T7) (v := ?v7T7) ?oi0_7T7 (by as_aux_lemma => kernel_rfl) ?ff7T7 ?rr7T7 ?hq7T7 (Or.inl ⟨?hw7T7, ?hy7T7⟩) (by assumption) ?rest7T7
                      case oi0_7T7 =>
                        conv =>
                          lhs
                          whnf
                          arg 1
                          whnf
                      case hq7T7 => exact fun _ _ _ h => h
                      case ff7T7 => as_aux_lemma => kernel_rfl
                      case rr7T7 => as_aux_lemma => kernel_rfl
                      case hw7T7 => rfl
                      case hy7T7 =>
                        intro w hSw
                        (try dsimp only at hSw)
                        first
                        | (go_simp; done)
                        | (go_simp; with_reducible rfl)
                      try simp only [Act.put, List.setIfInBounds_toArray, List.set_cons_zero, List.set_cons_succ]
                      refine wpAnyH_take (i := 8) (oi := ?oi8T7) (v := ?v8T7) ?oi0_8T7 (by as_aux_lemma => kernel_rfl) ?ff8T7 ?rr8T7 ?hq8T7 (Or.inl ⟨?hw8T7, ?hy8T7⟩) (by assumption) ?rest8T7
                      case oi0_8T7 =>
                        conv =>
                          lhs
                          whnf
                          arg 1
                          whnf
                      case hq8T7 => exact fun _ _ _ h => h
                      case ff8T7 => as_aux_lemma => kernel_rfl
                      case rr8T7 => as_aux_lemma => kernel_rfl
                      case hw8T7 => rfl
                      case hy8T7 =>
                        intro w hSw
                        (try dsimp only at hSw)
                        first
                        | (go_simp; done)
                        | (go_simp; with_reducible rfl)
                      try simp only [Act.put, List.setIfInBounds_toArray, List.set_cons_zero, List.set_cons_succ]
                      refine wpAnyH_take (i := 9) (oi := ?oi9T7) (v := ?v9T7) ?oi0_9T7 (by as_aux_lemma => kernel_rfl) ?ff9T7 ?rr9T7 ?hq9T7 (Or.inl ⟨?hw9T7, ?hy9T7⟩) (by assumption) ?rest9T7
                      case oi0_9T7 =>
                        conv =>
                          lhs
                          whnf
                          arg 1
                          whnf
                      case hq9T7 => exact fun _ _ _ h => h
                      case ff9T7 => as_aux_lemma => kernel_rfl
                      case rr9T7 => as_aux_lemma => kernel_rfl
                      case hw9T7 => rfl
                      case hy9T7 =>
                        intro w hSw
                        (try dsimp only at hSw)
                        first
                        | (go_simp; done)
                        | (go_simp; with_reducible rfl)
                      try simp only [Act.put, List.setIfInBounds_toArray, List.set_cons_zero, List.set_cons_succ]
                      refine wpAnyH_take (i := 10) (oi := ?oi10T7) (v := ?v10T7) ?oi0_10T7 (by as_aux_lemma => kernel_rfl) ?ff10T7 ?rr10T7 ?hq10T7 (Or.inl ⟨?hw10T7, ?hy10T7⟩) (by assumption) ?rest10T7
                      case oi0_10T7 =>
                        conv =>
                          lhs
                          whnf
                          arg 1
                          whnf
                      case hq10T7 => exact fun _ _ _ h => h
                      case ff10T7 => as_aux_lemma => kernel_rfl
                      case rr10T7 => as_aux_lemma => kernel_rfl
                      case hw10T7 => rfl
                      case hy10T7 =>
                        intro w hSw
                        (try dsimp only at hSw)
                        first
                        | (go_simp; done)
                        | (go_simp; with_reducible rfl)
                      try simp only [Act.put, List.setIfInBounds_toArray, List.set_cons_zero, List.set_cons_succ]
                      refine wpAnyH_take (i := 11) (oi := ?oi11T7) (v := ?v11T7) ?oi0_11T7 (by as_aux_lemma => kernel_rfl) ?ff11T7 ?rr11T7 ?hq11T7 (Or.inl ⟨?hw11T7, ?hy11T7⟩) (by assumption) ?rest11T7
                      case oi0_11T7 =>
                        conv =>
                          lhs
                          whnf
                          arg 1
                          whnf
                      case hq11T7 => exact fun _ _ _ h => h
                      case ff11T7 => as_aux_lemma => kernel_rfl
                      case rr11T7 => as_aux_lemma => kernel_rfl
                      case hw11T7 => rfl
                      case hy11T7 =>
                        intro w hSw
                        (try dsimp only at hSw)
                        first
                        | (go_simp; done)
                        | (go_simp; with_reducible rfl)
                      try simp only [Act.put, List.setIfInBounds_toArray, List.set_cons_zero, List.set_cons_succ]
                      refine wpAnyH_take (i := 12) (oi := ?oi12T7) (v := ?v12T7) ?oi0_12T7 (by as_aux_lemma => kernel_rfl) ?ff12T7 ?rr12T7 ?hq12T7 (Or.inl ⟨?hw12T7, ?hy12T7⟩) (by assumption) ?rest12T7
                      case oi0_12T7 =>
                        conv =>
                          lhs
                          whnf
                          arg 1
                          whnf
                      case hq12T7 => exact fun _ _ _ h => h
                      case ff12T7 => as_aux_lemma => kernel_rfl
                      case rr12T7 => as_aux_lemma => kernel_rfl
                      case hw12T7 => rfl
                      case hy12T7 =>
                        intro w hSw
                        (try dsimp only at hSw)
                        first
                        | (go_simp; done)
                        | (go_simp; with_reducible rfl)
                      try simp only [Act.put, List.setIfInBounds_toArray, List.set_cons_zero, List.set_cons_succ]
                      refine wpAnyH_take (i := 13) (oi := ?oi13T7) (v := ?v13T7) ?oi0_13T7 (by as_aux_lemma => kernel_rfl) ?ff13T7 ?rr13T7 ?hq13T7 (Or.inl ⟨?hw13T7, ?hy13T7⟩) (by assumption) ?rest13T7
                      case oi0_13T7 =>
                        conv =>
                          lhs
                          whnf
                          arg 1
                          whnf
                      case hq13T7 => exact fun _ _ _ h => h
                      case ff13T7 => as_aux_lemma => kernel_rfl
                      case rr13T7 => as_aux_lemma => kernel_rfl
                      case hw13T7 => rfl
                      case hy13T7 =>
                        intro w hSw
                        (try dsimp only at hSw)
                        first
                        | (go_simp; done)
                        | (go_simp; with_reducible rfl)
                      try simp only [Act.put, List.setIfInBounds_toArray, List.set_cons_zero, List.set_cons_succ]
                      refine wpAnyH_take (i := 14) (oi := ?oi14T7) (v := ?v14T7) ?oi0_14T7 (by as_aux_lemma => kernel_rfl) ?ff14T7 ?rr14T7 ?hq14T7 (Or.inl ⟨?hw14T7, ?hy14T7⟩) (by assumption) ?rest14T7
                      case oi0_14T7 =>
                        conv =>
                          lhs
                          whnf
                          arg 1
                          whnf
                      case hq14T7 => exact fun _ _ _ h => h
                      case ff14T7 => as_aux_lemma => kernel_rfl
                      case rr14T7 => as_aux_lemma => kernel_rfl
                      case hw14T7 => rfl
                      case hy14T7 =>
                        intro w hSw
                        (try dsimp only at hSw)
                        first
                        | (go_simp; done)
                        | (go_simp; with_reducible rfl)
                      try simp only [Act.put, List.setIfInBounds_toArray, List.set_cons_zero, List.set_cons_succ]
                      refine wpAnyH_take (i := 15) (oi := ?oi15T7) (v := ?v15T7) ?oi0_15T7 (by as_aux_lemma => kernel_rfl) ?ff15T7 ?rr15T7 ?hq15T7 (Or.inl ⟨?hw15T7, ?hy15T7⟩) (by assumption) ?rest15T7
                      case oi0_15T7 =>
                        conv =>
                          lhs
                          whnf
                          arg 1
                          whnf
                      case hq15T7 => exact fun _ _ _ h => h
                      case ff15T7 => as_aux_lemma => kernel_rfl
                      case rr15T7 => as_aux_lemma => kernel_rfl
                      case hw15T7 => rfl
                      case hy15T7 =>
                        intro w hSw
                        (try dsimp only at hSw)
                        first
                        | (go_simp; done)
                        | (go_simp; with_reducible rfl)
                      try simp only [Act.put, List.setIfInBounds_toArray, List.set_cons_zero, List.set_cons_succ]
                      refine wpAnyH_take (i := 16) (oi := ?oi16T7) (v := ?v16T7) ?oi0_16T7 (by as_aux_lemma => kernel_rfl) ?ff16T7 ?rr16T7 ?hq16T7 (Or.inl ⟨?hw16T7, ?hy16T7⟩) (by assumption) ?rest16T7
                      case oi0_16T7 =>
                        conv =>
                          lhs
                          whnf
                          arg 1
                          whnf
                      case hq16T7 => exact fun _ _ _ h => h
                      case ff16T7 => as_aux_lemma => kernel_rfl
                      case rr16T7 => as_aux_lemma => kernel_rfl
                      case hw16T7 => rfl
                      case hy16T7 =>
                        intro w hSw
                        (try dsimp only at hSw)
                        first
                        | (go_simp; done)
                        | (go_simp; with_reducible rfl)
                      try simp only [Act.put, List.setIfInBounds_toArray, List.set_cons_zero, List.set_cons_succ]
                      refine wpAnyH_take (i := 17) (oi := ?oi17T7) (v := ?v17T7) ?oi0_17T7 (by as_aux_lemma => kernel_rfl) ?ff17T7 ?rr17T7 ?hq17T7 (Or.inl ⟨?hw17T7, ?hy17T7⟩) (by assumption) ?rest17T7
                      case oi0_17T7 =>
                        conv =>
                          lhs
                          whnf
                          arg 1
                          whnf
                      case hq17T7 => exact fun _ _ _ h => h
                      case ff17T7 => as_aux_lemma => kernel_rfl
                      case rr17T7 => as_aux_lemma => kernel_rfl
                      case hw17T7 => rfl
                      case hy17T7 =>
                        intro w hSw
                        (try dsimp only at hSw)
                        first
                        | (go_simp; done)
                        | (go_simp; with_reducible rfl)
                      try simp only [Act.put, List.setIfInBounds_toArray, List.set_cons_zero, List.set_cons_succ]
                      refine wpAnyH_take (i := 18) (oi := ?oi18T7) (v := undef) ?oi0_18T7 (by as_aux_lemma => kernel_rfl) ?ff18T7 ?rr18T7 ?hq18T7 (Or.inr ⟨?hw18T7, rfl⟩) (by assumption) ?rest18T7
                      case oi0_18T7 =>
                        conv =>
                          lhs
                          whnf
                          arg 1
                          whnf
                      case hq18T7 => exact fun _ _ _ h => h
                      case ff18T7 => as_aux_lemma => kernel_rfl
                      case rr18T7 => as_aux_lemma => kernel_rfl
                      case hw18T7 => rfl
                      try simp only [Act.put, List.setIfInBounds_toArray, List.set_cons_zero, List.set_cons_succ]
                      refine wpAnyH_take (i := 19) (oi := ?oi19T7) (v := undef) ?oi0_19T7 (by as_aux_lemma => kernel_rfl) ?ff19T7 ?rr19T7 ?hq19T7 (Or.inr ⟨?hw19T7, rfl⟩) (by assumption) ?rest19T7
                      case oi0_19T7 =>
                        conv =>
                          lhs
                          whnf
                          arg 1
                          whnf
                      case hq19T7 => exact fun _ _ _ h => h
                      case ff19T7 => as_aux_lemma => kernel_rfl
                      case rr19T7 => as_aux_lemma => kernel_rfl
                      case hw19T7 => rfl
                      try simp only [Act.put, List.setIfInBounds_toArray, List.set_cons_zero, List.set_cons_succ]
                      refine wpAnyH_take (i := 20) (oi := ?oi20T7) (v := undef) ?oi0_20T7 (by as_aux_lemma => kernel_rfl) ?ff20T7 ?rr20T7 ?hq20T7 (Or.inr ⟨?hw20T7, rfl⟩) (by assumption) ?rest20T7
                      case oi0_20T7 =>
                        conv =>
                          lhs
                          whnf
                          arg 1
                          whnf
                      case hq20T7 => exact fun _ _ _ h => h
                      case ff20T7 => as_aux_lemma => kernel_rfl
                      case rr20T7 => as_aux_lemma => kernel_rfl
                      case hw20T7 => rfl
                      try simp only [Act.put, List.setIfInBounds_toArray, List.set_cons_zero, List.set_cons_succ]
                      refine wpAnyH_take (i := 21) (oi := ?oi21T7) (v := undef) ?oi0_21T7 (by as_aux_lemma => kernel_rfl) ?ff21T7 ?rr21T7 ?hq21T7 (Or.inr ⟨?hw21T7, rfl⟩) (by assumption) ?rest21T7
                      case oi0_21T7 =>
                        conv =>
                          lhs
                          whnf
                          arg 1
                          whnf
                      case hq21T7 => exact fun _ _ _ h => h
                      case ff21T7 => as_aux_lemma => kernel_rfl
                      case rr21T7 => as_aux_lemma => kernel_rfl
                      case hw21T7 => rfl
                      try simp only [Act.put, List.setIfInBounds_toArray, List.set_cons_zero, List.set_cons_succ]
                      refine wpAnyH_take (i := 22) (oi := ?oi22T7) (v := undef) ?oi0_22T7 (by as_aux_lemma => kernel_rfl) ?ff22T7 ?rr22T7 ?hq22T7 (Or.inr ⟨?hw22T7, rfl⟩) (by assumption) ?rest22T7
                      case oi0_22T7 =>
                        conv =>
                          lhs
                          whnf
                          arg 1
                          whnf
                      case hq22T7 => exact fun _ _ _ h => h
                      case ff22T7 => as_aux_lemma => kernel_rfl
                      case rr22T7 => as_aux_lemma => kernel_rfl
                      case hw22T7 => rfl
                      try simp only [Act.put, List.setIfInBounds_toArray, List.set_cons_zero, List.set_cons_succ]
                      refine wpAnyH_take (i := 23) (oi := ?oi23T7) (v := undef) ?oi0_23T7 (by as_aux_lemma => kernel_rfl) ?ff23T7 ?rr23T7 ?hq23T7 (Or.inr ⟨?hw23T7, rfl⟩) (by assumption) ?rest23T7
                      case oi0_23T7 =>
                        conv =>
                          lhs
                          whnf
                          arg 1
                          whnf
                      case hq23T7 => exact fun _ _ _ h => h
                      case ff23T7 => as_aux_lemma => kernel_rfl
                      case rr23T7 => as_aux_lemma => kernel_rfl
                      case hw23T7 => rfl
                      try simp only [Act.put, List.setIfInBounds_toArray, List.set_cons_zero, List.set_cons_succ]
                      refine wpAnyH_take (i := 25) (oi := ?oi25T7) (v := undef) ?oi0_25T7 (by as_aux_lemma => kernel_rfl) ?ff25T7 ?rr25T7 ?hq25T7 (Or.inr ⟨?hw25T7, rfl⟩) (by assumption) ?rest25T7
                      case oi0_25T7 =>
                        conv =>
                          lhs
                          whnf
                          arg 1
                          whnf
                      case hq25T7 => exact fun _ _ _ h => h
                      case ff25T7 => as_aux_lemma => kernel_rfl
                      case rr25T7 => as_aux_lemma => kernel_rfl
                      case hw25T7 => rfl
                      try simp only [Act.put, List.setIfInBounds_toArray, List.set_cons_zero, List.set_cons_succ]
                      refine wpAnyH_take (i := 26) (oi := ?oi26T7) (v := undef) ?oi0_26T7 (by as_aux_lemma => kernel_rfl) ?ff26T7 ?rr26T7 ?hq26T7 (Or.inr ⟨?hw26T7, rfl⟩) (by assumption) ?rest26T7
                      case oi0_26T7 =>
                        conv =>
                          lhs
                          whnf
                          arg 1
                          whnf
                      case hq26T7 => exact fun _ _ _ h => h
                      case ff26T7 => as_aux_lemma => kernel_rfl
                      case rr26T7 => as_aux_lemma => kernel_rfl
                      case hw26T7 => rfl
                      try simp only [Act.put, List.setIfInBounds_toArray, List.set_cons_zero, List.set_cons_succ]
                      refine wpAnyH_take (i := 27) (oi := ?oi27T7) (v := undef) ?oi0_27T7 (by as_aux_lemma => kernel_rfl) ?ff27T7 ?rr27T7 ?hq27T7 (Or.inr ⟨?hw27T7, rfl⟩) (by assumption) ?rest27T7
                      case oi0_27T7 =>
                        conv =>
                          lhs
                          whnf
                          arg 1
                          whnf
                      case hq27T7 => exact fun _ _ _ h => h
                      case ff27T7 => as_aux_lemma => kernel_rfl
                      case rr27T7 => as_aux_lemma => kernel_rfl
                      case hw27T7 => rfl
                      try simp only [Act.put, List.setIfInBounds_toArray, List.set_cons_zero, List.set_cons_succ]
                      refine wpAnyH_take (i := 28) (oi := ?oi28T7) (v := undef) ?oi0_28T7 (by as_aux_lemma => kernel_rfl) ?ff28T7 ?rr28T7 ?hq28T7 (Or.inr ⟨?hw28T7, rfl⟩) (by assumption) ?rest28T7
                      case oi0_28T7 =>
                        conv =>
                          lhs
                          whnf
                          arg 1
                          whnf
                      case hq28T7 => exact fun _ _ _ h => h
                      case ff28T7 => as_aux_lemma => kernel_rfl
                      case rr28T7 => as_aux_lemma => kernel_rfl
                      case hw28T7 => rfl
                      try simp only [Act.put, List.setIfInBounds_toArray, List.set_cons_zero, List.set_cons_succ]
                      refine wpAnyH_take (i := 29) (oi := ?oi29T7) (v := undef) ?oi0_29T7 (by as_aux_lemma => kernel_rfl) ?ff29T7 ?rr29T7 ?hq29T7 (Or.inr ⟨?hw29T7, rfl⟩) (by assumption) ?rest29T7
                      case oi0_29T7 =>
                        conv =>
                          lhs
                          whnf
                          arg 1
                          whnf
                      case hq29T7 => exact fun _ _ _ h => h
                      case ff29T7 => as_aux_lemma => kernel_rfl
                      case rr29T7 => as_aux_lemma => kernel_rfl
                      case hw29T7 => rfl
                      try simp only [Act.put, List.setIfInBounds_toArray, List.set_cons_zero, List.set_cons_succ]
                      refine wpAnyH_take (i := 30) (oi := ?oi30T7) (v := undef) ?oi0_30T7 (by as_aux_lemma => kernel_rfl) ?ff30T7 ?rr30T7 ?hq30T7 (Or.inr ⟨?hw30T7, rfl⟩) (by assumption) ?rest30T7
                      case oi0_30T7 =>
                        conv =>
                          lhs
                          whnf
                          arg 1
                          whnf
                      case hq30T7 => exact fun _ _ _ h => h
                      case ff30T7 => as_aux_lemma => kernel_rfl
                      case rr30T7 => as_aux_lemma => kernel_rfl
                      case hw30T7 => rfl
                      try simp only [Act.put, List.setIfInBounds_toArray, List.set_cons_zero, List.set_cons_succ]
                      refine wpAnyH_take (i := 31) (oi := ?oi31T7) (v := undef) ?oi0_31T7 (by as_aux_lemma => kernel_rfl) ?ff31T7 ?rr31T7 ?hq31T7 (Or.inr ⟨?hw31T7, rfl⟩) (by assumption) ?rest31T7
                      case oi0_31T7 =>
                        conv =>
                          lhs
                          whnf
                          arg 1
                          whnf
                      case hq31T7 => exact fun _ _ _ h => h
                      case ff31T7 => as_aux_lemma => kernel_rfl
                      case rr31T7 => as_aux_lemma => kernel_rfl
                      case hw31T7 => rfl
                      try simp only [Act.put, List.setIfInBounds_toArray, List.set_cons_zero, List.set_cons_succ]
                      refine wpAnyH_take (i := 32) (oi := ?oi32T7) (v := undef) ?oi0_32T7 (by as_aux_lemma => kernel_rfl) ?ff32T7 ?rr32T7 ?hq32T7 (Or.inr ⟨?hw32T7, rfl⟩) (by assumption) ?rest32T7
                      case oi0_32T7 =>
                        conv =>
                          lhs
                          whnf
                          arg 1
                          whnf
                      case hq32T7 => exact fun _ _ _ h => h
                      case ff32T7 => as_aux_lemma => kernel_rfl
                      case rr32T7 => as_aux_lemma => kernel_rfl
                      case hw32T7 => rfl
                      try simp only [Act.put, List.setIfInBounds_toArray, List.set_cons_zero, List.set_cons_succ]
                      refine wpAnyH_take (i := 33) (oi := ?oi33T7) (v := undef) ?oi0_33T7 (by as_aux_lemma => kernel_rfl) ?ff33T7 ?rr33T7 ?hq33T7 (Or.inr ⟨?hw33T7, rfl⟩) (by assumption) ?rest33T7
                      case oi0_33T7 =>
                        conv =>
                          lhs
                          whnf
                          arg 1
                          whnf
                      case hq33T7 => exact fun _ _ _ h => h
                      case ff33T7 => as_aux_lemma => kernel_rfl
                      case rr33T7 => as_aux_lemma => kernel_rfl
                      case hw33T7 => rfl
                      try simp only [Act.put, List.setIfInBounds_toArray, List.set_cons_zero, List.set_cons_succ]
                      refine wpAnyH_take (i := 34) (oi := ?oi34T7) (v := undef) ?oi0_34T7 (by as_aux_lemma => kernel_rfl) ?ff34T7 ?rr34T7 ?hq34T7 (Or.inr ⟨?hw34T7, rfl⟩) (by assumption) ?rest34T7
                      case oi0_34T7 =>
                        conv =>
                          lhs
                          whnf
                          arg 1
                          whnf
                      case hq34T7 => exact fun _ _ _ h => h
                      case ff34T7 => as_aux_lemma => kernel_rfl
                      case rr34T7 => as_aux_lemma => kernel_rfl
                      case hw34T7 => rfl
                      try simp only [Act.put, List.setIfInBounds_toArray, List.set_cons_zero, List.set_cons_succ]
                      refine wpAnyH_take (i := 36) (oi := ?oi36T7) (v := undef) ?oi0_36T7 (by as_aux_lemma => kernel_rfl) ?ff36T7 ?rr36T7 ?hq36T7 (Or.inr ⟨?hw36T7, rfl⟩) (by assumption) ?rest36T7
                      case oi0_36T7 =>
                        conv =>
                          lhs
                          whnf
                          arg 1
                          whnf
                      case hq36T7 => exact fun _ _ _ h => h
                      case ff36T7 => as_aux_lemma => kernel_rfl
                      case rr36T7 => as_aux_lemma => kernel_rfl
                      case hw36T7 => rfl
                      try simp only [Act.put, List.setIfInBounds_toArray, List.set_cons_zero, List.set_cons_succ]
                      refine wpAnyH_take (i := 37) (oi := ?oi37T7) (v := undef) ?oi0_37T7 (by as_aux_lemma => kernel_rfl) ?ff37T7 ?rr37T7 ?hq37T7 (Or.inr ⟨?hw37T7, rfl⟩) (by assumption) ?rest37T7
                      case oi0_37T7 =>
                        conv =>
                          lhs
                          whnf
                          arg 1
                          whnf
                      case hq37T7 => exact fun _ _ _ h => h
                      case ff37T7 => as_aux_lemma => kernel_rfl
                      case rr37T7 => as_aux_lemma => kernel_rfl
                      case hw37T7 => rfl
                      try simp only [Act.put, List.setIfInBounds_toArray, List.set_cons_zero, List.set_cons_succ]
                      refine wpAnyH_take (i := 38) (oi := ?oi38T7) (v := undef) ?oi0_38T7 (by as_aux_lemma => kernel_rfl) ?ff38T7 ?rr38T7 ?hq38T7 (Or.inr ⟨?hw38T7, rfl⟩) (by assumption) ?rest38T7
                      case oi0_38T7 =>
                        conv =>
                          lhs
                          whnf
                          arg 1
                          whnf
                      case hq38T7 => exact fun _ _ _ h => h
                      case ff38T7 => as_aux_lemma => kernel_rfl
                      case rr38T7 => as_aux_lemma => kernel_rfl
                      case hw38T7 => rfl
                      try simp only [Act.put, List.setIfInBounds_toArray, List.set_cons_zero, List.set_cons_succ]
                      refine wpAnyH_take (i := 39) (oi := ?oi39T7) (v := undef) ?oi0_39T7 (by as_aux_lemma => kernel_rfl) ?ff39T7 ?rr39T7 ?hq39T7 (Or.inr ⟨?hw39T7, rfl⟩) (by assumption) ?rest39T7
                      case oi0_39T7 =>
                        conv =>
                          lhs
                          whnf
                          arg 1
                          whnf
                      case hq39T7 => exact fun _ _ _ h => h
                      case ff39T7 => as_aux_lemma => kernel_rfl
                      case rr39T7 => as_aux_lemma => kernel_rfl
                      case hw39T7 => rfl
                      try simp only [Act.put, List.setIfInBounds_toArray, List.set_cons_zero, List.set_cons_succ]
                      refine wpAnyH_take (i := 40) (oi := ?oi40T7) (v := undef) ?oi0_40T7 (by as_aux_lemma => kernel_rfl) ?ff40T7 ?rr40T7 ?hq40T7 (Or.inr ⟨?hw40T7, rfl⟩) (by assumption) ?rest40T7
                      case oi0_40T7 =>
                        conv =>
                          lhs
                          whnf
                          arg 1
                          whnf
                      case hq40T7 => exact fun _ _ _ h => h
                      case ff40T7 => as_aux_lemma => kernel_rfl
                      case rr40T7 => as_aux_lemma => kernel_rfl
                      case hw40T7 => rfl
                      try simp only [Act.put, List.setIfInBounds_toArray, List.set_cons_zero, List.set_cons_succ]
                      refine wpAnyH_take (i := 41) (oi := ?oi41T7) (v := undef) ?oi0_41T7 (by as_aux_lemma => kernel_rfl) ?ff41T7 ?rr41T7 ?hq41T7 (Or.inr ⟨?hw41T7, rfl⟩) (by assumption) ?rest41T7
                      case oi0_41T7 =>
                        conv =>
                          lhs
                          whnf
                          arg 1
                          whnf
                      case hq41T7 => exact fun _ _ _ h => h
                      case ff41T7 => as_aux_lemma => kernel_rfl
                      case rr41T7 => as_aux_lemma => kernel_rfl
                      case hw41T7 => rfl
                      try simp only [Act.put, List.setIfInBounds_toArray, List.set_cons_zero, List.set_cons_succ]
                      refine wpAnyH_take (i := 42) (oi := ?oi42T7) (v := undef) ?oi0_42T7 (by as_aux_lemma => kernel_rfl) ?ff42T7 ?rr42T7 ?hq42T7 (Or.inr ⟨?hw42T7, rfl⟩) (by assumption) ?rest42T7
                      case oi0_42T7 =>
                        conv =>
                          lhs
                          whnf
                          arg 1
                          whnf
                      case hq42T7 => exact fun _ _ _ h => h
                      case ff42T7 => as_aux_lemma => kernel_rfl
                      case rr42T7 => as_aux_lemma => kernel_rfl
                      case hw42T7 => rfl
                      try simp only [Act.put, List.setIfInBounds_toArray, List.set_cons_zero, List.set_cons_succ]
                      refine wpAnyH_ready (rs := [24]) (by as_aux_lemma => kernel_rfl) (by simp) (AllReadyH.cons (o := ?oi24T7) ?oi0_24T7 (fun K hK => ?_) AllReadyH.nil)
                      case oi0_24T7 =>
                        conv =>
                          lhs
                          whnf
                          arg 1
                          whnf
                      rw [if_neg (by first | (simp [Region.wanted, yielded]; done) | (simp [Region.wanted, yielded]; exact fun h => nomatch (show (none : Option Bool) = some true from h)))]
                      refine hK.out _ _ (by assumption) (fun _ => ?_)
                      clear hK K
                      try simp only [Act.put, List.setIfInBounds_toArray, List.set_cons_zero, List.set_cons_succ]
                      refine wpAnyH_take (i := 35) (oi := ?oi35T7) (v := undef) ?oi0_35T7 (by as_aux_lemma => kernel_rfl) ?ff35T7 ?rr35T7 ?hq35T7 (Or.inr ⟨?hw35T7, rfl⟩) (by assumption) ?rest35T7
                      case oi0_35T7 =>
                        conv =>
                          lhs
                          whnf
                          arg 1
                          whnf
                      case hq35T7 => exact fun _ _ _ h => h
                      case ff35T7 => as_aux_lemma => kernel_rfl
                      case rr35T7 => as_aux_lemma => kernel_rfl
                      case hw35T7 => rfl
                      try simp only [Act.put, List.setIfInBounds_toArray, List.set_cons_zero, List.set_cons_succ]
                      refine wpAnyH_take (i := 43) (oi := ?oi43T7) (v := undef) ?oi0_43T7 (by as_aux_lemma => kernel_rfl) ?ff43T7 ?rr43T7 ?hq43T7 (Or.inr ⟨?hw43T7, rfl⟩) (by assumption) ?rest43T7
                      case oi0_43T7 =>
                        conv =>
                          lhs
                          whnf
                          arg 1
                          whnf
                      case hq43T7 => exact fun _ _ _ h => h
                      case ff43T7 => as_aux_lemma => kernel_rfl
                      case rr43T7 => as_aux_lemma => kernel_rfl
                      case hw43T7 => rfl
                      try simp only [Act.put, List.setIfInBounds_toArray, List.set_cons_zero, List.set_cons_succ]
                      refine wpAnyH_take (i := 44) (oi := ?oi44T7) (v := ?v44T7) ?oi0_44T7 (by as_aux_lemma => kernel_rfl) ?ff44T7 ?rr44T7 ?hq44T7 (Or.inl ⟨?hw44T7, ?hy44T7⟩) (by assumption) ?rest44T7
                      case oi0_44T7 =>
                        conv =>
                          lhs
                          whnf
                          arg 1
                          whnf
                      case hq44T7 => exact fun _ _ _ h => h
                      case ff44T7 => as_aux_lemma => kernel_rfl
                      case rr44T7 => as_aux_lemma => kernel_rfl
                      case hw44T7 => rfl
                      case hy44T7 =>
                        intro w hSw
                        (try dsimp only at hSw)
                        first
                        | (go_simp; done)
                        | (go_simp; with_reducible rfl)
                      try simp only [Act.put, List.setIfInBounds_toArray, List.set_cons_zero, List.set_cons_succ]
                      refine wpAnyH_done (by as_aux_lemma => kernel_rfl) ?_ _
                      go_wp2_with fail
                      go_roundw
                      case rel => exact ⟨q + 1, -1, by omega, by go_num, by go_num, .inl ⟨rfl, HN.out⟩, own_kept hrow.out ((Upd.refl [] wq).drew) (by simp), hv.out.drew⟩
                      case measure => simp [intOf] <;> omega
              · have htk : tk = nn := by
                  rcases hinv.out with ⟨h1, h2⟩ | h
                  · exfalso
                    obtain ⟨x, hx, he⟩ := List.mem_iff_getElem.1 HMEM.out
                    have h3 := h2 x (by have := HPN.out; omega) nn (by rw [List.getElem?_eq_getElem hx, he])
                    have h4 := List.find?_some HF.out
                    rw [h3] at h4
                    cases h4
                  · exact h
                subst htk
                have hnn2 : decide (tk < 0) = false := decide_eq_false (by omega)
                have hnn3 : ¬ tk < 0 := by omega
                obtain ⟨y, hy⟩ : ∃ y : Nat, (sn : Int) + tk = (y : Int) := ⟨((sn : Int) + tk).toNat, by omega⟩
                have hyb : y ≤ 3600 := by
                  have h1 := HLT2.out
                  rw [hy] at h1
                  by_cases h2 : (tn : Int) < (y : Int)
                  · rw [leastS_far _ h2] at h1; omega
                  · omega
                have hw : IntKind.i64.wrap ((sn : Int) + tk) = (y : Int) := by rw [Go.IntWalk.i64_in _ (by omega)]; exact hy
                have HY := hide hy
                have O1 := hide (show ∀ u ∈ [Value.int .i64 tk], u.oneCell' = true by simp [Value.oneCell'])
                have O3 := hide (show m + 1 ≤ maxLen by unfold maxLen; omega)
                have O4 := hide (show (m + 1) * 8 ≤ 140737488355328 by omega)
                have OB := hide (hrow.out.alloc (.cells #[.int .i64 tk] 3))
                have OS := hide (show wo.heap.size ≤ (wq.alloc (.cells #[.int .i64 tk] 3)).heap.size by rw [World.size_alloc]; have := hv.out.size; omega)
                have hA : ∀ q ∈ (A.map (·.block)).toList, wo.heap.size ≤ q := fun q hq => (row_lt hrow.out q (by rw [ownBlock_slice]; simpa using hq)).1
                have HA := hide hA
                clear hA hy hinv
                by_cases hql : q < pn
                · have hqi : (q : Int) < pn := by omega
                  clear hgo
                  go_wp2_with (at_builtin; refine wpList_append_base rfl (.tmp 249) (.tmp 251) _ rfl wo.heap.size 3 _ 1 8 Try.underlying24 info_int rfl (by decide) A m cc _ rfl OB.out ⟨wq.heap.size, 0, none⟩ 1 1 [.int .i64 tk] rfl rfl (cell_one_new _ _ _) O1.out O3.out O4.out OS.out ?_; intro A2 c2 w2 h2 u2 a2; have H2 := hide h2; have U2 := hide u2; clear h2 u2 a2)
                  have V2 := hide (show Upd [] wo w2 from ((hv.out.alloc (.cells #[.int .i64 tk] 3)).trans U2.out (fun q hq => .inr (HA.out q hq))))
                  have HB2 := hide (show (bestS (tn : Int) (l.drop (i + 1)) (y : Int)).map ((done ++ [tk]) ++ ·) = some ns by
                    have h := hbs.out
                    rw [HDR.out, HI1.out, HBST.out, HY.out, Option.map_map] at h
                    rw [HI1.out, ← h]
                    congr 1
                    funext v
                    simp)
                  have HL3 := hide (show leastS (tn : Int) (l.drop (i + 1)) (y : Int) < never by
                    have h := HLT2.out
                    rw [HY.out] at h
                    rw [HI1.out]
                    exact h)
                  go_wp2_with fail
                  go_roundw
                  case rel => exact ⟨i + 1, y, A2, m + 1, c2, done ++ [tk], by omega, by omega, hyb, by omega, by go_num, rfl, by rw [HI1.out], HL3, HB2, hide (by rw [List.length_append, ← hm.out]; rfl), hide (by rw [List.map_append]; exact H2.out), V2⟩
                  case measure =>
                    have := HI1.out
                    simp [intOf] <;> omega
                · have hqi : ¬ (q : Int) < pn := by omega
                  clear hgo
                  go_wp2_with (at_builtin; refine wpList_append_base rfl (.tmp 249) (.tmp 251) _ rfl wo.heap.size 3 _ 1 8 Try.underlying24 info_int rfl (by decide) A m cc _ rfl OB.out ⟨wq.heap.size, 0, none⟩ 1 1 [.int .i64 tk] rfl rfl (cell_one_new _ _ _) O1.out O3.out O4.out OS.out ?_; intro A2 c2 w2 h2 u2 a2; have H2 := hide h2; have U2 := hide u2; clear h2 u2 a2)
                  have V2 := hide (show Upd [] wo w2 from ((hv.out.alloc (.cells #[.int .i64 tk] 3)).trans U2.out (fun q hq => .inr (HA.out q hq))))
                  have HB2 := hide (show (bestS (tn : Int) (l.drop (i + 1)) (y : Int)).map ((done ++ [tk]) ++ ·) = some ns by
                    have h := hbs.out
                    rw [HDR.out, HI1.out, HBST.out, HY.out, Option.map_map] at h
                    rw [HI1.out, ← h]
                    congr 1
                    funext v
                    simp)
                  have HL3 := hide (show leastS (tn : Int) (l.drop (i + 1)) (y : Int) < never by
                    have h := HLT2.out
                    rw [HY.out] at h
                    rw [HI1.out]
                    exact h)
                  go_wp2_with fail
                  go_roundw
                  case rel => exact ⟨i + 1, y, A2, m + 1, c2, done ++ [tk], by omega, by omega, hyb, by omega, by go_num, rfl, by rw [HI1.out], HL3, HB2, hide (by rw [List.length_append, ← hm.out]; rfl), hide (by rw [List.map_append]; exact H2.out), V2⟩
                  case measure =>
                    have := HI1.out
                    simp [intOf] <;> omega
          · obtain rfl : i = len := by omega
            have hil3 : ¬ (i : Int) < i := by omega
            have h1 := hbs.out
            rw [List.drop_of_length_le (by have := HZ.out; omega), bestS] at h1
            obtain rfl : done = ns := by simpa using h1
            have HROW9 := hide (show wp.ownsRow w.heap.size 3 1 (.slice A m cc) done.length (done.map (Value.int .i64)) from own_less (by rw [← hm.out]; exact hrow.out) HG0.out)
            have HU9 := hide (HU.out.trans hu.out (by simp))
            clear h1
            go_wp2_with fail
            go_ret3
            exact ⟨_, rfl, HROW9.out, HU9.out⟩
end Go.Proofs.Yteehjciepccomaa
