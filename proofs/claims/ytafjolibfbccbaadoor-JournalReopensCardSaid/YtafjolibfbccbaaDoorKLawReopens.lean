/-
  airchecklaw34.JournalReopens.
-/
import Derived.Test.YtafjolibfbccbaaDoorKStrs
namespace Go.Proofs.YtafjolibfbccbaaDoor
open Go.RowKit
set_option maxRecDepth 100000
set_option maxHeartbeats 8000000

theorem reopens_walk {ks : List Int} {a0 : Addr} (n : Int) (ga : Option Addr) (gn gc : Nat) (gs : List SRow) (w : World) (hl : Laid w.heap.size ks a0 w) (hn : (Lit.int .i64 n).wf = true) (hg : GrpsArg w ga gn gc gs) :
    Calls Tryd.prog 4 #[.int .i64 n, .slice ga gn gc] w fun e w' => e = .returned (.bool true) ∧ Below w.heap.size w w' := by
  have HL := hide hl
  have HG := hide hg
  have HN := hide hn
  clear hl hg hn
  obtain ⟨N, hN⟩ : ∃ N, sizeS n = N := ⟨_, rfl⟩
  have hNb := sizeS_in n
  rw [hN] at hNb
  have HZ := hide (fun W => size_law n W HN.out)
  rw [hN] at HZ
  clear hN
  go_enter Tryd.func4, Tryd.ntmps4
  go_wp2_with fail
  refine (sane_any w HL.out).mono ?_
  rintro e w1 ⟨rfl, hb1⟩
  have HB1 := hide hb1
  clear hb1
  go_wp2_with fail
  refine (HZ.out w1).mono ?_
  rintro e w' ⟨rfl, rfl⟩
  go_wp2_with fail
  refine (new_in N w.heap.size w w1 HB1.out HB1.out.size [] (by simp) hNb.1 (by omega)).mono ?_
  rintro e w2 ⟨g, rfl, d0, _, _⟩
  have C1 := open_in HL.out d0 (by simp [DiskS.fresh])
  rw [fresh_of, open_of ks [] (N - 0) (diskOf N []) rfl (by unfold diskOf bytesOf; simp [addL]) (by simp)] at C1
  have HC := hide C1
  clear d0 C1 HB1
  go_wp2_with fail
  refine HC.out.mono ?_
  rintro e w3 ⟨_, hj⟩
  try simp only at hj
  obtain ⟨jb, rfl, hj⟩ := hj
  have HJ := hide hj
  clear hj HC
  go_wp2_with fail
  go_loopw [10] (fun s10 wr => ∃ (k : Nat) (L : List (List UInt8)), k ≤ gn ∧ k ≤ 8 ∧ s10 = .int .i64 k ∧ Hid (lenL L ≤ N ∧ L.length ≤ 6 * k ∧ ∀ r ∈ L, r.length ≤ 65536) ∧ Hid (JIn w.heap.size [] w wr jb g (tapeOf ks L) false (diskOf N (bytesOf ks L)))) (fun s _ => 8 - (intOf s).toNat)
  case atStart => exact ⟨0, [], Nat.zero_le _, Nat.zero_le _, rfl, hide ⟨by rw [lenL_nil]; omega, by simp, by simp⟩, HJ⟩
  case round =>
    clear HJ
    obtain ⟨k, L, hk, hk8, rfl, hI, hJ⟩ := hrel
    obtain ⟨wo, rfl⟩ : ∃ x : World, x = wr := ⟨_, rfl⟩
    by_cases hin : k < gn ∧ k < 8
    case pos =>
      have hki : (k : Int) < gn := by omega
      have hk8i : (k : Int) < 8 := by omega
      have hkw : IntKind.i64.wrap ((k : Int) + 1) = (k : Int) + 1 := Go.IntWalk.i64_in _ (by omega)
      obtain ⟨x, hx⟩ : ∃ r, gs[k]? = some r := ⟨_, List.getElem?_eq_getElem (by have := HG.out.hlen; omega)⟩
      obtain ⟨xa, xn, xc, xl⟩ := x
      obtain ⟨gb, go, rfl, hc, hs⟩ := HG.out.at_ k _ hx
      simp only at hc hs
      have hbw := hJ.out.below
      have hrc : wo.cell? ⟨gb, go + k, none⟩ = some (.slice xa xn xc) := (hbw.cell (p := ⟨gb, go + k, none⟩) (World.block_lt_of_cell? _ _ hc)).trans hc
      have hx1 := hs.hcap
      have hx2 := hs.hmax
      have HF := hide (few_any xa xn xc xl wo hs.hlen (hs.at_.later hbw) hs.small (by omega))
      have hgm := HG.out.mx
      clear hx hc hs hbw hx1 hx2
      go_wp2_with fail
      refine HF.out.mono ?_
      rintro e w4 ⟨fa, fc, rfl, ho, u⟩
      have HJ4 := hide (hJ.out.step u (by simp))
      clear HF u
      obtain ⟨fl, hfl⟩ : ∃ x, fewS xl = x := ⟨_, rfl⟩
      have hf6 : fl.length ≤ 6 := by rw [← hfl]; unfold fewS; rw [List.length_map, List.length_take]; omega
      have hf1 : ∀ r ∈ fl, r.length ≤ 100 := by
        rw [← hfl]; unfold fewS; intro r hr; obtain ⟨s, _, rfl⟩ := List.mem_map.1 hr; rw [List.length_take]; omega
      rw [hfl] at ho ⊢
      have hst := strs_own ho
      obtain ⟨bl, hbl⟩ : ∃ x : List ByteArray, (fl.map fun r => (⟨r.toArray⟩ : ByteArray)) = x := ⟨_, rfl⟩
      rw [hbl] at hst
      have hbb : bytesL bl = fl := by rw [← hbl]; unfold bytesL; rw [List.map_map]; exact (List.map_congr_left (fun a _ => rfl)).trans (List.map_id fl)
      have hbn : bl.length = fl.length := by rw [← hbl, List.length_map]
      have hbs : ∀ s ∈ bl, s.size ≤ 100 := by
        intro s hs; rw [← hbl] at hs; obtain ⟨r, hr, rfl⟩ := List.mem_map.1 hs; exact (by have := hf1 r hr; simpa [ByteArray.size] using this)
      obtain ⟨fn, hfn⟩ : ∃ x, fl.length = x := ⟨_, rfl⟩
      rw [hfn] at hf6 hbn ⊢
      have HA := hide (append_in fa fn fc bl HL.out HJ4.out hbn (by omega) hst (fun s hs => by have := hbs s hs; omega) (by simp [diskOf]) (size_le ks N L hI.out.1) (by rw [tapeOf_head]; decide) (recs_le ks L (by have := hI.out.2.1; omega)))
      have hcase : ∃ L' er, appendS ks (tapeOf ks L) (diskOf N (bytesOf ks L)) false bl = (tapeOf ks L', diskOf N (bytesOf ks L'), false, er) ∧ lenL L' ≤ N ∧ L'.length ≤ 6 * (k + 1) ∧ ∀ r ∈ L', r.length ≤ 65536 := by
        have h65 : ∀ s ∈ bl, s.size ≤ 65536 := fun s hs => by have := hbs s hs; omega
        by_cases hfit : lenL L + lenL (bytesL bl) ≤ N
        · refine ⟨L ++ bytesL bl, 0, append_ok ks N L bl h65 hfit, by rw [lenL_append]; exact hfit, by rw [List.length_append, hbb, hfn]; have := hI.out.2.1; omega, fun r hr => ?_⟩
          rcases List.mem_append.1 hr with h | h
          · exact hI.out.2.2 r h
          · exact lens_of bl h65 r h
        · exact ⟨L, 341, append_full ks N L bl _ (diskOf_size _ _ (by rw [bytesOf_length]; exact hI.out.1)) h65 hI.out.1 (by omega), hI.out.1, by have := hI.out.2.1; omega, hI.out.2.2⟩
      obtain ⟨L', er, hap, hI'⟩ := hcase
      rw [hap] at HA
      have HI2 := hide hI'
      clear hap hI' hst hbl hbb hbn hbs hf1 hfl hfn ho hrc
      go_wp2_with fail
      refine HA.out.mono ?_
      rintro e w5 ⟨rfl, hj5, _⟩
      have HJ5 := hide hj5
      clear hj5 HA
      go_wp2_with fail
      go_roundw
      case rel => exact ⟨k + 1, L', by omega, by omega, by go_num, HI2, HJ5⟩
      case measure => simp [intOf] <;> omega
    have hgm := HG.out.mx
    have hend : (¬ (k : Int) < gn) ∨ ((k : Int) < gn ∧ ¬ (k : Int) < 8) := by omega
    clear hin hk
    have HJ := hJ
    clear hJ
    have hcut : (diskOf N (bytesOf ks L)).cut 1 = ({ off := false, left := 1, sure := bytesOf ks L ++ List.replicate (N - (bytesOf ks L).length) 0, vis := bytesOf ks L ++ List.replicate (N - (bytesOf ks L).length) 0, pend := [] }, 0) := rfl
    obtain ⟨D1, hD1⟩ : ∃ D1 : DiskS, D1 = { off := false, left := 1, sure := bytesOf ks L ++ List.replicate (N - (bytesOf ks L).length) 0, vis := bytesOf ks L ++ List.replicate (N - (bytesOf ks L).length) 0, pend := [] } := ⟨_, rfl⟩
    rw [← hD1] at hcut
    have HOP := hide (show OpenS ks D1 = (some (tapeOf ks L), D1, 0) by rw [hD1]; exact open_of ks L _ _ rfl rfl hI.out.2.2)
    have HOFF := hide (show D1.off = false by rw [hD1])
    have HPE := hide (show D1.pend.length = 0 by rw [hD1]; rfl)
    have hln := bytesOf_length ks L
    have HSU := hide (show D1.sure.length = N by rw [hD1]; simp; have := hI.out.1; omega)
    have HVI := hide (show D1.vis.length = N by rw [hD1]; simp; have := hI.out.1; omega)
    have HTS := hide (show (tapeOf ks L).size ≤ N by rw [tapeOf_size, hln]; exact hI.out.1)
    have HTN := hide (show (tapeOf ks L).recs = L from tapeOf_recs ks L)
    have HLN := hide (show L.length ≤ 1000000 by have := hI.out.2.1; omega)
    have HCU := hide (jcut_in 1 HJ.out (by omega))
    rw [hcut] at HCU
    clear hD1 hcut hln hI HJ hk8
    obtain ⟨T, hT⟩ : ∃ T, tapeOf ks L = T := ⟨_, rfl⟩
    rw [hT] at HOP HTS HTN HCU
    obtain ⟨rm, hrm⟩ : ∃ x, N - T.size = x := ⟨_, rfl⟩
    clear hT
    obtain ⟨ln, hLn⟩ : ∃ x, L.length = x := ⟨_, rfl⟩
    have hlnb : ln ≤ 1000000 := by rw [← hLn]; exact HLN.out
    have HLn := hide hLn
    have HRM := hide hrm
    clear hLn hrm HLN
    rcases hend with hki | ⟨hki, hk8i⟩
    case inr =>
      go_wp2_with fail
      refine HCU.out.mono ?_
      rintro e w4 ⟨rfl, hj4, _⟩
      have HJ4 := hide hj4
      clear hj4 HCU
      have C1 := reopen_in HL.out HJ4.out (by rw [HPE.out]; omega)
      rw [HOP.out] at C1
      have HC := hide C1
      clear C1
      go_wp2_with fail
      refine HC.out.mono ?_
      rintro e w5 ⟨_, _, hj⟩
      try simp only at hj
      obtain ⟨jc, A, c, rfl, ht, hj⟩ := hj
      have HJ5 := hide hj
      have HT5 := hide ht
      clear hj ht HC HJ4
      have HR := hide (records_in HJ5.out (by rw [HTN.out, HLn.out]; omega))
      rw [HTN.out, HLn.out] at HR
      go_wp2_with fail
      refine HR.out.mono ?_
      rintro e w6 ⟨ra, rc, rfl, ho6, u⟩
      have HJ6 := hide (HJ5.out.step u (by simp))
      have HT6 := hide (HT5.out.upd0 u)
      have HO6 := hide ho6
      clear ho6 u HR HJ5 HT5
      have HR := hide (records_any _ _ _ _ _ _ _ w6 HT6.out (by rw [HTN.out, HLn.out]; omega))
      rw [HTN.out, HLn.out] at HR
      go_wp2_with fail
      refine HR.out.mono ?_
      rintro e w7 ⟨sa, sc, rfl, ho7, u⟩
      have HJ7 := hide (HJ6.out.step u (by simp))
      have HT7 := hide (HT6.out.upd0 u)
      have HO6b := hide (own_kept HO6.out u (by simp))
      have HO7 := hide ho7
      clear ho7 u HR HJ6 HT6 HO6
      have HS := hide (same_any ra ln rc _ sa ln sc _ w7 (by rw [List.length_map]; exact HLn.out) (by rw [List.length_map]; exact HLn.out) (by omega) (by omega) (strs_own HO6b.out) (strs_own HO7.out))
      rw [show decide ((L.map fun r => (⟨r.toArray⟩ : ByteArray)) = (L.map fun r => (⟨r.toArray⟩ : ByteArray))) = true from decide_eq_true rfl] at HS
      go_wp2_with fail
      refine HS.out.mono ?_
      rintro e w8 ⟨rfl, u⟩
      have HJ8 := hide (HJ7.out.step u (by simp))
      have HT8 := hide (HT7.out.upd0 u)
      clear u HS HJ7 HT7 HO6b HO7
      have HR := hide (room_in HJ8.out (by rw [HSU.out]; exact HTS.out))
      rw [HSU.out, HRM.out] at HR
      go_wp2_with fail
      refine HR.out.mono ?_
      rintro e w9 ⟨rfl, u⟩
      have HJ9 := hide (HJ8.out.step u (by simp))
      have HT9 := hide (HT8.out.upd0 u)
      clear u HR HJ8 HT8
      have HR := hide (show Calls Tryd.prog 12 #[.pointer (some ⟨jc, 0, none⟩)] w9 _ from by
        have h9 := HJ9.out
        obtain ⟨_, _, F, _, hdk, _⟩ := h9
        exact room_any _ jc g A c T false w9 HT9.out hdk (by rw [HSU.out]; exact HTS.out))
      rw [HSU.out, HRM.out] at HR
      go_wp2_with fail
      refine HR.out.mono ?_
      rintro e w10 ⟨rfl, u⟩
      have HJ10 := hide (HJ9.out.step u (by simp))
      clear u HR HJ9 HT9
      have HR := hide (jpending_in HJ10.out)
      rw [HPE.out] at HR
      go_wp2_with fail
      refine HR.out.mono ?_
      rintro e w' ⟨rfl, rfl⟩
      clear HR
      have HR := hide (show Calls Tryd.prog 18 #[.pointer (some ⟨g, 0, none⟩)] w10 _ from by
        have h9 := HJ10.out
        obtain ⟨_, _, F, _, hdk, _⟩ := h9
        exact content_any w10 hdk HOFF.out)
      obtain ⟨cb, hcb⟩ : ∃ x : ByteArray, ⟨D1.vis.toArray⟩ = x := ⟨_, rfl⟩
      have hcs : cb.size = N := by rw [← hcb]; show D1.vis.toArray.size = N; rw [List.size_toArray]; exact HVI.out
      rw [hcb] at HR
      clear hcb
      go_wp2_with fail
      refine HR.out.mono ?_
      rintro e w' ⟨rfl, rfl⟩
      clear HR
      go_wp2_with fail
      refine (HZ.out w10).mono ?_
      rintro e w' ⟨rfl, rfl⟩
      go_wp2_with fail
      go_ret
      exact ⟨rfl, HJ10.out.below⟩
    case inl =>
      go_wp2_with fail
      refine HCU.out.mono ?_
      rintro e w4 ⟨rfl, hj4, _⟩
      have HJ4 := hide hj4
      clear hj4 HCU
      have C1 := reopen_in HL.out HJ4.out (by rw [HPE.out]; omega)
      rw [HOP.out] at C1
      have HC := hide C1
      clear C1
      go_wp2_with fail
      refine HC.out.mono ?_
      rintro e w5 ⟨_, _, hj⟩
      try simp only at hj
      obtain ⟨jc, A, c, rfl, ht, hj⟩ := hj
      have HJ5 := hide hj
      have HT5 := hide ht
      clear hj ht HC HJ4
      have HR := hide (records_in HJ5.out (by rw [HTN.out, HLn.out]; omega))
      rw [HTN.out, HLn.out] at HR
      go_wp2_with fail
      refine HR.out.mono ?_
      rintro e w6 ⟨ra, rc, rfl, ho6, u⟩
      have HJ6 := hide (HJ5.out.step u (by simp))
      have HT6 := hide (HT5.out.upd0 u)
      have HO6 := hide ho6
      clear ho6 u HR HJ5 HT5
      have HR := hide (records_any _ _ _ _ _ _ _ w6 HT6.out (by rw [HTN.out, HLn.out]; omega))
      rw [HTN.out, HLn.out] at HR
      go_wp2_with fail
      refine HR.out.mono ?_
      rintro e w7 ⟨sa, sc, rfl, ho7, u⟩
      have HJ7 := hide (HJ6.out.step u (by simp))
      have HT7 := hide (HT6.out.upd0 u)
      have HO6b := hide (own_kept HO6.out u (by simp))
      have HO7 := hide ho7
      clear ho7 u HR HJ6 HT6 HO6
      have HS := hide (same_any ra ln rc _ sa ln sc _ w7 (by rw [List.length_map]; exact HLn.out) (by rw [List.length_map]; exact HLn.out) (by omega) (by omega) (strs_own HO6b.out) (strs_own HO7.out))
      rw [show decide ((L.map fun r => (⟨r.toArray⟩ : ByteArray)) = (L.map fun r => (⟨r.toArray⟩ : ByteArray))) = true from decide_eq_true rfl] at HS
      go_wp2_with fail
      refine HS.out.mono ?_
      rintro e w8 ⟨rfl, u⟩
      have HJ8 := hide (HJ7.out.step u (by simp))
      have HT8 := hide (HT7.out.upd0 u)
      clear u HS HJ7 HT7 HO6b HO7
      have HR := hide (room_in HJ8.out (by rw [HSU.out]; exact HTS.out))
      rw [HSU.out, HRM.out] at HR
      go_wp2_with fail
      refine HR.out.mono ?_
      rintro e w9 ⟨rfl, u⟩
      have HJ9 := hide (HJ8.out.step u (by simp))
      have HT9 := hide (HT8.out.upd0 u)
      clear u HR HJ8 HT8
      have HR := hide (show Calls Tryd.prog 12 #[.pointer (some ⟨jc, 0, none⟩)] w9 _ from by
        have h9 := HJ9.out
        obtain ⟨_, _, F, _, hdk, _⟩ := h9
        exact room_any _ jc g A c T false w9 HT9.out hdk (by rw [HSU.out]; exact HTS.out))
      rw [HSU.out, HRM.out] at HR
      go_wp2_with fail
      refine HR.out.mono ?_
      rintro e w10 ⟨rfl, u⟩
      have HJ10 := hide (HJ9.out.step u (by simp))
      clear u HR HJ9 HT9
      have HR := hide (jpending_in HJ10.out)
      rw [HPE.out] at HR
      go_wp2_with fail
      refine HR.out.mono ?_
      rintro e w' ⟨rfl, rfl⟩
      clear HR
      have HR := hide (show Calls Tryd.prog 18 #[.pointer (some ⟨g, 0, none⟩)] w10 _ from by
        have h9 := HJ10.out
        obtain ⟨_, _, F, _, hdk, _⟩ := h9
        exact content_any w10 hdk HOFF.out)
      obtain ⟨cb, hcb⟩ : ∃ x : ByteArray, ⟨D1.vis.toArray⟩ = x := ⟨_, rfl⟩
      have hcs : cb.size = N := by rw [← hcb]; show D1.vis.toArray.size = N; rw [List.size_toArray]; exact HVI.out
      rw [hcb] at HR
      clear hcb
      go_wp2_with fail
      refine HR.out.mono ?_
      rintro e w' ⟨rfl, rfl⟩
      clear HR
      go_wp2_with fail
      refine (HZ.out w10).mono ?_
      rintro e w' ⟨rfl, rfl⟩
      go_wp2_with fail
      go_ret
      exact ⟨rfl, HJ10.out.below⟩
end Go.Proofs.YtafjolibfbccbaaDoor
