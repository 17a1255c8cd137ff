/-
  airchecklaw34.JournalDamaged.
-/
import Derived.Test.YtafjolibfbccbaaGreatDoorKDamW
import Derived.Test.YtafjolibfbccbaaGreatDoorKLaid
namespace Go.Proofs.YtafjolibfbccbaaGreatDoor
open Go.RowKit
set_option maxRecDepth 100000
set_option maxHeartbeats 8000000

theorem lenL_sm : ∀ l : List (List UInt8), (∀ r ∈ l, r.length ≤ 100) → lenL l ≤ 142 * l.length := by
  intro l
  induction l with
  | nil => intro _; rw [lenL_nil]; omega
  | cons r l ih =>
    intro h
    have h1 := ih (fun x hx => h x (by simp [hx]))
    have h2 := h r (by simp)
    have h3 := putS_len (r.length : Int) (by omega) (by omega)
    rw [lenL_cons, List.length_cons]
    unfold putStrS
    rw [List.length_append]
    omega
theorem bounds_u8 {n : Int} (h : (Lit.int .u8 n).wf = true) : 0 ≤ n ∧ n ≤ 255 := by
  simp [Lit.wf] at h
  exact h
theorem strs_takeD {w : World} {a : Option Addr} {l : List ByteArray} (h : StrsAt w a l) (n : Nat) : StrsAt w a (l.take n) := fun j s hs => h j s (by
  have hj := (List.getElem?_eq_some_iff.1 hs).1
  rw [List.length_take] at hj
  rwa [List.getElem?_take_of_lt (by omega)] at hs)
theorem own_str {w : World} {base g n c : Nat} {l : List (List UInt8)} (h : w.ownsRow base 9 1 (.slice (some ⟨g, 0, none⟩) n c) n (l.map strV)) (j : Nat) (z : List UInt8) (hz : l[j]? = some z) : w.cell? ⟨g, j, none⟩ = some (.string ⟨z.toArray⟩) := by
  have := World.ownsRow.cells h (g := g) rfl j (strV z) (by rw [List.getElem?_map, hz]; rfl)
  rwa [plain_add rfl, Nat.zero_add] at this
theorem damaged_walk0 {ks : List Int} {a0 : Addr} (hkr : ks = refK) (ga : Option Addr) (gn gc : Nat) (gs : List SRow) (at_ cv : Int) (w : World) (hl : Laid w.heap.size ks a0 w) (hg : GrpsArg w ga gn gc gs) (hat : (Lit.int .i64 at_).wf = true) (hcw : (Lit.int .u8 cv).wf = true) :
    Calls Tryz.prog 4 #[.slice ga gn gc, .int .i64 at_, .int .u8 cv] w fun e w' => e = .returned (.bool true) ∧ Below w.heap.size w w' := by
  have HL := hide hl
  have HG := hide hg
  have HAT := hide hat
  have HCW := hide hcw
  clear hl hg hat hcw
  have hcb : 0 ≤ cv ∧ cv ≤ 255 := bounds_u8 HCW.out
  go_enter Tryz.func4, Tryz.ntmps4
  go_wp2_with fail
  refine (sane_any w HL.out).mono ?_
  rintro e w1 ⟨rfl, hb1⟩
  have HB1 := hide hb1
  clear hb1
  have HNW := hide (new_in 6000 w.heap.size w w1 HB1.out HB1.out.size [] (by simp) (by decide) (by decide))
  rw [show ((6000 : Nat) : Int) = 6000 from rfl] at HNW
  go_wp2_with fail
  refine HNW.out.mono ?_
  rintro e w2 ⟨g, rfl, d0, _, _⟩
  clear HNW
  obtain ⟨N, hN⟩ : ∃ N, 6000 = N := ⟨_, rfl⟩
  rw [hN] at d0
  have HN := hide hN
  clear hN
  have C1 := open_in HL.out d0 (by simp [DiskS.fresh])
  rw [fresh_of, open_of ks [] (N - 0) (diskOf N []) rfl (by unfold diskOf bytesOf; simp [addL]) (by simp)] at C1
  have HC := hide C1
  clear d0 C1 HB1
  go_wp2_with fail
  refine HC.out.mono ?_
  rintro e w3 ⟨_, hj⟩
  try simp only at hj
  obtain ⟨jb, rfl, hj⟩ := hj
  have HJ := hide hj
  clear hj HC
  go_wp2_with fail
  go_loopw [12] (fun s12 wr => ∃ (k : Nat) (L : List (List UInt8)), k ≤ gn ∧ k ≤ 6 ∧ s12 = .int .i64 k ∧ Hid (L.length ≤ 6 * k ∧ ∀ r ∈ L, r.length ≤ 100) ∧ Hid (JIn w.heap.size [] w wr jb g (tapeOf ks L) false (diskOf N (bytesOf ks L)))) (fun s _ => 6 - (intOf s).toNat)
  case atStart => exact ⟨0, [], Nat.zero_le _, Nat.zero_le _, rfl, hide ⟨by simp, by simp⟩, HJ⟩
  case round =>
    clear HJ
    obtain ⟨k, L, hk, hk6, rfl, hI, hJ⟩ := hrel
    obtain ⟨wo, rfl⟩ : ∃ x : World, x = wr := ⟨_, rfl⟩
    have HLN := hide (show lenL L ≤ 852 * k by have h1 := lenL_sm L hI.out.2; have h2 := hI.out.1; omega)
    have HLE := hide (show lenL L ≤ N by have := HLN.out; have := HN.out; omega)
    by_cases hin : k < gn ∧ k < 6
    case pos =>
      have hki : (k : Int) < gn := by omega
      have hk8i : (k : Int) < 6 := by omega
      have hkw : IntKind.i64.wrap ((k : Int) + 1) = (k : Int) + 1 := Go.IntWalk.i64_in _ (by omega)
      obtain ⟨x, hx⟩ : ∃ r, gs[k]? = some r := ⟨_, List.getElem?_eq_getElem (by have := HG.out.hlen; omega)⟩
      obtain ⟨xa, xn, xc, xl⟩ := x
      obtain ⟨gb, go, rfl, hc, hs⟩ := HG.out.at_ k _ hx
      simp only at hc hs
      have hbw := hJ.out.below
      have hrc : wo.cell? ⟨gb, go + k, none⟩ = some (.slice xa xn xc) := (hbw.cell (p := ⟨gb, go + k, none⟩) (World.block_lt_of_cell? _ _ hc)).trans hc
      have hx1 := hs.hcap
      have hx2 := hs.hmax
      have HF := hide (few_any xa xn xc xl wo hs.hlen (hs.at_.later hbw) hs.small (by omega))
      have hgm := HG.out.mx
      clear hx hc hs hbw hx1 hx2
      go_wp2_with fail
      refine HF.out.mono ?_
      rintro e w4 ⟨fa, fc, rfl, ho, u⟩
      have HJ4 := hide (hJ.out.step u (by simp))
      clear HF u
      obtain ⟨fl, hfl⟩ : ∃ x, fewS xl = x := ⟨_, rfl⟩
      have hf6 : fl.length ≤ 6 := by rw [← hfl]; unfold fewS; rw [List.length_map, List.length_take]; omega
      have hf1 : ∀ r ∈ fl, r.length ≤ 100 := by
        rw [← hfl]; unfold fewS; intro r hr; obtain ⟨s, _, rfl⟩ := List.mem_map.1 hr; rw [List.length_take]; omega
      rw [hfl] at ho ⊢
      have hst := strs_own ho
      obtain ⟨bl, hbl⟩ : ∃ x : List ByteArray, (fl.map fun r => (⟨r.toArray⟩ : ByteArray)) = x := ⟨_, rfl⟩
      rw [hbl] at hst
      have hbb : bytesL bl = fl := by rw [← hbl]; unfold bytesL; rw [List.map_map]; exact (List.map_congr_left (fun a _ => rfl)).trans (List.map_id fl)
      have hbn : bl.length = fl.length := by rw [← hbl, List.length_map]
      have hbs : ∀ s ∈ bl, s.size ≤ 100 := by
        intro s hs; rw [← hbl] at hs; obtain ⟨r, hr, rfl⟩ := List.mem_map.1 hs; exact (by have := hf1 r hr; simpa [ByteArray.size] using this)
      obtain ⟨fn, hfn⟩ : ∃ x, fl.length = x := ⟨_, rfl⟩
      rw [hfn] at hf6 hbn ⊢
      have HA := hide (append_in fa fn fc bl HL.out HJ4.out hbn (by omega) hst (fun s hs => by have := hbs s hs; omega) (by simp [diskOf]) (size_le ks N L HLE.out) (by rw [tapeOf_head]; decide) (recs_le ks L (by have := hI.out.1; omega)))
      have hlf := lenL_sm fl hf1
      rw [append_ok ks N L bl (fun s hs => by have := hbs s hs; omega) (by rw [hbb]; have := HLN.out; have := HN.out; omega), hbb] at HA
      have HI2 := hide (show (L ++ fl).length ≤ 6 * (k + 1) ∧ ∀ r ∈ L ++ fl, r.length ≤ 100 from ⟨by rw [List.length_append, hfn]; have := hI.out.1; omega, fun r hr => (List.mem_append.1 hr).elim (hI.out.2 r) (hf1 r)⟩)
      clear hst hbl hbb hbn hbs hf1 hfl hfn ho hrc hlf hJ HJ4
      go_wp2_with fail
      refine HA.out.mono ?_
      rintro e w5 ⟨rfl, hj5, _⟩
      have HJ5 := hide hj5
      clear hj5 HA
      go_wp2_with fail
      go_roundw
      case rel => exact ⟨k + 1, L ++ fl, by omega, by omega, by go_num, HI2, HJ5⟩
      case measure => simp [intOf] <;> omega
    have hgm := HG.out.mx
    have hend : (¬ (k : Int) < gn) ∨ ((k : Int) < gn ∧ ¬ (k : Int) < 6) := by omega
    clear hin hk
    have HLS := hide (show L.length ≤ 36 ∧ ∀ r ∈ L, r.length ≤ 100 from ⟨by have := hI.out.1; omega, hI.out.2⟩)
    have HJ := hJ
    clear hI hJ HLN hk6
    have HR := hide (records_in HJ.out (by rw [tapeOf_recs]; have := HLS.out.1; omega))
    rw [tapeOf_recs] at HR
    obtain ⟨rn, hrn⟩ : ∃ x, L.length = x := ⟨_, rfl⟩
    have hrn6 : rn ≤ 36 := by rw [← hrn]; exact HLS.out.1
    rw [hrn] at HR
    have HRN := hide hrn
    clear hrn
    obtain ⟨us, hus⟩ : ∃ x, lenL L = x := ⟨_, rfl⟩
    have HUS := hide hus
    have husb : us ≤ N := by have := HLE.out; omega
    clear hus
    rcases hend with hki | ⟨hki, hk8i⟩
    case inr =>
      go_wp2_with fail
      refine HR.out.mono ?_
      rintro e w5 ⟨ra, rc, rfl, ho, u⟩
      have HJ5 := hide (HJ.out.more u (by simp) ((ra.map (·.block)).toList) (fun y hy => .inr ⟨it_own_block ho y (by rw [ownBlock_slice]; simpa using hy), it_own_lt ho y (by rw [ownBlock_slice]; simpa using hy)⟩))
      rw [List.append_nil] at HJ5
      have HR5 := hide (it_own_less ho HJ.out.room)
      clear u ho HR HJ
      have HRM := hide (room_in HJ5.out (size_le ks N L HLE.out))
      rw [room_of ks N L HLE.out, HUS.out] at HRM
      obtain ⟨rm, hrm⟩ : ∃ x, N - us = x := ⟨_, rfl⟩
      rw [hrm] at HRM
      have hsub : IntKind.i64.wrap (6000 - (rm : Int)) = (us : Int) := by have := HN.out; rw [Go.IntWalk.i64_in _ (by omega)]; omega
      clear hrm
      go_wp2_with fail
      refine HRM.out.mono ?_
      rintro e w6 ⟨rfl, u⟩
      have HJ6 := hide (HJ5.out.step u (by simp))
      have HR6 := hide (own_kept HR5.out u (by simp))
      clear u HRM HJ5 HR5
      by_cases hu0 : us = 0
      case pos =>
        have HL0 := hide (show rn = 0 by have h1 := lenL_count L; have := HRN.out; have := HUS.out; omega)
        have g1 : (us : Int) ≤ 0 := by omega
        have g2 : ((us : Int) == 0) = true := by simp; omega
        have g3 : ((rn : Int) == 0) = true := by have := HL0.out; simp; omega
        clear hu0
        go_wp2_with fail
        go_ret
        exact ⟨rfl, HJ6.out.below⟩
      have g1 : ¬ (us : Int) ≤ 0 := by omega
      have g2 : ¬ (6000 : Int) < (us : Int) := by have := HN.out; omega
      have hpk := pickN_lt at_ (n := (us : Int)) (by omega)
      have HPK := hide (fun W => pick_any at_ (us : Int) W HAT.out (by omega) (by have := HN.out; omega))
      obtain ⟨pk, hpe⟩ : ∃ x, pickN at_ (us : Int) = x := ⟨_, rfl⟩
      rw [hpe] at hpk HPK
      obtain ⟨k, hkp⟩ : ∃ k : Nat, pk = (k : Int) := ⟨pk.toNat, by omega⟩
      rw [hkp] at hpk HPK
      have hku : k < us := by omega
      clear hpe hkp hpk
      go_wp2_with fail
      refine (HPK.out w6).mono ?_
      rintro e w' ⟨rfl, rfl⟩
      clear HPK
      have HSZ := hide (sized_any ra rn rc L (k : Int) w6 HRN.out (strs_own HR6.out) HLS.out.2 (by omega) (by omega) (by have := HN.out; omega))
      go_wp2_with fail
      cases hsz : sizedS L (k : Int)
      case true =>
        rw [hsz] at HSZ
        refine HSZ.out.mono ?_
        rintro e w7 ⟨rfl, u⟩
        have HJ7 := hide (HJ6.out.step u (by simp))
        clear u HSZ HJ6 HR6 hsz
        go_wp2_with fail
        go_ret
        exact ⟨rfl, HJ7.out.below⟩
      rw [hsz] at HSZ
      have HSI := hide hsz
      clear hsz
      refine HSZ.out.mono ?_
      rintro e w7 ⟨rfl, u⟩
      have HJ7 := hide (HJ6.out.step u (by simp))
      have HR7 := hide (own_kept HR6.out u (by simp))
      clear u HSZ HJ6 HR6
      have HCT := hide (show Calls Tryz.prog 22 #[.pointer (some ⟨g, 0, none⟩)] w7 _ from by
        have h9 := HJ7.out
        obtain ⟨_, _, F, _, hdk, _⟩ := h9
        exact content_any w7 hdk rfl)
      obtain ⟨cb, hcbe⟩ : ∃ x : ByteArray, ⟨(diskOf N (bytesOf ks L)).vis.toArray⟩ = x := ⟨_, rfl⟩
      have hcs : cb.size = 6000 := by rw [← hcbe]; show (diskOf N (bytesOf ks L)).vis.toArray.size = 6000; rw [List.size_toArray]; exact (diskOf_size N (bytesOf ks L) (by rw [bytesOf_length]; exact HLE.out)).trans HN.out.symm
      rw [hcbe] at HCT
      obtain ⟨x, hx⟩ : ∃ x, (bytesOf ks L)[k]? = some x := ⟨_, List.getElem?_eq_getElem (by rw [bytesOf_length, HUS.out]; exact hku)⟩
      have hix := fun W => index_str (P := Tryz.prog) W Tryz.underlying9 cb (bs := (diskOf N (bytesOf ks L)).vis) (by rw [← hcbe]) k x (by unfold diskOf; simp only; rw [List.getElem?_append_left (List.getElem?_eq_some_iff.1 hx).1]; exact hx)
      have HX := hide hx
      clear hcbe hx
      obtain ⟨y, hy⟩ : ∃ y : Nat, x.toNat = y := ⟨_, rfl⟩
      rw [hy] at hix
      have hn6 : ¬ ((6000 : Int) != 6000) = true := by decide
      have hkl : (k : Int) < 6000 := by have := HN.out; omega
      go_wp2_with fail
      refine HCT.out.mono ?_
      rintro e w' ⟨rfl, rfl⟩
      clear HCT
      by_cases hyc : (y : Int) = cv
      case pos =>
        have g5 : ((y : Int) == cv) = true := by simp [hyc]
        clear hyc
        go_wp2_with fail
        go_ret
        exact ⟨rfl, HJ7.out.below⟩
      have g5 : ((y : Int) == cv) = false := by simp [hyc]
      obtain ⟨c8, hc8⟩ : ∃ c : UInt8, (c.toNat : Int) = cv := ⟨UInt8.ofNat cv.toNat, by rw [UInt8.toNat_ofNat']; omega⟩
      have HNE := hide (show (bytesOf ks L)[k]? ≠ some c8 by rw [HX.out]; intro h; have h9 := Option.some.inj h; rw [h9] at hy; exact hyc (by rw [← hc8, hy]))
      have HC8 := hide hc8
      clear hyc hc8
      have HBK := hide (show Blk (w7.alloc (.cells #[.int .u8 cv] 5)) w7.heap.size 5 (bCells [c8]) by rw [show bCells [c8] = [Value.int .u8 cv] by show [Value.int .u8 (c8.toNat : Int)] = _; rw [HC8.out]]; exact Blk.new w7 _ _)
      have hcv := run_conv_bytes HBK.out 39 5 9 Tryz.underlying39 Tryz.underlying5 Tryz.underlying9 0 1 1 (by simp)
      rw [show (List.drop 0 [c8]).take 1 = [c8] from rfl] at hcv
      go_wp2_with fail
      clear g5 hix hn6 hcv HBK
      obtain ⟨w8, hw⟩ : ∃ W9, w7.alloc (.cells #[.int .u8 cv] 5) = W9 := ⟨_, rfl⟩
      have u : Upd [] w7 w8 := by rw [← hw]; exact (Upd.refl [] _).alloc _
      rw [hw]
      have HJ8 := hide (HJ7.out.step u (by simp))
      have HR8 := hide (own_kept HR7.out u (by simp))
      clear u hw HJ7 HR7
      obtain ⟨D', hwr, hpe, hcase⟩ := damaged_open ks N L k c8 HLE.out (by rw [HUS.out]; exact hku) (fun r hr => by have := HLS.out.2 r hr; omega) HNE.out HSI.out
      have HWR := hide (jwrite_in (k : Int) ⟨#[c8]⟩ HJ8.out (by simp [diskOf]))
      rw [show ((⟨#[c8]⟩ : ByteArray).data.toList) = [c8] from rfl, hwr] at HWR
      clear hwr
      refine HWR.out.mono ?_
      rintro e w9 ⟨rfl, hj, hsm⟩
      obtain ⟨_, _, _, hd, _⟩ := (show JIn w.heap.size ((ra.map (·.block)).toList) w w9 jb g (tapeOf ks L) false D' from hj).disk
      have HD9 := hide (hd.mono (X' := ((ra.map (·.block)).toList)) (fun x hx => List.mem_append_right _ hx))
      have HR9 := hide (own_same HR8.out hsm)
      clear hj hsm hd HWR HJ8 HR8
      have C1 := open_in HL.out HD9.out (by omega)
      clear HD9 hpe
      rcases hcase with ⟨h1, h2⟩ | ⟨T', h1, hT⟩
      case inl =>
        rw [h1, h2] at C1
        have HC := hide C1
        clear C1 h1 h2
        go_wp2_with fail
        refine HC.out.mono ?_
        rintro e w10 ⟨_, hj⟩
        try simp only at hj
        obtain ⟨rfl, hd⟩ := hj
        have HD10 := hide hd
        clear hd HC
        go_wp2_with fail
        go_ret
        exact ⟨rfl, HD10.out.below⟩
      rw [h1] at C1
      have HC := hide C1
      clear C1 h1
      go_wp2_with fail
      refine HC.out.mono ?_
      rintro e w10 ⟨hsm, hj⟩
      try simp only at hj
      obtain ⟨jc, rfl, hj⟩ := hj
      have HJ10 := hide hj
      have HR10 := hide (own_same HR9.out hsm)
      clear hj hsm HC HR9
      rcases hT with ⟨hc0, i, hil, hrec⟩ | ⟨i, r, r', hri, hrn', hrl', hcol, hrec⟩
      case inl =>
        have hi6 : i < rn := by have := HRN.out; omega
        have hml : (L.take i).length = i := by rw [List.length_take]; omega
        have HRX := hide (records_in HJ10.out (by rw [hrec, hml]; omega))
        rw [hrec, hml] at HRX
        have HML := hide hml
        have g6 : (cv == 0) = true := by rw [← HC8.out, hc0]; rfl
        clear hc0 hil hrec hml
        go_wp2_with fail
        refine HRX.out.mono ?_
        rintro e w11 ⟨sa, sc, rfl, ho, u⟩
        have HJ11 := hide (HJ10.out.step u (by simp))
        have HR11 := hide (own_kept HR10.out u (by simp))
        have hrc : (i : Int) ≤ rc := by have := own_capB HR10.out; omega
        have hrm2 : (rc : Int) ≤ 9223372036854775807 := by have := own_maxB HR10.out; unfold maxLen at this; omega
        have HS11 := hide ho
        have g7 : (i : Int) < rn := by omega
        clear u ho HRX HJ10 HR10
        have hs8 := strs_takeD (strs_own HR11.out) i
        rw [← List.map_take] at hs8
        have HE := hide (same_any sa i sc _ ra i rc _ w11 (by rw [List.length_map]; exact HML.out) (by rw [List.length_map]; exact HML.out) (by omega) (by omega) (strs_own HS11.out) hs8)
        rw [show decide (((L.take i).map fun r => (⟨r.toArray⟩ : ByteArray)) = ((L.take i).map fun r => (⟨r.toArray⟩ : ByteArray))) = true from decide_eq_true rfl] at HE
        clear hs8
        go_wp2_with fail
        refine HE.out.mono ?_
        rintro e w12 ⟨rfl, u⟩
        have HJ12 := hide (HJ11.out.step u (by simp))
        clear u HE HJ11 HR11 HS11
        go_wp2_with fail
        go_ret
        exact ⟨rfl, HJ12.out.below⟩
      have hiL := (List.getElem?_eq_some_iff.1 hri).1
      obtain ⟨M, hM⟩ : ∃ x, L.take i ++ r' :: L.drop (i + 1) = x := ⟨_, rfl⟩
      have hml : M.length = rn := by rw [← hM, List.length_append, List.length_cons, List.length_take, List.length_drop]; have := HRN.out; omega
      have hri' : M[i]? = some r' := by rw [← hM, List.getElem?_append_right (by rw [List.length_take]; omega), List.length_take, show i - min i L.length = 0 by omega]; rfl
      have htk : ∀ j, j ≤ i → M.take j = L.take j := by
        intro j hj
        rw [← hM, List.take_append_of_le_length (by rw [List.length_take]; omega), List.take_take, Nat.min_eq_left hj]
      have hat2 : ∀ j, j < i → M[j]? = L[j]? := by
        intro j hj
        rw [← hM, List.getElem?_append_left (by rw [List.length_take]; omega), List.getElem?_take_of_lt hj]
      have hMs : ∀ x ∈ M, x.length ≤ 100 := by
        intro x hx
        rw [← hM] at hx
        rcases List.mem_append.1 hx with h | h
        · exact HLS.out.2 x (List.mem_of_mem_take h)
        · rcases List.mem_cons.1 h with h | h
          · rw [h, hrl']; exact HLS.out.2 r (List.mem_of_getElem? hri)
          · exact HLS.out.2 x (List.mem_of_mem_drop h)
      rw [hM] at hrec
      obtain ⟨hd, hhd⟩ : ∃ x, headTo refK (List.replicate 32 0) (L.take i) = x := ⟨_, rfl⟩
      rw [hkr, hhd] at hcol
      have hhl : hd.length = 32 := by rw [← hhd]; exact headTo_length refK _ _ rfl
      have hXA := headsS_at refK L (List.replicate 32 0) i r hri
      have hXB := headsS_at refK M (List.replicate 32 0) i r' hri'
      rw [hhd] at hXA
      rw [htk i (Nat.le_refl _), hhd] at hXB
      have hEQ : ∀ j, j < i → (headsS refK M (List.replicate 32 0))[j]? = (headsS refK L (List.replicate 32 0))[j]? := by
        intro j hj
        obtain ⟨y, hy⟩ : ∃ y, L[j]? = some y := ⟨_, List.getElem?_eq_getElem (by omega)⟩
        rw [headsS_at refK L _ j y hy, headsS_at refK M _ j y (by rw [hat2 j hj]; exact hy), htk j (by omega)]
      have HRX := hide (records_in HJ10.out (by rw [hrec, hml]; omega))
      rw [hrec, hml] at HRX
      have HML := hide hml
      have HMS := hide hMs
      have HXA := hide hXA
      have HXB := hide hXB
      have HEQ := hide hEQ
      have HNR := hide hrn'
      have HCOL := hide hcol
      have HHL := hide hhl
      have HRL := hide hrl'
      have HRS := hide (HLS.out.2 r (List.mem_of_getElem? hri))
      have hirn : i < rn := by have := HRN.out; omega
      clear hrec hml hMs hXA hXB hEQ hrn' hcol hhl hhd hrl' hri hri' htk hat2 hM hiL
      go_wp2_with fail
      refine HRX.out.mono ?_
      rintro e w11 ⟨sa, sc, rfl, ho, u⟩
      have HJ11 := hide (HJ10.out.step u (by simp))
      have HR11 := hide (own_kept HR10.out u (by simp))
      have HS11 := hide ho
      have g7 : ¬ (rn : Int) < rn := by omega
      clear u ho HRX HJ10 HR10
      have HH1 := hide (heads_any ra rn rc L w11 HRN.out (strs_own HR11.out) HLS.out.2 (by omega))
      by_cases hcz : cv = 0
      case pos =>
        have g6 : (cv == 0) = true := by simp [hcz]
        clear hcz
        go_wp2_with fail
        clear g6 g7
        refine HH1.out.mono ?_
        rintro e w12 ⟨xa, xc, rfl, ho, u⟩
        have HJ12 := hide (HJ11.out.step u (by simp))
        have HS12 := hide (own_kept HS11.out u (by simp))
        have HA12 := hide ho
        clear u ho HH1 HJ11 HR11 HS11
        have HH2 := hide (heads_any sa rn sc M w12 HML.out (strs_own HS12.out) HMS.out (by omega))
        go_wp2_with fail
        refine HH2.out.mono ?_
        rintro e w13 ⟨ya, yc, rfl, ho, u⟩
        have HJ13 := hide (HJ12.out.step u (by simp))
        have HA13 := hide (own_kept HA12.out u (by simp))
        have HB13 := hide ho
        clear u ho HH2 HJ12 HS12 HA12
        obtain ⟨xg, rfl⟩ := own_some HA13.out (by omega)
        obtain ⟨yg, rfl⟩ := own_some HB13.out (by omega)
        go_wp2_with fail
        go_loopw [23] (fun s23 wr => ∃ j : Nat, j ≤ i ∧ s23 = .int .i64 j ∧ Hid (Upd [] w13 wr)) (fun s _ => i - (intOf s).toNat)
        case atStart => exact ⟨0, Nat.zero_le _, rfl, hide (Upd.refl _ _)⟩
        case round =>
          obtain ⟨j, hj, rfl, hU⟩ := hrel
          obtain ⟨wo, rfl⟩ : ∃ x : World, x = wr := ⟨_, rfl⟩
          have hji : (j : Int) < rn := by omega
          have hjw : IntKind.i64.wrap ((j : Int) + 1) = (j : Int) + 1 := Go.IntWalk.i64_in _ (by omega)
          by_cases hlt : j < i
          case pos =>
            obtain ⟨z, hz⟩ : ∃ z, (headsS refK L (List.replicate 32 0))[j]? = some z := ⟨_, List.getElem?_eq_getElem (by rw [headsS_length, HRN.out]; omega)⟩
            obtain ⟨x1, hx1⟩ : ∃ x : ByteArray, ⟨z.toArray⟩ = x := ⟨_, rfl⟩
            have cA := own_str (own_kept HA13.out hU.out (by simp)) j z hz
            have cB := own_str (own_kept HB13.out hU.out (by simp)) j z (by rw [HEQ.out j hlt]; exact hz)
            rw [hx1] at cA cB
            have hne : (x1.toList == x1.toList) = true := by simp
            clear hz hx1
            go_wp2_with fail
            refine wp_region_held_drew (S := (fun w' => w'.cell? ⟨xg, j, none⟩ = some (.string x1) ∧ w'.cell? ⟨yg, j, none⟩ = some (.string x1))) (by kernel_rfl) (by exact ⟨cA, cB⟩) (fun hHeld => ?_)
            refine wpAnyH_take (i := 0) (oi := ?oi0M1) (v := ?v0M1) ?oi0_0M1 (by kernel_rfl) ?ff0M1 ?rr0M1 ?hq0M1 (Or.inl ⟨?hw0M1, ?hy0M1⟩) (by assumption) ?rest0M1
            case oi0_0M1 =>
              conv =>
                lhs
                whnf
                arg 1
                whnf
            case hq0M1 => exact fun _ _ _ h => h
            case ff0M1 => kernel_rfl
            case rr0M1 => kernel_rfl
            case hw0M1 => rfl
            case hy0M1 =>
              intro w hSw
              (try dsimp only at hSw)
              first
              | (go_simp; done)
              | (go_simp; with_reducible rfl)
            try simp only [Act.put, List.setIfInBounds_toArray, List.set_cons_zero, List.set_cons_succ]
            refine wpAnyH_take (i := 1) (oi := ?oi1M1) (v := ?v1M1) ?oi0_1M1 (by kernel_rfl) ?ff1M1 ?rr1M1 ?hq1M1 (Or.inl ⟨?hw1M1, ?hy1M1⟩) (by assumption) ?rest1M1
            case oi0_1M1 =>
              conv =>
                lhs
                whnf
                arg 1
                whnf
            case hq1M1 => exact fun _ _ _ h => h
            case ff1M1 => kernel_rfl
            case rr1M1 => kernel_rfl
            case hw1M1 => rfl
            case hy1M1 =>
              intro w hSw
              (try dsimp only at hSw)
              first
              | (go_simp; done)
              | (go_simp; with_reducible rfl)
            try simp only [Act.put, List.setIfInBounds_toArray, List.set_cons_zero, List.set_cons_succ]
            refine wpAnyH_take (i := 2) (oi := ?oi2M1) (v := ?v2M1) ?oi0_2M1 (by kernel_rfl) ?ff2M1 ?rr2M1 ?hq2M1 (Or.inl ⟨?hw2M1, ?hy2M1⟩) (by assumption) ?rest2M1
            case oi0_2M1 =>
              conv =>
                lhs
                whnf
                arg 1
                whnf
            case hq2M1 => exact fun _ _ _ h => h
            case ff2M1 => kernel_rfl
            case rr2M1 => kernel_rfl
            case hw2M1 => rfl
            case hy2M1 =>
              intro w hSw
              (try dsimp only at hSw)
              first
              | (go_simp; done)
              | (go_simp; with_reducible rfl)
            try simp only [Act.put, List.setIfInBounds_toArray, List.set_cons_zero, List.set_cons_succ]
            refine wpAnyH_take (i := 3) (oi := ?oi3M1) (v := ?v3M1) ?oi0_3M1 (by kernel_rfl) ?ff3M1 ?rr3M1 ?hq3M1 (Or.inl ⟨?hw3M1, ?hy3M1⟩) (by assumption) ?rest3M1
            case oi0_3M1 =>
              conv =>
                lhs
                whnf
                arg 1
                whnf
            case hq3M1 => exact fun _ _ _ h => h
            case ff3M1 => kernel_rfl
            case rr3M1 => kernel_rfl
            case hw3M1 => rfl
            case hy3M1 =>
              intro w hSw
              (try dsimp only at hSw)
              first
              | (go_simp; done)
              | (go_simp; with_reducible rfl)
            try simp only [Act.put, List.setIfInBounds_toArray, List.set_cons_zero, List.set_cons_succ]
            refine wpAnyH_take (i := 4) (oi := ?oi4M1) (v := ?v4M1) ?oi0_4M1 (by kernel_rfl) ?ff4M1 ?rr4M1 ?hq4M1 (Or.inl ⟨?hw4M1, ?hy4M1⟩) (by assumption) ?rest4M1
            case oi0_4M1 =>
              conv =>
                lhs
                whnf
                arg 1
                whnf
            case hq4M1 => exact fun _ _ _ h => h
            case ff4M1 => kernel_rfl
            case rr4M1 => kernel_rfl
            case hw4M1 => rfl
            case hy4M1 =>
              intro w hSw
              (try dsimp only at hSw)
              first
              | (go_simp; done)
              | (go_simp; with_reducible rfl)
            try simp only [Act.put, List.setIfInBounds_toArray, List.set_cons_zero, List.set_cons_succ]
            refine wpAnyH_take (i := 5) (oi := ?oi5M1) (v := ?v5M1) ?oi0_5M1 (by kernel_rfl) ?ff5M1 ?rr5M1 ?hq5M1 (Or.inl ⟨?hw5M1, ?hy5M1⟩) (by assumption) ?rest5M1
            case oi0_5M1 =>
              conv =>
                lhs
                whnf
                arg 1
                whnf
            case hq5M1 => exact fun _ _ _ h => h
            case ff5M1 => kernel_rfl
            case rr5M1 => kernel_rfl
            case hw5M1 => rfl
            case hy5M1 =>
              intro w hSw
              (try dsimp only at hSw)
              first
              | (go_simp; done)
              | (go_simp; with_reducible rfl)
            try simp only [Act.put, List.setIfInBounds_toArray, List.set_cons_zero, List.set_cons_succ]
            refine wpAnyH_take (i := 6) (oi := ?oi6M1) (v := ?v6M1) ?oi0_6M1 (by kernel_rfl) ?ff6M1 ?rr6M1 ?hq6M1 (Or.inl ⟨?hw6M1, ?hy6M1⟩) (by assumption) ?rest6M1
            case oi0_6M1 =>
              conv =>
                lhs
                whnf
                arg 1
                whnf
            case hq6M1 => exact fun _ _ _ h => h
            case ff6M1 => kernel_rfl
            case rr6M1 => kernel_rfl
            case hw6M1 => rfl
            case hy6M1 =>
              intro w hSw
              (try dsimp only at hSw)
              first
              | (go_simp; done)
              | (go_simp; with_reducible rfl)
            try simp only [Act.put, List.setIfInBounds_toArray, List.set_cons_zero, List.set_cons_succ]
            refine wpAnyH_take (i := 7) (oi := ?oi7M1) (v := ?v7M1) ?oi0_7M1 (by kernel_rfl) ?ff7M1 ?rr7M1 ?hq7M1 (Or.inl ⟨?hw7M1, ?hy7M1⟩) (by assumption) ?rest7M1
            case oi0_7M1 =>
              conv =>
                lhs
                whnf
                arg 1
                whnf
            case hq7M1 => exact fun _ _ _ h => h
            case ff7M1 => kernel_rfl
            case rr7M1 => kernel_rfl
            case hw7M1 => rfl
            case hy7M1 =>
              intro w hSw
              (try dsimp only at hSw)
              first
              | (go_simp; done)
              | (go_simp; with_reducible rfl)
            try simp only [Act.put, List.setIfInBounds_toArray, List.set_cons_zero, List.set_cons_succ]
            refine wpAnyH_take (i := 8) (oi := ?oi8M1) (v := ?v8M1) ?oi0_8M1 (by kernel_rfl) ?ff8M1 ?rr8M1 ?hq8M1 (Or.inl ⟨?hw8M1, ?hy8M1⟩) (by assumption) ?rest8M1
            case oi0_8M1 =>
              conv =>
                lhs
                whnf
                arg 1
                whnf
            case hq8M1 => exact fun _ _ _ h => h
            case ff8M1 => kernel_rfl
            case rr8M1 => kernel_rfl
            case hw8M1 => rfl
            case hy8M1 =>
              intro w hSw
              (try dsimp only at hSw)
              first
              | (go_simp; done)
              | (go_simp; with_reducible rfl)
            try simp only [Act.put, List.setIfInBounds_toArray, List.set_cons_zero, List.set_cons_succ]
            refine wpAnyH_take (i := 9) (oi := ?oi9M1) (v := ?v9M1) ?oi0_9M1 (by kernel_rfl) ?ff9M1 ?rr9M1 ?hq9M1 (Or.inl ⟨?hw9M1, ?hy9M1⟩) (by assumption) ?rest9M1
            case oi0_9M1 =>
              conv =>
                lhs
                whnf
                arg 1
                whnf
            case hq9M1 => exact fun _ _ _ h => h
            case ff9M1 => kernel_rfl
            case rr9M1 => kernel_rfl
            case hw9M1 => rfl
            case hy9M1 =>
              intro w hSw
              (try dsimp only at hSw)
              first
              | (go_simp; done)
              | (go_simp; with_reducible rfl)
            try simp only [Act.put, List.setIfInBounds_toArray, List.set_cons_zero, List.set_cons_succ]
            refine wpAnyH_take (i := 10) (oi := ?oi10M1) (v := undef) ?oi0_10M1 (by kernel_rfl) ?ff10M1 ?rr10M1 ?hq10M1 (Or.inr ⟨?hw10M1, rfl⟩) (by assumption) ?rest10M1
            case oi0_10M1 =>
              conv =>
                lhs
                whnf
                arg 1
                whnf
            case hq10M1 => exact fun _ _ _ h => h
            case ff10M1 => kernel_rfl
            case rr10M1 => kernel_rfl
            case hw10M1 => rfl
            try simp only [Act.put, List.setIfInBounds_toArray, List.set_cons_zero, List.set_cons_succ]
            refine wpAnyH_take (i := 11) (oi := ?oi11M1) (v := undef) ?oi0_11M1 (by kernel_rfl) ?ff11M1 ?rr11M1 ?hq11M1 (Or.inr ⟨?hw11M1, rfl⟩) (by assumption) ?rest11M1
            case oi0_11M1 =>
              conv =>
                lhs
                whnf
                arg 1
                whnf
            case hq11M1 => exact fun _ _ _ h => h
            case ff11M1 => kernel_rfl
            case rr11M1 => kernel_rfl
            case hw11M1 => rfl
            try simp only [Act.put, List.setIfInBounds_toArray, List.set_cons_zero, List.set_cons_succ]
            refine wpAnyH_take (i := 12) (oi := ?oi12M1) (v := undef) ?oi0_12M1 (by kernel_rfl) ?ff12M1 ?rr12M1 ?hq12M1 (Or.inr ⟨?hw12M1, rfl⟩) (by assumption) ?rest12M1
            case oi0_12M1 =>
              conv =>
                lhs
                whnf
                arg 1
                whnf
            case hq12M1 => exact fun _ _ _ h => h
            case ff12M1 => kernel_rfl
            case rr12M1 => kernel_rfl
            case hw12M1 => rfl
            try simp only [Act.put, List.setIfInBounds_toArray, List.set_cons_zero, List.set_cons_succ]
            refine wpAnyH_take (i := 13) (oi := ?oi13M1) (v := undef) ?oi0_13M1 (by kernel_rfl) ?ff13M1 ?rr13M1 ?hq13M1 (Or.inr ⟨?hw13M1, rfl⟩) (by assumption) ?rest13M1
            case oi0_13M1 =>
              conv =>
                lhs
                whnf
                arg 1
                whnf
            case hq13M1 => exact fun _ _ _ h => h
            case ff13M1 => kernel_rfl
            case rr13M1 => kernel_rfl
            case hw13M1 => rfl
            try simp only [Act.put, List.setIfInBounds_toArray, List.set_cons_zero, List.set_cons_succ]
            refine wpAnyH_take (i := 15) (oi := ?oi15M1) (v := undef) ?oi0_15M1 (by kernel_rfl) ?ff15M1 ?rr15M1 ?hq15M1 (Or.inr ⟨?hw15M1, rfl⟩) (by assumption) ?rest15M1
            case oi0_15M1 =>
              conv =>
                lhs
                whnf
                arg 1
                whnf
            case hq15M1 => exact fun _ _ _ h => h
            case ff15M1 => kernel_rfl
            case rr15M1 => kernel_rfl
            case hw15M1 => rfl
            try simp only [Act.put, List.setIfInBounds_toArray, List.set_cons_zero, List.set_cons_succ]
            refine wpAnyH_take (i := 16) (oi := ?oi16M1) (v := undef) ?oi0_16M1 (by kernel_rfl) ?ff16M1 ?rr16M1 ?hq16M1 (Or.inr ⟨?hw16M1, rfl⟩) (by assumption) ?rest16M1
            case oi0_16M1 =>
              conv =>
                lhs
                whnf
                arg 1
                whnf
            case hq16M1 => exact fun _ _ _ h => h
            case ff16M1 => kernel_rfl
            case rr16M1 => kernel_rfl
            case hw16M1 => rfl
            try simp only [Act.put, List.setIfInBounds_toArray, List.set_cons_zero, List.set_cons_succ]
            refine wpAnyH_take (i := 17) (oi := ?oi17M1) (v := undef) ?oi0_17M1 (by kernel_rfl) ?ff17M1 ?rr17M1 ?hq17M1 (Or.inr ⟨?hw17M1, rfl⟩) (by assumption) ?rest17M1
            case oi0_17M1 =>
              conv =>
                lhs
                whnf
                arg 1
                whnf
            case hq17M1 => exact fun _ _ _ h => h
            case ff17M1 => kernel_rfl
            case rr17M1 => kernel_rfl
            case hw17M1 => rfl
            try simp only [Act.put, List.setIfInBounds_toArray, List.set_cons_zero, List.set_cons_succ]
            refine wpAnyH_take (i := 18) (oi := ?oi18M1) (v := undef) ?oi0_18M1 (by kernel_rfl) ?ff18M1 ?rr18M1 ?hq18M1 (Or.inr ⟨?hw18M1, rfl⟩) (by assumption) ?rest18M1
            case oi0_18M1 =>
              conv =>
                lhs
                whnf
                arg 1
                whnf
            case hq18M1 => exact fun _ _ _ h => h
            case ff18M1 => kernel_rfl
            case rr18M1 => kernel_rfl
            case hw18M1 => rfl
            try simp only [Act.put, List.setIfInBounds_toArray, List.set_cons_zero, List.set_cons_succ]
            refine wpAnyH_ready (rs := [14]) (by kernel_rfl) (by simp) (AllReadyH.cons (o := ?oi14M1) ?oi0_14M1 (fun K hK => ?_) AllReadyH.nil)
            case oi0_14M1 =>
              conv =>
                lhs
                whnf
                arg 1
                whnf
            rw [if_neg (by first | (simp [Region.wanted, yielded]; done) | (simp [Region.wanted, yielded]; exact fun h => nomatch (show (none : Option Bool) = some true from h)) | (simp [Region.wanted, yielded]; exact fun h => nomatch (show (none : Option Bool) = some false from h)))]
            refine hK.out _ _ (by assumption) (fun _ => ?_)
            clear hK K
            try simp only [Act.put, List.setIfInBounds_toArray, List.set_cons_zero, List.set_cons_succ]
            refine wpAnyH_ready (rs := [19]) (by kernel_rfl) (by simp) (AllReadyH.cons (o := ?oi19M1) ?oi0_19M1 (fun K hK => ?_) AllReadyH.nil)
            case oi0_19M1 =>
              conv =>
                lhs
                whnf
                arg 1
                whnf
            rw [if_neg (by first | (simp [Region.wanted, yielded]; done) | (simp [Region.wanted, yielded]; exact fun h => nomatch (show (none : Option Bool) = some true from h)) | (simp [Region.wanted, yielded]; exact fun h => nomatch (show (none : Option Bool) = some false from h)))]
            refine hK.out _ _ (by assumption) (fun _ => ?_)
            clear hK K
            try simp only [Act.put, List.setIfInBounds_toArray, List.set_cons_zero, List.set_cons_succ]
            refine wpAnyH_take (i := 20) (oi := ?oi20M1) (v := undef) ?oi0_20M1 (by kernel_rfl) ?ff20M1 ?rr20M1 ?hq20M1 (Or.inr ⟨?hw20M1, rfl⟩) (by assumption) ?rest20M1
            case oi0_20M1 =>
              conv =>
                lhs
                whnf
                arg 1
                whnf
            case hq20M1 => exact fun _ _ _ h => h
            case ff20M1 => kernel_rfl
            case rr20M1 => kernel_rfl
            case hw20M1 => rfl
            try simp only [Act.put, List.setIfInBounds_toArray, List.set_cons_zero, List.set_cons_succ]
            refine wpAnyH_take (i := 21) (oi := ?oi21M1) (v := ?v21M1) ?oi0_21M1 (by kernel_rfl) ?ff21M1 ?rr21M1 ?hq21M1 (Or.inl ⟨?hw21M1, ?hy21M1⟩) (by assumption) ?rest21M1
            case oi0_21M1 =>
              conv =>
                lhs
                whnf
                arg 1
                whnf
            case hq21M1 => exact fun _ _ _ h => h
            case ff21M1 => kernel_rfl
            case rr21M1 => kernel_rfl
            case hw21M1 => rfl
            case hy21M1 =>
              intro w hSw
              (try dsimp only at hSw)
              first
              | (go_simp; done)
              | (go_simp; with_reducible rfl)
            try simp only [Act.put, List.setIfInBounds_toArray, List.set_cons_zero, List.set_cons_succ]
            refine wpAnyH_done (by kernel_rfl) ?_ _
            go_wp2_with fail
            go_roundw
            case rel => exact ⟨j + 1, by omega, by go_num, hide hU.out.drew⟩
            case measure => simp [intOf] <;> omega
          obtain rfl : j = i := by omega
          obtain ⟨x1, hx1⟩ : ∃ x : ByteArray, ⟨(2 :: (hd ++ r)).toArray⟩ = x := ⟨_, rfl⟩
          obtain ⟨x2, hx2⟩ : ∃ x : ByteArray, ⟨(2 :: (hd ++ r')).toArray⟩ = x := ⟨_, rfl⟩
          have cA := own_str (own_kept HA13.out hU.out (by simp)) j _ HXA.out
          have cB := own_str (own_kept HB13.out hU.out (by simp)) j _ HXB.out
          rw [hx1] at cA
          rw [hx2] at cB
          have hne : (x1.toList == x2.toList) = false := by
            rw [ByteArray.toList_eq, ByteArray.toList_eq]
            refine beq_eq_false_iff_ne.2 (fun e => ?_)
            rw [← hx1, ← hx2] at e
            have e2 := congrArg List.tail (show (2 :: (hd ++ r) : List UInt8) = 2 :: (hd ++ r') from e)
            exact HNR.out (List.append_cancel_left (show hd ++ r = hd ++ r' from e2)).symm
          obtain ⟨z, hz⟩ : ∃ x : ByteArray, ⟨(sumS refK (2 :: (hd ++ r))).toArray⟩ = x := ⟨_, rfl⟩
          have HS1 := hide (fun W => refSum x1 W (by rw [← hx1]; show (2 :: (hd ++ r)).toArray.size ≤ _; rw [List.size_toArray, List.length_cons, List.length_append, HHL.out]; have := HRS.out; omega))
          have HS2 := hide (fun W => refSum x2 W (by rw [← hx2]; show (2 :: (hd ++ r')).toArray.size ≤ _; rw [List.size_toArray, List.length_cons, List.length_append, HHL.out, HRL.out]; have := HRS.out; omega))
          rw [show x1.data.toList = 2 :: (hd ++ r) by rw [← hx1], hz] at HS1
          rw [show x2.data.toList = 2 :: (hd ++ r') by rw [← hx2], show sumS refK (2 :: (hd ++ r')) = sumS refK (2 :: (hd ++ r)) from HCOL.out, hz] at HS2
          have hzz : (z.toList == z.toList) = true := by simp
          clear hx1 hx2 hz
          go_wp2_with fail
          refine wp_region_held_drew (S := (fun w' => w'.cell? ⟨xg, j, none⟩ = some (.string x1) ∧ w'.cell? ⟨yg, j, none⟩ = some (.string x2))) (by kernel_rfl) (by exact ⟨cA, cB⟩) (fun hHeld => ?_)
          obtain ⟨wd, hw⟩ : ∃ x, wo.drew = x := ⟨_, rfl⟩
          have u : Upd [] wo wd := by rw [← hw]; exact (Upd.refl [] _).drew
          rw [hw] at hHeld ⊢
          have HUD := hide (hU.out.trans u (by simp))
          clear hw u
          refine wpAnyH_take (i := 0) (oi := ?oi0M3) (v := ?v0M3) ?oi0_0M3 (by kernel_rfl) ?ff0M3 ?rr0M3 ?hq0M3 (Or.inl ⟨?hw0M3, ?hy0M3⟩) (by assumption) ?rest0M3
          case oi0_0M3 =>
            conv =>
              lhs
              whnf
              arg 1
              whnf
          case hq0M3 => exact fun _ _ _ h => h
          case ff0M3 => kernel_rfl
          case rr0M3 => kernel_rfl
          case hw0M3 => rfl
          case hy0M3 =>
            intro w hSw
            (try dsimp only at hSw)
            first
            | (go_simp; done)
            | (go_simp; with_reducible rfl)
          try simp only [Act.put, List.setIfInBounds_toArray, List.set_cons_zero, List.set_cons_succ]
          refine wpAnyH_take (i := 1) (oi := ?oi1M3) (v := ?v1M3) ?oi0_1M3 (by kernel_rfl) ?ff1M3 ?rr1M3 ?hq1M3 (Or.inl ⟨?hw1M3, ?hy1M3⟩) (by assumption) ?rest1M3
          case oi0_1M3 =>
            conv =>
              lhs
              whnf
              arg 1
              whnf
          case hq1M3 => exact fun _ _ _ h => h
          case ff1M3 => kernel_rfl
          case rr1M3 => kernel_rfl
          case hw1M3 => rfl
          case hy1M3 =>
            intro w hSw
            (try dsimp only at hSw)
            first
            | (go_simp; done)
            | (go_simp; with_reducible rfl)
          try simp only [Act.put, List.setIfInBounds_toArray, List.set_cons_zero, List.set_cons_succ]
          refine wpAnyH_take (i := 2) (oi := ?oi2M3) (v := ?v2M3) ?oi0_2M3 (by kernel_rfl) ?ff2M3 ?rr2M3 ?hq2M3 (Or.inl ⟨?hw2M3, ?hy2M3⟩) (by assumption) ?rest2M3
          case oi0_2M3 =>
            conv =>
              lhs
              whnf
              arg 1
              whnf
          case hq2M3 => exact fun _ _ _ h => h
          case ff2M3 => kernel_rfl
          case rr2M3 => kernel_rfl
          case hw2M3 => rfl
          case hy2M3 =>
            intro w hSw
            (try dsimp only at hSw)
            first
            | (go_simp; done)
            | (go_simp; with_reducible rfl)
          try simp only [Act.put, List.setIfInBounds_toArray, List.set_cons_zero, List.set_cons_succ]
          refine wpAnyH_take (i := 3) (oi := ?oi3M3) (v := ?v3M3) ?oi0_3M3 (by kernel_rfl) ?ff3M3 ?rr3M3 ?hq3M3 (Or.inl ⟨?hw3M3, ?hy3M3⟩) (by assumption) ?rest3M3
          case oi0_3M3 =>
            conv =>
              lhs
              whnf
              arg 1
              whnf
          case hq3M3 => exact fun _ _ _ h => h
          case ff3M3 => kernel_rfl
          case rr3M3 => kernel_rfl
          case hw3M3 => rfl
          case hy3M3 =>
            intro w hSw
            (try dsimp only at hSw)
            first
            | (go_simp; done)
            | (go_simp; with_reducible rfl)
          try simp only [Act.put, List.setIfInBounds_toArray, List.set_cons_zero, List.set_cons_succ]
          refine wpAnyH_take (i := 4) (oi := ?oi4M3) (v := ?v4M3) ?oi0_4M3 (by kernel_rfl) ?ff4M3 ?rr4M3 ?hq4M3 (Or.inl ⟨?hw4M3, ?hy4M3⟩) (by assumption) ?rest4M3
          case oi0_4M3 =>
            conv =>
              lhs
              whnf
              arg 1
              whnf
          case hq4M3 => exact fun _ _ _ h => h
          case ff4M3 => kernel_rfl
          case rr4M3 => kernel_rfl
          case hw4M3 => rfl
          case hy4M3 =>
            intro w hSw
            (try dsimp only at hSw)
            first
            | (go_simp; done)
            | (go_simp; with_reducible rfl)
          try simp only [Act.put, List.setIfInBounds_toArray, List.set_cons_zero, List.set_cons_succ]
          refine wpAnyH_take (i := 5) (oi := ?oi5M3) (v := ?v5M3) ?oi0_5M3 (by kernel_rfl) ?ff5M3 ?rr5M3 ?hq5M3 (Or.inl ⟨?hw5M3, ?hy5M3⟩) (by assumption) ?rest5M3
          case oi0_5M3 =>
            conv =>
              lhs
              whnf
              arg 1
              whnf
          case hq5M3 => exact fun _ _ _ h => h
          case ff5M3 => kernel_rfl
          case rr5M3 => kernel_rfl
          case hw5M3 => rfl
          case hy5M3 =>
            intro w hSw
            (try dsimp only at hSw)
            first
            | (go_simp; done)
            | (go_simp; with_reducible rfl)
          try simp only [Act.put, List.setIfInBounds_toArray, List.set_cons_zero, List.set_cons_succ]
          refine wpAnyH_take (i := 6) (oi := ?oi6M3) (v := ?v6M3) ?oi0_6M3 (by kernel_rfl) ?ff6M3 ?rr6M3 ?hq6M3 (Or.inl ⟨?hw6M3, ?hy6M3⟩) (by assumption) ?rest6M3
          case oi0_6M3 =>
            conv =>
              lhs
              whnf
              arg 1
              whnf
          case hq6M3 => exact fun _ _ _ h => h
          case ff6M3 => kernel_rfl
          case rr6M3 => kernel_rfl
          case hw6M3 => rfl
          case hy6M3 =>
            intro w hSw
            (try dsimp only at hSw)
            first
            | (go_simp; done)
            | (go_simp; with_reducible rfl)
          try simp only [Act.put, List.setIfInBounds_toArray, List.set_cons_zero, List.set_cons_succ]
          refine wpAnyH_take (i := 7) (oi := ?oi7M3) (v := ?v7M3) ?oi0_7M3 (by kernel_rfl) ?ff7M3 ?rr7M3 ?hq7M3 (Or.inl ⟨?hw7M3, ?hy7M3⟩) (by assumption) ?rest7M3
          case oi0_7M3 =>
            conv =>
              lhs
              whnf
              arg 1
              whnf
          case hq7M3 => exact fun _ _ _ h => h
          case ff7M3 => kernel_rfl
          case rr7M3 => kernel_rfl
          case hw7M3 => rfl
          case hy7M3 =>
            intro w hSw
            (try dsimp only at hSw)
            first
            | (go_simp; done)
            | (go_simp; with_reducible rfl)
          try simp only [Act.put, List.setIfInBounds_toArray, List.set_cons_zero, List.set_cons_succ]
          refine wpAnyH_take (i := 8) (oi := ?oi8M3) (v := ?v8M3) ?oi0_8M3 (by kernel_rfl) ?ff8M3 ?rr8M3 ?hq8M3 (Or.inl ⟨?hw8M3, ?hy8M3⟩) (by assumption) ?rest8M3
          case oi0_8M3 =>
            conv =>
              lhs
              whnf
              arg 1
              whnf
          case hq8M3 => exact fun _ _ _ h => h
          case ff8M3 => kernel_rfl
          case rr8M3 => kernel_rfl
          case hw8M3 => rfl
          case hy8M3 =>
            intro w hSw
            (try dsimp only at hSw)
            first
            | (go_simp; done)
            | (go_simp; with_reducible rfl)
          try simp only [Act.put, List.setIfInBounds_toArray, List.set_cons_zero, List.set_cons_succ]
          refine wpAnyH_take (i := 9) (oi := ?oi9M3) (v := ?v9M3) ?oi0_9M3 (by kernel_rfl) ?ff9M3 ?rr9M3 ?hq9M3 (Or.inl ⟨?hw9M3, ?hy9M3⟩) (by assumption) ?rest9M3
          case oi0_9M3 =>
            conv =>
              lhs
              whnf
              arg 1
              whnf
          case hq9M3 => exact fun _ _ _ h => h
          case ff9M3 => kernel_rfl
          case rr9M3 => kernel_rfl
          case hw9M3 => rfl
          case hy9M3 =>
            intro w hSw
            (try dsimp only at hSw)
            first
            | (go_simp; done)
            | (go_simp; with_reducible rfl)
          try simp only [Act.put, List.setIfInBounds_toArray, List.set_cons_zero, List.set_cons_succ]
          refine wpAnyH_take (i := 10) (oi := ?oi10M3) (v := ?v10M3) ?oi0_10M3 (by kernel_rfl) ?ff10M3 ?rr10M3 ?hq10M3 (Or.inl ⟨?hw10M3, ?hy10M3⟩) (by assumption) ?rest10M3
          case oi0_10M3 =>
            conv =>
              lhs
              whnf
              arg 1
              whnf
          case hq10M3 => exact fun _ _ _ h => h
          case ff10M3 => kernel_rfl
          case rr10M3 => kernel_rfl
          case hw10M3 => rfl
          case hy10M3 =>
            intro w hSw
            (try dsimp only at hSw)
            first
            | (go_simp; done)
            | (go_simp; with_reducible rfl)
          try simp only [Act.put, List.setIfInBounds_toArray, List.set_cons_zero, List.set_cons_succ]
          refine wpAnyH_take (i := 11) (oi := ?oi11M3) (v := ?v11M3) ?oi0_11M3 (by kernel_rfl) ?ff11M3 ?rr11M3 ?hq11M3 (Or.inl ⟨?hw11M3, ?hy11M3⟩) (by assumption) ?rest11M3
          case oi0_11M3 =>
            conv =>
              lhs
              whnf
              arg 1
              whnf
          case hq11M3 => exact fun _ _ _ h => h
          case ff11M3 => kernel_rfl
          case rr11M3 => kernel_rfl
          case hw11M3 => rfl
          case hy11M3 =>
            intro w hSw
            (try dsimp only at hSw)
            first
            | (go_simp; done)
            | (go_simp; with_reducible rfl)
          try simp only [Act.put, List.setIfInBounds_toArray, List.set_cons_zero, List.set_cons_succ]
          refine wpAnyH_take (i := 12) (oi := ?oi12M3) (v := ?v12M3) ?oi0_12M3 (by kernel_rfl) ?ff12M3 ?rr12M3 ?hq12M3 (Or.inl ⟨?hw12M3, ?hy12M3⟩) (by assumption) ?rest12M3
          case oi0_12M3 =>
            conv =>
              lhs
              whnf
              arg 1
              whnf
          case hq12M3 => exact fun _ _ _ h => h
          case ff12M3 => kernel_rfl
          case rr12M3 => kernel_rfl
          case hw12M3 => rfl
          case hy12M3 =>
            intro w hSw
            (try dsimp only at hSw)
            first
            | (go_simp; done)
            | (go_simp; with_reducible rfl)
          try simp only [Act.put, List.setIfInBounds_toArray, List.set_cons_zero, List.set_cons_succ]
          refine wpAnyH_take (i := 13) (oi := ?oi13M3) (v := ?v13M3) ?oi0_13M3 (by kernel_rfl) ?ff13M3 ?rr13M3 ?hq13M3 (Or.inl ⟨?hw13M3, ?hy13M3⟩) (by assumption) ?rest13M3
          case oi0_13M3 =>
            conv =>
              lhs
              whnf
              arg 1
              whnf
          case hq13M3 => exact fun _ _ _ h => h
          case ff13M3 => kernel_rfl
          case rr13M3 => kernel_rfl
          case hw13M3 => rfl
          case hy13M3 =>
            intro w hSw
            (try dsimp only at hSw)
            first
            | (go_simp; done)
            | (go_simp; with_reducible rfl)
          try simp only [Act.put, List.setIfInBounds_toArray, List.set_cons_zero, List.set_cons_succ]
          refine wpAnyH_take (i := 15) (oi := ?oi15M4) (v := ?v15M4) ?oi0_15M4 (by kernel_rfl) ?ff15M4 ?rr15M4 ?hq15M4 (Or.inl ⟨?hw15M4, ?hy15M4⟩) (by assumption) ?rest15M4
          case oi0_15M4 =>
            conv =>
              lhs
              whnf
              arg 1
              whnf
          case hq15M4 => exact fun _ _ _ h => h
          case ff15M4 => kernel_rfl
          case rr15M4 => kernel_rfl
          case hw15M4 => rfl
          case hy15M4 =>
            intro w hSw
            (try dsimp only at hSw)
            first
            | (go_simp; done)
            | (go_simp; with_reducible rfl)
          try simp only [Act.put, List.setIfInBounds_toArray, List.set_cons_zero, List.set_cons_succ]
          refine wpAnyH_take (i := 16) (oi := ?oi16M4) (v := ?v16M4) ?oi0_16M4 (by kernel_rfl) ?ff16M4 ?rr16M4 ?hq16M4 (Or.inl ⟨?hw16M4, ?hy16M4⟩) (by assumption) ?rest16M4
          case oi0_16M4 =>
            conv =>
              lhs
              whnf
              arg 1
              whnf
          case hq16M4 => exact fun _ _ _ h => h
          case ff16M4 => kernel_rfl
          case rr16M4 => kernel_rfl
          case hw16M4 => rfl
          case hy16M4 =>
            intro w hSw
            (try dsimp only at hSw)
            first
            | (go_simp; done)
            | (go_simp; with_reducible rfl)
          try simp only [Act.put, List.setIfInBounds_toArray, List.set_cons_zero, List.set_cons_succ]
          refine wpAnyH_take (i := 17) (oi := ?oi17M4) (v := ?v17M4) ?oi0_17M4 (by kernel_rfl) ?ff17M4 ?rr17M4 ?hq17M4 (Or.inl ⟨?hw17M4, ?hy17M4⟩) (by assumption) ?rest17M4
          case oi0_17M4 =>
            conv =>
              lhs
              whnf
              arg 1
              whnf
          case hq17M4 => exact fun _ _ _ h => h
          case ff17M4 => kernel_rfl
          case rr17M4 => kernel_rfl
          case hw17M4 => rfl
          case hy17M4 =>
            intro w hSw
            (try dsimp only at hSw)
            first
            | (go_simp; done)
            | (go_simp; with_reducible rfl)
          try simp only [Act.put, List.setIfInBounds_toArray, List.set_cons_zero, List.set_cons_succ]
          refine wpAnyH_take (i := 18) (oi := ?oi18M4) (v := ?v18M4) ?oi0_18M4 (by kernel_rfl) ?ff18M4 ?rr18M4 ?hq18M4 (Or.inl ⟨?hw18M4, ?hy18M4⟩) (by assumption) ?rest18M4
          case oi0_18M4 =>
            conv =>
              lhs
              whnf
              arg 1
              whnf
          case hq18M4 => exact fun _ _ _ h => h
          case ff18M4 => kernel_rfl
          case rr18M4 => kernel_rfl
          case hw18M4 => rfl
          case hy18M4 =>
            intro w hSw
            (try dsimp only at hSw)
            first
            | (go_simp; done)
            | (go_simp; with_reducible rfl)
          try simp only [Act.put, List.setIfInBounds_toArray, List.set_cons_zero, List.set_cons_succ]
          refine wpAnyH_ready (rs := [14]) (by kernel_rfl) (by simp) (AllReadyH.cons (o := ?oiM5) ?oi0_M5 (fun K hK => ?_) AllReadyH.nil)
          case oi0_M5 =>
            conv =>
              lhs
              whnf
              arg 1
              whnf
          go_simp
          refine (HS1.out wd).mono ?_
          rintro e wp ⟨rfl, u⟩
          try simp only
          have hS : wp.cell? ⟨xg, j, none⟩ = some (.string x1) ∧ wp.cell? ⟨yg, j, none⟩ = some (.string x2) := ⟨keepc _ _ _ _ u hHeld.1, keepc _ _ _ _ u hHeld.2⟩
          replace HUD := hide (HUD.out.trans u (by simp))
          clear u hHeld
          (try dsimp only)
          refine hK.out _ _ (by exact hS) (fun hHeld => ?_)
          clear hK K hS
          try simp only [Act.put, List.setIfInBounds_toArray, List.set_cons_zero, List.set_cons_succ]
          refine wpAnyH_ready (rs := [19]) (by kernel_rfl) (by simp) (AllReadyH.cons (o := ?oiM6) ?oi0_M6 (fun K hK => ?_) AllReadyH.nil)
          case oi0_M6 =>
            conv =>
              lhs
              whnf
              arg 1
              whnf
          go_simp
          refine (HS2.out wp).mono ?_
          rintro e wq ⟨rfl, u⟩
          try simp only
          have hS : wq.cell? ⟨xg, j, none⟩ = some (.string x1) ∧ wq.cell? ⟨yg, j, none⟩ = some (.string x2) := ⟨keepc _ _ _ _ u hHeld.1, keepc _ _ _ _ u hHeld.2⟩
          replace HUD := hide (HUD.out.trans u (by simp))
          clear u hHeld
          (try dsimp only)
          refine hK.out _ _ (by exact hS) (fun hHeld => ?_)
          clear hK K hS
          try simp only [Act.put, List.setIfInBounds_toArray, List.set_cons_zero, List.set_cons_succ]
          refine wpAnyH_take (i := 20) (oi := ?oi20M7) (v := ?v20M7) ?oi0_20M7 (by kernel_rfl) ?ff20M7 ?rr20M7 ?hq20M7 (Or.inl ⟨?hw20M7, ?hy20M7⟩) (by assumption) ?rest20M7
          case oi0_20M7 =>
            conv =>
              lhs
              whnf
              arg 1
              whnf
          case hq20M7 => exact fun _ _ _ h => h
          case ff20M7 => kernel_rfl
          case rr20M7 => kernel_rfl
          case hw20M7 => rfl
          case hy20M7 =>
            intro w hSw
            (try dsimp only at hSw)
            first
            | (go_simp; done)
            | (go_simp; with_reducible rfl)
          try simp only [Act.put, List.setIfInBounds_toArray, List.set_cons_zero, List.set_cons_succ]
          refine wpAnyH_take (i := 21) (oi := ?oi21M7) (v := ?v21M7) ?oi0_21M7 (by kernel_rfl) ?ff21M7 ?rr21M7 ?hq21M7 (Or.inl ⟨?hw21M7, ?hy21M7⟩) (by assumption) ?rest21M7
          case oi0_21M7 =>
            conv =>
              lhs
              whnf
              arg 1
              whnf
          case hq21M7 => exact fun _ _ _ h => h
          case ff21M7 => kernel_rfl
          case rr21M7 => kernel_rfl
          case hw21M7 => rfl
          case hy21M7 =>
            intro w hSw
            (try dsimp only at hSw)
            first
            | (go_simp; done)
            | (go_simp; with_reducible rfl)
          try simp only [Act.put, List.setIfInBounds_toArray, List.set_cons_zero, List.set_cons_succ]
          refine wpAnyH_done (by kernel_rfl) ?_ _
          go_wp2_with fail
          go_ret
          exact ⟨rfl, (HJ13.out.step HUD.out (by simp)).below⟩
      have g6 : (cv == 0) = false := by simp [hcz]
      clear hcz
      go_wp2_with fail
      clear g6 g7
      refine HH1.out.mono ?_
      rintro e w12 ⟨xa, xc, rfl, ho, u⟩
      have HJ12 := hide (HJ11.out.step u (by simp))
      have HS12 := hide (own_kept HS11.out u (by simp))
      have HA12 := hide ho
      clear u ho HH1 HJ11 HR11 HS11
      have HH2 := hide (heads_any sa rn sc M w12 HML.out (strs_own HS12.out) HMS.out (by omega))
      go_wp2_with fail
      refine HH2.out.mono ?_
      rintro e w13 ⟨ya, yc, rfl, ho, u⟩
      have HJ13 := hide (HJ12.out.step u (by simp))
      have HA13 := hide (own_kept HA12.out u (by simp))
      have HB13 := hide ho
      clear u ho HH2 HJ12 HS12 HA12
      obtain ⟨xg, rfl⟩ := own_some HA13.out (by omega)
      obtain ⟨yg, rfl⟩ := own_some HB13.out (by omega)
      go_wp2_with fail
      go_loopw [23] (fun s23 wr => ∃ j : Nat, j ≤ i ∧ s23 = .int .i64 j ∧ Hid (Upd [] w13 wr)) (fun s _ => i - (intOf s).toNat)
      case atStart => exact ⟨0, Nat.zero_le _, rfl, hide (Upd.refl _ _)⟩
      case round =>
        obtain ⟨j, hj, rfl, hU⟩ := hrel
        obtain ⟨wo, rfl⟩ : ∃ x : World, x = wr := ⟨_, rfl⟩
        have hji : (j : Int) < rn := by omega
        have hjw : IntKind.i64.wrap ((j : Int) + 1) = (j : Int) + 1 := Go.IntWalk.i64_in _ (by omega)
        by_cases hlt : j < i
        case pos =>
          obtain ⟨z, hz⟩ : ∃ z, (headsS refK L (List.replicate 32 0))[j]? = some z := ⟨_, List.getElem?_eq_getElem (by rw [headsS_length, HRN.out]; omega)⟩
          obtain ⟨x1, hx1⟩ : ∃ x : ByteArray, ⟨z.toArray⟩ = x := ⟨_, rfl⟩
          have cA := own_str (own_kept HA13.out hU.out (by simp)) j z hz
          have cB := own_str (own_kept HB13.out hU.out (by simp)) j z (by rw [HEQ.out j hlt]; exact hz)
          rw [hx1] at cA cB
          have hne : (x1.toList == x1.toList) = true := by simp
          clear hz hx1
          go_wp2_with fail
          refine wp_region_held_drew (S := (fun w' => w'.cell? ⟨xg, j, none⟩ = some (.string x1) ∧ w'.cell? ⟨yg, j, none⟩ = some (.string x1))) (by kernel_rfl) (by exact ⟨cA, cB⟩) (fun hHeld => ?_)
          refine wpAnyH_take (i := 0) (oi := ?oi0M9) (v := ?v0M9) ?oi0_0M9 (by kernel_rfl) ?ff0M9 ?rr0M9 ?hq0M9 (Or.inl ⟨?hw0M9, ?hy0M9⟩) (by assumption) ?rest0M9
          case oi0_0M9 =>
            conv =>
              lhs
              whnf
              arg 1
              whnf
          case hq0M9 => exact fun _ _ _ h => h
          case ff0M9 => kernel_rfl
          case rr0M9 => kernel_rfl
          case hw0M9 => rfl
          case hy0M9 =>
            intro w hSw
            (try dsimp only at hSw)
            first
            | (go_simp; done)
            | (go_simp; with_reducible rfl)
          try simp only [Act.put, List.setIfInBounds_toArray, List.set_cons_zero, List.set_cons_succ]
          refine wpAnyH_take (i := 1) (oi := ?oi1M9) (v := ?v1M9) ?oi0_1M9 (by kernel_rfl) ?ff1M9 ?rr1M9 ?hq1M9 (Or.inl ⟨?hw1M9, ?hy1M9⟩) (by assumption) ?rest1M9
          case oi0_1M9 =>
            conv =>
              lhs
              whnf
              arg 1
              whnf
          case hq1M9 => exact fun _ _ _ h => h
          case ff1M9 => kernel_rfl
          case rr1M9 => kernel_rfl
          case hw1M9 => rfl
          case hy1M9 =>
            intro w hSw
            (try dsimp only at hSw)
            first
            | (go_simp; done)
            | (go_simp; with_reducible rfl)
          try simp only [Act.put, List.setIfInBounds_toArray, List.set_cons_zero, List.set_cons_succ]
          refine wpAnyH_take (i := 2) (oi := ?oi2M9) (v := ?v2M9) ?oi0_2M9 (by kernel_rfl) ?ff2M9 ?rr2M9 ?hq2M9 (Or.inl ⟨?hw2M9, ?hy2M9⟩) (by assumption) ?rest2M9
          case oi0_2M9 =>
            conv =>
              lhs
              whnf
              arg 1
              whnf
          case hq2M9 => exact fun _ _ _ h => h
          case ff2M9 => kernel_rfl
          case rr2M9 => kernel_rfl
          case hw2M9 => rfl
          case hy2M9 =>
            intro w hSw
            (try dsimp only at hSw)
            first
            | (go_simp; done)
            | (go_simp; with_reducible rfl)
          try simp only [Act.put, List.setIfInBounds_toArray, List.set_cons_zero, List.set_cons_succ]
          refine wpAnyH_take (i := 3) (oi := ?oi3M9) (v := ?v3M9) ?oi0_3M9 (by kernel_rfl) ?ff3M9 ?rr3M9 ?hq3M9 (Or.inl ⟨?hw3M9, ?hy3M9⟩) (by assumption) ?rest3M9
          case oi0_3M9 =>
            conv =>
              lhs
              whnf
              arg 1
              whnf
          case hq3M9 => exact fun _ _ _ h => h
          case ff3M9 => kernel_rfl
          case rr3M9 => kernel_rfl
          case hw3M9 => rfl
          case hy3M9 =>
            intro w hSw
            (try dsimp only at hSw)
            first
            | (go_simp; done)
            | (go_simp; with_reducible rfl)
          try simp only [Act.put, List.setIfInBounds_toArray, List.set_cons_zero, List.set_cons_succ]
          refine wpAnyH_take (i := 4) (oi := ?oi4M9) (v := ?v4M9) ?oi0_4M9 (by kernel_rfl) ?ff4M9 ?rr4M9 ?hq4M9 (Or.inl ⟨?hw4M9, ?hy4M9⟩) (by assumption) ?rest4M9
          case oi0_4M9 =>
            conv =>
              lhs
              whnf
              arg 1
              whnf
          case hq4M9 => exact fun _ _ _ h => h
          case ff4M9 => kernel_rfl
          case rr4M9 => kernel_rfl
          case hw4M9 => rfl
          case hy4M9 =>
            intro w hSw
            (try dsimp only at hSw)
            first
            | (go_simp; done)
            | (go_simp; with_reducible rfl)
          try simp only [Act.put, List.setIfInBounds_toArray, List.set_cons_zero, List.set_cons_succ]
          refine wpAnyH_take (i := 5) (oi := ?oi5M9) (v := ?v5M9) ?oi0_5M9 (by kernel_rfl) ?ff5M9 ?rr5M9 ?hq5M9 (Or.inl ⟨?hw5M9, ?hy5M9⟩) (by assumption) ?rest5M9
          case oi0_5M9 =>
            conv =>
              lhs
              whnf
              arg 1
              whnf
          case hq5M9 => exact fun _ _ _ h => h
          case ff5M9 => kernel_rfl
          case rr5M9 => kernel_rfl
          case hw5M9 => rfl
          case hy5M9 =>
            intro w hSw
            (try dsimp only at hSw)
            first
            | (go_simp; done)
            | (go_simp; with_reducible rfl)
          try simp only [Act.put, List.setIfInBounds_toArray, List.set_cons_zero, List.set_cons_succ]
          refine wpAnyH_take (i := 6) (oi := ?oi6M9) (v := ?v6M9) ?oi0_6M9 (by kernel_rfl) ?ff6M9 ?rr6M9 ?hq6M9 (Or.inl ⟨?hw6M9, ?hy6M9⟩) (by assumption) ?rest6M9
          case oi0_6M9 =>
            conv =>
              lhs
              whnf
              arg 1
              whnf
          case hq6M9 => exact fun _ _ _ h => h
          case ff6M9 => kernel_rfl
          case rr6M9 => kernel_rfl
          case hw6M9 => rfl
          case hy6M9 =>
            intro w hSw
            (try dsimp only at hSw)
            first
            | (go_simp; done)
            | (go_simp; with_reducible rfl)
          try simp only [Act.put, List.setIfInBounds_toArray, List.set_cons_zero, List.set_cons_succ]
          refine wpAnyH_take (i := 7) (oi := ?oi7M9) (v := ?v7M9) ?oi0_7M9 (by kernel_rfl) ?ff7M9 ?rr7M9 ?hq7M9 (Or.inl ⟨?hw7M9, ?hy7M9⟩) (by assumption) ?rest7M9
          case oi0_7M9 =>
            conv =>
              lhs
              whnf
              arg 1
              whnf
          case hq7M9 => exact fun _ _ _ h => h
          case ff7M9 => kernel_rfl
          case rr7M9 => kernel_rfl
          case hw7M9 => rfl
          case hy7M9 =>
            intro w hSw
            (try dsimp only at hSw)
            first
            | (go_simp; done)
            | (go_simp; with_reducible rfl)
          try simp only [Act.put, List.setIfInBounds_toArray, List.set_cons_zero, List.set_cons_succ]
          refine wpAnyH_take (i := 8) (oi := ?oi8M9) (v := ?v8M9) ?oi0_8M9 (by kernel_rfl) ?ff8M9 ?rr8M9 ?hq8M9 (Or.inl ⟨?hw8M9, ?hy8M9⟩) (by assumption) ?rest8M9
          case oi0_8M9 =>
            conv =>
              lhs
              whnf
              arg 1
              whnf
          case hq8M9 => exact fun _ _ _ h => h
          case ff8M9 => kernel_rfl
          case rr8M9 => kernel_rfl
          case hw8M9 => rfl
          case hy8M9 =>
            intro w hSw
            (try dsimp only at hSw)
            first
            | (go_simp; done)
            | (go_simp; with_reducible rfl)
          try simp only [Act.put, List.setIfInBounds_toArray, List.set_cons_zero, List.set_cons_succ]
          refine wpAnyH_take (i := 9) (oi := ?oi9M9) (v := ?v9M9) ?oi0_9M9 (by kernel_rfl) ?ff9M9 ?rr9M9 ?hq9M9 (Or.inl ⟨?hw9M9, ?hy9M9⟩) (by assumption) ?rest9M9
          case oi0_9M9 =>
            conv =>
              lhs
              whnf
              arg 1
              whnf
          case hq9M9 => exact fun _ _ _ h => h
          case ff9M9 => kernel_rfl
          case rr9M9 => kernel_rfl
          case hw9M9 => rfl
          case hy9M9 =>
            intro w hSw
            (try dsimp only at hSw)
            first
            | (go_simp; done)
            | (go_simp; with_reducible rfl)
          try simp only [Act.put, List.setIfInBounds_toArray, List.set_cons_zero, List.set_cons_succ]
          refine wpAnyH_take (i := 10) (oi := ?oi10M9) (v := undef) ?oi0_10M9 (by kernel_rfl) ?ff10M9 ?rr10M9 ?hq10M9 (Or.inr ⟨?hw10M9, rfl⟩) (by assumption) ?rest10M9
          case oi0_10M9 =>
            conv =>
              lhs
              whnf
              arg 1
              whnf
          case hq10M9 => exact fun _ _ _ h => h
          case ff10M9 => kernel_rfl
          case rr10M9 => kernel_rfl
          case hw10M9 => rfl
          try simp only [Act.put, List.setIfInBounds_toArray, List.set_cons_zero, List.set_cons_succ]
          refine wpAnyH_take (i := 11) (oi := ?oi11M9) (v := undef) ?oi0_11M9 (by kernel_rfl) ?ff11M9 ?rr11M9 ?hq11M9 (Or.inr ⟨?hw11M9, rfl⟩) (by assumption) ?rest11M9
          case oi0_11M9 =>
            conv =>
              lhs
              whnf
              arg 1
              whnf
          case hq11M9 => exact fun _ _ _ h => h
          case ff11M9 => kernel_rfl
          case rr11M9 => kernel_rfl
          case hw11M9 => rfl
          try simp only [Act.put, List.setIfInBounds_toArray, List.set_cons_zero, List.set_cons_succ]
          refine wpAnyH_take (i := 12) (oi := ?oi12M9) (v := undef) ?oi0_12M9 (by kernel_rfl) ?ff12M9 ?rr12M9 ?hq12M9 (Or.inr ⟨?hw12M9, rfl⟩) (by assumption) ?rest12M9
          case oi0_12M9 =>
            conv =>
              lhs
              whnf
              arg 1
              whnf
          case hq12M9 => exact fun _ _ _ h => h
          case ff12M9 => kernel_rfl
          case rr12M9 => kernel_rfl
          case hw12M9 => rfl
          try simp only [Act.put, List.setIfInBounds_toArray, List.set_cons_zero, List.set_cons_succ]
          refine wpAnyH_take (i := 13) (oi := ?oi13M9) (v := undef) ?oi0_13M9 (by kernel_rfl) ?ff13M9 ?rr13M9 ?hq13M9 (Or.inr ⟨?hw13M9, rfl⟩) (by assumption) ?rest13M9
          case oi0_13M9 =>
            conv =>
              lhs
              whnf
              arg 1
              whnf
          case hq13M9 => exact fun _ _ _ h => h
          case ff13M9 => kernel_rfl
          case rr13M9 => kernel_rfl
          case hw13M9 => rfl
          try simp only [Act.put, List.setIfInBounds_toArray, List.set_cons_zero, List.set_cons_succ]
          refine wpAnyH_take (i := 15) (oi := ?oi15M9) (v := undef) ?oi0_15M9 (by kernel_rfl) ?ff15M9 ?rr15M9 ?hq15M9 (Or.inr ⟨?hw15M9, rfl⟩) (by assumption) ?rest15M9
          case oi0_15M9 =>
            conv =>
              lhs
              whnf
              arg 1
              whnf
          case hq15M9 => exact fun _ _ _ h => h
          case ff15M9 => kernel_rfl
          case rr15M9 => kernel_rfl
          case hw15M9 => rfl
          try simp only [Act.put, List.setIfInBounds_toArray, List.set_cons_zero, List.set_cons_succ]
          refine wpAnyH_take (i := 16) (oi := ?oi16M9) (v := undef) ?oi0_16M9 (by kernel_rfl) ?ff16M9 ?rr16M9 ?hq16M9 (Or.inr ⟨?hw16M9, rfl⟩) (by assumption) ?rest16M9
          case oi0_16M9 =>
            conv =>
              lhs
              whnf
              arg 1
              whnf
          case hq16M9 => exact fun _ _ _ h => h
          case ff16M9 => kernel_rfl
          case rr16M9 => kernel_rfl
          case hw16M9 => rfl
          try simp only [Act.put, List.setIfInBounds_toArray, List.set_cons_zero, List.set_cons_succ]
          refine wpAnyH_take (i := 17) (oi := ?oi17M9) (v := undef) ?oi0_17M9 (by kernel_rfl) ?ff17M9 ?rr17M9 ?hq17M9 (Or.inr ⟨?hw17M9, rfl⟩) (by assumption) ?rest17M9
          case oi0_17M9 =>
            conv =>
              lhs
              whnf
              arg 1
              whnf
          case hq17M9 => exact fun _ _ _ h => h
          case ff17M9 => kernel_rfl
          case rr17M9 => kernel_rfl
          case hw17M9 => rfl
          try simp only [Act.put, List.setIfInBounds_toArray, List.set_cons_zero, List.set_cons_succ]
          refine wpAnyH_take (i := 18) (oi := ?oi18M9) (v := undef) ?oi0_18M9 (by kernel_rfl) ?ff18M9 ?rr18M9 ?hq18M9 (Or.inr ⟨?hw18M9, rfl⟩) (by assumption) ?rest18M9
          case oi0_18M9 =>
            conv =>
              lhs
              whnf
              arg 1
              whnf
          case hq18M9 => exact fun _ _ _ h => h
          case ff18M9 => kernel_rfl
          case rr18M9 => kernel_rfl
          case hw18M9 => rfl
          try simp only [Act.put, List.setIfInBounds_toArray, List.set_cons_zero, List.set_cons_succ]
          refine wpAnyH_ready (rs := [14]) (by kernel_rfl) (by simp) (AllReadyH.cons (o := ?oi14M9) ?oi0_14M9 (fun K hK => ?_) AllReadyH.nil)
          case oi0_14M9 =>
            conv =>
              lhs
              whnf
              arg 1
              whnf
          rw [if_neg (by first | (simp [Region.wanted, yielded]; done) | (simp [Region.wanted, yielded]; exact fun h => nomatch (show (none : Option Bool) = some true from h)) | (simp [Region.wanted, yielded]; exact fun h => nomatch (show (none : Option Bool) = some false from h)))]
          refine hK.out _ _ (by assumption) (fun _ => ?_)
          clear hK K
          try simp only [Act.put, List.setIfInBounds_toArray, List.set_cons_zero, List.set_cons_succ]
          refine wpAnyH_ready (rs := [19]) (by kernel_rfl) (by simp) (AllReadyH.cons (o := ?oi19M9) ?oi0_19M9 (fun K hK => ?_) AllReadyH.nil)
          case oi0_19M9 =>
            conv =>
              lhs
              whnf
              arg 1
              whnf
          rw [if_neg (by first | (simp [Region.wanted, yielded]; done) | (simp [Region.wanted, yielded]; exact fun h => nomatch (show (none : Option Bool) = some true from h)) | (simp [Region.wanted, yielded]; exact fun h => nomatch (show (none : Option Bool) = some false from h)))]
          refine hK.out _ _ (by assumption) (fun _ => ?_)
          clear hK K
          try simp only [Act.put, List.setIfInBounds_toArray, List.set_cons_zero, List.set_cons_succ]
          refine wpAnyH_take (i := 20) (oi := ?oi20M9) (v := undef) ?oi0_20M9 (by kernel_rfl) ?ff20M9 ?rr20M9 ?hq20M9 (Or.inr ⟨?hw20M9, rfl⟩) (by assumption) ?rest20M9
          case oi0_20M9 =>
            conv =>
              lhs
              whnf
              arg 1
              whnf
          case hq20M9 => exact fun _ _ _ h => h
          case ff20M9 => kernel_rfl
          case rr20M9 => kernel_rfl
          case hw20M9 => rfl
          try simp only [Act.put, List.setIfInBounds_toArray, List.set_cons_zero, List.set_cons_succ]
          refine wpAnyH_take (i := 21) (oi := ?oi21M9) (v := ?v21M9) ?oi0_21M9 (by kernel_rfl) ?ff21M9 ?rr21M9 ?hq21M9 (Or.inl ⟨?hw21M9, ?hy21M9⟩) (by assumption) ?rest21M9
          case oi0_21M9 =>
            conv =>
              lhs
              whnf
              arg 1
              whnf
          case hq21M9 => exact fun _ _ _ h => h
          case ff21M9 => kernel_rfl
          case rr21M9 => kernel_rfl
          case hw21M9 => rfl
          case hy21M9 =>
            intro w hSw
            (try dsimp only at hSw)
            first
            | (go_simp; done)
            | (go_simp; with_reducible rfl)
          try simp only [Act.put, List.setIfInBounds_toArray, List.set_cons_zero, List.set_cons_succ]
          refine wpAnyH_done (by kernel_rfl) ?_ _
          go_wp2_with fail
          go_roundw
          case rel => exact ⟨j + 1, by omega, by go_num, hide hU.out.drew⟩
          case measure => simp [intOf] <;> omega
        obtain rfl : j = i := by omega
        obtain ⟨x1, hx1⟩ : ∃ x : ByteArray, ⟨(2 :: (hd ++ r)).toArray⟩ = x := ⟨_, rfl⟩
        obtain ⟨x2, hx2⟩ : ∃ x : ByteArray, ⟨(2 :: (hd ++ r')).toArray⟩ = x := ⟨_, rfl⟩
        have cA := own_str (own_kept HA13.out hU.out (by simp)) j _ HXA.out
        have cB := own_str (own_kept HB13.out hU.out (by simp)) j _ HXB.out
        rw [hx1] at cA
        rw [hx2] at cB
        have hne : (x1.toList == x2.toList) = false := by
          rw [ByteArray.toList_eq, ByteArray.toList_eq]
          refine beq_eq_false_iff_ne.2 (fun e => ?_)
          rw [← hx1, ← hx2] at e
          have e2 := congrArg List.tail (show (2 :: (hd ++ r) : List UInt8) = 2 :: (hd ++ r') from e)
          exact HNR.out (List.append_cancel_left (show hd ++ r = hd ++ r' from e2)).symm
        obtain ⟨z, hz⟩ : ∃ x : ByteArray, ⟨(sumS refK (2 :: (hd ++ r))).toArray⟩ = x := ⟨_, rfl⟩
        have HS1 := hide (fun W => refSum x1 W (by rw [← hx1]; show (2 :: (hd ++ r)).toArray.size ≤ _; rw [List.size_toArray, List.length_cons, List.length_append, HHL.out]; have := HRS.out; omega))
        have HS2 := hide (fun W => refSum x2 W (by rw [← hx2]; show (2 :: (hd ++ r')).toArray.size ≤ _; rw [List.size_toArray, List.length_cons, List.length_append, HHL.out, HRL.out]; have := HRS.out; omega))
        rw [show x1.data.toList = 2 :: (hd ++ r) by rw [← hx1], hz] at HS1
        rw [show x2.data.toList = 2 :: (hd ++ r') by rw [← hx2], show sumS refK (2 :: (hd ++ r')) = sumS refK (2 :: (hd ++ r)) from HCOL.out, hz] at HS2
        have hzz : (z.toList == z.toList) = true := by simp
        clear hx1 hx2 hz
        go_wp2_with fail
        refine wp_region_held_drew (S := (fun w' => w'.cell? ⟨xg, j, none⟩ = some (.string x1) ∧ w'.cell? ⟨yg, j, none⟩ = some (.string x2))) (by kernel_rfl) (by exact ⟨cA, cB⟩) (fun hHeld => ?_)
        obtain ⟨wd, hw⟩ : ∃ x, wo.drew = x := ⟨_, rfl⟩
        have u : Upd [] wo wd := by rw [← hw]; exact (Upd.refl [] _).drew
        rw [hw] at hHeld ⊢
        have HUD := hide (hU.out.trans u (by simp))
        clear hw u
        refine wpAnyH_take (i := 0) (oi := ?oi0M11) (v := ?v0M11) ?oi0_0M11 (by kernel_rfl) ?ff0M11 ?rr0M11 ?hq0M11 (Or.inl ⟨?hw0M11, ?hy0M11⟩) (by assumption) ?rest0M11
        case oi0_0M11 =>
          conv =>
            lhs
            whnf
            arg 1
            whnf
        case hq0M11 => exact fun _ _ _ h => h
        case ff0M11 => kernel_rfl
        case rr0M11 => kernel_rfl
        case hw0M11 => rfl
        case hy0M11 =>
          intro w hSw
          (try dsimp only at hSw)
          first
          | (go_simp; done)
          | (go_simp; with_reducible rfl)
        try simp only [Act.put, List.setIfInBounds_toArray, List.set_cons_zero, List.set_cons_succ]
        refine wpAnyH_take (i := 1) (oi := ?oi1M11) (v := ?v1M11) ?oi0_1M11 (by kernel_rfl) ?ff1M11 ?rr1M11 ?hq1M11 (Or.inl ⟨?hw1M11, ?hy1M11⟩) (by assumption) ?rest1M11
        case oi0_1M11 =>
          conv =>
            lhs
            whnf
            arg 1
            whnf
        case hq1M11 => exact fun _ _ _ h => h
        case ff1M11 => kernel_rfl
        case rr1M11 => kernel_rfl
        case hw1M11 => rfl
        case hy1M11 =>
          intro w hSw
          (try dsimp only at hSw)
          first
          | (go_simp; done)
          | (go_simp; with_reducible rfl)
        try simp only [Act.put, List.setIfInBounds_toArray, List.set_cons_zero, List.set_cons_succ]
        refine wpAnyH_take (i := 2) (oi := ?oi2M11) (v := ?v2M11) ?oi0_2M11 (by kernel_rfl) ?ff2M11 ?rr2M11 ?hq2M11 (Or.inl ⟨?hw2M11, ?hy2M11⟩) (by assumption) ?rest2M11
        case oi0_2M11 =>
          conv =>
            lhs
            whnf
            arg 1
            whnf
        case hq2M11 => exact fun _ _ _ h => h
        case ff2M11 => kernel_rfl
        case rr2M11 => kernel_rfl
        case hw2M11 => rfl
        case hy2M11 =>
          intro w hSw
          (try dsimp only at hSw)
          first
          | (go_simp; done)
          | (go_simp; with_reducible rfl)
        try simp only [Act.put, List.setIfInBounds_toArray, List.set_cons_zero, List.set_cons_succ]
        refine wpAnyH_take (i := 3) (oi := ?oi3M11) (v := ?v3M11) ?oi0_3M11 (by kernel_rfl) ?ff3M11 ?rr3M11 ?hq3M11 (Or.inl ⟨?hw3M11, ?hy3M11⟩) (by assumption) ?rest3M11
        case oi0_3M11 =>
          conv =>
            lhs
            whnf
            arg 1
            whnf
        case hq3M11 => exact fun _ _ _ h => h
        case ff3M11 => kernel_rfl
        case rr3M11 => kernel_rfl
        case hw3M11 => rfl
        case hy3M11 =>
          intro w hSw
          (try dsimp only at hSw)
          first
          | (go_simp; done)
          | (go_simp; with_reducible rfl)
        try simp only [Act.put, List.setIfInBounds_toArray, List.set_cons_zero, List.set_cons_succ]
        refine wpAnyH_take (i := 4) (oi := ?oi4M11) (v := ?v4M11) ?oi0_4M11 (by kernel_rfl) ?ff4M11 ?rr4M11 ?hq4M11 (Or.inl ⟨?hw4M11, ?hy4M11⟩) (by assumption) ?rest4M11
        case oi0_4M11 =>
          conv =>
            lhs
            whnf
            arg 1
            whnf
        case hq4M11 => exact fun _ _ _ h => h
        case ff4M11 => kernel_rfl
        case rr4M11 => kernel_rfl
        case hw4M11 => rfl
        case hy4M11 =>
          intro w hSw
          (try dsimp only at hSw)
          first
          | (go_simp; done)
          | (go_simp; with_reducible rfl)
        try simp only [Act.put, List.setIfInBounds_toArray, List.set_cons_zero, List.set_cons_succ]
        refine wpAnyH_take (i := 5) (oi := ?oi5M11) (v := ?v5M11) ?oi0_5M11 (by kernel_rfl) ?ff5M11 ?rr5M11 ?hq5M11 (Or.inl ⟨?hw5M11, ?hy5M11⟩) (by assumption) ?rest5M11
        case oi0_5M11 =>
          conv =>
            lhs
            whnf
            arg 1
            whnf
        case hq5M11 => exact fun _ _ _ h => h
        case ff5M11 => kernel_rfl
        case rr5M11 => kernel_rfl
        case hw5M11 => rfl
        case hy5M11 =>
          intro w hSw
          (try dsimp only at hSw)
          first
          | (go_simp; done)
          | (go_simp; with_reducible rfl)
        try simp only [Act.put, List.setIfInBounds_toArray, List.set_cons_zero, List.set_cons_succ]
        refine wpAnyH_take (i := 6) (oi := ?oi6M11) (v := ?v6M11) ?oi0_6M11 (by kernel_rfl) ?ff6M11 ?rr6M11 ?hq6M11 (Or.inl ⟨?hw6M11, ?hy6M11⟩) (by assumption) ?rest6M11
        case oi0_6M11 =>
          conv =>
            lhs
            whnf
            arg 1
            whnf
        case hq6M11 => exact fun _ _ _ h => h
        case ff6M11 => kernel_rfl
        case rr6M11 => kernel_rfl
        case hw6M11 => rfl
        case hy6M11 =>
          intro w hSw
          (try dsimp only at hSw)
          first
          | (go_simp; done)
          | (go_simp; with_reducible rfl)
        try simp only [Act.put, List.setIfInBounds_toArray, List.set_cons_zero, List.set_cons_succ]
        refine wpAnyH_take (i := 7) (oi := ?oi7M11) (v := ?v7M11) ?oi0_7M11 (by kernel_rfl) ?ff7M11 ?rr7M11 ?hq7M11 (Or.inl ⟨?hw7M11, ?hy7M11⟩) (by assumption) ?rest7M11
        case oi0_7M11 =>
          conv =>
            lhs
            whnf
            arg 1
            whnf
        case hq7M11 => exact fun _ _ _ h => h
        case ff7M11 => kernel_rfl
        case rr7M11 => kernel_rfl
        case hw7M11 => rfl
        case hy7M11 =>
          intro w hSw
          (try dsimp only at hSw)
          first
          | (go_simp; done)
          | (go_simp; with_reducible rfl)
        try simp only [Act.put, List.setIfInBounds_toArray, List.set_cons_zero, List.set_cons_succ]
        refine wpAnyH_take (i := 8) (oi := ?oi8M11) (v := ?v8M11) ?oi0_8M11 (by kernel_rfl) ?ff8M11 ?rr8M11 ?hq8M11 (Or.inl ⟨?hw8M11, ?hy8M11⟩) (by assumption) ?rest8M11
        case oi0_8M11 =>
          conv =>
            lhs
            whnf
            arg 1
            whnf
        case hq8M11 => exact fun _ _ _ h => h
        case ff8M11 => kernel_rfl
        case rr8M11 => kernel_rfl
        case hw8M11 => rfl
        case hy8M11 =>
          intro w hSw
          (try dsimp only at hSw)
          first
          | (go_simp; done)
          | (go_simp; with_reducible rfl)
        try simp only [Act.put, List.setIfInBounds_toArray, List.set_cons_zero, List.set_cons_succ]
        refine wpAnyH_take (i := 9) (oi := ?oi9M11) (v := ?v9M11) ?oi0_9M11 (by kernel_rfl) ?ff9M11 ?rr9M11 ?hq9M11 (Or.inl ⟨?hw9M11, ?hy9M11⟩) (by assumption) ?rest9M11
        case oi0_9M11 =>
          conv =>
            lhs
            whnf
            arg 1
            whnf
        case hq9M11 => exact fun _ _ _ h => h
        case ff9M11 => kernel_rfl
        case rr9M11 => kernel_rfl
        case hw9M11 => rfl
        case hy9M11 =>
          intro w hSw
          (try dsimp only at hSw)
          first
          | (go_simp; done)
          | (go_simp; with_reducible rfl)
        try simp only [Act.put, List.setIfInBounds_toArray, List.set_cons_zero, List.set_cons_succ]
        refine wpAnyH_take (i := 10) (oi := ?oi10M11) (v := ?v10M11) ?oi0_10M11 (by kernel_rfl) ?ff10M11 ?rr10M11 ?hq10M11 (Or.inl ⟨?hw10M11, ?hy10M11⟩) (by assumption) ?rest10M11
        case oi0_10M11 =>
          conv =>
            lhs
            whnf
            arg 1
            whnf
        case hq10M11 => exact fun _ _ _ h => h
        case ff10M11 => kernel_rfl
        case rr10M11 => kernel_rfl
        case hw10M11 => rfl
        case hy10M11 =>
          intro w hSw
          (try dsimp only at hSw)
          first
          | (go_simp; done)
          | (go_simp; with_reducible rfl)
        try simp only [Act.put, List.setIfInBounds_toArray, List.set_cons_zero, List.set_cons_succ]
        refine wpAnyH_take (i := 11) (oi := ?oi11M11) (v := ?v11M11) ?oi0_11M11 (by kernel_rfl) ?ff11M11 ?rr11M11 ?hq11M11 (Or.inl ⟨?hw11M11, ?hy11M11⟩) (by assumption) ?rest11M11
        case oi0_11M11 =>
          conv =>
            lhs
            whnf
            arg 1
            whnf
        case hq11M11 => exact fun _ _ _ h => h
        case ff11M11 => kernel_rfl
        case rr11M11 => kernel_rfl
        case hw11M11 => rfl
        case hy11M11 =>
          intro w hSw
          (try dsimp only at hSw)
          first
          | (go_simp; done)
          | (go_simp; with_reducible rfl)
        try simp only [Act.put, List.setIfInBounds_toArray, List.set_cons_zero, List.set_cons_succ]
        refine wpAnyH_take (i := 12) (oi := ?oi12M11) (v := ?v12M11) ?oi0_12M11 (by kernel_rfl) ?ff12M11 ?rr12M11 ?hq12M11 (Or.inl ⟨?hw12M11, ?hy12M11⟩) (by assumption) ?rest12M11
        case oi0_12M11 =>
          conv =>
            lhs
            whnf
            arg 1
            whnf
        case hq12M11 => exact fun _ _ _ h => h
        case ff12M11 => kernel_rfl
        case rr12M11 => kernel_rfl
        case hw12M11 => rfl
        case hy12M11 =>
          intro w hSw
          (try dsimp only at hSw)
          first
          | (go_simp; done)
          | (go_simp; with_reducible rfl)
        try simp only [Act.put, List.setIfInBounds_toArray, List.set_cons_zero, List.set_cons_succ]
        refine wpAnyH_take (i := 13) (oi := ?oi13M11) (v := ?v13M11) ?oi0_13M11 (by kernel_rfl) ?ff13M11 ?rr13M11 ?hq13M11 (Or.inl ⟨?hw13M11, ?hy13M11⟩) (by assumption) ?rest13M11
        case oi0_13M11 =>
          conv =>
            lhs
            whnf
            arg 1
            whnf
        case hq13M11 => exact fun _ _ _ h => h
        case ff13M11 => kernel_rfl
        case rr13M11 => kernel_rfl
        case hw13M11 => rfl
        case hy13M11 =>
          intro w hSw
          (try dsimp only at hSw)
          first
          | (go_simp; done)
          | (go_simp; with_reducible rfl)
        try simp only [Act.put, List.setIfInBounds_toArray, List.set_cons_zero, List.set_cons_succ]
        refine wpAnyH_take (i := 15) (oi := ?oi15M12) (v := ?v15M12) ?oi0_15M12 (by kernel_rfl) ?ff15M12 ?rr15M12 ?hq15M12 (Or.inl ⟨?hw15M12, ?hy15M12⟩) (by assumption) ?rest15M12
        case oi0_15M12 =>
          conv =>
            lhs
            whnf
            arg 1
            whnf
        case hq15M12 => exact fun _ _ _ h => h
        case ff15M12 => kernel_rfl
        case rr15M12 => kernel_rfl
        case hw15M12 => rfl
        case hy15M12 =>
          intro w hSw
          (try dsimp only at hSw)
          first
          | (go_simp; done)
          | (go_simp; with_reducible rfl)
        try simp only [Act.put, List.setIfInBounds_toArray, List.set_cons_zero, List.set_cons_succ]
        refine wpAnyH_take (i := 16) (oi := ?oi16M12) (v := ?v16M12) ?oi0_16M12 (by kernel_rfl) ?ff16M12 ?rr16M12 ?hq16M12 (Or.inl ⟨?hw16M12, ?hy16M12⟩) (by assumption) ?rest16M12
        case oi0_16M12 =>
          conv =>
            lhs
            whnf
            arg 1
            whnf
        case hq16M12 => exact fun _ _ _ h => h
        case ff16M12 => kernel_rfl
        case rr16M12 => kernel_rfl
        case hw16M12 => rfl
        case hy16M12 =>
          intro w hSw
          (try dsimp only at hSw)
          first
          | (go_simp; done)
          | (go_simp; with_reducible rfl)
        try simp only [Act.put, List.setIfInBounds_toArray, List.set_cons_zero, List.set_cons_succ]
        refine wpAnyH_take (i := 17) (oi := ?oi17M12) (v := ?v17M12) ?oi0_17M12 (by kernel_rfl) ?ff17M12 ?rr17M12 ?hq17M12 (Or.inl ⟨?hw17M12, ?hy17M12⟩) (by assumption) ?rest17M12
        case oi0_17M12 =>
          conv =>
            lhs
            whnf
            arg 1
            whnf
        case hq17M12 => exact fun _ _ _ h => h
        case ff17M12 => kernel_rfl
        case rr17M12 => kernel_rfl
        case hw17M12 => rfl
        case hy17M12 =>
          intro w hSw
          (try dsimp only at hSw)
          first
          | (go_simp; done)
          | (go_simp; with_reducible rfl)
        try simp only [Act.put, List.setIfInBounds_toArray, List.set_cons_zero, List.set_cons_succ]
        refine wpAnyH_take (i := 18) (oi := ?oi18M12) (v := ?v18M12) ?oi0_18M12 (by kernel_rfl) ?ff18M12 ?rr18M12 ?hq18M12 (Or.inl ⟨?hw18M12, ?hy18M12⟩) (by assumption) ?rest18M12
        case oi0_18M12 =>
          conv =>
            lhs
            whnf
            arg 1
            whnf
        case hq18M12 => exact fun _ _ _ h => h
        case ff18M12 => kernel_rfl
        case rr18M12 => kernel_rfl
        case hw18M12 => rfl
        case hy18M12 =>
          intro w hSw
          (try dsimp only at hSw)
          first
          | (go_simp; done)
          | (go_simp; with_reducible rfl)
        try simp only [Act.put, List.setIfInBounds_toArray, List.set_cons_zero, List.set_cons_succ]
        refine wpAnyH_ready (rs := [14]) (by kernel_rfl) (by simp) (AllReadyH.cons (o := ?oiM13) ?oi0_M13 (fun K hK => ?_) AllReadyH.nil)
        case oi0_M13 =>
          conv =>
            lhs
            whnf
            arg 1
            whnf
        go_simp
        refine (HS1.out wd).mono ?_
        rintro e wp ⟨rfl, u⟩
        try simp only
        have hS : wp.cell? ⟨xg, j, none⟩ = some (.string x1) ∧ wp.cell? ⟨yg, j, none⟩ = some (.string x2) := ⟨keepc _ _ _ _ u hHeld.1, keepc _ _ _ _ u hHeld.2⟩
        replace HUD := hide (HUD.out.trans u (by simp))
        clear u hHeld
        (try dsimp only)
        refine hK.out _ _ (by exact hS) (fun hHeld => ?_)
        clear hK K hS
        try simp only [Act.put, List.setIfInBounds_toArray, List.set_cons_zero, List.set_cons_succ]
        refine wpAnyH_ready (rs := [19]) (by kernel_rfl) (by simp) (AllReadyH.cons (o := ?oiM14) ?oi0_M14 (fun K hK => ?_) AllReadyH.nil)
        case oi0_M14 =>
          conv =>
            lhs
            whnf
            arg 1
            whnf
        go_simp
        refine (HS2.out wp).mono ?_
        rintro e wq ⟨rfl, u⟩
        try simp only
        have hS : wq.cell? ⟨xg, j, none⟩ = some (.string x1) ∧ wq.cell? ⟨yg, j, none⟩ = some (.string x2) := ⟨keepc _ _ _ _ u hHeld.1, keepc _ _ _ _ u hHeld.2⟩
        replace HUD := hide (HUD.out.trans u (by simp))
        clear u hHeld
        (try dsimp only)
        refine hK.out _ _ (by exact hS) (fun hHeld => ?_)
        clear hK K hS
        try simp only [Act.put, List.setIfInBounds_toArray, List.set_cons_zero, List.set_cons_succ]
        refine wpAnyH_take (i := 20) (oi := ?oi20M15) (v := ?v20M15) ?oi0_20M15 (by kernel_rfl) ?ff20M15 ?rr20M15 ?hq20M15 (Or.inl ⟨?hw20M15, ?hy20M15⟩) (by assumption) ?rest20M15
        case oi0_20M15 =>
          conv =>
            lhs
            whnf
            arg 1
            whnf
        case hq20M15 => exact fun _ _ _ h => h
        case ff20M15 => kernel_rfl
        case rr20M15 => kernel_rfl
        case hw20M15 => rfl
        case hy20M15 =>
          intro w hSw
          (try dsimp only at hSw)
          first
          | (go_simp; done)
          | (go_simp; with_reducible rfl)
        try simp only [Act.put, List.setIfInBounds_toArray, List.set_cons_zero, List.set_cons_succ]
        refine wpAnyH_take (i := 21) (oi := ?oi21M15) (v := ?v21M15) ?oi0_21M15 (by kernel_rfl) ?ff21M15 ?rr21M15 ?hq21M15 (Or.inl ⟨?hw21M15, ?hy21M15⟩) (by assumption) ?rest21M15
        case oi0_21M15 =>
          conv =>
            lhs
            whnf
            arg 1
            whnf
        case hq21M15 => exact fun _ _ _ h => h
        case ff21M15 => kernel_rfl
        case rr21M15 => kernel_rfl
        case hw21M15 => rfl
        case hy21M15 =>
          intro w hSw
          (try dsimp only at hSw)
          first
          | (go_simp; done)
          | (go_simp; with_reducible rfl)
        try simp only [Act.put, List.setIfInBounds_toArray, List.set_cons_zero, List.set_cons_succ]
        refine wpAnyH_done (by kernel_rfl) ?_ _
        go_wp2_with fail
        go_ret
        exact ⟨rfl, (HJ13.out.step HUD.out (by simp)).below⟩
    case inl =>
      go_wp2_with fail
      refine HR.out.mono ?_
      rintro e w5 ⟨ra, rc, rfl, ho, u⟩
      have HJ5 := hide (HJ.out.more u (by simp) ((ra.map (·.block)).toList) (fun y hy => .inr ⟨it_own_block ho y (by rw [ownBlock_slice]; simpa using hy), it_own_lt ho y (by rw [ownBlock_slice]; simpa using hy)⟩))
      rw [List.append_nil] at HJ5
      have HR5 := hide (it_own_less ho HJ.out.room)
      clear u ho HR HJ
      have HRM := hide (room_in HJ5.out (size_le ks N L HLE.out))
      rw [room_of ks N L HLE.out, HUS.out] at HRM
      obtain ⟨rm, hrm⟩ : ∃ x, N - us = x := ⟨_, rfl⟩
      rw [hrm] at HRM
      have hsub : IntKind.i64.wrap (6000 - (rm : Int)) = (us : Int) := by have := HN.out; rw [Go.IntWalk.i64_in _ (by omega)]; omega
      clear hrm
      go_wp2_with fail
      refine HRM.out.mono ?_
      rintro e w6 ⟨rfl, u⟩
      have HJ6 := hide (HJ5.out.step u (by simp))
      have HR6 := hide (own_kept HR5.out u (by simp))
      clear u HRM HJ5 HR5
      by_cases hu0 : us = 0
      case pos =>
        have HL0 := hide (show rn = 0 by have h1 := lenL_count L; have := HRN.out; have := HUS.out; omega)
        have g1 : (us : Int) ≤ 0 := by omega
        have g2 : ((us : Int) == 0) = true := by simp; omega
        have g3 : ((rn : Int) == 0) = true := by have := HL0.out; simp; omega
        clear hu0
        go_wp2_with fail
        go_ret
        exact ⟨rfl, HJ6.out.below⟩
      have g1 : ¬ (us : Int) ≤ 0 := by omega
      have g2 : ¬ (6000 : Int) < (us : Int) := by have := HN.out; omega
      have hpk := pickN_lt at_ (n := (us : Int)) (by omega)
      have HPK := hide (fun W => pick_any at_ (us : Int) W HAT.out (by omega) (by have := HN.out; omega))
      obtain ⟨pk, hpe⟩ : ∃ x, pickN at_ (us : Int) = x := ⟨_, rfl⟩
      rw [hpe] at hpk HPK
      obtain ⟨k, hkp⟩ : ∃ k : Nat, pk = (k : Int) := ⟨pk.toNat, by omega⟩
      rw [hkp] at hpk HPK
      have hku : k < us := by omega
      clear hpe hkp hpk
      go_wp2_with fail
      refine (HPK.out w6).mono ?_
      rintro e w' ⟨rfl, rfl⟩
      clear HPK
      have HSZ := hide (sized_any ra rn rc L (k : Int) w6 HRN.out (strs_own HR6.out) HLS.out.2 (by omega) (by omega) (by have := HN.out; omega))
      go_wp2_with fail
      cases hsz : sizedS L (k : Int)
      case true =>
        rw [hsz] at HSZ
        refine HSZ.out.mono ?_
        rintro e w7 ⟨rfl, u⟩
        have HJ7 := hide (HJ6.out.step u (by simp))
        clear u HSZ HJ6 HR6 hsz
        go_wp2_with fail
        go_ret
        exact ⟨rfl, HJ7.out.below⟩
      rw [hsz] at HSZ
      have HSI := hide hsz
      clear hsz
      refine HSZ.out.mono ?_
      rintro e w7 ⟨rfl, u⟩
      have HJ7 := hide (HJ6.out.step u (by simp))
      have HR7 := hide (own_kept HR6.out u (by simp))
      clear u HSZ HJ6 HR6
      have HCT := hide (show Calls Tryz.prog 22 #[.pointer (some ⟨g, 0, none⟩)] w7 _ from by
        have h9 := HJ7.out
        obtain ⟨_, _, F, _, hdk, _⟩ := h9
        exact content_any w7 hdk rfl)
      obtain ⟨cb, hcbe⟩ : ∃ x : ByteArray, ⟨(diskOf N (bytesOf ks L)).vis.toArray⟩ = x := ⟨_, rfl⟩
      have hcs : cb.size = 6000 := by rw [← hcbe]; show (diskOf N (bytesOf ks L)).vis.toArray.size = 6000; rw [List.size_toArray]; exact (diskOf_size N (bytesOf ks L) (by rw [bytesOf_length]; exact HLE.out)).trans HN.out.symm
      rw [hcbe] at HCT
      obtain ⟨x, hx⟩ : ∃ x, (bytesOf ks L)[k]? = some x := ⟨_, List.getElem?_eq_getElem (by rw [bytesOf_length, HUS.out]; exact hku)⟩
      have hix := fun W => index_str (P := Tryz.prog) W Tryz.underlying9 cb (bs := (diskOf N (bytesOf ks L)).vis) (by rw [← hcbe]) k x (by unfold diskOf; simp only; rw [List.getElem?_append_left (List.getElem?_eq_some_iff.1 hx).1]; exact hx)
      have HX := hide hx
      clear hcbe hx
      obtain ⟨y, hy⟩ : ∃ y : Nat, x.toNat = y := ⟨_, rfl⟩
      rw [hy] at hix
      have hn6 : ¬ ((6000 : Int) != 6000) = true := by decide
      have hkl : (k : Int) < 6000 := by have := HN.out; omega
      go_wp2_with fail
      refine HCT.out.mono ?_
      rintro e w' ⟨rfl, rfl⟩
      clear HCT
      by_cases hyc : (y : Int) = cv
      case pos =>
        have g5 : ((y : Int) == cv) = true := by simp [hyc]
        clear hyc
        go_wp2_with fail
        go_ret
        exact ⟨rfl, HJ7.out.below⟩
      have g5 : ((y : Int) == cv) = false := by simp [hyc]
      obtain ⟨c8, hc8⟩ : ∃ c : UInt8, (c.toNat : Int) = cv := ⟨UInt8.ofNat cv.toNat, by rw [UInt8.toNat_ofNat']; omega⟩
      have HNE := hide (show (bytesOf ks L)[k]? ≠ some c8 by rw [HX.out]; intro h; have h9 := Option.some.inj h; rw [h9] at hy; exact hyc (by rw [← hc8, hy]))
      have HC8 := hide hc8
      clear hyc hc8
      have HBK := hide (show Blk (w7.alloc (.cells #[.int .u8 cv] 5)) w7.heap.size 5 (bCells [c8]) by rw [show bCells [c8] = [Value.int .u8 cv] by show [Value.int .u8 (c8.toNat : Int)] = _; rw [HC8.out]]; exact Blk.new w7 _ _)
      have hcv := run_conv_bytes HBK.out 39 5 9 Tryz.underlying39 Tryz.underlying5 Tryz.underlying9 0 1 1 (by simp)
      rw [show (List.drop 0 [c8]).take 1 = [c8] from rfl] at hcv
      go_wp2_with fail
      clear g5 hix hn6 hcv HBK
      obtain ⟨w8, hw⟩ : ∃ W9, w7.alloc (.cells #[.int .u8 cv] 5) = W9 := ⟨_, rfl⟩
      have u : Upd [] w7 w8 := by rw [← hw]; exact (Upd.refl [] _).alloc _
      rw [hw]
      have HJ8 := hide (HJ7.out.step u (by simp))
      have HR8 := hide (own_kept HR7.out u (by simp))
      clear u hw HJ7 HR7
      obtain ⟨D', hwr, hpe, hcase⟩ := damaged_open ks N L k c8 HLE.out (by rw [HUS.out]; exact hku) (fun r hr => by have := HLS.out.2 r hr; omega) HNE.out HSI.out
      have HWR := hide (jwrite_in (k : Int) ⟨#[c8]⟩ HJ8.out (by simp [diskOf]))
      rw [show ((⟨#[c8]⟩ : ByteArray).data.toList) = [c8] from rfl, hwr] at HWR
      clear hwr
      refine HWR.out.mono ?_
      rintro e w9 ⟨rfl, hj, hsm⟩
      obtain ⟨_, _, _, hd, _⟩ := (show JIn w.heap.size ((ra.map (·.block)).toList) w w9 jb g (tapeOf ks L) false D' from hj).disk
      have HD9 := hide (hd.mono (X' := ((ra.map (·.block)).toList)) (fun x hx => List.mem_append_right _ hx))
      have HR9 := hide (own_same HR8.out hsm)
      clear hj hsm hd HWR HJ8 HR8
      have C1 := open_in HL.out HD9.out (by omega)
      clear HD9 hpe
      rcases hcase with ⟨h1, h2⟩ | ⟨T', h1, hT⟩
      case inl =>
        rw [h1, h2] at C1
        have HC := hide C1
        clear C1 h1 h2
        go_wp2_with fail
        refine HC.out.mono ?_
        rintro e w10 ⟨_, hj⟩
        try simp only at hj
        obtain ⟨rfl, hd⟩ := hj
        have HD10 := hide hd
        clear hd HC
        go_wp2_with fail
        go_ret
        exact ⟨rfl, HD10.out.below⟩
      rw [h1] at C1
      have HC := hide C1
      clear C1 h1
      go_wp2_with fail
      refine HC.out.mono ?_
      rintro e w10 ⟨hsm, hj⟩
      try simp only at hj
      obtain ⟨jc, rfl, hj⟩ := hj
      have HJ10 := hide hj
      have HR10 := hide (own_same HR9.out hsm)
      clear hj hsm HC HR9
      rcases hT with ⟨hc0, i, hil, hrec⟩ | ⟨i, r, r', hri, hrn', hrl', hcol, hrec⟩
      case inl =>
        have hi6 : i < rn := by have := HRN.out; omega
        have hml : (L.take i).length = i := by rw [List.length_take]; omega
        have HRX := hide (records_in HJ10.out (by rw [hrec, hml]; omega))
        rw [hrec, hml] at HRX
        have HML := hide hml
        have g6 : (cv == 0) = true := by rw [← HC8.out, hc0]; rfl
        clear hc0 hil hrec hml
        go_wp2_with fail
        refine HRX.out.mono ?_
        rintro e w11 ⟨sa, sc, rfl, ho, u⟩
        have HJ11 := hide (HJ10.out.step u (by simp))
        have HR11 := hide (own_kept HR10.out u (by simp))
        have hrc : (i : Int) ≤ rc := by have := own_capB HR10.out; omega
        have hrm2 : (rc : Int) ≤ 9223372036854775807 := by have := own_maxB HR10.out; unfold maxLen at this; omega
        have HS11 := hide ho
        have g7 : (i : Int) < rn := by omega
        clear u ho HRX HJ10 HR10
        have hs8 := strs_takeD (strs_own HR11.out) i
        rw [← List.map_take] at hs8
        have HE := hide (same_any sa i sc _ ra i rc _ w11 (by rw [List.length_map]; exact HML.out) (by rw [List.length_map]; exact HML.out) (by omega) (by omega) (strs_own HS11.out) hs8)
        rw [show decide (((L.take i).map fun r => (⟨r.toArray⟩ : ByteArray)) = ((L.take i).map fun r => (⟨r.toArray⟩ : ByteArray))) = true from decide_eq_true rfl] at HE
        clear hs8
        go_wp2_with fail
        refine HE.out.mono ?_
        rintro e w12 ⟨rfl, u⟩
        have HJ12 := hide (HJ11.out.step u (by simp))
        clear u HE HJ11 HR11 HS11
        go_wp2_with fail
        go_ret
        exact ⟨rfl, HJ12.out.below⟩
      have hiL := (List.getElem?_eq_some_iff.1 hri).1
      obtain ⟨M, hM⟩ : ∃ x, L.take i ++ r' :: L.drop (i + 1) = x := ⟨_, rfl⟩
      have hml : M.length = rn := by rw [← hM, List.length_append, List.length_cons, List.length_take, List.length_drop]; have := HRN.out; omega
      have hri' : M[i]? = some r' := by rw [← hM, List.getElem?_append_right (by rw [List.length_take]; omega), List.length_take, show i - min i L.length = 0 by omega]; rfl
      have htk : ∀ j, j ≤ i → M.take j = L.take j := by
        intro j hj
        rw [← hM, List.take_append_of_le_length (by rw [List.length_take]; omega), List.take_take, Nat.min_eq_left hj]
      have hat2 : ∀ j, j < i → M[j]? = L[j]? := by
        intro j hj
        rw [← hM, List.getElem?_append_left (by rw [List.length_take]; omega), List.getElem?_take_of_lt hj]
      have hMs : ∀ x ∈ M, x.length ≤ 100 := by
        intro x hx
        rw [← hM] at hx
        rcases List.mem_append.1 hx with h | h
        · exact HLS.out.2 x (List.mem_of_mem_take h)
        · rcases List.mem_cons.1 h with h | h
          · rw [h, hrl']; exact HLS.out.2 r (List.mem_of_getElem? hri)
          · exact HLS.out.2 x (List.mem_of_mem_drop h)
      rw [hM] at hrec
      obtain ⟨hd, hhd⟩ : ∃ x, headTo refK (List.replicate 32 0) (L.take i) = x := ⟨_, rfl⟩
      rw [hkr, hhd] at hcol
      have hhl : hd.length = 32 := by rw [← hhd]; exact headTo_length refK _ _ rfl
      have hXA := headsS_at refK L (List.replicate 32 0) i r hri
      have hXB := headsS_at refK M (List.replicate 32 0) i r' hri'
      rw [hhd] at hXA
      rw [htk i (Nat.le_refl _), hhd] at hXB
      have hEQ : ∀ j, j < i → (headsS refK M (List.replicate 32 0))[j]? = (headsS refK L (List.replicate 32 0))[j]? := by
        intro j hj
        obtain ⟨y, hy⟩ : ∃ y, L[j]? = some y := ⟨_, List.getElem?_eq_getElem (by omega)⟩
        rw [headsS_at refK L _ j y hy, headsS_at refK M _ j y (by rw [hat2 j hj]; exact hy), htk j (by omega)]
      have HRX := hide (records_in HJ10.out (by rw [hrec, hml]; omega))
      rw [hrec, hml] at HRX
      have HML := hide hml
      have HMS := hide hMs
      have HXA := hide hXA
      have HXB := hide hXB
      have HEQ := hide hEQ
      have HNR := hide hrn'
      have HCOL := hide hcol
      have HHL := hide hhl
      have HRL := hide hrl'
      have HRS := hide (HLS.out.2 r (List.mem_of_getElem? hri))
      have hirn : i < rn := by have := HRN.out; omega
      clear hrec hml hMs hXA hXB hEQ hrn' hcol hhl hhd hrl' hri hri' htk hat2 hM hiL
      go_wp2_with fail
      refine HRX.out.mono ?_
      rintro e w11 ⟨sa, sc, rfl, ho, u⟩
      have HJ11 := hide (HJ10.out.step u (by simp))
      have HR11 := hide (own_kept HR10.out u (by simp))
      have HS11 := hide ho
      have g7 : ¬ (rn : Int) < rn := by omega
      clear u ho HRX HJ10 HR10
      have HH1 := hide (heads_any ra rn rc L w11 HRN.out (strs_own HR11.out) HLS.out.2 (by omega))
      by_cases hcz : cv = 0
      case pos =>
        have g6 : (cv == 0) = true := by simp [hcz]
        clear hcz
        go_wp2_with fail
        clear g6 g7
        refine HH1.out.mono ?_
        rintro e w12 ⟨xa, xc, rfl, ho, u⟩
        have HJ12 := hide (HJ11.out.step u (by simp))
        have HS12 := hide (own_kept HS11.out u (by simp))
        have HA12 := hide ho
        clear u ho HH1 HJ11 HR11 HS11
        have HH2 := hide (heads_any sa rn sc M w12 HML.out (strs_own HS12.out) HMS.out (by omega))
        go_wp2_with fail
        refine HH2.out.mono ?_
        rintro e w13 ⟨ya, yc, rfl, ho, u⟩
        have HJ13 := hide (HJ12.out.step u (by simp))
        have HA13 := hide (own_kept HA12.out u (by simp))
        have HB13 := hide ho
        clear u ho HH2 HJ12 HS12 HA12
        obtain ⟨xg, rfl⟩ := own_some HA13.out (by omega)
        obtain ⟨yg, rfl⟩ := own_some HB13.out (by omega)
        go_wp2_with fail
        go_loopw [23] (fun s23 wr => ∃ j : Nat, j ≤ i ∧ s23 = .int .i64 j ∧ Hid (Upd [] w13 wr)) (fun s _ => i - (intOf s).toNat)
        case atStart => exact ⟨0, Nat.zero_le _, rfl, hide (Upd.refl _ _)⟩
        case round =>
          obtain ⟨j, hj, rfl, hU⟩ := hrel
          obtain ⟨wo, rfl⟩ : ∃ x : World, x = wr := ⟨_, rfl⟩
          have hji : (j : Int) < rn := by omega
          have hjw : IntKind.i64.wrap ((j : Int) + 1) = (j : Int) + 1 := Go.IntWalk.i64_in _ (by omega)
          by_cases hlt : j < i
          case pos =>
            obtain ⟨z, hz⟩ : ∃ z, (headsS refK L (List.replicate 32 0))[j]? = some z := ⟨_, List.getElem?_eq_getElem (by rw [headsS_length, HRN.out]; omega)⟩
            obtain ⟨x1, hx1⟩ : ∃ x : ByteArray, ⟨z.toArray⟩ = x := ⟨_, rfl⟩
            have cA := own_str (own_kept HA13.out hU.out (by simp)) j z hz
            have cB := own_str (own_kept HB13.out hU.out (by simp)) j z (by rw [HEQ.out j hlt]; exact hz)
            rw [hx1] at cA cB
            have hne : (x1.toList == x1.toList) = true := by simp
            clear hz hx1
            go_wp2_with fail
            refine wp_region_held_drew (S := (fun w' => w'.cell? ⟨xg, j, none⟩ = some (.string x1) ∧ w'.cell? ⟨yg, j, none⟩ = some (.string x1))) (by kernel_rfl) (by exact ⟨cA, cB⟩) (fun hHeld => ?_)
            refine wpAnyH_take (i := 0) (oi := ?oi0M17) (v := ?v0M17) ?oi0_0M17 (by kernel_rfl) ?ff0M17 ?rr0M17 ?hq0M17 (Or.inl ⟨?hw0M17, ?hy0M17⟩) (by assumption) ?rest0M17
            case oi0_0M17 =>
              conv =>
                lhs
                whnf
                arg 1
                whnf
            case hq0M17 => exact fun _ _ _ h => h
            case ff0M17 => kernel_rfl
            case rr0M17 => kernel_rfl
            case hw0M17 => rfl
            case hy0M17 =>
              intro w hSw
              (try dsimp only at hSw)
              first
              | (go_simp; done)
              | (go_simp; with_reducible rfl)
            try simp only [Act.put, List.setIfInBounds_toArray, List.set_cons_zero, List.set_cons_succ]
            refine wpAnyH_take (i := 1) (oi := ?oi1M17) (v := ?v1M17) ?oi0_1M17 (by kernel_rfl) ?ff1M17 ?rr1M17 ?hq1M17 (Or.inl ⟨?hw1M17, ?hy1M17⟩) (by assumption) ?rest1M17
            case oi0_1M17 =>
              conv =>
                lhs
                whnf
                arg 1
                whnf
            case hq1M17 => exact fun _ _ _ h => h
            case ff1M17 => kernel_rfl
            case rr1M17 => kernel_rfl
            case hw1M17 => rfl
            case hy1M17 =>
              intro w hSw
              (try dsimp only at hSw)
              first
              | (go_simp; done)
              | (go_simp; with_reducible rfl)
            try simp only [Act.put, List.setIfInBounds_toArray, List.set_cons_zero, List.set_cons_succ]
            refine wpAnyH_take (i := 2) (oi := ?oi2M17) (v := ?v2M17) ?oi0_2M17 (by kernel_rfl) ?ff2M17 ?rr2M17 ?hq2M17 (Or.inl ⟨?hw2M17, ?hy2M17⟩) (by assumption) ?rest2M17
            case oi0_2M17 =>
              conv =>
                lhs
                whnf
                arg 1
                whnf
            case hq2M17 => exact fun _ _ _ h => h
            case ff2M17 => kernel_rfl
            case rr2M17 => kernel_rfl
            case hw2M17 => rfl
            case hy2M17 =>
              intro w hSw
              (try dsimp only at hSw)
              first
              | (go_simp; done)
              | (go_simp; with_reducible rfl)
            try simp only [Act.put, List.setIfInBounds_toArray, List.set_cons_zero, List.set_cons_succ]
            refine wpAnyH_take (i := 3) (oi := ?oi3M17) (v := ?v3M17) ?oi0_3M17 (by kernel_rfl) ?ff3M17 ?rr3M17 ?hq3M17 (Or.inl ⟨?hw3M17, ?hy3M17⟩) (by assumption) ?rest3M17
            case oi0_3M17 =>
              conv =>
                lhs
                whnf
                arg 1
                whnf
            case hq3M17 => exact fun _ _ _ h => h
            case ff3M17 => kernel_rfl
            case rr3M17 => kernel_rfl
            case hw3M17 => rfl
            case hy3M17 =>
              intro w hSw
              (try dsimp only at hSw)
              first
              | (go_simp; done)
              | (go_simp; with_reducible rfl)
            try simp only [Act.put, List.setIfInBounds_toArray, List.set_cons_zero, List.set_cons_succ]
            refine wpAnyH_take (i := 4) (oi := ?oi4M17) (v := ?v4M17) ?oi0_4M17 (by kernel_rfl) ?ff4M17 ?rr4M17 ?hq4M17 (Or.inl ⟨?hw4M17, ?hy4M17⟩) (by assumption) ?rest4M17
            case oi0_4M17 =>
              conv =>
                lhs
                whnf
                arg 1
                whnf
            case hq4M17 => exact fun _ _ _ h => h
            case ff4M17 => kernel_rfl
            case rr4M17 => kernel_rfl
            case hw4M17 => rfl
            case hy4M17 =>
              intro w hSw
              (try dsimp only at hSw)
              first
              | (go_simp; done)
              | (go_simp; with_reducible rfl)
            try simp only [Act.put, List.setIfInBounds_toArray, List.set_cons_zero, List.set_cons_succ]
            refine wpAnyH_take (i := 5) (oi := ?oi5M17) (v := ?v5M17) ?oi0_5M17 (by kernel_rfl) ?ff5M17 ?rr5M17 ?hq5M17 (Or.inl ⟨?hw5M17, ?hy5M17⟩) (by assumption) ?rest5M17
            case oi0_5M17 =>
              conv =>
                lhs
                whnf
                arg 1
                whnf
            case hq5M17 => exact fun _ _ _ h => h
            case ff5M17 => kernel_rfl
            case rr5M17 => kernel_rfl
            case hw5M17 => rfl
            case hy5M17 =>
              intro w hSw
              (try dsimp only at hSw)
              first
              | (go_simp; done)
              | (go_simp; with_reducible rfl)
            try simp only [Act.put, List.setIfInBounds_toArray, List.set_cons_zero, List.set_cons_succ]
            refine wpAnyH_take (i := 6) (oi := ?oi6M17) (v := ?v6M17) ?oi0_6M17 (by kernel_rfl) ?ff6M17 ?rr6M17 ?hq6M17 (Or.inl ⟨?hw6M17, ?hy6M17⟩) (by assumption) ?rest6M17
            case oi0_6M17 =>
              conv =>
                lhs
                whnf
                arg 1
                whnf
            case hq6M17 => exact fun _ _ _ h => h
            case ff6M17 => kernel_rfl
            case rr6M17 => kernel_rfl
            case hw6M17 => rfl
            case hy6M17 =>
              intro w hSw
              (try dsimp only at hSw)
              first
              | (go_simp; done)
              | (go_simp; with_reducible rfl)
            try simp only [Act.put, List.setIfInBounds_toArray, List.set_cons_zero, List.set_cons_succ]
            refine wpAnyH_take (i := 7) (oi := ?oi7M17) (v := ?v7M17) ?oi0_7M17 (by kernel_rfl) ?ff7M17 ?rr7M17 ?hq7M17 (Or.inl ⟨?hw7M17, ?hy7M17⟩) (by assumption) ?rest7M17
            case oi0_7M17 =>
              conv =>
                lhs
                whnf
                arg 1
                whnf
            case hq7M17 => exact fun _ _ _ h => h
            case ff7M17 => kernel_rfl
            case rr7M17 => kernel_rfl
            case hw7M17 => rfl
            case hy7M17 =>
              intro w hSw
              (try dsimp only at hSw)
              first
              | (go_simp; done)
              | (go_simp; with_reducible rfl)
            try simp only [Act.put, List.setIfInBounds_toArray, List.set_cons_zero, List.set_cons_succ]
            refine wpAnyH_take (i := 8) (oi := ?oi8M17) (v := ?v8M17) ?oi0_8M17 (by kernel_rfl) ?ff8M17 ?rr8M17 ?hq8M17 (Or.inl ⟨?hw8M17, ?hy8M17⟩) (by assumption) ?rest8M17
            case oi0_8M17 =>
              conv =>
                lhs
                whnf
                arg 1
                whnf
            case hq8M17 => exact fun _ _ _ h => h
            case ff8M17 => kernel_rfl
            case rr8M17 => kernel_rfl
            case hw8M17 => rfl
            case hy8M17 =>
              intro w hSw
              (try dsimp only at hSw)
              first
              | (go_simp; done)
              | (go_simp; with_reducible rfl)
            try simp only [Act.put, List.setIfInBounds_toArray, List.set_cons_zero, List.set_cons_succ]
            refine wpAnyH_take (i := 9) (oi := ?oi9M17) (v := ?v9M17) ?oi0_9M17 (by kernel_rfl) ?ff9M17 ?rr9M17 ?hq9M17 (Or.inl ⟨?hw9M17, ?hy9M17⟩) (by assumption) ?rest9M17
            case oi0_9M17 =>
              conv =>
                lhs
                whnf
                arg 1
                whnf
            case hq9M17 => exact fun _ _ _ h => h
            case ff9M17 => kernel_rfl
            case rr9M17 => kernel_rfl
            case hw9M17 => rfl
            case hy9M17 =>
              intro w hSw
              (try dsimp only at hSw)
              first
              | (go_simp; done)
              | (go_simp; with_reducible rfl)
            try simp only [Act.put, List.setIfInBounds_toArray, List.set_cons_zero, List.set_cons_succ]
            refine wpAnyH_take (i := 10) (oi := ?oi10M17) (v := undef) ?oi0_10M17 (by kernel_rfl) ?ff10M17 ?rr10M17 ?hq10M17 (Or.inr ⟨?hw10M17, rfl⟩) (by assumption) ?rest10M17
            case oi0_10M17 =>
              conv =>
                lhs
                whnf
                arg 1
                whnf
            case hq10M17 => exact fun _ _ _ h => h
            case ff10M17 => kernel_rfl
            case rr10M17 => kernel_rfl
            case hw10M17 => rfl
            try simp only [Act.put, List.setIfInBounds_toArray, List.set_cons_zero, List.set_cons_succ]
            refine wpAnyH_take (i := 11) (oi := ?oi11M17) (v := undef) ?oi0_11M17 (by kernel_rfl) ?ff11M17 ?rr11M17 ?hq11M17 (Or.inr ⟨?hw11M17, rfl⟩) (by assumption) ?rest11M17
            case oi0_11M17 =>
              conv =>
                lhs
                whnf
                arg 1
                whnf
            case hq11M17 => exact fun _ _ _ h => h
            case ff11M17 => kernel_rfl
            case rr11M17 => kernel_rfl
            case hw11M17 => rfl
            try simp only [Act.put, List.setIfInBounds_toArray, List.set_cons_zero, List.set_cons_succ]
            refine wpAnyH_take (i := 12) (oi := ?oi12M17) (v := undef) ?oi0_12M17 (by kernel_rfl) ?ff12M17 ?rr12M17 ?hq12M17 (Or.inr ⟨?hw12M17, rfl⟩) (by assumption) ?rest12M17
            case oi0_12M17 =>
              conv =>
                lhs
                whnf
                arg 1
                whnf
            case hq12M17 => exact fun _ _ _ h => h
            case ff12M17 => kernel_rfl
            case rr12M17 => kernel_rfl
            case hw12M17 => rfl
            try simp only [Act.put, List.setIfInBounds_toArray, List.set_cons_zero, List.set_cons_succ]
            refine wpAnyH_take (i := 13) (oi := ?oi13M17) (v := undef) ?oi0_13M17 (by kernel_rfl) ?ff13M17 ?rr13M17 ?hq13M17 (Or.inr ⟨?hw13M17, rfl⟩) (by assumption) ?rest13M17
            case oi0_13M17 =>
              conv =>
                lhs
                whnf
                arg 1
                whnf
            case hq13M17 => exact fun _ _ _ h => h
            case ff13M17 => kernel_rfl
            case rr13M17 => kernel_rfl
            case hw13M17 => rfl
            try simp only [Act.put, List.setIfInBounds_toArray, List.set_cons_zero, List.set_cons_succ]
            refine wpAnyH_take (i := 15) (oi := ?oi15M17) (v := undef) ?oi0_15M17 (by kernel_rfl) ?ff15M17 ?rr15M17 ?hq15M17 (Or.inr ⟨?hw15M17, rfl⟩) (by assumption) ?rest15M17
            case oi0_15M17 =>
              conv =>
                lhs
                whnf
                arg 1
                whnf
            case hq15M17 => exact fun _ _ _ h => h
            case ff15M17 => kernel_rfl
            case rr15M17 => kernel_rfl
            case hw15M17 => rfl
            try simp only [Act.put, List.setIfInBounds_toArray, List.set_cons_zero, List.set_cons_succ]
            refine wpAnyH_take (i := 16) (oi := ?oi16M17) (v := undef) ?oi0_16M17 (by kernel_rfl) ?ff16M17 ?rr16M17 ?hq16M17 (Or.inr ⟨?hw16M17, rfl⟩) (by assumption) ?rest16M17
            case oi0_16M17 =>
              conv =>
                lhs
                whnf
                arg 1
                whnf
            case hq16M17 => exact fun _ _ _ h => h
            case ff16M17 => kernel_rfl
            case rr16M17 => kernel_rfl
            case hw16M17 => rfl
            try simp only [Act.put, List.setIfInBounds_toArray, List.set_cons_zero, List.set_cons_succ]
            refine wpAnyH_take (i := 17) (oi := ?oi17M17) (v := undef) ?oi0_17M17 (by kernel_rfl) ?ff17M17 ?rr17M17 ?hq17M17 (Or.inr ⟨?hw17M17, rfl⟩) (by assumption) ?rest17M17
            case oi0_17M17 =>
              conv =>
                lhs
                whnf
                arg 1
                whnf
            case hq17M17 => exact fun _ _ _ h => h
            case ff17M17 => kernel_rfl
            case rr17M17 => kernel_rfl
            case hw17M17 => rfl
            try simp only [Act.put, List.setIfInBounds_toArray, List.set_cons_zero, List.set_cons_succ]
            refine wpAnyH_take (i := 18) (oi := ?oi18M17) (v := undef) ?oi0_18M17 (by kernel_rfl) ?ff18M17 ?rr18M17 ?hq18M17 (Or.inr ⟨?hw18M17, rfl⟩) (by assumption) ?rest18M17
            case oi0_18M17 =>
              conv =>
                lhs
                whnf
                arg 1
                whnf
            case hq18M17 => exact fun _ _ _ h => h
            case ff18M17 => kernel_rfl
            case rr18M17 => kernel_rfl
            case hw18M17 => rfl
            try simp only [Act.put, List.setIfInBounds_toArray, List.set_cons_zero, List.set_cons_succ]
            refine wpAnyH_ready (rs := [14]) (by kernel_rfl) (by simp) (AllReadyH.cons (o := ?oi14M17) ?oi0_14M17 (fun K hK => ?_) AllReadyH.nil)
            case oi0_14M17 =>
              conv =>
                lhs
                whnf
                arg 1
                whnf
            rw [if_neg (by first | (simp [Region.wanted, yielded]; done) | (simp [Region.wanted, yielded]; exact fun h => nomatch (show (none : Option Bool) = some true from h)) | (simp [Region.wanted, yielded]; exact fun h => nomatch (show (none : Option Bool) = some false from h)))]
            refine hK.out _ _ (by assumption) (fun _ => ?_)
            clear hK K
            try simp only [Act.put, List.setIfInBounds_toArray, List.set_cons_zero, List.set_cons_succ]
            refine wpAnyH_ready (rs := [19]) (by kernel_rfl) (by simp) (AllReadyH.cons (o := ?oi19M17) ?oi0_19M17 (fun K hK => ?_) AllReadyH.nil)
            case oi0_19M17 =>
              conv =>
                lhs
                whnf
                arg 1
                whnf
            rw [if_neg (by first | (simp [Region.wanted, yielded]; done) | (simp [Region.wanted, yielded]; exact fun h => nomatch (show (none : Option Bool) = some true from h)) | (simp [Region.wanted, yielded]; exact fun h => nomatch (show (none : Option Bool) = some false from h)))]
            refine hK.out _ _ (by assumption) (fun _ => ?_)
            clear hK K
            try simp only [Act.put, List.setIfInBounds_toArray, List.set_cons_zero, List.set_cons_succ]
            refine wpAnyH_take (i := 20) (oi := ?oi20M17) (v := undef) ?oi0_20M17 (by kernel_rfl) ?ff20M17 ?rr20M17 ?hq20M17 (Or.inr ⟨?hw20M17, rfl⟩) (by assumption) ?rest20M17
            case oi0_20M17 =>
              conv =>
                lhs
                whnf
                arg 1
                whnf
            case hq20M17 => exact fun _ _ _ h => h
            case ff20M17 => kernel_rfl
            case rr20M17 => kernel_rfl
            case hw20M17 => rfl
            try simp only [Act.put, List.setIfInBounds_toArray, List.set_cons_zero, List.set_cons_succ]
            refine wpAnyH_take (i := 21) (oi := ?oi21M17) (v := ?v21M17) ?oi0_21M17 (by kernel_rfl) ?ff21M17 ?rr21M17 ?hq21M17 (Or.inl ⟨?hw21M17, ?hy21M17⟩) (by assumption) ?rest21M17
            case oi0_21M17 =>
              conv =>
                lhs
                whnf
                arg 1
                whnf
            case hq21M17 => exact fun _ _ _ h => h
            case ff21M17 => kernel_rfl
            case rr21M17 => kernel_rfl
            case hw21M17 => rfl
            case hy21M17 =>
              intro w hSw
              (try dsimp only at hSw)
              first
              | (go_simp; done)
              | (go_simp; with_reducible rfl)
            try simp only [Act.put, List.setIfInBounds_toArray, List.set_cons_zero, List.set_cons_succ]
            refine wpAnyH_done (by kernel_rfl) ?_ _
            go_wp2_with fail
            go_roundw
            case rel => exact ⟨j + 1, by omega, by go_num, hide hU.out.drew⟩
            case measure => simp [intOf] <;> omega
          obtain rfl : j = i := by omega
          obtain ⟨x1, hx1⟩ : ∃ x : ByteArray, ⟨(2 :: (hd ++ r)).toArray⟩ = x := ⟨_, rfl⟩
          obtain ⟨x2, hx2⟩ : ∃ x : ByteArray, ⟨(2 :: (hd ++ r')).toArray⟩ = x := ⟨_, rfl⟩
          have cA := own_str (own_kept HA13.out hU.out (by simp)) j _ HXA.out
          have cB := own_str (own_kept HB13.out hU.out (by simp)) j _ HXB.out
          rw [hx1] at cA
          rw [hx2] at cB
          have hne : (x1.toList == x2.toList) = false := by
            rw [ByteArray.toList_eq, ByteArray.toList_eq]
            refine beq_eq_false_iff_ne.2 (fun e => ?_)
            rw [← hx1, ← hx2] at e
            have e2 := congrArg List.tail (show (2 :: (hd ++ r) : List UInt8) = 2 :: (hd ++ r') from e)
            exact HNR.out (List.append_cancel_left (show hd ++ r = hd ++ r' from e2)).symm
          obtain ⟨z, hz⟩ : ∃ x : ByteArray, ⟨(sumS refK (2 :: (hd ++ r))).toArray⟩ = x := ⟨_, rfl⟩
          have HS1 := hide (fun W => refSum x1 W (by rw [← hx1]; show (2 :: (hd ++ r)).toArray.size ≤ _; rw [List.size_toArray, List.length_cons, List.length_append, HHL.out]; have := HRS.out; omega))
          have HS2 := hide (fun W => refSum x2 W (by rw [← hx2]; show (2 :: (hd ++ r')).toArray.size ≤ _; rw [List.size_toArray, List.length_cons, List.length_append, HHL.out, HRL.out]; have := HRS.out; omega))
          rw [show x1.data.toList = 2 :: (hd ++ r) by rw [← hx1], hz] at HS1
          rw [show x2.data.toList = 2 :: (hd ++ r') by rw [← hx2], show sumS refK (2 :: (hd ++ r')) = sumS refK (2 :: (hd ++ r)) from HCOL.out, hz] at HS2
          have hzz : (z.toList == z.toList) = true := by simp
          clear hx1 hx2 hz
          go_wp2_with fail
          refine wp_region_held_drew (S := (fun w' => w'.cell? ⟨xg, j, none⟩ = some (.string x1) ∧ w'.cell? ⟨yg, j, none⟩ = some (.string x2))) (by kernel_rfl) (by exact ⟨cA, cB⟩) (fun hHeld => ?_)
          obtain ⟨wd, hw⟩ : ∃ x, wo.drew = x := ⟨_, rfl⟩
          have u : Upd [] wo wd := by rw [← hw]; exact (Upd.refl [] _).drew
          rw [hw] at hHeld ⊢
          have HUD := hide (hU.out.trans u (by simp))
          clear hw u
          refine wpAnyH_take (i := 0) (oi := ?oi0M19) (v := ?v0M19) ?oi0_0M19 (by kernel_rfl) ?ff0M19 ?rr0M19 ?hq0M19 (Or.inl ⟨?hw0M19, ?hy0M19⟩) (by assumption) ?rest0M19
          case oi0_0M19 =>
            conv =>
              lhs
              whnf
              arg 1
              whnf
          case hq0M19 => exact fun _ _ _ h => h
          case ff0M19 => kernel_rfl
          case rr0M19 => kernel_rfl
          case hw0M19 => rfl
          case hy0M19 =>
            intro w hSw
            (try dsimp only at hSw)
            first
            | (go_simp; done)
            | (go_simp; with_reducible rfl)
          try simp only [Act.put, List.setIfInBounds_toArray, List.set_cons_zero, List.set_cons_succ]
          refine wpAnyH_take (i := 1) (oi := ?oi1M19) (v := ?v1M19) ?oi0_1M19 (by kernel_rfl) ?ff1M19 ?rr1M19 ?hq1M19 (Or.inl ⟨?hw1M19, ?hy1M19⟩) (by assumption) ?rest1M19
          case oi0_1M19 =>
            conv =>
              lhs
              whnf
              arg 1
              whnf
          case hq1M19 => exact fun _ _ _ h => h
          case ff1M19 => kernel_rfl
          case rr1M19 => kernel_rfl
          case hw1M19 => rfl
          case hy1M19 =>
            intro w hSw
            (try dsimp only at hSw)
            first
            | (go_simp; done)
            | (go_simp; with_reducible rfl)
          try simp only [Act.put, List.setIfInBounds_toArray, List.set_cons_zero, List.set_cons_succ]
          refine wpAnyH_take (i := 2) (oi := ?oi2M19) (v := ?v2M19) ?oi0_2M19 (by kernel_rfl) ?ff2M19 ?rr2M19 ?hq2M19 (Or.inl ⟨?hw2M19, ?hy2M19⟩) (by assumption) ?rest2M19
          case oi0_2M19 =>
            conv =>
              lhs
              whnf
              arg 1
              whnf
          case hq2M19 => exact fun _ _ _ h => h
          case ff2M19 => kernel_rfl
          case rr2M19 => kernel_rfl
          case hw2M19 => rfl
          case hy2M19 =>
            intro w hSw
            (try dsimp only at hSw)
            first
            | (go_simp; done)
            | (go_simp; with_reducible rfl)
          try simp only [Act.put, List.setIfInBounds_toArray, List.set_cons_zero, List.set_cons_succ]
          refine wpAnyH_take (i := 3) (oi := ?oi3M19) (v := ?v3M19) ?oi0_3M19 (by kernel_rfl) ?ff3M19 ?rr3M19 ?hq3M19 (Or.inl ⟨?hw3M19, ?hy3M19⟩) (by assumption) ?rest3M19
          case oi0_3M19 =>
            conv =>
              lhs
              whnf
              arg 1
              whnf
          case hq3M19 => exact fun _ _ _ h => h
          case ff3M19 => kernel_rfl
          case rr3M19 => kernel_rfl
          case hw3M19 => rfl
          case hy3M19 =>
            intro w hSw
            (try dsimp only at hSw)
            first
            | (go_simp; done)
            | (go_simp; with_reducible rfl)
          try simp only [Act.put, List.setIfInBounds_toArray, List.set_cons_zero, List.set_cons_succ]
          refine wpAnyH_take (i := 4) (oi := ?oi4M19) (v := ?v4M19) ?oi0_4M19 (by kernel_rfl) ?ff4M19 ?rr4M19 ?hq4M19 (Or.inl ⟨?hw4M19, ?hy4M19⟩) (by assumption) ?rest4M19
          case oi0_4M19 =>
            conv =>
              lhs
              whnf
              arg 1
              whnf
          case hq4M19 => exact fun _ _ _ h => h
          case ff4M19 => kernel_rfl
          case rr4M19 => kernel_rfl
          case hw4M19 => rfl
          case hy4M19 =>
            intro w hSw
            (try dsimp only at hSw)
            first
            | (go_simp; done)
            | (go_simp; with_reducible rfl)
          try simp only [Act.put, List.setIfInBounds_toArray, List.set_cons_zero, List.set_cons_succ]
          refine wpAnyH_take (i := 5) (oi := ?oi5M19) (v := ?v5M19) ?oi0_5M19 (by kernel_rfl) ?ff5M19 ?rr5M19 ?hq5M19 (Or.inl ⟨?hw5M19, ?hy5M19⟩) (by assumption) ?rest5M19
          case oi0_5M19 =>
            conv =>
              lhs
              whnf
              arg 1
              whnf
          case hq5M19 => exact fun _ _ _ h => h
          case ff5M19 => kernel_rfl
          case rr5M19 => kernel_rfl
          case hw5M19 => rfl
          case hy5M19 =>
            intro w hSw
            (try dsimp only at hSw)
            first
            | (go_simp; done)
            | (go_simp; with_reducible rfl)
          try simp only [Act.put, List.setIfInBounds_toArray, List.set_cons_zero, List.set_cons_succ]
          refine wpAnyH_take (i := 6) (oi := ?oi6M19) (v := ?v6M19) ?oi0_6M19 (by kernel_rfl) ?ff6M19 ?rr6M19 ?hq6M19 (Or.inl ⟨?hw6M19, ?hy6M19⟩) (by assumption) ?rest6M19
          case oi0_6M19 =>
            conv =>
              lhs
              whnf
              arg 1
              whnf
          case hq6M19 => exact fun _ _ _ h => h
          case ff6M19 => kernel_rfl
          case rr6M19 => kernel_rfl
          case hw6M19 => rfl
          case hy6M19 =>
            intro w hSw
            (try dsimp only at hSw)
            first
            | (go_simp; done)
            | (go_simp; with_reducible rfl)
          try simp only [Act.put, List.setIfInBounds_toArray, List.set_cons_zero, List.set_cons_succ]
          refine wpAnyH_take (i := 7) (oi := ?oi7M19) (v := ?v7M19) ?oi0_7M19 (by kernel_rfl) ?ff7M19 ?rr7M19 ?hq7M19 (Or.inl ⟨?hw7M19, ?hy7M19⟩) (by assumption) ?rest7M19
          case oi0_7M19 =>
            conv =>
              lhs
              whnf
              arg 1
              whnf
          case hq7M19 => exact fun _ _ _ h => h
          case ff7M19 => kernel_rfl
          case rr7M19 => kernel_rfl
          case hw7M19 => rfl
          case hy7M19 =>
            intro w hSw
            (try dsimp only at hSw)
            first
            | (go_simp; done)
            | (go_simp; with_reducible rfl)
          try simp only [Act.put, List.setIfInBounds_toArray, List.set_cons_zero, List.set_cons_succ]
          refine wpAnyH_take (i := 8) (oi := ?oi8M19) (v := ?v8M19) ?oi0_8M19 (by kernel_rfl) ?ff8M19 ?rr8M19 ?hq8M19 (Or.inl ⟨?hw8M19, ?hy8M19⟩) (by assumption) ?rest8M19
          case oi0_8M19 =>
            conv =>
              lhs
              whnf
              arg 1
              whnf
          case hq8M19 => exact fun _ _ _ h => h
          case ff8M19 => kernel_rfl
          case rr8M19 => kernel_rfl
          case hw8M19 => rfl
          case hy8M19 =>
            intro w hSw
            (try dsimp only at hSw)
            first
            | (go_simp; done)
            | (go_simp; with_reducible rfl)
          try simp only [Act.put, List.setIfInBounds_toArray, List.set_cons_zero, List.set_cons_succ]
          refine wpAnyH_take (i := 9) (oi := ?oi9M19) (v := ?v9M19) ?oi0_9M19 (by kernel_rfl) ?ff9M19 ?rr9M19 ?hq9M19 (Or.inl ⟨?hw9M19, ?hy9M19⟩) (by assumption) ?rest9M19
          case oi0_9M19 =>
            conv =>
              lhs
              whnf
              arg 1
              whnf
          case hq9M19 => exact fun _ _ _ h => h
          case ff9M19 => kernel_rfl
          case rr9M19 => kernel_rfl
          case hw9M19 => rfl
          case hy9M19 =>
            intro w hSw
            (try dsimp only at hSw)
            first
            | (go_simp; done)
            | (go_simp; with_reducible rfl)
          try simp only [Act.put, List.setIfInBounds_toArray, List.set_cons_zero, List.set_cons_succ]
          refine wpAnyH_take (i := 10) (oi := ?oi10M19) (v := ?v10M19) ?oi0_10M19 (by kernel_rfl) ?ff10M19 ?rr10M19 ?hq10M19 (Or.inl ⟨?hw10M19, ?hy10M19⟩) (by assumption) ?rest10M19
          case oi0_10M19 =>
            conv =>
              lhs
              whnf
              arg 1
              whnf
          case hq10M19 => exact fun _ _ _ h => h
          case ff10M19 => kernel_rfl
          case rr10M19 => kernel_rfl
          case hw10M19 => rfl
          case hy10M19 =>
            intro w hSw
            (try dsimp only at hSw)
            first
            | (go_simp; done)
            | (go_simp; with_reducible rfl)
          try simp only [Act.put, List.setIfInBounds_toArray, List.set_cons_zero, List.set_cons_succ]
          refine wpAnyH_take (i := 11) (oi := ?oi11M19) (v := ?v11M19) ?oi0_11M19 (by kernel_rfl) ?ff11M19 ?rr11M19 ?hq11M19 (Or.inl ⟨?hw11M19, ?hy11M19⟩) (by assumption) ?rest11M19
          case oi0_11M19 =>
            conv =>
              lhs
              whnf
              arg 1
              whnf
          case hq11M19 => exact fun _ _ _ h => h
          case ff11M19 => kernel_rfl
          case rr11M19 => kernel_rfl
          case hw11M19 => rfl
          case hy11M19 =>
            intro w hSw
            (try dsimp only at hSw)
            first
            | (go_simp; done)
            | (go_simp; with_reducible rfl)
          try simp only [Act.put, List.setIfInBounds_toArray, List.set_cons_zero, List.set_cons_succ]
          refine wpAnyH_take (i := 12) (oi := ?oi12M19) (v := ?v12M19) ?oi0_12M19 (by kernel_rfl) ?ff12M19 ?rr12M19 ?hq12M19 (Or.inl ⟨?hw12M19, ?hy12M19⟩) (by assumption) ?rest12M19
          case oi0_12M19 =>
            conv =>
              lhs
              whnf
              arg 1
              whnf
          case hq12M19 => exact fun _ _ _ h => h
          case ff12M19 => kernel_rfl
          case rr12M19 => kernel_rfl
          case hw12M19 => rfl
          case hy12M19 =>
            intro w hSw
            (try dsimp only at hSw)
            first
            | (go_simp; done)
            | (go_simp; with_reducible rfl)
          try simp only [Act.put, List.setIfInBounds_toArray, List.set_cons_zero, List.set_cons_succ]
          refine wpAnyH_take (i := 13) (oi := ?oi13M19) (v := ?v13M19) ?oi0_13M19 (by kernel_rfl) ?ff13M19 ?rr13M19 ?hq13M19 (Or.inl ⟨?hw13M19, ?hy13M19⟩) (by assumption) ?rest13M19
          case oi0_13M19 =>
            conv =>
              lhs
              whnf
              arg 1
              whnf
          case hq13M19 => exact fun _ _ _ h => h
          case ff13M19 => kernel_rfl
          case rr13M19 => kernel_rfl
          case hw13M19 => rfl
          case hy13M19 =>
            intro w hSw
            (try dsimp only at hSw)
            first
            | (go_simp; done)
            | (go_simp; with_reducible rfl)
          try simp only [Act.put, List.setIfInBounds_toArray, List.set_cons_zero, List.set_cons_succ]
          refine wpAnyH_take (i := 15) (oi := ?oi15M20) (v := ?v15M20) ?oi0_15M20 (by kernel_rfl) ?ff15M20 ?rr15M20 ?hq15M20 (Or.inl ⟨?hw15M20, ?hy15M20⟩) (by assumption) ?rest15M20
          case oi0_15M20 =>
            conv =>
              lhs
              whnf
              arg 1
              whnf
          case hq15M20 => exact fun _ _ _ h => h
          case ff15M20 => kernel_rfl
          case rr15M20 => kernel_rfl
          case hw15M20 => rfl
          case hy15M20 =>
            intro w hSw
            (try dsimp only at hSw)
            first
            | (go_simp; done)
            | (go_simp; with_reducible rfl)
          try simp only [Act.put, List.setIfInBounds_toArray, List.set_cons_zero, List.set_cons_succ]
          refine wpAnyH_take (i := 16) (oi := ?oi16M20) (v := ?v16M20) ?oi0_16M20 (by kernel_rfl) ?ff16M20 ?rr16M20 ?hq16M20 (Or.inl ⟨?hw16M20, ?hy16M20⟩) (by assumption) ?rest16M20
          case oi0_16M20 =>
            conv =>
              lhs
              whnf
              arg 1
              whnf
          case hq16M20 => exact fun _ _ _ h => h
          case ff16M20 => kernel_rfl
          case rr16M20 => kernel_rfl
          case hw16M20 => rfl
          case hy16M20 =>
            intro w hSw
            (try dsimp only at hSw)
            first
            | (go_simp; done)
            | (go_simp; with_reducible rfl)
          try simp only [Act.put, List.setIfInBounds_toArray, List.set_cons_zero, List.set_cons_succ]
          refine wpAnyH_take (i := 17) (oi := ?oi17M20) (v := ?v17M20) ?oi0_17M20 (by kernel_rfl) ?ff17M20 ?rr17M20 ?hq17M20 (Or.inl ⟨?hw17M20, ?hy17M20⟩) (by assumption) ?rest17M20
          case oi0_17M20 =>
            conv =>
              lhs
              whnf
              arg 1
              whnf
          case hq17M20 => exact fun _ _ _ h => h
          case ff17M20 => kernel_rfl
          case rr17M20 => kernel_rfl
          case hw17M20 => rfl
          case hy17M20 =>
            intro w hSw
            (try dsimp only at hSw)
            first
            | (go_simp; done)
            | (go_simp; with_reducible rfl)
          try simp only [Act.put, List.setIfInBounds_toArray, List.set_cons_zero, List.set_cons_succ]
          refine wpAnyH_take (i := 18) (oi := ?oi18M20) (v := ?v18M20) ?oi0_18M20 (by kernel_rfl) ?ff18M20 ?rr18M20 ?hq18M20 (Or.inl ⟨?hw18M20, ?hy18M20⟩) (by assumption) ?rest18M20
          case oi0_18M20 =>
            conv =>
              lhs
              whnf
              arg 1
              whnf
          case hq18M20 => exact fun _ _ _ h => h
          case ff18M20 => kernel_rfl
          case rr18M20 => kernel_rfl
          case hw18M20 => rfl
          case hy18M20 =>
            intro w hSw
            (try dsimp only at hSw)
            first
            | (go_simp; done)
            | (go_simp; with_reducible rfl)
          try simp only [Act.put, List.setIfInBounds_toArray, List.set_cons_zero, List.set_cons_succ]
          refine wpAnyH_ready (rs := [14]) (by kernel_rfl) (by simp) (AllReadyH.cons (o := ?oiM21) ?oi0_M21 (fun K hK => ?_) AllReadyH.nil)
          case oi0_M21 =>
            conv =>
              lhs
              whnf
              arg 1
              whnf
          go_simp
          refine (HS1.out wd).mono ?_
          rintro e wp ⟨rfl, u⟩
          try simp only
          have hS : wp.cell? ⟨xg, j, none⟩ = some (.string x1) ∧ wp.cell? ⟨yg, j, none⟩ = some (.string x2) := ⟨keepc _ _ _ _ u hHeld.1, keepc _ _ _ _ u hHeld.2⟩
          replace HUD := hide (HUD.out.trans u (by simp))
          clear u hHeld
          (try dsimp only)
          refine hK.out _ _ (by exact hS) (fun hHeld => ?_)
          clear hK K hS
          try simp only [Act.put, List.setIfInBounds_toArray, List.set_cons_zero, List.set_cons_succ]
          refine wpAnyH_ready (rs := [19]) (by kernel_rfl) (by simp) (AllReadyH.cons (o := ?oiM22) ?oi0_M22 (fun K hK => ?_) AllReadyH.nil)
          case oi0_M22 =>
            conv =>
              lhs
              whnf
              arg 1
              whnf
          go_simp
          refine (HS2.out wp).mono ?_
          rintro e wq ⟨rfl, u⟩
          try simp only
          have hS : wq.cell? ⟨xg, j, none⟩ = some (.string x1) ∧ wq.cell? ⟨yg, j, none⟩ = some (.string x2) := ⟨keepc _ _ _ _ u hHeld.1, keepc _ _ _ _ u hHeld.2⟩
          replace HUD := hide (HUD.out.trans u (by simp))
          clear u hHeld
          (try dsimp only)
          refine hK.out _ _ (by exact hS) (fun hHeld => ?_)
          clear hK K hS
          try simp only [Act.put, List.setIfInBounds_toArray, List.set_cons_zero, List.set_cons_succ]
          refine wpAnyH_take (i := 20) (oi := ?oi20M23) (v := ?v20M23) ?oi0_20M23 (by kernel_rfl) ?ff20M23 ?rr20M23 ?hq20M23 (Or.inl ⟨?hw20M23, ?hy20M23⟩) (by assumption) ?rest20M23
          case oi0_20M23 =>
            conv =>
              lhs
              whnf
              arg 1
              whnf
          case hq20M23 => exact fun _ _ _ h => h
          case ff20M23 => kernel_rfl
          case rr20M23 => kernel_rfl
          case hw20M23 => rfl
          case hy20M23 =>
            intro w hSw
            (try dsimp only at hSw)
            first
            | (go_simp; done)
            | (go_simp; with_reducible rfl)
          try simp only [Act.put, List.setIfInBounds_toArray, List.set_cons_zero, List.set_cons_succ]
          refine wpAnyH_take (i := 21) (oi := ?oi21M23) (v := ?v21M23) ?oi0_21M23 (by kernel_rfl) ?ff21M23 ?rr21M23 ?hq21M23 (Or.inl ⟨?hw21M23, ?hy21M23⟩) (by assumption) ?rest21M23
          case oi0_21M23 =>
            conv =>
              lhs
              whnf
              arg 1
              whnf
          case hq21M23 => exact fun _ _ _ h => h
          case ff21M23 => kernel_rfl
          case rr21M23 => kernel_rfl
          case hw21M23 => rfl
          case hy21M23 =>
            intro w hSw
            (try dsimp only at hSw)
            first
            | (go_simp; done)
            | (go_simp; with_reducible rfl)
          try simp only [Act.put, List.setIfInBounds_toArray, List.set_cons_zero, List.set_cons_succ]
          refine wpAnyH_done (by kernel_rfl) ?_ _
          go_wp2_with fail
          go_ret
          exact ⟨rfl, (HJ13.out.step HUD.out (by simp)).below⟩
      have g6 : (cv == 0) = false := by simp [hcz]
      clear hcz
      go_wp2_with fail
      clear g6 g7
      refine HH1.out.mono ?_
      rintro e w12 ⟨xa, xc, rfl, ho, u⟩
      have HJ12 := hide (HJ11.out.step u (by simp))
      have HS12 := hide (own_kept HS11.out u (by simp))
      have HA12 := hide ho
      clear u ho HH1 HJ11 HR11 HS11
      have HH2 := hide (heads_any sa rn sc M w12 HML.out (strs_own HS12.out) HMS.out (by omega))
      go_wp2_with fail
      refine HH2.out.mono ?_
      rintro e w13 ⟨ya, yc, rfl, ho, u⟩
      have HJ13 := hide (HJ12.out.step u (by simp))
      have HA13 := hide (own_kept HA12.out u (by simp))
      have HB13 := hide ho
      clear u ho HH2 HJ12 HS12 HA12
      obtain ⟨xg, rfl⟩ := own_some HA13.out (by omega)
      obtain ⟨yg, rfl⟩ := own_some HB13.out (by omega)
      go_wp2_with fail
      go_loopw [23] (fun s23 wr => ∃ j : Nat, j ≤ i ∧ s23 = .int .i64 j ∧ Hid (Upd [] w13 wr)) (fun s _ => i - (intOf s).toNat)
      case atStart => exact ⟨0, Nat.zero_le _, rfl, hide (Upd.refl _ _)⟩
      case round =>
        obtain ⟨j, hj, rfl, hU⟩ := hrel
        obtain ⟨wo, rfl⟩ : ∃ x : World, x = wr := ⟨_, rfl⟩
        have hji : (j : Int) < rn := by omega
        have hjw : IntKind.i64.wrap ((j : Int) + 1) = (j : Int) + 1 := Go.IntWalk.i64_in _ (by omega)
        by_cases hlt : j < i
        case pos =>
          obtain ⟨z, hz⟩ : ∃ z, (headsS refK L (List.replicate 32 0))[j]? = some z := ⟨_, List.getElem?_eq_getElem (by rw [headsS_length, HRN.out]; omega)⟩
          obtain ⟨x1, hx1⟩ : ∃ x : ByteArray, ⟨z.toArray⟩ = x := ⟨_, rfl⟩
          have cA := own_str (own_kept HA13.out hU.out (by simp)) j z hz
          have cB := own_str (own_kept HB13.out hU.out (by simp)) j z (by rw [HEQ.out j hlt]; exact hz)
          rw [hx1] at cA cB
          have hne : (x1.toList == x1.toList) = true := by simp
          clear hz hx1
          go_wp2_with fail
          refine wp_region_held_drew (S := (fun w' => w'.cell? ⟨xg, j, none⟩ = some (.string x1) ∧ w'.cell? ⟨yg, j, none⟩ = some (.string x1))) (by kernel_rfl) (by exact ⟨cA, cB⟩) (fun hHeld => ?_)
          refine wpAnyH_take (i := 0) (oi := ?oi0M25) (v := ?v0M25) ?oi0_0M25 (by kernel_rfl) ?ff0M25 ?rr0M25 ?hq0M25 (Or.inl ⟨?hw0M25, ?hy0M25⟩) (by assumption) ?rest0M25
          case oi0_0M25 =>
            conv =>
              lhs
              whnf
              arg 1
              whnf
          case hq0M25 => exact fun _ _ _ h => h
          case ff0M25 => kernel_rfl
          case rr0M25 => kernel_rfl
          case hw0M25 => rfl
          case hy0M25 =>
            intro w hSw
            (try dsimp only at hSw)
            first
            | (go_simp; done)
            | (go_simp; with_reducible rfl)
          try simp only [Act.put, List.setIfInBounds_toArray, List.set_cons_zero, List.set_cons_succ]
          refine wpAnyH_take (i := 1) (oi := ?oi1M25) (v := ?v1M25) ?oi0_1M25 (by kernel_rfl) ?ff1M25 ?rr1M25 ?hq1M25 (Or.inl ⟨?hw1M25, ?hy1M25⟩) (by assumption) ?rest1M25
          case oi0_1M25 =>
            conv =>
              lhs
              whnf
              arg 1
              whnf
          case hq1M25 => exact fun _ _ _ h => h
          case ff1M25 => kernel_rfl
          case rr1M25 => kernel_rfl
          case hw1M25 => rfl
          case hy1M25 =>
            intro w hSw
            (try dsimp only at hSw)
            first
            | (go_simp; done)
            | (go_simp; with_reducible rfl)
          try simp only [Act.put, List.setIfInBounds_toArray, List.set_cons_zero, List.set_cons_succ]
          refine wpAnyH_take (i := 2) (oi := ?oi2M25) (v := ?v2M25) ?oi0_2M25 (by kernel_rfl) ?ff2M25 ?rr2M25 ?hq2M25 (Or.inl ⟨?hw2M25, ?hy2M25⟩) (by assumption) ?rest2M25
          case oi0_2M25 =>
            conv =>
              lhs
              whnf
              arg 1
              whnf
          case hq2M25 => exact fun _ _ _ h => h
          case ff2M25 => kernel_rfl
          case rr2M25 => kernel_rfl
          case hw2M25 => rfl
          case hy2M25 =>
            intro w hSw
            (try dsimp only at hSw)
            first
            | (go_simp; done)
            | (go_simp; with_reducible rfl)
          try simp only [Act.put, List.setIfInBounds_toArray, List.set_cons_zero, List.set_cons_succ]
          refine wpAnyH_take (i := 3) (oi := ?oi3M25) (v := ?v3M25) ?oi0_3M25 (by kernel_rfl) ?ff3M25 ?rr3M25 ?hq3M25 (Or.inl ⟨?hw3M25, ?hy3M25⟩) (by assumption) ?rest3M25
          case oi0_3M25 =>
            conv =>
              lhs
              whnf
              arg 1
              whnf
          case hq3M25 => exact fun _ _ _ h => h
          case ff3M25 => kernel_rfl
          case rr3M25 => kernel_rfl
          case hw3M25 => rfl
          case hy3M25 =>
            intro w hSw
            (try dsimp only at hSw)
            first
            | (go_simp; done)
            | (go_simp; with_reducible rfl)
          try simp only [Act.put, List.setIfInBounds_toArray, List.set_cons_zero, List.set_cons_succ]
          refine wpAnyH_take (i := 4) (oi := ?oi4M25) (v := ?v4M25) ?oi0_4M25 (by kernel_rfl) ?ff4M25 ?rr4M25 ?hq4M25 (Or.inl ⟨?hw4M25, ?hy4M25⟩) (by assumption) ?rest4M25
          case oi0_4M25 =>
            conv =>
              lhs
              whnf
              arg 1
              whnf
          case hq4M25 => exact fun _ _ _ h => h
          case ff4M25 => kernel_rfl
          case rr4M25 => kernel_rfl
          case hw4M25 => rfl
          case hy4M25 =>
            intro w hSw
            (try dsimp only at hSw)
            first
            | (go_simp; done)
            | (go_simp; with_reducible rfl)
          try simp only [Act.put, List.setIfInBounds_toArray, List.set_cons_zero, List.set_cons_succ]
          refine wpAnyH_take (i := 5) (oi := ?oi5M25) (v := ?v5M25) ?oi0_5M25 (by kernel_rfl) ?ff5M25 ?rr5M25 ?hq5M25 (Or.inl ⟨?hw5M25, ?hy5M25⟩) (by assumption) ?rest5M25
          case oi0_5M25 =>
            conv =>
              lhs
              whnf
              arg 1
              whnf
          case hq5M25 => exact fun _ _ _ h => h
          case ff5M25 => kernel_rfl
          case rr5M25 => kernel_rfl
          case hw5M25 => rfl
          case hy5M25 =>
            intro w hSw
            (try dsimp only at hSw)
            first
            | (go_simp; done)
            | (go_simp; with_reducible rfl)
          try simp only [Act.put, List.setIfInBounds_toArray, List.set_cons_zero, List.set_cons_succ]
          refine wpAnyH_take (i := 6) (oi := ?oi6M25) (v := ?v6M25) ?oi0_6M25 (by kernel_rfl) ?ff6M25 ?rr6M25 ?hq6M25 (Or.inl ⟨?hw6M25, ?hy6M25⟩) (by assumption) ?rest6M25
          case oi0_6M25 =>
            conv =>
              lhs
              whnf
              arg 1
              whnf
          case hq6M25 => exact fun _ _ _ h => h
          case ff6M25 => kernel_rfl
          case rr6M25 => kernel_rfl
          case hw6M25 => rfl
          case hy6M25 =>
            intro w hSw
            (try dsimp only at hSw)
            first
            | (go_simp; done)
            | (go_simp; with_reducible rfl)
          try simp only [Act.put, List.setIfInBounds_toArray, List.set_cons_zero, List.set_cons_succ]
          refine wpAnyH_take (i := 7) (oi := ?oi7M25) (v := ?v7M25) ?oi0_7M25 (by kernel_rfl) ?ff7M25 ?rr7M25 ?hq7M25 (Or.inl ⟨?hw7M25, ?hy7M25⟩) (by assumption) ?rest7M25
          case oi0_7M25 =>
            conv =>
              lhs
              whnf
              arg 1
              whnf
          case hq7M25 => exact fun _ _ _ h => h
          case ff7M25 => kernel_rfl
          case rr7M25 => kernel_rfl
          case hw7M25 => rfl
          case hy7M25 =>
            intro w hSw
            (try dsimp only at hSw)
            first
            | (go_simp; done)
            | (go_simp; with_reducible rfl)
          try simp only [Act.put, List.setIfInBounds_toArray, List.set_cons_zero, List.set_cons_succ]
          refine wpAnyH_take (i := 8) (oi := ?oi8M25) (v := ?v8M25) ?oi0_8M25 (by kernel_rfl) ?ff8M25 ?rr8M25 ?hq8M25 (Or.inl ⟨?hw8M25, ?hy8M25⟩) (by assumption) ?rest8M25
          case oi0_8M25 =>
            conv =>
              lhs
              whnf
              arg 1
              whnf
          case hq8M25 => exact fun _ _ _ h => h
          case ff8M25 => kernel_rfl
          case rr8M25 => kernel_rfl
          case hw8M25 => rfl
          case hy8M25 =>
            intro w hSw
            (try dsimp only at hSw)
            first
            | (go_simp; done)
            | (go_simp; with_reducible rfl)
          try simp only [Act.put, List.setIfInBounds_toArray, List.set_cons_zero, List.set_cons_succ]
          refine wpAnyH_take (i := 9) (oi := ?oi9M25) (v := ?v9M25) ?oi0_9M25 (by kernel_rfl) ?ff9M25 ?rr9M25 ?hq9M25 (Or.inl ⟨?hw9M25, ?hy9M25⟩) (by assumption) ?rest9M25
          case oi0_9M25 =>
            conv =>
              lhs
              whnf
              arg 1
              whnf
          case hq9M25 => exact fun _ _ _ h => h
          case ff9M25 => kernel_rfl
          case rr9M25 => kernel_rfl
          case hw9M25 => rfl
          case hy9M25 =>
            intro w hSw
            (try dsimp only at hSw)
            first
            | (go_simp; done)
            | (go_simp; with_reducible rfl)
          try simp only [Act.put, List.setIfInBounds_toArray, List.set_cons_zero, List.set_cons_succ]
          refine wpAnyH_take (i := 10) (oi := ?oi10M25) (v := undef) ?oi0_10M25 (by kernel_rfl) ?ff10M25 ?rr10M25 ?hq10M25 (Or.inr ⟨?hw10M25, rfl⟩) (by assumption) ?rest10M25
          case oi0_10M25 =>
            conv =>
              lhs
              whnf
              arg 1
              whnf
          case hq10M25 => exact fun _ _ _ h => h
          case ff10M25 => kernel_rfl
          case rr10M25 => kernel_rfl
          case hw10M25 => rfl
          try simp only [Act.put, List.setIfInBounds_toArray, List.set_cons_zero, List.set_cons_succ]
          refine wpAnyH_take (i := 11) (oi := ?oi11M25) (v := undef) ?oi0_11M25 (by kernel_rfl) ?ff11M25 ?rr11M25 ?hq11M25 (Or.inr ⟨?hw11M25, rfl⟩) (by assumption) ?rest11M25
          case oi0_11M25 =>
            conv =>
              lhs
              whnf
              arg 1
              whnf
          case hq11M25 => exact fun _ _ _ h => h
          case ff11M25 => kernel_rfl
          case rr11M25 => kernel_rfl
          case hw11M25 => rfl
          try simp only [Act.put, List.setIfInBounds_toArray, List.set_cons_zero, List.set_cons_succ]
          refine wpAnyH_take (i := 12) (oi := ?oi12M25) (v := undef) ?oi0_12M25 (by kernel_rfl) ?ff12M25 ?rr12M25 ?hq12M25 (Or.inr ⟨?hw12M25, rfl⟩) (by assumption) ?rest12M25
          case oi0_12M25 =>
            conv =>
              lhs
              whnf
              arg 1
              whnf
          case hq12M25 => exact fun _ _ _ h => h
          case ff12M25 => kernel_rfl
          case rr12M25 => kernel_rfl
          case hw12M25 => rfl
          try simp only [Act.put, List.setIfInBounds_toArray, List.set_cons_zero, List.set_cons_succ]
          refine wpAnyH_take (i := 13) (oi := ?oi13M25) (v := undef) ?oi0_13M25 (by kernel_rfl) ?ff13M25 ?rr13M25 ?hq13M25 (Or.inr ⟨?hw13M25, rfl⟩) (by assumption) ?rest13M25
          case oi0_13M25 =>
            conv =>
              lhs
              whnf
              arg 1
              whnf
          case hq13M25 => exact fun _ _ _ h => h
          case ff13M25 => kernel_rfl
          case rr13M25 => kernel_rfl
          case hw13M25 => rfl
          try simp only [Act.put, List.setIfInBounds_toArray, List.set_cons_zero, List.set_cons_succ]
          refine wpAnyH_take (i := 15) (oi := ?oi15M25) (v := undef) ?oi0_15M25 (by kernel_rfl) ?ff15M25 ?rr15M25 ?hq15M25 (Or.inr ⟨?hw15M25, rfl⟩) (by assumption) ?rest15M25
          case oi0_15M25 =>
            conv =>
              lhs
              whnf
              arg 1
              whnf
          case hq15M25 => exact fun _ _ _ h => h
          case ff15M25 => kernel_rfl
          case rr15M25 => kernel_rfl
          case hw15M25 => rfl
          try simp only [Act.put, List.setIfInBounds_toArray, List.set_cons_zero, List.set_cons_succ]
          refine wpAnyH_take (i := 16) (oi := ?oi16M25) (v := undef) ?oi0_16M25 (by kernel_rfl) ?ff16M25 ?rr16M25 ?hq16M25 (Or.inr ⟨?hw16M25, rfl⟩) (by assumption) ?rest16M25
          case oi0_16M25 =>
            conv =>
              lhs
              whnf
              arg 1
              whnf
          case hq16M25 => exact fun _ _ _ h => h
          case ff16M25 => kernel_rfl
          case rr16M25 => kernel_rfl
          case hw16M25 => rfl
          try simp only [Act.put, List.setIfInBounds_toArray, List.set_cons_zero, List.set_cons_succ]
          refine wpAnyH_take (i := 17) (oi := ?oi17M25) (v := undef) ?oi0_17M25 (by kernel_rfl) ?ff17M25 ?rr17M25 ?hq17M25 (Or.inr ⟨?hw17M25, rfl⟩) (by assumption) ?rest17M25
          case oi0_17M25 =>
            conv =>
              lhs
              whnf
              arg 1
              whnf
          case hq17M25 => exact fun _ _ _ h => h
          case ff17M25 => kernel_rfl
          case rr17M25 => kernel_rfl
          case hw17M25 => rfl
          try simp only [Act.put, List.setIfInBounds_toArray, List.set_cons_zero, List.set_cons_succ]
          refine wpAnyH_take (i := 18) (oi := ?oi18M25) (v := undef) ?oi0_18M25 (by kernel_rfl) ?ff18M25 ?rr18M25 ?hq18M25 (Or.inr ⟨?hw18M25, rfl⟩) (by assumption) ?rest18M25
          case oi0_18M25 =>
            conv =>
              lhs
              whnf
              arg 1
              whnf
          case hq18M25 => exact fun _ _ _ h => h
          case ff18M25 => kernel_rfl
          case rr18M25 => kernel_rfl
          case hw18M25 => rfl
          try simp only [Act.put, List.setIfInBounds_toArray, List.set_cons_zero, List.set_cons_succ]
          refine wpAnyH_ready (rs := [14]) (by kernel_rfl) (by simp) (AllReadyH.cons (o := ?oi14M25) ?oi0_14M25 (fun K hK => ?_) AllReadyH.nil)
          case oi0_14M25 =>
            conv =>
              lhs
              whnf
              arg 1
              whnf
          rw [if_neg (by first | (simp [Region.wanted, yielded]; done) | (simp [Region.wanted, yielded]; exact fun h => nomatch (show (none : Option Bool) = some true from h)) | (simp [Region.wanted, yielded]; exact fun h => nomatch (show (none : Option Bool) = some false from h)))]
          refine hK.out _ _ (by assumption) (fun _ => ?_)
          clear hK K
          try simp only [Act.put, List.setIfInBounds_toArray, List.set_cons_zero, List.set_cons_succ]
          refine wpAnyH_ready (rs := [19]) (by kernel_rfl) (by simp) (AllReadyH.cons (o := ?oi19M25) ?oi0_19M25 (fun K hK => ?_) AllReadyH.nil)
          case oi0_19M25 =>
            conv =>
              lhs
              whnf
              arg 1
              whnf
          rw [if_neg (by first | (simp [Region.wanted, yielded]; done) | (simp [Region.wanted, yielded]; exact fun h => nomatch (show (none : Option Bool) = some true from h)) | (simp [Region.wanted, yielded]; exact fun h => nomatch (show (none : Option Bool) = some false from h)))]
          refine hK.out _ _ (by assumption) (fun _ => ?_)
          clear hK K
          try simp only [Act.put, List.setIfInBounds_toArray, List.set_cons_zero, List.set_cons_succ]
          refine wpAnyH_take (i := 20) (oi := ?oi20M25) (v := undef) ?oi0_20M25 (by kernel_rfl) ?ff20M25 ?rr20M25 ?hq20M25 (Or.inr ⟨?hw20M25, rfl⟩) (by assumption) ?rest20M25
          case oi0_20M25 =>
            conv =>
              lhs
              whnf
              arg 1
              whnf
          case hq20M25 => exact fun _ _ _ h => h
          case ff20M25 => kernel_rfl
          case rr20M25 => kernel_rfl
          case hw20M25 => rfl
          try simp only [Act.put, List.setIfInBounds_toArray, List.set_cons_zero, List.set_cons_succ]
          refine wpAnyH_take (i := 21) (oi := ?oi21M25) (v := ?v21M25) ?oi0_21M25 (by kernel_rfl) ?ff21M25 ?rr21M25 ?hq21M25 (Or.inl ⟨?hw21M25, ?hy21M25⟩) (by assumption) ?rest21M25
          case oi0_21M25 =>
            conv =>
              lhs
              whnf
              arg 1
              whnf
          case hq21M25 => exact fun _ _ _ h => h
          case ff21M25 => kernel_rfl
          case rr21M25 => kernel_rfl
          case hw21M25 => rfl
          case hy21M25 =>
            intro w hSw
            (try dsimp only at hSw)
            first
            | (go_simp; done)
            | (go_simp; with_reducible rfl)
          try simp only [Act.put, List.setIfInBounds_toArray, List.set_cons_zero, List.set_cons_succ]
          refine wpAnyH_done (by kernel_rfl) ?_ _
          go_wp2_with fail
          go_roundw
          case rel => exact ⟨j + 1, by omega, by go_num, hide hU.out.drew⟩
          case measure => simp [intOf] <;> omega
        obtain rfl : j = i := by omega
        obtain ⟨x1, hx1⟩ : ∃ x : ByteArray, ⟨(2 :: (hd ++ r)).toArray⟩ = x := ⟨_, rfl⟩
        obtain ⟨x2, hx2⟩ : ∃ x : ByteArray, ⟨(2 :: (hd ++ r')).toArray⟩ = x := ⟨_, rfl⟩
        have cA := own_str (own_kept HA13.out hU.out (by simp)) j _ HXA.out
        have cB := own_str (own_kept HB13.out hU.out (by simp)) j _ HXB.out
        rw [hx1] at cA
        rw [hx2] at cB
        have hne : (x1.toList == x2.toList) = false := by
          rw [ByteArray.toList_eq, ByteArray.toList_eq]
          refine beq_eq_false_iff_ne.2 (fun e => ?_)
          rw [← hx1, ← hx2] at e
          have e2 := congrArg List.tail (show (2 :: (hd ++ r) : List UInt8) = 2 :: (hd ++ r') from e)
          exact HNR.out (List.append_cancel_left (show hd ++ r = hd ++ r' from e2)).symm
        obtain ⟨z, hz⟩ : ∃ x : ByteArray, ⟨(sumS refK (2 :: (hd ++ r))).toArray⟩ = x := ⟨_, rfl⟩
        have HS1 := hide (fun W => refSum x1 W (by rw [← hx1]; show (2 :: (hd ++ r)).toArray.size ≤ _; rw [List.size_toArray, List.length_cons, List.length_append, HHL.out]; have := HRS.out; omega))
        have HS2 := hide (fun W => refSum x2 W (by rw [← hx2]; show (2 :: (hd ++ r')).toArray.size ≤ _; rw [List.size_toArray, List.length_cons, List.length_append, HHL.out, HRL.out]; have := HRS.out; omega))
        rw [show x1.data.toList = 2 :: (hd ++ r) by rw [← hx1], hz] at HS1
        rw [show x2.data.toList = 2 :: (hd ++ r') by rw [← hx2], show sumS refK (2 :: (hd ++ r')) = sumS refK (2 :: (hd ++ r)) from HCOL.out, hz] at HS2
        have hzz : (z.toList == z.toList) = true := by simp
        clear hx1 hx2 hz
        go_wp2_with fail
        refine wp_region_held_drew (S := (fun w' => w'.cell? ⟨xg, j, none⟩ = some (.string x1) ∧ w'.cell? ⟨yg, j, none⟩ = some (.string x2))) (by kernel_rfl) (by exact ⟨cA, cB⟩) (fun hHeld => ?_)
        obtain ⟨wd, hw⟩ : ∃ x, wo.drew = x := ⟨_, rfl⟩
        have u : Upd [] wo wd := by rw [← hw]; exact (Upd.refl [] _).drew
        rw [hw] at hHeld ⊢
        have HUD := hide (hU.out.trans u (by simp))
        clear hw u
        refine wpAnyH_take (i := 0) (oi := ?oi0M27) (v := ?v0M27) ?oi0_0M27 (by kernel_rfl) ?ff0M27 ?rr0M27 ?hq0M27 (Or.inl ⟨?hw0M27, ?hy0M27⟩) (by assumption) ?rest0M27
        case oi0_0M27 =>
          conv =>
            lhs
            whnf
            arg 1
            whnf
        case hq0M27 => exact fun _ _ _ h => h
        case ff0M27 => kernel_rfl
        case rr0M27 => kernel_rfl
        case hw0M27 => rfl
        case hy0M27 =>
          intro w hSw
          (try dsimp only at hSw)
          first
          | (go_simp; done)
          | (go_simp; with_reducible rfl)
        try simp only [Act.put, List.setIfInBounds_toArray, List.set_cons_zero, List.set_cons_succ]
        refine wpAnyH_take (i := 1) (oi := ?oi1M27) (v := ?v1M27) ?oi0_1M27 (by kernel_rfl) ?ff1M27 ?rr1M27 ?hq1M27 (Or.inl ⟨?hw1M27, ?hy1M27⟩) (by assumption) ?rest1M27
        case oi0_1M27 =>
          conv =>
            lhs
            whnf
            arg 1
            whnf
        case hq1M27 => exact fun _ _ _ h => h
        case ff1M27 => kernel_rfl
        case rr1M27 => kernel_rfl
        case hw1M27 => rfl
        case hy1M27 =>
          intro w hSw
          (try dsimp only at hSw)
          first
          | (go_simp; done)
          | (go_simp; with_reducible rfl)
        try simp only [Act.put, List.setIfInBounds_toArray, List.set_cons_zero, List.set_cons_succ]
        refine wpAnyH_take (i := 2) (oi := ?oi2M27) (v := ?v2M27) ?oi0_2M27 (by kernel_rfl) ?ff2M27 ?rr2M27 ?hq2M27 (Or.inl ⟨?hw2M27, ?hy2M27⟩) (by assumption) ?rest2M27
        case oi0_2M27 =>
          conv =>
            lhs
            whnf
            arg 1
            whnf
        case hq2M27 => exact fun _ _ _ h => h
        case ff2M27 => kernel_rfl
        case rr2M27 => kernel_rfl
        case hw2M27 => rfl
        case hy2M27 =>
          intro w hSw
          (try dsimp only at hSw)
          first
          | (go_simp; done)
          | (go_simp; with_reducible rfl)
        try simp only [Act.put, List.setIfInBounds_toArray, List.set_cons_zero, List.set_cons_succ]
        refine wpAnyH_take (i := 3) (oi := ?oi3M27) (v := ?v3M27) ?oi0_3M27 (by kernel_rfl) ?ff3M27 ?rr3M27 ?hq3M27 (Or.inl ⟨?hw3M27, ?hy3M27⟩) (by assumption) ?rest3M27
        case oi0_3M27 =>
          conv =>
            lhs
            whnf
            arg 1
            whnf
        case hq3M27 => exact fun _ _ _ h => h
        case ff3M27 => kernel_rfl
        case rr3M27 => kernel_rfl
        case hw3M27 => rfl
        case hy3M27 =>
          intro w hSw
          (try dsimp only at hSw)
          first
          | (go_simp; done)
          | (go_simp; with_reducible rfl)
        try simp only [Act.put, List.setIfInBounds_toArray, List.set_cons_zero, List.set_cons_succ]
        refine wpAnyH_take (i := 4) (oi := ?oi4M27) (v := ?v4M27) ?oi0_4M27 (by kernel_rfl) ?ff4M27 ?rr4M27 ?hq4M27 (Or.inl ⟨?hw4M27, ?hy4M27⟩) (by assumption) ?rest4M27
        case oi0_4M27 =>
          conv =>
            lhs
            whnf
            arg 1
            whnf
        case hq4M27 => exact fun _ _ _ h => h
        case ff4M27 => kernel_rfl
        case rr4M27 => kernel_rfl
        case hw4M27 => rfl
        case hy4M27 =>
          intro w hSw
          (try dsimp only at hSw)
          first
          | (go_simp; done)
          | (go_simp; with_reducible rfl)
        try simp only [Act.put, List.setIfInBounds_toArray, List.set_cons_zero, List.set_cons_succ]
        refine wpAnyH_take (i := 5) (oi := ?oi5M27) (v := ?v5M27) ?oi0_5M27 (by kernel_rfl) ?ff5M27 ?rr5M27 ?hq5M27 (Or.inl ⟨?hw5M27, ?hy5M27⟩) (by assumption) ?rest5M27
        case oi0_5M27 =>
          conv =>
            lhs
            whnf
            arg 1
            whnf
        case hq5M27 => exact fun _ _ _ h => h
        case ff5M27 => kernel_rfl
        case rr5M27 => kernel_rfl
        case hw5M27 => rfl
        case hy5M27 =>
          intro w hSw
          (try dsimp only at hSw)
          first
          | (go_simp; done)
          | (go_simp; with_reducible rfl)
        try simp only [Act.put, List.setIfInBounds_toArray, List.set_cons_zero, List.set_cons_succ]
        refine wpAnyH_take (i := 6) (oi := ?oi6M27) (v := ?v6M27) ?oi0_6M27 (by kernel_rfl) ?ff6M27 ?rr6M27 ?hq6M27 (Or.inl ⟨?hw6M27, ?hy6M27⟩) (by assumption) ?rest6M27
        case oi0_6M27 =>
          conv =>
            lhs
            whnf
            arg 1
            whnf
        case hq6M27 => exact fun _ _ _ h => h
        case ff6M27 => kernel_rfl
        case rr6M27 => kernel_rfl
        case hw6M27 => rfl
        case hy6M27 =>
          intro w hSw
          (try dsimp only at hSw)
          first
          | (go_simp; done)
          | (go_simp; with_reducible rfl)
        try simp only [Act.put, List.setIfInBounds_toArray, List.set_cons_zero, List.set_cons_succ]
        refine wpAnyH_take (i := 7) (oi := ?oi7M27) (v := ?v7M27) ?oi0_7M27 (by kernel_rfl) ?ff7M27 ?rr7M27 ?hq7M27 (Or.inl ⟨?hw7M27, ?hy7M27⟩) (by assumption) ?rest7M27
        case oi0_7M27 =>
          conv =>
            lhs
            whnf
            arg 1
            whnf
        case hq7M27 => exact fun _ _ _ h => h
        case ff7M27 => kernel_rfl
        case rr7M27 => kernel_rfl
        case hw7M27 => rfl
        case hy7M27 =>
          intro w hSw
          (try dsimp only at hSw)
          first
          | (go_simp; done)
          | (go_simp; with_reducible rfl)
        try simp only [Act.put, List.setIfInBounds_toArray, List.set_cons_zero, List.set_cons_succ]
        refine wpAnyH_take (i := 8) (oi := ?oi8M27) (v := ?v8M27) ?oi0_8M27 (by kernel_rfl) ?ff8M27 ?rr8M27 ?hq8M27 (Or.inl ⟨?hw8M27, ?hy8M27⟩) (by assumption) ?rest8M27
        case oi0_8M27 =>
          conv =>
            lhs
            whnf
            arg 1
            whnf
        case hq8M27 => exact fun _ _ _ h => h
        case ff8M27 => kernel_rfl
        case rr8M27 => kernel_rfl
        case hw8M27 => rfl
        case hy8M27 =>
          intro w hSw
          (try dsimp only at hSw)
          first
          | (go_simp; done)
          | (go_simp; with_reducible rfl)
        try simp only [Act.put, List.setIfInBounds_toArray, List.set_cons_zero, List.set_cons_succ]
        refine wpAnyH_take (i := 9) (oi := ?oi9M27) (v := ?v9M27) ?oi0_9M27 (by kernel_rfl) ?ff9M27 ?rr9M27 ?hq9M27 (Or.inl ⟨?hw9M27, ?hy9M27⟩) (by assumption) ?rest9M27
        case oi0_9M27 =>
          conv =>
            lhs
            whnf
            arg 1
            whnf
        case hq9M27 => exact fun _ _ _ h => h
        case ff9M27 => kernel_rfl
        case rr9M27 => kernel_rfl
        case hw9M27 => rfl
        case hy9M27 =>
          intro w hSw
          (try dsimp only at hSw)
          first
          | (go_simp; done)
          | (go_simp; with_reducible rfl)
        try simp only [Act.put, List.setIfInBounds_toArray, List.set_cons_zero, List.set_cons_succ]
        refine wpAnyH_take (i := 10) (oi := ?oi10M27) (v := ?v10M27) ?oi0_10M27 (by kernel_rfl) ?ff10M27 ?rr10M27 ?hq10M27 (Or.inl ⟨?hw10M27, ?hy10M27⟩) (by assumption) ?rest10M27
        case oi0_10M27 =>
          conv =>
            lhs
            whnf
            arg 1
            whnf
        case hq10M27 => exact fun _ _ _ h => h
        case ff10M27 => kernel_rfl
        case rr10M27 => kernel_rfl
        case hw10M27 => rfl
        case hy10M27 =>
          intro w hSw
          (try dsimp only at hSw)
          first
          | (go_simp; done)
          | (go_simp; with_reducible rfl)
        try simp only [Act.put, List.setIfInBounds_toArray, List.set_cons_zero, List.set_cons_succ]
        refine wpAnyH_take (i := 11) (oi := ?oi11M27) (v := ?v11M27) ?oi0_11M27 (by kernel_rfl) ?ff11M27 ?rr11M27 ?hq11M27 (Or.inl ⟨?hw11M27, ?hy11M27⟩) (by assumption) ?rest11M27
        case oi0_11M27 =>
          conv =>
            lhs
            whnf
            arg 1
            whnf
        case hq11M27 => exact fun _ _ _ h => h
        case ff11M27 => kernel_rfl
        case rr11M27 => kernel_rfl
        case hw11M27 => rfl
        case hy11M27 =>
          intro w hSw
          (try dsimp only at hSw)
          first
          | (go_simp; done)
          | (go_simp; with_reducible rfl)
        try simp only [Act.put, List.setIfInBounds_toArray, List.set_cons_zero, List.set_cons_succ]
        refine wpAnyH_take (i := 12) (oi := ?oi12M27) (v := ?v12M27) ?oi0_12M27 (by kernel_rfl) ?ff12M27 ?rr12M27 ?hq12M27 (Or.inl ⟨?hw12M27, ?hy12M27⟩) (by assumption) ?rest12M27
        case oi0_12M27 =>
          conv =>
            lhs
            whnf
            arg 1
            whnf
        case hq12M27 => exact fun _ _ _ h => h
        case ff12M27 => kernel_rfl
        case rr12M27 => kernel_rfl
        case hw12M27 => rfl
        case hy12M27 =>
          intro w hSw
          (try dsimp only at hSw)
          first
          | (go_simp; done)
          | (go_simp; with_reducible rfl)
        try simp only [Act.put, List.setIfInBounds_toArray, List.set_cons_zero, List.set_cons_succ]
        refine wpAnyH_take (i := 13) (oi := ?oi13M27) (v := ?v13M27) ?oi0_13M27 (by kernel_rfl) ?ff13M27 ?rr13M27 ?hq13M27 (Or.inl ⟨?hw13M27, ?hy13M27⟩) (by assumption) ?rest13M27
        case oi0_13M27 =>
          conv =>
            lhs
            whnf
            arg 1
            whnf
        case hq13M27 => exact fun _ _ _ h => h
        case ff13M27 => kernel_rfl
        case rr13M27 => kernel_rfl
        case hw13M27 => rfl
        case hy13M27 =>
          intro w hSw
          (try dsimp only at hSw)
          first
          | (go_simp; done)
          | (go_simp; with_reducible rfl)
        try simp only [Act.put, List.setIfInBounds_toArray, List.set_cons_zero, List.set_cons_succ]
        refine wpAnyH_take (i := 15) (oi := ?oi15M28) (v := ?v15M28) ?oi0_15M28 (by kernel_rfl) ?ff15M28 ?rr15M28 ?hq15M28 (Or.inl ⟨?hw15M28, ?hy15M28⟩) (by assumption) ?rest15M28
        case oi0_15M28 =>
          conv =>
            lhs
            whnf
            arg 1
            whnf
        case hq15M28 => exact fun _ _ _ h => h
        case ff15M28 => kernel_rfl
        case rr15M28 => kernel_rfl
        case hw15M28 => rfl
        case hy15M28 =>
          intro w hSw
          (try dsimp only at hSw)
          first
          | (go_simp; done)
          | (go_simp; with_reducible rfl)
        try simp only [Act.put, List.setIfInBounds_toArray, List.set_cons_zero, List.set_cons_succ]
        refine wpAnyH_take (i := 16) (oi := ?oi16M28) (v := ?v16M28) ?oi0_16M28 (by kernel_rfl) ?ff16M28 ?rr16M28 ?hq16M28 (Or.inl ⟨?hw16M28, ?hy16M28⟩) (by assumption) ?rest16M28
        case oi0_16M28 =>
          conv =>
            lhs
            whnf
            arg 1
            whnf
        case hq16M28 => exact fun _ _ _ h => h
        case ff16M28 => kernel_rfl
        case rr16M28 => kernel_rfl
        case hw16M28 => rfl
        case hy16M28 =>
          intro w hSw
          (try dsimp only at hSw)
          first
          | (go_simp; done)
          | (go_simp; with_reducible rfl)
        try simp only [Act.put, List.setIfInBounds_toArray, List.set_cons_zero, List.set_cons_succ]
        refine wpAnyH_take (i := 17) (oi := ?oi17M28) (v := ?v17M28) ?oi0_17M28 (by kernel_rfl) ?ff17M28 ?rr17M28 ?hq17M28 (Or.inl ⟨?hw17M28, ?hy17M28⟩) (by assumption) ?rest17M28
        case oi0_17M28 =>
          conv =>
            lhs
            whnf
            arg 1
            whnf
        case hq17M28 => exact fun _ _ _ h => h
        case ff17M28 => kernel_rfl
        case rr17M28 => kernel_rfl
        case hw17M28 => rfl
        case hy17M28 =>
          intro w hSw
          (try dsimp only at hSw)
          first
          | (go_simp; done)
          | (go_simp; with_reducible rfl)
        try simp only [Act.put, List.setIfInBounds_toArray, List.set_cons_zero, List.set_cons_succ]
        refine wpAnyH_take (i := 18) (oi := ?oi18M28) (v := ?v18M28) ?oi0_18M28 (by kernel_rfl) ?ff18M28 ?rr18M28 ?hq18M28 (Or.inl ⟨?hw18M28, ?hy18M28⟩) (by assumption) ?rest18M28
        case oi0_18M28 =>
          conv =>
            lhs
            whnf
            arg 1
            whnf
        case hq18M28 => exact fun _ _ _ h => h
        case ff18M28 => kernel_rfl
        case rr18M28 => kernel_rfl
        case hw18M28 => rfl
        case hy18M28 =>
          intro w hSw
          (try dsimp only at hSw)
          first
          | (go_simp; done)
          | (go_simp; with_reducible rfl)
        try simp only [Act.put, List.setIfInBounds_toArray, List.set_cons_zero, List.set_cons_succ]
        refine wpAnyH_ready (rs := [14]) (by kernel_rfl) (by simp) (AllReadyH.cons (o := ?oiM29) ?oi0_M29 (fun K hK => ?_) AllReadyH.nil)
        case oi0_M29 =>
          conv =>
            lhs
            whnf
            arg 1
            whnf
        go_simp
        refine (HS1.out wd).mono ?_
        rintro e wp ⟨rfl, u⟩
        try simp only
        have hS : wp.cell? ⟨xg, j, none⟩ = some (.string x1) ∧ wp.cell? ⟨yg, j, none⟩ = some (.string x2) := ⟨keepc _ _ _ _ u hHeld.1, keepc _ _ _ _ u hHeld.2⟩
        replace HUD := hide (HUD.out.trans u (by simp))
        clear u hHeld
        (try dsimp only)
        refine hK.out _ _ (by exact hS) (fun hHeld => ?_)
        clear hK K hS
        try simp only [Act.put, List.setIfInBounds_toArray, List.set_cons_zero, List.set_cons_succ]
        refine wpAnyH_ready (rs := [19]) (by kernel_rfl) (by simp) (AllReadyH.cons (o := ?oiM30) ?oi0_M30 (fun K hK => ?_) AllReadyH.nil)
        case oi0_M30 =>
          conv =>
            lhs
            whnf
            arg 1
            whnf
        go_simp
        refine (HS2.out wp).mono ?_
        rintro e wq ⟨rfl, u⟩
        try simp only
        have hS : wq.cell? ⟨xg, j, none⟩ = some (.string x1) ∧ wq.cell? ⟨yg, j, none⟩ = some (.string x2) := ⟨keepc _ _ _ _ u hHeld.1, keepc _ _ _ _ u hHeld.2⟩
        replace HUD := hide (HUD.out.trans u (by simp))
        clear u hHeld
        (try dsimp only)
        refine hK.out _ _ (by exact hS) (fun hHeld => ?_)
        clear hK K hS
        try simp only [Act.put, List.setIfInBounds_toArray, List.set_cons_zero, List.set_cons_succ]
        refine wpAnyH_take (i := 20) (oi := ?oi20M31) (v := ?v20M31) ?oi0_20M31 (by kernel_rfl) ?ff20M31 ?rr20M31 ?hq20M31 (Or.inl ⟨?hw20M31, ?hy20M31⟩) (by assumption) ?rest20M31
        case oi0_20M31 =>
          conv =>
            lhs
            whnf
            arg 1
            whnf
        case hq20M31 => exact fun _ _ _ h => h
        case ff20M31 => kernel_rfl
        case rr20M31 => kernel_rfl
        case hw20M31 => rfl
        case hy20M31 =>
          intro w hSw
          (try dsimp only at hSw)
          first
          | (go_simp; done)
          | (go_simp; with_reducible rfl)
        try simp only [Act.put, List.setIfInBounds_toArray, List.set_cons_zero, List.set_cons_succ]
        refine wpAnyH_take (i := 21) (oi := ?oi21M31) (v := ?v21M31) ?oi0_21M31 (by kernel_rfl) ?ff21M31 ?rr21M31 ?hq21M31 (Or.inl ⟨?hw21M31, ?hy21M31⟩) (by assumption) ?rest21M31
        case oi0_21M31 =>
          conv =>
            lhs
            whnf
            arg 1
            whnf
        case hq21M31 => exact fun _ _ _ h => h
        case ff21M31 => kernel_rfl
        case rr21M31 => kernel_rfl
        case hw21M31 => rfl
        case hy21M31 =>
          intro w hSw
          (try dsimp only at hSw)
          first
          | (go_simp; done)
          | (go_simp; with_reducible rfl)
        try simp only [Act.put, List.setIfInBounds_toArray, List.set_cons_zero, List.set_cons_succ]
        refine wpAnyH_done (by kernel_rfl) ?_ _
        go_wp2_with fail
        go_ret
        exact ⟨rfl, (HJ13.out.step HUD.out (by simp)).below⟩
theorem damaged_walk {a0 : Addr} (ga : Option Addr) (gn gc : Nat) (gs : List SRow) (at_ cv : Int) (w : World) (hl : Laid w.heap.size keysL a0 w) (hg : GrpsArg w ga gn gc gs) (hat : (Lit.int .i64 at_).wf = true) (hcw : (Lit.int .u8 cv).wf = true) :
    Calls Tryz.prog 4 #[.slice ga gn gc, .int .i64 at_, .int .u8 cv] w fun e w' => e = .returned (.bool true) ∧ Below w.heap.size w w' :=
  damaged_walk0 (by kernel_rfl) ga gn gc gs at_ cv w hl hg hat hcw
end Go.Proofs.YtafjolibfbccbaaGreatDoor
