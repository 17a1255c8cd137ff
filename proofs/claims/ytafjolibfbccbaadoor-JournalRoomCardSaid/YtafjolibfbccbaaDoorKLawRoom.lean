/-
  airchecklaw34.JournalRoom.
-/
import Derived.Test.YtafjolibfbccbaaDoorKStrs
import Derived.Test.YtafjolibfbccbaaDoorKRPut
namespace Go.Proofs.YtafjolibfbccbaaDoor
open Go.RowKit
set_option maxRecDepth 100000
set_option maxHeartbeats 8000000

theorem lenL_small : ∀ l : List (List UInt8), (∀ r ∈ l, r.length ≤ 100) → lenL l ≤ 142 * l.length := by
  intro l
  induction l with
  | nil => intro _; rw [lenL_nil]; omega
  | cons r l ih =>
    intro h
    have h1 := ih (fun x hx => h x (by simp [hx]))
    have h2 := h r (by simp)
    have h3 := putS_len (r.length : Int) (by omega) (by omega)
    rw [lenL_cons, List.length_cons]
    unfold putStrS
    rw [List.length_append]
    omega
theorem room_walk {ks : List Int} {a0 : Addr} (n : Int) (la : Option Addr) (ln lc : Nat) (l : List ByteArray) (mo : Int) (w : World) (hl : Laid w.heap.size ks a0 w) (hn : (Lit.int .i64 n).wf = true) (hg : StrsArg w la ln lc l) (hmo : (Lit.int .i64 mo).wf = true) :
    Calls Tryd.prog 3 #[.int .i64 n, .slice la ln lc, .int .i64 mo] w fun e w' => e = .returned (.bool true) ∧ Below w.heap.size w w' := by
  have HL := hide hl
  have HG := hide hg
  have HN := hide hn
  have HM := hide hmo
  clear hl hg hn hmo
  obtain ⟨N, hN⟩ : ∃ N, sizeS n = N := ⟨_, rfl⟩
  have hNb := sizeS_in n
  rw [hN] at hNb
  have HZ := hide (fun W => size_law n W HN.out)
  rw [hN] at HZ
  clear hN
  go_enter Tryd.func3, Tryd.ntmps3
  go_wp2_with fail
  refine (sane_any w HL.out).mono ?_
  rintro e w1 ⟨rfl, hb1⟩
  have HB1 := hide hb1
  clear hb1
  go_wp2_with fail
  refine (HZ.out w1).mono ?_
  rintro e w' ⟨rfl, rfl⟩
  go_wp2_with fail
  refine (new_in N w.heap.size w w1 HB1.out HB1.out.size [] (by simp) hNb.1 (by omega)).mono ?_
  rintro e w2 ⟨g, rfl, d0, _, _⟩
  have C1 := open_in HL.out d0 (by simp [DiskS.fresh])
  rw [fresh_of, open_of ks [] (N - 0) (diskOf N []) rfl (by unfold diskOf bytesOf; simp [addL]) (by simp)] at C1
  have HC := hide C1
  clear d0 C1 HB1
  go_wp2_with fail
  refine HC.out.mono ?_
  rintro e w3 ⟨_, hj⟩
  try simp only at hj
  obtain ⟨jb, rfl, hj⟩ := hj
  have HJ := hide (show JIn w.heap.size [] w w3 jb g (tapeOf ks []) false (diskOf N (bytesOf ks [])) from hj)
  clear hj HC
  have hg1 := HG.out.hcap
  have hg2 := HG.out.hmax
  have HF := hide (few_any la ln lc l w3 HG.out.hlen (HG.out.at_.later HJ.out.below) HG.out.small (by omega))
  clear hg1 hg2
  go_wp2_with fail
  refine HF.out.mono ?_
  rintro e w4 ⟨fa, fc, rfl, ho, u⟩
  have HJ4 := hide (HJ.out.more u (by simp) ((fa.map (·.block)).toList) (fun y hy => .inr ⟨it_own_block ho y (by rw [ownBlock_slice]; simpa using hy), it_own_lt ho y (by rw [ownBlock_slice]; simpa using hy)⟩))
  rw [List.append_nil] at HJ4
  clear HF u HJ
  obtain ⟨fl, hfl⟩ : ∃ x, fewS l = x := ⟨_, rfl⟩
  have hf6 : fl.length ≤ 6 := by rw [← hfl]; unfold fewS; rw [List.length_map, List.length_take]; omega
  have hf1 : ∀ r ∈ fl, r.length ≤ 100 := by
    rw [← hfl]; unfold fewS; intro r hr; obtain ⟨s, _, rfl⟩ := List.mem_map.1 hr; rw [List.length_take]; omega
  rw [hfl] at ho ⊢
  obtain ⟨bl, hbl⟩ : ∃ x : List ByteArray, (fl.map fun r => (⟨r.toArray⟩ : ByteArray)) = x := ⟨_, rfl⟩
  have hbb : bytesL bl = fl := by rw [← hbl]; unfold bytesL; rw [List.map_map]; exact (List.map_congr_left (fun a _ => rfl)).trans (List.map_id fl)
  have hbn : bl.length = fl.length := by rw [← hbl, List.length_map]
  have hbs : ∀ s ∈ bl, s.size ≤ 100 := by
    intro s hs; rw [← hbl] at hs; obtain ⟨r, hr, rfl⟩ := List.mem_map.1 hs; exact (by have := hf1 r hr; simpa [ByteArray.size] using this)
  have hlf : lenL fl ≤ 142 * fl.length := lenL_small fl hf1
  obtain ⟨fn, hfn⟩ : ∃ x, fl.length = x := ⟨_, rfl⟩
  rw [hfn] at hf6 hbn ho hlf ⊢
  have HBL := hide (show (fl.map fun r => (⟨r.toArray⟩ : ByteArray)) = bl from hbl)
  have HBB := hide hbb
  have HBN := hide hbn
  have HBS := hide hbs
  have HF1 := hide hf1
  have HFN := hide hfn
  have HO := hide ho
  clear hfl hbl hbb hbn hbs hf1 hfn ho
  go_wp2_with fail
  go_loopw [12, 13, 14, 15] (fun s12 s13 s14 s15 wr => ∃ k : Nat, k ≤ fn ∧ s13 = .int .i64 k ∧ s12 = .int .i64 (lenL (fl.take k) : Nat) ∧ Hid (Upd [] w4 wr)) (fun _ s13 _ _ _ => fn - (intOf s13).toNat)
  case atStart => exact ⟨0, Nat.zero_le _, rfl, by rw [List.take_zero]; rfl, hide (Upd.refl _ _)⟩
  case round =>
    obtain ⟨k, hk, rfl, rfl, hU⟩ := hrel
    obtain ⟨wo, rfl⟩ : ∃ x : World, x = wr := ⟨_, rfl⟩
    obtain ⟨nd, hnd⟩ : ∃ x, lenL (fl.take k) = x := ⟨_, rfl⟩
    have hndb : nd ≤ 142 * k := by rw [← hnd]; have := lenL_small (fl.take k) (fun r hr => HF1.out r (List.mem_of_mem_take hr)); rw [List.length_take] at this; omega
    rw [hnd]
    by_cases hkn : k < fn
    case pos =>
      have hki : (k : Int) < fn := by omega
      have hkw : IntKind.i64.wrap ((k : Int) + 1) = (k : Int) + 1 := Go.IntWalk.i64_in _ (by omega)
      obtain ⟨r, hr⟩ : ∃ r, fl[k]? = some r := ⟨_, List.getElem?_eq_getElem (by have := HFN.out; omega)⟩
      obtain ⟨lb, lo, rfl, hc⟩ := strs_own HO.out k ⟨r.toArray⟩ (by rw [List.getElem?_map, hr]; rfl)
      have hrc : wo.cell? ⟨lb, lo + k, none⟩ = some (.string ⟨r.toArray⟩) := keepc _ _ _ _ hU.out hc
      have hr1 := HF1.out r (List.mem_of_getElem? hr)
      have hpl := putS_len (r.length : Int) (by omega) (by omega)
      have HP := hide (refPutString ⟨r.toArray⟩ wo (by simp [ByteArray.size]; omega))
      obtain ⟨ps, hps⟩ : ∃ x : ByteArray, ⟨(putStrS r).toArray⟩ = x := ⟨_, rfl⟩
      rw [show (⟨(putStrS (⟨r.toArray⟩ : ByteArray).data.toList).toArray⟩ : ByteArray) = ps from hps] at HP
      obtain ⟨pz, hpz⟩ : ∃ x, ps.size = x := ⟨_, rfl⟩
      have hpz2 : pz = (putStrS r).length := by rw [← hpz, ← hps]; simp [ByteArray.size]
      have hpz3 : pz ≤ 109 := by rw [hpz2]; unfold putStrS; rw [List.length_append]; omega
      have HT := hide (show lenL (fl.take (k + 1)) = nd + 33 + pz by rw [List.take_add_one, hr, Option.toList_some, lenL_append, hnd, lenL_cons, lenL_nil, hpz2]; omega)
      have hw1 : IntKind.i64.wrap ((nd : Int) + 33) = ((nd + 33 : Nat) : Int) := by rw [Go.IntWalk.i64_in _ (by omega)]; omega
      have hw2 : IntKind.i64.wrap (((nd + 33 : Nat) : Int) + (pz : Int)) = ((nd + 33 + pz : Nat) : Int) := by rw [Go.IntWalk.i64_in _ (by omega)]; omega
      obtain ⟨n3, hn3⟩ : ∃ x, nd + 33 = x := ⟨_, rfl⟩
      obtain ⟨n4, hn4⟩ : ∃ x, n3 + pz = x := ⟨_, rfl⟩
      rw [hn3] at hw1 hw2 HT
      rw [hn4] at hw2 HT
      clear hr hc hps hpz2 hnd hn3 hn4
      go_wp2_with fail
      refine HP.out.mono ?_
      rintro e w5 ⟨rfl, u⟩
      have HU5 := hide (hU.out.trans u (by simp))
      clear u HP hrc
      go_wp2_with fail
      go_roundw
      case rel => exact ⟨k + 1, by omega, by go_num, by first | rw [HT.out] | (rw [HT.out]; rfl), HU5⟩
      case measure => simp [intOf] <;> omega
    obtain rfl : k = fn := by omega
    have hki : ¬ (k : Int) < k := by omega
    have HND := hide (show lenL fl = nd by rw [← hnd, List.take_of_length_le (by have := HFN.out; omega)])
    rw [HND.out] at hlf
    clear hnd hndb hk hkn
    have HJ5 := hide (HJ4.out.step hU.out (by simp))
    have HO5 := hide (own_kept HO.out hU.out (by simp))
    clear HJ4 HO
    have HA := hide (append_in fa k fc bl HL.out HJ5.out HBN.out (by omega) (by have h9 := strs_own HO5.out; rw [HBL.out] at h9; exact h9) (fun s hs => by have := HBS.out s hs; omega) (by simp [diskOf]) (size_le ks N [] (by rw [lenL_nil]; omega)) (by rw [tapeOf_head]; decide) (recs_le ks [] (by simp)))
    by_cases hfit : nd ≤ N
    case neg =>
      have hL' : ([] : List (List UInt8)).length ≤ 6 ∧ ∀ r ∈ ([] : List (List UInt8)), r.length ≤ 65536 := ⟨by simp, by simp⟩
      have hfi : ¬ (nd : Int) ≤ (N : Int) := by omega
      have hap := append_full ks N [] bl (diskOf N (bytesOf ks [])) (diskOf_size _ _ (by rw [bytesOf_length, lenL_nil]; omega)) (fun s hs => by have := HBS.out s hs; omega) (by rw [lenL_nil]; omega) (by rw [HBB.out, HND.out, lenL_nil]; omega)
      rw [hap] at HA
      clear hap
      obtain ⟨L', hLe⟩ : ∃ L' : List (List UInt8), L' = [] := ⟨_, rfl⟩
      rw [← hLe] at HA hL'
      have hLN : lenL L' ≤ N ∧ N - lenL L' = N := by rw [hLe, lenL_nil]; omega
      clear hLe
      have HLN := hide hLN
      have HLL := hide hL'
      clear hLN hL'
      obtain ⟨rm, hrm⟩ : ∃ x, N = x := ⟨_, rfl⟩
      replace HLN := hide (show lenL L' ≤ N ∧ N - lenL L' = rm from ⟨HLN.out.1, by have := HLN.out.2; omega⟩)
      have hrmN : rm ≤ N := by omega
      have hne : ((rm : Int) != (N : Int)) = false := by rw [← hrm]; simp
      have HRM := hide hrm
      clear hrm
      go_wp2_with fail
      refine HA.out.mono ?_
      rintro e w6 ⟨rfl, hj, hsm⟩
      have HJ6 := hide hj
      have HO6 := hide (own_same HO5.out hsm)
      clear hj hsm HA HJ5 HO5
      go_wp2_with fail
      refine (HZ.out w6).mono ?_
      rintro e w' ⟨rfl, rfl⟩
      have HR := hide (room_in HJ6.out (size_le ks N L' HLN.out.1))
      rw [room_of ks N L' HLN.out.1, HLN.out.2] at HR
      go_wp2_with fail
      refine HR.out.mono ?_
      rintro e w7 ⟨rfl, u⟩
      have HJ7 := hide (HJ6.out.step u (by simp))
      have HO7 := hide (own_kept HO6.out u (by simp))
      clear u HR HJ6 HO6
      go_wp2_with fail
      refine (HZ.out w7).mono ?_
      rintro e w' ⟨rfl, rfl⟩
      have HR := hide (records_in HJ7.out (by rw [tapeOf_recs]; have := HLL.out.1; omega))
      rw [tapeOf_recs] at HR
      obtain ⟨rn, hrn⟩ : ∃ x, L'.length = x := ⟨_, rfl⟩
      have hrn6 : rn ≤ 6 := by rw [← hrn]; exact HLL.out.1
      rw [hrn] at HR
      have HRN := hide hrn
      clear hrn
      go_wp2_with fail
      refine HR.out.mono ?_
      rintro e w8 ⟨ra, rc, rfl, ho, u⟩
      have HJ8 := hide (HJ7.out.more u (by simp) ((ra.map (·.block)).toList) (fun y hy => .inr ⟨it_own_block ho y (by rw [ownBlock_slice]; simpa using hy), it_own_lt ho y (by rw [ownBlock_slice]; simpa using hy)⟩))
      have HO8 := hide (own_kept HO7.out u (by simp))
      have HR8 := hide ho
      clear u ho HR HJ7 HO7
      obtain ⟨pk, hpk⟩ : ∃ x, pickN mo 100 = x := ⟨_, rfl⟩
      have hpkb := pickN_lt mo (n := 100) (by omega)
      have HPK := hide (fun W => pick_any mo 100 W HM.out (by omega) (by omega))
      rw [hpk] at HPK hpkb
      obtain ⟨zn, hzn⟩ : ∃ x, 65537 + pk.toNat = x := ⟨_, rfl⟩
      have hznb : 65537 ≤ zn ∧ zn ≤ 65637 := by omega
      have hzw : IntKind.i64.wrap (65537 + pk) = (zn : Int) := by rw [Go.IntWalk.i64_in _ (by omega)]; omega
      clear hpk hpkb hzn
      obtain ⟨we, hwe⟩ : ∃ x, w8.alloc (.cells #[] 9) = x := ⟨_, rfl⟩
      have u8 : Upd [] w8 we := by rw [← hwe]; exact (Upd.refl [] _).alloc _
      obtain ⟨eb, heb⟩ : ∃ x, w8.heap.size = x := ⟨_, rfl⟩
      have hes : we.heap.size = eb + 1 := by rw [← hwe, World.size_alloc, heb]
      have hOE : we.ownsRow eb 9 1 (.slice (some ⟨eb, 0, none⟩) 0 0) 0 [] := ⟨rfl, .inr ⟨eb, 0, #[], rfl, Nat.le_refl _, by rw [← hwe, ← heb]; exact heap_alloc_new w8 _, Nat.le_refl _, Nat.zero_le _, rfl, rfl⟩⟩
      have HOE := hide hOE
      have HUE := hide u8
      have HOL := hide (own_kept HO8.out u8 (by simp))
      have HES := hide hes
      have HEB := hide heb
      clear hOE u8 hes
      have O1 := hide (show ∀ u ∈ fl.map strV, u.oneCell' = true by intro u hu; obtain ⟨r, _, rfl⟩ := List.mem_map.1 hu; rfl)
      have O2 := hide (show (fl.map strV).length = k * 1 by rw [List.length_map, HFN.out]; omega)
      have O3 := hide (show 0 + k ≤ maxLen by unfold maxLen; omega)
      have O4 := hide (show (0 + k) * 16 ≤ 140737488355328 by omega)
      have O5 := hide (show eb ≤ we.heap.size by rw [HES.out]; omega)
      have HSRC := hide (own_src HOL.out)
      go_upto_region 18 with fail
      go_wp2_with (at_builtin; (try simp only [hwe, heb]); refine wpList_append_src rfl (.tmp 106) (.tmp 107) _ rfl eb 9 (.string ⟨#[]⟩) 1 16 Tryd.underlying22 info_str rfl (by decide) (some ⟨eb, 0, none⟩) 0 0 [] rfl HOE.out fa k fc (fl.map strV) rfl O2.out HSRC.out O1.out O3.out O4.out O5.out ?_; intro A9 c9 w9 h9 u9 a9; rw [Nat.zero_add, List.nil_append] at h9; rw [Nat.zero_add]; have H9 := hide h9; have U9 := hide (HUE.out.trans u9 (fun x hx => .inr (by have := HEB.out; simp at hx; omega))); clear h9 u9 a9)
      clear hwe heb HSRC O1 O2 O3 O4 O5 HOE HUE HOL
      refine (HPK.out w9).mono ?_
      rintro e w' ⟨rfl, rfl⟩
      clear HPK
      obtain ⟨wm, hwm⟩ : ∃ x, w9.alloc (.cells (bCells (List.replicate zn 0)).toArray 5) = x := ⟨_, rfl⟩
      have um : Upd [] w9 wm := by rw [← hwm]; exact (Upd.refl [] _).alloc _
      have hm := make_bytes zn (by omega) w9
      rw [hwm] at hm
      have hcv := conv_zeros wm zn w9.heap.size (by rw [← hwm]; exact Blk.new w9 _ _)
      obtain ⟨zb, hzb⟩ : ∃ x, zs zn = x := ⟨_, rfl⟩
      have hzs : zb.size = zn := by rw [← hzb]; exact zs_size zn
      rw [hzb] at hcv
      obtain ⟨wn, hwn⟩ : ∃ x, wm.alloc (.cells #[.string zb] 9) = x := ⟨_, rfl⟩
      have un : Upd [] wm wn := by rw [← hwn]; exact (Upd.refl [] _).alloc _
      obtain ⟨mb, hmb⟩ : ∃ x, wm.heap.size = x := ⟨_, rfl⟩
      have HNW := hide (show ∀ j u, [Value.string zb][j]? = some u → wn.cell? ((⟨mb, 0, none⟩ : Addr).add j) = some u by
        rw [← hwn, ← hmb]; exact cell_one_new wm (.string zb) 9)
      have HN9 := hide (own_kept (own_kept H9.out um (by simp)) un (by simp))
      have UN := hide ((U9.out.trans um (by simp)).trans un (by simp))
      have HZS := hide hzs
      clear hwm um un hzb hzs H9 U9
      have O3 := hide (show k + 1 ≤ maxLen by unfold maxLen; omega)
      have O4 := hide (show (k + 1) * 16 ≤ 140737488355328 by omega)
      have O5 := hide (show eb ≤ wn.heap.size by have := UN.out.size; have := HEB.out; omega)
      have O1 := hide (show ∀ u ∈ [Value.string zb], u.oneCell' = true by simp [Value.oneCell'])
      go_wp2_with (at_builtin; (try simp only [hwn, hmb]); refine wpList_append_base rfl (.tmp 108) (.tmp 114) _ rfl eb 9 (.string ⟨#[]⟩) 1 16 Tryd.underlying22 info_str rfl (by decide) A9 k c9 (fl.map strV) rfl HN9.out ⟨mb, 0, none⟩ 1 1 [.string zb] rfl rfl HNW.out O1.out O3.out O4.out O5.out ?_; intro A10 c10 w10 h10 u10 a10; have H10 := hide h10; have U10 := hide (UN.out.trans u10 (fun x hx => .inr (by have := it_own_block HN9.out x (by rw [ownBlock_slice]; simpa using hx); have := HEB.out; omega))); clear h10 u10 a10)
      clear hwn hmb hm hcv HNW HN9 UN O1 O3 O4 O5 hzw
      have HJ10 := hide (HJ8.out.step U10.out (by simp))
      have HR10 := hide (own_kept HR8.out U10.out (by simp))
      clear HJ8 HO8 HR8
      have hs10 : StrsAt w10 A10 (bl ++ [zb]) := by
        have h9 := H10.out
        rw [show fl.map strV ++ [Value.string zb] = (fl ++ [zb.data.toList]).map strV by rw [List.map_append]; rfl] at h9
        have h8 := strs_own h9
        rw [List.map_append, HBL.out] at h8
        exact h8
      have HA := hide (append_in A10 (k + 1) c10 (bl ++ [zb]) HL.out HJ10.out (by rw [List.length_append, HBN.out]; rfl) (by omega) hs10 (fun s hs => by
        rcases List.mem_append.1 hs with h | h
        · have := HBS.out s h; omega
        · have : s = zb := by simpa using h
          subst this; have := HZS.out; omega) (by simp [diskOf]) (size_le ks N L' HLN.out.1) (by rw [tapeOf_head]; decide) (recs_le ks L' (by have := HLL.out.1; omega)))
      rw [append_long ks _ _ _ _ zb (by simp) (by rw [HZS.out]; omega)] at HA
      clear hs10 H10 U10
      refine HA.out.mono ?_
      rintro e w11 ⟨rfl, hj, hsm⟩
      have HJ11 := hide hj
      have HR11 := hide (own_same HR10.out (hsm.mono (fun x hx => List.mem_append_left _ hx)))
      clear hj hsm HA HJ10 HR10
      have HA := hide (append_in none 0 0 [] HL.out HJ11.out rfl (by omega) (fun j s hs => by simp at hs) (by simp) (by simp [diskOf]) (size_le ks N L' HLN.out.1) (by rw [tapeOf_head]; decide) (recs_le ks L' (by have := HLL.out.1; omega)))
      rw [append_none] at HA
      go_wp2_with fail
      refine HA.out.mono ?_
      rintro e w12 ⟨rfl, hj, hsm⟩
      have HJ12 := hide hj
      have HR12 := hide (own_same HR11.out (hsm.mono (fun x hx => List.mem_append_left _ hx)))
      clear hj hsm HA HJ11 HR11
      obtain ⟨D2, hD2⟩ : ∃ D2 : DiskS, D2 = { off := true, left := 0, sure := bytesOf ks L' ++ List.replicate (N - (bytesOf ks L').length) 0, vis := bytesOf ks L' ++ List.replicate (N - (bytesOf ks L').length) 0, pend := [] } := ⟨_, rfl⟩
      have hcut : (diskOf N (bytesOf ks L')).cut 0 = (D2, 0) := by rw [hD2]; rfl
      have HOFF := hide (show D2.off = true by rw [hD2])
      have HPE := hide (show D2.pend.length ≤ 10000000 by rw [hD2]; simp)
      have HSU := hide (show D2.sure.length = N by rw [hD2]; have := HLN.out.1; simp [bytesOf_length]; omega)
      have HTS := hide (show (tapeOf ks L').size ≤ D2.sure.length by rw [HSU.out, tapeOf_size, bytesOf_length]; exact HLN.out.1)
      have HCU := hide (jcut_in 0 HJ12.out (by omega))
      rw [hcut] at HCU
      clear hD2 hcut
      go_wp2_with fail
      refine HCU.out.mono ?_
      rintro e w13 ⟨rfl, hj, hsm⟩
      have HJ13 := hide hj
      have HR13 := hide (own_same HR12.out (hsm.mono (fun x hx => List.mem_append_left _ hx)))
      clear hj hsm HCU HJ12 HR12
      obtain ⟨wx, hwx⟩ : ∃ x, w13.alloc (.cells #[.string ⟨#[120]⟩] 9) = x := ⟨_, rfl⟩
      have ux : Upd [] w13 wx := by rw [← hwx]; exact (Upd.refl [] _).alloc _
      have hsx : StrsAt wx (some ⟨w13.heap.size, 0, none⟩) [⟨#[120]⟩] := by rw [← hwx]; exact strs_new w13 [⟨#[120]⟩]
      obtain ⟨xb, hxb⟩ : ∃ x, w13.heap.size = x := ⟨_, rfl⟩
      rw [hxb] at hsx
      have HJX := hide (HJ13.out.step ux (by simp))
      have HRX := hide (own_kept HR13.out ux (by simp))
      clear HJ13 HR13 ux
      have HA := hide (append_in (some ⟨xb, 0, none⟩) 1 1 [⟨#[120]⟩] HL.out HJX.out rfl (by decide) hsx (by decide) HPE.out HTS.out (by rw [tapeOf_head]; decide) (recs_le ks L' (by have := HLL.out.1; omega)))
      clear hsx
      have hlx : lenL (bytesL [(⟨#[120]⟩ : ByteArray)]) = 35 := by unfold bytesL; rw [List.map_cons, List.map_nil, lenL_cons, lenL_nil, putStrS_short _ (by decide)]; rfl
      by_cases hsm : rm < 35
      case neg =>
        have hsi : ¬ (rm : Int) < 35 := by omega
        rw [append_off ks N L' [⟨#[120]⟩] D2 HOFF.out HSU.out (by decide) (by simp) (by rw [hlx]; have := HLN.out; omega)] at HA
        clear hlx hsm
        go_wp2_with fail
        refine HA.out.mono ?_
        rintro e w14 ⟨rfl, hj, hsm⟩
        have HJ14 := hide hj
        have HR14 := hide (own_same HRX.out (hsm.mono (fun x hx => List.mem_append_left _ hx)))
        clear hj hsm HA HJX HRX hwx hxb
        have HR := hide (room_in HJ14.out HTS.out)
        rw [HSU.out, tapeOf_size, bytesOf_length, HLN.out.2] at HR
        go_wp2_with fail
        refine HR.out.mono ?_
        rintro e w15 ⟨rfl, u⟩
        have HJ15 := hide (HJ14.out.step u (by simp))
        have HR15 := hide (own_kept HR14.out u (by simp))
        clear u HR HJ14 HR14
        have HA := hide (append_in none 0 0 [] HL.out HJ15.out rfl (by omega) (fun j s hs => by simp at hs) (by simp) HPE.out HTS.out (by rw [tapeOf_head]; decide) (recs_le ks L' (by have := HLL.out.1; omega)))
        rw [append_broken] at HA
        go_wp2_with fail
        refine HA.out.mono ?_
        rintro e w16 ⟨rfl, hj, hsm⟩
        have HJ16 := hide hj
        have HR16 := hide (own_same HR15.out (hsm.mono (fun x hx => List.mem_append_left _ hx)))
        clear hj hsm HA HJ15 HR15
        have HR := hide (records_in HJ16.out (by rw [tapeOf_recs]; have := HLL.out.1; omega))
        rw [tapeOf_recs, HRN.out] at HR
        go_wp2_with fail
        refine HR.out.mono ?_
        rintro e w17 ⟨sa, sc, rfl, ho, u⟩
        have HJ17 := hide (HJ16.out.step u (by simp))
        have HR17 := hide (own_kept HR16.out u (by simp))
        have HS17 := hide ho
        clear u ho HR HJ16 HR16
        have HS := hide (same_any sa rn sc _ ra rn rc _ w17 (by rw [List.length_map]; exact HRN.out) (by rw [List.length_map]; exact HRN.out) (by omega) (by omega) (strs_own HS17.out) (strs_own HR17.out))
        rw [show decide ((L'.map fun r => (⟨r.toArray⟩ : ByteArray)) = (L'.map fun r => (⟨r.toArray⟩ : ByteArray))) = true from decide_eq_true rfl] at HS
        go_wp2_with fail
        refine HS.out.mono ?_
        rintro e w18 ⟨rfl, u⟩
        have HJ18 := hide (HJ17.out.step u (by simp))
        clear u HS HJ17 HR17 HS17
        have HAN := hide (append_nil fa k fc w18)
        go_wp2_with fail
        refine HAN.out.mono ?_
        rintro e w' ⟨rfl, rfl⟩
        clear HAN
        have HAN := hide (records_nil w18)
        go_wp2_with fail
        refine HAN.out.mono ?_
        rintro e w' ⟨rfl, rfl⟩
        clear HAN
        have HAN := hide (room_nil w18)
        go_wp2_with fail
        refine HAN.out.mono ?_
        rintro e w' ⟨rfl, rfl⟩
        clear HAN
        go_wp2_with fail
        go_ret
        exact ⟨rfl, HJ18.out.below⟩
      have hsi : (rm : Int) < 35 := by omega
      rw [append_full ks N L' [⟨#[120]⟩] D2 HSU.out (by decide) HLN.out.1 (by rw [hlx]; have := HLN.out; omega)] at HA
      clear hlx hsm
      go_wp2_with fail
      refine HA.out.mono ?_
      rintro e w14 ⟨rfl, hj, hsm⟩
      have HJ14 := hide hj
      have HR14 := hide (own_same HRX.out (hsm.mono (fun x hx => List.mem_append_left _ hx)))
      clear hj hsm HA HJX HRX hwx hxb
      have HR := hide (room_in HJ14.out HTS.out)
      rw [HSU.out, tapeOf_size, bytesOf_length, HLN.out.2] at HR
      go_wp2_with fail
      refine HR.out.mono ?_
      rintro e w15 ⟨rfl, u⟩
      have HJ15 := hide (HJ14.out.step u (by simp))
      have HR15 := hide (own_kept HR14.out u (by simp))
      clear u HR HJ14 HR14
      have HA := hide (append_in none 0 0 [] HL.out HJ15.out rfl (by omega) (fun j s hs => by simp at hs) (by simp) HPE.out HTS.out (by rw [tapeOf_head]; decide) (recs_le ks L' (by have := HLL.out.1; omega)))
      rw [append_none] at HA
      go_wp2_with fail
      refine HA.out.mono ?_
      rintro e w16 ⟨rfl, hj, hsm⟩
      have HJ16 := hide hj
      have HR16 := hide (own_same HR15.out (hsm.mono (fun x hx => List.mem_append_left _ hx)))
      clear hj hsm HA HJ15 HR15
      have HR := hide (records_in HJ16.out (by rw [tapeOf_recs]; have := HLL.out.1; omega))
      rw [tapeOf_recs, HRN.out] at HR
      go_wp2_with fail
      refine HR.out.mono ?_
      rintro e w17 ⟨sa, sc, rfl, ho, u⟩
      have HJ17 := hide (HJ16.out.step u (by simp))
      have HR17 := hide (own_kept HR16.out u (by simp))
      have HS17 := hide ho
      clear u ho HR HJ16 HR16
      have HS := hide (same_any sa rn sc _ ra rn rc _ w17 (by rw [List.length_map]; exact HRN.out) (by rw [List.length_map]; exact HRN.out) (by omega) (by omega) (strs_own HS17.out) (strs_own HR17.out))
      rw [show decide ((L'.map fun r => (⟨r.toArray⟩ : ByteArray)) = (L'.map fun r => (⟨r.toArray⟩ : ByteArray))) = true from decide_eq_true rfl] at HS
      go_wp2_with fail
      refine HS.out.mono ?_
      rintro e w18 ⟨rfl, u⟩
      have HJ18 := hide (HJ17.out.step u (by simp))
      clear u HS HJ17 HR17 HS17
      have HAN := hide (append_nil fa k fc w18)
      go_wp2_with fail
      refine HAN.out.mono ?_
      rintro e w' ⟨rfl, rfl⟩
      clear HAN
      have HAN := hide (records_nil w18)
      go_wp2_with fail
      refine HAN.out.mono ?_
      rintro e w' ⟨rfl, rfl⟩
      clear HAN
      have HAN := hide (room_nil w18)
      go_wp2_with fail
      refine HAN.out.mono ?_
      rintro e w' ⟨rfl, rfl⟩
      clear HAN
      go_wp2_with fail
      go_ret
      exact ⟨rfl, HJ18.out.below⟩
    have hL' : fl.length ≤ 6 ∧ ∀ r ∈ fl, r.length ≤ 65536 := ⟨by have := HFN.out; omega, fun r hr => by have := HF1.out r hr; omega⟩
    have hfi : (nd : Int) ≤ (N : Int) := by omega
    have hap := append_ok ks N [] bl (fun s hs => by have := HBS.out s hs; omega) (by rw [HBB.out, HND.out, lenL_nil]; omega)
    rw [List.nil_append, HBB.out] at hap
    rw [hap] at HA
    clear hap
    obtain ⟨L', hLe⟩ : ∃ L' : List (List UInt8), L' = fl := ⟨_, rfl⟩
    rw [← hLe] at HA hL'
    have hLN : lenL L' ≤ N ∧ N - lenL L' = N - nd := by rw [hLe, HND.out]; omega
    clear hLe
    have HLN := hide hLN
    have HLL := hide hL'
    clear hLN hL'
    obtain ⟨rm, hrm⟩ : ∃ x, (N - nd) = x := ⟨_, rfl⟩
    replace HLN := hide (show lenL L' ≤ N ∧ N - lenL L' = rm from ⟨HLN.out.1, by have := HLN.out.2; omega⟩)
    have hrmN : rm ≤ N := by omega
    have hsub : IntKind.i64.wrap ((N : Int) - (nd : Int)) = (rm : Int) := by rw [Go.IntWalk.i64_in _ (by omega)]; omega
    have HRM := hide hrm
    clear hrm
    go_wp2_with fail
    refine HA.out.mono ?_
    rintro e w6 ⟨rfl, hj, hsm⟩
    have HJ6 := hide hj
    have HO6 := hide (own_same HO5.out hsm)
    clear hj hsm HA HJ5 HO5
    go_wp2_with fail
    refine (HZ.out w6).mono ?_
    rintro e w' ⟨rfl, rfl⟩
    have HR := hide (room_in HJ6.out (size_le ks N L' HLN.out.1))
    rw [room_of ks N L' HLN.out.1, HLN.out.2] at HR
    go_wp2_with fail
    refine HR.out.mono ?_
    rintro e w7 ⟨rfl, u⟩
    have HJ7 := hide (HJ6.out.step u (by simp))
    have HO7 := hide (own_kept HO6.out u (by simp))
    clear u HR HJ6 HO6
    go_wp2_with fail
    refine (HZ.out w7).mono ?_
    rintro e w' ⟨rfl, rfl⟩
    have HR := hide (records_in HJ7.out (by rw [tapeOf_recs]; have := HLL.out.1; omega))
    rw [tapeOf_recs] at HR
    obtain ⟨rn, hrn⟩ : ∃ x, L'.length = x := ⟨_, rfl⟩
    have hrn6 : rn ≤ 6 := by rw [← hrn]; exact HLL.out.1
    rw [hrn] at HR
    have HRN := hide hrn
    clear hrn
    go_wp2_with fail
    refine HR.out.mono ?_
    rintro e w8 ⟨ra, rc, rfl, ho, u⟩
    have HJ8 := hide (HJ7.out.more u (by simp) ((ra.map (·.block)).toList) (fun y hy => .inr ⟨it_own_block ho y (by rw [ownBlock_slice]; simpa using hy), it_own_lt ho y (by rw [ownBlock_slice]; simpa using hy)⟩))
    have HO8 := hide (own_kept HO7.out u (by simp))
    have HR8 := hide ho
    clear u ho HR HJ7 HO7
    obtain ⟨pk, hpk⟩ : ∃ x, pickN mo 100 = x := ⟨_, rfl⟩
    have hpkb := pickN_lt mo (n := 100) (by omega)
    have HPK := hide (fun W => pick_any mo 100 W HM.out (by omega) (by omega))
    rw [hpk] at HPK hpkb
    obtain ⟨zn, hzn⟩ : ∃ x, 65537 + pk.toNat = x := ⟨_, rfl⟩
    have hznb : 65537 ≤ zn ∧ zn ≤ 65637 := by omega
    have hzw : IntKind.i64.wrap (65537 + pk) = (zn : Int) := by rw [Go.IntWalk.i64_in _ (by omega)]; omega
    clear hpk hpkb hzn
    obtain ⟨we, hwe⟩ : ∃ x, w8.alloc (.cells #[] 9) = x := ⟨_, rfl⟩
    have u8 : Upd [] w8 we := by rw [← hwe]; exact (Upd.refl [] _).alloc _
    obtain ⟨eb, heb⟩ : ∃ x, w8.heap.size = x := ⟨_, rfl⟩
    have hes : we.heap.size = eb + 1 := by rw [← hwe, World.size_alloc, heb]
    have hOE : we.ownsRow eb 9 1 (.slice (some ⟨eb, 0, none⟩) 0 0) 0 [] := ⟨rfl, .inr ⟨eb, 0, #[], rfl, Nat.le_refl _, by rw [← hwe, ← heb]; exact heap_alloc_new w8 _, Nat.le_refl _, Nat.zero_le _, rfl, rfl⟩⟩
    have HOE := hide hOE
    have HUE := hide u8
    have HOL := hide (own_kept HO8.out u8 (by simp))
    have HES := hide hes
    have HEB := hide heb
    clear hOE u8 hes
    have O1 := hide (show ∀ u ∈ fl.map strV, u.oneCell' = true by intro u hu; obtain ⟨r, _, rfl⟩ := List.mem_map.1 hu; rfl)
    have O2 := hide (show (fl.map strV).length = k * 1 by rw [List.length_map, HFN.out]; omega)
    have O3 := hide (show 0 + k ≤ maxLen by unfold maxLen; omega)
    have O4 := hide (show (0 + k) * 16 ≤ 140737488355328 by omega)
    have O5 := hide (show eb ≤ we.heap.size by rw [HES.out]; omega)
    have HSRC := hide (own_src HOL.out)
    go_upto_region 18 with fail
    go_wp2_with (at_builtin; (try simp only [hwe, heb]); refine wpList_append_src rfl (.tmp 106) (.tmp 107) _ rfl eb 9 (.string ⟨#[]⟩) 1 16 Tryd.underlying22 info_str rfl (by decide) (some ⟨eb, 0, none⟩) 0 0 [] rfl HOE.out fa k fc (fl.map strV) rfl O2.out HSRC.out O1.out O3.out O4.out O5.out ?_; intro A9 c9 w9 h9 u9 a9; rw [Nat.zero_add, List.nil_append] at h9; rw [Nat.zero_add]; have H9 := hide h9; have U9 := hide (HUE.out.trans u9 (fun x hx => .inr (by have := HEB.out; simp at hx; omega))); clear h9 u9 a9)
    clear hwe heb HSRC O1 O2 O3 O4 O5 HOE HUE HOL
    refine (HPK.out w9).mono ?_
    rintro e w' ⟨rfl, rfl⟩
    clear HPK
    obtain ⟨wm, hwm⟩ : ∃ x, w9.alloc (.cells (bCells (List.replicate zn 0)).toArray 5) = x := ⟨_, rfl⟩
    have um : Upd [] w9 wm := by rw [← hwm]; exact (Upd.refl [] _).alloc _
    have hm := make_bytes zn (by omega) w9
    rw [hwm] at hm
    have hcv := conv_zeros wm zn w9.heap.size (by rw [← hwm]; exact Blk.new w9 _ _)
    obtain ⟨zb, hzb⟩ : ∃ x, zs zn = x := ⟨_, rfl⟩
    have hzs : zb.size = zn := by rw [← hzb]; exact zs_size zn
    rw [hzb] at hcv
    obtain ⟨wn, hwn⟩ : ∃ x, wm.alloc (.cells #[.string zb] 9) = x := ⟨_, rfl⟩
    have un : Upd [] wm wn := by rw [← hwn]; exact (Upd.refl [] _).alloc _
    obtain ⟨mb, hmb⟩ : ∃ x, wm.heap.size = x := ⟨_, rfl⟩
    have HNW := hide (show ∀ j u, [Value.string zb][j]? = some u → wn.cell? ((⟨mb, 0, none⟩ : Addr).add j) = some u by
      rw [← hwn, ← hmb]; exact cell_one_new wm (.string zb) 9)
    have HN9 := hide (own_kept (own_kept H9.out um (by simp)) un (by simp))
    have UN := hide ((U9.out.trans um (by simp)).trans un (by simp))
    have HZS := hide hzs
    clear hwm um un hzb hzs H9 U9
    have O3 := hide (show k + 1 ≤ maxLen by unfold maxLen; omega)
    have O4 := hide (show (k + 1) * 16 ≤ 140737488355328 by omega)
    have O5 := hide (show eb ≤ wn.heap.size by have := UN.out.size; have := HEB.out; omega)
    have O1 := hide (show ∀ u ∈ [Value.string zb], u.oneCell' = true by simp [Value.oneCell'])
    go_wp2_with (at_builtin; (try simp only [hwn, hmb]); refine wpList_append_base rfl (.tmp 108) (.tmp 114) _ rfl eb 9 (.string ⟨#[]⟩) 1 16 Tryd.underlying22 info_str rfl (by decide) A9 k c9 (fl.map strV) rfl HN9.out ⟨mb, 0, none⟩ 1 1 [.string zb] rfl rfl HNW.out O1.out O3.out O4.out O5.out ?_; intro A10 c10 w10 h10 u10 a10; have H10 := hide h10; have U10 := hide (UN.out.trans u10 (fun x hx => .inr (by have := it_own_block HN9.out x (by rw [ownBlock_slice]; simpa using hx); have := HEB.out; omega))); clear h10 u10 a10)
    clear hwn hmb hm hcv HNW HN9 UN O1 O3 O4 O5 hzw
    have HJ10 := hide (HJ8.out.step U10.out (by simp))
    have HR10 := hide (own_kept HR8.out U10.out (by simp))
    clear HJ8 HO8 HR8
    have hs10 : StrsAt w10 A10 (bl ++ [zb]) := by
      have h9 := H10.out
      rw [show fl.map strV ++ [Value.string zb] = (fl ++ [zb.data.toList]).map strV by rw [List.map_append]; rfl] at h9
      have h8 := strs_own h9
      rw [List.map_append, HBL.out] at h8
      exact h8
    have HA := hide (append_in A10 (k + 1) c10 (bl ++ [zb]) HL.out HJ10.out (by rw [List.length_append, HBN.out]; rfl) (by omega) hs10 (fun s hs => by
      rcases List.mem_append.1 hs with h | h
      · have := HBS.out s h; omega
      · have : s = zb := by simpa using h
        subst this; have := HZS.out; omega) (by simp [diskOf]) (size_le ks N L' HLN.out.1) (by rw [tapeOf_head]; decide) (recs_le ks L' (by have := HLL.out.1; omega)))
    rw [append_long ks _ _ _ _ zb (by simp) (by rw [HZS.out]; omega)] at HA
    clear hs10 H10 U10
    refine HA.out.mono ?_
    rintro e w11 ⟨rfl, hj, hsm⟩
    have HJ11 := hide hj
    have HR11 := hide (own_same HR10.out (hsm.mono (fun x hx => List.mem_append_left _ hx)))
    clear hj hsm HA HJ10 HR10
    have HA := hide (append_in none 0 0 [] HL.out HJ11.out rfl (by omega) (fun j s hs => by simp at hs) (by simp) (by simp [diskOf]) (size_le ks N L' HLN.out.1) (by rw [tapeOf_head]; decide) (recs_le ks L' (by have := HLL.out.1; omega)))
    rw [append_none] at HA
    go_wp2_with fail
    refine HA.out.mono ?_
    rintro e w12 ⟨rfl, hj, hsm⟩
    have HJ12 := hide hj
    have HR12 := hide (own_same HR11.out (hsm.mono (fun x hx => List.mem_append_left _ hx)))
    clear hj hsm HA HJ11 HR11
    obtain ⟨D2, hD2⟩ : ∃ D2 : DiskS, D2 = { off := true, left := 0, sure := bytesOf ks L' ++ List.replicate (N - (bytesOf ks L').length) 0, vis := bytesOf ks L' ++ List.replicate (N - (bytesOf ks L').length) 0, pend := [] } := ⟨_, rfl⟩
    have hcut : (diskOf N (bytesOf ks L')).cut 0 = (D2, 0) := by rw [hD2]; rfl
    have HOFF := hide (show D2.off = true by rw [hD2])
    have HPE := hide (show D2.pend.length ≤ 10000000 by rw [hD2]; simp)
    have HSU := hide (show D2.sure.length = N by rw [hD2]; have := HLN.out.1; simp [bytesOf_length]; omega)
    have HTS := hide (show (tapeOf ks L').size ≤ D2.sure.length by rw [HSU.out, tapeOf_size, bytesOf_length]; exact HLN.out.1)
    have HCU := hide (jcut_in 0 HJ12.out (by omega))
    rw [hcut] at HCU
    clear hD2 hcut
    go_wp2_with fail
    refine HCU.out.mono ?_
    rintro e w13 ⟨rfl, hj, hsm⟩
    have HJ13 := hide hj
    have HR13 := hide (own_same HR12.out (hsm.mono (fun x hx => List.mem_append_left _ hx)))
    clear hj hsm HCU HJ12 HR12
    obtain ⟨wx, hwx⟩ : ∃ x, w13.alloc (.cells #[.string ⟨#[120]⟩] 9) = x := ⟨_, rfl⟩
    have ux : Upd [] w13 wx := by rw [← hwx]; exact (Upd.refl [] _).alloc _
    have hsx : StrsAt wx (some ⟨w13.heap.size, 0, none⟩) [⟨#[120]⟩] := by rw [← hwx]; exact strs_new w13 [⟨#[120]⟩]
    obtain ⟨xb, hxb⟩ : ∃ x, w13.heap.size = x := ⟨_, rfl⟩
    rw [hxb] at hsx
    have HJX := hide (HJ13.out.step ux (by simp))
    have HRX := hide (own_kept HR13.out ux (by simp))
    clear HJ13 HR13 ux
    have HA := hide (append_in (some ⟨xb, 0, none⟩) 1 1 [⟨#[120]⟩] HL.out HJX.out rfl (by decide) hsx (by decide) HPE.out HTS.out (by rw [tapeOf_head]; decide) (recs_le ks L' (by have := HLL.out.1; omega)))
    clear hsx
    have hlx : lenL (bytesL [(⟨#[120]⟩ : ByteArray)]) = 35 := by unfold bytesL; rw [List.map_cons, List.map_nil, lenL_cons, lenL_nil, putStrS_short _ (by decide)]; rfl
    by_cases hsm : rm < 35
    case neg =>
      have hsi : ¬ (rm : Int) < 35 := by omega
      rw [append_off ks N L' [⟨#[120]⟩] D2 HOFF.out HSU.out (by decide) (by simp) (by rw [hlx]; have := HLN.out; omega)] at HA
      clear hlx hsm
      go_wp2_with fail
      refine HA.out.mono ?_
      rintro e w14 ⟨rfl, hj, hsm⟩
      have HJ14 := hide hj
      have HR14 := hide (own_same HRX.out (hsm.mono (fun x hx => List.mem_append_left _ hx)))
      clear hj hsm HA HJX HRX hwx hxb
      have HR := hide (room_in HJ14.out HTS.out)
      rw [HSU.out, tapeOf_size, bytesOf_length, HLN.out.2] at HR
      go_wp2_with fail
      refine HR.out.mono ?_
      rintro e w15 ⟨rfl, u⟩
      have HJ15 := hide (HJ14.out.step u (by simp))
      have HR15 := hide (own_kept HR14.out u (by simp))
      clear u HR HJ14 HR14
      have HA := hide (append_in none 0 0 [] HL.out HJ15.out rfl (by omega) (fun j s hs => by simp at hs) (by simp) HPE.out HTS.out (by rw [tapeOf_head]; decide) (recs_le ks L' (by have := HLL.out.1; omega)))
      rw [append_broken] at HA
      go_wp2_with fail
      refine HA.out.mono ?_
      rintro e w16 ⟨rfl, hj, hsm⟩
      have HJ16 := hide hj
      have HR16 := hide (own_same HR15.out (hsm.mono (fun x hx => List.mem_append_left _ hx)))
      clear hj hsm HA HJ15 HR15
      have HR := hide (records_in HJ16.out (by rw [tapeOf_recs]; have := HLL.out.1; omega))
      rw [tapeOf_recs, HRN.out] at HR
      go_wp2_with fail
      refine HR.out.mono ?_
      rintro e w17 ⟨sa, sc, rfl, ho, u⟩
      have HJ17 := hide (HJ16.out.step u (by simp))
      have HR17 := hide (own_kept HR16.out u (by simp))
      have HS17 := hide ho
      clear u ho HR HJ16 HR16
      have HS := hide (same_any sa rn sc _ ra rn rc _ w17 (by rw [List.length_map]; exact HRN.out) (by rw [List.length_map]; exact HRN.out) (by omega) (by omega) (strs_own HS17.out) (strs_own HR17.out))
      rw [show decide ((L'.map fun r => (⟨r.toArray⟩ : ByteArray)) = (L'.map fun r => (⟨r.toArray⟩ : ByteArray))) = true from decide_eq_true rfl] at HS
      go_wp2_with fail
      refine HS.out.mono ?_
      rintro e w18 ⟨rfl, u⟩
      have HJ18 := hide (HJ17.out.step u (by simp))
      clear u HS HJ17 HR17 HS17
      have HAN := hide (append_nil fa k fc w18)
      go_wp2_with fail
      refine HAN.out.mono ?_
      rintro e w' ⟨rfl, rfl⟩
      clear HAN
      have HAN := hide (records_nil w18)
      go_wp2_with fail
      refine HAN.out.mono ?_
      rintro e w' ⟨rfl, rfl⟩
      clear HAN
      have HAN := hide (room_nil w18)
      go_wp2_with fail
      refine HAN.out.mono ?_
      rintro e w' ⟨rfl, rfl⟩
      clear HAN
      go_wp2_with fail
      go_ret
      exact ⟨rfl, HJ18.out.below⟩
    have hsi : (rm : Int) < 35 := by omega
    rw [append_full ks N L' [⟨#[120]⟩] D2 HSU.out (by decide) HLN.out.1 (by rw [hlx]; have := HLN.out; omega)] at HA
    clear hlx hsm
    go_wp2_with fail
    refine HA.out.mono ?_
    rintro e w14 ⟨rfl, hj, hsm⟩
    have HJ14 := hide hj
    have HR14 := hide (own_same HRX.out (hsm.mono (fun x hx => List.mem_append_left _ hx)))
    clear hj hsm HA HJX HRX hwx hxb
    have HR := hide (room_in HJ14.out HTS.out)
    rw [HSU.out, tapeOf_size, bytesOf_length, HLN.out.2] at HR
    go_wp2_with fail
    refine HR.out.mono ?_
    rintro e w15 ⟨rfl, u⟩
    have HJ15 := hide (HJ14.out.step u (by simp))
    have HR15 := hide (own_kept HR14.out u (by simp))
    clear u HR HJ14 HR14
    have HA := hide (append_in none 0 0 [] HL.out HJ15.out rfl (by omega) (fun j s hs => by simp at hs) (by simp) HPE.out HTS.out (by rw [tapeOf_head]; decide) (recs_le ks L' (by have := HLL.out.1; omega)))
    rw [append_none] at HA
    go_wp2_with fail
    refine HA.out.mono ?_
    rintro e w16 ⟨rfl, hj, hsm⟩
    have HJ16 := hide hj
    have HR16 := hide (own_same HR15.out (hsm.mono (fun x hx => List.mem_append_left _ hx)))
    clear hj hsm HA HJ15 HR15
    have HR := hide (records_in HJ16.out (by rw [tapeOf_recs]; have := HLL.out.1; omega))
    rw [tapeOf_recs, HRN.out] at HR
    go_wp2_with fail
    refine HR.out.mono ?_
    rintro e w17 ⟨sa, sc, rfl, ho, u⟩
    have HJ17 := hide (HJ16.out.step u (by simp))
    have HR17 := hide (own_kept HR16.out u (by simp))
    have HS17 := hide ho
    clear u ho HR HJ16 HR16
    have HS := hide (same_any sa rn sc _ ra rn rc _ w17 (by rw [List.length_map]; exact HRN.out) (by rw [List.length_map]; exact HRN.out) (by omega) (by omega) (strs_own HS17.out) (strs_own HR17.out))
    rw [show decide ((L'.map fun r => (⟨r.toArray⟩ : ByteArray)) = (L'.map fun r => (⟨r.toArray⟩ : ByteArray))) = true from decide_eq_true rfl] at HS
    go_wp2_with fail
    refine HS.out.mono ?_
    rintro e w18 ⟨rfl, u⟩
    have HJ18 := hide (HJ17.out.step u (by simp))
    clear u HS HJ17 HR17 HS17
    have HAN := hide (append_nil fa k fc w18)
    go_wp2_with fail
    refine HAN.out.mono ?_
    rintro e w' ⟨rfl, rfl⟩
    clear HAN
    have HAN := hide (records_nil w18)
    go_wp2_with fail
    refine HAN.out.mono ?_
    rintro e w' ⟨rfl, rfl⟩
    clear HAN
    have HAN := hide (room_nil w18)
    go_wp2_with fail
    refine HAN.out.mono ?_
    rintro e w' ⟨rfl, rfl⟩
    clear HAN
    go_wp2_with fail
    go_ret
    exact ⟨rfl, HJ18.out.below⟩
end Go.Proofs.YtafjolibfbccbaaDoor
