/-
  airchecklaw34.JournalSurvives.
-/
import Derived.Test.YtafjolibfbccbaaGreatDoorKCrIn
namespace Go.Proofs.YtafjolibfbccbaaGreatDoor
open Go.RowKit
set_option maxRecDepth 100000
set_option maxHeartbeats 8000000

theorem strs_inj {a b : List (List UInt8)} (h : (a.map fun r => (⟨r.toArray⟩ : ByteArray)) = (b.map fun r => (⟨r.toArray⟩ : ByteArray))) : a = b := by
  have h1 := congrArg bytesL h
  unfold bytesL at h1
  rw [List.map_map, List.map_map] at h1
  exact ((List.map_id a).symm.trans ((List.map_congr_left (fun x _ => rfl)).trans h1)).trans ((List.map_congr_left (fun x _ => rfl)).trans (List.map_id b))
theorem survives_walk {ks : List Int} {a0 : Addr} (n : Int) (ga : Option Addr) (gn gc : Nat) (gs : List SRow) (ct : Int) (ka : Option Addr) (kn kc : Nat) (kz : List Int) (tn : Int) (w : World) (hl : Laid w.heap.size ks a0 w) (hn : (Lit.int .i64 n).wf = true) (hg : GrpsArg w ga gn gc gs) (hct : (Lit.int .i64 ct).wf = true) (hk : IntsArg w ka kn kc kz) (ht : (Lit.int .i64 tn).wf = true) :
    Calls Tryz.prog 5 #[.int .i64 n, .slice ga gn gc, .int .i64 ct, .slice ka kn kc, .int .i64 tn] w fun e w' => e = .returned (.bool true) ∧ Below w.heap.size w w' := by
  have HL := hide hl
  have HG := hide hg
  have HN := hide hn
  have HCT := hide hct
  have HK := hide hk
  have HT := hide ht
  clear hl hg hn hct hk ht
  obtain ⟨N, hN⟩ : ∃ N, sizeS n = N := ⟨_, rfl⟩
  have hNb := sizeS_in n
  rw [hN] at hNb
  have HZ := hide (fun W => size_law n W HN.out)
  rw [hN] at HZ
  clear hN
  go_enter Tryz.func5, Tryz.ntmps5
  go_wp2_with fail
  refine (sane_any w HL.out).mono ?_
  rintro e w1 ⟨rfl, hb1⟩
  have HB1 := hide hb1
  clear hb1
  go_wp2_with fail
  refine (HZ.out w1).mono ?_
  rintro e w' ⟨rfl, rfl⟩
  go_wp2_with fail
  refine (new_in N w.heap.size w w1 HB1.out HB1.out.size [] (by simp) hNb.1 (by omega)).mono ?_
  rintro e w2 ⟨g, rfl, d0, _, _⟩
  have C1 := open_in HL.out d0 (by simp [DiskS.fresh])
  rw [fresh_of, open_of ks [] (N - 0) (diskOf N []) rfl (by unfold diskOf bytesOf; simp [addL]) (by simp)] at C1
  have HC := hide C1
  clear d0 C1 HB1
  go_wp2_with fail
  refine HC.out.mono ?_
  rintro e w3 ⟨_, hj⟩
  try simp only at hj
  obtain ⟨jb, rfl, hj⟩ := hj
  have HJ := hide hj
  clear hj HC
  go_wp2_with fail
  go_loopw [16, 17, 18] (fun s16 s17 s18 wr => ∃ (k : Nat) (L G : List (List UInt8)) (A1 A2 : Option Addr) (c1 c2 n1 n2 : Nat) (T : TapeS) (br : Bool) (D : DiskS), k ≤ gn ∧ k ≤ 8 ∧ s16 = .slice A1 n1 c1 ∧ s17 = .slice A2 n2 c2 ∧ s18 = .int .i64 k ∧ Hid (n1 = L.length ∧ n2 = (L ++ G).length ∧ (k < gn → k < 8 → G = [] ∧ T = tapeOf ks L ∧ br = false ∧ D = diskOf N (bytesOf ks L))) ∧ Hid (lenL L ≤ N ∧ L.length ≤ 6 * k ∧ (L ++ G).length ≤ 6 * k + 6 ∧ (∀ r ∈ L ++ G, r.length ≤ 100) ∧ Crashes ks N L G D ∧ D.pend.length ≤ 1) ∧ Hid ((wr.ownsRow w.heap.size 9 1 (.slice A1 n1 c1) n1 (L.map strV)) ∧ (wr.ownsRow w.heap.size 9 1 (.slice A2 n2 c2) n2 ((L ++ G).map strV))) ∧ Hid (JIn w.heap.size ((A1.map (·.block)).toList ++ (A2.map (·.block)).toList) w wr jb g T br D)) (fun _ _ s _ => 8 - (intOf s).toNat)
  case atStart =>
    refine ⟨0, [], [], none, none, 0, 0, 0, 0, tapeOf ks [], false, diskOf N (bytesOf ks []), Nat.zero_le _, Nat.zero_le _, rfl, rfl, rfl, hide ⟨rfl, rfl, fun _ _ => ⟨rfl, rfl, rfl, rfl⟩⟩, hide ⟨by rw [lenL_nil]; omega, by simp, by simp, by simp, crashes_left ks N 0 [] [] (by rw [lenL_nil]; omega), by simp [diskOf]⟩, hide ⟨⟨rfl, .inl ⟨rfl, rfl⟩⟩, ⟨rfl, .inl ⟨rfl, rfl⟩⟩⟩, hide (HJ.out.mono (by simp))⟩
  case round =>
    clear HJ
    obtain ⟨k, L, G, A1, A2, c1, c2, n1, n2, T, br, D, hk, hk8, rfl, rfl, rfl, hN, hI, hO, hJ⟩ := hrel
    obtain ⟨wo, rfl⟩ : ∃ x : World, x = wr := ⟨_, rfl⟩
    by_cases hin : k < gn ∧ k < 8
    case pos =>
      clear hO
      obtain ⟨rfl, rfl, rfl, rfl⟩ := hN.out.2.2 hin.1 hin.2
      have HJ := hide (hJ.out.mono (X' := []) (by simp))
      clear hJ hN
      have hki : (k : Int) < gn := by omega
      have hk8i : (k : Int) < 8 := by omega
      have hkw : IntKind.i64.wrap ((k : Int) + 1) = (k : Int) + 1 := Go.IntWalk.i64_in _ (by omega)
      have HLL := hide (show lenL L ≤ N ∧ L.length ≤ 6 * k ∧ ∀ r ∈ L, r.length ≤ 100 from ⟨hI.out.1, hI.out.2.1, by simpa using hI.out.2.2.2.1⟩)
      clear hI
      obtain ⟨x, hx⟩ : ∃ r, gs[k]? = some r := ⟨_, List.getElem?_eq_getElem (by have := HG.out.hlen; omega)⟩
      obtain ⟨xa, xn, xc, xl⟩ := x
      obtain ⟨gb, go, rfl, hc, hs⟩ := HG.out.at_ k _ hx
      simp only at hc hs
      have hbw := HJ.out.below
      have hcl := World.block_lt_of_cell? _ _ hc
      have hrc : wo.cell? ⟨gb, go + k, none⟩ = some (.slice xa xn xc) := (hbw.cell (p := ⟨gb, go + k, none⟩) hcl).trans hc
      have hx1 := hs.hcap
      have hx2 := hs.hmax
      have HF := hide (fun (W : World) (hb : Below w.heap.size w W) => few_any xa xn xc xl W hs.hlen (hs.at_.later hb) hs.small (by omega))
      have HCC := hide hc
      have HCL := hide hcl
      have hgm := HG.out.mx
      clear hx hc hs hbw hx1 hx2 hcl
      have HR := hide (records_in HJ.out (by rw [tapeOf_recs]; have := HLL.out.2.1; omega))
      rw [tapeOf_recs] at HR
      obtain ⟨rn, hrn⟩ : ∃ x, L.length = x := ⟨_, rfl⟩
      have hrn6 : rn ≤ 6 * k := by rw [← hrn]; exact HLL.out.2.1
      rw [hrn] at HR
      have HRN := hide hrn
      clear hrn
      go_wp2_with fail
      refine HR.out.mono ?_
      rintro e w4 ⟨ra, rc, rfl, ho, u⟩
      have HJ4 := hide (HJ.out.more u (by simp) ((ra.map (·.block)).toList) (fun y hy => .inr ⟨it_own_block ho y (by rw [ownBlock_slice]; simpa using hy), it_own_lt ho y (by rw [ownBlock_slice]; simpa using hy)⟩))
      rw [List.append_nil] at HJ4
      have HR4 := hide (it_own_less ho HJ.out.room)
      have HC4 := hide (keepc _ _ _ _ u hrc)
      clear u ho HR HJ hrc
      go_upto_region 12 with fail
      obtain ⟨fl, hfl⟩ : ∃ x, fewS xl = x := ⟨_, rfl⟩
      have hf6 : fl.length ≤ 6 := by rw [← hfl]; unfold fewS; rw [List.length_map, List.length_take]; omega
      have hf1 : ∀ r ∈ fl, r.length ≤ 100 := by
        rw [← hfl]; unfold fewS; intro r hr; obtain ⟨s, _, rfl⟩ := List.mem_map.1 hr; rw [List.length_take]; omega
      rw [hfl] at HF
      obtain ⟨bl, hbl⟩ : ∃ x : List ByteArray, (fl.map fun r => (⟨r.toArray⟩ : ByteArray)) = x := ⟨_, rfl⟩
      have hbb : bytesL bl = fl := by rw [← hbl]; unfold bytesL; rw [List.map_map]; exact (List.map_congr_left (fun a _ => rfl)).trans (List.map_id fl)
      have hbn : bl.length = fl.length := by rw [← hbl, List.length_map]
      have hbs : ∀ s ∈ bl, s.size ≤ 100 := by
        intro s hs; rw [← hbl] at hs; obtain ⟨r, hr, rfl⟩ := List.mem_map.1 hs; exact (by have := hf1 r hr; simpa [ByteArray.size] using this)
      obtain ⟨fn, hfn⟩ : ∃ x, fl.length = x := ⟨_, rfl⟩
      rw [hfn] at hf6 hbn HF
      have HBL := hide (show (fl.map fun r => (⟨r.toArray⟩ : ByteArray)) = bl from hbl)
      have HBB := hide hbb
      have HBN := hide hbn
      have HBS := hide hbs
      have HF1 := hide hf1
      have HFN := hide hfn
      clear hfl hbl hbb hbn hbs hf1 hfn
      have HB4 := hide (show w.heap.size ≤ w4.heap.size from HJ4.out.room)
      have HB4b := hide HJ4.out.below
      have O1 := hide (show ∀ u ∈ L.map strV, u.oneCell' = true by intro u hu; obtain ⟨r, _, rfl⟩ := List.mem_map.1 hu; rfl)
      have O2 := hide (show (L.map strV).length = rn * 1 by rw [List.length_map, HRN.out]; omega)
      have O3 := hide (show 0 + rn ≤ maxLen by unfold maxLen; omega)
      have O4 := hide (show (0 + rn) * 16 ≤ 140737488355328 by omega)
      have P1 := hide (show ∀ u ∈ fl.map strV, u.oneCell' = true by intro u hu; obtain ⟨r, _, rfl⟩ := List.mem_map.1 hu; rfl)
      have P2 := hide (show (fl.map strV).length = fn * 1 by rw [List.length_map, HFN.out]; omega)
      have P3 := hide (show rn + fn ≤ maxLen by unfold maxLen; omega)
      have P4 := hide (show (rn + fn) * 16 ≤ 140737488355328 by omega)
      refine wp_region_held_drew (S := (fun w' => w'.cell? ⟨gb, go + k, none⟩ = some (.slice xa xn xc))) (by kernel_rfl) (by exact HC4.out) (fun hHeld => ?_)
      obtain ⟨wd, hw⟩ : ∃ x, w4.drew = x := ⟨_, rfl⟩
      have u : Upd [] w4 wd := by rw [← hw]; exact (Upd.refl [] _).drew
      rw [hw] at hHeld ⊢
      have UD := hide u
      have HRD := hide (own_kept HR4.out u (by simp))
      clear hw u
      refine wpAnyH_take (i := 1) (oi := ?oi1M2) (v := ?v1M2) ?oi0_1M2 (by kernel_rfl) ?ff1M2 ?rr1M2 ?hq1M2 (Or.inl ⟨?hw1M2, ?hy1M2⟩) (by assumption) ?rest1M2
      case oi0_1M2 =>
        conv =>
          lhs
          whnf
          arg 1
          whnf
      case hq1M2 => exact fun _ _ _ h => h
      case ff1M2 => kernel_rfl
      case rr1M2 => kernel_rfl
      case hw1M2 => rfl
      case hy1M2 =>
        intro w hSw
        (try dsimp only at hSw)
        first
        | (go_simp; done)
        | (go_simp; with_reducible rfl)
      try simp only [Act.put, List.setIfInBounds_toArray, List.set_cons_zero, List.set_cons_succ]
      refine wpAnyH_take (i := 3) (oi := ?oi3M2) (v := ?v3M2) ?oi0_3M2 (by kernel_rfl) ?ff3M2 ?rr3M2 ?hq3M2 (Or.inl ⟨?hw3M2, ?hy3M2⟩) (by assumption) ?rest3M2
      case oi0_3M2 =>
        conv =>
          lhs
          whnf
          arg 1
          whnf
      case hq3M2 => exact fun _ _ _ h => h
      case ff3M2 => kernel_rfl
      case rr3M2 => kernel_rfl
      case hw3M2 => rfl
      case hy3M2 =>
        intro w hSw
        (try dsimp only at hSw)
        first
        | (go_simp; done)
        | (go_simp; with_reducible rfl)
      try simp only [Act.put, List.setIfInBounds_toArray, List.set_cons_zero, List.set_cons_succ]
      refine wpAnyH_take (i := 4) (oi := ?oi4M2) (v := ?v4M2) ?oi0_4M2 (by kernel_rfl) ?ff4M2 ?rr4M2 ?hq4M2 (Or.inl ⟨?hw4M2, ?hy4M2⟩) (by assumption) ?rest4M2
      case oi0_4M2 =>
        conv =>
          lhs
          whnf
          arg 1
          whnf
      case hq4M2 => exact fun _ _ _ h => h
      case ff4M2 => kernel_rfl
      case rr4M2 => kernel_rfl
      case hw4M2 => rfl
      case hy4M2 =>
        intro w hSw
        (try dsimp only at hSw)
        first
        | (go_simp; done)
        | (go_simp; with_reducible rfl)
      try simp only [Act.put, List.setIfInBounds_toArray, List.set_cons_zero, List.set_cons_succ]
      refine wpAnyH_take (i := 5) (oi := ?oi5M2) (v := ?v5M2) ?oi0_5M2 (by kernel_rfl) ?ff5M2 ?rr5M2 ?hq5M2 (Or.inl ⟨?hw5M2, ?hy5M2⟩) (by assumption) ?rest5M2
      case oi0_5M2 =>
        conv =>
          lhs
          whnf
          arg 1
          whnf
      case hq5M2 => exact fun _ _ _ h => h
      case ff5M2 => kernel_rfl
      case rr5M2 => kernel_rfl
      case hw5M2 => rfl
      case hy5M2 =>
        intro w hSw
        (try dsimp only at hSw)
        first
        | (go_simp; done)
        | (go_simp; with_reducible rfl)
      try simp only [Act.put, List.setIfInBounds_toArray, List.set_cons_zero, List.set_cons_succ]
      refine wpAnyH_take (i := 6) (oi := ?oi6M2) (v := ?v6M2) ?oi0_6M2 (by kernel_rfl) ?ff6M2 ?rr6M2 ?hq6M2 (Or.inl ⟨?hw6M2, ?hy6M2⟩) (by assumption) ?rest6M2
      case oi0_6M2 =>
        conv =>
          lhs
          whnf
          arg 1
          whnf
      case hq6M2 => exact fun _ _ _ h => h
      case ff6M2 => kernel_rfl
      case rr6M2 => kernel_rfl
      case hw6M2 => rfl
      case hy6M2 =>
        intro w hSw
        (try dsimp only at hSw)
        first
        | (go_simp; done)
        | (go_simp; with_reducible rfl)
      try simp only [Act.put, List.setIfInBounds_toArray, List.set_cons_zero, List.set_cons_succ]
      refine wpAnyH_ready (rs := [0]) (by kernel_rfl) (by simp) (AllReadyH.cons (o := ?oiM3) ?oi0_M3 (fun K hK => ?_) AllReadyH.nil)
      case oi0_M3 =>
        conv =>
          lhs
          whnf
          arg 1
          whnf
      go_simp
      obtain ⟨eb, heb⟩ : ∃ x, wd.heap.size = x := ⟨_, rfl⟩
      obtain ⟨we, hw⟩ : ∃ x, wd.alloc (.cells #[] 9) = x := ⟨_, rfl⟩
      have u : Upd [] wd we := by rw [← hw]; exact (Upd.refl [] _).alloc _
      have hes : we.heap.size = eb + 1 := by rw [← hw, World.size_alloc, heb]
      have hOE : we.ownsRow eb 9 1 (.slice (some ⟨eb, 0, none⟩) 0 0) 0 [] := ⟨rfl, .inr ⟨eb, 0, #[], rfl, Nat.le_refl _, by rw [← hw, ← heb]; exact heap_alloc_new wd _, Nat.le_refl _, Nat.zero_le _, rfl, rfl⟩⟩
      (try simp only [hw, heb])
      have UE := hide (UD.out.trans u (by simp))
      have HRE := hide (own_kept HRD.out u (by simp))
      have hc2 := keepc _ _ _ _ u hHeld
      have HOE := hide hOE
      have HES := hide hes
      have HEB := hide (show w4.heap.size ≤ eb by rw [← heb]; exact UD.out.size)
      have HSRC := hide (own_src HRE.out)
      have O5 := hide (show eb ≤ we.heap.size by omega)
      clear hOE hes hw heb u hHeld HRD UD
      (try dsimp only)
      refine hK.out _ _ (by exact hc2) (fun hHeld => ?_)
      clear hK K hc2
      try simp only [Act.put, List.setIfInBounds_toArray, List.set_cons_zero, List.set_cons_succ]
      refine wpAnyH_ready (rs := [2]) (by kernel_rfl) (by simp) (AllReadyH.cons (o := ?oiM4) ?oi0_M4 (fun K hK => ?_) AllReadyH.nil)
      case oi0_M4 =>
        conv =>
          lhs
          whnf
          arg 1
          whnf
      refine step_append_src rfl (.tmp 49) (.tmp 50) _ rfl eb 9 (.string ⟨#[]⟩) 1 16 Tryz.underlying22 info_str rfl (by decide) (some ⟨eb, 0, none⟩) 0 0 [] rfl HOE.out ra rn rc (L.map strV) rfl O2.out HSRC.out O1.out O3.out O4.out O5.out ?_
      intro A6 c6 w6 h6 u6
      rw [Nat.zero_add, List.nil_append] at h6
      rw [Nat.zero_add]
      have H6S := hide (show eb ≤ w6.heap.size by have := HES.out; have := u6.size; omega)
      have H6 := hide h6
      have U6 := hide (UE.out.trans u6 (fun x hx => .inr (by have := HEB.out; simp at hx; omega)))
      have hc2 : w6.cell? ⟨gb, go + k, none⟩ = some (.slice xa xn xc) := (u6.cell (p := ⟨gb, go + k, none⟩) (World.block_lt_of_cell? _ _ hHeld) (fun hm => by have := HEB.out; have := HCL.out; have := HB4.out; simp at hm; omega)).trans hHeld
      clear h6 u6 hHeld HSRC O1 O2 O3 O4 O5 HOE HRE UE
      (try dsimp only)
      refine hK.out _ _ (by exact hc2) (fun hHeld => ?_)
      clear hK K hc2
      try simp only [Act.put, List.setIfInBounds_toArray, List.set_cons_zero, List.set_cons_succ]
      refine wpAnyH_ready (rs := [7]) (by kernel_rfl) (by simp) (AllReadyH.cons (o := ?oiM5) ?oi0_M5 (fun K hK => ?_) AllReadyH.nil)
      case oi0_M5 =>
        conv =>
          lhs
          whnf
          arg 1
          whnf
      go_simp
      refine (HF.out w6 (HB4b.out.trans (U6.out.toBelow HB4.out (by simp)))).mono ?_
      rintro e w7 ⟨fa, fc, rfl, ho, u⟩
      try simp only
      have H7 := hide (own_kept H6.out u (by simp))
      have U7 := hide (U6.out.trans u (by simp))
      have hc2 := keepc _ _ _ _ u hHeld
      have HSRC := hide (own_src ho)
      have O5 := hide (show eb ≤ w7.heap.size by have := H6S.out; have := u.size; omega)
      clear ho u hHeld H6 U6
      (try dsimp only)
      refine hK.out _ _ (by exact hc2) (fun hHeld => ?_)
      clear hK K hc2
      try simp only [Act.put, List.setIfInBounds_toArray, List.set_cons_zero, List.set_cons_succ]
      refine wpAnyH_ready (rs := [8]) (by kernel_rfl) (by simp) (AllReadyH.cons (o := ?oiM6) ?oi0_M6 (fun K hK => ?_) AllReadyH.nil)
      case oi0_M6 =>
        conv =>
          lhs
          whnf
          arg 1
          whnf
      refine step_append_src rfl (.tmp 51) (.tmp 56) _ rfl eb 9 (.string ⟨#[]⟩) 1 16 Tryz.underlying22 info_str rfl (by decide) A6 rn c6 (L.map strV) rfl H7.out fa fn fc (fl.map strV) rfl P2.out HSRC.out P1.out P3.out P4.out O5.out ?_
      intro A8 c8 w8 h8 u8
      rw [← List.map_append] at h8
      have H8 := hide h8
      have U8 := hide (U7.out.trans u8 (fun x hx => .inr (by have := it_own_block H7.out x (by rw [ownBlock_slice]; simpa using hx); have := HEB.out; omega)))
      have hc2 : w8.cell? ⟨gb, go + k, none⟩ = some (.slice xa xn xc) := (u8.cell (p := ⟨gb, go + k, none⟩) (World.block_lt_of_cell? _ _ hHeld) (fun hm => by have := it_own_block H7.out gb (by rw [ownBlock_slice]; simpa using hm); have := HEB.out; have := HCL.out; have := HB4.out; omega)).trans hHeld
      clear h8 u8 hHeld HSRC P1 P2 P3 P4 O5 H7 U7
      have HC8 := hide hc2
      (try dsimp only)
      refine hK.out _ _ (by exact hc2) (fun hHeld => ?_)
      clear hK K hc2
      try simp only [Act.put, List.setIfInBounds_toArray, List.set_cons_zero, List.set_cons_succ]
      refine wpAnyH_take (i := 9) (oi := ?oi9M7) (v := ?v9M7) ?oi0_9M7 (by kernel_rfl) ?ff9M7 ?rr9M7 ?hq9M7 (Or.inl ⟨?hw9M7, ?hy9M7⟩) (by assumption) ?rest9M7
      case oi0_9M7 =>
        conv =>
          lhs
          whnf
          arg 1
          whnf
      case hq9M7 => exact fun _ _ _ h => h
      case ff9M7 => kernel_rfl
      case rr9M7 => kernel_rfl
      case hw9M7 => rfl
      case hy9M7 =>
        intro w hSw
        (try dsimp only at hSw)
        first
        | (go_simp; done)
        | (go_simp; with_reducible rfl)
      try simp only [Act.put, List.setIfInBounds_toArray, List.set_cons_zero, List.set_cons_succ]
      refine wpAnyH_done (by kernel_rfl) ?_ _
      have HJ8 := hide (HJ4.out.more U8.out (by simp) ((A8.map (·.block)).toList) (fun y hy => .inr ⟨by have := it_own_block H8.out y (by rw [ownBlock_slice]; simpa using hy); have := HEB.out; omega, it_own_lt H8.out y (by rw [ownBlock_slice]; simpa using hy)⟩))
      have HR8 := hide (own_kept HR4.out U8.out (by simp))
      have HW8 := hide (it_own_less H8.out (Nat.le_trans HB4.out HEB.out))
      clear HJ4 HR4 H8 U8 HEB HB4 HB4b HES H6S HC4
      have hgw : IntKind.i64.wrap ((gn : Int) - 1) = (gn : Int) - 1 := Go.IntWalk.i64_in _ (by omega)
      by_cases hlast : k + 1 = gn ∨ k = 7
      case neg =>
        have hl1 : ((k : Int) == (gn : Int) - 1) = false := by simp; omega
        have hl2 : ((k : Int) == 7) = false := by simp; omega
        go_wp2_with fail
        have HJA := hide (show JIn w.heap.size ((A8.map (·.block)).toList ++ (ra.map (·.block)).toList) w w8 jb g (tapeOf ks L) false (diskLeft N (bytesOf ks L) 0) from HJ8.out)
        clear HJ8
        refine (HF.out w8 HJA.out.below).mono ?_
        rintro e w9 ⟨fa, fc, rfl, ho, u⟩
        try simp only
        have HJ9 := hide (HJA.out.step u (by simp))
        have HR9 := hide (own_kept HR8.out u (by simp))
        have HW9 := hide (own_kept HW8.out u (by simp))
        have hst := strs_own ho
        rw [HBL.out] at hst
        clear ho u HJA HR8 HW8 HF
        have HA := hide (append_in fa fn fc bl HL.out HJ9.out HBN.out (by omega) hst (fun s hs => by have := HBS.out s hs; omega) (by rw [left_pend]; omega) (by rw [left_size _ _ _ (by rw [bytesOf_length]; exact HLL.out.1), tapeOf_size, bytesOf_length]; exact HLL.out.1) (by rw [tapeOf_head]; decide) (by rw [tapeOf_recs]; have := HLL.out.2.1; omega))
        clear hst HJ9
        have h65 : ∀ s ∈ bl, s.size ≤ 65536 := fun s hs => by have := HBS.out s hs; omega
        rcases append_cases ks N 0 L bl h65 HLL.out.1 with ⟨m', hap, hm', hlen⟩ | hap | ⟨D', hap, d1, d2, d3, d4, d5⟩
        case inl =>
          rw [hap] at HA
          clear hap h65
          go_wp2_with fail
          refine HA.out.mono ?_
          rintro e w10 ⟨rfl, hj, hsm⟩
          have HJ10 := hide hj
          have HR10 := hide (own_same HR9.out (hsm.mono (fun x hx => List.mem_append_right _ hx)))
          have HW10 := hide (own_same HW9.out (hsm.mono (fun x hx => List.mem_append_left _ hx)))
          clear hj hsm HA HR9 HW9
          go_wp2_with fail
          go_roundw
          case rel =>
            rw [HBB.out] at HJ10 hlen
            refine ⟨k + 1, L ++ fl, [], A8, A8, c8, c8, rn + fn, rn + fn, tapeOf ks (L ++ fl), false, diskLeft N (bytesOf ks (L ++ fl)) m', by omega, by omega, rfl, rfl, by go_num, hide ⟨by rw [List.length_append, HRN.out, HFN.out], by rw [List.append_nil, List.length_append, HRN.out, HFN.out], fun _ _ => ⟨rfl, rfl, rfl, by rw [show m' = 0 by omega, diskLeft_none]⟩⟩, hide ⟨hlen, by rw [List.length_append, HFN.out]; have := HLL.out.2.1; omega, by rw [List.append_nil, List.length_append, HFN.out]; have := HLL.out.2.1; omega, ?_, crashes_left ks N m' _ _ hlen, by rw [left_pend]; omega⟩, hide ⟨HW10.out, by rw [List.append_nil]; exact HW10.out⟩, hide (HJ10.out.mono (fun x hx => by rcases List.mem_append.1 hx with h | h <;> exact List.mem_append_left _ h))⟩
            rw [List.append_nil]
            exact fun r hr => by
              rcases List.mem_append.1 hr with hr | hr
              · exact HLL.out.2.2 r hr
              · exact HF1.out r hr
          case measure => simp [intOf] <;> omega
        case inr.inl =>
          rw [hap] at HA
          clear hap h65
          go_wp2_with fail
          refine HA.out.mono ?_
          rintro e w10 ⟨rfl, hj, hsm⟩
          have HJ10 := hide hj
          have HR10 := hide (own_same HR9.out (hsm.mono (fun x hx => List.mem_append_right _ hx)))
          have HW10 := hide (own_same HW9.out (hsm.mono (fun x hx => List.mem_append_left _ hx)))
          clear hj hsm HA HR9 HW9
          go_wp2_with fail
          go_roundw
          case rel =>
            exact ⟨k + 1, L, [], ra, ra, rc, rc, rn, rn, tapeOf ks L, false, diskLeft N (bytesOf ks L) 0, by omega, by omega, rfl, rfl, by go_num, hide ⟨HRN.out.symm, by rw [List.append_nil]; exact HRN.out.symm, fun _ _ => ⟨rfl, rfl, rfl, by rw [diskLeft_none]⟩⟩, hide ⟨HLL.out.1, by have := HLL.out.2.1; omega, by rw [List.append_nil]; have := HLL.out.2.1; omega, fun r hr => HLL.out.2.2 r (by simpa using hr), crashes_left ks N 0 _ _ HLL.out.1, by rw [left_pend]; omega⟩, hide ⟨HR10.out, by rw [List.append_nil]; exact HR10.out⟩, hide (HJ10.out.mono (fun x hx => by rcases List.mem_append.1 hx with h | h <;> exact List.mem_append_right _ h))⟩
          case measure => simp [intOf] <;> omega
        case inr.inr =>
          omega
      clear hgw
      obtain ⟨cn, hcn⟩ : ∃ x, (pickN ct 3).toNat + 1 = x := ⟨_, rfl⟩
      have hcb := pickN_lt ct (n := 3) (by omega)
      have HPK := hide (fun W => pick_any ct 3 W HCT.out (by omega) (by omega))
      obtain ⟨pk, hpk⟩ : ∃ x, pickN ct 3 = x := ⟨_, rfl⟩
      rw [hpk] at HPK hcb hcn
      have hcw : IntKind.i64.wrap (1 + pk) = (cn : Int) := by rw [Go.IntWalk.i64_in _ (by omega)]; omega
      have hc0 : cn ≠ 0 := by omega
      have hc3 : cn ≤ 3 := by omega
      clear hpk hcn hcb
      have HCU := hide (jcut_in (cn : Int) HJ8.out (by omega))
      rw [← diskLeft_none, cut_left N 0 cn _ hc0] at HCU
      have hgw : IntKind.i64.wrap ((gn : Int) - 1) = (gn : Int) - 1 := Go.IntWalk.i64_in _ (by omega)
      by_cases hl0 : k + 1 = gn
      case pos =>
        have hl1 : ((k : Int) == (gn : Int) - 1) = true := by simp; omega
        go_wp2_with fail
        refine (HPK.out w8).mono ?_
        rintro e w' ⟨rfl, rfl⟩
        go_wp2_with fail
        refine HCU.out.mono ?_
        rintro e wc ⟨rfl, hj, hsm⟩
        have HJA := hide hj
        have HRA := hide (own_same HR8.out (hsm.mono (fun x hx => List.mem_append_right _ hx)))
        have HWA := hide (own_same HW8.out (hsm.mono (fun x hx => List.mem_append_left _ hx)))
        have hc8 : wc.cell? ⟨gb, go + k, none⟩ = some (.slice xa xn xc) := (hj.below.cell (p := ⟨gb, go + k, none⟩) HCL.out).trans HCC.out
        clear hj hsm HCU HJ8 HR8 HW8 HC8 HPK
        go_wp2_with fail
        refine (HF.out wc HJA.out.below).mono ?_
        rintro e w9 ⟨fa, fc, rfl, ho, u⟩
        try simp only
        have HJ9 := hide (HJA.out.step u (by simp))
        have HR9 := hide (own_kept HRA.out u (by simp))
        have HW9 := hide (own_kept HWA.out u (by simp))
        have hst := strs_own ho
        rw [HBL.out] at hst
        clear ho u HJA HRA HWA HF
        have HA := hide (append_in fa fn fc bl HL.out HJ9.out HBN.out (by omega) hst (fun s hs => by have := HBS.out s hs; omega) (by rw [left_pend]; omega) (by rw [left_size _ _ _ (by rw [bytesOf_length]; exact HLL.out.1), tapeOf_size, bytesOf_length]; exact HLL.out.1) (by rw [tapeOf_head]; decide) (by rw [tapeOf_recs]; have := HLL.out.2.1; omega))
        clear hst HJ9
        have h65 : ∀ s ∈ bl, s.size ≤ 65536 := fun s hs => by have := HBS.out s hs; omega
        rcases append_cases ks N cn L bl h65 HLL.out.1 with ⟨m', hap, hm', hlen⟩ | hap | ⟨D', hap, d1, d2, d3, d4, d5⟩
        case inl =>
          rw [hap] at HA
          clear hap h65
          go_wp2_with fail
          refine HA.out.mono ?_
          rintro e w10 ⟨rfl, hj, hsm⟩
          have HJ10 := hide hj
          have HR10 := hide (own_same HR9.out (hsm.mono (fun x hx => List.mem_append_right _ hx)))
          have HW10 := hide (own_same HW9.out (hsm.mono (fun x hx => List.mem_append_left _ hx)))
          clear hj hsm HA HR9 HW9
          go_wp2_with fail
          go_roundw
          case rel =>
            rw [HBB.out] at HJ10 hlen
            refine ⟨k + 1, L ++ fl, [], A8, A8, c8, c8, rn + fn, rn + fn, tapeOf ks (L ++ fl), false, diskLeft N (bytesOf ks (L ++ fl)) m', by omega, by omega, rfl, rfl, by go_num, hide ⟨by rw [List.length_append, HRN.out, HFN.out], by rw [List.append_nil, List.length_append, HRN.out, HFN.out], fun h1 h2 => by omega⟩, hide ⟨hlen, by rw [List.length_append, HFN.out]; have := HLL.out.2.1; omega, by rw [List.append_nil, List.length_append, HFN.out]; have := HLL.out.2.1; omega, ?_, crashes_left ks N m' _ _ hlen, by rw [left_pend]; omega⟩, hide ⟨HW10.out, by rw [List.append_nil]; exact HW10.out⟩, hide (HJ10.out.mono (fun x hx => by rcases List.mem_append.1 hx with h | h <;> exact List.mem_append_left _ h))⟩
            rw [List.append_nil]
            exact fun r hr => by
              rcases List.mem_append.1 hr with hr | hr
              · exact HLL.out.2.2 r hr
              · exact HF1.out r hr
          case measure => simp [intOf] <;> omega
        case inr.inl =>
          rw [hap] at HA
          clear hap h65
          go_wp2_with fail
          refine HA.out.mono ?_
          rintro e w10 ⟨rfl, hj, hsm⟩
          have HJ10 := hide hj
          have HR10 := hide (own_same HR9.out (hsm.mono (fun x hx => List.mem_append_right _ hx)))
          have HW10 := hide (own_same HW9.out (hsm.mono (fun x hx => List.mem_append_left _ hx)))
          clear hj hsm HA HR9 HW9
          go_wp2_with fail
          go_roundw
          case rel =>
            exact ⟨k + 1, L, [], ra, ra, rc, rc, rn, rn, tapeOf ks L, false, diskLeft N (bytesOf ks L) cn, by omega, by omega, rfl, rfl, by go_num, hide ⟨HRN.out.symm, by rw [List.append_nil]; exact HRN.out.symm, fun h1 h2 => by omega⟩, hide ⟨HLL.out.1, by have := HLL.out.2.1; omega, by rw [List.append_nil]; have := HLL.out.2.1; omega, fun r hr => HLL.out.2.2 r (by simpa using hr), crashes_left ks N cn _ _ HLL.out.1, by rw [left_pend]; omega⟩, hide ⟨HR10.out, by rw [List.append_nil]; exact HR10.out⟩, hide (HJ10.out.mono (fun x hx => by rcases List.mem_append.1 hx with h | h <;> exact List.mem_append_right _ h))⟩
          case measure => simp [intOf] <;> omega
        case inr.inr =>
          rw [hap] at HA
          clear hap h65
          go_wp2_with fail
          refine HA.out.mono ?_
          rintro e w10 ⟨rfl, hj, hsm⟩
          have HJ10 := hide hj
          have HR10 := hide (own_same HR9.out (hsm.mono (fun x hx => List.mem_append_right _ hx)))
          have HW10 := hide (own_same HW9.out (hsm.mono (fun x hx => List.mem_append_left _ hx)))
          clear hj hsm HA HR9 HW9
          go_wp2_with fail
          go_roundw
          case rel =>
            rw [HBB.out] at d4
            exact ⟨k + 1, L, fl, ra, A8, rc, c8, rn, rn + fn, tapeOf ks L, true, D', by omega, by omega, rfl, rfl, by go_num, hide ⟨HRN.out.symm, by rw [List.length_append, HRN.out, HFN.out], fun h1 h2 => by omega⟩, hide ⟨HLL.out.1, by have := HLL.out.2.1; omega, by rw [List.length_append, HFN.out]; have := HLL.out.2.1; omega, fun r hr => by
                rcases List.mem_append.1 hr with hr | hr
                · exact HLL.out.2.2 r hr
                · exact HF1.out r hr, d4, d3⟩, hide ⟨HR10.out, HW10.out⟩, hide (HJ10.out.mono (fun x hx => by rcases List.mem_append.1 hx with h | h; exact List.mem_append_right _ h; exact List.mem_append_left _ h))⟩
          case measure => simp [intOf] <;> omega
      have hl1 : ((k : Int) == (gn : Int) - 1) = false := by simp; omega
      have hl2 : ((k : Int) == 7) = true := by simp; omega
      go_wp2_with fail
      refine (HPK.out w8).mono ?_
      rintro e w' ⟨rfl, rfl⟩
      go_wp2_with fail
      refine HCU.out.mono ?_
      rintro e wc ⟨rfl, hj, hsm⟩
      have HJA := hide hj
      have HRA := hide (own_same HR8.out (hsm.mono (fun x hx => List.mem_append_right _ hx)))
      have HWA := hide (own_same HW8.out (hsm.mono (fun x hx => List.mem_append_left _ hx)))
      have hc8 : wc.cell? ⟨gb, go + k, none⟩ = some (.slice xa xn xc) := (hj.below.cell (p := ⟨gb, go + k, none⟩) HCL.out).trans HCC.out
      clear hj hsm HCU HJ8 HR8 HW8 HC8 HPK
      go_wp2_with fail
      refine (HF.out wc HJA.out.below).mono ?_
      rintro e w9 ⟨fa, fc, rfl, ho, u⟩
      try simp only
      have HJ9 := hide (HJA.out.step u (by simp))
      have HR9 := hide (own_kept HRA.out u (by simp))
      have HW9 := hide (own_kept HWA.out u (by simp))
      have hst := strs_own ho
      rw [HBL.out] at hst
      clear ho u HJA HRA HWA HF
      have HA := hide (append_in fa fn fc bl HL.out HJ9.out HBN.out (by omega) hst (fun s hs => by have := HBS.out s hs; omega) (by rw [left_pend]; omega) (by rw [left_size _ _ _ (by rw [bytesOf_length]; exact HLL.out.1), tapeOf_size, bytesOf_length]; exact HLL.out.1) (by rw [tapeOf_head]; decide) (by rw [tapeOf_recs]; have := HLL.out.2.1; omega))
      clear hst HJ9
      have h65 : ∀ s ∈ bl, s.size ≤ 65536 := fun s hs => by have := HBS.out s hs; omega
      rcases append_cases ks N cn L bl h65 HLL.out.1 with ⟨m', hap, hm', hlen⟩ | hap | ⟨D', hap, d1, d2, d3, d4, d5⟩
      case inl =>
        rw [hap] at HA
        clear hap h65
        go_wp2_with fail
        refine HA.out.mono ?_
        rintro e w10 ⟨rfl, hj, hsm⟩
        have HJ10 := hide hj
        have HR10 := hide (own_same HR9.out (hsm.mono (fun x hx => List.mem_append_right _ hx)))
        have HW10 := hide (own_same HW9.out (hsm.mono (fun x hx => List.mem_append_left _ hx)))
        clear hj hsm HA HR9 HW9
        go_wp2_with fail
        go_roundw
        case rel =>
          rw [HBB.out] at HJ10 hlen
          refine ⟨k + 1, L ++ fl, [], A8, A8, c8, c8, rn + fn, rn + fn, tapeOf ks (L ++ fl), false, diskLeft N (bytesOf ks (L ++ fl)) m', by omega, by omega, rfl, rfl, by go_num, hide ⟨by rw [List.length_append, HRN.out, HFN.out], by rw [List.append_nil, List.length_append, HRN.out, HFN.out], fun h1 h2 => by omega⟩, hide ⟨hlen, by rw [List.length_append, HFN.out]; have := HLL.out.2.1; omega, by rw [List.append_nil, List.length_append, HFN.out]; have := HLL.out.2.1; omega, ?_, crashes_left ks N m' _ _ hlen, by rw [left_pend]; omega⟩, hide ⟨HW10.out, by rw [List.append_nil]; exact HW10.out⟩, hide (HJ10.out.mono (fun x hx => by rcases List.mem_append.1 hx with h | h <;> exact List.mem_append_left _ h))⟩
          rw [List.append_nil]
          exact fun r hr => by
            rcases List.mem_append.1 hr with hr | hr
            · exact HLL.out.2.2 r hr
            · exact HF1.out r hr
        case measure => simp [intOf] <;> omega
      case inr.inl =>
        rw [hap] at HA
        clear hap h65
        go_wp2_with fail
        refine HA.out.mono ?_
        rintro e w10 ⟨rfl, hj, hsm⟩
        have HJ10 := hide hj
        have HR10 := hide (own_same HR9.out (hsm.mono (fun x hx => List.mem_append_right _ hx)))
        have HW10 := hide (own_same HW9.out (hsm.mono (fun x hx => List.mem_append_left _ hx)))
        clear hj hsm HA HR9 HW9
        go_wp2_with fail
        go_roundw
        case rel =>
          exact ⟨k + 1, L, [], ra, ra, rc, rc, rn, rn, tapeOf ks L, false, diskLeft N (bytesOf ks L) cn, by omega, by omega, rfl, rfl, by go_num, hide ⟨HRN.out.symm, by rw [List.append_nil]; exact HRN.out.symm, fun h1 h2 => by omega⟩, hide ⟨HLL.out.1, by have := HLL.out.2.1; omega, by rw [List.append_nil]; have := HLL.out.2.1; omega, fun r hr => HLL.out.2.2 r (by simpa using hr), crashes_left ks N cn _ _ HLL.out.1, by rw [left_pend]; omega⟩, hide ⟨HR10.out, by rw [List.append_nil]; exact HR10.out⟩, hide (HJ10.out.mono (fun x hx => by rcases List.mem_append.1 hx with h | h <;> exact List.mem_append_right _ h))⟩
        case measure => simp [intOf] <;> omega
      case inr.inr =>
        rw [hap] at HA
        clear hap h65
        go_wp2_with fail
        refine HA.out.mono ?_
        rintro e w10 ⟨rfl, hj, hsm⟩
        have HJ10 := hide hj
        have HR10 := hide (own_same HR9.out (hsm.mono (fun x hx => List.mem_append_right _ hx)))
        have HW10 := hide (own_same HW9.out (hsm.mono (fun x hx => List.mem_append_left _ hx)))
        clear hj hsm HA HR9 HW9
        go_wp2_with fail
        go_roundw
        case rel =>
          rw [HBB.out] at d4
          exact ⟨k + 1, L, fl, ra, A8, rc, c8, rn, rn + fn, tapeOf ks L, true, D', by omega, by omega, rfl, rfl, by go_num, hide ⟨HRN.out.symm, by rw [List.length_append, HRN.out, HFN.out], fun h1 h2 => by omega⟩, hide ⟨HLL.out.1, by have := HLL.out.2.1; omega, by rw [List.length_append, HFN.out]; have := HLL.out.2.1; omega, fun r hr => by
              rcases List.mem_append.1 hr with hr | hr
              · exact HLL.out.2.2 r hr
              · exact HF1.out r hr, d4, d3⟩, hide ⟨HR10.out, HW10.out⟩, hide (HJ10.out.mono (fun x hx => by rcases List.mem_append.1 hx with h | h; exact List.mem_append_right _ h; exact List.mem_append_left _ h))⟩
        case measure => simp [intOf] <;> omega
    have hgm := HG.out.mx
    have hend : (¬ (k : Int) < gn) ∨ ((k : Int) < gn ∧ ¬ (k : Int) < 8) := by omega
    clear hin hk
    obtain ⟨_, _, _, hd, _⟩ := hJ.out.disk
    have HD := hide (hd.mono (X' := (A1.map (·.block)).toList ++ (A2.map (·.block)).toList) (fun x hx => List.mem_append_right _ hx))
    clear hd hJ
    have HO1 := hide hO.out.1
    have HO2 := hide hO.out.2
    clear hO
    obtain ⟨q, hq⟩ : ∃ q : Nat, min kn 20 = q := ⟨_, rfl⟩
    have hmn : min (kn : Int) 20 = (q : Int) := by omega
    have hqc : (q : Int) ≤ kc := by have := HK.out.2.1; omega
    have hqn : q ≤ kn := by omega
    have hq20 : q ≤ 20 := by omega
    have hknm : (kn : Int) ≤ 9223372036854775807 := by have h1 := HK.out.2.1; have h2 := HK.out.2.2.1; unfold maxLen at h2; omega
    have HCR := hide (crash_in (.slice ka q kc) (kz.take q) tn HD.out (by have := hI.out.2.2.2.2.2; omega) (by rw [List.length_take]; omega) ((HK.out.first q hqn kc).later HD.out.below HD.out.room))
    obtain ⟨L', hL', hop, hpe, hlN⟩ := crashes_open hI.out.2.2.2.2.1 (fun r hr => by have := hI.out.2.2.2.1 r hr; omega) (kz.take q) tn
    have hLl : L'.length ≤ 6 * 8 + 6 := by
      have h1 := hI.out.2.1
      have h2 := hI.out.2.2.1
      rcases hL' with rfl | rfl <;> omega
    have HOP := hide hop
    have HPE := hide hpe
    clear hop hpe hq hqn hlN
    obtain ⟨D', hD'⟩ : ∃ x, D.crash (kz.take q) tn = x := ⟨_, rfl⟩
    rw [hD'] at HOP HPE HCR
    clear hD'
    have hn1 := hN.out.1
    have hn2 := hN.out.2.1
    have hn1b : n1 ≤ 54 := by have := hI.out.2.1; omega
    have hn2b : n2 ≤ 54 := by have := hI.out.2.2.1; omega
    obtain ⟨M, hM⟩ : ∃ x, L ++ G = x := ⟨_, rfl⟩
    rw [hM] at HO2 hn2 hL'
    have HN1 := hide hn1.symm
    have HN2 := hide hn2.symm
    clear hN hI hn1 hn2 hM hk8
    obtain ⟨rn, hrn⟩ : ∃ x, L'.length = x := ⟨_, rfl⟩
    rw [hrn] at hLl
    have HRN := hide hrn
    clear hrn
    rcases hend with hki | ⟨hki, hk8i⟩
    case inr =>
      go_wp2_with fail
      refine HCR.out.mono ?_
      rintro e w5 ⟨rfl, hd, hsm⟩
      have HD5 := hide hd
      have HO15 := hide (own_same HO1.out (hsm.mono (fun x hx => List.mem_append_left _ hx)))
      have HO25 := hide (own_same HO2.out (hsm.mono (fun x hx => List.mem_append_right _ hx)))
      clear hd hsm HCR HD HO1 HO2 hmn hqc hknm
      have C1 := open_in HL.out HD5.out (by rw [HPE.out]; omega)
      rw [HOP.out] at C1
      have HC := hide C1
      clear C1 HD5
      go_wp2_with fail
      refine HC.out.mono ?_
      rintro e w6 ⟨hsm, hj⟩
      try simp only at hj
      obtain ⟨jc, rfl, hj⟩ := hj
      have HJ6 := hide hj
      have HO16 := hide (own_same HO15.out (hsm.mono (fun x hx => List.mem_append_left _ hx)))
      have HO26 := hide (own_same HO25.out (hsm.mono (fun x hx => List.mem_append_right _ hx)))
      clear hj hsm HC HO15 HO25
      have HR := hide (records_in HJ6.out (by rw [tapeOf_recs, HRN.out]; omega))
      rw [tapeOf_recs, HRN.out] at HR
      go_wp2_with fail
      refine HR.out.mono ?_
      rintro e w7 ⟨sa, sc, rfl, ho, u⟩
      have HJ7 := hide (HJ6.out.step u (by simp))
      have HO17 := hide (own_kept HO16.out u (by simp))
      have HO27 := hide (own_kept HO26.out u (by simp))
      have HS7 := hide ho
      clear u ho HR HJ6 HO16 HO26
      have HS := hide (same_any sa rn sc _ A1 n1 c1 _ w7 (by rw [List.length_map]; exact HRN.out) (by rw [List.length_map]; exact HN1.out) (by omega) (by omega) (strs_own HS7.out) (strs_own HO17.out))
      by_cases hLL : L' = L
      case pos =>
        rw [hLL, show decide ((L.map fun r => (⟨r.toArray⟩ : ByteArray)) = (L.map fun r => (⟨r.toArray⟩ : ByteArray))) = true from decide_eq_true rfl] at HS
        go_wp2_with fail
        refine HS.out.mono ?_
        rintro e w8 ⟨rfl, u⟩
        have HJ8 := hide (HJ7.out.step u (by simp))
        clear u HS HJ7 HO17 HO27 HS7
        go_wp2_with fail
        go_ret
        exact ⟨rfl, HJ8.out.below⟩
      obtain rfl : L' = M := hL'.resolve_left hLL
      rw [show decide ((L'.map fun r => (⟨r.toArray⟩ : ByteArray)) = (L.map fun r => (⟨r.toArray⟩ : ByteArray))) = false from decide_eq_false (fun h => hLL (strs_inj h))] at HS
      go_wp2_with fail
      refine HS.out.mono ?_
      rintro e w8 ⟨rfl, u⟩
      have HJ8 := hide (HJ7.out.step u (by simp))
      have HO28 := hide (own_kept HO27.out u (by simp))
      clear u HS HJ7 HO17 HO27 HS7
      have HR := hide (records_in HJ8.out (by rw [tapeOf_recs, HRN.out]; omega))
      rw [tapeOf_recs, HRN.out] at HR
      go_wp2_with fail
      refine HR.out.mono ?_
      rintro e w9 ⟨ta, tc, rfl, ho, u⟩
      have HJ9 := hide (HJ8.out.step u (by simp))
      have HO29 := hide (own_kept HO28.out u (by simp))
      have HS9 := hide ho
      clear u ho HR HJ8 HO28
      have HS := hide (same_any ta rn tc _ A2 n2 c2 _ w9 (by rw [List.length_map]; exact HRN.out) (by rw [List.length_map]; exact HN2.out) (by omega) (by omega) (strs_own HS9.out) (strs_own HO29.out))
      rw [show decide ((L'.map fun r => (⟨r.toArray⟩ : ByteArray)) = (L'.map fun r => (⟨r.toArray⟩ : ByteArray))) = true from decide_eq_true rfl] at HS
      go_wp2_with fail
      refine HS.out.mono ?_
      rintro e w10 ⟨rfl, u⟩
      have HJ10 := hide (HJ9.out.step u (by simp))
      clear u HS HJ9 HO29 HS9
      go_wp2_with fail
      go_ret
      exact ⟨rfl, HJ10.out.below⟩
    case inl =>
      go_wp2_with fail
      refine HCR.out.mono ?_
      rintro e w5 ⟨rfl, hd, hsm⟩
      have HD5 := hide hd
      have HO15 := hide (own_same HO1.out (hsm.mono (fun x hx => List.mem_append_left _ hx)))
      have HO25 := hide (own_same HO2.out (hsm.mono (fun x hx => List.mem_append_right _ hx)))
      clear hd hsm HCR HD HO1 HO2 hmn hqc hknm
      have C1 := open_in HL.out HD5.out (by rw [HPE.out]; omega)
      rw [HOP.out] at C1
      have HC := hide C1
      clear C1 HD5
      go_wp2_with fail
      refine HC.out.mono ?_
      rintro e w6 ⟨hsm, hj⟩
      try simp only at hj
      obtain ⟨jc, rfl, hj⟩ := hj
      have HJ6 := hide hj
      have HO16 := hide (own_same HO15.out (hsm.mono (fun x hx => List.mem_append_left _ hx)))
      have HO26 := hide (own_same HO25.out (hsm.mono (fun x hx => List.mem_append_right _ hx)))
      clear hj hsm HC HO15 HO25
      have HR := hide (records_in HJ6.out (by rw [tapeOf_recs, HRN.out]; omega))
      rw [tapeOf_recs, HRN.out] at HR
      go_wp2_with fail
      refine HR.out.mono ?_
      rintro e w7 ⟨sa, sc, rfl, ho, u⟩
      have HJ7 := hide (HJ6.out.step u (by simp))
      have HO17 := hide (own_kept HO16.out u (by simp))
      have HO27 := hide (own_kept HO26.out u (by simp))
      have HS7 := hide ho
      clear u ho HR HJ6 HO16 HO26
      have HS := hide (same_any sa rn sc _ A1 n1 c1 _ w7 (by rw [List.length_map]; exact HRN.out) (by rw [List.length_map]; exact HN1.out) (by omega) (by omega) (strs_own HS7.out) (strs_own HO17.out))
      by_cases hLL : L' = L
      case pos =>
        rw [hLL, show decide ((L.map fun r => (⟨r.toArray⟩ : ByteArray)) = (L.map fun r => (⟨r.toArray⟩ : ByteArray))) = true from decide_eq_true rfl] at HS
        go_wp2_with fail
        refine HS.out.mono ?_
        rintro e w8 ⟨rfl, u⟩
        have HJ8 := hide (HJ7.out.step u (by simp))
        clear u HS HJ7 HO17 HO27 HS7
        go_wp2_with fail
        go_ret
        exact ⟨rfl, HJ8.out.below⟩
      obtain rfl : L' = M := hL'.resolve_left hLL
      rw [show decide ((L'.map fun r => (⟨r.toArray⟩ : ByteArray)) = (L.map fun r => (⟨r.toArray⟩ : ByteArray))) = false from decide_eq_false (fun h => hLL (strs_inj h))] at HS
      go_wp2_with fail
      refine HS.out.mono ?_
      rintro e w8 ⟨rfl, u⟩
      have HJ8 := hide (HJ7.out.step u (by simp))
      have HO28 := hide (own_kept HO27.out u (by simp))
      clear u HS HJ7 HO17 HO27 HS7
      have HR := hide (records_in HJ8.out (by rw [tapeOf_recs, HRN.out]; omega))
      rw [tapeOf_recs, HRN.out] at HR
      go_wp2_with fail
      refine HR.out.mono ?_
      rintro e w9 ⟨ta, tc, rfl, ho, u⟩
      have HJ9 := hide (HJ8.out.step u (by simp))
      have HO29 := hide (own_kept HO28.out u (by simp))
      have HS9 := hide ho
      clear u ho HR HJ8 HO28
      have HS := hide (same_any ta rn tc _ A2 n2 c2 _ w9 (by rw [List.length_map]; exact HRN.out) (by rw [List.length_map]; exact HN2.out) (by omega) (by omega) (strs_own HS9.out) (strs_own HO29.out))
      rw [show decide ((L'.map fun r => (⟨r.toArray⟩ : ByteArray)) = (L'.map fun r => (⟨r.toArray⟩ : ByteArray))) = true from decide_eq_true rfl] at HS
      go_wp2_with fail
      refine HS.out.mono ?_
      rintro e w10 ⟨rfl, u⟩
      have HJ10 := hide (HJ9.out.step u (by simp))
      clear u HS HJ9 HO29 HS9
      go_wp2_with fail
      go_ret
      exact ⟨rfl, HJ10.out.below⟩
end Go.Proofs.YtafjolibfbccbaaGreatDoor
