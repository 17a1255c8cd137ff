/-
  airchecklaw34.JournalOpensAnything.
-/
import Derived.Test.YtafjolibfbccbaaGreatDoorZ35JournalOpensAnythingCard
import Derived.Test.YtafjolibfbccbaaGreatDoorZ30JournalOpensAnythingCard

namespace Go.Proofs.YtafjolibfbccbaaGreatDoor
open Go.RowKit
set_option maxRecDepth 100000
set_option maxHeartbeats 8000000

theorem opens_walk0 {a0 : Addr} (n : Int) (s : ByteArray) (la : Option Addr) (ln lc : Nat) (xl : List ByteArray) (at_ cv : Int) (w : World) (hl : Laid w.heap.size refK a0 w) (hn : (Lit.int .i64 n).wf = true) (hss : s.size ≤ maxLen) (hg : StrsArg w la ln lc xl) (hat : (Lit.int .i64 at_).wf = true) (hcw : (Lit.int .u8 cv).wf = true) :
    Calls Tryz.prog 3 #[.int .i64 n, .string s, .slice la ln lc, .int .i64 at_, .int .u8 cv] w fun e w' => e = .returned (.bool true) ∧ Below w.heap.size w w' := by
  have HL := hide hl
  have HAT := hide hat
  have HCW := hide hcw
  have HSS := hide hss
  have hx1 := hg.hcap
  have hx2 := hg.hmax
  have HF := hide (fun (W : World) (hb : Below w.heap.size w W) => few_any la ln lc xl W hg.hlen (hg.at_.later hb) hg.small (by omega))
  have HBG := hide (fun (W : World) (hb : Below w.heap.size w W) => begin_any (ks := refK) rfl n w W HL.out hn hb)
  have hNb := sizeS_in n
  have HZ := hide (fun W => size_law n W hn)
  obtain ⟨N, hN⟩ : ∃ y, sizeS n = y := ⟨_, rfl⟩
  rw [hN] at HZ HBG hNb
  have hlnm : (ln : Int) ≤ 9223372036854775807 := by unfold maxLen at hx2; omega
  clear hn hl hat hcw hss hg hN hx1 hx2
  go_enter Tryz.func3, Tryz.ntmps3
  go_wp2_with fail
  refine (sane_any w HL.out).mono ?_
  rintro e w1 ⟨rfl, hb1⟩
  have HB1 := hide hb1
  clear hb1
  go_wp2_with fail
  refine (HBG.out w1 HB1.out).mono ?_
  rintro e w2 ⟨wb, g, x, P, R, T, rfl, hwb, rfl, ⟨jb, xb, rfl, rfl⟩, hw, hp⟩
  have HWB := hide hwb
  have HW2 := hide hw
  have HP2 := hide hp
  have HD0 := hide (DInv.fresh N)
  have HNC := hide (show NoCut (DiskS.fresh N) from ⟨rfl, rfl⟩)
  have HDS := hide (show (DiskS.fresh N).sure.length = N by simp [DiskS.fresh])
  clear hwb hw hp HB1 HBG
  by_cases hl0 : 0 < ln
  case pos =>
    have hli : (0 : Int) < ln := by omega
    go_upto_region 6 with fail
    obtain ⟨fl, hfl⟩ : ∃ x, fewS xl = x := ⟨_, rfl⟩
    have hf6 : fl.length ≤ 6 := by rw [← hfl]; unfold fewS; rw [List.length_map, List.length_take]; omega
    have hf1 : ∀ r ∈ fl, r.length ≤ 100 := by
      rw [← hfl]; unfold fewS; intro r hr; obtain ⟨s, _, rfl⟩ := List.mem_map.1 hr; rw [List.length_take]; omega
    rw [hfl] at HF
    obtain ⟨bl, hbl⟩ : ∃ x : List ByteArray, (fl.map fun r => (⟨r.toArray⟩ : ByteArray)) = x := ⟨_, rfl⟩
    have hbn : bl.length = fl.length := by rw [← hbl, List.length_map]
    have hbs : ∀ s ∈ bl, s.size ≤ 100 := by
      intro s hs; rw [← hbl] at hs; obtain ⟨r, hr, rfl⟩ := List.mem_map.1 hs; exact (by have := hf1 r hr; simpa [ByteArray.size] using this)
    obtain ⟨fn, hfn⟩ : ∃ x, fl.length = x := ⟨_, rfl⟩
    rw [hfn] at hf6 hbn HF
    have HBL := hide (show (fl.map fun r => (⟨r.toArray⟩ : ByteArray)) = bl from hbl)
    have HBN := hide hbn
    have HBS := hide hbs
    clear hfl hbl hbn hbs hf1 hfn
    refine wp_region_held_drew (S := (fun w' => w'.cell? ⟨wb, 1, none⟩ = some (.pointer (some ⟨jb, 0, none⟩)) ∧ w'.cell? ⟨wb, 3, none⟩ = some (.pointer (some ⟨xb, 0, none⟩)))) (by kernel_rfl) (by exact ⟨HW2.out.cell 1, HW2.out.cell 3⟩) (fun hHeld => ?_)
    obtain ⟨w3, hw⟩ : ∃ y, w2.drew = y := ⟨_, rfl⟩
    have u : Upd [] w2 w3 := by rw [← hw]; exact (Upd.refl [] _).drew
    rw [hw] at hHeld ⊢
    clear hw
    have HW3 := hide (show WBlk w3 wb g x (jptr (some (jb, tape0, false))) (jptr (some (xb, tape0, false))) from keepB HW2.out u)
    have HP3 := hide (HP2.out.step u (by simp))
    clear u HW2 HP2
    refine wpAnyH_take (i := 0) (oi := ?oi0M2) (v := ?v0M2) ?oi0_0M2 (by kernel_rfl) ?ff0M2 ?rr0M2 ?hq0M2 (Or.inl ⟨?hw0M2, ?hy0M2⟩) (by assumption) ?rest0M2
    case oi0_0M2 => conv => lhs; whnf; arg 1; whnf
    case hq0M2 => exact fun _ _ _ h => h
    case ff0M2 | rr0M2 => kernel_rfl
    case hw0M2 => rfl
    case hy0M2 => intro w hSw; (try dsimp only at hSw); first | (go_simp; done) | (go_simp; with_reducible rfl)
    try simp only [Act.put, List.setIfInBounds_toArray, List.set_cons_zero, List.set_cons_succ]
    refine wpAnyH_take (i := 1) (oi := ?oi1M2) (v := ?v1M2) ?oi0_1M2 (by kernel_rfl) ?ff1M2 ?rr1M2 ?hq1M2 (Or.inl ⟨?hw1M2, ?hy1M2⟩) (by assumption) ?rest1M2
    case oi0_1M2 => conv => lhs; whnf; arg 1; whnf
    case hq1M2 => exact fun _ _ _ h => h
    case ff1M2 | rr1M2 => kernel_rfl
    case hw1M2 => rfl
    case hy1M2 => intro w hSw; (try dsimp only at hSw); first | (go_simp; done) | (go_simp; with_reducible rfl)
    try simp only [Act.put, List.setIfInBounds_toArray, List.set_cons_zero, List.set_cons_succ]
    refine wpAnyH_take (i := 2) (oi := ?oi2M2) (v := ?v2M2) ?oi0_2M2 (by kernel_rfl) ?ff2M2 ?rr2M2 ?hq2M2 (Or.inl ⟨?hw2M2, ?hy2M2⟩) (by assumption) ?rest2M2
    case oi0_2M2 => conv => lhs; whnf; arg 1; whnf
    case hq2M2 => exact fun _ _ _ h => h
    case ff2M2 | rr2M2 => kernel_rfl
    case hw2M2 => rfl
    case hy2M2 => intro w hSw; (try dsimp only at hSw); first | (go_simp; done) | (go_simp; with_reducible rfl)
    try simp only [Act.put, List.setIfInBounds_toArray, List.set_cons_zero, List.set_cons_succ]
    refine wpAnyH_take (i := 3) (oi := ?oi3M2) (v := ?v3M2) ?oi0_3M2 (by kernel_rfl) ?ff3M2 ?rr3M2 ?hq3M2 (Or.inl ⟨?hw3M2, ?hy3M2⟩) (by assumption) ?rest3M2
    case oi0_3M2 => conv => lhs; whnf; arg 1; whnf
    case hq3M2 => exact fun _ _ _ h => h
    case ff3M2 | rr3M2 => kernel_rfl
    case hw3M2 => rfl
    case hy3M2 => intro w hSw; (try dsimp only at hSw); first | (go_simp; done) | (go_simp; with_reducible rfl)
    try simp only [Act.put, List.setIfInBounds_toArray, List.set_cons_zero, List.set_cons_succ]
    refine wpAnyH_take (i := 4) (oi := ?oi4M2) (v := ?v4M2) ?oi0_4M2 (by kernel_rfl) ?ff4M2 ?rr4M2 ?hq4M2 (Or.inl ⟨?hw4M2, ?hy4M2⟩) (by assumption) ?rest4M2
    case oi0_4M2 => conv => lhs; whnf; arg 1; whnf
    case hq4M2 => exact fun _ _ _ h => h
    case ff4M2 | rr4M2 => kernel_rfl
    case hw4M2 => rfl
    case hy4M2 => intro w hSw; (try dsimp only at hSw); first | (go_simp; done) | (go_simp; with_reducible rfl)
    try simp only [Act.put, List.setIfInBounds_toArray, List.set_cons_zero, List.set_cons_succ]
    refine wpAnyH_take (i := 5) (oi := ?oi5M2) (v := ?v5M2) ?oi0_5M2 (by kernel_rfl) ?ff5M2 ?rr5M2 ?hq5M2 (Or.inl ⟨?hw5M2, ?hy5M2⟩) (by assumption) ?rest5M2
    case oi0_5M2 => conv => lhs; whnf; arg 1; whnf
    case hq5M2 => exact fun _ _ _ h => h
    case ff5M2 | rr5M2 => kernel_rfl
    case hw5M2 => rfl
    case hy5M2 => intro w hSw; (try dsimp only at hSw); first | (go_simp; done) | (go_simp; with_reducible rfl)
    try simp only [Act.put, List.setIfInBounds_toArray, List.set_cons_zero, List.set_cons_succ]
    refine wpAnyH_take (i := 6) (oi := ?oi6M2) (v := ?v6M2) ?oi0_6M2 (by kernel_rfl) ?ff6M2 ?rr6M2 ?hq6M2 (Or.inl ⟨?hw6M2, ?hy6M2⟩) (by assumption) ?rest6M2
    case oi0_6M2 => conv => lhs; whnf; arg 1; whnf
    case hq6M2 => exact fun _ _ _ h => h
    case ff6M2 | rr6M2 => kernel_rfl
    case hw6M2 => rfl
    case hy6M2 => intro w hSw; (try dsimp only at hSw); first | (go_simp; done) | (go_simp; with_reducible rfl)
    try simp only [Act.put, List.setIfInBounds_toArray, List.set_cons_zero, List.set_cons_succ]
    refine wpAnyH_take (i := 7) (oi := ?oi7M2) (v := ?v7M2) ?oi0_7M2 (by kernel_rfl) ?ff7M2 ?rr7M2 ?hq7M2 (Or.inl ⟨?hw7M2, ?hy7M2⟩) (by assumption) ?rest7M2
    case oi0_7M2 => conv => lhs; whnf; arg 1; whnf
    case hq7M2 => exact fun _ _ _ h => h
    case ff7M2 | rr7M2 => kernel_rfl
    case hw7M2 => rfl
    case hy7M2 => intro w hSw; (try dsimp only at hSw); first | (go_simp; done) | (go_simp; with_reducible rfl)
    try simp only [Act.put, List.setIfInBounds_toArray, List.set_cons_zero, List.set_cons_succ]
    refine wpAnyH_take (i := 8) (oi := ?oi8M2) (v := ?v8M2) ?oi0_8M2 (by kernel_rfl) ?ff8M2 ?rr8M2 ?hq8M2 (Or.inl ⟨?hw8M2, ?hy8M2⟩) (by assumption) ?rest8M2
    case oi0_8M2 => conv => lhs; whnf; arg 1; whnf
    case hq8M2 => exact fun _ _ _ h => h
    case ff8M2 | rr8M2 => kernel_rfl
    case hw8M2 => rfl
    case hy8M2 => intro w hSw; (try dsimp only at hSw); first | (go_simp; done) | (go_simp; with_reducible rfl)
    try simp only [Act.put, List.setIfInBounds_toArray, List.set_cons_zero, List.set_cons_succ]
    refine wpAnyH_take (i := 9) (oi := ?oi9M2) (v := ?v9M2) ?oi0_9M2 (by kernel_rfl) ?ff9M2 ?rr9M2 ?hq9M2 (Or.inl ⟨?hw9M2, ?hy9M2⟩) (by assumption) ?rest9M2
    case oi0_9M2 => conv => lhs; whnf; arg 1; whnf
    case hq9M2 => exact fun _ _ _ h => h
    case ff9M2 | rr9M2 => kernel_rfl
    case hw9M2 => rfl
    case hy9M2 => intro w hSw; (try dsimp only at hSw); first | (go_simp; done) | (go_simp; with_reducible rfl)
    try simp only [Act.put, List.setIfInBounds_toArray, List.set_cons_zero, List.set_cons_succ]
    refine wpAnyH_take (i := 10) (oi := ?oi10M2) (v := ?v10M2) ?oi0_10M2 (by kernel_rfl) ?ff10M2 ?rr10M2 ?hq10M2 (Or.inl ⟨?hw10M2, ?hy10M2⟩) (by assumption) ?rest10M2
    case oi0_10M2 => conv => lhs; whnf; arg 1; whnf
    case hq10M2 => exact fun _ _ _ h => h
    case ff10M2 | rr10M2 => kernel_rfl
    case hw10M2 => rfl
    case hy10M2 => intro w hSw; (try dsimp only at hSw); first | (go_simp; done) | (go_simp; with_reducible rfl)
    try simp only [Act.put, List.setIfInBounds_toArray, List.set_cons_zero, List.set_cons_succ]
    refine wpAnyH_take (i := 13) (oi := ?oi13M3) (v := ?v13M3) ?oi0_13M3 (by kernel_rfl) ?ff13M3 ?rr13M3 ?hq13M3 (Or.inl ⟨?hw13M3, ?hy13M3⟩) (by assumption) ?rest13M3
    case oi0_13M3 => conv => lhs; whnf; arg 1; whnf
    case hq13M3 => exact fun _ _ _ h => h
    case ff13M3 | rr13M3 => kernel_rfl
    case hw13M3 => rfl
    case hy13M3 => intro w hSw; (try dsimp only at hSw); first | (go_simp; done) | (go_simp; with_reducible rfl)
    try simp only [Act.put, List.setIfInBounds_toArray, List.set_cons_zero, List.set_cons_succ]
    refine wpAnyH_take (i := 14) (oi := ?oi14M3) (v := ?v14M3) ?oi0_14M3 (by kernel_rfl) ?ff14M3 ?rr14M3 ?hq14M3 (Or.inl ⟨?hw14M3, ?hy14M3⟩) (by assumption) ?rest14M3
    case oi0_14M3 => conv => lhs; whnf; arg 1; whnf
    case hq14M3 => exact fun _ _ _ h => h
    case ff14M3 | rr14M3 => kernel_rfl
    case hw14M3 => rfl
    case hy14M3 => intro w hSw; (try dsimp only at hSw); first | (go_simp; done) | (go_simp; with_reducible rfl)
    try simp only [Act.put, List.setIfInBounds_toArray, List.set_cons_zero, List.set_cons_succ]
    refine wpAnyH_take (i := 15) (oi := ?oi15M3) (v := ?v15M3) ?oi0_15M3 (by kernel_rfl) ?ff15M3 ?rr15M3 ?hq15M3 (Or.inl ⟨?hw15M3, ?hy15M3⟩) (by assumption) ?rest15M3
    case oi0_15M3 => conv => lhs; whnf; arg 1; whnf
    case hq15M3 => exact fun _ _ _ h => h
    case ff15M3 | rr15M3 => kernel_rfl
    case hw15M3 => rfl
    case hy15M3 => intro w hSw; (try dsimp only at hSw); first | (go_simp; done) | (go_simp; with_reducible rfl)
    try simp only [Act.put, List.setIfInBounds_toArray, List.set_cons_zero, List.set_cons_succ]
    refine wpAnyH_take (i := 16) (oi := ?oi16M3) (v := ?v16M3) ?oi0_16M3 (by kernel_rfl) ?ff16M3 ?rr16M3 ?hq16M3 (Or.inl ⟨?hw16M3, ?hy16M3⟩) (by assumption) ?rest16M3
    case oi0_16M3 => conv => lhs; whnf; arg 1; whnf
    case hq16M3 => exact fun _ _ _ h => h
    case ff16M3 | rr16M3 => kernel_rfl
    case hw16M3 => rfl
    case hy16M3 => intro w hSw; (try dsimp only at hSw); first | (go_simp; done) | (go_simp; with_reducible rfl)
    try simp only [Act.put, List.setIfInBounds_toArray, List.set_cons_zero, List.set_cons_succ]
    refine wpAnyH_take (i := 17) (oi := ?oi17M3) (v := ?v17M3) ?oi0_17M3 (by kernel_rfl) ?ff17M3 ?rr17M3 ?hq17M3 (Or.inl ⟨?hw17M3, ?hy17M3⟩) (by assumption) ?rest17M3
    case oi0_17M3 => conv => lhs; whnf; arg 1; whnf
    case hq17M3 => exact fun _ _ _ h => h
    case ff17M3 | rr17M3 => kernel_rfl
    case hw17M3 => rfl
    case hy17M3 => intro w hSw; (try dsimp only at hSw); first | (go_simp; done) | (go_simp; with_reducible rfl)
    try simp only [Act.put, List.setIfInBounds_toArray, List.set_cons_zero, List.set_cons_succ]
    refine wpAnyH_ready (rs := [11]) (by kernel_rfl) (by simp) (AllReadyH.cons (o := ?oiM4) ?oi0_M4 (fun K hK => ?_) AllReadyH.nil)
    case oi0_M4 => conv => lhs; whnf; arg 1; whnf
    go_simp
    refine (HF.out w3 HP3.out.below).mono ?_
    rintro e w4 ⟨fa, fc, rfl, ho, u⟩
    try simp only
    have HW4 := hide (show WBlk w4 wb g x (jptr (some (jb, tape0, false))) (jptr (some (xb, tape0, false))) from keepB HW3.out u)
    have HP4 := hide (HP3.out.more u (by simp) ((fa.map (·.block)).toList) (fun y hy => ⟨it_own_block ho y (by rw [ownBlock_slice]; simpa using hy), it_own_lt ho y (by rw [ownBlock_slice]; simpa using hy)⟩))
    have hst := strs_own ho
    rw [HBL.out] at hst
    have HST := hide hst
    clear ho u hst HW3 HP3
    have hc2 : w4.cell? ⟨wb, 1, none⟩ = some (.pointer (some ⟨jb, 0, none⟩)) ∧ w4.cell? ⟨wb, 3, none⟩ = some (.pointer (some ⟨xb, 0, none⟩)) := ⟨HW4.out.cell 1, HW4.out.cell 3⟩
    (try dsimp only)
    refine hK.out _ _ (by exact hc2) (fun hHeld => ?_)
    clear hK K hc2
    try simp only [Act.put, List.setIfInBounds_toArray, List.set_cons_zero, List.set_cons_succ]
    refine wpAnyH_ready (rs := [12]) (by kernel_rfl) (by simp) (AllReadyH.cons (o := ?oiM5) ?oi0_M5 (fun K hK => ?_) AllReadyH.nil)
    case oi0_M5 => conv => lhs; whnf; arg 1; whnf
    go_simp
    have HIA := hide (append_inv HD0.out TInv.start (Nat.zero_le _) false bl (fun s hs => by have := HBS.out s hs; omega))
    have HNA := hide (HNC.out.append tape0 false bl)
    obtain ⟨T', D', br', er, hap⟩ : ∃ a b c d, appendS refK tape0 (DiskS.fresh N) false bl = (a, b, c, d) := ⟨_, _, _, _, rfl⟩
    have HA := hide (pj_append fa fn fc bl HL.out HP4.out (HD0.out.mono (by omega)) TInv.start (Nat.zero_le _) HBN.out (by omega) HST.out (fun s hs => by have := HBS.out s hs; omega))
    rw [hap] at HA HIA HNA
    have HAP := hide hap
    clear hap HST
    refine HA.out.mono ?_
    rintro e w5 ⟨rfl, hsm, hp⟩
    try simp only
    have HW5 := hide (show WBlk w5 wb g x (jptr (some (jb, tape0, false))) (jptr (some (xb, tape0, false))) from hsm.blk (by simp) HW4.out)
    have HP5 := hide (hp.mono (X' := [wb]) (fun y hy => List.mem_append_right _ hy))
    clear hsm hp HA HW4 HP4
    have hc2 : w5.cell? ⟨wb, 1, none⟩ = some (.pointer (some ⟨jb, 0, none⟩)) ∧ w5.cell? ⟨wb, 3, none⟩ = some (.pointer (some ⟨xb, 0, none⟩)) := ⟨HW5.out.cell 1, HW5.out.cell 3⟩
    (try dsimp only)
    refine hK.out _ _ (by exact hc2) (fun hHeld => ?_)
    clear hK K hc2
    try simp only [Act.put, List.setIfInBounds_toArray, List.set_cons_zero, List.set_cons_succ]
    refine wpAnyH_ready (rs := [18]) (by kernel_rfl) (by simp) (AllReadyH.cons (o := ?oiM6) ?oi0_M6 (fun K hK => ?_) AllReadyH.nil)
    case oi0_M6 => conv => lhs; whnf; arg 1; whnf
    go_simp
    refine (HF.out w5 HP5.out.below).mono ?_
    rintro e w6 ⟨ha, hc, rfl, ho, u⟩
    try simp only
    have HW6 := hide (show WBlk w6 wb g x (jptr (some (jb, tape0, false))) (jptr (some (xb, tape0, false))) from keepB HW5.out u)
    have HP6 := hide (HP5.out.more u (by simp) ((ha.map (·.block)).toList) (fun y hy => ⟨it_own_block ho y (by rw [ownBlock_slice]; simpa using hy), it_own_lt ho y (by rw [ownBlock_slice]; simpa using hy)⟩))
    have hst := strs_own ho
    rw [HBL.out] at hst
    have HST := hide hst
    clear ho u hst HW5 HP5
    have hc2 : w6.cell? ⟨wb, 1, none⟩ = some (.pointer (some ⟨jb, 0, none⟩)) ∧ w6.cell? ⟨wb, 3, none⟩ = some (.pointer (some ⟨xb, 0, none⟩)) := ⟨HW6.out.cell 1, HW6.out.cell 3⟩
    (try dsimp only)
    refine hK.out _ _ (by exact hc2) (fun hHeld => ?_)
    clear hK K hc2
    try simp only [Act.put, List.setIfInBounds_toArray, List.set_cons_zero, List.set_cons_succ]
    refine wpAnyH_ready (rs := [19]) (by kernel_rfl) (by simp) (AllReadyH.cons (o := ?oiM7) ?oi0_M7 (fun K hK => ?_) AllReadyH.nil)
    case oi0_M7 => conv => lhs; whnf; arg 1; whnf
    go_simp
    have HA := hide (pj_rappend ha fn hc bl HP6.out (HD0.out.mono (by omega)) TInv.start (Nat.zero_le _) HBN.out (by omega) HST.out (fun b o e => List.mem_append_left _ (by rw [e]; simp)) (fun s hs => by have := HBS.out s hs; omega))
    rw [HAP.out] at HA
    clear HST
    refine HA.out.mono ?_
    rintro e w7 ⟨rfl, hsm, hp⟩
    try simp only
    have HW7 := hide (show WBlk w7 wb g x (jptr (some (jb, tape0, false))) (jptr (some (xb, tape0, false))) from hsm.blk (by simp) HW6.out)
    have HP7 := hide (hp.mono (X' := [wb]) (fun y hy => List.mem_append_right _ hy))
    clear hsm hp HA HW6 HP6
    have hc2 : w7.cell? ⟨wb, 1, none⟩ = some (.pointer (some ⟨jb, 0, none⟩)) ∧ w7.cell? ⟨wb, 3, none⟩ = some (.pointer (some ⟨xb, 0, none⟩)) := ⟨HW7.out.cell 1, HW7.out.cell 3⟩
    (try dsimp only)
    refine hK.out _ _ (by exact hc2) (fun hHeld => ?_)
    clear hK K hc2
    try simp only [Act.put, List.setIfInBounds_toArray, List.set_cons_zero, List.set_cons_succ]
    have hee : ¬ ((er : Int) != er) = true := by simp
    refine wpAnyH_take (i := 20) (oi := ?oi20M8) (v := ?v20M8) ?oi0_20M8 (by kernel_rfl) ?ff20M8 ?rr20M8 ?hq20M8 (Or.inl ⟨?hw20M8, ?hy20M8⟩) (by assumption) ?rest20M8
    case oi0_20M8 => conv => lhs; whnf; arg 1; whnf
    case hq20M8 => exact fun _ _ _ h => h
    case ff20M8 | rr20M8 => kernel_rfl
    case hw20M8 => rfl
    case hy20M8 => intro w hSw; (try dsimp only at hSw); first | (go_simp; done) | (go_simp; with_reducible rfl)
    try simp only [Act.put, List.setIfInBounds_toArray, List.set_cons_zero, List.set_cons_succ]
    refine wpAnyH_take (i := 21) (oi := ?oi21M8) (v := ?v21M8) ?oi0_21M8 (by kernel_rfl) ?ff21M8 ?rr21M8 ?hq21M8 (Or.inl ⟨?hw21M8, ?hy21M8⟩) (by assumption) ?rest21M8
    case oi0_21M8 => conv => lhs; whnf; arg 1; whnf
    case hq21M8 => exact fun _ _ _ h => h
    case ff21M8 | rr21M8 => kernel_rfl
    case hw21M8 => rfl
    case hy21M8 => intro w hSw; (try dsimp only at hSw); first | (go_simp; done) | (go_simp; with_reducible rfl)
    try simp only [Act.put, List.setIfInBounds_toArray, List.set_cons_zero, List.set_cons_succ]
    refine wpAnyH_done (by kernel_rfl) ?_ _
    clear hHeld
    go_upto_region 8 with fail
    have hpk := pickN_lt at_ (n := (N : Int)) (by omega)
    have HPK := hide (fun W => pick_any at_ (N : Int) W HAT.out (by omega) (by omega))
    obtain ⟨pk, hpe⟩ : ∃ x, pickN at_ (N : Int) = x := ⟨_, rfl⟩
    rw [hpe] at HPK
    clear hpe hpk
    have hcb : 0 ≤ cv ∧ cv ≤ 255 := bounds_u8 HCW.out
    obtain ⟨c8, hc8⟩ : ∃ c : UInt8, (c.toNat : Int) = cv := ⟨UInt8.ofNat cv.toNat, by rw [UInt8.toNat_ofNat']; omega⟩
    have HC8 := hide hc8
    clear hc8 hcb
    have HI7 := hide (show DInv 4 D' from HIA.out.1.mono (by omega))
    have HD8 := hide (HI7.out.write pk [c8])
    have HN8 := hide (show NoCut (D'.write pk [c8]).1 from NoCut.write (show NoCut D' from HNA.out) pk [c8])
    obtain ⟨E, er2, hwr⟩ : ∃ a b, D'.write pk [c8] = (a, b) := ⟨_, _, rfl⟩
    rw [hwr] at HD8 HN8
    have HWR := hide hwr
    clear hwr
    go_cut [] from 48 to 59 (fun wx => Hid (WBlk wx wb g x (jptr (some (jb, tape0, false))) (jptr (some (xb, tape0, false)))) ∧ Hid (PJ w.heap.size [wb] w wx g (some (jb, T', br')) E x (some (xb, T', br')) D'))
    case first =>
      refine wp_region_held_drew (S := (fun w' => w'.cell? ⟨wb, 0, none⟩ = some (.pointer (some ⟨g, 0, none⟩)))) (by kernel_rfl) (by exact HW7.out.cell 0) (fun hHeld => ?_)
      obtain ⟨w8, hw⟩ : ∃ y, w7.drew = y := ⟨_, rfl⟩
      have u : Upd [] w7 w8 := by rw [← hw]; exact (Upd.refl [] _).drew
      rw [hw] at hHeld ⊢
      clear hw
      have HW8 := hide (show WBlk w8 wb g x (jptr (some (jb, tape0, false))) (jptr (some (xb, tape0, false))) from keepB HW7.out u)
      have HP8 := hide (HP7.out.step u (by simp))
      clear u HW7 HP7
      refine wpAnyH_take (i := 0) (oi := ?oi0M11) (v := ?v0M11) ?oi0_0M11 (by kernel_rfl) ?ff0M11 ?rr0M11 ?hq0M11 (Or.inl ⟨?hw0M11, ?hy0M11⟩) (by assumption) ?rest0M11
      case oi0_0M11 => conv => lhs; whnf; arg 1; whnf
      case hq0M11 => exact fun _ _ _ h => h
      case ff0M11 | rr0M11 => kernel_rfl
      case hw0M11 => rfl
      case hy0M11 => intro w hSw; (try dsimp only at hSw); first | (go_simp; done) | (go_simp; with_reducible rfl)
      try simp only [Act.put, List.setIfInBounds_toArray, List.set_cons_zero, List.set_cons_succ]
      refine wpAnyH_take (i := 1) (oi := ?oi1M11) (v := ?v1M11) ?oi0_1M11 (by kernel_rfl) ?ff1M11 ?rr1M11 ?hq1M11 (Or.inl ⟨?hw1M11, ?hy1M11⟩) (by assumption) ?rest1M11
      case oi0_1M11 => conv => lhs; whnf; arg 1; whnf
      case hq1M11 => exact fun _ _ _ h => h
      case ff1M11 | rr1M11 => kernel_rfl
      case hw1M11 => rfl
      case hy1M11 => intro w hSw; (try dsimp only at hSw); first | (go_simp; done) | (go_simp; with_reducible rfl)
      try simp only [Act.put, List.setIfInBounds_toArray, List.set_cons_zero, List.set_cons_succ]
      refine wpAnyH_take (i := 2) (oi := ?oi2M11) (v := ?v2M11) ?oi0_2M11 (by kernel_rfl) ?ff2M11 ?rr2M11 ?hq2M11 (Or.inl ⟨?hw2M11, ?hy2M11⟩) (by assumption) ?rest2M11
      case oi0_2M11 => conv => lhs; whnf; arg 1; whnf
      case hq2M11 => exact fun _ _ _ h => h
      case ff2M11 | rr2M11 => kernel_rfl
      case hw2M11 => rfl
      case hy2M11 => intro w hSw; (try dsimp only at hSw); first | (go_simp; done) | (go_simp; with_reducible rfl)
      try simp only [Act.put, List.setIfInBounds_toArray, List.set_cons_zero, List.set_cons_succ]
      refine wpAnyH_take (i := 3) (oi := ?oi3M11) (v := ?v3M11) ?oi0_3M11 (by kernel_rfl) ?ff3M11 ?rr3M11 ?hq3M11 (Or.inl ⟨?hw3M11, ?hy3M11⟩) (by assumption) ?rest3M11
      case oi0_3M11 => conv => lhs; whnf; arg 1; whnf
      case hq3M11 => exact fun _ _ _ h => h
      case ff3M11 | rr3M11 => kernel_rfl
      case hw3M11 => rfl
      case hy3M11 => intro w hSw; (try dsimp only at hSw); first | (go_simp; done) | (go_simp; with_reducible rfl)
      try simp only [Act.put, List.setIfInBounds_toArray, List.set_cons_zero, List.set_cons_succ]
      refine wpAnyH_take (i := 4) (oi := ?oi4M11) (v := ?v4M11) ?oi0_4M11 (by kernel_rfl) ?ff4M11 ?rr4M11 ?hq4M11 (Or.inl ⟨?hw4M11, ?hy4M11⟩) (by assumption) ?rest4M11
      case oi0_4M11 => conv => lhs; whnf; arg 1; whnf
      case hq4M11 => exact fun _ _ _ h => h
      case ff4M11 | rr4M11 => kernel_rfl
      case hw4M11 => rfl
      case hy4M11 => intro w hSw; (try dsimp only at hSw); first | (go_simp; done) | (go_simp; with_reducible rfl)
      try simp only [Act.put, List.setIfInBounds_toArray, List.set_cons_zero, List.set_cons_succ]
      refine wpAnyH_take (i := 5) (oi := ?oi5M11) (v := ?v5M11) ?oi0_5M11 (by kernel_rfl) ?ff5M11 ?rr5M11 ?hq5M11 (Or.inl ⟨?hw5M11, ?hy5M11⟩) (by assumption) ?rest5M11
      case oi0_5M11 => conv => lhs; whnf; arg 1; whnf
      case hq5M11 => exact fun _ _ _ h => h
      case ff5M11 | rr5M11 => kernel_rfl
      case hw5M11 => rfl
      case hy5M11 => intro w hSw; (try dsimp only at hSw); first | (go_simp; done) | (go_simp; with_reducible rfl)
      try simp only [Act.put, List.setIfInBounds_toArray, List.set_cons_zero, List.set_cons_succ]
      refine wpAnyH_take (i := 8) (oi := ?oi8M12) (v := ?v8M12) ?oi0_8M12 (by kernel_rfl) ?ff8M12 ?rr8M12 ?hq8M12 (Or.inl ⟨?hw8M12, ?hy8M12⟩) (by assumption) ?rest8M12
      case oi0_8M12 => conv => lhs; whnf; arg 1; whnf
      case hq8M12 => exact fun _ _ _ h => h
      case ff8M12 | rr8M12 => kernel_rfl
      case hw8M12 => rfl
      case hy8M12 => intro w hSw; (try dsimp only at hSw); first | (go_simp; done) | (go_simp; with_reducible rfl)
      try simp only [Act.put, List.setIfInBounds_toArray, List.set_cons_zero, List.set_cons_succ]
      refine wpAnyH_ready (rs := [6, 9]) (by kernel_rfl) (by simp) (AllReadyH.cons (o := ?oiM13x6) ?oi0_M13x6 (fun K hK => ?kkM13x6) (AllReadyH.cons (o := ?oiM13x9) ?oi0_M13x9 (fun K hK => ?kkM13x9) (AllReadyH.nil)))
      case oi0_M13x6 => conv => lhs; whnf; arg 1; whnf
      case oi0_M13x9 => conv => lhs; whnf; arg 1; whnf
      case kkM13x6 =>
        go_simp
        refine (HZ.out w8).mono ?_
        rintro e w' ⟨rfl, rfl⟩
        try simp only
        (try dsimp only)
        refine hK.out _ _ (by exact hHeld) (fun hHeld => ?_)
        clear hK K
        try simp only [Act.put, List.setIfInBounds_toArray, List.set_cons_zero, List.set_cons_succ]
        refine wpAnyH_ready (rs := [7, 9]) (by kernel_rfl) (by simp) (AllReadyH.cons (o := ?oiM14x7) ?oi0_M14x7 (fun K hK => ?kkM14x7) (AllReadyH.cons (o := ?oiM14x9) ?oi0_M14x9 (fun K hK => ?kkM14x9) (AllReadyH.nil)))
        case oi0_M14x7 => conv => lhs; whnf; arg 1; whnf
        case oi0_M14x9 => conv => lhs; whnf; arg 1; whnf
        case kkM14x7 =>
          go_simp
          refine (HPK.out w8).mono ?_
          rintro e w' ⟨rfl, rfl⟩
          try simp only
          (try dsimp only)
          refine hK.out _ _ (by exact hHeld) (fun hHeld => ?_)
          clear hK K
          try simp only [Act.put, List.setIfInBounds_toArray, List.set_cons_zero, List.set_cons_succ]
          refine wpAnyH_ready (rs := [9]) (by kernel_rfl) (by simp) (AllReadyH.cons (o := ?oiM15x9) ?oi0_M15x9 (fun K hK => ?kkM15x9) (AllReadyH.nil))
          case oi0_M15x9 => conv => lhs; whnf; arg 1; whnf
          case kkM15x9 =>
            go_simp
            have hbk : Blk (w8.alloc (.cells #[.int .u8 cv] 5)) w8.heap.size 5 (bCells [c8]) := by rw [show bCells [c8] = [Value.int .u8 cv] by show [Value.int .u8 (c8.toNat : Int)] = _; rw [HC8.out]]; exact Blk.new w8 _ _
            obtain ⟨cb, hcb⟩ : ∃ y, w8.heap.size = y := ⟨_, rfl⟩
            obtain ⟨v8, hw⟩ : ∃ y, w8.alloc (.cells #[.int .u8 cv] 5) = y := ⟨_, rfl⟩
            have u : Upd [] w8 v8 := by rw [← hw]; exact (Upd.refl [] _).alloc _
            rw [hw, hcb] at hbk
            (try simp only [hw, hcb])
            have hcv := run_conv_bytes hbk 39 5 9 Tryz.underlying39 Tryz.underlying5 Tryz.underlying9 0 1 1 (by simp)
            rw [show (List.drop 0 [c8]).take 1 = [c8] from rfl] at hcv
            have HV8 := hide (show WBlk v8 wb g x (jptr (some (jb, tape0, false))) (jptr (some (xb, tape0, false))) from keepB HW8.out u)
            have HQ8 := hide (HP8.out.more u (by simp) [cb] (fun y hy => by simp at hy; subst hy; exact ⟨by rw [← hcb]; exact Nat.le_refl _, hbk.lt⟩))
            have HBK := hide hbk
            clear u hbk hw hcb HW8 HP8
            have hc2 : v8.cell? ⟨wb, 0, none⟩ = some (.pointer (some ⟨g, 0, none⟩)) := HV8.out.cell 0
            (try dsimp only)
            refine hK.out _ _ (by exact hc2) (fun hHeld => ?_)
            clear hK K hc2
            try simp only [Act.put, List.setIfInBounds_toArray, List.set_cons_zero, List.set_cons_succ]
            refine wpAnyH_narrow (S' := (fun w' => (w'.cell? ⟨wb, 0, none⟩ = some (.pointer (some ⟨g, 0, none⟩))) ∧ (convert 39 9 (.slice (some ⟨cb, 0, none⟩) 1 1)).run Tryz.prog w' = .ok (.string ⟨#[c8]⟩) w')) (fun _ h => h.1) ?_
            have hHeld : (fun w' => (w'.cell? ⟨wb, 0, none⟩ = some (.pointer (some ⟨g, 0, none⟩))) ∧ (convert 39 9 (.slice (some ⟨cb, 0, none⟩) 1 1)).run Tryz.prog w' = .ok (.string ⟨#[c8]⟩) w') v8 := ⟨hHeld, hcv⟩
            clear hcv
            refine wpAnyH_take (i := 10) (oi := ?oi10M16) (v := ?v10M16) ?oi0_10M16 (by kernel_rfl) ?ff10M16 ?rr10M16 ?hq10M16 (Or.inl ⟨?hw10M16, ?hy10M16⟩) (by assumption) ?rest10M16
            case oi0_10M16 => conv => lhs; whnf; arg 1; whnf
            case hq10M16 => exact fun _ _ _ h => h
            case ff10M16 | rr10M16 => kernel_rfl
            case hw10M16 => rfl
            case hy10M16 => intro w hSw; (try dsimp only at hSw); first | (go_simp; done) | (go_simp; with_reducible rfl)
            try simp only [Act.put, List.setIfInBounds_toArray, List.set_cons_zero, List.set_cons_succ]
            refine wpAnyH_ready (rs := [11]) (by kernel_rfl) (by simp) (AllReadyH.cons (o := ?oiM17) ?oi0_M17 (fun K hK => ?_) AllReadyH.nil)
            case oi0_M17 => conv => lhs; whnf; arg 1; whnf
            go_simp
            have HC := hide (pj_write pk ⟨#[c8]⟩ HQ8.out (HI7.out.mono (by omega)))
            rw [show ((⟨#[c8]⟩ : ByteArray).data.toList) = [c8] from rfl, HWR.out] at HC
            refine HC.out.mono ?_
            rintro e w9 ⟨rfl, hsm, hp⟩
            try simp only
            have HW9 := hide (show WBlk w9 wb g x (jptr (some (jb, tape0, false))) (jptr (some (xb, tape0, false))) from hsm.blk (by simp) HV8.out)
            have HP9 := hide (hp.mono (X' := [wb]) (by simp))
            have hbk : Blk w9 cb 5 (bCells [c8]) := hsm.blk (by simp) HBK.out
            have hcv := run_conv_bytes hbk 39 5 9 Tryz.underlying39 Tryz.underlying5 Tryz.underlying9 0 1 1 (by simp)
            rw [show (List.drop 0 [c8]).take 1 = [c8] from rfl] at hcv
            clear hsm hp HC HV8 HQ8 hbk HBK
            have hc3 : (w9.cell? ⟨wb, 0, none⟩ = some (.pointer (some ⟨g, 0, none⟩))) ∧ _ := ⟨HW9.out.cell 0, hcv⟩
            (try dsimp only)
            refine hK.out _ _ (by exact hc3) (fun hHeld => ?_)
            clear hK K hc3
            try simp only [Act.put, List.setIfInBounds_toArray, List.set_cons_zero, List.set_cons_succ]
            clear hcv
            refine wpAnyH_done (by kernel_rfl) ?_ _
            go_wp2_with fail
            go_meet
            exact ⟨HW9, HP9⟩
        case kkM14x9 =>
          go_simp
          have hbk : Blk (w8.alloc (.cells #[.int .u8 cv] 5)) w8.heap.size 5 (bCells [c8]) := by rw [show bCells [c8] = [Value.int .u8 cv] by show [Value.int .u8 (c8.toNat : Int)] = _; rw [HC8.out]]; exact Blk.new w8 _ _
          obtain ⟨cb, hcb⟩ : ∃ y, w8.heap.size = y := ⟨_, rfl⟩
          obtain ⟨v8, hw⟩ : ∃ y, w8.alloc (.cells #[.int .u8 cv] 5) = y := ⟨_, rfl⟩
          have u : Upd [] w8 v8 := by rw [← hw]; exact (Upd.refl [] _).alloc _
          rw [hw, hcb] at hbk
          (try simp only [hw, hcb])
          have hcv := run_conv_bytes hbk 39 5 9 Tryz.underlying39 Tryz.underlying5 Tryz.underlying9 0 1 1 (by simp)
          rw [show (List.drop 0 [c8]).take 1 = [c8] from rfl] at hcv
          have HV8 := hide (show WBlk v8 wb g x (jptr (some (jb, tape0, false))) (jptr (some (xb, tape0, false))) from keepB HW8.out u)
          have HQ8 := hide (HP8.out.more u (by simp) [cb] (fun y hy => by simp at hy; subst hy; exact ⟨by rw [← hcb]; exact Nat.le_refl _, hbk.lt⟩))
          have HBK := hide hbk
          clear u hbk hw hcb HW8 HP8
          have hc2 : v8.cell? ⟨wb, 0, none⟩ = some (.pointer (some ⟨g, 0, none⟩)) := HV8.out.cell 0
          (try dsimp only)
          refine hK.out _ _ (by exact hc2) (fun hHeld => ?_)
          clear hK K hc2
          try simp only [Act.put, List.setIfInBounds_toArray, List.set_cons_zero, List.set_cons_succ]
          refine wpAnyH_narrow (S' := (fun w' => (w'.cell? ⟨wb, 0, none⟩ = some (.pointer (some ⟨g, 0, none⟩))) ∧ (convert 39 9 (.slice (some ⟨cb, 0, none⟩) 1 1)).run Tryz.prog w' = .ok (.string ⟨#[c8]⟩) w')) (fun _ h => h.1) ?_
          have hHeld : (fun w' => (w'.cell? ⟨wb, 0, none⟩ = some (.pointer (some ⟨g, 0, none⟩))) ∧ (convert 39 9 (.slice (some ⟨cb, 0, none⟩) 1 1)).run Tryz.prog w' = .ok (.string ⟨#[c8]⟩) w') v8 := ⟨hHeld, hcv⟩
          clear hcv
          refine wpAnyH_take (i := 10) (oi := ?oi10M19) (v := ?v10M19) ?oi0_10M19 (by kernel_rfl) ?ff10M19 ?rr10M19 ?hq10M19 (Or.inl ⟨?hw10M19, ?hy10M19⟩) (by assumption) ?rest10M19
          case oi0_10M19 => conv => lhs; whnf; arg 1; whnf
          case hq10M19 => exact fun _ _ _ h => h
          case ff10M19 | rr10M19 => kernel_rfl
          case hw10M19 => rfl
          case hy10M19 => intro w hSw; (try dsimp only at hSw); first | (go_simp; done) | (go_simp; with_reducible rfl)
          try simp only [Act.put, List.setIfInBounds_toArray, List.set_cons_zero, List.set_cons_succ]
          refine wpAnyH_ready (rs := [7]) (by kernel_rfl) (by simp) (AllReadyH.cons (o := ?oiM20x7) ?oi0_M20x7 (fun K hK => ?kkM20x7) (AllReadyH.nil))
          case oi0_M20x7 => conv => lhs; whnf; arg 1; whnf
          case kkM20x7 =>
            go_simp
            refine (HPK.out v8).mono ?_
            rintro e w' ⟨rfl, rfl⟩
            try simp only
            (try dsimp only)
            refine hK.out _ _ (by exact hHeld) (fun hHeld => ?_)
            clear hK K
            try simp only [Act.put, List.setIfInBounds_toArray, List.set_cons_zero, List.set_cons_succ]
            refine wpAnyH_ready (rs := [11]) (by kernel_rfl) (by simp) (AllReadyH.cons (o := ?oiM21) ?oi0_M21 (fun K hK => ?_) AllReadyH.nil)
            case oi0_M21 => conv => lhs; whnf; arg 1; whnf
            go_simp
            have HC := hide (pj_write pk ⟨#[c8]⟩ HQ8.out (HI7.out.mono (by omega)))
            rw [show ((⟨#[c8]⟩ : ByteArray).data.toList) = [c8] from rfl, HWR.out] at HC
            refine HC.out.mono ?_
            rintro e w9 ⟨rfl, hsm, hp⟩
            try simp only
            have HW9 := hide (show WBlk w9 wb g x (jptr (some (jb, tape0, false))) (jptr (some (xb, tape0, false))) from hsm.blk (by simp) HV8.out)
            have HP9 := hide (hp.mono (X' := [wb]) (by simp))
            have hbk : Blk w9 cb 5 (bCells [c8]) := hsm.blk (by simp) HBK.out
            have hcv := run_conv_bytes hbk 39 5 9 Tryz.underlying39 Tryz.underlying5 Tryz.underlying9 0 1 1 (by simp)
            rw [show (List.drop 0 [c8]).take 1 = [c8] from rfl] at hcv
            clear hsm hp HC HV8 HQ8 hbk HBK
            have hc3 : (w9.cell? ⟨wb, 0, none⟩ = some (.pointer (some ⟨g, 0, none⟩))) ∧ _ := ⟨HW9.out.cell 0, hcv⟩
            (try dsimp only)
            refine hK.out _ _ (by exact hc3) (fun hHeld => ?_)
            clear hK K hc3
            try simp only [Act.put, List.setIfInBounds_toArray, List.set_cons_zero, List.set_cons_succ]
            clear hcv
            refine wpAnyH_done (by kernel_rfl) ?_ _
            go_wp2_with fail
            go_meet
            exact ⟨HW9, HP9⟩
      case kkM13x9 =>
        go_simp
        have hbk : Blk (w8.alloc (.cells #[.int .u8 cv] 5)) w8.heap.size 5 (bCells [c8]) := by rw [show bCells [c8] = [Value.int .u8 cv] by show [Value.int .u8 (c8.toNat : Int)] = _; rw [HC8.out]]; exact Blk.new w8 _ _
        obtain ⟨cb, hcb⟩ : ∃ y, w8.heap.size = y := ⟨_, rfl⟩
        obtain ⟨v8, hw⟩ : ∃ y, w8.alloc (.cells #[.int .u8 cv] 5) = y := ⟨_, rfl⟩
        have u : Upd [] w8 v8 := by rw [← hw]; exact (Upd.refl [] _).alloc _
        rw [hw, hcb] at hbk
        (try simp only [hw, hcb])
        have hcv := run_conv_bytes hbk 39 5 9 Tryz.underlying39 Tryz.underlying5 Tryz.underlying9 0 1 1 (by simp)
        rw [show (List.drop 0 [c8]).take 1 = [c8] from rfl] at hcv
        have HV8 := hide (show WBlk v8 wb g x (jptr (some (jb, tape0, false))) (jptr (some (xb, tape0, false))) from keepB HW8.out u)
        have HQ8 := hide (HP8.out.more u (by simp) [cb] (fun y hy => by simp at hy; subst hy; exact ⟨by rw [← hcb]; exact Nat.le_refl _, hbk.lt⟩))
        have HBK := hide hbk
        clear u hbk hw hcb HW8 HP8
        have hc2 : v8.cell? ⟨wb, 0, none⟩ = some (.pointer (some ⟨g, 0, none⟩)) := HV8.out.cell 0
        (try dsimp only)
        refine hK.out _ _ (by exact hc2) (fun hHeld => ?_)
        clear hK K hc2
        try simp only [Act.put, List.setIfInBounds_toArray, List.set_cons_zero, List.set_cons_succ]
        refine wpAnyH_narrow (S' := (fun w' => (w'.cell? ⟨wb, 0, none⟩ = some (.pointer (some ⟨g, 0, none⟩))) ∧ (convert 39 9 (.slice (some ⟨cb, 0, none⟩) 1 1)).run Tryz.prog w' = .ok (.string ⟨#[c8]⟩) w')) (fun _ h => h.1) ?_
        have hHeld : (fun w' => (w'.cell? ⟨wb, 0, none⟩ = some (.pointer (some ⟨g, 0, none⟩))) ∧ (convert 39 9 (.slice (some ⟨cb, 0, none⟩) 1 1)).run Tryz.prog w' = .ok (.string ⟨#[c8]⟩) w') v8 := ⟨hHeld, hcv⟩
        clear hcv
        refine wpAnyH_take (i := 10) (oi := ?oi10M23) (v := ?v10M23) ?oi0_10M23 (by kernel_rfl) ?ff10M23 ?rr10M23 ?hq10M23 (Or.inl ⟨?hw10M23, ?hy10M23⟩) (by assumption) ?rest10M23
        case oi0_10M23 => conv => lhs; whnf; arg 1; whnf
        case hq10M23 => exact fun _ _ _ h => h
        case ff10M23 | rr10M23 => kernel_rfl
        case hw10M23 => rfl
        case hy10M23 => intro w hSw; (try dsimp only at hSw); first | (go_simp; done) | (go_simp; with_reducible rfl)
        try simp only [Act.put, List.setIfInBounds_toArray, List.set_cons_zero, List.set_cons_succ]
        refine wpAnyH_ready (rs := [6]) (by kernel_rfl) (by simp) (AllReadyH.cons (o := ?oiM24x6) ?oi0_M24x6 (fun K hK => ?kkM24x6) (AllReadyH.nil))
        case oi0_M24x6 => conv => lhs; whnf; arg 1; whnf
        case kkM24x6 =>
          go_simp
          refine (HZ.out v8).mono ?_
          rintro e w' ⟨rfl, rfl⟩
          try simp only
          (try dsimp only)
          refine hK.out _ _ (by exact hHeld) (fun hHeld => ?_)
          clear hK K
          try simp only [Act.put, List.setIfInBounds_toArray, List.set_cons_zero, List.set_cons_succ]
          refine wpAnyH_ready (rs := [7]) (by kernel_rfl) (by simp) (AllReadyH.cons (o := ?oiM25x7) ?oi0_M25x7 (fun K hK => ?kkM25x7) (AllReadyH.nil))
          case oi0_M25x7 => conv => lhs; whnf; arg 1; whnf
          case kkM25x7 =>
            go_simp
            refine (HPK.out v8).mono ?_
            rintro e w' ⟨rfl, rfl⟩
            try simp only
            (try dsimp only)
            refine hK.out _ _ (by exact hHeld) (fun hHeld => ?_)
            clear hK K
            try simp only [Act.put, List.setIfInBounds_toArray, List.set_cons_zero, List.set_cons_succ]
            refine wpAnyH_ready (rs := [11]) (by kernel_rfl) (by simp) (AllReadyH.cons (o := ?oiM26) ?oi0_M26 (fun K hK => ?_) AllReadyH.nil)
            case oi0_M26 => conv => lhs; whnf; arg 1; whnf
            go_simp
            have HC := hide (pj_write pk ⟨#[c8]⟩ HQ8.out (HI7.out.mono (by omega)))
            rw [show ((⟨#[c8]⟩ : ByteArray).data.toList) = [c8] from rfl, HWR.out] at HC
            refine HC.out.mono ?_
            rintro e w9 ⟨rfl, hsm, hp⟩
            try simp only
            have HW9 := hide (show WBlk w9 wb g x (jptr (some (jb, tape0, false))) (jptr (some (xb, tape0, false))) from hsm.blk (by simp) HV8.out)
            have HP9 := hide (hp.mono (X' := [wb]) (by simp))
            have hbk : Blk w9 cb 5 (bCells [c8]) := hsm.blk (by simp) HBK.out
            have hcv := run_conv_bytes hbk 39 5 9 Tryz.underlying39 Tryz.underlying5 Tryz.underlying9 0 1 1 (by simp)
            rw [show (List.drop 0 [c8]).take 1 = [c8] from rfl] at hcv
            clear hsm hp HC HV8 HQ8 hbk HBK
            have hc3 : (w9.cell? ⟨wb, 0, none⟩ = some (.pointer (some ⟨g, 0, none⟩))) ∧ _ := ⟨HW9.out.cell 0, hcv⟩
            (try dsimp only)
            refine hK.out _ _ (by exact hc3) (fun hHeld => ?_)
            clear hK K hc3
            try simp only [Act.put, List.setIfInBounds_toArray, List.set_cons_zero, List.set_cons_succ]
            clear hcv
            refine wpAnyH_done (by kernel_rfl) ?_ _
            go_wp2_with fail
            go_meet
            exact ⟨HW9, HP9⟩
    case rest =>
      obtain ⟨HW9, HP9⟩ := hcut
      obtain ⟨w9, rfl⟩ : ∃ y : World, y = wc := ⟨_, rfl⟩
      clear HW7 HP7
      go_upto_region 9 with fail
      go_cut [] from 60 to 71 (fun wx => Hid (WBlk wx wb g x (jptr (some (jb, tape0, false))) (jptr (some (xb, tape0, false)))) ∧ Hid (PJ w.heap.size [wb] w wx g (some (jb, T', br')) E x (some (xb, T', br')) E))
      case first =>
        refine wp_region_held_drew (S := (fun w' => w'.cell? ⟨wb, 2, none⟩ = some (.pointer (some ⟨x, 0, none⟩)))) (by kernel_rfl) (by exact HW9.out.cell 2) (fun hHeld => ?_)
        obtain ⟨w10, hw⟩ : ∃ y, w9.drew = y := ⟨_, rfl⟩
        have u : Upd [] w9 w10 := by rw [← hw]; exact (Upd.refl [] _).drew
        rw [hw] at hHeld ⊢
        clear hw
        have HW10 := hide (show WBlk w10 wb g x (jptr (some (jb, tape0, false))) (jptr (some (xb, tape0, false))) from keepB HW9.out u)
        have HP10 := hide (HP9.out.step u (by simp))
        clear u HW9 HP9
        refine wpAnyH_take (i := 0) (oi := ?oi0M29) (v := ?v0M29) ?oi0_0M29 (by kernel_rfl) ?ff0M29 ?rr0M29 ?hq0M29 (Or.inl ⟨?hw0M29, ?hy0M29⟩) (by assumption) ?rest0M29
        case oi0_0M29 => conv => lhs; whnf; arg 1; whnf
        case hq0M29 => exact fun _ _ _ h => h
        case ff0M29 | rr0M29 => kernel_rfl
        case hw0M29 => rfl
        case hy0M29 => intro w hSw; (try dsimp only at hSw); first | (go_simp; done) | (go_simp; with_reducible rfl)
        try simp only [Act.put, List.setIfInBounds_toArray, List.set_cons_zero, List.set_cons_succ]
        refine wpAnyH_take (i := 1) (oi := ?oi1M29) (v := ?v1M29) ?oi0_1M29 (by kernel_rfl) ?ff1M29 ?rr1M29 ?hq1M29 (Or.inl ⟨?hw1M29, ?hy1M29⟩) (by assumption) ?rest1M29
        case oi0_1M29 => conv => lhs; whnf; arg 1; whnf
        case hq1M29 => exact fun _ _ _ h => h
        case ff1M29 | rr1M29 => kernel_rfl
        case hw1M29 => rfl
        case hy1M29 => intro w hSw; (try dsimp only at hSw); first | (go_simp; done) | (go_simp; with_reducible rfl)
        try simp only [Act.put, List.setIfInBounds_toArray, List.set_cons_zero, List.set_cons_succ]
        refine wpAnyH_take (i := 2) (oi := ?oi2M29) (v := ?v2M29) ?oi0_2M29 (by kernel_rfl) ?ff2M29 ?rr2M29 ?hq2M29 (Or.inl ⟨?hw2M29, ?hy2M29⟩) (by assumption) ?rest2M29
        case oi0_2M29 => conv => lhs; whnf; arg 1; whnf
        case hq2M29 => exact fun _ _ _ h => h
        case ff2M29 | rr2M29 => kernel_rfl
        case hw2M29 => rfl
        case hy2M29 => intro w hSw; (try dsimp only at hSw); first | (go_simp; done) | (go_simp; with_reducible rfl)
        try simp only [Act.put, List.setIfInBounds_toArray, List.set_cons_zero, List.set_cons_succ]
        refine wpAnyH_take (i := 3) (oi := ?oi3M29) (v := ?v3M29) ?oi0_3M29 (by kernel_rfl) ?ff3M29 ?rr3M29 ?hq3M29 (Or.inl ⟨?hw3M29, ?hy3M29⟩) (by assumption) ?rest3M29
        case oi0_3M29 => conv => lhs; whnf; arg 1; whnf
        case hq3M29 => exact fun _ _ _ h => h
        case ff3M29 | rr3M29 => kernel_rfl
        case hw3M29 => rfl
        case hy3M29 => intro w hSw; (try dsimp only at hSw); first | (go_simp; done) | (go_simp; with_reducible rfl)
        try simp only [Act.put, List.setIfInBounds_toArray, List.set_cons_zero, List.set_cons_succ]
        refine wpAnyH_take (i := 4) (oi := ?oi4M29) (v := ?v4M29) ?oi0_4M29 (by kernel_rfl) ?ff4M29 ?rr4M29 ?hq4M29 (Or.inl ⟨?hw4M29, ?hy4M29⟩) (by assumption) ?rest4M29
        case oi0_4M29 => conv => lhs; whnf; arg 1; whnf
        case hq4M29 => exact fun _ _ _ h => h
        case ff4M29 | rr4M29 => kernel_rfl
        case hw4M29 => rfl
        case hy4M29 => intro w hSw; (try dsimp only at hSw); first | (go_simp; done) | (go_simp; with_reducible rfl)
        try simp only [Act.put, List.setIfInBounds_toArray, List.set_cons_zero, List.set_cons_succ]
        refine wpAnyH_take (i := 5) (oi := ?oi5M29) (v := ?v5M29) ?oi0_5M29 (by kernel_rfl) ?ff5M29 ?rr5M29 ?hq5M29 (Or.inl ⟨?hw5M29, ?hy5M29⟩) (by assumption) ?rest5M29
        case oi0_5M29 => conv => lhs; whnf; arg 1; whnf
        case hq5M29 => exact fun _ _ _ h => h
        case ff5M29 | rr5M29 => kernel_rfl
        case hw5M29 => rfl
        case hy5M29 => intro w hSw; (try dsimp only at hSw); first | (go_simp; done) | (go_simp; with_reducible rfl)
        try simp only [Act.put, List.setIfInBounds_toArray, List.set_cons_zero, List.set_cons_succ]
        refine wpAnyH_take (i := 8) (oi := ?oi8M30) (v := ?v8M30) ?oi0_8M30 (by kernel_rfl) ?ff8M30 ?rr8M30 ?hq8M30 (Or.inl ⟨?hw8M30, ?hy8M30⟩) (by assumption) ?rest8M30
        case oi0_8M30 => conv => lhs; whnf; arg 1; whnf
        case hq8M30 => exact fun _ _ _ h => h
        case ff8M30 | rr8M30 => kernel_rfl
        case hw8M30 => rfl
        case hy8M30 => intro w hSw; (try dsimp only at hSw); first | (go_simp; done) | (go_simp; with_reducible rfl)
        try simp only [Act.put, List.setIfInBounds_toArray, List.set_cons_zero, List.set_cons_succ]
        refine wpAnyH_ready (rs := [6, 9]) (by kernel_rfl) (by simp) (AllReadyH.cons (o := ?oiM31x6) ?oi0_M31x6 (fun K hK => ?kkM31x6) (AllReadyH.cons (o := ?oiM31x9) ?oi0_M31x9 (fun K hK => ?kkM31x9) (AllReadyH.nil)))
        case oi0_M31x6 => conv => lhs; whnf; arg 1; whnf
        case oi0_M31x9 => conv => lhs; whnf; arg 1; whnf
        case kkM31x6 =>
          go_simp
          refine (HZ.out w10).mono ?_
          rintro e w' ⟨rfl, rfl⟩
          try simp only
          (try dsimp only)
          refine hK.out _ _ (by exact hHeld) (fun hHeld => ?_)
          clear hK K
          try simp only [Act.put, List.setIfInBounds_toArray, List.set_cons_zero, List.set_cons_succ]
          refine wpAnyH_ready (rs := [7, 9]) (by kernel_rfl) (by simp) (AllReadyH.cons (o := ?oiM32x7) ?oi0_M32x7 (fun K hK => ?kkM32x7) (AllReadyH.cons (o := ?oiM32x9) ?oi0_M32x9 (fun K hK => ?kkM32x9) (AllReadyH.nil)))
          case oi0_M32x7 => conv => lhs; whnf; arg 1; whnf
          case oi0_M32x9 => conv => lhs; whnf; arg 1; whnf
          case kkM32x7 =>
            go_simp
            refine (HPK.out w10).mono ?_
            rintro e w' ⟨rfl, rfl⟩
            try simp only
            (try dsimp only)
            refine hK.out _ _ (by exact hHeld) (fun hHeld => ?_)
            clear hK K
            try simp only [Act.put, List.setIfInBounds_toArray, List.set_cons_zero, List.set_cons_succ]
            refine wpAnyH_ready (rs := [9]) (by kernel_rfl) (by simp) (AllReadyH.cons (o := ?oiM33x9) ?oi0_M33x9 (fun K hK => ?kkM33x9) (AllReadyH.nil))
            case oi0_M33x9 => conv => lhs; whnf; arg 1; whnf
            case kkM33x9 =>
              go_simp
              have hbk : Blk (w10.alloc (.cells #[.int .u8 cv] 5)) w10.heap.size 5 (bCells [c8]) := by rw [show bCells [c8] = [Value.int .u8 cv] by show [Value.int .u8 (c8.toNat : Int)] = _; rw [HC8.out]]; exact Blk.new w10 _ _
              obtain ⟨cb, hcb⟩ : ∃ y, w10.heap.size = y := ⟨_, rfl⟩
              obtain ⟨v10, hw⟩ : ∃ y, w10.alloc (.cells #[.int .u8 cv] 5) = y := ⟨_, rfl⟩
              have u : Upd [] w10 v10 := by rw [← hw]; exact (Upd.refl [] _).alloc _
              rw [hw, hcb] at hbk
              (try simp only [hw, hcb])
              have hcv := run_conv_bytes hbk 39 5 9 Tryz.underlying39 Tryz.underlying5 Tryz.underlying9 0 1 1 (by simp)
              rw [show (List.drop 0 [c8]).take 1 = [c8] from rfl] at hcv
              have HV10 := hide (show WBlk v10 wb g x (jptr (some (jb, tape0, false))) (jptr (some (xb, tape0, false))) from keepB HW10.out u)
              have HQ10 := hide (HP10.out.more u (by simp) [cb] (fun y hy => by simp at hy; subst hy; exact ⟨by rw [← hcb]; exact Nat.le_refl _, hbk.lt⟩))
              have HBK := hide hbk
              clear u hbk hw hcb HW10 HP10
              have hc2 : v10.cell? ⟨wb, 2, none⟩ = some (.pointer (some ⟨x, 0, none⟩)) := HV10.out.cell 2
              (try dsimp only)
              refine hK.out _ _ (by exact hc2) (fun hHeld => ?_)
              clear hK K hc2
              try simp only [Act.put, List.setIfInBounds_toArray, List.set_cons_zero, List.set_cons_succ]
              refine wpAnyH_narrow (S' := (fun w' => (w'.cell? ⟨wb, 2, none⟩ = some (.pointer (some ⟨x, 0, none⟩))) ∧ (convert 39 9 (.slice (some ⟨cb, 0, none⟩) 1 1)).run Tryz.prog w' = .ok (.string ⟨#[c8]⟩) w')) (fun _ h => h.1) ?_
              have hHeld : (fun w' => (w'.cell? ⟨wb, 2, none⟩ = some (.pointer (some ⟨x, 0, none⟩))) ∧ (convert 39 9 (.slice (some ⟨cb, 0, none⟩) 1 1)).run Tryz.prog w' = .ok (.string ⟨#[c8]⟩) w') v10 := ⟨hHeld, hcv⟩
              clear hcv
              refine wpAnyH_take (i := 10) (oi := ?oi10M34) (v := ?v10M34) ?oi0_10M34 (by kernel_rfl) ?ff10M34 ?rr10M34 ?hq10M34 (Or.inl ⟨?hw10M34, ?hy10M34⟩) (by assumption) ?rest10M34
              case oi0_10M34 => conv => lhs; whnf; arg 1; whnf
              case hq10M34 => exact fun _ _ _ h => h
              case ff10M34 | rr10M34 => kernel_rfl
              case hw10M34 => rfl
              case hy10M34 => intro w hSw; (try dsimp only at hSw); first | (go_simp; done) | (go_simp; with_reducible rfl)
              try simp only [Act.put, List.setIfInBounds_toArray, List.set_cons_zero, List.set_cons_succ]
              refine wpAnyH_ready (rs := [11]) (by kernel_rfl) (by simp) (AllReadyH.cons (o := ?oiM35) ?oi0_M35 (fun K hK => ?_) AllReadyH.nil)
              case oi0_M35 => conv => lhs; whnf; arg 1; whnf
              go_simp
              have HC := hide (pj_rdisk HQ10.out (fun G hr _ => refWrite (D := D') pk ⟨#[c8]⟩ v10 hr (by have := HI7.out.2.2; omega)))
              rw [show ((⟨#[c8]⟩ : ByteArray).data.toList) = [c8] from rfl, HWR.out] at HC
              refine HC.out.mono ?_
              rintro e w11 ⟨rfl, hsm, hp⟩
              try simp only
              have HW11 := hide (show WBlk w11 wb g x (jptr (some (jb, tape0, false))) (jptr (some (xb, tape0, false))) from hsm.blk (by simp) HV10.out)
              have HP11 := hide (hp.mono (X' := [wb]) (by simp))
              have hbk : Blk w11 cb 5 (bCells [c8]) := hsm.blk (by simp) HBK.out
              have hcv := run_conv_bytes hbk 39 5 9 Tryz.underlying39 Tryz.underlying5 Tryz.underlying9 0 1 1 (by simp)
              rw [show (List.drop 0 [c8]).take 1 = [c8] from rfl] at hcv
              clear hsm hp HC HV10 HQ10 hbk HBK
              have hc3 : (w11.cell? ⟨wb, 2, none⟩ = some (.pointer (some ⟨x, 0, none⟩))) ∧ _ := ⟨HW11.out.cell 2, hcv⟩
              (try dsimp only)
              refine hK.out _ _ (by exact hc3) (fun hHeld => ?_)
              clear hK K hc3
              try simp only [Act.put, List.setIfInBounds_toArray, List.set_cons_zero, List.set_cons_succ]
              clear hcv
              refine wpAnyH_done (by kernel_rfl) ?_ _
              go_wp2_with fail
              go_meet
              exact ⟨HW11, HP11⟩
          case kkM32x9 =>
            go_simp
            have hbk : Blk (w10.alloc (.cells #[.int .u8 cv] 5)) w10.heap.size 5 (bCells [c8]) := by rw [show bCells [c8] = [Value.int .u8 cv] by show [Value.int .u8 (c8.toNat : Int)] = _; rw [HC8.out]]; exact Blk.new w10 _ _
            obtain ⟨cb, hcb⟩ : ∃ y, w10.heap.size = y := ⟨_, rfl⟩
            obtain ⟨v10, hw⟩ : ∃ y, w10.alloc (.cells #[.int .u8 cv] 5) = y := ⟨_, rfl⟩
            have u : Upd [] w10 v10 := by rw [← hw]; exact (Upd.refl [] _).alloc _
            rw [hw, hcb] at hbk
            (try simp only [hw, hcb])
            have hcv := run_conv_bytes hbk 39 5 9 Tryz.underlying39 Tryz.underlying5 Tryz.underlying9 0 1 1 (by simp)
            rw [show (List.drop 0 [c8]).take 1 = [c8] from rfl] at hcv
            have HV10 := hide (show WBlk v10 wb g x (jptr (some (jb, tape0, false))) (jptr (some (xb, tape0, false))) from keepB HW10.out u)
            have HQ10 := hide (HP10.out.more u (by simp) [cb] (fun y hy => by simp at hy; subst hy; exact ⟨by rw [← hcb]; exact Nat.le_refl _, hbk.lt⟩))
            have HBK := hide hbk
            clear u hbk hw hcb HW10 HP10
            have hc2 : v10.cell? ⟨wb, 2, none⟩ = some (.pointer (some ⟨x, 0, none⟩)) := HV10.out.cell 2
            (try dsimp only)
            refine hK.out _ _ (by exact hc2) (fun hHeld => ?_)
            clear hK K hc2
            try simp only [Act.put, List.setIfInBounds_toArray, List.set_cons_zero, List.set_cons_succ]
            refine wpAnyH_narrow (S' := (fun w' => (w'.cell? ⟨wb, 2, none⟩ = some (.pointer (some ⟨x, 0, none⟩))) ∧ (convert 39 9 (.slice (some ⟨cb, 0, none⟩) 1 1)).run Tryz.prog w' = .ok (.string ⟨#[c8]⟩) w')) (fun _ h => h.1) ?_
            have hHeld : (fun w' => (w'.cell? ⟨wb, 2, none⟩ = some (.pointer (some ⟨x, 0, none⟩))) ∧ (convert 39 9 (.slice (some ⟨cb, 0, none⟩) 1 1)).run Tryz.prog w' = .ok (.string ⟨#[c8]⟩) w') v10 := ⟨hHeld, hcv⟩
            clear hcv
            refine wpAnyH_take (i := 10) (oi := ?oi10M37) (v := ?v10M37) ?oi0_10M37 (by kernel_rfl) ?ff10M37 ?rr10M37 ?hq10M37 (Or.inl ⟨?hw10M37, ?hy10M37⟩) (by assumption) ?rest10M37
            case oi0_10M37 => conv => lhs; whnf; arg 1; whnf
            case hq10M37 => exact fun _ _ _ h => h
            case ff10M37 | rr10M37 => kernel_rfl
            case hw10M37 => rfl
            case hy10M37 => intro w hSw; (try dsimp only at hSw); first | (go_simp; done) | (go_simp; with_reducible rfl)
            try simp only [Act.put, List.setIfInBounds_toArray, List.set_cons_zero, List.set_cons_succ]
            refine wpAnyH_ready (rs := [7]) (by kernel_rfl) (by simp) (AllReadyH.cons (o := ?oiM38x7) ?oi0_M38x7 (fun K hK => ?kkM38x7) (AllReadyH.nil))
            case oi0_M38x7 => conv => lhs; whnf; arg 1; whnf
            case kkM38x7 =>
              go_simp
              refine (HPK.out v10).mono ?_
              rintro e w' ⟨rfl, rfl⟩
              try simp only
              (try dsimp only)
              refine hK.out _ _ (by exact hHeld) (fun hHeld => ?_)
              clear hK K
              try simp only [Act.put, List.setIfInBounds_toArray, List.set_cons_zero, List.set_cons_succ]
              refine wpAnyH_ready (rs := [11]) (by kernel_rfl) (by simp) (AllReadyH.cons (o := ?oiM39) ?oi0_M39 (fun K hK => ?_) AllReadyH.nil)
              case oi0_M39 => conv => lhs; whnf; arg 1; whnf
              go_simp
              have HC := hide (pj_rdisk HQ10.out (fun G hr _ => refWrite (D := D') pk ⟨#[c8]⟩ v10 hr (by have := HI7.out.2.2; omega)))
              rw [show ((⟨#[c8]⟩ : ByteArray).data.toList) = [c8] from rfl, HWR.out] at HC
              refine HC.out.mono ?_
              rintro e w11 ⟨rfl, hsm, hp⟩
              try simp only
              have HW11 := hide (show WBlk w11 wb g x (jptr (some (jb, tape0, false))) (jptr (some (xb, tape0, false))) from hsm.blk (by simp) HV10.out)
              have HP11 := hide (hp.mono (X' := [wb]) (by simp))
              have hbk : Blk w11 cb 5 (bCells [c8]) := hsm.blk (by simp) HBK.out
              have hcv := run_conv_bytes hbk 39 5 9 Tryz.underlying39 Tryz.underlying5 Tryz.underlying9 0 1 1 (by simp)
              rw [show (List.drop 0 [c8]).take 1 = [c8] from rfl] at hcv
              clear hsm hp HC HV10 HQ10 hbk HBK
              have hc3 : (w11.cell? ⟨wb, 2, none⟩ = some (.pointer (some ⟨x, 0, none⟩))) ∧ _ := ⟨HW11.out.cell 2, hcv⟩
              (try dsimp only)
              refine hK.out _ _ (by exact hc3) (fun hHeld => ?_)
              clear hK K hc3
              try simp only [Act.put, List.setIfInBounds_toArray, List.set_cons_zero, List.set_cons_succ]
              clear hcv
              refine wpAnyH_done (by kernel_rfl) ?_ _
              go_wp2_with fail
              go_meet
              exact ⟨HW11, HP11⟩
        case kkM31x9 =>
          go_simp
          have hbk : Blk (w10.alloc (.cells #[.int .u8 cv] 5)) w10.heap.size 5 (bCells [c8]) := by rw [show bCells [c8] = [Value.int .u8 cv] by show [Value.int .u8 (c8.toNat : Int)] = _; rw [HC8.out]]; exact Blk.new w10 _ _
          obtain ⟨cb, hcb⟩ : ∃ y, w10.heap.size = y := ⟨_, rfl⟩
          obtain ⟨v10, hw⟩ : ∃ y, w10.alloc (.cells #[.int .u8 cv] 5) = y := ⟨_, rfl⟩
          have u : Upd [] w10 v10 := by rw [← hw]; exact (Upd.refl [] _).alloc _
          rw [hw, hcb] at hbk
          (try simp only [hw, hcb])
          have hcv := run_conv_bytes hbk 39 5 9 Tryz.underlying39 Tryz.underlying5 Tryz.underlying9 0 1 1 (by simp)
          rw [show (List.drop 0 [c8]).take 1 = [c8] from rfl] at hcv
          have HV10 := hide (show WBlk v10 wb g x (jptr (some (jb, tape0, false))) (jptr (some (xb, tape0, false))) from keepB HW10.out u)
          have HQ10 := hide (HP10.out.more u (by simp) [cb] (fun y hy => by simp at hy; subst hy; exact ⟨by rw [← hcb]; exact Nat.le_refl _, hbk.lt⟩))
          have HBK := hide hbk
          clear u hbk hw hcb HW10 HP10
          have hc2 : v10.cell? ⟨wb, 2, none⟩ = some (.pointer (some ⟨x, 0, none⟩)) := HV10.out.cell 2
          (try dsimp only)
          refine hK.out _ _ (by exact hc2) (fun hHeld => ?_)
          clear hK K hc2
          try simp only [Act.put, List.setIfInBounds_toArray, List.set_cons_zero, List.set_cons_succ]
          refine wpAnyH_narrow (S' := (fun w' => (w'.cell? ⟨wb, 2, none⟩ = some (.pointer (some ⟨x, 0, none⟩))) ∧ (convert 39 9 (.slice (some ⟨cb, 0, none⟩) 1 1)).run Tryz.prog w' = .ok (.string ⟨#[c8]⟩) w')) (fun _ h => h.1) ?_
          have hHeld : (fun w' => (w'.cell? ⟨wb, 2, none⟩ = some (.pointer (some ⟨x, 0, none⟩))) ∧ (convert 39 9 (.slice (some ⟨cb, 0, none⟩) 1 1)).run Tryz.prog w' = .ok (.string ⟨#[c8]⟩) w') v10 := ⟨hHeld, hcv⟩
          clear hcv
          refine wpAnyH_take (i := 10) (oi := ?oi10M41) (v := ?v10M41) ?oi0_10M41 (by kernel_rfl) ?ff10M41 ?rr10M41 ?hq10M41 (Or.inl ⟨?hw10M41, ?hy10M41⟩) (by assumption) ?rest10M41
          case oi0_10M41 => conv => lhs; whnf; arg 1; whnf
          case hq10M41 => exact fun _ _ _ h => h
          case ff10M41 | rr10M41 => kernel_rfl
          case hw10M41 => rfl
          case hy10M41 => intro w hSw; (try dsimp only at hSw); first | (go_simp; done) | (go_simp; with_reducible rfl)
          try simp only [Act.put, List.setIfInBounds_toArray, List.set_cons_zero, List.set_cons_succ]
          refine wpAnyH_ready (rs := [6]) (by kernel_rfl) (by simp) (AllReadyH.cons (o := ?oiM42x6) ?oi0_M42x6 (fun K hK => ?kkM42x6) (AllReadyH.nil))
          case oi0_M42x6 => conv => lhs; whnf; arg 1; whnf
          case kkM42x6 =>
            go_simp
            refine (HZ.out v10).mono ?_
            rintro e w' ⟨rfl, rfl⟩
            try simp only
            (try dsimp only)
            refine hK.out _ _ (by exact hHeld) (fun hHeld => ?_)
            clear hK K
            try simp only [Act.put, List.setIfInBounds_toArray, List.set_cons_zero, List.set_cons_succ]
            refine wpAnyH_ready (rs := [7]) (by kernel_rfl) (by simp) (AllReadyH.cons (o := ?oiM43x7) ?oi0_M43x7 (fun K hK => ?kkM43x7) (AllReadyH.nil))
            case oi0_M43x7 => conv => lhs; whnf; arg 1; whnf
            case kkM43x7 =>
              go_simp
              refine (HPK.out v10).mono ?_
              rintro e w' ⟨rfl, rfl⟩
              try simp only
              (try dsimp only)
              refine hK.out _ _ (by exact hHeld) (fun hHeld => ?_)
              clear hK K
              try simp only [Act.put, List.setIfInBounds_toArray, List.set_cons_zero, List.set_cons_succ]
              refine wpAnyH_ready (rs := [11]) (by kernel_rfl) (by simp) (AllReadyH.cons (o := ?oiM44) ?oi0_M44 (fun K hK => ?_) AllReadyH.nil)
              case oi0_M44 => conv => lhs; whnf; arg 1; whnf
              go_simp
              have HC := hide (pj_rdisk HQ10.out (fun G hr _ => refWrite (D := D') pk ⟨#[c8]⟩ v10 hr (by have := HI7.out.2.2; omega)))
              rw [show ((⟨#[c8]⟩ : ByteArray).data.toList) = [c8] from rfl, HWR.out] at HC
              refine HC.out.mono ?_
              rintro e w11 ⟨rfl, hsm, hp⟩
              try simp only
              have HW11 := hide (show WBlk w11 wb g x (jptr (some (jb, tape0, false))) (jptr (some (xb, tape0, false))) from hsm.blk (by simp) HV10.out)
              have HP11 := hide (hp.mono (X' := [wb]) (by simp))
              have hbk : Blk w11 cb 5 (bCells [c8]) := hsm.blk (by simp) HBK.out
              have hcv := run_conv_bytes hbk 39 5 9 Tryz.underlying39 Tryz.underlying5 Tryz.underlying9 0 1 1 (by simp)
              rw [show (List.drop 0 [c8]).take 1 = [c8] from rfl] at hcv
              clear hsm hp HC HV10 HQ10 hbk HBK
              have hc3 : (w11.cell? ⟨wb, 2, none⟩ = some (.pointer (some ⟨x, 0, none⟩))) ∧ _ := ⟨HW11.out.cell 2, hcv⟩
              (try dsimp only)
              refine hK.out _ _ (by exact hc3) (fun hHeld => ?_)
              clear hK K hc3
              try simp only [Act.put, List.setIfInBounds_toArray, List.set_cons_zero, List.set_cons_succ]
              clear hcv
              refine wpAnyH_done (by kernel_rfl) ?_ _
              go_wp2_with fail
              go_meet
              exact ⟨HW11, HP11⟩
      case rest =>
        obtain ⟨HW11, HP11⟩ := hcut
        obtain ⟨w11, rfl⟩ : ∃ y : World, y = wc := ⟨_, rfl⟩
        clear HW9 HP9
        have HDX := hide (show DInv 5 E from HD8.out.1)
        have HNX := hide HN8.out
        clear HD8 HN8 HI7 HIA HNA
        have HOP := hide (world_open (wb := wb) HL.out (show wb ∈ [wb] by simp) HWB.out HW11.out (HP11.out.drop) (HDX.out.mono (by omega)))
        have HIN := hide (open_inv HDX.out)
        have HNO := hide HNX.out.open_
        go_wp2_with fail
        refine HOP.out.mono ?_
        rintro e w20 ⟨rfl, _, P, R, ho, hw, hp⟩
        have HI := hide (winv_open (n := 7) ho HIN.out (by omega))
        obtain ⟨D, hD⟩ : ∃ y, (OpenS refK E).2.1 = y := ⟨_, rfl⟩
        rw [hD] at hp HNO HI
        have HW := hide hw
        have HP := hide hp
        clear ho hw hp HOP HIN hD HW11 HP11
        go_upto_region 13 with fail
        rcases HI.out.2 with ⟨rfl, rfl⟩ | ⟨jc, xc, T, br, rfl, rfl, hT, hts⟩
        case inl =>
          refine wp_region_held_drew (S := (fun w' => w'.cell? ⟨wb, 1, none⟩ = some (.pointer none))) (by kernel_rfl) (by exact HW.out.cell 1) (fun hHeld => ?_)
          obtain ⟨w21, hw⟩ : ∃ y, w20.drew = y := ⟨_, rfl⟩
          have u : Upd [] w20 w21 := by rw [← hw]; exact (Upd.refl [] _).drew
          rw [hw] at hHeld ⊢
          clear hw
          have HP21 := hide (HP.out.step u (by simp))
          clear u HW HP
          refine wpAnyH_take (i := 0) (oi := ?oi0M47) (v := ?v0M47) ?oi0_0M47 (by kernel_rfl) ?ff0M47 ?rr0M47 ?hq0M47 (Or.inl ⟨?hw0M47, ?hy0M47⟩) (by assumption) ?rest0M47
          case oi0_0M47 => conv => lhs; whnf; arg 1; whnf
          case hq0M47 => exact fun _ _ _ h => h
          case ff0M47 | rr0M47 => kernel_rfl
          case hw0M47 => rfl
          case hy0M47 => intro w hSw; (try dsimp only at hSw); first | (go_simp; done) | (go_simp; with_reducible rfl)
          try simp only [Act.put, List.setIfInBounds_toArray, List.set_cons_zero, List.set_cons_succ]
          refine wpAnyH_take (i := 1) (oi := ?oi1M47) (v := ?v1M47) ?oi0_1M47 (by kernel_rfl) ?ff1M47 ?rr1M47 ?hq1M47 (Or.inl ⟨?hw1M47, ?hy1M47⟩) (by assumption) ?rest1M47
          case oi0_1M47 => conv => lhs; whnf; arg 1; whnf
          case hq1M47 => exact fun _ _ _ h => h
          case ff1M47 | rr1M47 => kernel_rfl
          case hw1M47 => rfl
          case hy1M47 => intro w hSw; (try dsimp only at hSw); first | (go_simp; done) | (go_simp; with_reducible rfl)
          try simp only [Act.put, List.setIfInBounds_toArray, List.set_cons_zero, List.set_cons_succ]
          refine wpAnyH_take (i := 2) (oi := ?oi2M47) (v := ?v2M47) ?oi0_2M47 (by kernel_rfl) ?ff2M47 ?rr2M47 ?hq2M47 (Or.inl ⟨?hw2M47, ?hy2M47⟩) (by assumption) ?rest2M47
          case oi0_2M47 => conv => lhs; whnf; arg 1; whnf
          case hq2M47 => exact fun _ _ _ h => h
          case ff2M47 | rr2M47 => kernel_rfl
          case hw2M47 => rfl
          case hy2M47 => intro w hSw; (try dsimp only at hSw); first | (go_simp; done) | (go_simp; with_reducible rfl)
          try simp only [Act.put, List.setIfInBounds_toArray, List.set_cons_zero, List.set_cons_succ]
          refine wpAnyH_take (i := 3) (oi := ?oi3M47) (v := ?v3M47) ?oi0_3M47 (by kernel_rfl) ?ff3M47 ?rr3M47 ?hq3M47 (Or.inl ⟨?hw3M47, ?hy3M47⟩) (by assumption) ?rest3M47
          case oi0_3M47 => conv => lhs; whnf; arg 1; whnf
          case hq3M47 => exact fun _ _ _ h => h
          case ff3M47 | rr3M47 => kernel_rfl
          case hw3M47 => rfl
          case hy3M47 => intro w hSw; (try dsimp only at hSw); first | (go_simp; done) | (go_simp; with_reducible rfl)
          try simp only [Act.put, List.setIfInBounds_toArray, List.set_cons_zero, List.set_cons_succ]
          refine wpAnyH_take (i := 4) (oi := ?oi4M47) (v := ?v4M47) ?oi0_4M47 (by kernel_rfl) ?ff4M47 ?rr4M47 ?hq4M47 (Or.inl ⟨?hw4M47, ?hy4M47⟩) (by assumption) ?rest4M47
          case oi0_4M47 => conv => lhs; whnf; arg 1; whnf
          case hq4M47 => exact fun _ _ _ h => h
          case ff4M47 | rr4M47 => kernel_rfl
          case hw4M47 => rfl
          case hy4M47 => intro w hSw; (try dsimp only at hSw); first | (go_simp; done) | (go_simp; with_reducible rfl)
          try simp only [Act.put, List.setIfInBounds_toArray, List.set_cons_zero, List.set_cons_succ]
          refine wpAnyH_take (i := 5) (oi := ?oi5M47) (v := ?v5M47) ?oi0_5M47 (by kernel_rfl) ?ff5M47 ?rr5M47 ?hq5M47 (Or.inl ⟨?hw5M47, ?hy5M47⟩) (by assumption) ?rest5M47
          case oi0_5M47 => conv => lhs; whnf; arg 1; whnf
          case hq5M47 => exact fun _ _ _ h => h
          case ff5M47 | rr5M47 => kernel_rfl
          case hw5M47 => rfl
          case hy5M47 => intro w hSw; (try dsimp only at hSw); first | (go_simp; done) | (go_simp; with_reducible rfl)
          try simp only [Act.put, List.setIfInBounds_toArray, List.set_cons_zero, List.set_cons_succ]
          refine wpAnyH_take (i := 6) (oi := ?oi6M47) (v := ?v6M47) ?oi0_6M47 (by kernel_rfl) ?ff6M47 ?rr6M47 ?hq6M47 (Or.inl ⟨?hw6M47, ?hy6M47⟩) (by assumption) ?rest6M47
          case oi0_6M47 => conv => lhs; whnf; arg 1; whnf
          case hq6M47 => exact fun _ _ _ h => h
          case ff6M47 | rr6M47 => kernel_rfl
          case hw6M47 => rfl
          case hy6M47 => intro w hSw; (try dsimp only at hSw); first | (go_simp; done) | (go_simp; with_reducible rfl)
          try simp only [Act.put, List.setIfInBounds_toArray, List.set_cons_zero, List.set_cons_succ]
          refine wpAnyH_take (i := 7) (oi := ?oi7M47) (v := ?v7M47) ?oi0_7M47 (by kernel_rfl) ?ff7M47 ?rr7M47 ?hq7M47 (Or.inl ⟨?hw7M47, ?hy7M47⟩) (by assumption) ?rest7M47
          case oi0_7M47 => conv => lhs; whnf; arg 1; whnf
          case hq7M47 => exact fun _ _ _ h => h
          case ff7M47 | rr7M47 => kernel_rfl
          case hw7M47 => rfl
          case hy7M47 => intro w hSw; (try dsimp only at hSw); first | (go_simp; done) | (go_simp; with_reducible rfl)
          try simp only [Act.put, List.setIfInBounds_toArray, List.set_cons_zero, List.set_cons_succ]
          refine wpAnyH_take (i := 8) (oi := ?oi8M47) (v := ?v8M47) ?oi0_8M47 (by kernel_rfl) ?ff8M47 ?rr8M47 ?hq8M47 (Or.inl ⟨?hw8M47, ?hy8M47⟩) (by assumption) ?rest8M47
          case oi0_8M47 => conv => lhs; whnf; arg 1; whnf
          case hq8M47 => exact fun _ _ _ h => h
          case ff8M47 | rr8M47 => kernel_rfl
          case hw8M47 => rfl
          case hy8M47 => intro w hSw; (try dsimp only at hSw); first | (go_simp; done) | (go_simp; with_reducible rfl)
          try simp only [Act.put, List.setIfInBounds_toArray, List.set_cons_zero, List.set_cons_succ]
          refine wpAnyH_take (i := 9) (oi := ?oi9M47) (v := ?v9M47) ?oi0_9M47 (by kernel_rfl) ?ff9M47 ?rr9M47 ?hq9M47 (Or.inl ⟨?hw9M47, ?hy9M47⟩) (by assumption) ?rest9M47
          case oi0_9M47 => conv => lhs; whnf; arg 1; whnf
          case hq9M47 => exact fun _ _ _ h => h
          case ff9M47 | rr9M47 => kernel_rfl
          case hw9M47 => rfl
          case hy9M47 => intro w hSw; (try dsimp only at hSw); first | (go_simp; done) | (go_simp; with_reducible rfl)
          try simp only [Act.put, List.setIfInBounds_toArray, List.set_cons_zero, List.set_cons_succ]
          refine wpAnyH_take (i := 10) (oi := ?oi10M47) (v := ?v10M47) ?oi0_10M47 (by kernel_rfl) ?ff10M47 ?rr10M47 ?hq10M47 (Or.inl ⟨?hw10M47, ?hy10M47⟩) (by assumption) ?rest10M47
          case oi0_10M47 => conv => lhs; whnf; arg 1; whnf
          case hq10M47 => exact fun _ _ _ h => h
          case ff10M47 | rr10M47 => kernel_rfl
          case hw10M47 => rfl
          case hy10M47 => intro w hSw; (try dsimp only at hSw); first | (go_simp; done) | (go_simp; with_reducible rfl)
          try simp only [Act.put, List.setIfInBounds_toArray, List.set_cons_zero, List.set_cons_succ]
          refine wpAnyH_take (i := 11) (oi := ?oi11M48) (v := undef) ?oi0_11M48 (by kernel_rfl) ?ff11M48 ?rr11M48 ?hq11M48 (Or.inr ⟨?hw11M48, rfl⟩) (by assumption) ?rest11M48
          case oi0_11M48 => conv => lhs; whnf; arg 1; whnf
          case hq11M48 => exact fun _ _ _ h => h
          case ff11M48 | rr11M48 => kernel_rfl
          case hw11M48 => rfl
          try simp only [Act.put, List.setIfInBounds_toArray, List.set_cons_zero, List.set_cons_succ]
          refine wpAnyH_take (i := 12) (oi := ?oi12M48) (v := undef) ?oi0_12M48 (by kernel_rfl) ?ff12M48 ?rr12M48 ?hq12M48 (Or.inr ⟨?hw12M48, rfl⟩) (by assumption) ?rest12M48
          case oi0_12M48 => conv => lhs; whnf; arg 1; whnf
          case hq12M48 => exact fun _ _ _ h => h
          case ff12M48 | rr12M48 => kernel_rfl
          case hw12M48 => rfl
          try simp only [Act.put, List.setIfInBounds_toArray, List.set_cons_zero, List.set_cons_succ]
          refine wpAnyH_take (i := 13) (oi := ?oi13M48) (v := undef) ?oi0_13M48 (by kernel_rfl) ?ff13M48 ?rr13M48 ?hq13M48 (Or.inr ⟨?hw13M48, rfl⟩) (by assumption) ?rest13M48
          case oi0_13M48 => conv => lhs; whnf; arg 1; whnf
          case hq13M48 => exact fun _ _ _ h => h
          case ff13M48 | rr13M48 => kernel_rfl
          case hw13M48 => rfl
          try simp only [Act.put, List.setIfInBounds_toArray, List.set_cons_zero, List.set_cons_succ]
          refine wpAnyH_take (i := 14) (oi := ?oi14M48) (v := undef) ?oi0_14M48 (by kernel_rfl) ?ff14M48 ?rr14M48 ?hq14M48 (Or.inr ⟨?hw14M48, rfl⟩) (by assumption) ?rest14M48
          case oi0_14M48 => conv => lhs; whnf; arg 1; whnf
          case hq14M48 => exact fun _ _ _ h => h
          case ff14M48 | rr14M48 => kernel_rfl
          case hw14M48 => rfl
          try simp only [Act.put, List.setIfInBounds_toArray, List.set_cons_zero, List.set_cons_succ]
          refine wpAnyH_take (i := 16) (oi := ?oi16M48) (v := undef) ?oi0_16M48 (by kernel_rfl) ?ff16M48 ?rr16M48 ?hq16M48 (Or.inr ⟨?hw16M48, rfl⟩) (by assumption) ?rest16M48
          case oi0_16M48 => conv => lhs; whnf; arg 1; whnf
          case hq16M48 => exact fun _ _ _ h => h
          case ff16M48 | rr16M48 => kernel_rfl
          case hw16M48 => rfl
          try simp only [Act.put, List.setIfInBounds_toArray, List.set_cons_zero, List.set_cons_succ]
          refine wpAnyH_take (i := 17) (oi := ?oi17M48) (v := undef) ?oi0_17M48 (by kernel_rfl) ?ff17M48 ?rr17M48 ?hq17M48 (Or.inr ⟨?hw17M48, rfl⟩) (by assumption) ?rest17M48
          case oi0_17M48 => conv => lhs; whnf; arg 1; whnf
          case hq17M48 => exact fun _ _ _ h => h
          case ff17M48 | rr17M48 => kernel_rfl
          case hw17M48 => rfl
          try simp only [Act.put, List.setIfInBounds_toArray, List.set_cons_zero, List.set_cons_succ]
          refine wpAnyH_take (i := 18) (oi := ?oi18M48) (v := undef) ?oi0_18M48 (by kernel_rfl) ?ff18M48 ?rr18M48 ?hq18M48 (Or.inr ⟨?hw18M48, rfl⟩) (by assumption) ?rest18M48
          case oi0_18M48 => conv => lhs; whnf; arg 1; whnf
          case hq18M48 => exact fun _ _ _ h => h
          case ff18M48 | rr18M48 => kernel_rfl
          case hw18M48 => rfl
          try simp only [Act.put, List.setIfInBounds_toArray, List.set_cons_zero, List.set_cons_succ]
          refine wpAnyH_take (i := 19) (oi := ?oi19M48) (v := undef) ?oi0_19M48 (by kernel_rfl) ?ff19M48 ?rr19M48 ?hq19M48 (Or.inr ⟨?hw19M48, rfl⟩) (by assumption) ?rest19M48
          case oi0_19M48 => conv => lhs; whnf; arg 1; whnf
          case hq19M48 => exact fun _ _ _ h => h
          case ff19M48 | rr19M48 => kernel_rfl
          case hw19M48 => rfl
          try simp only [Act.put, List.setIfInBounds_toArray, List.set_cons_zero, List.set_cons_succ]
          refine wpAnyH_take (i := 20) (oi := ?oi20M48) (v := undef) ?oi0_20M48 (by kernel_rfl) ?ff20M48 ?rr20M48 ?hq20M48 (Or.inr ⟨?hw20M48, rfl⟩) (by assumption) ?rest20M48
          case oi0_20M48 => conv => lhs; whnf; arg 1; whnf
          case hq20M48 => exact fun _ _ _ h => h
          case ff20M48 | rr20M48 => kernel_rfl
          case hw20M48 => rfl
          try simp only [Act.put, List.setIfInBounds_toArray, List.set_cons_zero, List.set_cons_succ]
          refine wpAnyH_take (i := 21) (oi := ?oi21M48) (v := undef) ?oi0_21M48 (by kernel_rfl) ?ff21M48 ?rr21M48 ?hq21M48 (Or.inr ⟨?hw21M48, rfl⟩) (by assumption) ?rest21M48
          case oi0_21M48 => conv => lhs; whnf; arg 1; whnf
          case hq21M48 => exact fun _ _ _ h => h
          case ff21M48 | rr21M48 => kernel_rfl
          case hw21M48 => rfl
          try simp only [Act.put, List.setIfInBounds_toArray, List.set_cons_zero, List.set_cons_succ]
          refine wpAnyH_take (i := 22) (oi := ?oi22M48) (v := undef) ?oi0_22M48 (by kernel_rfl) ?ff22M48 ?rr22M48 ?hq22M48 (Or.inr ⟨?hw22M48, rfl⟩) (by assumption) ?rest22M48
          case oi0_22M48 => conv => lhs; whnf; arg 1; whnf
          case hq22M48 => exact fun _ _ _ h => h
          case ff22M48 | rr22M48 => kernel_rfl
          case hw22M48 => rfl
          try simp only [Act.put, List.setIfInBounds_toArray, List.set_cons_zero, List.set_cons_succ]
          refine wpAnyH_ready (rs := [15]) (by kernel_rfl) (by simp) (AllReadyH.cons (o := ?oi15M49) ?oi0_15M49 (fun K hK => ?_) AllReadyH.nil)
          case oi0_15M49 => conv => lhs; whnf; arg 1; whnf
          rw [if_neg (by first | (simp [Region.wanted, yielded]; done) | (simp [Region.wanted, yielded]; exact fun h => nomatch (show (none : Option Bool) = some true from h)) | (simp [Region.wanted, yielded]; exact fun h => nomatch (show (none : Option Bool) = some false from h)))]
          refine hK.out _ _ (by assumption) (fun _ => ?_)
          clear hK K
          try simp only [Act.put, List.setIfInBounds_toArray, List.set_cons_zero, List.set_cons_succ]
          refine wpAnyH_ready (rs := [23]) (by kernel_rfl) (by simp) (AllReadyH.cons (o := ?oi23M50) ?oi0_23M50 (fun K hK => ?_) AllReadyH.nil)
          case oi0_23M50 => conv => lhs; whnf; arg 1; whnf
          rw [if_neg (by first | (simp [Region.wanted, yielded]; done) | (simp [Region.wanted, yielded]; exact fun h => nomatch (show (none : Option Bool) = some true from h)) | (simp [Region.wanted, yielded]; exact fun h => nomatch (show (none : Option Bool) = some false from h)))]
          refine hK.out _ _ (by assumption) (fun _ => ?_)
          clear hK K
          try simp only [Act.put, List.setIfInBounds_toArray, List.set_cons_zero, List.set_cons_succ]
          refine wpAnyH_take (i := 24) (oi := ?oi24M51) (v := undef) ?oi0_24M51 (by kernel_rfl) ?ff24M51 ?rr24M51 ?hq24M51 (Or.inr ⟨?hw24M51, rfl⟩) (by assumption) ?rest24M51
          case oi0_24M51 => conv => lhs; whnf; arg 1; whnf
          case hq24M51 => exact fun _ _ _ h => h
          case ff24M51 | rr24M51 => kernel_rfl
          case hw24M51 => rfl
          try simp only [Act.put, List.setIfInBounds_toArray, List.set_cons_zero, List.set_cons_succ]
          refine wpAnyH_take (i := 25) (oi := ?oi25M51) (v := undef) ?oi0_25M51 (by kernel_rfl) ?ff25M51 ?rr25M51 ?hq25M51 (Or.inr ⟨?hw25M51, rfl⟩) (by assumption) ?rest25M51
          case oi0_25M51 => conv => lhs; whnf; arg 1; whnf
          case hq25M51 => exact fun _ _ _ h => h
          case ff25M51 | rr25M51 => kernel_rfl
          case hw25M51 => rfl
          try simp only [Act.put, List.setIfInBounds_toArray, List.set_cons_zero, List.set_cons_succ]
          refine wpAnyH_take (i := 26) (oi := ?oi26M51) (v := undef) ?oi0_26M51 (by kernel_rfl) ?ff26M51 ?rr26M51 ?hq26M51 (Or.inr ⟨?hw26M51, rfl⟩) (by assumption) ?rest26M51
          case oi0_26M51 => conv => lhs; whnf; arg 1; whnf
          case hq26M51 => exact fun _ _ _ h => h
          case ff26M51 | rr26M51 => kernel_rfl
          case hw26M51 => rfl
          try simp only [Act.put, List.setIfInBounds_toArray, List.set_cons_zero, List.set_cons_succ]
          refine wpAnyH_take (i := 27) (oi := ?oi27M51) (v := undef) ?oi0_27M51 (by kernel_rfl) ?ff27M51 ?rr27M51 ?hq27M51 (Or.inr ⟨?hw27M51, rfl⟩) (by assumption) ?rest27M51
          case oi0_27M51 => conv => lhs; whnf; arg 1; whnf
          case hq27M51 => exact fun _ _ _ h => h
          case ff27M51 | rr27M51 => kernel_rfl
          case hw27M51 => rfl
          try simp only [Act.put, List.setIfInBounds_toArray, List.set_cons_zero, List.set_cons_succ]
          refine wpAnyH_take (i := 28) (oi := ?oi28M51) (v := undef) ?oi0_28M51 (by kernel_rfl) ?ff28M51 ?rr28M51 ?hq28M51 (Or.inr ⟨?hw28M51, rfl⟩) (by assumption) ?rest28M51
          case oi0_28M51 => conv => lhs; whnf; arg 1; whnf
          case hq28M51 => exact fun _ _ _ h => h
          case ff28M51 | rr28M51 => kernel_rfl
          case hw28M51 => rfl
          try simp only [Act.put, List.setIfInBounds_toArray, List.set_cons_zero, List.set_cons_succ]
          refine wpAnyH_take (i := 30) (oi := ?oi30M51) (v := undef) ?oi0_30M51 (by kernel_rfl) ?ff30M51 ?rr30M51 ?hq30M51 (Or.inr ⟨?hw30M51, rfl⟩) (by assumption) ?rest30M51
          case oi0_30M51 => conv => lhs; whnf; arg 1; whnf
          case hq30M51 => exact fun _ _ _ h => h
          case ff30M51 | rr30M51 => kernel_rfl
          case hw30M51 => rfl
          try simp only [Act.put, List.setIfInBounds_toArray, List.set_cons_zero, List.set_cons_succ]
          refine wpAnyH_take (i := 31) (oi := ?oi31M51) (v := undef) ?oi0_31M51 (by kernel_rfl) ?ff31M51 ?rr31M51 ?hq31M51 (Or.inr ⟨?hw31M51, rfl⟩) (by assumption) ?rest31M51
          case oi0_31M51 => conv => lhs; whnf; arg 1; whnf
          case hq31M51 => exact fun _ _ _ h => h
          case ff31M51 | rr31M51 => kernel_rfl
          case hw31M51 => rfl
          try simp only [Act.put, List.setIfInBounds_toArray, List.set_cons_zero, List.set_cons_succ]
          refine wpAnyH_take (i := 32) (oi := ?oi32M51) (v := undef) ?oi0_32M51 (by kernel_rfl) ?ff32M51 ?rr32M51 ?hq32M51 (Or.inr ⟨?hw32M51, rfl⟩) (by assumption) ?rest32M51
          case oi0_32M51 => conv => lhs; whnf; arg 1; whnf
          case hq32M51 => exact fun _ _ _ h => h
          case ff32M51 | rr32M51 => kernel_rfl
          case hw32M51 => rfl
          try simp only [Act.put, List.setIfInBounds_toArray, List.set_cons_zero, List.set_cons_succ]
          refine wpAnyH_take (i := 33) (oi := ?oi33M51) (v := undef) ?oi0_33M51 (by kernel_rfl) ?ff33M51 ?rr33M51 ?hq33M51 (Or.inr ⟨?hw33M51, rfl⟩) (by assumption) ?rest33M51
          case oi0_33M51 => conv => lhs; whnf; arg 1; whnf
          case hq33M51 => exact fun _ _ _ h => h
          case ff33M51 | rr33M51 => kernel_rfl
          case hw33M51 => rfl
          try simp only [Act.put, List.setIfInBounds_toArray, List.set_cons_zero, List.set_cons_succ]
          refine wpAnyH_ready (rs := [29]) (by kernel_rfl) (by simp) (AllReadyH.cons (o := ?oi29M52) ?oi0_29M52 (fun K hK => ?_) AllReadyH.nil)
          case oi0_29M52 => conv => lhs; whnf; arg 1; whnf
          rw [if_neg (by first | (simp [Region.wanted, yielded]; done) | (simp [Region.wanted, yielded]; exact fun h => nomatch (show (none : Option Bool) = some true from h)) | (simp [Region.wanted, yielded]; exact fun h => nomatch (show (none : Option Bool) = some false from h)))]
          refine hK.out _ _ (by assumption) (fun _ => ?_)
          clear hK K
          try simp only [Act.put, List.setIfInBounds_toArray, List.set_cons_zero, List.set_cons_succ]
          refine wpAnyH_ready (rs := [34]) (by kernel_rfl) (by simp) (AllReadyH.cons (o := ?oi34M53) ?oi0_34M53 (fun K hK => ?_) AllReadyH.nil)
          case oi0_34M53 => conv => lhs; whnf; arg 1; whnf
          rw [if_neg (by first | (simp [Region.wanted, yielded]; done) | (simp [Region.wanted, yielded]; exact fun h => nomatch (show (none : Option Bool) = some true from h)) | (simp [Region.wanted, yielded]; exact fun h => nomatch (show (none : Option Bool) = some false from h)))]
          refine hK.out _ _ (by assumption) (fun _ => ?_)
          clear hK K
          try simp only [Act.put, List.setIfInBounds_toArray, List.set_cons_zero, List.set_cons_succ]
          refine wpAnyH_take (i := 35) (oi := ?oi35M54) (v := undef) ?oi0_35M54 (by kernel_rfl) ?ff35M54 ?rr35M54 ?hq35M54 (Or.inr ⟨?hw35M54, rfl⟩) (by assumption) ?rest35M54
          case oi0_35M54 => conv => lhs; whnf; arg 1; whnf
          case hq35M54 => exact fun _ _ _ h => h
          case ff35M54 | rr35M54 => kernel_rfl
          case hw35M54 => rfl
          try simp only [Act.put, List.setIfInBounds_toArray, List.set_cons_zero, List.set_cons_succ]
          refine wpAnyH_take (i := 36) (oi := ?oi36M54) (v := undef) ?oi0_36M54 (by kernel_rfl) ?ff36M54 ?rr36M54 ?hq36M54 (Or.inr ⟨?hw36M54, rfl⟩) (by assumption) ?rest36M54
          case oi0_36M54 => conv => lhs; whnf; arg 1; whnf
          case hq36M54 => exact fun _ _ _ h => h
          case ff36M54 | rr36M54 => kernel_rfl
          case hw36M54 => rfl
          try simp only [Act.put, List.setIfInBounds_toArray, List.set_cons_zero, List.set_cons_succ]
          refine wpAnyH_take (i := 37) (oi := ?oi37M54) (v := undef) ?oi0_37M54 (by kernel_rfl) ?ff37M54 ?rr37M54 ?hq37M54 (Or.inr ⟨?hw37M54, rfl⟩) (by assumption) ?rest37M54
          case oi0_37M54 => conv => lhs; whnf; arg 1; whnf
          case hq37M54 => exact fun _ _ _ h => h
          case ff37M54 | rr37M54 => kernel_rfl
          case hw37M54 => rfl
          try simp only [Act.put, List.setIfInBounds_toArray, List.set_cons_zero, List.set_cons_succ]
          refine wpAnyH_take (i := 38) (oi := ?oi38M54) (v := undef) ?oi0_38M54 (by kernel_rfl) ?ff38M54 ?rr38M54 ?hq38M54 (Or.inr ⟨?hw38M54, rfl⟩) (by assumption) ?rest38M54
          case oi0_38M54 => conv => lhs; whnf; arg 1; whnf
          case hq38M54 => exact fun _ _ _ h => h
          case ff38M54 | rr38M54 => kernel_rfl
          case hw38M54 => rfl
          try simp only [Act.put, List.setIfInBounds_toArray, List.set_cons_zero, List.set_cons_succ]
          refine wpAnyH_take (i := 39) (oi := ?oi39M54) (v := undef) ?oi0_39M54 (by kernel_rfl) ?ff39M54 ?rr39M54 ?hq39M54 (Or.inr ⟨?hw39M54, rfl⟩) (by assumption) ?rest39M54
          case oi0_39M54 => conv => lhs; whnf; arg 1; whnf
          case hq39M54 => exact fun _ _ _ h => h
          case ff39M54 | rr39M54 => kernel_rfl
          case hw39M54 => rfl
          try simp only [Act.put, List.setIfInBounds_toArray, List.set_cons_zero, List.set_cons_succ]
          refine wpAnyH_take (i := 40) (oi := ?oi40M54) (v := undef) ?oi0_40M54 (by kernel_rfl) ?ff40M54 ?rr40M54 ?hq40M54 (Or.inr ⟨?hw40M54, rfl⟩) (by assumption) ?rest40M54
          case oi0_40M54 => conv => lhs; whnf; arg 1; whnf
          case hq40M54 => exact fun _ _ _ h => h
          case ff40M54 | rr40M54 => kernel_rfl
          case hw40M54 => rfl
          try simp only [Act.put, List.setIfInBounds_toArray, List.set_cons_zero, List.set_cons_succ]
          refine wpAnyH_take (i := 41) (oi := ?oi41M54) (v := undef) ?oi0_41M54 (by kernel_rfl) ?ff41M54 ?rr41M54 ?hq41M54 (Or.inr ⟨?hw41M54, rfl⟩) (by assumption) ?rest41M54
          case oi0_41M54 => conv => lhs; whnf; arg 1; whnf
          case hq41M54 => exact fun _ _ _ h => h
          case ff41M54 | rr41M54 => kernel_rfl
          case hw41M54 => rfl
          try simp only [Act.put, List.setIfInBounds_toArray, List.set_cons_zero, List.set_cons_succ]
          refine wpAnyH_take (i := 43) (oi := ?oi43M54) (v := undef) ?oi0_43M54 (by kernel_rfl) ?ff43M54 ?rr43M54 ?hq43M54 (Or.inr ⟨?hw43M54, rfl⟩) (by assumption) ?rest43M54
          case oi0_43M54 => conv => lhs; whnf; arg 1; whnf
          case hq43M54 => exact fun _ _ _ h => h
          case ff43M54 | rr43M54 => kernel_rfl
          case hw43M54 => rfl
          try simp only [Act.put, List.setIfInBounds_toArray, List.set_cons_zero, List.set_cons_succ]
          refine wpAnyH_take (i := 44) (oi := ?oi44M54) (v := undef) ?oi0_44M54 (by kernel_rfl) ?ff44M54 ?rr44M54 ?hq44M54 (Or.inr ⟨?hw44M54, rfl⟩) (by assumption) ?rest44M54
          case oi0_44M54 => conv => lhs; whnf; arg 1; whnf
          case hq44M54 => exact fun _ _ _ h => h
          case ff44M54 | rr44M54 => kernel_rfl
          case hw44M54 => rfl
          try simp only [Act.put, List.setIfInBounds_toArray, List.set_cons_zero, List.set_cons_succ]
          refine wpAnyH_take (i := 45) (oi := ?oi45M54) (v := undef) ?oi0_45M54 (by kernel_rfl) ?ff45M54 ?rr45M54 ?hq45M54 (Or.inr ⟨?hw45M54, rfl⟩) (by assumption) ?rest45M54
          case oi0_45M54 => conv => lhs; whnf; arg 1; whnf
          case hq45M54 => exact fun _ _ _ h => h
          case ff45M54 | rr45M54 => kernel_rfl
          case hw45M54 => rfl
          try simp only [Act.put, List.setIfInBounds_toArray, List.set_cons_zero, List.set_cons_succ]
          refine wpAnyH_take (i := 46) (oi := ?oi46M54) (v := undef) ?oi0_46M54 (by kernel_rfl) ?ff46M54 ?rr46M54 ?hq46M54 (Or.inr ⟨?hw46M54, rfl⟩) (by assumption) ?rest46M54
          case oi0_46M54 => conv => lhs; whnf; arg 1; whnf
          case hq46M54 => exact fun _ _ _ h => h
          case ff46M54 | rr46M54 => kernel_rfl
          case hw46M54 => rfl
          try simp only [Act.put, List.setIfInBounds_toArray, List.set_cons_zero, List.set_cons_succ]
          refine wpAnyH_ready (rs := [42]) (by kernel_rfl) (by simp) (AllReadyH.cons (o := ?oi42M55) ?oi0_42M55 (fun K hK => ?_) AllReadyH.nil)
          case oi0_42M55 => conv => lhs; whnf; arg 1; whnf
          rw [if_neg (by first | (simp [Region.wanted, yielded]; done) | (simp [Region.wanted, yielded]; exact fun h => nomatch (show (none : Option Bool) = some true from h)) | (simp [Region.wanted, yielded]; exact fun h => nomatch (show (none : Option Bool) = some false from h)))]
          refine hK.out _ _ (by assumption) (fun _ => ?_)
          clear hK K
          try simp only [Act.put, List.setIfInBounds_toArray, List.set_cons_zero, List.set_cons_succ]
          refine wpAnyH_ready (rs := [47]) (by kernel_rfl) (by simp) (AllReadyH.cons (o := ?oi47M56) ?oi0_47M56 (fun K hK => ?_) AllReadyH.nil)
          case oi0_47M56 => conv => lhs; whnf; arg 1; whnf
          rw [if_neg (by first | (simp [Region.wanted, yielded]; done) | (simp [Region.wanted, yielded]; exact fun h => nomatch (show (none : Option Bool) = some true from h)) | (simp [Region.wanted, yielded]; exact fun h => nomatch (show (none : Option Bool) = some false from h)))]
          refine hK.out _ _ (by assumption) (fun _ => ?_)
          clear hK K
          try simp only [Act.put, List.setIfInBounds_toArray, List.set_cons_zero, List.set_cons_succ]
          refine wpAnyH_take (i := 48) (oi := ?oi48M57) (v := undef) ?oi0_48M57 (by kernel_rfl) ?ff48M57 ?rr48M57 ?hq48M57 (Or.inr ⟨?hw48M57, rfl⟩) (by assumption) ?rest48M57
          case oi0_48M57 => conv => lhs; whnf; arg 1; whnf
          case hq48M57 => exact fun _ _ _ h => h
          case ff48M57 | rr48M57 => kernel_rfl
          case hw48M57 => rfl
          try simp only [Act.put, List.setIfInBounds_toArray, List.set_cons_zero, List.set_cons_succ]
          refine wpAnyH_take (i := 49) (oi := ?oi49M57) (v := undef) ?oi0_49M57 (by kernel_rfl) ?ff49M57 ?rr49M57 ?hq49M57 (Or.inr ⟨?hw49M57, rfl⟩) (by assumption) ?rest49M57
          case oi0_49M57 => conv => lhs; whnf; arg 1; whnf
          case hq49M57 => exact fun _ _ _ h => h
          case ff49M57 | rr49M57 => kernel_rfl
          case hw49M57 => rfl
          try simp only [Act.put, List.setIfInBounds_toArray, List.set_cons_zero, List.set_cons_succ]
          refine wpAnyH_take (i := 50) (oi := ?oi50M57) (v := undef) ?oi0_50M57 (by kernel_rfl) ?ff50M57 ?rr50M57 ?hq50M57 (Or.inr ⟨?hw50M57, rfl⟩) (by assumption) ?rest50M57
          case oi0_50M57 => conv => lhs; whnf; arg 1; whnf
          case hq50M57 => exact fun _ _ _ h => h
          case ff50M57 | rr50M57 => kernel_rfl
          case hw50M57 => rfl
          try simp only [Act.put, List.setIfInBounds_toArray, List.set_cons_zero, List.set_cons_succ]
          refine wpAnyH_take (i := 51) (oi := ?oi51M58) (v := ?v51M58) ?oi0_51M58 (by kernel_rfl) ?ff51M58 ?rr51M58 ?hq51M58 (Or.inl ⟨?hw51M58, ?hy51M58⟩) (by assumption) ?rest51M58
          case oi0_51M58 => conv => lhs; whnf; arg 1; whnf
          case hq51M58 => exact fun _ _ _ h => h
          case ff51M58 | rr51M58 => kernel_rfl
          case hw51M58 => rfl
          case hy51M58 => intro w hSw; (try dsimp only at hSw); first | (go_simp; done) | (go_simp; with_reducible rfl)
          try simp only [Act.put, List.setIfInBounds_toArray, List.set_cons_zero, List.set_cons_succ]
          refine wpAnyH_take (i := 52) (oi := ?oi52M58) (v := ?v52M58) ?oi0_52M58 (by kernel_rfl) ?ff52M58 ?rr52M58 ?hq52M58 (Or.inl ⟨?hw52M58, ?hy52M58⟩) (by assumption) ?rest52M58
          case oi0_52M58 => conv => lhs; whnf; arg 1; whnf
          case hq52M58 => exact fun _ _ _ h => h
          case ff52M58 | rr52M58 => kernel_rfl
          case hw52M58 => rfl
          case hy52M58 => intro w hSw; (try dsimp only at hSw); first | (go_simp; done) | (go_simp; with_reducible rfl)
          try simp only [Act.put, List.setIfInBounds_toArray, List.set_cons_zero, List.set_cons_succ]
          refine wpAnyH_take (i := 53) (oi := ?oi53M58) (v := ?v53M58) ?oi0_53M58 (by kernel_rfl) ?ff53M58 ?rr53M58 ?hq53M58 (Or.inl ⟨?hw53M58, ?hy53M58⟩) (by assumption) ?rest53M58
          case oi0_53M58 => conv => lhs; whnf; arg 1; whnf
          case hq53M58 => exact fun _ _ _ h => h
          case ff53M58 | rr53M58 => kernel_rfl
          case hw53M58 => rfl
          case hy53M58 => intro w hSw; (try dsimp only at hSw); first | (go_simp; done) | (go_simp; with_reducible rfl)
          try simp only [Act.put, List.setIfInBounds_toArray, List.set_cons_zero, List.set_cons_succ]
          refine wpAnyH_done (by kernel_rfl) ?_ _
          clear hHeld
          go_wp2_with fail
          go_ret
          exact ⟨rfl, HP21.out.below⟩
        case inr =>
          obtain ⟨A, c, hx1, hx2⟩ := pj_list HP.out
          obtain ⟨rn, hrn⟩ : ∃ y, T.recs.length = y := ⟨_, rfl⟩
          have hrm : rn ≤ 4194304 := by have := hT.2.2; have := HP.out.ok.max; omega
          rw [hrn] at hx1 hx2
          have HRN := hide hrn
          have HTS := hide hts
          clear hrn hts hT
          refine wp_region_held_drew (S := (fun w' => w'.cell? ⟨wb, 0, none⟩ = some (.pointer (some ⟨g, 0, none⟩)) ∧ w'.cell? ⟨wb, 1, none⟩ = some (.pointer (some ⟨jc, 0, none⟩)) ∧ w'.cell? ⟨wb, 2, none⟩ = some (.pointer (some ⟨x, 0, none⟩)) ∧ w'.cell? ⟨wb, 3, none⟩ = some (.pointer (some ⟨xc, 0, none⟩)) ∧ w'.cell? ⟨xc, 1, none⟩ = some (.slice A rn c))) (by kernel_rfl) (by exact ⟨HW.out.cell 0, HW.out.cell 1, HW.out.cell 2, HW.out.cell 3, hx1⟩) (fun hHeld => ?_)
          obtain ⟨w21, hw⟩ : ∃ y, w20.drew = y := ⟨_, rfl⟩
          have u : Upd [] w20 w21 := by rw [← hw]; exact (Upd.refl [] _).drew
          rw [hw] at hHeld ⊢
          clear hw
          have HX21 := hide (keepc _ _ _ _ u hx1)
          have HO21 := hide (own_kept hx2 u (by simp))
          have HW21 := hide (show WBlk w21 wb g x (jptr (some (jc, T, br))) (jptr (some (xc, T, br))) from keepB HW.out u)
          have HP21 := hide (HP.out.step u (by simp))
          clear u HW HP hx1 hx2
          refine wpAnyH_take (i := 0) (oi := ?oi0M61) (v := ?v0M61) ?oi0_0M61 (by kernel_rfl) ?ff0M61 ?rr0M61 ?hq0M61 (Or.inl ⟨?hw0M61, ?hy0M61⟩) (by assumption) ?rest0M61
          case oi0_0M61 => conv => lhs; whnf; arg 1; whnf
          case hq0M61 => exact fun _ _ _ h => h
          case ff0M61 | rr0M61 => kernel_rfl
          case hw0M61 => rfl
          case hy0M61 => intro w hSw; (try dsimp only at hSw); first | (go_simp; done) | (go_simp; with_reducible rfl)
          try simp only [Act.put, List.setIfInBounds_toArray, List.set_cons_zero, List.set_cons_succ]
          refine wpAnyH_take (i := 1) (oi := ?oi1M61) (v := ?v1M61) ?oi0_1M61 (by kernel_rfl) ?ff1M61 ?rr1M61 ?hq1M61 (Or.inl ⟨?hw1M61, ?hy1M61⟩) (by assumption) ?rest1M61
          case oi0_1M61 => conv => lhs; whnf; arg 1; whnf
          case hq1M61 => exact fun _ _ _ h => h
          case ff1M61 | rr1M61 => kernel_rfl
          case hw1M61 => rfl
          case hy1M61 => intro w hSw; (try dsimp only at hSw); first | (go_simp; done) | (go_simp; with_reducible rfl)
          try simp only [Act.put, List.setIfInBounds_toArray, List.set_cons_zero, List.set_cons_succ]
          refine wpAnyH_take (i := 2) (oi := ?oi2M61) (v := ?v2M61) ?oi0_2M61 (by kernel_rfl) ?ff2M61 ?rr2M61 ?hq2M61 (Or.inl ⟨?hw2M61, ?hy2M61⟩) (by assumption) ?rest2M61
          case oi0_2M61 => conv => lhs; whnf; arg 1; whnf
          case hq2M61 => exact fun _ _ _ h => h
          case ff2M61 | rr2M61 => kernel_rfl
          case hw2M61 => rfl
          case hy2M61 => intro w hSw; (try dsimp only at hSw); first | (go_simp; done) | (go_simp; with_reducible rfl)
          try simp only [Act.put, List.setIfInBounds_toArray, List.set_cons_zero, List.set_cons_succ]
          refine wpAnyH_take (i := 3) (oi := ?oi3M61) (v := ?v3M61) ?oi0_3M61 (by kernel_rfl) ?ff3M61 ?rr3M61 ?hq3M61 (Or.inl ⟨?hw3M61, ?hy3M61⟩) (by assumption) ?rest3M61
          case oi0_3M61 => conv => lhs; whnf; arg 1; whnf
          case hq3M61 => exact fun _ _ _ h => h
          case ff3M61 | rr3M61 => kernel_rfl
          case hw3M61 => rfl
          case hy3M61 => intro w hSw; (try dsimp only at hSw); first | (go_simp; done) | (go_simp; with_reducible rfl)
          try simp only [Act.put, List.setIfInBounds_toArray, List.set_cons_zero, List.set_cons_succ]
          refine wpAnyH_take (i := 4) (oi := ?oi4M61) (v := ?v4M61) ?oi0_4M61 (by kernel_rfl) ?ff4M61 ?rr4M61 ?hq4M61 (Or.inl ⟨?hw4M61, ?hy4M61⟩) (by assumption) ?rest4M61
          case oi0_4M61 => conv => lhs; whnf; arg 1; whnf
          case hq4M61 => exact fun _ _ _ h => h
          case ff4M61 | rr4M61 => kernel_rfl
          case hw4M61 => rfl
          case hy4M61 => intro w hSw; (try dsimp only at hSw); first | (go_simp; done) | (go_simp; with_reducible rfl)
          try simp only [Act.put, List.setIfInBounds_toArray, List.set_cons_zero, List.set_cons_succ]
          refine wpAnyH_take (i := 5) (oi := ?oi5M61) (v := ?v5M61) ?oi0_5M61 (by kernel_rfl) ?ff5M61 ?rr5M61 ?hq5M61 (Or.inl ⟨?hw5M61, ?hy5M61⟩) (by assumption) ?rest5M61
          case oi0_5M61 => conv => lhs; whnf; arg 1; whnf
          case hq5M61 => exact fun _ _ _ h => h
          case ff5M61 | rr5M61 => kernel_rfl
          case hw5M61 => rfl
          case hy5M61 => intro w hSw; (try dsimp only at hSw); first | (go_simp; done) | (go_simp; with_reducible rfl)
          try simp only [Act.put, List.setIfInBounds_toArray, List.set_cons_zero, List.set_cons_succ]
          refine wpAnyH_take (i := 6) (oi := ?oi6M61) (v := ?v6M61) ?oi0_6M61 (by kernel_rfl) ?ff6M61 ?rr6M61 ?hq6M61 (Or.inl ⟨?hw6M61, ?hy6M61⟩) (by assumption) ?rest6M61
          case oi0_6M61 => conv => lhs; whnf; arg 1; whnf
          case hq6M61 => exact fun _ _ _ h => h
          case ff6M61 | rr6M61 => kernel_rfl
          case hw6M61 => rfl
          case hy6M61 => intro w hSw; (try dsimp only at hSw); first | (go_simp; done) | (go_simp; with_reducible rfl)
          try simp only [Act.put, List.setIfInBounds_toArray, List.set_cons_zero, List.set_cons_succ]
          refine wpAnyH_take (i := 7) (oi := ?oi7M61) (v := ?v7M61) ?oi0_7M61 (by kernel_rfl) ?ff7M61 ?rr7M61 ?hq7M61 (Or.inl ⟨?hw7M61, ?hy7M61⟩) (by assumption) ?rest7M61
          case oi0_7M61 => conv => lhs; whnf; arg 1; whnf
          case hq7M61 => exact fun _ _ _ h => h
          case ff7M61 | rr7M61 => kernel_rfl
          case hw7M61 => rfl
          case hy7M61 => intro w hSw; (try dsimp only at hSw); first | (go_simp; done) | (go_simp; with_reducible rfl)
          try simp only [Act.put, List.setIfInBounds_toArray, List.set_cons_zero, List.set_cons_succ]
          refine wpAnyH_take (i := 8) (oi := ?oi8M61) (v := ?v8M61) ?oi0_8M61 (by kernel_rfl) ?ff8M61 ?rr8M61 ?hq8M61 (Or.inl ⟨?hw8M61, ?hy8M61⟩) (by assumption) ?rest8M61
          case oi0_8M61 => conv => lhs; whnf; arg 1; whnf
          case hq8M61 => exact fun _ _ _ h => h
          case ff8M61 | rr8M61 => kernel_rfl
          case hw8M61 => rfl
          case hy8M61 => intro w hSw; (try dsimp only at hSw); first | (go_simp; done) | (go_simp; with_reducible rfl)
          try simp only [Act.put, List.setIfInBounds_toArray, List.set_cons_zero, List.set_cons_succ]
          refine wpAnyH_take (i := 9) (oi := ?oi9M61) (v := ?v9M61) ?oi0_9M61 (by kernel_rfl) ?ff9M61 ?rr9M61 ?hq9M61 (Or.inl ⟨?hw9M61, ?hy9M61⟩) (by assumption) ?rest9M61
          case oi0_9M61 => conv => lhs; whnf; arg 1; whnf
          case hq9M61 => exact fun _ _ _ h => h
          case ff9M61 | rr9M61 => kernel_rfl
          case hw9M61 => rfl
          case hy9M61 => intro w hSw; (try dsimp only at hSw); first | (go_simp; done) | (go_simp; with_reducible rfl)
          try simp only [Act.put, List.setIfInBounds_toArray, List.set_cons_zero, List.set_cons_succ]
          refine wpAnyH_take (i := 10) (oi := ?oi10M61) (v := ?v10M61) ?oi0_10M61 (by kernel_rfl) ?ff10M61 ?rr10M61 ?hq10M61 (Or.inl ⟨?hw10M61, ?hy10M61⟩) (by assumption) ?rest10M61
          case oi0_10M61 => conv => lhs; whnf; arg 1; whnf
          case hq10M61 => exact fun _ _ _ h => h
          case ff10M61 | rr10M61 => kernel_rfl
          case hw10M61 => rfl
          case hy10M61 => intro w hSw; (try dsimp only at hSw); first | (go_simp; done) | (go_simp; with_reducible rfl)
          try simp only [Act.put, List.setIfInBounds_toArray, List.set_cons_zero, List.set_cons_succ]
          refine wpAnyH_take (i := 11) (oi := ?oi11M61) (v := ?v11M61) ?oi0_11M61 (by kernel_rfl) ?ff11M61 ?rr11M61 ?hq11M61 (Or.inl ⟨?hw11M61, ?hy11M61⟩) (by assumption) ?rest11M61
          case oi0_11M61 => conv => lhs; whnf; arg 1; whnf
          case hq11M61 => exact fun _ _ _ h => h
          case ff11M61 | rr11M61 => kernel_rfl
          case hw11M61 => rfl
          case hy11M61 => intro w hSw; (try dsimp only at hSw); first | (go_simp; done) | (go_simp; with_reducible rfl)
          try simp only [Act.put, List.setIfInBounds_toArray, List.set_cons_zero, List.set_cons_succ]
          refine wpAnyH_take (i := 12) (oi := ?oi12M61) (v := ?v12M61) ?oi0_12M61 (by kernel_rfl) ?ff12M61 ?rr12M61 ?hq12M61 (Or.inl ⟨?hw12M61, ?hy12M61⟩) (by assumption) ?rest12M61
          case oi0_12M61 => conv => lhs; whnf; arg 1; whnf
          case hq12M61 => exact fun _ _ _ h => h
          case ff12M61 | rr12M61 => kernel_rfl
          case hw12M61 => rfl
          case hy12M61 => intro w hSw; (try dsimp only at hSw); first | (go_simp; done) | (go_simp; with_reducible rfl)
          try simp only [Act.put, List.setIfInBounds_toArray, List.set_cons_zero, List.set_cons_succ]
          refine wpAnyH_take (i := 13) (oi := ?oi13M61) (v := ?v13M61) ?oi0_13M61 (by kernel_rfl) ?ff13M61 ?rr13M61 ?hq13M61 (Or.inl ⟨?hw13M61, ?hy13M61⟩) (by assumption) ?rest13M61
          case oi0_13M61 => conv => lhs; whnf; arg 1; whnf
          case hq13M61 => exact fun _ _ _ h => h
          case ff13M61 | rr13M61 => kernel_rfl
          case hw13M61 => rfl
          case hy13M61 => intro w hSw; (try dsimp only at hSw); first | (go_simp; done) | (go_simp; with_reducible rfl)
          try simp only [Act.put, List.setIfInBounds_toArray, List.set_cons_zero, List.set_cons_succ]
          refine wpAnyH_take (i := 14) (oi := ?oi14M61) (v := ?v14M61) ?oi0_14M61 (by kernel_rfl) ?ff14M61 ?rr14M61 ?hq14M61 (Or.inl ⟨?hw14M61, ?hy14M61⟩) (by assumption) ?rest14M61
          case oi0_14M61 => conv => lhs; whnf; arg 1; whnf
          case hq14M61 => exact fun _ _ _ h => h
          case ff14M61 | rr14M61 => kernel_rfl
          case hw14M61 => rfl
          case hy14M61 => intro w hSw; (try dsimp only at hSw); first | (go_simp; done) | (go_simp; with_reducible rfl)
          try simp only [Act.put, List.setIfInBounds_toArray, List.set_cons_zero, List.set_cons_succ]
          refine wpAnyH_take (i := 16) (oi := ?oi16M62) (v := ?v16M62) ?oi0_16M62 (by kernel_rfl) ?ff16M62 ?rr16M62 ?hq16M62 (Or.inl ⟨?hw16M62, ?hy16M62⟩) (by assumption) ?rest16M62
          case oi0_16M62 => conv => lhs; whnf; arg 1; whnf
          case hq16M62 => exact fun _ _ _ h => h
          case ff16M62 | rr16M62 => kernel_rfl
          case hw16M62 => rfl
          case hy16M62 => intro w hSw; (try dsimp only at hSw); first | (go_simp; done) | (go_simp; with_reducible rfl)
          try simp only [Act.put, List.setIfInBounds_toArray, List.set_cons_zero, List.set_cons_succ]
          refine wpAnyH_take (i := 17) (oi := ?oi17M62) (v := ?v17M62) ?oi0_17M62 (by kernel_rfl) ?ff17M62 ?rr17M62 ?hq17M62 (Or.inl ⟨?hw17M62, ?hy17M62⟩) (by assumption) ?rest17M62
          case oi0_17M62 => conv => lhs; whnf; arg 1; whnf
          case hq17M62 => exact fun _ _ _ h => h
          case ff17M62 | rr17M62 => kernel_rfl
          case hw17M62 => rfl
          case hy17M62 => intro w hSw; (try dsimp only at hSw); first | (go_simp; done) | (go_simp; with_reducible rfl)
          try simp only [Act.put, List.setIfInBounds_toArray, List.set_cons_zero, List.set_cons_succ]
          refine wpAnyH_take (i := 18) (oi := ?oi18M62) (v := ?v18M62) ?oi0_18M62 (by kernel_rfl) ?ff18M62 ?rr18M62 ?hq18M62 (Or.inl ⟨?hw18M62, ?hy18M62⟩) (by assumption) ?rest18M62
          case oi0_18M62 => conv => lhs; whnf; arg 1; whnf
          case hq18M62 => exact fun _ _ _ h => h
          case ff18M62 | rr18M62 => kernel_rfl
          case hw18M62 => rfl
          case hy18M62 => intro w hSw; (try dsimp only at hSw); first | (go_simp; done) | (go_simp; with_reducible rfl)
          try simp only [Act.put, List.setIfInBounds_toArray, List.set_cons_zero, List.set_cons_succ]
          refine wpAnyH_take (i := 19) (oi := ?oi19M62) (v := ?v19M62) ?oi0_19M62 (by kernel_rfl) ?ff19M62 ?rr19M62 ?hq19M62 (Or.inl ⟨?hw19M62, ?hy19M62⟩) (by assumption) ?rest19M62
          case oi0_19M62 => conv => lhs; whnf; arg 1; whnf
          case hq19M62 => exact fun _ _ _ h => h
          case ff19M62 | rr19M62 => kernel_rfl
          case hw19M62 => rfl
          case hy19M62 => intro w hSw; (try dsimp only at hSw); first | (go_simp; done) | (go_simp; with_reducible rfl)
          try simp only [Act.put, List.setIfInBounds_toArray, List.set_cons_zero, List.set_cons_succ]
          refine wpAnyH_take (i := 20) (oi := ?oi20M62) (v := ?v20M62) ?oi0_20M62 (by kernel_rfl) ?ff20M62 ?rr20M62 ?hq20M62 (Or.inl ⟨?hw20M62, ?hy20M62⟩) (by assumption) ?rest20M62
          case oi0_20M62 => conv => lhs; whnf; arg 1; whnf
          case hq20M62 => exact fun _ _ _ h => h
          case ff20M62 | rr20M62 => kernel_rfl
          case hw20M62 => rfl
          case hy20M62 => intro w hSw; (try dsimp only at hSw); first | (go_simp; done) | (go_simp; with_reducible rfl)
          try simp only [Act.put, List.setIfInBounds_toArray, List.set_cons_zero, List.set_cons_succ]
          refine wpAnyH_take (i := 21) (oi := ?oi21M62) (v := ?v21M62) ?oi0_21M62 (by kernel_rfl) ?ff21M62 ?rr21M62 ?hq21M62 (Or.inl ⟨?hw21M62, ?hy21M62⟩) (by assumption) ?rest21M62
          case oi0_21M62 => conv => lhs; whnf; arg 1; whnf
          case hq21M62 => exact fun _ _ _ h => h
          case ff21M62 | rr21M62 => kernel_rfl
          case hw21M62 => rfl
          case hy21M62 => intro w hSw; (try dsimp only at hSw); first | (go_simp; done) | (go_simp; with_reducible rfl)
          try simp only [Act.put, List.setIfInBounds_toArray, List.set_cons_zero, List.set_cons_succ]
          refine wpAnyH_take (i := 22) (oi := ?oi22M62) (v := ?v22M62) ?oi0_22M62 (by kernel_rfl) ?ff22M62 ?rr22M62 ?hq22M62 (Or.inl ⟨?hw22M62, ?hy22M62⟩) (by assumption) ?rest22M62
          case oi0_22M62 => conv => lhs; whnf; arg 1; whnf
          case hq22M62 => exact fun _ _ _ h => h
          case ff22M62 | rr22M62 => kernel_rfl
          case hw22M62 => rfl
          case hy22M62 => intro w hSw; (try dsimp only at hSw); first | (go_simp; done) | (go_simp; with_reducible rfl)
          try simp only [Act.put, List.setIfInBounds_toArray, List.set_cons_zero, List.set_cons_succ]
          refine wpAnyH_ready (rs := [15]) (by kernel_rfl) (by simp) (AllReadyH.cons (o := ?oiM63) ?oi0_M63 (fun K hK => ?_) AllReadyH.nil)
          case oi0_M63 => conv => lhs; whnf; arg 1; whnf
          go_simp
          have HR := hide (pj_records HP21.out (by rw [HRN.out]; omega))
          rw [HRN.out] at HR
          refine HR.out.mono ?_
          rintro e w22 ⟨ra, rc, rfl, ho, u⟩
          try simp only
          have HS22 := hide ho
          have HX22 := hide (keepc _ _ _ _ u HX21.out)
          have HO22 := hide (own_kept HO21.out u (by simp))
          have HW22 := hide (show WBlk w22 wb g x (jptr (some (jc, T, br))) (jptr (some (xc, T, br))) from keepB HW21.out u)
          have HP22 := hide (HP21.out.step u (by simp))
          clear u HX21 HO21 HW21 HP21
          have hc2 : w22.cell? ⟨wb, 0, none⟩ = some (.pointer (some ⟨g, 0, none⟩)) ∧ w22.cell? ⟨wb, 1, none⟩ = some (.pointer (some ⟨jc, 0, none⟩)) ∧ w22.cell? ⟨wb, 2, none⟩ = some (.pointer (some ⟨x, 0, none⟩)) ∧ w22.cell? ⟨wb, 3, none⟩ = some (.pointer (some ⟨xc, 0, none⟩)) ∧ w22.cell? ⟨xc, 1, none⟩ = some (.slice A rn c) := ⟨HW22.out.cell 0, HW22.out.cell 1, HW22.out.cell 2, HW22.out.cell 3, HX22.out⟩
          clear ho HR
          (try dsimp only)
          refine hK.out _ _ (by exact hc2) (fun hHeld => ?_)
          clear hK K hc2
          try simp only [Act.put, List.setIfInBounds_toArray, List.set_cons_zero, List.set_cons_succ]
          refine wpAnyH_ready (rs := [23]) (by kernel_rfl) (by simp) (AllReadyH.cons (o := ?oiM64) ?oi0_M64 (fun K hK => ?_) AllReadyH.nil)
          case oi0_M64 => conv => lhs; whnf; arg 1; whnf
          go_simp
          have HE := hide (same_any ra rn rc _ A rn c _ w22 (by rw [List.length_map]; exact HRN.out) (by rw [List.length_map]; exact HRN.out) (by omega) (by omega) (strs_own HS22.out) (strs_own HO22.out))
          rw [show decide ((T.recs.map fun r => (⟨r.toArray⟩ : ByteArray)) = (T.recs.map fun r => (⟨r.toArray⟩ : ByteArray))) = true from decide_eq_true rfl] at HE
          refine HE.out.mono ?_
          rintro e w23 ⟨rfl, u⟩
          try simp only
          have HX23 := hide (keepc _ _ _ _ u HX22.out)
          have HO23 := hide (own_kept HO22.out u (by simp))
          have HW23 := hide (show WBlk w23 wb g x (jptr (some (jc, T, br))) (jptr (some (xc, T, br))) from keepB HW22.out u)
          have HP23 := hide (HP22.out.step u (by simp))
          clear u HX22 HO22 HW22 HP22
          have hc2 : w23.cell? ⟨wb, 0, none⟩ = some (.pointer (some ⟨g, 0, none⟩)) ∧ w23.cell? ⟨wb, 1, none⟩ = some (.pointer (some ⟨jc, 0, none⟩)) ∧ w23.cell? ⟨wb, 2, none⟩ = some (.pointer (some ⟨x, 0, none⟩)) ∧ w23.cell? ⟨wb, 3, none⟩ = some (.pointer (some ⟨xc, 0, none⟩)) ∧ w23.cell? ⟨xc, 1, none⟩ = some (.slice A rn c) := ⟨HW23.out.cell 0, HW23.out.cell 1, HW23.out.cell 2, HW23.out.cell 3, HX23.out⟩
          clear HE HS22
          (try dsimp only)
          refine hK.out _ _ (by exact hc2) (fun hHeld => ?_)
          clear hK K hc2
          try simp only [Act.put, List.setIfInBounds_toArray, List.set_cons_zero, List.set_cons_succ]
          refine wpAnyH_take (i := 24) (oi := ?oi24M65) (v := ?v24M65) ?oi0_24M65 (by kernel_rfl) ?ff24M65 ?rr24M65 ?hq24M65 (Or.inl ⟨?hw24M65, ?hy24M65⟩) (by assumption) ?rest24M65
          case oi0_24M65 => conv => lhs; whnf; arg 1; whnf
          case hq24M65 => exact fun _ _ _ h => h
          case ff24M65 | rr24M65 => kernel_rfl
          case hw24M65 => rfl
          case hy24M65 => intro w hSw; (try dsimp only at hSw); first | (go_simp; done) | (go_simp; with_reducible rfl)
          try simp only [Act.put, List.setIfInBounds_toArray, List.set_cons_zero, List.set_cons_succ]
          refine wpAnyH_take (i := 25) (oi := ?oi25M65) (v := ?v25M65) ?oi0_25M65 (by kernel_rfl) ?ff25M65 ?rr25M65 ?hq25M65 (Or.inl ⟨?hw25M65, ?hy25M65⟩) (by assumption) ?rest25M65
          case oi0_25M65 => conv => lhs; whnf; arg 1; whnf
          case hq25M65 => exact fun _ _ _ h => h
          case ff25M65 | rr25M65 => kernel_rfl
          case hw25M65 => rfl
          case hy25M65 => intro w hSw; (try dsimp only at hSw); first | (go_simp; done) | (go_simp; with_reducible rfl)
          try simp only [Act.put, List.setIfInBounds_toArray, List.set_cons_zero, List.set_cons_succ]
          refine wpAnyH_take (i := 26) (oi := ?oi26M65) (v := ?v26M65) ?oi0_26M65 (by kernel_rfl) ?ff26M65 ?rr26M65 ?hq26M65 (Or.inl ⟨?hw26M65, ?hy26M65⟩) (by assumption) ?rest26M65
          case oi0_26M65 => conv => lhs; whnf; arg 1; whnf
          case hq26M65 => exact fun _ _ _ h => h
          case ff26M65 | rr26M65 => kernel_rfl
          case hw26M65 => rfl
          case hy26M65 => intro w hSw; (try dsimp only at hSw); first | (go_simp; done) | (go_simp; with_reducible rfl)
          try simp only [Act.put, List.setIfInBounds_toArray, List.set_cons_zero, List.set_cons_succ]
          refine wpAnyH_take (i := 27) (oi := ?oi27M65) (v := ?v27M65) ?oi0_27M65 (by kernel_rfl) ?ff27M65 ?rr27M65 ?hq27M65 (Or.inl ⟨?hw27M65, ?hy27M65⟩) (by assumption) ?rest27M65
          case oi0_27M65 => conv => lhs; whnf; arg 1; whnf
          case hq27M65 => exact fun _ _ _ h => h
          case ff27M65 | rr27M65 => kernel_rfl
          case hw27M65 => rfl
          case hy27M65 => intro w hSw; (try dsimp only at hSw); first | (go_simp; done) | (go_simp; with_reducible rfl)
          try simp only [Act.put, List.setIfInBounds_toArray, List.set_cons_zero, List.set_cons_succ]
          refine wpAnyH_take (i := 28) (oi := ?oi28M65) (v := ?v28M65) ?oi0_28M65 (by kernel_rfl) ?ff28M65 ?rr28M65 ?hq28M65 (Or.inl ⟨?hw28M65, ?hy28M65⟩) (by assumption) ?rest28M65
          case oi0_28M65 => conv => lhs; whnf; arg 1; whnf
          case hq28M65 => exact fun _ _ _ h => h
          case ff28M65 | rr28M65 => kernel_rfl
          case hw28M65 => rfl
          case hy28M65 => intro w hSw; (try dsimp only at hSw); first | (go_simp; done) | (go_simp; with_reducible rfl)
          try simp only [Act.put, List.setIfInBounds_toArray, List.set_cons_zero, List.set_cons_succ]
          refine wpAnyH_take (i := 30) (oi := ?oi30M65) (v := ?v30M65) ?oi0_30M65 (by kernel_rfl) ?ff30M65 ?rr30M65 ?hq30M65 (Or.inl ⟨?hw30M65, ?hy30M65⟩) (by assumption) ?rest30M65
          case oi0_30M65 => conv => lhs; whnf; arg 1; whnf
          case hq30M65 => exact fun _ _ _ h => h
          case ff30M65 | rr30M65 => kernel_rfl
          case hw30M65 => rfl
          case hy30M65 => intro w hSw; (try dsimp only at hSw); first | (go_simp; done) | (go_simp; with_reducible rfl)
          try simp only [Act.put, List.setIfInBounds_toArray, List.set_cons_zero, List.set_cons_succ]
          refine wpAnyH_take (i := 31) (oi := ?oi31M65) (v := ?v31M65) ?oi0_31M65 (by kernel_rfl) ?ff31M65 ?rr31M65 ?hq31M65 (Or.inl ⟨?hw31M65, ?hy31M65⟩) (by assumption) ?rest31M65
          case oi0_31M65 => conv => lhs; whnf; arg 1; whnf
          case hq31M65 => exact fun _ _ _ h => h
          case ff31M65 | rr31M65 => kernel_rfl
          case hw31M65 => rfl
          case hy31M65 => intro w hSw; (try dsimp only at hSw); first | (go_simp; done) | (go_simp; with_reducible rfl)
          try simp only [Act.put, List.setIfInBounds_toArray, List.set_cons_zero, List.set_cons_succ]
          refine wpAnyH_take (i := 32) (oi := ?oi32M65) (v := ?v32M65) ?oi0_32M65 (by kernel_rfl) ?ff32M65 ?rr32M65 ?hq32M65 (Or.inl ⟨?hw32M65, ?hy32M65⟩) (by assumption) ?rest32M65
          case oi0_32M65 => conv => lhs; whnf; arg 1; whnf
          case hq32M65 => exact fun _ _ _ h => h
          case ff32M65 | rr32M65 => kernel_rfl
          case hw32M65 => rfl
          case hy32M65 => intro w hSw; (try dsimp only at hSw); first | (go_simp; done) | (go_simp; with_reducible rfl)
          try simp only [Act.put, List.setIfInBounds_toArray, List.set_cons_zero, List.set_cons_succ]
          refine wpAnyH_take (i := 33) (oi := ?oi33M65) (v := ?v33M65) ?oi0_33M65 (by kernel_rfl) ?ff33M65 ?rr33M65 ?hq33M65 (Or.inl ⟨?hw33M65, ?hy33M65⟩) (by assumption) ?rest33M65
          case oi0_33M65 => conv => lhs; whnf; arg 1; whnf
          case hq33M65 => exact fun _ _ _ h => h
          case ff33M65 | rr33M65 => kernel_rfl
          case hw33M65 => rfl
          case hy33M65 => intro w hSw; (try dsimp only at hSw); first | (go_simp; done) | (go_simp; with_reducible rfl)
          try simp only [Act.put, List.setIfInBounds_toArray, List.set_cons_zero, List.set_cons_succ]
          refine wpAnyH_ready (rs := [29]) (by kernel_rfl) (by simp) (AllReadyH.cons (o := ?oiM66) ?oi0_M66 (fun K hK => ?_) AllReadyH.nil)
          case oi0_M66 => conv => lhs; whnf; arg 1; whnf
          go_simp
          have HM := hide (pj_room HP23.out HTS.out)
          obtain ⟨rm, hrm2⟩ : ∃ y, D.sure.length - T.size = y := ⟨_, rfl⟩
          rw [hrm2] at HM
          have HRM := hide hrm2
          clear hrm2
          refine HM.out.mono ?_
          rintro e w24 ⟨rfl, u⟩
          try simp only
          have HX24 := hide (keepc _ _ _ _ u HX23.out)
          have HO24 := hide (own_kept HO23.out u (by simp))
          have HW24 := hide (show WBlk w24 wb g x (jptr (some (jc, T, br))) (jptr (some (xc, T, br))) from keepB HW23.out u)
          have HP24 := hide (HP23.out.step u (by simp))
          clear u HX23 HO23 HW23 HP23
          have hc2 : w24.cell? ⟨wb, 0, none⟩ = some (.pointer (some ⟨g, 0, none⟩)) ∧ w24.cell? ⟨wb, 1, none⟩ = some (.pointer (some ⟨jc, 0, none⟩)) ∧ w24.cell? ⟨wb, 2, none⟩ = some (.pointer (some ⟨x, 0, none⟩)) ∧ w24.cell? ⟨wb, 3, none⟩ = some (.pointer (some ⟨xc, 0, none⟩)) ∧ w24.cell? ⟨xc, 1, none⟩ = some (.slice A rn c) := ⟨HW24.out.cell 0, HW24.out.cell 1, HW24.out.cell 2, HW24.out.cell 3, HX24.out⟩
          clear HM
          (try dsimp only)
          refine hK.out _ _ (by exact hc2) (fun hHeld => ?_)
          clear hK K hc2
          try simp only [Act.put, List.setIfInBounds_toArray, List.set_cons_zero, List.set_cons_succ]
          refine wpAnyH_ready (rs := [34]) (by kernel_rfl) (by simp) (AllReadyH.cons (o := ?oiM67) ?oi0_M67 (fun K hK => ?_) AllReadyH.nil)
          case oi0_M67 => conv => lhs; whnf; arg 1; whnf
          go_simp
          have HM := hide (pj_rroom HP24.out HTS.out)
          rw [HRM.out] at HM
          refine HM.out.mono ?_
          rintro e w25 ⟨rfl, u⟩
          try simp only
          have HX25 := hide (keepc _ _ _ _ u HX24.out)
          have HO25 := hide (own_kept HO24.out u (by simp))
          have HW25 := hide (show WBlk w25 wb g x (jptr (some (jc, T, br))) (jptr (some (xc, T, br))) from keepB HW24.out u)
          have HP25 := hide (HP24.out.step u (by simp))
          clear u HX24 HO24 HW24 HP24
          have hc2 : w25.cell? ⟨wb, 0, none⟩ = some (.pointer (some ⟨g, 0, none⟩)) ∧ w25.cell? ⟨wb, 1, none⟩ = some (.pointer (some ⟨jc, 0, none⟩)) ∧ w25.cell? ⟨wb, 2, none⟩ = some (.pointer (some ⟨x, 0, none⟩)) ∧ w25.cell? ⟨wb, 3, none⟩ = some (.pointer (some ⟨xc, 0, none⟩)) ∧ w25.cell? ⟨xc, 1, none⟩ = some (.slice A rn c) := ⟨HW25.out.cell 0, HW25.out.cell 1, HW25.out.cell 2, HW25.out.cell 3, HX25.out⟩
          clear HM
          (try dsimp only)
          refine hK.out _ _ (by exact hc2) (fun hHeld => ?_)
          clear hK K hc2
          try simp only [Act.put, List.setIfInBounds_toArray, List.set_cons_zero, List.set_cons_succ]
          refine wpAnyH_take (i := 35) (oi := ?oi35M68) (v := ?v35M68) ?oi0_35M68 (by kernel_rfl) ?ff35M68 ?rr35M68 ?hq35M68 (Or.inl ⟨?hw35M68, ?hy35M68⟩) (by assumption) ?rest35M68
          case oi0_35M68 => conv => lhs; whnf; arg 1; whnf
          case hq35M68 => exact fun _ _ _ h => h
          case ff35M68 | rr35M68 => kernel_rfl
          case hw35M68 => rfl
          case hy35M68 => intro w hSw; (try dsimp only at hSw); first | (go_simp; done) | (go_simp; with_reducible rfl)
          try simp only [Act.put, List.setIfInBounds_toArray, List.set_cons_zero, List.set_cons_succ]
          refine wpAnyH_take (i := 36) (oi := ?oi36M68) (v := ?v36M68) ?oi0_36M68 (by kernel_rfl) ?ff36M68 ?rr36M68 ?hq36M68 (Or.inl ⟨?hw36M68, ?hy36M68⟩) (by assumption) ?rest36M68
          case oi0_36M68 => conv => lhs; whnf; arg 1; whnf
          case hq36M68 => exact fun _ _ _ h => h
          case ff36M68 | rr36M68 => kernel_rfl
          case hw36M68 => rfl
          case hy36M68 => intro w hSw; (try dsimp only at hSw); first | (go_simp; done) | (go_simp; with_reducible rfl)
          try simp only [Act.put, List.setIfInBounds_toArray, List.set_cons_zero, List.set_cons_succ]
          refine wpAnyH_take (i := 37) (oi := ?oi37M68) (v := ?v37M68) ?oi0_37M68 (by kernel_rfl) ?ff37M68 ?rr37M68 ?hq37M68 (Or.inl ⟨?hw37M68, ?hy37M68⟩) (by assumption) ?rest37M68
          case oi0_37M68 => conv => lhs; whnf; arg 1; whnf
          case hq37M68 => exact fun _ _ _ h => h
          case ff37M68 | rr37M68 => kernel_rfl
          case hw37M68 => rfl
          case hy37M68 => intro w hSw; (try dsimp only at hSw); first | (go_simp; done) | (go_simp; with_reducible rfl)
          try simp only [Act.put, List.setIfInBounds_toArray, List.set_cons_zero, List.set_cons_succ]
          refine wpAnyH_take (i := 38) (oi := ?oi38M68) (v := ?v38M68) ?oi0_38M68 (by kernel_rfl) ?ff38M68 ?rr38M68 ?hq38M68 (Or.inl ⟨?hw38M68, ?hy38M68⟩) (by assumption) ?rest38M68
          case oi0_38M68 => conv => lhs; whnf; arg 1; whnf
          case hq38M68 => exact fun _ _ _ h => h
          case ff38M68 | rr38M68 => kernel_rfl
          case hw38M68 => rfl
          case hy38M68 => intro w hSw; (try dsimp only at hSw); first | (go_simp; done) | (go_simp; with_reducible rfl)
          try simp only [Act.put, List.setIfInBounds_toArray, List.set_cons_zero, List.set_cons_succ]
          refine wpAnyH_take (i := 39) (oi := ?oi39M68) (v := ?v39M68) ?oi0_39M68 (by kernel_rfl) ?ff39M68 ?rr39M68 ?hq39M68 (Or.inl ⟨?hw39M68, ?hy39M68⟩) (by assumption) ?rest39M68
          case oi0_39M68 => conv => lhs; whnf; arg 1; whnf
          case hq39M68 => exact fun _ _ _ h => h
          case ff39M68 | rr39M68 => kernel_rfl
          case hw39M68 => rfl
          case hy39M68 => intro w hSw; (try dsimp only at hSw); first | (go_simp; done) | (go_simp; with_reducible rfl)
          try simp only [Act.put, List.setIfInBounds_toArray, List.set_cons_zero, List.set_cons_succ]
          refine wpAnyH_take (i := 40) (oi := ?oi40M68) (v := ?v40M68) ?oi0_40M68 (by kernel_rfl) ?ff40M68 ?rr40M68 ?hq40M68 (Or.inl ⟨?hw40M68, ?hy40M68⟩) (by assumption) ?rest40M68
          case oi0_40M68 => conv => lhs; whnf; arg 1; whnf
          case hq40M68 => exact fun _ _ _ h => h
          case ff40M68 | rr40M68 => kernel_rfl
          case hw40M68 => rfl
          case hy40M68 => intro w hSw; (try dsimp only at hSw); first | (go_simp; done) | (go_simp; with_reducible rfl)
          try simp only [Act.put, List.setIfInBounds_toArray, List.set_cons_zero, List.set_cons_succ]
          refine wpAnyH_take (i := 41) (oi := ?oi41M68) (v := ?v41M68) ?oi0_41M68 (by kernel_rfl) ?ff41M68 ?rr41M68 ?hq41M68 (Or.inl ⟨?hw41M68, ?hy41M68⟩) (by assumption) ?rest41M68
          case oi0_41M68 => conv => lhs; whnf; arg 1; whnf
          case hq41M68 => exact fun _ _ _ h => h
          case ff41M68 | rr41M68 => kernel_rfl
          case hw41M68 => rfl
          case hy41M68 => intro w hSw; (try dsimp only at hSw); first | (go_simp; done) | (go_simp; with_reducible rfl)
          try simp only [Act.put, List.setIfInBounds_toArray, List.set_cons_zero, List.set_cons_succ]
          refine wpAnyH_take (i := 43) (oi := ?oi43M68) (v := ?v43M68) ?oi0_43M68 (by kernel_rfl) ?ff43M68 ?rr43M68 ?hq43M68 (Or.inl ⟨?hw43M68, ?hy43M68⟩) (by assumption) ?rest43M68
          case oi0_43M68 => conv => lhs; whnf; arg 1; whnf
          case hq43M68 => exact fun _ _ _ h => h
          case ff43M68 | rr43M68 => kernel_rfl
          case hw43M68 => rfl
          case hy43M68 => intro w hSw; (try dsimp only at hSw); first | (go_simp; done) | (go_simp; with_reducible rfl)
          try simp only [Act.put, List.setIfInBounds_toArray, List.set_cons_zero, List.set_cons_succ]
          refine wpAnyH_take (i := 44) (oi := ?oi44M68) (v := ?v44M68) ?oi0_44M68 (by kernel_rfl) ?ff44M68 ?rr44M68 ?hq44M68 (Or.inl ⟨?hw44M68, ?hy44M68⟩) (by assumption) ?rest44M68
          case oi0_44M68 => conv => lhs; whnf; arg 1; whnf
          case hq44M68 => exact fun _ _ _ h => h
          case ff44M68 | rr44M68 => kernel_rfl
          case hw44M68 => rfl
          case hy44M68 => intro w hSw; (try dsimp only at hSw); first | (go_simp; done) | (go_simp; with_reducible rfl)
          try simp only [Act.put, List.setIfInBounds_toArray, List.set_cons_zero, List.set_cons_succ]
          refine wpAnyH_take (i := 45) (oi := ?oi45M68) (v := ?v45M68) ?oi0_45M68 (by kernel_rfl) ?ff45M68 ?rr45M68 ?hq45M68 (Or.inl ⟨?hw45M68, ?hy45M68⟩) (by assumption) ?rest45M68
          case oi0_45M68 => conv => lhs; whnf; arg 1; whnf
          case hq45M68 => exact fun _ _ _ h => h
          case ff45M68 | rr45M68 => kernel_rfl
          case hw45M68 => rfl
          case hy45M68 => intro w hSw; (try dsimp only at hSw); first | (go_simp; done) | (go_simp; with_reducible rfl)
          try simp only [Act.put, List.setIfInBounds_toArray, List.set_cons_zero, List.set_cons_succ]
          refine wpAnyH_take (i := 46) (oi := ?oi46M68) (v := ?v46M68) ?oi0_46M68 (by kernel_rfl) ?ff46M68 ?rr46M68 ?hq46M68 (Or.inl ⟨?hw46M68, ?hy46M68⟩) (by assumption) ?rest46M68
          case oi0_46M68 => conv => lhs; whnf; arg 1; whnf
          case hq46M68 => exact fun _ _ _ h => h
          case ff46M68 | rr46M68 => kernel_rfl
          case hw46M68 => rfl
          case hy46M68 => intro w hSw; (try dsimp only at hSw); first | (go_simp; done) | (go_simp; with_reducible rfl)
          try simp only [Act.put, List.setIfInBounds_toArray, List.set_cons_zero, List.set_cons_succ]
          refine wpAnyH_ready (rs := [42]) (by kernel_rfl) (by simp) (AllReadyH.cons (o := ?oiM69) ?oi0_M69 (fun K hK => ?_) AllReadyH.nil)
          case oi0_M69 => conv => lhs; whnf; arg 1; whnf
          go_simp
          refine (pj_content HP25.out HNO.out.1).mono ?_
          rintro e w' ⟨rfl, rfl⟩
          try simp only
          (try dsimp only)
          refine hK.out _ _ (by exact hHeld) (fun hHeld => ?_)
          clear hK K
          try simp only [Act.put, List.setIfInBounds_toArray, List.set_cons_zero, List.set_cons_succ]
          refine wpAnyH_ready (rs := [47]) (by kernel_rfl) (by simp) (AllReadyH.cons (o := ?oiM70) ?oi0_M70 (fun K hK => ?_) AllReadyH.nil)
          case oi0_M70 => conv => lhs; whnf; arg 1; whnf
          go_simp
          refine (pj_visible HP25.out (HI.out.1.mono (by omega))).mono ?_
          rintro e w26 ⟨vb, vc, vr, rfl, hvb, u⟩
          try simp only
          obtain ⟨vl, hvl⟩ : ∃ y, D.vis.length = y := ⟨_, rfl⟩
          rw [hvl]
          have hcv := run_conv_row hvb 39 5 9 Tryz.underlying39 Tryz.underlying5 Tryz.underlying9 0 vl vc (by omega)
          rw [show (D.vis.drop 0).take vl = D.vis by rw [List.drop_zero, List.take_of_length_le (by omega)]] at hcv
          obtain ⟨vz, hvz⟩ : ∃ y : ByteArray, (⟨D.vis.toArray⟩ : ByteArray) = y := ⟨_, rfl⟩
          rw [hvz] at hcv ⊢
          clear hvb hvl hvz
          have HX26 := hide (keepc _ _ _ _ u HX25.out)
          have HO26 := hide (own_kept HO25.out u (by simp))
          have HW26 := hide (show WBlk w26 wb g x (jptr (some (jc, T, br))) (jptr (some (xc, T, br))) from keepB HW25.out u)
          have HP26 := hide (HP25.out.step u (by simp))
          clear u HX25 HO25 HW25 HP25
          have hc2 : w26.cell? ⟨wb, 0, none⟩ = some (.pointer (some ⟨g, 0, none⟩)) ∧ w26.cell? ⟨wb, 1, none⟩ = some (.pointer (some ⟨jc, 0, none⟩)) ∧ w26.cell? ⟨wb, 2, none⟩ = some (.pointer (some ⟨x, 0, none⟩)) ∧ w26.cell? ⟨wb, 3, none⟩ = some (.pointer (some ⟨xc, 0, none⟩)) ∧ w26.cell? ⟨xc, 1, none⟩ = some (.slice A rn c) := ⟨HW26.out.cell 0, HW26.out.cell 1, HW26.out.cell 2, HW26.out.cell 3, HX26.out⟩
          (try dsimp only)
          refine hK.out _ _ (by exact hc2) (fun hHeld => ?_)
          clear hK K hc2
          try simp only [Act.put, List.setIfInBounds_toArray, List.set_cons_zero, List.set_cons_succ]
          refine wpAnyH_narrow (S' := (fun w' => (w'.cell? ⟨wb, 0, none⟩ = some (.pointer (some ⟨g, 0, none⟩)) ∧ w'.cell? ⟨wb, 1, none⟩ = some (.pointer (some ⟨jc, 0, none⟩)) ∧ w'.cell? ⟨wb, 2, none⟩ = some (.pointer (some ⟨x, 0, none⟩)) ∧ w'.cell? ⟨wb, 3, none⟩ = some (.pointer (some ⟨xc, 0, none⟩)) ∧ w'.cell? ⟨xc, 1, none⟩ = some (.slice A rn c)) ∧ (convert 39 9 (.slice (some ⟨vb, 0, none⟩) vl vc)).run Tryz.prog w' = .ok (.string vz) w')) (fun _ h => h.1) ?_
          have hH2 : (fun w' => (w'.cell? ⟨wb, 0, none⟩ = some (.pointer (some ⟨g, 0, none⟩)) ∧ w'.cell? ⟨wb, 1, none⟩ = some (.pointer (some ⟨jc, 0, none⟩)) ∧ w'.cell? ⟨wb, 2, none⟩ = some (.pointer (some ⟨x, 0, none⟩)) ∧ w'.cell? ⟨wb, 3, none⟩ = some (.pointer (some ⟨xc, 0, none⟩)) ∧ w'.cell? ⟨xc, 1, none⟩ = some (.slice A rn c)) ∧ (convert 39 9 (.slice (some ⟨vb, 0, none⟩) vl vc)).run Tryz.prog w' = .ok (.string vz) w') w26 := ⟨hHeld, hcv⟩
          clear hHeld hcv
          refine wpAnyH_take (i := 48) (oi := ?oi48M71) (v := ?v48M71) ?oi0_48M71 (by kernel_rfl) ?ff48M71 ?rr48M71 ?hq48M71 (Or.inl ⟨?hw48M71, ?hy48M71⟩) (by assumption) ?rest48M71
          case oi0_48M71 => conv => lhs; whnf; arg 1; whnf
          case hq48M71 => exact fun _ _ _ h => h
          case ff48M71 | rr48M71 => kernel_rfl
          case hw48M71 => rfl
          case hy48M71 => intro w hSw; (try dsimp only at hSw); first | (go_simp; done) | (go_simp; with_reducible rfl)
          try simp only [Act.put, List.setIfInBounds_toArray, List.set_cons_zero, List.set_cons_succ]
          refine wpAnyH_take (i := 49) (oi := ?oi49M71) (v := ?v49M71) ?oi0_49M71 (by kernel_rfl) ?ff49M71 ?rr49M71 ?hq49M71 (Or.inl ⟨?hw49M71, ?hy49M71⟩) (by assumption) ?rest49M71
          case oi0_49M71 => conv => lhs; whnf; arg 1; whnf
          case hq49M71 => exact fun _ _ _ h => h
          case ff49M71 | rr49M71 => kernel_rfl
          case hw49M71 => rfl
          case hy49M71 => intro w hSw; (try dsimp only at hSw); first | (go_simp; done) | (go_simp; with_reducible rfl)
          try simp only [Act.put, List.setIfInBounds_toArray, List.set_cons_zero, List.set_cons_succ]
          refine wpAnyH_take (i := 50) (oi := ?oi50M71) (v := ?v50M71) ?oi0_50M71 (by kernel_rfl) ?ff50M71 ?rr50M71 ?hq50M71 (Or.inl ⟨?hw50M71, ?hy50M71⟩) (by assumption) ?rest50M71
          case oi0_50M71 => conv => lhs; whnf; arg 1; whnf
          case hq50M71 => exact fun _ _ _ h => h
          case ff50M71 | rr50M71 => kernel_rfl
          case hw50M71 => rfl
          case hy50M71 => intro w hSw; (try dsimp only at hSw); first | (go_simp; done) | (go_simp; with_reducible rfl)
          try simp only [Act.put, List.setIfInBounds_toArray, List.set_cons_zero, List.set_cons_succ]
          refine wpAnyH_take (i := 51) (oi := ?oi51M71) (v := ?v51M71) ?oi0_51M71 (by kernel_rfl) ?ff51M71 ?rr51M71 ?hq51M71 (Or.inl ⟨?hw51M71, ?hy51M71⟩) (by assumption) ?rest51M71
          case oi0_51M71 => conv => lhs; whnf; arg 1; whnf
          case hq51M71 => exact fun _ _ _ h => h
          case ff51M71 | rr51M71 => kernel_rfl
          case hw51M71 => rfl
          case hy51M71 => intro w hSw; (try dsimp only at hSw); first | (go_simp; done) | (go_simp; with_reducible rfl)
          try simp only [Act.put, List.setIfInBounds_toArray, List.set_cons_zero, List.set_cons_succ]
          refine wpAnyH_take (i := 52) (oi := ?oi52M71) (v := ?v52M71) ?oi0_52M71 (by kernel_rfl) ?ff52M71 ?rr52M71 ?hq52M71 (Or.inl ⟨?hw52M71, ?hy52M71⟩) (by assumption) ?rest52M71
          case oi0_52M71 => conv => lhs; whnf; arg 1; whnf
          case hq52M71 => exact fun _ _ _ h => h
          case ff52M71 | rr52M71 => kernel_rfl
          case hw52M71 => rfl
          case hy52M71 => intro w hSw; (try dsimp only at hSw); first | (go_simp; done) | (go_simp; with_reducible rfl)
          try simp only [Act.put, List.setIfInBounds_toArray, List.set_cons_zero, List.set_cons_succ]
          refine wpAnyH_take (i := 53) (oi := ?oi53M71) (v := ?v53M71) ?oi0_53M71 (by kernel_rfl) ?ff53M71 ?rr53M71 ?hq53M71 (Or.inl ⟨?hw53M71, ?hy53M71⟩) (by assumption) ?rest53M71
          case oi0_53M71 => conv => lhs; whnf; arg 1; whnf
          case hq53M71 => exact fun _ _ _ h => h
          case ff53M71 | rr53M71 => kernel_rfl
          case hw53M71 => rfl
          case hy53M71 => intro w hSw; (try dsimp only at hSw); first | (go_simp; done) | (go_simp; with_reducible rfl)
          try simp only [Act.put, List.setIfInBounds_toArray, List.set_cons_zero, List.set_cons_succ]
          refine wpAnyH_done (by kernel_rfl) ?_ _
          clear hH2
          go_wp2_with fail
          go_ret
          exact ⟨rfl, HP26.out.below⟩
  have hli : ¬ (0 : Int) < ln := by omega
  go_upto_region 10 with fail
  obtain ⟨q, hq⟩ : ∃ q : Nat, min s.size N = q := ⟨_, rfl⟩
  have hsm2 : s.size ≤ 9223372036854775807 := by have := HSS.out; unfold maxLen at this; omega
  have hmn : min (s.size : Int) (N : Int) = (q : Int) := by omega
  have hqs : q ≤ s.size := by omega
  obtain ⟨bs, hbs⟩ : ∃ y, s.data.toList = y := ⟨_, rfl⟩
  have hsh := fun W => slice_str_h (P := Tryz.prog) W Tryz.underlying9 s hbs q hqs (q : Int) rfl
  obtain ⟨zb, hzb⟩ : ∃ y : ByteArray, (⟨(bs.take q).toArray⟩ : ByteArray) = y := ⟨_, rfl⟩
  rw [hzb] at hsh
  clear hbs hzb hq
  have HD8 := hide (HD0.out.write 0 zb.data.toList)
  have HN8 := hide (NoCut.write HNC.out 0 zb.data.toList)
  obtain ⟨E, er2, hwr⟩ : ∃ a b, (DiskS.fresh N).write 0 zb.data.toList = (a, b) := ⟨_, _, rfl⟩
  rw [hwr] at HD8 HN8
  have HWR := hide hwr
  clear hwr
  refine wp_region_held_drew (S := (fun w' => w'.cell? ⟨wb, 0, none⟩ = some (.pointer (some ⟨g, 0, none⟩)))) (by kernel_rfl) (by exact HW2.out.cell 0) (fun hHeld => ?_)
  obtain ⟨w3, hw⟩ : ∃ y, w2.drew = y := ⟨_, rfl⟩
  have u : Upd [] w2 w3 := by rw [← hw]; exact (Upd.refl [] _).drew
  rw [hw] at hHeld ⊢
  clear hw
  have HW3 := hide (show WBlk w3 wb g x (jptr (some (jb, tape0, false))) (jptr (some (xb, tape0, false))) from keepB HW2.out u)
  have HP3 := hide (HP2.out.step u (by simp))
  clear u HW2 HP2
  refine wpAnyH_take (i := 0) (oi := ?oi0M74) (v := ?v0M74) ?oi0_0M74 (by kernel_rfl) ?ff0M74 ?rr0M74 ?hq0M74 (Or.inl ⟨?hw0M74, ?hy0M74⟩) (by assumption) ?rest0M74
  case oi0_0M74 => conv => lhs; whnf; arg 1; whnf
  case hq0M74 => exact fun _ _ _ h => h
  case ff0M74 | rr0M74 => kernel_rfl
  case hw0M74 => rfl
  case hy0M74 => intro w hSw; (try dsimp only at hSw); first | (go_simp; done) | (go_simp; with_reducible rfl)
  try simp only [Act.put, List.setIfInBounds_toArray, List.set_cons_zero, List.set_cons_succ]
  refine wpAnyH_take (i := 1) (oi := ?oi1M74) (v := ?v1M74) ?oi0_1M74 (by kernel_rfl) ?ff1M74 ?rr1M74 ?hq1M74 (Or.inl ⟨?hw1M74, ?hy1M74⟩) (by assumption) ?rest1M74
  case oi0_1M74 => conv => lhs; whnf; arg 1; whnf
  case hq1M74 => exact fun _ _ _ h => h
  case ff1M74 | rr1M74 => kernel_rfl
  case hw1M74 => rfl
  case hy1M74 => intro w hSw; (try dsimp only at hSw); first | (go_simp; done) | (go_simp; with_reducible rfl)
  try simp only [Act.put, List.setIfInBounds_toArray, List.set_cons_zero, List.set_cons_succ]
  refine wpAnyH_take (i := 2) (oi := ?oi2M74) (v := ?v2M74) ?oi0_2M74 (by kernel_rfl) ?ff2M74 ?rr2M74 ?hq2M74 (Or.inl ⟨?hw2M74, ?hy2M74⟩) (by assumption) ?rest2M74
  case oi0_2M74 => conv => lhs; whnf; arg 1; whnf
  case hq2M74 => exact fun _ _ _ h => h
  case ff2M74 | rr2M74 => kernel_rfl
  case hw2M74 => rfl
  case hy2M74 => intro w hSw; (try dsimp only at hSw); first | (go_simp; done) | (go_simp; with_reducible rfl)
  try simp only [Act.put, List.setIfInBounds_toArray, List.set_cons_zero, List.set_cons_succ]
  refine wpAnyH_take (i := 3) (oi := ?oi3M74) (v := ?v3M74) ?oi0_3M74 (by kernel_rfl) ?ff3M74 ?rr3M74 ?hq3M74 (Or.inl ⟨?hw3M74, ?hy3M74⟩) (by assumption) ?rest3M74
  case oi0_3M74 => conv => lhs; whnf; arg 1; whnf
  case hq3M74 => exact fun _ _ _ h => h
  case ff3M74 | rr3M74 => kernel_rfl
  case hw3M74 => rfl
  case hy3M74 => intro w hSw; (try dsimp only at hSw); first | (go_simp; done) | (go_simp; with_reducible rfl)
  try simp only [Act.put, List.setIfInBounds_toArray, List.set_cons_zero, List.set_cons_succ]
  refine wpAnyH_take (i := 4) (oi := ?oi4M74) (v := ?v4M74) ?oi0_4M74 (by kernel_rfl) ?ff4M74 ?rr4M74 ?hq4M74 (Or.inl ⟨?hw4M74, ?hy4M74⟩) (by assumption) ?rest4M74
  case oi0_4M74 => conv => lhs; whnf; arg 1; whnf
  case hq4M74 => exact fun _ _ _ h => h
  case ff4M74 | rr4M74 => kernel_rfl
  case hw4M74 => rfl
  case hy4M74 => intro w hSw; (try dsimp only at hSw); first | (go_simp; done) | (go_simp; with_reducible rfl)
  try simp only [Act.put, List.setIfInBounds_toArray, List.set_cons_zero, List.set_cons_succ]
  refine wpAnyH_take (i := 5) (oi := ?oi5M74) (v := ?v5M74) ?oi0_5M74 (by kernel_rfl) ?ff5M74 ?rr5M74 ?hq5M74 (Or.inl ⟨?hw5M74, ?hy5M74⟩) (by assumption) ?rest5M74
  case oi0_5M74 => conv => lhs; whnf; arg 1; whnf
  case hq5M74 => exact fun _ _ _ h => h
  case ff5M74 | rr5M74 => kernel_rfl
  case hw5M74 => rfl
  case hy5M74 => intro w hSw; (try dsimp only at hSw); first | (go_simp; done) | (go_simp; with_reducible rfl)
  try simp only [Act.put, List.setIfInBounds_toArray, List.set_cons_zero, List.set_cons_succ]
  refine wpAnyH_take (i := 6) (oi := ?oi6M74) (v := ?v6M74) ?oi0_6M74 (by kernel_rfl) ?ff6M74 ?rr6M74 ?hq6M74 (Or.inl ⟨?hw6M74, ?hy6M74⟩) (by assumption) ?rest6M74
  case oi0_6M74 => conv => lhs; whnf; arg 1; whnf
  case hq6M74 => exact fun _ _ _ h => h
  case ff6M74 | rr6M74 => kernel_rfl
  case hw6M74 => rfl
  case hy6M74 => intro w hSw; (try dsimp only at hSw); first | (go_simp; done) | (go_simp; with_reducible rfl)
  try simp only [Act.put, List.setIfInBounds_toArray, List.set_cons_zero, List.set_cons_succ]
  refine wpAnyH_take (i := 7) (oi := ?oi7M74) (v := ?v7M74) ?oi0_7M74 (by kernel_rfl) ?ff7M74 ?rr7M74 ?hq7M74 (Or.inl ⟨?hw7M74, ?hy7M74⟩) (by assumption) ?rest7M74
  case oi0_7M74 => conv => lhs; whnf; arg 1; whnf
  case hq7M74 => exact fun _ _ _ h => h
  case ff7M74 | rr7M74 => kernel_rfl
  case hw7M74 => rfl
  case hy7M74 => intro w hSw; (try dsimp only at hSw); first | (go_simp; done) | (go_simp; with_reducible rfl)
  try simp only [Act.put, List.setIfInBounds_toArray, List.set_cons_zero, List.set_cons_succ]
  refine wpAnyH_ready (rs := [8]) (by kernel_rfl) (by simp) (AllReadyH.cons (o := ?oiM75) ?oi0_M75 (fun K hK => ?_) AllReadyH.nil)
  case oi0_M75 => conv => lhs; whnf; arg 1; whnf
  go_simp
  refine (HZ.out w3).mono ?_
  rintro e w' ⟨rfl, rfl⟩
  try simp only
  (try dsimp only)
  refine hK.out _ _ (by exact hHeld) (fun hHeld => ?_)
  clear hK K
  try simp only [Act.put, List.setIfInBounds_toArray, List.set_cons_zero, List.set_cons_succ]
  refine wpAnyH_take (i := 9) (oi := ?oi9M76) (v := ?v9M76) ?oi0_9M76 (by kernel_rfl) ?ff9M76 ?rr9M76 ?hq9M76 (Or.inl ⟨?hw9M76, ?hy9M76⟩) (by assumption) ?rest9M76
  case oi0_9M76 => conv => lhs; whnf; arg 1; whnf
  case hq9M76 => exact fun _ _ _ h => h
  case ff9M76 | rr9M76 => kernel_rfl
  case hw9M76 => rfl
  case hy9M76 => intro w hSw; (try dsimp only at hSw); first | (go_simp; done) | (go_simp; with_reducible rfl)
  try simp only [Act.put, List.setIfInBounds_toArray, List.set_cons_zero, List.set_cons_succ]
  refine wpAnyH_take (i := 10) (oi := ?oi10M76) (v := ?v10M76) ?oi0_10M76 (by kernel_rfl) ?ff10M76 ?rr10M76 ?hq10M76 (Or.inl ⟨?hw10M76, ?hy10M76⟩) (by assumption) ?rest10M76
  case oi0_10M76 => conv => lhs; whnf; arg 1; whnf
  case hq10M76 => exact fun _ _ _ h => h
  case ff10M76 | rr10M76 => kernel_rfl
  case hw10M76 => rfl
  case hy10M76 => intro w hSw; (try dsimp only at hSw); first | (go_simp; done) | (go_simp; with_reducible rfl)
  try simp only [Act.put, List.setIfInBounds_toArray, List.set_cons_zero, List.set_cons_succ]
  refine wpAnyH_ready (rs := [11]) (by kernel_rfl) (by simp) (AllReadyH.cons (o := ?oiM77) ?oi0_M77 (fun K hK => ?_) AllReadyH.nil)
  case oi0_M77 => conv => lhs; whnf; arg 1; whnf
  go_simp
  have HC := hide (pj_write 0 zb HP3.out (HD0.out.mono (by omega)))
  rw [HWR.out] at HC
  refine HC.out.mono ?_
  rintro e w4 ⟨rfl, hsm, hp⟩
  try simp only
  have HW4 := hide (show WBlk w4 wb g x (jptr (some (jb, tape0, false))) (jptr (some (xb, tape0, false))) from hsm.blk (by simp) HW3.out)
  have HP4 := hide hp
  clear hsm hp HC HW3 HP3
  have hc2 : w4.cell? ⟨wb, 0, none⟩ = some (.pointer (some ⟨g, 0, none⟩)) := HW4.out.cell 0
  (try dsimp only)
  refine hK.out _ _ (by exact hc2) (fun hHeld => ?_)
  clear hK K hc2
  try simp only [Act.put, List.setIfInBounds_toArray, List.set_cons_zero, List.set_cons_succ]
  refine wpAnyH_done (by kernel_rfl) ?_ _
  clear hHeld
  go_upto_region 11 with fail
  refine wp_region_held_drew (S := (fun w' => w'.cell? ⟨wb, 2, none⟩ = some (.pointer (some ⟨x, 0, none⟩)))) (by kernel_rfl) (by exact HW4.out.cell 2) (fun hHeld => ?_)
  obtain ⟨w5, hw⟩ : ∃ y, w4.drew = y := ⟨_, rfl⟩
  have u : Upd [] w4 w5 := by rw [← hw]; exact (Upd.refl [] _).drew
  rw [hw] at hHeld ⊢
  clear hw
  have HW5 := hide (show WBlk w5 wb g x (jptr (some (jb, tape0, false))) (jptr (some (xb, tape0, false))) from keepB HW4.out u)
  have HP5 := hide (HP4.out.step u (by simp))
  clear u HW4 HP4
  refine wpAnyH_take (i := 0) (oi := ?oi0M80) (v := ?v0M80) ?oi0_0M80 (by kernel_rfl) ?ff0M80 ?rr0M80 ?hq0M80 (Or.inl ⟨?hw0M80, ?hy0M80⟩) (by assumption) ?rest0M80
  case oi0_0M80 => conv => lhs; whnf; arg 1; whnf
  case hq0M80 => exact fun _ _ _ h => h
  case ff0M80 | rr0M80 => kernel_rfl
  case hw0M80 => rfl
  case hy0M80 => intro w hSw; (try dsimp only at hSw); first | (go_simp; done) | (go_simp; with_reducible rfl)
  try simp only [Act.put, List.setIfInBounds_toArray, List.set_cons_zero, List.set_cons_succ]
  refine wpAnyH_take (i := 1) (oi := ?oi1M80) (v := ?v1M80) ?oi0_1M80 (by kernel_rfl) ?ff1M80 ?rr1M80 ?hq1M80 (Or.inl ⟨?hw1M80, ?hy1M80⟩) (by assumption) ?rest1M80
  case oi0_1M80 => conv => lhs; whnf; arg 1; whnf
  case hq1M80 => exact fun _ _ _ h => h
  case ff1M80 | rr1M80 => kernel_rfl
  case hw1M80 => rfl
  case hy1M80 => intro w hSw; (try dsimp only at hSw); first | (go_simp; done) | (go_simp; with_reducible rfl)
  try simp only [Act.put, List.setIfInBounds_toArray, List.set_cons_zero, List.set_cons_succ]
  refine wpAnyH_take (i := 2) (oi := ?oi2M80) (v := ?v2M80) ?oi0_2M80 (by kernel_rfl) ?ff2M80 ?rr2M80 ?hq2M80 (Or.inl ⟨?hw2M80, ?hy2M80⟩) (by assumption) ?rest2M80
  case oi0_2M80 => conv => lhs; whnf; arg 1; whnf
  case hq2M80 => exact fun _ _ _ h => h
  case ff2M80 | rr2M80 => kernel_rfl
  case hw2M80 => rfl
  case hy2M80 => intro w hSw; (try dsimp only at hSw); first | (go_simp; done) | (go_simp; with_reducible rfl)
  try simp only [Act.put, List.setIfInBounds_toArray, List.set_cons_zero, List.set_cons_succ]
  refine wpAnyH_take (i := 3) (oi := ?oi3M80) (v := ?v3M80) ?oi0_3M80 (by kernel_rfl) ?ff3M80 ?rr3M80 ?hq3M80 (Or.inl ⟨?hw3M80, ?hy3M80⟩) (by assumption) ?rest3M80
  case oi0_3M80 => conv => lhs; whnf; arg 1; whnf
  case hq3M80 => exact fun _ _ _ h => h
  case ff3M80 | rr3M80 => kernel_rfl
  case hw3M80 => rfl
  case hy3M80 => intro w hSw; (try dsimp only at hSw); first | (go_simp; done) | (go_simp; with_reducible rfl)
  try simp only [Act.put, List.setIfInBounds_toArray, List.set_cons_zero, List.set_cons_succ]
  refine wpAnyH_take (i := 4) (oi := ?oi4M80) (v := ?v4M80) ?oi0_4M80 (by kernel_rfl) ?ff4M80 ?rr4M80 ?hq4M80 (Or.inl ⟨?hw4M80, ?hy4M80⟩) (by assumption) ?rest4M80
  case oi0_4M80 => conv => lhs; whnf; arg 1; whnf
  case hq4M80 => exact fun _ _ _ h => h
  case ff4M80 | rr4M80 => kernel_rfl
  case hw4M80 => rfl
  case hy4M80 => intro w hSw; (try dsimp only at hSw); first | (go_simp; done) | (go_simp; with_reducible rfl)
  try simp only [Act.put, List.setIfInBounds_toArray, List.set_cons_zero, List.set_cons_succ]
  refine wpAnyH_take (i := 5) (oi := ?oi5M80) (v := ?v5M80) ?oi0_5M80 (by kernel_rfl) ?ff5M80 ?rr5M80 ?hq5M80 (Or.inl ⟨?hw5M80, ?hy5M80⟩) (by assumption) ?rest5M80
  case oi0_5M80 => conv => lhs; whnf; arg 1; whnf
  case hq5M80 => exact fun _ _ _ h => h
  case ff5M80 | rr5M80 => kernel_rfl
  case hw5M80 => rfl
  case hy5M80 => intro w hSw; (try dsimp only at hSw); first | (go_simp; done) | (go_simp; with_reducible rfl)
  try simp only [Act.put, List.setIfInBounds_toArray, List.set_cons_zero, List.set_cons_succ]
  refine wpAnyH_take (i := 6) (oi := ?oi6M80) (v := ?v6M80) ?oi0_6M80 (by kernel_rfl) ?ff6M80 ?rr6M80 ?hq6M80 (Or.inl ⟨?hw6M80, ?hy6M80⟩) (by assumption) ?rest6M80
  case oi0_6M80 => conv => lhs; whnf; arg 1; whnf
  case hq6M80 => exact fun _ _ _ h => h
  case ff6M80 | rr6M80 => kernel_rfl
  case hw6M80 => rfl
  case hy6M80 => intro w hSw; (try dsimp only at hSw); first | (go_simp; done) | (go_simp; with_reducible rfl)
  try simp only [Act.put, List.setIfInBounds_toArray, List.set_cons_zero, List.set_cons_succ]
  refine wpAnyH_take (i := 7) (oi := ?oi7M80) (v := ?v7M80) ?oi0_7M80 (by kernel_rfl) ?ff7M80 ?rr7M80 ?hq7M80 (Or.inl ⟨?hw7M80, ?hy7M80⟩) (by assumption) ?rest7M80
  case oi0_7M80 => conv => lhs; whnf; arg 1; whnf
  case hq7M80 => exact fun _ _ _ h => h
  case ff7M80 | rr7M80 => kernel_rfl
  case hw7M80 => rfl
  case hy7M80 => intro w hSw; (try dsimp only at hSw); first | (go_simp; done) | (go_simp; with_reducible rfl)
  try simp only [Act.put, List.setIfInBounds_toArray, List.set_cons_zero, List.set_cons_succ]
  refine wpAnyH_ready (rs := [8]) (by kernel_rfl) (by simp) (AllReadyH.cons (o := ?oiM81) ?oi0_M81 (fun K hK => ?_) AllReadyH.nil)
  case oi0_M81 => conv => lhs; whnf; arg 1; whnf
  go_simp
  refine (HZ.out w5).mono ?_
  rintro e w' ⟨rfl, rfl⟩
  try simp only
  (try dsimp only)
  refine hK.out _ _ (by exact hHeld) (fun hHeld => ?_)
  clear hK K
  try simp only [Act.put, List.setIfInBounds_toArray, List.set_cons_zero, List.set_cons_succ]
  refine wpAnyH_take (i := 9) (oi := ?oi9M82) (v := ?v9M82) ?oi0_9M82 (by kernel_rfl) ?ff9M82 ?rr9M82 ?hq9M82 (Or.inl ⟨?hw9M82, ?hy9M82⟩) (by assumption) ?rest9M82
  case oi0_9M82 => conv => lhs; whnf; arg 1; whnf
  case hq9M82 => exact fun _ _ _ h => h
  case ff9M82 | rr9M82 => kernel_rfl
  case hw9M82 => rfl
  case hy9M82 => intro w hSw; (try dsimp only at hSw); first | (go_simp; done) | (go_simp; with_reducible rfl)
  try simp only [Act.put, List.setIfInBounds_toArray, List.set_cons_zero, List.set_cons_succ]
  refine wpAnyH_take (i := 10) (oi := ?oi10M82) (v := ?v10M82) ?oi0_10M82 (by kernel_rfl) ?ff10M82 ?rr10M82 ?hq10M82 (Or.inl ⟨?hw10M82, ?hy10M82⟩) (by assumption) ?rest10M82
  case oi0_10M82 => conv => lhs; whnf; arg 1; whnf
  case hq10M82 => exact fun _ _ _ h => h
  case ff10M82 | rr10M82 => kernel_rfl
  case hw10M82 => rfl
  case hy10M82 => intro w hSw; (try dsimp only at hSw); first | (go_simp; done) | (go_simp; with_reducible rfl)
  try simp only [Act.put, List.setIfInBounds_toArray, List.set_cons_zero, List.set_cons_succ]
  refine wpAnyH_ready (rs := [11]) (by kernel_rfl) (by simp) (AllReadyH.cons (o := ?oiM83) ?oi0_M83 (fun K hK => ?_) AllReadyH.nil)
  case oi0_M83 => conv => lhs; whnf; arg 1; whnf
  go_simp
  have HC := hide (pj_rdisk HP5.out (fun G hr _ => refWrite (D := DiskS.fresh N) 0 zb w5 hr (by have := HD0.out.2.2; omega)))
  rw [HWR.out] at HC
  refine HC.out.mono ?_
  rintro e w6 ⟨rfl, hsm, hp⟩
  try simp only
  have HW6 := hide (show WBlk w6 wb g x (jptr (some (jb, tape0, false))) (jptr (some (xb, tape0, false))) from hsm.blk (by simp) HW5.out)
  have HP6 := hide hp
  clear hsm hp HC HW5 HP5
  have hc2 : w6.cell? ⟨wb, 2, none⟩ = some (.pointer (some ⟨x, 0, none⟩)) := HW6.out.cell 2
  (try dsimp only)
  refine hK.out _ _ (by exact hc2) (fun hHeld => ?_)
  clear hK K hc2
  try simp only [Act.put, List.setIfInBounds_toArray, List.set_cons_zero, List.set_cons_succ]
  refine wpAnyH_done (by kernel_rfl) ?_ _
  clear hHeld
  have HDX := hide (show DInv 5 E from HD8.out.1.mono (by omega))
  have HNX := hide HN8.out
  clear HD8 HN8
  have HOP := hide (world_open (wb := wb) HL.out (show wb ∈ [wb] by simp) HWB.out HW6.out (HP6.out.drop) (HDX.out.mono (by omega)))
  have HIN := hide (open_inv HDX.out)
  have HNO := hide HNX.out.open_
  go_wp2_with fail
  refine HOP.out.mono ?_
  rintro e w20 ⟨rfl, _, P, R, ho, hw, hp⟩
  have HI := hide (winv_open (n := 7) ho HIN.out (by omega))
  obtain ⟨D, hD⟩ : ∃ y, (OpenS refK E).2.1 = y := ⟨_, rfl⟩
  rw [hD] at hp HNO HI
  have HW := hide hw
  have HP := hide hp
  clear ho hw hp HOP HIN hD HW6 HP6
  go_upto_region 13 with fail
  rcases HI.out.2 with ⟨rfl, rfl⟩ | ⟨jc, xc, T, br, rfl, rfl, hT, hts⟩
  case inl =>
    refine wp_region_held_drew (S := (fun w' => w'.cell? ⟨wb, 1, none⟩ = some (.pointer none))) (by kernel_rfl) (by exact HW.out.cell 1) (fun hHeld => ?_)
    obtain ⟨w21, hw⟩ : ∃ y, w20.drew = y := ⟨_, rfl⟩
    have u : Upd [] w20 w21 := by rw [← hw]; exact (Upd.refl [] _).drew
    rw [hw] at hHeld ⊢
    clear hw
    have HP21 := hide (HP.out.step u (by simp))
    clear u HW HP
    refine wpAnyH_take (i := 0) (oi := ?oi0M86) (v := ?v0M86) ?oi0_0M86 (by kernel_rfl) ?ff0M86 ?rr0M86 ?hq0M86 (Or.inl ⟨?hw0M86, ?hy0M86⟩) (by assumption) ?rest0M86
    case oi0_0M86 => conv => lhs; whnf; arg 1; whnf
    case hq0M86 => exact fun _ _ _ h => h
    case ff0M86 | rr0M86 => kernel_rfl
    case hw0M86 => rfl
    case hy0M86 => intro w hSw; (try dsimp only at hSw); first | (go_simp; done) | (go_simp; with_reducible rfl)
    try simp only [Act.put, List.setIfInBounds_toArray, List.set_cons_zero, List.set_cons_succ]
    refine wpAnyH_take (i := 1) (oi := ?oi1M86) (v := ?v1M86) ?oi0_1M86 (by kernel_rfl) ?ff1M86 ?rr1M86 ?hq1M86 (Or.inl ⟨?hw1M86, ?hy1M86⟩) (by assumption) ?rest1M86
    case oi0_1M86 => conv => lhs; whnf; arg 1; whnf
    case hq1M86 => exact fun _ _ _ h => h
    case ff1M86 | rr1M86 => kernel_rfl
    case hw1M86 => rfl
    case hy1M86 => intro w hSw; (try dsimp only at hSw); first | (go_simp; done) | (go_simp; with_reducible rfl)
    try simp only [Act.put, List.setIfInBounds_toArray, List.set_cons_zero, List.set_cons_succ]
    refine wpAnyH_take (i := 2) (oi := ?oi2M86) (v := ?v2M86) ?oi0_2M86 (by kernel_rfl) ?ff2M86 ?rr2M86 ?hq2M86 (Or.inl ⟨?hw2M86, ?hy2M86⟩) (by assumption) ?rest2M86
    case oi0_2M86 => conv => lhs; whnf; arg 1; whnf
    case hq2M86 => exact fun _ _ _ h => h
    case ff2M86 | rr2M86 => kernel_rfl
    case hw2M86 => rfl
    case hy2M86 => intro w hSw; (try dsimp only at hSw); first | (go_simp; done) | (go_simp; with_reducible rfl)
    try simp only [Act.put, List.setIfInBounds_toArray, List.set_cons_zero, List.set_cons_succ]
    refine wpAnyH_take (i := 3) (oi := ?oi3M86) (v := ?v3M86) ?oi0_3M86 (by kernel_rfl) ?ff3M86 ?rr3M86 ?hq3M86 (Or.inl ⟨?hw3M86, ?hy3M86⟩) (by assumption) ?rest3M86
    case oi0_3M86 => conv => lhs; whnf; arg 1; whnf
    case hq3M86 => exact fun _ _ _ h => h
    case ff3M86 | rr3M86 => kernel_rfl
    case hw3M86 => rfl
    case hy3M86 => intro w hSw; (try dsimp only at hSw); first | (go_simp; done) | (go_simp; with_reducible rfl)
    try simp only [Act.put, List.setIfInBounds_toArray, List.set_cons_zero, List.set_cons_succ]
    refine wpAnyH_take (i := 4) (oi := ?oi4M86) (v := ?v4M86) ?oi0_4M86 (by kernel_rfl) ?ff4M86 ?rr4M86 ?hq4M86 (Or.inl ⟨?hw4M86, ?hy4M86⟩) (by assumption) ?rest4M86
    case oi0_4M86 => conv => lhs; whnf; arg 1; whnf
    case hq4M86 => exact fun _ _ _ h => h
    case ff4M86 | rr4M86 => kernel_rfl
    case hw4M86 => rfl
    case hy4M86 => intro w hSw; (try dsimp only at hSw); first | (go_simp; done) | (go_simp; with_reducible rfl)
    try simp only [Act.put, List.setIfInBounds_toArray, List.set_cons_zero, List.set_cons_succ]
    refine wpAnyH_take (i := 5) (oi := ?oi5M86) (v := ?v5M86) ?oi0_5M86 (by kernel_rfl) ?ff5M86 ?rr5M86 ?hq5M86 (Or.inl ⟨?hw5M86, ?hy5M86⟩) (by assumption) ?rest5M86
    case oi0_5M86 => conv => lhs; whnf; arg 1; whnf
    case hq5M86 => exact fun _ _ _ h => h
    case ff5M86 | rr5M86 => kernel_rfl
    case hw5M86 => rfl
    case hy5M86 => intro w hSw; (try dsimp only at hSw); first | (go_simp; done) | (go_simp; with_reducible rfl)
    try simp only [Act.put, List.setIfInBounds_toArray, List.set_cons_zero, List.set_cons_succ]
    refine wpAnyH_take (i := 6) (oi := ?oi6M86) (v := ?v6M86) ?oi0_6M86 (by kernel_rfl) ?ff6M86 ?rr6M86 ?hq6M86 (Or.inl ⟨?hw6M86, ?hy6M86⟩) (by assumption) ?rest6M86
    case oi0_6M86 => conv => lhs; whnf; arg 1; whnf
    case hq6M86 => exact fun _ _ _ h => h
    case ff6M86 | rr6M86 => kernel_rfl
    case hw6M86 => rfl
    case hy6M86 => intro w hSw; (try dsimp only at hSw); first | (go_simp; done) | (go_simp; with_reducible rfl)
    try simp only [Act.put, List.setIfInBounds_toArray, List.set_cons_zero, List.set_cons_succ]
    refine wpAnyH_take (i := 7) (oi := ?oi7M86) (v := ?v7M86) ?oi0_7M86 (by kernel_rfl) ?ff7M86 ?rr7M86 ?hq7M86 (Or.inl ⟨?hw7M86, ?hy7M86⟩) (by assumption) ?rest7M86
    case oi0_7M86 => conv => lhs; whnf; arg 1; whnf
    case hq7M86 => exact fun _ _ _ h => h
    case ff7M86 | rr7M86 => kernel_rfl
    case hw7M86 => rfl
    case hy7M86 => intro w hSw; (try dsimp only at hSw); first | (go_simp; done) | (go_simp; with_reducible rfl)
    try simp only [Act.put, List.setIfInBounds_toArray, List.set_cons_zero, List.set_cons_succ]
    refine wpAnyH_take (i := 8) (oi := ?oi8M86) (v := ?v8M86) ?oi0_8M86 (by kernel_rfl) ?ff8M86 ?rr8M86 ?hq8M86 (Or.inl ⟨?hw8M86, ?hy8M86⟩) (by assumption) ?rest8M86
    case oi0_8M86 => conv => lhs; whnf; arg 1; whnf
    case hq8M86 => exact fun _ _ _ h => h
    case ff8M86 | rr8M86 => kernel_rfl
    case hw8M86 => rfl
    case hy8M86 => intro w hSw; (try dsimp only at hSw); first | (go_simp; done) | (go_simp; with_reducible rfl)
    try simp only [Act.put, List.setIfInBounds_toArray, List.set_cons_zero, List.set_cons_succ]
    refine wpAnyH_take (i := 9) (oi := ?oi9M86) (v := ?v9M86) ?oi0_9M86 (by kernel_rfl) ?ff9M86 ?rr9M86 ?hq9M86 (Or.inl ⟨?hw9M86, ?hy9M86⟩) (by assumption) ?rest9M86
    case oi0_9M86 => conv => lhs; whnf; arg 1; whnf
    case hq9M86 => exact fun _ _ _ h => h
    case ff9M86 | rr9M86 => kernel_rfl
    case hw9M86 => rfl
    case hy9M86 => intro w hSw; (try dsimp only at hSw); first | (go_simp; done) | (go_simp; with_reducible rfl)
    try simp only [Act.put, List.setIfInBounds_toArray, List.set_cons_zero, List.set_cons_succ]
    refine wpAnyH_take (i := 10) (oi := ?oi10M86) (v := ?v10M86) ?oi0_10M86 (by kernel_rfl) ?ff10M86 ?rr10M86 ?hq10M86 (Or.inl ⟨?hw10M86, ?hy10M86⟩) (by assumption) ?rest10M86
    case oi0_10M86 => conv => lhs; whnf; arg 1; whnf
    case hq10M86 => exact fun _ _ _ h => h
    case ff10M86 | rr10M86 => kernel_rfl
    case hw10M86 => rfl
    case hy10M86 => intro w hSw; (try dsimp only at hSw); first | (go_simp; done) | (go_simp; with_reducible rfl)
    try simp only [Act.put, List.setIfInBounds_toArray, List.set_cons_zero, List.set_cons_succ]
    refine wpAnyH_take (i := 11) (oi := ?oi11M87) (v := undef) ?oi0_11M87 (by kernel_rfl) ?ff11M87 ?rr11M87 ?hq11M87 (Or.inr ⟨?hw11M87, rfl⟩) (by assumption) ?rest11M87
    case oi0_11M87 => conv => lhs; whnf; arg 1; whnf
    case hq11M87 => exact fun _ _ _ h => h
    case ff11M87 | rr11M87 => kernel_rfl
    case hw11M87 => rfl
    try simp only [Act.put, List.setIfInBounds_toArray, List.set_cons_zero, List.set_cons_succ]
    refine wpAnyH_take (i := 12) (oi := ?oi12M87) (v := undef) ?oi0_12M87 (by kernel_rfl) ?ff12M87 ?rr12M87 ?hq12M87 (Or.inr ⟨?hw12M87, rfl⟩) (by assumption) ?rest12M87
    case oi0_12M87 => conv => lhs; whnf; arg 1; whnf
    case hq12M87 => exact fun _ _ _ h => h
    case ff12M87 | rr12M87 => kernel_rfl
    case hw12M87 => rfl
    try simp only [Act.put, List.setIfInBounds_toArray, List.set_cons_zero, List.set_cons_succ]
    refine wpAnyH_take (i := 13) (oi := ?oi13M87) (v := undef) ?oi0_13M87 (by kernel_rfl) ?ff13M87 ?rr13M87 ?hq13M87 (Or.inr ⟨?hw13M87, rfl⟩) (by assumption) ?rest13M87
    case oi0_13M87 => conv => lhs; whnf; arg 1; whnf
    case hq13M87 => exact fun _ _ _ h => h
    case ff13M87 | rr13M87 => kernel_rfl
    case hw13M87 => rfl
    try simp only [Act.put, List.setIfInBounds_toArray, List.set_cons_zero, List.set_cons_succ]
    refine wpAnyH_take (i := 14) (oi := ?oi14M87) (v := undef) ?oi0_14M87 (by kernel_rfl) ?ff14M87 ?rr14M87 ?hq14M87 (Or.inr ⟨?hw14M87, rfl⟩) (by assumption) ?rest14M87
    case oi0_14M87 => conv => lhs; whnf; arg 1; whnf
    case hq14M87 => exact fun _ _ _ h => h
    case ff14M87 | rr14M87 => kernel_rfl
    case hw14M87 => rfl
    try simp only [Act.put, List.setIfInBounds_toArray, List.set_cons_zero, List.set_cons_succ]
    refine wpAnyH_take (i := 16) (oi := ?oi16M87) (v := undef) ?oi0_16M87 (by kernel_rfl) ?ff16M87 ?rr16M87 ?hq16M87 (Or.inr ⟨?hw16M87, rfl⟩) (by assumption) ?rest16M87
    case oi0_16M87 => conv => lhs; whnf; arg 1; whnf
    case hq16M87 => exact fun _ _ _ h => h
    case ff16M87 | rr16M87 => kernel_rfl
    case hw16M87 => rfl
    try simp only [Act.put, List.setIfInBounds_toArray, List.set_cons_zero, List.set_cons_succ]
    refine wpAnyH_take (i := 17) (oi := ?oi17M87) (v := undef) ?oi0_17M87 (by kernel_rfl) ?ff17M87 ?rr17M87 ?hq17M87 (Or.inr ⟨?hw17M87, rfl⟩) (by assumption) ?rest17M87
    case oi0_17M87 => conv => lhs; whnf; arg 1; whnf
    case hq17M87 => exact fun _ _ _ h => h
    case ff17M87 | rr17M87 => kernel_rfl
    case hw17M87 => rfl
    try simp only [Act.put, List.setIfInBounds_toArray, List.set_cons_zero, List.set_cons_succ]
    refine wpAnyH_take (i := 18) (oi := ?oi18M87) (v := undef) ?oi0_18M87 (by kernel_rfl) ?ff18M87 ?rr18M87 ?hq18M87 (Or.inr ⟨?hw18M87, rfl⟩) (by assumption) ?rest18M87
    case oi0_18M87 => conv => lhs; whnf; arg 1; whnf
    case hq18M87 => exact fun _ _ _ h => h
    case ff18M87 | rr18M87 => kernel_rfl
    case hw18M87 => rfl
    try simp only [Act.put, List.setIfInBounds_toArray, List.set_cons_zero, List.set_cons_succ]
    refine wpAnyH_take (i := 19) (oi := ?oi19M87) (v := undef) ?oi0_19M87 (by kernel_rfl) ?ff19M87 ?rr19M87 ?hq19M87 (Or.inr ⟨?hw19M87, rfl⟩) (by assumption) ?rest19M87
    case oi0_19M87 => conv => lhs; whnf; arg 1; whnf
    case hq19M87 => exact fun _ _ _ h => h
    case ff19M87 | rr19M87 => kernel_rfl
    case hw19M87 => rfl
    try simp only [Act.put, List.setIfInBounds_toArray, List.set_cons_zero, List.set_cons_succ]
    refine wpAnyH_take (i := 20) (oi := ?oi20M87) (v := undef) ?oi0_20M87 (by kernel_rfl) ?ff20M87 ?rr20M87 ?hq20M87 (Or.inr ⟨?hw20M87, rfl⟩) (by assumption) ?rest20M87
    case oi0_20M87 => conv => lhs; whnf; arg 1; whnf
    case hq20M87 => exact fun _ _ _ h => h
    case ff20M87 | rr20M87 => kernel_rfl
    case hw20M87 => rfl
    try simp only [Act.put, List.setIfInBounds_toArray, List.set_cons_zero, List.set_cons_succ]
    refine wpAnyH_take (i := 21) (oi := ?oi21M87) (v := undef) ?oi0_21M87 (by kernel_rfl) ?ff21M87 ?rr21M87 ?hq21M87 (Or.inr ⟨?hw21M87, rfl⟩) (by assumption) ?rest21M87
    case oi0_21M87 => conv => lhs; whnf; arg 1; whnf
    case hq21M87 => exact fun _ _ _ h => h
    case ff21M87 | rr21M87 => kernel_rfl
    case hw21M87 => rfl
    try simp only [Act.put, List.setIfInBounds_toArray, List.set_cons_zero, List.set_cons_succ]
    refine wpAnyH_take (i := 22) (oi := ?oi22M87) (v := undef) ?oi0_22M87 (by kernel_rfl) ?ff22M87 ?rr22M87 ?hq22M87 (Or.inr ⟨?hw22M87, rfl⟩) (by assumption) ?rest22M87
    case oi0_22M87 => conv => lhs; whnf; arg 1; whnf
    case hq22M87 => exact fun _ _ _ h => h
    case ff22M87 | rr22M87 => kernel_rfl
    case hw22M87 => rfl
    try simp only [Act.put, List.setIfInBounds_toArray, List.set_cons_zero, List.set_cons_succ]
    refine wpAnyH_ready (rs := [15]) (by kernel_rfl) (by simp) (AllReadyH.cons (o := ?oi15M88) ?oi0_15M88 (fun K hK => ?_) AllReadyH.nil)
    case oi0_15M88 => conv => lhs; whnf; arg 1; whnf
    rw [if_neg (by first | (simp [Region.wanted, yielded]; done) | (simp [Region.wanted, yielded]; exact fun h => nomatch (show (none : Option Bool) = some true from h)) | (simp [Region.wanted, yielded]; exact fun h => nomatch (show (none : Option Bool) = some false from h)))]
    refine hK.out _ _ (by assumption) (fun _ => ?_)
    clear hK K
    try simp only [Act.put, List.setIfInBounds_toArray, List.set_cons_zero, List.set_cons_succ]
    refine wpAnyH_ready (rs := [23]) (by kernel_rfl) (by simp) (AllReadyH.cons (o := ?oi23M89) ?oi0_23M89 (fun K hK => ?_) AllReadyH.nil)
    case oi0_23M89 => conv => lhs; whnf; arg 1; whnf
    rw [if_neg (by first | (simp [Region.wanted, yielded]; done) | (simp [Region.wanted, yielded]; exact fun h => nomatch (show (none : Option Bool) = some true from h)) | (simp [Region.wanted, yielded]; exact fun h => nomatch (show (none : Option Bool) = some false from h)))]
    refine hK.out _ _ (by assumption) (fun _ => ?_)
    clear hK K
    try simp only [Act.put, List.setIfInBounds_toArray, List.set_cons_zero, List.set_cons_succ]
    refine wpAnyH_take (i := 24) (oi := ?oi24M90) (v := undef) ?oi0_24M90 (by kernel_rfl) ?ff24M90 ?rr24M90 ?hq24M90 (Or.inr ⟨?hw24M90, rfl⟩) (by assumption) ?rest24M90
    case oi0_24M90 => conv => lhs; whnf; arg 1; whnf
    case hq24M90 => exact fun _ _ _ h => h
    case ff24M90 | rr24M90 => kernel_rfl
    case hw24M90 => rfl
    try simp only [Act.put, List.setIfInBounds_toArray, List.set_cons_zero, List.set_cons_succ]
    refine wpAnyH_take (i := 25) (oi := ?oi25M90) (v := undef) ?oi0_25M90 (by kernel_rfl) ?ff25M90 ?rr25M90 ?hq25M90 (Or.inr ⟨?hw25M90, rfl⟩) (by assumption) ?rest25M90
    case oi0_25M90 => conv => lhs; whnf; arg 1; whnf
    case hq25M90 => exact fun _ _ _ h => h
    case ff25M90 | rr25M90 => kernel_rfl
    case hw25M90 => rfl
    try simp only [Act.put, List.setIfInBounds_toArray, List.set_cons_zero, List.set_cons_succ]
    refine wpAnyH_take (i := 26) (oi := ?oi26M90) (v := undef) ?oi0_26M90 (by kernel_rfl) ?ff26M90 ?rr26M90 ?hq26M90 (Or.inr ⟨?hw26M90, rfl⟩) (by assumption) ?rest26M90
    case oi0_26M90 => conv => lhs; whnf; arg 1; whnf
    case hq26M90 => exact fun _ _ _ h => h
    case ff26M90 | rr26M90 => kernel_rfl
    case hw26M90 => rfl
    try simp only [Act.put, List.setIfInBounds_toArray, List.set_cons_zero, List.set_cons_succ]
    refine wpAnyH_take (i := 27) (oi := ?oi27M90) (v := undef) ?oi0_27M90 (by kernel_rfl) ?ff27M90 ?rr27M90 ?hq27M90 (Or.inr ⟨?hw27M90, rfl⟩) (by assumption) ?rest27M90
    case oi0_27M90 => conv => lhs; whnf; arg 1; whnf
    case hq27M90 => exact fun _ _ _ h => h
    case ff27M90 | rr27M90 => kernel_rfl
    case hw27M90 => rfl
    try simp only [Act.put, List.setIfInBounds_toArray, List.set_cons_zero, List.set_cons_succ]
    refine wpAnyH_take (i := 28) (oi := ?oi28M90) (v := undef) ?oi0_28M90 (by kernel_rfl) ?ff28M90 ?rr28M90 ?hq28M90 (Or.inr ⟨?hw28M90, rfl⟩) (by assumption) ?rest28M90
    case oi0_28M90 => conv => lhs; whnf; arg 1; whnf
    case hq28M90 => exact fun _ _ _ h => h
    case ff28M90 | rr28M90 => kernel_rfl
    case hw28M90 => rfl
    try simp only [Act.put, List.setIfInBounds_toArray, List.set_cons_zero, List.set_cons_succ]
    refine wpAnyH_take (i := 30) (oi := ?oi30M90) (v := undef) ?oi0_30M90 (by kernel_rfl) ?ff30M90 ?rr30M90 ?hq30M90 (Or.inr ⟨?hw30M90, rfl⟩) (by assumption) ?rest30M90
    case oi0_30M90 => conv => lhs; whnf; arg 1; whnf
    case hq30M90 => exact fun _ _ _ h => h
    case ff30M90 | rr30M90 => kernel_rfl
    case hw30M90 => rfl
    try simp only [Act.put, List.setIfInBounds_toArray, List.set_cons_zero, List.set_cons_succ]
    refine wpAnyH_take (i := 31) (oi := ?oi31M90) (v := undef) ?oi0_31M90 (by kernel_rfl) ?ff31M90 ?rr31M90 ?hq31M90 (Or.inr ⟨?hw31M90, rfl⟩) (by assumption) ?rest31M90
    case oi0_31M90 => conv => lhs; whnf; arg 1; whnf
    case hq31M90 => exact fun _ _ _ h => h
    case ff31M90 | rr31M90 => kernel_rfl
    case hw31M90 => rfl
    try simp only [Act.put, List.setIfInBounds_toArray, List.set_cons_zero, List.set_cons_succ]
    refine wpAnyH_take (i := 32) (oi := ?oi32M90) (v := undef) ?oi0_32M90 (by kernel_rfl) ?ff32M90 ?rr32M90 ?hq32M90 (Or.inr ⟨?hw32M90, rfl⟩) (by assumption) ?rest32M90
    case oi0_32M90 => conv => lhs; whnf; arg 1; whnf
    case hq32M90 => exact fun _ _ _ h => h
    case ff32M90 | rr32M90 => kernel_rfl
    case hw32M90 => rfl
    try simp only [Act.put, List.setIfInBounds_toArray, List.set_cons_zero, List.set_cons_succ]
    refine wpAnyH_take (i := 33) (oi := ?oi33M90) (v := undef) ?oi0_33M90 (by kernel_rfl) ?ff33M90 ?rr33M90 ?hq33M90 (Or.inr ⟨?hw33M90, rfl⟩) (by assumption) ?rest33M90
    case oi0_33M90 => conv => lhs; whnf; arg 1; whnf
    case hq33M90 => exact fun _ _ _ h => h
    case ff33M90 | rr33M90 => kernel_rfl
    case hw33M90 => rfl
    try simp only [Act.put, List.setIfInBounds_toArray, List.set_cons_zero, List.set_cons_succ]
    refine wpAnyH_ready (rs := [29]) (by kernel_rfl) (by simp) (AllReadyH.cons (o := ?oi29M91) ?oi0_29M91 (fun K hK => ?_) AllReadyH.nil)
    case oi0_29M91 => conv => lhs; whnf; arg 1; whnf
    rw [if_neg (by first | (simp [Region.wanted, yielded]; done) | (simp [Region.wanted, yielded]; exact fun h => nomatch (show (none : Option Bool) = some true from h)) | (simp [Region.wanted, yielded]; exact fun h => nomatch (show (none : Option Bool) = some false from h)))]
    refine hK.out _ _ (by assumption) (fun _ => ?_)
    clear hK K
    try simp only [Act.put, List.setIfInBounds_toArray, List.set_cons_zero, List.set_cons_succ]
    refine wpAnyH_ready (rs := [34]) (by kernel_rfl) (by simp) (AllReadyH.cons (o := ?oi34M92) ?oi0_34M92 (fun K hK => ?_) AllReadyH.nil)
    case oi0_34M92 => conv => lhs; whnf; arg 1; whnf
    rw [if_neg (by first | (simp [Region.wanted, yielded]; done) | (simp [Region.wanted, yielded]; exact fun h => nomatch (show (none : Option Bool) = some true from h)) | (simp [Region.wanted, yielded]; exact fun h => nomatch (show (none : Option Bool) = some false from h)))]
    refine hK.out _ _ (by assumption) (fun _ => ?_)
    clear hK K
    try simp only [Act.put, List.setIfInBounds_toArray, List.set_cons_zero, List.set_cons_succ]
    refine wpAnyH_take (i := 35) (oi := ?oi35M93) (v := undef) ?oi0_35M93 (by kernel_rfl) ?ff35M93 ?rr35M93 ?hq35M93 (Or.inr ⟨?hw35M93, rfl⟩) (by assumption) ?rest35M93
    case oi0_35M93 => conv => lhs; whnf; arg 1; whnf
    case hq35M93 => exact fun _ _ _ h => h
    case ff35M93 | rr35M93 => kernel_rfl
    case hw35M93 => rfl
    try simp only [Act.put, List.setIfInBounds_toArray, List.set_cons_zero, List.set_cons_succ]
    refine wpAnyH_take (i := 36) (oi := ?oi36M93) (v := undef) ?oi0_36M93 (by kernel_rfl) ?ff36M93 ?rr36M93 ?hq36M93 (Or.inr ⟨?hw36M93, rfl⟩) (by assumption) ?rest36M93
    case oi0_36M93 => conv => lhs; whnf; arg 1; whnf
    case hq36M93 => exact fun _ _ _ h => h
    case ff36M93 | rr36M93 => kernel_rfl
    case hw36M93 => rfl
    try simp only [Act.put, List.setIfInBounds_toArray, List.set_cons_zero, List.set_cons_succ]
    refine wpAnyH_take (i := 37) (oi := ?oi37M93) (v := undef) ?oi0_37M93 (by kernel_rfl) ?ff37M93 ?rr37M93 ?hq37M93 (Or.inr ⟨?hw37M93, rfl⟩) (by assumption) ?rest37M93
    case oi0_37M93 => conv => lhs; whnf; arg 1; whnf
    case hq37M93 => exact fun _ _ _ h => h
    case ff37M93 | rr37M93 => kernel_rfl
    case hw37M93 => rfl
    try simp only [Act.put, List.setIfInBounds_toArray, List.set_cons_zero, List.set_cons_succ]
    refine wpAnyH_take (i := 38) (oi := ?oi38M93) (v := undef) ?oi0_38M93 (by kernel_rfl) ?ff38M93 ?rr38M93 ?hq38M93 (Or.inr ⟨?hw38M93, rfl⟩) (by assumption) ?rest38M93
    case oi0_38M93 => conv => lhs; whnf; arg 1; whnf
    case hq38M93 => exact fun _ _ _ h => h
    case ff38M93 | rr38M93 => kernel_rfl
    case hw38M93 => rfl
    try simp only [Act.put, List.setIfInBounds_toArray, List.set_cons_zero, List.set_cons_succ]
    refine wpAnyH_take (i := 39) (oi := ?oi39M93) (v := undef) ?oi0_39M93 (by kernel_rfl) ?ff39M93 ?rr39M93 ?hq39M93 (Or.inr ⟨?hw39M93, rfl⟩) (by assumption) ?rest39M93
    case oi0_39M93 => conv => lhs; whnf; arg 1; whnf
    case hq39M93 => exact fun _ _ _ h => h
    case ff39M93 | rr39M93 => kernel_rfl
    case hw39M93 => rfl
    try simp only [Act.put, List.setIfInBounds_toArray, List.set_cons_zero, List.set_cons_succ]
    refine wpAnyH_take (i := 40) (oi := ?oi40M93) (v := undef) ?oi0_40M93 (by kernel_rfl) ?ff40M93 ?rr40M93 ?hq40M93 (Or.inr ⟨?hw40M93, rfl⟩) (by assumption) ?rest40M93
    case oi0_40M93 => conv => lhs; whnf; arg 1; whnf
    case hq40M93 => exact fun _ _ _ h => h
    case ff40M93 | rr40M93 => kernel_rfl
    case hw40M93 => rfl
    try simp only [Act.put, List.setIfInBounds_toArray, List.set_cons_zero, List.set_cons_succ]
    refine wpAnyH_take (i := 41) (oi := ?oi41M93) (v := undef) ?oi0_41M93 (by kernel_rfl) ?ff41M93 ?rr41M93 ?hq41M93 (Or.inr ⟨?hw41M93, rfl⟩) (by assumption) ?rest41M93
    case oi0_41M93 => conv => lhs; whnf; arg 1; whnf
    case hq41M93 => exact fun _ _ _ h => h
    case ff41M93 | rr41M93 => kernel_rfl
    case hw41M93 => rfl
    try simp only [Act.put, List.setIfInBounds_toArray, List.set_cons_zero, List.set_cons_succ]
    refine wpAnyH_take (i := 43) (oi := ?oi43M93) (v := undef) ?oi0_43M93 (by kernel_rfl) ?ff43M93 ?rr43M93 ?hq43M93 (Or.inr ⟨?hw43M93, rfl⟩) (by assumption) ?rest43M93
    case oi0_43M93 => conv => lhs; whnf; arg 1; whnf
    case hq43M93 => exact fun _ _ _ h => h
    case ff43M93 | rr43M93 => kernel_rfl
    case hw43M93 => rfl
    try simp only [Act.put, List.setIfInBounds_toArray, List.set_cons_zero, List.set_cons_succ]
    refine wpAnyH_take (i := 44) (oi := ?oi44M93) (v := undef) ?oi0_44M93 (by kernel_rfl) ?ff44M93 ?rr44M93 ?hq44M93 (Or.inr ⟨?hw44M93, rfl⟩) (by assumption) ?rest44M93
    case oi0_44M93 => conv => lhs; whnf; arg 1; whnf
    case hq44M93 => exact fun _ _ _ h => h
    case ff44M93 | rr44M93 => kernel_rfl
    case hw44M93 => rfl
    try simp only [Act.put, List.setIfInBounds_toArray, List.set_cons_zero, List.set_cons_succ]
    refine wpAnyH_take (i := 45) (oi := ?oi45M93) (v := undef) ?oi0_45M93 (by kernel_rfl) ?ff45M93 ?rr45M93 ?hq45M93 (Or.inr ⟨?hw45M93, rfl⟩) (by assumption) ?rest45M93
    case oi0_45M93 => conv => lhs; whnf; arg 1; whnf
    case hq45M93 => exact fun _ _ _ h => h
    case ff45M93 | rr45M93 => kernel_rfl
    case hw45M93 => rfl
    try simp only [Act.put, List.setIfInBounds_toArray, List.set_cons_zero, List.set_cons_succ]
    refine wpAnyH_take (i := 46) (oi := ?oi46M93) (v := undef) ?oi0_46M93 (by kernel_rfl) ?ff46M93 ?rr46M93 ?hq46M93 (Or.inr ⟨?hw46M93, rfl⟩) (by assumption) ?rest46M93
    case oi0_46M93 => conv => lhs; whnf; arg 1; whnf
    case hq46M93 => exact fun _ _ _ h => h
    case ff46M93 | rr46M93 => kernel_rfl
    case hw46M93 => rfl
    try simp only [Act.put, List.setIfInBounds_toArray, List.set_cons_zero, List.set_cons_succ]
    refine wpAnyH_ready (rs := [42]) (by kernel_rfl) (by simp) (AllReadyH.cons (o := ?oi42M94) ?oi0_42M94 (fun K hK => ?_) AllReadyH.nil)
    case oi0_42M94 => conv => lhs; whnf; arg 1; whnf
    rw [if_neg (by first | (simp [Region.wanted, yielded]; done) | (simp [Region.wanted, yielded]; exact fun h => nomatch (show (none : Option Bool) = some true from h)) | (simp [Region.wanted, yielded]; exact fun h => nomatch (show (none : Option Bool) = some false from h)))]
    refine hK.out _ _ (by assumption) (fun _ => ?_)
    clear hK K
    try simp only [Act.put, List.setIfInBounds_toArray, List.set_cons_zero, List.set_cons_succ]
    refine wpAnyH_ready (rs := [47]) (by kernel_rfl) (by simp) (AllReadyH.cons (o := ?oi47M95) ?oi0_47M95 (fun K hK => ?_) AllReadyH.nil)
    case oi0_47M95 => conv => lhs; whnf; arg 1; whnf
    rw [if_neg (by first | (simp [Region.wanted, yielded]; done) | (simp [Region.wanted, yielded]; exact fun h => nomatch (show (none : Option Bool) = some true from h)) | (simp [Region.wanted, yielded]; exact fun h => nomatch (show (none : Option Bool) = some false from h)))]
    refine hK.out _ _ (by assumption) (fun _ => ?_)
    clear hK K
    try simp only [Act.put, List.setIfInBounds_toArray, List.set_cons_zero, List.set_cons_succ]
    refine wpAnyH_take (i := 48) (oi := ?oi48M96) (v := undef) ?oi0_48M96 (by kernel_rfl) ?ff48M96 ?rr48M96 ?hq48M96 (Or.inr ⟨?hw48M96, rfl⟩) (by assumption) ?rest48M96
    case oi0_48M96 => conv => lhs; whnf; arg 1; whnf
    case hq48M96 => exact fun _ _ _ h => h
    case ff48M96 | rr48M96 => kernel_rfl
    case hw48M96 => rfl
    try simp only [Act.put, List.setIfInBounds_toArray, List.set_cons_zero, List.set_cons_succ]
    refine wpAnyH_take (i := 49) (oi := ?oi49M96) (v := undef) ?oi0_49M96 (by kernel_rfl) ?ff49M96 ?rr49M96 ?hq49M96 (Or.inr ⟨?hw49M96, rfl⟩) (by assumption) ?rest49M96
    case oi0_49M96 => conv => lhs; whnf; arg 1; whnf
    case hq49M96 => exact fun _ _ _ h => h
    case ff49M96 | rr49M96 => kernel_rfl
    case hw49M96 => rfl
    try simp only [Act.put, List.setIfInBounds_toArray, List.set_cons_zero, List.set_cons_succ]
    refine wpAnyH_take (i := 50) (oi := ?oi50M96) (v := undef) ?oi0_50M96 (by kernel_rfl) ?ff50M96 ?rr50M96 ?hq50M96 (Or.inr ⟨?hw50M96, rfl⟩) (by assumption) ?rest50M96
    case oi0_50M96 => conv => lhs; whnf; arg 1; whnf
    case hq50M96 => exact fun _ _ _ h => h
    case ff50M96 | rr50M96 => kernel_rfl
    case hw50M96 => rfl
    try simp only [Act.put, List.setIfInBounds_toArray, List.set_cons_zero, List.set_cons_succ]
    refine wpAnyH_take (i := 51) (oi := ?oi51M97) (v := ?v51M97) ?oi0_51M97 (by kernel_rfl) ?ff51M97 ?rr51M97 ?hq51M97 (Or.inl ⟨?hw51M97, ?hy51M97⟩) (by assumption) ?rest51M97
    case oi0_51M97 => conv => lhs; whnf; arg 1; whnf
    case hq51M97 => exact fun _ _ _ h => h
    case ff51M97 | rr51M97 => kernel_rfl
    case hw51M97 => rfl
    case hy51M97 => intro w hSw; (try dsimp only at hSw); first | (go_simp; done) | (go_simp; with_reducible rfl)
    try simp only [Act.put, List.setIfInBounds_toArray, List.set_cons_zero, List.set_cons_succ]
    refine wpAnyH_take (i := 52) (oi := ?oi52M97) (v := ?v52M97) ?oi0_52M97 (by kernel_rfl) ?ff52M97 ?rr52M97 ?hq52M97 (Or.inl ⟨?hw52M97, ?hy52M97⟩) (by assumption) ?rest52M97
    case oi0_52M97 => conv => lhs; whnf; arg 1; whnf
    case hq52M97 => exact fun _ _ _ h => h
    case ff52M97 | rr52M97 => kernel_rfl
    case hw52M97 => rfl
    case hy52M97 => intro w hSw; (try dsimp only at hSw); first | (go_simp; done) | (go_simp; with_reducible rfl)
    try simp only [Act.put, List.setIfInBounds_toArray, List.set_cons_zero, List.set_cons_succ]
    refine wpAnyH_take (i := 53) (oi := ?oi53M97) (v := ?v53M97) ?oi0_53M97 (by kernel_rfl) ?ff53M97 ?rr53M97 ?hq53M97 (Or.inl ⟨?hw53M97, ?hy53M97⟩) (by assumption) ?rest53M97
    case oi0_53M97 => conv => lhs; whnf; arg 1; whnf
    case hq53M97 => exact fun _ _ _ h => h
    case ff53M97 | rr53M97 => kernel_rfl
    case hw53M97 => rfl
    case hy53M97 => intro w hSw; (try dsimp only at hSw); first | (go_simp; done) | (go_simp; with_reducible rfl)
    try simp only [Act.put, List.setIfInBounds_toArray, List.set_cons_zero, List.set_cons_succ]
    refine wpAnyH_done (by kernel_rfl) ?_ _
    clear hHeld
    go_wp2_with fail
    go_ret
    exact ⟨rfl, HP21.out.below⟩
  case inr =>
    obtain ⟨A, c, hx1, hx2⟩ := pj_list HP.out
    obtain ⟨rn, hrn⟩ : ∃ y, T.recs.length = y := ⟨_, rfl⟩
    have hrm : rn ≤ 4194304 := by have := hT.2.2; have := HP.out.ok.max; omega
    rw [hrn] at hx1 hx2
    have HRN := hide hrn
    have HTS := hide hts
    clear hrn hts hT
    refine wp_region_held_drew (S := (fun w' => w'.cell? ⟨wb, 0, none⟩ = some (.pointer (some ⟨g, 0, none⟩)) ∧ w'.cell? ⟨wb, 1, none⟩ = some (.pointer (some ⟨jc, 0, none⟩)) ∧ w'.cell? ⟨wb, 2, none⟩ = some (.pointer (some ⟨x, 0, none⟩)) ∧ w'.cell? ⟨wb, 3, none⟩ = some (.pointer (some ⟨xc, 0, none⟩)) ∧ w'.cell? ⟨xc, 1, none⟩ = some (.slice A rn c))) (by kernel_rfl) (by exact ⟨HW.out.cell 0, HW.out.cell 1, HW.out.cell 2, HW.out.cell 3, hx1⟩) (fun hHeld => ?_)
    obtain ⟨w21, hw⟩ : ∃ y, w20.drew = y := ⟨_, rfl⟩
    have u : Upd [] w20 w21 := by rw [← hw]; exact (Upd.refl [] _).drew
    rw [hw] at hHeld ⊢
    clear hw
    have HX21 := hide (keepc _ _ _ _ u hx1)
    have HO21 := hide (own_kept hx2 u (by simp))
    have HW21 := hide (show WBlk w21 wb g x (jptr (some (jc, T, br))) (jptr (some (xc, T, br))) from keepB HW.out u)
    have HP21 := hide (HP.out.step u (by simp))
    clear u HW HP hx1 hx2
    refine wpAnyH_take (i := 0) (oi := ?oi0M100) (v := ?v0M100) ?oi0_0M100 (by kernel_rfl) ?ff0M100 ?rr0M100 ?hq0M100 (Or.inl ⟨?hw0M100, ?hy0M100⟩) (by assumption) ?rest0M100
    case oi0_0M100 => conv => lhs; whnf; arg 1; whnf
    case hq0M100 => exact fun _ _ _ h => h
    case ff0M100 | rr0M100 => kernel_rfl
    case hw0M100 => rfl
    case hy0M100 => intro w hSw; (try dsimp only at hSw); first | (go_simp; done) | (go_simp; with_reducible rfl)
    try simp only [Act.put, List.setIfInBounds_toArray, List.set_cons_zero, List.set_cons_succ]
    refine wpAnyH_take (i := 1) (oi := ?oi1M100) (v := ?v1M100) ?oi0_1M100 (by kernel_rfl) ?ff1M100 ?rr1M100 ?hq1M100 (Or.inl ⟨?hw1M100, ?hy1M100⟩) (by assumption) ?rest1M100
    case oi0_1M100 => conv => lhs; whnf; arg 1; whnf
    case hq1M100 => exact fun _ _ _ h => h
    case ff1M100 | rr1M100 => kernel_rfl
    case hw1M100 => rfl
    case hy1M100 => intro w hSw; (try dsimp only at hSw); first | (go_simp; done) | (go_simp; with_reducible rfl)
    try simp only [Act.put, List.setIfInBounds_toArray, List.set_cons_zero, List.set_cons_succ]
    refine wpAnyH_take (i := 2) (oi := ?oi2M100) (v := ?v2M100) ?oi0_2M100 (by kernel_rfl) ?ff2M100 ?rr2M100 ?hq2M100 (Or.inl ⟨?hw2M100, ?hy2M100⟩) (by assumption) ?rest2M100
    case oi0_2M100 => conv => lhs; whnf; arg 1; whnf
    case hq2M100 => exact fun _ _ _ h => h
    case ff2M100 | rr2M100 => kernel_rfl
    case hw2M100 => rfl
    case hy2M100 => intro w hSw; (try dsimp only at hSw); first | (go_simp; done) | (go_simp; with_reducible rfl)
    try simp only [Act.put, List.setIfInBounds_toArray, List.set_cons_zero, List.set_cons_succ]
    refine wpAnyH_take (i := 3) (oi := ?oi3M100) (v := ?v3M100) ?oi0_3M100 (by kernel_rfl) ?ff3M100 ?rr3M100 ?hq3M100 (Or.inl ⟨?hw3M100, ?hy3M100⟩) (by assumption) ?rest3M100
    case oi0_3M100 => conv => lhs; whnf; arg 1; whnf
    case hq3M100 => exact fun _ _ _ h => h
    case ff3M100 | rr3M100 => kernel_rfl
    case hw3M100 => rfl
    case hy3M100 => intro w hSw; (try dsimp only at hSw); first | (go_simp; done) | (go_simp; with_reducible rfl)
    try simp only [Act.put, List.setIfInBounds_toArray, List.set_cons_zero, List.set_cons_succ]
    refine wpAnyH_take (i := 4) (oi := ?oi4M100) (v := ?v4M100) ?oi0_4M100 (by kernel_rfl) ?ff4M100 ?rr4M100 ?hq4M100 (Or.inl ⟨?hw4M100, ?hy4M100⟩) (by assumption) ?rest4M100
    case oi0_4M100 => conv => lhs; whnf; arg 1; whnf
    case hq4M100 => exact fun _ _ _ h => h
    case ff4M100 | rr4M100 => kernel_rfl
    case hw4M100 => rfl
    case hy4M100 => intro w hSw; (try dsimp only at hSw); first | (go_simp; done) | (go_simp; with_reducible rfl)
    try simp only [Act.put, List.setIfInBounds_toArray, List.set_cons_zero, List.set_cons_succ]
    refine wpAnyH_take (i := 5) (oi := ?oi5M100) (v := ?v5M100) ?oi0_5M100 (by kernel_rfl) ?ff5M100 ?rr5M100 ?hq5M100 (Or.inl ⟨?hw5M100, ?hy5M100⟩) (by assumption) ?rest5M100
    case oi0_5M100 => conv => lhs; whnf; arg 1; whnf
    case hq5M100 => exact fun _ _ _ h => h
    case ff5M100 | rr5M100 => kernel_rfl
    case hw5M100 => rfl
    case hy5M100 => intro w hSw; (try dsimp only at hSw); first | (go_simp; done) | (go_simp; with_reducible rfl)
    try simp only [Act.put, List.setIfInBounds_toArray, List.set_cons_zero, List.set_cons_succ]
    refine wpAnyH_take (i := 6) (oi := ?oi6M100) (v := ?v6M100) ?oi0_6M100 (by kernel_rfl) ?ff6M100 ?rr6M100 ?hq6M100 (Or.inl ⟨?hw6M100, ?hy6M100⟩) (by assumption) ?rest6M100
    case oi0_6M100 => conv => lhs; whnf; arg 1; whnf
    case hq6M100 => exact fun _ _ _ h => h
    case ff6M100 | rr6M100 => kernel_rfl
    case hw6M100 => rfl
    case hy6M100 => intro w hSw; (try dsimp only at hSw); first | (go_simp; done) | (go_simp; with_reducible rfl)
    try simp only [Act.put, List.setIfInBounds_toArray, List.set_cons_zero, List.set_cons_succ]
    refine wpAnyH_take (i := 7) (oi := ?oi7M100) (v := ?v7M100) ?oi0_7M100 (by kernel_rfl) ?ff7M100 ?rr7M100 ?hq7M100 (Or.inl ⟨?hw7M100, ?hy7M100⟩) (by assumption) ?rest7M100
    case oi0_7M100 => conv => lhs; whnf; arg 1; whnf
    case hq7M100 => exact fun _ _ _ h => h
    case ff7M100 | rr7M100 => kernel_rfl
    case hw7M100 => rfl
    case hy7M100 => intro w hSw; (try dsimp only at hSw); first | (go_simp; done) | (go_simp; with_reducible rfl)
    try simp only [Act.put, List.setIfInBounds_toArray, List.set_cons_zero, List.set_cons_succ]
    refine wpAnyH_take (i := 8) (oi := ?oi8M100) (v := ?v8M100) ?oi0_8M100 (by kernel_rfl) ?ff8M100 ?rr8M100 ?hq8M100 (Or.inl ⟨?hw8M100, ?hy8M100⟩) (by assumption) ?rest8M100
    case oi0_8M100 => conv => lhs; whnf; arg 1; whnf
    case hq8M100 => exact fun _ _ _ h => h
    case ff8M100 | rr8M100 => kernel_rfl
    case hw8M100 => rfl
    case hy8M100 => intro w hSw; (try dsimp only at hSw); first | (go_simp; done) | (go_simp; with_reducible rfl)
    try simp only [Act.put, List.setIfInBounds_toArray, List.set_cons_zero, List.set_cons_succ]
    refine wpAnyH_take (i := 9) (oi := ?oi9M100) (v := ?v9M100) ?oi0_9M100 (by kernel_rfl) ?ff9M100 ?rr9M100 ?hq9M100 (Or.inl ⟨?hw9M100, ?hy9M100⟩) (by assumption) ?rest9M100
    case oi0_9M100 => conv => lhs; whnf; arg 1; whnf
    case hq9M100 => exact fun _ _ _ h => h
    case ff9M100 | rr9M100 => kernel_rfl
    case hw9M100 => rfl
    case hy9M100 => intro w hSw; (try dsimp only at hSw); first | (go_simp; done) | (go_simp; with_reducible rfl)
    try simp only [Act.put, List.setIfInBounds_toArray, List.set_cons_zero, List.set_cons_succ]
    refine wpAnyH_take (i := 10) (oi := ?oi10M100) (v := ?v10M100) ?oi0_10M100 (by kernel_rfl) ?ff10M100 ?rr10M100 ?hq10M100 (Or.inl ⟨?hw10M100, ?hy10M100⟩) (by assumption) ?rest10M100
    case oi0_10M100 => conv => lhs; whnf; arg 1; whnf
    case hq10M100 => exact fun _ _ _ h => h
    case ff10M100 | rr10M100 => kernel_rfl
    case hw10M100 => rfl
    case hy10M100 => intro w hSw; (try dsimp only at hSw); first | (go_simp; done) | (go_simp; with_reducible rfl)
    try simp only [Act.put, List.setIfInBounds_toArray, List.set_cons_zero, List.set_cons_succ]
    refine wpAnyH_take (i := 11) (oi := ?oi11M100) (v := ?v11M100) ?oi0_11M100 (by kernel_rfl) ?ff11M100 ?rr11M100 ?hq11M100 (Or.inl ⟨?hw11M100, ?hy11M100⟩) (by assumption) ?rest11M100
    case oi0_11M100 => conv => lhs; whnf; arg 1; whnf
    case hq11M100 => exact fun _ _ _ h => h
    case ff11M100 | rr11M100 => kernel_rfl
    case hw11M100 => rfl
    case hy11M100 => intro w hSw; (try dsimp only at hSw); first | (go_simp; done) | (go_simp; with_reducible rfl)
    try simp only [Act.put, List.setIfInBounds_toArray, List.set_cons_zero, List.set_cons_succ]
    refine wpAnyH_take (i := 12) (oi := ?oi12M100) (v := ?v12M100) ?oi0_12M100 (by kernel_rfl) ?ff12M100 ?rr12M100 ?hq12M100 (Or.inl ⟨?hw12M100, ?hy12M100⟩) (by assumption) ?rest12M100
    case oi0_12M100 => conv => lhs; whnf; arg 1; whnf
    case hq12M100 => exact fun _ _ _ h => h
    case ff12M100 | rr12M100 => kernel_rfl
    case hw12M100 => rfl
    case hy12M100 => intro w hSw; (try dsimp only at hSw); first | (go_simp; done) | (go_simp; with_reducible rfl)
    try simp only [Act.put, List.setIfInBounds_toArray, List.set_cons_zero, List.set_cons_succ]
    refine wpAnyH_take (i := 13) (oi := ?oi13M100) (v := ?v13M100) ?oi0_13M100 (by kernel_rfl) ?ff13M100 ?rr13M100 ?hq13M100 (Or.inl ⟨?hw13M100, ?hy13M100⟩) (by assumption) ?rest13M100
    case oi0_13M100 => conv => lhs; whnf; arg 1; whnf
    case hq13M100 => exact fun _ _ _ h => h
    case ff13M100 | rr13M100 => kernel_rfl
    case hw13M100 => rfl
    case hy13M100 => intro w hSw; (try dsimp only at hSw); first | (go_simp; done) | (go_simp; with_reducible rfl)
    try simp only [Act.put, List.setIfInBounds_toArray, List.set_cons_zero, List.set_cons_succ]
    refine wpAnyH_take (i := 14) (oi := ?oi14M100) (v := ?v14M100) ?oi0_14M100 (by kernel_rfl) ?ff14M100 ?rr14M100 ?hq14M100 (Or.inl ⟨?hw14M100, ?hy14M100⟩) (by assumption) ?rest14M100
    case oi0_14M100 => conv => lhs; whnf; arg 1; whnf
    case hq14M100 => exact fun _ _ _ h => h
    case ff14M100 | rr14M100 => kernel_rfl
    case hw14M100 => rfl
    case hy14M100 => intro w hSw; (try dsimp only at hSw); first | (go_simp; done) | (go_simp; with_reducible rfl)
    try simp only [Act.put, List.setIfInBounds_toArray, List.set_cons_zero, List.set_cons_succ]
    refine wpAnyH_take (i := 16) (oi := ?oi16M101) (v := ?v16M101) ?oi0_16M101 (by kernel_rfl) ?ff16M101 ?rr16M101 ?hq16M101 (Or.inl ⟨?hw16M101, ?hy16M101⟩) (by assumption) ?rest16M101
    case oi0_16M101 => conv => lhs; whnf; arg 1; whnf
    case hq16M101 => exact fun _ _ _ h => h
    case ff16M101 | rr16M101 => kernel_rfl
    case hw16M101 => rfl
    case hy16M101 => intro w hSw; (try dsimp only at hSw); first | (go_simp; done) | (go_simp; with_reducible rfl)
    try simp only [Act.put, List.setIfInBounds_toArray, List.set_cons_zero, List.set_cons_succ]
    refine wpAnyH_take (i := 17) (oi := ?oi17M101) (v := ?v17M101) ?oi0_17M101 (by kernel_rfl) ?ff17M101 ?rr17M101 ?hq17M101 (Or.inl ⟨?hw17M101, ?hy17M101⟩) (by assumption) ?rest17M101
    case oi0_17M101 => conv => lhs; whnf; arg 1; whnf
    case hq17M101 => exact fun _ _ _ h => h
    case ff17M101 | rr17M101 => kernel_rfl
    case hw17M101 => rfl
    case hy17M101 => intro w hSw; (try dsimp only at hSw); first | (go_simp; done) | (go_simp; with_reducible rfl)
    try simp only [Act.put, List.setIfInBounds_toArray, List.set_cons_zero, List.set_cons_succ]
    refine wpAnyH_take (i := 18) (oi := ?oi18M101) (v := ?v18M101) ?oi0_18M101 (by kernel_rfl) ?ff18M101 ?rr18M101 ?hq18M101 (Or.inl ⟨?hw18M101, ?hy18M101⟩) (by assumption) ?rest18M101
    case oi0_18M101 => conv => lhs; whnf; arg 1; whnf
    case hq18M101 => exact fun _ _ _ h => h
    case ff18M101 | rr18M101 => kernel_rfl
    case hw18M101 => rfl
    case hy18M101 => intro w hSw; (try dsimp only at hSw); first | (go_simp; done) | (go_simp; with_reducible rfl)
    try simp only [Act.put, List.setIfInBounds_toArray, List.set_cons_zero, List.set_cons_succ]
    refine wpAnyH_take (i := 19) (oi := ?oi19M101) (v := ?v19M101) ?oi0_19M101 (by kernel_rfl) ?ff19M101 ?rr19M101 ?hq19M101 (Or.inl ⟨?hw19M101, ?hy19M101⟩) (by assumption) ?rest19M101
    case oi0_19M101 => conv => lhs; whnf; arg 1; whnf
    case hq19M101 => exact fun _ _ _ h => h
    case ff19M101 | rr19M101 => kernel_rfl
    case hw19M101 => rfl
    case hy19M101 => intro w hSw; (try dsimp only at hSw); first | (go_simp; done) | (go_simp; with_reducible rfl)
    try simp only [Act.put, List.setIfInBounds_toArray, List.set_cons_zero, List.set_cons_succ]
    refine wpAnyH_take (i := 20) (oi := ?oi20M101) (v := ?v20M101) ?oi0_20M101 (by kernel_rfl) ?ff20M101 ?rr20M101 ?hq20M101 (Or.inl ⟨?hw20M101, ?hy20M101⟩) (by assumption) ?rest20M101
    case oi0_20M101 => conv => lhs; whnf; arg 1; whnf
    case hq20M101 => exact fun _ _ _ h => h
    case ff20M101 | rr20M101 => kernel_rfl
    case hw20M101 => rfl
    case hy20M101 => intro w hSw; (try dsimp only at hSw); first | (go_simp; done) | (go_simp; with_reducible rfl)
    try simp only [Act.put, List.setIfInBounds_toArray, List.set_cons_zero, List.set_cons_succ]
    refine wpAnyH_take (i := 21) (oi := ?oi21M101) (v := ?v21M101) ?oi0_21M101 (by kernel_rfl) ?ff21M101 ?rr21M101 ?hq21M101 (Or.inl ⟨?hw21M101, ?hy21M101⟩) (by assumption) ?rest21M101
    case oi0_21M101 => conv => lhs; whnf; arg 1; whnf
    case hq21M101 => exact fun _ _ _ h => h
    case ff21M101 | rr21M101 => kernel_rfl
    case hw21M101 => rfl
    case hy21M101 => intro w hSw; (try dsimp only at hSw); first | (go_simp; done) | (go_simp; with_reducible rfl)
    try simp only [Act.put, List.setIfInBounds_toArray, List.set_cons_zero, List.set_cons_succ]
    refine wpAnyH_take (i := 22) (oi := ?oi22M101) (v := ?v22M101) ?oi0_22M101 (by kernel_rfl) ?ff22M101 ?rr22M101 ?hq22M101 (Or.inl ⟨?hw22M101, ?hy22M101⟩) (by assumption) ?rest22M101
    case oi0_22M101 => conv => lhs; whnf; arg 1; whnf
    case hq22M101 => exact fun _ _ _ h => h
    case ff22M101 | rr22M101 => kernel_rfl
    case hw22M101 => rfl
    case hy22M101 => intro w hSw; (try dsimp only at hSw); first | (go_simp; done) | (go_simp; with_reducible rfl)
    try simp only [Act.put, List.setIfInBounds_toArray, List.set_cons_zero, List.set_cons_succ]
    refine wpAnyH_ready (rs := [15]) (by kernel_rfl) (by simp) (AllReadyH.cons (o := ?oiM102) ?oi0_M102 (fun K hK => ?_) AllReadyH.nil)
    case oi0_M102 => conv => lhs; whnf; arg 1; whnf
    go_simp
    have HR := hide (pj_records HP21.out (by rw [HRN.out]; omega))
    rw [HRN.out] at HR
    refine HR.out.mono ?_
    rintro e w22 ⟨ra, rc, rfl, ho, u⟩
    try simp only
    have HS22 := hide ho
    have HX22 := hide (keepc _ _ _ _ u HX21.out)
    have HO22 := hide (own_kept HO21.out u (by simp))
    have HW22 := hide (show WBlk w22 wb g x (jptr (some (jc, T, br))) (jptr (some (xc, T, br))) from keepB HW21.out u)
    have HP22 := hide (HP21.out.step u (by simp))
    clear u HX21 HO21 HW21 HP21
    have hc2 : w22.cell? ⟨wb, 0, none⟩ = some (.pointer (some ⟨g, 0, none⟩)) ∧ w22.cell? ⟨wb, 1, none⟩ = some (.pointer (some ⟨jc, 0, none⟩)) ∧ w22.cell? ⟨wb, 2, none⟩ = some (.pointer (some ⟨x, 0, none⟩)) ∧ w22.cell? ⟨wb, 3, none⟩ = some (.pointer (some ⟨xc, 0, none⟩)) ∧ w22.cell? ⟨xc, 1, none⟩ = some (.slice A rn c) := ⟨HW22.out.cell 0, HW22.out.cell 1, HW22.out.cell 2, HW22.out.cell 3, HX22.out⟩
    clear ho HR
    (try dsimp only)
    refine hK.out _ _ (by exact hc2) (fun hHeld => ?_)
    clear hK K hc2
    try simp only [Act.put, List.setIfInBounds_toArray, List.set_cons_zero, List.set_cons_succ]
    refine wpAnyH_ready (rs := [23]) (by kernel_rfl) (by simp) (AllReadyH.cons (o := ?oiM103) ?oi0_M103 (fun K hK => ?_) AllReadyH.nil)
    case oi0_M103 => conv => lhs; whnf; arg 1; whnf
    go_simp
    have HE := hide (same_any ra rn rc _ A rn c _ w22 (by rw [List.length_map]; exact HRN.out) (by rw [List.length_map]; exact HRN.out) (by omega) (by omega) (strs_own HS22.out) (strs_own HO22.out))
    rw [show decide ((T.recs.map fun r => (⟨r.toArray⟩ : ByteArray)) = (T.recs.map fun r => (⟨r.toArray⟩ : ByteArray))) = true from decide_eq_true rfl] at HE
    refine HE.out.mono ?_
    rintro e w23 ⟨rfl, u⟩
    try simp only
    have HX23 := hide (keepc _ _ _ _ u HX22.out)
    have HO23 := hide (own_kept HO22.out u (by simp))
    have HW23 := hide (show WBlk w23 wb g x (jptr (some (jc, T, br))) (jptr (some (xc, T, br))) from keepB HW22.out u)
    have HP23 := hide (HP22.out.step u (by simp))
    clear u HX22 HO22 HW22 HP22
    have hc2 : w23.cell? ⟨wb, 0, none⟩ = some (.pointer (some ⟨g, 0, none⟩)) ∧ w23.cell? ⟨wb, 1, none⟩ = some (.pointer (some ⟨jc, 0, none⟩)) ∧ w23.cell? ⟨wb, 2, none⟩ = some (.pointer (some ⟨x, 0, none⟩)) ∧ w23.cell? ⟨wb, 3, none⟩ = some (.pointer (some ⟨xc, 0, none⟩)) ∧ w23.cell? ⟨xc, 1, none⟩ = some (.slice A rn c) := ⟨HW23.out.cell 0, HW23.out.cell 1, HW23.out.cell 2, HW23.out.cell 3, HX23.out⟩
    clear HE HS22
    (try dsimp only)
    refine hK.out _ _ (by exact hc2) (fun hHeld => ?_)
    clear hK K hc2
    try simp only [Act.put, List.setIfInBounds_toArray, List.set_cons_zero, List.set_cons_succ]
    refine wpAnyH_take (i := 24) (oi := ?oi24M104) (v := ?v24M104) ?oi0_24M104 (by kernel_rfl) ?ff24M104 ?rr24M104 ?hq24M104 (Or.inl ⟨?hw24M104, ?hy24M104⟩) (by assumption) ?rest24M104
    case oi0_24M104 => conv => lhs; whnf; arg 1; whnf
    case hq24M104 => exact fun _ _ _ h => h
    case ff24M104 | rr24M104 => kernel_rfl
    case hw24M104 => rfl
    case hy24M104 => intro w hSw; (try dsimp only at hSw); first | (go_simp; done) | (go_simp; with_reducible rfl)
    try simp only [Act.put, List.setIfInBounds_toArray, List.set_cons_zero, List.set_cons_succ]
    refine wpAnyH_take (i := 25) (oi := ?oi25M104) (v := ?v25M104) ?oi0_25M104 (by kernel_rfl) ?ff25M104 ?rr25M104 ?hq25M104 (Or.inl ⟨?hw25M104, ?hy25M104⟩) (by assumption) ?rest25M104
    case oi0_25M104 => conv => lhs; whnf; arg 1; whnf
    case hq25M104 => exact fun _ _ _ h => h
    case ff25M104 | rr25M104 => kernel_rfl
    case hw25M104 => rfl
    case hy25M104 => intro w hSw; (try dsimp only at hSw); first | (go_simp; done) | (go_simp; with_reducible rfl)
    try simp only [Act.put, List.setIfInBounds_toArray, List.set_cons_zero, List.set_cons_succ]
    refine wpAnyH_take (i := 26) (oi := ?oi26M104) (v := ?v26M104) ?oi0_26M104 (by kernel_rfl) ?ff26M104 ?rr26M104 ?hq26M104 (Or.inl ⟨?hw26M104, ?hy26M104⟩) (by assumption) ?rest26M104
    case oi0_26M104 => conv => lhs; whnf; arg 1; whnf
    case hq26M104 => exact fun _ _ _ h => h
    case ff26M104 | rr26M104 => kernel_rfl
    case hw26M104 => rfl
    case hy26M104 => intro w hSw; (try dsimp only at hSw); first | (go_simp; done) | (go_simp; with_reducible rfl)
    try simp only [Act.put, List.setIfInBounds_toArray, List.set_cons_zero, List.set_cons_succ]
    refine wpAnyH_take (i := 27) (oi := ?oi27M104) (v := ?v27M104) ?oi0_27M104 (by kernel_rfl) ?ff27M104 ?rr27M104 ?hq27M104 (Or.inl ⟨?hw27M104, ?hy27M104⟩) (by assumption) ?rest27M104
    case oi0_27M104 => conv => lhs; whnf; arg 1; whnf
    case hq27M104 => exact fun _ _ _ h => h
    case ff27M104 | rr27M104 => kernel_rfl
    case hw27M104 => rfl
    case hy27M104 => intro w hSw; (try dsimp only at hSw); first | (go_simp; done) | (go_simp; with_reducible rfl)
    try simp only [Act.put, List.setIfInBounds_toArray, List.set_cons_zero, List.set_cons_succ]
    refine wpAnyH_take (i := 28) (oi := ?oi28M104) (v := ?v28M104) ?oi0_28M104 (by kernel_rfl) ?ff28M104 ?rr28M104 ?hq28M104 (Or.inl ⟨?hw28M104, ?hy28M104⟩) (by assumption) ?rest28M104
    case oi0_28M104 => conv => lhs; whnf; arg 1; whnf
    case hq28M104 => exact fun _ _ _ h => h
    case ff28M104 | rr28M104 => kernel_rfl
    case hw28M104 => rfl
    case hy28M104 => intro w hSw; (try dsimp only at hSw); first | (go_simp; done) | (go_simp; with_reducible rfl)
    try simp only [Act.put, List.setIfInBounds_toArray, List.set_cons_zero, List.set_cons_succ]
    refine wpAnyH_take (i := 30) (oi := ?oi30M104) (v := ?v30M104) ?oi0_30M104 (by kernel_rfl) ?ff30M104 ?rr30M104 ?hq30M104 (Or.inl ⟨?hw30M104, ?hy30M104⟩) (by assumption) ?rest30M104
    case oi0_30M104 => conv => lhs; whnf; arg 1; whnf
    case hq30M104 => exact fun _ _ _ h => h
    case ff30M104 | rr30M104 => kernel_rfl
    case hw30M104 => rfl
    case hy30M104 => intro w hSw; (try dsimp only at hSw); first | (go_simp; done) | (go_simp; with_reducible rfl)
    try simp only [Act.put, List.setIfInBounds_toArray, List.set_cons_zero, List.set_cons_succ]
    refine wpAnyH_take (i := 31) (oi := ?oi31M104) (v := ?v31M104) ?oi0_31M104 (by kernel_rfl) ?ff31M104 ?rr31M104 ?hq31M104 (Or.inl ⟨?hw31M104, ?hy31M104⟩) (by assumption) ?rest31M104
    case oi0_31M104 => conv => lhs; whnf; arg 1; whnf
    case hq31M104 => exact fun _ _ _ h => h
    case ff31M104 | rr31M104 => kernel_rfl
    case hw31M104 => rfl
    case hy31M104 => intro w hSw; (try dsimp only at hSw); first | (go_simp; done) | (go_simp; with_reducible rfl)
    try simp only [Act.put, List.setIfInBounds_toArray, List.set_cons_zero, List.set_cons_succ]
    refine wpAnyH_take (i := 32) (oi := ?oi32M104) (v := ?v32M104) ?oi0_32M104 (by kernel_rfl) ?ff32M104 ?rr32M104 ?hq32M104 (Or.inl ⟨?hw32M104, ?hy32M104⟩) (by assumption) ?rest32M104
    case oi0_32M104 => conv => lhs; whnf; arg 1; whnf
    case hq32M104 => exact fun _ _ _ h => h
    case ff32M104 | rr32M104 => kernel_rfl
    case hw32M104 => rfl
    case hy32M104 => intro w hSw; (try dsimp only at hSw); first | (go_simp; done) | (go_simp; with_reducible rfl)
    try simp only [Act.put, List.setIfInBounds_toArray, List.set_cons_zero, List.set_cons_succ]
    refine wpAnyH_take (i := 33) (oi := ?oi33M104) (v := ?v33M104) ?oi0_33M104 (by kernel_rfl) ?ff33M104 ?rr33M104 ?hq33M104 (Or.inl ⟨?hw33M104, ?hy33M104⟩) (by assumption) ?rest33M104
    case oi0_33M104 => conv => lhs; whnf; arg 1; whnf
    case hq33M104 => exact fun _ _ _ h => h
    case ff33M104 | rr33M104 => kernel_rfl
    case hw33M104 => rfl
    case hy33M104 => intro w hSw; (try dsimp only at hSw); first | (go_simp; done) | (go_simp; with_reducible rfl)
    try simp only [Act.put, List.setIfInBounds_toArray, List.set_cons_zero, List.set_cons_succ]
    refine wpAnyH_ready (rs := [29]) (by kernel_rfl) (by simp) (AllReadyH.cons (o := ?oiM105) ?oi0_M105 (fun K hK => ?_) AllReadyH.nil)
    case oi0_M105 => conv => lhs; whnf; arg 1; whnf
    go_simp
    have HM := hide (pj_room HP23.out HTS.out)
    obtain ⟨rm, hrm2⟩ : ∃ y, D.sure.length - T.size = y := ⟨_, rfl⟩
    rw [hrm2] at HM
    have HRM := hide hrm2
    clear hrm2
    refine HM.out.mono ?_
    rintro e w24 ⟨rfl, u⟩
    try simp only
    have HX24 := hide (keepc _ _ _ _ u HX23.out)
    have HO24 := hide (own_kept HO23.out u (by simp))
    have HW24 := hide (show WBlk w24 wb g x (jptr (some (jc, T, br))) (jptr (some (xc, T, br))) from keepB HW23.out u)
    have HP24 := hide (HP23.out.step u (by simp))
    clear u HX23 HO23 HW23 HP23
    have hc2 : w24.cell? ⟨wb, 0, none⟩ = some (.pointer (some ⟨g, 0, none⟩)) ∧ w24.cell? ⟨wb, 1, none⟩ = some (.pointer (some ⟨jc, 0, none⟩)) ∧ w24.cell? ⟨wb, 2, none⟩ = some (.pointer (some ⟨x, 0, none⟩)) ∧ w24.cell? ⟨wb, 3, none⟩ = some (.pointer (some ⟨xc, 0, none⟩)) ∧ w24.cell? ⟨xc, 1, none⟩ = some (.slice A rn c) := ⟨HW24.out.cell 0, HW24.out.cell 1, HW24.out.cell 2, HW24.out.cell 3, HX24.out⟩
    clear HM
    (try dsimp only)
    refine hK.out _ _ (by exact hc2) (fun hHeld => ?_)
    clear hK K hc2
    try simp only [Act.put, List.setIfInBounds_toArray, List.set_cons_zero, List.set_cons_succ]
    refine wpAnyH_ready (rs := [34]) (by kernel_rfl) (by simp) (AllReadyH.cons (o := ?oiM106) ?oi0_M106 (fun K hK => ?_) AllReadyH.nil)
    case oi0_M106 => conv => lhs; whnf; arg 1; whnf
    go_simp
    have HM := hide (pj_rroom HP24.out HTS.out)
    rw [HRM.out] at HM
    refine HM.out.mono ?_
    rintro e w25 ⟨rfl, u⟩
    try simp only
    have HX25 := hide (keepc _ _ _ _ u HX24.out)
    have HO25 := hide (own_kept HO24.out u (by simp))
    have HW25 := hide (show WBlk w25 wb g x (jptr (some (jc, T, br))) (jptr (some (xc, T, br))) from keepB HW24.out u)
    have HP25 := hide (HP24.out.step u (by simp))
    clear u HX24 HO24 HW24 HP24
    have hc2 : w25.cell? ⟨wb, 0, none⟩ = some (.pointer (some ⟨g, 0, none⟩)) ∧ w25.cell? ⟨wb, 1, none⟩ = some (.pointer (some ⟨jc, 0, none⟩)) ∧ w25.cell? ⟨wb, 2, none⟩ = some (.pointer (some ⟨x, 0, none⟩)) ∧ w25.cell? ⟨wb, 3, none⟩ = some (.pointer (some ⟨xc, 0, none⟩)) ∧ w25.cell? ⟨xc, 1, none⟩ = some (.slice A rn c) := ⟨HW25.out.cell 0, HW25.out.cell 1, HW25.out.cell 2, HW25.out.cell 3, HX25.out⟩
    clear HM
    (try dsimp only)
    refine hK.out _ _ (by exact hc2) (fun hHeld => ?_)
    clear hK K hc2
    try simp only [Act.put, List.setIfInBounds_toArray, List.set_cons_zero, List.set_cons_succ]
    refine wpAnyH_take (i := 35) (oi := ?oi35M107) (v := ?v35M107) ?oi0_35M107 (by kernel_rfl) ?ff35M107 ?rr35M107 ?hq35M107 (Or.inl ⟨?hw35M107, ?hy35M107⟩) (by assumption) ?rest35M107
    case oi0_35M107 => conv => lhs; whnf; arg 1; whnf
    case hq35M107 => exact fun _ _ _ h => h
    case ff35M107 | rr35M107 => kernel_rfl
    case hw35M107 => rfl
    case hy35M107 => intro w hSw; (try dsimp only at hSw); first | (go_simp; done) | (go_simp; with_reducible rfl)
    try simp only [Act.put, List.setIfInBounds_toArray, List.set_cons_zero, List.set_cons_succ]
    refine wpAnyH_take (i := 36) (oi := ?oi36M107) (v := ?v36M107) ?oi0_36M107 (by kernel_rfl) ?ff36M107 ?rr36M107 ?hq36M107 (Or.inl ⟨?hw36M107, ?hy36M107⟩) (by assumption) ?rest36M107
    case oi0_36M107 => conv => lhs; whnf; arg 1; whnf
    case hq36M107 => exact fun _ _ _ h => h
    case ff36M107 | rr36M107 => kernel_rfl
    case hw36M107 => rfl
    case hy36M107 => intro w hSw; (try dsimp only at hSw); first | (go_simp; done) | (go_simp; with_reducible rfl)
    try simp only [Act.put, List.setIfInBounds_toArray, List.set_cons_zero, List.set_cons_succ]
    refine wpAnyH_take (i := 37) (oi := ?oi37M107) (v := ?v37M107) ?oi0_37M107 (by kernel_rfl) ?ff37M107 ?rr37M107 ?hq37M107 (Or.inl ⟨?hw37M107, ?hy37M107⟩) (by assumption) ?rest37M107
    case oi0_37M107 => conv => lhs; whnf; arg 1; whnf
    case hq37M107 => exact fun _ _ _ h => h
    case ff37M107 | rr37M107 => kernel_rfl
    case hw37M107 => rfl
    case hy37M107 => intro w hSw; (try dsimp only at hSw); first | (go_simp; done) | (go_simp; with_reducible rfl)
    try simp only [Act.put, List.setIfInBounds_toArray, List.set_cons_zero, List.set_cons_succ]
    refine wpAnyH_take (i := 38) (oi := ?oi38M107) (v := ?v38M107) ?oi0_38M107 (by kernel_rfl) ?ff38M107 ?rr38M107 ?hq38M107 (Or.inl ⟨?hw38M107, ?hy38M107⟩) (by assumption) ?rest38M107
    case oi0_38M107 => conv => lhs; whnf; arg 1; whnf
    case hq38M107 => exact fun _ _ _ h => h
    case ff38M107 | rr38M107 => kernel_rfl
    case hw38M107 => rfl
    case hy38M107 => intro w hSw; (try dsimp only at hSw); first | (go_simp; done) | (go_simp; with_reducible rfl)
    try simp only [Act.put, List.setIfInBounds_toArray, List.set_cons_zero, List.set_cons_succ]
    refine wpAnyH_take (i := 39) (oi := ?oi39M107) (v := ?v39M107) ?oi0_39M107 (by kernel_rfl) ?ff39M107 ?rr39M107 ?hq39M107 (Or.inl ⟨?hw39M107, ?hy39M107⟩) (by assumption) ?rest39M107
    case oi0_39M107 => conv => lhs; whnf; arg 1; whnf
    case hq39M107 => exact fun _ _ _ h => h
    case ff39M107 | rr39M107 => kernel_rfl
    case hw39M107 => rfl
    case hy39M107 => intro w hSw; (try dsimp only at hSw); first | (go_simp; done) | (go_simp; with_reducible rfl)
    try simp only [Act.put, List.setIfInBounds_toArray, List.set_cons_zero, List.set_cons_succ]
    refine wpAnyH_take (i := 40) (oi := ?oi40M107) (v := ?v40M107) ?oi0_40M107 (by kernel_rfl) ?ff40M107 ?rr40M107 ?hq40M107 (Or.inl ⟨?hw40M107, ?hy40M107⟩) (by assumption) ?rest40M107
    case oi0_40M107 => conv => lhs; whnf; arg 1; whnf
    case hq40M107 => exact fun _ _ _ h => h
    case ff40M107 | rr40M107 => kernel_rfl
    case hw40M107 => rfl
    case hy40M107 => intro w hSw; (try dsimp only at hSw); first | (go_simp; done) | (go_simp; with_reducible rfl)
    try simp only [Act.put, List.setIfInBounds_toArray, List.set_cons_zero, List.set_cons_succ]
    refine wpAnyH_take (i := 41) (oi := ?oi41M107) (v := ?v41M107) ?oi0_41M107 (by kernel_rfl) ?ff41M107 ?rr41M107 ?hq41M107 (Or.inl ⟨?hw41M107, ?hy41M107⟩) (by assumption) ?rest41M107
    case oi0_41M107 => conv => lhs; whnf; arg 1; whnf
    case hq41M107 => exact fun _ _ _ h => h
    case ff41M107 | rr41M107 => kernel_rfl
    case hw41M107 => rfl
    case hy41M107 => intro w hSw; (try dsimp only at hSw); first | (go_simp; done) | (go_simp; with_reducible rfl)
    try simp only [Act.put, List.setIfInBounds_toArray, List.set_cons_zero, List.set_cons_succ]
    refine wpAnyH_take (i := 43) (oi := ?oi43M107) (v := ?v43M107) ?oi0_43M107 (by kernel_rfl) ?ff43M107 ?rr43M107 ?hq43M107 (Or.inl ⟨?hw43M107, ?hy43M107⟩) (by assumption) ?rest43M107
    case oi0_43M107 => conv => lhs; whnf; arg 1; whnf
    case hq43M107 => exact fun _ _ _ h => h
    case ff43M107 | rr43M107 => kernel_rfl
    case hw43M107 => rfl
    case hy43M107 => intro w hSw; (try dsimp only at hSw); first | (go_simp; done) | (go_simp; with_reducible rfl)
    try simp only [Act.put, List.setIfInBounds_toArray, List.set_cons_zero, List.set_cons_succ]
    refine wpAnyH_take (i := 44) (oi := ?oi44M107) (v := ?v44M107) ?oi0_44M107 (by kernel_rfl) ?ff44M107 ?rr44M107 ?hq44M107 (Or.inl ⟨?hw44M107, ?hy44M107⟩) (by assumption) ?rest44M107
    case oi0_44M107 => conv => lhs; whnf; arg 1; whnf
    case hq44M107 => exact fun _ _ _ h => h
    case ff44M107 | rr44M107 => kernel_rfl
    case hw44M107 => rfl
    case hy44M107 => intro w hSw; (try dsimp only at hSw); first | (go_simp; done) | (go_simp; with_reducible rfl)
    try simp only [Act.put, List.setIfInBounds_toArray, List.set_cons_zero, List.set_cons_succ]
    refine wpAnyH_take (i := 45) (oi := ?oi45M107) (v := ?v45M107) ?oi0_45M107 (by kernel_rfl) ?ff45M107 ?rr45M107 ?hq45M107 (Or.inl ⟨?hw45M107, ?hy45M107⟩) (by assumption) ?rest45M107
    case oi0_45M107 => conv => lhs; whnf; arg 1; whnf
    case hq45M107 => exact fun _ _ _ h => h
    case ff45M107 | rr45M107 => kernel_rfl
    case hw45M107 => rfl
    case hy45M107 => intro w hSw; (try dsimp only at hSw); first | (go_simp; done) | (go_simp; with_reducible rfl)
    try simp only [Act.put, List.setIfInBounds_toArray, List.set_cons_zero, List.set_cons_succ]
    refine wpAnyH_take (i := 46) (oi := ?oi46M107) (v := ?v46M107) ?oi0_46M107 (by kernel_rfl) ?ff46M107 ?rr46M107 ?hq46M107 (Or.inl ⟨?hw46M107, ?hy46M107⟩) (by assumption) ?rest46M107
    case oi0_46M107 => conv => lhs; whnf; arg 1; whnf
    case hq46M107 => exact fun _ _ _ h => h
    case ff46M107 | rr46M107 => kernel_rfl
    case hw46M107 => rfl
    case hy46M107 => intro w hSw; (try dsimp only at hSw); first | (go_simp; done) | (go_simp; with_reducible rfl)
    try simp only [Act.put, List.setIfInBounds_toArray, List.set_cons_zero, List.set_cons_succ]
    refine wpAnyH_ready (rs := [42]) (by kernel_rfl) (by simp) (AllReadyH.cons (o := ?oiM108) ?oi0_M108 (fun K hK => ?_) AllReadyH.nil)
    case oi0_M108 => conv => lhs; whnf; arg 1; whnf
    go_simp
    refine (pj_content HP25.out HNO.out.1).mono ?_
    rintro e w' ⟨rfl, rfl⟩
    try simp only
    (try dsimp only)
    refine hK.out _ _ (by exact hHeld) (fun hHeld => ?_)
    clear hK K
    try simp only [Act.put, List.setIfInBounds_toArray, List.set_cons_zero, List.set_cons_succ]
    refine wpAnyH_ready (rs := [47]) (by kernel_rfl) (by simp) (AllReadyH.cons (o := ?oiM109) ?oi0_M109 (fun K hK => ?_) AllReadyH.nil)
    case oi0_M109 => conv => lhs; whnf; arg 1; whnf
    go_simp
    refine (pj_visible HP25.out (HI.out.1.mono (by omega))).mono ?_
    rintro e w26 ⟨vb, vc, vr, rfl, hvb, u⟩
    try simp only
    obtain ⟨vl, hvl⟩ : ∃ y, D.vis.length = y := ⟨_, rfl⟩
    rw [hvl]
    have hcv := run_conv_row hvb 39 5 9 Tryz.underlying39 Tryz.underlying5 Tryz.underlying9 0 vl vc (by omega)
    rw [show (D.vis.drop 0).take vl = D.vis by rw [List.drop_zero, List.take_of_length_le (by omega)]] at hcv
    obtain ⟨vz, hvz⟩ : ∃ y : ByteArray, (⟨D.vis.toArray⟩ : ByteArray) = y := ⟨_, rfl⟩
    rw [hvz] at hcv ⊢
    clear hvb hvl hvz
    have HX26 := hide (keepc _ _ _ _ u HX25.out)
    have HO26 := hide (own_kept HO25.out u (by simp))
    have HW26 := hide (show WBlk w26 wb g x (jptr (some (jc, T, br))) (jptr (some (xc, T, br))) from keepB HW25.out u)
    have HP26 := hide (HP25.out.step u (by simp))
    clear u HX25 HO25 HW25 HP25
    have hc2 : w26.cell? ⟨wb, 0, none⟩ = some (.pointer (some ⟨g, 0, none⟩)) ∧ w26.cell? ⟨wb, 1, none⟩ = some (.pointer (some ⟨jc, 0, none⟩)) ∧ w26.cell? ⟨wb, 2, none⟩ = some (.pointer (some ⟨x, 0, none⟩)) ∧ w26.cell? ⟨wb, 3, none⟩ = some (.pointer (some ⟨xc, 0, none⟩)) ∧ w26.cell? ⟨xc, 1, none⟩ = some (.slice A rn c) := ⟨HW26.out.cell 0, HW26.out.cell 1, HW26.out.cell 2, HW26.out.cell 3, HX26.out⟩
    (try dsimp only)
    refine hK.out _ _ (by exact hc2) (fun hHeld => ?_)
    clear hK K hc2
    try simp only [Act.put, List.setIfInBounds_toArray, List.set_cons_zero, List.set_cons_succ]
    refine wpAnyH_narrow (S' := (fun w' => (w'.cell? ⟨wb, 0, none⟩ = some (.pointer (some ⟨g, 0, none⟩)) ∧ w'.cell? ⟨wb, 1, none⟩ = some (.pointer (some ⟨jc, 0, none⟩)) ∧ w'.cell? ⟨wb, 2, none⟩ = some (.pointer (some ⟨x, 0, none⟩)) ∧ w'.cell? ⟨wb, 3, none⟩ = some (.pointer (some ⟨xc, 0, none⟩)) ∧ w'.cell? ⟨xc, 1, none⟩ = some (.slice A rn c)) ∧ (convert 39 9 (.slice (some ⟨vb, 0, none⟩) vl vc)).run Tryz.prog w' = .ok (.string vz) w')) (fun _ h => h.1) ?_
    have hH2 : (fun w' => (w'.cell? ⟨wb, 0, none⟩ = some (.pointer (some ⟨g, 0, none⟩)) ∧ w'.cell? ⟨wb, 1, none⟩ = some (.pointer (some ⟨jc, 0, none⟩)) ∧ w'.cell? ⟨wb, 2, none⟩ = some (.pointer (some ⟨x, 0, none⟩)) ∧ w'.cell? ⟨wb, 3, none⟩ = some (.pointer (some ⟨xc, 0, none⟩)) ∧ w'.cell? ⟨xc, 1, none⟩ = some (.slice A rn c)) ∧ (convert 39 9 (.slice (some ⟨vb, 0, none⟩) vl vc)).run Tryz.prog w' = .ok (.string vz) w') w26 := ⟨hHeld, hcv⟩
    clear hHeld hcv
    refine wpAnyH_take (i := 48) (oi := ?oi48M110) (v := ?v48M110) ?oi0_48M110 (by kernel_rfl) ?ff48M110 ?rr48M110 ?hq48M110 (Or.inl ⟨?hw48M110, ?hy48M110⟩) (by assumption) ?rest48M110
    case oi0_48M110 => conv => lhs; whnf; arg 1; whnf
    case hq48M110 => exact fun _ _ _ h => h
    case ff48M110 | rr48M110 => kernel_rfl
    case hw48M110 => rfl
    case hy48M110 => intro w hSw; (try dsimp only at hSw); first | (go_simp; done) | (go_simp; with_reducible rfl)
    try simp only [Act.put, List.setIfInBounds_toArray, List.set_cons_zero, List.set_cons_succ]
    refine wpAnyH_take (i := 49) (oi := ?oi49M110) (v := ?v49M110) ?oi0_49M110 (by kernel_rfl) ?ff49M110 ?rr49M110 ?hq49M110 (Or.inl ⟨?hw49M110, ?hy49M110⟩) (by assumption) ?rest49M110
    case oi0_49M110 => conv => lhs; whnf; arg 1; whnf
    case hq49M110 => exact fun _ _ _ h => h
    case ff49M110 | rr49M110 => kernel_rfl
    case hw49M110 => rfl
    case hy49M110 => intro w hSw; (try dsimp only at hSw); first | (go_simp; done) | (go_simp; with_reducible rfl)
    try simp only [Act.put, List.setIfInBounds_toArray, List.set_cons_zero, List.set_cons_succ]
    refine wpAnyH_take (i := 50) (oi := ?oi50M110) (v := ?v50M110) ?oi0_50M110 (by kernel_rfl) ?ff50M110 ?rr50M110 ?hq50M110 (Or.inl ⟨?hw50M110, ?hy50M110⟩) (by assumption) ?rest50M110
    case oi0_50M110 => conv => lhs; whnf; arg 1; whnf
    case hq50M110 => exact fun _ _ _ h => h
    case ff50M110 | rr50M110 => kernel_rfl
    case hw50M110 => rfl
    case hy50M110 => intro w hSw; (try dsimp only at hSw); first | (go_simp; done) | (go_simp; with_reducible rfl)
    try simp only [Act.put, List.setIfInBounds_toArray, List.set_cons_zero, List.set_cons_succ]
    refine wpAnyH_take (i := 51) (oi := ?oi51M110) (v := ?v51M110) ?oi0_51M110 (by kernel_rfl) ?ff51M110 ?rr51M110 ?hq51M110 (Or.inl ⟨?hw51M110, ?hy51M110⟩) (by assumption) ?rest51M110
    case oi0_51M110 => conv => lhs; whnf; arg 1; whnf
    case hq51M110 => exact fun _ _ _ h => h
    case ff51M110 | rr51M110 => kernel_rfl
    case hw51M110 => rfl
    case hy51M110 => intro w hSw; (try dsimp only at hSw); first | (go_simp; done) | (go_simp; with_reducible rfl)
    try simp only [Act.put, List.setIfInBounds_toArray, List.set_cons_zero, List.set_cons_succ]
    refine wpAnyH_take (i := 52) (oi := ?oi52M110) (v := ?v52M110) ?oi0_52M110 (by kernel_rfl) ?ff52M110 ?rr52M110 ?hq52M110 (Or.inl ⟨?hw52M110, ?hy52M110⟩) (by assumption) ?rest52M110
    case oi0_52M110 => conv => lhs; whnf; arg 1; whnf
    case hq52M110 => exact fun _ _ _ h => h
    case ff52M110 | rr52M110 => kernel_rfl
    case hw52M110 => rfl
    case hy52M110 => intro w hSw; (try dsimp only at hSw); first | (go_simp; done) | (go_simp; with_reducible rfl)
    try simp only [Act.put, List.setIfInBounds_toArray, List.set_cons_zero, List.set_cons_succ]
    refine wpAnyH_take (i := 53) (oi := ?oi53M110) (v := ?v53M110) ?oi0_53M110 (by kernel_rfl) ?ff53M110 ?rr53M110 ?hq53M110 (Or.inl ⟨?hw53M110, ?hy53M110⟩) (by assumption) ?rest53M110
    case oi0_53M110 => conv => lhs; whnf; arg 1; whnf
    case hq53M110 => exact fun _ _ _ h => h
    case ff53M110 | rr53M110 => kernel_rfl
    case hw53M110 => rfl
    case hy53M110 => intro w hSw; (try dsimp only at hSw); first | (go_simp; done) | (go_simp; with_reducible rfl)
    try simp only [Act.put, List.setIfInBounds_toArray, List.set_cons_zero, List.set_cons_succ]
    refine wpAnyH_done (by kernel_rfl) ?_ _
    clear hH2
    go_wp2_with fail
    go_ret
    exact ⟨rfl, HP26.out.below⟩
theorem opensanything_walk {a0 : Addr} (n : Int) (s : ByteArray) (la : Option Addr) (ln lc : Nat) (xl : List ByteArray) (at_ cv : Int) (w : World) (hl : Laid w.heap.size keysL a0 w) (hn : (Lit.int .i64 n).wf = true) (hss : s.size ≤ maxLen) (hg : StrsArg w la ln lc xl) (hat : (Lit.int .i64 at_).wf = true) (hcw : (Lit.int .u8 cv).wf = true) :
    Calls Tryz.prog 3 #[.int .i64 n, .string s, .slice la ln lc, .int .i64 at_, .int .u8 cv] w fun e w' => e = .returned (.bool true) ∧ Below w.heap.size w w' := by
  have hk : keysL = refK := by kernel_rfl
  rw [hk] at hl
  exact opens_walk0 n s la ln lc xl at_ cv w hl hn hss hg hat hcw
end Go.Proofs.YtafjolibfbccbaaGreatDoor
