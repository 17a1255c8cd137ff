/-
  airchecklaw34.JournalKeeps.
-/
import Derived.Test.YtafjolibfbccbaaGreatDoorKOps
namespace Go.Proofs.YtafjolibfbccbaaGreatDoor
open Go.RowKit
set_option maxRecDepth 100000
set_option maxHeartbeats 8000000

theorem own_cap {w : World} {base e size n c : Nat} {A : Option Addr} {xs : List Value} (h : w.ownsRow base e size (.slice A n c) n xs) : n ≤ c := by
  rcases h.2 with ⟨hv, h0⟩ | ⟨g, cap, cur, hv, _, _, h1, _⟩
  · omega
  · cases hv; exact h1
theorem own_max {w : World} {base e size n c : Nat} {A : Option Addr} {xs : List Value} (h : w.ownsRow base e size (.slice A n c) n xs) : c ≤ maxLen := by
  rcases h.2 with ⟨hv, h0⟩ | ⟨g, cap, cur, hv, _, _, _, h1, _⟩
  · cases hv; exact Nat.zero_le _
  · cases hv; exact h1
theorem strs_take {w : World} {a : Option Addr} {l : List ByteArray} (h : StrsAt w a l) (n : Nat) : StrsAt w a (l.take n) := fun j s hs => h j s (by
  have hj := (List.getElem?_eq_some_iff.1 hs).1
  rw [List.length_take] at hj
  rwa [List.getElem?_take_of_lt (by omega)] at hs)
theorem keeps_walk {ks : List Int} {a0 : Addr} (n : Int) (la : Option Addr) (ln lc : Nat) (xs : List OpP) (w : World) (hl : Laid w.heap.size ks a0 w) (hn : (Lit.int .i64 n).wf = true) (hg : OpsArg w la ln lc xs) :
    Calls Tryz.prog 6 #[.int .i64 n, .slice la ln lc] w fun e w' => e = .returned (.bool true) ∧ Below w.heap.size w w' := by
  have HL := hide hl
  have HG := hide hg
  have HN := hide hn
  clear hl hg hn
  obtain ⟨N, hN⟩ : ∃ N, sizeS n = N := ⟨_, rfl⟩
  have hNb := sizeS_in n
  rw [hN] at hNb
  have HZ := hide (fun W => size_law n W HN.out)
  rw [hN] at HZ
  clear hN
  go_enter Tryz.func6, Tryz.ntmps6
  go_wp2_with fail
  refine (sane_any w HL.out).mono ?_
  rintro e w1 ⟨rfl, hb1⟩
  have HB1 := hide hb1
  clear hb1
  go_wp2_with fail
  refine (HZ.out w1).mono ?_
  rintro e w' ⟨rfl, rfl⟩
  go_wp2_with fail
  refine (new_in N w.heap.size w w1 HB1.out HB1.out.size [] (by simp) hNb.1 (by omega)).mono ?_
  rintro e w2 ⟨g, rfl, d0, _, _⟩
  have C1 := open_in HL.out d0 (by simp [DiskS.fresh])
  rw [fresh_of, open_of ks [] (N - 0) (diskOf N []) rfl (by unfold diskOf bytesOf; simp [addL]) (by simp)] at C1
  have HC := hide C1
  clear d0 C1 HB1 HZ
  go_wp2_with fail
  refine HC.out.mono ?_
  rintro e w3 ⟨_, hj⟩
  try simp only at hj
  obtain ⟨jb, rfl, hj⟩ := hj
  have HJ := hide hj
  clear hj HC
  go_wp2_with fail
  go_loopw [8, 10, 11] (fun s8 s10 s11 wr => ∃ (k jb : Nat) (L : List (List UInt8)) (A : Option Addr) (c n1 : Nat) (br : Bool) (D : DiskS), k ≤ ln ∧ k ≤ 20 ∧ s8 = .pointer (some ⟨jb, 0, none⟩) ∧ s10 = .slice A n1 c ∧ s11 = .int .i64 k ∧ Hid (L.length = n1) ∧ Hid (lenL L ≤ N ∧ L.length ≤ 6 * k ∧ (∀ r ∈ L, r.length ≤ 100) ∧ KState ks N L D br) ∧ Hid (wr.ownsRow w.heap.size 9 1 (.slice A n1 c) n1 (L.map strV)) ∧ Hid (JIn w.heap.size ((A.map (·.block)).toList) w wr jb g (tapeOf ks L) br D)) (fun _ _ s _ => 20 - (intOf s).toNat)
  case atStart =>
    exact ⟨0, jb, [], none, 0, 0, false, diskOf N (bytesOf ks []), Nat.zero_le _, Nat.zero_le _, rfl, rfl, rfl, hide rfl, hide ⟨by rw [lenL_nil]; omega, by simp, by simp, .inl ⟨rfl, 0, rfl⟩⟩, hide ⟨rfl, .inl ⟨rfl, rfl⟩⟩, hide HJ.out⟩
  case round =>
    clear HJ
    obtain ⟨k, jb, L, A, c, n1, br, D, hk, hk8, rfl, rfl, rfl, hN, hI, hO, hJ⟩ := hrel
    obtain ⟨wo, rfl⟩ : ∃ x : World, x = wr := ⟨_, rfl⟩
    have hlm : (ln : Int) ≤ 9223372036854775807 := by have h1 := HG.out.2.1; have h2 := HG.out.2.2.1; unfold maxLen at h2; omega
    by_cases hin : k < ln ∧ k < 20
    case neg =>
      have hend : (¬ (k : Int) < ln) ∨ ((k : Int) < ln ∧ ¬ (k : Int) < 20) := by omega
      clear hin hk
      rcases hend with hki | ⟨hki, hk8i⟩
      case inr => go_wp2_with fail; go_ret; exact ⟨rfl, hJ.out.below⟩
      case inl => go_wp2_with fail; go_ret; exact ⟨rfl, hJ.out.below⟩
    have hki : (k : Int) < ln := by omega
    have hk8i : (k : Int) < 20 := by omega
    have hkw : IntKind.i64.wrap ((k : Int) + 1) = (k : Int) + 1 := Go.IntWalk.i64_in _ (by omega)
    obtain ⟨y, hy⟩ : ∃ r, xs[k]? = some r := ⟨_, List.getElem?_eq_getElem (by have := HG.out.1; omega)⟩
    obtain ⟨gb, go, rfl, hgl, hat⟩ := HG.out.2.2.2 (by omega)
    obtain ⟨vs, hvs, hcs⟩ := hat k y hy
    obtain ⟨kd0, xa, xn, xc, xl, yn, ka, kn, kc, kz⟩ := y
    obtain ⟨rfl, hwk, hwn, hs, hkz⟩ := hvs
    simp only at hwk hwn hs hkz hcs
    have HCELL := hide (fun (W : World) (hb : Below w.heap.size w W) => (show W.cell? ⟨gb, go + k * 4, none⟩ = some (.int .i64 kd0) ∧ W.cell? ⟨gb, go + k * 4 + 1, none⟩ = some (.slice xa xn xc) ∧ W.cell? ⟨gb, go + k * 4 + 2, none⟩ = some (.int .i64 yn) ∧ W.cell? ⟨gb, go + k * 4 + 3, none⟩ = some (.slice ka kn kc) from ⟨(hb.cell (p := ⟨gb, go + k * 4, none⟩) hgl).trans (hcs 0 _ rfl), (hb.cell (p := ⟨gb, go + k * 4 + 1, none⟩) hgl).trans (hcs 1 _ rfl), (hb.cell (p := ⟨gb, go + k * 4 + 2, none⟩) hgl).trans (hcs 2 _ rfl), (hb.cell (p := ⟨gb, go + k * 4 + 3, none⟩) hgl).trans (hcs 3 _ rfl)⟩))
    have hx1 := hs.hcap
    have hx2 := hs.hmax
    have HF := hide (fun (W : World) (hb : Below w.heap.size w W) => few_any xa xn xc xl W hs.hlen (hs.at_.later hb) hs.small (by omega))
    have HK := hide hkz
    have HWN := hide hwn
    have HGL := hide hgl
    have HPK := hide (fun W => pick_any kd0 8 W hwk (by omega) (by omega))
    obtain ⟨kd, hkd⟩ : ∃ x, pickN kd0 8 = x := ⟨_, rfl⟩
    rw [hkd] at HPK
    clear hy hat hcs hwk hwn hs hkz hx1 hx2 hgl hkd
    have HB := hide hJ.out.below
    have HO := hO
    have HJ := hJ
    have HI := hI
    have HN1 := hN
    clear hO hJ hI hN
    obtain ⟨ce0, ce1, ce2, ce3⟩ := HCELL.out wo HB.out
    go_wp2_with fail
    refine (HPK.out wo).mono ?_
    rintro e w' ⟨rfl, rfl⟩
    clear HPK
    by_cases h5 : kd = 5
    case pos =>
      have e5 : (kd == 5) = true := by simp; omega
      clear h5
      have hcb := pickN_lt yn (n := 5) (by omega)
      have HPK := hide (fun W => pick_any yn 5 W HWN.out (by omega) (by omega))
      obtain ⟨pk, hpk⟩ : ∃ x, pickN yn 5 = x := ⟨_, rfl⟩
      rw [hpk] at HPK hcb
      obtain ⟨cn, hcn⟩ : ∃ x, pk.toNat + 1 = x := ⟨_, rfl⟩
      have hcw : IntKind.i64.wrap (1 + pk) = (cn : Int) := by rw [Go.IntWalk.i64_in _ (by omega)]; omega
      have hc0 : cn ≠ 0 := by omega
      have hc3 : cn ≤ 5 := by omega
      clear hpk hcn hcb
      have HCU := hide (jcut_in (cn : Int) HJ.out (by omega))
      have hkst := HI.out.2.2.2.cut cn hc0
      obtain ⟨D', hD'⟩ : ∃ x, (D.cut (cn : Int)).1 = x := ⟨_, rfl⟩
      obtain ⟨er, her⟩ : ∃ x, (D.cut (cn : Int)).2 = x := ⟨_, rfl⟩
      rw [hD', her] at HCU
      rw [hD'] at hkst
      have HKS := hide hkst
      clear hD' her hkst
      go_wp2_with fail
      refine (HPK.out wo).mono ?_
      rintro e w' ⟨rfl, rfl⟩
      clear HPK
      go_wp2_with fail
      refine HCU.out.mono ?_
      rintro e w5 ⟨rfl, hj, hsm⟩
      have HJ5 := hide hj
      have HO5 := hide (own_same HO.out hsm)
      clear hj hsm HCU HJ HO ce0 ce1 ce2 ce3 hc0 hc3 hcw
      have hLf : lenL L ≤ N ∧ L.length ≤ 6 * (k + 1) ∧ (∀ r ∈ L, r.length ≤ 100) ∧ KState ks N L D' br := ⟨HI.out.1, by have := HI.out.2.1; omega, HI.out.2.2.1, HKS.out⟩
      have HLF := hide hLf
      clear hLf HKS HI
      have HR := hide (records_in HJ5.out (by rw [tapeOf_recs]; have := HLF.out.2.1; omega))
      rw [tapeOf_recs, HN1.out] at HR
      have hnb : n1 ≤ 1000 := by have := HLF.out.2.1; have := HN1.out; omega
      go_wp2_with fail
      refine HR.out.mono ?_
      rintro e w20 ⟨ra, rc, rfl, ho, u⟩
      have HJ20 := hide (HJ5.out.step u (by simp))
      have HS20 := hide (own_kept HO5.out u (by simp))
      have hrc : (n1 : Int) ≤ rc := by have := own_cap ho; omega
      have hnn : ¬ (n1 : Int) < n1 := by omega
      have hnm : (rc : Int) ≤ 9223372036854775807 := by have := own_max ho; unfold maxLen at this; omega
      have HR20 := hide ho
      clear u ho HR HJ5 HO5
      have HE := hide (same_any ra n1 rc _ A n1 c _ w20 (by rw [List.length_map]; exact HN1.out) (by rw [List.length_map]; exact HN1.out) (by omega) (by omega) (strs_own HR20.out) (strs_own HS20.out))
      rw [show decide ((L.map fun r => (⟨r.toArray⟩ : ByteArray)) = (L.map fun r => (⟨r.toArray⟩ : ByteArray))) = true from decide_eq_true rfl] at HE
      go_wp2_with fail
      refine HE.out.mono ?_
      rintro e w21 ⟨rfl, u⟩
      have HJ21 := hide (HJ20.out.step u (by simp))
      have HS21 := hide (own_kept HS20.out u (by simp))
      clear u HE HJ20 HS20 HR20
      go_wp2_with fail
      go_roundw
      case rel => exact ⟨k + 1, jb, L, A, c, n1, br, D', by omega, by omega, rfl, rfl, by go_num, HN1, HLF, HS21, HJ21⟩
      case measure => simp [intOf] <;> omega
    have e5 : (kd == 5) = false := by simp; omega
    by_cases h67 : kd = 6 ∨ kd = 7
    case pos =>
      by_cases h6 : kd = 6
      case pos =>
        have e6 : (kd == 6) = true := by simp; omega
        clear h5 h67 h6
        go_upto_region 18 with fail
        obtain ⟨q, hq⟩ : ∃ q : Nat, min kn 20 = q := ⟨_, rfl⟩
        have hmn : min (kn : Int) 20 = (q : Int) := by omega
        have hqc : (q : Int) ≤ kc := by have := HK.out.2.1; omega
        have hqn : q ≤ kn := by omega
        have hq20 : q ≤ 20 := by omega
        have hknm : (kn : Int) ≤ 9223372036854775807 := by have h1 := HK.out.2.1; have h2 := HK.out.2.2.1; unfold maxLen at h2; omega
        obtain ⟨_, _, _, hd, _⟩ := HJ.out.disk
        have HD := hide (hd.mono (X' := ((A.map (·.block)).toList)) (fun x hx => List.mem_append_right _ hx))
        clear hd HJ
        refine wp_region_held_drew (S := (fun w' => w'.cell? ⟨gb, go + k * 4 + 2, none⟩ = some (.int .i64 yn) ∧ w'.cell? ⟨gb, go + k * 4 + 3, none⟩ = some (.slice ka kn kc))) (by kernel_rfl) (by exact ⟨ce2, ce3⟩) (fun hHeld => ?_)
        obtain ⟨wd, hw⟩ : ∃ x, wo.drew = x := ⟨_, rfl⟩
        have u : Upd [] wo wd := by rw [← hw]; exact (Upd.refl [] _).drew
        rw [hw] at hHeld ⊢
        have HOD := hide (own_kept HO.out u (by simp))
        have HDD := hide (HD.out.step u (by simp) (by simp))
        clear hw u HO HD ce0 ce1 ce2 ce3
        refine wpAnyH_take (i := 0) (oi := ?oi0M2) (v := ?v0M2) ?oi0_0M2 (by kernel_rfl) ?ff0M2 ?rr0M2 ?hq0M2 (Or.inl ⟨?hw0M2, ?hy0M2⟩) (by assumption) ?rest0M2
        case oi0_0M2 =>
          conv =>
            lhs
            whnf
            arg 1
            whnf
        case hq0M2 => exact fun _ _ _ h => h
        case ff0M2 => kernel_rfl
        case rr0M2 => kernel_rfl
        case hw0M2 => rfl
        case hy0M2 =>
          intro w hSw
          (try dsimp only at hSw)
          first
          | (go_simp; done)
          | (go_simp; with_reducible rfl)
        try simp only [Act.put, List.setIfInBounds_toArray, List.set_cons_zero, List.set_cons_succ]
        refine wpAnyH_take (i := 1) (oi := ?oi1M2) (v := ?v1M2) ?oi0_1M2 (by kernel_rfl) ?ff1M2 ?rr1M2 ?hq1M2 (Or.inl ⟨?hw1M2, ?hy1M2⟩) (by assumption) ?rest1M2
        case oi0_1M2 =>
          conv =>
            lhs
            whnf
            arg 1
            whnf
        case hq1M2 => exact fun _ _ _ h => h
        case ff1M2 => kernel_rfl
        case rr1M2 => kernel_rfl
        case hw1M2 => rfl
        case hy1M2 =>
          intro w hSw
          (try dsimp only at hSw)
          first
          | (go_simp; done)
          | (go_simp; with_reducible rfl)
        try simp only [Act.put, List.setIfInBounds_toArray, List.set_cons_zero, List.set_cons_succ]
        refine wpAnyH_take (i := 2) (oi := ?oi2M2) (v := ?v2M2) ?oi0_2M2 (by kernel_rfl) ?ff2M2 ?rr2M2 ?hq2M2 (Or.inl ⟨?hw2M2, ?hy2M2⟩) (by assumption) ?rest2M2
        case oi0_2M2 =>
          conv =>
            lhs
            whnf
            arg 1
            whnf
        case hq2M2 => exact fun _ _ _ h => h
        case ff2M2 => kernel_rfl
        case rr2M2 => kernel_rfl
        case hw2M2 => rfl
        case hy2M2 =>
          intro w hSw
          (try dsimp only at hSw)
          first
          | (go_simp; done)
          | (go_simp; with_reducible rfl)
        try simp only [Act.put, List.setIfInBounds_toArray, List.set_cons_zero, List.set_cons_succ]
        refine wpAnyH_take (i := 3) (oi := ?oi3M2) (v := ?v3M2) ?oi0_3M2 (by kernel_rfl) ?ff3M2 ?rr3M2 ?hq3M2 (Or.inl ⟨?hw3M2, ?hy3M2⟩) (by assumption) ?rest3M2
        case oi0_3M2 =>
          conv =>
            lhs
            whnf
            arg 1
            whnf
        case hq3M2 => exact fun _ _ _ h => h
        case ff3M2 => kernel_rfl
        case rr3M2 => kernel_rfl
        case hw3M2 => rfl
        case hy3M2 =>
          intro w hSw
          (try dsimp only at hSw)
          first
          | (go_simp; done)
          | (go_simp; with_reducible rfl)
        try simp only [Act.put, List.setIfInBounds_toArray, List.set_cons_zero, List.set_cons_succ]
        refine wpAnyH_take (i := 4) (oi := ?oi4M2) (v := ?v4M2) ?oi0_4M2 (by kernel_rfl) ?ff4M2 ?rr4M2 ?hq4M2 (Or.inl ⟨?hw4M2, ?hy4M2⟩) (by assumption) ?rest4M2
        case oi0_4M2 =>
          conv =>
            lhs
            whnf
            arg 1
            whnf
        case hq4M2 => exact fun _ _ _ h => h
        case ff4M2 => kernel_rfl
        case rr4M2 => kernel_rfl
        case hw4M2 => rfl
        case hy4M2 =>
          intro w hSw
          (try dsimp only at hSw)
          first
          | (go_simp; done)
          | (go_simp; with_reducible rfl)
        try simp only [Act.put, List.setIfInBounds_toArray, List.set_cons_zero, List.set_cons_succ]
        refine wpAnyH_take (i := 5) (oi := ?oi5M2) (v := ?v5M2) ?oi0_5M2 (by kernel_rfl) ?ff5M2 ?rr5M2 ?hq5M2 (Or.inl ⟨?hw5M2, ?hy5M2⟩) (by assumption) ?rest5M2
        case oi0_5M2 =>
          conv =>
            lhs
            whnf
            arg 1
            whnf
        case hq5M2 => exact fun _ _ _ h => h
        case ff5M2 => kernel_rfl
        case rr5M2 => kernel_rfl
        case hw5M2 => rfl
        case hy5M2 =>
          intro w hSw
          (try dsimp only at hSw)
          first
          | (go_simp; done)
          | (go_simp; with_reducible rfl)
        try simp only [Act.put, List.setIfInBounds_toArray, List.set_cons_zero, List.set_cons_succ]
        refine wpAnyH_take (i := 6) (oi := ?oi6M2) (v := ?v6M2) ?oi0_6M2 (by kernel_rfl) ?ff6M2 ?rr6M2 ?hq6M2 (Or.inl ⟨?hw6M2, ?hy6M2⟩) (by assumption) ?rest6M2
        case oi0_6M2 =>
          conv =>
            lhs
            whnf
            arg 1
            whnf
        case hq6M2 => exact fun _ _ _ h => h
        case ff6M2 => kernel_rfl
        case rr6M2 => kernel_rfl
        case hw6M2 => rfl
        case hy6M2 =>
          intro w hSw
          (try dsimp only at hSw)
          first
          | (go_simp; done)
          | (go_simp; with_reducible rfl)
        try simp only [Act.put, List.setIfInBounds_toArray, List.set_cons_zero, List.set_cons_succ]
        refine wpAnyH_take (i := 7) (oi := ?oi7M2) (v := ?v7M2) ?oi0_7M2 (by kernel_rfl) ?ff7M2 ?rr7M2 ?hq7M2 (Or.inl ⟨?hw7M2, ?hy7M2⟩) (by assumption) ?rest7M2
        case oi0_7M2 =>
          conv =>
            lhs
            whnf
            arg 1
            whnf
        case hq7M2 => exact fun _ _ _ h => h
        case ff7M2 => kernel_rfl
        case rr7M2 => kernel_rfl
        case hw7M2 => rfl
        case hy7M2 =>
          intro w hSw
          (try dsimp only at hSw)
          first
          | (go_simp; done)
          | (go_simp; with_reducible rfl)
        try simp only [Act.put, List.setIfInBounds_toArray, List.set_cons_zero, List.set_cons_succ]
        refine wpAnyH_take (i := 8) (oi := ?oi8M2) (v := ?v8M2) ?oi0_8M2 (by kernel_rfl) ?ff8M2 ?rr8M2 ?hq8M2 (Or.inl ⟨?hw8M2, ?hy8M2⟩) (by assumption) ?rest8M2
        case oi0_8M2 =>
          conv =>
            lhs
            whnf
            arg 1
            whnf
        case hq8M2 => exact fun _ _ _ h => h
        case ff8M2 => kernel_rfl
        case rr8M2 => kernel_rfl
        case hw8M2 => rfl
        case hy8M2 =>
          intro w hSw
          (try dsimp only at hSw)
          first
          | (go_simp; done)
          | (go_simp; with_reducible rfl)
        try simp only [Act.put, List.setIfInBounds_toArray, List.set_cons_zero, List.set_cons_succ]
        refine wpAnyH_take (i := 9) (oi := ?oi9M2) (v := ?v9M2) ?oi0_9M2 (by kernel_rfl) ?ff9M2 ?rr9M2 ?hq9M2 (Or.inl ⟨?hw9M2, ?hy9M2⟩) (by assumption) ?rest9M2
        case oi0_9M2 =>
          conv =>
            lhs
            whnf
            arg 1
            whnf
        case hq9M2 => exact fun _ _ _ h => h
        case ff9M2 => kernel_rfl
        case rr9M2 => kernel_rfl
        case hw9M2 => rfl
        case hy9M2 =>
          intro w hSw
          (try dsimp only at hSw)
          first
          | (go_simp; done)
          | (go_simp; with_reducible rfl)
        try simp only [Act.put, List.setIfInBounds_toArray, List.set_cons_zero, List.set_cons_succ]
        refine wpAnyH_take (i := 10) (oi := ?oi10M2) (v := ?v10M2) ?oi0_10M2 (by kernel_rfl) ?ff10M2 ?rr10M2 ?hq10M2 (Or.inl ⟨?hw10M2, ?hy10M2⟩) (by assumption) ?rest10M2
        case oi0_10M2 =>
          conv =>
            lhs
            whnf
            arg 1
            whnf
        case hq10M2 => exact fun _ _ _ h => h
        case ff10M2 => kernel_rfl
        case rr10M2 => kernel_rfl
        case hw10M2 => rfl
        case hy10M2 =>
          intro w hSw
          (try dsimp only at hSw)
          first
          | (go_simp; done)
          | (go_simp; with_reducible rfl)
        try simp only [Act.put, List.setIfInBounds_toArray, List.set_cons_zero, List.set_cons_succ]
        refine wpAnyH_take (i := 11) (oi := ?oi11M2) (v := ?v11M2) ?oi0_11M2 (by kernel_rfl) ?ff11M2 ?rr11M2 ?hq11M2 (Or.inl ⟨?hw11M2, ?hy11M2⟩) (by assumption) ?rest11M2
        case oi0_11M2 =>
          conv =>
            lhs
            whnf
            arg 1
            whnf
        case hq11M2 => exact fun _ _ _ h => h
        case ff11M2 => kernel_rfl
        case rr11M2 => kernel_rfl
        case hw11M2 => rfl
        case hy11M2 =>
          intro w hSw
          (try dsimp only at hSw)
          first
          | (go_simp; done)
          | (go_simp; with_reducible rfl)
        try simp only [Act.put, List.setIfInBounds_toArray, List.set_cons_zero, List.set_cons_succ]
        refine wpAnyH_take (i := 12) (oi := ?oi12M2) (v := ?v12M2) ?oi0_12M2 (by kernel_rfl) ?ff12M2 ?rr12M2 ?hq12M2 (Or.inl ⟨?hw12M2, ?hy12M2⟩) (by assumption) ?rest12M2
        case oi0_12M2 =>
          conv =>
            lhs
            whnf
            arg 1
            whnf
        case hq12M2 => exact fun _ _ _ h => h
        case ff12M2 => kernel_rfl
        case rr12M2 => kernel_rfl
        case hw12M2 => rfl
        case hy12M2 =>
          intro w hSw
          (try dsimp only at hSw)
          first
          | (go_simp; done)
          | (go_simp; with_reducible rfl)
        try simp only [Act.put, List.setIfInBounds_toArray, List.set_cons_zero, List.set_cons_succ]
        refine wpAnyH_take (i := 13) (oi := ?oi13M2) (v := ?v13M2) ?oi0_13M2 (by kernel_rfl) ?ff13M2 ?rr13M2 ?hq13M2 (Or.inl ⟨?hw13M2, ?hy13M2⟩) (by assumption) ?rest13M2
        case oi0_13M2 =>
          conv =>
            lhs
            whnf
            arg 1
            whnf
        case hq13M2 => exact fun _ _ _ h => h
        case ff13M2 => kernel_rfl
        case rr13M2 => kernel_rfl
        case hw13M2 => rfl
        case hy13M2 =>
          intro w hSw
          (try dsimp only at hSw)
          first
          | (go_simp; done)
          | (go_simp; with_reducible rfl)
        try simp only [Act.put, List.setIfInBounds_toArray, List.set_cons_zero, List.set_cons_succ]
        refine wpAnyH_take (i := 14) (oi := ?oi14M2) (v := ?v14M2) ?oi0_14M2 (by kernel_rfl) ?ff14M2 ?rr14M2 ?hq14M2 (Or.inl ⟨?hw14M2, ?hy14M2⟩) (by assumption) ?rest14M2
        case oi0_14M2 =>
          conv =>
            lhs
            whnf
            arg 1
            whnf
        case hq14M2 => exact fun _ _ _ h => h
        case ff14M2 => kernel_rfl
        case rr14M2 => kernel_rfl
        case hw14M2 => rfl
        case hy14M2 =>
          intro w hSw
          (try dsimp only at hSw)
          first
          | (go_simp; done)
          | (go_simp; with_reducible rfl)
        try simp only [Act.put, List.setIfInBounds_toArray, List.set_cons_zero, List.set_cons_succ]
        refine wpAnyH_take (i := 15) (oi := ?oi15M2) (v := ?v15M2) ?oi0_15M2 (by kernel_rfl) ?ff15M2 ?rr15M2 ?hq15M2 (Or.inl ⟨?hw15M2, ?hy15M2⟩) (by assumption) ?rest15M2
        case oi0_15M2 =>
          conv =>
            lhs
            whnf
            arg 1
            whnf
        case hq15M2 => exact fun _ _ _ h => h
        case ff15M2 => kernel_rfl
        case rr15M2 => kernel_rfl
        case hw15M2 => rfl
        case hy15M2 =>
          intro w hSw
          (try dsimp only at hSw)
          first
          | (go_simp; done)
          | (go_simp; with_reducible rfl)
        try simp only [Act.put, List.setIfInBounds_toArray, List.set_cons_zero, List.set_cons_succ]
        refine wpAnyH_take (i := 16) (oi := ?oi16M2) (v := ?v16M2) ?oi0_16M2 (by kernel_rfl) ?ff16M2 ?rr16M2 ?hq16M2 (Or.inl ⟨?hw16M2, ?hy16M2⟩) (by assumption) ?rest16M2
        case oi0_16M2 =>
          conv =>
            lhs
            whnf
            arg 1
            whnf
        case hq16M2 => exact fun _ _ _ h => h
        case ff16M2 => kernel_rfl
        case rr16M2 => kernel_rfl
        case hw16M2 => rfl
        case hy16M2 =>
          intro w hSw
          (try dsimp only at hSw)
          first
          | (go_simp; done)
          | (go_simp; with_reducible rfl)
        try simp only [Act.put, List.setIfInBounds_toArray, List.set_cons_zero, List.set_cons_succ]
        refine wpAnyH_take (i := 17) (oi := ?oi17M2) (v := ?v17M2) ?oi0_17M2 (by kernel_rfl) ?ff17M2 ?rr17M2 ?hq17M2 (Or.inl ⟨?hw17M2, ?hy17M2⟩) (by assumption) ?rest17M2
        case oi0_17M2 =>
          conv =>
            lhs
            whnf
            arg 1
            whnf
        case hq17M2 => exact fun _ _ _ h => h
        case ff17M2 => kernel_rfl
        case rr17M2 => kernel_rfl
        case hw17M2 => rfl
        case hy17M2 =>
          intro w hSw
          (try dsimp only at hSw)
          first
          | (go_simp; done)
          | (go_simp; with_reducible rfl)
        try simp only [Act.put, List.setIfInBounds_toArray, List.set_cons_zero, List.set_cons_succ]
        refine wpAnyH_take (i := 18) (oi := ?oi18M2) (v := ?v18M2) ?oi0_18M2 (by kernel_rfl) ?ff18M2 ?rr18M2 ?hq18M2 (Or.inl ⟨?hw18M2, ?hy18M2⟩) (by assumption) ?rest18M2
        case oi0_18M2 =>
          conv =>
            lhs
            whnf
            arg 1
            whnf
        case hq18M2 => exact fun _ _ _ h => h
        case ff18M2 => kernel_rfl
        case rr18M2 => kernel_rfl
        case hw18M2 => rfl
        case hy18M2 =>
          intro w hSw
          (try dsimp only at hSw)
          first
          | (go_simp; done)
          | (go_simp; with_reducible rfl)
        try simp only [Act.put, List.setIfInBounds_toArray, List.set_cons_zero, List.set_cons_succ]
        refine wpAnyH_ready (rs := [19]) (by kernel_rfl) (by simp) (AllReadyH.cons (o := ?oiM3) ?oi0_M3 (fun K hK => ?_) AllReadyH.nil)
        case oi0_M3 =>
          conv =>
            lhs
            whnf
            arg 1
            whnf
        go_simp
        have HCR := hide (crash_in (.slice ka q kc) (kz.take q) yn HDD.out (by have := HI.out.2.2.2.pend; omega) (by rw [List.length_take]; omega) ((HK.out.first q hqn kc).later HDD.out.below HDD.out.room))
        obtain ⟨G, hG6, hGr, hop, hpe, hlN⟩ := HI.out.2.2.2.crash HI.out.1 HI.out.2.2.1 (kz.take q) yn
        obtain ⟨D', hD'⟩ : ∃ x, D.crash (kz.take q) yn = x := ⟨_, rfl⟩
        rw [hD'] at hop hpe HCR
        have HOP := hide hop
        have HPE := hide hpe
        clear hop hpe hD' hq hqn
        have hLf : lenL (L ++ G) ≤ N ∧ (L ++ G).length ≤ 6 * (k + 1) ∧ (∀ r ∈ L ++ G, r.length ≤ 100) ∧ KState ks N (L ++ G) (diskOf N (bytesOf ks (L ++ G))) false := ⟨hlN, by rw [List.length_append]; have := HI.out.2.1; omega, hGr, .inl ⟨rfl, 0, rfl⟩⟩
        have HLF := hide hLf
        clear hLf hlN hGr
        have htk : (L ++ G).take n1 = L := by rw [← HN1.out, List.take_left]
        have hnle : n1 ≤ (L ++ G).length := by rw [List.length_append, HN1.out]; omega
        obtain ⟨M, hM⟩ : ∃ x, L ++ G = x := ⟨_, rfl⟩
        rw [hM] at HOP HLF htk hnle
        obtain ⟨rn, hrn⟩ : ∃ x, M.length = x := ⟨_, rfl⟩
        rw [hrn] at hnle
        have HRN := hide hrn
        have HTK := hide htk
        clear hM hrn htk hG6 HI
        refine HCR.out.mono ?_
        rintro e w5 ⟨rfl, hd, hsm⟩
        try simp only
        have HD5 := hide hd
        have HO5 := hide (own_same HOD.out hsm)
        have hc2 := (HCELL.out w5 hd.below).2.2
        clear hd hsm HCR HDD HOD hmn hqc hknm
        (try dsimp only)
        refine hK.out _ _ (by exact hc2) (fun hHeld => ?_)
        clear hK K hc2
        try simp only [Act.put, List.setIfInBounds_toArray, List.set_cons_zero, List.set_cons_succ]
        refine wpAnyH_done (by kernel_rfl) ?_ _
        clear hHeld
        have C1 := open_in HL.out HD5.out (by rw [HPE.out]; omega)
        rw [HOP.out] at C1
        have HC := hide C1
        clear C1 HD5 HOP HPE
        go_wp2_with fail
        refine HC.out.mono ?_
        rintro e w6 ⟨hsm, hj⟩
        try simp only at hj
        obtain ⟨jc, rfl, hj⟩ := hj
        have HJ6 := hide hj
        have HO6 := hide (own_same HO5.out hsm)
        clear hj hsm HC HO5
        have hrnb : rn ≤ 1000 := by have := HLF.out.2.1; have := HRN.out; omega
        have HR := hide (fun (W : World) (hb : JIn w.heap.size ((A.map (·.block)).toList) w W jc g (tapeOf ks M) false (diskOf N (bytesOf ks M))) => records_in hb (by rw [tapeOf_recs]; have := HLF.out.2.1; omega))
        rw [tapeOf_recs, HRN.out] at HR
        go_wp2_with fail
        refine (HR.out w6 HJ6.out).mono ?_
        rintro e w7 ⟨sa, sc, rfl, ho, u⟩
        have HJ7 := hide (HJ6.out.step u (by simp))
        have HO7 := hide (own_kept HO6.out u (by simp))
        clear ho u HJ6 HO6
        have hnn : ¬ (rn : Int) < n1 := by omega
        go_wp2_with fail
        refine (HR.out w7 HJ7.out).mono ?_
        rintro e w8 ⟨ta, tc, rfl, ho, u⟩
        have HJ8 := hide (HJ7.out.step u (by simp))
        have HO8 := hide (own_kept HO7.out u (by simp))
        have htc : (n1 : Int) ≤ tc := by have := own_cap ho; omega
        have htm : (tc : Int) ≤ 9223372036854775807 := by have := own_max ho; unfold maxLen at this; omega
        have HT8 := hide ho
        clear u ho HJ7 HO7
        have hs8 := strs_take (strs_own HT8.out) n1
        rw [← List.map_take, HTK.out] at hs8
        have HE := hide (same_any ta n1 tc _ A n1 c _ w8 (by rw [List.length_map]; exact HN1.out) (by rw [List.length_map]; exact HN1.out) (by omega) (by omega) hs8 (strs_own HO8.out))
        rw [show decide ((L.map fun r => (⟨r.toArray⟩ : ByteArray)) = (L.map fun r => (⟨r.toArray⟩ : ByteArray))) = true from decide_eq_true rfl] at HE
        clear hs8
        go_wp2_with fail
        refine HE.out.mono ?_
        rintro e w9 ⟨rfl, u⟩
        have HJ9 := hide (HJ8.out.step u (by simp))
        clear u HE HJ8 HO8 HT8 htc htm
        go_wp2_with fail
        refine (HR.out w9 HJ9.out).mono ?_
        rintro e w10 ⟨va, vc, rfl, ho, u⟩
        have HJ10 := hide ((HJ9.out.mono (X' := []) (by simp)).more u (by simp) ((va.map (·.block)).toList) (fun y hy => .inr ⟨it_own_block ho y (by rw [ownBlock_slice]; simpa using hy), it_own_lt ho y (by rw [ownBlock_slice]; simpa using hy)⟩))
        rw [List.append_nil] at HJ10
        have HV10 := hide (it_own_less ho HJ9.out.room)
        clear u ho HJ9 HR hnn hnle
        have HR := hide (records_in HJ10.out (by rw [tapeOf_recs]; have := HLF.out.2.1; omega))
        rw [tapeOf_recs, HRN.out] at HR
        have hnb : rn ≤ 1000 := by have := HLF.out.2.1; have := HRN.out; omega
        go_wp2_with fail
        refine HR.out.mono ?_
        rintro e w20 ⟨ra, rc, rfl, ho, u⟩
        have HJ20 := hide (HJ10.out.step u (by simp))
        have HS20 := hide (own_kept HV10.out u (by simp))
        have hrc : (rn : Int) ≤ rc := by have := own_cap ho; omega
        have hnn : ¬ (rn : Int) < rn := by omega
        have hnm : (rc : Int) ≤ 9223372036854775807 := by have := own_max ho; unfold maxLen at this; omega
        have HR20 := hide ho
        clear u ho HR HJ10 HV10
        have HE := hide (same_any ra rn rc _ va rn vc _ w20 (by rw [List.length_map]; exact HRN.out) (by rw [List.length_map]; exact HRN.out) (by omega) (by omega) (strs_own HR20.out) (strs_own HS20.out))
        rw [show decide ((M.map fun r => (⟨r.toArray⟩ : ByteArray)) = (M.map fun r => (⟨r.toArray⟩ : ByteArray))) = true from decide_eq_true rfl] at HE
        go_wp2_with fail
        refine HE.out.mono ?_
        rintro e w21 ⟨rfl, u⟩
        have HJ21 := hide (HJ20.out.step u (by simp))
        have HS21 := hide (own_kept HS20.out u (by simp))
        clear u HE HJ20 HS20 HR20
        go_wp2_with fail
        go_roundw
        case rel => exact ⟨k + 1, jc, M, va, vc, rn, false, (diskOf N (bytesOf ks M)), by omega, by omega, rfl, rfl, by go_num, HRN, HLF, HS21, HJ21⟩
        case measure => simp [intOf] <;> omega
      have e6 : (kd == 6) = false := by simp; omega
      have e7 : (kd == 7) = true := by simp; omega
      clear h5 h67 h6
      go_upto_region 18 with fail
      obtain ⟨q, hq⟩ : ∃ q : Nat, min kn 20 = q := ⟨_, rfl⟩
      have hmn : min (kn : Int) 20 = (q : Int) := by omega
      have hqc : (q : Int) ≤ kc := by have := HK.out.2.1; omega
      have hqn : q ≤ kn := by omega
      have hq20 : q ≤ 20 := by omega
      have hknm : (kn : Int) ≤ 9223372036854775807 := by have h1 := HK.out.2.1; have h2 := HK.out.2.2.1; unfold maxLen at h2; omega
      obtain ⟨_, _, _, hd, _⟩ := HJ.out.disk
      have HD := hide (hd.mono (X' := ((A.map (·.block)).toList)) (fun x hx => List.mem_append_right _ hx))
      clear hd HJ
      refine wp_region_held_drew (S := (fun w' => w'.cell? ⟨gb, go + k * 4 + 2, none⟩ = some (.int .i64 yn) ∧ w'.cell? ⟨gb, go + k * 4 + 3, none⟩ = some (.slice ka kn kc))) (by kernel_rfl) (by exact ⟨ce2, ce3⟩) (fun hHeld => ?_)
      obtain ⟨wd, hw⟩ : ∃ x, wo.drew = x := ⟨_, rfl⟩
      have u : Upd [] wo wd := by rw [← hw]; exact (Upd.refl [] _).drew
      rw [hw] at hHeld ⊢
      have HOD := hide (own_kept HO.out u (by simp))
      have HDD := hide (HD.out.step u (by simp) (by simp))
      clear hw u HO HD ce0 ce1 ce2 ce3
      refine wpAnyH_take (i := 0) (oi := ?oi0M6) (v := ?v0M6) ?oi0_0M6 (by kernel_rfl) ?ff0M6 ?rr0M6 ?hq0M6 (Or.inl ⟨?hw0M6, ?hy0M6⟩) (by assumption) ?rest0M6
      case oi0_0M6 =>
        conv =>
          lhs
          whnf
          arg 1
          whnf
      case hq0M6 => exact fun _ _ _ h => h
      case ff0M6 => kernel_rfl
      case rr0M6 => kernel_rfl
      case hw0M6 => rfl
      case hy0M6 =>
        intro w hSw
        (try dsimp only at hSw)
        first
        | (go_simp; done)
        | (go_simp; with_reducible rfl)
      try simp only [Act.put, List.setIfInBounds_toArray, List.set_cons_zero, List.set_cons_succ]
      refine wpAnyH_take (i := 1) (oi := ?oi1M6) (v := ?v1M6) ?oi0_1M6 (by kernel_rfl) ?ff1M6 ?rr1M6 ?hq1M6 (Or.inl ⟨?hw1M6, ?hy1M6⟩) (by assumption) ?rest1M6
      case oi0_1M6 =>
        conv =>
          lhs
          whnf
          arg 1
          whnf
      case hq1M6 => exact fun _ _ _ h => h
      case ff1M6 => kernel_rfl
      case rr1M6 => kernel_rfl
      case hw1M6 => rfl
      case hy1M6 =>
        intro w hSw
        (try dsimp only at hSw)
        first
        | (go_simp; done)
        | (go_simp; with_reducible rfl)
      try simp only [Act.put, List.setIfInBounds_toArray, List.set_cons_zero, List.set_cons_succ]
      refine wpAnyH_take (i := 2) (oi := ?oi2M6) (v := ?v2M6) ?oi0_2M6 (by kernel_rfl) ?ff2M6 ?rr2M6 ?hq2M6 (Or.inl ⟨?hw2M6, ?hy2M6⟩) (by assumption) ?rest2M6
      case oi0_2M6 =>
        conv =>
          lhs
          whnf
          arg 1
          whnf
      case hq2M6 => exact fun _ _ _ h => h
      case ff2M6 => kernel_rfl
      case rr2M6 => kernel_rfl
      case hw2M6 => rfl
      case hy2M6 =>
        intro w hSw
        (try dsimp only at hSw)
        first
        | (go_simp; done)
        | (go_simp; with_reducible rfl)
      try simp only [Act.put, List.setIfInBounds_toArray, List.set_cons_zero, List.set_cons_succ]
      refine wpAnyH_take (i := 3) (oi := ?oi3M6) (v := ?v3M6) ?oi0_3M6 (by kernel_rfl) ?ff3M6 ?rr3M6 ?hq3M6 (Or.inl ⟨?hw3M6, ?hy3M6⟩) (by assumption) ?rest3M6
      case oi0_3M6 =>
        conv =>
          lhs
          whnf
          arg 1
          whnf
      case hq3M6 => exact fun _ _ _ h => h
      case ff3M6 => kernel_rfl
      case rr3M6 => kernel_rfl
      case hw3M6 => rfl
      case hy3M6 =>
        intro w hSw
        (try dsimp only at hSw)
        first
        | (go_simp; done)
        | (go_simp; with_reducible rfl)
      try simp only [Act.put, List.setIfInBounds_toArray, List.set_cons_zero, List.set_cons_succ]
      refine wpAnyH_take (i := 4) (oi := ?oi4M6) (v := ?v4M6) ?oi0_4M6 (by kernel_rfl) ?ff4M6 ?rr4M6 ?hq4M6 (Or.inl ⟨?hw4M6, ?hy4M6⟩) (by assumption) ?rest4M6
      case oi0_4M6 =>
        conv =>
          lhs
          whnf
          arg 1
          whnf
      case hq4M6 => exact fun _ _ _ h => h
      case ff4M6 => kernel_rfl
      case rr4M6 => kernel_rfl
      case hw4M6 => rfl
      case hy4M6 =>
        intro w hSw
        (try dsimp only at hSw)
        first
        | (go_simp; done)
        | (go_simp; with_reducible rfl)
      try simp only [Act.put, List.setIfInBounds_toArray, List.set_cons_zero, List.set_cons_succ]
      refine wpAnyH_take (i := 5) (oi := ?oi5M6) (v := ?v5M6) ?oi0_5M6 (by kernel_rfl) ?ff5M6 ?rr5M6 ?hq5M6 (Or.inl ⟨?hw5M6, ?hy5M6⟩) (by assumption) ?rest5M6
      case oi0_5M6 =>
        conv =>
          lhs
          whnf
          arg 1
          whnf
      case hq5M6 => exact fun _ _ _ h => h
      case ff5M6 => kernel_rfl
      case rr5M6 => kernel_rfl
      case hw5M6 => rfl
      case hy5M6 =>
        intro w hSw
        (try dsimp only at hSw)
        first
        | (go_simp; done)
        | (go_simp; with_reducible rfl)
      try simp only [Act.put, List.setIfInBounds_toArray, List.set_cons_zero, List.set_cons_succ]
      refine wpAnyH_take (i := 6) (oi := ?oi6M6) (v := ?v6M6) ?oi0_6M6 (by kernel_rfl) ?ff6M6 ?rr6M6 ?hq6M6 (Or.inl ⟨?hw6M6, ?hy6M6⟩) (by assumption) ?rest6M6
      case oi0_6M6 =>
        conv =>
          lhs
          whnf
          arg 1
          whnf
      case hq6M6 => exact fun _ _ _ h => h
      case ff6M6 => kernel_rfl
      case rr6M6 => kernel_rfl
      case hw6M6 => rfl
      case hy6M6 =>
        intro w hSw
        (try dsimp only at hSw)
        first
        | (go_simp; done)
        | (go_simp; with_reducible rfl)
      try simp only [Act.put, List.setIfInBounds_toArray, List.set_cons_zero, List.set_cons_succ]
      refine wpAnyH_take (i := 7) (oi := ?oi7M6) (v := ?v7M6) ?oi0_7M6 (by kernel_rfl) ?ff7M6 ?rr7M6 ?hq7M6 (Or.inl ⟨?hw7M6, ?hy7M6⟩) (by assumption) ?rest7M6
      case oi0_7M6 =>
        conv =>
          lhs
          whnf
          arg 1
          whnf
      case hq7M6 => exact fun _ _ _ h => h
      case ff7M6 => kernel_rfl
      case rr7M6 => kernel_rfl
      case hw7M6 => rfl
      case hy7M6 =>
        intro w hSw
        (try dsimp only at hSw)
        first
        | (go_simp; done)
        | (go_simp; with_reducible rfl)
      try simp only [Act.put, List.setIfInBounds_toArray, List.set_cons_zero, List.set_cons_succ]
      refine wpAnyH_take (i := 8) (oi := ?oi8M6) (v := ?v8M6) ?oi0_8M6 (by kernel_rfl) ?ff8M6 ?rr8M6 ?hq8M6 (Or.inl ⟨?hw8M6, ?hy8M6⟩) (by assumption) ?rest8M6
      case oi0_8M6 =>
        conv =>
          lhs
          whnf
          arg 1
          whnf
      case hq8M6 => exact fun _ _ _ h => h
      case ff8M6 => kernel_rfl
      case rr8M6 => kernel_rfl
      case hw8M6 => rfl
      case hy8M6 =>
        intro w hSw
        (try dsimp only at hSw)
        first
        | (go_simp; done)
        | (go_simp; with_reducible rfl)
      try simp only [Act.put, List.setIfInBounds_toArray, List.set_cons_zero, List.set_cons_succ]
      refine wpAnyH_take (i := 9) (oi := ?oi9M6) (v := ?v9M6) ?oi0_9M6 (by kernel_rfl) ?ff9M6 ?rr9M6 ?hq9M6 (Or.inl ⟨?hw9M6, ?hy9M6⟩) (by assumption) ?rest9M6
      case oi0_9M6 =>
        conv =>
          lhs
          whnf
          arg 1
          whnf
      case hq9M6 => exact fun _ _ _ h => h
      case ff9M6 => kernel_rfl
      case rr9M6 => kernel_rfl
      case hw9M6 => rfl
      case hy9M6 =>
        intro w hSw
        (try dsimp only at hSw)
        first
        | (go_simp; done)
        | (go_simp; with_reducible rfl)
      try simp only [Act.put, List.setIfInBounds_toArray, List.set_cons_zero, List.set_cons_succ]
      refine wpAnyH_take (i := 10) (oi := ?oi10M6) (v := ?v10M6) ?oi0_10M6 (by kernel_rfl) ?ff10M6 ?rr10M6 ?hq10M6 (Or.inl ⟨?hw10M6, ?hy10M6⟩) (by assumption) ?rest10M6
      case oi0_10M6 =>
        conv =>
          lhs
          whnf
          arg 1
          whnf
      case hq10M6 => exact fun _ _ _ h => h
      case ff10M6 => kernel_rfl
      case rr10M6 => kernel_rfl
      case hw10M6 => rfl
      case hy10M6 =>
        intro w hSw
        (try dsimp only at hSw)
        first
        | (go_simp; done)
        | (go_simp; with_reducible rfl)
      try simp only [Act.put, List.setIfInBounds_toArray, List.set_cons_zero, List.set_cons_succ]
      refine wpAnyH_take (i := 11) (oi := ?oi11M6) (v := ?v11M6) ?oi0_11M6 (by kernel_rfl) ?ff11M6 ?rr11M6 ?hq11M6 (Or.inl ⟨?hw11M6, ?hy11M6⟩) (by assumption) ?rest11M6
      case oi0_11M6 =>
        conv =>
          lhs
          whnf
          arg 1
          whnf
      case hq11M6 => exact fun _ _ _ h => h
      case ff11M6 => kernel_rfl
      case rr11M6 => kernel_rfl
      case hw11M6 => rfl
      case hy11M6 =>
        intro w hSw
        (try dsimp only at hSw)
        first
        | (go_simp; done)
        | (go_simp; with_reducible rfl)
      try simp only [Act.put, List.setIfInBounds_toArray, List.set_cons_zero, List.set_cons_succ]
      refine wpAnyH_take (i := 12) (oi := ?oi12M6) (v := ?v12M6) ?oi0_12M6 (by kernel_rfl) ?ff12M6 ?rr12M6 ?hq12M6 (Or.inl ⟨?hw12M6, ?hy12M6⟩) (by assumption) ?rest12M6
      case oi0_12M6 =>
        conv =>
          lhs
          whnf
          arg 1
          whnf
      case hq12M6 => exact fun _ _ _ h => h
      case ff12M6 => kernel_rfl
      case rr12M6 => kernel_rfl
      case hw12M6 => rfl
      case hy12M6 =>
        intro w hSw
        (try dsimp only at hSw)
        first
        | (go_simp; done)
        | (go_simp; with_reducible rfl)
      try simp only [Act.put, List.setIfInBounds_toArray, List.set_cons_zero, List.set_cons_succ]
      refine wpAnyH_take (i := 13) (oi := ?oi13M6) (v := ?v13M6) ?oi0_13M6 (by kernel_rfl) ?ff13M6 ?rr13M6 ?hq13M6 (Or.inl ⟨?hw13M6, ?hy13M6⟩) (by assumption) ?rest13M6
      case oi0_13M6 =>
        conv =>
          lhs
          whnf
          arg 1
          whnf
      case hq13M6 => exact fun _ _ _ h => h
      case ff13M6 => kernel_rfl
      case rr13M6 => kernel_rfl
      case hw13M6 => rfl
      case hy13M6 =>
        intro w hSw
        (try dsimp only at hSw)
        first
        | (go_simp; done)
        | (go_simp; with_reducible rfl)
      try simp only [Act.put, List.setIfInBounds_toArray, List.set_cons_zero, List.set_cons_succ]
      refine wpAnyH_take (i := 14) (oi := ?oi14M6) (v := ?v14M6) ?oi0_14M6 (by kernel_rfl) ?ff14M6 ?rr14M6 ?hq14M6 (Or.inl ⟨?hw14M6, ?hy14M6⟩) (by assumption) ?rest14M6
      case oi0_14M6 =>
        conv =>
          lhs
          whnf
          arg 1
          whnf
      case hq14M6 => exact fun _ _ _ h => h
      case ff14M6 => kernel_rfl
      case rr14M6 => kernel_rfl
      case hw14M6 => rfl
      case hy14M6 =>
        intro w hSw
        (try dsimp only at hSw)
        first
        | (go_simp; done)
        | (go_simp; with_reducible rfl)
      try simp only [Act.put, List.setIfInBounds_toArray, List.set_cons_zero, List.set_cons_succ]
      refine wpAnyH_take (i := 15) (oi := ?oi15M6) (v := ?v15M6) ?oi0_15M6 (by kernel_rfl) ?ff15M6 ?rr15M6 ?hq15M6 (Or.inl ⟨?hw15M6, ?hy15M6⟩) (by assumption) ?rest15M6
      case oi0_15M6 =>
        conv =>
          lhs
          whnf
          arg 1
          whnf
      case hq15M6 => exact fun _ _ _ h => h
      case ff15M6 => kernel_rfl
      case rr15M6 => kernel_rfl
      case hw15M6 => rfl
      case hy15M6 =>
        intro w hSw
        (try dsimp only at hSw)
        first
        | (go_simp; done)
        | (go_simp; with_reducible rfl)
      try simp only [Act.put, List.setIfInBounds_toArray, List.set_cons_zero, List.set_cons_succ]
      refine wpAnyH_take (i := 16) (oi := ?oi16M6) (v := ?v16M6) ?oi0_16M6 (by kernel_rfl) ?ff16M6 ?rr16M6 ?hq16M6 (Or.inl ⟨?hw16M6, ?hy16M6⟩) (by assumption) ?rest16M6
      case oi0_16M6 =>
        conv =>
          lhs
          whnf
          arg 1
          whnf
      case hq16M6 => exact fun _ _ _ h => h
      case ff16M6 => kernel_rfl
      case rr16M6 => kernel_rfl
      case hw16M6 => rfl
      case hy16M6 =>
        intro w hSw
        (try dsimp only at hSw)
        first
        | (go_simp; done)
        | (go_simp; with_reducible rfl)
      try simp only [Act.put, List.setIfInBounds_toArray, List.set_cons_zero, List.set_cons_succ]
      refine wpAnyH_take (i := 17) (oi := ?oi17M6) (v := ?v17M6) ?oi0_17M6 (by kernel_rfl) ?ff17M6 ?rr17M6 ?hq17M6 (Or.inl ⟨?hw17M6, ?hy17M6⟩) (by assumption) ?rest17M6
      case oi0_17M6 =>
        conv =>
          lhs
          whnf
          arg 1
          whnf
      case hq17M6 => exact fun _ _ _ h => h
      case ff17M6 => kernel_rfl
      case rr17M6 => kernel_rfl
      case hw17M6 => rfl
      case hy17M6 =>
        intro w hSw
        (try dsimp only at hSw)
        first
        | (go_simp; done)
        | (go_simp; with_reducible rfl)
      try simp only [Act.put, List.setIfInBounds_toArray, List.set_cons_zero, List.set_cons_succ]
      refine wpAnyH_take (i := 18) (oi := ?oi18M6) (v := ?v18M6) ?oi0_18M6 (by kernel_rfl) ?ff18M6 ?rr18M6 ?hq18M6 (Or.inl ⟨?hw18M6, ?hy18M6⟩) (by assumption) ?rest18M6
      case oi0_18M6 =>
        conv =>
          lhs
          whnf
          arg 1
          whnf
      case hq18M6 => exact fun _ _ _ h => h
      case ff18M6 => kernel_rfl
      case rr18M6 => kernel_rfl
      case hw18M6 => rfl
      case hy18M6 =>
        intro w hSw
        (try dsimp only at hSw)
        first
        | (go_simp; done)
        | (go_simp; with_reducible rfl)
      try simp only [Act.put, List.setIfInBounds_toArray, List.set_cons_zero, List.set_cons_succ]
      refine wpAnyH_ready (rs := [19]) (by kernel_rfl) (by simp) (AllReadyH.cons (o := ?oiM7) ?oi0_M7 (fun K hK => ?_) AllReadyH.nil)
      case oi0_M7 =>
        conv =>
          lhs
          whnf
          arg 1
          whnf
      go_simp
      have HCR := hide (crash_in (.slice ka q kc) (kz.take q) yn HDD.out (by have := HI.out.2.2.2.pend; omega) (by rw [List.length_take]; omega) ((HK.out.first q hqn kc).later HDD.out.below HDD.out.room))
      obtain ⟨G, hG6, hGr, hop, hpe, hlN⟩ := HI.out.2.2.2.crash HI.out.1 HI.out.2.2.1 (kz.take q) yn
      obtain ⟨D', hD'⟩ : ∃ x, D.crash (kz.take q) yn = x := ⟨_, rfl⟩
      rw [hD'] at hop hpe HCR
      have HOP := hide hop
      have HPE := hide hpe
      clear hop hpe hD' hq hqn
      have hLf : lenL (L ++ G) ≤ N ∧ (L ++ G).length ≤ 6 * (k + 1) ∧ (∀ r ∈ L ++ G, r.length ≤ 100) ∧ KState ks N (L ++ G) (diskOf N (bytesOf ks (L ++ G))) false := ⟨hlN, by rw [List.length_append]; have := HI.out.2.1; omega, hGr, .inl ⟨rfl, 0, rfl⟩⟩
      have HLF := hide hLf
      clear hLf hlN hGr
      have htk : (L ++ G).take n1 = L := by rw [← HN1.out, List.take_left]
      have hnle : n1 ≤ (L ++ G).length := by rw [List.length_append, HN1.out]; omega
      obtain ⟨M, hM⟩ : ∃ x, L ++ G = x := ⟨_, rfl⟩
      rw [hM] at HOP HLF htk hnle
      obtain ⟨rn, hrn⟩ : ∃ x, M.length = x := ⟨_, rfl⟩
      rw [hrn] at hnle
      have HRN := hide hrn
      have HTK := hide htk
      clear hM hrn htk hG6 HI
      refine HCR.out.mono ?_
      rintro e w5 ⟨rfl, hd, hsm⟩
      try simp only
      have HD5 := hide hd
      have HO5 := hide (own_same HOD.out hsm)
      have hc2 := (HCELL.out w5 hd.below).2.2
      clear hd hsm HCR HDD HOD hmn hqc hknm
      (try dsimp only)
      refine hK.out _ _ (by exact hc2) (fun hHeld => ?_)
      clear hK K hc2
      try simp only [Act.put, List.setIfInBounds_toArray, List.set_cons_zero, List.set_cons_succ]
      refine wpAnyH_done (by kernel_rfl) ?_ _
      clear hHeld
      have C1 := open_in HL.out HD5.out (by rw [HPE.out]; omega)
      rw [HOP.out] at C1
      have HC := hide C1
      clear C1 HD5 HOP HPE
      go_wp2_with fail
      refine HC.out.mono ?_
      rintro e w6 ⟨hsm, hj⟩
      try simp only at hj
      obtain ⟨jc, rfl, hj⟩ := hj
      have HJ6 := hide hj
      have HO6 := hide (own_same HO5.out hsm)
      clear hj hsm HC HO5
      have hrnb : rn ≤ 1000 := by have := HLF.out.2.1; have := HRN.out; omega
      have HR := hide (fun (W : World) (hb : JIn w.heap.size ((A.map (·.block)).toList) w W jc g (tapeOf ks M) false (diskOf N (bytesOf ks M))) => records_in hb (by rw [tapeOf_recs]; have := HLF.out.2.1; omega))
      rw [tapeOf_recs, HRN.out] at HR
      go_wp2_with fail
      refine (HR.out w6 HJ6.out).mono ?_
      rintro e w7 ⟨sa, sc, rfl, ho, u⟩
      have HJ7 := hide (HJ6.out.step u (by simp))
      have HO7 := hide (own_kept HO6.out u (by simp))
      clear ho u HJ6 HO6
      have hnn : ¬ (rn : Int) < n1 := by omega
      go_wp2_with fail
      refine (HR.out w7 HJ7.out).mono ?_
      rintro e w8 ⟨ta, tc, rfl, ho, u⟩
      have HJ8 := hide (HJ7.out.step u (by simp))
      have HO8 := hide (own_kept HO7.out u (by simp))
      have htc : (n1 : Int) ≤ tc := by have := own_cap ho; omega
      have htm : (tc : Int) ≤ 9223372036854775807 := by have := own_max ho; unfold maxLen at this; omega
      have HT8 := hide ho
      clear u ho HJ7 HO7
      have hs8 := strs_take (strs_own HT8.out) n1
      rw [← List.map_take, HTK.out] at hs8
      have HE := hide (same_any ta n1 tc _ A n1 c _ w8 (by rw [List.length_map]; exact HN1.out) (by rw [List.length_map]; exact HN1.out) (by omega) (by omega) hs8 (strs_own HO8.out))
      rw [show decide ((L.map fun r => (⟨r.toArray⟩ : ByteArray)) = (L.map fun r => (⟨r.toArray⟩ : ByteArray))) = true from decide_eq_true rfl] at HE
      clear hs8
      go_wp2_with fail
      refine HE.out.mono ?_
      rintro e w9 ⟨rfl, u⟩
      have HJ9 := hide (HJ8.out.step u (by simp))
      clear u HE HJ8 HO8 HT8 htc htm
      go_wp2_with fail
      refine (HR.out w9 HJ9.out).mono ?_
      rintro e w10 ⟨va, vc, rfl, ho, u⟩
      have HJ10 := hide ((HJ9.out.mono (X' := []) (by simp)).more u (by simp) ((va.map (·.block)).toList) (fun y hy => .inr ⟨it_own_block ho y (by rw [ownBlock_slice]; simpa using hy), it_own_lt ho y (by rw [ownBlock_slice]; simpa using hy)⟩))
      rw [List.append_nil] at HJ10
      have HV10 := hide (it_own_less ho HJ9.out.room)
      clear u ho HJ9 HR hnn hnle
      have HR := hide (records_in HJ10.out (by rw [tapeOf_recs]; have := HLF.out.2.1; omega))
      rw [tapeOf_recs, HRN.out] at HR
      have hnb : rn ≤ 1000 := by have := HLF.out.2.1; have := HRN.out; omega
      go_wp2_with fail
      refine HR.out.mono ?_
      rintro e w20 ⟨ra, rc, rfl, ho, u⟩
      have HJ20 := hide (HJ10.out.step u (by simp))
      have HS20 := hide (own_kept HV10.out u (by simp))
      have hrc : (rn : Int) ≤ rc := by have := own_cap ho; omega
      have hnn : ¬ (rn : Int) < rn := by omega
      have hnm : (rc : Int) ≤ 9223372036854775807 := by have := own_max ho; unfold maxLen at this; omega
      have HR20 := hide ho
      clear u ho HR HJ10 HV10
      have HE := hide (same_any ra rn rc _ va rn vc _ w20 (by rw [List.length_map]; exact HRN.out) (by rw [List.length_map]; exact HRN.out) (by omega) (by omega) (strs_own HR20.out) (strs_own HS20.out))
      rw [show decide ((M.map fun r => (⟨r.toArray⟩ : ByteArray)) = (M.map fun r => (⟨r.toArray⟩ : ByteArray))) = true from decide_eq_true rfl] at HE
      go_wp2_with fail
      refine HE.out.mono ?_
      rintro e w21 ⟨rfl, u⟩
      have HJ21 := hide (HJ20.out.step u (by simp))
      have HS21 := hide (own_kept HS20.out u (by simp))
      clear u HE HJ20 HS20 HR20
      go_wp2_with fail
      go_roundw
      case rel => exact ⟨k + 1, jc, M, va, vc, rn, false, (diskOf N (bytesOf ks M)), by omega, by omega, rfl, rfl, by go_num, HRN, HLF, HS21, HJ21⟩
      case measure => simp [intOf] <;> omega
    have e6 : (kd == 6) = false := by simp; omega
    have e7 : (kd == 7) = false := by simp; omega
    clear h5 h67
    obtain ⟨rn, hrn⟩ : ∃ x, L.length = x := ⟨_, rfl⟩
    have hn1e : rn = n1 := by have := HN1.out; omega
    subst hn1e
    have HRN := hide hrn
    have hrnb : rn ≤ 6 * k := by have := HI.out.2.1; omega
    clear hrn
    have HR := hide (records_in HJ.out (by rw [tapeOf_recs]; have := HI.out.2.1; omega))
    rw [tapeOf_recs, HRN.out] at HR
    clear ce0 ce2 ce3
    go_wp2_with fail
    refine HR.out.mono ?_
    rintro e w4 ⟨ra, rc, rfl, ho, u⟩
    have HJ4 := hide (HJ.out.more u (by simp) ((ra.map (·.block)).toList) (fun y hy => .inr ⟨it_own_block ho y (by rw [ownBlock_slice]; simpa using hy), it_own_lt ho y (by rw [ownBlock_slice]; simpa using hy)⟩))
    have HR4 := hide (it_own_less ho HJ.out.room)
    have HS4 := hide (own_kept HO.out u (by simp))
    have hc4 := keepc _ _ _ _ u ce1
    clear u ho HR HJ HO ce1
    go_wp2_with fail
    obtain ⟨fl, hfl⟩ : ∃ x, fewS xl = x := ⟨_, rfl⟩
    have hf6 : fl.length ≤ 6 := by rw [← hfl]; unfold fewS; rw [List.length_map, List.length_take]; omega
    have hf1 : ∀ r ∈ fl, r.length ≤ 100 := by
      rw [← hfl]; unfold fewS; intro r hr; obtain ⟨s, _, rfl⟩ := List.mem_map.1 hr; rw [List.length_take]; omega
    rw [hfl] at HF
    obtain ⟨bl, hbl⟩ : ∃ x : List ByteArray, (fl.map fun r => (⟨r.toArray⟩ : ByteArray)) = x := ⟨_, rfl⟩
    have hbb : bytesL bl = fl := by rw [← hbl]; unfold bytesL; rw [List.map_map]; exact (List.map_congr_left (fun a _ => rfl)).trans (List.map_id fl)
    have hbn : bl.length = fl.length := by rw [← hbl, List.length_map]
    have hbs : ∀ s ∈ bl, s.size ≤ 100 := by
      intro s hs; rw [← hbl] at hs; obtain ⟨r, hr, rfl⟩ := List.mem_map.1 hs; exact (by have := hf1 r hr; simpa [ByteArray.size] using this)
    obtain ⟨fn, hfn⟩ : ∃ x, fl.length = x := ⟨_, rfl⟩
    rw [hfn] at hf6 hbn HF
    have HBL := hide (show (fl.map fun r => (⟨r.toArray⟩ : ByteArray)) = bl from hbl)
    have HBB := hide hbb
    have HBN := hide hbn
    have HBS := hide hbs
    have HF1 := hide hf1
    have HFN := hide hfn
    clear hfl hbl hbb hbn hbs hf1 hfn
    refine (HF.out w4 HJ4.out.below).mono ?_
    rintro e w5 ⟨fa, fc, rfl, ho, u⟩
    try simp only
    have HJ5 := hide (HJ4.out.step u (by simp))
    have HR5 := hide (own_kept HR4.out u (by simp))
    have HS5 := hide (own_kept HS4.out u (by simp))
    have hst := strs_own ho
    rw [HBL.out] at hst
    clear ho u HJ4 HR4 HS4 hc4
    have HA := hide (append_in fa fn fc bl HL.out HJ5.out HBN.out (by omega) hst (fun s hs => by have := HBS.out s hs; omega) (by have := HI.out.2.2.2.pend; omega) (by rw [HI.out.2.2.2.size HI.out.1, tapeOf_size, bytesOf_length]; exact HI.out.1) (by rw [tapeOf_head]; decide) (by rw [tapeOf_recs]; have := HI.out.2.1; omega))
    clear hst HJ5
    rcases HI.out.2.2.2.append HI.out.1 bl HBS.out (by rw [HBN.out]; exact hf6) with ⟨D', hap, hst', hlen⟩ | ⟨D', br', er, hap, her, hst'⟩
    case inl =>
      rw [hap] at HA
      clear hap
      rw [HBB.out] at hst' hlen HA
      have hLf : lenL (L ++ fl) ≤ N ∧ (L ++ fl).length ≤ 6 * (k + 1) ∧ (∀ r ∈ L ++ fl, r.length ≤ 100) ∧ KState ks N (L ++ fl) D' false := ⟨hlen, by rw [List.length_append, HFN.out]; have := HI.out.2.1; omega, fun r hr => (List.mem_append.1 hr).elim (HI.out.2.2.1 r) (HF1.out r), hst'⟩
      have HLF := hide hLf
      clear hLf hst' hlen HI
      go_wp2_with fail
      refine HA.out.mono ?_
      rintro e w6 ⟨rfl, hj, hsm⟩
      have HJ6 := hide hj
      have HR6 := hide (own_same HR5.out (hsm.mono (fun x hx => List.mem_append_left _ hx)))
      have HS6 := hide (own_same HS5.out (hsm.mono (fun x hx => List.mem_append_right _ hx)))
      clear hj hsm HA HR5 HS5
      obtain ⟨ce0, ce1, ce2, ce3⟩ := HCELL.out w6 HJ6.out.below
      have HC4 := hide ce1
      have HB4 := hide HJ6.out.room
      have HB4b := hide HJ6.out.below
      clear ce0 ce1 ce2 ce3 HS6
      go_upto_region 13 with fail
      have O1 := hide (show ∀ u ∈ L.map strV, u.oneCell' = true by intro u hu; obtain ⟨r, _, rfl⟩ := List.mem_map.1 hu; rfl)
      have O2 := hide (show (L.map strV).length = rn * 1 by rw [List.length_map, HRN.out]; omega)
      have O3 := hide (show 0 + rn ≤ maxLen by unfold maxLen; omega)
      have O4 := hide (show (0 + rn) * 16 ≤ 140737488355328 by omega)
      have P1 := hide (show ∀ u ∈ fl.map strV, u.oneCell' = true by intro u hu; obtain ⟨r, _, rfl⟩ := List.mem_map.1 hu; rfl)
      have P2 := hide (show (fl.map strV).length = fn * 1 by rw [List.length_map, HFN.out]; omega)
      have P3 := hide (show rn + fn ≤ maxLen by unfold maxLen; omega)
      have P4 := hide (show (rn + fn) * 16 ≤ 140737488355328 by omega)
      refine wp_region_held_drew (S := (fun w' => w'.cell? ⟨gb, go + k * 4 + 1, none⟩ = some (.slice xa xn xc))) (by kernel_rfl) (by exact HC4.out) (fun hHeld => ?_)
      obtain ⟨wd, hw⟩ : ∃ x, w6.drew = x := ⟨_, rfl⟩
      have u : Upd [] w6 wd := by rw [← hw]; exact (Upd.refl [] _).drew
      rw [hw] at hHeld ⊢
      have UD := hide u
      have HRD := hide (own_kept HR6.out u (by simp))
      clear hw u
      refine wpAnyH_take (i := 1) (oi := ?oi1M10) (v := ?v1M10) ?oi0_1M10 (by kernel_rfl) ?ff1M10 ?rr1M10 ?hq1M10 (Or.inl ⟨?hw1M10, ?hy1M10⟩) (by assumption) ?rest1M10
      case oi0_1M10 =>
        conv =>
          lhs
          whnf
          arg 1
          whnf
      case hq1M10 => exact fun _ _ _ h => h
      case ff1M10 => kernel_rfl
      case rr1M10 => kernel_rfl
      case hw1M10 => rfl
      case hy1M10 =>
        intro w hSw
        (try dsimp only at hSw)
        first
        | (go_simp; done)
        | (go_simp; with_reducible rfl)
      try simp only [Act.put, List.setIfInBounds_toArray, List.set_cons_zero, List.set_cons_succ]
      refine wpAnyH_take (i := 3) (oi := ?oi3M10) (v := ?v3M10) ?oi0_3M10 (by kernel_rfl) ?ff3M10 ?rr3M10 ?hq3M10 (Or.inl ⟨?hw3M10, ?hy3M10⟩) (by assumption) ?rest3M10
      case oi0_3M10 =>
        conv =>
          lhs
          whnf
          arg 1
          whnf
      case hq3M10 => exact fun _ _ _ h => h
      case ff3M10 => kernel_rfl
      case rr3M10 => kernel_rfl
      case hw3M10 => rfl
      case hy3M10 =>
        intro w hSw
        (try dsimp only at hSw)
        first
        | (go_simp; done)
        | (go_simp; with_reducible rfl)
      try simp only [Act.put, List.setIfInBounds_toArray, List.set_cons_zero, List.set_cons_succ]
      refine wpAnyH_take (i := 4) (oi := ?oi4M10) (v := ?v4M10) ?oi0_4M10 (by kernel_rfl) ?ff4M10 ?rr4M10 ?hq4M10 (Or.inl ⟨?hw4M10, ?hy4M10⟩) (by assumption) ?rest4M10
      case oi0_4M10 =>
        conv =>
          lhs
          whnf
          arg 1
          whnf
      case hq4M10 => exact fun _ _ _ h => h
      case ff4M10 => kernel_rfl
      case rr4M10 => kernel_rfl
      case hw4M10 => rfl
      case hy4M10 =>
        intro w hSw
        (try dsimp only at hSw)
        first
        | (go_simp; done)
        | (go_simp; with_reducible rfl)
      try simp only [Act.put, List.setIfInBounds_toArray, List.set_cons_zero, List.set_cons_succ]
      refine wpAnyH_take (i := 5) (oi := ?oi5M10) (v := ?v5M10) ?oi0_5M10 (by kernel_rfl) ?ff5M10 ?rr5M10 ?hq5M10 (Or.inl ⟨?hw5M10, ?hy5M10⟩) (by assumption) ?rest5M10
      case oi0_5M10 =>
        conv =>
          lhs
          whnf
          arg 1
          whnf
      case hq5M10 => exact fun _ _ _ h => h
      case ff5M10 => kernel_rfl
      case rr5M10 => kernel_rfl
      case hw5M10 => rfl
      case hy5M10 =>
        intro w hSw
        (try dsimp only at hSw)
        first
        | (go_simp; done)
        | (go_simp; with_reducible rfl)
      try simp only [Act.put, List.setIfInBounds_toArray, List.set_cons_zero, List.set_cons_succ]
      refine wpAnyH_take (i := 6) (oi := ?oi6M10) (v := ?v6M10) ?oi0_6M10 (by kernel_rfl) ?ff6M10 ?rr6M10 ?hq6M10 (Or.inl ⟨?hw6M10, ?hy6M10⟩) (by assumption) ?rest6M10
      case oi0_6M10 =>
        conv =>
          lhs
          whnf
          arg 1
          whnf
      case hq6M10 => exact fun _ _ _ h => h
      case ff6M10 => kernel_rfl
      case rr6M10 => kernel_rfl
      case hw6M10 => rfl
      case hy6M10 =>
        intro w hSw
        (try dsimp only at hSw)
        first
        | (go_simp; done)
        | (go_simp; with_reducible rfl)
      try simp only [Act.put, List.setIfInBounds_toArray, List.set_cons_zero, List.set_cons_succ]
      refine wpAnyH_take (i := 7) (oi := ?oi7M10) (v := ?v7M10) ?oi0_7M10 (by kernel_rfl) ?ff7M10 ?rr7M10 ?hq7M10 (Or.inl ⟨?hw7M10, ?hy7M10⟩) (by assumption) ?rest7M10
      case oi0_7M10 =>
        conv =>
          lhs
          whnf
          arg 1
          whnf
      case hq7M10 => exact fun _ _ _ h => h
      case ff7M10 => kernel_rfl
      case rr7M10 => kernel_rfl
      case hw7M10 => rfl
      case hy7M10 =>
        intro w hSw
        (try dsimp only at hSw)
        first
        | (go_simp; done)
        | (go_simp; with_reducible rfl)
      try simp only [Act.put, List.setIfInBounds_toArray, List.set_cons_zero, List.set_cons_succ]
      refine wpAnyH_ready (rs := [0]) (by kernel_rfl) (by simp) (AllReadyH.cons (o := ?oiM11) ?oi0_M11 (fun K hK => ?_) AllReadyH.nil)
      case oi0_M11 =>
        conv =>
          lhs
          whnf
          arg 1
          whnf
      go_simp
      obtain ⟨eb, heb⟩ : ∃ x, wd.heap.size = x := ⟨_, rfl⟩
      obtain ⟨we, hw⟩ : ∃ x, wd.alloc (.cells #[] 9) = x := ⟨_, rfl⟩
      have u : Upd [] wd we := by rw [← hw]; exact (Upd.refl [] _).alloc _
      have hes : we.heap.size = eb + 1 := by rw [← hw, World.size_alloc, heb]
      have hOE : we.ownsRow eb 9 1 (.slice (some ⟨eb, 0, none⟩) 0 0) 0 [] := ⟨rfl, .inr ⟨eb, 0, #[], rfl, Nat.le_refl _, by rw [← hw, ← heb]; exact heap_alloc_new wd _, Nat.le_refl _, Nat.zero_le _, rfl, rfl⟩⟩
      (try simp only [hw, heb])
      have UE := hide (UD.out.trans u (by simp))
      have HRE := hide (own_kept HRD.out u (by simp))
      have hc2 := keepc _ _ _ _ u hHeld
      have HOE := hide hOE
      have HES := hide hes
      have HEB := hide (show w6.heap.size ≤ eb by rw [← heb]; exact UD.out.size)
      have HSRC := hide (own_src HRE.out)
      have O5 := hide (show eb ≤ we.heap.size by omega)
      clear hOE hes hw heb u hHeld HRD UD
      (try dsimp only)
      refine hK.out _ _ (by exact hc2) (fun hHeld => ?_)
      clear hK K hc2
      try simp only [Act.put, List.setIfInBounds_toArray, List.set_cons_zero, List.set_cons_succ]
      refine wpAnyH_ready (rs := [2]) (by kernel_rfl) (by simp) (AllReadyH.cons (o := ?oiM12) ?oi0_M12 (fun K hK => ?_) AllReadyH.nil)
      case oi0_M12 =>
        conv =>
          lhs
          whnf
          arg 1
          whnf
      refine step_append_src rfl (.tmp 57) (.tmp 58) _ rfl eb 9 (.string ⟨#[]⟩) 1 16 Tryz.underlying22 info_str rfl (by decide) (some ⟨eb, 0, none⟩) 0 0 [] rfl HOE.out ra rn rc (L.map strV) rfl O2.out HSRC.out O1.out O3.out O4.out O5.out ?_
      intro A6 c6 w6 h6 u6
      rw [Nat.zero_add, List.nil_append] at h6
      rw [Nat.zero_add]
      have H6S := hide (show eb ≤ w6.heap.size by have := HES.out; have := u6.size; omega)
      have H6 := hide h6
      have U6 := hide (UE.out.trans u6 (fun x hx => .inr (by have := HEB.out; simp at hx; omega)))
      have hc2 : w6.cell? ⟨gb, go + k * 4 + 1, none⟩ = some (.slice xa xn xc) := (u6.cell (p := ⟨gb, go + k * 4 + 1, none⟩) (World.block_lt_of_cell? _ _ hHeld) (fun hm => by have := HEB.out; have := HGL.out; have := HB4.out; simp at hm; omega)).trans hHeld
      clear h6 u6 hHeld HSRC O1 O2 O3 O4 O5 HOE HRE UE
      (try dsimp only)
      refine hK.out _ _ (by exact hc2) (fun hHeld => ?_)
      clear hK K hc2
      try simp only [Act.put, List.setIfInBounds_toArray, List.set_cons_zero, List.set_cons_succ]
      refine wpAnyH_ready (rs := [8]) (by kernel_rfl) (by simp) (AllReadyH.cons (o := ?oiM13) ?oi0_M13 (fun K hK => ?_) AllReadyH.nil)
      case oi0_M13 =>
        conv =>
          lhs
          whnf
          arg 1
          whnf
      go_simp
      refine (HF.out w6 (HB4b.out.trans (U6.out.toBelow HB4.out (by simp)))).mono ?_
      rintro e w7 ⟨fa, fc, rfl, ho, u⟩
      try simp only
      have H7 := hide (own_kept H6.out u (by simp))
      have U7 := hide (U6.out.trans u (by simp))
      have hc2 := keepc _ _ _ _ u hHeld
      have HSRC := hide (own_src ho)
      have O5 := hide (show eb ≤ w7.heap.size by have := H6S.out; have := u.size; omega)
      clear ho u hHeld H6 U6
      (try dsimp only)
      refine hK.out _ _ (by exact hc2) (fun hHeld => ?_)
      clear hK K hc2
      try simp only [Act.put, List.setIfInBounds_toArray, List.set_cons_zero, List.set_cons_succ]
      refine wpAnyH_ready (rs := [9]) (by kernel_rfl) (by simp) (AllReadyH.cons (o := ?oiM14) ?oi0_M14 (fun K hK => ?_) AllReadyH.nil)
      case oi0_M14 =>
        conv =>
          lhs
          whnf
          arg 1
          whnf
      refine step_append_src rfl (.tmp 59) (.tmp 65) _ rfl eb 9 (.string ⟨#[]⟩) 1 16 Tryz.underlying22 info_str rfl (by decide) A6 rn c6 (L.map strV) rfl H7.out fa fn fc (fl.map strV) rfl P2.out HSRC.out P1.out P3.out P4.out O5.out ?_
      intro A8 c8 w8 h8 u8
      rw [← List.map_append] at h8
      have H8 := hide h8
      have U8 := hide (U7.out.trans u8 (fun x hx => .inr (by have := it_own_block H7.out x (by rw [ownBlock_slice]; simpa using hx); have := HEB.out; omega)))
      have hc2 : w8.cell? ⟨gb, go + k * 4 + 1, none⟩ = some (.slice xa xn xc) := (u8.cell (p := ⟨gb, go + k * 4 + 1, none⟩) (World.block_lt_of_cell? _ _ hHeld) (fun hm => by have := it_own_block H7.out gb (by rw [ownBlock_slice]; simpa using hm); have := HEB.out; have := HGL.out; have := HB4.out; omega)).trans hHeld
      clear h8 u8 hHeld HSRC P1 P2 P3 P4 O5 H7 U7
      have HC8 := hide hc2
      (try dsimp only)
      refine hK.out _ _ (by exact hc2) (fun hHeld => ?_)
      clear hK K hc2
      try simp only [Act.put, List.setIfInBounds_toArray, List.set_cons_zero, List.set_cons_succ]
      refine wpAnyH_take (i := 10) (oi := ?oi10M15) (v := ?v10M15) ?oi0_10M15 (by kernel_rfl) ?ff10M15 ?rr10M15 ?hq10M15 (Or.inl ⟨?hw10M15, ?hy10M15⟩) (by assumption) ?rest10M15
      case oi0_10M15 =>
        conv =>
          lhs
          whnf
          arg 1
          whnf
      case hq10M15 => exact fun _ _ _ h => h
      case ff10M15 => kernel_rfl
      case rr10M15 => kernel_rfl
      case hw10M15 => rfl
      case hy10M15 =>
        intro w hSw
        (try dsimp only at hSw)
        first
        | (go_simp; done)
        | (go_simp; with_reducible rfl)
      try simp only [Act.put, List.setIfInBounds_toArray, List.set_cons_zero, List.set_cons_succ]
      refine wpAnyH_done (by kernel_rfl) ?_ _
      have HJ8 := hide ((HJ6.out.mono (X' := []) (by simp)).more U8.out (by simp) ((A8.map (·.block)).toList) (fun y hy => .inr ⟨by have := it_own_block H8.out y (by rw [ownBlock_slice]; simpa using hy); have := HEB.out; omega, it_own_lt H8.out y (by rw [ownBlock_slice]; simpa using hy)⟩))
      rw [List.append_nil] at HJ8
      have HW8 := hide (it_own_less H8.out (Nat.le_trans HB4.out HEB.out))
      have HNW := hide (show (L ++ fl).length = rn + fn by rw [List.length_append, HRN.out, HFN.out])
      clear HJ6 HR6 H8 U8 HEB HB4 HB4b HES H6S HC4 HC8
      obtain ⟨M, hM⟩ : ∃ x, L ++ fl = x := ⟨_, rfl⟩
      rw [hM] at HJ8 HW8 HNW HLF
      obtain ⟨mn, hmn⟩ : ∃ x, rn + fn = x := ⟨_, rfl⟩
      rw [hmn] at HW8 HNW ⊢
      clear hM hmn
      have HR := hide (records_in HJ8.out (by rw [tapeOf_recs]; have := HLF.out.2.1; omega))
      rw [tapeOf_recs, HNW.out] at HR
      have hnb : mn ≤ 1000 := by have := HLF.out.2.1; have := HNW.out; omega
      go_wp2_with fail
      refine HR.out.mono ?_
      rintro e w20 ⟨ra, rc, rfl, ho, u⟩
      have HJ20 := hide (HJ8.out.step u (by simp))
      have HS20 := hide (own_kept HW8.out u (by simp))
      have hrc : (mn : Int) ≤ rc := by have := own_cap ho; omega
      have hnn : ¬ (mn : Int) < mn := by omega
      have hnm : (rc : Int) ≤ 9223372036854775807 := by have := own_max ho; unfold maxLen at this; omega
      have HR20 := hide ho
      clear u ho HR HJ8 HW8
      have HE := hide (same_any ra mn rc _ A8 mn c8 _ w20 (by rw [List.length_map]; exact HNW.out) (by rw [List.length_map]; exact HNW.out) (by omega) (by omega) (strs_own HR20.out) (strs_own HS20.out))
      rw [show decide ((M.map fun r => (⟨r.toArray⟩ : ByteArray)) = (M.map fun r => (⟨r.toArray⟩ : ByteArray))) = true from decide_eq_true rfl] at HE
      go_wp2_with fail
      refine HE.out.mono ?_
      rintro e w21 ⟨rfl, u⟩
      have HJ21 := hide (HJ20.out.step u (by simp))
      have HS21 := hide (own_kept HS20.out u (by simp))
      clear u HE HJ20 HS20 HR20
      go_wp2_with fail
      go_roundw
      case rel => exact ⟨k + 1, jb, M, A8, c8, mn, false, D', by omega, by omega, rfl, rfl, by go_num, HNW, HLF, HS21, HJ21⟩
      case measure => simp [intOf] <;> omega
    case inr =>
      rw [hap] at HA
      clear hap
      have hLf : lenL L ≤ N ∧ L.length ≤ 6 * (k + 1) ∧ (∀ r ∈ L, r.length ≤ 100) ∧ KState ks N L D' br' := ⟨HI.out.1, by have := HI.out.2.1; omega, HI.out.2.2.1, hst'⟩
      have HLF := hide hLf
      clear hLf hst' HI
      go_wp2_with fail
      refine HA.out.mono ?_
      rintro e w6 ⟨rfl, hj, hsm⟩
      have HJ6 := hide hj
      have HR6 := hide (own_same HR5.out (hsm.mono (fun x hx => List.mem_append_left _ hx)))
      have HS6 := hide (own_same HS5.out (hsm.mono (fun x hx => List.mem_append_right _ hx)))
      clear hj hsm HA HR5 HS5
      have HJ6 := hide (HJ6.out.mono (X' := ((A.map (·.block)).toList)) (fun x hx => List.mem_append_right _ hx))
      clear HR6
      have HR := hide (records_in HJ6.out (by rw [tapeOf_recs]; have := HLF.out.2.1; omega))
      rw [tapeOf_recs, HRN.out] at HR
      have hnb : rn ≤ 1000 := by have := HLF.out.2.1; have := HRN.out; omega
      go_wp2_with fail
      refine HR.out.mono ?_
      rintro e w20 ⟨ra, rc, rfl, ho, u⟩
      have HJ20 := hide (HJ6.out.step u (by simp))
      have HS20 := hide (own_kept HS6.out u (by simp))
      have hrc : (rn : Int) ≤ rc := by have := own_cap ho; omega
      have hnn : ¬ (rn : Int) < rn := by omega
      have hnm : (rc : Int) ≤ 9223372036854775807 := by have := own_max ho; unfold maxLen at this; omega
      have HR20 := hide ho
      clear u ho HR HJ6 HS6
      have HE := hide (same_any ra rn rc _ A rn c _ w20 (by rw [List.length_map]; exact HRN.out) (by rw [List.length_map]; exact HRN.out) (by omega) (by omega) (strs_own HR20.out) (strs_own HS20.out))
      rw [show decide ((L.map fun r => (⟨r.toArray⟩ : ByteArray)) = (L.map fun r => (⟨r.toArray⟩ : ByteArray))) = true from decide_eq_true rfl] at HE
      go_wp2_with fail
      refine HE.out.mono ?_
      rintro e w21 ⟨rfl, u⟩
      have HJ21 := hide (HJ20.out.step u (by simp))
      have HS21 := hide (own_kept HS20.out u (by simp))
      clear u HE HJ20 HS20 HR20
      go_wp2_with fail
      go_roundw
      case rel => exact ⟨k + 1, jb, L, A, c, rn, br', D', by omega, by omega, rfl, rfl, by go_num, HRN, HLF, HS21, HJ21⟩
      case measure => simp [intOf] <;> omega
end Go.Proofs.YtafjolibfbccbaaGreatDoor
