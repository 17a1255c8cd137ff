/-
  words.add: one block into the eight words.
  words.digest: the 32 bytes of eight words.
-/
import Derived.Test.YtafjolibfbccbaaGreatDoorZ11JournalOpensAnythingCard
import Derived.Deep.RegionHeld3
import Derived.Deep.RegionLaw
import Derived.Deep.WholeRow

namespace Go.Proofs.YtafjolibfbccbaaGreatDoor
open Go.RowKit
set_option maxRecDepth 100000
set_option maxHeartbeats 40000000

theorem index_agg {P : Program} (W : World) {t e : TypeId} {n : Nat} {ik : IntKind} (h : P.underlying t = some (.array n e)) (he : P.underlying e = some (.int ik)) (hi : (P.info? e).map (·.size) = some 1)
    (k : Nat) (hk : k < n) (cs : Array Value) (v : Value) (hv : cs[k]? = some v) :
    (Instr.index t (.agg cs) (.int .i64 (k : Int))).run P W = .ok v W := by
  have h0 : (0 : Int) ≤ (k : Int) ∧ (k : Int) < (n : Int) := by omega
  obtain ⟨i, hi', hsz⟩ := Option.map_eq_some_iff.1 hi
  have e1 : (typeInfo e).run P W = .ok i W := run_typeInfo W hi'
  simp [Instr.index, run_underlying h, asIntOf, h0, sizeOf, e1, part, isAgg, run_underlying he, hsz, hv, go_sem]
  intro h9
  omega
/-- The sums of the first k words, and the other words. -/
def addTo (v s : List Int) (k : Nat) : List Int := (List.range 8).map fun i => if i < k then IntKind.u32.wrap (wat s i + wat v i) else wat s i
theorem addTo_zero (v s : List Int) (h : s.length = 8) : addTo v s 0 = s := by
  obtain ⟨x0, x1, x2, x3, x4, x5, x6, x7, rfl⟩ := eight_of s h
  rfl
theorem addTo_eight (v s : List Int) : addTo v s 8 = (List.range 8).map fun i => IntKind.u32.wrap (wat s i + wat v i) := by
  unfold addTo
  apply List.map_congr_left
  intro i hi
  rw [if_pos (by simpa using hi)]
theorem addTo_at (v s : List Int) (k : Nat) (h : k < 8) : (addTo v s k)[k]? = some (wat s k) := by
  unfold addTo
  rw [List.getElem?_map, List.getElem?_range h]
  simp
theorem addTo_set (v s : List Int) (k : Nat) (h : k < 8) : (addTo v s k).set k (IntKind.u32.wrap (wat s k + wat v k)) = addTo v s (k + 1) := by
  unfold addTo
  apply List.ext_getElem?
  intro i
  rw [List.getElem?_set, List.getElem?_map, List.getElem?_map]
  by_cases hi : i < 8
  · rw [List.getElem?_range hi]
    by_cases hk : k = i
    · subst hk
      simp [h]
    · rw [if_neg hk]
      simp only [Option.map_some]
      by_cases h1 : i < k
      · rw [if_pos h1, if_pos (by omega)]
      · rw [if_neg h1, if_neg (by omega)]
  · rw [List.getElem?_eq_none (by simp; omega)]
    simp; omega
theorem copy_src (x0 x1 x2 x3 x4 x5 x6 x7 : Int) : ∀ (j : Nat) (v : Value), ([.int .u32 x0, .int .u32 x1, .int .u32 x2, .int .u32 x3, .int .u32 x4, .int .u32 x5, .int .u32 x6] : List Value)[j]? = some v → ([.int .u32 x0, .int .u32 x1, .int .u32 x2, .int .u32 x3, .int .u32 x4, .int .u32 x5, .int .u32 x6, .int .u32 x7] : List Value)[0 + j]? = some v := by
  intro j v h
  rw [Nat.zero_add]
  match j, h with
  | 0, h => exact h
  | 1, h => exact h
  | 2, h => exact h
  | 3, h => exact h
  | 4, h => exact h
  | 5, h => exact h
  | 6, h => exact h
  | n + 7, h => cases h
theorem add_any (gb go c db : Nat) (bs : List UInt8) (s ks : List Int) (w : World) (hb : BytesAt w gb go bs) (hlt : gb < w.heap.size) (hl : bs.length = 64)
    (hd : Blk w db 193 (s.map (Value.int .u32))) (hs : s.length = 8) (hw : ∀ x ∈ s, Word x) (hk : RoundAt w ks) (hkl : ks.length = 64) (hdk : db ≠ 3) :
    Calls Tryz.prog 129 #[.pointer (some ⟨db, 0, none⟩), .slice (some ⟨gb, go, none⟩) 64 c] w fun e w' =>
      e = .returned (.tuple #[]) ∧ Upd [db] w w' ∧ Blk w' db 193 ((addS ks bs s).map (Value.int .u32)) := by
  have HB := hide hb
  have HL := hide hl
  have HLT := hide hlt
  have HD := hide hd
  have HS := hide hs
  have HW := hide hw
  have HK := hide hk
  have HKL := hide hkl
  have HDK := hide hdk
  clear hb hl hlt hd hs hw hk hkl hdk
  go_enter Tryz.func129, Tryz.ntmps129
  go_wp2_with fail
  go_at_call 144
  with_reducible (refine (schedule_any gb go c bs _ HB.out HLT.out HL.out).mono ?_)
  rintro e w1 ⟨rfl, u1⟩
  obtain ⟨ws, hws⟩ : ∃ x, schedTo bs 48 = x := ⟨_, rfl⟩
  rw [hws]
  have HWS := hide hws
  have U1 := hide u1
  clear hws u1
  (try dsimp only)
  have HWL := hide (show ws.length = 64 by rw [← HWS.out, schedTo_length])
  have HWW := hide (show ∀ x ∈ ws, Word x by rw [← HWS.out]; exact sched_word bs 48)
  have HSZ := hide (show (ws.map (Value.int .u32)).toArray.size = 64 by rw [List.size_toArray, List.length_map, HWL.out])
  have HSZ8 := hide (show (s.map (Value.int .u32)).toArray.size = 8 by rw [List.size_toArray, List.length_map, HS.out])
  have HSZK := hide (show (ks.map (Value.int .u32)).toArray.size = 64 by rw [List.size_toArray, List.length_map, HKL.out])
  go_upto_region 1 with (refine wpList_store_row rfl 214 _ _ rfl w1.heap.size (ws.map (Value.int .u32)).toArray rfl rfl 214 _ (heap_alloc_new _ _) (by rw [HSZ.out]; kernel_rfl) (by rw [HSZ.out]; rfl) (by simp [Value.oneCell']) ?_)
  rw [World.setRow_alloc_new]
  obtain ⟨w2, hw⟩ : ∃ x, w1.alloc (.cells (ws.map (Value.int .u32)).toArray 214) = x := ⟨_, rfl⟩
  have u : Upd [] w1 w2 := by rw [← hw]; exact (Upd.refl [] _).alloc _
  have HB4 := hide (show Blk w2 w1.heap.size 214 (ws.map (Value.int .u32)) by rw [← hw]; exact Blk.new w1 _ _)
  rw [hw]
  have U2 := hide (U1.out.trans u (by simp))
  clear hw
  obtain ⟨b4, hb4⟩ : ∃ b, w1.heap.size = b := ⟨_, rfl⟩
  rw [hb4] at HB4 ⊢
  have HLT4 := hide (show w.heap.size ≤ b4 by rw [← hb4]; exact U1.out.size)
  clear u U1 hb4
  have HD2 := hide (keepB HD.out U2.out)
  have HDL := hide HD.out.lt
  have HK2 := hide (HK.out.upd U2.out (by simp))
  go_upto_region 2 with (first
    | refine wpList_load_row rfl 193 _ rfl db rfl _ (s.map (Value.int .u32)).toArray _ _ HD2.out Tryz.underlying193 rfl (by rw [HSZ8.out]; kernel_rfl) ?_
    | refine wpList_store_row rfl 193 _ _ rfl w2.heap.size (s.map (Value.int .u32)).toArray rfl rfl 193 _ (heap_alloc_new _ _) (by rw [HSZ8.out]; kernel_rfl) (by rw [HSZ8.out]; rfl) (by simp [Value.oneCell']) ?_)
  rw [World.setRow_alloc_new]
  obtain ⟨w3, hw⟩ : ∃ x, w2.alloc (.cells (s.map (Value.int .u32)).toArray 193) = x := ⟨_, rfl⟩
  have u : Upd [] w2 w3 := by rw [← hw]; exact (Upd.refl [] _).alloc _
  have HB5 := hide (show Blk w3 w2.heap.size 193 (s.map (Value.int .u32)) by rw [← hw]; exact Blk.new w2 _ _)
  rw [hw]
  have U3 := hide (U2.out.trans u (by simp))
  clear hw
  have HB43 := hide (keepB HB4.out u)
  have HD3 := hide (keepB HD2.out u)
  have HK3 := hide (HK2.out.upd u (by simp))
  obtain ⟨b5, hb5⟩ : ∃ b, w2.heap.size = b := ⟨_, rfl⟩
  rw [hb5] at HB5 ⊢
  have HLT5 := hide (show b4 < b5 by rw [← hb5]; exact HB4.out.lt)
  clear u hb5 HB4 HD2 HK2
  obtain ⟨kt, kf, hkr⟩ := HK3.out
  have HKR := hide hkr
  clear hkr
  go_upto_region 3 with (refine wpList_load_row rfl 214 _ rfl (3 : Nat) rfl _ (ks.map (Value.int .u32)).toArray _ _ HKR.out Tryz.underlying214 rfl (by rw [HSZK.out]; kernel_rfl) ?_)
  go_loopw [19] (fun s19 wr => ∃ k : Nat, k ≤ 64 ∧ s19 = .int .i64 k ∧ Hid (Blk wr b5 193 ((turnsTo ks ws s k).map (Value.int .u32))) ∧ Hid (Upd [b5] w3 wr)) (fun s _ => 64 - (intOf s).toNat)
  case atStart => exact ⟨0, Nat.zero_le _, rfl, HB5, hide (Upd.refl _ _)⟩
  case round =>
    obtain ⟨k, hk, rfl, hB, hu⟩ := hrel
    obtain ⟨wo, rfl⟩ : ∃ x : World, x = wr := ⟨_, rfl⟩
    by_cases hk64 : k < 64
    case neg =>
      obtain rfl : k = 64 := by omega
      obtain ⟨vs, hvs⟩ : ∃ x, turnsTo ks ws s 64 = x := ⟨_, rfl⟩
      rw [hvs] at hB
      have HVL := hide (show vs.length = 8 by rw [← hvs, turnsTo_length _ _ _ HS.out])
      have HVS := hide hvs
      clear hvs
      have hDo := hide (HD3.out.upd hu.out (by simp; have := HLT5.out; have := HLT4.out; have := HDL.out; omega))
      have hno : ¬ ((64 : Nat) : Int) < 64 := by omega
      go_wp2_with fail
      clear hno
      go_loopw [82] (fun s82 wr => ∃ k : Nat, k ≤ 8 ∧ s82 = .int .i64 k ∧ Hid (Blk wr db 193 ((addTo vs s k).map (Value.int .u32))) ∧ Hid (Upd [db] wo wr)) (fun s _ => 8 - (intOf s).toNat)
      case atStart => exact ⟨0, Nat.zero_le _, rfl, hide (by rw [addTo_zero vs s HS.out]; exact hDo.out), hide (Upd.refl _ _)⟩
      case round =>
        obtain ⟨k, hk, rfl, hD8, hu8⟩ := hrel
        obtain ⟨wx, rfl⟩ : ∃ x : World, x = wr := ⟨_, rfl⟩
        by_cases hk8 : k < 8
        case neg =>
          obtain rfl : k = 8 := by omega
          have HE := hide (show addTo vs s 8 = addS ks bs s by rw [← HVS.out, ← HWS.out]; exact addTo_eight _ _)
          go_wp2_with fail
          go_end0
          exact ⟨rfl, ((U3.out.trans hu.out (by simp; have := HLT5.out; have := HLT4.out; omega)).mono (by simp)).trans hu8.out (by simp), by rw [← HE.out]; exact hD8.out⟩
        have hki : (k : Int) < 8 := by omega
        have hkw : IntKind.i64.wrap ((k : Int) + 1) = (k : Int) + 1 := Go.IntWalk.i64_in _ (by omega)
        obtain ⟨a, ha⟩ : ∃ x, wat s k = x := ⟨_, rfl⟩
        obtain ⟨b, hb⟩ : ∃ x, vs[k]? = some x := ⟨_, List.getElem?_eq_getElem (by rw [HVL.out]; exact hk8)⟩
        have HNX := hide (show (addTo vs s k).set k (IntKind.u32.wrap (a + b)) = addTo vs s (k + 1) by rw [← addTo_set vs s k hk8, ha]; unfold wat; rw [hb]; rfl)
        have cd : wx.cell? ⟨db, k, none⟩ = some (.int .u32 a) := (hD8.out.cell k).trans (by rw [List.getElem?_map, addTo_at vs s k hk8, ha]; rfl)
        have hBx := hide (hB.out.upd hu8.out (by simp; have := HLT5.out; have := HLT4.out; have := HDL.out; omega))
        have cb : wx.cell? ⟨b5, k, none⟩ = some (.int .u32 b) := (hBx.out.cell k).trans (by rw [List.getElem?_map, hb]; rfl)
        have fd := hD8.out.frozen k
        have HBk := hide hb
        have HAk := hide ha
        clear ha hb
        go_upto_region 14 with fail
        go_region_law (fail)
        all_goals (go_wp2_with fail)
        all_goals go_roundw
        all_goals first
          | exact ⟨k + 1, by omega, by go_num, hide (by rw [← HNX.out, IntKind.wrap_u32, List.map_set]; exact (hD8.out.set_ k _).drew), hide ((hu8.out.setCell (.inl (by simp)) _).drew)⟩
          | (simp [intOf] <;> omega)
    case pos =>
      have hki : (k : Int) < 64 := by omega
      have hkw : IntKind.i64.wrap ((k : Int) + 1) = (k : Int) + 1 := Go.IntWalk.i64_in _ (by omega)
      obtain ⟨kk, hkk⟩ : ∃ x, ks[k]? = some x := ⟨_, List.getElem?_eq_getElem (by rw [HKL.out]; exact hk64)⟩
      obtain ⟨xk, hxk⟩ : ∃ x, ws[k]? = some x := ⟨_, List.getElem?_eq_getElem (by rw [HWL.out]; exact hk64)⟩
      obtain ⟨x0, x1, x2, x3, x4, x5, x6, x7, hS⟩ := eight_of _ (turnsTo_length ks ws s HS.out k)
      have HNX := hide (show turnsTo ks ws s (k + 1) = turnS kk xk [x0, x1, x2, x3, x4, x5, x6, x7] by show turnS (wat ks k) (wat ws k) (turnsTo ks ws s k) = _; rw [hS]; unfold wat; rw [hkk, hxk]; rfl)
      have hWd := turnsTo_word ks ws HW.out k
      rw [hS] at hWd
      have HX0 := hide (hWd x0 (by simp))
      have HX4 := hide (hWd x4 (by simp))
      replace hB := hide (show Blk wo b5 193 [.int .u32 x0, .int .u32 x1, .int .u32 x2, .int .u32 x3, .int .u32 x4, .int .u32 x5, .int .u32 x6, .int .u32 x7] by have h9 := hB.out; rw [hS] at h9; exact h9)
      have hB4 := hide (HB43.out.upd hu.out (by simp; have := HLT5.out; omega))
      have c48 : wo.cell? ⟨b4, k, none⟩ = some (.int .u32 xk) := (hB4.out.cell k).trans (by rw [List.getElem?_map, hxk]; rfl)
      have c0 : wo.cell? ⟨b5, 0, none⟩ = some (.int .u32 x0) := (hB.out.cell 0).trans rfl
      have c1 : wo.cell? ⟨b5, 1, none⟩ = some (.int .u32 x1) := (hB.out.cell 1).trans rfl
      have c2 : wo.cell? ⟨b5, 2, none⟩ = some (.int .u32 x2) := (hB.out.cell 2).trans rfl
      have c3 : wo.cell? ⟨b5, 3, none⟩ = some (.int .u32 x3) := (hB.out.cell 3).trans rfl
      have c4 : wo.cell? ⟨b5, 4, none⟩ = some (.int .u32 x4) := (hB.out.cell 4).trans rfl
      have c5 : wo.cell? ⟨b5, 5, none⟩ = some (.int .u32 x5) := (hB.out.cell 5).trans rfl
      have c6 : wo.cell? ⟨b5, 6, none⟩ = some (.int .u32 x6) := (hB.out.cell 6).trans rfl
      have c7 : wo.cell? ⟨b5, 7, none⟩ = some (.int .u32 x7) := (hB.out.cell 7).trans rfl
      have hidx : ∀ W : World, (Instr.index 214 (.agg (ks.map (Value.int .u32)).toArray) (.int .i64 (k : Int))).run Tryz.prog W = .ok (.int .u32 kk) W := by
        intro W
        have e9 : (ks.map (Value.int .u32)).toArray[k]? = some (.int .u32 kk) := by rw [List.getElem?_toArray, List.getElem?_map, hkk]; rfl
        exact index_agg W Tryz.underlying214 Tryz.underlying109 (by kernel_rfl) k hk64 _ _ e9
      have HXK := hide (show (ws.map (Value.int .u32))[k]? = some (.int .u32 xk) by rw [List.getElem?_map, hxk]; rfl)
      have HKK := hide hkk
      clear hkk hxk hS hWd
      go_upto_region 5 with fail
      clear c0 c1 c2 c3 c4 c5 c6 c7 c48
      refine wp_region_held_drew (S := (fun w' => w'.cell? ⟨b5, 0, none⟩ = some (.int .u32 x0) ∧ w'.cell? ⟨b5, 4, none⟩ = some (.int .u32 x4))) (by kernel_rfl) (by exact ⟨(hB.out.cell 0).trans rfl, (hB.out.cell 4).trans rfl⟩) (fun hHeld => ?_)
      obtain ⟨v1, hwD⟩ : ∃ x, wo.drew = x := ⟨_, rfl⟩
      have u : Upd [] wo v1 := by rw [← hwD]; exact (Upd.refl [] _).drew
      rw [hwD] at hHeld ⊢
      clear hwD
      replace hB := hide (keepB hB.out u)
      replace hB4 := hide (keepB hB4.out u)
      replace hu := hide (hu.out.trans u (by simp))
      clear u
      refine wpAnyH_take (i := 0) (oi := ?oi0M2) (v := ?v0M2) ?oi0_0M2 (by kernel_rfl) ?ff0M2 ?rr0M2 ?hq0M2 (Or.inl ⟨?hw0M2, ?hy0M2⟩) (by assumption) ?rest0M2
      case oi0_0M2 => conv => lhs; whnf; arg 1; whnf
      case hq0M2 => exact fun _ _ _ h => h
      case ff0M2 | rr0M2 => kernel_rfl
      case hw0M2 => rfl
      case hy0M2 => intro w hSw; (try dsimp only at hSw); first | (go_simp; done) | (go_simp; with_reducible rfl)
      try simp only [Act.put, List.setIfInBounds_toArray, List.set_cons_zero, List.set_cons_succ]
      refine wpAnyH_take (i := 1) (oi := ?oi1M2) (v := ?v1M2) ?oi0_1M2 (by kernel_rfl) ?ff1M2 ?rr1M2 ?hq1M2 (Or.inl ⟨?hw1M2, ?hy1M2⟩) (by assumption) ?rest1M2
      case oi0_1M2 => conv => lhs; whnf; arg 1; whnf
      case hq1M2 => exact fun _ _ _ h => h
      case ff1M2 | rr1M2 => kernel_rfl
      case hw1M2 => rfl
      case hy1M2 => intro w hSw; (try dsimp only at hSw); first | (go_simp; done) | (go_simp; with_reducible rfl)
      try simp only [Act.put, List.setIfInBounds_toArray, List.set_cons_zero, List.set_cons_succ]
      refine wpAnyH_take (i := 2) (oi := ?oi2M2) (v := ?v2M2) ?oi0_2M2 (by kernel_rfl) ?ff2M2 ?rr2M2 ?hq2M2 (Or.inl ⟨?hw2M2, ?hy2M2⟩) (by assumption) ?rest2M2
      case oi0_2M2 => conv => lhs; whnf; arg 1; whnf
      case hq2M2 => exact fun _ _ _ h => h
      case ff2M2 | rr2M2 => kernel_rfl
      case hw2M2 => rfl
      case hy2M2 => intro w hSw; (try dsimp only at hSw); first | (go_simp; done) | (go_simp; with_reducible rfl)
      try simp only [Act.put, List.setIfInBounds_toArray, List.set_cons_zero, List.set_cons_succ]
      refine wpAnyH_take (i := 3) (oi := ?oi3M2) (v := ?v3M2) ?oi0_3M2 (by kernel_rfl) ?ff3M2 ?rr3M2 ?hq3M2 (Or.inl ⟨?hw3M2, ?hy3M2⟩) (by assumption) ?rest3M2
      case oi0_3M2 => conv => lhs; whnf; arg 1; whnf
      case hq3M2 => exact fun _ _ _ h => h
      case ff3M2 | rr3M2 => kernel_rfl
      case hw3M2 => rfl
      case hy3M2 => intro w hSw; (try dsimp only at hSw); first | (go_simp; done) | (go_simp; with_reducible rfl)
      try simp only [Act.put, List.setIfInBounds_toArray, List.set_cons_zero, List.set_cons_succ]
      refine wpAnyH_take (i := 4) (oi := ?oi4M2) (v := ?v4M2) ?oi0_4M2 (by kernel_rfl) ?ff4M2 ?rr4M2 ?hq4M2 (Or.inl ⟨?hw4M2, ?hy4M2⟩) (by assumption) ?rest4M2
      case oi0_4M2 => conv => lhs; whnf; arg 1; whnf
      case hq4M2 => exact fun _ _ _ h => h
      case ff4M2 | rr4M2 => kernel_rfl
      case hw4M2 => rfl
      case hy4M2 => intro w hSw; (try dsimp only at hSw); first | (go_simp; done) | (go_simp; with_reducible rfl)
      try simp only [Act.put, List.setIfInBounds_toArray, List.set_cons_zero, List.set_cons_succ]
      refine wpAnyH_take (i := 5) (oi := ?oi5M2) (v := ?v5M2) ?oi0_5M2 (by kernel_rfl) ?ff5M2 ?rr5M2 ?hq5M2 (Or.inl ⟨?hw5M2, ?hy5M2⟩) (by assumption) ?rest5M2
      case oi0_5M2 => conv => lhs; whnf; arg 1; whnf
      case hq5M2 => exact fun _ _ _ h => h
      case ff5M2 | rr5M2 => kernel_rfl
      case hw5M2 => rfl
      case hy5M2 => intro w hSw; (try dsimp only at hSw); first | (go_simp; done) | (go_simp; with_reducible rfl)
      try simp only [Act.put, List.setIfInBounds_toArray, List.set_cons_zero, List.set_cons_succ]
      refine wpAnyH_done (by kernel_rfl) ?_ _
      go_upto_region 6 with fail
      refine wp_region_held_drew (S := (fun w' => w'.cell? ⟨b5, 7, none⟩ = some (.int .u32 x7) ∧ w'.cell? ⟨b5, 5, none⟩ = some (.int .u32 x5) ∧ w'.cell? ⟨b5, 6, none⟩ = some (.int .u32 x6) ∧ w'.cell? ⟨b4, k, none⟩ = some (.int .u32 xk))) (by kernel_rfl) (by exact ⟨(hB.out.cell 7).trans rfl, (hB.out.cell 5).trans rfl, (hB.out.cell 6).trans rfl, (hB4.out.cell k).trans HXK.out⟩) (fun hHeld => ?_)
      obtain ⟨v2, hwD⟩ : ∃ x, v1.drew = x := ⟨_, rfl⟩
      have u : Upd [] v1 v2 := by rw [← hwD]; exact (Upd.refl [] _).drew
      rw [hwD] at hHeld ⊢
      clear hwD
      replace hB := hide (keepB hB.out u)
      replace hB4 := hide (keepB hB4.out u)
      replace hu := hide (hu.out.trans u (by simp))
      clear u
      refine wpAnyH_take (i := 0) (oi := ?oi0M5) (v := ?v0M5) ?oi0_0M5 (by kernel_rfl) ?ff0M5 ?rr0M5 ?hq0M5 (Or.inl ⟨?hw0M5, ?hy0M5⟩) (by assumption) ?rest0M5
      case oi0_0M5 => conv => lhs; whnf; arg 1; whnf
      case hq0M5 => exact fun _ _ _ h => h
      case ff0M5 | rr0M5 => kernel_rfl
      case hw0M5 => rfl
      case hy0M5 => intro w hSw; (try dsimp only at hSw); first | (go_simp; done) | (go_simp; with_reducible rfl)
      try simp only [Act.put, List.setIfInBounds_toArray, List.set_cons_zero, List.set_cons_succ]
      refine wpAnyH_take (i := 1) (oi := ?oi1M5) (v := ?v1M5) ?oi0_1M5 (by kernel_rfl) ?ff1M5 ?rr1M5 ?hq1M5 (Or.inl ⟨?hw1M5, ?hy1M5⟩) (by assumption) ?rest1M5
      case oi0_1M5 => conv => lhs; whnf; arg 1; whnf
      case hq1M5 => exact fun _ _ _ h => h
      case ff1M5 | rr1M5 => kernel_rfl
      case hw1M5 => rfl
      case hy1M5 => intro w hSw; (try dsimp only at hSw); first | (go_simp; done) | (go_simp; with_reducible rfl)
      try simp only [Act.put, List.setIfInBounds_toArray, List.set_cons_zero, List.set_cons_succ]
      refine wpAnyH_take (i := 2) (oi := ?oi2M5) (v := ?v2M5) ?oi0_2M5 (by kernel_rfl) ?ff2M5 ?rr2M5 ?hq2M5 (Or.inl ⟨?hw2M5, ?hy2M5⟩) (by assumption) ?rest2M5
      case oi0_2M5 => conv => lhs; whnf; arg 1; whnf
      case hq2M5 => exact fun _ _ _ h => h
      case ff2M5 | rr2M5 => kernel_rfl
      case hw2M5 => rfl
      case hy2M5 => intro w hSw; (try dsimp only at hSw); first | (go_simp; done) | (go_simp; with_reducible rfl)
      try simp only [Act.put, List.setIfInBounds_toArray, List.set_cons_zero, List.set_cons_succ]
      refine wpAnyH_take (i := 6) (oi := ?oi6M5) (v := ?v6M5) ?oi0_6M5 (by kernel_rfl) ?ff6M5 ?rr6M5 ?hq6M5 (Or.inl ⟨?hw6M5, ?hy6M5⟩) (by assumption) ?rest6M5
      case oi0_6M5 => conv => lhs; whnf; arg 1; whnf
      case hq6M5 => exact fun _ _ _ h => h
      case ff6M5 | rr6M5 => kernel_rfl
      case hw6M5 => rfl
      case hy6M5 => intro w hSw; (try dsimp only at hSw); first | (go_simp; done) | (go_simp; with_reducible rfl)
      try simp only [Act.put, List.setIfInBounds_toArray, List.set_cons_zero, List.set_cons_succ]
      refine wpAnyH_take (i := 7) (oi := ?oi7M5) (v := ?v7M5) ?oi0_7M5 (by kernel_rfl) ?ff7M5 ?rr7M5 ?hq7M5 (Or.inl ⟨?hw7M5, ?hy7M5⟩) (by assumption) ?rest7M5
      case oi0_7M5 => conv => lhs; whnf; arg 1; whnf
      case hq7M5 => exact fun _ _ _ h => h
      case ff7M5 | rr7M5 => kernel_rfl
      case hw7M5 => rfl
      case hy7M5 => intro w hSw; (try dsimp only at hSw); first | (go_simp; done) | (go_simp; with_reducible rfl)
      try simp only [Act.put, List.setIfInBounds_toArray, List.set_cons_zero, List.set_cons_succ]
      refine wpAnyH_take (i := 8) (oi := ?oi8M5) (v := ?v8M5) ?oi0_8M5 (by kernel_rfl) ?ff8M5 ?rr8M5 ?hq8M5 (Or.inl ⟨?hw8M5, ?hy8M5⟩) (by assumption) ?rest8M5
      case oi0_8M5 => conv => lhs; whnf; arg 1; whnf
      case hq8M5 => exact fun _ _ _ h => h
      case ff8M5 | rr8M5 => kernel_rfl
      case hw8M5 => rfl
      case hy8M5 => intro w hSw; (try dsimp only at hSw); first | (go_simp; done) | (go_simp; with_reducible rfl)
      try simp only [Act.put, List.setIfInBounds_toArray, List.set_cons_zero, List.set_cons_succ]
      refine wpAnyH_take (i := 9) (oi := ?oi9M5) (v := ?v9M5) ?oi0_9M5 (by kernel_rfl) ?ff9M5 ?rr9M5 ?hq9M5 (Or.inl ⟨?hw9M5, ?hy9M5⟩) (by assumption) ?rest9M5
      case oi0_9M5 => conv => lhs; whnf; arg 1; whnf
      case hq9M5 => exact fun _ _ _ h => h
      case ff9M5 | rr9M5 => kernel_rfl
      case hw9M5 => rfl
      case hy9M5 => intro w hSw; (try dsimp only at hSw); first | (go_simp; done) | (go_simp; with_reducible rfl)
      try simp only [Act.put, List.setIfInBounds_toArray, List.set_cons_zero, List.set_cons_succ]
      refine wpAnyH_take (i := 10) (oi := ?oi10M5) (v := ?v10M5) ?oi0_10M5 (by kernel_rfl) ?ff10M5 ?rr10M5 ?hq10M5 (Or.inl ⟨?hw10M5, ?hy10M5⟩) (by assumption) ?rest10M5
      case oi0_10M5 => conv => lhs; whnf; arg 1; whnf
      case hq10M5 => exact fun _ _ _ h => h
      case ff10M5 | rr10M5 => kernel_rfl
      case hw10M5 => rfl
      case hy10M5 => intro w hSw; (try dsimp only at hSw); first | (go_simp; done) | (go_simp; with_reducible rfl)
      try simp only [Act.put, List.setIfInBounds_toArray, List.set_cons_zero, List.set_cons_succ]
      refine wpAnyH_take (i := 11) (oi := ?oi11M5) (v := ?v11M5) ?oi0_11M5 (by kernel_rfl) ?ff11M5 ?rr11M5 ?hq11M5 (Or.inl ⟨?hw11M5, ?hy11M5⟩) (by assumption) ?rest11M5
      case oi0_11M5 => conv => lhs; whnf; arg 1; whnf
      case hq11M5 => exact fun _ _ _ h => h
      case ff11M5 | rr11M5 => kernel_rfl
      case hw11M5 => rfl
      case hy11M5 => intro w hSw; (try dsimp only at hSw); first | (go_simp; done) | (go_simp; with_reducible rfl)
      try simp only [Act.put, List.setIfInBounds_toArray, List.set_cons_zero, List.set_cons_succ]
      refine wpAnyH_take (i := 12) (oi := ?oi12M5) (v := ?v12M5) ?oi0_12M5 (by kernel_rfl) ?ff12M5 ?rr12M5 ?hq12M5 (Or.inl ⟨?hw12M5, ?hy12M5⟩) (by assumption) ?rest12M5
      case oi0_12M5 => conv => lhs; whnf; arg 1; whnf
      case hq12M5 => exact fun _ _ _ h => h
      case ff12M5 | rr12M5 => kernel_rfl
      case hw12M5 => rfl
      case hy12M5 => intro w hSw; (try dsimp only at hSw); first | (go_simp; done) | (go_simp; with_reducible rfl)
      try simp only [Act.put, List.setIfInBounds_toArray, List.set_cons_zero, List.set_cons_succ]
      refine wpAnyH_take (i := 13) (oi := ?oi13M5) (v := ?v13M5) ?oi0_13M5 (by kernel_rfl) ?ff13M5 ?rr13M5 ?hq13M5 (Or.inl ⟨?hw13M5, ?hy13M5⟩) (by assumption) ?rest13M5
      case oi0_13M5 => conv => lhs; whnf; arg 1; whnf
      case hq13M5 => exact fun _ _ _ h => h
      case ff13M5 | rr13M5 => kernel_rfl
      case hw13M5 => rfl
      case hy13M5 => intro w hSw; (try dsimp only at hSw); first | (go_simp; done) | (go_simp; with_reducible rfl)
      try simp only [Act.put, List.setIfInBounds_toArray, List.set_cons_zero, List.set_cons_succ]
      refine wpAnyH_take (i := 14) (oi := ?oi14M5) (v := ?v14M5) ?oi0_14M5 (by kernel_rfl) ?ff14M5 ?rr14M5 ?hq14M5 (Or.inl ⟨?hw14M5, ?hy14M5⟩) (by assumption) ?rest14M5
      case oi0_14M5 => conv => lhs; whnf; arg 1; whnf
      case hq14M5 => exact fun _ _ _ h => h
      case ff14M5 | rr14M5 => kernel_rfl
      case hw14M5 => rfl
      case hy14M5 => intro w hSw; (try dsimp only at hSw); first | (go_simp; done) | (go_simp; with_reducible rfl)
      try simp only [Act.put, List.setIfInBounds_toArray, List.set_cons_zero, List.set_cons_succ]
      refine wpAnyH_take (i := 15) (oi := ?oi15M5) (v := ?v15M5) ?oi0_15M5 (by kernel_rfl) ?ff15M5 ?rr15M5 ?hq15M5 (Or.inl ⟨?hw15M5, ?hy15M5⟩) (by assumption) ?rest15M5
      case oi0_15M5 => conv => lhs; whnf; arg 1; whnf
      case hq15M5 => exact fun _ _ _ h => h
      case ff15M5 | rr15M5 => kernel_rfl
      case hw15M5 => rfl
      case hy15M5 => intro w hSw; (try dsimp only at hSw); first | (go_simp; done) | (go_simp; with_reducible rfl)
      try simp only [Act.put, List.setIfInBounds_toArray, List.set_cons_zero, List.set_cons_succ]
      refine wpAnyH_take (i := 17) (oi := ?oi17M5) (v := ?v17M5) ?oi0_17M5 (by kernel_rfl) ?ff17M5 ?rr17M5 ?hq17M5 (Or.inl ⟨?hw17M5, ?hy17M5⟩) (by assumption) ?rest17M5
      case oi0_17M5 => conv => lhs; whnf; arg 1; whnf
      case hq17M5 => exact fun _ _ _ h => h
      case ff17M5 | rr17M5 => kernel_rfl
      case hw17M5 => rfl
      case hy17M5 => intro w hSw; (try dsimp only at hSw); first | (go_simp; done) | (go_simp; with_reducible rfl)
      try simp only [Act.put, List.setIfInBounds_toArray, List.set_cons_zero, List.set_cons_succ]
      refine wpAnyH_take (i := 19) (oi := ?oi19M5) (v := ?v19M5) ?oi0_19M5 (by kernel_rfl) ?ff19M5 ?rr19M5 ?hq19M5 (Or.inl ⟨?hw19M5, ?hy19M5⟩) (by assumption) ?rest19M5
      case oi0_19M5 => conv => lhs; whnf; arg 1; whnf
      case hq19M5 => exact fun _ _ _ h => h
      case ff19M5 | rr19M5 => kernel_rfl
      case hw19M5 => rfl
      case hy19M5 => intro w hSw; (try dsimp only at hSw); first | (go_simp; done) | (go_simp; with_reducible rfl)
      try simp only [Act.put, List.setIfInBounds_toArray, List.set_cons_zero, List.set_cons_succ]
      refine wpAnyH_take (i := 20) (oi := ?oi20M5) (v := ?v20M5) ?oi0_20M5 (by kernel_rfl) ?ff20M5 ?rr20M5 ?hq20M5 (Or.inl ⟨?hw20M5, ?hy20M5⟩) (by assumption) ?rest20M5
      case oi0_20M5 => conv => lhs; whnf; arg 1; whnf
      case hq20M5 => exact fun _ _ _ h => h
      case ff20M5 | rr20M5 => kernel_rfl
      case hw20M5 => rfl
      case hy20M5 => intro w hSw; (try dsimp only at hSw); first | (go_simp; done) | (go_simp; with_reducible rfl)
      try simp only [Act.put, List.setIfInBounds_toArray, List.set_cons_zero, List.set_cons_succ]
      refine wpAnyH_take (i := 21) (oi := ?oi21M5) (v := ?v21M5) ?oi0_21M5 (by kernel_rfl) ?ff21M5 ?rr21M5 ?hq21M5 (Or.inl ⟨?hw21M5, ?hy21M5⟩) (by assumption) ?rest21M5
      case oi0_21M5 => conv => lhs; whnf; arg 1; whnf
      case hq21M5 => exact fun _ _ _ h => h
      case ff21M5 | rr21M5 => kernel_rfl
      case hw21M5 => rfl
      case hy21M5 => intro w hSw; (try dsimp only at hSw); first | (go_simp; done) | (go_simp; with_reducible rfl)
      try simp only [Act.put, List.setIfInBounds_toArray, List.set_cons_zero, List.set_cons_succ]
      refine wpAnyH_ready (rs := [3]) (by kernel_rfl) (by simp) (AllReadyH.cons (o := ?oiM6) ?oi0_M6 (fun K hK => ?_) AllReadyH.nil)
      case oi0_M6 => conv => lhs; whnf; arg 1; whnf
      go_simp
      obtain ⟨v3, hw⟩ : ∃ x, v2.alloc (.cells #[.int .i64 6, .int .i64 11, .int .i64 25] 3) = x := ⟨_, rfl⟩
      have u : Upd [] v2 v3 := by rw [← hw]; exact (Upd.refl [] _).alloc _
      have HLI := hide (show Blk v3 v2.heap.size 3 [.int .i64 6, .int .i64 11, .int .i64 25] by rw [← hw]; exact Blk.new v2 _ _)
      rw [hw]
      clear hw
      replace hB := hide (keepB hB.out u)
      replace hB4 := hide (keepB hB4.out u)
      replace hu := hide (hu.out.trans u (by simp))
      clear u
      (try dsimp only)
      refine hK.out _ _ (by exact ⟨(hB.out.cell 7).trans rfl, (hB.out.cell 5).trans rfl, (hB.out.cell 6).trans rfl, (hB4.out.cell k).trans HXK.out⟩) (fun hHeld => ?_)
      clear hK K
      try simp only [Act.put, List.setIfInBounds_toArray, List.set_cons_zero, List.set_cons_succ]
      refine wpAnyH_ready (rs := [4]) (by kernel_rfl) (by simp) (AllReadyH.cons (o := ?oiM7) ?oi0_M7 (fun K hK => ?_) AllReadyH.nil)
      case oi0_M7 => conv => lhs; whnf; arg 1; whnf
      go_simp
      go_at_call 145
      with_reducible (refine (mixed_three 6 11 25 x4 _ v3 (by decide) HX4.out HLI.out).mono ?_)
      rintro e w' ⟨rfl, rfl⟩
      (try dsimp only)
      refine hK.out _ _ (by exact ⟨(hB.out.cell 7).trans rfl, (hB.out.cell 5).trans rfl, (hB.out.cell 6).trans rfl, (hB4.out.cell k).trans HXK.out⟩) (fun hHeld => ?_)
      clear hK K
      try simp only [Act.put, List.setIfInBounds_toArray, List.set_cons_zero, List.set_cons_succ]
      refine wpAnyH_take (i := 5) (oi := ?oi5M8) (v := ?v5M8) ?oi0_5M8 (by kernel_rfl) ?ff5M8 ?rr5M8 ?hq5M8 (Or.inl ⟨?hw5M8, ?hy5M8⟩) (by assumption) ?rest5M8
      case oi0_5M8 => conv => lhs; whnf; arg 1; whnf
      case hq5M8 => exact fun _ _ _ h => h
      case ff5M8 | rr5M8 => kernel_rfl
      case hw5M8 => rfl
      case hy5M8 => intro w hSw; (try dsimp only at hSw); first | (go_simp; done) | (go_simp; with_reducible rfl)
      try simp only [Act.put, List.setIfInBounds_toArray, List.set_cons_zero, List.set_cons_succ]
      refine wpAnyH_take (i := 16) (oi := ?oi16M8) (v := ?v16M8) ?oi0_16M8 (by kernel_rfl) ?ff16M8 ?rr16M8 ?hq16M8 (Or.inl ⟨?hw16M8, ?hy16M8⟩) (by assumption) ?rest16M8
      case oi0_16M8 => conv => lhs; whnf; arg 1; whnf
      case hq16M8 => exact fun _ _ _ h => h
      case ff16M8 | rr16M8 => kernel_rfl
      case hw16M8 => rfl
      case hy16M8 => intro w hSw; (try dsimp only at hSw); first | (go_simp; done) | (go_simp; with_reducible rfl)
      try simp only [Act.put, List.setIfInBounds_toArray, List.set_cons_zero, List.set_cons_succ]
      refine wpAnyH_take (i := 18) (oi := ?oi18M8) (v := ?v18M8) ?oi0_18M8 (by kernel_rfl) ?ff18M8 ?rr18M8 ?hq18M8 (Or.inl ⟨?hw18M8, ?hy18M8⟩) (by assumption) ?rest18M8
      case oi0_18M8 => conv => lhs; whnf; arg 1; whnf
      case hq18M8 => exact fun _ _ _ h => h
      case ff18M8 | rr18M8 => kernel_rfl
      case hw18M8 => rfl
      case hy18M8 => intro w hSw; (try dsimp only at hSw); first | (go_simp; done) | (go_simp; with_reducible rfl)
      try simp only [Act.put, List.setIfInBounds_toArray, List.set_cons_zero, List.set_cons_succ]
      refine wpAnyH_take (i := 22) (oi := ?oi22M8) (v := ?v22M8) ?oi0_22M8 (by kernel_rfl) ?ff22M8 ?rr22M8 ?hq22M8 (Or.inl ⟨?hw22M8, ?hy22M8⟩) (by assumption) ?rest22M8
      case oi0_22M8 => conv => lhs; whnf; arg 1; whnf
      case hq22M8 => exact fun _ _ _ h => h
      case ff22M8 | rr22M8 => kernel_rfl
      case hw22M8 => rfl
      case hy22M8 => intro w hSw; (try dsimp only at hSw); first | (go_simp; done) | (go_simp; with_reducible rfl)
      try simp only [Act.put, List.setIfInBounds_toArray, List.set_cons_zero, List.set_cons_succ]
      refine wpAnyH_take (i := 23) (oi := ?oi23M8) (v := ?v23M8) ?oi0_23M8 (by kernel_rfl) ?ff23M8 ?rr23M8 ?hq23M8 (Or.inl ⟨?hw23M8, ?hy23M8⟩) (by assumption) ?rest23M8
      case oi0_23M8 => conv => lhs; whnf; arg 1; whnf
      case hq23M8 => exact fun _ _ _ h => h
      case ff23M8 | rr23M8 => kernel_rfl
      case hw23M8 => rfl
      case hy23M8 => intro w hSw; (try dsimp only at hSw); first | (go_simp; done) | (go_simp; with_reducible rfl)
      try simp only [Act.put, List.setIfInBounds_toArray, List.set_cons_zero, List.set_cons_succ]
      refine wpAnyH_done (by kernel_rfl) ?_ _
      clear HLI
      obtain ⟨tv, htv⟩ : ∃ x, tS kk xk [x0, x1, x2, x3, x4, x5, x6, x7] = x := ⟨_, rfl⟩
      rw [show IntKind.u32.wrap (IntKind.u32.wrap (IntKind.u32.wrap (IntKind.u32.wrap (x7 + mixS [6, 11, 25] x4) + bits .xor .u32 (bits .and .u32 x4 x5) (bits .and .u32 (bits .xor .u32 (if IntKind.u32.signed = true then -1 else IntKind.u32.max) x4) x6)) + kk) + xk) = tv from htv]
      have HTV := hide htv
      clear htv
      go_upto_region 7 with fail
      refine wp_region_held_drew (S := (fun w' => w'.cell? ⟨b5, 1, none⟩ = some (.int .u32 x1) ∧ w'.cell? ⟨b5, 2, none⟩ = some (.int .u32 x2))) (by kernel_rfl) (by exact ⟨(hB.out.cell 1).trans rfl, (hB.out.cell 2).trans rfl⟩) (fun hHeld => ?_)
      obtain ⟨v4, hwD⟩ : ∃ x, v3.drew = x := ⟨_, rfl⟩
      have u : Upd [] v3 v4 := by rw [← hwD]; exact (Upd.refl [] _).drew
      rw [hwD] at hHeld ⊢
      clear hwD
      replace hB := hide (keepB hB.out u)
      replace hB4 := hide (keepB hB4.out u)
      replace hu := hide (hu.out.trans u (by simp))
      clear u
      refine wpAnyH_take (i := 0) (oi := ?oi0M11) (v := ?v0M11) ?oi0_0M11 (by kernel_rfl) ?ff0M11 ?rr0M11 ?hq0M11 (Or.inl ⟨?hw0M11, ?hy0M11⟩) (by assumption) ?rest0M11
      case oi0_0M11 => conv => lhs; whnf; arg 1; whnf
      case hq0M11 => exact fun _ _ _ h => h
      case ff0M11 | rr0M11 => kernel_rfl
      case hw0M11 => rfl
      case hy0M11 => intro w hSw; (try dsimp only at hSw); first | (go_simp; done) | (go_simp; with_reducible rfl)
      try simp only [Act.put, List.setIfInBounds_toArray, List.set_cons_zero, List.set_cons_succ]
      refine wpAnyH_take (i := 3) (oi := ?oi3M11) (v := ?v3M11) ?oi0_3M11 (by kernel_rfl) ?ff3M11 ?rr3M11 ?hq3M11 (Or.inl ⟨?hw3M11, ?hy3M11⟩) (by assumption) ?rest3M11
      case oi0_3M11 => conv => lhs; whnf; arg 1; whnf
      case hq3M11 => exact fun _ _ _ h => h
      case ff3M11 | rr3M11 => kernel_rfl
      case hw3M11 => rfl
      case hy3M11 => intro w hSw; (try dsimp only at hSw); first | (go_simp; done) | (go_simp; with_reducible rfl)
      try simp only [Act.put, List.setIfInBounds_toArray, List.set_cons_zero, List.set_cons_succ]
      refine wpAnyH_take (i := 4) (oi := ?oi4M11) (v := ?v4M11) ?oi0_4M11 (by kernel_rfl) ?ff4M11 ?rr4M11 ?hq4M11 (Or.inl ⟨?hw4M11, ?hy4M11⟩) (by assumption) ?rest4M11
      case oi0_4M11 => conv => lhs; whnf; arg 1; whnf
      case hq4M11 => exact fun _ _ _ h => h
      case ff4M11 | rr4M11 => kernel_rfl
      case hw4M11 => rfl
      case hy4M11 => intro w hSw; (try dsimp only at hSw); first | (go_simp; done) | (go_simp; with_reducible rfl)
      try simp only [Act.put, List.setIfInBounds_toArray, List.set_cons_zero, List.set_cons_succ]
      refine wpAnyH_take (i := 5) (oi := ?oi5M11) (v := ?v5M11) ?oi0_5M11 (by kernel_rfl) ?ff5M11 ?rr5M11 ?hq5M11 (Or.inl ⟨?hw5M11, ?hy5M11⟩) (by assumption) ?rest5M11
      case oi0_5M11 => conv => lhs; whnf; arg 1; whnf
      case hq5M11 => exact fun _ _ _ h => h
      case ff5M11 | rr5M11 => kernel_rfl
      case hw5M11 => rfl
      case hy5M11 => intro w hSw; (try dsimp only at hSw); first | (go_simp; done) | (go_simp; with_reducible rfl)
      try simp only [Act.put, List.setIfInBounds_toArray, List.set_cons_zero, List.set_cons_succ]
      refine wpAnyH_take (i := 6) (oi := ?oi6M11) (v := ?v6M11) ?oi0_6M11 (by kernel_rfl) ?ff6M11 ?rr6M11 ?hq6M11 (Or.inl ⟨?hw6M11, ?hy6M11⟩) (by assumption) ?rest6M11
      case oi0_6M11 => conv => lhs; whnf; arg 1; whnf
      case hq6M11 => exact fun _ _ _ h => h
      case ff6M11 | rr6M11 => kernel_rfl
      case hw6M11 => rfl
      case hy6M11 => intro w hSw; (try dsimp only at hSw); first | (go_simp; done) | (go_simp; with_reducible rfl)
      try simp only [Act.put, List.setIfInBounds_toArray, List.set_cons_zero, List.set_cons_succ]
      refine wpAnyH_take (i := 7) (oi := ?oi7M11) (v := ?v7M11) ?oi0_7M11 (by kernel_rfl) ?ff7M11 ?rr7M11 ?hq7M11 (Or.inl ⟨?hw7M11, ?hy7M11⟩) (by assumption) ?rest7M11
      case oi0_7M11 => conv => lhs; whnf; arg 1; whnf
      case hq7M11 => exact fun _ _ _ h => h
      case ff7M11 | rr7M11 => kernel_rfl
      case hw7M11 => rfl
      case hy7M11 => intro w hSw; (try dsimp only at hSw); first | (go_simp; done) | (go_simp; with_reducible rfl)
      try simp only [Act.put, List.setIfInBounds_toArray, List.set_cons_zero, List.set_cons_succ]
      refine wpAnyH_take (i := 8) (oi := ?oi8M11) (v := ?v8M11) ?oi0_8M11 (by kernel_rfl) ?ff8M11 ?rr8M11 ?hq8M11 (Or.inl ⟨?hw8M11, ?hy8M11⟩) (by assumption) ?rest8M11
      case oi0_8M11 => conv => lhs; whnf; arg 1; whnf
      case hq8M11 => exact fun _ _ _ h => h
      case ff8M11 | rr8M11 => kernel_rfl
      case hw8M11 => rfl
      case hy8M11 => intro w hSw; (try dsimp only at hSw); first | (go_simp; done) | (go_simp; with_reducible rfl)
      try simp only [Act.put, List.setIfInBounds_toArray, List.set_cons_zero, List.set_cons_succ]
      refine wpAnyH_take (i := 9) (oi := ?oi9M11) (v := ?v9M11) ?oi0_9M11 (by kernel_rfl) ?ff9M11 ?rr9M11 ?hq9M11 (Or.inl ⟨?hw9M11, ?hy9M11⟩) (by assumption) ?rest9M11
      case oi0_9M11 => conv => lhs; whnf; arg 1; whnf
      case hq9M11 => exact fun _ _ _ h => h
      case ff9M11 | rr9M11 => kernel_rfl
      case hw9M11 => rfl
      case hy9M11 => intro w hSw; (try dsimp only at hSw); first | (go_simp; done) | (go_simp; with_reducible rfl)
      try simp only [Act.put, List.setIfInBounds_toArray, List.set_cons_zero, List.set_cons_succ]
      refine wpAnyH_take (i := 10) (oi := ?oi10M11) (v := ?v10M11) ?oi0_10M11 (by kernel_rfl) ?ff10M11 ?rr10M11 ?hq10M11 (Or.inl ⟨?hw10M11, ?hy10M11⟩) (by assumption) ?rest10M11
      case oi0_10M11 => conv => lhs; whnf; arg 1; whnf
      case hq10M11 => exact fun _ _ _ h => h
      case ff10M11 | rr10M11 => kernel_rfl
      case hw10M11 => rfl
      case hy10M11 => intro w hSw; (try dsimp only at hSw); first | (go_simp; done) | (go_simp; with_reducible rfl)
      try simp only [Act.put, List.setIfInBounds_toArray, List.set_cons_zero, List.set_cons_succ]
      refine wpAnyH_take (i := 11) (oi := ?oi11M11) (v := ?v11M11) ?oi0_11M11 (by kernel_rfl) ?ff11M11 ?rr11M11 ?hq11M11 (Or.inl ⟨?hw11M11, ?hy11M11⟩) (by assumption) ?rest11M11
      case oi0_11M11 => conv => lhs; whnf; arg 1; whnf
      case hq11M11 => exact fun _ _ _ h => h
      case ff11M11 | rr11M11 => kernel_rfl
      case hw11M11 => rfl
      case hy11M11 => intro w hSw; (try dsimp only at hSw); first | (go_simp; done) | (go_simp; with_reducible rfl)
      try simp only [Act.put, List.setIfInBounds_toArray, List.set_cons_zero, List.set_cons_succ]
      refine wpAnyH_take (i := 12) (oi := ?oi12M11) (v := ?v12M11) ?oi0_12M11 (by kernel_rfl) ?ff12M11 ?rr12M11 ?hq12M11 (Or.inl ⟨?hw12M11, ?hy12M11⟩) (by assumption) ?rest12M11
      case oi0_12M11 => conv => lhs; whnf; arg 1; whnf
      case hq12M11 => exact fun _ _ _ h => h
      case ff12M11 | rr12M11 => kernel_rfl
      case hw12M11 => rfl
      case hy12M11 => intro w hSw; (try dsimp only at hSw); first | (go_simp; done) | (go_simp; with_reducible rfl)
      try simp only [Act.put, List.setIfInBounds_toArray, List.set_cons_zero, List.set_cons_succ]
      refine wpAnyH_take (i := 13) (oi := ?oi13M11) (v := ?v13M11) ?oi0_13M11 (by kernel_rfl) ?ff13M11 ?rr13M11 ?hq13M11 (Or.inl ⟨?hw13M11, ?hy13M11⟩) (by assumption) ?rest13M11
      case oi0_13M11 => conv => lhs; whnf; arg 1; whnf
      case hq13M11 => exact fun _ _ _ h => h
      case ff13M11 | rr13M11 => kernel_rfl
      case hw13M11 => rfl
      case hy13M11 => intro w hSw; (try dsimp only at hSw); first | (go_simp; done) | (go_simp; with_reducible rfl)
      try simp only [Act.put, List.setIfInBounds_toArray, List.set_cons_zero, List.set_cons_succ]
      refine wpAnyH_take (i := 14) (oi := ?oi14M11) (v := ?v14M11) ?oi0_14M11 (by kernel_rfl) ?ff14M11 ?rr14M11 ?hq14M11 (Or.inl ⟨?hw14M11, ?hy14M11⟩) (by assumption) ?rest14M11
      case oi0_14M11 => conv => lhs; whnf; arg 1; whnf
      case hq14M11 => exact fun _ _ _ h => h
      case ff14M11 | rr14M11 => kernel_rfl
      case hw14M11 => rfl
      case hy14M11 => intro w hSw; (try dsimp only at hSw); first | (go_simp; done) | (go_simp; with_reducible rfl)
      try simp only [Act.put, List.setIfInBounds_toArray, List.set_cons_zero, List.set_cons_succ]
      refine wpAnyH_take (i := 15) (oi := ?oi15M11) (v := ?v15M11) ?oi0_15M11 (by kernel_rfl) ?ff15M11 ?rr15M11 ?hq15M11 (Or.inl ⟨?hw15M11, ?hy15M11⟩) (by assumption) ?rest15M11
      case oi0_15M11 => conv => lhs; whnf; arg 1; whnf
      case hq15M11 => exact fun _ _ _ h => h
      case ff15M11 | rr15M11 => kernel_rfl
      case hw15M11 => rfl
      case hy15M11 => intro w hSw; (try dsimp only at hSw); first | (go_simp; done) | (go_simp; with_reducible rfl)
      try simp only [Act.put, List.setIfInBounds_toArray, List.set_cons_zero, List.set_cons_succ]
      refine wpAnyH_take (i := 16) (oi := ?oi16M11) (v := ?v16M11) ?oi0_16M11 (by kernel_rfl) ?ff16M11 ?rr16M11 ?hq16M11 (Or.inl ⟨?hw16M11, ?hy16M11⟩) (by assumption) ?rest16M11
      case oi0_16M11 => conv => lhs; whnf; arg 1; whnf
      case hq16M11 => exact fun _ _ _ h => h
      case ff16M11 | rr16M11 => kernel_rfl
      case hw16M11 => rfl
      case hy16M11 => intro w hSw; (try dsimp only at hSw); first | (go_simp; done) | (go_simp; with_reducible rfl)
      try simp only [Act.put, List.setIfInBounds_toArray, List.set_cons_zero, List.set_cons_succ]
      refine wpAnyH_take (i := 17) (oi := ?oi17M11) (v := ?v17M11) ?oi0_17M11 (by kernel_rfl) ?ff17M11 ?rr17M11 ?hq17M11 (Or.inl ⟨?hw17M11, ?hy17M11⟩) (by assumption) ?rest17M11
      case oi0_17M11 => conv => lhs; whnf; arg 1; whnf
      case hq17M11 => exact fun _ _ _ h => h
      case ff17M11 | rr17M11 => kernel_rfl
      case hw17M11 => rfl
      case hy17M11 => intro w hSw; (try dsimp only at hSw); first | (go_simp; done) | (go_simp; with_reducible rfl)
      try simp only [Act.put, List.setIfInBounds_toArray, List.set_cons_zero, List.set_cons_succ]
      refine wpAnyH_ready (rs := [1]) (by kernel_rfl) (by simp) (AllReadyH.cons (o := ?oiM12) ?oi0_M12 (fun K hK => ?_) AllReadyH.nil)
      case oi0_M12 => conv => lhs; whnf; arg 1; whnf
      go_simp
      obtain ⟨v5, hw⟩ : ∃ x, v4.alloc (.cells #[.int .i64 2, .int .i64 13, .int .i64 22] 3) = x := ⟨_, rfl⟩
      have u : Upd [] v4 v5 := by rw [← hw]; exact (Upd.refl [] _).alloc _
      have HLI := hide (show Blk v5 v4.heap.size 3 [.int .i64 2, .int .i64 13, .int .i64 22] by rw [← hw]; exact Blk.new v4 _ _)
      rw [hw]
      clear hw
      replace hB := hide (keepB hB.out u)
      replace hB4 := hide (keepB hB4.out u)
      replace hu := hide (hu.out.trans u (by simp))
      clear u
      (try dsimp only)
      refine hK.out _ _ (by exact ⟨(hB.out.cell 1).trans rfl, (hB.out.cell 2).trans rfl⟩) (fun hHeld => ?_)
      clear hK K
      try simp only [Act.put, List.setIfInBounds_toArray, List.set_cons_zero, List.set_cons_succ]
      refine wpAnyH_ready (rs := [2]) (by kernel_rfl) (by simp) (AllReadyH.cons (o := ?oiM13) ?oi0_M13 (fun K hK => ?_) AllReadyH.nil)
      case oi0_M13 => conv => lhs; whnf; arg 1; whnf
      go_simp
      go_at_call 145
      with_reducible (refine (mixed_three 2 13 22 x0 _ v5 (by decide) HX0.out HLI.out).mono ?_)
      rintro e w' ⟨rfl, rfl⟩
      (try dsimp only)
      refine hK.out _ _ (by exact ⟨(hB.out.cell 1).trans rfl, (hB.out.cell 2).trans rfl⟩) (fun hHeld => ?_)
      clear hK K
      try simp only [Act.put, List.setIfInBounds_toArray, List.set_cons_zero, List.set_cons_succ]
      refine wpAnyH_take (i := 18) (oi := ?oi18M14) (v := ?v18M14) ?oi0_18M14 (by kernel_rfl) ?ff18M14 ?rr18M14 ?hq18M14 (Or.inl ⟨?hw18M14, ?hy18M14⟩) (by assumption) ?rest18M14
      case oi0_18M14 => conv => lhs; whnf; arg 1; whnf
      case hq18M14 => exact fun _ _ _ h => h
      case ff18M14 | rr18M14 => kernel_rfl
      case hw18M14 => rfl
      case hy18M14 => intro w hSw; (try dsimp only at hSw); first | (go_simp; done) | (go_simp; with_reducible rfl)
      try simp only [Act.put, List.setIfInBounds_toArray, List.set_cons_zero, List.set_cons_succ]
      refine wpAnyH_take (i := 19) (oi := ?oi19M14) (v := ?v19M14) ?oi0_19M14 (by kernel_rfl) ?ff19M14 ?rr19M14 ?hq19M14 (Or.inl ⟨?hw19M14, ?hy19M14⟩) (by assumption) ?rest19M14
      case oi0_19M14 => conv => lhs; whnf; arg 1; whnf
      case hq19M14 => exact fun _ _ _ h => h
      case ff19M14 | rr19M14 => kernel_rfl
      case hw19M14 => rfl
      case hy19M14 => intro w hSw; (try dsimp only at hSw); first | (go_simp; done) | (go_simp; with_reducible rfl)
      try simp only [Act.put, List.setIfInBounds_toArray, List.set_cons_zero, List.set_cons_succ]
      refine wpAnyH_done (by kernel_rfl) ?_ _
      clear HLI
      obtain ⟨uv, huv⟩ : ∃ x, uS [x0, x1, x2, x3, x4, x5, x6, x7] = x := ⟨_, rfl⟩
      rw [show IntKind.u32.wrap (mixS [2, 13, 22] x0 + bits .xor .u32 (bits .xor .u32 (bits .and .u32 x0 x1) (bits .and .u32 x0 x2)) (bits .and .u32 x1 x2)) = uv from huv]
      have HUV := hide huv
      clear huv
      go_upto_region 8 with fail
      go_region_law (refine step_copy_blk rfl (.tmp 69) (.tmp 70) 110 110 rfl 109 Tryz.underlying110 (by kernel_rfl) b5 1 0 7 7 8 rfl rfl _ [.int .u32 x0, .int .u32 x1, .int .u32 x2, .int .u32 x3, .int .u32 x4, .int .u32 x5, .int .u32 x6] 193 (hB.out.drew) rfl (copy_src _ _ _ _ _ _ _ _) (by simp) (by simp [Value.oneCell']) ?_; intro w8 hB8 u8)
      have HU8 := hide ((hu.out.trans ((Upd.refl [] _).drew) (by simp)).trans u8 (by simp))
      replace hB8 := hide (show Blk w8 b5 193 [.int .u32 x0, .int .u32 x0, .int .u32 x1, .int .u32 x2, .int .u32 x3, .int .u32 x4, .int .u32 x5, .int .u32 x6] from hB8)
      have d4 : w8.cell? ⟨b5, 4, none⟩ = some (.int .u32 x3) := (hB8.out.cell 4).trans rfl
      have f0 := hB8.out.frozen 0
      have f4 := hB8.out.frozen 4
      have d0 : w8.cell? ⟨b5, 0, none⟩ = some (.int .u32 x0) := (hB8.out.cell 0).trans rfl
      clear u8
      go_wp2_with fail
      go_roundw
      case rel => exact ⟨k + 1, by omega, by go_num, hide (by rw [HNX.out]; unfold turnS; rw [HTV.out, HUV.out]; exact (hB8.out.set_ 0 _).set_ 4 _), hide ((HU8.out.setCell (.inl (by simp)) _).setCell (.inl (by simp)) _)⟩
      case measure => simp [intOf] <;> omega
end Go.Proofs.YtafjolibfbccbaaGreatDoor

namespace Go.Proofs.YtafjolibfbccbaaGreatDoor
open Go.RowKit
set_option maxRecDepth 100000
set_option maxHeartbeats 40000000

def dByte (s : List Int) (j : Nat) : Int := IntKind.u8.wrap (wat s (j / 4) / 2 ^ (24 - 8 * (j % 4)))
def digS (s : List Int) : List UInt8 := (List.range 32).map fun j => UInt8.ofNat (dByte s j).toNat
/-- The first n bytes, and zeros behind them. -/
def dCells (s : List Int) (n : Nat) : List Value := (List.range 32).map fun j => .int .u8 (if j < n then dByte s j else 0)
theorem digS_length (s : List Int) : (digS s).length = 32 := by simp [digS]
theorem dByte_in (s : List Int) (j : Nat) : 0 ≤ dByte s j ∧ dByte s j < 256 := by
  unfold dByte
  rw [IntKind.wrap_u8]
  omega
theorem dCells_all (s : List Int) : dCells s (4 * 8) = bCells (digS s) := by
  unfold dCells bCells digS
  rw [List.map_map]
  apply List.map_congr_left
  intro j hj
  rw [if_pos (by simpa using hj)]
  have h := dByte_in s j
  show _ = Value.int .u8 ((UInt8.ofNat (dByte s j).toNat).toNat : Int)
  rw [UInt8.toNat_ofNat', Nat.mod_eq_of_lt (by omega)]
  congr 1
  omega
theorem dCells_free (s : List Int) (n : Nat) (h : n < 32) : (dCells s n)[n]? = some (.int .u8 0) := by
  unfold dCells
  rw [List.getElem?_map, List.getElem?_range h]
  simp
theorem dCells_set (s : List Int) (n : Nat) (h : n < 32) : (dCells s n).set n (.int .u8 (dByte s n)) = dCells s (n + 1) := by
  unfold dCells
  apply List.ext_getElem?
  intro i
  rw [List.getElem?_set, List.getElem?_map, List.getElem?_map]
  by_cases hi : i < 32
  · rw [List.getElem?_range hi]
    by_cases hk : n = i
    · subst hk
      simp [h]
    · rw [if_neg hk]
      simp only [Option.map_some]
      by_cases h1 : i < n
      · rw [if_pos h1, if_pos (by omega)]
      · rw [if_neg h1, if_neg (by omega)]
  · rw [List.getElem?_eq_none (by simp; omega)]
    simp; omega
theorem digest_any (s : List Int) (w : World) (hs : s.length = 8) (hw : ∀ x ∈ s, Word x) :
    Calls Tryz.prog 130 #[.agg (s.map (Value.int .u32)).toArray] w fun e w' => e = .returned (.string ⟨(digS s).toArray⟩) ∧ Upd [] w w' := by
  obtain ⟨x0, x1, x2, x3, x4, x5, x6, x7, rfl⟩ := eight_of s hs
  have HW := hide hw
  clear hw hs
  show Calls Tryz.prog 130 #[.agg #[.int .u32 x0, .int .u32 x1, .int .u32 x2, .int .u32 x3, .int .u32 x4, .int .u32 x5, .int .u32 x6, .int .u32 x7]] w _
  have hidx : ∀ (W : World) (i : Nat), i < 8 → (Instr.index 193 (.agg #[.int .u32 x0, .int .u32 x1, .int .u32 x2, .int .u32 x3, .int .u32 x4, .int .u32 x5, .int .u32 x6, .int .u32 x7]) (.int .i64 (i : Int))).run Tryz.prog W = .ok (.int .u32 (wat [x0, x1, x2, x3, x4, x5, x6, x7] i)) W := by
    intro W i hi
    refine index_agg W Tryz.underlying193 Tryz.underlying109 (by kernel_rfl) i hi _ _ ?_
    match i, hi with
    | 0, _ => rfl
    | 1, _ => rfl
    | 2, _ => rfl
    | 3, _ => rfl
    | 4, _ => rfl
    | 5, _ => rfl
    | 6, _ => rfl
    | 7, _ => rfl
  have HIDX := hide hidx
  clear hidx
  obtain ⟨s, hs⟩ : ∃ s, [x0, x1, x2, x3, x4, x5, x6, x7] = s := ⟨_, rfl⟩
  rw [hs] at HIDX HW ⊢
  have HS := hide hs
  clear hs
  go_enter Tryz.func130, Tryz.ntmps130
  go_upto_region 2 with fail
  obtain ⟨w1, hw⟩ : ∃ x, w.alloc (.cells #[.int .u32 x0, .int .u32 x1, .int .u32 x2, .int .u32 x3, .int .u32 x4, .int .u32 x5, .int .u32 x6, .int .u32 x7] 193) = x := ⟨_, rfl⟩
  have HB1 := hide (show Blk w1 w.heap.size 193 [.int .u32 x0, .int .u32 x1, .int .u32 x2, .int .u32 x3, .int .u32 x4, .int .u32 x5, .int .u32 x6, .int .u32 x7] by rw [← hw]; exact Blk.new w _ _)
  have U1 := hide (show Upd [] w w1 by rw [← hw]; exact (Upd.refl [] _).alloc _)
  have hz1 : w1.heap.size = w.heap.size + 1 := by rw [← hw]; simp
  rw [hw]
  clear hw
  obtain ⟨w2, hw⟩ : ∃ x, w1.alloc (.cells #[.int .u8 0, .int .u8 0, .int .u8 0, .int .u8 0, .int .u8 0, .int .u8 0, .int .u8 0, .int .u8 0, .int .u8 0, .int .u8 0, .int .u8 0, .int .u8 0, .int .u8 0, .int .u8 0, .int .u8 0, .int .u8 0, .int .u8 0, .int .u8 0, .int .u8 0, .int .u8 0, .int .u8 0, .int .u8 0, .int .u8 0, .int .u8 0, .int .u8 0, .int .u8 0, .int .u8 0, .int .u8 0, .int .u8 0, .int .u8 0, .int .u8 0, .int .u8 0] 217) = x := ⟨_, rfl⟩
  have HB2 := hide (show Blk w2 w1.heap.size 217 [.int .u8 0, .int .u8 0, .int .u8 0, .int .u8 0, .int .u8 0, .int .u8 0, .int .u8 0, .int .u8 0, .int .u8 0, .int .u8 0, .int .u8 0, .int .u8 0, .int .u8 0, .int .u8 0, .int .u8 0, .int .u8 0, .int .u8 0, .int .u8 0, .int .u8 0, .int .u8 0, .int .u8 0, .int .u8 0, .int .u8 0, .int .u8 0, .int .u8 0, .int .u8 0, .int .u8 0, .int .u8 0, .int .u8 0, .int .u8 0, .int .u8 0, .int .u8 0] by rw [← hw]; exact Blk.new w1 _ _)
  have U2 := hide (show Upd [] w w2 by rw [← hw]; exact U1.out.alloc _)
  have HB12 := hide (show Blk w2 w.heap.size 193 [.int .u32 x0, .int .u32 x1, .int .u32 x2, .int .u32 x3, .int .u32 x4, .int .u32 x5, .int .u32 x6, .int .u32 x7] by rw [← hw]; exact HB1.out.alloc _)
  rw [hz1] at HB2
  clear hz1
  rw [hw]
  clear hw HB1 U1
  have c0 : w2.cell? ⟨w.heap.size, 0, none⟩ = some (.int .u32 x0) := (HB12.out.cell 0).trans rfl
  have c1 : w2.cell? ⟨w.heap.size, 1, none⟩ = some (.int .u32 x1) := (HB12.out.cell 1).trans rfl
  have c2 : w2.cell? ⟨w.heap.size, 2, none⟩ = some (.int .u32 x2) := (HB12.out.cell 2).trans rfl
  have c3 : w2.cell? ⟨w.heap.size, 3, none⟩ = some (.int .u32 x3) := (HB12.out.cell 3).trans rfl
  have c4 : w2.cell? ⟨w.heap.size, 4, none⟩ = some (.int .u32 x4) := (HB12.out.cell 4).trans rfl
  have c5 : w2.cell? ⟨w.heap.size, 5, none⟩ = some (.int .u32 x5) := (HB12.out.cell 5).trans rfl
  have c6 : w2.cell? ⟨w.heap.size, 6, none⟩ = some (.int .u32 x6) := (HB12.out.cell 6).trans rfl
  have c7 : w2.cell? ⟨w.heap.size, 7, none⟩ = some (.int .u32 x7) := (HB12.out.cell 7).trans rfl
  obtain ⟨b, hb⟩ : ∃ b, w.heap.size + 1 = b := ⟨_, rfl⟩
  rw [hb] at HB2 ⊢
  have HBB := hide hb
  clear hb
  go_upto_region 3 with fail
  clear c0 c1 c2 c3 c4 c5 c6 c7
  replace HB2 := hide (show Blk w2 b 217 (dCells s 0) from HB2.out)
  go_loopw [8] (fun s8 wr => ∃ i : Nat, i ≤ 8 ∧ s8 = .int .i64 i ∧ Hid (Blk wr b 217 (dCells s (4 * i))) ∧ Hid (Upd [b] w2 wr)) (fun s _ => 8 - (intOf s).toNat)
  case atStart => exact ⟨0, Nat.zero_le _, rfl, HB2, hide (Upd.refl _ _)⟩
  case round =>
    obtain ⟨i, hi, rfl, hB, hu⟩ := hrel
    obtain ⟨wo, rfl⟩ : ∃ x : World, x = wr := ⟨_, rfl⟩
    by_cases hi8 : i < 8
    case neg =>
      obtain rfl : i = 8 := by omega
      have hB32 := hide (show Blk wo b 217 (bCells (digS s)) from dCells_all s ▸ hB.out)
      have hconv := run_conv_bytes hB32.out 39 5 9 Tryz.underlying39 Tryz.underlying5 Tryz.underlying9 0 32 32 (by rw [digS_length]; exact Nat.le_refl _)
      have hlong : ¬ ((8 : Nat) : Int) < 8 := by omega
      go_wp2_with fail
      go_ret
      exact ⟨ret_eq (show Value.string ⟨(List.take 32 (digS s)).toArray⟩ = _ by rw [List.take_of_length_le (by rw [digS_length]; exact Nat.le_refl _)]), U2.out.trans hu.out (by simp; have := HBB.out; omega)⟩
    have hii : (i : Int) < 8 := by omega
    have hiw : IntKind.i64.wrap ((i : Int) + 1) = (i : Int) + 1 := Go.IntWalk.i64_in _ (by omega)
    have hix := fun W => HIDX.out W i hi8
    obtain ⟨xw, hxw⟩ : ∃ x, wat s i = x := ⟨_, rfl⟩
    rw [hxw] at hix
    have HXW := hide hxw
    have hwd := wat_word HW.out i
    rw [hxw] at hwd
    have hw0 := hwd.1
    have HWD := hide hwd
    clear hxw hwd
    go_upto_region 6 with fail
    go_loopw [12] (fun s12 wr => ∃ k : Nat, k ≤ 4 ∧ s12 = .int .i64 k ∧ Hid (Blk wr b 217 (dCells s (4 * i + k))) ∧ Hid (Upd [b] wo wr)) (fun s _ => 4 - (intOf s).toNat)
    case atStart => exact ⟨0, Nat.zero_le _, rfl, hB, hide (Upd.refl _ _)⟩
    case round =>
      obtain ⟨k, hk, rfl, hBk, huk⟩ := hrel
      obtain ⟨wx, rfl⟩ : ∃ x : World, x = wr := ⟨_, rfl⟩
      by_cases hk4 : k < 4
      case neg =>
        obtain rfl : k = 4 := by omega
        have hlong : ¬ ((4 : Nat) : Int) < 4 := by omega
        go_wp2_with fail
        go_roundw
        case rel => exact ⟨i + 1, by omega, by go_num, hBk, hide (hu.out.trans huk.out (by simp))⟩
        case measure => simp [intOf] <;> omega
      have hki : (k : Int) < 4 := by omega
      have hkw : IntKind.i64.wrap ((k : Int) + 1) = (k : Int) + 1 := Go.IntWalk.i64_in _ (by omega)
      obtain ⟨n, hn⟩ : ∃ n, 4 * i + k = n := ⟨_, rfl⟩
      rw [hn] at hBk
      have hn32 : n < 32 := by omega
      have hnl : (n : Int) < 32 := by omega
      have e1 : IntKind.i64.wrap (4 * (i : Int)) = 4 * (i : Int) := Go.IntWalk.i64_in _ (by omega)
      have e2 : IntKind.i64.wrap (4 * (i : Int) + (k : Int)) = (n : Int) := by rw [Go.IntWalk.i64_in _ (by omega)]; omega
      obtain ⟨q, hq⟩ : ∃ q, 24 - 8 * k = q := ⟨_, rfl⟩
      have hq32 : q < 32 := by omega
      have hqi : (q : Int) < 32 := by omega
      have e3 : IntKind.i64.wrap (8 * (k : Int)) = 8 * (k : Int) := Go.IntWalk.i64_in _ (by omega)
      have e4 : IntKind.i64.wrap (24 - 8 * (k : Int)) = (q : Int) := by rw [Go.IntWalk.i64_in _ (by omega)]; omega
      have HNX := hide (show (dCells s n).set n (.int .u8 (xw / 2 ^ q % 256)) = dCells s (4 * i + (k + 1)) by rw [← Nat.add_assoc, hn, ← dCells_set s n hn32]; unfold dByte; rw [show n / 4 = i by omega, show n % 4 = k by omega, HXW.out, hq, IntKind.wrap_u8])
      have fn := hBk.out.frozen n
      have cn : wx.cell? ⟨b, n, none⟩ = some (.int .u8 0) := (hBk.out.cell n).trans (dCells_free s n hn32)
      have HN := hide hn
      have HQ := hide hq
      clear hn hq
      go_wp2_with fail
      go_roundw
      case rel => exact ⟨k + 1, by omega, by go_num, hide (by rw [← HNX.out]; exact hBk.out.set_ n _), hide (huk.out.setCell (.inl (by simp)) _)⟩
      case measure => simp [intOf] <;> omega
end Go.Proofs.YtafjolibfbccbaaGreatDoor
