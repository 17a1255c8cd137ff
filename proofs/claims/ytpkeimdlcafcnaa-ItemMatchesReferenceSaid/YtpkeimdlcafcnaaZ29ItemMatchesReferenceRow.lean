/-
  ItemMatchesReference: the walk.
-/
import Derived.Test.YtpkeimdlcafcnaaZ28ItemMatchesReferenceRow
import Derived.Test.YtpkeimdlcafcnaaZ15ItemMatchesReferenceRow
import Derived.Test.YtpkeimdlcafcnaaZ26ItemMatchesReferenceRow

namespace Go.Proofs.Ytpkeimdlcafcnaa
open Go.RowKit
set_option maxRecDepth 100000
set_option maxHeartbeats 40000000

theorem ints_same {n₀ n₁ : Nat} (a : Option Addr) (n c : Nat) (xs : List Int) (a2 : Option Addr) (c2 : Nat) (w : World) (h1 : Ints n₀ w (.slice a n c) xs) (h2 : Ints n₁ w (.slice a2 n c2) xs) (hm : n ≤ maxLen) :
    Calls Try.prog 18 #[.slice a n c, .slice a2 n c2] w fun e w' => e = .returned (.bool true) ∧ Upd [] w w' := by
  refine (refInts a n c xs a2 n c2 xs w h1 h2 hm hm).mono fun e w' h => ?_
  rwa [decide_eq_true rfl] at h
theorem sps_same {n₀ n₁ : Nat} (a : Option Addr) (n c : Nat) (xs : List Sp) (a2 : Option Addr) (c2 : Nat) (w : World) (h1 : SpsAt n₀ w a xs) (h2 : SpsAt n₁ w a2 xs) (hn : n = xs.length) (hm : n ≤ maxLen) :
    Calls Try.prog 28 #[.slice a n c, .slice a2 n c2] w fun e w' => e = .returned (.bool true) ∧ Upd [] w w' := by
  refine (refSameSpells a n c xs a2 n c2 xs w h1 h2 hn hn hm hm).mono fun e w' h => ?_
  rwa [decide_eq_true rfl] at h
theorem made_fits {i : It} (h : ItOk i) : Fits64 i.len := by
  have := h.1.2.2
  unfold Fits64
  omega
theorem bent_fits {i : It} (h : Fits64 i.len) (how : Int) {n : Int} (hn : Fits64 n) (at_ : Int) : Fits64 (bentS i how n at_).len := by
  unfold bentS
  repeat' split
  all_goals first | exact h | exact hn
theorem itemMatchesReference_walk (r : It) (rta : Option Addr) (rtn rtc : Nat) (rka : Option Addr) (rkn rkc : Nat) (id x0 x1 x2 x3 x4 x5 how num at_ set_ : Int) (oa : Option Addr) (on oc : Nat) (ol : List Int) (len_ sec_ : Int) (w0 : World)
    (hraw : RawItem w0 rta rtn rtc rka rkn rkc r) (hid : Fits64 id) (h0 : Fits64 x0) (h1 : Fits64 x1) (h2 : Fits64 x2) (h3 : Fits64 x3) (h4 : Fits64 x4) (h5 : Fits64 x5) (hhow : Fits64 how) (hn : Fits64 num) (hat : Fits64 at_) (hset : Fits64 set_) (hodd : IntsArg w0 oa on oc ol) (hlen : Fits64 len_) (hsec : Fits64 sec_) :
    Calls Try.prog 3 #[.agg #[.int .i64 r.id, .int .i64 r.kind, .int .i64 r.len, .slice rta rtn rtc, .slice rka rkn rkc, .int .i64 r.artist, .int .i64 r.tempo, .int .i64 r.lang], .int .i64 id, .agg #[.int .i64 x0, .int .i64 x1, .int .i64 x2, .int .i64 x3, .int .i64 x4, .int .i64 x5], .int .i64 how, .int .i64 num, .int .i64 at_, .int .i64 set_, .slice oa on oc, .int .i64 len_, .int .i64 sec_] w0 fun e w' => e = .returned (.bool true) ∧ Upd [] w0 w' := by
  have hok := madeS_ok id x0 x1 x2 x3 x4 x5
  obtain ⟨i, hi⟩ : ∃ i, madeS id x0 x1 x2 x3 x4 x5 = i := ⟨_, rfl⟩
  rw [hi] at hok
  have HI := hide hi
  have HOK := hide hok
  obtain ⟨b, hb⟩ : ∃ b, bentS i how num at_ = b := ⟨_, rfl⟩
  have HBL := hide (bent_small hok how num at_)
  have HBF := hide (bent_fits (made_fits hok) how hn at_)
  rw [hb] at HBL HBF
  have HB := hide hb
  have RW := hide hraw
  have OA := hide hodd
  have ODD := hide (show Ints w0.heap.size w0 (.slice oa on oc) ol from by
    have := hodd.ints on (Nat.le_refl _) oc
    rwa [List.take_of_length_le (by have := hodd.1; omega)] at this)
  clear hi hok hb hraw hodd
  go_enter Try.func3, Try.ntmps3
  obtain ⟨w1, hw⟩ : ∃ x, w0.alloc (.cells #[.int .i64 r.id, .int .i64 r.kind, .int .i64 r.len, .slice rta rtn rtc, .slice rka rkn rkc, .int .i64 r.artist, .int .i64 r.tempo, .int .i64 r.lang] 24) = x := ⟨_, rfl⟩
  have u1 : Upd [] w0 w1 := by rw [← hw]; exact (Upd.refl [] _).alloc _
  have b1 : Blk w1 w0.heap.size 24 [.int .i64 r.id, .int .i64 r.kind, .int .i64 r.len, .slice rta rtn rtc, .slice rka rkn rkc, .int .i64 r.artist, .int .i64 r.tempo, .int .i64 r.lang] := by rw [← hw]; exact Blk.new w0 _ _
  have hz1 : w1.heap.size = w0.heap.size + 1 := by rw [← hw, World.size_alloc]
  obtain ⟨w2, hw2⟩ : ∃ x, w1.alloc (.cells #[.int .i64 x0, .int .i64 x1, .int .i64 x2, .int .i64 x3, .int .i64 x4, .int .i64 x5] 25) = x := ⟨_, rfl⟩
  have UU := hide (show Upd [] w0 w2 by rw [← hw2]; exact u1.alloc _)
  have BR := hide (show Blk w2 w0.heap.size 24 [.int .i64 r.id, .int .i64 r.kind, .int .i64 r.len, .slice rta rtn rtc, .slice rka rkn rkc, .int .i64 r.artist, .int .i64 r.tempo, .int .i64 r.lang] by rw [← hw2]; exact b1.alloc _)
  have BX := hide (show Blk w2 (w0.heap.size + 1) 25 [.int .i64 x0, .int .i64 x1, .int .i64 x2, .int .i64 x3, .int .i64 x4, .int .i64 x5] by rw [← hw2, ← hz1]; exact Blk.new w1 _ _)
  have HW := hide hw
  have HW2 := hide hw2
  clear hw hw2 u1 b1 hz1
  go_upto_region 1 with fail
  rw [HW.out, HW2.out]
  clear HW HW2
  go_wp2_with fail
  refine (sane_any _).mono ?_
  rintro e v1 ⟨rfl, u⟩
  replace UU := hide (UU.out.trans u (by simp))
  replace BR := hide (keepX BR.out u)
  replace BX := hide (keepX BX.out u)
  clear u
  have mi3 : min (rtn : Int) 6 = (r.trims.length : Int) := by have := RW.out.trims; omega
  have mi4 : min (rkn : Int) 6 = (r.talks.length : Int) := by have := RW.out.talks; omega
  have mb3 : r.trims.length ≤ rtc := by have := RW.out.trims; have := RW.out.htc; omega
  have mb4 : r.talks.length ≤ rkc := by have := RW.out.talks; have := RW.out.hkc; omega
  have m3 := BR.out.cell 3
  have m4 := BR.out.cell 4
  have z3 := BR.out.frozen 3
  have z4 := BR.out.frozen 4
  go_upto_region 4 with fail
  obtain ⟨v2, hw⟩ : ∃ x, (v1.setCell ⟨w0.heap.size, 3, none⟩ (.slice rta r.trims.length rtc)).setCell ⟨w0.heap.size, 4, none⟩ (.slice rka r.talks.length rkc) = x := ⟨_, rfl⟩
  replace BR := hide (show Blk v2 w0.heap.size 24 [.int .i64 r.id, .int .i64 r.kind, .int .i64 r.len, .slice rta r.trims.length rtc, .slice rka r.talks.length rkc, .int .i64 r.artist, .int .i64 r.tempo, .int .i64 r.lang] by rw [← hw]; exact (BR.out.set_ 3 _).set_ 4 _)
  replace BX := hide (show Blk v2 (w0.heap.size + 1) 25 [.int .i64 x0, .int .i64 x1, .int .i64 x2, .int .i64 x3, .int .i64 x4, .int .i64 x5] by rw [← hw]; exact (BX.out.far (by simp) _).far (by simp) _)
  replace UU := hide (show Upd [] w0 v2 by rw [← hw]; exact (UU.out.setCell (.inr (Nat.le_refl _)) _).setCell (.inr (Nat.le_refl _)) _)
  rw [hw]
  clear hw mi3 mi4 mb3 mb4 m3 m4 z3 z4
  have hr6 : r.trims.length ≤ 6 := by have := RW.out.trims; omega
  have hr7 : r.talks.length ≤ 6 := by have := RW.out.talks; omega
  have y0 := BX.out.cell 0
  have y1 := BX.out.cell 1
  have y2 := BX.out.cell 2
  have y3 := BX.out.cell 3
  have y4 := BX.out.cell 4
  have y5 := BX.out.cell 5
  go_wp2_with fail
  refine (made_any id x0 x1 x2 x3 x4 x5 _ hid h0 h1 h2 h3 h4 h5 i HI.out).mono ?_
  rintro e v3 ⟨ta, tc, ka, kc, rfl, it, u⟩
  clear y0 y1 y2 y3 y4 y5
  replace UU := hide (UU.out.trans u (by simp))
  replace BR := hide (keepX BR.out u)
  replace BX := hide (keepX BX.out u)
  have IT := hide (it)
  clear it
  clear u
  have y0 := BX.out.cell 0
  have y1 := BX.out.cell 1
  have y2 := BX.out.cell 2
  have y3 := BX.out.cell 3
  have y4 := BX.out.cell 4
  have y5 := BX.out.cell 5
  clear y0 y1 y2 y3 y4 y5
  clear BX
  obtain ⟨v4, hw⟩ : ∃ x, v3.alloc (.cells #[.int .i64 i.id, .int .i64 i.kind, .int .i64 i.len, .slice ta i.trims.length tc, .slice ka i.talks.length kc, .int .i64 i.artist, .int .i64 i.tempo, .int .i64 i.lang] 24) = x := ⟨_, rfl⟩
  have u : Upd [] v3 v4 := by rw [← hw]; exact (Upd.refl [] _).alloc _
  replace UU := hide (UU.out.trans u (by simp))
  replace BR := hide (keepX BR.out u)
  replace IT := hide (IT.out.upd u)
  have BM := hide (show Blk v4 v3.heap.size 24 [.int .i64 i.id, .int .i64 i.kind, .int .i64 i.len, .slice ta i.trims.length tc, .slice ka i.talks.length kc, .int .i64 i.artist, .int .i64 i.tempo, .int .i64 i.lang] by rw [← hw]; exact Blk.new v3 _ _)
  have HW := hide hw
  clear hw u
  go_upto_region 5 with fail
  rw [HW.out]
  clear HW
  obtain ⟨bm, hbm⟩ : ∃ b, v3.heap.size = b := ⟨_, rfl⟩
  rw [hbm] at BM ⊢
  clear hbm
  refine wp_region_held_drew (S := (fun w' => w'.cell? ⟨bm, 0, none⟩ = some (.int .i64 i.id) ∧ w'.cell? ⟨bm, 1, none⟩ = some (.int .i64 i.kind) ∧ w'.cell? ⟨bm, 2, none⟩ = some (.int .i64 i.len) ∧ w'.cell? ⟨bm, 3, none⟩ = some (.slice ta i.trims.length tc) ∧ w'.cell? ⟨bm, 4, none⟩ = some (.slice ka i.talks.length kc) ∧ w'.cell? ⟨bm, 5, none⟩ = some (.int .i64 i.artist) ∧ w'.cell? ⟨bm, 6, none⟩ = some (.int .i64 i.tempo) ∧ w'.cell? ⟨bm, 7, none⟩ = some (.int .i64 i.lang) ∧ w'.cell? ⟨w0.heap.size, 0, none⟩ = some (.int .i64 r.id) ∧ w'.cell? ⟨w0.heap.size, 1, none⟩ = some (.int .i64 r.kind) ∧ w'.cell? ⟨w0.heap.size, 2, none⟩ = some (.int .i64 r.len) ∧ w'.cell? ⟨w0.heap.size, 3, none⟩ = some (.slice rta r.trims.length rtc) ∧ w'.cell? ⟨w0.heap.size, 4, none⟩ = some (.slice rka r.talks.length rkc) ∧ w'.cell? ⟨w0.heap.size, 5, none⟩ = some (.int .i64 r.artist) ∧ w'.cell? ⟨w0.heap.size, 6, none⟩ = some (.int .i64 r.tempo) ∧ w'.cell? ⟨w0.heap.size, 7, none⟩ = some (.int .i64 r.lang))) (by kernel_rfl) (by exact ⟨BM.out.cell 0, BM.out.cell 1, BM.out.cell 2, BM.out.cell 3, BM.out.cell 4, BM.out.cell 5, BM.out.cell 6, BM.out.cell 7, BR.out.cell 0, BR.out.cell 1, BR.out.cell 2, BR.out.cell 3, BR.out.cell 4, BR.out.cell 5, BR.out.cell 6, BR.out.cell 7⟩) (fun hHeld => ?_)
  obtain ⟨v5, hwD⟩ : ∃ x, v4.drew = x := ⟨_, rfl⟩
  have u : Upd [] v4 v5 := by rw [← hwD]; exact (Upd.refl [] _).drew
  rw [hwD] at hHeld ⊢
  clear hwD
  replace UU := hide (UU.out.trans u (by simp))
  replace BR := hide (keepX BR.out u)
  replace IT := hide (IT.out.upd u)
  replace BM := hide (keepX BM.out u)
  clear u
  refine wpAnyH_take (i := 0) (oi := ?oi0M2) (v := ?v0M2) ?oi0_0M2 (by kernel_rfl) ?ff0M2 ?rr0M2 ?hq0M2 (Or.inl ⟨?hw0M2, ?hy0M2⟩) (by assumption) ?rest0M2
  case oi0_0M2 =>
    conv =>
      lhs
      whnf
      arg 1
      whnf
  case hq0M2 => exact fun _ _ _ h => h
  case ff0M2 => kernel_rfl
  case rr0M2 => kernel_rfl
  case hw0M2 => rfl
  case hy0M2 =>
    intro w hSw
    (try dsimp only at hSw)
    first
    | (go_simp; done)
    | (go_simp; with_reducible rfl)
  try simp only [Act.put, List.setIfInBounds_toArray, List.set_cons_zero, List.set_cons_succ]
  refine wpAnyH_take (i := 1) (oi := ?oi1M2) (v := ?v1M2) ?oi0_1M2 (by kernel_rfl) ?ff1M2 ?rr1M2 ?hq1M2 (Or.inl ⟨?hw1M2, ?hy1M2⟩) (by assumption) ?rest1M2
  case oi0_1M2 =>
    conv =>
      lhs
      whnf
      arg 1
      whnf
  case hq1M2 => exact fun _ _ _ h => h
  case ff1M2 => kernel_rfl
  case rr1M2 => kernel_rfl
  case hw1M2 => rfl
  case hy1M2 =>
    intro w hSw
    (try dsimp only at hSw)
    first
    | (go_simp; done)
    | (go_simp; with_reducible rfl)
  try simp only [Act.put, List.setIfInBounds_toArray, List.set_cons_zero, List.set_cons_succ]
  refine wpAnyH_take (i := 2) (oi := ?oi2M2) (v := ?v2M2) ?oi0_2M2 (by kernel_rfl) ?ff2M2 ?rr2M2 ?hq2M2 (Or.inl ⟨?hw2M2, ?hy2M2⟩) (by assumption) ?rest2M2
  case oi0_2M2 =>
    conv =>
      lhs
      whnf
      arg 1
      whnf
  case hq2M2 => exact fun _ _ _ h => h
  case ff2M2 => kernel_rfl
  case rr2M2 => kernel_rfl
  case hw2M2 => rfl
  case hy2M2 =>
    intro w hSw
    (try dsimp only at hSw)
    first
    | (go_simp; done)
    | (go_simp; with_reducible rfl)
  try simp only [Act.put, List.setIfInBounds_toArray, List.set_cons_zero, List.set_cons_succ]
  refine wpAnyH_take (i := 3) (oi := ?oi3M2) (v := ?v3M2) ?oi0_3M2 (by kernel_rfl) ?ff3M2 ?rr3M2 ?hq3M2 (Or.inl ⟨?hw3M2, ?hy3M2⟩) (by assumption) ?rest3M2
  case oi0_3M2 =>
    conv =>
      lhs
      whnf
      arg 1
      whnf
  case hq3M2 => exact fun _ _ _ h => h
  case ff3M2 => kernel_rfl
  case rr3M2 => kernel_rfl
  case hw3M2 => rfl
  case hy3M2 =>
    intro w hSw
    (try dsimp only at hSw)
    first
    | (go_simp; done)
    | (go_simp; with_reducible rfl)
  try simp only [Act.put, List.setIfInBounds_toArray, List.set_cons_zero, List.set_cons_succ]
  refine wpAnyH_take (i := 4) (oi := ?oi4M2) (v := ?v4M2) ?oi0_4M2 (by kernel_rfl) ?ff4M2 ?rr4M2 ?hq4M2 (Or.inl ⟨?hw4M2, ?hy4M2⟩) (by assumption) ?rest4M2
  case oi0_4M2 =>
    conv =>
      lhs
      whnf
      arg 1
      whnf
  case hq4M2 => exact fun _ _ _ h => h
  case ff4M2 => kernel_rfl
  case rr4M2 => kernel_rfl
  case hw4M2 => rfl
  case hy4M2 =>
    intro w hSw
    (try dsimp only at hSw)
    first
    | (go_simp; done)
    | (go_simp; with_reducible rfl)
  try simp only [Act.put, List.setIfInBounds_toArray, List.set_cons_zero, List.set_cons_succ]
  refine wpAnyH_take (i := 6) (oi := ?oi6M2) (v := ?v6M2) ?oi0_6M2 (by kernel_rfl) ?ff6M2 ?rr6M2 ?hq6M2 (Or.inl ⟨?hw6M2, ?hy6M2⟩) (by assumption) ?rest6M2
  case oi0_6M2 =>
    conv =>
      lhs
      whnf
      arg 1
      whnf
  case hq6M2 => exact fun _ _ _ h => h
  case ff6M2 => kernel_rfl
  case rr6M2 => kernel_rfl
  case hw6M2 => rfl
  case hy6M2 =>
    intro w hSw
    (try dsimp only at hSw)
    first
    | (go_simp; done)
    | (go_simp; with_reducible rfl)
  try simp only [Act.put, List.setIfInBounds_toArray, List.set_cons_zero, List.set_cons_succ]
  refine wpAnyH_take (i := 9) (oi := ?oi9M2) (v := ?v9M2) ?oi0_9M2 (by kernel_rfl) ?ff9M2 ?rr9M2 ?hq9M2 (Or.inl ⟨?hw9M2, ?hy9M2⟩) (by assumption) ?rest9M2
  case oi0_9M2 =>
    conv =>
      lhs
      whnf
      arg 1
      whnf
  case hq9M2 => exact fun _ _ _ h => h
  case ff9M2 => kernel_rfl
  case rr9M2 => kernel_rfl
  case hw9M2 => rfl
  case hy9M2 =>
    intro w hSw
    (try dsimp only at hSw)
    first
    | (go_simp; done)
    | (go_simp; with_reducible rfl)
  try simp only [Act.put, List.setIfInBounds_toArray, List.set_cons_zero, List.set_cons_succ]
  refine wpAnyH_ready (rs := [5]) (by kernel_rfl) (by simp) (AllReadyH.cons (o := ?oiM3) ?oi0_M3 (fun K hK => ?_) AllReadyH.nil)
  case oi0_M3 =>
    conv =>
      lhs
      whnf
      arg 1
      whnf
  go_simp
  go_at_call 11
  have hit := HOK.out.2.1.1.2
  have hik := HOK.out.2.1.2.2
  with_reducible (refine (refBent i ta tc ka kc how num at_ _ IT.out hit hik hhow hn hat).mono ?_)
  rintro e v6 ⟨bta, btc, bka, bkc, rfl, itb, u⟩
  rw [HB.out] at itb ⊢
  replace UU := hide (UU.out.trans u (by simp))
  replace BR := hide (keepX BR.out u)
  replace IT := hide (IT.out.upd u)
  replace BM := hide (keepX BM.out u)
  have ITB := hide (itb)
  clear itb
  clear u
  (try dsimp only)
  refine hK.out _ _ (by exact ⟨BM.out.cell 0, BM.out.cell 1, BM.out.cell 2, BM.out.cell 3, BM.out.cell 4, BM.out.cell 5, BM.out.cell 6, BM.out.cell 7, BR.out.cell 0, BR.out.cell 1, BR.out.cell 2, BR.out.cell 3, BR.out.cell 4, BR.out.cell 5, BR.out.cell 6, BR.out.cell 7⟩) (fun hHeld => ?_)
  clear hK K
  try simp only [Act.put, List.setIfInBounds_toArray, List.set_cons_zero, List.set_cons_succ]
  refine wpAnyH_ready (rs := [7]) (by kernel_rfl) (by simp) (AllReadyH.cons (o := ?oiM4) ?oi0_M4 (fun K hK => ?_) AllReadyH.nil)
  case oi0_M4 =>
    conv =>
      lhs
      whnf
      arg 1
      whnf
  go_simp
  obtain ⟨v7, hw⟩ : ∃ x, v6.alloc (.cells #[.int .i64 i.id, .int .i64 i.kind, .int .i64 i.len, .slice ta i.trims.length tc, .slice ka i.talks.length kc, .int .i64 i.artist, .int .i64 i.tempo, .int .i64 i.lang, .int .i64 b.id, .int .i64 b.kind, .int .i64 b.len, .slice bta b.trims.length btc, .slice bka b.talks.length bkc, .int .i64 b.artist, .int .i64 b.tempo, .int .i64 b.lang, .int .i64 r.id, .int .i64 r.kind, .int .i64 r.len, .slice rta r.trims.length rtc, .slice rka r.talks.length rkc, .int .i64 r.artist, .int .i64 r.tempo, .int .i64 r.lang] 24) = x := ⟨_, rfl⟩
  have u : Upd [] v6 v7 := by rw [← hw]; exact (Upd.refl [] _).alloc _
  replace UU := hide (UU.out.trans u (by simp))
  replace BR := hide (keepX BR.out u)
  replace IT := hide (IT.out.upd u)
  replace BM := hide (keepX BM.out u)
  replace ITB := hide (ITB.out.upd u)
  have LB := hide (show Blk v7 v6.heap.size 24 [.int .i64 i.id, .int .i64 i.kind, .int .i64 i.len, .slice ta i.trims.length tc, .slice ka i.talks.length kc, .int .i64 i.artist, .int .i64 i.tempo, .int .i64 i.lang, .int .i64 b.id, .int .i64 b.kind, .int .i64 b.len, .slice bta b.trims.length btc, .slice bka b.talks.length bkc, .int .i64 b.artist, .int .i64 b.tempo, .int .i64 b.lang, .int .i64 r.id, .int .i64 r.kind, .int .i64 r.len, .slice rta r.trims.length rtc, .slice rka r.talks.length rkc, .int .i64 r.artist, .int .i64 r.tempo, .int .i64 r.lang] by rw [← hw]; exact Blk.new v6 _ _)
  have HW := hide hw
  clear hw u
  rw [HW.out]
  clear HW
  (try dsimp only)
  refine hK.out _ _ (by exact ⟨BM.out.cell 0, BM.out.cell 1, BM.out.cell 2, BM.out.cell 3, BM.out.cell 4, BM.out.cell 5, BM.out.cell 6, BM.out.cell 7, BR.out.cell 0, BR.out.cell 1, BR.out.cell 2, BR.out.cell 3, BR.out.cell 4, BR.out.cell 5, BR.out.cell 6, BR.out.cell 7⟩) (fun hHeld => ?_)
  clear hK K
  try simp only [Act.put, List.setIfInBounds_toArray, List.set_cons_zero, List.set_cons_succ]
  refine wpAnyH_take (i := 8) (oi := ?oi8M5) (v := ?v8M5) ?oi0_8M5 (by kernel_rfl) ?ff8M5 ?rr8M5 ?hq8M5 (Or.inl ⟨?hw8M5, ?hy8M5⟩) (by assumption) ?rest8M5
  case oi0_8M5 =>
    conv =>
      lhs
      whnf
      arg 1
      whnf
  case hq8M5 => exact fun _ _ _ h => h
  case ff8M5 => kernel_rfl
  case rr8M5 => kernel_rfl
  case hw8M5 => rfl
  case hy8M5 =>
    intro w hSw
    (try dsimp only at hSw)
    first
    | (go_simp; done)
    | (go_simp; with_reducible rfl)
  try simp only [Act.put, List.setIfInBounds_toArray, List.set_cons_zero, List.set_cons_succ]
  refine wpAnyH_done (by kernel_rfl) ?_ _
  clear hit hik
  obtain ⟨lb, hlb⟩ : ∃ b, v6.heap.size = b := ⟨_, rfl⟩
  rw [hlb] at LB ⊢
  clear hlb
  obtain ⟨wd, rfl⟩ : ∃ x : World, x = v7 := ⟨_, rfl⟩
  have HALL := hide (show ∀ q : Nat, q < 3 → ∃ (j : It) (jta : Option Addr) (jtc : Nat) (jka : Option Addr) (jkc : Nat), (∀ W, Upd [] wd W → W.cell? ⟨lb, q * 8, none⟩ = some (.int .i64 j.id) ∧ W.cell? ⟨lb, q * 8 + 1, none⟩ = some (.int .i64 j.kind) ∧ W.cell? ⟨lb, q * 8 + 2, none⟩ = some (.int .i64 j.len) ∧ W.cell? ⟨lb, q * 8 + 3, none⟩ = some (.slice jta j.trims.length jtc) ∧ W.cell? ⟨lb, q * 8 + 4, none⟩ = some (.slice jka j.talks.length jkc) ∧ W.cell? ⟨lb, q * 8 + 5, none⟩ = some (.int .i64 j.artist) ∧ W.cell? ⟨lb, q * 8 + 6, none⟩ = some (.int .i64 j.tempo) ∧ W.cell? ⟨lb, q * 8 + 7, none⟩ = some (.int .i64 j.lang)) ∧ ItAt wd j jta jka ∧ j.trims.length ≤ 6 ∧ j.talks.length ≤ 6 ∧ Fits64 j.len from fun q hq => by
    rcases (show q = 0 ∨ q = 1 ∨ q = 2 by omega) with rfl | rfl | rfl
    · exact ⟨i, ta, tc, ka, kc, fun W hW => ⟨(LB.out.upd hW (by simp)).cell 0, (LB.out.upd hW (by simp)).cell 1, (LB.out.upd hW (by simp)).cell 2, (LB.out.upd hW (by simp)).cell 3, (LB.out.upd hW (by simp)).cell 4, (LB.out.upd hW (by simp)).cell 5, (LB.out.upd hW (by simp)).cell 6, (LB.out.upd hW (by simp)).cell 7⟩, IT.out, by have := HOK.out.2.1.1.2; omega, by have := HOK.out.2.1.2.2; omega, made_fits HOK.out⟩
    · exact ⟨b, bta, btc, bka, bkc, fun W hW => ⟨(LB.out.upd hW (by simp)).cell 8, (LB.out.upd hW (by simp)).cell 9, (LB.out.upd hW (by simp)).cell 10, (LB.out.upd hW (by simp)).cell 11, (LB.out.upd hW (by simp)).cell 12, (LB.out.upd hW (by simp)).cell 13, (LB.out.upd hW (by simp)).cell 14, (LB.out.upd hW (by simp)).cell 15⟩, ITB.out, by have := HBL.out.1; omega, by have := HBL.out.2; omega, HBF.out⟩
    · exact ⟨r, rta, rtc, rka, rkc, fun W hW => ⟨(LB.out.upd hW (by simp)).cell 16, (LB.out.upd hW (by simp)).cell 17, (LB.out.upd hW (by simp)).cell 18, (LB.out.upd hW (by simp)).cell 19, (LB.out.upd hW (by simp)).cell 20, (LB.out.upd hW (by simp)).cell 21, (LB.out.upd hW (by simp)).cell 22, (LB.out.upd hW (by simp)).cell 23⟩, (⟨RW.out.tAt, RW.out.kAt⟩ : ItAt w0 r rta rka).upd UU.out, hr6, hr7, RW.out.hlen⟩
  )
  clear IT ITB BM BR LB
  go_wp2_with fail
  go_loopw [89] (fun s89 wr => ∃ q : Nat, q ≤ 3 ∧ s89 = .int .i64 q ∧ Hid (Upd [] wd wr)) (fun k _ => 3 - (intOf k).toNat)
  case atStart => exact ⟨0, by omega, rfl, Upd.refl _ _⟩
  case round =>
    obtain ⟨q, hqq, rfl, L1⟩ := hrel
    obtain ⟨v8, rfl⟩ : ∃ x : World, x = wr := ⟨_, rfl⟩
    have u := L1.out
    clear u
    by_cases hq3 : q < 3
    case neg =>
      have hqi : ¬ (q : Int) < 3 := by omega
      go_wp2_with fail
      go_ret
      exact ⟨rfl, UU.out.trans L1.out (by simp)⟩
    have hqi : (q : Int) < 3 := by omega
    obtain ⟨j, jta, jtc, jka, jkc, hcells, itj, hj6, hj7, hjl⟩ := HALL.out q hq3
    obtain ⟨d0, d1, d2, d3, d4, d5, d6, d7⟩ := hcells _ L1.out
    have ITJ := hide (itj.upd L1.out)
    clear itj hcells
    go_upto_region 8 with fail
    obtain ⟨v9, hw⟩ : ∃ x, v8.alloc (.cells #[.int .i64 j.id, .int .i64 j.kind, .int .i64 j.len, .slice jta j.trims.length jtc, .slice jka j.talks.length jkc, .int .i64 j.artist, .int .i64 j.tempo, .int .i64 j.lang] 24) = x := ⟨_, rfl⟩
    have u : Upd [] v8 v9 := by rw [← hw]; exact (Upd.refl [] _).alloc _
    replace L1 := hide (L1.out.trans u (by simp))
    replace ITJ := hide (ITJ.out.upd u)
    have BJ := hide (show Blk v9 v8.heap.size 24 [.int .i64 j.id, .int .i64 j.kind, .int .i64 j.len, .slice jta j.trims.length jtc, .slice jka j.talks.length jkc, .int .i64 j.artist, .int .i64 j.tempo, .int .i64 j.lang] by rw [← hw]; exact Blk.new v8 _ _)
    have HW := hide hw
    clear hw u
    rw [HW.out]
    clear HW
    obtain ⟨bj, hbj⟩ : ∃ b, v8.heap.size = b := ⟨_, rfl⟩
    rw [hbj] at BJ ⊢
    clear hbj d0 d1 d2 d3 d4 d5 d6 d7
    obtain ⟨v, ka1, ka2⟩ := valid_pair j jta jtc jka jkc v9 ITJ.out hj6 hj7
    have KA1 := hide ka1
    have KA2 := hide ka2
    clear ka1 ka2
    obtain ⟨L, E, hL, kb1, kb2⟩ := lengths_pair j jta jtc jka jkc v9 ITJ.out hj6 hj7
    obtain ⟨ln, hln⟩ : ∃ n, L.length = n := ⟨_, rfl⟩
    simp only [hln] at kb1 kb2 hL
    have HLN := hide hln
    clear hln
    have KB1 := hide kb1
    have KB2 := hide kb2
    clear kb1 kb2
    obtain ⟨s, E2, kc1, kc2⟩ := encode_pair j jta jtc jka jkc v9 ITJ.out hj6 hj7
    have KC1 := hide kc1
    have KC2 := hide kc2
    clear kc1 kc2
    have UJ := hide (Upd.refl [] v9)
    refine wp_region_held_drew (S := (fun w' => w'.cell? ⟨bj, 0, none⟩ = some (.int .i64 j.id) ∧ w'.cell? ⟨bj, 1, none⟩ = some (.int .i64 j.kind) ∧ w'.cell? ⟨bj, 2, none⟩ = some (.int .i64 j.len) ∧ w'.cell? ⟨bj, 3, none⟩ = some (.slice jta j.trims.length jtc) ∧ w'.cell? ⟨bj, 4, none⟩ = some (.slice jka j.talks.length jkc) ∧ w'.cell? ⟨bj, 5, none⟩ = some (.int .i64 j.artist) ∧ w'.cell? ⟨bj, 6, none⟩ = some (.int .i64 j.tempo) ∧ w'.cell? ⟨bj, 7, none⟩ = some (.int .i64 j.lang))) (by kernel_rfl) (by exact ⟨BJ.out.cell 0, BJ.out.cell 1, BJ.out.cell 2, BJ.out.cell 3, BJ.out.cell 4, BJ.out.cell 5, BJ.out.cell 6, BJ.out.cell 7⟩) (fun hHeld => ?_)
    obtain ⟨v10, hwD⟩ : ∃ x, v9.drew = x := ⟨_, rfl⟩
    have u : Upd [] v9 v10 := by rw [← hwD]; exact (Upd.refl [] _).drew
    rw [hwD] at hHeld ⊢
    clear hwD
    replace L1 := hide (L1.out.trans u (by simp))
    replace ITJ := hide (ITJ.out.upd u)
    replace BJ := hide (keepX BJ.out u)
    replace UJ := hide (UJ.out.trans u (by simp))
    clear u
    refine wpAnyH_take (i := 0) (oi := ?oi0M8) (v := ?v0M8) ?oi0_0M8 (by kernel_rfl) ?ff0M8 ?rr0M8 ?hq0M8 (Or.inl ⟨?hw0M8, ?hy0M8⟩) (by assumption) ?rest0M8
    case oi0_0M8 =>
      conv =>
        lhs
        whnf
        arg 1
        whnf
    case hq0M8 => exact fun _ _ _ h => h
    case ff0M8 => kernel_rfl
    case rr0M8 => kernel_rfl
    case hw0M8 => rfl
    case hy0M8 =>
      intro w hSw
      (try dsimp only at hSw)
      first
      | (go_simp; done)
      | (go_simp; with_reducible rfl)
    try simp only [Act.put, List.setIfInBounds_toArray, List.set_cons_zero, List.set_cons_succ]
    refine wpAnyH_take (i := 2) (oi := ?oi2M8) (v := ?v2M8) ?oi0_2M8 (by kernel_rfl) ?ff2M8 ?rr2M8 ?hq2M8 (Or.inl ⟨?hw2M8, ?hy2M8⟩) (by assumption) ?rest2M8
    case oi0_2M8 =>
      conv =>
        lhs
        whnf
        arg 1
        whnf
    case hq2M8 => exact fun _ _ _ h => h
    case ff2M8 => kernel_rfl
    case rr2M8 => kernel_rfl
    case hw2M8 => rfl
    case hy2M8 =>
      intro w hSw
      (try dsimp only at hSw)
      first
      | (go_simp; done)
      | (go_simp; with_reducible rfl)
    try simp only [Act.put, List.setIfInBounds_toArray, List.set_cons_zero, List.set_cons_succ]
    refine wpAnyH_ready (rs := [1]) (by kernel_rfl) (by simp) (AllReadyH.cons (o := ?oiM9) ?oi0_M9 (fun K hK => ?_) AllReadyH.nil)
    case oi0_M9 =>
      conv =>
        lhs
        whnf
        arg 1
        whnf
    go_simp
    go_at_call 12
    with_reducible (refine (KA1.out _ UJ.out).mono ?_)
    rintro e v11 ⟨rfl, u⟩
    replace L1 := hide (L1.out.trans u (by simp))
    replace ITJ := hide (ITJ.out.upd u)
    replace BJ := hide (keepX BJ.out u)
    replace UJ := hide (UJ.out.trans u (by simp))
    clear u
    (try dsimp only)
    refine hK.out _ _ (by exact ⟨BJ.out.cell 0, BJ.out.cell 1, BJ.out.cell 2, BJ.out.cell 3, BJ.out.cell 4, BJ.out.cell 5, BJ.out.cell 6, BJ.out.cell 7⟩) (fun hHeld => ?_)
    clear hK K
    try simp only [Act.put, List.setIfInBounds_toArray, List.set_cons_zero, List.set_cons_succ]
    refine wpAnyH_ready (rs := [3]) (by kernel_rfl) (by simp) (AllReadyH.cons (o := ?oiM10) ?oi0_M10 (fun K hK => ?_) AllReadyH.nil)
    case oi0_M10 =>
      conv =>
        lhs
        whnf
        arg 1
        whnf
    go_simp
    go_at_call 13
    with_reducible (refine (KA2.out _ UJ.out).mono ?_)
    rintro e v12 ⟨rfl, u⟩
    replace L1 := hide (L1.out.trans u (by simp))
    replace ITJ := hide (ITJ.out.upd u)
    replace BJ := hide (keepX BJ.out u)
    replace UJ := hide (UJ.out.trans u (by simp))
    clear u
    (try dsimp only)
    refine hK.out _ _ (by exact ⟨BJ.out.cell 0, BJ.out.cell 1, BJ.out.cell 2, BJ.out.cell 3, BJ.out.cell 4, BJ.out.cell 5, BJ.out.cell 6, BJ.out.cell 7⟩) (fun hHeld => ?_)
    clear hK K
    try simp only [Act.put, List.setIfInBounds_toArray, List.set_cons_zero, List.set_cons_succ]
    refine wpAnyH_take (i := 4) (oi := ?oi4M11) (v := ?v4M11) ?oi0_4M11 (by kernel_rfl) ?ff4M11 ?rr4M11 ?hq4M11 (Or.inl ⟨?hw4M11, ?hy4M11⟩) (by assumption) ?rest4M11
    case oi0_4M11 =>
      conv =>
        lhs
        whnf
        arg 1
        whnf
    case hq4M11 => exact fun _ _ _ h => h
    case ff4M11 => kernel_rfl
    case rr4M11 => kernel_rfl
    case hw4M11 => rfl
    case hy4M11 =>
      intro w hSw
      (try dsimp only at hSw)
      first
      | (go_simp; done)
      | (go_simp; with_reducible rfl)
    try simp only [Act.put, List.setIfInBounds_toArray, List.set_cons_zero, List.set_cons_succ]
    refine wpAnyH_done (by kernel_rfl) ?_ _
    clear KA1 KA2
    have j0 := BJ.out.cell 0
    have j1 := BJ.out.cell 1
    have j2 := BJ.out.cell 2
    have j3 := BJ.out.cell 3
    have j4 := BJ.out.cell 4
    have j5 := BJ.out.cell 5
    have j6 := BJ.out.cell 6
    have j7 := BJ.out.cell 7
    go_wp2_with fail
    refine (KB1.out _ UJ.out).mono ?_
    rintro e v13 ⟨A1, c1, rfl, i1, u⟩
    clear j0 j1 j2 j3 j4 j5 j6 j7
    replace L1 := hide (L1.out.trans u (by simp))
    replace ITJ := hide (ITJ.out.upd u)
    replace BJ := hide (keepX BJ.out u)
    replace UJ := hide (UJ.out.trans u (by simp))
    have I1 := hide (i1)
    clear i1
    clear u
    have j0 := BJ.out.cell 0
    have j1 := BJ.out.cell 1
    have j2 := BJ.out.cell 2
    have j3 := BJ.out.cell 3
    have j4 := BJ.out.cell 4
    have j5 := BJ.out.cell 5
    have j6 := BJ.out.cell 6
    have j7 := BJ.out.cell 7
    go_wp2_with fail
    refine (KB2.out _ UJ.out).mono ?_
    rintro e v14 ⟨A2, c2, rfl, i2, u⟩
    clear j0 j1 j2 j3 j4 j5 j6 j7
    replace L1 := hide (L1.out.trans u (by simp))
    replace ITJ := hide (ITJ.out.upd u)
    replace BJ := hide (keepX BJ.out u)
    replace UJ := hide (UJ.out.trans u (by simp))
    replace I1 := hide (keepI I1.out u)
    have I2 := hide (i2)
    clear i2
    clear u
    have j0 := BJ.out.cell 0
    have j1 := BJ.out.cell 1
    have j2 := BJ.out.cell 2
    have j3 := BJ.out.cell 3
    have j4 := BJ.out.cell 4
    have j5 := BJ.out.cell 5
    have j6 := BJ.out.cell 6
    have j7 := BJ.out.cell 7
    go_wp2_with fail
    refine (KC1.out _ UJ.out).mono ?_
    rintro e v15 ⟨rfl, u⟩
    clear j0 j1 j2 j3 j4 j5 j6 j7
    replace L1 := hide (L1.out.trans u (by simp))
    replace ITJ := hide (ITJ.out.upd u)
    replace BJ := hide (keepX BJ.out u)
    replace UJ := hide (UJ.out.trans u (by simp))
    replace I1 := hide (keepI I1.out u)
    replace I2 := hide (keepI I2.out u)
    clear u
    have j0 := BJ.out.cell 0
    have j1 := BJ.out.cell 1
    have j2 := BJ.out.cell 2
    have j3 := BJ.out.cell 3
    have j4 := BJ.out.cell 4
    have j5 := BJ.out.cell 5
    have j6 := BJ.out.cell 6
    have j7 := BJ.out.cell 7
    go_wp2_with fail
    refine (KC2.out _ UJ.out).mono ?_
    rintro e v16 ⟨rfl, u⟩
    clear j0 j1 j2 j3 j4 j5 j6 j7
    replace L1 := hide (L1.out.trans u (by simp))
    replace ITJ := hide (ITJ.out.upd u)
    replace BJ := hide (keepX BJ.out u)
    replace UJ := hide (UJ.out.trans u (by simp))
    replace I1 := hide (keepI I1.out u)
    replace I2 := hide (keepI I2.out u)
    clear u
    have j0 := BJ.out.cell 0
    have j1 := BJ.out.cell 1
    have j2 := BJ.out.cell 2
    have j3 := BJ.out.cell 3
    have j4 := BJ.out.cell 4
    have j5 := BJ.out.cell 5
    have j6 := BJ.out.cell 6
    have j7 := BJ.out.cell 7
    clear KB1 KB2 KC1 KC2
    clear j0 j1 j2 j3 j4 j5 j6 j7
    go_wp2_with fail
    refine (ints_same A1 ln c1 L A2 c2 _ I1.out I2.out (by unfold maxLen; omega)).mono ?_
    rintro e v17 ⟨rfl, u⟩
    replace L1 := hide (L1.out.trans u (by simp))
    replace ITJ := hide (ITJ.out.upd u)
    replace BJ := hide (keepX BJ.out u)
    replace UJ := hide (UJ.out.trans u (by simp))
    replace I1 := hide (keepI I1.out u)
    replace I2 := hide (keepI I2.out u)
    clear u
    clear I1
    go_upto_if 140 with fail
    go_cut [33] from 138 to 147 (fun s33 wx => ∃ k : Int, s33 = .int .i64 k ∧ Hid (Upd [] v17 wx))
    case first =>
      rcases Nat.eq_zero_or_pos ln with hl0 | hl0
      · subst hl0
        go_wp2_with fail
        go_meet
        exact ⟨_, rfl, Upd.refl _ _⟩
      · have hl0i : (0 : Int) < ln := by omega
        obtain ⟨x, hx⟩ : ∃ x : Nat, pickS len_ ln = x := ⟨(pickS len_ ln).toNat, by have := pickS_bounds len_ ln hl0i; omega⟩
        have hxb : x < ln := by have := pickS_bounds len_ ln hl0i; omega
        obtain ⟨z, hz⟩ : ∃ z, L[x]? = some z := ⟨_, List.getElem?_eq_getElem (by have := HLN.out; omega)⟩
        obtain ⟨zb, zo, ez, _, hc⟩ := I2.out.form.2 x z hz
        subst ez
        have PK := hide (show ∀ W, Calls Try.prog 19 #[.int .i64 len_, .int .i64 ln] W fun e w' => e = .returned (.int .i64 (x : Int)) ∧ W = w' from fun W => by rw [← hx]; exact lawPick len_ ln W hlen.1 hlen.2 hl0i (by omega))
        have hxi : (x : Int) < ln := by omega
        clear hx hz
        go_wp2_with fail
        refine (PK.out _).mono ?_
        rintro e w' ⟨rfl, rfl⟩
        go_wp2_with fail
        go_meet
        exact ⟨_, rfl, Upd.refl _ _⟩
    case rest =>
      obtain ⟨k9, rfl, hcut⟩ := hcut
      obtain ⟨v18, rfl⟩ : ∃ x : World, x = wc := ⟨_, rfl⟩
      have u := hcut.out
      clear I2
      replace L1 := hide (L1.out.trans u (by simp))
      replace ITJ := hide (ITJ.out.upd u)
      replace BJ := hide (keepX BJ.out u)
      replace UJ := hide (UJ.out.trans u (by simp))
      clear u hcut
      obtain ⟨v19, hw⟩ : ∃ x, v18.alloc (.cells #[.int .i64 len_, .int .i64 k9] 3) = x := ⟨_, rfl⟩
      have u : Upd [] v18 v19 := by rw [← hw]; exact (Upd.refl [] _).alloc _
      replace L1 := hide (L1.out.trans u (by simp))
      replace ITJ := hide (ITJ.out.upd u)
      replace BJ := hide (keepX BJ.out u)
      replace UJ := hide (UJ.out.trans u (by simp))
      have LT := hide (show Blk v19 v18.heap.size 3 [.int .i64 len_, .int .i64 k9] by rw [← hw]; exact Blk.new v18 _ _)
      have HW := hide hw
      clear hw u
      go_wp2_with fail
      rw [HW.out]
      clear HW
      obtain ⟨G2, hG⟩ : ∃ b, v18.heap.size = b := ⟨_, rfl⟩
      rw [hG] at LT ⊢
      clear hG
      have HK := hide (show ∀ q : Nat, q < 2 → ∃ z : Int, ∀ W, Upd [] v19 W → W.cell? ⟨G2, q, none⟩ = some (.int .i64 z) from fun q hq => by
        rcases (show q = 0 ∨ q = 1 by omega) with rfl | rfl
        · exact ⟨len_, fun W hW => (LT.out.upd hW (by simp)).cell 0⟩
        · exact ⟨k9, fun W hW => (LT.out.upd hW (by simp)).cell 1⟩
      )
      clear LT
      go_loopw [152] (fun s wr => ∃ q : Nat, q ≤ 2 ∧ s = .int .i64 q ∧ Hid (Upd [] v19 wr)) (fun k _ => 2 - (intOf k).toNat)
      case atStart => exact ⟨0, by omega, rfl, Upd.refl _ _⟩
      case round =>
        obtain ⟨g, hqg, rfl, L2⟩ := hrel
        obtain ⟨v20, rfl⟩ : ∃ x : World, x = wr := ⟨_, rfl⟩
        have u := L2.out
        replace L1 := hide (L1.out.trans u (by simp))
        replace ITJ := hide (ITJ.out.upd u)
        replace BJ := hide (keepX BJ.out u)
        replace UJ := hide (UJ.out.trans u (by simp))
        clear u
        by_cases hg2 : g < 2
        case pos =>
          obtain ⟨z, hz⟩ := HK.out g hg2
          have f1 := hz _ L2.out
          clear hz
          have hgi : (g : Int) < 2 := by omega
          obtain ⟨B, E3, hB, kd1, kd2⟩ := cut_pair j jta jtc jka jkc v20 ITJ.out hj6 hj7 z
          obtain ⟨bn, hbn⟩ : ∃ n, B.length = n := ⟨_, rfl⟩
          simp only [hbn] at kd1 kd2 hB
          clear hbn
          have KD1 := hide kd1
          have KD2 := hide kd2
          clear kd1 kd2
          have UC := hide (Upd.refl [] v20)
          have j0 := BJ.out.cell 0
          have j1 := BJ.out.cell 1
          have j2 := BJ.out.cell 2
          have j3 := BJ.out.cell 3
          have j4 := BJ.out.cell 4
          have j5 := BJ.out.cell 5
          have j6 := BJ.out.cell 6
          have j7 := BJ.out.cell 7
          go_wp2_with fail
          refine (KD1.out _ UC.out).mono ?_
          rintro e v21 ⟨A3, c3, rfl, i3, u⟩
          clear j0 j1 j2 j3 j4 j5 j6 j7
          replace L1 := hide (L1.out.trans u (by simp))
          replace ITJ := hide (ITJ.out.upd u)
          replace BJ := hide (keepX BJ.out u)
          replace UJ := hide (UJ.out.trans u (by simp))
          replace L2 := hide (L2.out.trans u (by simp))
          replace UC := hide (UC.out.trans u (by simp))
          have I3 := hide (i3)
          clear i3
          clear u
          have j0 := BJ.out.cell 0
          have j1 := BJ.out.cell 1
          have j2 := BJ.out.cell 2
          have j3 := BJ.out.cell 3
          have j4 := BJ.out.cell 4
          have j5 := BJ.out.cell 5
          have j6 := BJ.out.cell 6
          have j7 := BJ.out.cell 7
          clear f1
          go_wp2_with fail
          refine (KD2.out _ UC.out).mono ?_
          rintro e v22 ⟨A4, c4, rfl, i4, u⟩
          clear j0 j1 j2 j3 j4 j5 j6 j7
          replace L1 := hide (L1.out.trans u (by simp))
          replace ITJ := hide (ITJ.out.upd u)
          replace BJ := hide (keepX BJ.out u)
          replace UJ := hide (UJ.out.trans u (by simp))
          replace L2 := hide (L2.out.trans u (by simp))
          replace UC := hide (UC.out.trans u (by simp))
          replace I3 := hide (keepI I3.out u)
          have I4 := hide (i4)
          clear i4
          clear u
          have j0 := BJ.out.cell 0
          have j1 := BJ.out.cell 1
          have j2 := BJ.out.cell 2
          have j3 := BJ.out.cell 3
          have j4 := BJ.out.cell 4
          have j5 := BJ.out.cell 5
          have j6 := BJ.out.cell 6
          have j7 := BJ.out.cell 7
          clear j0 j1 j2 j3 j4 j5 j6 j7
          go_wp2_with fail
          refine (ints_same A3 bn c3 B A4 c4 _ I3.out I4.out (by unfold maxLen; omega)).mono ?_
          rintro e v23 ⟨rfl, u⟩
          replace L1 := hide (L1.out.trans u (by simp))
          replace ITJ := hide (ITJ.out.upd u)
          replace BJ := hide (keepX BJ.out u)
          replace UJ := hide (UJ.out.trans u (by simp))
          replace L2 := hide (L2.out.trans u (by simp))
          replace UC := hide (UC.out.trans u (by simp))
          replace I3 := hide (keepI I3.out u)
          replace I4 := hide (keepI I4.out u)
          clear u
          go_wp2_with fail
          go_roundw
          case rel => exact ⟨g + 1, by omega, by go_num, L2⟩
          case measure => simp [intOf] <;> omega
        have hgi : ¬ (g : Int) < 2 := by omega
        clear L2
        clear HK
        obtain ⟨cb, hcb⟩ : ∃ c, bitsS (pickS set_ 16).toNat j.trims.length = c := ⟨_, rfl⟩
        obtain ⟨cn, hcn⟩ : ∃ n, cb.length = n := ⟨_, rfl⟩
        have hcn6 : cn ≤ 6 := by rw [← hcn, ← hcb]; exact Nat.le_trans (bitsS_length _ _) hj6
        have CO := hide (show ∀ W, Calls Try.prog 22 #[.agg #[.int .i64 j.id, .int .i64 j.kind, .int .i64 j.len, .slice jta j.trims.length jtc, .slice jka j.talks.length jkc, .int .i64 j.artist, .int .i64 j.tempo, .int .i64 j.lang], .int .i64 set_] W fun e w' => ∃ A c, e = .returned (.slice A cn c) ∧ Ints w'.heap.size w' (.slice A cn c) cb ∧ Upd [] W w' from fun W => by
          refine (cutOf6 j jta j.trims.length jtc jka j.talks.length jkc set_ W hj6 hset.1 hset.2).mono fun e w' h => ?_
          rw [hcb] at h
          obtain ⟨A, c, rfl, ho, hu⟩ := h
          have h9 := it_own_ints ho
          rw [hcn] at h9 ⊢
          exact ⟨A, c, rfl, h9, hu⟩)
        clear hcb hcn
        have j0 := BJ.out.cell 0
        have j1 := BJ.out.cell 1
        have j2 := BJ.out.cell 2
        have j3 := BJ.out.cell 3
        have j4 := BJ.out.cell 4
        have j5 := BJ.out.cell 5
        have j6 := BJ.out.cell 6
        have j7 := BJ.out.cell 7
        go_wp2_with fail
        refine (CO.out _).mono ?_
        rintro e v24 ⟨A5, c5, rfl, i5, u⟩
        clear j0 j1 j2 j3 j4 j5 j6 j7
        replace L1 := hide (L1.out.trans u (by simp))
        replace ITJ := hide (ITJ.out.upd u)
        replace BJ := hide (keepX BJ.out u)
        replace UJ := hide (UJ.out.trans u (by simp))
        have I5 := hide (i5)
        clear i5
        clear u
        have j0 := BJ.out.cell 0
        have j1 := BJ.out.cell 1
        have j2 := BJ.out.cell 2
        have j3 := BJ.out.cell 3
        have j4 := BJ.out.cell 4
        have j5 := BJ.out.cell 5
        have j6 := BJ.out.cell 6
        have j7 := BJ.out.cell 7
        clear j0 j1 j2 j3 j4 j5 j6 j7
        go_wp2_with fail
        have OI := hide (ints_upd ODD.out (UU.out.trans L1.out (by simp)) (Nat.le_refl _) (by simp))
        refine (few6 oa on oc ol _ OI.out OA.out.2.1 OA.out.2.2.1).mono ?_
        rintro e w' ⟨kf, cf, rfl, hf6, _, _, _, ifw, rfl⟩
        have IF := hide (ifw.mono (UU.out.trans L1.out (by simp)).size)
        clear ifw
        obtain ⟨v25, hw⟩ : ∃ x, v24.alloc (.cells #[.slice A5 cn c5, .slice oa kf cf] 26) = x := ⟨_, rfl⟩
        have u : Upd [] v24 v25 := by rw [← hw]; exact (Upd.refl [] _).alloc _
        replace L1 := hide (L1.out.trans u (by simp))
        replace ITJ := hide (ITJ.out.upd u)
        replace BJ := hide (keepX BJ.out u)
        replace UJ := hide (UJ.out.trans u (by simp))
        replace I5 := hide (keepI I5.out u)
        replace IF := hide (keepI IF.out u)
        have LT := hide (show Blk v25 v24.heap.size 26 [.slice A5 cn c5, .slice oa kf cf] by rw [← hw]; exact Blk.new v24 _ _)
        have HW := hide hw
        clear hw u
        go_wp2_with fail
        rw [HW.out]
        clear HW
        obtain ⟨G3, hG⟩ : ∃ b, v24.heap.size = b := ⟨_, rfl⟩
        rw [hG] at LT ⊢
        clear hG
        have HZ := hide (show ∀ q : Nat, q < 2 → ∃ (Z : Option Addr) (zm zc : Nat) (zs : List Int), (∀ W, Upd [] v25 W → W.cell? ⟨G3, q, none⟩ = some (.slice Z zm zc)) ∧ Ints v25.heap.size v25 (.slice Z zm zc) zs ∧ zm ≤ 6 from fun q hq => by
          rcases (show q = 0 ∨ q = 1 by omega) with rfl | rfl
          · exact ⟨A5, cn, c5, cb, fun W hW => (LT.out.upd hW (by simp)).cell 0, I5.out, hcn6⟩
          · exact ⟨oa, kf, cf, ol.take kf, fun W hW => (LT.out.upd hW (by simp)).cell 1, IF.out, hf6⟩
        )
        clear LT
        go_loopw [185] (fun s wr => ∃ q : Nat, q ≤ 2 ∧ s = .int .i64 q ∧ Hid (Upd [] v25 wr)) (fun k _ => 2 - (intOf k).toNat)
        case atStart => exact ⟨0, by omega, rfl, Upd.refl _ _⟩
        case round =>
          obtain ⟨g3, hqg3, rfl, L3⟩ := hrel
          obtain ⟨v26, rfl⟩ : ∃ x : World, x = wr := ⟨_, rfl⟩
          have u := L3.out
          replace L1 := hide (L1.out.trans u (by simp))
          replace ITJ := hide (ITJ.out.upd u)
          replace BJ := hide (keepX BJ.out u)
          replace UJ := hide (UJ.out.trans u (by simp))
          clear u
          by_cases hg3 : g3 < 2
          case neg =>
            have hgi3 : ¬ (g3 : Int) < 2 := by omega
            go_wp2_with fail
            go_roundw
            case rel => exact ⟨q + 1, by omega, by go_num, L1⟩
            case measure => simp [intOf] <;> omega
          have hgi3 : (g3 : Int) < 2 := by omega
          obtain ⟨Z, zm, zc, zs, hzc, hzi, hz6⟩ := HZ.out g3 hg3
          have f2 := hzc _ L3.out
          have IZ := hide (keepI hzi L3.out)
          clear hzc hzi
          have hzm : zm ≤ maxLen := by unfold maxLen; omega
          obtain ⟨lr, E4, hlr, ke1, ke2⟩ := length_pair j jta jtc jka jkc v26 ITJ.out hj6 hj7 Z zm zc zs IZ.out hzm
          have KE1 := hide ke1
          have KE2 := hide ke2
          clear ke1 ke2
          obtain ⟨T, E5, hT, kf1, kf2⟩ := talk_pair j jta jtc jka jkc v26 ITJ.out hj6 hj7 Z zm zc zs IZ.out hzm
          obtain ⟨tn9, htn9⟩ : ∃ n, T.length = n := ⟨_, rfl⟩
          simp only [htn9] at kf1 kf2 hT
          have HTN := hide htn9
          clear htn9
          have KF1 := hide kf1
          have KF2 := hide kf2
          clear kf1 kf2
          have UT := hide (Upd.refl [] v26)
          have j0 := BJ.out.cell 0
          have j1 := BJ.out.cell 1
          have j2 := BJ.out.cell 2
          have j3 := BJ.out.cell 3
          have j4 := BJ.out.cell 4
          have j5 := BJ.out.cell 5
          have j6 := BJ.out.cell 6
          have j7 := BJ.out.cell 7
          go_wp2_with fail
          refine (KE1.out _ UT.out).mono ?_
          rintro e v27 ⟨rfl, u⟩
          clear j0 j1 j2 j3 j4 j5 j6 j7
          replace L1 := hide (L1.out.trans u (by simp))
          replace ITJ := hide (ITJ.out.upd u)
          replace BJ := hide (keepX BJ.out u)
          replace UJ := hide (UJ.out.trans u (by simp))
          replace L3 := hide (L3.out.trans u (by simp))
          replace IZ := hide (keepI IZ.out u)
          replace UT := hide (UT.out.trans u (by simp))
          clear u
          have j0 := BJ.out.cell 0
          have j1 := BJ.out.cell 1
          have j2 := BJ.out.cell 2
          have j3 := BJ.out.cell 3
          have j4 := BJ.out.cell 4
          have j5 := BJ.out.cell 5
          have j6 := BJ.out.cell 6
          have j7 := BJ.out.cell 7
          clear f2
          go_wp2_with fail
          refine (KE2.out _ UT.out).mono ?_
          rintro e v28 ⟨rfl, u⟩
          clear j0 j1 j2 j3 j4 j5 j6 j7
          replace L1 := hide (L1.out.trans u (by simp))
          replace ITJ := hide (ITJ.out.upd u)
          replace BJ := hide (keepX BJ.out u)
          replace UJ := hide (UJ.out.trans u (by simp))
          replace L3 := hide (L3.out.trans u (by simp))
          replace IZ := hide (keepI IZ.out u)
          replace UT := hide (UT.out.trans u (by simp))
          clear u
          have j0 := BJ.out.cell 0
          have j1 := BJ.out.cell 1
          have j2 := BJ.out.cell 2
          have j3 := BJ.out.cell 3
          have j4 := BJ.out.cell 4
          have j5 := BJ.out.cell 5
          have j6 := BJ.out.cell 6
          have j7 := BJ.out.cell 7
          go_wp2_with fail
          refine (KF1.out _ UT.out).mono ?_
          rintro e v29 ⟨A6, c6, rfl, s6, u⟩
          clear j0 j1 j2 j3 j4 j5 j6 j7
          replace L1 := hide (L1.out.trans u (by simp))
          replace ITJ := hide (ITJ.out.upd u)
          replace BJ := hide (keepX BJ.out u)
          replace UJ := hide (UJ.out.trans u (by simp))
          replace L3 := hide (L3.out.trans u (by simp))
          replace IZ := hide (keepI IZ.out u)
          replace UT := hide (UT.out.trans u (by simp))
          have S6 := hide (s6)
          clear s6
          clear u
          have j0 := BJ.out.cell 0
          have j1 := BJ.out.cell 1
          have j2 := BJ.out.cell 2
          have j3 := BJ.out.cell 3
          have j4 := BJ.out.cell 4
          have j5 := BJ.out.cell 5
          have j6 := BJ.out.cell 6
          have j7 := BJ.out.cell 7
          go_wp2_with fail
          refine (KF2.out _ UT.out).mono ?_
          rintro e v30 ⟨A7, c7, rfl, s7, u⟩
          clear j0 j1 j2 j3 j4 j5 j6 j7
          replace L1 := hide (L1.out.trans u (by simp))
          replace ITJ := hide (ITJ.out.upd u)
          replace BJ := hide (keepX BJ.out u)
          replace UJ := hide (UJ.out.trans u (by simp))
          replace L3 := hide (L3.out.trans u (by simp))
          replace IZ := hide (keepI IZ.out u)
          replace UT := hide (UT.out.trans u (by simp))
          replace S6 := hide (keepS S6.out u)
          have S7 := hide (s7)
          clear s7
          clear u
          have j0 := BJ.out.cell 0
          have j1 := BJ.out.cell 1
          have j2 := BJ.out.cell 2
          have j3 := BJ.out.cell 3
          have j4 := BJ.out.cell 4
          have j5 := BJ.out.cell 5
          have j6 := BJ.out.cell 6
          have j7 := BJ.out.cell 7
          clear j0 j1 j2 j3 j4 j5 j6 j7
          clear KE1 KE2 KF1 KF2
          go_wp2_with fail
          refine (sps_same A6 tn9 c6 T A7 c7 _ S6.out S7.out HTN.out.symm (by unfold maxLen; omega)).mono ?_
          rintro e v31 ⟨rfl, u⟩
          replace L1 := hide (L1.out.trans u (by simp))
          replace ITJ := hide (ITJ.out.upd u)
          replace BJ := hide (keepX BJ.out u)
          replace UJ := hide (UJ.out.trans u (by simp))
          replace L3 := hide (L3.out.trans u (by simp))
          replace IZ := hide (keepI IZ.out u)
          replace UT := hide (UT.out.trans u (by simp))
          replace S6 := hide (keepS S6.out u)
          replace S7 := hide (keepS S7.out u)
          clear u
          clear S6 S7 UT
          clear HTN
          obtain ⟨M1, hM1⟩ : ∃ x : Int, max 1 lr = x := ⟨_, rfl⟩
          obtain ⟨M2, hM2⟩ : ∃ x : Int, max 1 j.len = x := ⟨_, rfl⟩
          obtain ⟨P1, hP1⟩ : ∃ x : Int, pickS sec_ M1 = x := ⟨_, rfl⟩
          obtain ⟨P2, hP2⟩ : ∃ x : Int, pickS sec_ M2 = x := ⟨_, rfl⟩
          have hjl2 := hjl.2
          have PK1 := hide (show ∀ W, Calls Try.prog 19 #[.int .i64 sec_, .int .i64 M1] W fun e w' => e = .returned (.int .i64 P1) ∧ W = w' from fun W => by rw [← hP1]; exact lawPick sec_ M1 W hsec.1 hsec.2 (by omega) (by omega))
          have PK2 := hide (show ∀ W, Calls Try.prog 19 #[.int .i64 sec_, .int .i64 M2] W fun e w' => e = .returned (.int .i64 P2) ∧ W = w' from fun W => by rw [← hP2]; exact lawPick sec_ M2 W hsec.1 hsec.2 (by omega) (by omega))
          clear hP1 hP2
          have HM1 := hide hM1
          have HM2 := hide hM2
          clear hM1 hM2
          go_upto_region 36 with fail
          refine wp_region_held_drew (S := (fun w' => w'.cell? ⟨bj, 2, none⟩ = some (.int .i64 j.len))) (by kernel_rfl) (by exact (BJ.out.cell 2)) (fun hHeld => ?_)
          obtain ⟨v32, hwD⟩ : ∃ x, v31.drew = x := ⟨_, rfl⟩
          have u : Upd [] v31 v32 := by rw [← hwD]; exact (Upd.refl [] _).drew
          rw [hwD] at hHeld ⊢
          clear hwD
          replace L1 := hide (L1.out.trans u (by simp))
          replace ITJ := hide (ITJ.out.upd u)
          replace BJ := hide (keepX BJ.out u)
          replace UJ := hide (UJ.out.trans u (by simp))
          replace L3 := hide (L3.out.trans u (by simp))
          replace IZ := hide (keepI IZ.out u)
          clear u
          refine wpAnyH_take (i := 0) (oi := ?oi0M14) (v := ?v0M14) ?oi0_0M14 (by kernel_rfl) ?ff0M14 ?rr0M14 ?hq0M14 (Or.inl ⟨?hw0M14, ?hy0M14⟩) (by assumption) ?rest0M14
          case oi0_0M14 =>
            conv =>
              lhs
              whnf
              arg 1
              whnf
          case hq0M14 => exact fun _ _ _ h => h
          case ff0M14 => kernel_rfl
          case rr0M14 => kernel_rfl
          case hw0M14 => rfl
          case hy0M14 =>
            intro w hSw
            (try dsimp only at hSw)
            first
            | (go_simp; done)
            | (go_simp; with_reducible rfl)
          try simp only [Act.put, List.setIfInBounds_toArray, List.set_cons_zero, List.set_cons_succ]
          refine wpAnyH_take (i := 1) (oi := ?oi1M14) (v := ?v1M14) ?oi0_1M14 (by kernel_rfl) ?ff1M14 ?rr1M14 ?hq1M14 (Or.inl ⟨?hw1M14, ?hy1M14⟩) (by assumption) ?rest1M14
          case oi0_1M14 =>
            conv =>
              lhs
              whnf
              arg 1
              whnf
          case hq1M14 => exact fun _ _ _ h => h
          case ff1M14 => kernel_rfl
          case rr1M14 => kernel_rfl
          case hw1M14 => rfl
          case hy1M14 =>
            intro w hSw
            (try dsimp only at hSw)
            first
            | (go_simp; done)
            | (go_simp; with_reducible rfl)
          try simp only [Act.put, List.setIfInBounds_toArray, List.set_cons_zero, List.set_cons_succ]
          refine wpAnyH_take (i := 2) (oi := ?oi2M14) (v := ?v2M14) ?oi0_2M14 (by kernel_rfl) ?ff2M14 ?rr2M14 ?hq2M14 (Or.inl ⟨?hw2M14, ?hy2M14⟩) (by assumption) ?rest2M14
          case oi0_2M14 =>
            conv =>
              lhs
              whnf
              arg 1
              whnf
          case hq2M14 => exact fun _ _ _ h => h
          case ff2M14 => kernel_rfl
          case rr2M14 => kernel_rfl
          case hw2M14 => rfl
          case hy2M14 =>
            intro w hSw
            (try dsimp only at hSw)
            first
            | (go_simp; done)
            | (go_simp; with_reducible rfl)
          try simp only [Act.put, List.setIfInBounds_toArray, List.set_cons_zero, List.set_cons_succ]
          refine wpAnyH_take (i := 3) (oi := ?oi3M14) (v := ?v3M14) ?oi0_3M14 (by kernel_rfl) ?ff3M14 ?rr3M14 ?hq3M14 (Or.inl ⟨?hw3M14, ?hy3M14⟩) (by assumption) ?rest3M14
          case oi0_3M14 =>
            conv =>
              lhs
              whnf
              arg 1
              whnf
          case hq3M14 => exact fun _ _ _ h => h
          case ff3M14 => kernel_rfl
          case rr3M14 => kernel_rfl
          case hw3M14 => rfl
          case hy3M14 =>
            intro w hSw
            (try dsimp only at hSw)
            first
            | (go_simp; done)
            | (go_simp; with_reducible rfl)
          try simp only [Act.put, List.setIfInBounds_toArray, List.set_cons_zero, List.set_cons_succ]
          refine wpAnyH_take (i := 5) (oi := ?oi5M14) (v := ?v5M14) ?oi0_5M14 (by kernel_rfl) ?ff5M14 ?rr5M14 ?hq5M14 (Or.inl ⟨?hw5M14, ?hy5M14⟩) (by assumption) ?rest5M14
          case oi0_5M14 =>
            conv =>
              lhs
              whnf
              arg 1
              whnf
          case hq5M14 => exact fun _ _ _ h => h
          case ff5M14 => kernel_rfl
          case rr5M14 => kernel_rfl
          case hw5M14 => rfl
          case hy5M14 =>
            intro w hSw
            (try dsimp only at hSw)
            first
            | (go_simp; done)
            | (go_simp; with_reducible rfl)
          try simp only [Act.put, List.setIfInBounds_toArray, List.set_cons_zero, List.set_cons_succ]
          refine wpAnyH_take (i := 6) (oi := ?oi6M14) (v := ?v6M14) ?oi0_6M14 (by kernel_rfl) ?ff6M14 ?rr6M14 ?hq6M14 (Or.inl ⟨?hw6M14, ?hy6M14⟩) (by assumption) ?rest6M14
          case oi0_6M14 =>
            conv =>
              lhs
              whnf
              arg 1
              whnf
          case hq6M14 => exact fun _ _ _ h => h
          case ff6M14 => kernel_rfl
          case rr6M14 => kernel_rfl
          case hw6M14 => rfl
          case hy6M14 =>
            intro w hSw
            (try dsimp only at hSw)
            first
            | (go_simp; done)
            | (go_simp; with_reducible rfl)
          try simp only [Act.put, List.setIfInBounds_toArray, List.set_cons_zero, List.set_cons_succ]
          refine wpAnyH_take (i := 7) (oi := ?oi7M14) (v := ?v7M14) ?oi0_7M14 (by kernel_rfl) ?ff7M14 ?rr7M14 ?hq7M14 (Or.inl ⟨?hw7M14, ?hy7M14⟩) (by assumption) ?rest7M14
          case oi0_7M14 =>
            conv =>
              lhs
              whnf
              arg 1
              whnf
          case hq7M14 => exact fun _ _ _ h => h
          case ff7M14 => kernel_rfl
          case rr7M14 => kernel_rfl
          case hw7M14 => rfl
          case hy7M14 =>
            intro w hSw
            (try dsimp only at hSw)
            first
            | (go_simp; done)
            | (go_simp; with_reducible rfl)
          try simp only [Act.put, List.setIfInBounds_toArray, List.set_cons_zero, List.set_cons_succ]
          refine wpAnyH_take (i := 8) (oi := ?oi8M14) (v := ?v8M14) ?oi0_8M14 (by kernel_rfl) ?ff8M14 ?rr8M14 ?hq8M14 (Or.inl ⟨?hw8M14, ?hy8M14⟩) (by assumption) ?rest8M14
          case oi0_8M14 =>
            conv =>
              lhs
              whnf
              arg 1
              whnf
          case hq8M14 => exact fun _ _ _ h => h
          case ff8M14 => kernel_rfl
          case rr8M14 => kernel_rfl
          case hw8M14 => rfl
          case hy8M14 =>
            intro w hSw
            (try dsimp only at hSw)
            first
            | (go_simp; done)
            | (go_simp; with_reducible rfl)
          try simp only [Act.put, List.setIfInBounds_toArray, List.set_cons_zero, List.set_cons_succ]
          refine wpAnyH_take (i := 12) (oi := ?oi12M14) (v := ?v12M14) ?oi0_12M14 (by kernel_rfl) ?ff12M14 ?rr12M14 ?hq12M14 (Or.inl ⟨?hw12M14, ?hy12M14⟩) (by assumption) ?rest12M14
          case oi0_12M14 =>
            conv =>
              lhs
              whnf
              arg 1
              whnf
          case hq12M14 => exact fun _ _ _ h => h
          case ff12M14 => kernel_rfl
          case rr12M14 => kernel_rfl
          case hw12M14 => rfl
          case hy12M14 =>
            intro w hSw
            (try dsimp only at hSw)
            first
            | (go_simp; done)
            | (go_simp; with_reducible rfl)
          try simp only [Act.put, List.setIfInBounds_toArray, List.set_cons_zero, List.set_cons_succ]
          refine wpAnyH_ready (rs := [4]) (by kernel_rfl) (by simp) (AllReadyH.cons (o := ?oiM15) ?oi0_M15 (fun K hK => ?_) AllReadyH.nil)
          case oi0_M15 =>
            conv =>
              lhs
              whnf
              arg 1
              whnf
          go_simp
          go_at_call 19
          rw [HM1.out]
          with_reducible (refine (PK1.out _).mono ?_)
          rintro e w' ⟨rfl, rfl⟩
          (try dsimp only)
          refine hK.out _ _ (by exact (BJ.out.cell 2)) (fun hHeld => ?_)
          clear hK K
          try simp only [Act.put, List.setIfInBounds_toArray, List.set_cons_zero, List.set_cons_succ]
          refine wpAnyH_ready (rs := [9]) (by kernel_rfl) (by simp) (AllReadyH.cons (o := ?oiM16) ?oi0_M16 (fun K hK => ?_) AllReadyH.nil)
          case oi0_M16 =>
            conv =>
              lhs
              whnf
              arg 1
              whnf
          go_simp
          go_at_call 19
          rw [HM2.out]
          with_reducible (refine (PK2.out _).mono ?_)
          rintro e w' ⟨rfl, rfl⟩
          (try dsimp only)
          refine hK.out _ _ (by exact (BJ.out.cell 2)) (fun hHeld => ?_)
          clear hK K
          try simp only [Act.put, List.setIfInBounds_toArray, List.set_cons_zero, List.set_cons_succ]
          refine wpAnyH_ready (rs := [10]) (by kernel_rfl) (by simp) (AllReadyH.cons (o := ?oiM17) ?oi0_M17 (fun K hK => ?_) AllReadyH.nil)
          case oi0_M17 =>
            conv =>
              lhs
              whnf
              arg 1
              whnf
          go_simp
          obtain ⟨v33, hw⟩ : ∃ x, v32.alloc (.cells #[.int .i64 sec_, .int .i64 P1, .int .i64 P2] 3) = x := ⟨_, rfl⟩
          have u : Upd [] v32 v33 := by rw [← hw]; exact (Upd.refl [] _).alloc _
          replace L1 := hide (L1.out.trans u (by simp))
          replace ITJ := hide (ITJ.out.upd u)
          replace BJ := hide (keepX BJ.out u)
          replace UJ := hide (UJ.out.trans u (by simp))
          replace L3 := hide (L3.out.trans u (by simp))
          replace IZ := hide (keepI IZ.out u)
          have LT := hide (show Blk v33 v32.heap.size 3 [.int .i64 sec_, .int .i64 P1, .int .i64 P2] by rw [← hw]; exact Blk.new v32 _ _)
          have HW := hide hw
          clear hw u
          rw [HW.out]
          clear HW
          (try dsimp only)
          refine hK.out _ _ (by exact (BJ.out.cell 2)) (fun hHeld => ?_)
          clear hK K
          try simp only [Act.put, List.setIfInBounds_toArray, List.set_cons_zero, List.set_cons_succ]
          refine wpAnyH_take (i := 11) (oi := ?oi11M18) (v := ?v11M18) ?oi0_11M18 (by kernel_rfl) ?ff11M18 ?rr11M18 ?hq11M18 (Or.inl ⟨?hw11M18, ?hy11M18⟩) (by assumption) ?rest11M18
          case oi0_11M18 =>
            conv =>
              lhs
              whnf
              arg 1
              whnf
          case hq11M18 => exact fun _ _ _ h => h
          case ff11M18 => kernel_rfl
          case rr11M18 => kernel_rfl
          case hw11M18 => rfl
          case hy11M18 =>
            intro w hSw
            (try dsimp only at hSw)
            first
            | (go_simp; done)
            | (go_simp; with_reducible rfl)
          try simp only [Act.put, List.setIfInBounds_toArray, List.set_cons_zero, List.set_cons_succ]
          refine wpAnyH_done (by kernel_rfl) ?_ _
          obtain ⟨G4, hG⟩ : ∃ b, v32.heap.size = b := ⟨_, rfl⟩
          rw [hG] at LT ⊢
          clear hG
          have HS := hide (show ∀ q : Nat, q < 3 → ∃ z : Int, ∀ W, Upd [] v33 W → W.cell? ⟨G4, q, none⟩ = some (.int .i64 z) from fun q hq => by
            rcases (show q = 0 ∨ q = 1 ∨ q = 2 by omega) with rfl | rfl | rfl
            · exact ⟨_, fun W hW => (LT.out.upd hW (by simp)).cell 0⟩
            · exact ⟨_, fun W hW => (LT.out.upd hW (by simp)).cell 1⟩
            · exact ⟨_, fun W hW => (LT.out.upd hW (by simp)).cell 2⟩
          )
          clear LT
          clear PK1 PK2 HM1 HM2
          go_wp2_with fail
          go_loopw [244] (fun s wr => ∃ q : Nat, q ≤ 3 ∧ s = .int .i64 q ∧ Hid (Upd [] v33 wr)) (fun k _ => 3 - (intOf k).toNat)
          case atStart => exact ⟨0, by omega, rfl, Upd.refl _ _⟩
          case round =>
            obtain ⟨g4, hqg4, rfl, L4⟩ := hrel
            obtain ⟨v34, rfl⟩ : ∃ x : World, x = wr := ⟨_, rfl⟩
            have u := L4.out
            replace L1 := hide (L1.out.trans u (by simp))
            replace ITJ := hide (ITJ.out.upd u)
            replace BJ := hide (keepX BJ.out u)
            replace UJ := hide (UJ.out.trans u (by simp))
            replace L3 := hide (L3.out.trans u (by simp))
            replace IZ := hide (keepI IZ.out u)
            clear u
            by_cases hg4 : g4 < 3
            case neg =>
              have hgi4 : ¬ (g4 : Int) < 3 := by omega
              go_wp2_with fail
              go_roundw
              case rel => exact ⟨g3 + 1, by omega, by go_num, L3⟩
              case measure => simp [intOf] <;> omega
            have hgi4 : (g4 : Int) < 3 := by omega
            obtain ⟨z, hz⟩ := HS.out g4 hg4
            have f3 := hz _ L4.out
            clear hz
            obtain ⟨pr, E6, kg1, kg2⟩ := place_pair j jta jtc jka jkc v34 ITJ.out hj6 hj7 Z zm zc zs IZ.out hzm z
            have KG1 := hide kg1
            have KG2 := hide kg2
            clear kg1 kg2
            obtain ⟨hr, E7, kh1, kh2⟩ := heard_pair j jta jtc jka jkc v34 ITJ.out hj6 hj7 Z zm zc zs IZ.out hzm z
            have KH1 := hide kh1
            have KH2 := hide kh2
            clear kh1 kh2
            have UP := hide (Upd.refl [] v34)
            have j0 := BJ.out.cell 0
            have j1 := BJ.out.cell 1
            have j2 := BJ.out.cell 2
            have j3 := BJ.out.cell 3
            have j4 := BJ.out.cell 4
            have j5 := BJ.out.cell 5
            have j6 := BJ.out.cell 6
            have j7 := BJ.out.cell 7
            go_wp2_with fail
            refine (KG1.out _ UP.out).mono ?_
            rintro e v35 ⟨rfl, u⟩
            clear j0 j1 j2 j3 j4 j5 j6 j7
            replace L1 := hide (L1.out.trans u (by simp))
            replace ITJ := hide (ITJ.out.upd u)
            replace BJ := hide (keepX BJ.out u)
            replace UJ := hide (UJ.out.trans u (by simp))
            replace L3 := hide (L3.out.trans u (by simp))
            replace IZ := hide (keepI IZ.out u)
            replace L4 := hide (L4.out.trans u (by simp))
            replace UP := hide (UP.out.trans u (by simp))
            clear u
            have j0 := BJ.out.cell 0
            have j1 := BJ.out.cell 1
            have j2 := BJ.out.cell 2
            have j3 := BJ.out.cell 3
            have j4 := BJ.out.cell 4
            have j5 := BJ.out.cell 5
            have j6 := BJ.out.cell 6
            have j7 := BJ.out.cell 7
            clear f3
            go_wp2_with fail
            refine (KG2.out _ UP.out).mono ?_
            rintro e v36 ⟨rfl, u⟩
            clear j0 j1 j2 j3 j4 j5 j6 j7
            replace L1 := hide (L1.out.trans u (by simp))
            replace ITJ := hide (ITJ.out.upd u)
            replace BJ := hide (keepX BJ.out u)
            replace UJ := hide (UJ.out.trans u (by simp))
            replace L3 := hide (L3.out.trans u (by simp))
            replace IZ := hide (keepI IZ.out u)
            replace L4 := hide (L4.out.trans u (by simp))
            replace UP := hide (UP.out.trans u (by simp))
            clear u
            have j0 := BJ.out.cell 0
            have j1 := BJ.out.cell 1
            have j2 := BJ.out.cell 2
            have j3 := BJ.out.cell 3
            have j4 := BJ.out.cell 4
            have j5 := BJ.out.cell 5
            have j6 := BJ.out.cell 6
            have j7 := BJ.out.cell 7
            go_wp2_with fail
            refine (KH1.out _ UP.out).mono ?_
            rintro e v37 ⟨rfl, u⟩
            clear j0 j1 j2 j3 j4 j5 j6 j7
            replace L1 := hide (L1.out.trans u (by simp))
            replace ITJ := hide (ITJ.out.upd u)
            replace BJ := hide (keepX BJ.out u)
            replace UJ := hide (UJ.out.trans u (by simp))
            replace L3 := hide (L3.out.trans u (by simp))
            replace IZ := hide (keepI IZ.out u)
            replace L4 := hide (L4.out.trans u (by simp))
            replace UP := hide (UP.out.trans u (by simp))
            clear u
            have j0 := BJ.out.cell 0
            have j1 := BJ.out.cell 1
            have j2 := BJ.out.cell 2
            have j3 := BJ.out.cell 3
            have j4 := BJ.out.cell 4
            have j5 := BJ.out.cell 5
            have j6 := BJ.out.cell 6
            have j7 := BJ.out.cell 7
            go_wp2_with fail
            refine (KH2.out _ UP.out).mono ?_
            rintro e v38 ⟨rfl, u⟩
            clear j0 j1 j2 j3 j4 j5 j6 j7
            replace L1 := hide (L1.out.trans u (by simp))
            replace ITJ := hide (ITJ.out.upd u)
            replace BJ := hide (keepX BJ.out u)
            replace UJ := hide (UJ.out.trans u (by simp))
            replace L3 := hide (L3.out.trans u (by simp))
            replace IZ := hide (keepI IZ.out u)
            replace L4 := hide (L4.out.trans u (by simp))
            replace UP := hide (UP.out.trans u (by simp))
            clear u
            have j0 := BJ.out.cell 0
            have j1 := BJ.out.cell 1
            have j2 := BJ.out.cell 2
            have j3 := BJ.out.cell 3
            have j4 := BJ.out.cell 4
            have j5 := BJ.out.cell 5
            have j6 := BJ.out.cell 6
            have j7 := BJ.out.cell 7
            go_wp2_with fail
            go_roundw
            case rel => exact ⟨g4 + 1, by omega, by go_num, L4⟩
            case measure => simp [intOf] <;> omega
end Go.Proofs.Ytpkeimdlcafcnaa
