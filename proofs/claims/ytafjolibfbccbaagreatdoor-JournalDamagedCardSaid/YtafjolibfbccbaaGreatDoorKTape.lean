/-
  (*journal.tape).add: a record more.
-/
import Derived.Test.YtafjolibfbccbaaGreatDoorKJoin
import Derived.Test.YtafjolibfbccbaaGreatDoorKInt
namespace Go.Proofs.YtafjolibfbccbaaGreatDoor
open Go.RowKit
set_option maxRecDepth 100000
set_option maxHeartbeats 40000000

def strV (l : List UInt8) : Value := .string ⟨l.toArray⟩
/-- The records of a journal, the head of their chain, how many bytes they take. -/
structure TapeS where
  recs : List (List UInt8)
  head : List UInt8
  size : Nat
def TapeS.add (ks : List Int) (T : TapeS) (r : List UInt8) : TapeS := ⟨T.recs ++ [r], chainS ks T.head r, T.size + (putStrS r).length + 33⟩
/-- How a further record is stored. -/
def storedS (ks : List Int) (T : TapeS) (r : List UInt8) : List UInt8 := 1 :: (putStrS r ++ chainS ks T.head r)
/-- The tape lies at the head of block tb; rest lies behind it. -/
def IsTapeAt (w : World) (base tb tt : Nat) (A : Option Addr) (c : Nat) (T : TapeS) (rest : List Value) : Prop :=
  base ≤ tb ∧ Blk w tb tt (.slice A T.recs.length c :: strV T.head :: .int .i64 (T.size : Int) :: rest) ∧ w.ownsRow base 9 1 (.slice A T.recs.length c) T.recs.length (T.recs.map strV)
def IsTape (w : World) (base tb tt : Nat) (T : TapeS) (rest : List Value) : Prop := ∃ A c, IsTapeAt w base tb tt A c T rest
theorem info_str : (Tryz.prog.info? 9).map (fun i => (i.zero, i.size, i.bytes)) = some (some (.string ⟨#[]⟩), 1, 16) := by kernel_rfl
theorem tape_add_at (base tb tt : Nat) (A : Option Addr) (c : Nat) (T : TapeS) (rest : List Value) (r : ByteArray) (ks : List Int) (w : World) (hT : IsTapeAt w base tb tt A c T rest) (htt : 9 ≠ tt) (hbase : base ≤ w.heap.size) (hk : RoundAt w ks) (hkl : ks.length = 64)
    (hkb : 3 < base) (hr : r.size ≤ 65536) (hh : T.head.length ≤ 1000) (hn : T.recs.length ≤ 1000000000000) (hsz : T.size ≤ 1000000000000) :
    Calls Tryz.prog 38 #[.pointer (some ⟨tb, 0, none⟩), .string r] w fun e w' => e = .returned (strV (storedS ks T r.data.toList)) ∧ ∃ A' c', IsTapeAt w' base tb tt A' c' (T.add ks r.data.toList) rest ∧ Upd (tb :: (A.map (·.block)).toList) w w' := by
  obtain ⟨hbt, hB, hO⟩ := hT
  obtain ⟨N, hN⟩ : ∃ N, T.recs.length = N := ⟨_, rfl⟩
  rw [hN] at hB hO hn
  have HB := hide hB
  have HO := hide hO
  have HK := hide hk
  have HKL := hide hkl
  have HN := hide hN
  have HTT := hide htt
  have HBT := hide hbt
  have HBASE := hide hbase
  have HKB := hide hkb
  have HR := hide hr
  have HSZ := hide hsz
  have hh2 : (⟨T.head.toArray⟩ : ByteArray).size ≤ 100000000 := by simp [ByteArray.size]; omega
  have HH := hide hh2
  have HHL := hide hh
  clear hB hO hk hkl hN htt hbt hbase hkb hr hh hh2 hsz
  have c1 : w.cell? ⟨tb, 1, none⟩ = some (strV T.head) := (HB.out.cell 1).trans rfl
  unfold strV at c1
  go_enter Tryz.func38, Tryz.ntmps38
  go_wp2_with fail
  with_reducible (refine (chain_any ⟨T.head.toArray⟩ r ks w HK.out HKL.out HH.out (by have := HR.out; omega)).mono ?_)
  rintro e w1 ⟨rfl, u⟩
  replace HB := hide (keepB HB.out u)
  replace HO := hide (own_kept HO.out u (by simp))
  replace HK := hide (HK.out.upd u (by simp))
  have U := hide u
  clear u c1
  obtain ⟨hd, hhd⟩ : ∃ x, chainS ks T.head r.data.toList = x := ⟨_, rfl⟩
  rw [show chainS ks (⟨T.head.toArray⟩ : ByteArray).data.toList r.data.toList = hd from hhd]
  have HHD := hide hhd
  have hdl := chainS_length ks T.head r.data.toList
  rw [hhd] at hdl
  have HDL := hide hdl
  clear hhd hdl
  have f1 := HB.out.frozen 1
  have c1 : w1.cell? ⟨tb, 1, none⟩ = some (strV T.head) := (HB.out.cell 1).trans rfl
  go_upto_region 2 with fail
  obtain ⟨w2, hw⟩ : ∃ x, w1.setCell ⟨tb, 1, none⟩ (.string ⟨hd.toArray⟩) = x := ⟨_, rfl⟩
  have u : Upd [tb] w1 w2 := by rw [← hw]; exact (Upd.refl _ _).setCell (.inl (by simp)) _
  have hB2 : Blk w2 tb tt (.slice A N c :: .string ⟨hd.toArray⟩ :: .int .i64 (T.size : Int) :: rest) := by rw [← hw]; exact HB.out.set_ 1 _
  replace HO := hide (own_kept HO.out u (fun k hk => by have := own_blk_ne HO.out HB.out HTT.out k hk; simpa using this))
  replace HK := hide (HK.out.upd u (by simp; have := HKB.out; have := HBT.out; omega))
  replace U := hide ((U.out.mono (l' := [tb]) (by simp)).trans u (by simp))
  replace HB := hide hB2
  rw [hw]
  clear hw u hB2 f1 c1
  have c0 : w2.cell? ⟨tb, 0, none⟩ = some (.slice A N c) := (HB.out.cell 0).trans rfl
  have hsz2 : base ≤ w2.heap.size := by have := U.out.size; have := HBASE.out; omega
  have HB2S := hide hsz2
  clear hsz2
  go_upto_region 3 with (at_builtin; refine wpList_append_base rfl _ _ 22 rfl base 9 (.string ⟨#[]⟩) 1 16 Tryz.underlying22 info_str rfl (by decide) A N c _ rfl (HO.out.alloc _) ⟨w2.heap.size, 0, none⟩ 1 1 [.string r] rfl rfl (it_one_new _ _ _ _ rfl) (by simp [Value.oneCell']) (by unfold maxLen; omega) (by omega) (by have := HB2S.out; simp; omega) ?_; intro A' c' w3 hO3 hu3 hA3; have HO3 := hide hO3; have HU3 := hide hu3; have HA3 := hide hA3; have hB3 := HB.out.alloc (.cells #[.string r] 9); have HB3 := hide (hB3.upd hu3 (fun hm => own_blk_ne (HO.out.alloc (.cells #[.string r] 9)) hB3 HTT.out tb (by rw [ownBlock_slice]; simpa using hm) rfl)); have f0 := HB3.out.frozen 0; have d0 : w3.cell? ⟨tb, 0, none⟩ = some (.slice A N c) := (HB3.out.cell 0).trans rfl; clear hO3 hu3 hA3 hB3)
  obtain ⟨w4, hw⟩ : ∃ x, w3.setCell ⟨tb, 0, none⟩ (.slice A' (N + 1) c') = x := ⟨_, rfl⟩
  have hB4 : Blk w4 tb tt (.slice A' (N + 1) c' :: .string ⟨hd.toArray⟩ :: .int .i64 (T.size : Int) :: rest) := by rw [← hw]; exact HB3.out.set_ 0 _
  have u4 : Upd [tb] w3 w4 := by rw [← hw]; exact (Upd.refl _ _).setCell (.inl (by simp)) _
  have hO4 := own_kept HO3.out u4 (fun k hk => by have := own_blk_ne HO3.out HB3.out HTT.out k hk; simpa using this)
  have b4 : Upd (tb :: (A.map (·.block)).toList) w w4 := by
    have b2 : Upd (A.map (·.block)).toList w2 w3 := (((Upd.refl [] w2).alloc _).mono (l' := (A.map (·.block)).toList) (by simp)).trans HU3.out (fun x hx => .inl hx)
    exact ((U.out.mono (l' := tb :: (A.map (·.block)).toList) (fun x hx => by simp at hx; subst hx; simp)).trans b2 (fun x hx => .inl (List.mem_cons_of_mem _ hx))).trans u4 (fun x hx => by simp at hx; subst hx; simp)
  have HB4 := hide hB4
  have HO4 := hide hO4
  have HBE := hide b4
  rw [hw]
  clear hw hB4 u4 hO4 b4 HB HO HO3 HU3 HA3 HB3 f0 d0 c0 HK U HB2S
  go_wp2_with fail
  with_reducible (refine (putString_any r w4 HR.out).mono ?_)
  rintro e w5 ⟨rfl, u⟩
  replace HB4 := hide (keepB HB4.out u)
  replace HO4 := hide (own_kept HO4.out u (by simp))
  replace HBE := hide (HBE.out.trans u (by simp))
  clear u
  obtain ⟨ps, hps⟩ : ∃ x, putStrS r.data.toList = x := ⟨_, rfl⟩
  rw [hps]
  have HPL := hide (show ps.length ≤ 65545 by rw [← hps]; unfold putStrS; rw [List.length_append]; have h1 : r.data.toList.length = r.size := Lib.size_eq r ▸ rfl; have h2 := putS_len (r.data.toList.length : Int) (by omega) (by have := HR.out; omega); have := HR.out; omega)
  have HPS := hide hps
  clear hps
  go_upto_region 4 with fail
  have hs1 : ¬ 9223372036854775807 < 1 + ps.length := by have := HPL.out; omega
  have hs2 : ¬ 9223372036854775807 < 1 + ps.length + hd.length := by have := HPL.out; have := HDL.out; omega
  refine wp_region_held_drew (S := (fun w' => w'.cell? ⟨tb, 1, none⟩ = some (.string ⟨hd.toArray⟩))) (by kernel_rfl) (by exact (HB4.out.cell 1).trans rfl) (fun hHeld => ?_)
  obtain ⟨v1, hwD⟩ : ∃ x, w5.drew = x := ⟨_, rfl⟩
  have u : Upd [] w5 v1 := by rw [← hwD]; exact (Upd.refl [] _).drew
  rw [hwD] at hHeld ⊢
  clear hwD
  replace HB4 := hide (keepB HB4.out u)
  replace HO4 := hide (own_kept HO4.out u (by simp))
  replace HBE := hide (HBE.out.trans u (by simp))
  clear u
  refine wpAnyH_take (i := 4) (oi := ?oi4M2) (v := ?v4M2) ?oi0_4M2 (by kernel_rfl) ?ff4M2 ?rr4M2 ?hq4M2 (Or.inl ⟨?hw4M2, ?hy4M2⟩) (by assumption) ?rest4M2
  case oi0_4M2 =>
    conv =>
      lhs
      whnf
      arg 1
      whnf
  case hq4M2 => exact fun _ _ _ h => h
  case ff4M2 => kernel_rfl
  case rr4M2 => kernel_rfl
  case hw4M2 => rfl
  case hy4M2 =>
    intro w hSw
    (try dsimp only at hSw)
    first
    | (go_simp; done)
    | (go_simp; with_reducible rfl)
  try simp only [Act.put, List.setIfInBounds_toArray, List.set_cons_zero, List.set_cons_succ]
  refine wpAnyH_take (i := 5) (oi := ?oi5M2) (v := ?v5M2) ?oi0_5M2 (by kernel_rfl) ?ff5M2 ?rr5M2 ?hq5M2 (Or.inl ⟨?hw5M2, ?hy5M2⟩) (by assumption) ?rest5M2
  case oi0_5M2 =>
    conv =>
      lhs
      whnf
      arg 1
      whnf
  case hq5M2 => exact fun _ _ _ h => h
  case ff5M2 => kernel_rfl
  case rr5M2 => kernel_rfl
  case hw5M2 => rfl
  case hy5M2 =>
    intro w hSw
    (try dsimp only at hSw)
    first
    | (go_simp; done)
    | (go_simp; with_reducible rfl)
  try simp only [Act.put, List.setIfInBounds_toArray, List.set_cons_zero, List.set_cons_succ]
  refine wpAnyH_take (i := 6) (oi := ?oi6M2) (v := ?v6M2) ?oi0_6M2 (by kernel_rfl) ?ff6M2 ?rr6M2 ?hq6M2 (Or.inl ⟨?hw6M2, ?hy6M2⟩) (by assumption) ?rest6M2
  case oi0_6M2 =>
    conv =>
      lhs
      whnf
      arg 1
      whnf
  case hq6M2 => exact fun _ _ _ h => h
  case ff6M2 => kernel_rfl
  case rr6M2 => kernel_rfl
  case hw6M2 => rfl
  case hy6M2 =>
    intro w hSw
    (try dsimp only at hSw)
    first
    | (go_simp; done)
    | (go_simp; with_reducible rfl)
  try simp only [Act.put, List.setIfInBounds_toArray, List.set_cons_zero, List.set_cons_succ]
  refine wpAnyH_take (i := 7) (oi := ?oi7M2) (v := ?v7M2) ?oi0_7M2 (by kernel_rfl) ?ff7M2 ?rr7M2 ?hq7M2 (Or.inl ⟨?hw7M2, ?hy7M2⟩) (by assumption) ?rest7M2
  case oi0_7M2 =>
    conv =>
      lhs
      whnf
      arg 1
      whnf
  case hq7M2 => exact fun _ _ _ h => h
  case ff7M2 => kernel_rfl
  case rr7M2 => kernel_rfl
  case hw7M2 => rfl
  case hy7M2 =>
    intro w hSw
    (try dsimp only at hSw)
    first
    | (go_simp; done)
    | (go_simp; with_reducible rfl)
  try simp only [Act.put, List.setIfInBounds_toArray, List.set_cons_zero, List.set_cons_succ]
  refine wpAnyH_take (i := 2) (oi := ?oi2M2) (v := ?v2M2) ?oi0_2M2 (by kernel_rfl) ?ff2M2 ?rr2M2 ?hq2M2 (Or.inl ⟨?hw2M2, ?hy2M2⟩) (by assumption) ?rest2M2
  case oi0_2M2 =>
    conv =>
      lhs
      whnf
      arg 1
      whnf
  case hq2M2 => exact fun _ _ _ h => h
  case ff2M2 => kernel_rfl
  case rr2M2 => kernel_rfl
  case hw2M2 => rfl
  case hy2M2 =>
    intro w hSw
    (try dsimp only at hSw)
    first
    | (go_simp; done)
    | (go_simp; with_reducible rfl)
  try simp only [Act.put, List.setIfInBounds_toArray, List.set_cons_zero, List.set_cons_succ]
  refine wpAnyH_ready (rs := [0]) (by kernel_rfl) (by simp) (AllReadyH.cons (o := ?oiM3) ?oi0_M3 (fun K hK => ?_) AllReadyH.nil)
  case oi0_M3 =>
    conv =>
      lhs
      whnf
      arg 1
      whnf
  go_simp
  obtain ⟨v2, hw⟩ : ∃ x, v1.alloc (.cells #[.int .u8 1] 5) = x := ⟨_, rfl⟩
  have u : Upd [] v1 v2 := by rw [← hw]; exact (Upd.refl [] _).alloc _
  have BC := hide (show Blk v2 v1.heap.size 5 (bCells [1]) by rw [← hw]; exact Blk.new v1 _ _)
  rw [hw]
  clear hw
  replace HB4 := hide (keepB HB4.out u)
  replace HO4 := hide (own_kept HO4.out u (by simp))
  replace HBE := hide (HBE.out.trans u (by simp))
  clear u
  (try dsimp only)
  refine hK.out _ _ (by exact (HB4.out.cell 1).trans rfl) (fun hHeld => ?_)
  clear hK K
  try simp only [Act.put, List.setIfInBounds_toArray, List.set_cons_zero, List.set_cons_succ]
  refine wpAnyH_ready (rs := [1]) (by kernel_rfl) (by simp) (AllReadyH.cons (o := ?oiM4) ?oi0_M4 (fun K hK => ?_) AllReadyH.nil)
  case oi0_M4 =>
    conv =>
      lhs
      whnf
      arg 1
      whnf
  have hcv := run_conv_bytes BC.out 39 5 9 Tryz.underlying39 Tryz.underlying5 Tryz.underlying9 0 1 1 (by decide)
  go_simp
  (try dsimp only)
  refine hK.out _ _ (by exact (HB4.out.cell 1).trans rfl) (fun hHeld => ?_)
  clear hK K hcv
  try simp only [Act.put, List.setIfInBounds_toArray, List.set_cons_zero, List.set_cons_succ]
  refine wpAnyH_take (i := 3) (oi := ?oi3M5) (v := ?v3M5) ?oi0_3M5 (by kernel_rfl) ?ff3M5 ?rr3M5 ?hq3M5 (Or.inl ⟨?hw3M5, ?hy3M5⟩) (by assumption) ?rest3M5
  case oi0_3M5 =>
    conv =>
      lhs
      whnf
      arg 1
      whnf
  case hq3M5 => exact fun _ _ _ h => h
  case ff3M5 => kernel_rfl
  case rr3M5 => kernel_rfl
  case hw3M5 => rfl
  case hy3M5 =>
    intro w hSw
    (try dsimp only at hSw)
    first
    | (go_simp; done)
    | (go_simp; with_reducible rfl)
  try simp only [Act.put, List.setIfInBounds_toArray, List.set_cons_zero, List.set_cons_succ]
  refine wpAnyH_take (i := 8) (oi := ?oi8M5) (v := ?v8M5) ?oi0_8M5 (by kernel_rfl) ?ff8M5 ?rr8M5 ?hq8M5 (Or.inl ⟨?hw8M5, ?hy8M5⟩) (by assumption) ?rest8M5
  case oi0_8M5 =>
    conv =>
      lhs
      whnf
      arg 1
      whnf
  case hq8M5 => exact fun _ _ _ h => h
  case ff8M5 => kernel_rfl
  case rr8M5 => kernel_rfl
  case hw8M5 => rfl
  case hy8M5 =>
    intro w hSw
    (try dsimp only at hSw)
    first
    | (go_simp; done)
    | (go_simp; with_reducible rfl)
  try simp only [Act.put, List.setIfInBounds_toArray, List.set_cons_zero, List.set_cons_succ]
  refine wpAnyH_take (i := 9) (oi := ?oi9M5) (v := ?v9M5) ?oi0_9M5 (by kernel_rfl) ?ff9M5 ?rr9M5 ?hq9M5 (Or.inl ⟨?hw9M5, ?hy9M5⟩) (by assumption) ?rest9M5
  case oi0_9M5 =>
    conv =>
      lhs
      whnf
      arg 1
      whnf
  case hq9M5 => exact fun _ _ _ h => h
  case ff9M5 => kernel_rfl
  case rr9M5 => kernel_rfl
  case hw9M5 => rfl
  case hy9M5 =>
    intro w hSw
    (try dsimp only at hSw)
    first
    | (go_simp; done)
    | (go_simp; with_reducible rfl)
  try simp only [Act.put, List.setIfInBounds_toArray, List.set_cons_zero, List.set_cons_succ]
  refine wpAnyH_done (by kernel_rfl) ?_ _
  have ho : (⟨#[1]⟩ : ByteArray) ++ ⟨ps.toArray⟩ ++ ⟨hd.toArray⟩ = ⟨(1 :: (ps ++ hd)).toArray⟩ := by
    apply ByteArray.ext
    apply Array.toList_inj.1
    simp
  rw [ho]
  clear ho hs1 hs2
  obtain ⟨ob, hob⟩ : ∃ x : ByteArray, ⟨(1 :: (ps ++ hd)).toArray⟩ = x := ⟨_, rfl⟩
  rw [hob]
  obtain ⟨ol, hol⟩ : ∃ x, ob.size = x := ⟨_, rfl⟩
  have HOL := hide (show ol = ps.length + 33 by rw [← hol, ← hob]; simp [ByteArray.size]; have := HDL.out; omega)
  have HOB := hide hob
  clear hob
  have c2 : v2.cell? ⟨tb, 2, none⟩ = some (.int .i64 (T.size : Int)) := (HB4.out.cell 2).trans rfl
  have f2 := HB4.out.frozen 2
  have hsw : IntKind.i64.wrap ((T.size : Int) + (ol : Int)) = (T.size : Int) + (ol : Int) := Go.IntWalk.i64_in _ (by have := HSZ.out; have := HOL.out; have := HPL.out; omega)
  go_wp2_with fail
  go_ret
  refine ⟨?_, A', c', ⟨HBT.out, ?_, ?_⟩, ?_⟩
  · unfold strV storedS; rw [HPS.out, HHD.out, ← HOB.out]; rfl
  · unfold TapeS.add; simp only [List.length_append, List.length_singleton, HN.out, HHD.out, HPS.out]; rw [show (((T.size + ps.length + 33 : Nat) : Int)) = (T.size : Int) + (ol : Int) by have := HOL.out; omega]; exact HB4.out.set_ 2 _
  · unfold TapeS.add; simp only [List.length_append, List.length_singleton, HN.out, List.map_append, List.map_singleton]; refine own_kept (l := [tb]) ?_ ((Upd.refl _ _).setCell (.inl (by simp)) _) (fun k hk => by have := own_blk_ne HO4.out HB4.out HTT.out k hk; simpa using this); exact HO4.out
  · exact HBE.out.setCell (.inl (by simp)) _
theorem tape_add (base tb tt : Nat) (T : TapeS) (rest : List Value) (r : ByteArray) (ks : List Int) (w : World) (hT : IsTape w base tb tt T rest) (htt : 9 ≠ tt) (hbase : base ≤ w.heap.size) (hk : RoundAt w ks) (hkl : ks.length = 64)
    (hkb : 3 < base) (hr : r.size ≤ 65536) (hh : T.head.length ≤ 1000) (hn : T.recs.length ≤ 1000000000000) (hsz : T.size ≤ 1000000000000) :
    Calls Tryz.prog 38 #[.pointer (some ⟨tb, 0, none⟩), .string r] w fun e w' => e = .returned (strV (storedS ks T r.data.toList)) ∧ IsTape w' base tb tt (T.add ks r.data.toList) rest ∧ Below base w w' := by
  obtain ⟨A, c, hT⟩ := hT
  refine (tape_add_at base tb tt A c T rest r ks w hT htt hbase hk hkl hkb hr hh hn hsz).mono ?_
  rintro e w' ⟨he, A', c', h1, h2⟩
  refine ⟨he, ⟨A', c', h1⟩, h2.toBelow hbase (fun x hx => ?_)⟩
  rcases List.mem_cons.1 hx with rfl | hx
  · exact hT.1
  · exact it_own_block hT.2.2 x (by rw [ownBlock_slice]; simpa using hx)

end Go.Proofs.YtafjolibfbccbaaGreatDoor
