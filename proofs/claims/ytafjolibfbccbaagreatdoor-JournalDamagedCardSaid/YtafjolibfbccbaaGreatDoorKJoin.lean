/-
  strings.Join of two strings, without a string between; digest's marked and Chain.
-/
import Derived.Test.YtafjolibfbccbaaGreatDoorIBld
import Derived.Test.YtafjolibfbccbaaGreatDoorHSum
import Derived.LoopN
import Derived.Deep.RegionHeld3
namespace Go.Proofs.YtafjolibfbccbaaGreatDoor
open Go.RowKit
set_option maxRecDepth 100000
set_option maxHeartbeats 4000000

theorem strCells_lib (s : ByteArray) : Lib.strCells s = Lib.byteCells s.data.toList := by
  simp [Lib.strCells, Lib.byteCells]
theorem join_two (a b : ByteArray) (g : Nat) (w : World) (ca : w.cell? ⟨g, 0, none⟩ = some (.string a)) (cb : w.cell? ⟨g, 1, none⟩ = some (.string b)) (ha : a.size ≤ 1000000000) (hb : b.size ≤ 1000000000) :
    Calls Tryz.prog 111 #[.slice (some ⟨g, 0, none⟩) 2 2, .string ⟨#[]⟩] w fun e w' => e = .returned (.string ⟨(a.data.toList ++ b.data.toList).toArray⟩) ∧ Upd [] w w' := by
  have hg := World.block_lt_of_cell? _ _ ca
  have HA := hide ha
  have HB := hide hb
  obtain ⟨na, hna⟩ : ∃ x, a.size = x := ⟨_, rfl⟩
  obtain ⟨nb, hnb⟩ : ∃ x, b.size = x := ⟨_, rfl⟩
  have h1 : na ≤ 1000000000 := by omega
  have h2 : nb ≤ 1000000000 := by omega
  clear ha hb
  go_enter Tryz.func111, Tryz.ntmps111
  go_wp2_with fail
  refine wp_loop_rounds 3 ?_
  rw [rounds_succ]
  go_wp2_with fail
  rw [rounds_succ]
  go_wp2_with fail
  rw [rounds_succ]
  go_wp2_with fail
  obtain ⟨w1, hw1⟩ : ∃ x, w.alloc (.cells #[.pointer none, .slice none 0 0] 78) = x := ⟨_, rfl⟩
  obtain ⟨q, hq⟩ : ∃ x, w.heap.size = x := ⟨_, rfl⟩
  have hbk : w1.heap[q]? = some (.cells #[.pointer none, .slice none 0 0] 78 (0, 0)) := by rw [← hw1, ← hq]; exact heap_alloc_new w _
  have hs1 : w1.heap.size = q + 1 := by rw [← hw1, ← hq]; simp
  have hb1 : Below q w w1 := by rw [← hw1]; exact (Below.refl _ _).alloc (by omega) _
  rw [hw1, hq, show ((na : Int) + (nb : Int)) = ((na + nb : Nat) : Int) by omega]
  rw [hq] at hg
  have HQ := hide hq
  have HNA := hide hna
  have HNB := hide hnb
  refine (Tryz.Builder_Grow_fresh q q (na + nb) w1 (Nat.le_refl _) hbk (by omega) (by omega)).mono ?_
  rintro e w2 ⟨rfl, k2, b2⟩
  have ca2 := (b2.cell (p := ⟨g, 0, none⟩) hg).trans ((hb1.cell (p := ⟨g, 0, none⟩) hg).trans ca)
  have B2 := hide (hb1.trans b2)
  have S2 := hide (show q ≤ w2.heap.size by have := b2.size; omega)
  have K2 := hide k2
  have CA := hide ca
  have CB := hide cb
  clear ca cb hbk hs1 hb1 b2 k2 hw1 hna hnb hq
  go_wp2_with fail
  refine (writeString_any q q [] a w2 (.inr K2.out) (by simp; have := HA.out; omega) S2.out).mono ?_
  rintro e w3 ⟨rfl, k3, b3⟩
  have B3 := hide (B2.out.trans b3)
  have S3 := hide (show q ≤ w3.heap.size by have := b3.size; have := S2.out; omega)
  have K3 := hide k3
  have cb3 := (B3.out.cell (p := ⟨g, 1, none⟩) hg).trans CB.out
  clear b3 k3 ca2
  go_wp2_with fail
  refine wp_loop_rounds 2 ?_
  rw [rounds_succ]
  go_wp2_with fail
  refine (writeString_any q q _ ⟨#[]⟩ w3 K3.out (by simp [Lib.strCells_length]; show a.size + 0 ≤ _; have := HA.out; omega) S3.out).mono ?_
  rintro e w4 ⟨rfl, k4, b4⟩
  have B4 := hide (B3.out.trans b4)
  have S4 := hide (show q ≤ w4.heap.size by have := b4.size; have := S3.out; omega)
  have K4 := hide k4
  clear b4 k4
  go_wp2_with fail
  refine (writeString_any q q _ b w4 K4.out (by simp [Lib.strCells_length]; show a.size + 0 + b.size ≤ _; have := HA.out; have := HB.out; omega) S4.out).mono ?_
  rintro e w5 ⟨rfl, k5, b5⟩
  have B5 := hide (B4.out.trans b5)
  have S5 := hide (show q ≤ w5.heap.size by have := b5.size; have := S4.out; omega)
  have K5 := hide (show IsBld q q (Lib.byteCells (a.data.toList ++ b.data.toList)) w5 by
    have e : [] ++ Lib.strCells a ++ Lib.strCells ⟨#[]⟩ ++ Lib.strCells b = Lib.byteCells (a.data.toList ++ b.data.toList) := by
      rw [strCells_lib, strCells_lib, strCells_lib]
      simp [Lib.byteCells]
    rwa [e] at k5)
  clear b5 k5
  go_wp2_with fail
  rw [rounds_succ]
  go_wp2_with fail
  refine (Tryz.Builder_String_any q q _ w5 K5.out S5.out).mono ?_
  rintro e w6 ⟨rfl, b6⟩
  have B6 := hide (B5.out.trans b6)
  clear b6
  go_wp2_with fail
  go_ret
  exact ⟨rfl, (Upd.refl [] w).below (by rw [HQ.out]; exact B6.out)⟩
/-- marked -/
theorem marked_any (mk : ByteArray) (w : World) :
    Calls Tryz.prog 95 #[.string mk] w fun e w' => e = .returned (.func (.func 109) #[] #[.pointer (some ⟨w.heap.size, 0, none⟩)]) ∧ w.alloc (.cells #[.string mk] 9) = w' := by
  have hmf : ∀ (fn : Fn) (first cap : Array Value) (w : World), (Instr.makeFunc fn first cap).run Tryz.prog w = .ok (.func fn first cap) w := fun _ _ _ _ => rfl
  go_enter Tryz.func95, Tryz.ntmps95
  go_wp2
  go_ret
  exact ⟨rfl, rfl⟩
theorem marked_two (mk a b : ByteArray) (g pb : Nat) (ks : List Int) (w : World) (cm : w.cell? ⟨pb, 0, none⟩ = some (.string mk)) (ca : w.cell? ⟨g, 0, none⟩ = some (.string a)) (cb : w.cell? ⟨g, 1, none⟩ = some (.string b))
    (hk : RoundAt w ks) (hkl : ks.length = 64) (hm : mk.size ≤ 100) (ha : a.size ≤ 100000000) (hb : b.size ≤ 100000000) :
    Calls Tryz.prog 109 #[.slice (some ⟨g, 0, none⟩) 2 2, .pointer (some ⟨pb, 0, none⟩)] w fun e w' => e = .returned (.string ⟨(sumS ks (mk.data.toList ++ (a.data.toList ++ b.data.toList))).toArray⟩) ∧ Upd [] w w' := by
  have CM := hide cm
  have CA := hide ca
  have CB := hide cb
  have HK := hide hk
  have HKL := hide hkl
  have HA := hide ha
  have HB := hide hb
  have HM := hide hm
  clear cm ca cb hk hkl ha hb hm
  have hsz : ¬ 9223372036854775807 < mk.size + (a.size + b.size) := by have := HA.out; have := HB.out; have := HM.out; omega
  go_enter Tryz.func109, Tryz.ntmps109
  go_upto_region 1 with fail
  refine wp_region_held_drew (S := (fun w' => w'.cell? ⟨pb, 0, none⟩ = some (.string mk))) (by kernel_rfl) (by exact CM.out) (fun hHeld => ?_)
  obtain ⟨wd, hwD⟩ : ∃ x, w.drew = x := ⟨_, rfl⟩
  have u : Upd [] w wd := by rw [← hwD]; exact (Upd.refl [] _).drew
  rw [hwD] at hHeld ⊢
  clear hwD
  have U := hide u
  replace CM := hide (keepc _ _ _ _ u CM.out)
  replace CA := hide (keepc _ _ _ _ u CA.out)
  replace CB := hide (keepc _ _ _ _ u CB.out)
  replace HK := hide (HK.out.upd u (by simp))
  clear u
  refine wpAnyH_take (i := 0) (oi := ?oi0M2) (v := ?v0M2) ?oi0_0M2 (by kernel_rfl) ?ff0M2 ?rr0M2 ?hq0M2 (Or.inl ⟨?hw0M2, ?hy0M2⟩) (by assumption) ?rest0M2
  case oi0_0M2 =>
    conv =>
      lhs
      whnf
      arg 1
      whnf
  case hq0M2 => exact fun _ _ _ h => h
  case ff0M2 => kernel_rfl
  case rr0M2 => kernel_rfl
  case hw0M2 => rfl
  case hy0M2 =>
    intro w hSw
    (try dsimp only at hSw)
    first
    | (go_simp; done)
    | (go_simp; with_reducible rfl)
  try simp only [Act.put, List.setIfInBounds_toArray, List.set_cons_zero, List.set_cons_succ]
  refine wpAnyH_take (i := 1) (oi := ?oi1M2) (v := ?v1M2) ?oi0_1M2 (by kernel_rfl) ?ff1M2 ?rr1M2 ?hq1M2 (Or.inl ⟨?hw1M2, ?hy1M2⟩) (by assumption) ?rest1M2
  case oi0_1M2 =>
    conv =>
      lhs
      whnf
      arg 1
      whnf
  case hq1M2 => exact fun _ _ _ h => h
  case ff1M2 => kernel_rfl
  case rr1M2 => kernel_rfl
  case hw1M2 => rfl
  case hy1M2 =>
    intro w hSw
    (try dsimp only at hSw)
    first
    | (go_simp; done)
    | (go_simp; with_reducible rfl)
  try simp only [Act.put, List.setIfInBounds_toArray, List.set_cons_zero, List.set_cons_succ]
  refine wpAnyH_ready (rs := [2]) (by kernel_rfl) (by simp) (AllReadyH.cons (o := ?oiM3) ?oi0_M3 (fun K hK => ?_) AllReadyH.nil)
  case oi0_M3 =>
    conv =>
      lhs
      whnf
      arg 1
      whnf
  go_simp
  go_at_call 111
  with_reducible (refine (join_two a b g wd CA.out CB.out (by have := HA.out; omega) (by have := HB.out; omega)).mono ?_)
  rintro e w1 ⟨rfl, u⟩
  replace U := hide (U.out.trans u (by simp))
  replace CM := hide (keepc _ _ _ _ u CM.out)
  replace CA := hide (keepc _ _ _ _ u CA.out)
  replace CB := hide (keepc _ _ _ _ u CB.out)
  replace HK := hide (HK.out.upd u (by simp))
  clear u
  (try dsimp only)
  refine hK.out _ _ (by exact CM.out) (fun hHeld => ?_)
  clear hK K
  try simp only [Act.put, List.setIfInBounds_toArray, List.set_cons_zero, List.set_cons_succ]
  refine wpAnyH_take (i := 3) (oi := ?oi3M4) (v := ?v3M4) ?oi0_3M4 (by kernel_rfl) ?ff3M4 ?rr3M4 ?hq3M4 (Or.inl ⟨?hw3M4, ?hy3M4⟩) (by assumption) ?rest3M4
  case oi0_3M4 =>
    conv =>
      lhs
      whnf
      arg 1
      whnf
  case hq3M4 => exact fun _ _ _ h => h
  case ff3M4 => kernel_rfl
  case rr3M4 => kernel_rfl
  case hw3M4 => rfl
  case hy3M4 =>
    intro w hSw
    (try dsimp only at hSw)
    first
    | (go_simp; done)
    | (go_simp; with_reducible rfl)
  try simp only [Act.put, List.setIfInBounds_toArray, List.set_cons_zero, List.set_cons_succ]
  refine wpAnyH_ready (rs := [4]) (by kernel_rfl) (by simp) (AllReadyH.cons (o := ?oiM5) ?oi0_M5 (fun K hK => ?_) AllReadyH.nil)
  case oi0_M5 =>
    conv =>
      lhs
      whnf
      arg 1
      whnf
  go_simp
  go_at_call 110
  obtain ⟨bs, hbs⟩ : ∃ x : ByteArray, mk ++ ⟨(a.data.toList ++ b.data.toList).toArray⟩ = x := ⟨_, rfl⟩
  (try rw [hbs])
  have hbl : bs.data.toList = mk.data.toList ++ (a.data.toList ++ b.data.toList) := by rw [← hbs]; simp
  have hbz : bs.size ≤ 1000000000 := by
    have h1 : bs.size = bs.data.toList.length := (Lib.size_eq bs).symm ▸ rfl
    have h2 : mk.data.toList.length = mk.size := Lib.size_eq mk ▸ rfl
    have h3 : a.data.toList.length = a.size := Lib.size_eq a ▸ rfl
    have h4 : b.data.toList.length = b.size := Lib.size_eq b ▸ rfl
    rw [h1, hbl, List.length_append, List.length_append]
    have := HA.out; have := HB.out; have := HM.out; omega
  with_reducible (refine (sum_any bs ks w1 hbz HK.out HKL.out).mono ?_)
  rintro e w2 ⟨rfl, u⟩
  rw [hbl]
  replace U := hide (U.out.trans u (by simp))
  replace CM := hide (keepc _ _ _ _ u CM.out)
  replace CA := hide (keepc _ _ _ _ u CA.out)
  replace CB := hide (keepc _ _ _ _ u CB.out)
  replace HK := hide (HK.out.upd u (by simp))
  clear u hbs hbl hbz
  (try dsimp only)
  refine hK.out _ _ (by exact CM.out) (fun hHeld => ?_)
  clear hK K
  try simp only [Act.put, List.setIfInBounds_toArray, List.set_cons_zero, List.set_cons_succ]
  refine wpAnyH_take (i := 5) (oi := ?oi5M6) (v := ?v5M6) ?oi0_5M6 (by kernel_rfl) ?ff5M6 ?rr5M6 ?hq5M6 (Or.inl ⟨?hw5M6, ?hy5M6⟩) (by assumption) ?rest5M6
  case oi0_5M6 =>
    conv =>
      lhs
      whnf
      arg 1
      whnf
  case hq5M6 => exact fun _ _ _ h => h
  case ff5M6 => kernel_rfl
  case rr5M6 => kernel_rfl
  case hw5M6 => rfl
  case hy5M6 =>
    intro w hSw
    (try dsimp only at hSw)
    first
    | (go_simp; done)
    | (go_simp; with_reducible rfl)
  try simp only [Act.put, List.setIfInBounds_toArray, List.set_cons_zero, List.set_cons_succ]
  refine wpAnyH_done (by kernel_rfl) ?_ _
  go_wp2_with fail
  go_ret
  exact ⟨rfl, U.out⟩
/-- The head of a chain with a further record. -/
def chainS (ks : List Int) (a b : List UInt8) : List UInt8 := sumS ks (2 :: (a ++ b))
theorem chain_any (a b : ByteArray) (ks : List Int) (w : World) (hk : RoundAt w ks) (hkl : ks.length = 64) (ha : a.size ≤ 100000000) (hb : b.size ≤ 100000000) :
    Calls Tryz.prog 70 #[.string a, .string b] w fun e w' => e = .returned (.string ⟨(chainS ks a.data.toList b.data.toList).toArray⟩) ∧ Upd [] w w' := by
  have HK := hide hk
  have HKL := hide hkl
  have HA := hide ha
  have HB := hide hb
  clear hk hkl ha hb
  go_enter Tryz.func70, Tryz.ntmps70
  go_wp2_with fail
  refine (marked_any ⟨#[2]⟩ w).mono ?_
  rintro e w1 ⟨rfl, hw1⟩
  obtain ⟨q, hq⟩ : ∃ x, w.heap.size = x := ⟨_, rfl⟩
  have U1 := hide (show Upd [] w w1 by rw [← hw1]; exact (Upd.refl [] _).alloc _)
  have B1 := hide (show Blk w1 q 9 [.string ⟨#[2]⟩] by rw [← hw1, ← hq]; exact Blk.new w _ _)
  rw [hq]
  clear hw1 hq
  go_wp2_with fail
  obtain ⟨w2, hw2⟩ : ∃ x, w1.alloc (.cells #[.string a, .string b] 9) = x := ⟨_, rfl⟩
  have u2 : Upd [] w1 w2 := by rw [← hw2]; exact (Upd.refl [] _).alloc _
  have B2 := hide (show Blk w2 w1.heap.size 9 [.string a, .string b] by rw [← hw2]; exact Blk.new w1 _ _)
  have C2 := hide ((keepB B1.out u2).cell 0)
  have U2 := hide (U1.out.trans u2 (by simp))
  have K2 := hide (HK.out.upd U2.out (by simp))
  rw [hw2]
  clear hw2 u2 B1 U1
  refine (marked_two ⟨#[2]⟩ a b w1.heap.size q ks w2 (C2.out.trans rfl) ((B2.out.cell 0).trans rfl) ((B2.out.cell 1).trans rfl) K2.out HKL.out (by decide) HA.out HB.out).mono ?_
  rintro e w3 ⟨rfl, u3⟩
  have U3 := hide (U2.out.trans u3 (by simp))
  clear u3
  go_wp2_with fail
  go_ret
  exact ⟨rfl, U3.out⟩
theorem chainS_length (ks : List Int) (a b : List UInt8) : (chainS ks a b).length = 32 := sumS_length _ _
end Go.Proofs.YtafjolibfbccbaaGreatDoor
