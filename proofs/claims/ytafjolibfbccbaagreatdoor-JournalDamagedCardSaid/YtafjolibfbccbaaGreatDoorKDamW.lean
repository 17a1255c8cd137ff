/-
  aircheckref02.Head of nothing; airchecklaw34.sized, heads.
-/
import Derived.Test.YtafjolibfbccbaaGreatDoorRSum
import Derived.Test.YtafjolibfbccbaaGreatDoorKDamP
import Derived.Test.YtafjolibfbccbaaGreatDoorKRPut
import Derived.Test.YtafjolibfbccbaaGreatDoorKStrs
namespace Go.Proofs.YtafjolibfbccbaaGreatDoor
open Go.RowKit
set_option maxRecDepth 100000
set_option maxHeartbeats 8000000

theorem headTo_length (ks : List Int) : ∀ (l : List (List UInt8)) (h : List UInt8), h.length = 32 → (headTo ks h l).length = 32
  | [], _, e => e
  | r :: l, h, _ => headTo_length ks l (chainS ks h r) (chainS_length ks h r)
theorem refHead (w : World) :
    Calls Tryz.prog 43 #[.slice none 0 0] w fun e w' => e = .returned (.string (zs 32)) ∧ Upd [] w w' := by
  have hm := make_bytes 32 (by decide) w
  rw [show ((32 : Nat) : Int) = 32 from rfl] at hm
  have hcv := conv_zeros (w.alloc (.cells (bCells (List.replicate 32 0)).toArray 5)) 32 w.heap.size (Blk.new w _ _)
  obtain ⟨wz, hwz⟩ : ∃ x, w.alloc (.cells (bCells (List.replicate 32 0)).toArray 5) = x := ⟨_, rfl⟩
  have HU := hide (show Upd [] w wz by rw [← hwz]; exact (Upd.refl [] _).alloc _)
  rw [hwz] at hm hcv
  clear hwz
  go_enter Tryz.func43, Tryz.ntmps43
  go_wp2_with fail
  go_loopw [3, 4] (fun s3 s4 wr => s3 = .string (zs 32) ∧ s4 = .int .i64 0 ∧ Hid (Upd [] w wr)) (fun _ _ _ => 0)
  case atStart => exact ⟨rfl, rfl, HU⟩
  case round =>
    obtain ⟨rfl, rfl, hU⟩ := hrel
    go_wp2_with fail
    go_ret
    exact ⟨rfl, hU.out⟩
theorem sized_any (A : Option Addr) (n c : Nat) (l : List (List UInt8)) (a : Int) (w : World) (hl : l.length = n) (hS : StrsAt w A (l.map fun r => ⟨r.toArray⟩)) (hb : ∀ r ∈ l, r.length ≤ 100) (hn : n ≤ 1000) (h0 : 0 ≤ a) (h1 : a ≤ 100000) :
    Calls Tryz.prog 26 #[.slice A n c, .int .i64 a] w fun e w' => e = .returned (.bool (sizedS l a)) ∧ Upd [] w w' := by
  have HL := hide hl
  have HS := hide hS
  have HB := hide hb
  have HP := hide (fun (r : List UInt8) (W : World) (h : r.length ≤ 100) => refPutInt r.length W (by omega))
  clear hl hS hb
  go_enter Tryz.func26, Tryz.ntmps26
  go_wp2_with fail
  go_loopw [1, 5] (fun s1 s5 wr => ∃ (k : Nat) (z : Int), k ≤ n ∧ s5 = .int .i64 k ∧ s1 = .int .i64 z ∧ -1000 * (k : Int) ≤ z ∧ z ≤ 100000 ∧ Hid (sizedS l a = sizedS (l.drop k) z) ∧ Hid (Upd [] w wr)) (fun _ s _ => n - (intOf s).toNat)
  case atStart => exact ⟨0, a, Nat.zero_le _, rfl, rfl, by omega, h1, hide (by rw [List.drop_zero]), hide (Upd.refl _ _)⟩
  case round =>
    obtain ⟨k, z, hk, rfl, rfl, hz0, hz1, hE, hU⟩ := hrel
    obtain ⟨wo, rfl⟩ : ∃ x : World, x = wr := ⟨_, rfl⟩
    by_cases hkn : k < n
    case neg =>
      obtain rfl : k = n := by omega
      have hki : ¬ (k : Int) < k := by omega
      go_wp2_with fail
      go_ret
      rw [hE.out, List.drop_eq_nil_of_le (by rw [HL.out]; exact Nat.le_refl _)]
      exact ⟨rfl, hU.out⟩
    have hki : (k : Int) < n := by omega
    have hkw : IntKind.i64.wrap ((k : Int) + 1) = (k : Int) + 1 := Go.IntWalk.i64_in _ (by omega)
    obtain ⟨r, hr⟩ : ∃ r, l[k]? = some r := ⟨_, List.getElem?_eq_getElem (by have := HL.out; omega)⟩
    have hrb := HB.out r (List.mem_of_getElem? hr)
    obtain ⟨lb, lo, rfl, hc⟩ := HS.out k ⟨r.toArray⟩ (by rw [List.getElem?_map, hr]; rfl)
    have hrc := keepc _ _ _ _ hU.out hc
    have hpl := putS_len (r.length : Int) (by omega) (by omega)
    obtain ⟨rn, hrn⟩ : ∃ x, r.length = x := ⟨_, rfl⟩
    obtain ⟨pn, hpn⟩ : ∃ x, (putS (r.length : Int)).length = x := ⟨_, rfl⟩
    have hd : l.drop k = r :: l.drop (k + 1) := by rw [List.drop_eq_getElem_cons (by have := HL.out; omega)]; congr 1; exact (List.getElem?_eq_some_iff.1 hr).2
    have hE2 := hE.out
    rw [hd, sizedS_cons, hpn, hrn] at hE2
    have HPR := hide (HP.out r wo hrb)
    obtain ⟨ps, hps⟩ : ∃ x : ByteArray, ⟨(putS (r.length : Int)).toArray⟩ = x := ⟨_, rfl⟩
    rw [hps, hrn] at HPR
    have hsz : ps.size = pn := by rw [← hps, ← hpn]; simp [ByteArray.size]
    obtain ⟨rs, hrs⟩ : ∃ x : ByteArray, ⟨r.toArray⟩ = x := ⟨_, rfl⟩
    rw [hrs] at hrc
    have hrsz : rs.size = rn := by rw [← hrs, ← hrn]; simp [ByteArray.size]
    rw [hrn] at hrb
    rw [hpn] at hpl
    clear hr hc hps hpn hrn hd hrs hE
    go_wp2_with fail
    refine HPR.out.mono ?_
    rintro e w5 ⟨rfl, u⟩
    have HU5 := hide (hU.out.trans u (by simp))
    have hrc5 := keepc _ _ _ _ u hrc
    clear u HPR hrc hU
    by_cases h1z : 1 ≤ z ∧ z ≤ pn
    case pos =>
      rw [if_pos h1z] at hE2
      have HE := hide hE2
      have g1 : (1 : Int) ≤ z := h1z.1
      have g2 : z ≤ (pn : Int) := h1z.2
      clear h1z hE2
      go_wp2_with fail
      go_ret
      exact ⟨by rw [HE.out]; rfl, HU5.out⟩
    rw [if_neg h1z] at hE2
    have HE := hide hE2
    have w1 : IntKind.i64.wrap (1 + (pn : Int)) = 1 + (pn : Int) := Go.IntWalk.i64_in _ (by omega)
    have w2 : IntKind.i64.wrap (1 + (pn : Int) + (rn : Int)) = 1 + (pn : Int) + (rn : Int) := Go.IntWalk.i64_in _ (by omega)
    have w3 : IntKind.i64.wrap (1 + (pn : Int) + (rn : Int) + 32) = 1 + (pn : Int) + (rn : Int) + 32 := Go.IntWalk.i64_in _ (by omega)
    have w4 : IntKind.i64.wrap (z - (1 + (pn : Int) + (rn : Int) + 32)) = z - (1 + (pn : Int) + (rn : Int) + 32) := Go.IntWalk.i64_in _ (by omega)
    clear hE2
    by_cases g1 : 1 ≤ z
    case pos =>
      have g2 : ¬ z ≤ (pn : Int) := fun h => h1z ⟨g1, h⟩
      clear h1z
      go_wp2_with fail
      go_roundw
      case rel => exact ⟨k + 1, _, by omega, by go_num, rfl, by omega, by omega, HE, HU5⟩
      case measure => simp [intOf] <;> omega
    clear h1z
    go_wp2_with fail
    go_roundw
    case rel => exact ⟨k + 1, _, by omega, by go_num, rfl, by omega, by omega, HE, HU5⟩
    case measure => simp [intOf] <;> omega
theorem heads_any (A : Option Addr) (n c : Nat) (l : List (List UInt8)) (w : World) (hl : l.length = n) (hS : StrsAt w A (l.map fun r => ⟨r.toArray⟩)) (hb : ∀ r ∈ l, r.length ≤ 100) (hn : n ≤ 1000) :
    Calls Tryz.prog 27 #[.slice A n c] w fun e w' => ∃ A' c', e = .returned (.slice A' n c') ∧ w'.ownsRow w.heap.size 9 1 (.slice A' n c') n ((headsS refK l (List.replicate 32 0)).map strV) ∧ Upd [] w w' := by
  have HL := hide hl
  have HS := hide hS
  have HB := hide hb
  clear hl hS hb
  obtain ⟨H0, hH0⟩ : ∃ x : List UInt8, List.replicate 32 0 = x := ⟨_, rfl⟩
  have hz0 : (⟨H0.toArray⟩ : ByteArray) = zs 32 := by rw [← hH0]; rfl
  have HH0 := hide (show H0.length = 32 by rw [← hH0]; rfl)
  rw [hH0]
  have HHD := hide (fun W => refHead W)
  rw [← hz0] at HHD
  clear hz0 hH0
  go_enter Tryz.func27, Tryz.ntmps27
  go_wp2_with fail
  refine (HHD.out w).mono ?_
  rintro e w1 ⟨rfl, u⟩
  have HU1 := hide u
  clear u HHD
  go_wp2_with fail
  go_loopw [3, 4, 5] (fun s3 s4 s5 wr => ∃ (k : Nat) (A : Option Addr) (c : Nat), k ≤ n ∧ s3 = .slice A k c ∧ s4 = .string ⟨(headTo refK H0 (l.take k)).toArray⟩ ∧ s5 = .int .i64 k ∧ Hid (wr.ownsRow w.heap.size 9 1 (.slice A k c) k (((headsS refK l H0).take k).map strV)) ∧ Hid (Upd [] w wr)) (fun _ _ s _ => n - (intOf s).toNat)
  case atStart => exact ⟨0, none, 0, Nat.zero_le _, rfl, rfl, rfl, hide (World.ownsRow_nil _ _ _ _), HU1⟩
  case round =>
    clear HU1
    obtain ⟨k, A, c, hk, rfl, rfl, rfl, hO, hU⟩ := hrel
    obtain ⟨wo, rfl⟩ : ∃ x : World, x = wr := ⟨_, rfl⟩
    by_cases hkn : k < n
    case neg =>
      obtain rfl : k = n := by omega
      have hki : ¬ (k : Int) < k := by omega
      have HO := hide hO.out
      rw [List.take_of_length_le (by rw [headsS_length, HL.out]; exact Nat.le_refl _)] at HO
      go_wp2_with fail
      go_ret
      exact ⟨A, c, rfl, HO.out, hU.out⟩
    have hki : (k : Int) < n := by omega
    have hkw : IntKind.i64.wrap ((k : Int) + 1) = (k : Int) + 1 := Go.IntWalk.i64_in _ (by omega)
    obtain ⟨r, hr⟩ : ∃ r, l[k]? = some r := ⟨_, List.getElem?_eq_getElem (by have := HL.out; omega)⟩
    have hrb := HB.out r (List.mem_of_getElem? hr)
    obtain ⟨lb, lo, rfl, hc⟩ := HS.out k ⟨r.toArray⟩ (by rw [List.getElem?_map, hr]; rfl)
    have hrc := keepc _ _ _ _ hU.out hc
    obtain ⟨hd, hhd⟩ : ∃ x, headTo refK H0 (l.take k) = x := ⟨_, rfl⟩
    have hhl : hd.length = 32 := by rw [← hhd]; exact headTo_length refK _ _ HH0.out
    have hat := headsS_at refK l H0 k r hr
    have hnx : headTo refK H0 (l.take (k + 1)) = chainS refK hd r := by rw [List.take_add_one, hr, Option.toList_some]; unfold headTo; rw [List.foldl_append]; unfold headTo at hhd; rw [hhd]; rfl
    rw [hhd] at hat ⊢
    obtain ⟨hs, hhs⟩ : ∃ x : ByteArray, ⟨hd.toArray⟩ = x := ⟨_, rfl⟩
    obtain ⟨rs, hrs⟩ : ∃ x : ByteArray, ⟨r.toArray⟩ = x := ⟨_, rfl⟩
    rw [hrs] at hrc hc
    rw [hhs]
    have hsz : hs.size = 32 := by rw [← hhs]; simp [ByteArray.size]; exact hhl
    obtain ⟨rn, hrn⟩ : ∃ x, r.length = x := ⟨_, rfl⟩
    have hrsz : rs.size = rn := by rw [← hrs, ← hrn]; simp [ByteArray.size]
    rw [hrn] at hrb
    have o1 : (⟨#[2]⟩ : ByteArray).size = 1 := rfl
    have o2 : (⟨#[2]⟩ ++ hs : ByteArray).size = 33 := by rw [ByteArray.size_append, hsz]; rfl
    have hs1 : ¬ (9223372036854775807 : Nat) < 1 + 32 := by omega
    have hs2 : ¬ 9223372036854775807 < 33 + rn := by omega
    have HCH := hide (fun W => refChain hs rs W (by omega) (by omega))
    have HCE := hide (show (⟨(chainS refK hs.data.toList rs.data.toList).toArray⟩ : ByteArray) = ⟨(headTo refK H0 (l.take (k + 1))).toArray⟩ by rw [hnx, ← hhs, ← hrs])
    rw [HCE.out] at HCH
    have HV := hide (show Value.string (⟨#[2]⟩ ++ hs ++ rs) = strV (2 :: (hd ++ r)) by unfold strV; congr 1; apply ByteArray.ext; apply Array.toList_inj.1; rw [← hhs, ← hrs]; simp [ByteArray.data_append])
    have HAT := hide hat
    have HC0 := hide hc
    clear hr hc hhd hhl hat hnx hhs hrs hrn
    have O1 := hide (show ∀ u ∈ [Value.string (⟨#[2]⟩ ++ hs ++ rs)], u.oneCell' = true by simp [Value.oneCell'])
    have O3 := hide (show k + 1 ≤ maxLen by unfold maxLen; omega)
    have O4 := hide (show (k + 1) * 16 ≤ 140737488355328 by omega)
    have OB := hide (hO.out.alloc (.cells #[.string (⟨#[2]⟩ ++ hs ++ rs)] 9))
    have OS := hide (show w.heap.size ≤ (wo.alloc (.cells #[.string (⟨#[2]⟩ ++ hs ++ rs)] 9)).heap.size by have := hU.out.size; rw [World.size_alloc]; omega)
    go_wp2_with (at_builtin; refine wpList_append_base rfl (.tmp 13) (.tmp 21) _ rfl w.heap.size 9 (.string ⟨#[]⟩) 1 16 Tryz.underlying22 info_str rfl (by decide) A k c _ rfl OB.out ⟨wo.heap.size, 0, none⟩ 1 1 [.string (⟨#[2]⟩ ++ hs ++ rs)] rfl rfl (cell_one_new _ _ _) O1.out O3.out O4.out OS.out ?_; intro A5 c5 w5 h5 u5 _; have H5 := hide h5; have V5 := hide ((hU.out.alloc _).trans u5 (fun z hz => .inr (it_own_block hO.out z (by rw [ownBlock_slice]; simpa using hz)))); have hrc5 := keepc _ _ _ _ V5.out HC0.out; clear h5 u5)
    refine (HCH.out w5).mono ?_
    rintro e w6 ⟨rfl, u⟩
    have H6 := hide (own_kept H5.out u (by simp))
    have V6 := hide (V5.out.trans u (by simp))
    clear u HCH H5 V5
    go_wp2_with fail
    go_roundw
    case rel => exact ⟨k + 1, A5, c5, by omega, rfl, rfl, by go_num, hide (by
      rw [List.take_add_one, HAT.out, Option.toList_some, List.map_append, List.map_singleton, ← HV.out]
      exact H6.out), V6⟩
    case measure => simp [intOf] <;> omega
end Go.Proofs.YtafjolibfbccbaaGreatDoor
